import Derived.Test.YtllkbjcemecmjaaGreatJB7
import Derived.WalkKit
import Derived.Test.YtllkbjcemecmjaaGreatJB5
import Derived.Test.YtllkbjcemecmjaaGreatJB4
set_option linter.unusedSimpArgs false
set_option linter.unusedVariables false
set_option linter.unusedSectionVars false
section
namespace Go.Proofs.YtllkbjcemecmjaaGreat.Aw
open Go.RowKit Go.Proofs
variable {P : Program} [IsP P]
noncomputable def decP (p : Prop) : Bool := @decide p (Classical.propDecidable p)
theorem decP_t {p : Prop} (h : p) : true = decP p := by unfold decP; exact (@decide_eq_true _ (Classical.propDecidable p) h).symm
theorem decP_f {p : Prop} (h : ¬ p) : false = decP p := by unfold decP; exact (@decide_eq_false _ (Classical.propDecidable p) h).symm
structure Sol where
 kind : Int
 x : List Fr
 y : List Fr
 ray : List Fr
 v : Fr
def eSol (s : Sol) : AV := .agg [eI s.kind, eL eF s.x, eL eF s.y, eL eF s.ray, eI s.v.n, eI s.v.d]
theorem fr_eq {a b c d : Int} (h : [Value.int .i64 a, Value.int .i64 b] = [Value.int .i64 c, Value.int .i64 d]) : a = c ∧ b = d := by cases h; exact ⟨rfl, rfl⟩
theorem fr_mk {a b c d : Int} (h : a = c ∧ b = d) : [Value.int .i64 a, Value.int .i64 b] = [Value.int .i64 c, Value.int .i64 d] := by rw [h.1, h.2]
theorem cl_t {p : Prop} (h : @decide p (Classical.propDecidable p) = true) : p := @of_decide_eq_true p (Classical.propDecidable p) h
theorem cl_f {p : Prop} (h : @decide p (Classical.propDecidable p) = false) : ¬ p := @of_decide_eq_false p (Classical.propDecidable p) h
theorem fr_eqT {a b c d : Int} (h : @decide ([Value.int .i64 a, Value.int .i64 b] = [Value.int .i64 c, Value.int .i64 d]) (Classical.propDecidable _) = true) : a = c ∧ b = d := fr_eq (cl_t h)
theorem fr_eqF {a b c d : Int} (h : @decide ([Value.int .i64 a, Value.int .i64 b] = [Value.int .i64 c, Value.int .i64 d]) (Classical.propDecidable _) = false) : ¬ (a = c ∧ b = d) := fun g => cl_f h (fr_mk g)
theorem fr_neT {a b c d : Int} (h : @decide ([Value.int .i64 a, Value.int .i64 b] ≠ [Value.int .i64 c, Value.int .i64 d]) (Classical.propDecidable _) = true) : ¬ (a = c ∧ b = d) := fun g => cl_t h (fr_mk g)
theorem fr_neF {a b c d : Int} (h : @decide ([Value.int .i64 a, Value.int .i64 b] ≠ [Value.int .i64 c, Value.int .i64 d]) (Classical.propDecidable _) = false) : a = c ∧ b = d := fr_eq (Classical.not_not.1 (cl_f h))
def Opt (b1 b2 b3 u : Bool) (l : Nat) (dx dy : FE) (v : Fr) : Prop := b1 = true ∧ b2 = true ∧ b3 = true ∧ l = 0 ∧ u = true ∧ dx.e = 0 ∧ dy.e = 0 ∧ (dx.n = dy.n ∧ dx.d = dy.d) ∧ (v.n = dx.n ∧ v.d = dx.d)
def Inf (l l2 : Nat) (v : Fr) (b2 b3 u : Bool) (dy : FE) : Prop := l = 0 ∧ l2 = 0 ∧ (v.n = 0 ∧ v.d = 0) ∧ b2 = true ∧ b3 = true ∧ u = true ∧ dy.e = 0 ∧ dy.n > 0
def Unb (l : Nat) (v : Fr) (b1 b2 : Bool) (r : Bool × Int) (dr : FE) : Prop := l = 0 ∧ (v.n = 0 ∧ v.d = 0) ∧ b1 = true ∧ b2 = true ∧ r.1 = true ∧ r.2 = 0 ∧ dr.e = 0 ∧ dr.n < 0
noncomputable def checkB (p : LP) (s : Sol) : Bool :=
 if validP p = true then
  if s.kind = 1 then decP (Opt (solB p s.x) (fineB s.y p.a.length) (signsB p s.y) (undR p s.y p.c).1 s.ray.length (dotE p.c s.x) (dotE p.b s.y) s.v)
  else if s.kind = 2 then decP (Inf s.x.length s.ray.length s.v (fineB s.y p.a.length) (signsB p s.y) (undR p s.y (zbf p.c.length)).1 (dotE p.b s.y))
  else if s.kind = 3 then decP (Unb s.y.length s.v (solB p s.x) (fineB s.ray p.c.length) (metE p s.ray (zbf p.a.length)) (dotE p.c s.ray))
  else false
 else false
theorem zerosL_len (n : Nat) : (zbf n).length = n := by simp [zbf]
set_option maxHeartbeats 4000000 in
theorem sCheck_pf (p : LP) (s : Sol) : Pure P 69 [eP p, eSol s] (eB (checkB p s)) := by
 have HI : checkB p s = checkB p s := rfl
 generalize hR : checkB p s = R at HI ⊢
 unfold checkB at hR
 clear HI
 refine zcl (by rw [IsP.eq (P := P)]; exact Tryz.func69) rfl rfl rfl rfl rfl xa (.s _) (by simp only [argF]; rfl) ?_
 refine zag (zab (zaf rfl rfl (zaa rfl) (zb3 rfl rfl rfl rfl) ?_))
 refine za6 (zbm (id := 0) rfl) (za6 (zcb (d := 2) rfl rfl rfl) ?_)
 refine zaf rfl rfl (zaa rfl) (zb3 rfl rfl rfl rfl) ?_
 refine za6 (zbm (id := 1) rfl) (za6 (zcb (d := 3) rfl rfl rfl) ?_)
 refine zac rfl (zad (zag (zag (zab (zcx ta88 ti88 rfl ?_)))))
 refine zcn rfl rfl (zaa rfl) (zam rfl rfl (sValid_pf _) (zae rfl zap)) (fun h22 => ?_) (fun h22 => ?_)
 all_goals refine zaf rfl rfl (zaa rfl) (zbj rfl rfl) (zad (zai ?_))
 all_goals (first | refine za5 rfl ?_ | refine zau rfl ?_)
 all_goals (repeat (first | refine zag ?_ | refine zar ?_))
 rotate_left 1
 ·
  refine zab (zac rfl (zad (zai ?_)))
  (refine za7 ?_; repeat (first | refine zbc ?_ | refine zbe ?_))
  exact zb6 (.inr rfl) rfl (congrArg eB (by rw [← hR, if_neg (by rw [h22]; simp)]))
 obtain ⟨q1, q2, q3, q4⟩ := validP_len h22
 rw [if_pos h22] at hR
 refine zb2 hmix ?_
 refine zbx xi ?_
 refine qx_f tf88_0 rfl (qx_l ta30 rfl (zby rfl rfl (zaa rfl) (zao rfl ts30 rfl) (qx_f tf88_1 rfl (qx_l ta86 rfl (zby rfl rfl (zaa rfl) (zao rfl ts86 rfl) (qx_s rfl (qx_s rfl ?_)))))))
 refine zdg ?_
 refine zag (zag (zab (zbz tf92_0 rfl (zbu ta3 rfl (zad (zai (zas (zag (zab ?_)))))))))
 refine za3 rfl rfl (zaa rfl) (zbn rfl rfl rfl) (fun h33 => ?_) (fun h33 => ?_)
 all_goals refine zac rfl (zad (zai ?_))
 all_goals (first | refine za5 rfl ?_ | refine zau rfl ?_)
 all_goals repeat refine zag ?_
 ·
  rw [if_pos h33] at hR
  have hs1 := solution_pf (P := P) p s.x h22
  have hu : Pure P 98 [eP p, eL eF s.y, eL eF p.c] (.tup [eB (undR p s.y p.c).1, eI (undR p s.y p.c).2]) := under_pf (P := P) p s.y p.c h22 rfl
  have ht := @undR_t p s.y p.c
  have hdx := fDot_pf (P := P) p.c s.x
  have hdy := fDot_pf (P := P) p.b s.y
  generalize (undR p s.y p.c).1 = b at hu ht hR
  generalize (undR p s.y p.c).2 = e at hu ht
  generalize dotE p.c s.x = dx at hdx hR
  generalize dotE p.b s.y = dy at hdy hR
  refine zab (zcx ta88 ti88 rfl (zbz tf92_1 rfl (zbu ta30 rfl ?_)))
  refine zcn rfl rfl (zaa rfl) (zam rfl rfl (hs1) (zae rfl (zae rfl zap))) (fun h37 => ?_) (fun h37 => ?_)
  all_goals refine zaf rfl rfl (zaa rfl) (zbj rfl rfl) (zac rfl ?_)
  all_goals (first | refine zbz tf92_2 rfl ?_ | refine za4 rfl ?_)
  all_goals (first | refine zbu ta30 rfl ?_ | refine za4 rfl ?_)
  all_goals (first | refine zac rfl ?_ | refine za4 rfl ?_)
  all_goals (first | refine zcn rfl rfl (zat rfl rfl rfl) (zam rfl rfl (fine_pf _ _) (zae rfl (zae rfl zap))) (fun h43 => ?_) (fun h43 => ?_) | refine za4 rfl ?_)
  all_goals (first | refine zaf rfl rfl (zat rfl rfl rfl) (zbj rfl rfl) ?_ | refine za4 rfl ?_)
  all_goals refine zac rfl (zac rfl ?_)
  all_goals (first | refine zcx ta88 ti88 rfl ?_ | refine za4 rfl ?_)
  all_goals (first | refine zbz tf92_2 rfl ?_ | refine za4 rfl ?_)
  all_goals (first | refine zbu ta30 rfl ?_ | refine za4 rfl ?_)
  all_goals (first | refine zcn rfl rfl (zat rfl rfl rfl) (zam rfl rfl ((signed_pf p s.y (by have := (fineB_iff.1 h43).1; omega))) (zae rfl (zae rfl zap))) (fun h50 => ?_) (fun h50 => ?_) | refine za4 rfl ?_)
  all_goals (first | refine zaf rfl rfl (zat rfl rfl rfl) (zbj rfl rfl) ?_ | refine za4 rfl ?_)
  all_goals refine zac rfl (zac rfl ?_)
  all_goals (first | refine zbz tf92_3 rfl ?_ | refine za4 rfl ?_)
  all_goals (first | refine zbu ta30 rfl ?_ | refine za4 rfl ?_)
  all_goals (first | refine zaf rfl rfl (zat rfl rfl rfl) (zao rfl ts30 rfl) ?_ | refine za4 rfl ?_)
  all_goals (first | refine za3 rfl rfl (zat rfl rfl rfl) (zb0 rfl rfl rfl) (fun h57 => ?_) (fun h57 => ?_) | refine za4 rfl ?_)
  all_goals refine zac rfl (zad (zai ?_))
  all_goals (first | refine za5 rfl ?_ | refine zau rfl ?_)
  all_goals (repeat (first | refine zag ?_ | refine zar ?_))
  all_goals first
   |
    refine zab (zac rfl (zad (zai ?_)))
    (refine za7 ?_; repeat (first | refine zbc ?_ | refine zbe ?_))
    exact zb6 (.inr rfl) rfl (congrArg eB (by
     rw [← hR]
     refine decP_f ?_
     rintro ⟨g1, g2, g3, g4, g5, g6, g7, g8, g9⟩
     first | omega | exact Bool.noConfusion (g1.symm.trans h37) | exact Bool.noConfusion (g2.symm.trans h43) | exact Bool.noConfusion (g3.symm.trans h50)))
   | skip
  refine zab (zcx ta88 ti88 rfl (zbz tf92_2 rfl (zbu ta30 rfl (zbz tf88_0 rfl (zbu ta30 rfl (zaf rfl rfl (zaa rfl) (zam rfl rfl (hu) (zae rfl (zae rfl (zae rfl zap)))) (zac rfl (zac rfl (zac rfl (zac rfl (zac rfl (zad (zag (zab (zbz tf88_0 rfl (zbu ta30 rfl (zbz tf92_1 rfl (zbu ta30 rfl (zaf rfl rfl (zaa rfl) (zam rfl rfl (hdx) (zae rfl (zae rfl zap))) (zac rfl (zac rfl (zac rfl (zaf rfl rfl (zaa rfl) (za1 rfl ti45 rfl rfl) (zba rfl (zaa rfl) (zaj rfl ti45 rfl rfl rfl rfl rfl rfl xf xf) ?_))))))))))))))))))))))))
  refine zac rfl (zad (zag (zab (zbz tf88_3 rfl (zbu ta30 rfl (zbz tf92_2 rfl (zbu ta30 rfl (zaf rfl rfl (zaa rfl) (zam rfl rfl (hdy) (zae rfl (zae rfl zap))) (zac rfl (zac rfl (zac rfl (zaf rfl rfl (zaa rfl) (za1 rfl ti45 rfl rfl) (zba rfl (zaa rfl) (zaj rfl ti45 rfl rfl rfl rfl rfl rfl xf xf) (zac rfl (zad (zag ?_))))))))))))))))
  cases b
  rotate_left 1
  ·
   have he := ht rfl
   subst he
   refine zab (zac rfl (zac rfl (zac rfl ?_)))
   refine za3 rfl rfl (zat rfl rfl rfl) (zbn rfl rfl rfl) (fun h87 => ?_) (fun h87 => ?_)
   all_goals refine zac rfl (zac rfl ?_)
   all_goals (first | refine zac rfl ?_ | refine za4 rfl ?_)
   all_goals (first | refine za3 rfl rfl (zat rfl rfl rfl) (zbn rfl rfl rfl) (fun h91 => ?_) (fun h91 => ?_) | refine za4 rfl ?_)
   all_goals refine zac rfl (zac rfl ?_)
   all_goals (first | refine zac rfl ?_ | refine za4 rfl ?_)
   all_goals (first | refine za3 rfl rfl (zat rfl rfl rfl) (zbn rfl rfl rfl) (fun h95 => ?_) (fun h95 => ?_) | refine za4 rfl ?_)
   all_goals refine zac rfl (zac rfl ?_)
   all_goals (first | refine zaf rfl rfl (zat rfl rfl rfl) (za8 rfl ta45 ti45 rfl rfl rfl rfl rfl) ?_ | refine za4 rfl ?_)
   all_goals (first | refine zaf rfl rfl (zat rfl rfl rfl) (za8 rfl ta45 ti45 rfl rfl rfl rfl rfl) ?_ | refine za4 rfl ?_)
   all_goals (first | refine zcn rfl rfl (zat rfl rfl rfl) (does_eqa rfl rfl rfl te45 rfl rfl rfl) (fun h100 => ?_) (fun h100 => ?_) | refine za4 rfl ?_)
   all_goals refine zac rfl (zac rfl ?_)
   all_goals (first | refine zbz tf92_4 rfl ?_ | refine za4 rfl ?_)
   all_goals (first | refine zcx ta45 ti45 rfl ?_ | refine za4 rfl ?_)
   all_goals (first | refine zaf rfl rfl (zat rfl rfl rfl) (za8 rfl ta45 ti45 rfl rfl rfl rfl rfl) ?_ | refine za4 rfl ?_)
   all_goals (first | refine zcn rfl rfl (zat rfl rfl rfl) (does_eqa rfl rfl rfl te45 rfl rfl rfl) (fun h106 => ?_) (fun h106 => ?_) | refine za4 rfl ?_)
   all_goals refine zac rfl (zac rfl (zad (zai (za7 (zbe (zbc ?_))))))
   all_goals exact zb6 (.inr rfl) rfl (congrArg eB (by
    rw [← hR]
    first
    | exact decP_t ⟨h37, h43, h50, by omega, rfl, h91, h95, @fr_eqT dx.n dx.d dy.n dy.d h100, @fr_eqT s.v.n s.v.d dx.n dx.d h106⟩
    |
     refine decP_f ?_
     rintro ⟨g1, g2, g3, g4, g5, g6, g7, g8, g9⟩
     first | omega | exact @fr_eqF dx.n dx.d dy.n dy.d h100 g8 | exact @fr_eqF s.v.n s.v.d dx.n dx.d h106 g9))
  ·
   refine zab (zac rfl (zac rfl (za4 rfl (za4 rfl (zac rfl (zac rfl (za4 rfl (za4 rfl (zac rfl (zac rfl (za4 rfl (za4 rfl (zac rfl (zac rfl (za4 rfl (za4 rfl (za4 rfl (zac rfl (zac rfl (za4 rfl (za4 rfl (za4 rfl (za4 rfl (zac rfl (zac rfl (zad (zai (za7 (zbe (zbc ?_))))))))))))))))))))))))))))))
   all_goals exact zb6 (.inr rfl) rfl (congrArg eB (by
    rw [← hR]
    exact decP_f (fun g => Bool.noConfusion g.2.2.2.2.1)))
 ·
  rw [if_neg h33] at hR
  refine zab ?_
  refine za3 rfl rfl (zaa rfl) (zbn rfl rfl rfl) (fun h109 => ?_) (fun h109 => ?_)
  all_goals refine zac rfl (zad (zai ?_))
  all_goals (first | refine za5 rfl ?_ | refine zau rfl ?_)
  all_goals repeat refine zag ?_
  ·
   rw [if_pos h109] at hR
   have hz := zeros_pf (P := P) p.c.length ⟨(validP_iff h22).1.1, q4⟩
   have hu : Pure P 98 [eP p, eL eF s.y, eL eF (zbf p.c.length)] (.tup [eB (undR p s.y (zbf p.c.length)).1, eI (undR p s.y (zbf p.c.length)).2]) := under_pf (P := P) p s.y (zbf p.c.length) h22 (zerosL_len _)
   have ht := @undR_t p s.y (zbf p.c.length)
   have hdy := fDot_pf (P := P) p.b s.y
   generalize (undR p s.y (zbf p.c.length)).1 = b at hu ht hR
   generalize (undR p s.y (zbf p.c.length)).2 = e at hu ht
   generalize dotE p.b s.y = dy at hdy hR
   refine zab (zbz tf92_1 rfl (zbu ta30 rfl (zaf rfl rfl (zaa rfl) (zao rfl ts30 rfl) ?_)))
   refine za3 rfl rfl (zaa rfl) (zb0 rfl rfl rfl) (fun h113 => ?_) (fun h113 => ?_)
   all_goals refine zac rfl ?_
   all_goals (first | refine zbz tf92_3 rfl ?_ | refine za4 rfl ?_)
   all_goals (first | refine zbu ta30 rfl ?_ | refine za4 rfl ?_)
   all_goals (first | refine zaf rfl rfl (zat rfl rfl rfl) (zao rfl ts30 rfl) ?_ | refine za4 rfl ?_)
   all_goals (first | refine za3 rfl rfl (zat rfl rfl rfl) (zb0 rfl rfl rfl) (fun h118 => ?_) (fun h118 => ?_) | refine za4 rfl ?_)
   all_goals refine zac rfl (zac rfl ?_)
   all_goals (first | refine zbz tf92_4 rfl ?_ | refine za4 rfl ?_)
   all_goals (first | refine zcx ta45 ti45 rfl ?_ | refine za4 rfl ?_)
   all_goals (first | refine zaf rfl rfl (zat rfl rfl rfl) (za9 rfl ti45 tp45 rfl rfl) ?_ | refine za4 rfl ?_)
   all_goals (first | refine zcn rfl rfl (zat rfl rfl rfl) (does_nea rfl rfl rfl te45 rfl rfl rfl) (fun h124 => ?_) (fun h124 => ?_) | refine za4 rfl ?_)
   all_goals refine zac rfl (zac rfl ?_)
   all_goals (first | refine zbz tf92_2 rfl ?_ | refine za4 rfl ?_)
   all_goals (first | refine zbu ta30 rfl ?_ | refine za4 rfl ?_)
   all_goals (first | refine zac rfl ?_ | refine za4 rfl ?_)
   all_goals (first | refine zcn rfl rfl (zat rfl rfl rfl) (zam rfl rfl (fine_pf _ _) (zae rfl (zae rfl zap))) (fun h130 => ?_) (fun h130 => ?_) | refine za4 rfl ?_)
   all_goals (first | refine zaf rfl rfl (zat rfl rfl rfl) (zbj rfl rfl) ?_ | refine za4 rfl ?_)
   all_goals refine zac rfl (zac rfl ?_)
   all_goals (first | refine zcx ta88 ti88 rfl ?_ | refine za4 rfl ?_)
   all_goals (first | refine zbz tf92_2 rfl ?_ | refine za4 rfl ?_)
   all_goals (first | refine zbu ta30 rfl ?_ | refine za4 rfl ?_)
   all_goals (first | refine zcn rfl rfl (zat rfl rfl rfl) (zam rfl rfl ((signed_pf p s.y (by have := (fineB_iff.1 h130).1; omega))) (zae rfl (zae rfl zap))) (fun h137 => ?_) (fun h137 => ?_) | refine za4 rfl ?_)
   all_goals (first | refine zaf rfl rfl (zat rfl rfl rfl) (zbj rfl rfl) ?_ | refine za4 rfl ?_)
   all_goals refine zac rfl (zad (zai ?_))
   all_goals (first | refine za5 rfl ?_ | refine zau rfl ?_)
   all_goals (repeat (first | refine zag ?_ | refine zar ?_))
   all_goals first
    |
     refine zab (zac rfl (zad (zai ?_)))
     (refine za7 ?_; repeat (first | refine zbc ?_ | refine zbe ?_))
     exact zb6 (.inr rfl) rfl (congrArg eB (by
      rw [← hR]
      refine decP_f ?_
      rintro ⟨g1, g2, g3, g4, g5, g6, g7, g8⟩
      first | omega | exact @fr_neT s.v.n s.v.d 0 0 h124 g3 | exact Bool.noConfusion (g4.symm.trans h130) | exact Bool.noConfusion (g5.symm.trans h137)))
    | skip
   refine zb2 hmix ?_
   refine zbx xi ?_
   refine qx_w ta88 ti88 rfl (qx_f tf92_2 rfl (qx_l ta30 rfl (qx_s rfl (zby rfl rfl (zaa rfl) (zam rfl rfl (hz) (zae rfl zap)) (zby rfl rfl (zaa rfl) (zam rfl rfl (hu) (zae rfl (zae rfl (zae rfl zap)))) (qx_s rfl (qx_s rfl (qx_s rfl (qx_s rfl (qx_s rfl ?_))))))))))
   refine zdg ?_
   refine zag (zab (zbz tf88_3 rfl (zbu ta30 rfl (zbz tf92_2 rfl (zbu ta30 rfl (zaf rfl rfl (zaa rfl) (zam rfl rfl (hdy) (zae rfl (zae rfl zap))) (zac rfl (zac rfl (zac rfl (zaf rfl rfl (zaa rfl) (za1 rfl ti45 rfl rfl) (zba rfl (zaa rfl) (zaj rfl ti45 rfl rfl rfl rfl rfl rfl xf xf) (zac rfl (zad (zag ?_))))))))))))))
   cases b
   rotate_left 1
   ·
    have he := ht rfl
    subst he
    refine zab (zac rfl (zac rfl (zac rfl ?_)))
    refine za3 rfl rfl (zat rfl rfl rfl) (zbn rfl rfl rfl) (fun h160 => ?_) (fun h160 => ?_)
    all_goals refine zac rfl (zac rfl ?_)
    all_goals (first | refine zac rfl ?_ | refine za4 rfl ?_)
    all_goals (first | refine za3 rfl rfl (zat rfl rfl rfl) (zbn rfl rfl rfl) (fun h164 => ?_) (fun h164 => ?_) | refine za4 rfl ?_)
    all_goals refine zac rfl (zac rfl ?_)
    all_goals (first | refine zbz tf45_0 rfl ?_ | refine za4 rfl ?_)
    all_goals (first | refine zaf rfl rfl (zat rfl rfl rfl) (zaq rfl ta3 rfl rfl rfl rfl rfl) ?_ | refine za4 rfl ?_)
    all_goals (first | refine za3 rfl rfl (zat rfl rfl rfl) (zb0 rfl rfl rfl) (fun h169 => ?_) (fun h169 => ?_) | refine za4 rfl ?_)
    all_goals refine zac rfl (zac rfl (zad (zai (za7 (zbe (zbc ?_))))))
    all_goals exact zb6 (.inr rfl) rfl (congrArg eB (by
     rw [← hR]
     first
     | exact decP_t ⟨by omega, by omega, @fr_neF s.v.n s.v.d 0 0 h124, h130, h137, rfl, h164, h169⟩
     |
      refine decP_f ?_
      rintro ⟨g1, g2, g3, g4, g5, g6, g7, g8⟩
      omega))
   ·
    refine zab (zac rfl (zac rfl (za4 rfl (za4 rfl (zac rfl (zac rfl (za4 rfl (za4 rfl (zac rfl (zac rfl (za4 rfl (za4 rfl (za4 rfl (zac rfl (zac rfl (zad (zai (za7 (zbe (zbc ?_))))))))))))))))))))
    all_goals exact zb6 (.inr rfl) rfl (congrArg eB (by
     rw [← hR]
     exact decP_f (fun g => Bool.noConfusion g.2.2.2.2.2.1)))
  ·
   rw [if_neg h109] at hR
   refine zab ?_
   refine za3 rfl rfl (zaa rfl) (zbn rfl rfl rfl) (fun h172 => ?_) (fun h172 => ?_)
   all_goals refine zac rfl (zad (zai ?_))
   all_goals (first | refine za5 rfl ?_ | refine zau rfl ?_)
   all_goals (repeat (first | refine zag ?_ | refine zar ?_))
   ·
    rw [if_pos h172] at hR
    have hs1 := solution_pf (P := P) p s.x h22
    have hz := zeros_pf (P := P) p.a.length ⟨(validP_iff h22).1.2.2.1, q3⟩
    have hu : Pure P 99 [eP p, eL eF s.ray, eL eF (zbf p.a.length)] (.tup [eB (metE p s.ray (zbf p.a.length)).1, eI (metE p s.ray (zbf p.a.length)).2]) := met_pf (P := P) p s.ray (zbf p.a.length) q1 (zerosL_len _) q3
    have hdy := fDot_pf (P := P) p.c s.ray
    generalize metE p s.ray (zbf p.a.length) = r at hu hR
    generalize dotE p.c s.ray = dy at hdy hR
    obtain ⟨b, e⟩ := r
    replace hu : Pure P 99 [eP p, eL eF s.ray, eL eF (zbf p.a.length)] (.tup [eB b, eI e]) := hu
    refine zab (zbz tf92_2 rfl (zbu ta30 rfl (zaf rfl rfl (zaa rfl) (zao rfl ts30 rfl) ?_)))
    refine za3 rfl rfl (zaa rfl) (zb0 rfl rfl rfl) (fun h176 => ?_) (fun h176 => ?_)
    all_goals refine zac rfl ?_
    all_goals (first | refine zbz tf92_4 rfl ?_ | refine za4 rfl ?_)
    all_goals (first | refine zcx ta45 ti45 rfl ?_ | refine za4 rfl ?_)
    all_goals (first | refine zaf rfl rfl (zat rfl rfl rfl) (za9 rfl ti45 tp45 rfl rfl) ?_ | refine za4 rfl ?_)
    all_goals (first | refine zcn rfl rfl (zat rfl rfl rfl) (does_nea rfl rfl rfl te45 rfl rfl rfl) (fun h181 => ?_) (fun h181 => ?_) | refine za4 rfl ?_)
    all_goals refine zac rfl (zac rfl ?_)
    all_goals (first | refine zcx ta88 ti88 rfl ?_ | refine za4 rfl ?_)
    all_goals (first | refine zbz tf92_1 rfl ?_ | refine za4 rfl ?_)
    all_goals (first | refine zbu ta30 rfl ?_ | refine za4 rfl ?_)
    all_goals (first | refine zcn rfl rfl (zat rfl rfl rfl) (zam rfl rfl (hs1) (zae rfl (zae rfl zap))) (fun h187 => ?_) (fun h187 => ?_) | refine za4 rfl ?_)
    all_goals (first | refine zaf rfl rfl (zat rfl rfl rfl) (zbj rfl rfl) ?_ | refine za4 rfl ?_)
    all_goals refine zac rfl (zac rfl ?_)
    all_goals (first | refine zbz tf92_3 rfl ?_ | refine za4 rfl ?_)
    all_goals (first | refine zbu ta30 rfl ?_ | refine za4 rfl ?_)
    all_goals (first | refine zac rfl ?_ | refine za4 rfl ?_)
    all_goals (first | refine zcn rfl rfl (zat rfl rfl rfl) (zam rfl rfl (fine_pf _ _) (zae rfl (zae rfl zap))) (fun h194 => ?_) (fun h194 => ?_) | refine za4 rfl ?_)
    all_goals (first | refine zaf rfl rfl (zat rfl rfl rfl) (zbj rfl rfl) ?_ | refine za4 rfl ?_)
    all_goals refine zac rfl (zad (zai ?_))
    all_goals (first | refine za5 rfl ?_ | refine zau rfl ?_)
    all_goals (repeat (first | refine zag ?_ | refine zar ?_))
    all_goals first
     |
      refine zab (zac rfl (zad (zai ?_)))
      (refine za7 ?_; repeat (first | refine zbc ?_ | refine zbe ?_))
      exact zb6 (.inr rfl) rfl (congrArg eB (by
       rw [← hR]
       refine decP_f ?_
       rintro ⟨g1, g2, g3, g4, g5, g6, g7, g8⟩
       first | omega | exact @fr_neT s.v.n s.v.d 0 0 h181 g2 | exact Bool.noConfusion (g3.symm.trans h187) | exact Bool.noConfusion (g4.symm.trans h194)))
     | skip
    refine zb2 hmix ?_
    refine zbx xi ?_
    refine qx_w ta88 ti88 rfl (qx_f tf92_3 rfl (qx_l ta30 rfl (qx_s rfl (zby rfl rfl (zaa rfl) (zam rfl rfl (hz) (zae rfl zap)) (zby rfl rfl (zaa rfl) (zam rfl rfl (hu) (zae rfl (zae rfl (zae rfl zap)))) (qx_s rfl (qx_s rfl (qx_s rfl (qx_s rfl (qx_s rfl ?_))))))))))
    refine zdg ?_
    refine zag (zab (zbz tf88_0 rfl (zbu ta30 rfl (zbz tf92_3 rfl (zbu ta30 rfl (zaf rfl rfl (zaa rfl) (zam rfl rfl (hdy) (zae rfl (zae rfl zap))) (zac rfl (zac rfl (zac rfl (zaf rfl rfl (zaa rfl) (za1 rfl ti45 rfl rfl) (zba rfl (zaa rfl) (zaj rfl ti45 rfl rfl rfl rfl rfl rfl xf xf) (zac rfl (zad (zag ?_))))))))))))))
    cases b
    rotate_left 1
    ·
     refine zab (zac rfl (zac rfl (zac rfl ?_)))
     refine za3 rfl rfl (zat rfl rfl rfl) (zbn rfl rfl rfl) (fun h217 => ?_) (fun h217 => ?_)
     all_goals refine zac rfl (zac rfl ?_)
     all_goals (first | refine zac rfl ?_ | refine za4 rfl ?_)
     all_goals (first | refine za3 rfl rfl (zat rfl rfl rfl) (zbn rfl rfl rfl) (fun h221 => ?_) (fun h221 => ?_) | refine za4 rfl ?_)
     all_goals refine zac rfl (zac rfl ?_)
     all_goals (first | refine zbz tf45_0 rfl ?_ | refine za4 rfl ?_)
     all_goals (first | refine zaf rfl rfl (zat rfl rfl rfl) (zaq rfl ta3 rfl rfl rfl rfl rfl) ?_ | refine za4 rfl ?_)
     all_goals (first | refine za3 rfl rfl (zat rfl rfl rfl) (za2 rfl rfl rfl) (fun h226 => ?_) (fun h226 => ?_) | refine za4 rfl ?_)
     all_goals refine zac rfl (zac rfl (zad (zai (za7 (zbe (zbc ?_))))))
     all_goals exact zb6 (.inr rfl) rfl (congrArg eB (by
      rw [← hR]
      first
      | exact decP_t ⟨by omega, @fr_neF s.v.n s.v.d 0 0 h181, h187, h194, rfl, h217, h221, h226⟩
      |
       refine decP_f ?_
       rintro ⟨g1, g2, g3, g4, g5, g6, g7, g8⟩
       dsimp only at g6
       omega))
    ·
     refine zab (zac rfl (zac rfl (za4 rfl (za4 rfl (zac rfl (zac rfl (za4 rfl (za4 rfl (zac rfl (zac rfl (za4 rfl (za4 rfl (za4 rfl (zac rfl (zac rfl (zad (zai (za7 (zbe (zbc ?_))))))))))))))))))))
     all_goals exact zb6 (.inr rfl) rfl (congrArg eB (by
      rw [← hR]
      exact decP_f (fun g => Bool.noConfusion g.2.2.2.2.1)))
   ·
    rw [if_neg h172] at hR
    refine zab (zac rfl (zad (zai ?_)))
    (refine za7 ?_; repeat (first | refine zbc ?_ | refine zbe ?_))
    exact zb6 (.inr rfl) rfl (congrArg eB hR)
end Go.Proofs.YtllkbjcemecmjaaGreat.Aw
end
section
namespace Go.Proofs.YtllkbjcemecmjaaGreat.Aw
open Go.RowKit
structure Tb where
 rows : List (List Fr)
 cost : List Fr
 bas : List Int
 last : Int
 e : Int
def _root_.Go.Proofs.YtllkbjcemecmjaaGreat.FE.fr (x : FE) : Fr := ⟨x.n, x.d⟩
def zdr (by_ : Fr) : List Fr → List Fr → List Fr × Int
 | [], _ => ([], 0)
 | a :: xs, bs =>
  let x := mulE by_ (gti bs 0)
  if x.e ≠ 0 then ([], x.e) else
  let y := subE a x.fr
  if y.e ≠ 0 then ([], y.e) else
  let r := zdr by_ xs (bs.drop 1)
  if r.2 ≠ 0 then ([], r.2) else (y.fr :: r.1, 0)
def divL (by_ : Fr) : List Fr → List Fr × Int
 | [] => ([], 0)
 | a :: xs =>
  let x := divE a by_
  if x.e ≠ 0 then ([], x.e) else
  let r := divL by_ xs
  if r.2 ≠ 0 then ([], r.2) else (x.fr :: r.1, 0)
def pivJ (i k : Nat) (row : List Fr) : Nat → Nat → Tb → Tb
 | 0, _, t => t
 | f + 1, j, t =>
  if j = i ∨ (gti (gti t.rows j) k).n = 0 then pivJ i k row f (j + 1) t else
  let x := zdr (gti (gti t.rows j) k) (gti t.rows j) row
  if x.2 ≠ 0 then { t with rows := t.rows.set j x.1, e := x.2 } else pivJ i k row f (j + 1) { t with rows := t.rows.set j x.1 }
def pivC (k : Nat) (row : List Fr) (t : Tb) : Tb :=
 if (gti t.cost k).n = 0 then t else { t with cost := (zdr (gti t.cost k) t.cost row).1, e := (zdr (gti t.cost k) t.cost row).2 }
def pivE (i k : Nat) (t : Tb) : Tb :=
 let d := divL (gti (gti t.rows i) k) (gti t.rows i)
 if d.2 ≠ 0 then { t with e := d.2 } else
 let t1 := pivJ i k d.1 t.rows.length 0 { t with rows := t.rows.set i d.1, bas := t.bas.set i k }
 if t1.e ≠ 0 then t1 else pivC k d.1 t1
def lvF (k : Nat) (t : Tb) : Nat → Nat → Int → Fr → Int × Int
 | 0, _, best, _ => (best, 0)
 | f + 1, i, best, least =>
  let row := gti t.rows i
  if (gti row k).n ≤ 0 then lvF k t f (i + 1) best least else
  let r := divE (gti row (row.length - 1)) (gti row k)
  if r.e ≠ 0 then (-1, r.e) else
  let c := if best < 0 then -1 else (cmpE r.fr least).1
  if c < 0 ∨ (c = 0 ∧ gti t.bas i < gti t.bas best.toNat) then lvF k t f (i + 1) i r.fr else lvF k t f (i + 1) best least
def lvE (k : Nat) (t : Tb) : Int × Int := lvF k t t.rows.length 0 (-1) ⟨0, 0⟩
def negF (a : Fr) : Bool := decide (a.n < 0)
def runS (vars : Nat) (t : Tb) : Tb × Int ⊕ Tb :=
 if t.e ≠ 0 then .inl (t, -1) else
 let k := zc2 negF (t.cost.take vars)
 if k < 0 then .inl (t, -1) else
 let l := lvE k.toNat t
 if l.2 ≠ 0 then .inl ({ t with e := l.2 }, -1) else
 if l.1 < 0 then .inl (t, k) else .inr (pivE l.1.toNat k.toNat t)
def runE (vars : Nat) : Nat → Tb → Option (Tb × Int)
 | 0, _ => none
 | f + 1, t => match runS vars t with
  | .inl r => some r
  | .inr t' => runE vars f t'
def valsF (t : Tb) (n : Nat) : Nat → List Fr
 | 0 => List.replicate n (Fr.of 0)
 | i + 1 => if gti t.bas i < n then (valsF t n i).set (gti t.bas i).toNat (gti (gti t.rows i) ((gti t.rows i).length - 1)) else valsF t n i
def valsE (t : Tb) (n : Nat) : List Fr := valsF t n t.bas.length
def prcF : Nat → Nat → Tb → Tb
 | 0, _, t => t
 | f + 1, i, t =>
  if t.e ≠ 0 then t else
  let c := gti t.cost (gti t.bas i).toNat
  if c.n = 0 then prcF f (i + 1) t else prcF f (i + 1) { t with cost := (zdr c t.cost (gti t.rows i)).1, e := (zdr c t.cost (gti t.rows i)).2 }
def prcE (cost : List Fr) (t : Tb) : Tb := prcF t.bas.length 0 { t with cost := cost }
def begR (p : LP) (i : Nat) : List Fr :=
 let n := p.c.length
 let m := p.a.length
 let z := List.replicate (2 * m) (Fr.of 0)
 let row := gti p.a i ++ z
 let row := if gti p.rel i = 1 then row.set (n + i) (Fr.of 1) else if gti p.rel i = 2 then row.set (n + i) (Fr.of (-1)) else row
 let row := row ++ [gti p.b i]
 let row := if (gti p.b i).n < 0 then row.map fneg else row
 row.set (n + m + i) (Fr.of 1)
def begT (p : LP) : Tb := ⟨(List.range p.a.length).map (begR p), [], (List.range p.a.length).map fun i => ((p.c.length + p.a.length + i : Nat) : Int), p.c.length + p.a.length, 0⟩
def turnL (p : LP) : List Bool := p.b.map negF
def mulF (t : Tb) (turned : List Bool) (cost : Int) : Nat → Nat → Int → List Fr × Int
 | 0, _, e => ([], e)
 | f + 1, i, e =>
  let y := subE (Fr.of cost) (gti t.cost (t.last.toNat + i))
  let e' := if e = 0 then y.e else e
  let r := mulF t turned cost f (i + 1) e'
  ((if gti turned i = true then fneg y.fr else y.fr) :: r.1, r.2)
def mulTE (t : Tb) (turned : List Bool) (cost : Int) : List Fr × Int := mulF t turned cost turned.length 0 t.e
end Go.Proofs.YtllkbjcemecmjaaGreat.Aw
end
section
namespace Go.Proofs.YtllkbjcemecmjaaGreat.Bl
def sumR (f : Nat → Rat) : Nat → Rat
 | 0 => 0
 | n + 1 => sumR f n + f n
theorem sumR_congr {f g : Nat → Rat} : ∀ {n : Nat}, (∀ j, j < n → f j = g j) → sumR f n = sumR g n
 | 0, _ => rfl
 | n + 1, h => by
  have h1 := sumR_congr (n := n) (fun j hj => h j xd)
  have h2 := h n xd
  show sumR f n + f n = sumR g n + g n
  rw [h1, h2]
theorem sumR_add (f g : Nat → Rat) : ∀ n, sumR (fun j => f j + g j) n = sumR f n + sumR g n
 | 0 => by show (0 : Rat) = 0 + 0; grind
 | n + 1 => by simp only [sumR, sumR_add f g n]; grind
theorem sumR_mul (z : Rat) (f : Nat → Rat) : ∀ n, sumR (fun j => z * f j) n = z * sumR f n
 | 0 => by simp [sumR]
 | n + 1 => by simp only [sumR, sumR_mul z f n]; grind
theorem sumR_zero : ∀ n, sumR (fun _ => 0) n = 0
 | 0 => rfl
 | n + 1 => by simp only [sumR, sumR_zero n]; grind
theorem sumR_swap (f : Nat → Nat → Rat) (m : Nat) : ∀ n, sumR (fun j => sumR (fun i => f i j) m) n = sumR (fun i => sumR (fun j => f i j) n) m
 | 0 => by simp only [sumR]; exact (sumR_zero m).symm
 | n + 1 => by simp only [sumR, sumR_swap f m n]; rw [← sumR_add]
theorem sumR_one (f : Nat → Rat) (b : Nat) : ∀ n, sumR (fun j => if b = j then f j else 0) n = if b < n then f b else 0
 | 0 => by simp [sumR]
 | n + 1 => by
  simp only [sumR, sumR_one f b n]
  by_cases h : b = n
  ·
   subst h; rw [if_neg xd, if_pos rfl, if_pos xd]; grind
  ·
   rw [if_neg h]
   by_cases h2 : b < n
   ·
    rw [if_pos h2, if_pos xd]; grind
   ·
    rw [if_neg h2, if_neg xd]; grind
theorem sumR_pos {f : Nat → Rat} : ∀ {n : Nat}, 0 < sumR f n → ∃ j, j < n ∧ 0 < f j
 | 0, h => by simp [sumR] at h
 | n + 1, h => by
  by_cases h1 : 0 < f n
  ·
   exact ⟨n, by omega, h1⟩
  ·
   simp only [sumR] at h
   obtain ⟨j, h2, h3⟩ := sumR_pos (f := f) (n := n) (by grind)
   exact ⟨j, by omega, h3⟩
theorem sumR_nn {f : Nat → Rat} : ∀ {n : Nat}, (∀ j, j < n → 0 ≤ f j) → 0 ≤ sumR f n ∧ (sumR f n = 0 → ∀ j, j < n → f j = 0)
 | 0, _ => ⟨by simp [sumR], fun _ j hj => by omega⟩
 | n + 1, h => by
  obtain ⟨h1, h2⟩ := sumR_nn (f := f) (n := n) (fun j hj => h j xd)
  have h3 := h n xd
  refine ⟨by simp only [sumR]; grind, fun h0 j hj => ?_⟩
  simp only [sumR] at h0
  by_cases e : j = n
  ·
   subst e; grind
  ·
   exact h2 (by grind) j xd
structure Tab where
 a : Nat → Nat → Rat
 c : Nat → Rat
 B : Nat → Nat
structure Can (m N : Nat) (T : Tab) : Prop where
 lt : ∀ i, i < m → T.B i < N
 one : ∀ i, i < m → T.a i (T.B i) = 1
 off : ∀ i j, i < m → j < m → i ≠ j → T.a i (T.B j) = 0
 cost : ∀ i, i < m → T.c (T.B i) = 0
 nn : ∀ i, i < m → 0 ≤ T.a i N
structure Pv (m N : Nat) (T T' : Tab) (r k : Nat) : Prop where
 hr : r < m
 hk : k < N
 nz : T.a r k ≠ 0
 row : ∀ j, j ≤ N → T'.a r j = T.a r j / T.a r k
 oth : ∀ i j, i < m → i ≠ r → j ≤ N → T'.a i j = T.a i j - T.a i k * (T.a r j / T.a r k)
 cst : ∀ j, j ≤ N → T'.c j = T.c j - T.c k * (T.a r j / T.a r k)
 bas : T'.B r = k
 keep : ∀ i, i < m → i ≠ r → T'.B i = T.B i
def lin (f x : Nat → Rat) (N : Nat) : Rat := sumR (fun j => f j * x j) (N + 1)
def Ker (m N : Nat) (T : Tab) (x : Nat → Rat) : Prop := ∀ i, i < m → lin (T.a i) x N = 0
theorem lin_sub {f g h x : Nat → Rat} {z : Rat} {N : Nat} (e : ∀ j, j ≤ N → h j = f j - z * g j) : lin h x N = lin f x N - z * lin g x N := by
 unfold lin
 rw [sumR_congr (g := fun j => f j * x j + (0 - z) * (g j * x j)) (fun j hj => by rw [e j xd]; grind), sumR_add, sumR_mul]
 grind
theorem lin_div {f h x : Nat → Rat} {z : Rat} {N : Nat} (e : ∀ j, j ≤ N → h j = f j / z) : lin h x N = lin f x N / z := by
 unfold lin
 rw [sumR_congr (g := fun j => (1 / z) * (f j * x j)) (fun j hj => by rw [e j xd]; grind), sumR_mul]
 grind
theorem Pv.ker {m N : Nat} {T T' : Tab} {r k : Nat} (h : Pv m N T T' r k) {x : Nat → Rat} (hx : Ker m N T x) : Ker m N T' x ∧ lin T'.c x N = lin T.c x N := by
 have h0 := hx r h.hr
 have hg : lin (T'.a r) x N = 0 := by rw [lin_div h.row, h0]; grind
 refine ⟨fun i hi => ?_, ?_⟩
 ·
  by_cases e : i = r
  ·
   subst e; exact hg
  ·
   rw [lin_sub (f := T.a i) (g := T'.a r) (z := T.a i k) (fun j hj => by rw [h.oth i j hi e hj, h.row j hj]), hx i hi, hg]; grind
 ·
  rw [lin_sub (f := T.c) (g := T'.a r) (z := T.c k) (fun j hj => by rw [h.cst j hj, h.row j hj]), hg]; grind
theorem Can.inj {m N : Nat} {T : Tab} (h : Can m N T) {i j : Nat} (hi : i < m) (hj : j < m) (e : T.B i = T.B j) : i = j := by
 by_cases h1 : i = j
 ·
  exact h1
 ·
  have h2 := h.off i j hi hj h1
  rw [← e, h.one i hi] at h2
  exact absurd h2 xf
theorem Pv.can {m N : Nat} {T T' : Tab} {r k : Nat} (h : Pv m N T T' r k) (hc : Can m N T) (hb : ∀ i, i < m → 0 ≤ T'.a i N) : Can m N T' := by
 have hz := h.nz
 have hB : ∀ j, j < m → j ≠ r → T.a r (T.B j) = 0 := fun j hj e => hc.off r j h.hr hj (Ne.symm e)
 refine ⟨fun i hi => ?_, fun i hi => ?_, fun i j hi hj hij => ?_, fun i hi => ?_, hb⟩
 ·
  by_cases e : i = r
  ·
   subst e; rw [h.bas]; exact h.hk
  ·
   rw [h.keep i hi e]; exact hc.lt i hi
 ·
  by_cases e : i = r
  ·
   subst e; rw [h.bas, h.row k (by have := h.hk; omega)]; grind
  ·
   rw [h.keep i hi e, h.oth i _ hi e (by have := hc.lt i hi; omega), hB i hi e, hc.one i hi]; grind
 ·
  by_cases e : j = r
  ·
   subst e
   rw [h.bas, h.oth i k hi hij (by have := h.hk; omega)]; grind
  ·
   rw [h.keep j hj e]
   by_cases e2 : i = r
   ·
    subst e2; rw [h.row _ (by have := hc.lt j hj; omega), hB j hj e]; grind
   ·
    rw [h.oth i _ hi e2 (by have := hc.lt j hj; omega), hB j hj e, hc.off i j hi hj hij]; grind
 ·
  by_cases e : i = r
  ·
   subst e; rw [h.bas, h.cst k (by have := h.hk; omega)]; grind
  ·
   rw [h.keep i hi e, h.cst _ (by have := hc.lt i hi; omega), hB i hi e, hc.cost i hi]; grind
def xs (m : Nat) (T : Tab) (j : Nat) : Nat → Rat := fun v => (if j = v then 1 else 0) - sumR (fun i => if T.B i = v then T.a i j else 0) m
theorem lin_xs {m N : Nat} {T : Tab} (hc : Can m N T) (f : Nat → Rat) {j : Nat} (hj : j ≤ N) : lin f (xs m T j) N = f j - sumR (fun i => T.a i j * f (T.B i)) m := by
 unfold lin xs
 rw [sumR_congr (g := fun v => (if j = v then f v else 0) + (0 - 1) * sumR (fun i => if T.B i = v then T.a i j * f v else 0) m) (fun v hv => ?_), sumR_add, sumR_mul, sumR_one, if_pos xd, sumR_swap]
 ·
  rw [sumR_congr (f := fun i => sumR (fun v => if T.B i = v then T.a i j * f v else 0) (N + 1)) (g := fun i => T.a i j * f (T.B i)) (fun i hi => ?_)]
  ·
   grind
  ·
   rw [sumR_one (fun v => T.a i j * f v) (T.B i) (N + 1), if_pos (by have := hc.lt i hi; omega)]
 ·
  have e : sumR (fun i => if T.B i = v then T.a i j * f v else 0) m = f v * sumR (fun i => if T.B i = v then T.a i j else 0) m := by
   rw [← sumR_mul]
   refine sumR_congr (fun i _ => ?_)
   split <;> grind
  rw [e]
  split <;> grind
theorem xs_ker {m N : Nat} {T : Tab} (hc : Can m N T) {j : Nat} (hj : j ≤ N) : Ker m N T (xs m T j) := fun l hl => by
 rw [lin_xs hc (T.a l) hj, sumR_congr (g := fun i => if l = i then T.a i j else 0) (fun i hi => ?_), sumR_one (fun i => T.a i j) l m, if_pos hl]
 ·
  grind
 ·
  by_cases e : l = i
  ·
   subst e; rw [if_pos rfl, hc.one l hl]; grind
  ·
   rw [if_neg e, hc.off l i hl hi e]; grind
theorem same_of {m N : Nat} {T T' : Tab} (hc : Can m N T) (hc' : Can m N T') (hk : ∀ x, Ker m N T x → Ker m N T' x ∧ lin T'.c x N = lin T.c x N) (hB : ∀ i, i < m → T'.B i = T.B i) :
  (∀ i j, i < m → j ≤ N → T'.a i j = T.a i j) ∧ ∀ j, j ≤ N → T'.c j = T.c j := by
 have key : ∀ j, j ≤ N → (∀ l, l < m → T'.a l j - sumR (fun i => T.a i j * T'.a l (T.B i)) m = 0) ∧ T'.c j - sumR (fun i => T.a i j * T'.c (T.B i)) m = T.c j - sumR (fun i => T.a i j * T.c (T.B i)) m := fun j hj => by
  obtain ⟨h1, h2⟩ := hk _ (xs_ker hc hj)
  rw [lin_xs hc _ hj, lin_xs hc _ hj] at h2
  exact ⟨fun l hl => by have := h1 l hl; rwa [lin_xs hc _ hj] at this, h2⟩
 refine ⟨fun l j hl hj => ?_, fun j hj => ?_⟩
 ·
  have h1 := (key j hj).1 l hl
  rw [sumR_congr (g := fun i => if l = i then T.a i j else 0) (fun i hi => ?_), sumR_one (fun i => T.a i j) l m, if_pos hl] at h1
  ·
   grind
  ·
   rw [← hB i hi]
   by_cases e : l = i
   ·
    subst e; rw [if_pos rfl, hc'.one l hl]; grind
   ·
    rw [if_neg e, hc'.off l i hl hi e]; grind
 ·
  have h2 := (key j hj).2
  rw [sumR_congr (g := fun _ => 0) (fun i hi => by rw [← hB i hi, hc'.cost i hi]; grind), sumR_congr (f := fun i => T.a i j * T.c (T.B i)) (g := fun _ => 0) (fun i hi => by rw [hc.cost i hi]; grind), sumR_zero] at h2
  grind
end Go.Proofs.YtllkbjcemecmjaaGreat.Bl
end
section
namespace Go.Proofs.YtllkbjcemecmjaaGreat.Bl
structure Step (m N vars : Nat) (T T' : Tab) (r k : Nat) : Prop extends Pv m N T T' r k where
 kv : k < vars
 neg : T.c k < 0
 first : ∀ j, j < k → 0 ≤ T.c j
 pos : 0 < T.a r k
 least : ∀ i, i < m → 0 < T.a i k → T.a r N / T.a r k ≤ T.a i N / T.a i k
 tie : ∀ i, i < m → 0 < T.a i k → T.a i N / T.a i k = T.a r N / T.a r k → T.B r ≤ T.B i
theorem Step.can {m N vars : Nat} {T T' : Tab} {r k : Nat} (h : Step m N vars T T' r k) (hc : Can m N T) : Can m N T' := by
 refine h.toPv.can hc (fun i hi => ?_)
 have hp := h.pos
 have hr := hc.nn r h.hr
 have hq : 0 ≤ T.a r N / T.a r k := by
  rw [Rat.div_def]
  exact Rat.mul_nonneg hr (Rat.le_of_lt (Rat.inv_pos.2 hp))
 by_cases e : i = r
 ·
  subst e; rw [h.row N xd]; exact hq
 ·
  rw [h.oth i N hi e xd]
  by_cases hik : 0 < T.a i k
  ·
   have h1 := h.least i hi hik
   have h2 : T.a i k * (T.a r N / T.a r k) ≤ T.a i k * (T.a i N / T.a i k) := Rat.mul_le_mul_of_nonneg_left h1 (Rat.le_of_lt hik)
   have h3 : T.a i k * (T.a i N / T.a i k) = T.a i N := by grind
   grind
  ·
   have h1 : T.a i k ≤ 0 := by grind
   have h2 : T.a i k * (T.a r N / T.a r k) ≤ 0 := by
    have := Rat.mul_nonneg (a := 0 - T.a i k) (b := T.a r N / T.a r k) (by grind) hq
    grind
   have := hc.nn i hi
   grind
section
variable {m N vars L : Nat} {T : Nat → Tab} {rr kk : Nat → Nat} (hv : vars ≤ N) (h0 : Can m N (T 0)) (hs : ∀ p, p < L → Step m N vars (T p) (T (p + 1)) (rr p) (kk p))
include h0 hs
theorem can_all : ∀ p, p ≤ L → Can m N (T p)
 | 0, _ => h0
 | p + 1, h => (hs p xd).can (can_all p xd)
omit h0 in
theorem ker_up {x : Nat → Rat} {p : Nat} : ∀ d, p + d ≤ L → Ker m N (T p) x → Ker m N (T (p + d)) x ∧ lin (T (p + d)).c x N = lin (T p).c x N
 | 0, _, hx => ⟨hx, rfl⟩
 | d + 1, h, hx => by
  obtain ⟨h1, h2⟩ := ker_up d xd hx
  obtain ⟨h3, h4⟩ := (hs (p + d) xd).toPv.ker h1
  exact ⟨h3, h4.trans h2⟩
theorem no_cycle (hL : 0 < L) (hB : ∀ i, i < m → (T L).B i = (T 0).B i) : False := by
 have hc := can_all h0 hs
 have hup := fun (x : Nat → Rat) (p q : Nat) (hpq : p ≤ q) (hq : q ≤ L) (hx : Ker m N (T p) x) => by
  have := ker_up hs (x := x) (p := p) (q - p) xd hx
  rwa [show p + (q - p) = q by omega] at this
 obtain ⟨ea, ec⟩ := same_of (hc 0 xd) (hc L (Nat.le_refl _)) (fun x hx => hup x 0 L xd (Nat.le_refl _) hx) hB
 -- the end is the beginning
 have hend : ∀ x, Ker m N (T L) x → Ker m N (T 0) x ∧ lin (T 0).c x N = lin (T L).c x N := fun x hx => by
  refine ⟨fun i hi => ?_, ?_⟩
  ·
   have := hx i hi
   unfold lin at this ⊢
   rw [← this]
   exact sumR_congr (fun j hj => by rw [ea i j hi xd])
  ·
   unfold lin
   exact sumR_congr (fun j hj => by rw [ec j xd])
 have hany : ∀ x p q, p ≤ L → q ≤ L → Ker m N (T p) x → Ker m N (T q) x ∧ lin (T q).c x N = lin (T p).c x N := fun x p q hp hq hx => by
  obtain ⟨h1, h2⟩ := hup x p L hp (Nat.le_refl _) hx
  obtain ⟨h3, h4⟩ := hend x h1
  obtain ⟨h5, h6⟩ := hup x 0 q xd hq h3
  exact ⟨h5, h6.trans (h4.trans h2)⟩
 -- the value never falls: so it stays
 have hval : ∀ p, p < L → (T p).c N ≤ (T (p + 1)).c N ∧ ((T (p + 1)).c N = (T p).c N → (T p).a (rr p) N = 0) := fun p hp => by
  have h := hs p hp
  have h1 := (hc p xd).nn _ h.hr
  have h2 := h.cst N xd
  have h3 := h.neg
  have h4 := h.pos
  have hq : 0 ≤ (T p).a (rr p) N / (T p).a (rr p) (kk p) := by
   rw [Rat.div_def]; exact Rat.mul_nonneg h1 (Rat.le_of_lt (Rat.inv_pos.2 h4))
  have h5 := Rat.mul_nonneg (a := 0 - (T p).c (kk p)) (b := (T p).a (rr p) N / (T p).a (rr p) (kk p)) (by grind) hq
  refine ⟨by grind, fun e => ?_⟩
  have h6 : (T p).c (kk p) * ((T p).a (rr p) N / (T p).a (rr p) (kk p)) = 0 := by grind
  have h7 : (T p).a (rr p) N / (T p).a (rr p) (kk p) = 0 := by
   rcases Rat.mul_eq_zero.1 h6 with h | h
   ·
    grind
   ·
    exact h
  have h8 : (T p).a (rr p) N = (T p).a (rr p) N / (T p).a (rr p) (kk p) * (T p).a (rr p) (kk p) := by grind
  rw [h8, h7]; grind
 have hmono : ∀ d p, p + d ≤ L → (T p).c N ≤ (T (p + d)).c N := by
  intro d
  induction d with
  | zero => intro p _; exact Rat.le_refl
  | succ d ih => intro p h; exact Rat.le_trans (ih p xd) (hval (p + d) xd).1
 have hdeg : ∀ p, p < L → (T p).a (rr p) N = 0 := fun p hp => by
  refine (hval p hp).2 ?_
  have h1 := hmono p 0 xd
  rw [Nat.zero_add] at h1
  have h2 := (hval p hp).1
  have h3 := hmono (L - (p + 1)) (p + 1) xd
  rw [show p + 1 + (L - (p + 1)) = L by omega, ec N xd] at h3
  grind
 have hrhs : ∀ p, p ≤ L → ∀ i, i < m → (T p).a i N = (T 0).a i N := by
  intro p
  induction p with
  | zero => intro _ i _; rfl
  | succ p ih =>
   intro hp i hi
   have h := hs p xd
   have hd := hdeg p xd
   rw [← ih xd i hi]
   by_cases e : i = rr p
   ·
    subst e; rw [h.row N xd, hd]; grind
   ·
    rw [h.oth i N hi e xd, hd]; grind
 -- the greatest variable that enters
 obtain ⟨ps, hps, hmax⟩ : ∃ ps, ps < L ∧ ∀ p, p < L → kk p ≤ kk ps := by
  clear hmono hval hdeg hrhs hany hend ea ec hup hB hc hs h0
  induction L with
  | zero => omega
  | succ L ih =>
   by_cases hL0 : 0 < L
   ·
    obtain ⟨q, h1, h2⟩ := ih hL0
    by_cases h3 : kk L ≤ kk q
    ·
     exact ⟨q, by omega, fun p hp => by
      by_cases e : p = L
      ·
       subst e; exact h3
      ·
       exact h2 p xd⟩
    ·
     exact ⟨L, by omega, fun p hp => by
      by_cases e : p = L
      ·
       subst e; exact Nat.le_refl _
      ·
       have := h2 p xd; omega⟩
   ·
    exact ⟨0, by omega, fun p hp => by rw [show p = 0 by omega]; exact Nat.le_refl _⟩
 have hS := hs ps hps
 have hcs := hc ps xd
 generalize ht : kk ps = t at hmax
 -- a row that holds a variable at one time and not at another
 have hgo : ∀ l v, l < m → (∀ p, p < L → (T p).B l = v → (T (p + 1)).B l = v) → ∀ p q, p ≤ L → q ≤ L → (T p).B l = v → (T q).B l = v := by
  intro l v hl hk p q hp hq hpv
  have up : ∀ d p, p + d ≤ L → (T p).B l = v → (T (p + d)).B l = v := by
   intro d
   induction d with
   | zero => intro p _ h; exact h
   | succ d ih => intro p h hpv; exact hk (p + d) xd (ih p xd hpv)
  have h1 := up (L - p) p xd hpv
  rw [show p + (L - p) = L by omega, hB l hl] at h1
  have h2 := up q 0 xd h1
  rwa [Nat.zero_add] at h2
 have hnb : ∀ i, i < m → (T ps).B i ≠ t := fun i hi e => by
  have h1 := hcs.cost i hi
  rw [e, ← ht] at h1
  have := hS.neg
  grind
 obtain ⟨q, hq, hqt⟩ : ∃ q, q < L ∧ (T q).B (rr q) = t := by
  refine Classical.byContradiction fun hno => ?_
  have h1 := hgo (rr ps) t hS.hr (fun p hp hpv => by
   by_cases e : rr ps = rr p
   ·
    exact absurd ⟨p, hp, by rw [← e]; exact hpv⟩ hno
   ·
    rw [(hs p hp).keep _ hS.hr e]; exact hpv) (ps + 1) ps xd xd (by rw [hS.bas, ht])
  exact hnb _ hS.hr h1
 have hQ := hs q hq
 have hcq := hc q xd
 have hkN := hQ.hk
 have hst : kk q < t := by
  have h1 := hmax q hq
  have h2 : kk q ≠ t := fun e => by
   have h3 := hcq.cost _ hQ.hr
   rw [hqt, ← e] at h3
   have := hQ.neg
   grind
  omega
 obtain ⟨h1, h2⟩ := hany _ q ps xd xd (xs_ker hcq (j := kk q) xd)
 rw [lin_xs hcq _ xd, lin_xs hcq _ xd, sumR_congr (f := fun i => (T q).a i (kk q) * (T q).c ((T q).B i)) (g := fun _ => 0) (fun i hi => by rw [hcq.cost i hi]; grind), sumR_zero] at h2
 have hneg := hQ.neg
 have hfs := hS.first
 rw [ht] at hfs
 have h3 := hfs (kk q) hst
 obtain ⟨l, hl, hlp⟩ := sumR_pos (f := fun i => (T q).a i (kk q) * (T ps).c ((T q).B i)) (n := m) (by grind)
 generalize hvB : (T q).B l = v at hlp
 have hcv : (T ps).c v ≠ 0 := fun e => by rw [e] at hlp; grind
 have hvn : ∀ i, i < m → (T ps).B i ≠ v := fun i hi e => hcv (by rw [← e]; exact hcs.cost i hi)
 obtain ⟨p', hp', hl', hv'⟩ : ∃ p', p' < L ∧ rr p' = l ∧ kk p' = v := by
  refine Classical.byContradiction fun hno => ?_
  -- backwards: where the row holds v behind a step, it held it ahead of it
  have back : ∀ p, p < L → (T (p + 1)).B l = v → (T p).B l = v := fun p hp hpv => by
   by_cases e : l = rr p
   ·
    rw [e, (hs p hp).bas] at hpv
    exact absurd ⟨p, hp, e.symm, hpv⟩ hno
   ·
    rw [(hs p hp).keep l hl e] at hpv; exact hpv
  have down : ∀ d p, p + d ≤ L → (T (p + d)).B l = v → (T p).B l = v := by
   intro d
   induction d with
   | zero => intro p _ h; exact h
   | succ d ih => intro p h hpv; exact ih p xd (back (p + d) xd hpv)
  have g1 := down q 0 xd (by rw [Nat.zero_add]; exact hvB)
  rw [← hB l hl] at g1
  have g2 := down (L - ps) ps xd (by rw [show ps + (L - ps) = L by omega]; exact g1)
  exact hvn l hl g2
 have hvt : v ≤ t := by rw [← hv']; exact hmax p' hp'
 have hlN : (T q).a l N = 0 := by
  rw [hrhs q xd l hl, ← hrhs p' xd l hl, ← hl']; exact hdeg p' hp'
 have hpos := hQ.pos
 by_cases e : v = t
 ·
  have e2 : l = rr q := hcq.inj hl hQ.hr (by rw [hvB, hqt, e])
  subst e2
  have hct : (T ps).c v < 0 := by rw [e, ← ht]; exact hS.neg
  have h5 := Rat.mul_pos hpos (show 0 < 0 - (T ps).c v by grind)
  grind
 ·
  have hvlt : v < t := by omega
  have h5 := hfs v hvlt
  have h6 : 0 < (T ps).c v := by grind
  have h7 : 0 < (T q).a l (kk q) := by
   refine Classical.byContradiction fun h => ?_
   have := Rat.mul_nonneg (a := 0 - (T q).a l (kk q)) (b := (T ps).c v) (by grind) h5
   grind
  have h8 := hQ.tie l hl h7 (by rw [hlN, hdeg q hq]; grind)
  rw [hvB, hqt] at h8
  omega
end
def code (N : Nat) (B : Nat → Nat) : Nat → Nat
 | 0 => 0
 | m + 1 => code N B m + B m * N ^ m
theorem code_lt {N : Nat} {B : Nat → Nat} : ∀ {m : Nat}, (∀ i, i < m → B i < N) → code N B m < N ^ m
 | 0, _ => by simp [code]
 | m + 1, h => by
  have h1 := code_lt (B := B) (m := m) (fun i hi => h i xd)
  have h2 := h m xd
  have h3 : B m * N ^ m + N ^ m ≤ N * N ^ m := by
   have := Nat.mul_le_mul_right (N ^ m) (show B m + 1 ≤ N by omega)
   rwa [Nat.add_mul, Nat.one_mul] at this
  simp only [code, Nat.pow_succ]
  rw [Nat.mul_comm (N ^ m) N]
  omega
theorem code_inj {N : Nat} {B C : Nat → Nat} : ∀ {m : Nat}, (∀ i, i < m → B i < N) → (∀ i, i < m → C i < N) → code N B m = code N C m → ∀ i, i < m → B i = C i
 | 0, _, _, _, i, hi => by omega
 | m + 1, hb, hc, h, i, hi => by
  have b1 := code_lt (B := B) (m := m) (fun i hi => hb i xd)
  have c1 := code_lt (B := C) (m := m) (fun i hi => hc i xd)
  simp only [code] at h
  have hp : 0 < N ^ m := by omega
  have e1 : B m = C m := by
   have h1 : (code N B m + B m * N ^ m) / N ^ m = B m := by rw [Nat.add_mul_div_right _ _ hp, Nat.div_eq_of_lt b1, Nat.zero_add]
   have h2 : (code N C m + C m * N ^ m) / N ^ m = C m := by rw [Nat.add_mul_div_right _ _ hp, Nat.div_eq_of_lt c1, Nat.zero_add]
   rw [← h1, ← h2, h]
  by_cases e : i = m
  ·
   subst e; exact e1
  ·
   rw [e1] at h
   exact code_inj (m := m) (fun i hi => hb i xd) (fun i hi => hc i xd) xd i xd
theorem pigeon : ∀ (K L : Nat) (f : Nat → Nat), (∀ p, p ≤ L → f p < K) → (∀ p q, p < q → q ≤ L → f p ≠ f q) → L < K
 | 0, L, f, h, _ => by have := h 0 xd; omega
 | K + 1, L, f, h, hd => by
  by_cases hex : ∃ p, p ≤ L ∧ f p = K
  ·
   obtain ⟨p0, hp0, e⟩ := hex
   by_cases hL : L = 0
   ·
    omega
   have := pigeon K (L - 1) (fun p => if p < p0 then f p else f (p + 1)) (fun p hp => by
    show (if p < p0 then f p else f (p + 1)) < K
    by_cases h1 : p < p0
    ·
     rw [if_pos h1]
     have := h p xd
     have := hd p p0 h1 hp0
     omega
    ·
     rw [if_neg h1]
     have := h (p + 1) xd
     have := hd p0 (p + 1) xd xd
     omega) (fun p q hpq hq => by
    show (if p < p0 then f p else f (p + 1)) ≠ (if q < p0 then f q else f (q + 1))
    by_cases h1 : p < p0
    ·
     rw [if_pos h1]
     by_cases h2 : q < p0
     ·
      rw [if_pos h2]; exact hd p q hpq xd
     ·
      rw [if_neg h2]; exact hd p (q + 1) xd xd
    ·
     rw [if_neg h1, if_neg xd]; exact hd (p + 1) (q + 1) xd xd)
   omega
  ·
   have := pigeon K L f (fun p hp => by
    have h1 := h p hp
    have h2 : f p ≠ K := fun e => hex ⟨p, hp, e⟩
    omega) hd
   omega
theorem run_short {m N vars L : Nat} {T : Nat → Tab} {rr kk : Nat → Nat} (h0 : Can m N (T 0)) (hs : ∀ p, p < L → Step m N vars (T p) (T (p + 1)) (rr p) (kk p)) : L < N ^ m := by
 have hc := can_all h0 hs
 refine pigeon (N ^ m) L (fun p => code N (T p).B m) (fun p hp => code_lt (hc p hp).lt) (fun p q hpq hq e => ?_)
 have h1 := code_inj (hc p xd).lt (hc q hq).lt e
 exact no_cycle (L := q - p) (T := fun x => T (p + x)) (rr := fun x => rr (p + x)) (kk := fun x => kk (p + x)) (vars := vars) (m := m) (N := N) (hc p xd) (fun x hx => hs (p + x) xd) xd (fun i hi => by
  show (T (p + (q - p))).B i = (T (p + 0)).B i
  rw [show p + (q - p) = q by omega, Nat.add_zero]
  exact (h1 i hi).symm)
end Go.Proofs.YtllkbjcemecmjaaGreat.Bl
end
section
namespace Go.Proofs.YtllkbjcemecmjaaGreat.Aw
open Go.RowKit
open Bl (Tab Can Pv Step)
theorem fe_of2 {o : Option Fr} (h : (FE.of o).e = 0) : ∃ c, o = some c ∧ (FE.of o).fr = c := by
 cases o with
 | none => cases h
 | some c => exact ⟨c, rfl, rfl⟩
theorem smul_val {a b : Fr} (ha : a.ok) (hb : b.ok) (h : (mulE a b).e = 0) : (mulE a b).fr.ok ∧ val (mulE a b).fr = val a * val b := by
 unfold mulE at h ⊢
 rw [Fr.okB_of ha, Fr.okB_of hb] at h ⊢
 obtain ⟨c, h1, h2⟩ := fe_of2 (o := fmul a b) h
 have e : (if (true && true) = true then FE.of (fmul a b) else FE.err 1).fr = c := h2
 rw [e]
 exact ⟨mkF_ok (by have := Int.mul_pos (d_pos ha) (d_pos hb); omega) h1, val_mul ha hb h1⟩
theorem ssub_val {a b : Fr} (ha : a.ok) (hb : b.ok) (h : (subE a b).e = 0) : (subE a b).fr.ok ∧ val (subE a b).fr = val a - val b := by
 unfold subE at h ⊢
 rw [Fr.okB_of ha, Fr.okB_of hb] at h ⊢
 obtain ⟨c, h1, h2⟩ := fe_of2 (o := fsub a b) h
 have e : (if (true && true) = true then FE.of (fsub a b) else FE.err 1).fr = c := h2
 rw [e]
 exact ⟨mkF_ok (by have := Int.mul_pos (d_pos ha) (d_pos (fneg_ok hb)); omega) h1, val_sub ha hb h1⟩
theorem val_divN {a b c : Fr} (ha : a.ok) (hb : b.ok) (hp : b.n ≠ 0) (h : fdiv a b = some c) : val c = val a / val b := by
 have e1 := cast_ne (d_pos ha)
 have e2 := cast_ne (d_pos hb)
 have e3 : (b.n : Rat) ≠ 0 := by exact_mod_cast hp
 by_cases hq : 0 < b.n
 ·
  rw [val_mkF (Int.mul_pos (d_pos ha) hq) h]
  unfold val
  push_cast
  grind
 ·
  have hq2 : 0 < -b.n := by omega
  unfold fdiv at h
  rw [← mkF_neg, ← Int.mul_neg, ← Int.mul_neg] at h
  rw [val_mkF (Int.mul_pos (d_pos ha) hq2) h]
  unfold val
  push_cast
  grind
theorem divE_val {a b : Fr} (ha : a.ok) (hb : b.ok) (h : (divE a b).e = 0) : b.n ≠ 0 ∧ (divE a b).fr.ok ∧ val (divE a b).fr = val a / val b := by
 unfold divE at h ⊢
 rw [Fr.okB_of ha, Fr.okB_of hb] at h ⊢
 by_cases hn : b.n = 0
 ·
  simp only [Bool.and_self, if_true, if_pos hn] at h; cases h
 ·
  simp only [Bool.and_self, if_true, if_neg hn] at h ⊢
  obtain ⟨c, h1, h2⟩ := fe_of2 (o := fdiv a b) h
  rw [h2]
  exact ⟨hn, mkF_ok (by have h3 := d_pos ha; intro e; rcases Int.mul_eq_zero.1 e with h | h <;> omega) h1, val_divN ha hb hn h1⟩
theorem val_z {a : Fr} (h : a.n = 0) : val a = 0 := by unfold val; rw [h, Rat.div_def]; exact Rat.zero_mul _
theorem val_nz {a : Fr} (ha : a.ok) (h : a.n ≠ 0) : val a ≠ 0 := by
 have e2 := cast_ne (d_pos ha)
 have e3 : (a.n : Rat) ≠ 0 := by exact_mod_cast h
 unfold val
 intro e
 have : (a.n : Rat) = 0 := by grind
 exact e3 this
theorem val_pos_iff {a : Fr} (ha : a.ok) : 0 < val a ↔ 0 < a.n := by
 constructor
 ·
  intro h
  refine Classical.byContradiction fun hn => ?_
  have h1 := val_nn (a := fneg a) ⟨fneg_ok ha, by simp only [fneg]; omega⟩
  rw [val_neg] at h1
  grind
 ·
  intro h
  have h1 := val_nn (a := a) ⟨ha, by omega⟩
  have h2 := val_nz ha xd
  grind
theorem val_neg_iff {a : Fr} (ha : a.ok) : val a < 0 ↔ a.n < 0 := by
 have h1 := val_pos_iff (fneg_ok ha)
 rw [val_neg] at h1
 simp only [fneg] at h1
 constructor
 ·
  intro h; have := h1.1 (by grind); omega
 ·
  intro h; have := h1.2 xd; grind
theorem gtiF_cons0 (a : Fr) (l : List Fr) : gti (a :: l) 0 = a := rfl
theorem gtiF_consS (a : Fr) (l : List Fr) (j : Nat) : gti (a :: l) (j + 1) = gti l j := by simp [gti]
theorem gtiF_drop1 (l : List Fr) (j : Nat) : gti (l.drop 1) j = gti l (j + 1) := by simp [gti, Nat.add_comm]
theorem lessL_ok {by_ : Fr} (hby : by_.ok) : ∀ (xs bs : List Fr), xs.length ≤ bs.length → (∀ x ∈ xs, x.ok) → (∀ x ∈ bs, x.ok) → (zdr by_ xs bs).2 = 0 →
  (zdr by_ xs bs).1.length = xs.length ∧ (∀ x ∈ (zdr by_ xs bs).1, x.ok) ∧ ∀ j, j < xs.length → val (gti (zdr by_ xs bs).1 j) = val (gti xs j) - val by_ * val (gti bs j)
 | [], bs, _, _, _, _ => ⟨rfl, by simp [zdr], fun j hj => by simp at hj⟩
 | a :: xs, bs, hl, ha, hb, h => by
  have hb0 : (gti bs 0).ok := hb _ (zds (by simp at hl; omega))
  unfold zdr at h ⊢
  by_cases h1 : (mulE by_ (gti bs 0)).e ≠ 0
  ·
   simp only [if_pos h1] at h; exact absurd h h1
  ·
   simp only [if_neg h1] at h ⊢
   obtain ⟨k1, k2⟩ := smul_val hby hb0 (Decidable.not_not.1 h1)
   by_cases h2 : (subE a (mulE by_ (gti bs 0)).fr).e ≠ 0
   ·
    simp only [if_pos h2] at h; exact absurd h h2
   ·
    simp only [if_neg h2] at h ⊢
    obtain ⟨k3, k4⟩ := ssub_val (ha a xo) k1 (Decidable.not_not.1 h2)
    by_cases h3 : (zdr by_ xs (bs.drop 1)).2 ≠ 0
    ·
     simp only [if_pos h3] at h; exact absurd h h3
    ·
     simp only [if_neg h3] at h ⊢
     obtain ⟨i1, i2, i3⟩ := lessL_ok hby xs (bs.drop 1) (by simp at hl ⊢; omega) (fun x hx => ha x (by simp [hx])) (fun x hx => hb x (List.mem_of_mem_drop hx)) (Decidable.not_not.1 h3)
     refine ⟨congrArg (· + 1) i1, fun x hx => ?_, fun j hj => ?_⟩
     ·
      rcases List.mem_cons.1 hx with rfl | hx
      ·
       exact k3
      ·
       exact i2 x hx
     ·
      cases j with
      | zero => rw [gtiF_cons0, gtiF_cons0, k4, k2]
      | succ j => rw [gtiF_consS, gtiF_consS, i3 j (by simpa using hj), gtiF_drop1]
theorem divL_ok {by_ : Fr} (hby : by_.ok) : ∀ (xs : List Fr), (∀ x ∈ xs, x.ok) → (divL by_ xs).2 = 0 →
  (divL by_ xs).1.length = xs.length ∧ (∀ x ∈ (divL by_ xs).1, x.ok) ∧ (xs ≠ [] → by_.n ≠ 0) ∧ ∀ j, j < xs.length → val (gti (divL by_ xs).1 j) = val (gti xs j) / val by_
 | [], _, _ => ⟨rfl, by simp [divL], fun h => absurd rfl h, fun j hj => by simp at hj⟩
 | a :: xs, ha, h => by
  unfold divL at h ⊢
  by_cases h1 : (divE a by_).e ≠ 0
  ·
   simp only [if_pos h1] at h; exact absurd h h1
  ·
   simp only [if_neg h1] at h ⊢
   obtain ⟨k0, k1, k2⟩ := divE_val (ha a xo) hby (Decidable.not_not.1 h1)
   by_cases h3 : (divL by_ xs).2 ≠ 0
   ·
    simp only [if_pos h3] at h; exact absurd h h3
   ·
    simp only [if_neg h3] at h ⊢
    obtain ⟨i1, i2, i3, i4⟩ := divL_ok hby xs (fun x hx => ha x (by simp [hx])) (Decidable.not_not.1 h3)
    refine ⟨by simp [i1], fun x hx => ?_, fun _ => k0, fun j hj => ?_⟩
    ·
     rcases List.mem_cons.1 hx with rfl | hx
     ·
      exact k1
     ·
      exact i2 x hx
    ·
     cases j with
     | zero => rw [gtiF_cons0, gtiF_cons0, k2]
     | succ j => rw [gtiF_consS, gtiF_consS, i4 j (by simpa using hj)]
structure TbOk (m N : Nat) (t : Tb) : Prop where
 rl : t.rows.length = m
 rw_ : ∀ r ∈ t.rows, r.length = N + 1 ∧ ∀ x ∈ r, x.ok
 cl : t.cost.length = N + 1
 co : ∀ x ∈ t.cost, x.ok
 bl : t.bas.length = m
 bs : ∀ i, i < m → 0 ≤ gti t.bas i ∧ gti t.bas i < N
def zdd (t : Tb) : Tab := ⟨fun i j => val (gti (gti t.rows i) j), fun j => val (gti t.cost j), fun i => (gti t.bas i).toNat⟩
theorem TbOk.row {m N : Nat} {t : Tb} (h : TbOk m N t) {i : Nat} (hi : i < m) : (gti t.rows i).length = N + 1 ∧ ∀ x ∈ gti t.rows i, x.ok := h.rw_ _ (zds (by rw [h.rl]; exact hi))
theorem TbOk.cell {m N : Nat} {t : Tb} (h : TbOk m N t) {i j : Nat} (hi : i < m) (hj : j ≤ N) : (gti (gti t.rows i) j).ok := by
 obtain ⟨h1, h2⟩ := h.row hi
 exact h2 _ (zds xd)
theorem TbOk.cc {m N : Nat} {t : Tb} (h : TbOk m N t) {j : Nat} (hj : j ≤ N) : (gti t.cost j).ok := h.co _ (zds (by have := h.cl; omega))
theorem gtiL_set (l : List (List Fr)) (i j : Nat) (r : List Fr) (h : i < l.length) : gti (l.set i r) j = if i = j then r else gti l j := by
 unfold gti
 by_cases e : i = j
 ·
  subst e; rw [if_pos rfl, List.getElem?_set_self h]; rfl
 ·
  rw [if_neg e, List.getElem?_set_ne e]
theorem gtiI_set (l : List Int) (i j : Nat) (r : Int) (h : i < l.length) : gti (l.set i r) j = if i = j then r else gti l j := by
 unfold gti
 by_cases e : i = j
 ·
  subst e; rw [if_pos rfl, List.getElem?_set_self h]; rfl
 ·
  rw [if_neg e, List.getElem?_set_ne e]
theorem TbOk.setRow {m N : Nat} {t : Tb} (h : TbOk m N t) {i : Nat} {r : List Fr} (hr : r.length = N + 1) (ho : ∀ x ∈ r, x.ok) (e : Int) : TbOk m N { t with rows := t.rows.set i r, e := e } :=
 ⟨by show (t.rows.set i r).length = m; rw [List.length_set]; exact h.rl, fun x hx => by
  rcases List.mem_or_eq_of_mem_set hx with hx | rfl
  ·
   exact h.rw_ x hx
  ·
   exact ⟨hr, ho⟩, h.cl, h.co, h.bl, h.bs⟩
theorem pivJ_ok {m N i k : Nat} {row : List Fr} (hk : k ≤ N) (hrl : row.length = N + 1) (hro : ∀ x ∈ row, x.ok) : ∀ (f j : Nat) (t : Tb), TbOk m N t → t.e = 0 → f + j = m → (pivJ i k row f j t).e = 0 →
  TbOk m N (pivJ i k row f j t) ∧ (pivJ i k row f j t).cost = t.cost ∧ (pivJ i k row f j t).bas = t.bas ∧ (pivJ i k row f j t).last = t.last ∧
  (∀ q, q < m → (q < j ∨ q = i) → gti (pivJ i k row f j t).rows q = gti t.rows q) ∧
  ∀ q, q < m → j ≤ q → q ≠ i → ∀ v, v ≤ N → val (gti (gti (pivJ i k row f j t).rows q) v) = val (gti (gti t.rows q) v) - val (gti (gti t.rows q) k) * val (gti row v)
 | 0, j, t, ht, _, hf, _ => ⟨ht, rfl, rfl, rfl, fun _ _ _ => rfl, fun q h1 h2 => by omega⟩
 | f + 1, j, t, ht, he, hf, h => by
  unfold pivJ at h ⊢
  have hj : j < m := by omega
  by_cases hc : j = i ∨ (gti (gti t.rows j) k).n = 0
  ·
   simp only [if_pos hc] at h ⊢
   obtain ⟨a1, a2, a3, a4, a5, a6⟩ := pivJ_ok hk hrl hro f (j + 1) t ht he xd h
   refine ⟨a1, a2, a3, a4, fun q hq h1 => a5 q hq xd, fun q hq h1 h2 v hv => ?_⟩
   by_cases e : q = j
   ·
    subst e
    rw [a5 q hq xd]
    rcases hc with hc | hc
    ·
     exact absurd hc h2
    ·
     rw [val_z hc]; grind
   ·
    exact a6 q hq xd h2 v hv
  ·
   simp only [if_neg hc] at h ⊢
   have hc2 : j ≠ i := fun e => hc (.inl e)
   obtain ⟨b1, b2⟩ := ht.row hj
   by_cases h1 : (zdr (gti (gti t.rows j) k) (gti t.rows j) row).2 ≠ 0
   ·
    simp only [if_pos h1] at h; exact absurd h h1
   ·
    simp only [if_neg h1] at h ⊢
    obtain ⟨c1, c2, c3⟩ := lessL_ok (ht.cell hj hk) (gti t.rows j) row xd b2 hro (Decidable.not_not.1 h1)
    have hset := gtiL_set t.rows j
    have ht' := ht.setRow (i := j) (r := (zdr (gti (gti t.rows j) k) (gti t.rows j) row).1) xd c2 t.e
    obtain ⟨a1, a2, a3, a4, a5, a6⟩ := pivJ_ok hk hrl hro f (j + 1) _ ht' he xd h
    refine ⟨a1, a2, a3, a4, fun q hq h2 => ?_, fun q hq h2 h3 v hv => ?_⟩
    ·
     rw [a5 q hq xd]
     show gti (t.rows.set j _) q = _
     rw [gtiL_set _ _ _ _ (by rw [ht.rl]; exact hj), if_neg xd]
    ·
     by_cases e : q = j
     ·
      subst e
      rw [a5 q hq xd]
      show val (gti (gti (t.rows.set q _) q) v) = _
      rw [gtiL_set _ _ _ _ (by rw [ht.rl]; exact hj), if_pos rfl, c3 v xd]
     ·
      rw [a6 q hq xd h3 v hv]
      show val (gti (gti (t.rows.set j _) q) v) - val (gti (gti (t.rows.set j _) q) k) * _ = _
      rw [gtiL_set _ _ _ _ (by rw [ht.rl]; exact hj), if_neg xd]
theorem pivE_ok {m N i k : Nat} {t : Tb} (ht : TbOk m N t) (he : t.e = 0) (hi : i < m) (hk : k < N) (h : (pivE i k t).e = 0) :
  TbOk m N (pivE i k t) ∧ Pv m N (zdd t) (zdd (pivE i k t)) i k ∧ (pivE i k t).last = t.last := by
 obtain ⟨b1, b2⟩ := ht.row hi
 unfold pivE at h ⊢
 by_cases h1 : (divL (gti (gti t.rows i) k) (gti t.rows i)).2 ≠ 0
 ·
  simp only [if_pos h1] at h; exact absurd h h1
 simp only [if_neg h1] at h ⊢
 obtain ⟨d1, d2, d3, d4⟩ := divL_ok (ht.cell hi xd) (gti t.rows i) b2 (Decidable.not_not.1 h1)
 generalize (divL (gti (gti t.rows i) k) (gti t.rows i)).1 = row at h d1 d2 d4 ⊢
 have hnz : (gti (gti t.rows i) k).n ≠ 0 := d3 (by intro e; rw [e] at b1; simp at b1)
 have ht1 : TbOk m N { t with rows := t.rows.set i row, bas := t.bas.set i (k : Int) } := by
  have h2 := ht.setRow (i := i) (r := row) xd d2 t.e
  refine ⟨h2.rl, h2.rw_, h2.cl, h2.co, by show (t.bas.set i (k : Int)).length = m; rw [List.length_set]; exact ht.bl, fun q hq => ?_⟩
  show 0 ≤ gti (t.bas.set i (k : Int)) q ∧ gti (t.bas.set i (k : Int)) q < N
  rw [gtiI_set _ _ _ _ (by rw [ht.bl]; exact hi)]
  split
  ·
   omega
  ·
   exact ht.bs q hq
 have hlen : t.rows.length = m := ht.rl
 rw [hlen] at h ⊢
 by_cases h2 : (pivJ i k row m 0 { t with rows := t.rows.set i row, bas := t.bas.set i (k : Int) }).e ≠ 0
 ·
  simp only [if_pos h2] at h; exact absurd h h2
 simp only [if_neg h2] at h ⊢
 obtain ⟨a1, a2, a3, a4, a5, a6⟩ := pivJ_ok (i := i) (k := k) xd xd d2 m 0 _ ht1 he xd (Decidable.not_not.1 h2)
 have a7 : gti (pivJ i k row m 0 { t with rows := t.rows.set i row, bas := t.bas.set i (k : Int) }).rows i = row := by
  rw [a5 i hi (.inr rfl)]
  show gti (t.rows.set i row) i = row
  rw [gtiL_set _ _ _ _ (by rw [ht.rl]; exact hi), if_pos rfl]
 have a8 : ∀ q, q < m → q ≠ i → ∀ v, v ≤ N → val (gti (gti (pivJ i k row m 0 { t with rows := t.rows.set i row, bas := t.bas.set i (k : Int) }).rows q) v) = val (gti (gti t.rows q) v) - val (gti (gti t.rows q) k) * val (gti row v) := fun q hq hne v hv => by
  rw [a6 q hq xd hne v hv]
  show val (gti (gti (t.rows.set i row) q) v) - val (gti (gti (t.rows.set i row) q) k) * _ = _
  rw [gtiL_set _ _ _ _ (by rw [ht.rl]; exact hi), if_neg (Ne.symm hne)]
 have hbe : (pivJ i k row m 0 { t with rows := t.rows.set i row, bas := t.bas.set i (k : Int) }).e = 0 := Decidable.not_not.1 h2
 generalize pivJ i k row m 0 { t with rows := t.rows.set i row, bas := t.bas.set i (k : Int) } = t1 at h a1 a2 a3 a4 a7 a8 hbe ⊢
 replace a2 : t1.cost = t.cost := a2
 replace a3 : t1.bas = t.bas.set i (k : Int) := a3
 replace a4 : t1.last = t.last := a4
 -- the costs
 have hcost : TbOk m N (pivC k row t1) ∧ (pivC k row t1).rows = t1.rows ∧ (pivC k row t1).bas = t1.bas ∧ (pivC k row t1).last = t1.last ∧ ∀ v, v ≤ N → val (gti (pivC k row t1).cost v) = val (gti t.cost v) - val (gti t.cost k) * val (gti row v) := by
  unfold pivC at h ⊢
  by_cases h3 : (gti t1.cost k).n = 0
  ·
   simp only [if_pos h3] at h ⊢
   refine ⟨a1, trivial, trivial, trivial, fun v hv => ?_⟩
   rw [a2] at h3 ⊢
   rw [val_z h3]; grind
  ·
   simp only [if_neg h3] at h ⊢
   rw [a2] at h ⊢
   obtain ⟨c1, c2, c3⟩ := lessL_ok (ht.cc (j := k) xd) t.cost row (by have := ht.cl; omega) ht.co d2 h
   have hcl := ht.cl
   exact ⟨⟨a1.rl, a1.rw_, by show (zdr _ _ _).1.length = _; omega, c2, a1.bl, a1.bs⟩, trivial, trivial, trivial, fun v hv => c3 v xd⟩
 obtain ⟨e1, e2, e3, e4, e5⟩ := hcost
 refine ⟨e1, ⟨hi, hk, val_nz (ht.cell hi xd) hnz, fun v hv => ?_, fun q v hq hne hv => ?_, fun v hv => ?_, ?_, fun q hq hne => ?_⟩, e4.trans a4⟩
 ·
  show val (gti (gti (pivC k row t1).rows i) v) = _
  rw [e2, a7, d4 v xd]; rfl
 ·
  show val (gti (gti (pivC k row t1).rows q) v) = _
  rw [e2, a8 q hq hne v hv, d4 v xd]; rfl
 ·
  show val (gti (pivC k row t1).cost v) = _
  rw [e5 v hv, d4 v xd]; rfl
 ·
  show (gti (pivC k row t1).bas i).toNat = k
  rw [e3, a3, gtiI_set _ _ _ _ (by rw [ht.bl]; exact hi), if_pos rfl]; rfl
 ·
  show (gti (pivC k row t1).bas q).toNat = (gti t.bas q).toNat
  rw [e3, a3, gtiI_set _ _ _ _ (by rw [ht.bl]; exact hi), if_neg (Ne.symm hne)]
end Go.Proofs.YtllkbjcemecmjaaGreat.Aw
end
section
namespace Go.Proofs.YtllkbjcemecmjaaGreat.Aw
open Go.RowKit
open Bl (Tab Can Pv Step Ker lin)
theorem cmpN_lt {a b : Fr} (ha : a.ok) (hb : b.ok) : cmpN a b < 0 ↔ val a < val b := by
 have h1 := val_le hb ha
 unfold cmpN
 constructor
 ·
  intro h
  split at h
  ·
   refine Rat.not_le.1 (fun hc => ?_)
   have := h1.1 hc
   omega
  ·
   split at h <;> omega
 ·
  intro h
  split
  ·
   omega
  ·
   have : val b ≤ val a := h1.2 xd
   exact absurd h (Rat.not_lt.2 this)
theorem cmpN_eq {a b : Fr} (ha : a.ok) (hb : b.ok) : cmpN a b = 0 ↔ val a = val b := by
 have h1 := val_le hb ha
 have h2 := val_le ha hb
 unfold cmpN
 constructor
 ·
  intro h
  split at h
  ·
   omega
  ·
   split at h
   ·
    omega
   ·
    exact Rat.le_antisymm (h2.2 xd) (h1.2 xd)
 ·
  intro h
  have h3 := h1.1 (by rw [h]; exact Rat.le_refl)
  have h4 := h2.1 (by rw [h]; exact Rat.le_refl)
  rw [if_neg xd, if_neg xd]
theorem cmpE_ok {a b : Fr} (ha : a.ok) (hb : b.ok) : cmpE a b = (cmpN a b, 0) := by
 unfold cmpE
 rw [Fr.okB_of ha, Fr.okB_of hb]; rfl
def LvI (N k : Nat) (t : Tb) (i : Nat) (best : Int) (least : Fr) : Prop :=
 (best = -1 ∧ ∀ q, q < i → ¬ 0 < val (gti (gti t.rows q) k)) ∨
 ∃ b : Nat, best = b ∧ b < i ∧ least.ok ∧ 0 < val (gti (gti t.rows b) k) ∧ val least = val (gti (gti t.rows b) N) / val (gti (gti t.rows b) k) ∧
  ∀ q, q < i → 0 < val (gti (gti t.rows q) k) → val least ≤ val (gti (gti t.rows q) N) / val (gti (gti t.rows q) k) ∧ (val (gti (gti t.rows q) N) / val (gti (gti t.rows q) k) = val least → gti t.bas b ≤ gti t.bas q)
theorem lvF_ok {m N k : Nat} {t : Tb} (ht : TbOk m N t) (hk : k ≤ N) : ∀ (f i : Nat) (best : Int) (least : Fr), f + i = m → LvI N k t i best least → (lvF k t f i best least).2 = 0 → ∃ l, LvI N k t m (lvF k t f i best least).1 l
 | 0, i, best, least, hf, hI, _ => by
  have e : i = m := by omega
  subst e
  exact ⟨least, hI⟩
 | f + 1, i, best, least, hf, hI, h => by
  have hi : i < m := by omega
  obtain ⟨b1, b2⟩ := ht.row hi
  have hck := ht.cell hi hk
  have hcN := ht.cell (j := N) hi (Nat.le_refl _)
  unfold lvF at h ⊢
  dsimp only at h ⊢
  have hlen : (gti t.rows i).length - 1 = N := by omega
  rw [hlen] at h ⊢
  by_cases h1 : (gti (gti t.rows i) k).n ≤ 0
  ·
   simp only [if_pos h1] at h ⊢
   have hnp : ¬ 0 < val (gti (gti t.rows i) k) := fun hp => by have := (val_pos_iff hck).1 hp; omega
   refine lvF_ok ht hk f (i + 1) best least xd ?_ h
   rcases hI with ⟨g1, g2⟩ | ⟨b, g1, g2, g3, g4, g5, g6⟩
   ·
    refine .inl ⟨g1, fun q hq => ?_⟩
    by_cases e : q = i
    ·
     subst e; exact hnp
    ·
     exact g2 q xd
   ·
    refine .inr ⟨b, g1, by omega, g3, g4, g5, fun q hq hp => ?_⟩
    by_cases e : q = i
    ·
     subst e; exact absurd hp hnp
    ·
     exact g6 q xd hp
  ·
   simp only [if_neg h1] at h ⊢
   have hp : 0 < val (gti (gti t.rows i) k) := (val_pos_iff hck).2 xd
   by_cases h2 : (divE (gti (gti t.rows i) N) (gti (gti t.rows i) k)).e ≠ 0
   ·
    simp only [if_pos h2] at h; exact absurd h h2
   ·
    simp only [if_neg h2] at h ⊢
    obtain ⟨k0, k1, k2⟩ := divE_val hcN hck (Decidable.not_not.1 h2)
    generalize (divE (gti (gti t.rows i) N) (gti (gti t.rows i) k)).fr = r at h k1 k2 ⊢
    rcases hI with ⟨g1, g2⟩ | ⟨b, g1, g2, g3, g4, g5, g6⟩
    ·
     subst g1
     have hc : ((if (-1 : Int) < 0 then (-1 : Int) else (cmpE r least).1) < 0 ∨ ((if (-1 : Int) < 0 then (-1 : Int) else (cmpE r least).1) = 0 ∧ gti t.bas i < gti t.bas (-1 : Int).toNat)) := .inl xo
     rw [if_pos hc] at h ⊢
     refine lvF_ok ht hk f (i + 1) i r xd (.inr ⟨i, rfl, by omega, k1, hp, k2, fun q hq hqp => ?_⟩) h
     by_cases e : q = i
     ·
      subst e; rw [k2]; exact ⟨Rat.le_refl, fun _ => Int.le_refl _⟩
     ·
      exact absurd hqp (g2 q xd)
    ·
     subst g1
     have hb0 : ¬ (b : Int) < 0 := by omega
     rw [if_neg hb0, cmpE_ok k1 g3] at h ⊢
     have e1 := cmpN_lt k1 g3
     have e2 := cmpN_eq k1 g3
     have hbt : (b : Int).toNat = b := rfl
     rw [hbt] at h ⊢
     by_cases hc : cmpN r least < 0 ∨ (cmpN r least = 0 ∧ gti t.bas i < gti t.bas b)
     ·
      simp only [if_pos hc] at h ⊢
      refine lvF_ok ht hk f (i + 1) i r xd (.inr ⟨i, rfl, by omega, k1, hp, k2, fun q hq hqp => ?_⟩) h
      have hle : val r ≤ val least := by
       rcases hc with hc | hc
       ·
        exact Rat.le_of_lt (e1.1 hc)
       ·
        rw [e2.1 hc.1]; exact Rat.le_refl
      by_cases e : q = i
      ·
       subst e; rw [k2]; exact ⟨Rat.le_refl, fun _ => Int.le_refl _⟩
      ·
       obtain ⟨j1, j2⟩ := g6 q xd hqp
       refine ⟨Rat.le_trans hle j1, fun he => ?_⟩
       have hle2 : val least ≤ val r := by rw [← he]; exact j1
       have heq : val r = val least := Rat.le_antisymm hle hle2
       have := j2 (he.trans heq)
       rcases hc with hc | hc
       ·
        have := e1.1 hc
        rw [heq] at this
        exact absurd this (Rat.lt_irrefl)
       ·
        omega
     ·
      simp only [if_neg hc] at h ⊢
      refine lvF_ok ht hk f (i + 1) b least xd (.inr ⟨b, rfl, by omega, g3, g4, g5, fun q hq hqp => ?_⟩) h
      by_cases e : q = i
      ·
       subst e
       have h3 : ¬ val r < val least := fun hlt => hc (.inl (e1.2 hlt))
       rw [← k2]
       refine ⟨Rat.not_lt.1 h3, fun he => ?_⟩
       have h4 := e2.2 he
       have : ¬ gti t.bas q < gti t.bas b := fun hlt => hc (.inr ⟨h4, hlt⟩)
       omega
      ·
       exact g6 q xd hqp
theorem firstAt_get {α : Type} [Inhabited α] {p : α → Bool} {l : List α} (h : 0 ≤ zc2 p l) : ∃ k : Nat, zc2 p l = k ∧ k < l.length ∧ p (gti l k) = true ∧ ∀ j, j < k → p (gti l j) = false := by
 unfold zc2 at h ⊢
 cases e : l.findIdx? p with
 | none => rw [e] at h; simp at h
 | some k =>
  obtain ⟨h1, h2, h3⟩ := List.findIdx?_eq_some_iff_getElem.1 e
  refine ⟨k, rfl, h1, ?_, fun j hj => ?_⟩
  ·
   unfold Go.Proofs.YtllkbjcemecmjaaGreat.gti; rw [List.getElem?_eq_getElem h1]; exact h2
  ·
   have := h3 j hj
   unfold Go.Proofs.YtllkbjcemecmjaaGreat.gti; rw [List.getElem?_eq_getElem xd]
   simpa using this
theorem gti_takeF {l : List Fr} {n j : Nat} (h : j < n) : gti (l.take n) j = gti l j := by
 unfold Go.Proofs.YtllkbjcemecmjaaGreat.gti; rw [List.getElem?_take, if_pos h]
theorem runS_step {m N vars : Nat} {t t' : Tb} (hv : vars ≤ N) (ht : TbOk m N t) (h : runS vars t = .inr t') (he : t'.e = 0) :
  t.e = 0 ∧ TbOk m N t' ∧ t'.last = t.last ∧ ∃ r k, Step m N vars (zdd t) (zdd t') r k := by
 unfold runS at h
 by_cases h0 : t.e ≠ 0
 ·
  simp only [if_pos h0] at h; cases h
 simp only [if_neg h0] at h
 have h0' := Decidable.not_not.1 h0
 by_cases h1 : zc2 negF (t.cost.take vars) < 0
 ·
  simp only [if_pos h1] at h; cases h
 simp only [if_neg h1] at h
 obtain ⟨k, hk, hkl, hkn, hkf⟩ := firstAt_get (p := negF) (l := t.cost.take vars) xd
 have hcl := ht.cl
 have hkv : k < vars := by rw [List.length_take] at hkl; omega
 rw [hk] at h
 have hkt : (k : Int).toNat = k := rfl
 rw [hkt] at h
 by_cases h2 : (lvE k t).2 ≠ 0
 ·
  simp only [if_pos h2] at h; cases h
 simp only [if_neg h2] at h
 by_cases h3 : (lvE k t).1 < 0
 ·
  simp only [if_pos h3] at h; cases h
 simp only [if_neg h3] at h
 obtain ⟨l, hl⟩ := lvF_ok ht (k := k) xd t.rows.length 0 (-1) ⟨0, 0⟩ (by rw [ht.rl]; omega) (.inl ⟨rfl, fun q hq => by omega⟩) (Decidable.not_not.1 h2)
 replace hl : LvI N k t m (lvE k t).1 l := hl
 rcases hl with ⟨g1, _⟩ | ⟨r, g1, g2, g3, g4, g5, g6⟩
 ·
  omega
 rw [g1] at h
 have hrt : (r : Int).toNat = r := rfl
 rw [hrt] at h
 injection h with h
 subst h
 obtain ⟨p1, p2, p3⟩ := pivE_ok ht h0' g2 xd he
 refine ⟨h0', p1, p3, r, k, { p2 with kv := hkv, neg := ?_, first := fun j hj => ?_, pos := g4, least := fun i hi hp => ?_, tie := fun i hi hp he2 => ?_ }⟩
 ·
  rw [gti_takeF hkv] at hkn
  exact (val_neg_iff (ht.cc xd)).2 (of_decide_eq_true hkn)
 ·
  have := hkf j hj
  rw [gti_takeF xd] at this
  have h5 : ¬ val (gti t.cost j) < 0 := fun hc => (of_decide_eq_false this) ((val_neg_iff (ht.cc xd)).1 hc)
  exact Rat.not_lt.1 h5
 ·
  have := (g6 i hi hp).1
  rw [g5] at this
  exact this
 ·
  have := (g6 i hi hp).2 (by rw [g5]; exact he2)
  show (gti t.bas r).toNat ≤ (gti t.bas i).toNat
  omega
theorem runE_inv {vars : Nat} (I : Tb → Prop) (hst : ∀ t t', I t → runS vars t = .inr t' → t'.e = 0 → I t') : ∀ (f : Nat) (t t' : Tb) (k : Int), I t → runE vars f t = some (t', k) → t'.e = 0 → I t'
 | 0, t, t', k, _, h, _ => by cases h
 | f + 1, t, t', k, hI, h, he => by
  unfold runE at h
  cases hr : runS vars t with
  | inl r =>
   rw [hr] at h
   cases h
   unfold runS at hr
   by_cases h0 : t.e ≠ 0
   ·
    simp only [if_pos h0] at hr; cases hr; exact hI
   simp only [if_neg h0] at hr
   split at hr
   ·
    cases hr; exact hI
   ·
    split at hr
    ·
     rename_i h2; cases hr; exact absurd he h2
    ·
     split at hr
     ·
      cases hr; exact hI
     ·
      cases hr
  | inr t1 =>
   rw [hr] at h
   replace h : runE vars f t1 = some (t', k) := h
   by_cases he1 : t1.e = 0
   ·
    exact runE_inv I hst f t1 t' k (hst t t1 hI hr he1) h he
   ·
    -- the next round stops at once
    cases f with
    | zero => cases h
    | succ f =>
     unfold runE at h
     have : runS vars t1 = .inl (t1, -1) := by unfold runS; simp only [if_pos he1]
     rw [this] at h
     cases h
     exact absurd he he1
def itS (vars : Nat) (t : Tb) : Nat → Tb
 | 0 => t
 | p + 1 => match runS vars (itS vars t p) with
  | .inr t' => t'
  | .inl _ => itS vars t p
theorem runE_none {vars : Nat} : ∀ (f : Nat) (t : Tb), runE vars f t = none → ∀ p, p < f → runS vars (itS vars t p) = .inr (itS vars t (p + 1))
 | 0, _, _, p, hp => by omega
 | f + 1, t, h, p, hp => by
  unfold runE at h
  cases hr : runS vars t with
  | inl r => rw [hr] at h; cases h
  | inr t1 =>
   rw [hr] at h
   have shift : ∀ q, itS vars t (q + 1) = itS vars t1 q := by
    intro q
    induction q with
    | zero =>
     show (match runS vars (itS vars t 0) with | .inr t' => t' | .inl _ => itS vars t 0) = _
     show (match runS vars t with | .inr t' => t' | .inl _ => t) = _
     rw [hr]; rfl
    | succ q ih =>
     show (match runS vars (itS vars t (q + 1)) with | .inr t' => t' | .inl _ => itS vars t (q + 1)) = (match runS vars (itS vars t1 q) with | .inr t' => t' | .inl _ => itS vars t1 q)
     rw [ih]
   cases p with
   | zero =>
    show runS vars t = .inr (itS vars t 1)
    rw [shift 0]; exact hr
   | succ p =>
    rw [shift p, shift (p + 1)]
    exact runE_none f t1 h p xd
theorem run_halts {m N vars : Nat} (hv : vars ≤ N) {t : Tb} (ht : TbOk m N t) (hc : Bl.Can m N (zdd t)) : ∃ f r, runE vars f t = some r := by
 refine Classical.byContradiction fun hno => ?_
 have hn : ∀ f, runE vars f t = none := fun f => by
  cases h : runE vars f t with
  | none => rfl
  | some r => exact absurd ⟨f, r, h⟩ hno
 have hs := fun p => runE_none (p + 1) t (hn (p + 1)) p xd
 have he : ∀ p, (itS vars t p).e = 0 := fun p => by
  have h1 := hs p
  refine Classical.byContradiction fun h0 => ?_
  unfold runS at h1
  simp only [if_pos h0] at h1
  cases h1
 have hok : ∀ p, TbOk m N (itS vars t p) := by
  intro p
  induction p with
  | zero => exact ht
  | succ p ih => exact (runS_step hv ih (hs p) (he (p + 1))).2.1
 have hst : ∀ p, ∃ rk : Nat × Nat, Step m N vars (zdd (itS vars t p)) (zdd (itS vars t (p + 1))) rk.1 rk.2 := fun p => by
  obtain ⟨_, _, _, r, k, h⟩ := runS_step hv (hok p) (hs p) (he (p + 1))
  exact ⟨(r, k), h⟩
 have := Bl.run_short (m := m) (N := N) (vars := vars) (L := N ^ m) (T := fun p => zdd (itS vars t p)) (rr := fun p => (Classical.choose (hst p)).1) (kk := fun p => (Classical.choose (hst p)).2) hc (fun p _ => Classical.choose_spec (hst p))
 omega
end Go.Proofs.YtllkbjcemecmjaaGreat.Aw
end
section
namespace Go.Proofs.YtllkbjcemecmjaaGreat.Aw
open Go.RowKit
open Bl (Tab Can Pv Step Ker lin)
theorem Pv_back {m N : Nat} {T T' : Tab} {r k : Nat} (h : Pv m N T T' r k) {x : Nat → Rat} (hx : Ker m N T' x) : Ker m N T x ∧ lin T.c x N = lin T'.c x N := by
 have hz := h.nz
 have h0 := hx r h.hr
 have h1 : lin (T.a r) x N = 0 := by
  have := Bl.lin_div (x := x) h.row
  rw [h0] at this
  have h2 : lin (T.a r) x N = lin (T.a r) x N / T.a r k * T.a r k := by grind
  rw [h2, ← this]; grind
 have hk : Ker m N T x := fun i hi => by
  by_cases e : i = r
  ·
   subst e; exact h1
  ·
   have := Bl.lin_sub (x := x) (h := T'.a i) (f := T.a i) (g := T'.a r) (z := T.a i k) (fun j hj => by rw [h.oth i j hi e hj, h.row j hj])
   rw [hx i hi, h0] at this
   grind
 exact ⟨hk, (h.ker hk).2.symm⟩
structure CanR (m N : Nat) (T : Tab) : Prop where
 lt : ∀ i, i < m → T.B i < N
 one : ∀ i, i < m → T.a i (T.B i) = 1
 off : ∀ i j, i < m → j < m → i ≠ j → T.a i (T.B j) = 0
 nn : ∀ i, i < m → 0 ≤ T.a i N
theorem prcF_ok {m N : Nat} : ∀ (f i : Nat) (t : Tb), TbOk m N t → CanR m N (zdd t) → t.e = 0 → f + i = m → (∀ q, q < i → val (gti t.cost (gti t.bas q).toNat) = 0) → (prcF f i t).e = 0 →
  TbOk m N (prcF f i t) ∧ (prcF f i t).rows = t.rows ∧ (prcF f i t).bas = t.bas ∧ (prcF f i t).last = t.last ∧ (∀ q, q < m → val (gti (prcF f i t).cost (gti t.bas q).toNat) = 0) ∧
  ∀ x, Ker m N (zdd t) x → lin (fun j => val (gti (prcF f i t).cost j)) x N = lin (fun j => val (gti t.cost j)) x N
 | 0, i, t, ht, hc, he, hf, hz, _ => ⟨ht, rfl, rfl, rfl, fun q hq => hz q xd, fun _ _ => rfl⟩
 | f + 1, i, t, ht, hc, he, hf, hz, h => by
  have hi : i < m := by omega
  unfold prcF at h ⊢
  rw [if_neg xd] at h ⊢
  have hbi := ht.bs i hi
  have hBi : (gti t.bas i).toNat < N := by omega
  by_cases h1 : (gti t.cost (gti t.bas i).toNat).n = 0
  ·
   simp only [if_pos h1] at h ⊢
   exact prcF_ok f (i + 1) t ht hc he xd (fun q hq => by
    by_cases e : q = i
    ·
     subst e; exact val_z h1
    ·
     exact hz q xd) h
  ·
   simp only [if_neg h1] at h ⊢
   obtain ⟨b1, b2⟩ := ht.row hi
   have hcl := ht.cl
   have he2 : (zdr (gti t.cost (gti t.bas i).toNat) t.cost (gti t.rows i)).2 = 0 := by
    refine Classical.byContradiction fun hne => ?_
    cases f with
    | zero => unfold prcF at h; exact hne h
    | succ f => unfold prcF at h; rw [if_pos hne] at h; exact hne h
   obtain ⟨c1, c2, c3⟩ := lessL_ok (ht.cc (j := (gti t.bas i).toNat) xd) t.cost (gti t.rows i) xd ht.co b2 he2
   generalize hX : zdr (gti t.cost (gti t.bas i).toNat) t.cost (gti t.rows i) = X at h he2 c1 c2 c3 ⊢
   have ht' : TbOk m N { t with cost := X.1, e := X.2 } := ⟨ht.rl, ht.rw_, by show X.1.length = _; omega, c2, ht.bl, ht.bs⟩
   have hrow : ∀ q, q < m → val (gti (gti t.rows i) (gti t.bas q).toNat) = if i = q then 1 else 0 := fun q hq => by
    by_cases e : i = q
    ·
     subst e; rw [if_pos rfl]; exact hc.one i hi
    ·
     rw [if_neg e]; exact hc.off i q hi hq e
   obtain ⟨a1, a2, a3, a4, a5, a6⟩ := prcF_ok f (i + 1) { t with cost := X.1, e := X.2 } ht' ⟨hc.lt, hc.one, hc.off, hc.nn⟩ he2 xd (fun q hq => by
    show val (gti X.1 (gti t.bas q).toNat) = 0
    have hbq := ht.bs q xd
    rw [c3 _ xd, hrow q xd]
    by_cases e : i = q
    ·
     subst e; rw [if_pos rfl]; grind
    ·
     rw [if_neg e, hz q xd]; grind) h
   refine ⟨a1, a2, a3, a4, a5, fun x hx => (a6 x hx).trans ?_⟩
   have := Bl.lin_sub (x := x) (f := fun j => val (gti t.cost j)) (g := fun j => val (gti (gti t.rows i) j)) (h := fun j => val (gti X.1 j)) (z := val (gti t.cost (gti t.bas i).toNat)) (N := N) (fun j hj => c3 j xd)
   have h2 : lin (fun j => val (gti (gti t.rows i) j)) x N = 0 := hx i hi
   show lin (fun j => val (gti X.1 j)) x N = _
   rw [this, h2]; grind
theorem prcE_ok {m N : Nat} {t : Tb} {cost : List Fr} (ht : TbOk m N { t with cost := cost }) (hc : CanR m N (zdd t)) (he : t.e = 0) (h : (prcE cost t).e = 0) :
  TbOk m N (prcE cost t) ∧ Bl.Can m N (zdd (prcE cost t)) ∧ (prcE cost t).rows = t.rows ∧ (prcE cost t).bas = t.bas ∧ (prcE cost t).last = t.last ∧
  ∀ x, Ker m N (zdd (prcE cost t)) x → lin (zdd (prcE cost t)).c x N = lin (fun j => val (gti cost j)) x N := by
 have hbl : t.bas.length = m := ht.bl
 unfold prcE at h ⊢
 rw [hbl] at h ⊢
 obtain ⟨a1, a2, a3, a4, a5, a6⟩ := prcF_ok m 0 { t with cost := cost } ht ⟨hc.lt, hc.one, hc.off, hc.nn⟩ he xd (fun q hq => by omega) h
 generalize prcF m 0 { t with cost := cost } = t' at h a1 a2 a3 a4 a5 a6 ⊢
 have ea : ∀ i j, (zdd t').a i j = (zdd t).a i j := fun i j => by show val (gti (gti t'.rows i) j) = _; rw [a2]; rfl
 have eb : ∀ i, (zdd t').B i = (zdd t).B i := fun i => by show (gti t'.bas i).toNat = _; rw [a3]; rfl
 refine ⟨a1, ⟨fun i hi => by rw [eb]; exact hc.lt i hi, fun i hi => by rw [eb, ea]; exact hc.one i hi, fun i j hi hj hij => by rw [eb, ea]; exact hc.off i j hi hj hij, fun i hi => by rw [eb]; exact a5 i hi, fun i hi => by rw [ea]; exact hc.nn i hi⟩, a2, a3, a4, fun x hx => ?_⟩
 exact a6 x (fun i hi => by
  have := hx i hi
  unfold Bl.lin at this ⊢
  rw [← this]
  exact Bl.sumR_congr (fun j _ => by rw [ea]; rfl))
theorem Can.toR {m N : Nat} {T : Tab} (h : Bl.Can m N T) : CanR m N T := ⟨h.lt, h.one, h.off, h.nn⟩
theorem run_any {m N vars : Nat} (hv : vars ≤ N) {t : Tb} (h : t.e = 0 → TbOk m N t ∧ Bl.Can m N (zdd t)) : ∃ f r, runE vars f t = some r := by
 by_cases he : t.e = 0
 ·
  exact run_halts hv (h he).1 (h he).2
 ·
  refine ⟨1, (t, -1), ?_⟩
  unfold runE runS
  rw [if_pos he]
theorem gtiF_app {a b : List Fr} {j : Nat} : gti (a ++ b) j = if j < a.length then gti a j else gti b (j - a.length) := by
 unfold Go.Proofs.YtllkbjcemecmjaaGreat.gti
 split
 ·
  rename_i h; rw [List.getElem?_append_left h]
 ·
  rename_i h; rw [List.getElem?_append_right xd]
theorem gtiF_set (l : List Fr) (i j : Nat) (r : Fr) (h : i < l.length) : gti (l.set i r) j = if i = j then r else gti l j := by
 unfold Go.Proofs.YtllkbjcemecmjaaGreat.gti
 by_cases e : i = j
 ·
  subst e; rw [if_pos rfl, List.getElem?_set_self h]; rfl
 ·
  rw [if_neg e, List.getElem?_set_ne e]
theorem gtiF_map {l : List Fr} {f : Fr → Fr} {j : Nat} (h : j < l.length) : gti (l.map f) j = f (gti l j) := by
 unfold Go.Proofs.YtllkbjcemecmjaaGreat.gti
 rw [List.getElem?_map, List.getElem?_eq_getElem h]; rfl
theorem gtiF_rep {n j : Nat} {x : Fr} (h : j < n) : gti (List.replicate n x) j = x := by
 unfold Go.Proofs.YtllkbjcemecmjaaGreat.gti
 rw [List.getElem?_replicate, if_pos h]; rfl
theorem of_ok {k : Int} (h : -1000 ≤ k ∧ k ≤ 1000) : (Fr.of k).ok := ⟨by show -1073741824 ≤ k; omega, by show k ≤ 1073741824; omega, by show (1 : Int) ≤ 1; omega, by show (1 : Int) ≤ _; omega, by show Int.gcd k 1 = 1; exact Int.gcd_one⟩
structure LpOk (p : LP) (n m : Nat) : Prop where
 cn : p.c.length = n
 am : p.a.length = m
 bm : p.b.length = m
 rm : p.rel.length = m
 hn : 1 ≤ n ∧ n ≤ 12
 hm : 1 ≤ m ∧ m ≤ 12
 co : ∀ x ∈ p.c, x.ok
 bo : ∀ x ∈ p.b, x.ok
 ao : ∀ i, i < m → (gti p.a i).length = n ∧ ∀ x ∈ gti p.a i, x.ok
theorem begR_ok {p : LP} {n m : Nat} (h : LpOk p n m) {i : Nat} (hi : i < m) : (begR p i).length = n + 2 * m + 1 ∧ (∀ x ∈ begR p i, x.ok) ∧ (∀ q, q < m → val (gti (begR p i) (n + m + q)) = if i = q then 1 else 0) ∧ 0 ≤ val (gti (begR p i) (n + 2 * m)) := by
 obtain ⟨a1, a2⟩ := h.ao i hi
 have hbo : (gti p.b i).ok := h.bo _ (zds (by rw [h.bm]; exact hi))
 unfold begR
 simp only [h.cn, h.am]
 -- the row with its slack
 obtain ⟨r1, hr1, e1, o1, z1⟩ : ∃ r1, (if gti p.rel i = 1 then (gti p.a i ++ List.replicate (2 * m) (Fr.of 0)).set (n + i) (Fr.of 1) else if gti p.rel i = 2 then (gti p.a i ++ List.replicate (2 * m) (Fr.of 0)).set (n + i) (Fr.of (-1)) else gti p.a i ++ List.replicate (2 * m) (Fr.of 0)) = r1 ∧
   r1.length = n + 2 * m ∧ (∀ x ∈ r1, x.ok) ∧ ∀ q, q < m → gti r1 (n + m + q) = Fr.of 0 := by
  refine ⟨_, rfl, ?_, ?_, ?_⟩
  ·
   split
   ·
    simp; omega
   ·
    split <;> simp <;> omega
  ·
   have h0 : ∀ x ∈ gti p.a i ++ List.replicate (2 * m) (Fr.of 0), x.ok := fun x hx => by
    rcases List.mem_append.1 hx with hx | hx
    ·
     exact a2 x hx
    ·
     rw [List.eq_of_mem_replicate hx]; exact of_ok ⟨by decide, by decide⟩
   split
   ·
    intro x hx
    rcases List.mem_or_eq_of_mem_set hx with hx | rfl
    ·
     exact h0 x hx
    ·
     exact of_ok ⟨by decide, by decide⟩
   ·
    split
    ·
     intro x hx
     rcases List.mem_or_eq_of_mem_set hx with hx | rfl
     ·
      exact h0 x hx
     ·
      exact of_ok ⟨by decide, by decide⟩
    ·
     exact h0
  ·
   intro q hq
   have h0 : gti (gti p.a i ++ List.replicate (2 * m) (Fr.of 0)) (n + m + q) = Fr.of 0 := by
    rw [gtiF_app, if_neg xd]
    exact gtiF_rep xd
   split
   ·
    rw [gtiF_set _ _ _ _ (by simp; omega), if_neg xd]; exact h0
   ·
    split
    ·
     rw [gtiF_set _ _ _ _ (by simp; omega), if_neg xd]; exact h0
    ·
     exact h0
 rw [hr1]
 -- with its right side, turned
 obtain ⟨r2, hr2, e2, o2, z2, nn2⟩ : ∃ r2, (if (gti p.b i).n < 0 then (r1 ++ [gti p.b i]).map fneg else r1 ++ [gti p.b i]) = r2 ∧ r2.length = n + 2 * m + 1 ∧ (∀ x ∈ r2, x.ok) ∧ (∀ q, q < m → val (gti r2 (n + m + q)) = 0) ∧ 0 ≤ val (gti r2 (n + 2 * m)) := by
  have hl : (r1 ++ [gti p.b i]).length = n + 2 * m + 1 := by simp [e1]
  have ho : ∀ x ∈ r1 ++ [gti p.b i], x.ok := fun x hx => by
   rcases List.mem_append.1 hx with hx | hx
   ·
    exact o1 x hx
   ·
    rw [List.mem_singleton.1 hx]; exact hbo
  have hz : ∀ q, q < m → val (gti (r1 ++ [gti p.b i]) (n + m + q)) = 0 := fun q hq => by
   rw [gtiF_app, if_pos xd, z1 q hq, val_of]; rfl
  have hN : gti (r1 ++ [gti p.b i]) (n + 2 * m) = gti p.b i := by
   rw [gtiF_app, if_neg xd, e1, Nat.sub_self]; rfl
  refine ⟨_, rfl, ?_, ?_, ?_, ?_⟩
  ·
   split
   ·
    rw [List.length_map]; exact hl
   ·
    exact hl
  ·
   split
   ·
    intro x hx
    obtain ⟨y, hy, rfl⟩ := List.mem_map.1 hx
    exact fneg_ok (ho y hy)
   ·
    exact ho
  ·
   intro q hq
   split
   ·
    rw [gtiF_map xd, val_neg, hz q hq]; grind
   ·
    exact hz q hq
  ·
   split
   ·
    rename_i hneg
    rw [gtiF_map xd, hN, val_neg]
    have := (val_neg_iff hbo).2 hneg
    grind
   ·
    rename_i hneg
    rw [hN]
    exact val_nn ⟨hbo, by omega⟩
 rw [hr2]
 have hs : ∀ j, gti (r2.set (n + m + i) (Fr.of 1)) j = if n + m + i = j then Fr.of 1 else gti r2 j := fun j => gtiF_set _ _ _ _ xd
 refine ⟨by rw [List.length_set]; exact e2, fun x hx => ?_, fun q hq => ?_, ?_⟩
 ·
  rcases List.mem_or_eq_of_mem_set hx with hx | rfl
  ·
   exact o2 x hx
  ·
   exact of_ok ⟨by decide, by decide⟩
 ·
  rw [hs]
  by_cases e : i = q
  ·
   subst e; rw [if_pos rfl, if_pos rfl, val_of]; rfl
  ·
   rw [if_neg xd, if_neg e, z2 q hq]
 ·
  rw [hs, if_neg xd]; exact nn2
theorem gti_rangeF {α : Type} [Inhabited α] {f : Nat → α} {m i : Nat} (h : i < m) : gti ((List.range m).map f) i = f i := by
 unfold Go.Proofs.YtllkbjcemecmjaaGreat.gti
 rw [List.getElem?_map, List.getElem?_range h]; rfl
theorem begT_ok {p : LP} {n m : Nat} (h : LpOk p n m) {cost : List Fr} (hl : cost.length = n + 2 * m + 1) (ho : ∀ x ∈ cost, x.ok) : TbOk m (n + 2 * m) { begT p with cost := cost } ∧ CanR m (n + 2 * m) (zdd (begT p)) := by
 have hm := h.hm
 have hr : ∀ i, i < m → gti (begT p).rows i = begR p i := fun i hi => by
  unfold begT; simp only [h.am]; exact gti_rangeF hi
 have hb : ∀ i, i < m → gti (begT p).bas i = ((n + m + i : Nat) : Int) := fun i hi => by
  unfold begT; simp only [h.am, h.cn]; exact gti_rangeF hi
 have hB : ∀ i, i < m → (zdd (begT p)).B i = n + m + i := fun i hi => by show (gti (begT p).bas i).toNat = _; rw [hb i hi]; rfl
 refine ⟨⟨by show (begT p).rows.length = m; unfold begT; simp [h.am], fun r hrm => ?_, hl, ho, by show (begT p).bas.length = m; unfold begT; simp [h.am], fun i hi => ?_⟩, ⟨fun i hi => by rw [hB i hi]; omega, fun i hi => ?_, fun i j hi hj hij => ?_, fun i hi => ?_⟩⟩
 ·
  replace hrm : r ∈ (begT p).rows := hrm
  unfold begT at hrm
  simp only [h.am] at hrm
  obtain ⟨i, hi, rfl⟩ := List.mem_map.1 hrm
  obtain ⟨g1, g2, _⟩ := begR_ok h (i := i) (by simpa using hi)
  exact ⟨g1, g2⟩
 ·
  show 0 ≤ gti (begT p).bas i ∧ gti (begT p).bas i < _
  rw [hb i hi]
  constructor <;> omega
 ·
  show val (gti (gti (begT p).rows i) ((zdd (begT p)).B i)) = 1
  rw [hB i hi, hr i hi, (begR_ok h hi).2.2.1 i hi, if_pos rfl]
 ·
  show val (gti (gti (begT p).rows i) ((zdd (begT p)).B j)) = 0
  rw [hB j hj, hr i hi, (begR_ok h hi).2.2.1 j hj, if_neg hij]
 ·
  show 0 ≤ val (gti (gti (begT p).rows i) (n + 2 * m))
  rw [hr i hi]; exact (begR_ok h hi).2.2.2
def cost1 (n m : Nat) : List Fr := List.replicate (n + m) (Fr.of 0) ++ List.replicate m (Fr.of 1) ++ [Fr.of 0]
def nzF (a : Fr) : Bool := decide (a.n ≠ 0)
def drvF : Nat → Nat → Tb → Tb
 | 0, _, t => t
 | f + 1, i, t =>
  if gti t.bas i < t.last then drvF f (i + 1) t else
  let j := zc2 nzF ((gti t.rows i).take t.last.toNat)
  if j < 0 then drvF f (i + 1) t else
  let t' := pivE i j.toNat t
  if t'.e ≠ 0 then t' else drvF f (i + 1) t'
structure I1 (n m : Nat) (t : Tb) : Prop where
 ok : TbOk m (n + 2 * m) t
 can : Bl.Can m (n + 2 * m) (zdd t)
 last : t.last = n + m
 ker : ∀ x, Ker m (n + 2 * m) (zdd t) x → lin (zdd t).c x (n + 2 * m) = lin (fun j => val (gti (cost1 n m) j)) x (n + 2 * m)
theorem I1.step {n m : Nat} {t t' : Tb} (h : I1 n m t) (hr : runS (n + m) t = .inr t') (he : t'.e = 0) : I1 n m t' := by
 obtain ⟨_, h2, h3, r, k, hs⟩ := runS_step xd h.ok hr he
 exact ⟨h2, hs.can h.can, h3.trans h.last, fun x hx => by
  obtain ⟨g1, g2⟩ := Pv_back hs.toPv hx
  rw [← g2]; exact h.ker x g1⟩
theorem cost1_gti {n m j : Nat} : gti (cost1 n m) j = if n + m ≤ j ∧ j < n + 2 * m then Fr.of 1 else gti (cost1 n m) j := by
 split
 ·
  rename_i h
  unfold cost1
  rw [gtiF_app, if_pos (by simp; omega), gtiF_app, if_neg (by simp; omega)]
  exact gtiF_rep (by simp; omega)
 ·
  rfl
theorem cost1_lo {n m j : Nat} (h : j < n + m) : gti (cost1 n m) j = Fr.of 0 := by
 unfold cost1
 rw [gtiF_app, if_pos (by simp; omega), gtiF_app, if_pos (by simp; omega)]
 exact gtiF_rep h
theorem cost1_N {n m : Nat} : gti (cost1 n m) (n + 2 * m) = Fr.of 0 := by
 unfold cost1
 rw [gtiF_app, if_neg (by simp; omega)]
 simp
 rw [show n + 2 * m - (n + m + m) = 0 by omega]; rfl
theorem cost1_ok {n m : Nat} : (cost1 n m).length = n + 2 * m + 1 ∧ ∀ x ∈ cost1 n m, x.ok := by
 refine ⟨by simp [cost1]; omega, fun x hx => ?_⟩
 unfold cost1 at hx
 rcases List.mem_append.1 hx with hx | hx
 ·
  rcases List.mem_append.1 hx with hx | hx
  ·
   rw [List.eq_of_mem_replicate hx]; exact of_ok ⟨by decide, by decide⟩
  ·
   rw [List.eq_of_mem_replicate hx]; exact of_ok ⟨by decide, by decide⟩
 ·
  rw [List.mem_singleton.1 hx]; exact of_ok ⟨by decide, by decide⟩
theorem art_zero {n m : Nat} {t : Tb} (h : I1 n m t) (hz : (gti t.cost (n + 2 * m)).n = 0) : ∀ i, i < m → t.last ≤ gti t.bas i → val (gti (gti t.rows i) (n + 2 * m)) = 0 := by
 have hx := h.ker _ (Bl.xs_ker h.can (j := n + 2 * m) (Nat.le_refl _))
 rw [Bl.lin_xs h.can _ (Nat.le_refl _), Bl.lin_xs h.can _ (Nat.le_refl _)] at hx
 have h1 : Bl.sumR (fun i => (zdd t).a i (n + 2 * m) * (zdd t).c ((zdd t).B i)) m = 0 := by
  rw [Bl.sumR_congr (g := fun _ => 0) (fun i hi => by rw [h.can.cost i hi]; grind), Bl.sumR_zero]
 have h2 : (zdd t).c (n + 2 * m) = 0 := val_z hz
 rw [h1, h2, cost1_N, val_of] at hx
 have hnn : ∀ i, i < m → 0 ≤ (zdd t).a i (n + 2 * m) * val (gti (cost1 n m) ((zdd t).B i)) := fun i hi => by
  refine Rat.mul_nonneg (h.can.nn i hi) ?_
  by_cases e : (zdd t).B i < n + m
  ·
   rw [cost1_lo e, val_of]; exact Rat.le_refl
  ·
   rw [cost1_gti, if_pos ⟨by omega, h.can.lt i hi⟩, val_of]; decide
 obtain ⟨_, h4⟩ := Bl.sumR_nn (f := fun i => (zdd t).a i (n + 2 * m) * val (gti (cost1 n m) ((zdd t).B i))) (n := m) hnn
 intro i hi hlast
 have h5 := h4 (by
  have h0 : (((0 : Int) : Rat)) = 0 := rfl
  rw [h0] at hx
  grind) i hi
 have hl := h.last
 have hB : (zdd t).B i = (gti t.bas i).toNat := rfl
 have h6 : val (gti (cost1 n m) ((zdd t).B i)) = 1 := by
  rw [cost1_gti, if_pos ⟨by rw [hB]; omega, h.can.lt i hi⟩, val_of]; rfl
 rw [h6] at h5
 show (zdd t).a i (n + 2 * m) = 0
 grind
structure J1 (n m : Nat) (t : Tb) : Prop where
 ok : TbOk m (n + 2 * m) t
 can : CanR m (n + 2 * m) (zdd t)
 last : t.last = n + m
 zero : ∀ i, i < m → t.last ≤ gti t.bas i → val (gti (gti t.rows i) (n + 2 * m)) = 0
theorem J1.piv {n m i j : Nat} {t : Tb} (h : J1 n m t) (he : t.e = 0) (hi : i < m) (hl : t.last ≤ gti t.bas i) (hj : j < n + m) (h' : (pivE i j t).e = 0) : J1 n m (pivE i j t) := by
 obtain ⟨p1, p2, p3⟩ := pivE_ok h.ok he hi xd h'
 have hz : (zdd t).a i (n + 2 * m) = 0 := h.zero i hi hl
 have hnz := p2.nz
 have hN : ∀ q, q < m → (zdd (pivE i j t)).a q (n + 2 * m) = (zdd t).a q (n + 2 * m) := fun q hq => by
  by_cases e : q = i
  ·
   subst e; rw [p2.row _ (Nat.le_refl _), hz]; grind
  ·
   rw [p2.oth q _ hq e (Nat.le_refl _), hz]; grind
 have hcan := h.can
 refine ⟨p1, ?_, p3.trans h.last, fun q hq hlq => ?_⟩
 ·
  -- rows in canonical form, as a pivot leaves them: the costs are left aside
  let T0 : Tab := ⟨(zdd t).a, fun _ => 0, (zdd t).B⟩
  let T1 : Tab := ⟨(zdd (pivE i j t)).a, fun _ => 0, (zdd (pivE i j t)).B⟩
  have hp : Pv m (n + 2 * m) T0 T1 i j := ⟨p2.hr, p2.hk, p2.nz, p2.row, p2.oth, fun v hv => by show (0 : Rat) = 0 - 0 * _; grind, p2.bas, p2.keep⟩
  have hc0 : Bl.Can m (n + 2 * m) T0 := ⟨hcan.lt, hcan.one, hcan.off, fun _ _ => rfl, hcan.nn⟩
  have hc1 := hp.can hc0 (fun q hq => by rw [show T1.a q (n + 2 * m) = _ from hN q hq]; exact hcan.nn q hq)
  exact ⟨hc1.lt, hc1.one, hc1.off, hc1.nn⟩
 ·
  show (zdd (pivE i j t)).a q (n + 2 * m) = 0
  rw [hN q hq]
  refine h.zero q hq ?_
  by_cases e : q = i
  ·
   subst e; exact hl
  ·
   have h1 : (gti (pivE i j t).bas q).toNat = (gti t.bas q).toNat := p2.keep q hq e
   have h2 := p1.bs q hq
   have h3 := h.ok.bs q hq
   rw [p3] at hlq
   omega
end Go.Proofs.YtllkbjcemecmjaaGreat.Aw
end
section
namespace Go.Proofs.YtllkbjcemecmjaaGreat.Aw
open Go.RowKit
section
variable {P : Program} {N : Nat} {l : List Oper} {F F' : Frm} {σ : List Ob} {out : List (Nat × AV)} {Q : Exit → Frm → List Ob → Prop}
variable {ops : Array Oper} {all : List Oper} {acc : List Nat} {K : Frm → List Ob → Prop}
end
end Go.Proofs.YtllkbjcemecmjaaGreat.Aw
end
section
namespace Go.Proofs.YtllkbjcemecmjaaGreat.Aw
open Go Go.RowKit Go.Proofs
variable {P : Program} [IsP P]
theorem cons_other {ob ob' : Ob} {R : List Ob} {id : Nat} (h : id ∉ [0]) : (ob' :: R)[id]? = (ob :: R)[id]? := by
 cases id with
 | zero => exact absurd xo h
 | succ id => rfl
section
variable {N : Nat} {F : Frm} {σ σ' : List Ob} {Q : Exit → Frm → List Ob → Prop} {ops : Array Oper} {o : Oper} {l : List Oper}
theorem kwk_sl {d id sz n : Nat} {cs : List AV} (hd : F.get d = .own id sz n) (hs : σ[id]? = some (.fz sz cs)) (hn : n = cs.length) : WeakK N F σ ((d, .sl cs) :: F) σ := fun G a h =>
 ⟨G, rfl, .refl G, h.rel, h.fr.more (rep_fz h.rel hs hn (by rw [← hd]; exact h.fr d)), h.df, h.nt⟩
theorem kwk_nil {d : Nat} (hd : F.get d = .s (.slice none 0 0)) : WeakK N F σ ((d, .sl []) :: F) σ := fun G a h =>
 ⟨G, rfl, .refl G, h.rel, h.fr.more (rep_nil (by rw [← hd]; exact h.fr d)), h.df, h.nt⟩
variable {d : Nat} {fo : Operand} {ar : Array Operand} {ts : Array TypeId} {f : FuncId} {y : AV} {args caps : List AV}
end
theorem ew_frEq {c : Code} {F F' : Frm} {σ : List Ob} {N : Nat} {Q : Exit → Frm → List Ob → Prop} (h : F = F') (k : EWp P N c F' σ Q) : EWp P N c F σ Q := by rw [h]; exact k
theorem ew_stEq {c : Code} {F : Frm} {σ σ' : List Ob} {N : Nat} {Q : Exit → Frm → List Ob → Prop} (h : σ = σ') (k : EWp P N c F σ' Q) : EWp P N c F σ Q := by rw [h]; exact k
def tbC (t : Tb) (e : Int) : AV := .agg [.own 1 1 t.rows.length, eL eF t.cost, .own 2 1 t.bas.length, eI t.last, eI e]
theorem note_x {c0 c1 c2 c3 : AV} {e : Int} {R : List Ob} (x : Fr) (e' : Int) :
  CallE P 105 [.ptr 0 5 0 0, eF x, eI e'] (.row 5 [.agg [c0, c1, c2, c3, eI e]] :: R) (eF x)
   ((.row 5 [.agg [c0, c1, c2, c3, eI (if e = 0 then e' else e)]] :: R) ++ [.row 2 [eF x]] ++ [.row 2 [eF x]]) := by
 have g1 : ∀ (a : Ob) (R : List Ob) (b c : Ob), ((a :: R) ++ [b] ++ [c])[R.length + 1]? = some b := fun a R b c => by simp
 have g3 : ∀ (a : Ob) (R : List Ob) (b c d : Ob), (((a :: R) ++ [b] ++ [c]).set (R.length + 2) d)[R.length + 2]? = some d := fun a R b c d => by simp
 have g4 : ∀ (a : Ob) (R : List Ob) (b c d : Ob), (((a :: R) ++ [b] ++ [c]).set (R.length + 2) d) = (a :: R) ++ [b] ++ [d] := fun a R b c d => by
  rw [show R.length + 2 = ((a :: R) ++ [b]).length by simp, List.set_append_right _ _ (Nat.le_refl _), Nat.sub_self]; rfl
 have g2 : ∀ (a : Ob) (R : List Ob) (b c : Ob), ((a :: R) ++ [b] ++ [c])[R.length + 2]? = some c := fun a R b c => by simp
 refine callE_fn (by rw [IsP.eq (P := P)]; exact Tryz.func105) rfl rfl (Nat.le_of_ble_eq_true rfl) ?_
 simp only [argF]
 refine ew_seq (ew_region (eops_op rfl rfl (zaa rfl) (zb3 rfl rfl rfl rfl) (eops_op rfl rfl (zaa rfl) (za1 rfl ti45 rfl rfl) (zdj (ew_seq (ew_seq ?_))))))
 refine ew_frEq (F' := [(6, .ptr (R.length + 2) 2 0 0), (4, .ptr (R.length + 1) 2 0 0), (0, .ptr 0 5 0 0), (1, eF x), (2, eI e')]) (by
  have e1 : (Ob.row 5 [AV.agg [c0, c1, c2, c3, eI e]] :: R).length = R.length + 1 := rfl
  have e2 : ∀ y, (Ob.row 5 [AV.agg [c0, c1, c2, c3, eI e]] :: R ++ [y]).length = R.length + 2 := fun y => by simp
  rw [e2, e1]; rfl) ?_
 refine ew_region (eops_s rfl (eops_s rfl (eops_f zdu rfl (eops_op rfl rfl (zaa rfl) (zaq rfl ta33 rfl rfl rfl rfl rfl) (eops_op rfl rfl (zaa rfl) (zbn rfl rfl rfl) (zdj (zai ?_)))))))
 refine ew_if rfl (fun h => ?_) (fun h => ?_)
 ·
  rw [if_pos h]
  refine ew_region (eops_s rfl (eops_s rfl (eops_s rfl (eops_f zdu rfl (eops_eff rfl (zaa rfl) (zaj rfl ti33 rfl rfl rfl rfl rfl rfl xf xf) (zdj (ew_seq (ew_stEq (σ' := (.row 5 [.agg [c0, c1, c2, c3, eI e']] :: R) ++ [.row 2 [eF x]] ++ [.row 2 [.agg [eI 0, eI 0]]]) rfl (ew_region (eops_op rfl rfl (zaa rfl) (za8 rfl ta45 ti45 rfl (g1 _ _ _ _) rfl rfl rfl) (eops_eff rfl (zaa rfl) (zaj rfl ti45 rfl rfl (g2 (Ob.row 5 [.agg [c0, c1, c2, c3, eI e']]) R (Ob.row 2 [eF x]) (Ob.row 2 [.agg [eI 0, eI 0]])) rfl rfl rfl xf xf) ?_)))))))))))
  refine zdj (zai (ew_ret ?_))
  refine ⟨.inr rfl, ?_, _, .cons _ _ _ _ (.cells 6 45 (R.length + 2) 2 0 2 _ _ _ [eF x] (eF x) ta45 ti45 rfl (g3 _ _ _ _ _) rfl rfl rfl) .nil, rfl⟩
  exact g4 _ _ _ _ _
 ·
  rw [if_neg h]
  refine ew_skip (zai (ew_seq (ew_stEq (σ' := (.row 5 [.agg [c0, c1, c2, c3, eI e]] :: R) ++ [.row 2 [eF x]] ++ [.row 2 [.agg [eI 0, eI 0]]]) rfl (ew_region (eops_op rfl rfl (zaa rfl) (za8 rfl ta45 ti45 rfl (g1 _ _ _ _) rfl rfl rfl) (eops_eff rfl (zaa rfl) (zaj rfl ti45 rfl rfl (g2 (Ob.row 5 [.agg [c0, c1, c2, c3, eI e]]) R (Ob.row 2 [eF x]) (Ob.row 2 [.agg [eI 0, eI 0]])) rfl rfl rfl xf xf) (zdj (zai (ew_ret ?_)))))))))
  refine ⟨.inr rfl, ?_, _, .cons _ _ _ _ (.cells 6 45 (R.length + 2) 2 0 2 _ _ _ [eF x] (eF x) ta45 ti45 rfl (g3 _ _ _ _ _) rfl rfl rfl) .nil, rfl⟩
  exact g4 _ _ _ _ _
theorem note_call {c0 c1 c2 c3 : AV} {e : Int} {R : List Ob} (x : Fr) (e' : Int) (hl : ∀ c ∈ [c0, c1, c2, c3], Lo (R.length + 1) c) :
  CallE P 105 [.ptr 0 5 0 0, eF x, eI e'] (.row 5 [.agg [c0, c1, c2, c3, eI e]] :: R) (eF x)
   (.row 5 [.agg [c0, c1, c2, c3, eI (if e = 0 then e' else e)]] :: R) := by
 have h := CallE.cut (note_x (P := P) (c0 := c0) (c1 := c1) (c2 := c2) (c3 := c3) (e := e) (R := R) x e') xo (W := [0, R.length + 1, R.length + 2]) (fun id hid => ?_) (fun id hid hlt ob hob => ?_) (lo_up (lo_F x))
 ·
  have h5 : ∀ (a a' b c : Ob), ((a :: R) ++ [b] ++ [c]).take (a' :: R).length = a :: R := fun a a' b c => by simp
  rwa [h5] at h
 ·
  cases id with
  | zero => exact absurd xo hid
  | succ id =>
   have h1 : id ≠ R.length ∧ id ≠ R.length + 1 := by simp at hid; omega
   show ((R ++ [Ob.row 2 [eF x]]) ++ [Ob.row 2 [eF x]])[id]? = R[id]?
   by_cases hlt : id < R.length
   ·
    rw [List.getElem?_append_left (by simp; omega), List.getElem?_append_left hlt]
   ·
    rw [List.getElem?_eq_none (by simp; omega), List.getElem?_eq_none xd]
 ·
  have h0 : id = 0 := by simp at hid hlt; omega
  subst h0
  have : ob = .row 5 [.agg [c0, c1, c2, c3, eI (if e = 0 then e' else e)]] := by simpa using hob.symm
  subst this
  intro c hc
  simp at hc
  subst hc
  refine .agg _ fun c hc => ?_
  simp only [List.mem_cons, List.mem_nil_iff, or_false] at hc
  rcases hc with rfl | rfl | rfl | rfl | rfl
  ·
   exact hl _ xo
  ·
   exact hl _ xo
  ·
   exact hl _ xo
  ·
   exact hl _ xo
  ·
   exact .s _
end Go.Proofs.YtllkbjcemecmjaaGreat.Aw
end
