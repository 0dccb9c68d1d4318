/-
  Texts joined: AwY, ShE, SxB. Conditions: none.
-/
import Derived.Test.YtmoipmnhgdmkpaaJP8
import Derived.Test.YtmoipmnhgdmkpaaJP4
import Derived.Test.YtmoipmnhgdmkpaaJP7
import Derived.Test.YtmoipmnhgdmkpaaJP3
section
namespace Go.Proofs.Ytmoipmnhgdmkpaa.Aw
set_option linter.unusedSimpArgs false
set_option linter.unusedVariables false
set_option linter.unusedSectionVars false
open Go.RowKit

inductive PK | lo | nm | psh
def PK.isP : PK → Bool
  | .psh => true
  | _ => false
inductive PSteps (P : Program) (N : Nat) (ops : Array Oper) (n0 : Nat) : List Oper → Frm → Nat → List (Nat × AV) → List PK → List Ob → Prop
  | nil (F : Frm) (k : Nat) : PSteps P N ops n0 [] F k [] [] []
  | lo (o : Oper) (l : List Oper) (F : Frm) (k : Nat) (x : AV) (out : List (Nat × AV)) (ks : List PK) (obs : List Ob) (hd : dOk N o = true) (hr : Runs ops F o true) (hD : ∀ σ, Does P o F σ x σ) (hx : Lo 0 x) (h : PSteps P N ops n0 l (ent N o x :: F) k out ks obs) : PSteps P N ops n0 (o :: l) F k (ent N o x :: out) (.lo :: ks) obs
  | nm (o : Oper) (l : List Oper) (F : Frm) (k : Nat) (x : AV) (out : List (Nat × AV)) (ks : List PK) (obs : List Ob) (hs : o.dst ≠ none) (hd : dOk N o = true) (hr : Runs ops F o true) (hD : ∀ σ, Does P o F σ x σ) (h : PSteps P N ops n0 l (ent N o x :: F) k out ks obs) : PSteps P N ops n0 (o :: l) F k (ent N o x :: out) (.nm :: ks) obs
  | psh (o : Oper) (l : List Oper) (F : Frm) (k : Nat) (x : Nat → AV) (ob : Ob) (out : List (Nat × AV)) (ks : List PK) (obs : List Ob) (hd : dOk N o = true) (hr : Runs ops F o true) (hD : ∀ σ : List Ob, Does P o F σ (x σ.length) (σ ++ [ob])) (hx : ∀ m h, RnTo m h (x m) (x h)) (hob : ∀ q, ObNm q ob) (hmp : isMp ob = false) (h : PSteps P N ops n0 l (ent N o (x (n0 + k)) :: F) (k + 1) out ks obs) : PSteps P N ops n0 (o :: l) F k (ent N o (x (n0 + k)) :: out) (.psh :: ks) (ob :: obs)
/-- the indices of the operations that make something -/
def pIdx (ks : List PK) : List Nat := (List.range ks.length).filter fun i => match ks[i]? with | some k => k.isP | none => false
def hlM (E : List Nat) (n0 : Nat) (m : Nat → Bool) : List Nat := ((List.range E.length).filter fun j => !m (E.getD j 0)).map (n0 + ·)
def stM (E : List Nat) (obs : List Ob) (m : Nat → Bool) : List Ob := (List.range E.length).map fun j => bif m (E.getD j 0) then obs.getD j .dead else .dead
def pOk (l : List Oper) (N n0 : Nat) (ks : List PK) (out : List (Nat × AV)) : Bool :=
  sOk l N && selfB (masks l []) && (subs (pIdx ks)).all fun D => !(closedB (masks l []) (pIdx ks) D) || (List.range l.length).all fun i => !(readyB (masks l []) (pIdx ks) D i) || match ks[i]?, out[i]? with
    | some .nm, some p => nmB (fun id => !((hlM (pIdx ks) n0 fun j => D.contains j).contains id)) p.2
    | _, _ => true
/-- what the steps say of one operation -/
def PAt (P : Program) (N : Nat) (ops : Array Oper) (n0 : Nat) (o : Oper) (F : Frm) (p : Nat × AV) (k : Option PK) (j : Nat) (obs : List Ob) : Prop :=
  (∃ x, p = ent N o x ∧ k = some .lo ∧ Lo 0 x ∧ ∀ σ, Does P o F σ x σ) ∨ (∃ x, p = ent N o x ∧ k = some .nm ∧ o.dst ≠ none ∧ ∀ σ, Does P o F σ x σ) ∨
  (∃ (x : Nat → AV) (ob : Ob), p = ent N o (x (n0 + j)) ∧ k = some .psh ∧ obs[j]? = some ob ∧ (∀ σ : List Ob, Does P o F σ (x σ.length) (σ ++ [ob])) ∧ (∀ m h, RnTo m h (x m) (x h)) ∧ (∀ q, ObNm q ob) ∧ isMp ob = false)
def cntP (ks : List PK) (i : Nat) : Nat := ((ks.take i).filter PK.isP).length
theorem cntP_succ (k : PK) (ks : List PK) (i : Nat) : cntP (k :: ks) (i + 1) = (bif k.isP then 1 else 0) + cntP ks i := by
  unfold cntP
  rw [List.take_succ_cons, List.filter_cons]
  cases h : k.isP <;> simp [Nat.add_comm]
theorem psteps_at {P : Program} {N : Nat} {ops : Array Oper} {n0 : Nat} : ∀ {l : List Oper} {F : Frm} {k : Nat} {out : List (Nat × AV)} {ks : List PK} {obs : List Ob}, PSteps P N ops n0 l F k out ks obs → l.length = out.length ∧ ks.length = l.length ∧ (ks.filter PK.isP).length = obs.length ∧ (∀ ob ∈ obs, isMp ob = false) ∧
    ∀ (i : Nat) o, l[i]? = some o → dOk N o = true ∧ Runs ops ((out.take i).reverse ++ F) o true ∧ ∃ p, out[i]? = some p ∧ PAt P N ops (n0 + k) o ((out.take i).reverse ++ F) p ks[i]? (cntP ks i) obs := by
  intro l F k out ks obs h
  induction h with
  | nil F k => exact ⟨rfl, rfl, rfl, by simp, by simp⟩
  | lo o l F k x out ks obs hd hr hD hx h ih =>
    obtain ⟨h1, h2, h3, h4, h5⟩ := ih
    refine ⟨by simp [h1], by simp [h2], by simpa [PK.isP] using h3, h4, fun i o' hi => ?_⟩
    cases i with
    | zero => simp at hi; subst hi; exact ⟨hd, by simpa using hr, _, rfl, .inl ⟨x, rfl, rfl, hx, by simpa using hD⟩⟩
    | succ i =>
      obtain ⟨g1, g2, p, g3, g4⟩ := h5 i o' (by simpa using hi)
      refine ⟨g1, by simpa using g2, p, by simpa using g3, ?_⟩
      rw [cntP_succ]
      simpa [PK.isP] using g4
  | nm o l F k x out ks obs hs hd hr hD h ih =>
    obtain ⟨h1, h2, h3, h4, h5⟩ := ih
    refine ⟨by simp [h1], by simp [h2], by simpa [PK.isP] using h3, h4, fun i o' hi => ?_⟩
    cases i with
    | zero => simp at hi; subst hi; exact ⟨hd, by simpa using hr, _, rfl, .inr (.inl ⟨x, rfl, rfl, hs, by simpa using hD⟩)⟩
    | succ i =>
      obtain ⟨g1, g2, p, g3, g4⟩ := h5 i o' (by simpa using hi)
      refine ⟨g1, by simpa using g2, p, by simpa using g3, ?_⟩
      rw [cntP_succ]
      simpa [PK.isP] using g4
  | psh o l F k x ob out ks obs hd hr hD hx hob hmp h ih =>
    obtain ⟨h1, h2, h3, h4, h5⟩ := ih
    refine ⟨by simp [h1], by simp [h2], by simp [PK.isP, List.filter_cons, h3], fun ob' hm => ?_, fun i o' hi => ?_⟩
    · rcases List.mem_cons.1 hm with e | hm
      · rw [e]; exact hmp
      · exact h4 ob' hm
    cases i with
    | zero => simp at hi; subst hi; exact ⟨hd, by simpa using hr, _, rfl, .inr (.inr ⟨x, ob, rfl, rfl, rfl, by simpa using hD, hx, hob, hmp⟩)⟩
    | succ i =>
      obtain ⟨g1, g2, p, g3, g4⟩ := h5 i o' (by simpa using hi)
      refine ⟨g1, by simpa using g2, p, by simpa using g3, ?_⟩
      rw [cntP_succ, show (bif PK.psh.isP then 1 else 0) + cntP ks i = cntP ks i + 1 from Nat.add_comm _ _]
      rcases g4 with ⟨x, a1, a2, a3, a4⟩ | ⟨x, a1, a2, a0, a3⟩ | ⟨x, ob', a1, a2, a3, a4, a5, a6, a7⟩
      · exact .inl ⟨x, a1, by simpa using a2, a3, by simpa using a4⟩
      · exact .inr (.inl ⟨x, a1, by simpa using a2, a0, by simpa using a3⟩)
      · refine .inr (.inr ⟨x, ob', ?_, by simpa using a2, by simpa using a3, by simpa using a4, a5, a6, a7⟩)
        rw [a1, show n0 + (k + 1) + cntP ks i = n0 + k + (cntP ks i + 1) by omega]
/-! ## where the makers are -/
theorem pIdx_mem {ks : List PK} {i : Nat} : i ∈ pIdx ks ↔ ks[i]? = some .psh := by
  unfold pIdx
  rw [List.mem_filter, List.mem_range]
  constructor
  · rintro ⟨h1, h2⟩
    rw [List.getElem?_eq_getElem h1] at h2 ⊢
    generalize ks[i] = k at h2
    cases k <;> simp_all [PK.isP]
  · intro h
    refine ⟨(List.getElem?_eq_some_iff.1 h).1, ?_⟩
    rw [h]; rfl
theorem pIdx_nodup (ks : List PK) : (pIdx ks).Nodup := List.Pairwise.filter _ List.nodup_range
theorem pIdx_get : ∀ (ks : List PK) (i : Nat), ks[i]? = some .psh → (pIdx ks)[cntP ks i]? = some i := by
  have key : ∀ (n : Nat) (ks : List PK) (i : Nat), i < n → ks[i]? = some .psh → ((List.range n).filter fun i => match ks[i]? with | some k => k.isP | none => false)[cntP ks i]? = some i := by
    intro n
    induction n with
    | zero => intro ks i h; omega
    | succ n ih =>
      intro ks i hi hk
      rw [List.range_succ, List.filter_append]
      by_cases h : i < n
      · have := ih ks i h hk
        rw [List.getElem?_append_left (List.getElem?_eq_some_iff.1 this).1]
        exact this
      · have e : i = n := by omega
        subst e
        have hlen : ((List.range i).filter fun i => match ks[i]? with | some k => k.isP | none => false).length = cntP ks i := by
          clear ih hi h
          have hik : i < ks.length := (List.getElem?_eq_some_iff.1 hk).1
          clear hk
          induction i with
          | zero => rfl
          | succ i ih =>
            rw [List.range_succ, List.filter_append, List.length_append, ih (by omega)]
            unfold cntP
            rw [List.take_add_one, List.filter_append, List.length_append, List.getElem?_eq_getElem (by omega)]
            simp only [Option.toList, List.filter_cons, List.filter_nil]
            rw [List.getElem?_eq_getElem (by omega)]
            cases hh : (ks[i]).isP <;> simp [hh]
        rw [List.getElem?_append_right (by omega), hlen, Nat.sub_self]
        simp [List.filter_cons, hk, PK.isP]
  intro ks i h
  exact key ks.length ks i (List.getElem?_eq_some_iff.1 h).1 h
theorem pIdx_len {ks : List PK} : (pIdx ks).length = (ks.filter PK.isP).length := by
  unfold pIdx
  have : ∀ n, n ≤ ks.length → ((List.range n).filter fun i => match ks[i]? with | some k => k.isP | none => false).length = ((ks.take n).filter PK.isP).length := by
    intro n
    induction n with
    | zero => simp
    | succ n ih =>
      intro hn
      rw [List.range_succ, List.filter_append, List.length_append, ih (by omega), List.take_add_one, List.filter_append, List.length_append, List.getElem?_eq_getElem (by omega)]
      simp only [Option.toList, List.filter_cons, List.filter_nil]
      rw [List.getElem?_eq_getElem (by omega)]
      cases hh : (ks[n]).isP <;> simp [hh]
  have := this ks.length (Nat.le_refl _)
  rwa [List.take_length] at this
theorem stM_len {E : List Nat} {obs : List Ob} {m : Nat → Bool} : (stM E obs m).length = E.length := by simp [stM]
theorem stM_get {E : List Nat} {obs : List Ob} {m : Nat → Bool} {j : Nat} (h : j < E.length) : (stM E obs m)[j]? = some (bif m (E.getD j 0) then obs.getD j .dead else .dead) := by
  unfold stM
  rw [List.getElem?_map, List.getElem?_range h]; rfl
theorem hlM_mem {E : List Nat} {n0 : Nat} {m : Nat → Bool} {id : Nat} : id ∈ hlM E n0 m ↔ ∃ j, j < E.length ∧ id = n0 + j ∧ m (E.getD j 0) = false := by
  unfold hlM
  rw [List.mem_map]
  constructor
  · rintro ⟨j, h1, rfl⟩
    rw [List.mem_filter, List.mem_range] at h1
    exact ⟨j, h1.1, rfl, by simpa using h1.2⟩
  · rintro ⟨j, h1, rfl, h2⟩
    exact ⟨j, by rw [List.mem_filter, List.mem_range]; exact ⟨h1, by rw [h2]; rfl⟩, rfl⟩
theorem getD_inj {E : List Nat} (hn : E.Nodup) {i j : Nat} (hi : i < E.length) (hj : j < E.length) (h : E.getD i 0 = E.getD j 0) : i = j := by
  rw [List.getD_eq_getElem?_getD, List.getD_eq_getElem?_getD, List.getElem?_eq_getElem hi, List.getElem?_eq_getElem hj] at h
  exact (List.getElem_inj hn).1 h
theorem stM_set {E : List Nat} {obs : List Ob} {m m' : Nat → Bool} {j : Nat} {ob : Ob} (hn : E.Nodup) (hj : j < E.length) (ho : obs[j]? = some ob) (h1 : m' (E.getD j 0) = true) (h2 : ∀ k, k < E.length → k ≠ j → m' (E.getD k 0) = m (E.getD k 0)) : (stM E obs m).set j ob = stM E obs m' := by
  refine List.ext_getElem? fun k => ?_
  rw [List.getElem?_set]
  by_cases hk : k < E.length
  · rw [stM_get hk, stM_get hk]
    split
    · rename_i e; subst e
      rw [if_pos (by rw [stM_len]; exact hk), h1, cond_true, List.getD_eq_getElem?_getD, ho]; rfl
    · rename_i e
      rw [h2 k hk (Ne.symm e)]
  · rw [List.getElem?_eq_none (by rw [stM_len]; omega), List.getElem?_eq_none (by rw [stM_len]; omega), if_neg (by omega)]
theorem hlM_step {E : List Nat} {n0 : Nat} {m m' : Nat → Bool} {j : Nat} (hj : j < E.length) (h1 : m' (E.getD j 0) = true) (h2 : ∀ k, k < E.length → k ≠ j → m' (E.getD k 0) = m (E.getD k 0)) : (hlM E n0 m).filter (fun i => !Nat.beq i (n0 + j)) = hlM E n0 m' := by
  unfold hlM
  rw [List.filter_map, List.filter_filter]
  congr 1
  refine List.filter_congr fun k hk => ?_
  rw [List.mem_range] at hk
  simp only [Function.comp]
  by_cases e : k = j
  · subst e; rw [h1]; simp
  · rw [h2 k hk e]
    have : Nat.beq (n0 + k) (n0 + j) = false := by
      rw [Bool.eq_false_iff]; intro h; have := Nat.eq_of_beq_eq_true h; omega
    rw [this]; simp
theorem nm_lo {q : Nat → Prop} {x : AV} (h : Lo 0 x) : Nm q x := by
  induction h with
  | any => exact .any
  | s v => exact .s v
  | agg cs _ ih => exact .agg cs ih
  | emp => exact .emp
  | sl l _ ih => exact .sl l ih
  | ref cs _ ih => exact .ref cs ih
  | own id sz n h => omega
  | ptr id sz i j h => omega
  | fn f cs _ ih => exact .fn f cs ih
  | tup l _ ih => exact .tup l ih
  | mp id h => omega
  | sub id sz o n h => omega
section
variable {P : Program} {N : Nat} {l : List Oper} {F : Frm} {σ : List Ob} {Q : Exit → Frm → List Ob → Prop}
theorem adraw_push {out : List (Nat × AV)} {ks : List PK} {obs : List Ob} (h : PSteps P N l.toArray σ.length l F 0 out ks obs) (hk : pOk l N σ.length ks out = true) (hmp : (σ.all fun ob => !isMp ob) = true) (hQ : Q .normal (out.reverse ++ F) (σ ++ obs)) : EDraw P N l F σ Q := by
  obtain ⟨h1, h2, h3, h4, h5⟩ := psteps_at h
  unfold pOk at hk
  simp only [Bool.and_eq_true] at hk
  obtain ⟨⟨hso, hself⟩, hall⟩ := hk
  have hEn := pIdx_nodup ks
  have hEl : (pIdx ks).length = obs.length := by rw [pIdx_len, h3]
  have hTE : σ ++ stM (pIdx ks) obs (fun j => (pIdx ks).contains j) = σ ++ obs := by
    congr 1
    refine List.ext_getElem? fun k => ?_
    by_cases hk : k < (pIdx ks).length
    · rw [stM_get hk]
      have : (pIdx ks).contains ((pIdx ks).getD k 0) = true := by
        rw [List.contains_iff_mem, List.getD_eq_getElem?_getD, List.getElem?_eq_getElem hk]
        exact List.getElem_mem hk
      rw [this, cond_true, List.getD_eq_getElem?_getD, List.getElem?_eq_getElem (by omega)]; rfl
    · rw [List.getElem?_eq_none (by rw [stM_len]; omega), List.getElem?_eq_none (by omega)]
  have hmpT : ∀ (m : Nat → Bool) (id : Nat) (ob : Ob), (σ ++ stM (pIdx ks) obs m)[id]? = some ob → isMp ob = false := by
    intro m id ob hob
    rcases List.mem_append.1 (List.mem_of_getElem? hob) with hm | hm
    · have := List.all_eq_true.1 hmp ob hm; simpa using this
    · unfold stM at hm
      obtain ⟨k, hk, rfl⟩ := List.mem_map.1 hm
      rw [List.mem_range] at hk
      cases m ((pIdx ks).getD k 0) with
      | false => rfl
      | true =>
        rw [cond_true, List.getD_eq_getElem?_getD, List.getElem?_eq_getElem (by omega)]
        exact h4 _ (List.getElem_mem _)
  have hdead : ∀ (m : Nat → Bool) (id : Nat), id ∈ hlM (pIdx ks) σ.length m → (σ ++ stM (pIdx ks) obs m)[id]? = some .dead := by
    intro m id hid
    obtain ⟨j, hj, rfl, hf⟩ := hlM_mem.1 hid
    rw [List.getElem?_append_right (by omega), Nat.add_sub_cancel_left, stM_get hj, hf]; rfl
  refine edraw_hole (E := pIdx ks) (T := fun D => σ ++ stM (pIdx ks) obs (fun j => D.contains j)) (H := fun D => hlM (pIdx ks) σ.length (fun j => D.contains j)) (out := out) hso (fun i hi => ?_) (fun j hj => ?_) h1 rfl obs.length ?_ (fun id hid => ?_) hTE (fun i o hi => ?_) hQ
  · by_cases hlt : i < (masks l []).length
    · have := List.all_eq_true.1 hself i (by simpa using hlt)
      rw [hi] at this; cases this
    · rw [List.getD_eq_getElem?_getD, List.getElem?_eq_none (by omega)] at hi
      simp at hi
  · have := (List.getElem?_eq_some_iff.1 (pIdx_mem.1 hj)).1; omega
  · congr 1
    refine List.ext_getElem? fun k => ?_
    by_cases hk : k < (pIdx ks).length
    · rw [stM_get hk, List.getElem?_replicate, if_pos (by omega)]; simp
    · rw [List.getElem?_eq_none (by rw [stM_len]; omega), List.getElem?_eq_none (by simp; omega)]
  · obtain ⟨j, _, rfl, _⟩ := hlM_mem.1 hid; omega
  · obtain ⟨g1, g2, p, g3, g4⟩ := h5 i o hi
    rw [Nat.add_zero] at g4
    have hex : ∃ x, p = ent N o x := by rcases g4 with ⟨x, e, _⟩ | ⟨x, e, _⟩ | ⟨x, ob, e, _⟩ <;> exact ⟨_, e⟩
    refine ⟨g1, p, g3, hex, .inr ⟨g2, fun q hc hr => ?_⟩⟩
    have hins : ∀ {i : Nat}, i ∉ pIdx ks → insE (pIdx ks) ((pIdx ks).filter q) i = (pIdx ks).filter q := fun {i} hn => by
      unfold insE
      refine List.filter_congr fun j hj => ?_
      have e1 : Nat.beq j i = false := by rw [Bool.eq_false_iff]; intro h; exact hn (Nat.eq_of_beq_eq_true h ▸ hj)
      rw [e1, Bool.or_false]
      cases hq : q j with
      | true => rw [List.contains_iff_mem, List.mem_filter]; exact ⟨hj, hq⟩
      | false => rw [Bool.eq_false_iff, Ne, List.contains_iff_mem, List.mem_filter]; rintro ⟨_, h⟩; rw [hq] at h; cases h
    rcases g4 with ⟨x, e, hk, hx, hD⟩ | ⟨x, e, hk, hdn, hD⟩ | ⟨x, ob, e, hk, hob, hD, hx, hnm, hm⟩
    · rw [hins (fun hm => by rw [pIdx_mem, hk] at hm; cases hm)]
      exact ⟨x, e, doesH_keep2 (hD _) (nm_lo hx) [] (fun _ _ => rfl) (hdead _) (by simp) (by simp) (hmpT _)⟩
    · rw [hins (fun hm => by rw [pIdx_mem, hk] at hm; cases hm)]
      have a1 := List.all_eq_true.1 hall _ (subs_filter q (pIdx ks))
      rw [hc, Bool.not_true, Bool.false_or] at a1
      have a2 := List.all_eq_true.1 a1 i (by simpa using (List.getElem?_eq_some_iff.1 hi).1)
      rw [hr, Bool.not_true, Bool.false_or, hk, g3] at a2
      subst e
      refine ⟨x, rfl, ?_⟩
      have hx : Nm (· ∉ hlM (pIdx ks) σ.length fun j => ((pIdx ks).filter q).contains j) x := by
        cases hdst : o.dst with
        | none => exact absurd hdst hdn
        | some d =>
          rw [ent_some hdst] at a2
          exact (nmB_of _ a2).mono fun i h => by simpa using h
      exact doesH_keep2 (hD _) hx [] (fun _ _ => rfl) (hdead _) (by simp) (by simp) (hmpT _)
    · have hj := pIdx_get ks i hk
      have hjl := (List.getElem?_eq_some_iff.1 hj).1
      have hjd : (pIdx ks).getD (cntP ks i) 0 = i := by rw [List.getD_eq_getElem?_getD, hj]; rfl
      have hni : ((pIdx ks).filter q).contains i = false := by
        unfold readyB at hr
        simp only [Bool.and_eq_true, Bool.not_eq_true'] at hr
        exact hr.1.1
      have m1 : (insE (pIdx ks) ((pIdx ks).filter q) i).contains ((pIdx ks).getD (cntP ks i) 0) = true := by
        rw [hjd, List.contains_iff_mem]
        unfold insE
        rw [List.mem_filter]
        exact ⟨pIdx_mem.2 hk, by simp⟩
      have m2 : ∀ k, k < (pIdx ks).length → k ≠ cntP ks i → (insE (pIdx ks) ((pIdx ks).filter q) i).contains ((pIdx ks).getD k 0) = ((pIdx ks).filter q).contains ((pIdx ks).getD k 0) := by
        intro k hkl hne
        have e0 : (pIdx ks).getD k 0 ≠ i := fun e => hne (getD_inj hEn hkl hjl (e.trans hjd.symm))
        have e1 : (pIdx ks).getD k 0 ∈ pIdx ks := by rw [List.getD_eq_getElem?_getD, List.getElem?_eq_getElem hkl]; exact List.getElem_mem hkl
        generalize (pIdx ks).getD k 0 = a at e0 e1
        have e2 : Nat.beq a i = false := by rw [Bool.eq_false_iff]; intro h; exact e0 (Nat.eq_of_beq_eq_true h)
        unfold insE
        rw [Bool.eq_iff_iff, List.contains_iff_mem, List.contains_iff_mem, List.mem_filter, e2, Bool.or_false, List.contains_iff_mem]
        exact ⟨fun h => h.2, fun h => ⟨e1, h⟩⟩
      have hin : σ.length + cntP ks i ∈ hlM (pIdx ks) σ.length fun j => ((pIdx ks).filter q).contains j := hlM_mem.2 ⟨cntP ks i, hjl, rfl, by rw [hjd]; exact hni⟩
      have hpush := doesH_push2 (hD _) hin (by rw [List.length_append, stM_len]; omega) (hdead _) (hx _ _) (hnm _) (hmpT _)
      rw [List.set_append_right _ _ (by omega), Nat.add_sub_cancel_left, stM_set hEn hjl hob m1 m2, hlM_step hjl m1 m2] at hpush
      exact ⟨_, e, hpush⟩
def PX (P : Program) (N : Nat) (ops : Array Oper) (all : List Oper) (n0 : Nat) (ak : List PK) (ao : List (Nat × AV)) (ab : List Ob) (l : List Oper) (F : Frm) (k : Nat) (K : Frm → List Ob → Prop) : Prop :=
  ∃ out ks obs, PSteps P N ops n0 l F k out ks obs ∧ pOk all N n0 (ak.reverse ++ ks) (ao.reverse ++ out) = true ∧ K (out.reverse ++ F) (ab.reverse ++ obs)
variable {ops : Array Oper} {all : List Oper} {n0 k d : Nat} {ak : List PK} {ao : List (Nat × AV)} {ab : List Ob} {K : Frm → List Ob → Prop} {o : Oper}
theorem px_nil (hk : pOk all N n0 ak.reverse ao.reverse = true) (h : K F ab.reverse) : PX P N ops all n0 ak ao ab [] F k K := ⟨[], [], [], .nil F k, by simpa using hk, by simpa using h⟩
theorem px_lo {x : AV} (hd : o.dst = some d) (hN : Nat.blt d N = true) (hr : Runs ops F o true) (hD : ∀ σ, Does P o F σ x σ) (hx : Lo 0 x) (h : PX P N ops all n0 (.lo :: ak) ((d, x) :: ao) ab l ((d, x) :: F) k K) : PX P N ops all n0 ak ao ab (o :: l) F k K := by
  obtain ⟨out, ks, obs, h1, h2, h3⟩ := h
  refine ⟨(d, x) :: out, .lo :: ks, obs, ?_, by simpa using h2, by simpa using h3⟩
  have := PSteps.lo (P := P) o l F k x out ks obs (dOk_s hd hN) hr hD hx (by rw [ent_some hd]; exact h1)
  rwa [ent_some hd] at this
theorem px_nm {x : AV} (hd : o.dst = some d) (hN : Nat.blt d N = true) (hr : Runs ops F o true) (hD : ∀ σ, Does P o F σ x σ) (h : PX P N ops all n0 (.nm :: ak) ((d, x) :: ao) ab l ((d, x) :: F) k K) : PX P N ops all n0 ak ao ab (o :: l) F k K := by
  obtain ⟨out, ks, obs, h1, h2, h3⟩ := h
  refine ⟨(d, x) :: out, .nm :: ks, obs, ?_, by simpa using h2, by simpa using h3⟩
  have := PSteps.nm (P := P) o l F k x out ks obs (by rw [hd]; simp) (dOk_s hd hN) hr hD (by rw [ent_some hd]; exact h1)
  rwa [ent_some hd] at this
theorem px_psh {x : Nat → AV} {ob : Ob} (hd : o.dst = some d) (hN : Nat.blt d N = true) (hr : Runs ops F o true) (hD : ∀ σ : List Ob, Does P o F σ (x σ.length) (σ ++ [ob])) (hx : ∀ m h, RnTo m h (x m) (x h)) (hob : ∀ q, ObNm q ob) (hmp : isMp ob = false) (h : PX P N ops all n0 (.psh :: ak) ((d, x (n0 + k)) :: ao) (ob :: ab) l ((d, x (n0 + k)) :: F) (k + 1) K) : PX P N ops all n0 ak ao ab (o :: l) F k K := by
  obtain ⟨out, ks, obs, h1, h2, h3⟩ := h
  refine ⟨(d, x (n0 + k)) :: out, .psh :: ks, ob :: obs, ?_, by simpa using h2, by simpa using h3⟩
  have := PSteps.psh (P := P) o l F k x ob out ks obs (dOk_s hd hN) hr hD hx hob hmp (by rw [ent_some hd]; exact h1)
  rwa [ent_some hd] at this
theorem adraw_px (hmp : (σ.all fun ob => !isMp ob) = true) (h : PX P N l.toArray l σ.length [] [] [] l F 0 (fun F' obs => Q .normal F' (σ ++ obs))) : ADraw P N l F σ Q := by
  obtain ⟨out, ks, obs, h1, h2, h3⟩ := h
  exact adraw_of (adraw_push h1 (by simpa using h2) hmp (by simpa using h3))
end
end Go.Proofs.Ytmoipmnhgdmkpaa.Aw
end
section
namespace Go.Proofs.Ytmoipmnhgdmkpaa.Aw
set_option linter.unusedSimpArgs false
set_option linter.unusedVariables false
set_option linter.unusedSectionVars false
open Go.RowKit Go.Proofs
variable {P : Program} [IsP P]

theorem cloneI_call (l : List Int) (h1 : 1 ≤ l.length) (h2 : l.length ≤ 12) (σ : List Ob) : CallE P 50 [eL eI l] σ (.own σ.length 1 l.length) (σ ++ [.row 1 (l.map eI)]) := by
  have hnn : NonNil (eL eI l) := by
    cases l with
    | nil => simp at h1
    | cons a t => exact .sl _ _
  have hlm : (l.map eI).length = l.length := by simp
  refine callE_fn (by rw [IsP.eq (P := P)]; exact Try.func50) rfl rfl (Nat.le_of_ble_eq_true rfl) ?_
  refine ew_seq ?_
  refine ew_region ?_
  refine eops_op rfl rfl (zaa rfl) (mv_s (.inr rfl) rfl) ?_
  refine eops_nil ?_
  refine zap ?_
  refine ew_seq ?_
  refine ew_seq ?_
  refine ew_region ?_
  refine eops_op rfl rfl (zaa rfl) (zbi (.inl rfl) rfl) ?_
  refine eops_op rfl rfl (zaa rfl) (does_eqnil rfl ts22 rfl hnn rfl (.inl ⟨rfl, rfl⟩)) ?_
  refine eops_nil ?_
  refine zap ?_
  refine ew_false rfl ?_
  refine ew_skip ?_
  refine zap ?_
  refine ew_seq ?_
  refine ew_region ?_
  refine eops_op rfl rfl (zaa rfl) (does_lit0 rfl rfl ts22 ti3) ?_
  refine eops_op rfl rfl (zaa rfl) (zbi (.inl rfl) rfl) ?_
  refine eops_op rfl rfl (zaa rfl) (zbn (l := l.map eI) rfl ts22 ti3 rfl (by decide) rfl (.inl rfl) rfl (.sl _ (by intro e he; simp at he; obtain ⟨_, _, rfl⟩ := he; rfl)) (by unfold maxLen; simp; omega) (by simp; omega)) ?_
  refine eops_op rfl rfl (zaa rfl) (za3 (.inr rfl) rfl) ?_
  refine eops_nil ?_
  refine zap ?_
  refine ew_ret ?_
  refine ⟨.inr rfl, rfl, _, .cons _ _ _ _ (.tmp _ _ rfl) .nil, ?_⟩
  rw [hlm]; rfl
def eBx (lo hi : List Int) : AV := .agg [eL eI lo, eL eI hi]
theorem nm_row {l : List Int} (q : Nat → Prop) : ObNm q (.row 1 (l.map eI)) := fun c hc => by
  obtain ⟨_, _, rfl⟩ := List.mem_map.1 hc; exact .s _
theorem post_cc {N : Nat} {F : Frm} {σ : List Ob} {ad ad2 : Nat} {ty ty2 : TypeId} {id sz k n bt id2 sz2 k2 n2 bt2 : Nat} {z z2 : Option Value} {ob ob2 : Ob} {cs cs2 : List AV} {e1 e2 r1 r2 : AV} {e : Exit} (he : e = .normal ∨ e = .ret) (ha : tyAgg P ty = some true) (hi : zbx P ty = some (z, n, bt)) (hp : F.get ad = .ptr id sz k 0) (hs : σ[id]? = some ob) (ho : rowOf ob = some (sz, cs)) (hk : cs[k]? = some e1) (hn : e1.cells.length = n)
    (ha2 : tyAgg P ty2 = some true) (hi2 : zbx P ty2 = some (z2, n2, bt2)) (hp2 : F.get ad2 = .ptr id2 sz2 k2 0) (hs2 : σ[id2]? = some ob2) (ho2 : rowOf ob2 = some (sz2, cs2)) (hk2 : cs2[k2]? = some e2) (hn2 : e2.cells.length = n2) (hr1 : Fini σ (.agg e1.cells) r1) (hr2 : Fini σ (.agg e2.cells) r2) : APost P [.cell ad ty, .cell ad2 ty2] (.tup [r1, r2]) e F σ :=
  ⟨he, [.agg e1.cells, .agg e2.cells], .cons _ _ _ _ (.cells ad ty id sz k n bt z ob cs e1 ha hi hp hs ho hk hn) (.cons _ _ _ _ (.cells ad2 ty2 id2 sz2 k2 n2 bt2 z2 ob2 cs2 e2 ha2 hi2 hp2 hs2 ho2 hk2 hn2) .nil), .tup _ _ rfl (FiniL.cons hr1 (FiniL.cons hr2 FiniL.nil)).2⟩
theorem post_c1 {N : Nat} {F : Frm} {σ : List Ob} {ad : Nat} {ty : TypeId} {id sz k n bt : Nat} {z : Option Value} {ob : Ob} {cs : List AV} {e1 r1 : AV} {e : Exit} (he : e = .normal ∨ e = .ret) (ha : tyAgg P ty = some true) (hi : zbx P ty = some (z, n, bt)) (hp : F.get ad = .ptr id sz k 0) (hs : σ[id]? = some ob) (ho : rowOf ob = some (sz, cs)) (hk : cs[k]? = some e1) (hn : e1.cells.length = n) (hr1 : Fini σ (.agg e1.cells) r1) : APost P [.cell ad ty] r1 e F σ :=
  ⟨he, [.agg e1.cells], .cons _ _ _ _ (.cells ad ty id sz k n bt z ob cs e1 ha hi hp hs ho hk hn) .nil, hr1⟩
def setI (l : List Int) (k : Nat) (x : Int) : List Int := l.set k x
theorem map_set (l : List Int) (k : Nat) (x : Int) : (l.map eI).set k (eI x) = (setI l k x).map eI := by
  unfold setI; rw [List.map_set]
set_option maxHeartbeats 2000000 in
theorem halves_pf (lo hi : List Int) (k : Nat) (t : Int) (h1 : k < lo.length) (h2 : hi.length = lo.length) (h3 : lo.length ≤ 12) (h4 : -1000 ≤ t) (h5 : t ≤ 1000) : Pure P 41 [eBx lo hi, eI k, eI t] (.tup [eBx lo (setI hi k t), eBx (setI lo k (t + 1)) hi]) := by
  have hlm : (lo.map eI).length = lo.length := by simp
  have hhm : (hi.map eI).length = hi.length := by simp
  refine aw_fn (by rw [IsP.eq (P := P)]; exact Try.func41) rfl rfl rfl rfl rfl (by repeat' (first | exact Lo.s _ | exact zah | refine zae ?_ ?_ | refine zai ?_ | refine Lo.cells ?_ | refine Lo.agg _ ?_ | refine Lo.ref _ ?_ | refine Lo.tup _ ?_ | refine Lo.fn _ _ ?_ | refine Lo.sl _ ?_ | intro _)) (by repeat' (first | exact Lo.s _ | exact zah | refine zae ?_ ?_ | refine zai ?_ | refine Lo.cells ?_ | refine Lo.agg _ ?_ | refine Lo.ref _ ?_ | refine Lo.tup _ ?_ | refine Lo.fn _ _ ?_ | refine Lo.sl _ ?_ | intro _)) (by simp only [argF]; rfl) ?_
  repeat (first | refine zag ?_ | refine zap ?_ | refine zad ?_ | refine zaq ?_ | refine zac ?_)
  refine zaf ?_
  refine zab rfl rfl (zaa rfl) (does_box rfl rfl rfl rfl) ?_
  refine zbr (wk_froz (id := 0) rfl) (zbr (wk_ref (d := 3) rfl rfl rfl) ?_)
  refine zab rfl rfl (zaa rfl) (zbu rfl ti69 rfl rfl) ?_
  refine zab rfl rfl (zaa rfl) (zbu rfl ti69 rfl rfl) ?_
  refine zan ?_
  repeat (first | refine zag ?_ | refine zap ?_ | refine zad ?_ | refine zaq ?_ | refine zac ?_)
  refine aw_draw hmix ?_
  refine adraw_lastT rfl (by kernel_rfl) ?_
  simp only [List.dropLast]
  refine adraw_px rfl ?_
  refine px_lo rfl rfl (zaa rfl) (fun _ => zaj rfl tf69_0 (by decide) rfl) (by repeat' (first | exact Lo.s _ | exact zah | refine zae ?_ ?_ | refine zai ?_ | refine Lo.cells ?_ | refine Lo.agg _ ?_ | refine Lo.ref _ ?_ | refine Lo.tup _ ?_ | refine Lo.fn _ _ ?_ | refine Lo.sl _ ?_ | intro _)) ?_
  refine px_lo rfl rfl (zaa rfl) (fun _ => zao rfl ta22 rfl) (by repeat' (first | exact Lo.s _ | exact zah | refine zae ?_ ?_ | refine zai ?_ | refine Lo.cells ?_ | refine Lo.agg _ ?_ | refine Lo.ref _ ?_ | refine Lo.tup _ ?_ | refine Lo.fn _ _ ?_ | refine Lo.sl _ ?_ | intro _)) ?_
  refine px_psh (x := fun n => .own n 1 lo.length) rfl rfl (zaa rfl) (fun σ => does_callE rfl rfl (cloneI_call lo (by omega) (by omega) σ) rfl) (fun m h => .own _ _) nm_row rfl ?_
  refine px_lo rfl rfl (zaa rfl) (fun _ => zaj rfl tf69_1 (by decide) rfl) (by repeat' (first | exact Lo.s _ | exact zah | refine zae ?_ ?_ | refine zai ?_ | refine Lo.cells ?_ | refine Lo.agg _ ?_ | refine Lo.ref _ ?_ | refine Lo.tup _ ?_ | refine Lo.fn _ _ ?_ | refine Lo.sl _ ?_ | intro _)) ?_
  refine px_lo rfl rfl (zaa rfl) (fun _ => zao rfl ta22 rfl) (by repeat' (first | exact Lo.s _ | exact zah | refine zae ?_ ?_ | refine zai ?_ | refine Lo.cells ?_ | refine Lo.agg _ ?_ | refine Lo.ref _ ?_ | refine Lo.tup _ ?_ | refine Lo.fn _ _ ?_ | refine Lo.sl _ ?_ | intro _)) ?_
  refine px_psh (x := fun n => .own n 1 hi.length) rfl rfl (zaa rfl) (fun σ => does_callE rfl rfl (cloneI_call hi (by omega) (by omega) σ) rfl) (fun m h => .own _ _) nm_row rfl ?_
  refine px_nm rfl rfl (zaa rfl) (fun _ => does_build rfl ti69 tp69 rfl rfl) ?_
  refine px_psh (x := fun n => .ptr n 2 0 0) rfl rfl (zaa rfl) (fun σ => zbu rfl ti69 rfl rfl) (fun m h => .ptr _ _ _) (fun q c hc => by simp at hc; subst hc; exact .agg _ (by intro c hc; simp [AV.cells] at hc; subst hc; exact .s _)) rfl ?_
  refine px_nil (by kernel_rfl) ?_
  refine zap ?_
  refine zb2 rfl (zaa rfl) (zbe rfl ti69 rfl rfl rfl rfl rfl rfl (by decide) (by decide)) ?_
  refine zan ?_
  repeat (first | refine zag ?_ | refine zap ?_ | refine zad ?_ | refine zaq ?_ | refine zac ?_)
  refine aw_draw hmix ?_
  refine adraw_lastT rfl (by kernel_rfl) ?_
  simp only [List.dropLast]
  refine adraw_px rfl ?_
  refine px_lo rfl rfl (zaa rfl) (fun _ => zaj rfl tf69_0 (by decide) rfl) (by repeat' (first | exact Lo.s _ | exact zah | refine zae ?_ ?_ | refine zai ?_ | refine Lo.cells ?_ | refine Lo.agg _ ?_ | refine Lo.ref _ ?_ | refine Lo.tup _ ?_ | refine Lo.fn _ _ ?_ | refine Lo.sl _ ?_ | intro _)) ?_
  refine px_lo rfl rfl (zaa rfl) (fun _ => zao rfl ta22 rfl) (by repeat' (first | exact Lo.s _ | exact zah | refine zae ?_ ?_ | refine zai ?_ | refine Lo.cells ?_ | refine Lo.agg _ ?_ | refine Lo.ref _ ?_ | refine Lo.tup _ ?_ | refine Lo.fn _ _ ?_ | refine Lo.sl _ ?_ | intro _)) ?_
  refine px_psh (x := fun n => .own n 1 lo.length) rfl rfl (zaa rfl) (fun σ => does_callE rfl rfl (cloneI_call lo (by omega) (by omega) σ) rfl) (fun m h => .own _ _) nm_row rfl ?_
  refine px_lo rfl rfl (zaa rfl) (fun _ => zaj rfl tf69_1 (by decide) rfl) (by repeat' (first | exact Lo.s _ | exact zah | refine zae ?_ ?_ | refine zai ?_ | refine Lo.cells ?_ | refine Lo.agg _ ?_ | refine Lo.ref _ ?_ | refine Lo.tup _ ?_ | refine Lo.fn _ _ ?_ | refine Lo.sl _ ?_ | intro _)) ?_
  refine px_lo rfl rfl (zaa rfl) (fun _ => zao rfl ta22 rfl) (by repeat' (first | exact Lo.s _ | exact zah | refine zae ?_ ?_ | refine zai ?_ | refine Lo.cells ?_ | refine Lo.agg _ ?_ | refine Lo.ref _ ?_ | refine Lo.tup _ ?_ | refine Lo.fn _ _ ?_ | refine Lo.sl _ ?_ | intro _)) ?_
  refine px_psh (x := fun n => .own n 1 hi.length) rfl rfl (zaa rfl) (fun σ => does_callE rfl rfl (cloneI_call hi (by omega) (by omega) σ) rfl) (fun m h => .own _ _) nm_row rfl ?_
  refine px_nm rfl rfl (zaa rfl) (fun _ => does_build rfl ti69 tp69 rfl rfl) ?_
  refine px_psh (x := fun n => .ptr n 2 0 0) rfl rfl (zaa rfl) (fun σ => zbu rfl ti69 rfl rfl) (fun m h => .ptr _ _ _) (fun q c hc => by simp at hc; subst hc; exact .agg _ (by intro c hc; simp [AV.cells] at hc; subst hc; exact .s _)) rfl ?_
  refine px_nil (by kernel_rfl) ?_
  refine zap ?_
  refine zb2 rfl (zaa rfl) (zbe rfl ti69 rfl rfl rfl rfl rfl rfl (by decide) (by decide)) ?_
  refine zan ?_
  repeat (first | refine zag ?_ | refine zap ?_ | refine zad ?_ | refine zaq ?_ | refine zac ?_)
  have e1 : eL eI (setI hi k t) = .sl ((hi.map eI).set k (eI t)) := by rw [map_set]; rfl
  have e2 : eL eI (setI lo k (t + 1)) = .sl ((lo.map eI).set k (eI (t + 1))) := by rw [map_set]; rfl
  have g1 : (hi.map eI)[k]? = some (eI (gti hi k)) := zb5 (by omega)
  have g2 : (lo.map eI)[k]? = some (eI (gti lo k)) := zb5 (by omega)
  all_goals refine aw_draw hmix ?_
  all_goals refine adraw_ex ?_
  all_goals (first | refine zas rfl rfl (zaa rfl) (fun _ => (zal rfl tf69_1 (by decide) rfl)) ?_ | refine zas rfl rfl (zaa rfl) (fun _ => (zaj rfl tf69_1 (by decide) rfl)) ?_)
  all_goals (first | refine zas rfl rfl (zaa rfl) (fun _ => (zao rfl ta22 rfl)) ?_ | refine zb4 rfl rfl (zaa rfl) (look_ptr rfl ta22 rfl rfl rfl rfl rfl) ?_)
  all_goals refine zas rfl rfl (zaa rfl) (fun _ => (mv_s (.inl rfl) rfl)) ?_
  all_goals (first | refine zas rfl rfl (zaa rfl) (fun _ => (zal rfl tf69_0 (by decide) rfl)) ?_ | refine zas rfl rfl (zaa rfl) (fun _ => (zaj rfl tf69_0 (by decide) rfl)) ?_)
  all_goals (first | refine zas rfl rfl (zaa rfl) (fun _ => (zao rfl ta22 rfl)) ?_ | refine zb4 rfl rfl (zaa rfl) (look_ptr rfl ta22 rfl rfl rfl rfl rfl) ?_)
  all_goals refine zas rfl rfl (zaa rfl) (fun _ => (mv_s (.inl rfl) rfl)) ?_
  all_goals refine zas rfl rfl (zaa rfl) (fun _ => (mv_s (.inl rfl) rfl)) ?_
  all_goals refine zas rfl rfl (zaa rfl) (fun _ => (mv_s (.inl rfl) rfl)) ?_
  all_goals refine zas rfl rfl (zaa rfl) (fun _ => (zbw rfl rfl rfl (IntWalk.i64_in _ (by omega)))) ?_
  all_goals (first | refine zas rfl rfl (zaa rfl) (fun _ => (za1 rfl ts22 ti3 rfl rfl rfl (by omega) rfl)) ?_ | refine zas rfl rfl (zaa rfl) (fun _ => (zav rfl ts22 ti3 rfl rfl rfl (by omega))) ?_)
  all_goals refine ex_eff0 rfl (zaa rfl) (zbe rfl ti3 rfl rfl rfl g1 rfl rfl (by decide) (by decide)) (fun _ h => set_other h) ?_
  all_goals (first | refine zas rfl rfl (zaa rfl) (fun _ => (za1 rfl ts22 ti3 rfl rfl rfl h1 rfl)) ?_ | refine zas rfl rfl (zaa rfl) (fun _ => (zav rfl ts22 ti3 rfl rfl rfl h1)) ?_)
  all_goals refine ex_eff0 rfl (zaa rfl) (zbe rfl ti3 rfl rfl rfl g2 rfl rfl (by decide) (by decide)) (fun _ h => set_other h) ?_
  all_goals refine ex_nil (by kernel_rfl) ?_
  all_goals (repeat (first | refine zag ?_ | refine zap ?_ | refine zad ?_ | refine zaq ?_ | refine zac ?_))
  all_goals refine aw_draw hmix ?_
  all_goals refine adraw_ex ?_
  all_goals (first | refine zas rfl rfl (zaa rfl) (fun _ => (za9 rfl ta69 ti69 rfl rfl)) ?_ | refine zb4 rfl rfl (zaa rfl) (look_whole rfl ta69 ti69 rfl rfl rfl rfl rfl) ?_ | refine zas rfl rfl (zaa rfl) (fun _ => (za8 rfl ta69 ti69 rfl (Nat.le_of_ble_eq_true rfl))) ?_ | refine zb4 rfl rfl (zaa rfl) (look_ptrs rfl ta69 ti69 rfl rfl rfl rfl (Nat.le_of_ble_eq_true rfl)) ?_)
  all_goals (first | refine zas rfl rfl (zaa rfl) (fun _ => (za9 rfl ta69 ti69 rfl rfl)) ?_ | refine zb4 rfl rfl (zaa rfl) (look_whole rfl ta69 ti69 rfl rfl rfl rfl rfl) ?_ | refine zas rfl rfl (zaa rfl) (fun _ => (za8 rfl ta69 ti69 rfl (Nat.le_of_ble_eq_true rfl))) ?_ | refine zb4 rfl rfl (zaa rfl) (look_ptrs rfl ta69 ti69 rfl rfl rfl rfl (Nat.le_of_ble_eq_true rfl)) ?_)
  all_goals refine ex_eff0 rfl (zaa rfl) (zbe rfl ti69 rfl rfl rfl rfl rfl rfl (by decide) (by decide)) (fun _ h => set_other h) ?_
  all_goals refine ex_eff0 rfl (zaa rfl) (zbe rfl ti69 rfl rfl rfl rfl rfl rfl (by decide) (by decide)) (fun _ h => set_other h) ?_
  all_goals refine ex_nil (by kernel_rfl) ?_
  all_goals (repeat (first | refine zag ?_ | refine zap ?_ | refine zad ?_ | refine zaq ?_ | refine zac ?_))
  (refine zbt ?_; repeat (first | refine ath_r ?_ | refine abl_r ?_))
  refine post_cc (N := 0) (.inr rfl) ta69 ti69 rfl rfl rfl rfl rfl ta69 ti69 rfl rfl rfl rfl rfl ?_ ?_
  · exact .agg _ _ rfl (FiniL.cons (.own _ _ _ _ _ rfl rfl (by simp)) (FiniL.cons (by rw [e1]; exact .own _ _ _ _ _ rfl rfl (by simp)) FiniL.nil)).2
  · exact .agg _ _ rfl (FiniL.cons (by rw [e2]; exact .own _ _ _ _ _ rfl rfl (by simp)) (FiniL.cons (.own _ _ _ _ _ rfl rfl (by simp)) FiniL.nil)).2
end Go.Proofs.Ytmoipmnhgdmkpaa.Aw
end
section
namespace Go.Proofs.Ytmoipmnhgdmkpaa.Aw
set_option linter.unusedSimpArgs false
set_option linter.unusedVariables false
open Go.RowKit Go.Proofs
variable {P : Program} [IsP P]

theorem fvalid1_pf (a : Fr) : Pure P 74 [eF a] (eB (!a.okB)) := by
  refine aw_fn (by rw [IsP.eq (P := P)]; exact Try.func74) rfl rfl rfl rfl rfl (by repeat' (first | exact Lo.s _ | exact zah | refine zae ?_ ?_ | refine zai ?_ | refine Lo.cells ?_ | refine Lo.agg _ ?_ | refine Lo.ref _ ?_ | refine Lo.tup _ ?_ | refine Lo.fn _ _ ?_ | refine Lo.sl _ ?_ | intro _)) (by repeat' (first | exact Lo.s _ | exact zah | refine zae ?_ ?_ | refine zai ?_ | refine Lo.cells ?_ | refine Lo.agg _ ?_ | refine Lo.ref _ ?_ | refine Lo.tup _ ?_ | refine Lo.fn _ _ ?_ | refine Lo.sl _ ?_ | intro _)) (by simp only [argF]; rfl) ?_
  repeat (first | refine zag ?_ | refine zap ?_ | refine zad ?_ | refine zaq ?_ | refine zac ?_)
  refine zaf ?_
  refine zab rfl rfl (zaa rfl) (does_box rfl rfl rfl rfl) ?_
  refine zbr (wk_froz (id := 0) rfl) (zbr (wk_ref (d := 1) rfl rfl rfl) ?_)
  refine zab rfl rfl (zaa rfl) (mv_s (.inr rfl) rfl) ?_
  refine zan ?_
  repeat (first | refine zag ?_ | refine zap ?_ | refine zad ?_ | refine zaq ?_ | refine zac ?_)
  refine zaf ?_
  first | refine zab rfl rfl (zaa rfl) (za9 rfl ta59 ti59 rfl rfl) ?_ | refine zab rfl rfl (zaa rfl) (zbf rfl ta59 ti59 rfl rfl rfl rfl rfl) ?_ | refine zab rfl rfl (zaa rfl) (za8 rfl ta59 ti59 rfl (Nat.le_of_ble_eq_true rfl)) ?_ | refine zab rfl rfl (zaa rfl) (zbg rfl ta59 ti59 rfl rfl rfl rfl (Nat.le_of_ble_eq_true rfl)) ?_
  refine zab rfl rfl (zaa rfl) (za5 rfl rfl (fValid_pf _) (zat rfl zbl)) ?_
  first | refine zab rfl rfl (zaa rfl) (does_notp rfl rfl) ?_ | refine zab rfl rfl (zaa rfl) (does_not rfl rfl) ?_
  refine zab rfl rfl (zaa rfl) (mv_s (.inr rfl) rfl) ?_
  refine zan ?_
  repeat (first | refine zag ?_ | refine zap ?_ | refine zad ?_ | refine zaq ?_ | refine zac ?_)
  (refine zbt ?_; repeat (first | refine ath_r ?_ | refine abl_r ?_))
  exact post1 (.inr rfl) rfl (congrArg eB (by simp [Fr.okB]))
theorem fvalid_pf (l : List Fr) : Pure P 67 [eL eF l] (eB (l.all Fr.okB)) := by
  have hc := containsFF_pf (P := P) 74 [] (fun a => !a.okB) l lo_F (.fn _ _ (by simp)) (fun a _ => fvalid1_pf a)
  refine aw_fn (by rw [IsP.eq (P := P)]; exact Try.func67) rfl rfl rfl rfl rfl (by repeat' (first | exact Lo.s _ | exact zah | refine zae ?_ ?_ | refine zai ?_ | refine Lo.cells ?_ | refine Lo.agg _ ?_ | refine Lo.ref _ ?_ | refine Lo.tup _ ?_ | refine Lo.fn _ _ ?_ | refine Lo.sl _ ?_ | intro _)) (by repeat' (first | exact Lo.s _ | exact zah | refine zae ?_ ?_ | refine zai ?_ | refine Lo.cells ?_ | refine Lo.agg _ ?_ | refine Lo.ref _ ?_ | refine Lo.tup _ ?_ | refine Lo.fn _ _ ?_ | refine Lo.sl _ ?_ | intro _)) (by simp only [argF]; rfl) ?_
  repeat (first | refine zag ?_ | refine zap ?_ | refine zad ?_ | refine zaq ?_ | refine zac ?_)
  refine zaf ?_
  refine zab rfl rfl (zaa rfl) (mv_s (.inr rfl) rfl) ?_
  refine zan ?_
  repeat (first | refine zag ?_ | refine zap ?_ | refine zad ?_ | refine zaq ?_ | refine zac ?_)
  refine zaf ?_
  first | refine zab rfl rfl (zaa rfl) (za3 (.inl rfl) rfl) ?_ | refine zab rfl rfl (zaa rfl) (zbi (.inl rfl) rfl) ?_ | refine zab rfl rfl (zaa rfl) (mv_s (.inl rfl) rfl) ?_ | refine zab rfl rfl (zaa rfl) (za4 (.inl rfl) rfl) ?_
  refine zab rfl rfl (zaa rfl) (za5 rfl rfl (by assumption) (zat rfl (zat rfl zbl))) ?_
  first | refine zab rfl rfl (zaa rfl) (does_notp rfl rfl) ?_ | refine zab rfl rfl (zaa rfl) (does_not rfl rfl) ?_
  refine zab rfl rfl (zaa rfl) (mv_s (.inr rfl) rfl) ?_
  refine zan ?_
  repeat (first | refine zag ?_ | refine zap ?_ | refine zad ?_ | refine zaq ?_ | refine zac ?_)
  (refine zbt ?_; repeat (first | refine ath_r ?_ | refine abl_r ?_))
  exact post1 (.inr rfl) rfl (congrArg eB (all_okB l).symm)
/-- the sum goes on -/
def dotG : Fr → List Fr → List Fr → FE
  | acc, a :: ta, b :: tb => if (mulE a b).e ≠ 0 then FE.err (mulE a b).e else if (addE acc ⟨(mulE a b).n, (mulE a b).d⟩).e ≠ 0 then FE.err (addE acc ⟨(mulE a b).n, (mulE a b).d⟩).e else dotG ⟨(addE acc ⟨(mulE a b).n, (mulE a b).d⟩).n, (addE acc ⟨(mulE a b).n, (mulE a b).d⟩).d⟩ ta tb
  | acc, _, _ => ⟨acc.n, acc.d, 0⟩
def dotE (a b : List Fr) : FE := if ¬ (a.all Fr.okB = true ∧ b.all Fr.okB = true) then FE.err 1 else if 1000 < a.length ∨ 1000 < b.length then FE.err 5 else if a.length ≠ b.length then FE.err 29 else dotG (Fr.of 0) a b
theorem dotG_step {acc : Fr} {a b : List Fr} {k : Nat} (h1 : k < a.length) (h2 : k < b.length) : dotG acc (a.drop k) (b.drop k) = if (mulE (gti a k) (gti b k)).e ≠ 0 then FE.err (mulE (gti a k) (gti b k)).e else if (addE acc ⟨(mulE (gti a k) (gti b k)).n, (mulE (gti a k) (gti b k)).d⟩).e ≠ 0 then FE.err (addE acc ⟨(mulE (gti a k) (gti b k)).n, (mulE (gti a k) (gti b k)).d⟩).e else dotG ⟨(addE acc ⟨(mulE (gti a k) (gti b k)).n, (mulE (gti a k) (gti b k)).d⟩).n, (addE acc ⟨(mulE (gti a k) (gti b k)).n, (mulE (gti a k) (gti b k)).d⟩).d⟩ (a.drop (k + 1)) (b.drop (k + 1)) := by
  have e1 : a.drop k = gti a k :: a.drop (k + 1) := by
    rw [List.drop_eq_getElem_cons h1]
    have := gti_get h1
    rw [List.getElem?_eq_getElem h1] at this
    rw [Option.some.inj this]
  have e2 : b.drop k = gti b k :: b.drop (k + 1) := by
    rw [List.drop_eq_getElem_cons h2]
    have := gti_get h2
    rw [List.getElem?_eq_getElem h2] at this
    rw [Option.some.inj this]
  rw [e1, e2, dotG]
theorem dotG_end {acc : Fr} {a b : List Fr} {k : Nat} (h : k = a.length) : dotG acc (a.drop k) (b.drop k) = ⟨acc.n, acc.d, 0⟩ := by
  subst h
  rw [List.drop_length, dotG]
  intro a ta b tb h; cases h
theorem dotE_arg {a b : List Fr} (h : ¬ (a.all Fr.okB = true ∧ b.all Fr.okB = true)) : dotE a b = ⟨0, 0, 1⟩ := if_pos h
theorem dotE_full {a b : List Fr} (h1 : a.all Fr.okB = true) (h2 : b.all Fr.okB = true) (h : 1000 < a.length ∨ 1000 < b.length) : dotE a b = ⟨0, 0, 5⟩ := by unfold dotE; rw [if_neg (fun h => h ⟨h1, h2⟩), if_pos h]; rfl
theorem dotE_size {a b : List Fr} (h1 : a.all Fr.okB = true) (h2 : b.all Fr.okB = true) (h3 : ¬ (1000 < a.length ∨ 1000 < b.length)) (h : a.length ≠ b.length) : dotE a b = ⟨0, 0, 29⟩ := by unfold dotE; rw [if_neg (fun h => h ⟨h1, h2⟩), if_neg h3, if_pos h]; rfl
theorem dotE_go {a b : List Fr} (h1 : a.all Fr.okB = true) (h2 : b.all Fr.okB = true) (h3 : ¬ (1000 < a.length ∨ 1000 < b.length)) (h : a.length = b.length) : dotE a b = dotG (Fr.of 0) (a.drop 0) (b.drop 0) := by unfold dotE; rw [if_neg (fun h => h ⟨h1, h2⟩), if_neg h3, if_neg (fun h' => h' h)]; rfl
set_option maxHeartbeats 1000000 in
theorem fDot_pf (a b : List Fr) : Pure P 64 [eL eF a, eL eF b] (eFE (dotE a b)) := by
  refine aw_fn (by rw [IsP.eq (P := P)]; exact Try.func64) rfl rfl rfl rfl rfl (by repeat' (first | exact Lo.s _ | exact zah | refine zae ?_ ?_ | refine zai ?_ | refine Lo.cells ?_ | refine Lo.agg _ ?_ | refine Lo.ref _ ?_ | refine Lo.tup _ ?_ | refine Lo.fn _ _ ?_ | refine Lo.sl _ ?_ | intro _)) (by repeat' (first | exact Lo.s _ | exact zah | refine zae ?_ ?_ | refine zai ?_ | refine Lo.cells ?_ | refine Lo.agg _ ?_ | refine Lo.ref _ ?_ | refine Lo.tup _ ?_ | refine Lo.fn _ _ ?_ | refine Lo.sl _ ?_ | intro _)) (by simp only [argF]; rfl) ?_
  repeat (first | refine zag ?_ | refine zap ?_ | refine zad ?_ | refine zaq ?_ | refine zac ?_)
  refine aw_bdm (d := 0) rfl (fun hm1 => ?_)
  refine aw_bdm (d := 1) rfl (fun hm2 => ?_)
  unfold maxLen at hm1 hm2
  refine zaf ?_
  refine zab rfl rfl (zaa rfl) (zbu rfl ti59 rfl rfl) ?_
  refine zab rfl rfl (zaa rfl) (mv_s (.inr rfl) rfl) ?_
  refine zan ?_
  repeat (first | refine zag ?_ | refine zap ?_ | refine zad ?_ | refine zaq ?_ | refine zac ?_)
  all_goals refine zaf ?_
  all_goals (first | refine zab rfl rfl (zaa rfl) (za3 (.inl rfl) rfl) ?_ | refine zab rfl rfl (zaa rfl) (zbi (.inl rfl) rfl) ?_ | refine zab rfl rfl (zaa rfl) (mv_s (.inl rfl) rfl) ?_ | refine zab rfl rfl (zaa rfl) (za4 (.inl rfl) rfl) ?_)
  all_goals (first | refine zbj rfl rfl (zaa rfl) (za5 rfl rfl (fvalid_pf _) (zat rfl zbl)) (fun h12 => ?_) (fun h12 => ?_) | refine zbk rfl rfl (zaa rfl) (za5 rfl rfl (fvalid_pf _) (zat rfl zbl)) (fun h12 => ?_) (fun h12 => ?_))
  all_goals (first | refine zab rfl rfl (zaa rfl) (does_notp rfl rfl) ?_ | refine zab rfl rfl (zaa rfl) (does_not rfl rfl) ?_)
  all_goals refine zab rfl rfl (zaa rfl) (mv_s (.inl rfl) rfl) ?_
  all_goals (first | refine zab rfl rfl (zak rfl rfl rfl) (za3 (.inl rfl) rfl) ?_ | refine zab rfl rfl (zak rfl rfl rfl) (zbi (.inl rfl) rfl) ?_ | refine zab rfl rfl (zak rfl rfl rfl) (mv_s (.inl rfl) rfl) ?_ | refine zab rfl rfl (zak rfl rfl rfl) (za4 (.inl rfl) rfl) ?_ | refine zam rfl rfl (za2 rfl rfl rfl) ?_ | refine zam rfl rfl (zau rfl rfl rfl) ?_)
  all_goals (first | refine zbj rfl rfl (zak rfl rfl rfl) (za5 rfl rfl (fvalid_pf _) (zat rfl zbl)) (fun h16 => ?_) (fun h16 => ?_) | refine zbk rfl rfl (zak rfl rfl rfl) (za5 rfl rfl (fvalid_pf _) (zat rfl zbl)) (fun h16 => ?_) (fun h16 => ?_) | refine zam rfl rfl (za2 rfl rfl rfl) ?_ | refine zam rfl rfl (zau rfl rfl rfl) ?_)
  all_goals (first | refine zab rfl rfl (zak rfl rfl rfl) (does_notp rfl rfl) ?_ | refine zab rfl rfl (zak rfl rfl rfl) (does_not rfl rfl) ?_ | refine zam rfl rfl (za2 rfl rfl rfl) ?_ | refine zam rfl rfl (zau rfl rfl rfl) ?_)
  all_goals (first | refine zab rfl rfl (zaa rfl) (zb0 rfl rfl rfl) ?_ | refine zab rfl rfl (zaa rfl) (zb1 rfl rfl rfl) ?_ | refine zab rfl rfl (zaa rfl) (zbo rfl rfl rfl) ?_ | refine zab rfl rfl (zaa rfl) (zbp rfl rfl rfl) ?_)
  all_goals refine zab rfl rfl (zaa rfl) (mv_s (.inr rfl) rfl) ?_
  all_goals refine zan ?_
  all_goals (repeat (first | refine zag ?_ | refine zap ?_ | refine zad ?_ | refine zaq ?_ | refine zac ?_))
  all_goals (first | refine zbq rfl ?_ | refine zbm rfl ?_)
  all_goals (repeat (first | refine zag ?_ | refine zap ?_ | refine zad ?_ | refine zaq ?_ | refine zac ?_))
  · skip
    all_goals refine zaf ?_
    all_goals (first | refine zab rfl rfl (zaa rfl) (za3 (.inl rfl) rfl) ?_ | refine zab rfl rfl (zaa rfl) (zbi (.inl rfl) rfl) ?_ | refine zab rfl rfl (zaa rfl) (mv_s (.inl rfl) rfl) ?_ | refine zab rfl rfl (zaa rfl) (za4 (.inl rfl) rfl) ?_)
    all_goals (first | refine zab rfl rfl (zaa rfl) (za0 rfl ts27 rfl) ?_ | refine zab rfl rfl (zaa rfl) (za7 rfl ts27 rfl) ?_ | refine zab rfl rfl (zaa rfl) (zaw rfl ts27 rfl) ?_ | refine zab rfl rfl (zaa rfl) (zbc rfl ts27 rfl) ?_ | refine zab rfl rfl (zaa rfl) (zax rfl ts27 rfl) ?_)
    all_goals (first | refine zbj rfl rfl (zaa rfl) (zbz rfl rfl rfl) (fun h23 => ?_) (fun h23 => ?_) | refine zbk rfl rfl (zaa rfl) (zbz rfl rfl rfl) (fun h23 => ?_) (fun h23 => ?_))
    all_goals refine zab rfl rfl (zaa rfl) (mv_s (.inl rfl) rfl) ?_
    all_goals (first | refine zab rfl rfl (zak rfl rfl rfl) (za3 (.inl rfl) rfl) ?_ | refine zab rfl rfl (zak rfl rfl rfl) (zbi (.inl rfl) rfl) ?_ | refine zab rfl rfl (zak rfl rfl rfl) (mv_s (.inl rfl) rfl) ?_ | refine zab rfl rfl (zak rfl rfl rfl) (za4 (.inl rfl) rfl) ?_ | refine zam rfl rfl (za2 rfl rfl rfl) ?_ | refine zam rfl rfl (zau rfl rfl rfl) ?_)
    all_goals (first | refine zab rfl rfl (zak rfl rfl rfl) (za0 rfl ts27 rfl) ?_ | refine zab rfl rfl (zak rfl rfl rfl) (za7 rfl ts27 rfl) ?_ | refine zab rfl rfl (zak rfl rfl rfl) (zaw rfl ts27 rfl) ?_ | refine zab rfl rfl (zak rfl rfl rfl) (zbc rfl ts27 rfl) ?_ | refine zab rfl rfl (zak rfl rfl rfl) (zax rfl ts27 rfl) ?_ | refine zam rfl rfl (za2 rfl rfl rfl) ?_ | refine zam rfl rfl (zau rfl rfl rfl) ?_)
    all_goals (first | refine zbj rfl rfl (zak rfl rfl rfl) (zbz rfl rfl rfl) (fun h27 => ?_) (fun h27 => ?_) | refine zbk rfl rfl (zak rfl rfl rfl) (zbz rfl rfl rfl) (fun h27 => ?_) (fun h27 => ?_) | refine zam rfl rfl (za2 rfl rfl rfl) ?_ | refine zam rfl rfl (zau rfl rfl rfl) ?_)
    all_goals (first | refine zab rfl rfl (zaa rfl) (zb0 rfl rfl rfl) ?_ | refine zab rfl rfl (zaa rfl) (zb1 rfl rfl rfl) ?_ | refine zab rfl rfl (zaa rfl) (zbo rfl rfl rfl) ?_ | refine zab rfl rfl (zaa rfl) (zbp rfl rfl rfl) ?_)
    all_goals refine zab rfl rfl (zaa rfl) (mv_s (.inr rfl) rfl) ?_
    all_goals refine zan ?_
    all_goals (repeat (first | refine zag ?_ | refine zap ?_ | refine zad ?_ | refine zaq ?_ | refine zac ?_))
    all_goals (first | refine zbq rfl ?_ | refine zbm rfl ?_)
    all_goals (repeat (first | refine zag ?_ | refine zap ?_ | refine zad ?_ | refine zaq ?_ | refine zac ?_))
    rotate_left 2
    · have h3 : ¬ (1000 < a.length ∨ 1000 < b.length) := by omega
      all_goals refine zaf ?_
      all_goals (first | refine zab rfl rfl (zaa rfl) (za3 (.inl rfl) rfl) ?_ | refine zab rfl rfl (zaa rfl) (zbi (.inl rfl) rfl) ?_ | refine zab rfl rfl (zaa rfl) (mv_s (.inl rfl) rfl) ?_ | refine zab rfl rfl (zaa rfl) (za4 (.inl rfl) rfl) ?_)
      all_goals (first | refine zab rfl rfl (zaa rfl) (za0 rfl ts27 rfl) ?_ | refine zab rfl rfl (zaa rfl) (za7 rfl ts27 rfl) ?_ | refine zab rfl rfl (zaa rfl) (zaw rfl ts27 rfl) ?_ | refine zab rfl rfl (zaa rfl) (zbc rfl ts27 rfl) ?_ | refine zab rfl rfl (zaa rfl) (zax rfl ts27 rfl) ?_)
      all_goals (first | refine zab rfl rfl (zaa rfl) (za3 (.inl rfl) rfl) ?_ | refine zab rfl rfl (zaa rfl) (zbi (.inl rfl) rfl) ?_ | refine zab rfl rfl (zaa rfl) (mv_s (.inl rfl) rfl) ?_ | refine zab rfl rfl (zaa rfl) (za4 (.inl rfl) rfl) ?_)
      all_goals (first | refine zab rfl rfl (zaa rfl) (za0 rfl ts27 rfl) ?_ | refine zab rfl rfl (zaa rfl) (za7 rfl ts27 rfl) ?_ | refine zab rfl rfl (zaa rfl) (zaw rfl ts27 rfl) ?_ | refine zab rfl rfl (zaa rfl) (zbc rfl ts27 rfl) ?_ | refine zab rfl rfl (zaa rfl) (zax rfl ts27 rfl) ?_)
      all_goals (first | refine zbj rfl rfl (zaa rfl) (does_neq rfl rfl rfl) (fun h35 => ?_) (fun h35 => ?_) | refine zbk rfl rfl (zaa rfl) (does_neq rfl rfl rfl) (fun h35 => ?_) (fun h35 => ?_))
      all_goals refine zab rfl rfl (zaa rfl) (mv_s (.inr rfl) rfl) ?_
      all_goals refine zan ?_
      all_goals (repeat (first | refine zag ?_ | refine zap ?_ | refine zad ?_ | refine zaq ?_ | refine zac ?_))
      all_goals (first | refine zbq rfl ?_ | refine zbm rfl ?_)
      all_goals (repeat (first | refine zag ?_ | refine zap ?_ | refine zad ?_ | refine zaq ?_ | refine zac ?_))
      · skip
        refine zaf ?_
        refine zab rfl rfl (zaa rfl) (does_build rfl ti59 tp59 rfl rfl) ?_
        refine zb2 rfl (zaa rfl) (zbe rfl ti59 rfl rfl rfl rfl rfl rfl (by decide) (by decide)) ?_
        refine zab rfl rfl (zaa rfl) (mv_s (.inr rfl) rfl) ?_
        refine zan ?_
        repeat (first | refine zag ?_ | refine zap ?_ | refine zad ?_ | refine zaq ?_ | refine zac ?_)
        (refine zbt ?_; repeat (first | refine ath_r ?_ | refine abl_r ?_))
        exact post_ct (.inr rfl) ta59 ti59 rfl rfl rfl rfl rfl rfl (by rw [dotE_size h12 h16 h3 (by omega)]; rfl)
      · have hl : a.length = b.length := by omega
        have HI := dotE_go h12 h16 h3 hl
        refine zaf ?_
        refine zab rfl rfl (zaa rfl) (does_build rfl ti59 tp59 rfl rfl) ?_
        refine zab rfl rfl (zaa rfl) (zbu rfl ti59 rfl rfl) ?_
        refine zb2 rfl (zaa rfl) (zbe rfl ti59 rfl rfl rfl rfl rfl rfl (by decide) (by decide)) ?_
        refine zan ?_
        repeat (first | refine zag ?_ | refine zap ?_ | refine zad ?_ | refine zaq ?_ | refine zac ?_)
        refine zaf ?_
        first | refine zab rfl rfl (zaa rfl) (za3 (.inl rfl) rfl) ?_ | refine zab rfl rfl (zaa rfl) (zbi (.inl rfl) rfl) ?_ | refine zab rfl rfl (zaa rfl) (mv_s (.inl rfl) rfl) ?_ | refine zab rfl rfl (zaa rfl) (za4 (.inl rfl) rfl) ?_
        first | refine zab rfl rfl (zaa rfl) (za0 rfl ts27 rfl) ?_ | refine zab rfl rfl (zaa rfl) (za7 rfl ts27 rfl) ?_ | refine zab rfl rfl (zaa rfl) (zaw rfl ts27 rfl) ?_ | refine zab rfl rfl (zaa rfl) (zbc rfl ts27 rfl) ?_ | refine zab rfl rfl (zaa rfl) (zax rfl ts27 rfl) ?_
        refine zab rfl rfl (zaa rfl) (mv_s (.inl rfl) rfl) ?_
        refine zan ?_
        repeat (first | refine zag ?_ | refine zap ?_ | refine zad ?_ | refine zaq ?_ | refine zac ?_)
        refine aw_loops (S := Fr × Nat) (fun s => [(0, eL eF a), (1, eL eF b), (4, .ptr 0 2 0 0), (6, .ptr 1 2 0 0), (39, eI a.length), (40, eI s.2)]) (fun s => [.row 2 [.agg [eI 0, eI 0]], .row 2 [eF s.1]]) (fun s => s.2 ≤ a.length ∧ dotE a b = dotG s.1 (a.drop s.2) (b.drop s.2)) (fun s => a.length - s.2) (Fr.of 0, 0) (wk_st [0, 1] (by decide) ⟨⟨_, rfl, .rowE (by repeat' (first | exact Lo.s _ | exact zah | exact zba | refine zae ?_ ?_ | refine zaz ?_ ?_ | refine zai ?_ | refine zbb ?_ | refine Lo.cells ?_ | refine Lo.agg _ ?_ | refine Lo.sl _ ?_ | intro _)) rfl⟩, ⟨_, rfl, .rowE (by repeat' (first | exact Lo.s _ | exact zah | exact zba | refine zae ?_ ?_ | refine zaz ?_ ?_ | refine zai ?_ | refine zbb ?_ | refine Lo.cells ?_ | refine Lo.agg _ ?_ | refine Lo.sl _ ?_ | intro _)) rfl⟩, trivial⟩ ⟨.lo _ (by repeat' (first | exact Lo.s _ | exact zah | refine zae ?_ ?_ | refine zai ?_ | refine Lo.cells ?_ | refine Lo.agg _ ?_ | refine Lo.ref _ ?_ | refine Lo.tup _ ?_ | refine Lo.fn _ _ ?_ | refine Lo.sl _ ?_ | intro _)), .lo _ (by repeat' (first | exact Lo.s _ | exact zah | refine zae ?_ ?_ | refine zai ?_ | refine Lo.cells ?_ | refine Lo.agg _ ?_ | refine Lo.ref _ ?_ | refine Lo.tup _ ?_ | refine Lo.fn _ _ ?_ | refine Lo.sl _ ?_ | intro _)), .ptr 0 0 2 0 0 rfl, .ptr 1 1 2 0 0 rfl, .lo _ (by repeat' (first | exact Lo.s _ | exact zah | refine zae ?_ ?_ | refine zai ?_ | refine Lo.cells ?_ | refine Lo.agg _ ?_ | refine Lo.ref _ ?_ | refine Lo.tup _ ?_ | refine Lo.fn _ _ ?_ | refine Lo.sl _ ?_ | intro _)), .lo _ (by repeat' (first | exact Lo.s _ | exact zah | refine zae ?_ ?_ | refine zai ?_ | refine Lo.cells ?_ | refine Lo.agg _ ?_ | refine Lo.ref _ ?_ | refine Lo.tup _ ?_ | refine Lo.fn _ _ ?_ | refine Lo.sl _ ?_ | intro _)), trivial⟩) ⟨Nat.zero_le _, HI⟩ (fun s hk => ?_)
        obtain ⟨acc, k⟩ := s
        obtain ⟨hk, HI⟩ := hk
        dsimp only at hk HI ⊢
        repeat (first | refine zag ?_ | refine zap ?_ | refine zad ?_ | refine zaq ?_ | refine zac ?_)
        all_goals refine zaf ?_
        all_goals (first | refine zbj rfl rfl (zaa rfl) (zbd rfl rfl rfl) (fun h41 => ?_) (fun h41 => ?_) | refine zbk rfl rfl (zaa rfl) (zbd rfl rfl rfl) (fun h41 => ?_) (fun h41 => ?_))
        all_goals refine zan ?_
        all_goals (repeat (first | refine zag ?_ | refine zap ?_ | refine zad ?_ | refine zaq ?_ | refine zac ?_))
        all_goals (first | refine zbq rfl ?_ | refine zbm rfl ?_)
        all_goals (repeat (first | refine zag ?_ | refine zap ?_ | refine zad ?_ | refine zaq ?_ | refine zac ?_))
        · have h1 : k < a.length := by omega
          have h2 : k < b.length := by omega
          rw [dotG_step h1 h2] at HI
          generalize hx : mulE (gti a k) (gti b k) = x at HI
          have hmul := fMul_pf (P := P) (gti a k) (gti b k)
          rw [hx] at hmul
          refine zaf ?_
          refine zab rfl rfl (zaa rfl) (mv_s (.inl rfl) rfl) ?_
          refine zab rfl rfl (zaa rfl) (mv_s (.inr rfl) rfl) ?_
          refine zan ?_
          repeat (first | refine zag ?_ | refine zap ?_ | refine zad ?_ | refine zaq ?_ | refine zac ?_)
          all_goals refine aw_draw hmix ?_
          all_goals refine adraw_ex ?_
          all_goals (first | refine zas rfl rfl (zaa rfl) (fun _ => (za3 (.inl rfl) rfl)) ?_ | refine zas rfl rfl (zaa rfl) (fun _ => (zbi (.inl rfl) rfl)) ?_ | refine zas rfl rfl (zaa rfl) (fun _ => (mv_s (.inl rfl) rfl)) ?_ | refine zas rfl rfl (zaa rfl) (fun _ => (za4 (.inl rfl) rfl)) ?_)
          all_goals refine zas rfl rfl (zaa rfl) (fun _ => (mv_s (.inl rfl) rfl)) ?_
          all_goals (first | refine zas rfl rfl (zaa rfl) (fun _ => (za1 rfl ts27 ti59 rfl rfl rfl (zb5 (by omega)) rfl)) ?_ | refine zas rfl rfl (zaa rfl) (fun _ => (zav rfl ts27 ti59 rfl rfl rfl (by omega))) ?_)
          all_goals (first | refine zas rfl rfl (zaa rfl) (fun _ => (za9 rfl ta59 ti59 rfl rfl)) ?_ | refine zb4 rfl rfl (zaa rfl) (look_whole rfl ta59 ti59 rfl rfl rfl rfl rfl) ?_ | refine zas rfl rfl (zaa rfl) (fun _ => (za8 rfl ta59 ti59 rfl (Nat.le_of_ble_eq_true rfl))) ?_ | refine zb4 rfl rfl (zaa rfl) (look_ptrs rfl ta59 ti59 rfl rfl rfl rfl (Nat.le_of_ble_eq_true rfl)) ?_)
          all_goals (first | refine zas rfl rfl (zaa rfl) (fun _ => (za3 (.inl rfl) rfl)) ?_ | refine zas rfl rfl (zaa rfl) (fun _ => (zbi (.inl rfl) rfl)) ?_ | refine zas rfl rfl (zaa rfl) (fun _ => (mv_s (.inl rfl) rfl)) ?_ | refine zas rfl rfl (zaa rfl) (fun _ => (za4 (.inl rfl) rfl)) ?_)
          all_goals refine zas rfl rfl (zaa rfl) (fun _ => (mv_s (.inl rfl) rfl)) ?_
          all_goals (first | refine zas rfl rfl (zaa rfl) (fun _ => (za1 rfl ts27 ti59 rfl rfl rfl (zb5 (by omega)) rfl)) ?_ | refine zas rfl rfl (zaa rfl) (fun _ => (zav rfl ts27 ti59 rfl rfl rfl (by omega))) ?_)
          all_goals (first | refine zas rfl rfl (zaa rfl) (fun _ => (za9 rfl ta59 ti59 rfl rfl)) ?_ | refine zb4 rfl rfl (zaa rfl) (look_whole rfl ta59 ti59 rfl rfl rfl rfl rfl) ?_ | refine zas rfl rfl (zaa rfl) (fun _ => (za8 rfl ta59 ti59 rfl (Nat.le_of_ble_eq_true rfl))) ?_ | refine zb4 rfl rfl (zaa rfl) (look_ptrs rfl ta59 ti59 rfl rfl rfl rfl (Nat.le_of_ble_eq_true rfl)) ?_)
          all_goals refine zas rfl rfl (zaa rfl) (fun _ => (za5 rfl rfl (hmul) (zat rfl (zat rfl zbl)))) ?_
          all_goals (first | refine zas rfl rfl (zaa rfl) (fun _ => (mv_tup (.inl rfl) rfl)) ?_ | refine zas rfl rfl (zaa rfl) (fun _ => (mv_s (.inl rfl) rfl)) ?_)
          all_goals refine zas rfl rfl (zaa rfl) (fun _ => (zbh rfl rfl rfl)) ?_
          all_goals refine zas rfl rfl (zaa rfl) (fun _ => (zbh rfl rfl rfl)) ?_
          all_goals refine ex_eff rfl rfl (zaa rfl) (zbu rfl ti59 rfl rfl) (fun _ h => app_other h) ?_
          all_goals refine ex_eff0 rfl (zaa rfl) (zbe rfl ti59 rfl rfl rfl rfl rfl rfl (by decide) (by decide)) (fun _ h => set_other h) ?_
          all_goals refine zas rfl rfl (zaa rfl) (fun _ => (mv_s (.inr rfl) rfl)) ?_
          all_goals refine ex_nil (by kernel_rfl) ?_
          all_goals (repeat (first | refine zag ?_ | refine zap ?_ | refine zad ?_ | refine zaq ?_ | refine zac ?_))
          all_goals refine zaf ?_
          all_goals refine zab rfl rfl (zaa rfl) (mv_s (.inl rfl) rfl) ?_
          all_goals (first | refine zbj rfl rfl (zaa rfl) (does_neq rfl rfl rfl) (fun h56 => ?_) (fun h56 => ?_) | refine zbk rfl rfl (zaa rfl) (does_neq rfl rfl rfl) (fun h56 => ?_) (fun h56 => ?_))
          all_goals refine zan ?_
          all_goals (repeat (first | refine zag ?_ | refine zap ?_ | refine zad ?_ | refine zaq ?_ | refine zac ?_))
          all_goals (first | refine zbq rfl ?_ | refine zbm rfl ?_)
          all_goals (repeat (first | refine zag ?_ | refine zap ?_ | refine zad ?_ | refine zaq ?_ | refine zac ?_))
          · rw [if_pos (by omega)] at HI
            refine zaf ?_
            refine zab rfl rfl (zaa rfl) (does_build rfl ti59 tp59 rfl rfl) ?_
            refine zab rfl rfl (zaa rfl) (mv_s (.inl rfl) rfl) ?_
            refine zb2 rfl (zaa rfl) (zbe rfl ti59 rfl rfl rfl rfl rfl rfl (by decide) (by decide)) ?_
            refine zab rfl rfl (zaa rfl) (mv_s (.inr rfl) rfl) ?_
            refine zan ?_
            repeat (first | refine zag ?_ | refine zap ?_ | refine zad ?_ | refine zaq ?_ | refine zac ?_)
            (refine zbt ?_; repeat (first | refine ath_r ?_ | refine abl_r ?_))
            exact post_ct (.inr rfl) ta59 ti59 rfl rfl rfl rfl rfl rfl (by rw [HI]; rfl)
          · rw [if_neg (by omega)] at HI
            generalize hy : addE acc ⟨x.n, x.d⟩ = y at HI
            have hadd := fAdd_pf (P := P) acc ⟨x.n, x.d⟩
            rw [hy] at hadd
            refine zaf ?_
            first | refine zab rfl rfl (zaa rfl) (za9 rfl ta59 ti59 rfl rfl) ?_ | refine zab rfl rfl (zaa rfl) (zbf rfl ta59 ti59 rfl rfl rfl rfl rfl) ?_ | refine zab rfl rfl (zaa rfl) (za8 rfl ta59 ti59 rfl (Nat.le_of_ble_eq_true rfl)) ?_ | refine zab rfl rfl (zaa rfl) (zbg rfl ta59 ti59 rfl rfl rfl rfl (Nat.le_of_ble_eq_true rfl)) ?_
            first | refine zab rfl rfl (zaa rfl) (za9 rfl ta59 ti59 rfl rfl) ?_ | refine zab rfl rfl (zaa rfl) (zbf rfl ta59 ti59 rfl rfl rfl rfl rfl) ?_ | refine zab rfl rfl (zaa rfl) (za8 rfl ta59 ti59 rfl (Nat.le_of_ble_eq_true rfl)) ?_ | refine zab rfl rfl (zaa rfl) (zbg rfl ta59 ti59 rfl rfl rfl rfl (Nat.le_of_ble_eq_true rfl)) ?_
            refine zab rfl rfl (zaa rfl) (za5 rfl rfl (hadd) (zat rfl (zat rfl zbl))) ?_
            first | refine zab rfl rfl (zaa rfl) (mv_tup (.inl rfl) rfl) ?_ | refine zab rfl rfl (zaa rfl) (mv_s (.inl rfl) rfl) ?_
            refine zab rfl rfl (zaa rfl) (zbh rfl rfl rfl) ?_
            refine zab rfl rfl (zaa rfl) (zbh rfl rfl rfl) ?_
            refine zb2 rfl (zaa rfl) (zbe rfl ti59 rfl rfl rfl rfl rfl rfl (by decide) (by decide)) ?_
            refine zab rfl rfl (zaa rfl) (mv_s (.inr rfl) rfl) ?_
            refine zan ?_
            repeat (first | refine zag ?_ | refine zap ?_ | refine zad ?_ | refine zaq ?_ | refine zac ?_)
            all_goals refine zaf ?_
            all_goals refine zab rfl rfl (zaa rfl) (mv_s (.inl rfl) rfl) ?_
            all_goals (first | refine zbj rfl rfl (zaa rfl) (does_neq rfl rfl rfl) (fun h66 => ?_) (fun h66 => ?_) | refine zbk rfl rfl (zaa rfl) (does_neq rfl rfl rfl) (fun h66 => ?_) (fun h66 => ?_))
            all_goals refine zan ?_
            all_goals (repeat (first | refine zag ?_ | refine zap ?_ | refine zad ?_ | refine zaq ?_ | refine zac ?_))
            all_goals (first | refine zbq rfl ?_ | refine zbm rfl ?_)
            all_goals (repeat (first | refine zag ?_ | refine zap ?_ | refine zad ?_ | refine zaq ?_ | refine zac ?_))
            · rw [if_pos (by omega)] at HI
              refine zaf ?_
              refine zab rfl rfl (zaa rfl) (does_build rfl ti59 tp59 rfl rfl) ?_
              refine zab rfl rfl (zaa rfl) (mv_s (.inl rfl) rfl) ?_
              refine zb2 rfl (zaa rfl) (zbe rfl ti59 rfl rfl rfl rfl rfl rfl (by decide) (by decide)) ?_
              refine zab rfl rfl (zaa rfl) (mv_s (.inr rfl) rfl) ?_
              refine zan ?_
              repeat (first | refine zag ?_ | refine zap ?_ | refine zad ?_ | refine zaq ?_ | refine zac ?_)
              (refine zbt ?_; repeat (first | refine ath_r ?_ | refine abl_r ?_))
              exact post_ct (.inr rfl) ta59 ti59 rfl rfl rfl rfl rfl rfl (by rw [HI]; rfl)
            · rw [if_neg (by omega)] at HI
              refine zaf ?_
              refine zab rfl rfl (zaa rfl) (zbw rfl rfl rfl (IntWalk.i64_in _ (by omega))) ?_
              refine zab rfl rfl (zaa rfl) (mv_s (.inl rfl) rfl) ?_
              refine zan ?_
              repeat (first | refine zag ?_ | refine zap ?_ | refine zad ?_ | refine zaq ?_ | refine zac ?_)
              exact ⟨(⟨y.n, y.d⟩, k + 1), ⟨by dsimp only; omega, HI⟩, by dsimp only; omega, wk_st [0, 1] (by decide) ⟨⟨_, rfl, .rowE (by repeat' (first | exact Lo.s _ | exact zah | exact zba | refine zae ?_ ?_ | refine zaz ?_ ?_ | refine zai ?_ | refine zbb ?_ | refine Lo.cells ?_ | refine Lo.agg _ ?_ | refine Lo.sl _ ?_ | intro _)) rfl⟩, ⟨_, rfl, .rowE (by repeat' (first | exact Lo.s _ | exact zah | exact zba | refine zae ?_ ?_ | refine zaz ?_ ?_ | refine zai ?_ | refine zbb ?_ | refine Lo.cells ?_ | refine Lo.agg _ ?_ | refine Lo.sl _ ?_ | intro _)) rfl⟩, trivial⟩ ⟨.lo _ (by repeat' (first | exact Lo.s _ | exact zah | refine zae ?_ ?_ | refine zai ?_ | refine Lo.cells ?_ | refine Lo.agg _ ?_ | refine Lo.ref _ ?_ | refine Lo.tup _ ?_ | refine Lo.fn _ _ ?_ | refine Lo.sl _ ?_ | intro _)), .lo _ (by repeat' (first | exact Lo.s _ | exact zah | refine zae ?_ ?_ | refine zai ?_ | refine Lo.cells ?_ | refine Lo.agg _ ?_ | refine Lo.ref _ ?_ | refine Lo.tup _ ?_ | refine Lo.fn _ _ ?_ | refine Lo.sl _ ?_ | intro _)), .ptr 0 0 2 0 0 rfl, .ptr 1 1 2 0 0 rfl, .lo _ (by repeat' (first | exact Lo.s _ | exact zah | refine zae ?_ ?_ | refine zai ?_ | refine Lo.cells ?_ | refine Lo.agg _ ?_ | refine Lo.ref _ ?_ | refine Lo.tup _ ?_ | refine Lo.fn _ _ ?_ | refine Lo.sl _ ?_ | intro _)), .lo _ (by repeat' (first | exact Lo.s _ | exact zah | refine zae ?_ ?_ | refine zai ?_ | refine Lo.cells ?_ | refine Lo.agg _ ?_ | refine Lo.ref _ ?_ | refine Lo.tup _ ?_ | refine Lo.fn _ _ ?_ | refine Lo.sl _ ?_ | intro _)), trivial⟩⟩
        · rw [dotG_end (by omega)] at HI
          (refine aw_exit ?_; repeat (first | refine ath_x ?_ | refine abl_hit ?_ | refine abl_miss rfl ?_ | refine zaq ?_ | refine zap ?_ | refine zag ?_ | refine zad ?_ | refine zac ?_))
          refine zaf ?_
          first | refine zab rfl rfl (zaa rfl) (za9 rfl ta59 ti59 rfl rfl) ?_ | refine zab rfl rfl (zaa rfl) (zbf rfl ta59 ti59 rfl rfl rfl rfl rfl) ?_ | refine zab rfl rfl (zaa rfl) (za8 rfl ta59 ti59 rfl (Nat.le_of_ble_eq_true rfl)) ?_ | refine zab rfl rfl (zaa rfl) (zbg rfl ta59 ti59 rfl rfl rfl rfl (Nat.le_of_ble_eq_true rfl)) ?_
          refine zb2 rfl (zaa rfl) (zbe rfl ti59 rfl rfl rfl rfl rfl rfl (by decide) (by decide)) ?_
          refine zab rfl rfl (zaa rfl) (mv_s (.inr rfl) rfl) ?_
          refine zan ?_
          repeat (first | refine zag ?_ | refine zap ?_ | refine zad ?_ | refine zaq ?_ | refine zac ?_)
          (refine zbt ?_; repeat (first | refine ath_r ?_ | refine abl_r ?_))
          exact post_ct (.inr rfl) ta59 ti59 rfl rfl rfl rfl rfl rfl (by rw [HI]; rfl)
    all_goals (refine zaf ?_)
    all_goals (refine zab rfl rfl (zaa rfl) (does_build rfl ti59 tp59 rfl rfl) ?_)
    all_goals (refine zb2 rfl (zaa rfl) (zbe rfl ti59 rfl rfl rfl rfl rfl rfl (by decide) (by decide)) ?_)
    all_goals (refine zab rfl rfl (zaa rfl) (mv_s (.inr rfl) rfl) ?_)
    all_goals (refine zan ?_)
    all_goals (repeat (first | refine zag ?_ | refine zap ?_ | refine zad ?_ | refine zaq ?_ | refine zac ?_))
    all_goals (refine zbt ?_; repeat (first | refine ath_r ?_ | refine abl_r ?_))
    all_goals exact post_ct (.inr rfl) ta59 ti59 rfl rfl rfl rfl rfl rfl (by rw [dotE_full h12 h16 (by omega)]; rfl)
  all_goals (refine zaf ?_)
  all_goals (refine zab rfl rfl (zaa rfl) (does_build rfl ti59 tp59 rfl rfl) ?_)
  all_goals (refine zb2 rfl (zaa rfl) (zbe rfl ti59 rfl rfl rfl rfl rfl rfl (by decide) (by decide)) ?_)
  all_goals (refine zab rfl rfl (zaa rfl) (mv_s (.inr rfl) rfl) ?_)
  all_goals (refine zan ?_)
  all_goals (repeat (first | refine zag ?_ | refine zap ?_ | refine zad ?_ | refine zaq ?_ | refine zac ?_))
  all_goals (refine zbt ?_; repeat (first | refine ath_r ?_ | refine abl_r ?_))
  all_goals exact post_ct (.inr rfl) ta59 ti59 rfl rfl rfl rfl rfl rfl (by rw [dotE_arg (by rintro ⟨q1, q2⟩; first | exact Bool.noConfusion (q1.symm.trans h12) | exact Bool.noConfusion (q2.symm.trans h16))]; rfl)
end Go.Proofs.Ytmoipmnhgdmkpaa.Aw
end
