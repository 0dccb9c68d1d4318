import Derived.Test.YtllkbjcemecmjaaGreatJB5
import Derived.Test.YtllkbjcemecmjaaGreatJB4
set_option linter.unusedSimpArgs false
set_option linter.unusedVariables false
set_option linter.unusedSectionVars false
section
namespace Go.Proofs.YtllkbjcemecmjaaGreat.Aw
open Go Go.RowKit
abbrev Orc := FuncId → List AV → Option AV
abbrev CallF := FuncId → List AV → Sto → Option (AV × Sto × List Nat)
section
variable {P : Program} {o : Oper} {F : Frm} {s : Sto}
end
section
variable {P : Program} {o : Oper} {F : Frm} {s : Sto} {orc : Orc} {call : CallF}
def kdW : Kd → List Nat
 | .eff W => W
 | _ => []
theorem OpOk.chg {s' : Sto} {x : AV} {k : Kd} (h : OpOk P o F s (x, s', k)) : Chg s s' (kdW k) := by
 cases h with
 | free => exact .refl _
 | look => exact .refl _
 | eff _ _ W _ hW => exact hW
theorem Chg.acc {a b c : Sto} {V W : List Nat} (h : Chg a b V) (k : Chg b c W) : Chg a c (W ++ V) := fun id hid => by
 simp only [List.mem_append, not_or] at hid
 exact (k id hid.1).trans (h id hid.2)
end
section
variable (P : Program) (N : Nat) (orc : Orc) (call : CallF)
def selfB (m : List Nat) : Bool := (List.range m.length).all fun i => !((m.getD i 0).testBit i)
end
section
variable {P : Program} {N : Nat} {orc : Orc} {call : CallF} {F F' : Frm} {s s' : Sto}
theorem S8.ent {σ : List Ob} {G : Cx} {a : Act} {o : Oper} {v : Value} {x : AV} (h : S8 N G a F σ) (hd : dOk N o = true) (hv : Rep G v x) : S8 N G (a.put o.dst v) (ent N o x :: F) σ := by
 cases hd2 : o.dst with
 | some d => rw [zc0 hd2]; exact h.put (dOk_lt hd hd2) hv
 | none => rw [ent_none hd2]; exact ⟨h.rel, h.fr.more (.any _), h.df, h.nt⟩
def StepAt (P : Program) (N : Nat) (ops : Array Oper) (o : Oper) (F : Frm) (s s1 : Sto) (k : Kd) (x : AV) : Prop := dOk N o = true ∧ ((Runs ops F o false ∧ x = .s undef ∧ s1 = s ∧ k = .free) ∨ (Runs ops F o true ∧ OpOk P o F s (x, s1, k)))
theorem StepAt.chg {ops : Array Oper} {o : Oper} {s1 : Sto} {k : Kd} {x : AV} (h : StepAt P N ops o F s s1 k x) : Chg s s1 (kdW k) := by
 rcases h.2 with ⟨_, _, rfl, rfl⟩ | ⟨_, h⟩
 ·
  exact .refl _
 ·
  exact h.chg
abbrev XR := Exit × FT × Sto × List Nat
def Is (r : XR) : Exit → Frm → List Ob → Prop := fun e F σ => e = r.1 ∧ FEq F r.2.1 ∧ σ = r.2.2.1.abs
end
abbrev RunF := Nat → FT → Sto → List Nat → Option XR
section
variable (P : Program) (orc : Orc) (call : CallF) (N : Nat)
end
theorem S8.get {N : Nat} {G : Cx} {a : Act} {F F' : Frm} {σ : List Ob} (h : S8 N G a F σ) (e : ∀ t, F'.get t = F.get t) : S8 N G a F' σ := ⟨h.rel, fun d => by rw [e]; exact h.fr d, h.df, h.nt⟩
section
variable {P : Program} {N : Nat} {orc : Orc} {call : CallF}
def RunOk (P : Program) (N : Nat) (c : Code) (run : RunF) : Prop := ∀ n F t s W r, FEq F t → run n t s W = some r → EWp P N c F s.abs (Is r) ∧ (∀ s0, Chg s0 s W → Chg s0 r.2.2.1 r.2.2.2) ∧ ∃ F', FEq F' r.2.1
theorem RunOk.wp {c : Code} {run : RunF} (h : RunOk P N c run) {n : Nat} {F : Frm} {t : FT} {s : Sto} {W : List Nat} {r : XR} (hF : FEq F t) (hr : run n t s W = some r) : EWp P N c F s.abs (Is r) := (h n F t s W r hF hr).1
end
section
variable (P : Program) (orc : Orc)
def below (k n : Nat) (W : List Nat) : List Nat := W.filter (fun i => Nat.blt i k) ++ (List.range (n - k)).map (k + ·)
end
section
variable {P : Program} {orc : Orc} {F : Frm} {s : Sto}
end
end Go.Proofs.YtllkbjcemecmjaaGreat.Aw
end
section
namespace Go.Proofs.YtllkbjcemecmjaaGreat.Aw
open Go.RowKit
inductive PK | lo | nm | psh
def PK.isP : PK → Bool
 | .psh => true
 | _ => false
inductive PSteps (P : Program) (N : Nat) (ops : Array Oper) (n0 : Nat) : List Oper → Frm → Nat → List (Nat × AV) → List PK → List Ob → Prop
 | nil (F : Frm) (k : Nat) : PSteps P N ops n0 [] F k [] [] []
 | lo (o : Oper) (l : List Oper) (F : Frm) (k : Nat) (x : AV) (out : List (Nat × AV)) (ks : List PK) (obs : List Ob) (hd : dOk N o = true) (hr : Runs ops F o true) (hD : ∀ σ, Does P o F σ x σ) (hx : Lo 0 x) (h : PSteps P N ops n0 l (ent N o x :: F) k out ks obs) : PSteps P N ops n0 (o :: l) F k (ent N o x :: out) (.lo :: ks) obs
 | nm (o : Oper) (l : List Oper) (F : Frm) (k : Nat) (x : AV) (out : List (Nat × AV)) (ks : List PK) (obs : List Ob) (hs : o.dst ≠ none) (hd : dOk N o = true) (hr : Runs ops F o true) (hD : ∀ σ, Does P o F σ x σ) (h : PSteps P N ops n0 l (ent N o x :: F) k out ks obs) : PSteps P N ops n0 (o :: l) F k (ent N o x :: out) (.nm :: ks) obs
 | psh (o : Oper) (l : List Oper) (F : Frm) (k : Nat) (x : Nat → AV) (ob : Ob) (out : List (Nat × AV)) (ks : List PK) (obs : List Ob) (hd : dOk N o = true) (hr : Runs ops F o true) (hD : ∀ σ : List Ob, Does P o F σ (x σ.length) (σ ++ [ob])) (hx : ∀ m h, RnTo m h (x m) (x h)) (hob : ∀ q, ObNm q ob) (hmp : isMp ob = false) (h : PSteps P N ops n0 l (ent N o (x (n0 + k)) :: F) (k + 1) out ks obs) : PSteps P N ops n0 (o :: l) F k (ent N o (x (n0 + k)) :: out) (.psh :: ks) (ob :: obs)
def pIdx (ks : List PK) : List Nat := (List.range ks.length).filter fun i => match ks[i]? with | some k => k.isP | none => false
def hlM (E : List Nat) (n0 : Nat) (m : Nat → Bool) : List Nat := ((List.range E.length).filter fun j => !m (E.getD j 0)).map (n0 + ·)
def stM (E : List Nat) (obs : List Ob) (m : Nat → Bool) : List Ob := (List.range E.length).map fun j => bif m (E.getD j 0) then obs.getD j .dead else .dead
def pOk (l : List Oper) (N n0 : Nat) (ks : List PK) (out : List (Nat × AV)) : Bool :=
 sOk l N && selfB (masks l []) && (subs (pIdx ks)).all fun D => !(closedB (masks l []) (pIdx ks) D) || (List.range l.length).all fun i => !(readyB (masks l []) (pIdx ks) D i) || match ks[i]?, out[i]? with
  | some .nm, some p => nmB (fun id => !((hlM (pIdx ks) n0 fun j => D.contains j).contains id)) p.2
  | _, _ => true
def PAt (P : Program) (N : Nat) (ops : Array Oper) (n0 : Nat) (o : Oper) (F : Frm) (p : Nat × AV) (k : Option PK) (j : Nat) (obs : List Ob) : Prop :=
 (∃ x, p = ent N o x ∧ k = some .lo ∧ Lo 0 x ∧ ∀ σ, Does P o F σ x σ) ∨ (∃ x, p = ent N o x ∧ k = some .nm ∧ o.dst ≠ none ∧ ∀ σ, Does P o F σ x σ) ∨
 (∃ (x : Nat → AV) (ob : Ob), p = ent N o (x (n0 + j)) ∧ k = some .psh ∧ obs[j]? = some ob ∧ (∀ σ : List Ob, Does P o F σ (x σ.length) (σ ++ [ob])) ∧ (∀ m h, RnTo m h (x m) (x h)) ∧ (∀ q, ObNm q ob) ∧ isMp ob = false)
def cntP (ks : List PK) (i : Nat) : Nat := ((ks.take i).filter PK.isP).length
theorem cntP_succ (k : PK) (ks : List PK) (i : Nat) : cntP (k :: ks) (i + 1) = (bif k.isP then 1 else 0) + cntP ks i := by
 unfold cntP
 rw [List.take_succ_cons, List.filter_cons]
 cases h : k.isP <;> simp [Nat.add_comm]
theorem psteps_at {P : Program} {N : Nat} {ops : Array Oper} {n0 : Nat} : ∀ {l : List Oper} {F : Frm} {k : Nat} {out : List (Nat × AV)} {ks : List PK} {obs : List Ob}, PSteps P N ops n0 l F k out ks obs → l.length = out.length ∧ ks.length = l.length ∧ (ks.filter PK.isP).length = obs.length ∧ (∀ ob ∈ obs, isMp ob = false) ∧
  ∀ (i : Nat) o, l[i]? = some o → dOk N o = true ∧ Runs ops ((out.take i).reverse ++ F) o true ∧ ∃ p, out[i]? = some p ∧ PAt P N ops (n0 + k) o ((out.take i).reverse ++ F) p ks[i]? (cntP ks i) obs := by
 intro l F k out ks obs h
 induction h with
 | nil F k => exact ⟨rfl, rfl, rfl, by simp, by simp⟩
 | lo o l F k x out ks obs hd hr hD hx h ih =>
  obtain ⟨h1, h2, h3, h4, h5⟩ := ih
  refine ⟨by simp [h1], by simp [h2], by simpa [PK.isP] using h3, h4, fun i o' hi => ?_⟩
  cases i with
  | zero => simp at hi; subst hi; exact ⟨hd, by simpa using hr, _, rfl, .inl ⟨x, rfl, rfl, hx, by simpa using hD⟩⟩
  | succ i =>
   obtain ⟨g1, g2, p, g3, g4⟩ := h5 i o' (by simpa using hi)
   refine ⟨g1, by simpa using g2, p, by simpa using g3, ?_⟩
   rw [cntP_succ]
   simpa [PK.isP] using g4
 | nm o l F k x out ks obs hs hd hr hD h ih =>
  obtain ⟨h1, h2, h3, h4, h5⟩ := ih
  refine ⟨by simp [h1], by simp [h2], by simpa [PK.isP] using h3, h4, fun i o' hi => ?_⟩
  cases i with
  | zero => simp at hi; subst hi; exact ⟨hd, by simpa using hr, _, rfl, .inr (.inl ⟨x, rfl, rfl, hs, by simpa using hD⟩)⟩
  | succ i =>
   obtain ⟨g1, g2, p, g3, g4⟩ := h5 i o' (by simpa using hi)
   refine ⟨g1, by simpa using g2, p, by simpa using g3, ?_⟩
   rw [cntP_succ]
   simpa [PK.isP] using g4
 | psh o l F k x ob out ks obs hd hr hD hx hob hmp h ih =>
  obtain ⟨h1, h2, h3, h4, h5⟩ := ih
  refine ⟨by simp [h1], by simp [h2], by simp [PK.isP, List.filter_cons, h3], fun ob' hm => ?_, fun i o' hi => ?_⟩
  ·
   rcases List.mem_cons.1 hm with e | hm
   ·
    rw [e]; exact hmp
   ·
    exact h4 ob' hm
  cases i with
  | zero => simp at hi; subst hi; exact ⟨hd, by simpa using hr, _, rfl, .inr (.inr ⟨x, ob, rfl, rfl, rfl, by simpa using hD, hx, hob, hmp⟩)⟩
  | succ i =>
   obtain ⟨g1, g2, p, g3, g4⟩ := h5 i o' (by simpa using hi)
   refine ⟨g1, by simpa using g2, p, by simpa using g3, ?_⟩
   rw [cntP_succ, show (bif PK.psh.isP then 1 else 0) + cntP ks i = cntP ks i + 1 from Nat.add_comm _ _]
   rcases g4 with ⟨x, a1, a2, a3, a4⟩ | ⟨x, a1, a2, a0, a3⟩ | ⟨x, ob', a1, a2, a3, a4, a5, a6, a7⟩
   ·
    exact .inl ⟨x, a1, by simpa using a2, a3, by simpa using a4⟩
   ·
    exact .inr (.inl ⟨x, a1, by simpa using a2, a0, by simpa using a3⟩)
   ·
    refine .inr (.inr ⟨x, ob', ?_, by simpa using a2, by simpa using a3, by simpa using a4, a5, a6, a7⟩)
    rw [a1, show n0 + (k + 1) + cntP ks i = n0 + k + (cntP ks i + 1) by omega]
theorem pIdx_mem {ks : List PK} {i : Nat} : i ∈ pIdx ks ↔ ks[i]? = some .psh := by
 unfold pIdx
 rw [List.mem_filter, List.mem_range]
 constructor
 ·
  rintro ⟨h1, h2⟩
  rw [List.getElem?_eq_getElem h1] at h2 ⊢
  generalize ks[i] = k at h2
  cases k <;> simp_all [PK.isP]
 ·
  intro h
  refine ⟨(List.getElem?_eq_some_iff.1 h).1, ?_⟩
  rw [h]; rfl
theorem pIdx_nodup (ks : List PK) : (pIdx ks).Nodup := List.Pairwise.filter _ List.nodup_range
theorem pIdx_get : ∀ (ks : List PK) (i : Nat), ks[i]? = some .psh → (pIdx ks)[cntP ks i]? = some i := by
 have key : ∀ (n : Nat) (ks : List PK) (i : Nat), i < n → ks[i]? = some .psh → ((List.range n).filter fun i => match ks[i]? with | some k => k.isP | none => false)[cntP ks i]? = some i := by
  intro n
  induction n with
  | zero => intro ks i h; omega
  | succ n ih =>
   intro ks i hi hk
   rw [List.range_succ, List.filter_append]
   by_cases h : i < n
   ·
    have := ih ks i h hk
    rw [List.getElem?_append_left (List.getElem?_eq_some_iff.1 this).1]
    exact this
   ·
    have e : i = n := by omega
    subst e
    have hlen : ((List.range i).filter fun i => match ks[i]? with | some k => k.isP | none => false).length = cntP ks i := by
     clear ih hi h
     have hik : i < ks.length := (List.getElem?_eq_some_iff.1 hk).1
     clear hk
     induction i with
     | zero => rfl
     | succ i ih =>
      rw [List.range_succ, List.filter_append, List.length_append, ih xd]
      unfold cntP
      rw [List.take_add_one, List.filter_append, List.length_append, List.getElem?_eq_getElem xd]
      simp only [Option.toList, List.filter_cons, List.filter_nil]
      rw [List.getElem?_eq_getElem xd]
      cases hh : (ks[i]).isP <;> simp [hh]
    rw [List.getElem?_append_right xd, hlen, Nat.sub_self]
    simp [List.filter_cons, hk, PK.isP]
 intro ks i h
 exact key ks.length ks i (List.getElem?_eq_some_iff.1 h).1 h
theorem pIdx_len {ks : List PK} : (pIdx ks).length = (ks.filter PK.isP).length := by
 unfold pIdx
 have : ∀ n, n ≤ ks.length → ((List.range n).filter fun i => match ks[i]? with | some k => k.isP | none => false).length = ((ks.take n).filter PK.isP).length := by
  intro n
  induction n with
  | zero => simp
  | succ n ih =>
   intro hn
   rw [List.range_succ, List.filter_append, List.length_append, ih xd, List.take_add_one, List.filter_append, List.length_append, List.getElem?_eq_getElem xd]
   simp only [Option.toList, List.filter_cons, List.filter_nil]
   rw [List.getElem?_eq_getElem xd]
   cases hh : (ks[n]).isP <;> simp [hh]
 have := this ks.length (Nat.le_refl _)
 rwa [List.take_length] at this
theorem stM_len {E : List Nat} {obs : List Ob} {m : Nat → Bool} : (stM E obs m).length = E.length := by simp [stM]
theorem stM_get {E : List Nat} {obs : List Ob} {m : Nat → Bool} {j : Nat} (h : j < E.length) : (stM E obs m)[j]? = some (bif m (E.getD j 0) then obs.getD j .dead else .dead) := by
 unfold stM
 rw [List.getElem?_map, List.getElem?_range h]; rfl
theorem hlM_mem {E : List Nat} {n0 : Nat} {m : Nat → Bool} {id : Nat} : id ∈ hlM E n0 m ↔ ∃ j, j < E.length ∧ id = n0 + j ∧ m (E.getD j 0) = false := by
 unfold hlM
 rw [List.mem_map]
 constructor
 ·
  rintro ⟨j, h1, rfl⟩
  rw [List.mem_filter, List.mem_range] at h1
  exact ⟨j, h1.1, rfl, by simpa using h1.2⟩
 ·
  rintro ⟨j, h1, rfl, h2⟩
  exact ⟨j, by rw [List.mem_filter, List.mem_range]; exact ⟨h1, by rw [h2]; rfl⟩, rfl⟩
theorem getD_inj {E : List Nat} (hn : E.Nodup) {i j : Nat} (hi : i < E.length) (hj : j < E.length) (h : E.getD i 0 = E.getD j 0) : i = j := by
 rw [List.getD_eq_getElem?_getD, List.getD_eq_getElem?_getD, List.getElem?_eq_getElem hi, List.getElem?_eq_getElem hj] at h
 exact (List.getElem_inj hn).1 h
theorem stM_set {E : List Nat} {obs : List Ob} {m m' : Nat → Bool} {j : Nat} {ob : Ob} (hn : E.Nodup) (hj : j < E.length) (ho : obs[j]? = some ob) (h1 : m' (E.getD j 0) = true) (h2 : ∀ k, k < E.length → k ≠ j → m' (E.getD k 0) = m (E.getD k 0)) : (stM E obs m).set j ob = stM E obs m' := by
 refine List.ext_getElem? fun k => ?_
 rw [List.getElem?_set]
 by_cases hk : k < E.length
 ·
  rw [stM_get hk, stM_get hk]
  split
  ·
   rename_i e; subst e
   rw [if_pos (by rw [stM_len]; exact hk), h1, cond_true, List.getD_eq_getElem?_getD, ho]; rfl
  ·
   rename_i e
   rw [h2 k hk (Ne.symm e)]
 ·
  rw [List.getElem?_eq_none (by rw [stM_len]; omega), List.getElem?_eq_none (by rw [stM_len]; omega), if_neg xd]
theorem hlM_step {E : List Nat} {n0 : Nat} {m m' : Nat → Bool} {j : Nat} (hj : j < E.length) (h1 : m' (E.getD j 0) = true) (h2 : ∀ k, k < E.length → k ≠ j → m' (E.getD k 0) = m (E.getD k 0)) : (hlM E n0 m).filter (fun i => !Nat.beq i (n0 + j)) = hlM E n0 m' := by
 unfold hlM
 rw [List.filter_map, List.filter_filter]
 congr 1
 refine List.filter_congr fun k hk => ?_
 rw [List.mem_range] at hk
 simp only [Function.comp]
 by_cases e : k = j
 ·
  subst e; rw [h1]; simp
 ·
  rw [h2 k hk e]
  have : Nat.beq (n0 + k) (n0 + j) = false := by
   rw [Bool.eq_false_iff]; intro h; have := Nat.eq_of_beq_eq_true h; omega
  rw [this]; simp
theorem nm_lo {q : Nat → Prop} {x : AV} (h : Lo 0 x) : Nm q x := by
 induction h with
 | any => exact .any
 | s v => exact .s v
 | agg cs _ ih => exact .agg cs ih
 | emp => exact .emp
 | sl l _ ih => exact .sl l ih
 | ref cs _ ih => exact .ref cs ih
 | own id sz n h => omega
 | ptr id sz i j h => omega
 | fn f cs _ ih => exact .fn f cs ih
 | tup l _ ih => exact .tup l ih
 | mp id h => omega
 | sub id sz o n h => omega
section
variable {P : Program} {N : Nat} {l : List Oper} {F : Frm} {σ : List Ob} {Q : Exit → Frm → List Ob → Prop}
theorem adraw_push {out : List (Nat × AV)} {ks : List PK} {obs : List Ob} (h : PSteps P N l.toArray σ.length l F 0 out ks obs) (hk : pOk l N σ.length ks out = true) (hmp : (σ.all fun ob => !isMp ob) = true) (hQ : Q .normal (out.reverse ++ F) (σ ++ obs)) : EDraw P N l F σ Q := by
 obtain ⟨h1, h2, h3, h4, h5⟩ := psteps_at h
 unfold pOk at hk
 simp only [Bool.and_eq_true] at hk
 obtain ⟨⟨hso, hself⟩, hall⟩ := hk
 have hEn := pIdx_nodup ks
 have hEl : (pIdx ks).length = obs.length := by rw [pIdx_len, h3]
 have hTE : σ ++ stM (pIdx ks) obs (fun j => (pIdx ks).contains j) = σ ++ obs := by
  congr 1
  refine List.ext_getElem? fun k => ?_
  by_cases hk : k < (pIdx ks).length
  ·
   rw [stM_get hk]
   have : (pIdx ks).contains ((pIdx ks).getD k 0) = true := by
    rw [List.contains_iff_mem, List.getD_eq_getElem?_getD, List.getElem?_eq_getElem hk]
    exact List.getElem_mem hk
   rw [this, cond_true, List.getD_eq_getElem?_getD, List.getElem?_eq_getElem xd]; rfl
  ·
   rw [List.getElem?_eq_none (by rw [stM_len]; omega), List.getElem?_eq_none xd]
 have hmpT : ∀ (m : Nat → Bool) (id : Nat) (ob : Ob), (σ ++ stM (pIdx ks) obs m)[id]? = some ob → isMp ob = false := by
  intro m id ob hob
  rcases List.mem_append.1 (List.mem_of_getElem? hob) with hm | hm
  ·
   have := List.all_eq_true.1 hmp ob hm; simpa using this
  ·
   unfold stM at hm
   obtain ⟨k, hk, rfl⟩ := List.mem_map.1 hm
   rw [List.mem_range] at hk
   cases m ((pIdx ks).getD k 0) with
   | false => rfl
   | true =>
    rw [cond_true, List.getD_eq_getElem?_getD, List.getElem?_eq_getElem xd]
    exact h4 _ (List.getElem_mem _)
 have hdead : ∀ (m : Nat → Bool) (id : Nat), id ∈ hlM (pIdx ks) σ.length m → (σ ++ stM (pIdx ks) obs m)[id]? = some .dead := by
  intro m id hid
  obtain ⟨j, hj, rfl, hf⟩ := hlM_mem.1 hid
  rw [List.getElem?_append_right xd, Nat.add_sub_cancel_left, stM_get hj, hf]; rfl
 refine edraw_hole (E := pIdx ks) (T := fun D => σ ++ stM (pIdx ks) obs (fun j => D.contains j)) (H := fun D => hlM (pIdx ks) σ.length (fun j => D.contains j)) (out := out) hso (fun i hi => ?_) (fun j hj => ?_) h1 rfl obs.length ?_ (fun id hid => ?_) hTE (fun i o hi => ?_) hQ
 ·
  by_cases hlt : i < (masks l []).length
  ·
   have := List.all_eq_true.1 hself i (by simpa using hlt)
   rw [hi] at this; cases this
  ·
   rw [List.getD_eq_getElem?_getD, List.getElem?_eq_none xd] at hi
   simp at hi
 ·
  have := (List.getElem?_eq_some_iff.1 (pIdx_mem.1 hj)).1; omega
 ·
  congr 1
  refine List.ext_getElem? fun k => ?_
  by_cases hk : k < (pIdx ks).length
  ·
   rw [stM_get hk, List.getElem?_replicate, if_pos xd]; simp
  ·
   rw [List.getElem?_eq_none (by rw [stM_len]; omega), List.getElem?_eq_none (by simp; omega)]
 ·
  obtain ⟨j, _, rfl, _⟩ := hlM_mem.1 hid; omega
 ·
  obtain ⟨g1, g2, p, g3, g4⟩ := h5 i o hi
  rw [Nat.add_zero] at g4
  have hex : ∃ x, p = ent N o x := by rcases g4 with ⟨x, e, _⟩ | ⟨x, e, _⟩ | ⟨x, ob, e, _⟩ <;> exact ⟨_, e⟩
  refine ⟨g1, p, g3, hex, .inr ⟨g2, fun q hc hr => ?_⟩⟩
  have hins : ∀ {i : Nat}, i ∉ pIdx ks → insE (pIdx ks) ((pIdx ks).filter q) i = (pIdx ks).filter q := fun {i} hn => by
   unfold insE
   refine List.filter_congr fun j hj => ?_
   have e1 : Nat.beq j i = false := by rw [Bool.eq_false_iff]; intro h; exact hn (Nat.eq_of_beq_eq_true h ▸ hj)
   rw [e1, Bool.or_false]
   cases hq : q j with
   | true => rw [List.contains_iff_mem, List.mem_filter]; exact ⟨hj, hq⟩
   | false => rw [Bool.eq_false_iff, Ne, List.contains_iff_mem, List.mem_filter]; rintro ⟨_, h⟩; rw [hq] at h; cases h
  rcases g4 with ⟨x, e, hk, hx, hD⟩ | ⟨x, e, hk, hdn, hD⟩ | ⟨x, ob, e, hk, hob, hD, hx, hnm, hm⟩
  ·
   rw [hins (fun hm => by rw [pIdx_mem, hk] at hm; cases hm)]
   exact ⟨x, e, doesH_keep2 (hD _) (nm_lo hx) [] (fun _ _ => rfl) (hdead _) xo xo (hmpT _)⟩
  ·
   rw [hins (fun hm => by rw [pIdx_mem, hk] at hm; cases hm)]
   have a1 := List.all_eq_true.1 hall _ (subs_filter q (pIdx ks))
   rw [hc, Bool.not_true, Bool.false_or] at a1
   have a2 := List.all_eq_true.1 a1 i (by simpa using (List.getElem?_eq_some_iff.1 hi).1)
   rw [hr, Bool.not_true, Bool.false_or, hk, g3] at a2
   subst e
   refine ⟨x, rfl, ?_⟩
   have hx : Nm (· ∉ hlM (pIdx ks) σ.length fun j => ((pIdx ks).filter q).contains j) x := by
    cases hdst : o.dst with
    | none => exact absurd hdst hdn
    | some d =>
     rw [zc0 hdst] at a2
     exact (nmB_of _ a2).mono fun i h => by simpa using h
   exact doesH_keep2 (hD _) hx [] (fun _ _ => rfl) (hdead _) xo xo (hmpT _)
  ·
   have hj := pIdx_get ks i hk
   have hjl := (List.getElem?_eq_some_iff.1 hj).1
   have hjd : (pIdx ks).getD (cntP ks i) 0 = i := by rw [List.getD_eq_getElem?_getD, hj]; rfl
   have hni : ((pIdx ks).filter q).contains i = false := by
    unfold readyB at hr
    simp only [Bool.and_eq_true, Bool.not_eq_true'] at hr
    exact hr.1.1
   have m1 : (insE (pIdx ks) ((pIdx ks).filter q) i).contains ((pIdx ks).getD (cntP ks i) 0) = true := by
    rw [hjd, List.contains_iff_mem]
    unfold insE
    rw [List.mem_filter]
    exact ⟨pIdx_mem.2 hk, by simp⟩
   have m2 : ∀ k, k < (pIdx ks).length → k ≠ cntP ks i → (insE (pIdx ks) ((pIdx ks).filter q) i).contains ((pIdx ks).getD k 0) = ((pIdx ks).filter q).contains ((pIdx ks).getD k 0) := by
    intro k hkl hne
    have e0 : (pIdx ks).getD k 0 ≠ i := fun e => hne (getD_inj hEn hkl hjl (e.trans hjd.symm))
    have e1 : (pIdx ks).getD k 0 ∈ pIdx ks := by rw [List.getD_eq_getElem?_getD, List.getElem?_eq_getElem hkl]; exact List.getElem_mem hkl
    generalize (pIdx ks).getD k 0 = a at e0 e1
    have e2 : Nat.beq a i = false := by rw [Bool.eq_false_iff]; intro h; exact e0 (Nat.eq_of_beq_eq_true h)
    unfold insE
    rw [Bool.eq_iff_iff, List.contains_iff_mem, List.contains_iff_mem, List.mem_filter, e2, Bool.or_false, List.contains_iff_mem]
    exact ⟨fun h => h.2, fun h => ⟨e1, h⟩⟩
   have hin : σ.length + cntP ks i ∈ hlM (pIdx ks) σ.length fun j => ((pIdx ks).filter q).contains j := hlM_mem.2 ⟨cntP ks i, hjl, rfl, by rw [hjd]; exact hni⟩
   have hpush := doesH_push2 (hD _) hin (by rw [List.length_append, stM_len]; omega) (hdead _) (hx _ _) (hnm _) (hmpT _)
   rw [List.set_append_right _ _ xd, Nat.add_sub_cancel_left, stM_set hEn hjl hob m1 m2, hlM_step hjl m1 m2] at hpush
   exact ⟨_, e, hpush⟩
def PX (P : Program) (N : Nat) (ops : Array Oper) (all : List Oper) (n0 : Nat) (ak : List PK) (ao : List (Nat × AV)) (ab : List Ob) (l : List Oper) (F : Frm) (k : Nat) (K : Frm → List Ob → Prop) : Prop :=
 ∃ out ks obs, PSteps P N ops n0 l F k out ks obs ∧ pOk all N n0 (ak.reverse ++ ks) (ao.reverse ++ out) = true ∧ K (out.reverse ++ F) (ab.reverse ++ obs)
variable {ops : Array Oper} {all : List Oper} {n0 k d : Nat} {ak : List PK} {ao : List (Nat × AV)} {ab : List Ob} {K : Frm → List Ob → Prop} {o : Oper}
theorem px_nil (hk : pOk all N n0 ak.reverse ao.reverse = true) (h : K F ab.reverse) : PX P N ops all n0 ak ao ab [] F k K := ⟨[], [], [], .nil F k, by simpa using hk, by simpa using h⟩
theorem px_lo {x : AV} (hd : o.dst = some d) (hN : Nat.blt d N = true) (hr : Runs ops F o true) (hD : ∀ σ, Does P o F σ x σ) (hx : Lo 0 x) (h : PX P N ops all n0 (.lo :: ak) ((d, x) :: ao) ab l ((d, x) :: F) k K) : PX P N ops all n0 ak ao ab (o :: l) F k K := by
 obtain ⟨out, ks, obs, h1, h2, h3⟩ := h
 refine ⟨(d, x) :: out, .lo :: ks, obs, ?_, by simpa using h2, by simpa using h3⟩
 have := PSteps.lo (P := P) o l F k x out ks obs (dOk_s hd hN) hr hD hx (by rw [zc0 hd]; exact h1)
 rwa [zc0 hd] at this
theorem px_nm {x : AV} (hd : o.dst = some d) (hN : Nat.blt d N = true) (hr : Runs ops F o true) (hD : ∀ σ, Does P o F σ x σ) (h : PX P N ops all n0 (.nm :: ak) ((d, x) :: ao) ab l ((d, x) :: F) k K) : PX P N ops all n0 ak ao ab (o :: l) F k K := by
 obtain ⟨out, ks, obs, h1, h2, h3⟩ := h
 refine ⟨(d, x) :: out, .nm :: ks, obs, ?_, by simpa using h2, by simpa using h3⟩
 have := PSteps.nm (P := P) o l F k x out ks obs (by rw [hd]; simp) (dOk_s hd hN) hr hD (by rw [zc0 hd]; exact h1)
 rwa [zc0 hd] at this
theorem px_psh {x : Nat → AV} {ob : Ob} (hd : o.dst = some d) (hN : Nat.blt d N = true) (hr : Runs ops F o true) (hD : ∀ σ : List Ob, Does P o F σ (x σ.length) (σ ++ [ob])) (hx : ∀ m h, RnTo m h (x m) (x h)) (hob : ∀ q, ObNm q ob) (hmp : isMp ob = false) (h : PX P N ops all n0 (.psh :: ak) ((d, x (n0 + k)) :: ao) (ob :: ab) l ((d, x (n0 + k)) :: F) (k + 1) K) : PX P N ops all n0 ak ao ab (o :: l) F k K := by
 obtain ⟨out, ks, obs, h1, h2, h3⟩ := h
 refine ⟨(d, x (n0 + k)) :: out, .psh :: ks, ob :: obs, ?_, by simpa using h2, by simpa using h3⟩
 have := PSteps.psh (P := P) o l F k x ob out ks obs (dOk_s hd hN) hr hD hx hob hmp (by rw [zc0 hd]; exact h1)
 rwa [zc0 hd] at this
theorem adraw_px (hmp : (σ.all fun ob => !isMp ob) = true) (h : PX P N l.toArray l σ.length [] [] [] l F 0 (fun F' obs => Q .normal F' (σ ++ obs))) : ADraw P N l F σ Q := by
 obtain ⟨out, ks, obs, h1, h2, h3⟩ := h
 exact adraw_of (adraw_push h1 (by simpa using h2) hmp (by simpa using h3))
end
end Go.Proofs.YtllkbjcemecmjaaGreat.Aw
end
section
namespace Go.Proofs.YtllkbjcemecmjaaGreat.Aw
open Go.RowKit Go.Proofs
variable {P : Program} [IsP P]
theorem cloneI_call (l : List Int) (h1 : 1 ≤ l.length) (h2 : l.length ≤ 12) (σ : List Ob) : CallE P 33 [eL eI l] σ (.own σ.length 1 l.length) (σ ++ [.row 1 (l.map eI)]) := by
 have hnn : NonNil (eL eI l) := by
  cases l with
  | nil => simp at h1
  | cons a t => exact .sl _ _
 have hlm : (l.map eI).length = l.length := by simp
 refine callE_fn (by rw [IsP.eq (P := P)]; exact Tryz.func33) rfl rfl (Nat.le_of_ble_eq_true rfl) ?_
 refine ew_seq (ew_region (eops_s rfl (zdj (zai (ew_seq (ew_seq (ew_region (eops_s rfl (eops_op rfl rfl (zaa rfl) (does_eqnil rfl ts22 rfl hnn rfl (.inl ⟨rfl, rfl⟩)) (zdj (zai (ew_false rfl (ew_skip (zai (ew_seq (ew_region (eops_op rfl rfl (zaa rfl) (does_lit0 rfl rfl ts22 ti3) (eops_s rfl ?_))))))))))))))))))
 refine eops_op rfl rfl (zaa rfl) (does_append0 (l := l.map eI) rfl ts22 ti3 rfl xf rfl (.inl rfl) rfl (.sl _ (by intro e he; simp at he; obtain ⟨_, _, rfl⟩ := he; rfl)) (by unfold maxLen; simp; omega) (by simp; omega)) ?_
 refine eops_s rfl (zdj (zai (ew_ret ?_)))
 refine ⟨.inr rfl, rfl, _, .cons _ _ _ _ (.tmp _ _ rfl) .nil, ?_⟩
 rw [hlm]; rfl
def eBx (lo hi : List Int) : AV := .agg [eL eI lo, eL eI hi]
theorem nm_row {l : List Int} (q : Nat → Prop) : ObNm q (.row 1 (l.map eI)) := fun c hc => by
 obtain ⟨_, _, rfl⟩ := List.mem_map.1 hc; exact .s _
theorem post_cc {N : Nat} {F : Frm} {σ : List Ob} {ad ad2 : Nat} {ty ty2 : TypeId} {id sz k n bt id2 sz2 k2 n2 bt2 : Nat} {z z2 : Option Value} {ob ob2 : Ob} {cs cs2 : List AV} {e1 e2 r1 r2 : AV} {e : Exit} (he : e = .normal ∨ e = .ret) (ha : zc8 P ty = some true) (hi : zb5 P ty = some (z, n, bt)) (hp : F.get ad = .ptr id sz k 0) (hs : σ[id]? = some ob) (ho : rowOf ob = some (sz, cs)) (hk : cs[k]? = some e1) (hn : e1.cells.length = n)
  (ha2 : zc8 P ty2 = some true) (hi2 : zb5 P ty2 = some (z2, n2, bt2)) (hp2 : F.get ad2 = .ptr id2 sz2 k2 0) (hs2 : σ[id2]? = some ob2) (ho2 : rowOf ob2 = some (sz2, cs2)) (hk2 : cs2[k2]? = some e2) (hn2 : e2.cells.length = n2) (hr1 : Fini σ (.agg e1.cells) r1) (hr2 : Fini σ (.agg e2.cells) r2) : APost P [.cell ad ty, .cell ad2 ty2] (.tup [r1, r2]) e F σ :=
 ⟨he, [.agg e1.cells, .agg e2.cells], .cons _ _ _ _ (.cells ad ty id sz k n bt z ob cs e1 ha hi hp hs ho hk hn) (.cons _ _ _ _ (.cells ad2 ty2 id2 sz2 k2 n2 bt2 z2 ob2 cs2 e2 ha2 hi2 hp2 hs2 ho2 hk2 hn2) .nil), .tup _ _ rfl (zbd.cons hr1 (zbd.cons hr2 zbd.nil)).2⟩
theorem post_c1 {N : Nat} {F : Frm} {σ : List Ob} {ad : Nat} {ty : TypeId} {id sz k n bt : Nat} {z : Option Value} {ob : Ob} {cs : List AV} {e1 r1 : AV} {e : Exit} (he : e = .normal ∨ e = .ret) (ha : zc8 P ty = some true) (hi : zb5 P ty = some (z, n, bt)) (hp : F.get ad = .ptr id sz k 0) (hs : σ[id]? = some ob) (ho : rowOf ob = some (sz, cs)) (hk : cs[k]? = some e1) (hn : e1.cells.length = n) (hr1 : Fini σ (.agg e1.cells) r1) : APost P [.cell ad ty] r1 e F σ :=
 ⟨he, [.agg e1.cells], .cons _ _ _ _ (.cells ad ty id sz k n bt z ob cs e1 ha hi hp hs ho hk hn) .nil, hr1⟩
def setI (l : List Int) (k : Nat) (x : Int) : List Int := l.set k x
theorem map_set (l : List Int) (k : Nat) (x : Int) : (l.map eI).set k (eI x) = (setI l k x).map eI := by
 unfold setI; rw [List.map_set]
set_option maxHeartbeats 2000000 in
theorem halves_pf (lo hi : List Int) (k : Nat) (t : Int) (h1 : k < lo.length) (h2 : hi.length = lo.length) (h3 : lo.length ≤ 12) (h4 : -1000 ≤ t) (h5 : t ≤ 1000) : Pure P 37 [eBx lo hi, eI k, eI t] (.tup [eBx lo (setI hi k t), eBx (setI lo k (t + 1)) hi]) := by
 have hlm : (lo.map eI).length = lo.length := by simp
 have hhm : (hi.map eI).length = hi.length := by simp
 refine zcl (by rw [IsP.eq (P := P)]; exact Tryz.func37) rfl rfl rfl rfl rfl xa xc (by simp only [argF]; rfl) ?_
 refine zag (zab (zaf rfl rfl (zaa rfl) (zb3 rfl rfl rfl rfl) ?_))
 refine za6 (zbm (id := 0) rfl) (za6 (zcb (d := 3) rfl rfl rfl) ?_)
 refine zaf rfl rfl (zaa rfl) (za1 rfl ti60 rfl rfl) (zaf rfl rfl (zaa rfl) (za1 rfl ti60 rfl rfl) (zad (zag ?_)))
 refine zb2 hmix ?_
 refine adraw_lastT rfl xi ?_
 simp only [List.dropLast]
 refine adraw_px rfl ?_
 refine px_lo rfl rfl (zaa rfl) (fun _ => zdn rfl tf60_0 xf rfl) xc ?_
 refine px_lo rfl rfl (zaa rfl) (fun _ => does_load_ref rfl ta22 rfl) (zan fun _ => .s _) ?_
 refine px_psh (x := fun n => .own n 1 lo.length) rfl rfl (zaa rfl) (fun σ => zbs rfl rfl (cloneI_call lo xd xd σ) rfl) (fun m h => .own _ _) nm_row rfl ?_
 refine px_lo rfl rfl (zaa rfl) (fun _ => zdn rfl tf60_1 xf rfl) xc ?_
 refine px_lo rfl rfl (zaa rfl) (fun _ => does_load_ref rfl ta22 rfl) (zan fun _ => .s _) ?_
 refine px_psh (x := fun n => .own n 1 hi.length) rfl rfl (zaa rfl) (fun σ => zbs rfl rfl (cloneI_call hi xd xd σ) rfl) (fun m h => .own _ _) nm_row rfl ?_
 refine px_nm rfl rfl (zaa rfl) (fun _ => za9 rfl ti60 tp60 rfl rfl) ?_
 refine px_psh (x := fun n => .ptr n 2 0 0) rfl rfl (zaa rfl) (fun σ => za1 rfl ti60 rfl rfl) (fun m h => .ptr _ _ _) (fun q c hc => by simp at hc; subst hc; exact .agg _ (by intro c hc; simp [AV.cells] at hc; subst hc; exact .s _)) rfl ?_
 refine px_nil xi ?_
 refine zai (zba rfl (zaa rfl) (zaj rfl ti60 rfl rfl rfl rfl rfl rfl xf xf) (zad (zag ?_)))
 refine zb2 hmix ?_
 refine adraw_lastT rfl xi ?_
 simp only [List.dropLast]
 refine adraw_px rfl ?_
 refine px_lo rfl rfl (zaa rfl) (fun _ => zdn rfl tf60_0 xf rfl) xc ?_
 refine px_lo rfl rfl (zaa rfl) (fun _ => does_load_ref rfl ta22 rfl) (zan fun _ => .s _) ?_
 refine px_psh (x := fun n => .own n 1 lo.length) rfl rfl (zaa rfl) (fun σ => zbs rfl rfl (cloneI_call lo xd xd σ) rfl) (fun m h => .own _ _) nm_row rfl ?_
 refine px_lo rfl rfl (zaa rfl) (fun _ => zdn rfl tf60_1 xf rfl) xc ?_
 refine px_lo rfl rfl (zaa rfl) (fun _ => does_load_ref rfl ta22 rfl) (zan fun _ => .s _) ?_
 refine px_psh (x := fun n => .own n 1 hi.length) rfl rfl (zaa rfl) (fun σ => zbs rfl rfl (cloneI_call hi xd xd σ) rfl) (fun m h => .own _ _) nm_row rfl ?_
 refine px_nm rfl rfl (zaa rfl) (fun _ => za9 rfl ti60 tp60 rfl rfl) ?_
 refine px_psh (x := fun n => .ptr n 2 0 0) rfl rfl (zaa rfl) (fun σ => za1 rfl ti60 rfl rfl) (fun m h => .ptr _ _ _) (fun q c hc => by simp at hc; subst hc; exact .agg _ (by intro c hc; simp [AV.cells] at hc; subst hc; exact .s _)) rfl ?_
 refine px_nil xi ?_
 refine zai (zba rfl (zaa rfl) (zaj rfl ti60 rfl rfl rfl rfl rfl rfl xf xf) (zad (zag ?_)))
 have e1 : eL eI (setI hi k t) = .sl ((hi.map eI).set k (eI t)) := by rw [map_set]; rfl
 have e2 : eL eI (setI lo k (t + 1)) = .sl ((lo.map eI).set k (eI (t + 1))) := by rw [map_set]; rfl
 have g1 : (hi.map eI)[k]? = some (eI (gti hi k)) := zbb xd
 have g2 : (lo.map eI)[k]? = some (eI (gti lo k)) := zbb xd
 refine zb2 hmix ?_
 refine zc1 ?_
 refine ex_f tf60_1 rfl (zbv rfl rfl (zaa rfl) (zbr rfl ta22 rfl rfl rfl rfl rfl) (ex_s rfl (ex_f tf60_0 rfl (zbv rfl rfl (zaa rfl) (zbr rfl ta22 rfl rfl rfl rfl rfl) (ex_s rfl (ex_s rfl (ex_s rfl (zay rfl rfl (zaa rfl) (fun _ => (zax rfl rfl rfl (IntWalk.i64_in _ xd))) (zay rfl rfl (zaa rfl) (fun _ => (za0 rfl ts22 ti3 rfl rfl rfl xd)) ?_)))))))))
 refine zci rfl (zaa rfl) (zaj rfl ti3 rfl rfl rfl g1 rfl rfl xf xf) (fun _ h => zbw h) ?_
 refine zay rfl rfl (zaa rfl) (fun _ => (za0 rfl ts22 ti3 rfl rfl rfl h1)) ?_
 refine zci rfl (zaa rfl) (zaj rfl ti3 rfl rfl rfl g2 rfl rfl xf xf) (fun _ h => zbw h) ?_
 refine zcf xi ?_
 refine zag ?_
 refine zb2 hmix ?_
 refine zc1 ?_
 refine zbv rfl rfl (zaa rfl) (zdq rfl ta60 ti60 rfl rfl rfl rfl rfl) (zbv rfl rfl (zaa rfl) (zdq rfl ta60 ti60 rfl rfl rfl rfl rfl) ?_)
 refine zci rfl (zaa rfl) (zaj rfl ti60 rfl rfl rfl rfl rfl rfl xf xf) (fun _ h => zbw h) ?_
 refine zci rfl (zaa rfl) (zaj rfl ti60 rfl rfl rfl rfl rfl rfl xf xf) (fun _ h => zbw h) ?_
 refine zcf xi ?_
 refine zai ?_
 (refine za7 ?_; repeat (first | refine zbc ?_ | refine zbe ?_))
 refine post_cc (N := 0) (.inr rfl) ta60 ti60 rfl rfl rfl rfl rfl ta60 ti60 rfl rfl rfl rfl rfl ?_ ?_
 ·
  exact .agg _ _ rfl (zbd.cons (.own _ _ _ _ _ rfl rfl xo) (zbd.cons (by rw [e1]; exact .own _ _ _ _ _ rfl rfl xo) zbd.nil)).2
 ·
  exact .agg _ _ rfl (zbd.cons (by rw [e2]; exact .own _ _ _ _ _ rfl rfl xo) (zbd.cons (.own _ _ _ _ _ rfl rfl xo) zbd.nil)).2
end Go.Proofs.YtllkbjcemecmjaaGreat.Aw
end
section
namespace Go.Proofs.YtllkbjcemecmjaaGreat.Aw
open Go.RowKit Go.Proofs
variable {P : Program} [IsP P]
theorem fvalid1_pf (a : Fr) : Pure P 100 [eF a] (eB (!a.okB)) := by
 refine zcl (by rw [IsP.eq (P := P)]; exact Tryz.func100) rfl rfl rfl rfl rfl xa (.s _) (by simp only [argF]; rfl) ?_
 refine zag (zab (zaf rfl rfl (zaa rfl) (zb3 rfl rfl rfl rfl) ?_))
 refine za6 (zbm (id := 0) rfl) (za6 (zcb (d := 1) rfl rfl rfl) ?_)
 refine zac rfl (zad (zag (zab (zcx ta45 ti45 rfl (zaf rfl rfl (zaa rfl) (zam rfl rfl (fValid_pf _) (zae rfl zap)) (zaf rfl rfl (zaa rfl) (does_notp rfl rfl) (zac rfl (zad (zai ?_)))))))))
 (refine za7 ?_; repeat (first | refine zbc ?_ | refine zbe ?_))
 exact zb6 (.inr rfl) rfl (congrArg eB (by simp [Fr.okB]))
theorem fvalid_pf (l : List Fr) : Pure P 70 [eL eF l] (eB (l.all Fr.okB)) := by
 have hc := containsFF_pf (P := P) 100 [] (fun a => !a.okB) l lo_F (.fn _ _ xo) (fun a _ => fvalid1_pf a)
 refine zcl (by rw [IsP.eq (P := P)]; exact Tryz.func70) rfl rfl rfl rfl rfl xa (.s _) (by simp only [argF]; rfl) ?_
 refine zag (zab (zac rfl (zad (zag (zab (zac rfl ?_))))))
 refine zaf rfl rfl (zaa rfl) (zam rfl rfl (by assumption) (zae rfl (zae rfl zap))) ?_
 refine zaf rfl rfl (zaa rfl) (zbj rfl rfl) (zac rfl (zad (zai ?_)))
 (refine za7 ?_; repeat (first | refine zbc ?_ | refine zbe ?_))
 exact zb6 (.inr rfl) rfl (congrArg eB (all_okB l).symm)
def dotG : Fr → List Fr → List Fr → FE
 | acc, a :: ta, b :: tb => if (mulE a b).e ≠ 0 then FE.err (mulE a b).e else if (addE acc ⟨(mulE a b).n, (mulE a b).d⟩).e ≠ 0 then FE.err (addE acc ⟨(mulE a b).n, (mulE a b).d⟩).e else dotG ⟨(addE acc ⟨(mulE a b).n, (mulE a b).d⟩).n, (addE acc ⟨(mulE a b).n, (mulE a b).d⟩).d⟩ ta tb
 | acc, _, _ => ⟨acc.n, acc.d, 0⟩
def dotE (a b : List Fr) : FE := if ¬ (a.all Fr.okB = true ∧ b.all Fr.okB = true) then FE.err 1 else if 1000 < a.length ∨ 1000 < b.length then FE.err 5 else if a.length ≠ b.length then FE.err 29 else dotG (Fr.of 0) a b
theorem dotG_step {acc : Fr} {a b : List Fr} {k : Nat} (h1 : k < a.length) (h2 : k < b.length) : dotG acc (a.drop k) (b.drop k) = if (mulE (gti a k) (gti b k)).e ≠ 0 then FE.err (mulE (gti a k) (gti b k)).e else if (addE acc ⟨(mulE (gti a k) (gti b k)).n, (mulE (gti a k) (gti b k)).d⟩).e ≠ 0 then FE.err (addE acc ⟨(mulE (gti a k) (gti b k)).n, (mulE (gti a k) (gti b k)).d⟩).e else dotG ⟨(addE acc ⟨(mulE (gti a k) (gti b k)).n, (mulE (gti a k) (gti b k)).d⟩).n, (addE acc ⟨(mulE (gti a k) (gti b k)).n, (mulE (gti a k) (gti b k)).d⟩).d⟩ (a.drop (k + 1)) (b.drop (k + 1)) := by
 have e1 : a.drop k = gti a k :: a.drop (k + 1) := by
  rw [List.drop_eq_getElem_cons h1]
  have := zdh h1
  rw [List.getElem?_eq_getElem h1] at this
  rw [Option.some.inj this]
 have e2 : b.drop k = gti b k :: b.drop (k + 1) := by
  rw [List.drop_eq_getElem_cons h2]
  have := zdh h2
  rw [List.getElem?_eq_getElem h2] at this
  rw [Option.some.inj this]
 rw [e1, e2, dotG]
theorem dotG_end {acc : Fr} {a b : List Fr} {k : Nat} (h : k = a.length) : dotG acc (a.drop k) (b.drop k) = ⟨acc.n, acc.d, 0⟩ := by
 subst h
 rw [List.drop_length, dotG]
 intro a ta b tb h; cases h
theorem dotE_arg {a b : List Fr} (h : ¬ (a.all Fr.okB = true ∧ b.all Fr.okB = true)) : dotE a b = ⟨0, 0, 1⟩ := if_pos h
theorem dotE_full {a b : List Fr} (h1 : a.all Fr.okB = true) (h2 : b.all Fr.okB = true) (h : 1000 < a.length ∨ 1000 < b.length) : dotE a b = ⟨0, 0, 5⟩ := by unfold dotE; rw [if_neg (fun h => h ⟨h1, h2⟩), if_pos h]; rfl
theorem dotE_size {a b : List Fr} (h1 : a.all Fr.okB = true) (h2 : b.all Fr.okB = true) (h3 : ¬ (1000 < a.length ∨ 1000 < b.length)) (h : a.length ≠ b.length) : dotE a b = ⟨0, 0, 29⟩ := by unfold dotE; rw [if_neg (fun h => h ⟨h1, h2⟩), if_neg h3, if_pos h]; rfl
theorem dotE_go {a b : List Fr} (h1 : a.all Fr.okB = true) (h2 : b.all Fr.okB = true) (h3 : ¬ (1000 < a.length ∨ 1000 < b.length)) (h : a.length = b.length) : dotE a b = dotG (Fr.of 0) (a.drop 0) (b.drop 0) := by unfold dotE; rw [if_neg (fun h => h ⟨h1, h2⟩), if_neg h3, if_neg (fun h' => h' h)]; rfl
set_option maxHeartbeats 1000000 in
theorem rDot_pf (a b : List Fr) : Pure P 56 [eL eF a, eL eF b] (eFE (dotE a b)) := by
 refine zcl (by rw [IsP.eq (P := P)]; exact Tryz.func56) rfl rfl rfl rfl rfl xa xc (by simp only [argF]; rfl) ?_
 refine zag ?_
 refine zda (d := 0) rfl (fun hm1 => ?_)
 refine zda (d := 1) rfl (fun hm2 => ?_)
 unfold maxLen at hm1 hm2
 refine zab (zaf rfl rfl (zaa rfl) (za1 rfl ti45 rfl rfl) (zac rfl (zad (zag (zag (zab (zac rfl ?_)))))))
 refine zcn rfl rfl (zaa rfl) (zam rfl rfl (rValidAll_pf _) (zae rfl zap)) (fun h11 => ?_) (fun h11 => ?_)
 all_goals refine zaf rfl rfl (zaa rfl) (zbj rfl rfl) (zac rfl ?_)
 all_goals (first | refine zac rfl ?_ | refine za4 rfl ?_)
 all_goals (first | refine zcn rfl rfl (zat rfl rfl rfl) (zam rfl rfl (rValidAll_pf _) (zae rfl zap)) (fun h15 => ?_) (fun h15 => ?_) | refine za4 rfl ?_)
 all_goals (first | refine zaf rfl rfl (zat rfl rfl rfl) (zbj rfl rfl) ?_ | refine za4 rfl ?_)
 all_goals refine zac rfl (zad (zai ?_))
 all_goals (first | refine za5 rfl ?_ | refine zau rfl ?_)
 all_goals (repeat (first | refine zag ?_ | refine zar ?_))
 ·
  refine zab (zac rfl (zaf rfl rfl (zaa rfl) (zao rfl ts30 rfl) ?_))
  refine za3 rfl rfl (zaa rfl) (zb0 rfl rfl rfl) (fun h21 => ?_) (fun h21 => ?_)
  all_goals refine zac rfl ?_
  all_goals (first | refine zac rfl ?_ | refine za4 rfl ?_)
  all_goals (first | refine zaf rfl rfl (zat rfl rfl rfl) (zao rfl ts30 rfl) ?_ | refine za4 rfl ?_)
  all_goals (first | refine za3 rfl rfl (zat rfl rfl rfl) (zb0 rfl rfl rfl) (fun h25 => ?_) (fun h25 => ?_) | refine za4 rfl ?_)
  all_goals refine zac rfl (zad (zai ?_))
  all_goals (first | refine za5 rfl ?_ | refine zau rfl ?_)
  all_goals (repeat (first | refine zag ?_ | refine zar ?_))
  rotate_left 2
  ·
   have h3 : ¬ (1000 < a.length ∨ 1000 < b.length) := by omega
   refine zab (zac rfl (zaf rfl rfl (zaa rfl) (zao rfl ts30 rfl) (zac rfl (zaf rfl rfl (zaa rfl) (zao rfl ts30 rfl) ?_))))
   refine za3 rfl rfl (zaa rfl) (zbp rfl rfl rfl) (fun h32 => ?_) (fun h32 => ?_)
   all_goals refine zad (zai ?_)
   all_goals (first | refine za5 rfl ?_ | refine zau rfl ?_)
   all_goals (repeat (first | refine zag ?_ | refine zar ?_))
   ·
    refine zab (zaf rfl rfl (zaa rfl) (za9 rfl ti45 tp45 rfl rfl) (zba rfl (zaa rfl) (zaj rfl ti45 rfl rfl rfl rfl rfl rfl xf xf) (zac rfl (zad (zai ?_)))))
    (refine za7 ?_; repeat (first | refine zbc ?_ | refine zbe ?_))
    exact zdf (.inr rfl) ta45 ti45 rfl rfl rfl rfl rfl rfl (by rw [dotE_size h11 h15 h3 xd]; rfl)
   ·
    have hl : a.length = b.length := by omega
    have HI := dotE_go h11 h15 h3 hl
    refine zab (zaf rfl rfl (zaa rfl) (zam rfl rfl (rOf_pf _) (zae rfl zap)) (zaf rfl rfl (zaa rfl) (za1 rfl ti45 rfl rfl) (zba rfl (zaa rfl) (zaj rfl ti45 rfl rfl rfl rfl rfl rfl xf xf) (zad (zag (zag (zab (zac rfl (zad (zai (zas ?_)))))))))))
    refine zb1 (S := Fr × Nat) (fun s => [(0, eL eF a), (1, eL eF b), (4, .ptr 0 2 0 0), (6, .ptr 1 2 0 0), (7, eI s.2)]) (fun s => [.row 2 [.agg [eI 0, eI 0]], .row 2 [eF s.1]]) (fun s => s.2 ≤ a.length ∧ dotE a b = dotG s.1 (a.drop s.2) (b.drop s.2)) (fun s => a.length - s.2) (Fr.of 0, 0) (zb8 [0, 1] xf ⟨⟨_, rfl, .rowE xb rfl⟩, ⟨_, rfl, .rowE xb rfl⟩, trivial⟩ ⟨.lo _ xa, .lo _ xa, .ptr 0 0 2 0 0 rfl, .ptr 1 1 2 0 0 rfl, .lo _ (.s _), trivial⟩) ⟨Nat.zero_le _, HI⟩ (fun s hk => ?_)
    obtain ⟨acc, k⟩ := s
    obtain ⟨hk, HI⟩ := hk
    dsimp only at hk HI ⊢
    refine zag (zag (zab (zac rfl (zac rfl (zaf rfl rfl (zaa rfl) (zao rfl ts30 rfl) ?_)))))
    refine za3 rfl rfl (zaa rfl) (za2 rfl rfl rfl) (fun h38 => ?_) (fun h38 => ?_)
    all_goals refine zad (zai ?_)
    all_goals (first | refine za5 rfl ?_ | refine zau rfl ?_)
    all_goals (repeat (first | refine zag ?_ | refine zar ?_ | refine zas ?_))
    ·
     have h1 : k < a.length := by omega
     have h2 : k < b.length := by omega
     rw [dotG_step h1 h2] at HI
     generalize hx : mulE (gti a k) (gti b k) = x at HI
     have hmul := rMul_pf (P := P) (gti a k) (gti b k)
     rw [hx] at hmul
     refine zb2 hmix ?_
     refine zc1 ?_
     refine ex_s rfl (ex_s rfl (zay rfl rfl (zaa rfl) (fun _ => (zal rfl ts30 ti45 rfl rfl rfl (zbb xd) rfl)) (ex_w ta45 ti45 rfl (ex_s rfl (ex_s rfl (zay rfl rfl (zaa rfl) (fun _ => (zal rfl ts30 ti45 rfl rfl rfl (zbb xd) rfl)) (ex_w ta45 ti45 rfl (zay rfl rfl (zaa rfl) (fun _ => (zam rfl rfl (hmul) (zae rfl (zae rfl zap)))) (ex_s rfl (ex_s rfl (ex_s rfl ?_)))))))))))
     refine zc9 rfl rfl (zaa rfl) (za1 rfl ti45 rfl rfl) (fun _ h => zdo h) ?_
     refine zci rfl (zaa rfl) (zaj rfl ti45 rfl rfl rfl rfl rfl rfl xf xf) (fun _ h => zbw h) ?_
     refine ex_s rfl ?_
     refine zcf xi ?_
     refine zag (zag (zab (zac rfl ?_)))
     refine za3 rfl rfl (zaa rfl) (zbn rfl rfl rfl) (fun h54 => ?_) (fun h54 => ?_)
     all_goals refine zad (zai ?_)
     all_goals (first | refine za5 rfl ?_ | refine zau rfl ?_)
     all_goals (repeat (first | refine zag ?_ | refine zar ?_))
     ·
      rw [if_neg xd] at HI
      generalize hy : addE acc ⟨x.n, x.d⟩ = y at HI
      have hadd := rAdd_pf (P := P) acc ⟨x.n, x.d⟩
      rw [hy] at hadd
      refine zab (zaf rfl rfl (zaa rfl) (za8 rfl ta45 ti45 rfl rfl rfl rfl rfl) (zaf rfl rfl (zaa rfl) (za8 rfl ta45 ti45 rfl rfl rfl rfl rfl) (zaf rfl rfl (zaa rfl) (zam rfl rfl (hadd) (zae rfl (zae rfl zap))) (zac rfl (zac rfl (zac rfl (zba rfl (zaa rfl) (zaj rfl ti45 rfl rfl rfl rfl rfl rfl xf xf) (zac rfl (zad (zag (zag (zab (zac rfl ?_)))))))))))))
      refine za3 rfl rfl (zaa rfl) (zbp rfl rfl rfl) (fun h62 => ?_) (fun h62 => ?_)
      all_goals refine zad (zai ?_)
      all_goals (first | refine za5 rfl ?_ | refine zau rfl ?_)
      all_goals (repeat (first | refine zag ?_ | refine zai ?_ | refine zar ?_))
      ·
       rw [if_pos xd] at HI
       refine zab (zaf rfl rfl (zaa rfl) (za9 rfl ti45 tp45 rfl rfl) (zac rfl (zba rfl (zaa rfl) (zaj rfl ti45 rfl rfl rfl rfl rfl rfl xf xf) (zac rfl (zad (zai ?_))))))
       (refine za7 ?_; repeat (first | refine zbc ?_ | refine zbe ?_))
       exact zdf (.inr rfl) ta45 ti45 rfl rfl rfl rfl rfl rfl (by rw [HI]; rfl)
      ·
       rw [if_neg xd] at HI
       refine zab (zaf rfl rfl (zaa rfl) (za8 rfl ta45 ti45 rfl rfl rfl rfl rfl) (zba rfl (zaa rfl) (zaj rfl ti45 rfl rfl rfl rfl rfl rfl xf xf) (zad (zbl (zai (zab (zac rfl (zaf rfl rfl (zaa rfl) (zax rfl rfl rfl (IntWalk.i64_in _ xd)) (zac rfl (zad (zai ?_)))))))))))
       exact ⟨(⟨y.n, y.d⟩, k + 1), ⟨by dsimp only; omega, HI⟩, by dsimp only; omega, zb8 [0, 1] xf ⟨⟨_, rfl, .rowE xb rfl⟩, ⟨_, rfl, .rowE xb rfl⟩, trivial⟩ ⟨.lo _ xa, .lo _ xa, .ptr 0 0 2 0 0 rfl, .ptr 1 1 2 0 0 rfl, .lo _ (.s _), trivial⟩⟩
     ·
      rw [if_pos xd] at HI
      refine zab (zac rfl (zaf rfl rfl (zaa rfl) (zdc xd (zbp rfl rfl rfl)) (zad (zai (za5 rfl (zag (zab (zaf rfl rfl (zaa rfl) (za9 rfl ti45 tp45 rfl rfl) (zac rfl (zba rfl (zaa rfl) (zaj rfl ti45 rfl rfl rfl rfl rfl rfl xf xf) (zac rfl (zad (zai ?_)))))))))))))
      (refine za7 ?_; repeat (first | refine zbc ?_ | refine zbe ?_))
      exact zdf (.inr rfl) ta45 ti45 rfl rfl rfl rfl rfl rfl (by rw [HI]; rfl)
    ·
     rw [dotG_end xd] at HI
     (refine zb9 ?_; repeat (first | refine zcr ?_ | refine zbt ?_ | refine zbk rfl ?_ | refine zbl ?_ | refine zai ?_ | refine zag ?_ | refine zar ?_ | refine zas ?_))
     refine zab (zaf rfl rfl (zaa rfl) (za8 rfl ta45 ti45 rfl rfl rfl rfl rfl) (zba rfl (zaa rfl) (zaj rfl ti45 rfl rfl rfl rfl rfl rfl xf xf) (zac rfl (zad (zai ?_)))))
     (refine za7 ?_; repeat (first | refine zbc ?_ | refine zbe ?_))
     exact zdf (.inr rfl) ta45 ti45 rfl rfl rfl rfl rfl rfl (by rw [HI]; rfl)
  all_goals refine zab (zaf rfl rfl (zaa rfl) (za9 rfl ti45 tp45 rfl rfl) (zba rfl (zaa rfl) (zaj rfl ti45 rfl rfl rfl rfl rfl rfl xf xf) (zac rfl (zad (zai (za7 (zbc ?_)))))))
  all_goals (exact zdf (.inr rfl) ta45 ti45 rfl rfl rfl rfl rfl rfl (by rw [dotE_full h11 h15 xd]; rfl))
 all_goals refine zab (zaf rfl rfl (zaa rfl) (za9 rfl ti45 tp45 rfl rfl) (zba rfl (zaa rfl) (zaj rfl ti45 rfl rfl rfl rfl rfl rfl xf xf) (zac rfl (zad (zai (za7 (zbc ?_)))))))
 all_goals (exact zdf (.inr rfl) ta45 ti45 rfl rfl rfl rfl rfl rfl (by rw [dotE_arg (by rintro ⟨q1, q2⟩; first | exact Bool.noConfusion (q1.symm.trans h11) | exact Bool.noConfusion (q2.symm.trans h15))]; rfl))
set_option maxHeartbeats 1000000 in
theorem fDot_pf (a b : List Fr) : Pure P 75 [eL eF a, eL eF b] (eFE (dotE a b)) := by
 refine zcl (by rw [IsP.eq (P := P)]; exact Tryz.func75) rfl rfl rfl rfl rfl xa xc (by simp only [argF]; rfl) ?_
 refine zag ?_
 refine zda (d := 0) rfl (fun hm1 => ?_)
 refine zda (d := 1) rfl (fun hm2 => ?_)
 unfold maxLen at hm1 hm2
 refine zab (zaf rfl rfl (zaa rfl) (za1 rfl ti45 rfl rfl) (zac rfl (zad (zag (zas (zag (zab (zac rfl ?_))))))))
 refine zcn rfl rfl (zaa rfl) (zam rfl rfl (fvalid_pf _) (zae rfl zap)) (fun h12 => ?_) (fun h12 => ?_)
 all_goals refine zaf rfl rfl (zaa rfl) (zbj rfl rfl) (zac rfl ?_)
 all_goals (first | refine zac rfl ?_ | refine za4 rfl ?_)
 all_goals (first | refine zcn rfl rfl (zat rfl rfl rfl) (zam rfl rfl (fvalid_pf _) (zae rfl zap)) (fun h16 => ?_) (fun h16 => ?_) | refine za4 rfl ?_)
 all_goals (first | refine zaf rfl rfl (zat rfl rfl rfl) (zbj rfl rfl) ?_ | refine za4 rfl ?_)
 all_goals refine zac rfl (zac rfl (zad (zai ?_)))
 all_goals (first | refine za5 rfl ?_ | refine zau rfl ?_)
 all_goals refine zag ?_
 ·
  refine zab (zac rfl (zaf rfl rfl (zaa rfl) (zao rfl ts30 rfl) ?_))
  refine za3 rfl rfl (zaa rfl) (zb0 rfl rfl rfl) (fun h23 => ?_) (fun h23 => ?_)
  all_goals refine zac rfl ?_
  all_goals (first | refine zac rfl ?_ | refine za4 rfl ?_)
  all_goals (first | refine zaf rfl rfl (zat rfl rfl rfl) (zao rfl ts30 rfl) ?_ | refine za4 rfl ?_)
  all_goals (first | refine za3 rfl rfl (zat rfl rfl rfl) (zb0 rfl rfl rfl) (fun h27 => ?_) (fun h27 => ?_) | refine za4 rfl ?_)
  all_goals refine zac rfl (zac rfl (zad (zai ?_)))
  all_goals (first | refine za5 rfl ?_ | refine zau rfl ?_)
  all_goals refine zag ?_
  rotate_left 2
  ·
   have h3 : ¬ (1000 < a.length ∨ 1000 < b.length) := by omega
   refine zab (zac rfl (zaf rfl rfl (zaa rfl) (zao rfl ts30 rfl) (zac rfl (zaf rfl rfl (zaa rfl) (zao rfl ts30 rfl) ?_))))
   refine za3 rfl rfl (zaa rfl) (zbp rfl rfl rfl) (fun h35 => ?_) (fun h35 => ?_)
   all_goals refine zac rfl (zad (zai ?_))
   all_goals (first | refine za5 rfl ?_ | refine zau rfl ?_)
   all_goals (repeat (first | refine zag ?_ | refine zar ?_))
   ·
    refine zab (zaf rfl rfl (zaa rfl) (za9 rfl ti45 tp45 rfl rfl) (zba rfl (zaa rfl) (zaj rfl ti45 rfl rfl rfl rfl rfl rfl xf xf) (zac rfl (zad (zai ?_)))))
    (refine za7 ?_; repeat (first | refine zbc ?_ | refine zbe ?_))
    exact zdf (.inr rfl) ta45 ti45 rfl rfl rfl rfl rfl rfl (by rw [dotE_size h12 h16 h3 xd]; rfl)
   ·
    have hl : a.length = b.length := by omega
    have HI := dotE_go h12 h16 h3 hl
    refine zab (zaf rfl rfl (zaa rfl) (za9 rfl ti45 tp45 rfl rfl) (zaf rfl rfl (zaa rfl) (za1 rfl ti45 rfl rfl) (zba rfl (zaa rfl) (zaj rfl ti45 rfl rfl rfl rfl rfl rfl xf xf) (zad (zag (zag (zab (zac rfl (zaf rfl rfl (zaa rfl) (zao rfl ts30 rfl) (zac rfl (zad (zai (zas ?_)))))))))))))
    refine zb1 (S := Fr × Nat) (fun s => [(0, eL eF a), (1, eL eF b), (4, .ptr 0 2 0 0), (6, .ptr 1 2 0 0), (39, eI a.length), (40, eI s.2)]) (fun s => [.row 2 [.agg [eI 0, eI 0]], .row 2 [eF s.1]]) (fun s => s.2 ≤ a.length ∧ dotE a b = dotG s.1 (a.drop s.2) (b.drop s.2)) (fun s => a.length - s.2) (Fr.of 0, 0) (zb8 [0, 1] xf ⟨⟨_, rfl, .rowE xb rfl⟩, ⟨_, rfl, .rowE xb rfl⟩, trivial⟩ ⟨.lo _ xa, .lo _ xa, .ptr 0 0 2 0 0 rfl, .ptr 1 1 2 0 0 rfl, .lo _ (.s _), .lo _ (.s _), trivial⟩) ⟨Nat.zero_le _, HI⟩ (fun s hk => ?_)
    obtain ⟨acc, k⟩ := s
    obtain ⟨hk, HI⟩ := hk
    dsimp only at hk HI ⊢
    refine zag (zab ?_)
    refine za3 rfl rfl (zaa rfl) (za2 rfl rfl rfl) (fun h41 => ?_) (fun h41 => ?_)
    all_goals refine zad (zag ?_)
    all_goals (first | refine za5 rfl ?_ | refine zau rfl ?_)
    all_goals (repeat (first | refine zag ?_ | refine zar ?_ | refine zas ?_))
    ·
     have h1 : k < a.length := by omega
     have h2 : k < b.length := by omega
     rw [dotG_step h1 h2] at HI
     generalize hx : mulE (gti a k) (gti b k) = x at HI
     have hmul := fMul_pf (P := P) (gti a k) (gti b k)
     rw [hx] at hmul
     refine zab (zac rfl (zac rfl (zad (zag ?_))))
     refine zb2 hmix ?_
     refine zc1 ?_
     refine ex_s rfl (ex_s rfl (zay rfl rfl (zaa rfl) (fun _ => (zal rfl ts30 ti45 rfl rfl rfl (zbb xd) rfl)) (ex_w ta45 ti45 rfl (ex_s rfl (ex_s rfl (zay rfl rfl (zaa rfl) (fun _ => (zal rfl ts30 ti45 rfl rfl rfl (zbb xd) rfl)) (ex_w ta45 ti45 rfl (zay rfl rfl (zaa rfl) (fun _ => (zam rfl rfl (hmul) (zae rfl (zae rfl zap)))) (ex_s rfl (ex_s rfl (ex_s rfl ?_)))))))))))
     refine zc9 rfl rfl (zaa rfl) (za1 rfl ti45 rfl rfl) (fun _ h => zdo h) ?_
     refine zci rfl (zaa rfl) (zaj rfl ti45 rfl rfl rfl rfl rfl rfl xf xf) (fun _ h => zbw h) ?_
     refine ex_s rfl ?_
     refine zcf xi ?_
     refine zag (zag (zab (zac rfl ?_)))
     refine za3 rfl rfl (zaa rfl) (zbp rfl rfl rfl) (fun h56 => ?_) (fun h56 => ?_)
     all_goals refine zad (zai ?_)
     all_goals (first | refine za5 rfl ?_ | refine zau rfl ?_)
     all_goals (repeat (first | refine zag ?_ | refine zar ?_))
     ·
      rw [if_pos xd] at HI
      refine zab (zaf rfl rfl (zaa rfl) (za9 rfl ti45 tp45 rfl rfl) (zac rfl (zba rfl (zaa rfl) (zaj rfl ti45 rfl rfl rfl rfl rfl rfl xf xf) (zac rfl (zad (zai ?_))))))
      (refine za7 ?_; repeat (first | refine zbc ?_ | refine zbe ?_))
      exact zdf (.inr rfl) ta45 ti45 rfl rfl rfl rfl rfl rfl (by rw [HI]; rfl)
     ·
      rw [if_neg xd] at HI
      generalize hy : addE acc ⟨x.n, x.d⟩ = y at HI
      have hadd := fAdd_pf (P := P) acc ⟨x.n, x.d⟩
      rw [hy] at hadd
      refine zab (zaf rfl rfl (zaa rfl) (za8 rfl ta45 ti45 rfl rfl rfl rfl rfl) (zaf rfl rfl (zaa rfl) (za8 rfl ta45 ti45 rfl rfl rfl rfl rfl) (zaf rfl rfl (zaa rfl) (zam rfl rfl (hadd) (zae rfl (zae rfl zap))) (zac rfl (zac rfl (zac rfl (zba rfl (zaa rfl) (zaj rfl ti45 rfl rfl rfl rfl rfl rfl xf xf) (zac rfl (zad (zag (zab (zac rfl ?_))))))))))))
      refine za3 rfl rfl (zaa rfl) (zbp rfl rfl rfl) (fun h66 => ?_) (fun h66 => ?_)
      all_goals refine zad (zai ?_)
      all_goals (first | refine za5 rfl ?_ | refine zau rfl ?_)
      all_goals (repeat (first | refine zag ?_ | refine zai ?_ | refine zar ?_ | refine zbl ?_))
      ·
       rw [if_pos xd] at HI
       refine zab (zaf rfl rfl (zaa rfl) (za9 rfl ti45 tp45 rfl rfl) (zac rfl (zba rfl (zaa rfl) (zaj rfl ti45 rfl rfl rfl rfl rfl rfl xf xf) (zac rfl (zad (zai ?_))))))
       (refine za7 ?_; repeat (first | refine zbc ?_ | refine zbe ?_))
       exact zdf (.inr rfl) ta45 ti45 rfl rfl rfl rfl rfl rfl (by rw [HI]; rfl)
      ·
       rw [if_neg xd] at HI
       refine zab (zaf rfl rfl (zaa rfl) (zax rfl rfl rfl (IntWalk.i64_in _ xd)) (zac rfl (zad (zai ?_))))
       exact ⟨(⟨y.n, y.d⟩, k + 1), ⟨by dsimp only; omega, HI⟩, by dsimp only; omega, zb8 [0, 1] xf ⟨⟨_, rfl, .rowE xb rfl⟩, ⟨_, rfl, .rowE xb rfl⟩, trivial⟩ ⟨.lo _ xa, .lo _ xa, .ptr 0 0 2 0 0 rfl, .ptr 1 1 2 0 0 rfl, .lo _ (.s _), .lo _ (.s _), trivial⟩⟩
    ·
     rw [dotG_end xd] at HI
     (refine zb9 ?_; repeat (first | refine zcr ?_ | refine zbt ?_ | refine zbk rfl ?_ | refine zbl ?_ | refine zai ?_ | refine zag ?_ | refine zar ?_ | refine zas ?_))
     refine zab (zaf rfl rfl (zaa rfl) (za8 rfl ta45 ti45 rfl rfl rfl rfl rfl) (zba rfl (zaa rfl) (zaj rfl ti45 rfl rfl rfl rfl rfl rfl xf xf) (zac rfl (zad (zai ?_)))))
     (refine za7 ?_; repeat (first | refine zbc ?_ | refine zbe ?_))
     exact zdf (.inr rfl) ta45 ti45 rfl rfl rfl rfl rfl rfl (by rw [HI]; rfl)
  all_goals refine zab (zaf rfl rfl (zaa rfl) (za9 rfl ti45 tp45 rfl rfl) (zba rfl (zaa rfl) (zaj rfl ti45 rfl rfl rfl rfl rfl rfl xf xf) (zac rfl (zad (zai (za7 (zbe (zbc ?_))))))))
  all_goals (exact zdf (.inr rfl) ta45 ti45 rfl rfl rfl rfl rfl rfl (by rw [dotE_full h12 h16 xd]; rfl))
 all_goals refine zab (zaf rfl rfl (zaa rfl) (za9 rfl ti45 tp45 rfl rfl) (zba rfl (zaa rfl) (zaj rfl ti45 rfl rfl rfl rfl rfl rfl xf xf) (zac rfl (zad (zai (za7 (zbe (zbc ?_))))))))
 all_goals (exact zdf (.inr rfl) ta45 ti45 rfl rfl rfl rfl rfl rfl (by rw [dotE_arg (by rintro ⟨q1, q2⟩; first | exact Bool.noConfusion (q1.symm.trans h12) | exact Bool.noConfusion (q2.symm.trans h16))]; rfl))
end Go.Proofs.YtllkbjcemecmjaaGreat.Aw
end
section
namespace Go.Proofs.YtllkbjcemecmjaaGreat.Aw
open Go.RowKit Go.Proofs
variable {P : Program} [IsP P]
theorem whole_pf (n : Int) : Pure P 46 [eI n] (eF (Fr.of n)) := by
 refine zcl (by rw [IsP.eq (P := P)]; exact Tryz.func46) rfl rfl rfl rfl rfl (zah (.s _) zak) (.agg _ (zah (.s _) (zah (.s _) zak))) (by simp only [argF]; rfl) ?_
 refine zag (zab (zaf rfl rfl (zaa rfl) (za1 rfl ti45 rfl rfl) (zad (zag (zab (zac rfl (zaf rfl rfl (zaa rfl) (za9 rfl ti45 tp45 rfl rfl) (zba rfl (zaa rfl) (zaj rfl ti45 rfl rfl rfl rfl rfl rfl xf xf) (zad (zai ?_))))))))))
 (refine za7 ?_; repeat (first | refine zbc ?_ | refine zbe ?_))
 exact post_c1 (N := 0) (.inr rfl) ta45 ti45 rfl rfl rfl rfl rfl (.refl _)
def prG (y : List Fr) (pd : List Int) : Nat → Nat → Fr → FE
 | 0, _, a => ⟨a.n, a.d, 0⟩
 | n + 1, k, a => if (subE a (gti y (gti pd k).toNat)).e ≠ 0 then FE.err (subE a (gti y (gti pd k).toNat)).e else prG y pd n (k + 1) ⟨(subE a (gti y (gti pd k).toNat)).n, (subE a (gti y (gti pd k).toNat)).d⟩
def prE (y : List Fr) (s : Sft) : FE := prG y s.pd s.pd.length 0 (Fr.of s.cost)
def bdG (l : List Sft) (lo hi : List Int) (y : List Fr) : Nat → Nat → Fr → Fr × Bool
 | 0, _, s => (s, true)
 | n + 1, i, s => if (prE y (gti l i)).e ≠ 0 then (⟨0, 0⟩, false) else
  if (mulE ⟨(prE y (gti l i)).n, (prE y (gti l i)).d⟩ (Fr.of (if (prE y (gti l i)).n < 0 then gti hi i else gti lo i))).e ≠ 0 then (⟨0, 0⟩, false) else
  if (addE s ⟨(mulE ⟨(prE y (gti l i)).n, (prE y (gti l i)).d⟩ (Fr.of (if (prE y (gti l i)).n < 0 then gti hi i else gti lo i))).n, (mulE ⟨(prE y (gti l i)).n, (prE y (gti l i)).d⟩ (Fr.of (if (prE y (gti l i)).n < 0 then gti hi i else gti lo i))).d⟩).e ≠ 0 then (⟨0, 0⟩, false) else
  bdG l lo hi y n (i + 1) ⟨(addE s ⟨(mulE ⟨(prE y (gti l i)).n, (prE y (gti l i)).d⟩ (Fr.of (if (prE y (gti l i)).n < 0 then gti hi i else gti lo i))).n, (mulE ⟨(prE y (gti l i)).n, (prE y (gti l i)).d⟩ (Fr.of (if (prE y (gti l i)).n < 0 then gti hi i else gti lo i))).d⟩).n, (addE s ⟨(mulE ⟨(prE y (gti l i)).n, (prE y (gti l i)).d⟩ (Fr.of (if (prE y (gti l i)).n < 0 then gti hi i else gti lo i))).n, (mulE ⟨(prE y (gti l i)).n, (prE y (gti l i)).d⟩ (Fr.of (if (prE y (gti l i)).n < 0 then gti hi i else gti lo i))).d⟩).d⟩
def bdE (d : List Int) (l : List Sft) (lo hi : List Int) (y : List Fr) : Fr × Bool := if (dotE (d.map Fr.of) y).e ≠ 0 then (⟨0, 0⟩, false) else bdG l lo hi y l.length 0 ⟨(dotE (d.map Fr.of) y).n, (dotE (d.map Fr.of) y).d⟩
def eFB (r : Fr × Bool) : AV := .tup [eF r.1, eB r.2]
theorem ofL_gti {d : List Int} {k : Nat} (h : k < d.length) : gti (d.map Fr.of) k = Fr.of (gti d k) := by
 have h1 : (d.map Fr.of)[k]? = some (Fr.of (gti d k)) := by rw [List.getElem?_map, zdh h]; rfl
 unfold gti at *
 rw [h1]; rfl
set_option maxHeartbeats 4000000 in
theorem bound_pf (d : List Int) (l : List Sft) (lo hi : List Int) (y : List Fr) (hv : zce d l = true) (hy : y.length = d.length) (hlo : lo.length = l.length) (hhi : hi.length = l.length) : Pure P 53 [eL eI d, eL eSh l, eBx lo hi, eL eF y] (eFB (bdE d l lo hi y)) := by
 obtain ⟨⟨q1, q2, q3⟩, qd, ql⟩ := zb4 hv
 have HI : bdE d l lo hi y = if (dotE (d.map Fr.of) y).e ≠ 0 then (⟨0, 0⟩, false) else bdG l lo hi y l.length 0 ⟨(dotE (d.map Fr.of) y).n, (dotE (d.map Fr.of) y).d⟩ := rfl
 generalize bdE d l lo hi y = R at HI ⊢
 refine zcl (by rw [IsP.eq (P := P)]; exact Tryz.func53) rfl rfl rfl rfl rfl xa xc (by simp only [argF]; rfl) ?_
 refine zag (zab (zaf rfl rfl (zaa rfl) (zb3 rfl rfl rfl rfl) ?_))
 refine za6 (zbm (id := 0) rfl) (za6 (zcb (d := 6) rfl rfl rfl) ?_)
 refine zaf rfl rfl (zaa rfl) (za1 rfl ti45 rfl rfl) (zac rfl (zad (zag (zab (zac rfl (zad (zag (zag (zab (zac rfl (zaf rfl rfl (zaa rfl) (zao rfl ts22 rfl) (zac rfl (zad (zai (zas ?_)))))))))))))))
 refine zbg (wk_own (d := 10) 2 rfl (.inr rfl)) ?_
 refine zb1 (S := Nat) (fun k => [(1, eL eSh l), (3, eL eF y), (6, .ref (eBx lo hi).cells), (8, .ptr 0 2 0 0), (9, eB false), (23, eL eI d), (24, eI d.length), (25, eI k), (10, .own 1 2 k)]) (fun k => [.row 2 [.agg [eI 0, eI 0]], .row 2 (((d.map Fr.of).take k).map eF)]) (fun k => k ≤ d.length) (fun k => d.length - k) 0 (zb8 [1, 2] xf ⟨⟨_, rfl, .rowE xb rfl⟩, ⟨_, rfl, .rowE (zaz) rfl⟩, trivial⟩ ⟨.lo _ xa, .lo _ xa, .lo _ xc, .ptr 1 0 2 0 0 rfl, .lo _ (.s _), .lo _ (zan fun _ => .s _), .lo _ (.s _), .lo _ (.s _), .own 2 1 2 _ _ rfl rfl, trivial⟩) (Nat.zero_le _) (fun k hk => ?_)
 have hol : (d.map Fr.of).length = d.length := by simp
 refine zag (zab ?_)
 refine za3 rfl rfl (zaa rfl) (za2 rfl rfl rfl) (fun h26 => ?_) (fun h26 => ?_)
 all_goals refine zad (zag ?_)
 all_goals (first | refine za5 rfl ?_ | refine zau rfl ?_)
 all_goals (repeat (first | refine zag ?_ | refine zar ?_ | refine zas ?_))
 ·
  have hlt : k < d.length := by omega
  have htk : (((d.map Fr.of).take k).map eF).length = k := by simp; omega
  have hrow : ((d.map Fr.of).take (k + 1)).map eF = ((d.map Fr.of).take k).map eF ++ [eF (Fr.of (gti d k))] := by
   rw [zcq xd, List.map_append, ofL_gti hlt]; rfl
  refine zab (zaf rfl rfl (zaa rfl) (zal rfl ts22 ti3 rfl rfl rfl (zbb xd) rfl) (zbu ta3 rfl (zac rfl (zad (zai (zab (zac rfl (zac rfl (zaf rfl rfl (zaa rfl) (zam rfl rfl ((whole_pf _)) (zae rfl zap)) (zaf rfl rfl (zaa rfl) (zco rfl ts30 ti45 rfl rfl xf xf rfl rfl rfl (.agg _ (zah (.s _) (zah (.s _) zak)))) ?_))))))))))
  refine zaf rfl rfl (zaa rfl) (zbq rfl ts30 ti45 rfl xf rfl rfl xk rfl xe xg xg) ?_
  refine zac rfl (zad (zbl (zai (zab (zaf rfl rfl (zaa rfl) (zax rfl rfl rfl (IntWalk.i64_in _ xd)) (zac rfl (zad (zai ?_))))))))
  exact ⟨k + 1, by omega, by omega, zb8 [0, 2] xf ⟨⟨_, rfl, .rowE xb rfl⟩, ⟨_, rfl, .rowE xb (Eq.trans (b := ((d.map Fr.of).take k).map eF ++ [eF (Fr.of (gti d k))]) rfl hrow.symm)⟩, trivial⟩ ⟨.lo _ xa, .lo _ xa, .lo _ xc, .ptr 0 0 2 0 0 rfl, .lo _ (.s _), .lo _ (zan fun _ => .s _), .lo _ (.s _), .lo _ (.s _), .own 2 1 2 _ _ rfl (by simp; omega), trivial⟩⟩
 (refine zb9 ?_; repeat (first | refine zcr ?_ | refine zbt ?_ | refine zbk rfl ?_ | refine zbl ?_ | refine zai ?_ | refine zag ?_ | refine zar ?_ | refine zas ?_))
 have e : (d.map Fr.of).take k = d.map Fr.of := List.take_of_length_le xd
 rw [e]
 have hdot := fDot_pf (P := P) (d.map Fr.of) y
 generalize dotE (d.map Fr.of) y = dt at HI hdot
 refine zab (zac rfl ?_)
 refine za6 (zbm (id := 1) rfl) (za6 (wk_sl (d := 36) rfl rfl xk) ?_)
 refine zac rfl (zaf rfl rfl (zaa rfl) (zam rfl rfl (hdot) (zae rfl (zae rfl zap))) (zac rfl (zac rfl (zac rfl (zaf rfl rfl (zaa rfl) (za1 rfl ti45 rfl rfl) (zba rfl (zaa rfl) (zaj rfl ti45 rfl rfl rfl rfl rfl rfl xf xf) (zac rfl (zad (zag (zag (zab (zac rfl ?_))))))))))))
 refine za3 rfl rfl (zaa rfl) (zbp rfl rfl rfl) (fun h42 => ?_) (fun h42 => ?_)
 all_goals refine zad (zai ?_)
 all_goals (first | refine za5 rfl ?_ | refine zau rfl ?_)
 all_goals (repeat (first | refine zag ?_ | refine zar ?_))
 ·
  rw [if_pos xd] at HI
  refine zab (zaf rfl rfl (zaa rfl) (za9 rfl ti45 tp45 rfl rfl) (zba rfl (zaa rfl) (zaj rfl ti45 rfl rfl rfl rfl rfl rfl xf xf) (zac rfl (zad (zai ?_)))))
  (refine za7 ?_; repeat (first | refine zbc ?_ | refine zbe ?_))
  exact zdf (.inr rfl) ta45 ti45 rfl rfl rfl rfl rfl rfl (by rw [HI]; rfl)
 rw [if_neg xd] at HI
 refine zab (zac rfl (zaf rfl rfl (zaa rfl) (zao rfl ts23 rfl) (zac rfl (zad (zai (zas ?_))))))
 refine zb1 (S := Fr × Nat) (fun s => [(3, eL eF y), (6, .ref (eBx lo hi).cells), (8, .ptr 0 2 0 0), (13, .ptr 1 2 0 0), (44, eL eSh l), (45, eI l.length), (46, eI s.2)]) (fun s => [.row 2 [.agg [eI 0, eI 0]], .row 2 [eF s.1]]) (fun s => s.2 ≤ l.length ∧ R = bdG l lo hi y (l.length - s.2) s.2 s.1) (fun s => l.length - s.2) (⟨dt.n, dt.d⟩, 0) (zb8 [0, 2] xf ⟨⟨_, rfl, .rowE xb rfl⟩, ⟨_, rfl, .rowE xb rfl⟩, trivial⟩ ⟨.lo _ xa, .lo _ xc, .ptr 0 0 2 0 0 rfl, .ptr 2 1 2 0 0 rfl, .lo _ xa, .lo _ (.s _), .lo _ (.s _), trivial⟩) ⟨Nat.zero_le _, HI⟩ (fun s hs => ?_)
 obtain ⟨sm, i⟩ := s
 obtain ⟨hi1, HJ⟩ := hs
 dsimp only at hi1 HJ ⊢
 clear HI hdot e
 refine zag (zab ?_)
 refine za3 rfl rfl (zaa rfl) (za2 rfl rfl rfl) (fun h47 => ?_) (fun h47 => ?_)
 all_goals refine zad (zag ?_)
 all_goals (first | refine za5 rfl ?_ | refine zau rfl ?_)
 all_goals (repeat (first | refine zag ?_ | refine zar ?_ | refine zas ?_))
 ·
  have hlt : i < l.length := by omega
  rw [show l.length - i = (l.length - (i + 1)) + 1 by omega, bdG] at HJ
  obtain ⟨sf, hsf⟩ : ∃ sf, gti l i = sf := ⟨_, rfl⟩
  have hix : (l.map eSh)[i]? = some (eSh sf) := by rw [← hsf]; exact zbb hlt
  have hsl := (ql i hlt).2
  rw [hsf] at hsl HJ
  refine zab (zac rfl (zaf rfl rfl (zaa rfl) (zal rfl ts23 ti43 rfl rfl rfl hix rfl) (zcx ta43 ti43 rfl (zaf rfl rfl (zaa rfl) (za1 rfl ti43 rfl rfl) (zac rfl (zba rfl (zaa rfl) (zaj rfl ti43 rfl rfl rfl rfl rfl rfl xf xf) (zad (zag ?_))))))))
  refine zbg (zbm (id := 2) rfl) ?_
  refine zbg (zcb (d := 16) rfl rfl rfl) ?_
  refine zab (zbz tf43_1 rfl (zbu ta3 rfl (zaf rfl rfl (zaa rfl) (zam rfl rfl ((whole_pf _)) (zae rfl zap)) (zaf rfl rfl (zaa rfl) (za1 rfl ti45 rfl rfl) (zba rfl (zaa rfl) (zaj rfl ti45 rfl rfl rfl rfl rfl rfl xf xf) (zad (zag (zag (zab (zbz tf43_0 rfl (zbu ta22 rfl (zaf rfl rfl (zaa rfl) (zao rfl ts22 rfl) (zac rfl (zad (zai (zas ?_))))))))))))))))
  refine zda (d := 55) rfl (fun hm3 => ?_)
  unfold maxLen at hm3
  obtain ⟨pe, hpe⟩ : ∃ pe, pe = prE y sf := ⟨_, rfl⟩
  rw [← hpe] at HJ
  have HK : pe = prG y sf.pd sf.pd.length 0 (Fr.of sf.cost) := hpe
  clear hpe
  refine zb1 (S := Fr × Nat) (fun s => [(3, eL eF y), (6, .ref (eBx lo hi).cells), (8, .ptr 0 2 0 0), (13, .ptr 1 2 0 0), (17, .ptr 2 2 0 0), (15, eI i), (44, eL eSh l), (45, eI l.length), (46, eI i), (55, eL eI sf.pd), (56, eI sf.pd.length), (57, eI s.2)]) (fun s => [.row 2 [.agg [eI 0, eI 0]], .row 2 [eF sm], .row 2 [eF s.1]]) (fun s => s.2 ≤ sf.pd.length ∧ pe = prG y sf.pd (sf.pd.length - s.2) s.2 s.1) (fun s => sf.pd.length - s.2) (Fr.of sf.cost, 0) (zb8 [0, 1, 3] xf ⟨⟨_, rfl, .rowE xb rfl⟩, ⟨_, rfl, .rowE xb rfl⟩, ⟨_, rfl, .rowE xb rfl⟩, trivial⟩ ⟨.lo _ xa, .lo _ xc, .ptr 0 0 2 0 0 rfl, .ptr 1 1 2 0 0 rfl, .ptr 3 2 2 0 0 rfl, .lo _ (.s _), .lo _ xa, .lo _ (.s _), .lo _ (.s _), .lo _ (zan fun _ => .s _), .lo _ (.s _), .lo _ (.s _), trivial⟩) ⟨Nat.zero_le _, HK⟩ (fun s hs => ?_)
  obtain ⟨pr, j⟩ := s
  obtain ⟨hj, HK⟩ := hs
  dsimp only at hj HK ⊢
  refine zag (zab ?_)
  refine za3 rfl rfl (zaa rfl) (za2 rfl rfl rfl) (fun h58 => ?_) (fun h58 => ?_)
  all_goals refine zad (zag ?_)
  all_goals (first | refine za5 rfl ?_ | refine zau rfl ?_)
  all_goals (repeat (first | refine zag ?_ | refine zar ?_ | refine zas ?_))
  ·
   have hlt2 : j < sf.pd.length := by omega
   obtain ⟨g1, g2, g3⟩ := hsl j hlt2
   obtain ⟨p, hp⟩ : ∃ p : Nat, gti sf.pd j = (p : Int) := ⟨(gti sf.pd j).toNat, by omega⟩
   have hpy : p < y.length := by omega
   rw [show sf.pd.length - j = (sf.pd.length - (j + 1)) + 1 by omega, prG, hp, Int.toNat_natCast] at HK
   have hsub := fSub_pf (P := P) pr (gti y p)
   generalize subE pr (gti y p) = x at HK hsub
   refine zab (zaf rfl rfl (zaa rfl) (zal rfl ts22 ti3 rfl rfl rfl (zbb xd) rfl) (zbu ta3 rfl (zac rfl (zad (zag ?_)))))
   refine zb2 hmix ?_
   refine zc1 ?_
   refine zbv rfl rfl (zaa rfl) (zdq rfl ta45 ti45 rfl rfl rfl rfl rfl) (ex_s rfl (ex_s rfl (zay rfl rfl (zaa rfl) (fun _ => (zal rfl ts30 ti45 rfl rfl hp (zbb hpy) rfl)) (ex_w ta45 ti45 rfl (zay rfl rfl (zaa rfl) (fun _ => (zam rfl rfl (hsub) (zae rfl (zae rfl zap)))) (ex_s rfl (ex_s rfl (ex_s rfl ?_))))))))
   refine zci rfl (zaa rfl) (zaj rfl ti45 rfl rfl rfl rfl rfl rfl xf xf) (fun _ h => zbw h) ?_
   refine ex_s rfl ?_
   refine zcf xi ?_
   refine zag (zab (zac rfl ?_))
   refine za3 rfl rfl (zaa rfl) (zbp rfl rfl rfl) (fun h71 => ?_) (fun h71 => ?_)
   all_goals refine zad (zai ?_)
   all_goals (first | refine za5 rfl ?_ | refine zau rfl ?_)
   all_goals (repeat (first | refine zag ?_ | refine zai ?_ | refine zar ?_ | refine zbl ?_))
   ·
    rw [if_pos xd] at HK
    subst HK
    rw [if_pos (by show x.e ≠ 0; omega)] at HJ
    refine zab (zaf rfl rfl (zaa rfl) (za9 rfl ti45 tp45 rfl rfl) (zba rfl (zaa rfl) (zaj rfl ti45 rfl rfl rfl rfl rfl rfl xf xf) (zac rfl (zad (zai ?_)))))
    (refine za7 ?_; repeat (first | refine zbc ?_ | refine zbe ?_))
    exact zdf (.inr rfl) ta45 ti45 rfl rfl rfl rfl rfl rfl (by rw [HJ]; rfl)
   ·
    rw [if_neg xd] at HK
    refine zab (zaf rfl rfl (zaa rfl) (zax rfl rfl rfl (IntWalk.i64_in _ xd)) (zac rfl (zad (zai ?_))))
    exact ⟨(⟨x.n, x.d⟩, j + 1), ⟨by dsimp only; omega, HK⟩, by dsimp only; omega, zb8 [0, 1, 2] xf ⟨⟨_, rfl, .rowE xb rfl⟩, ⟨_, rfl, .rowE xb rfl⟩, ⟨_, rfl, .rowE xb rfl⟩, trivial⟩ ⟨.lo _ xa, .lo _ xc, .ptr 0 0 2 0 0 rfl, .ptr 1 1 2 0 0 rfl, .ptr 2 2 2 0 0 rfl, .lo _ (.s _), .lo _ xa, .lo _ (.s _), .lo _ (.s _), .lo _ (zan fun _ => .s _), .lo _ (.s _), .lo _ (.s _), trivial⟩⟩
  ·
   rw [show sf.pd.length - j = 0 by omega, prG] at HK
   subst HK
   rw [if_neg xo] at HJ
   dsimp only at HJ
   obtain ⟨ch, hch⟩ : ∃ ch, gti hi i = ch := ⟨_, rfl⟩
   obtain ⟨cl, hcl⟩ : ∃ cl, gti lo i = cl := ⟨_, rfl⟩
   have hixh : (hi.map eI)[i]? = some (eI ch) := by rw [← hch]; exact zbb xd
   have hixl : (lo.map eI)[i]? = some (eI cl) := by rw [← hcl]; exact zbb xd
   rw [hch, hcl] at HJ
   obtain ⟨CH, hCH⟩ : ∃ CH, CH = if pr.n < 0 then ch else cl := ⟨_, rfl⟩
   rw [← hCH] at HJ
   clear hch hcl
   (refine zb9 ?_; repeat (first | refine zcr ?_ | refine zbt ?_ | refine zbk rfl ?_ | refine zbl ?_ | refine zai ?_ | refine zag ?_ | refine zar ?_ | refine zas ?_))
   refine zab (zbz tf60_0 rfl (zbu ta22 rfl (zac rfl (zaf rfl rfl (zaa rfl) (zal rfl ts22 ti3 rfl rfl rfl hixl rfl) (zbu ta3 rfl (zac rfl (zad (zag (zag (zab (zbz tf45_0 rfl (zaf rfl rfl (zaa rfl) (zaq rfl ta3 rfl rfl rfl rfl rfl) ?_))))))))))))
   refine za3 rfl rfl (zaa rfl) (za2 rfl rfl rfl) (fun h81 => ?_) (fun h81 => ?_)
   all_goals refine zad (zai ?_)
   all_goals (first | refine za5 rfl ?_ | refine zau rfl ?_)
   all_goals (repeat (first | refine zag ?_ | refine zar ?_))
   all_goals first
    |
     refine zab (zbz tf60_1 rfl (zbu ta22 rfl (zac rfl (zaf rfl rfl (zaa rfl) (zal rfl ts22 ti3 rfl rfl rfl hixh rfl) (zbu ta3 rfl (zac rfl (zad (zag ?_))))))))
     rw [if_pos xd] at hCH
     subst hCH
    |
     rw [if_neg xd] at hCH
     subst hCH
   all_goals have hmul := fMul_pf (P := P) pr (Fr.of CH)
   all_goals generalize mulE pr (Fr.of CH) = x at HJ hmul
   all_goals all_goals refine zb2 hmix ?_
   all_goals all_goals refine zc1 ?_
   all_goals (all_goals (first | refine zay rfl rfl (zaa rfl) (fun _ => (zck rfl ta45 ti45 rfl rfl)) ?_ | refine zbv rfl rfl (zaa rfl) (zdq rfl ta45 ti45 rfl rfl rfl rfl rfl) ?_ | refine zay rfl rfl (zaa rfl) (fun _ => (does_load_refs rfl ta45 ti45 rfl (Nat.le_of_ble_eq_true rfl))) ?_ | refine zbv rfl rfl (zaa rfl) (look_ptrs rfl ta45 ti45 rfl rfl rfl rfl (Nat.le_of_ble_eq_true rfl)) ?_))
   all_goals all_goals refine zay rfl rfl (zaa rfl) (fun _ => (mv_s (.inl rfl) rfl)) ?_
   all_goals all_goals refine zay rfl rfl (zaa rfl) (fun _ => (zam rfl rfl ((whole_pf _)) (zae rfl zap))) ?_
   all_goals all_goals refine zay rfl rfl (zaa rfl) (fun _ => (zam rfl rfl (hmul) (zae rfl (zae rfl zap)))) ?_
   all_goals (all_goals (first | refine zay rfl rfl (zaa rfl) (fun _ => (mv_tup (.inl rfl) rfl)) ?_ | refine zay rfl rfl (zaa rfl) (fun _ => (mv_s (.inl rfl) rfl)) ?_))
   all_goals all_goals refine zay rfl rfl (zaa rfl) (fun _ => (zcz rfl rfl rfl)) ?_
   all_goals all_goals refine zay rfl rfl (zaa rfl) (fun _ => (zcz rfl rfl rfl)) ?_
   all_goals all_goals refine zc9 rfl rfl (zaa rfl) (za1 rfl ti45 rfl rfl) (fun _ h => zdo h) ?_
   all_goals all_goals refine zci rfl (zaa rfl) (zaj rfl ti45 rfl rfl rfl rfl rfl rfl xf xf) (fun _ h => zbw h) ?_
   all_goals all_goals refine zay rfl rfl (zaa rfl) (fun _ => (mv_s (.inr rfl) rfl)) ?_
   all_goals all_goals refine zcf xi ?_
   all_goals (all_goals (repeat (first | refine zag ?_ | refine zai ?_ | refine zar ?_ | refine zbl ?_ | refine zas ?_)))
   all_goals all_goals refine zab ?_
   all_goals all_goals refine zaf rfl rfl (zaa rfl) (mv_s (.inl rfl) rfl) ?_
   all_goals (all_goals (first | refine za3 rfl rfl (zaa rfl) (zbp rfl rfl rfl) (fun h95 => ?_) (fun h95 => ?_) | refine zcn rfl rfl (zaa rfl) (zbp rfl rfl rfl) (fun h95 => ?_) (fun h95 => ?_)))
   all_goals all_goals refine zad ?_
   all_goals (all_goals (repeat (first | refine zag ?_ | refine zai ?_ | refine zar ?_ | refine zbl ?_ | refine zas ?_)))
   all_goals (all_goals (first | refine za5 rfl ?_ | refine zau rfl ?_))
   all_goals (all_goals (repeat (first | refine zag ?_ | refine zai ?_ | refine zar ?_ | refine zbl ?_ | refine zas ?_)))
   all_goals first
    |
     rw [if_pos xd] at HJ
     refine zab (zaf rfl rfl (zaa rfl) (za9 rfl ti45 tp45 rfl rfl) (zba rfl (zaa rfl) (zaj rfl ti45 rfl rfl rfl rfl rfl rfl xf xf) (zac rfl (zad (zai ?_)))))
     (refine za7 ?_; repeat (first | refine zbc ?_ | refine zbe ?_))
     exact zdf (.inr rfl) ta45 ti45 rfl rfl rfl rfl rfl rfl (by rw [HJ]; rfl)
    |
     rw [if_neg xd] at HJ
   all_goals have hadd := fAdd_pf (P := P) sm ⟨x.n, x.d⟩
   all_goals generalize addE sm ⟨x.n, x.d⟩ = t at HJ hadd
   all_goals refine zab (zaf rfl rfl (zaa rfl) (za8 rfl ta45 ti45 rfl rfl rfl rfl rfl) (zaf rfl rfl (zaa rfl) (za8 rfl ta45 ti45 rfl rfl rfl rfl rfl) (zaf rfl rfl (zaa rfl) (zam rfl rfl (hadd) (zae rfl (zae rfl zap))) (zac rfl (zac rfl (zac rfl (zba rfl (zaa rfl) (zaj rfl ti45 rfl rfl rfl rfl rfl rfl xf xf) (zac rfl (zad (zag ?_))))))))))
   all_goals all_goals refine zab ?_
   all_goals all_goals refine zaf rfl rfl (zaa rfl) (mv_s (.inl rfl) rfl) ?_
   all_goals (all_goals (first | refine za3 rfl rfl (zaa rfl) (zbp rfl rfl rfl) (fun h104 => ?_) (fun h104 => ?_) | refine zcn rfl rfl (zaa rfl) (zbp rfl rfl rfl) (fun h104 => ?_) (fun h104 => ?_)))
   all_goals all_goals refine zad ?_
   all_goals (all_goals (repeat (first | refine zag ?_ | refine zai ?_ | refine zar ?_ | refine zbl ?_ | refine zas ?_)))
   all_goals (all_goals (first | refine za5 rfl ?_ | refine zau rfl ?_))
   all_goals (all_goals (repeat (first | refine zag ?_ | refine zai ?_ | refine zar ?_ | refine zbl ?_ | refine zas ?_)))
   all_goals first
    |
     rw [if_pos xd] at HJ
     refine zab (zaf rfl rfl (zaa rfl) (za9 rfl ti45 tp45 rfl rfl) (zba rfl (zaa rfl) (zaj rfl ti45 rfl rfl rfl rfl rfl rfl xf xf) (zac rfl (zad (zai ?_)))))
     (refine za7 ?_; repeat (first | refine zbc ?_ | refine zbe ?_))
     exact zdf (.inr rfl) ta45 ti45 rfl rfl rfl rfl rfl rfl (by rw [HJ]; rfl)
    |
     rw [if_neg xd] at HJ
     refine zab (zaf rfl rfl (zaa rfl) (zax rfl rfl rfl (IntWalk.i64_in _ xd)) (zac rfl (zad (zai ?_))))
     exact ⟨(⟨t.n, t.d⟩, i + 1), ⟨by dsimp only; omega, HJ⟩, by dsimp only; omega, zb8 [0, 1] xf ⟨⟨_, rfl, .rowE xb rfl⟩, ⟨_, rfl, .rowE xb rfl⟩, trivial⟩ ⟨.lo _ xa, .lo _ xc, .ptr 0 0 2 0 0 rfl, .ptr 1 1 2 0 0 rfl, .lo _ xa, .lo _ (.s _), .lo _ (.s _), trivial⟩⟩
 ·
  rw [show l.length - i = 0 by omega, bdG] at HJ
  (refine zb9 ?_; repeat (first | refine zcr ?_ | refine zbt ?_ | refine zbk rfl ?_ | refine zbl ?_ | refine zai ?_ | refine zag ?_ | refine zar ?_ | refine zas ?_))
  refine zab (zaf rfl rfl (zaa rfl) (za8 rfl ta45 ti45 rfl rfl rfl rfl rfl) (zba rfl (zaa rfl) (zaj rfl ti45 rfl rfl rfl rfl rfl rfl xf xf) (zac rfl (zad (zai ?_)))))
  (refine za7 ?_; repeat (first | refine zbc ?_ | refine zbe ?_))
  exact zdf (.inr rfl) ta45 ti45 rfl rfl rfl rfl rfl rfl (by rw [HJ]; rfl)
def badM (a : Fr) : Bool := !a.okB || decide (a.n < 0)
theorem proves1_pf (a : Fr) : Pure P 51 [eF a] (eB (badM a)) := by
 have hd : badM a = (!a.okB || decide (a.n < 0)) := rfl
 have hv := fValid_pf (P := P) a
 generalize a.okB = z at hd hv
 generalize badM a = R at hd ⊢
 refine zcl (by rw [IsP.eq (P := P)]; exact Tryz.func51) rfl rfl rfl rfl rfl xa (.s _) (by simp only [argF]; rfl) ?_
 refine zag (zab (zaf rfl rfl (zaa rfl) (zb3 rfl rfl rfl rfl) ?_))
 refine za6 (zbm (id := 0) rfl) (za6 (zcb (d := 1) rfl rfl rfl) ?_)
 refine zac rfl (zad (zag (zab (zcx ta45 ti45 rfl ?_))))
 refine zcn rfl rfl (zaa rfl) (zam rfl rfl (hv) (zae rfl zap)) (fun h4 => ?_) (fun h4 => ?_)
 all_goals refine zaf rfl rfl (zaa rfl) (zbj rfl rfl) (zac rfl ?_)
 all_goals (first | refine zbz tf45_0 rfl ?_ | refine za4 rfl ?_)
 all_goals (first | refine zbu ta3 rfl ?_ | refine za4 rfl ?_)
 all_goals (first | refine za3 rfl rfl (zat rfl rfl rfl) (za2 rfl rfl rfl) (fun h9 => ?_) (fun h9 => ?_) | refine za4 rfl ?_)
 all_goals refine zac rfl (zac rfl (zad (zai (za7 ?_))))
 all_goals exact zb6 (.inr rfl) rfl (congrArg eB (by
  rw [hd, h4]
  first
  | rfl
  | (rw [decide_eq_true xd]; rfl)
  | (rw [decide_eq_false xd]; rfl)))
def mulB (d : List Int) (y : List Fr) : Bool := decide (y.length = d.length) && !(y.any badM)
def prvB (d : List Int) (l : List Sft) (lo hi : List Int) (y : List Fr) (c : Int) : Bool := mulB d y && ((bdE d l lo hi y).2 && (decide ((cmpE (bdE d l lo hi y).1 (Fr.of (c - 1))).2 = 0) && decide (0 < (cmpE (bdE d l lo hi y).1 (Fr.of (c - 1))).1)))
set_option maxHeartbeats 2000000 in
theorem proves_pf (d : List Int) (l : List Sft) (lo hi : List Int) (y : List Fr) (c : Int) (hv : zce d l = true) (hlo : lo.length = l.length) (hhi : hi.length = l.length) (hc1 : 0 ≤ c) (hc2 : c ≤ 1000000) : Pure P 35 [eL eI d, eL eSh l, eBx lo hi, eL eF y, eI c] (eB (prvB d l lo hi y c)) := by
 have hcb := containsFF_pf (P := P) 51 [] badM y lo_F (.fn _ _ xo) (fun a _ => proves1_pf a)
 have HI : prvB d l lo hi y c = (mulB d y && ((bdE d l lo hi y).2 && (decide ((cmpE (bdE d l lo hi y).1 (Fr.of (c - 1))).2 = 0) && decide (0 < (cmpE (bdE d l lo hi y).1 (Fr.of (c - 1))).1)))) := rfl
 generalize prvB d l lo hi y c = R at HI ⊢
 have hm : mulB d y = (decide (y.length = d.length) && !(y.any badM)) := rfl
 generalize y.any badM = z at hcb hm
 generalize mulB d y = zm at hm HI
 refine zcl (by rw [IsP.eq (P := P)]; exact Tryz.func35) rfl rfl rfl rfl rfl xa (.s _) (by simp only [argF]; rfl) ?_
 refine zag ?_
 refine zda (d := 0) rfl (fun hm1 => ?_)
 refine zda (d := 3) rfl (fun hm2 => ?_)
 unfold maxLen at hm1 hm2
 refine zab (zaf rfl rfl (zaa rfl) (zb3 rfl rfl rfl rfl) ?_)
 refine za6 (zbm (id := 0) rfl) (za6 (zcb (d := 7) rfl rfl rfl) ?_)
 refine zac rfl (zad (zag (zag (zab (zac rfl (zaf rfl rfl (zaa rfl) (zao rfl ts30 rfl) (zac rfl (zaf rfl rfl (zaa rfl) (zao rfl ts22 rfl) ?_))))))))
 refine za3 rfl rfl (zaa rfl) (zbp rfl rfl rfl) (fun h19 => ?_) (fun h19 => ?_)
 all_goals refine zac rfl ?_
 all_goals (first | refine zac rfl ?_ | refine za4 rfl ?_)
 all_goals (first | refine zcn rfl rfl (zat rfl rfl rfl) (zam rfl rfl (hcb) (zae rfl (zae rfl zap))) (fun h22 => ?_) (fun h22 => ?_) | refine za4 rfl ?_)
 all_goals refine zac rfl (zad (zai ?_))
 all_goals (first | refine za5 rfl ?_ | refine zau rfl ?_)
 all_goals (repeat (first | refine zag ?_ | refine zar ?_))
 all_goals first
  |
   refine zab (zac rfl (zad (zai ?_)))
   (refine za7 ?_; repeat (first | refine zbc ?_ | refine zbe ?_))
   exact zb6 (.inr rfl) rfl (congrArg eB (by
    rw [HI, hm]
    first
    | (rw [h22, Bool.not_true, Bool.and_false]; rfl)
    | (rw [decide_eq_false xd]; rfl)))
  | skip
 have hyl : y.length = d.length := by omega
 have hzm : zm = true := by rw [hm, h22, decide_eq_true hyl]; rfl
 rw [hzm, Bool.true_and] at HI
 have hbd := bound_pf (P := P) d l lo hi y hv hyl hlo hhi
 generalize bdE d l lo hi y = b at HI hbd
 obtain ⟨bf, bz⟩ := b
 replace hbd : Pure P 53 [eL eI d, eL eSh l, eBx lo hi, eL eF y] (.tup [eF bf, eB bz]) := hbd
 dsimp only at HI
 cases bz with
 | false =>
  refine zab (zac rfl (zac rfl (zcx ta60 ti60 rfl (zac rfl (zaf rfl rfl (zaa rfl) (zam rfl rfl (hbd) (zae rfl (zae rfl (zae rfl (zae rfl zap))))) (zac rfl (zac rfl (zac rfl (zaf rfl rfl (zaa rfl) (za1 rfl ti45 rfl rfl) (zba rfl (zaa rfl) (zaj rfl ti45 rfl rfl rfl rfl rfl rfl xf xf) (zac rfl (zad (zag (zag (zab (zac rfl (zaf rfl rfl (zaa rfl) (zbj rfl rfl) (zad (zai (za5 rfl (zag (zab (zac rfl (zad (zai ?_)))))))))))))))))))))))))
  (refine za7 ?_; repeat (first | refine zbc ?_ | refine zbe ?_))
  exact zb6 (.inr rfl) rfl (congrArg eB (by rw [HI]; rfl))
 | true =>
  rw [Bool.true_and] at HI
  have hcm := fCmp_pf (P := P) bf (Fr.of (c - 1))
  generalize cmpE bf (Fr.of (c - 1)) = cm at HI hcm
  refine zab (zac rfl (zac rfl (zcx ta60 ti60 rfl (zac rfl (zaf rfl rfl (zaa rfl) (zam rfl rfl (hbd) (zae rfl (zae rfl (zae rfl (zae rfl zap))))) (zac rfl (zac rfl (zac rfl (zaf rfl rfl (zaa rfl) (za1 rfl ti45 rfl rfl) (zba rfl (zaa rfl) (zaj rfl ti45 rfl rfl rfl rfl rfl rfl xf xf) (zac rfl (zad (zag (zag (zab (zac rfl (zaf rfl rfl (zaa rfl) (zbj rfl rfl) (zad (zai (zau rfl (zar (zag ?_))))))))))))))))))))))
  refine zb2 hmix ?_
  refine zbx xi ?_
  refine zby rfl rfl (zaa rfl) (za8 rfl ta45 ti45 rfl rfl rfl rfl rfl) (qx_s rfl (zby rfl rfl (zaa rfl) (zdx rfl rfl rfl (IntWalk.i64_in _ xd)) (zby rfl rfl (zaa rfl) (zam rfl rfl ((whole_pf _)) (zae rfl zap)) (zby rfl rfl (zaa rfl) (zam rfl rfl (hcm) (zae rfl (zae rfl zap))) (qx_s rfl (qx_s rfl (qx_s rfl (qx_s rfl (qx_s rfl ?_)))))))))
  refine zdg ?_
  refine zag (zab (zac rfl ?_))
  refine za3 rfl rfl (zaa rfl) (zbn rfl rfl rfl) (fun h43 => ?_) (fun h43 => ?_)
  all_goals refine zac rfl ?_
  all_goals (first | refine zac rfl ?_ | refine za4 rfl ?_)
  all_goals (first | refine za3 rfl rfl (zat rfl rfl rfl) (zb0 rfl rfl rfl) (fun h46 => ?_) (fun h46 => ?_) | refine za4 rfl ?_)
  all_goals refine zac rfl (zac rfl (zad (zai (za7 ?_))))
  all_goals exact zb6 (.inr rfl) rfl (congrArg eB (by
   rw [HI]
   first
   | (rw [decide_eq_false (show ¬ (cm.2 = 0) by omega)]; rfl)
   | (rw [decide_eq_true (show cm.2 = 0 by omega), decide_eq_true (show 0 < cm.1 by omega)]; rfl)
   | (rw [decide_eq_true (show cm.2 = 0 by omega), decide_eq_false (show ¬ (0 < cm.1) by omega)]; rfl)))
end Go.Proofs.YtllkbjcemecmjaaGreat.Aw
end
section
namespace Go.Proofs.YtllkbjcemecmjaaGreat.Aw
open Go.RowKit Go.Proofs
variable {P : Program} [IsP P]
inductive Br where
 | mk (s t : Int) (l : List Br) (y : List Fr)
instance : Inhabited Br := ⟨.mk 0 0 [] []⟩
mutual
def eBr : Br → AV
 | .mk s t l y => .agg [eI s, eI t, .sl (eBrs l), eL eF y]
def eBrs : List Br → List AV
 | [] => []
 | b :: l => eBr b :: eBrs l
end
theorem eBrs_map : ∀ l : List Br, eBrs l = l.map eBr
 | [] => by simp [eBrs]
 | b :: l => by simp [eBrs, eBrs_map l]
theorem zdk (s t : Int) (l : List Br) (y : List Fr) : eBr (.mk s t l y) = .agg [eI s, eI t, eL eBr l, eL eF y] := by
 rw [eBr, eBrs_map]; rfl
mutual
theorem lo_Br : ∀ b : Br, Lo 0 (eBr b)
 | .mk s t l y => by
  rw [eBr]
  exact .agg _ (zah (.s _) (zah (.s _) (zah (.sl _ (lo_Brs l)) (zah (lo_Fs y) zak))))
theorem lo_Brs : ∀ l : List Br, ∀ c ∈ eBrs l, Lo 0 c
 | [], c, h => by simp [eBrs] at h
 | b :: l, c, h => by
  rw [eBrs] at h
  rcases List.mem_cons.1 h with e | h
  ·
   rw [e]; exact lo_Br b
  ·
   exact lo_Brs l c h
end
def rgtE (d : List Int) (l : List Sft) (c : Int) : Br → List Int → List Int → Int → Bool × Int
 | .mk s t [] y, lo, hi, n => if n ≤ 0 then (false, 0) else (decide (s = 0) && (decide (t = 0) && prvB d l lo hi y c), n - 1)
 | .mk s t [a, b] y, lo, hi, n => if n ≤ 0 then (false, 0) else if ¬ (y.length = 0 ∧ 0 ≤ s ∧ s < (l.length : Int) ∧ gti lo s.toNat ≤ t ∧ t < gti hi s.toNat) then (false, n - 1) else if (rgtE d l c a lo (setI hi s.toNat t) (n - 1)).1 = false then (false, (rgtE d l c a lo (setI hi s.toNat t) (n - 1)).2) else rgtE d l c b (setI lo s.toNat (t + 1)) hi (rgtE d l c a lo (setI hi s.toNat t) (n - 1)).2
 | .mk s t (_ :: []) y, lo, hi, n => if n ≤ 0 then (false, 0) else (false, n - 1)
 | .mk s t (_ :: _ :: _ :: _) y, lo, hi, n => if n ≤ 0 then (false, 0) else (false, n - 1)
theorem rgtE_bd (d : List Int) (l : List Sft) (c : Int) : ∀ (b : Br) (lo hi : List Int) (n : Int), 0 ≤ n → 0 ≤ (rgtE d l c b lo hi n).2 ∧ (rgtE d l c b lo hi n).2 ≤ n
 | .mk s t [] y, lo, hi, n, h => by
  rw [rgtE]; split
  ·
   exact ⟨Int.le_refl _, h⟩
  ·
   dsimp only; omega
 | .mk s t [a, b] y, lo, hi, n, h => by
  rw [rgtE]; split
  ·
   exact ⟨Int.le_refl _, h⟩
  ·
   split
   ·
    dsimp only; omega
   ·
    have h1 := rgtE_bd d l c a lo (setI hi s.toNat t) (n - 1) xd
    split
    ·
     dsimp only; omega
    ·
     have h2 := rgtE_bd d l c b (setI lo s.toNat (t + 1)) hi _ h1.1
     omega
 | .mk s t (_ :: []) y, lo, hi, n, h => by
  rw [rgtE]; split
  ·
   exact ⟨Int.le_refl _, h⟩
  ·
   dsimp only; omega
 | .mk s t (_ :: _ :: _ :: _) y, lo, hi, n, h => by
  rw [rgtE]; split
  ·
   exact ⟨Int.le_refl _, h⟩
  ·
   dsimp only; omega
structure BX (l : List Sft) (lo hi : List Int) : Prop where
 l1 : lo.length = l.length
 l2 : hi.length = l.length
 b1 : ∀ k, k < l.length → 0 ≤ gti lo k ∧ gti lo k ≤ 20
 b2 : ∀ k, k < l.length → 0 ≤ gti hi k ∧ gti hi k ≤ 20
theorem setI_len (l : List Int) (k : Nat) (x : Int) : (setI l k x).length = l.length := by simp [setI]
theorem setI_gti {l : List Int} {k : Nat} {x : Int} (h : k < l.length) (j : Nat) : gti (setI l k x) j = if j = k then x else gti l j := by
 unfold gti setI
 rw [List.getElem?_set]
 by_cases e : j = k
 ·
  subst e; rw [if_pos rfl, if_pos rfl, if_pos h]; rfl
 ·
  rw [if_neg (Ne.symm e), if_neg e]
theorem BX.hi {l : List Sft} {lo hi : List Int} (h : BX l lo hi) {k : Nat} {t : Int} (hk : k < l.length) (h1 : 0 ≤ t) (h2 : t ≤ 20) : BX l lo (setI hi k t) :=
 ⟨h.l1, by rw [setI_len]; exact h.l2, h.b1, fun j hj => by rw [setI_gti (by rw [h.l2]; exact hk)]; split <;> first | exact ⟨h1, h2⟩ | exact h.b2 j hj⟩
theorem BX.lo {l : List Sft} {lo hi : List Int} (h : BX l lo hi) {k : Nat} {t : Int} (hk : k < l.length) (h1 : 0 ≤ t) (h2 : t ≤ 20) : BX l (setI lo k t) hi :=
 ⟨by rw [setI_len]; exact h.l1, h.l2, fun j hj => by rw [setI_gti (by rw [h.l1]; exact hk)]; split <;> first | exact ⟨h1, h2⟩ | exact h.b1 j hj, h.b2⟩
def zcv (n : Nat) : List Int := List.replicate n 0
theorem first_box {d : List Int} {l : List Sft} (hv : zce d l = true) : BX l (zcv l.length) (zcs l) := by
 obtain ⟨⟨_, _, q3⟩, _, ql⟩ := zb4 hv
 refine ⟨by simp [zcv], mostL_len l, fun k hk => ?_, fun k hk => ?_⟩
 ·
  unfold zcv gti
  rw [List.getElem?_replicate, if_pos hk]
  exact ⟨Int.le_refl _, by decide⟩
 ·
  rw [mostL_gti hk]; have := (ql k hk).1; omega
set_option maxHeartbeats 1000000 in
theorem first_pf (l : List Sft) (hl : l.length ≤ 12) : Pure P 21 [eL eSh l] (eBx (zcv l.length) (zcs l)) := by
 have hz : List.replicate l.length (eI 0) = (zcv l.length).map eI := by simp [zcv]
 refine zcl (by rw [IsP.eq (P := P)]; exact Tryz.func21) rfl rfl rfl rfl rfl xa xa (by simp only [argF]; rfl) ?_
 refine zag (zab (zaf rfl rfl (zaa rfl) (za1 rfl ti60 rfl rfl) (zad (zag ?_))))
 refine zb2 hmix ?_
 refine zc1 ?_
 refine ex_s rfl (zay rfl rfl (zaa rfl) (fun _ => (zao rfl ts23 rfl)) ?_)
 refine zc9 rfl rfl (zaa rfl) (does_make rfl ts22 ti3 rfl rfl xf rfl rfl rfl rfl xd xd xd) (fun _ h => zdo h) ?_
 refine ex_s rfl (zay rfl rfl (zaa rfl) (fun _ => (zam rfl rfl ((most_pf l hl)) (zae rfl zap))) (zay rfl rfl (zaa rfl) (fun _ => (za9 rfl ti60 tp60 rfl rfl)) ?_))
 refine zci rfl (zaa rfl) (zaj rfl ti60 rfl rfl rfl rfl rfl rfl xf xf) (fun _ h => zbw h) ?_
 refine zcf xi ?_
 refine zai ?_
 (refine za7 ?_; repeat (first | refine zbc ?_ | refine zbe ?_))
 refine post_c1 (N := 0) (.inr rfl) ta60 ti60 rfl rfl rfl rfl rfl ?_
 refine .agg _ _ rfl (zbd.cons ?_ (zbd.cons (.refl _) zbd.nil)).2
 unfold eL
 rw [← hz]
 exact .own _ _ _ _ _ rfl rfl xo
def eBI (r : Bool × Int) : AV := .tup [eB r.1, eI r.2]
theorem post_bi {N : Nat} {F : Frm} {σ : List Ob} {t u : Nat} {r : Bool × Int} {b : Bool} {n : Int} {e : Exit} (he : e = .normal ∨ e = .ret) (h : F.get t = eB b) (h' : F.get u = eI n) (hr : r = (b, n)) : APost P [.tmp t, .tmp u] (eBI r) e F σ := by
 subst hr
 exact post2 he h h' (.refl _) (.refl _)
theorem rgt_0 {d : List Int} {l : List Sft} {c s t : Int} {L : List Br} {y : List Fr} {lo hi : List Int} {n : Int} (h : n ≤ 0) : rgtE d l c (.mk s t L y) lo hi n = (false, 0) := by
 match L with
 | [] => rw [rgtE, if_pos h]
 | [_] => rw [rgtE, if_pos h]
 | [_, _] => rw [rgtE, if_pos h]
 | _ :: _ :: _ :: _ => rw [rgtE, if_pos h]
theorem rgt_leaf {d : List Int} {l : List Sft} {c s t : Int} {L : List Br} {y : List Fr} {lo hi : List Int} {n : Int} (h : ¬ n ≤ 0) (hL : L.length = 0) : rgtE d l c (.mk s t L y) lo hi n = (decide (s = 0) && (decide (t = 0) && prvB d l lo hi y c), n - 1) := by
 match L, hL with
 | [], _ => rw [rgtE, if_neg h]
theorem rgt_bad {d : List Int} {l : List Sft} {c s t : Int} {L : List Br} {y : List Fr} {lo hi : List Int} {n : Int} (h : ¬ n ≤ 0) (hL : L.length ≠ 0) (hb : ¬ (L.length = 2 ∧ y.length = 0 ∧ 0 ≤ s ∧ s < (l.length : Int) ∧ gti lo s.toNat ≤ t ∧ t < gti hi s.toNat)) : rgtE d l c (.mk s t L y) lo hi n = (false, n - 1) := by
 match L, hL, hb with
 | [_], _, _ => rw [rgtE, if_neg h]
 | [_, _], _, hb => rw [rgtE, if_neg h, if_pos (fun g => hb ⟨rfl, g⟩)]
 | _ :: _ :: _ :: _, _, _ => rw [rgtE, if_neg h]
theorem rgt_two {d : List Int} {l : List Sft} {c s t : Int} {a b : Br} {y : List Fr} {lo hi : List Int} {n : Int} (h : ¬ n ≤ 0) (hb : y.length = 0 ∧ 0 ≤ s ∧ s < (l.length : Int) ∧ gti lo s.toNat ≤ t ∧ t < gti hi s.toNat) : rgtE d l c (.mk s t [a, b] y) lo hi n = if (rgtE d l c a lo (setI hi s.toNat t) (n - 1)).1 = false then (false, (rgtE d l c a lo (setI hi s.toNat t) (n - 1)).2) else rgtE d l c b (setI lo s.toNat (t + 1)) hi (rgtE d l c a lo (setI hi s.toNat t) (n - 1)).2 := by
 rw [rgtE, if_neg h, if_neg (fun g => g hb)]
theorem two_of {L : List Br} (h : L.length = 2) : ∃ a b, L = [a, b] := by
 match L, h with
 | [a, b], _ => exact ⟨a, b, rfl⟩
set_option maxHeartbeats 8000000 in
theorem right_n (d : List Int) (l : List Sft) (c : Int) (hv : zce d l = true) (hc1 : 0 ≤ c) (hc2 : c ≤ 1000000) : ∀ (m : Nat) (b : Br) (lo hi : List Int) (n : Int), SizeOf.sizeOf b < m → BX l lo hi → 0 ≤ n → n ≤ 20000 → Pure P 29 [eL eI d, eL eSh l, eBx lo hi, eBr b, eI c, eI n] (eBI (rgtE d l c b lo hi n)) := by
 intro m
 induction m
 ·
  intro b lo hi n h; omega
 rename_i m IH0
 intro b lo hi n hsz hb hn1 hn2
 obtain ⟨s, t, L, y⟩ := b
 have IH : ∀ b', b' ∈ L → ∀ (lo hi : List Int) (n : Int), BX l lo hi → 0 ≤ n → n ≤ 20000 → Pure P 29 [eL eI d, eL eSh l, eBx lo hi, eBr b', eI c, eI n] (eBI (rgtE d l c b' lo hi n)) := fun b' hb' lo hi n h1 h2 h3 => IH0 b' lo hi n (by have := List.sizeOf_lt_of_mem hb'; simp at hsz; omega) h1 h2 h3
 clear IH0 hsz
 obtain ⟨⟨q1, q2, q3⟩, qd, ql⟩ := zb4 hv
 obtain ⟨z1, z2, z3, z4⟩ := hb
 obtain ⟨R, HR⟩ : ∃ R, R = rgtE d l c (.mk s t L y) lo hi n := ⟨_, rfl⟩
 rw [← HR]
 have hlo : ∀ x ∈ [eL eI d, eL eSh l, eBx lo hi, eBr (.mk s t L y), eI c, eI n], Lo 0 x := zah (zan fun _ => .s _) (zah (zan lo_Sh) (zah xa (zah (lo_Br _) (zah (.s _) (zah (.s _) zak)))))
 have hloR : Lo 0 (eBI R) := (.tup _ (zah (.s _) (zah (.s _) zak)))
 rw [zdk] at hlo ⊢
 refine zcl (by rw [IsP.eq (P := P)]; exact Tryz.func29) rfl rfl rfl rfl rfl hlo hloR (by simp only [argF]; rfl) ?_
 refine zag ?_
 refine zda (d := 1) rfl (fun hm1 => ?_)
 unfold maxLen at hm1
 refine zab (zaf rfl rfl (zaa rfl) (zb3 rfl rfl rfl rfl) ?_)
 refine za6 (zbm (id := 0) rfl) (za6 (zcb (d := 8) rfl rfl rfl) ?_)
 refine zaf rfl rfl (zaa rfl) (zb3 rfl rfl rfl rfl) ?_
 refine za6 (zbm (id := 1) rfl) (za6 (zcb (d := 9) rfl rfl rfl) ?_)
 refine zac rfl (zac rfl (zad (zag (zag (zab (zac rfl ?_))))))
 refine za3 rfl rfl (zaa rfl) (does_leq rfl rfl rfl) (fun h18 => ?_) (fun h18 => ?_)
 all_goals refine zad (zai ?_)
 all_goals (first | refine za5 rfl ?_ | refine zau rfl ?_)
 all_goals (repeat (first | refine zag ?_ | refine zar ?_))
 ·
  rw [rgt_0 xd] at HR
  refine zab (zac rfl (zac rfl (zad (zai ?_))))
  (refine za7 ?_; repeat (first | refine zbc ?_ | refine zbe ?_))
  exact post_bi (N := 0) (.inr rfl) rfl rfl HR
 have hn0 : ¬ n ≤ 0 := by omega
 refine zab (zac rfl (zaf rfl rfl (zaa rfl) (zdx rfl rfl rfl (IntWalk.i64_in _ xd)) (zac rfl (zad (zag (zag (zab (zbz tf32_2 rfl (zbu ta29 rfl (zaf rfl rfl (zaa rfl) (zao rfl ts29 rfl) (zaf rfl rfl (zaa rfl) (zbn rfl rfl rfl) (zad (zai ?_)))))))))))))
 refine zda (d := 22) rfl (fun hm2 => ?_)
 unfold maxLen at hm2
 refine aw_if rfl (fun h => ?_) (fun h => ?_)
 ·
  refine zag ?_
  rw [rgt_leaf hn0 xd] at HR
  have hpr := proves_pf (P := P) d l lo hi y c hv z1 z2 hc1 hc2
  generalize prvB d l lo hi y c = zp at HR hpr
  refine zab (zbz tf32_0 rfl (zbu ta3 rfl ?_))
  refine za3 rfl rfl (zaa rfl) (zbn rfl rfl rfl) (fun h27 => ?_) (fun h27 => ?_)
  all_goals refine zac rfl ?_
  all_goals (first | refine zbz tf32_1 rfl ?_ | refine za4 rfl ?_)
  all_goals (first | refine zbu ta3 rfl ?_ | refine za4 rfl ?_)
  all_goals (first | refine za3 rfl rfl (zat rfl rfl rfl) (zbn rfl rfl rfl) (fun h31 => ?_) (fun h31 => ?_) | refine za4 rfl ?_)
  all_goals refine zac rfl (zac rfl ?_)
  all_goals (first | refine zac rfl ?_ | refine za4 rfl ?_)
  all_goals (first | refine zac rfl ?_ | refine za4 rfl ?_)
  all_goals (first | refine zcx ta60 ti60 rfl ?_ | refine za4 rfl ?_)
  all_goals (first | refine zbz tf32_3 rfl ?_ | refine za4 rfl ?_)
  all_goals (first | refine zbu ta30 rfl ?_ | refine za4 rfl ?_)
  all_goals (first | refine zac rfl ?_ | refine za4 rfl ?_)
  all_goals (first | refine zcn rfl rfl (zat rfl rfl rfl) (zam rfl rfl (hpr) (zae rfl (zae rfl (zae rfl (zae rfl (zae rfl zap)))))) (fun h40 => ?_) (fun h40 => ?_) | refine za4 rfl ?_)
  all_goals refine zac rfl (zac rfl (zac rfl (zac rfl (zad (zai (za7 (zbc ?_)))))))
  all_goals exact post_bi (N := 0) (.inr rfl) rfl rfl (by
   rw [HR]
   first
   | (rw [decide_eq_false (show ¬ (s = 0) by omega)]; rfl)
   | (rw [decide_eq_true (show s = 0 by omega), decide_eq_false (show ¬ (t = 0) by omega)]; rfl)
   | (rw [decide_eq_true (show s = 0 by omega), decide_eq_true (show t = 0 by omega), h40]; rfl))
 have hL0 : L.length ≠ 0 := by omega
 refine zar (zag (zag ?_))
 refine zda (d := 22) rfl (fun hm4 => ?_)
 refine zb2 hmix ?_
 refine zbx xi ?_
 refine qx_f tf32_2 rfl (qx_l ta29 rfl (zby rfl rfl (zaa rfl) (zao rfl ts29 rfl) ?_))
 refine qx_opP rfl rfl (zaa rfl) (zbp rfl rfl rfl) (fun h46 => ?_) (fun h46 => ?_)
 all_goals refine qx_s rfl ?_
 all_goals (first | refine qx_f tf32_3 rfl ?_ | refine qx_z rfl ?_)
 all_goals (first | refine qx_l ta30 rfl ?_ | refine qx_z rfl ?_)
 all_goals (first | refine zby rfl rfl (zat rfl rfl rfl) (zao rfl ts30 rfl) ?_ | refine qx_z rfl ?_)
 all_goals (first | refine qx_opP rfl rfl (zat rfl rfl rfl) (zb0 rfl rfl rfl) (fun h51 => ?_) (fun h51 => ?_) | refine qx_z rfl ?_)
 all_goals refine qx_s rfl (qx_s rfl ?_)
 all_goals (first | refine qx_f tf32_0 rfl ?_ | refine qx_z rfl ?_)
 all_goals (first | refine qx_l ta3 rfl ?_ | refine qx_z rfl ?_)
 all_goals (first | refine qx_opP rfl rfl (zat rfl rfl rfl) (za2 rfl rfl rfl) (fun h56 => ?_) (fun h56 => ?_) | refine qx_z rfl ?_)
 all_goals refine qx_s rfl (qx_s rfl ?_)
 all_goals (first | refine qx_f tf32_0 rfl ?_ | refine qx_z rfl ?_)
 all_goals (first | refine qx_l ta3 rfl ?_ | refine qx_z rfl ?_)
 all_goals (first | refine qx_s rfl ?_ | refine qx_z rfl ?_)
 all_goals (first | refine zby rfl rfl (zat rfl rfl rfl) (zao rfl ts23 rfl) ?_ | refine qx_z rfl ?_)
 all_goals (first | refine qx_opP rfl rfl (zat rfl rfl rfl) (zcp rfl rfl rfl) (fun h63 => ?_) (fun h63 => ?_) | refine qx_z rfl ?_)
 all_goals refine qx_s rfl (qx_s rfl ?_)
 all_goals (first | refine qx_f tf32_1 rfl ?_ | refine qx_z rfl ?_)
 all_goals (first | refine qx_l ta3 rfl ?_ | refine qx_z rfl ?_)
 all_goals (first | refine qx_f tf60_0 rfl ?_ | refine qx_z rfl ?_)
 all_goals (first | refine qx_l ta22 rfl ?_ | refine qx_z rfl ?_)
 all_goals (first | refine qx_f tf32_0 rfl ?_ | refine qx_z rfl ?_)
 all_goals (first | refine qx_l ta3 rfl ?_ | refine qx_z rfl ?_)
 all_goals (first | refine zby rfl rfl (zat rfl rfl rfl) (zal rfl ts22 ti3 rfl rfl (by omega) (zbb (k := s.toNat) (by omega)) rfl) ?_ | refine qx_z rfl ?_)
 all_goals (first | refine qx_l ta3 rfl ?_ | refine qx_z rfl ?_)
 all_goals (first | refine qx_opP rfl rfl (zat rfl rfl rfl) (za2 rfl rfl rfl) (fun h74 => ?_) (fun h74 => ?_) | refine qx_z rfl ?_)
 all_goals refine qx_s rfl (qx_s rfl ?_)
 all_goals (first | refine qx_f tf32_1 rfl ?_ | refine qx_z rfl ?_)
 all_goals (first | refine qx_l ta3 rfl ?_ | refine qx_z rfl ?_)
 all_goals (first | refine qx_f tf60_1 rfl ?_ | refine qx_z rfl ?_)
 all_goals (first | refine qx_l ta22 rfl ?_ | refine qx_z rfl ?_)
 all_goals (first | refine qx_f tf32_0 rfl ?_ | refine qx_z rfl ?_)
 all_goals (first | refine qx_l ta3 rfl ?_ | refine qx_z rfl ?_)
 all_goals (first | refine zby rfl rfl (zat rfl rfl rfl) (zal rfl ts22 ti3 rfl rfl (by omega) (zbb (k := s.toNat) (by omega)) rfl) ?_ | refine qx_z rfl ?_)
 all_goals (first | refine qx_l ta3 rfl ?_ | refine qx_z rfl ?_)
 all_goals (first | refine qx_opP rfl rfl (zat rfl rfl rfl) (zcp rfl rfl rfl) (fun h85 => ?_) (fun h85 => ?_) | refine qx_z rfl ?_)
 all_goals refine qx_s rfl ?_
 all_goals refine zdg ?_
 all_goals refine zai ?_
 all_goals (first | refine za5 rfl ?_ | refine zau rfl ?_)
 all_goals (repeat (first | refine zag ?_ | refine zar ?_))
 all_goals first
  |
   rw [rgt_bad hn0 hL0 xd] at HR
   refine zab (zac rfl (zac rfl (zac rfl (zad (zai ?_)))))
   (refine za7 ?_; repeat (first | refine zbc ?_ | refine zbe ?_))
   exact post_bi (N := 0) (.inr rfl) rfl rfl HR
  | skip
 have hs : s = (s.toNat : Int) := by omega
 have hsl : s.toNat < l.length := by omega
 have b1 := z3 s.toNat hsl
 have b2 := z4 s.toNat hsl
 obtain ⟨a, b, hab⟩ := two_of (L := L) xd
 subst hab
 rw [rgt_two hn0 ⟨by omega, by omega, by omega, by omega, by omega⟩] at HR
 have hbx : BX l lo hi := ⟨z1, z2, z3, z4⟩
 have hhv := halves_pf (P := P) lo hi s.toNat t xd xd xd xd xd
 rw [← hs] at hhv
 have r1 := IH a xo lo (setI hi s.toNat t) (n - 1) (hbx.hi hsl xd xd) xd xd
 have r1b := rgtE_bd d l c a lo (setI hi s.toNat t) (n - 1) xd
 generalize rgtE d l c a lo (setI hi s.toNat t) (n - 1) = x at HR r1 r1b
 have r2 := IH b xo (setI lo s.toNat (t + 1)) hi x.2 (hbx.lo hsl xd xd) r1b.1 xd
 obtain ⟨xz, xn⟩ := x
 replace r1 : Pure P 29 [eL eI d, eL eSh l, eBx lo (setI hi s.toNat t), eBr a, eI c, eI (n - 1)] (.tup [eB xz, eI xn]) := r1
 dsimp only at HR r2
 generalize rgtE d l c b (setI lo s.toNat (t + 1)) hi xn = x2 at HR r2
 obtain ⟨yz, yn⟩ := x2
 replace r2 : Pure P 29 [eL eI d, eL eSh l, eBx (setI lo s.toNat (t + 1)) hi, eBr b, eI c, eI xn] (.tup [eB yz, eI yn]) := r2
 obtain ⟨sa, ta, La, ya⟩ := a
 obtain ⟨sb, tb, Lb, yb⟩ := b
 have hixa : (List.map eBr [.mk sa ta La ya, .mk sb tb Lb yb])[0]? = some (.agg [eI sa, eI ta, eL eBr La, eL eF ya]) := by rw [← zdk]; rfl
 have hixb : (List.map eBr [.mk sa ta La ya, .mk sb tb Lb yb])[1]? = some (.agg [eI sb, eI tb, eL eBr Lb, eL eF yb]) := by rw [← zdk]; rfl
 rw [zdk] at r1 r2
 cases xz with
 | false =>
  rw [if_pos rfl] at HR
  refine zab (zcx ta60 ti60 rfl (zbz tf32_0 rfl (zbu ta3 rfl (zbz tf32_1 rfl (zbu ta3 rfl (zaf rfl rfl (zaa rfl) (zam rfl rfl (hhv) (zae rfl (zae rfl (zae rfl zap)))) (zac rfl (zac rfl (zac rfl (zaf rfl rfl (zaa rfl) (za1 rfl ti60 rfl rfl) (zaf rfl rfl (zaa rfl) (za1 rfl ti60 rfl rfl) (zba rfl (zaa rfl) (zaj rfl ti60 rfl rfl rfl rfl rfl rfl xf xf) (zba rfl (zaa rfl) (zaj rfl ti60 rfl rfl rfl rfl rfl rfl xf xf) (zad (zag ?_)))))))))))))))
  refine zbg (zbm (id := 2) rfl) ?_
  refine zbg (zcb (d := 14) rfl rfl rfl) ?_
  refine zbg (zbm (id := 3) rfl) ?_
  refine zbg (zcb (d := 15) rfl rfl rfl) ?_
  refine zb2 hmix ?_
  refine zc1 ?_
  refine ex_s rfl (ex_s rfl (ex_w ta60 ti60 rfl (ex_f tf32_2 rfl (ex_l ta29 rfl (zay rfl rfl (zaa rfl) (fun _ => (zal rfl ts29 ti32 rfl rfl (show (0 : Int) = ((0 : Nat) : Int) from rfl) hixa rfl)) (ex_w ta32 ti32 rfl (ex_s rfl (ex_s rfl (zay rfl rfl (zaa rfl) (fun _ => (zam rfl rfl (r1) (zae rfl (zae rfl (zae rfl (zae rfl (zae rfl (zae rfl zap)))))))) (ex_s rfl (ex_s rfl (ex_s rfl (ex_s rfl (ex_s rfl ?_))))))))))))))
  refine zcf xi ?_
  refine zag (zag (zab (zac rfl (zaf rfl rfl (zaa rfl) (zbj rfl rfl) (zad (zai (za5 rfl (zag (zab (zac rfl (zac rfl (zac rfl (zad (zai ?_))))))))))))))
  (refine za7 ?_; repeat (first | refine zbc ?_ | refine zbe ?_))
  exact post_bi (N := 0) (.inr rfl) rfl rfl HR
 | true =>
  rw [if_neg xo] at HR
  refine zab (zcx ta60 ti60 rfl (zbz tf32_0 rfl (zbu ta3 rfl (zbz tf32_1 rfl (zbu ta3 rfl (zaf rfl rfl (zaa rfl) (zam rfl rfl (hhv) (zae rfl (zae rfl (zae rfl zap)))) (zac rfl (zac rfl (zac rfl (zaf rfl rfl (zaa rfl) (za1 rfl ti60 rfl rfl) (zaf rfl rfl (zaa rfl) (za1 rfl ti60 rfl rfl) (zba rfl (zaa rfl) (zaj rfl ti60 rfl rfl rfl rfl rfl rfl xf xf) (zba rfl (zaa rfl) (zaj rfl ti60 rfl rfl rfl rfl rfl rfl xf xf) (zad (zag ?_)))))))))))))))
  refine zbg (zbm (id := 2) rfl) ?_
  refine zbg (zcb (d := 14) rfl rfl rfl) ?_
  refine zbg (zbm (id := 3) rfl) ?_
  refine zbg (zcb (d := 15) rfl rfl rfl) ?_
  refine zb2 hmix ?_
  refine zc1 ?_
  refine ex_s rfl (ex_s rfl (ex_w ta60 ti60 rfl (ex_f tf32_2 rfl (ex_l ta29 rfl (zay rfl rfl (zaa rfl) (fun _ => (zal rfl ts29 ti32 rfl rfl (show (0 : Int) = ((0 : Nat) : Int) from rfl) hixa rfl)) (ex_w ta32 ti32 rfl (ex_s rfl (ex_s rfl (zay rfl rfl (zaa rfl) (fun _ => (zam rfl rfl (r1) (zae rfl (zae rfl (zae rfl (zae rfl (zae rfl (zae rfl zap)))))))) (ex_s rfl (ex_s rfl (ex_s rfl (ex_s rfl (ex_s rfl ?_))))))))))))))
  refine zcf xi ?_
  refine zag (zag (zab (zac rfl (zaf rfl rfl (zaa rfl) (zbj rfl rfl) (zad (zai (zau rfl (zar (zag ?_)))))))))
  refine zb2 hmix ?_
  refine zc1 ?_
  refine ex_s rfl (ex_s rfl (ex_w ta60 ti60 rfl (ex_f tf32_2 rfl (ex_l ta29 rfl (zay rfl rfl (zaa rfl) (fun _ => (zal rfl ts29 ti32 rfl rfl (show (1 : Int) = ((1 : Nat) : Int) from rfl) hixb rfl)) (ex_w ta32 ti32 rfl (ex_s rfl (ex_s rfl (zay rfl rfl (zaa rfl) (fun _ => (zam rfl rfl (r2) (zae rfl (zae rfl (zae rfl (zae rfl (zae rfl (zae rfl zap)))))))) (ex_s rfl (ex_s rfl (ex_s rfl (ex_s rfl ?_)))))))))))))
  refine zcf xi ?_
  refine zai ?_
  (refine za7 ?_; repeat (first | refine zbc ?_ | refine zbe ?_))
  exact post_bi (N := 0) (.inr rfl) rfl rfl HR
theorem right_pf (d : List Int) (l : List Sft) (c : Int) (hv : zce d l = true) (hc1 : 0 ≤ c) (hc2 : c ≤ 1000000) (b : Br) (lo hi : List Int) (n : Int) (hb : BX l lo hi) (h1 : 0 ≤ n) (h2 : n ≤ 20000) : Pure P 29 [eL eI d, eL eSh l, eBx lo hi, eBr b, eI c, eI n] (eBI (rgtE d l c b lo hi n)) :=
 right_n d l c hv hc1 hc2 (SizeOf.sizeOf b + 1) b lo hi n (Nat.lt_succ_self _) hb h1 h2
end Go.Proofs.YtllkbjcemecmjaaGreat.Aw
end
section
namespace Go.Proofs.YtllkbjcemecmjaaGreat.Aw
open Go.RowKit Go.Proofs
variable {P : Program} [IsP P]
def headK (d : List Int) (l : List Sft) (p : Pln) : Prop := zce d l = true ∧ cntB l p.c = true ∧ shE d l p.c < 0 ∧ p.cost = prcP l p.c l.length
instance (d : List Int) (l : List Sft) (p : Pln) : Decidable (headK d l p) := by unfold headK; infer_instance
def chkE (d : List Int) (l : List Sft) (p : Pln) (b : Br) : Bool := if headK d l p then (rgtE d l p.cost b (zcv l.length) (zcs l) 20000).1 else false
set_option maxHeartbeats 4000000 in
theorem check_pf (d : List Int) (l : List Sft) (p : Pln) (b : Br) : Pure P 13 [eL eI d, eL eSh l, ePl p, eBr b] (eB (chkE d l p b)) := by
 have HI : chkE d l p b = if headK d l p then (rgtE d l p.cost b (zcv l.length) (zcs l) 20000).1 else false := rfl
 generalize chkE d l p b = R at HI ⊢
 obtain ⟨s, t, L, y⟩ := b
 have hlo : ∀ x ∈ [eL eI d, eL eSh l, ePl p, eBr (.mk s t L y)], Lo 0 x := zah (zan fun _ => .s _) (zah (zan lo_Sh) (zah xa (zah (lo_Br _) zak)))
 rw [zdk] at hlo ⊢
 refine zcl (by rw [IsP.eq (P := P)]; exact Tryz.func13) rfl rfl rfl rfl rfl hlo (.s _) (by simp only [argF]; rfl) ?_
 refine zag (zab (zaf rfl rfl (zaa rfl) (zb3 rfl rfl rfl rfl) ?_))
 refine za6 (zbm (id := 0) rfl) (za6 (zcb (d := 6) rfl rfl rfl) ?_)
 refine zaf rfl rfl (zaa rfl) (zb3 rfl rfl rfl rfl) ?_
 refine za6 (zbm (id := 1) rfl) (za6 (zcb (d := 7) rfl rfl rfl) ?_)
 refine zac rfl (zad (zag (zag ?_)))
 refine zb2 hmix ?_
 refine zbx xi ?_
 refine qx_s rfl (qx_s rfl ?_)
 refine qx_opB rfl rfl (zaa rfl) (zam rfl rfl ((sValid_pf54 d l)) (zae rfl (zae rfl zap))) (fun h13 => ?_) (fun h13 => ?_)
 all_goals refine zby rfl rfl (zaa rfl) (zbj rfl rfl) (qx_s rfl ?_)
 all_goals (first | refine qx_s rfl ?_ | refine qx_z rfl ?_)
 all_goals (first | refine qx_f tf28_0 rfl ?_ | refine qx_z rfl ?_)
 all_goals (first | refine qx_l ta22 rfl ?_ | refine qx_z rfl ?_)
 all_goals (first | refine qx_opB rfl rfl (zat rfl rfl rfl) (zam rfl rfl ((counts_pf l p.c)) (zae rfl (zae rfl zap))) (fun h19 => ?_) (fun h19 => ?_) | refine qx_z rfl ?_)
 all_goals (first | refine zby rfl rfl (zat rfl rfl rfl) (zbj rfl rfl) ?_ | refine qx_z rfl ?_)
 all_goals refine qx_s rfl (qx_s rfl ?_)
 all_goals (first | refine qx_s rfl ?_ | refine qx_z rfl ?_)
 all_goals (first | refine qx_s rfl ?_ | refine qx_z rfl ?_)
 all_goals (first | refine qx_f tf28_0 rfl ?_ | refine qx_z rfl ?_)
 all_goals (first | refine qx_l ta22 rfl ?_ | refine qx_z rfl ?_)
 all_goals (first | refine zby rfl rfl (zat rfl rfl rfl) (zam rfl rfl ((short_pf d l p.c h13 (okC_of h13 h19))) (zae rfl (zae rfl (zae rfl zap)))) ?_ | refine qx_z rfl ?_)
 all_goals (first | refine qx_opP rfl rfl (zat rfl rfl rfl) (zcp rfl rfl rfl) (fun h28 => ?_) (fun h28 => ?_) | refine qx_z rfl ?_)
 all_goals refine qx_s rfl (qx_s rfl ?_)
 all_goals (first | refine qx_f tf28_1 rfl ?_ | refine qx_z rfl ?_)
 all_goals (first | refine qx_l ta3 rfl ?_ | refine qx_z rfl ?_)
 all_goals (first | refine qx_s rfl ?_ | refine qx_z rfl ?_)
 all_goals (first | refine qx_f tf28_0 rfl ?_ | refine qx_z rfl ?_)
 all_goals (first | refine qx_l ta22 rfl ?_ | refine qx_z rfl ?_)
 all_goals (first | refine zby rfl rfl (zat rfl rfl rfl) (zam rfl rfl ((price_pf d l p.c h13 (okC_of h13 h19))) (zae rfl (zae rfl zap))) ?_ | refine qx_z rfl ?_)
 all_goals (first | refine qx_opP rfl rfl (zat rfl rfl rfl) (zbp rfl rfl rfl) (fun h37 => ?_) (fun h37 => ?_) | refine qx_z rfl ?_)
 all_goals refine qx_s rfl ?_
 all_goals refine zdg ?_
 all_goals refine zai ?_
 all_goals (first | refine za5 rfl ?_ | refine zau rfl ?_)
 all_goals (repeat (first | refine zag ?_ | refine zar ?_))
 all_goals first
  |
   rw [if_neg (by
    unfold headK
    rintro ⟨g1, g2, g3, g4⟩
    first
    | exact Bool.noConfusion (g1.symm.trans h13)
    | exact Bool.noConfusion (g2.symm.trans h19)
    | omega)] at HI
   refine zab (zac rfl (zad (zai ?_)))
   (refine za7 ?_; repeat (first | refine zbc ?_ | refine zbe ?_))
   exact zb6 (.inr rfl) rfl (congrArg eB HI.symm)
  | skip
 have hk : headK d l p := ⟨h13, h19, by omega, by omega⟩
 rw [if_pos hk] at HI
 have hbd := prcP_bd h13 (okC_of h13 h19) l.length (Nat.le_refl _)
 have hpc := hk.2.2.2
 have hl12 := (zb4 h13).1.2.2
 have hr := right_pf (P := P) d l p.cost h13 xd xd (.mk s t L y) (zcv l.length) (zcs l) 20000 (first_box h13) xd xd
 generalize rgtE d l p.cost (.mk s t L y) (zcv l.length) (zcs l) 20000 = x at HI hr
 obtain ⟨xz, xn⟩ := x
 rw [zdk] at hr
 replace hr : Pure P 29 [eL eI d, eL eSh l, eBx (zcv l.length) (zcs l), .agg [eI s, eI t, eL eBr L, eL eF y], eI p.cost, eI 20000] (.tup [eB xz, eI xn]) := hr
 refine zb2 hmix ?_
 refine zc1 ?_
 refine ex_s rfl (ex_s rfl (ex_s rfl (zay rfl rfl (zaa rfl) (fun _ => (zam rfl rfl ((first_pf l hl12)) (zae rfl zap))) (ex_w ta32 ti32 rfl (ex_f tf28_1 rfl (ex_l ta3 rfl (zay rfl rfl (zaa rfl) (fun _ => (zam rfl rfl (hr) (zae rfl (zae rfl (zae rfl (zae rfl (zae rfl (zae rfl zap)))))))) (ex_s rfl (ex_s rfl (ex_s rfl (ex_s rfl (ex_s rfl ?_))))))))))))
 refine zcf xi ?_
 refine zag (zab (zac rfl (zac rfl (zad (zai ?_)))))
 (refine za7 ?_; repeat (first | refine zbc ?_ | refine zbe ?_))
 exact zb6 (.inr rfl) rfl (congrArg eB HI.symm)
end Go.Proofs.YtllkbjcemecmjaaGreat.Aw
end
