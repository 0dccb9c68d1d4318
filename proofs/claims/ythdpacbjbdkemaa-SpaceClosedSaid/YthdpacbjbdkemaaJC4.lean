/-
  Texts joined: EvB, EvT, AwV, EvC0, AwP, AwO, EvC. Conditions: none.
-/
import Derived.Test.YthdpacbjbdkemaaJC3
import Derived.Laws.Small
import Derived.Laws.StructEq
section
namespace Go.Proofs.Ythdpacbjbdkemaa.Aw
set_option linter.unusedSimpArgs false
set_option linter.unusedVariables false
open Go.RowKit

/-- what an operation looks at in the store, or what it changes -/
inductive Kd where
  | free
  | look (R : List Nat)
  | eff (W : List Nat)
def meets : List Nat → List Nat → Bool
  | [], _ => false
  | r :: R, W => W.any (fun w => Nat.beq r w) || meets R W
theorem meets_of {R W : List Nat} (h : meets R W = false) : ∀ r ∈ R, r ∉ W := by
  induction R with
  | nil => simp
  | cons a R ih =>
    simp only [meets, Bool.or_eq_false_iff] at h
    intro r hr hw
    rcases List.mem_cons.1 hr with rfl | hr
    · have h2 := List.any_eq_false.1 h.1 r hw
      simp at h2
    · exact ih h.2 r hr hw
def kdClash : Kd → Kd → Bool
  | .look R, .eff W => meets R W
  | .eff W, .look R => meets R W
  | .eff _, .eff _ => true
  | _, _ => false
def kPairs : Nat → List (Nat × Kd) → List Kd → List Nat → Bool
  | j, prev, k :: ks, m :: ms => (prev.all fun p => !(kdClash p.2 k) || m.testBit p.1) && kPairs (j + 1) (match k with | .free => prev | _ => (j, k) :: prev) ks ms
  | _, _, [], _ => true
  | _, _, _ :: _, [] => false
theorem kPairs_of : ∀ (ks : List Kd) (ms : List Nat) (j0 : Nat) (prev : List (Nat × Kd)), kPairs j0 prev ks ms = true →
    (∀ (j : Nat) b, ks[j]? = some b → ∀ p ∈ prev, kdClash p.2 b = true → (ms.getD j 0).testBit p.1 = true) ∧
    ∀ (i j : Nat) a b, i < j → ks[i]? = some a → ks[j]? = some b → kdClash a b = true → (ms.getD j 0).testBit (j0 + i) = true
  | [], ms, j0, prev, h => ⟨by simp, by simp⟩
  | k :: ks, [], j0, prev, h => by simp [kPairs] at h
  | k :: ks, m :: ms, j0, prev, h => by
    simp only [kPairs, Bool.and_eq_true] at h
    obtain ⟨h1, h2⟩ := h
    obtain ⟨h3, h4⟩ := kPairs_of ks ms (j0 + 1) _ h2
    refine ⟨fun j b hb p hp hc => ?_, fun i j a b hij ha hb hc => ?_⟩
    · cases j with
      | zero =>
        simp at hb
        subst hb
        have := List.all_eq_true.1 h1 p hp
        simpa [hc] using this
      | succ j =>
        have := h3 j b (by simpa using hb) p (by cases k <;> first | exact hp | exact List.mem_cons_of_mem _ hp) hc
        simpa using this
    · cases j with
      | zero => omega
      | succ j =>
        cases i with
        | zero =>
          simp at ha
          subst ha
          have := h3 j b (by simpa using hb) (j0, k) (by cases k <;> first | (cases b <;> simp [kdClash] at hc; done) | simp) hc
          simpa using this
        | succ i =>
          have := h4 i j a b (by omega) (by simpa using ha) (by simpa using hb) hc
          rw [show j0 + (i + 1) = j0 + 1 + i by omega]
          simpa using this
def sOk (l : List Oper) (N : Nat) : Bool := qOk l && l.all fun o => (o.looksAt l.toArray).all fun t => Nat.blt t N
def eOk (l : List Oper) (N : Nat) (ks : List Kd) : Bool := sOk l N && kPairs 0 [] ks (masks l [])
theorem kdClash_symm (a b : Kd) : kdClash a b = kdClash b a := by cases a <;> cases b <;> rfl

/-- what an operation puts into the frame -/
def ent (N : Nat) (o : Oper) (x : AV) : Nat × AV := match o.dst with
  | some d => (d, x)
  | none => (N, .any)
def dOk (N : Nat) (o : Oper) : Bool := match o.dst with
  | some d => Nat.blt d N
  | none => true
theorem ent_some {N : Nat} {o : Oper} {x : AV} {d : Nat} (h : o.dst = some d) : ent N o x = (d, x) := by unfold ent; rw [h]
theorem ent_none {N : Nat} {o : Oper} {x : AV} (h : o.dst = none) : ent N o x = (N, .any) := by unfold ent; rw [h]
theorem ent_at {N : Nat} {o : Oper} {x : AV} {t : Nat} (h : (ent N o x).1 = t) (ht : t < N) : o.dst = some t := by
  cases hd : o.dst with
  | none => rw [ent_none hd] at h; have h : N = t := h; exact absurd ht (by rw [h]; exact Nat.lt_irrefl _)
  | some d => rw [ent_some hd] at h; have h : d = t := h; rw [h]
theorem ent_top {N : Nat} {o : Oper} {x : AV} (h : (ent N o x).1 = N) (hk : dOk N o = true) : (ent N o x).2 = .any := by
  cases hd : o.dst with
  | none => rw [ent_none hd]
  | some d =>
    rw [ent_some hd] at h
    have h : d = N := h
    unfold dOk at hk
    rw [hd] at hk
    simp [h] at hk
theorem dOk_lt {N : Nat} {o : Oper} {d : Nat} (h : dOk N o = true) (hd : o.dst = some d) : d < N := by unfold dOk at h; rw [hd] at h; simpa [Nat.blt_eq] using h

inductive ESteps (P : Program) (N : Nat) (ops : Array Oper) : List Oper → Frm → List Ob → Frm → List Ob → List (Nat × AV) → List Kd → List (List Ob) → Prop
  | nil (F : Frm) (σ : List Ob) : ESteps P N ops [] F σ F σ [] [] []
  | free (o : Oper) (l : List Oper) (F F' : Frm) (σ σ' : List Ob) (x : AV) (out : List (Nat × AV)) (ks : List Kd) (sts : List (List Ob)) (hd : dOk N o = true) (hr : Runs ops F o true) (hD : ∀ σ, Does P o F σ x σ) (h : ESteps P N ops l (ent N o x :: F) σ F' σ' out ks sts) : ESteps P N ops (o :: l) F σ F' σ' (ent N o x :: out) (.free :: ks) (σ :: sts)
  | skip (o : Oper) (l : List Oper) (F F' : Frm) (σ σ' : List Ob) (out : List (Nat × AV)) (ks : List Kd) (sts : List (List Ob)) (hd : dOk N o = true) (hr : Runs ops F o false) (h : ESteps P N ops l (ent N o (.s undef) :: F) σ F' σ' out ks sts) : ESteps P N ops (o :: l) F σ F' σ' (ent N o (.s undef) :: out) (.free :: ks) (σ :: sts)
  | look (o : Oper) (l : List Oper) (F F' : Frm) (σ σ' : List Ob) (x : AV) (out : List (Nat × AV)) (ks : List Kd) (sts : List (List Ob)) (R : List Nat) (hd : dOk N o = true) (hr : Runs ops F o true) (hD : ∀ σ2, (∀ id ∈ R, σ2[id]? = σ[id]?) → Does P o F σ2 x σ2) (h : ESteps P N ops l (ent N o x :: F) σ F' σ' out ks sts) : ESteps P N ops (o :: l) F σ F' σ' (ent N o x :: out) (.look R :: ks) (σ :: sts)
  | eff (o : Oper) (l : List Oper) (F F' : Frm) (σ σ1 σ' : List Ob) (x : AV) (out : List (Nat × AV)) (ks : List Kd) (sts : List (List Ob)) (W : List Nat) (hd : dOk N o = true) (hr : Runs ops F o true) (hD : Does P o F σ x σ1) (hW : ∀ id, id ∉ W → σ1[id]? = σ[id]?) (h : ESteps P N ops l (ent N o x :: F) σ1 F' σ' out ks sts) : ESteps P N ops (o :: l) F σ F' σ' (ent N o x :: out) (.eff W :: ks) (σ :: sts)

def EAt (P : Program) (ops : Array Oper) (o : Oper) (F : Frm) (x : AV) (k : Option Kd) (s s1 : List Ob) : Prop :=
  (k = some .free ∧ s1 = s ∧ ((Runs ops F o true ∧ ∀ σ, Does P o F σ x σ) ∨ (Runs ops F o false ∧ x = .s undef))) ∨
  (∃ R, k = some (.look R) ∧ s1 = s ∧ Runs ops F o true ∧ ∀ σ2, (∀ id ∈ R, σ2[id]? = s[id]?) → Does P o F σ2 x σ2) ∨
  (∃ W, k = some (.eff W) ∧ Runs ops F o true ∧ Does P o F s x s1 ∧ ∀ id, id ∉ W → s1[id]? = s[id]?)
theorem esteps_at {P : Program} {N : Nat} {ops : Array Oper} : ∀ {l : List Oper} {F F' : Frm} {σ σ' : List Ob} {out : List (Nat × AV)} {ks : List Kd} {sts : List (List Ob)}, ESteps P N ops l F σ F' σ' out ks sts → l.length = out.length ∧ F' = out.reverse ++ F ∧ ks.length = l.length ∧ sts.length = l.length ∧ (sts ++ [σ']).getD 0 [] = σ ∧
    ∀ (i : Nat) o, l[i]? = some o → ∃ x, out[i]? = some (ent N o x) ∧ dOk N o = true ∧ EAt P ops o ((out.take i).reverse ++ F) x ks[i]? ((sts ++ [σ']).getD i []) ((sts ++ [σ']).getD (i + 1) []) := by
  intro l F F' σ σ' out ks sts h
  induction h with
  | nil F σ => exact ⟨rfl, rfl, rfl, rfl, rfl, by simp⟩
  | free o l F F' σ σ' x out ks sts hd hr hD h ih =>
    obtain ⟨h1, h2, h3, h4, h0, h5⟩ := ih
    refine ⟨by simp [h1], by simp [h2], by simp [h3], by simp [h4], rfl, fun i o' hi => ?_⟩
    cases i with
    | zero => simp at hi; subst hi; exact ⟨x, rfl, hd, .inl ⟨rfl, h0, .inl ⟨by simpa using hr, by simpa using hD⟩⟩⟩
    | succ i =>
      obtain ⟨x', g1, g2, g3⟩ := h5 i o' (by simpa using hi)
      exact ⟨x', by simpa using g1, g2, by simpa using g3⟩
  | skip o l F F' σ σ' out ks sts hd hr h ih =>
    obtain ⟨h1, h2, h3, h4, h0, h5⟩ := ih
    refine ⟨by simp [h1], by simp [h2], by simp [h3], by simp [h4], rfl, fun i o' hi => ?_⟩
    cases i with
    | zero => simp at hi; subst hi; exact ⟨.s undef, rfl, hd, .inl ⟨rfl, h0, .inr ⟨by simpa using hr, rfl⟩⟩⟩
    | succ i =>
      obtain ⟨x', g1, g2, g3⟩ := h5 i o' (by simpa using hi)
      exact ⟨x', by simpa using g1, g2, by simpa using g3⟩
  | look o l F F' σ σ' x out ks sts R hd hr hD h ih =>
    obtain ⟨h1, h2, h3, h4, h0, h5⟩ := ih
    refine ⟨by simp [h1], by simp [h2], by simp [h3], by simp [h4], rfl, fun i o' hi => ?_⟩
    cases i with
    | zero => simp at hi; subst hi; exact ⟨x, rfl, hd, .inr (.inl ⟨R, rfl, h0, by simpa using hr, by simpa using hD⟩)⟩
    | succ i =>
      obtain ⟨x', g1, g2, g3⟩ := h5 i o' (by simpa using hi)
      exact ⟨x', by simpa using g1, g2, by simpa using g3⟩
  | eff o l F F' σ σ1 σ' x out ks sts W hd hr hD hW h ih =>
    obtain ⟨h1, h2, h3, h4, h0, h5⟩ := ih
    refine ⟨by simp [h1], by simp [h2], by simp [h3], by simp [h4], rfl, fun i o' hi => ?_⟩
    cases i with
    | zero =>
      simp at hi; subst hi
      have e : ((σ :: sts) ++ [σ']).getD (0 + 1) [] = σ1 := h0
      refine ⟨x, rfl, hd, .inr (.inr ⟨W, rfl, by simpa using hr, ?_, ?_⟩)⟩
      · rw [e]; simpa using hD
      · rw [e]; exact hW
    | succ i =>
      obtain ⟨x', g1, g2, g3⟩ := h5 i o' (by simpa using hi)
      exact ⟨x', by simpa using g1, g2, by simpa using g3⟩
theorem fr_rep {G : Cx} {v : Value} {t : Nat} {sel : Nat → Bool} : ∀ (out : List (Nat × AV)) (k : Nat) (F : Frm), Rep G v (F.get t) → (∀ p ∈ out, p.1 = t → Rep G v p.2) → Rep G v ((fr sel k out F).get t)
  | [], k, F, h, _ => h
  | p :: out, k, F, h, hp => by
    refine fr_rep out (k + 1) _ ?_ (fun q hq => hp q (by simp [hq]))
    cases sel k with
    | false => exact h
    | true =>
      obtain ⟨d, x⟩ := p
      simp only [cond_true, Frm.get]
      cases e : Nat.beq d t with
      | true => exact hp (d, x) (by simp) (Nat.eq_of_beq_eq_true e)
      | false => exact h

def EDraw (P : Program) (N : Nat) (l : List Oper) (F : Frm) (σ : List Ob) (Q : Exit → Frm → List Ob → Prop) : Prop :=
  ∀ G a, S8 N G a F σ → wpAny P .any l.toArray (liftE N G Q) l.length (Array.replicate l.length false) a G.w
section
variable {P : Program} {N : Nat} {l : List Oper} {F F' : Frm} {σ : List Ob} {out : List (Nat × AV)} {Q : Exit → Frm → List Ob → Prop}

theorem egen_any {σ' : List Ob} {ks : List Kd} {sts : List (List Ob)} (hq : eOk l N ks = true) (hs : ESteps P N l.toArray l F σ F' σ' out ks sts) (hQ : Q .normal F' σ') (G0 : Cx) :
    ∀ (fuel : Nat) (L : Array Bool) (G : Cx) (a : Act) (m : Nat), G0.Ext G → L.size = l.length → left L.toList = fuel → Closed l (fun j => L.getD j false = true) → m ≤ l.length → (∀ j W, ks[j]? = some (.eff W) → (L.getD j false = true ↔ j < m)) → Rep G (a.tmps.getD N undef) (F.get N) → S8 N G a (fr (fun j => L.getD j false) 0 out F) ((sts ++ [σ']).getD m []) → wpAny P .any l.toArray (liftE N G0 Q) fuel L a G.w := by
  obtain ⟨hlen, hF', hkl, hsl, _, hat⟩ := esteps_at hs
  unfold eOk sOk at hq
  simp only [Bool.and_eq_true] at hq
  obtain ⟨⟨hq, hlk⟩, hkp⟩ := hq
  obtain ⟨_, hkp⟩ := kPairs_of _ _ _ _ hkp
  have hq2 : ∀ (i j : Nat) a b, i < j → ks[i]? = some a → ks[j]? = some b → kdClash a b = true → ((masks l []).getD j 0).testBit i = true := fun i j a b h1 h2 h3 h4 => by
    have := hkp i j a b h1 h2 h3 h4
    simpa using this
  have hlk' : ∀ (i : Nat) o, l[i]? = some o → ∀ t ∈ o.looksAt l.toArray, t < N := fun i o ho t ht => by
    have h1 := List.all_eq_true.1 hlk o (List.mem_of_getElem? ho)
    have h2 := List.all_eq_true.1 h1 t ht
    simpa [Nat.blt_eq] using h2
  unfold qOk at hq
  have hq' : ∀ j oj, l[j]? = some oj → (∀ e ∈ oj.after.toList, Region.binds .any e = true → e.on < j) ∧ ∀ i oi, i < j → l[i]? = some oi → clash l.toArray oi oj = true → ((masks l []).getD j 0).testBit i = true := by
    intro j oj hj
    have h1 := List.all_eq_true.1 hq j (by simpa using (List.getElem?_eq_some_iff.1 hj).1)
    rw [hj] at h1
    simp only [Bool.and_eq_true, List.all_eq_true] at h1
    refine ⟨fun e he hb => ?_, fun i oi hij hi hc => ?_⟩
    · have := h1.1 e he
      rw [hb] at this
      simpa [Nat.blt_eq] using this
    · have := h1.2 i (by simpa using hij)
      rw [hi] at this
      simpa [hc] using this
  have hsound : ∀ (D : Nat → Prop), Closed l D → ∀ j i, ((masks l []).getD j 0).testBit i = true → D j → D i := fun D hD => masks_sound hD l [] (fun j o h => by simpa using h) (fun j i h => by simp at h)
  have hnone : ∀ (L : Array Bool), L.size = l.length → Region.ready .any l.toArray L = [] → ∀ j, j < l.length → L.getD j false = true := by
    intro L hL hr j
    induction j using Nat.strongRecOn with
    | _ j ih =>
      intro hj
      cases hc : L.getD j false with
      | true => rfl
      | false =>
        exfalso
        obtain ⟨o, ho⟩ : ∃ o, l[j]? = some o := ⟨_, List.getElem?_eq_getElem hj⟩
        have hm : j ∈ Region.ready .any l.toArray L := by
          refine mem_ready.2 ⟨?_, o, by simpa using ho, fun e he hb => ?_⟩
          · have hlt : j < L.size := by omega
            simp [Array.getD_eq_getD_getElem?, hlt] at hc ⊢
            exact hc
          · have hon := (hq' j o ho).1 e (by simpa using he) hb
            exact ih e.on hon (by omega)
        rw [hr] at hm
        cases hm
  have hstepS : ∀ (j id : Nat), j < l.length → (∀ W, ks[j]? = some (.eff W) → id ∉ W) → ((sts ++ [σ']).getD (j + 1) [])[id]? = ((sts ++ [σ']).getD j [])[id]? := by
    intro j id hj hW
    obtain ⟨x, _, _, hc⟩ := hat j _ (List.getElem?_eq_getElem hj)
    rcases hc with ⟨_, g2, _⟩ | ⟨R, _, g2, _⟩ | ⟨W, g1, _, _, g4⟩
    · rw [g2]
    · rw [g2]
    · exact g4 id (hW W g1)
  have hstepN : ∀ (j : Nat), j < l.length → (∀ W, ks[j]? ≠ some (.eff W)) → (sts ++ [σ']).getD (j + 1) [] = (sts ++ [σ']).getD j [] := by
    intro j hj hW
    obtain ⟨x, _, _, hc⟩ := hat j _ (List.getElem?_eq_getElem hj)
    rcases hc with ⟨_, g2, _⟩ | ⟨R, _, g2, _⟩ | ⟨W, g1, _⟩
    · exact g2
    · exact g2
    · exact absurd g1 (hW W)
  have hlookS : ∀ (id k n : Nat), n + k ≤ l.length → (∀ j W, n ≤ j → j < n + k → ks[j]? = some (.eff W) → id ∉ W) → ((sts ++ [σ']).getD (n + k) [])[id]? = ((sts ++ [σ']).getD n [])[id]? := by
    intro id k n hnk h
    induction k with
    | zero => rfl
    | succ k ihk =>
      rw [← ihk (by omega) (fun j W h1 h2 => h j W h1 (by omega))]
      exact hstepS (n + k) id (by omega) (fun W hW => h (n + k) W (by omega) (by omega) hW)
  have hlooks : ∀ (id m n : Nat), m ≤ l.length → n ≤ l.length → (∀ j W, ks[j]? = some (.eff W) → ¬ (j < m ↔ j < n) → id ∉ W) → ((sts ++ [σ']).getD m [])[id]? = ((sts ++ [σ']).getD n [])[id]? := by
    intro id m n hm hn h
    rcases Nat.le_total m n with h1 | h1
    · obtain ⟨k, rfl⟩ := Nat.exists_eq_add_of_le h1
      exact (hlookS id k m hn (fun j W h2 h3 h4 => h j W h4 (by omega))).symm
    · obtain ⟨k, rfl⟩ := Nat.exists_eq_add_of_le h1
      exact hlookS id k n hm (fun j W h2 h3 h4 => h j W h4 (by omega))
  -- states without an effect between them are the same
  have hsame : ∀ (k n : Nat), n + k ≤ l.length → (∀ j W, n ≤ j → j < n + k → ks[j]? ≠ some (.eff W)) → (sts ++ [σ']).getD (n + k) [] = (sts ++ [σ']).getD n [] := by
    intro k n hnk h
    induction k with
    | zero => rfl
    | succ k ihk =>
      rw [← ihk (by omega) (fun j W h1 h2 => h j W h1 (by omega))]
      exact hstepN (n + k) (by omega) (fun W => h (n + k) W (by omega) (by omega))
  have hbetween : ∀ (m n : Nat), m ≤ l.length → n ≤ l.length → (∀ j W, ks[j]? = some (.eff W) → (j < m ↔ j < n)) → (sts ++ [σ']).getD m [] = (sts ++ [σ']).getD n [] := by
    intro m n hm hn h
    rcases Nat.le_total m n with h1 | h1
    · obtain ⟨k, rfl⟩ := Nat.exists_eq_add_of_le h1
      exact (hsame k m hn (fun j W h2 h3 h4 => by have := h j W h4; omega)).symm
    · obtain ⟨k, rfl⟩ := Nat.exists_eq_add_of_le h1
      exact hsame k n hm (fun j W h2 h3 h4 => by have := h j W h4; omega)
  -- when all have come up
  have hend : ∀ (L : Array Bool) (G : Cx) (a : Act) (m : Nat), G0.Ext G → L.size = l.length → Region.ready .any l.toArray L = [] → m ≤ l.length → (∀ j W, ks[j]? = some (.eff W) → (L.getD j false = true ↔ j < m)) → S8 N G a (fr (fun j => L.getD j false) 0 out F) ((sts ++ [σ']).getD m []) → liftE N G0 Q .normal a G.w := by
    intro L G a m hst hL hr hml hm h8
    have e1 : (sts ++ [σ']).getD m [] = σ' := by
      rw [hbetween m l.length hml (Nat.le_refl _) (fun j W hj => by
        have hjl : j < l.length := by rw [← hkl]; exact (List.getElem?_eq_some_iff.1 hj).1
        have := (hm j W hj).1 (hnone L hL hr j hjl)
        exact ⟨fun _ => hjl, fun _ => this⟩)]
      simp [List.getD, ← hsl]
    rw [e1] at h8
    refine ⟨G, F', σ', rfl, hst, ⟨h8.rel, fun t => ?_, h8.df, h8.nt⟩, hQ⟩
    have h1 := h8.fr t
    have h2 : (fr (fun j => L.getD j false) 0 out F).get t = (fr (fun j => decide (j < 0 + out.length)) 0 out F).get t := fr_congr out 0 F F rfl (fun j p hp _ => by
      have hj : j < out.length := (List.getElem?_eq_some_iff.1 hp).1
      simp only [Nat.zero_add]
      rw [hnone L hL hr j (by omega)]
      simp [hj])
    rw [h2, fr_pre, List.take_length, ← hF'] at h1
    exact h1
  intro fuel
  induction fuel with
  | zero =>
    intro L G a m hst hL hlf hcl hml hm _ h8
    have hr : Region.ready .any l.toArray L = [] := by
      rw [List.eq_nil_iff_forall_not_mem]
      intro i hi
      obtain ⟨h1, o, ho, _⟩ := mem_ready.1 hi
      have hlt : i < L.size := by rw [hL]; simpa using (Array.getElem?_eq_some_iff.1 ho).1
      have : 0 < left L.toList := left_pos i (by simp [Array.getD_eq_getD_getElem?, hlt] at h1 ⊢; exact h1)
      omega
    exact ⟨hr, hend L G a m hst hL hr hml hm h8⟩
  | succ fuel ih =>
    intro L G a m hst hL hlf hcl hml hm hNr h8
    refine ⟨fun hr => hend L G a m hst hL hr hml hm h8, fun i hi => ?_⟩
    obtain ⟨h1, o, ho, hall⟩ := mem_ready.1 hi
    have hli : l[i]? = some o := by simpa using ho
    have hlt : i < L.size := by rw [hL]; exact (List.getElem?_eq_some_iff.1 hli).1
    have hfalse : L.getD i false = false := by simp [Array.getD_eq_getD_getElem?, hlt] at h1 ⊢; exact h1
    obtain ⟨x, g1, g2, g4⟩ := hat i o hli
    -- the others that touch its slots: those before it have come up, those behind it have not
    have hcl' : Closed l (fun j => j = i ∨ L.getD j false = true) := by
      intro j oj hj hD e he hb
      rcases hD with rfl | hD
      · rw [hli] at hj; cases hj
        exact .inr (hall e (by simpa using he) hb)
      · exact .inr (hcl j oj hj hD e he hb)
    have hord : ∀ j oj, l[j]? = some oj → j ≠ i → (j < i → clash l.toArray oj o = true → L.getD j false = true) ∧ (i < j → clash l.toArray o oj = true → L.getD j false = false) := by
      intro j oj hj hne
      refine ⟨fun hji hc => ?_, fun hij hc => ?_⟩
      · rcases hsound _ hcl' i j ((hq' i o hli).2 j oj hji hj hc) (.inl rfl) with h | h
        · exact absurd h hne
        · exact h
      · cases hx : L.getD j false with
        | false => rfl
        | true =>
          have := hsound _ hcl j i ((hq' j oj hj).2 i o hij hli hc) hx
          rw [hfalse] at this
          cases this
    have hsel : ∀ t, t ∈ o.looksAt l.toArray → Frm.get ((out.take i).reverse ++ F) t = (fr (fun j => L.getD j false) 0 out F).get t := by
      intro t ht
      rw [← fr_pre out 0 i F]
      refine (fr_congr out 0 F F rfl (fun j p hp hpt => ?_)).symm
      simp only [Nat.zero_add]
      have hj : j < l.length := by rw [hlen]; exact (List.getElem?_eq_some_iff.1 hp).1
      obtain ⟨x', k1, _, _⟩ := hat j _ (List.getElem?_eq_getElem hj)
      rw [k1] at hp
      cases hp
      have htN := hlk' i o hli t ht
      have k2 : l[j].dst = some t := ent_at hpt htN
      by_cases hji : j = i
      · subst hji; rw [hfalse]; simp
      · rcases Nat.lt_or_gt_of_ne hji with h | h
        · rw [(hord j _ (List.getElem?_eq_getElem hj) hji).1 h (clash_of.1 k2 ht)]; simp [h]
        · rw [(hord j _ (List.getElem?_eq_getElem hj) hji).2 h (clash_of.2.2 k2 ht)]; simp; omega
    -- what is known behind it
    have hnext : ∀ (m' : Nat), m' ≤ l.length → (∀ j W, ks[j]? = some (.eff W) → ((L.setIfInBounds i true).getD j false = true ↔ j < m')) → ∀ (G' : Cx) (v : Value), G.Ext G' → Rel G' ((sts ++ [σ']).getD m' []) → Rep G' v x → wpAny P .any l.toArray (liftE N G0 Q) fuel (L.setIfInBounds i true) (a.put o.dst v) G'.w := by
      intro m' hm'l hm' G' v he hr' hv
      refine ih _ G' _ m' (hst.trans he) (by simpa using hL) ?_ ?_ hm'l hm' ?_ ⟨hr', fun t => ?_, by cases o.dst <;> exact h8.df, by cases o.dst <;> simp [Act.put, h8.nt]⟩
      · have := left_set L.toList i (by simp [Array.getD_eq_getD_getElem?, hlt] at hfalse ⊢; exact hfalse)
        rw [Array.toList_setIfInBounds]; omega
      · intro j oj hj hD e he2 hb
        have key : ∀ k, (L.setIfInBounds i true).getD k false = true ↔ (k = i ∨ L.getD k false = true) := fun k => by
          by_cases hk : i = k
          · subst hk; simp [Array.getD_eq_getD_getElem?, hlt]
          · simp [Array.getD_eq_getD_getElem?, Array.getElem?_setIfInBounds, hk, Ne.symm hk]
        rw [key] at hD ⊢
        exact hcl' j oj hj hD e he2 hb
      · cases ho2 : o.dst with
        | none => exact hNr.ext he
        | some d =>
          have hd := dOk_lt g2 ho2
          have : d ≠ N := Nat.ne_of_lt hd
          have h1 : (a.put (some d) v).tmps.getD N undef = a.tmps.getD N undef := by simp [Act.put, Array.getD_eq_getD_getElem?, Array.getElem?_setIfInBounds, this]
          rw [h1]; exact hNr.ext he
      · have hselL : ∀ k, k ≠ i → (L.setIfInBounds i true).getD k false = L.getD k false := fun k hk => by
          simp [Array.getD_eq_getD_getElem?, Array.getElem?_setIfInBounds, Ne.symm hk]
        by_cases hte : t = (ent N o x).1
        · cases ho2 : o.dst with
          | none =>
            rw [ent_none ho2] at hte
            have hte : t = N := hte
            rw [hte]
            refine fr_rep out 0 F (hNr.ext he) (fun p hp hpt => ?_)
            obtain ⟨j, hj, rfl⟩ := List.mem_iff_getElem.1 hp
            obtain ⟨x', k1, k2, _⟩ := hat j l[j] (List.getElem?_eq_getElem (by omega))
            have k3 : out[j] = ent N l[j] x' := by rw [List.getElem?_eq_getElem hj] at k1; exact Option.some.inj k1
            rw [k3] at hpt ⊢
            rw [ent_top hpt k2]
            exact .any _
          | some d =>
            rw [ent_some ho2] at hte g1
            dsimp only at hte
            subst hte
            have h2 : (fr (fun j => (L.setIfInBounds i true).getD j false) 0 out F).get t = x := fr_last out 0 F i g1 (by simp [Array.getD_eq_getD_getElem?, hlt]) (fun j p hp hij hc hpt => by
              simp only [Nat.zero_add] at hc
              rw [hselL j (by omega)] at hc
              have hj : j < l.length := by rw [hlen]; exact (List.getElem?_eq_some_iff.1 hp).1
              obtain ⟨x', k1, _, _⟩ := hat j _ (List.getElem?_eq_getElem hj)
              rw [k1] at hp
              cases hp
              have htN := dOk_lt g2 ho2
              have k2 : l[j].dst = some t := ent_at hpt htN
              have := (hord j _ (List.getElem?_eq_getElem hj) (by omega)).2 hij (clash_of.2.1 ho2 k2)
              rw [this] at hc
              cases hc)
            rw [h2]
            have : t < a.tmps.size := by rw [h8.nt]; exact dOk_lt g2 ho2
            simpa [Act.put, Array.getD_eq_getD_getElem?, this] using hv
        · have h2 : (fr (fun j => (L.setIfInBounds i true).getD j false) 0 out F).get t = (fr (fun j => L.getD j false) 0 out F).get t := fr_congr out 0 F F rfl (fun j p hp hpt => by
            simp only [Nat.zero_add]
            refine hselL j (fun e => ?_)
            subst e
            rw [g1] at hp
            cases hp
            exact hte hpt.symm)
          rw [h2]
          have h3 := (h8.fr t).ext he
          cases ho2 : o.dst with
          | none => exact h3
          | some d =>
            rw [ent_some ho2] at hte
            have hte : t ≠ d := hte
            simpa [Act.put, Array.getD_eq_getD_getElem?, Array.getElem?_setIfInBounds, Ne.symm hte] using h3
    have hset : ∀ j, j ≠ i → ((L.setIfInBounds i true).getD j false = true ↔ L.getD j false = true) := fun j hj => by
      simp [Array.getD_eq_getD_getElem?, Array.getElem?_setIfInBounds, Ne.symm hj]
    have hseti : (L.setIfInBounds i true).getD i false = true := by simp [Array.getD_eq_getD_getElem?, hlt]
    have hil : i < l.length := (List.getElem?_eq_some_iff.1 hli).1
    have hkeep : (∀ W, ks[i]? ≠ some (.eff W)) → ∀ j W, ks[j]? = some (.eff W) → ((L.setIfInBounds i true).getD j false = true ↔ j < m) := fun hne j W hj => by
      have : j ≠ i := fun e => hne W (e ▸ hj)
      rw [hset j this]; exact hm j W hj
    -- an effect that is on the other side in the list is one that it does not meet
    have hside : ∀ b, ks[i]? = some b → ∀ j W, ks[j]? = some (.eff W) → kdClash b (.eff W) = true → (j < m ↔ j < i) := fun b hb j W hj hcl2 => by
      have hjl : j < l.length := by rw [← hkl]; exact (List.getElem?_eq_some_iff.1 hj).1
      rw [← hm j W hj]
      rcases Nat.lt_trichotomy j i with h | h | h
      · have h3 := hq2 j i (.eff W) b h hj hb (by rw [kdClash_symm]; exact hcl2)
        rcases hsound _ hcl' i j h3 (.inl rfl) with h4 | h4
        · omega
        · simp [h, h4]
      · subst h; rw [hfalse]; simp
      · have h3 := hq2 i j b (.eff W) h hb hj hcl2
        constructor
        · intro h4
          have := hsound _ hcl j i h3 h4
          rw [hfalse] at this; cases this
        · intro h4; omega
    unfold wpOp
    simp only [ho]
    rcases g4 with ⟨k0, ks0, ⟨k1, k2⟩ | ⟨k1, rfl⟩⟩ | ⟨R, k0, ks0, k1, k2⟩ | ⟨W0, k0, k1, k2, _⟩
    · rw [if_pos ((k1.congr hsel).wanted h8.fr)]
      left
      refine ((k2 _).congr hsel) G a _ _ h8.rel (fun y _ => rep_eval h8.fr y) (fun v G' he hr' hv => ?_)
      exact hnext m hml (hkeep (by rw [k0]; simp)) G' v he hr' hv
    · rw [if_neg (by rw [(k1.congr hsel).wanted h8.fr]; simp)]
      exact hnext m hml (hkeep (by rw [k0]; simp)) G undef (.refl G) h8.rel (.s _)
    · rw [if_pos ((k1.congr hsel).wanted h8.fr)]
      left
      have hlooked : ∀ id ∈ R, ((sts ++ [σ']).getD m [])[id]? = ((sts ++ [σ']).getD i [])[id]? := fun id hid =>
        hlooks id m i hml (Nat.le_of_lt hil) (fun j W hj hne => by
          cases hc : kdClash (.look R) (.eff W) with
          | true => exact absurd (hside _ k0 j W hj hc) hne
          | false => exact meets_of hc id hid)
      refine ((k2 _ hlooked).congr hsel) G a _ _ h8.rel (fun y _ => rep_eval h8.fr y) (fun v G' he hr' hv => ?_)
      exact hnext m hml (hkeep (by rw [k0]; simp)) G' v he hr' hv
    · rw [if_pos ((k1.congr hsel).wanted h8.fr)]
      left
      have hef : ∀ j W, ks[j]? = some (.eff W) → (j < m ↔ j < i) := fun j W hj => hside _ k0 j W hj rfl
      have e1 := hbetween m i hml (Nat.le_of_lt hil) hef
      have h8r := h8.rel
      rw [e1] at h8r
      refine (k2.congr hsel) G a _ _ h8r (fun y _ => rep_eval h8.fr y) (fun v G' he hr' hv => ?_)
      refine hnext (i + 1) hil (fun j W hj => ?_) G' v he hr' hv
      by_cases hji : j = i
      · subst hji; rw [hseti]; simp
      · rw [hset j hji, hm j W hj, hef j W hj]; omega

theorem edraw_steps {σ' : List Ob} {ks : List Kd} {sts : List (List Ob)} (hs : ESteps P N l.toArray l F σ F' σ' out ks sts) (hq : eOk l N ks = true) (hQ : Q .normal F' σ') : EDraw P N l F σ Q := fun G a h8 => by
  have hno : ∀ j, (Array.replicate l.length false).getD j false = false := fun j => by
    simp only [Array.getD_eq_getD_getElem?, Array.getElem?_replicate]
    split <;> rfl
  have h3 : ∀ (out : List (Nat × AV)) (k : Nat) (F : Frm), fr (fun j => (Array.replicate l.length false).getD j false) k out F = F := by
    intro out
    induction out with
    | nil => intro k F; rfl
    | cons p out ih =>
      intro k F
      have := hno k
      simp only [fr, this, cond_false]
      exact ih _ _
  refine egen_any hq hs hQ G l.length _ G a 0 (.refl G) (by simp) (by simp [left_rep]) ?_ (Nat.zero_le _) ?_ (h8.fr N) ?_
  · intro j o hj hD
    rw [hno] at hD
    cases hD
  · intro j W hj
    rw [hno]; simp
  · rw [h3, (esteps_at hs).2.2.2.2.1]; exact h8
theorem ew_draw {id : Nat} (hm : P.follows .mixedOrders = true) (h : EDraw P N l F σ Q) : EWp P N (.region id l.toArray true) F σ Q := fun G a hs => by
  refine wp_region_any hm ?_
  have he := drew_ext G
  have h1 := h _ a (hs.step he (drew_rel hs.rel))
  exact wpAny_mono (fun e a w q => liftE_mono he (fun _ _ _ x => x) q) _ _ _ _ (by simpa using h1)
end
/-- the sets of operations that may have come up -/
def subs : List Nat → List (List Nat)
  | [] => [[]]
  | e :: E => subs E ++ (subs E).map (e :: ·)
theorem subs_filter (p : Nat → Bool) : ∀ E : List Nat, E.filter p ∈ subs E
  | [] => by simp [subs]
  | e :: E => by
    have ih := subs_filter p E
    simp only [List.filter_cons, subs, List.mem_append, List.mem_map]
    split
    · exact .inr ⟨_, ih, rfl⟩
    · exact .inl ih
def closedB (m : List Nat) (E D : List Nat) : Bool := D.all fun j => E.all fun k => !((m.getD j 0).testBit k) || D.contains k
def readyB (m : List Nat) (E D : List Nat) (i : Nat) : Bool := !(D.contains i) && E.all (fun k => !((m.getD i 0).testBit k) || D.contains k) && D.all fun j => !((m.getD j 0).testBit i)
def insE (E D : List Nat) (i : Nat) : List Nat := E.filter fun j => D.contains j || Nat.beq j i
def TAt (P : Program) (N : Nat) (l : List Oper) (E : List Nat) (T : List Nat → List Ob) (o : Oper) (i : Nat) (F : Frm) (p : Nat × AV) : Prop :=
  (i ∉ E ∧ ((Runs l.toArray F o true ∧ ∃ x, p = ent N o x ∧ ∀ σ, Does P o F σ x σ) ∨ (Runs l.toArray F o false ∧ p = ent N o (.s undef)))) ∨
  (Runs l.toArray F o true ∧ ∀ q : Nat → Bool, closedB (masks l []) E (E.filter q) = true → readyB (masks l []) E (E.filter q) i = true → ∃ x, p = ent N o x ∧ Does P o F (T (E.filter q)) x (T (insE E (E.filter q) i)))
section
variable {P : Program} {N : Nat} {l : List Oper} {F F' : Frm} {σ : List Ob} {out : List (Nat × AV)} {Q : Exit → Frm → List Ob → Prop}
theorem etree_any {σ' : List Ob} {E : List Nat} {T : List Nat → List Ob} (hqs : sOk l N = true) (hself : ∀ i, ((masks l []).getD i 0).testBit i = true → False) (hEl : ∀ j ∈ E, j < l.length) (hlen : l.length = out.length) (hF' : F' = out.reverse ++ F) (hTE : T E = σ')
    (hat : ∀ (i : Nat) o, l[i]? = some o → dOk N o = true ∧ ∃ p, out[i]? = some p ∧ (∃ x, p = ent N o x) ∧ TAt P N l E T o i ((out.take i).reverse ++ F) p) (hQ : Q .normal F' σ') (G0 : Cx) :
    ∀ (fuel : Nat) (L : Array Bool) (G : Cx) (a : Act), G0.Ext G → L.size = l.length → left L.toList = fuel → Closed l (fun j => L.getD j false = true) → Rep G (a.tmps.getD N undef) (F.get N) → S8 N G a (fr (fun j => L.getD j false) 0 out F) (T (E.filter fun j => L.getD j false)) → wpAny P .any l.toArray (liftE N G0 Q) fuel L a G.w := by
  unfold sOk at hqs
  simp only [Bool.and_eq_true] at hqs
  obtain ⟨hq, hlk⟩ := hqs
  have hlk' : ∀ (i : Nat) o, l[i]? = some o → ∀ t ∈ o.looksAt l.toArray, t < N := fun i o ho t ht => by
    have h1 := List.all_eq_true.1 hlk o (List.mem_of_getElem? ho)
    have h2 := List.all_eq_true.1 h1 t ht
    simpa [Nat.blt_eq] using h2
  unfold qOk at hq
  have hq' : ∀ j oj, l[j]? = some oj → (∀ e ∈ oj.after.toList, Region.binds .any e = true → e.on < j) ∧ ∀ i oi, i < j → l[i]? = some oi → clash l.toArray oi oj = true → ((masks l []).getD j 0).testBit i = true := by
    intro j oj hj
    have h1 := List.all_eq_true.1 hq j (by simpa using (List.getElem?_eq_some_iff.1 hj).1)
    rw [hj] at h1
    simp only [Bool.and_eq_true, List.all_eq_true] at h1
    refine ⟨fun e he hb => ?_, fun i oi hij hi hc => ?_⟩
    · have := h1.1 e he
      rw [hb] at this
      simpa [Nat.blt_eq] using this
    · have := h1.2 i (by simpa using hij)
      rw [hi] at this
      simpa [hc] using this
  have hsound : ∀ (D : Nat → Prop), Closed l D → ∀ j i, ((masks l []).getD j 0).testBit i = true → D j → D i := fun D hD => masks_sound hD l [] (fun j o h => by simpa using h) (fun j i h => by simp at h)
  have hnone : ∀ (L : Array Bool), L.size = l.length → Region.ready .any l.toArray L = [] → ∀ j, j < l.length → L.getD j false = true := by
    intro L hL hr j
    induction j using Nat.strongRecOn with
    | _ j ih =>
      intro hj
      cases hc : L.getD j false with
      | true => rfl
      | false =>
        exfalso
        obtain ⟨o, ho⟩ : ∃ o, l[j]? = some o := ⟨_, List.getElem?_eq_getElem hj⟩
        have hm : j ∈ Region.ready .any l.toArray L := by
          refine mem_ready.2 ⟨?_, o, by simpa using ho, fun e he hb => ?_⟩
          · have hlt : j < L.size := by omega
            simp [Array.getD_eq_getD_getElem?, hlt] at hc ⊢
            exact hc
          · have hon := (hq' j o ho).1 e (by simpa using he) hb
            exact ih e.on hon (by omega)
        rw [hr] at hm
        cases hm
  -- when all have come up
  have hend : ∀ (L : Array Bool) (G : Cx) (a : Act), G0.Ext G → L.size = l.length → Region.ready .any l.toArray L = [] → S8 N G a (fr (fun j => L.getD j false) 0 out F) (T (E.filter fun j => L.getD j false)) → (∀ j ∈ E, j < l.length) → liftE N G0 Q .normal a G.w := by
    intro L G a hst hL hr h8 hEl
    have e1 : E.filter (fun j => L.getD j false) = E := List.filter_eq_self.2 fun j hj => hnone L hL hr j (hEl j hj)
    rw [e1, hTE] at h8
    refine ⟨G, F', σ', rfl, hst, ⟨h8.rel, fun t => ?_, h8.df, h8.nt⟩, hQ⟩
    have h1 := h8.fr t
    have h2 : (fr (fun j => L.getD j false) 0 out F).get t = (fr (fun j => decide (j < 0 + out.length)) 0 out F).get t := fr_congr out 0 F F rfl (fun j p hp _ => by
      have hj : j < out.length := (List.getElem?_eq_some_iff.1 hp).1
      simp only [Nat.zero_add]
      rw [hnone L hL hr j (by omega)]
      simp [hj])
    rw [h2, fr_pre, List.take_length, ← hF'] at h1
    exact h1
  intro fuel
  induction fuel with
  | zero =>
    intro L G a hst hL hlf hcl _ h8
    have hr : Region.ready .any l.toArray L = [] := by
      rw [List.eq_nil_iff_forall_not_mem]
      intro i hi
      obtain ⟨h1, o, ho, _⟩ := mem_ready.1 hi
      have hlt : i < L.size := by rw [hL]; simpa using (Array.getElem?_eq_some_iff.1 ho).1
      have : 0 < left L.toList := left_pos i (by simp [Array.getD_eq_getD_getElem?, hlt] at h1 ⊢; exact h1)
      omega
    exact ⟨hr, hend L G a hst hL hr h8 hEl⟩
  | succ fuel ih =>
    intro L G a hst hL hlf hcl hNr h8
    refine ⟨fun hr => hend L G a hst hL hr h8 hEl, fun i hi => ?_⟩
    obtain ⟨h1, o, ho, hall⟩ := mem_ready.1 hi
    have hli : l[i]? = some o := by simpa using ho
    have hlt : i < L.size := by rw [hL]; exact (List.getElem?_eq_some_iff.1 hli).1
    have hfalse : L.getD i false = false := by simp [Array.getD_eq_getD_getElem?, hlt] at h1 ⊢; exact h1
    obtain ⟨g2, p0, g1, ⟨x0, hx0⟩, g4⟩ := hat i o hli
    -- the others that touch its slots: those before it have come up, those behind it have not
    have hcl' : Closed l (fun j => j = i ∨ L.getD j false = true) := by
      intro j oj hj hD e he hb
      rcases hD with rfl | hD
      · rw [hli] at hj; cases hj
        exact .inr (hall e (by simpa using he) hb)
      · exact .inr (hcl j oj hj hD e he hb)
    have hord : ∀ j oj, l[j]? = some oj → j ≠ i → (j < i → clash l.toArray oj o = true → L.getD j false = true) ∧ (i < j → clash l.toArray o oj = true → L.getD j false = false) := by
      intro j oj hj hne
      refine ⟨fun hji hc => ?_, fun hij hc => ?_⟩
      · rcases hsound _ hcl' i j ((hq' i o hli).2 j oj hji hj hc) (.inl rfl) with h | h
        · exact absurd h hne
        · exact h
      · cases hx : L.getD j false with
        | false => rfl
        | true =>
          have := hsound _ hcl j i ((hq' j oj hj).2 i o hij hli hc) hx
          rw [hfalse] at this
          cases this
    have hsel : ∀ t, t ∈ o.looksAt l.toArray → Frm.get ((out.take i).reverse ++ F) t = (fr (fun j => L.getD j false) 0 out F).get t := by
      intro t ht
      rw [← fr_pre out 0 i F]
      refine (fr_congr out 0 F F rfl (fun j p hp hpt => ?_)).symm
      simp only [Nat.zero_add]
      have hj : j < l.length := by rw [hlen]; exact (List.getElem?_eq_some_iff.1 hp).1
      obtain ⟨_, p', k1, ⟨x', rfl⟩, _⟩ := hat j _ (List.getElem?_eq_getElem hj)
      rw [k1] at hp
      cases hp
      have htN := hlk' i o hli t ht
      have k2 : l[j].dst = some t := ent_at hpt htN
      by_cases hji : j = i
      · subst hji; rw [hfalse]; simp
      · rcases Nat.lt_or_gt_of_ne hji with h | h
        · rw [(hord j _ (List.getElem?_eq_getElem hj) hji).1 h (clash_of.1 k2 ht)]; simp [h]
        · rw [(hord j _ (List.getElem?_eq_getElem hj) hji).2 h (clash_of.2.2 k2 ht)]; simp; omega
    -- what is known behind it
    have hnext : ∀ (x : AV), p0 = ent N o x → ∀ (G' : Cx) (v : Value), G.Ext G' → Rel G' (T (E.filter fun j => (L.setIfInBounds i true).getD j false)) → Rep G' v x → wpAny P .any l.toArray (liftE N G0 Q) fuel (L.setIfInBounds i true) (a.put o.dst v) G'.w := by
      intro x hx G' v he hr' hv
      rw [hx] at g1
      refine ih _ G' _ (hst.trans he) (by simpa using hL) ?_ ?_ ?_ ⟨hr', fun t => ?_, by cases o.dst <;> exact h8.df, by cases o.dst <;> simp [Act.put, h8.nt]⟩
      · have := left_set L.toList i (by simp [Array.getD_eq_getD_getElem?, hlt] at hfalse ⊢; exact hfalse)
        rw [Array.toList_setIfInBounds]; omega
      · intro j oj hj hD e he2 hb
        have key : ∀ k, (L.setIfInBounds i true).getD k false = true ↔ (k = i ∨ L.getD k false = true) := fun k => by
          by_cases hk : i = k
          · subst hk; simp [Array.getD_eq_getD_getElem?, hlt]
          · simp [Array.getD_eq_getD_getElem?, Array.getElem?_setIfInBounds, hk, Ne.symm hk]
        rw [key] at hD ⊢
        exact hcl' j oj hj hD e he2 hb
      · cases ho2 : o.dst with
        | none => exact hNr.ext he
        | some d =>
          have hd := dOk_lt g2 ho2
          have : d ≠ N := Nat.ne_of_lt hd
          have h1 : (a.put (some d) v).tmps.getD N undef = a.tmps.getD N undef := by simp [Act.put, Array.getD_eq_getD_getElem?, Array.getElem?_setIfInBounds, this]
          rw [h1]; exact hNr.ext he
      · have hselL : ∀ k, k ≠ i → (L.setIfInBounds i true).getD k false = L.getD k false := fun k hk => by
          simp [Array.getD_eq_getD_getElem?, Array.getElem?_setIfInBounds, Ne.symm hk]
        by_cases hte : t = (ent N o x).1
        · cases ho2 : o.dst with
          | none =>
            rw [ent_none ho2] at hte
            have hte : t = N := hte
            rw [hte]
            refine fr_rep out 0 F (hNr.ext he) (fun p hp hpt => ?_)
            obtain ⟨j, hj, rfl⟩ := List.mem_iff_getElem.1 hp
            obtain ⟨k2, p', k1, ⟨x', hx'⟩, _⟩ := hat j l[j] (List.getElem?_eq_getElem (by omega))
            have k3 : out[j] = ent N l[j] x' := by rw [List.getElem?_eq_getElem hj] at k1; exact (Option.some.inj k1).trans hx'
            rw [k3] at hpt ⊢
            rw [ent_top hpt k2]
            exact .any _
          | some d =>
            rw [ent_some ho2] at hte g1
            dsimp only at hte
            subst hte
            have h2 : (fr (fun j => (L.setIfInBounds i true).getD j false) 0 out F).get t = x := fr_last out 0 F i g1 (by simp [Array.getD_eq_getD_getElem?, hlt]) (fun j p hp hij hc hpt => by
              simp only [Nat.zero_add] at hc
              rw [hselL j (by omega)] at hc
              have hj : j < l.length := by rw [hlen]; exact (List.getElem?_eq_some_iff.1 hp).1
              obtain ⟨_, p', k1, ⟨x', rfl⟩, _⟩ := hat j _ (List.getElem?_eq_getElem hj)
              rw [k1] at hp
              cases hp
              have htN := dOk_lt g2 ho2
              have k2 : l[j].dst = some t := ent_at hpt htN
              have := (hord j _ (List.getElem?_eq_getElem hj) (by omega)).2 hij (clash_of.2.1 ho2 k2)
              rw [this] at hc
              cases hc)
            rw [h2]
            have : t < a.tmps.size := by rw [h8.nt]; exact dOk_lt g2 ho2
            simpa [Act.put, Array.getD_eq_getD_getElem?, this] using hv
        · have h2 : (fr (fun j => (L.setIfInBounds i true).getD j false) 0 out F).get t = (fr (fun j => L.getD j false) 0 out F).get t := fr_congr out 0 F F rfl (fun j p hp hpt => by
            simp only [Nat.zero_add]
            refine hselL j (fun e => ?_)
            subst e
            rw [g1] at hp
            cases hp
            exact hte hpt.symm)
          rw [h2]
          have h3 := (h8.fr t).ext he
          cases ho2 : o.dst with
          | none => exact h3
          | some d =>
            rw [ent_some ho2] at hte
            have hte : t ≠ d := hte
            simpa [Act.put, Array.getD_eq_getD_getElem?, Array.getElem?_setIfInBounds, Ne.symm hte] using h3
    have hset : ∀ j, (L.setIfInBounds i true).getD j false = (L.getD j false || Nat.beq j i) := fun j => by
      by_cases hj : j = i
      · subst hj; simp [Array.getD_eq_getD_getElem?, hlt]
      · have hb : Nat.beq j i = false := by
          cases hh : Nat.beq j i with
          | false => rfl
          | true => exact absurd (Nat.eq_of_beq_eq_true hh) hj
        simp [Array.getD_eq_getD_getElem?, Array.getElem?_setIfInBounds, Ne.symm hj, hb]
    have hdn : E.filter (fun j => (L.setIfInBounds i true).getD j false) = insE E (E.filter fun j => L.getD j false) i := by
      unfold insE
      refine List.filter_congr fun j hj => ?_
      rw [hset]
      congr 1
      rw [Bool.eq_iff_iff]
      simp [hj]
    have hmem : ∀ j, (E.filter fun j => L.getD j false).contains j = true ↔ j ∈ E ∧ L.getD j false = true := fun j => by simp
    have hclD : closedB (masks l []) E (E.filter fun j => L.getD j false) = true := by
      refine List.all_eq_true.2 fun j hj => List.all_eq_true.2 fun k hk => ?_
      obtain ⟨hj1, hj2⟩ := List.mem_filter.1 hj
      cases hb : ((masks l []).getD j 0).testBit k with
      | false => rfl
      | true =>
        rw [Bool.not_true, Bool.false_or]
        exact (hmem k).2 ⟨hk, hsound _ hcl j k hb hj2⟩
    have hrdD : readyB (masks l []) E (E.filter fun j => L.getD j false) i = true := by
      unfold readyB
      simp only [Bool.and_eq_true]
      refine ⟨⟨?_, List.all_eq_true.2 fun k hk => ?_⟩, List.all_eq_true.2 fun j hj => ?_⟩
      · cases hb : (E.filter fun j => L.getD j false).contains i with
        | false => rfl
        | true => have := ((hmem i).1 hb).2; rw [hfalse] at this; cases this
      · cases hb : ((masks l []).getD i 0).testBit k with
        | false => rfl
        | true =>
          rw [Bool.not_true, Bool.false_or]
          rcases hsound _ hcl' i k hb (.inl rfl) with h | h
          · exfalso
            subst h
            -- an operation does not wait for itself
            exact hself k hb
          · exact (hmem k).2 ⟨hk, h⟩
      · cases hb : ((masks l []).getD j 0).testBit i with
        | false => rfl
        | true =>
          have := hsound _ hcl j i hb (List.mem_filter.1 hj).2
          rw [hfalse] at this; cases this
    unfold wpOp
    simp only [ho]
    rcases g4 with ⟨hiE, ⟨k1, x, hx, k2⟩ | ⟨k1, hx⟩⟩ | ⟨k1, k2⟩
    · rw [if_pos ((k1.congr hsel).wanted h8.fr)]
      left
      refine ((k2 _).congr hsel) G a _ _ h8.rel (fun y _ => rep_eval h8.fr y) (fun v G' he hr' hv => ?_)
      refine hnext x hx G' v he ?_ hv
      have e : E.filter (fun j => (L.setIfInBounds i true).getD j false) = E.filter fun j => L.getD j false := List.filter_congr fun j hj => by
        rw [hset]
        have : Nat.beq j i = false := by
          cases hh : Nat.beq j i with
          | false => rfl
          | true => exact absurd (Nat.eq_of_beq_eq_true hh ▸ hj) hiE
        rw [this, Bool.or_false]
      rw [e]; exact hr'
    · rw [if_neg (by rw [(k1.congr hsel).wanted h8.fr]; simp)]
      refine hnext _ hx G undef (.refl G) ?_ (.s _)
      have e : E.filter (fun j => (L.setIfInBounds i true).getD j false) = E.filter fun j => L.getD j false := List.filter_congr fun j hj => by
        rw [hset]
        have : Nat.beq j i = false := by
          cases hh : Nat.beq j i with
          | false => rfl
          | true => exact absurd (Nat.eq_of_beq_eq_true hh ▸ hj) hiE
        rw [this, Bool.or_false]
      rw [e]; exact h8.rel
    · rw [if_pos ((k1.congr hsel).wanted h8.fr)]
      left
      obtain ⟨x, hx, k3⟩ := k2 _ hclD hrdD
      refine (k3.congr hsel) G a _ _ h8.rel (fun y _ => rep_eval h8.fr y) (fun v G' he hr' hv => ?_)
      refine hnext x hx G' v he ?_ hv
      rw [hdn]; exact hr'
theorem edraw_tree {σ' : List Ob} {E : List Nat} {T : List Nat → List Ob} (hqs : sOk l N = true) (hself : ∀ i, ((masks l []).getD i 0).testBit i = true → False) (hEl : ∀ j ∈ E, j < l.length) (hlen : l.length = out.length) (hF' : F' = out.reverse ++ F) (hT0 : T [] = σ) (hTE : T E = σ')
    (hat : ∀ (i : Nat) o, l[i]? = some o → dOk N o = true ∧ ∃ p, out[i]? = some p ∧ (∃ x, p = ent N o x) ∧ TAt P N l E T o i ((out.take i).reverse ++ F) p) (hQ : Q .normal F' σ') : EDraw P N l F σ Q := fun G a h8 => by
  have hno : ∀ j, (Array.replicate l.length false).getD j false = false := fun j => by
    simp only [Array.getD_eq_getD_getElem?, Array.getElem?_replicate]
    split <;> rfl
  have h3 : ∀ (out : List (Nat × AV)) (k : Nat) (F : Frm), fr (fun j => (Array.replicate l.length false).getD j false) k out F = F := by
    intro out
    induction out with
    | nil => intro k F; rfl
    | cons p out ih =>
      intro k F
      have := hno k
      simp only [fr, this, cond_false]
      exact ih _ _
  have h4 : E.filter (fun j => (Array.replicate l.length false).getD j false) = [] := by
    rw [List.filter_eq_nil_iff]
    intro j _
    rw [hno]; simp
  refine etree_any hqs hself hEl hlen hF' hTE hat hQ G l.length _ G a (.refl G) (by simp) (by simp [left_rep]) ?_ (h8.fr N) ?_
  · intro j o hj hD
    rw [hno] at hD
    cases hD
  · rw [h3, h4, hT0]; exact h8
end
end Go.Proofs.Ythdpacbjbdkemaa.Aw
end
section
namespace Go.Proofs.Ythdpacbjbdkemaa.Aw
set_option linter.unusedSimpArgs false
set_option linter.unusedVariables false

inductive Tri (α : Type) where
  | nil
  | node (v : Option α) (l r : Tri α)
namespace Tri
variable {α : Type}
def get : Tri α → Nat → Option α
  | .nil, _ => none
  | .node v l r, i => bif Nat.beq i 0 then v else bif Nat.beq (i % 2) 1 then get l (i / 2) else get r (i / 2 - 1)
def set : Nat → Tri α → Nat → α → Tri α
  | 0, t, _, _ => t
  | f + 1, .nil, i, x => bif Nat.beq i 0 then .node (some x) .nil .nil else bif Nat.beq (i % 2) 1 then .node none (set f .nil (i / 2) x) .nil else .node none .nil (set f .nil (i / 2 - 1) x)
  | f + 1, .node v l r, i, x => bif Nat.beq i 0 then .node (some x) l r else bif Nat.beq (i % 2) 1 then .node v (set f l (i / 2) x) r else .node v l (set f r (i / 2 - 1) x)
theorem beq_t {a b : Nat} (h : a = b) : Nat.beq a b = true := by subst h; simp
theorem beq_f {a b : Nat} (h : a ≠ b) : Nat.beq a b = false := by
  cases hb : Nat.beq a b with
  | false => rfl
  | true => exact absurd (Nat.eq_of_beq_eq_true hb) h
theorem get_set : ∀ (f : Nat) (t : Tri α) (i j : Nat) (x : α), i < f → get (set f t i x) j = if j = i then some x else get t j
  | 0, t, i, j, x, h => by omega
  | f + 1, .nil, i, j, x, h => by
    have key : ∀ k, get (.nil : Tri α) k = none := fun _ => rfl
    unfold set
    by_cases hi : i = 0
    · subst hi
      rw [beq_t rfl, cond_true]
      by_cases hj : j = 0
      · subst hj; simp [get]
      · simp only [get, beq_f hj, cond_false, if_neg hj]; cases Nat.beq (j % 2) 1 <;> rfl
    · rw [beq_f hi, cond_false]
      by_cases hp : i % 2 = 1
      · rw [beq_t hp, cond_true]
        by_cases hj : j = 0
        · subst hj; rw [if_neg (Ne.symm hi)]; rfl
        · simp only [get, beq_f hj, cond_false]
          by_cases hq : j % 2 = 1
          · rw [beq_t hq, cond_true, get_set f .nil (i / 2) (j / 2) x (by omega)]
            by_cases e : j = i
            · subst e; simp
            · rw [if_neg e, if_neg (by omega)]; rfl
          · rw [beq_f hq, cond_false, if_neg (by intro e; subst e; exact hq hp)]
      · rw [beq_f hp, cond_false]
        by_cases hj : j = 0
        · subst hj; rw [if_neg (Ne.symm hi)]; rfl
        · simp only [get, beq_f hj, cond_false]
          by_cases hq : j % 2 = 1
          · rw [beq_t hq, cond_true, if_neg (by intro e; subst e; exact hp hq)]
          · rw [beq_f hq, cond_false, get_set f .nil (i / 2 - 1) (j / 2 - 1) x (by omega)]
            by_cases e : j = i
            · subst e; simp
            · rw [if_neg e, if_neg (by omega)]; rfl
  | f + 1, .node v l r, i, j, x, h => by
    unfold set
    by_cases hi : i = 0
    · subst hi
      rw [beq_t rfl, cond_true]
      by_cases hj : j = 0
      · subst hj; simp [get]
      · simp only [get, beq_f hj, cond_false, if_neg hj]
    · rw [beq_f hi, cond_false]
      by_cases hp : i % 2 = 1
      · rw [beq_t hp, cond_true]
        by_cases hj : j = 0
        · subst hj; rw [if_neg (Ne.symm hi)]; rfl
        · simp only [get, beq_f hj, cond_false]
          by_cases hq : j % 2 = 1
          · rw [beq_t hq, cond_true, get_set f l (i / 2) (j / 2) x (by omega)]
            by_cases e : j = i
            · subst e; simp
            · rw [if_neg e, if_neg (by omega)]; rfl
          · rw [beq_f hq, cond_false, if_neg (by intro e; subst e; exact hq hp)]
            rfl
      · rw [beq_f hp, cond_false]
        by_cases hj : j = 0
        · subst hj; rw [if_neg (Ne.symm hi)]; rfl
        · simp only [get, beq_f hj, cond_false]
          by_cases hq : j % 2 = 1
          · rw [beq_t hq, cond_true, if_neg (by intro e; subst e; exact hp hq)]
            rfl
          · rw [beq_f hq, cond_false, get_set f r (i / 2 - 1) (j / 2 - 1) x (by omega)]
            by_cases e : j = i
            · subst e; simp
            · rw [if_neg e, if_neg (by omega)]; rfl
end Tri

/-- a store -/
structure Sto where
  len : Nat
  t : Tri Ob
namespace Sto
def at_ (s : Sto) (i : Nat) : Ob := match s.t.get i with | some x => x | none => .dead
def abs (s : Sto) : List Ob := (List.range s.len).map s.at_
def get (s : Sto) (i : Nat) : Option Ob := bif Nat.blt i s.len then some (s.at_ i) else none
def set (s : Sto) (i : Nat) (x : Ob) : Sto := ⟨s.len, s.t.set (i + 1) i x⟩
def push (s : Sto) (x : Ob) : Sto := ⟨s.len + 1, s.t.set (s.len + 1) s.len x⟩
def take (s : Sto) (k : Nat) : Sto := bif Nat.ble k s.len then ⟨k, s.t⟩ else s
def nil : Sto := ⟨0, .nil⟩
theorem abs_nil : nil.abs = [] := rfl
theorem abs_len (s : Sto) : s.abs.length = s.len := by simp [abs]
theorem get_abs (s : Sto) (i : Nat) : s.get i = s.abs[i]? := by
  unfold get abs
  cases h : Nat.blt i s.len with
  | true => have : i < s.len := by simpa [Nat.blt_eq] using h
            simp [this]
  | false =>
    have : ¬ i < s.len := by intro hh; rw [← Nat.blt_eq] at hh; rw [h] at hh; cases hh
    rw [List.getElem?_eq_none (by simp; omega)]; rfl
theorem at_set (s : Sto) (i j n : Nat) (x : Ob) : (⟨n, s.t.set (i + 1) i x⟩ : Sto).at_ j = if j = i then x else s.at_ j := by
  unfold at_
  simp only [Tri.get_set _ _ _ _ _ (Nat.lt_succ_self i)]
  split
  · rename_i y hy
    split at hy
    · rename_i e; cases hy; rw [if_pos e]
    · rename_i e; rw [if_neg e, hy]
  · rename_i hy
    split at hy
    · cases hy
    · rename_i e; rw [if_neg e, hy]
theorem set_abs (s : Sto) (i : Nat) (x : Ob) : (s.set i x).abs = s.abs.set i x := by
  apply List.ext_getElem?
  intro j
  rw [← get_abs]
  by_cases h : j < s.len
  · have h1 : (s.set i x).get j = some ((s.set i x).at_ j) := by
      unfold get
      have : Nat.blt j (s.set i x).len = true := by rw [Nat.blt_eq]; exact h
      rw [this]; rfl
    rw [h1]
    have h2 : (s.set i x).at_ j = if j = i then x else s.at_ j := at_set s i j s.len x
    rw [h2]
    by_cases e : j = i
    · subst e; rw [if_pos rfl, List.getElem?_set_self (by rw [abs_len]; exact h)]
    · rw [if_neg e, List.getElem?_set_ne (Ne.symm e)]
      simp [abs, h]
  · rw [get_abs, List.getElem?_eq_none (by rw [abs_len]; exact Nat.le_of_not_lt h), List.getElem?_eq_none (by rw [List.length_set, abs_len]; omega)]
theorem push_abs (s : Sto) (x : Ob) : (s.push x).abs = s.abs ++ [x] := by
  unfold push abs
  have h : ∀ j, (⟨s.len + 1, s.t.set (s.len + 1) s.len x⟩ : Sto).at_ j = if j = s.len then x else s.at_ j := fun j => at_set s s.len j (s.len + 1) x
  simp only [List.range_succ, List.map_append, List.map_cons, List.map_nil]
  rw [h s.len, if_pos rfl]
  congr 1
  refine List.map_congr_left fun j hj => ?_
  have : j < s.len := by simpa using hj
  rw [h j, if_neg (by omega)]
theorem take_abs (s : Sto) (k : Nat) : (s.take k).abs = s.abs.take k := by
  unfold take
  cases h : Nat.ble k s.len with
  | true =>
    have hk := Nat.le_of_ble_eq_true h
    apply List.ext_getElem?
    intro j
    rw [cond_true, List.getElem?_take]
    by_cases hj : j < k
    · rw [if_pos hj]
      have h1 : j < s.len := by omega
      have e : ∀ j, (⟨k, s.t⟩ : Sto).at_ j = s.at_ j := fun _ => rfl
      simp [abs, hj, h1, e]
    · rw [if_neg hj, List.getElem?_eq_none (by rw [abs_len]; exact Nat.le_of_not_lt hj)]
  | false =>
    have : ¬ k ≤ s.len := by intro hh; rw [Nat.ble_eq_true_of_le hh] at h; cases h
    rw [cond_false, List.take_of_length_le (by rw [abs_len]; omega)]
end Sto

/-- a frame -/
abbrev FT := Tri AV
def fget (t : FT) (d : Nat) : AV := match t.get d with | some x => x | none => .any
def fset (t : FT) (d : Nat) (x : AV) : FT := t.set (d + 1) d x
theorem fget_set (t : FT) (d e : Nat) (x : AV) : fget (fset t d x) e = if e = d then x else fget t e := by
  unfold fget fset
  rw [Tri.get_set _ _ _ _ _ (Nat.lt_succ_self d)]
  by_cases h : e = d
  · rw [if_pos h, if_pos h]
  · rw [if_neg h, if_neg h]
def fev (t : FT) : Operand → AV
  | .tmp d => fget t d
  | .const v => ofValue v
  | .global _ => .any
  | .func f => .fn f []
/-- the same as a list -/
def FEq (F : Frm) (t : FT) : Prop := ∀ d, F.get d = fget t d
theorem FEq.ev {F : Frm} {t : FT} (h : FEq F t) : F.eval = fev t := by
  funext y
  cases y with
  | tmp d => exact h d
  | _ => rfl
theorem FEq.put {F : Frm} {t : FT} (h : FEq F t) (d : Nat) (x : AV) : FEq ((d, x) :: F) (fset t d x) := fun e => by
  rw [fget_set]
  simp only [Frm.get]
  by_cases he : e = d
  · subst he; simp
  · rw [if_neg he, Tri.beq_f (Ne.symm he), cond_false]; exact h e
end Go.Proofs.Ythdpacbjbdkemaa.Aw
end
section
namespace Go.Proofs.Ythdpacbjbdkemaa.Aw
set_option linter.unusedSimpArgs false
set_option linter.unusedVariables false
open Go Go.RowKit
section
variable {P : Program} {o : Oper} {F : Frm} {σ : List Ob}

theorem does_max {x y : Operand} {t t' : TypeId} {k k' : IntKind} {m n c : Int} (ho : o.op = .call { callee := .builtin .max, args := #[x, y], argTypes := #[t, t'] }) (hx : F.eval x = .s (.int k m)) (hy : F.eval y = .s (.int k' n)) (hc : (if m < n then n else m) = c) : Does P o F σ (.s (.int k c)) σ :=
  does_val fun G ρ hr hop => by
    have h1 := hop x (by simp [ho, Op.operands, Call.operands])
    have h2 := hop y (by simp [ho, Op.operands, Call.operands])
    rw [hx] at h1
    rw [hy] at h2
    subst hc
    exact ⟨_, by simp [execOp, ho, resolve, invoke, builtin, rep_s h1, rep_s h2, run_max_int2], .s _⟩
theorem does_min {x y : Operand} {t t' : TypeId} {k k' : IntKind} {m n c : Int} (ho : o.op = .call { callee := .builtin .min, args := #[x, y], argTypes := #[t, t'] }) (hx : F.eval x = .s (.int k m)) (hy : F.eval y = .s (.int k' n)) (hc : (if n < m then n else m) = c) : Does P o F σ (.s (.int k c)) σ :=
  does_val fun G ρ hr hop => by
    have h1 := hop x (by simp [ho, Op.operands, Call.operands])
    have h2 := hop y (by simp [ho, Op.operands, Call.operands])
    rw [hx] at h1
    rw [hy] at h2
    subst hc
    exact ⟨_, by simp [execOp, ho, resolve, invoke, builtin, rep_s h1, rep_s h2, run_min_int2], .s _⟩

/-- bits -/
def bitsV (op : BinOp) (k : IntKind) (x y : Int) : Int := match op with
  | .and => k.wrap (BitVec.ofInt k.bits x &&& BitVec.ofInt k.bits y).toNat
  | .or => k.wrap (BitVec.ofInt k.bits x ||| BitVec.ofInt k.bits y).toNat
  | .xor => k.wrap (BitVec.ofInt k.bits x ^^^ BitVec.ofInt k.bits y).toNat
  | _ => k.wrap (BitVec.ofInt k.bits x &&& ~~~(BitVec.ofInt k.bits y)).toNat
theorem does_bits {b : BinOp} {t t' : TypeId} {x y : Operand} {k : IntKind} {m n c : Int} (ho : o.op = .binOp b t x y t') (hb : b = .and ∨ b = .or ∨ b = .xor ∨ b = .andNot) (hx : F.eval x = .s (.int k m)) (hy : F.eval y = .s (.int k n)) (hw : bitsV b k m n = c) : Does P o F σ (.s (.int k c)) σ :=
  does_bin ho hx hy fun w => run_intBin w (by rcases hb with rfl | rfl | rfl | rfl <;> simp) (by subst hw; rcases hb with rfl | rfl | rfl | rfl <;> simp [Op.intBits, bitsV])
theorem does_shift {b : BinOp} {t t' : TypeId} {x y : Operand} {k k' : IntKind} {m n c : Int} (ho : o.op = .binOp b t x y t') (hx : F.eval x = .s (.int k m)) (hy : F.eval y = .s (.int k' n)) (h0 : 0 ≤ n)
    (hw : (b = .shr ∧ m.fdiv (2 ^ min n.toNat k.bits) = c) ∨ (b = .shl ∧ k.wrap (m * 2 ^ min n.toNat k.bits) = c)) : Does P o F σ (.s (.int k c)) σ :=
  does_bin ho hx hy fun w => by
    have hn : ¬ (n < 0) := by omega
    have hg : (eqGuard b t x y (.int k m) (.int k' n)).run P w = .ok () w := by
      unfold eqGuard
      rcases hw with ⟨rfl, _⟩ | ⟨rfl, _⟩ <;> rfl
    rw [Sem.run_bind, hg, Result.andThen_ok]
    rcases hw with ⟨rfl, rfl⟩ | ⟨rfl, rfl⟩ <;> simp [binOp, Op.shift, hn]
theorem does_neqb {t t' : TypeId} {x y : Operand} {a b : Bool} (ht : P.underlying t = some .bool) (ho : o.op = .binOp .neq t x y t') (hx : F.eval x = .s (.bool a)) (hy : F.eval y = .s (.bool b)) : Does P o F σ (.s (.bool (!(a == b)))) σ :=
  does_bin ho hx hy fun w => by
    have h1 : ∀ d, (Op.equalIn (d + 1) t (.bool a) (.bool b)).run P w = .ok (a == b) w := fun d => by simp [Op.equalIn, run_underlying ht]
    have h2 : (Op.equal t (.bool a) (.bool b)).run P w = .ok (a == b) w := h1 9999
    have h3 : (binOp .neq t (.bool a) (.bool b) : Sem Value) = (do pure (.bool (!(← Op.equal t (.bool a) (.bool b))))) := rfl
    rw [Sem.run_bind, show (eqGuard .neq t x y (.bool a) (.bool b)).run P w = .ok () w from rfl, Result.andThen_ok, h3, Sem.run_bind, h2]
    rfl
/-- tests for nil -/
inductive NonNil : AV → Prop
  | own (id sz n : Nat) (h : 0 < n) : NonNil (.own id sz n)
  | sub (id sz k n : Nat) (h : 0 < n) : NonNil (.sub id sz k n)
  | sl (x : AV) (l : List AV) : NonNil (.sl (x :: l))
theorem nonNil_rep {G : Cx} {x : AV} {v : Value} (h : NonNil x) (hv : Rep G v x) : ∃ a n c, v = .slice (some a) n c := by
  cases h with
  | own id sz n h =>
    cases hv with
    | own0 => omega
    | own => exact ⟨_, _, _, rfl⟩
  | sub id sz k n h => cases hv with | sub _ _ _ _ b cap A hm hA _ => rw [hA h]; exact ⟨_, _, _, rfl⟩
  | sl x l => cases hv with | sl => exact ⟨_, _, _, rfl⟩
theorem run_nil_cmp {P : Program} {t e : TypeId} (ht : tySlice P t = some e) (x y : Operand) (A : Option Addr) (n c : Nat) (b : BinOp) (w : World) {r : Bool} (hr : (b = .eql ∧ r = A.isNone) ∨ (b = .neq ∧ r = !A.isNone)) : (do eqGuard b t x y (.slice A n c) (.slice none 0 0); binOp b t (.slice A n c) (.slice none 0 0) : Sem Value).run P w = .ok (.bool r) w := by
  have hg : (eqGuard b t x y (.slice A n c) (.slice none 0 0)).run P w = .ok () w := by
    unfold eqGuard
    rcases hr with ⟨rfl, _⟩ | ⟨rfl, _⟩ <;> rfl
  have he : (Op.equal t (.slice A n c) (.slice none 0 0)).run P w = .ok A.isNone w := by
    have key : ∀ d, (Op.equalIn (d + 1) t (.slice A n c) (.slice none 0 0)).run P w = .ok A.isNone w := fun d => by
      unfold Op.equalIn
      cases A <;> simp [run_underlying (slice_of ht)]
    exact key 9999
  rw [Sem.run_bind, hg, Result.andThen_ok]
  rcases hr with ⟨rfl, rfl⟩ | ⟨rfl, rfl⟩ <;> simp [binOp, he]
theorem does_eqnil {t t' e : TypeId} {x y : Operand} {u : AV} {b : BinOp} {r : Bool} (ho : o.op = .binOp b t x y t') (ht : tySlice P t = some e) (hx : F.eval x = u) (hu : NonNil u) (hy : F.eval y = .s (.slice none 0 0)) (hr : (b = .eql ∧ r = false) ∨ (b = .neq ∧ r = true)) : Does P o F σ (.s (.bool r)) σ :=
  does_val fun G ρ hrl hop => by
    have h1 := hop x (by simp [ho, Op.operands])
    have h2 := hop y (by simp [ho, Op.operands])
    rw [hx] at h1
    rw [hy] at h2
    obtain ⟨a, n, c, hv⟩ := nonNil_rep hu h1
    refine ⟨_, ?_, .s _⟩
    have h3 := run_nil_cmp (P := P) ht x y (some a) n c b G.w (r := r) (by simpa using hr)
    simp only [execOp, ho, hv, rep_s h2, Sem.run_bind] at h3 ⊢
    rw [h3]
    rfl
theorem does_eqnil0 {t t' e : TypeId} {x y : Operand} {b : BinOp} {r : Bool} (ho : o.op = .binOp b t x y t') (ht : tySlice P t = some e) (hx : F.eval x = .s (.slice none 0 0)) (hy : F.eval y = .s (.slice none 0 0)) (hr : (b = .eql ∧ r = true) ∨ (b = .neq ∧ r = false)) : Does P o F σ (.s (.bool r)) σ :=
  does_bin ho hx hy fun w => run_nil_cmp ht x y none 0 0 b w (by simpa using hr)
/-- a part of a row from an offset on -/
theorem does_slice_ol {t e : TypeId} {x y : Operand} {z : Option Value} {n bt : Nat} {id sz m : Nat} {k : IntKind} {i : Int} {l : Nat} (ho : o.op = .slice t x (some y) none none) (ht : tySlice P t = some e) (hi : tyInfo P e = some (z, n, bt)) (hn : n = sz) (hx : F.eval x = .own id sz m) (hm0 : 0 < m) (hy : F.eval y = .s (.int k i)) (hk : i = (l : Int)) (hl : l ≤ m) : Does P o F σ (.sub id sz l (m - l)) σ :=
  does_val fun G ρ hr hop => by
    have g1 := hop x (by simp [ho, Op.operands])
    have g2 := hop y (by simp [ho, Op.operands])
    rw [hx] at g1
    rw [hy] at g2
    have e2 := rep_s g2
    obtain ⟨q1, q2⟩ := elem_of ht
    subst hk hn
    generalize hv : ρ x = u at g1
    cases g1 with
    | own0 => omega
    | own _ _ _ b cap hm hn hc hb =>
      have h2 := run_slice_l (P := P) G.w t (some ⟨b, 0, none⟩) m cap q2 k (l : Int) (by omega) (by omega)
      refine ⟨sliced (some ⟨b, 0, none⟩) l m cap n, by simp only [execOp, ho, Option.map_some, Option.map_none, hv, e2, Sem.run_bind, run_sliceAt_slice (P := P) G.w t _ _ _ _ q2, h2, q1, run_sizeOf hi, Result.andThen_ok, Sem.run_pure, Int.toNat_natCast], ?_⟩
      refine .sub id n l (m - l) b (cap - l) _ hm (fun h0 => ?_) ⟨by omega, by omega, ?_⟩
      · have : ¬ (cap = l) := by omega
        simp [this, Addr.add_lit]
      · obtain ⟨cur, te, f, h3, h4⟩ := hb
        exact ⟨cur, te, f, h3, by rw [h4, show l + (cap - l) = cap by omega]; exact Nat.le_refl _⟩

/-- what is laid over a row -/
def laid (cs : List AV) (k : Nat) (l : List AV) : List AV := cs.take k ++ l ++ cs.drop (k + l.length)
theorem laid_nil (cs : List AV) (k : Nat) : laid cs k [] = cs := by simp [laid]
theorem laid_length {cs : List AV} {k : Nat} {l : List AV} (h : k + l.length ≤ cs.length) : (laid cs k l).length = cs.length := by simp [laid]; omega
theorem laid_get {cs : List AV} {k : Nat} {l : List AV} (h : k + l.length ≤ cs.length) (q : Nat) : (laid cs k l)[q]? = if q < k then cs[q]? else if q < k + l.length then l[q - k]? else cs[q]? := by
  have hk : (cs.take k).length = k := by simp; omega
  unfold laid
  by_cases h1 : q < k
  · rw [if_pos h1, List.append_assoc, List.getElem?_append_left (by omega), List.getElem?_take, if_pos h1]
  · rw [if_neg h1]
    by_cases h2 : q < k + l.length
    · rw [if_pos h2, List.getElem?_append_left (by simp only [List.length_append, hk]; omega), List.getElem?_append_right (by omega), hk]
    · rw [if_neg h2, List.getElem?_append_right (by simp only [List.length_append, hk]; omega), List.getElem?_drop]
      congr 1
      simp only [List.length_append, hk]; omega
/-- where a copy goes -/
inductive Dst (id sz k n : Nat) : AV → Prop
  | own (h : k = 0) : Dst id sz k n (.own id sz n)
  | sub : Dst id sz k n (.sub id sz k n)
theorem dst_rep {G : Cx} {id sz k n : Nat} {x : AV} {v : Value} (h : Dst id sz k n x) (hv : Rep G v x) : ∃ A cap, v = .slice A n cap ∧ (0 < n → ∃ b, G.mu id = some (some b) ∧ A = some ⟨b, k * sz, none⟩) := by
  cases h with
  | own h =>
    subst h
    cases hv with
    | own0 => exact ⟨_, _, rfl, fun h => absurd h (by omega)⟩
    | own _ _ _ b cap hm hn hc hb => exact ⟨_, _, rfl, fun _ => ⟨b, hm, by rw [Nat.zero_mul]⟩⟩
  | sub =>
    cases hv with
    | sub _ _ _ _ b cap A hm hA _ => exact ⟨_, _, rfl, fun h => ⟨b, hm, hA h⟩⟩
theorem run_copy_any {P : Program} {t ty e : TypeId} {z : Option Value} {sz bt : Nat} (ht : tySlice P t = some e) (hi : tyInfo P e = some (z, sz, bt)) (w : World) (B : Option Addr) (n dc : Nat)
    (A : Option Addr) (m c : Nat) (news : List Value) (hl : news.length = Nat.min m n * sz) (hA : A = none → Nat.min m n = 0) (hnews : ∀ a, A = some a → ∀ (j : Nat) u, news[j]? = some u → w.cell? (a.add j) = some u)
    {w' : World} (hw : ∀ a, B = some a → (storeCells a news).run P w = .ok () w') (hw0 : B = none → w' = w) :
    (Builtin.copy_ #[t, t] ty #[.slice B n dc, .slice A m c]).run P w = .ok (goInt (Nat.min m n)) w' := by
  have hf : (Builtin.firstCells sz (Nat.min m n) (.slice A m c)).run P w = .ok news.toArray w := by
    cases A with
    | none =>
      have := hA rfl
      rw [this, Nat.zero_mul] at hl
      have : news = [] := List.eq_nil_of_length_eq_zero hl
      subst this
      simp [Builtin.firstCells]
    | some a => exact run_firstCells_some (P := P) w sz _ a m c news hl (hnews a rfl)
  cases B with
  | none =>
    rw [hw0 rfl]
    simp [Builtin.copy_, run_underlying (slice_of ht), Builtin.lenOf, run_sizeOf hi, hf]
  | some a =>
    have h2 := hw a rfl
    simp [Builtin.copy_, run_underlying (slice_of ht), Builtin.lenOf, run_sizeOf hi, hf, h2]
theorem does_copy {t e : TypeId} {d s : Operand} {z : Option Value} {sz bt id k n : Nat} {x y' : AV} {cs l : List AV} (ho : o.op = .call { callee := .builtin .copy, args := #[d, s], argTypes := #[t, t] })
    (ht : tySlice P t = some e) (hi : tyInfo P e = some (z, sz, bt)) (hsz : 0 < sz) (hx : F.eval d = x) (hdst : Dst id sz k n x) (hs : σ[id]? = some (.row sz cs)) (hkn : k + n ≤ cs.length) (hy : F.eval s = y') (hsrc : Src σ sz y' l) :
    Does P o F σ (.s (.int .i64 (Nat.min l.length n : Nat))) (σ.set id (.row sz (laid cs k (l.take n)))) :=
  does_new (x := .any) fun G ρ hr hop => by
    have g1 := hop d (by simp [ho, Op.operands, Call.operands])
    have g2 := hop s (by simp [ho, Op.operands, Call.operands])
    rw [hx] at g1
    rw [hy] at g2
    obtain ⟨B, dc, hv, hB⟩ := dst_rep hdst g1
    obtain ⟨A, c, news, hv2, hvals⟩ := src_vals hsz hr hsrc g2
    have hnl : (news.take (Nat.min l.length n * sz)).length = Nat.min l.length n * sz := by
      rw [List.length_take, hvals.len]
      exact Nat.min_eq_left (Nat.mul_le_mul_right _ (Nat.min_le_left _ _))
    have hnews : ∀ a, A = some a → ∀ (j : Nat) u, (news.take (Nat.min l.length n * sz))[j]? = some u → G.w.cell? (a.add j) = some u := fun a ha j u hu => by
      rw [List.getElem?_take] at hu
      split at hu
      · exact hvals.at_ a ha j u hu
      · cases hu
    have hA0 : A = none → Nat.min l.length n = 0 := fun h => by rw [hvals.nil h]; exact Nat.zero_min n
    have hrun : ∀ w', (∀ a, B = some a → (storeCells a (news.take (Nat.min l.length n * sz))).run P G.w = .ok () w') → (B = none → w' = G.w) → (execOp ρ o).run P G.w = .ok (.value (.int .i64 (Nat.min l.length n : Nat))) w' := fun w' h1 h2 => by
      have := run_copy_any (P := P) (ty := o.type) ht hi G.w B n dc A l.length c _ hnl hA0 hnews h1 h2
      simp [execOp, ho, resolve, invoke, builtin, hv, hv2, this, goInt]
    by_cases h0 : Nat.min l.length n = 0
    · have ht0 : l.take n = [] := by
        apply List.eq_nil_of_length_eq_zero
        rw [List.length_take]; exact (Nat.min_comm _ _).trans h0
      have hn0 : news.take (Nat.min l.length n * sz) = [] := by rw [h0, Nat.zero_mul, List.take_zero]
      refine ⟨_, G, hrun G.w (fun a _ => by rw [hn0]; rfl) (fun _ => rfl), .refl G, ?_, by rw [h0]; exact .s _⟩
      rw [ht0, laid_nil]
      have : σ.set id (.row sz cs) = σ := by
        apply List.ext_getElem?
        intro i
        by_cases h : id = i
        · subst h; rw [List.getElem?_set_self (List.getElem?_eq_some_iff.1 hs).1, hs]
        · rw [List.getElem?_set_ne h]
      rw [this]; exact hr
    · have hn : 0 < n := by
        rcases Nat.eq_zero_or_pos n with h | h
        · subst h; simp at h0
        · exact h
      obtain ⟨b, hm, rfl⟩ := hB hn
      have h6 := hr.obs id _ hs
      simp only [ObOk, hm] at h6
      obtain ⟨⟨cur, te, fr, h7, rfl, h8, h9⟩, h10, h11⟩ := h6
      have hlt : (l.take n).length = Nat.min l.length n := by rw [List.length_take]; exact Nat.min_comm _ _
      obtain ⟨q, hq⟩ : ∃ q, Nat.min l.length n = q := ⟨_, rfl⟩
      have hqn : q ≤ n := by rw [← hq]; exact Nat.min_le_right _ _
      have hql : q ≤ l.length := by rw [← hq]; exact Nat.min_le_left _ _
      rw [hq] at hnl hrun hlt
      have hfit : k * sz + q * sz ≤ cur.size := by
        have : (k + q) * sz ≤ cs.length * sz := Nat.mul_le_mul_right _ (by omega)
        rw [Nat.add_mul] at this; omega
      have hst := run_storeCells_at P b (k * sz) te (news.take (q * sz)) 0 cur G.w h7 (by rw [hnl]; omega) (fun u hu => hvals.one u (List.mem_of_mem_take hu))
      simp only [Nat.add_zero, hnl] at hst
      obtain ⟨nc, hnc⟩ : ∃ nc : Array Value, nc = (cur.toList.take (k * sz) ++ news.take (q * sz) ++ cur.toList.drop (k * sz + q * sz)).toArray := ⟨_, rfl⟩
      rw [← hnc] at hst
      have hncs : nc.size = cur.size := by
        rw [hnc]
        simp only [List.size_toArray, List.length_append, List.length_drop, Array.length_toList, hnl]
        rw [List.length_take, Array.length_toList]
        omega
      have hlay : k + (l.take n).length ≤ cs.length := by rw [hlt]; omega
      refine ⟨_, { G with w := G.w.setRow b nc }, hrun _ (fun a ha => by cases ha; exact hst) (fun h => by cases h), write_ext hr hs hm h7 hncs, write_rel hr hs hm h7 hncs (by rw [laid_length hlay, hncs]; exact h8) ?_, by rw [hq]; exact .s _⟩
      have hget : ∀ i, nc[i]? = if i < k * sz then cur[i]? else if i < k * sz + q * sz then news[i - k * sz]? else cur[i]? := by
        intro i
        have ha : (cur.toList.take (k * sz)).length = k * sz := by rw [List.length_take, Array.length_toList]; omega
        rw [hnc]
        simp only [List.getElem?_toArray]
        by_cases hi1 : i < k * sz
        · rw [if_pos hi1, List.append_assoc, List.getElem?_append_left (by omega), List.getElem?_take, if_pos hi1, Array.getElem?_toList]
        · rw [if_neg hi1]
          by_cases hi2 : i < k * sz + q * sz
          · rw [if_pos hi2, List.getElem?_append_left (by simp only [List.length_append, ha, hnl]; omega), List.getElem?_append_right (by omega), ha, List.getElem?_take, if_pos (by omega)]
          · rw [if_neg hi2, List.getElem?_append_right (by simp only [List.length_append, ha, hnl]; omega), List.getElem?_drop, Array.getElem?_toList]
            congr 1
            simp only [List.length_append, ha, hnl]; omega
      intro i x' hx'
      rw [laid_get hlay, hlt] at hx'
      by_cases hi1 : i < k
      · rw [if_pos hi1] at hx'
        obtain ⟨a1, a2, a3⟩ := h9 i x' hx'
        refine ⟨a1, a2, fun j c hc => ?_⟩
        obtain ⟨v, b1, b2⟩ := a3 j c hc
        refine ⟨v, ?_, b2⟩
        have hj : j < sz := by have := (List.getElem?_eq_some_iff.1 hc).1; omega
        have : (i + 1) * sz ≤ k * sz := Nat.mul_le_mul_right _ hi1
        rw [Nat.add_mul] at this
        rw [hget, if_pos (by omega)]; exact b1
      · rw [if_neg hi1] at hx'
        by_cases hi2 : i < k + q
        · rw [if_pos hi2, List.getElem?_take, if_pos (by omega)] at hx'
          obtain ⟨a1, a2, a3⟩ := hvals.rep (i - k) x' hx'
          refine ⟨a1, a2, fun j c hc => ?_⟩
          obtain ⟨v, b1, b2⟩ := a3 j c hc
          refine ⟨v, ?_, b2⟩
          have hj : j < sz := by have := (List.getElem?_eq_some_iff.1 hc).1; omega
          have e1 : (i - k) * sz = i * sz - k * sz := Nat.sub_mul _ _ _
          have e2 : k * sz ≤ i * sz := Nat.mul_le_mul_right _ (by omega)
          have e3 : (i + 1) * sz ≤ (k + q) * sz := Nat.mul_le_mul_right _ hi2
          rw [Nat.add_mul, Nat.add_mul] at e3
          rw [hget, if_neg (by omega), if_pos (by omega)]
          rw [show i * sz + j - k * sz = (i - k) * sz + j by omega]; exact b1
        · rw [if_neg hi2] at hx'
          obtain ⟨a1, a2, a3⟩ := h9 i x' hx'
          refine ⟨a1, a2, fun j c hc => ?_⟩
          obtain ⟨v, b1, b2⟩ := a3 j c hc
          refine ⟨v, ?_, b2⟩
          have : (k + q) * sz ≤ i * sz := Nat.mul_le_mul_right _ (by omega)
          rw [Nat.add_mul] at this
          rw [hget, if_neg (by omega), if_neg (by omega)]; exact b1
end
end Go.Proofs.Ythdpacbjbdkemaa.Aw
end
section
namespace Go.Proofs.Ythdpacbjbdkemaa.Aw
set_option linter.unusedSimpArgs false
set_option linter.unusedVariables false
open Go.RowKit

def tyArr (P : Program) (t : TypeId) : Option (Nat × TypeId) := match P.underlying t with | some (.array n e) => some (n, e) | _ => none
theorem tyarr_of {P : Program} {t e : TypeId} {m : Nat} (h : tyArr P t = some (m, e)) : P.underlying t = some (.array m e) := by
  unfold tyArr at h
  split at h
  · rename_i n e' hu
    cases h; exact hu
  · cases h
section
variable {P : Program} {o : Oper} {F : Frm} {σ : List Ob}
theorem run_indexArr {t e : TypeId} {z : Option Value} {sz bt m : Nat} (ht : tyArr P t = some (m, e)) (he : tyInfo P e = some (z, sz, bt)) (b i : Nat) (kd : IntKind) (n : Int) (h0 : 0 ≤ n) (h1 : n < m) (w : World) :
    (Instr.indexAt t (.pointer (some ⟨b, i, none⟩)) (.int kd n)).run P w = .ok (.pointer (some ⟨b, i + n.toNat * sz, none⟩)) w := by
  simp [Instr.indexAt, asIntOf, run_underlying (tyarr_of ht), Instr.sureAddr, h0, h1, run_sizeOf he, Addr.add_lit]
theorem does_index_aptr {t e : TypeId} {x y : Operand} {z : Option Value} {sz bt m : Nat} {id s k j : Nat} {kd : IntKind} {n : Int} {i : Nat} (ho : o.op = .indexAddr t x y) (ht : tyArr P t = some (m, e)) (he : tyInfo P e = some (z, sz, bt))
    (hx : F.eval x = .ptr id s k j) (hy : F.eval y = .s (.int kd n)) (hk : n = (i : Int)) (hi : i < m) : Does P o F σ (.ptr id s k (j + i * sz)) σ :=
  does_val fun G ρ hr hop => by
    have h1 := hop x (by simp [ho, Op.operands])
    have h2 := hop y (by simp [ho, Op.operands])
    rw [hx] at h1
    rw [hy] at h2
    have hyv := rep_s h2
    subst hk
    generalize hv : ρ x = u at h1
    cases h1 with
    | ptr _ _ _ _ b hm =>
      refine ⟨.pointer (some ⟨b, k * s + j + i * sz, none⟩), ?_, ?_⟩
      · simp only [execOp, ho, hv, hyv, Sem.run_bind, run_indexArr ht he b _ kd (i : Int) (by omega) (by omega), Result.andThen_ok, Sem.run_pure, Int.toNat_natCast]
      · rw [Nat.add_assoc]
        exact .ptr id s k (j + i * sz) b hm
theorem does_index_aref {t e : TypeId} {x y : Operand} {z : Option Value} {sz bt m : Nat} {cs : List AV} {kd : IntKind} {n : Int} {i : Nat} (ho : o.op = .indexAddr t x y) (ht : tyArr P t = some (m, e)) (he : tyInfo P e = some (z, sz, bt))
    (hx : F.eval x = .ref cs) (hy : F.eval y = .s (.int kd n)) (hk : n = (i : Int)) (hi : i < m) : Does P o F σ (.ref (cs.drop (i * sz))) σ :=
  does_val fun G ρ hr hop => by
    have h1 := hop x (by simp [ho, Op.operands])
    have h2 := hop y (by simp [ho, Op.operands])
    rw [hx] at h1
    rw [hy] at h2
    have hyv := rep_s h2
    subst hk
    generalize hv : ρ x = u at h1
    cases h1 with
    | ref b q _ val hone h3 h =>
      refine ⟨.pointer (some ⟨b, q + i * sz, none⟩), by simp only [execOp, ho, hv, hyv, Sem.run_bind, run_indexArr ht he b _ kd (i : Int) (by omega) (by omega), Result.andThen_ok, Sem.run_pure, Int.toNat_natCast], ?_⟩
      refine .ref b (q + i * sz) _ (fun j => val (i * sz + j)) (fun c hc => hone c (List.mem_of_mem_drop hc)) (fun j c hj => ?_) (fun j c hj => ?_)
      · rw [List.getElem?_drop] at hj
        rw [Nat.add_assoc]
        exact h3 _ c hj
      · rw [List.getElem?_drop] at hj
        exact h _ c hj
theorem does_build_arr {t e : TypeId} {parts : Array (Nat × Operand)} {z : Value} {n bt m sz be : Nat} {ze : Option Value} {cs : List AV} (ho : o.op = .build t parts) (hi : tyInfo P t = some (some z, n, bt)) (ht : tyArr P t = some (m, e)) (he : tyInfo P e = some (ze, sz, be))
    (h1 : (ofValue z).cells.all AV.one = true) (hf : fillA (fun i => some (i * sz, sz)) (ofValue z).cells (parts.toList.map fun (i, x) => (i, F.eval x)) = some cs) : Does P o F σ (.agg cs) σ :=
  does_val fun G ρ hr hop => by
    obtain ⟨i, h2, h3, h4, h5⟩ := info_of hi
    obtain ⟨vs, h6, h7⟩ := fill_rep (G := G) (place := (fun i => some (i * sz, sz))) (parts.map fun (i, x) => (i, ρ x)).toList _ z.cells _ cs (repl_const G z h1) (by simp) (parts_rep (fun y hy => hop y (by simpa [ho, Op.operands] using hy))) hf
    have h8 : (Instr.build t (parts.map fun (i, x) => (i, ρ x))).run P G.w = .ok (.agg vs) G.w := by
      simp [Instr.build, zeroValue, typeInfo, h2, h3, run_underlying (tyarr_of ht), run_sizeOf he]
      simp at h6
      rw [h6]
      rfl
    exact ⟨.agg vs, by simp only [execOp, ho, Sem.run_bind, h8, Result.andThen_ok, Sem.run_pure], .agg vs cs h7.size h7.one h7.rep⟩
/-- fewer elements told of a row -/
theorem trunc_rel {G : Cx} {id sz n : Nat} {cs : List AV} (hr : Rel G σ) (hs : σ[id]? = some (.row sz cs)) : Rel G (σ.set id (.row sz (cs.take n))) := by
  have hlt := (List.getElem?_eq_some_iff.1 hs).1
  have al : ∀ i, alive (σ.set id (.row sz (cs.take n))) i → alive σ i := by
    rintro i ⟨sz', cs', h⟩
    by_cases hi : id = i
    · subst hi; exact ⟨sz, cs, hs⟩
    · rw [List.getElem?_set_ne hi] at h
      exact ⟨sz', cs', h⟩
  refine ⟨hr.below, hr.le, hr.st, fun i ob hob => ?_, fun i j b hi hj => hr.inj i j b (al i hi) (al j hj), fun i hi => hr.fresh i (by simpa using hi)⟩
  by_cases hi : id = i
  · subst hi
    rw [List.getElem?_set_self hlt] at hob
    cases hob
    have h1 := hr.obs id _ hs
    simp only [ObOk] at h1 ⊢
    cases hx : G.mu id with
    | none => rw [hx] at h1; exact h1
    | some x =>
      rw [hx] at h1
      cases x with
      | none => simp only at h1 ⊢; subst h1; simp
      | some b =>
        obtain ⟨⟨cur, e, fr, g1, g2, g3, g4⟩, h2⟩ := h1
        refine ⟨⟨cur, e, fr, g1, g2, ?_, fun k x hk => ?_⟩, h2⟩
        · exact Nat.le_trans (Nat.mul_le_mul_right _ (by rw [List.length_take]; omega)) g3
        · rw [List.getElem?_take] at hk
          split at hk
          · exact g4 k x hk
          · cases hk
  · rw [List.getElem?_set_ne hi] at hob
    exact hr.obs i ob hob
theorem does_trunc {id sz n : Nat} {cs : List AV} {x : AV} {σ' : List Ob} (hs : σ[id]? = some (.row sz cs)) (h : Does P o F (σ.set id (.row sz (cs.take n))) x σ') : Does P o F σ x σ' := fun G a next Q hr hop hn =>
  h G a next Q (trunc_rel hr hs) hop hn
theorem does_len_sub {t e : TypeId} {x : Operand} {id sz q n : Nat} (ho : o.op = .call { callee := .builtin .len, args := #[x], argTypes := #[t] }) (ht : tySlice P t = some e) (hx : F.eval x = .sub id sz q n) : Does P o F σ (.s (.int .i64 (n : Nat))) σ :=
  does_val fun G ρ hr hop => by
    have h1 := hop x (by simp [ho, Op.operands, Call.operands])
    rw [hx] at h1
    generalize hv : ρ x = v at h1
    cases h1 with
    | sub _ _ _ _ b cap A hm hA _ => exact ⟨_, run_len_slice ht ho ρ _ _ _ hv _, .s _⟩
theorem does_index_sub {t e : TypeId} {x y : Operand} {z : Option Value} {sz bt : Nat} {id q m : Nat} {kd : IntKind} {n : Int} {k : Nat} (ho : o.op = .indexAddr t x y) (ht : tySlice P t = some e) (he : tyInfo P e = some (z, sz, bt))
    (hx : F.eval x = .sub id sz q m) (hy : F.eval y = .s (.int kd n)) (hk : n = (k : Int)) (hu : k < m) : Does P o F σ (.ptr id sz (q + k) 0) σ :=
  does_val fun G ρ hr hop => by
    have h1 := hop x (by simp [ho, Op.operands])
    have h2 := hop y (by simp [ho, Op.operands])
    rw [hx] at h1
    rw [hy] at h2
    have hyv := rep_s h2
    subst hk
    generalize hv : ρ x = v at h1
    cases h1 with
    | sub _ _ _ _ b cap A hm hA _ =>
      have hA := hA (by omega)
      subst hA
      refine ⟨.pointer (some ⟨b, (q + k) * sz + 0, none⟩), ?_, .ptr id sz (q + k) 0 b hm⟩
      simp only [execOp, ho, hv, hyv, Sem.run_bind, run_indexAt ht he b _ m cap kd (k : Int) (by omega) (by omega), Result.andThen_ok, Sem.run_pure, Int.toNat_natCast, Nat.add_zero, Nat.add_mul]
end
end Go.Proofs.Ythdpacbjbdkemaa.Aw
end
section
namespace Go.Proofs.Ythdpacbjbdkemaa
set_option linter.unusedSimpArgs false
set_option linter.unusedVariables false
open Go.RowKit
section
variable {P : Program} {pre : List Oper} {last : Oper} {Q : Exit → Act → World → Prop} {S : World → Prop}
/-- what has come up has come up after all that it waits for -/
def Clo (pre : List Oper) (L : Array Bool) : Prop := ∀ (k : Nat) (o : Oper), pre[k]? = some o → L.getD k false = true → ∀ e ∈ o.after, Region.binds .any e = true → L.getD e.on false = true
theorem Clo.none (n : Nat) : Clo pre (Array.replicate n false) := by
  intro k o _ h
  rw [Array.getD_eq_getD_getElem?, Array.getElem?_replicate] at h
  split at h <;> simp at h
theorem Clo.step {L : Array Bool} {i : Nat} (h : Clo pre L) (hL : L.size = pre.length) (hi : i ∈ Region.ready .any pre.toArray L) : Clo pre (L.setIfInBounds i true) := by
  intro k o hk hd e he hb
  have hmono : ∀ j, L.getD j false = true → (L.setIfInBounds i true).getD j false = true := by
    intro j hj
    rw [Array.getD_eq_getD_getElem?] at hj ⊢
    rw [Array.getElem?_setIfInBounds]
    split
    · rename_i e; subst e
      split
      · rfl
      · rename_i h3
        rw [Array.getElem?_eq_none (by omega)] at hj
        cases hj
    · exact hj
  apply hmono
  by_cases hik : i = k
  · subst hik
    obtain ⟨_, o2, ho2, hall⟩ := mem_ready.1 hi
    rw [List.getElem?_toArray, hk] at ho2
    cases ho2
    exact hall e he hb
  · refine h k o hk ?_ e he hb
    rw [Array.getD_eq_getD_getElem?] at hd ⊢
    rw [Array.getElem?_setIfInBounds, if_neg hik] at hd
    exact hd
end
end Go.Proofs.Ythdpacbjbdkemaa
namespace Go.Proofs.Ythdpacbjbdkemaa.Aw
open Go.RowKit
variable {P : Program} {N : Nat} {l : List Oper} {F : Frm} {σ : List Ob} {Q : Exit → Frm → List Ob → Prop}
end Go.Proofs.Ythdpacbjbdkemaa.Aw
end
section
namespace Go.Proofs.Ythdpacbjbdkemaa.Aw
set_option linter.unusedSimpArgs false
set_option linter.unusedVariables false
open Go Go.Proofs Go.RowKit

section
variable {P : Program} {N : Nat} {ops : Array Oper} {o : Oper} {l : List Oper} {F : Frm} {σ : List Ob} {Q : Exit → Frm → List Ob → Prop}
end

/-- scalars' kinds, field by field -/
inductive SK where | i | b | s
def skOf : TypeDesc → Option SK
  | .int _ => some .i
  | .bool => some .b
  | .string => some .s
  | _ => none
def fsK (P : Program) : List Field → Nat → Option (List SK)
  | [], _ => some []
  | f :: fs, k => if f.name == "_" || f.offset != k then none else
    match (P.underlying f.type).bind skOf, fsK P fs (k + 1) with
    | some a, some l => some (a :: l)
    | _, _ => none
def tyEqK (P : Program) (t : TypeId) : Option (List SK) :=
  match P.underlying t with
  | some (.struct fs) => if P.eqGuardType P.depth t || P.stoodInHeld t then none else fsK P fs.toList 0
  | _ => none
def vK : SK → Value → Value → Bool
  | .i, .int k _, .int k' _ => decide (k = k')
  | .b, .bool _, .bool _ => true
  | .s, .string _, .string _ => true
  | _, _, _ => false
def vKs : List SK → List Value → List Value → Bool
  | [], [], [] => true
  | k :: ks, u :: us, v :: vs => vK k u v && vKs ks us vs
  | _, _, _ => false
def unS : AV → Value
  | .s v => v
  | _ => undef
def isS : AV → Bool
  | .s _ => true
  | _ => false
noncomputable def eqL (us vs : List Value) : Bool := @decide (us = vs) (Classical.propDecidable _)
theorem eqSc {P : Program} (w : World) (d : Nat) {t : TypeId} {T : TypeDesc} (hT : P.underlying t = some T) {a : SK} (ha : skOf T = some a) {u v : Value} (hv : vK a u v = true) : (Op.equalIn (d + 1) t u v).run P w = .ok (@decide (u = v) (Classical.propDecidable _)) w := by
  cases T with
  | int kk =>
    cases ha
    cases u with
    | int k1 a1 =>
      cases v with
      | int k2 a2 =>
        obtain rfl : k1 = k2 := by simpa [vK] using hv
        rw [run_equalIn_int w d t _ _ _ _ hT]
        by_cases h : a1 = a2
        · subst h; simp
        · have : ¬ (Value.int k1 a1 = Value.int k1 a2) := fun e => h (by injection e)
          simp [h]
      | _ => simp [vK] at hv
    | _ => simp [vK] at hv
  | bool =>
    cases ha
    cases u with
    | bool a1 =>
      cases v with
      | bool a2 =>
        rw [run_equalIn_bool w d t _ _ hT]
        cases a1 <;> cases a2 <;> simp
      | _ => simp [vK] at hv
    | _ => simp [vK] at hv
  | string =>
    cases ha
    cases u with
    | string a1 =>
      cases v with
      | string a2 =>
        rw [run_equalIn_string w d t _ _ hT]
        by_cases h : a1 = a2
        · subst h; simp
        · have h2 : (a1.toList == a2.toList) = false := by simpa [toList_inj] using h
          rw [h2]
          simp [h]
      | _ => simp [vK] at hv
    | _ => simp [vK] at hv
  | _ => simp [skOf] at ha
theorem eqF {P : Program} (w : World) (d : Nat) (xs ys : Array Value) : ∀ (fs : List Field) (k : Nat) (ks : List SK) (us vs : List Value), fsK P fs k = some ks → vKs ks us vs = true →
    (∀ j, j < us.length → xs[k + j]? = us[j]?) → (∀ j, j < vs.length → ys[k + j]? = vs[j]?) → (Op.eqFields (d + 1) xs ys fs).run P w = .ok (eqL us vs) w
  | [], k, ks, us, vs, h, hv, hx, hy => by
    simp only [fsK, Option.some.injEq] at h
    subst h
    cases us <;> cases vs <;> simp [vKs] at hv
    simp [Op.eqFields, eqL]
  | f :: fs, k, ks, us, vs, h, hv, hx, hy => by
    unfold fsK at h
    split at h
    · cases h
    · rename_i hn
      split at h
      · rename_i a l ha hl
        cases h
        match us, vs, hv with
        | u :: us, v :: vs, hv =>
          simp only [vKs, Bool.and_eq_true] at hv
          obtain ⟨hv1, hv2⟩ := hv
          simp only [Bool.or_eq_true, beq_iff_eq, bne_iff_ne, ne_eq, not_or, Decidable.not_not] at hn
          obtain ⟨hn1, hn2⟩ := hn
          have ih := eqF w d xs ys fs (k + 1) l us vs hl hv2 (fun j hj => by have := hx (j + 1) (by simpa using hj); rw [show k + 1 + j = k + (j + 1) by omega]; simpa using this) (fun j hj => by have := hy (j + 1) (by simpa using hj); rw [show k + 1 + j = k + (j + 1) by omega]; simpa using this)
          have hx0 := hx 0 (by simp)
          have hy0 := hy 0 (by simp)
          simp only [Nat.add_zero, List.getElem?_cons_zero] at hx0 hy0
          obtain ⟨T, hT, hTk⟩ : ∃ T, P.underlying f.type = some T ∧ skOf T = some a := by
            cases hT : P.underlying f.type with
            | none => rw [hT] at ha; cases ha
            | some T => rw [hT] at ha; exact ⟨T, rfl, ha⟩
          have hagg : ∀ cs off x, cs[off]? = some x → (part f.type cs off).run P w = .ok x w := by
            intro cs off x hc
            cases T <;> simp [skOf] at hTk <;> simp [part, isAgg, run_underlying hT, hc]
          have key : (Op.equalIn (d + 1) f.type u v).run P w = .ok (@decide (u = v) (Classical.propDecidable _)) w := eqSc w d hT hTk hv1
          unfold Op.eqFields
          rw [if_pos hn1, hn2]
          simp only [Sem.run_bind, hagg xs k u hx0, hagg ys k v hy0, Result.andThen_ok, key, Sem.run_ite]
          by_cases h : u = v
          · subst h
            rw [if_neg (by simp), ih]
            unfold eqL
            by_cases h2 : us = vs
            · simp [h2]
            · simp [h2]
          · rw [if_pos (by simp [h])]
            simp [eqL, h]
        | [], _, hv => simp [vKs] at hv
        | _ :: _, [], hv => simp [vKs] at hv
      · cases h
section
variable {P : Program} {o : Oper} {F : Frm} {σ : List Ob}
theorem agg_vals {G : Cx} {u : Value} {cs : List AV} (h : Rep G u (.agg cs)) (hc : cs.all isS = true) : ∃ xs : Array Value, u = .agg xs ∧ ∀ j, j < (cs.map unS).length → xs[j]? = (cs.map unS)[j]? := by
  cases h with
  | agg vs _ hl h1 hr =>
    refine ⟨vs, rfl, fun j hj => ?_⟩
    have hj2 : j < cs.length := by simpa using hj
    have hj3 : j < vs.size := by omega
    have h2 := hr j vs[j] cs[j] (Array.getElem?_eq_getElem hj3) (List.getElem?_eq_getElem hj2)
    have h3 : isS cs[j] = true := by rw [List.all_eq_true] at hc; exact hc _ (List.getElem_mem hj2)
    rw [List.getElem?_map, List.getElem?_eq_getElem hj2, Array.getElem?_eq_getElem hj3]
    generalize cs[j] = c at *
    cases c <;> simp [isS] at h3
    rw [rep_s h2]; rfl
theorem eqa_run {P : Program} {t : TypeId} {ks : List SK} {xs ys : Array Value} {us vs : List Value} (hk : tyEqK P t = some ks) (hv : vKs ks us vs = true) (hx : ∀ j, j < us.length → xs[j]? = us[j]?) (hy : ∀ j, j < vs.length → ys[j]? = vs[j]?) (x y : Operand) (b : BinOp) (w : World) :
    (eqGuard b t x y (.agg xs) (.agg ys)).run P w = .ok () w ∧ (Op.equalIn 10000 t (.agg xs) (.agg ys)).run P w = .ok (eqL us vs) w := by
  unfold tyEqK at hk
  split at hk
  · rename_i fs hu
    split at hk
    · cases hk
    · rename_i hg
      simp only [Bool.or_eq_true, not_or, Bool.not_eq_true] at hg
      have hfo : P.fieldsOf t = fs := by unfold Program.fieldsOf; rw [hu]
      refine ⟨run_eqGuard_agg w b t x y xs ys hg.1, ?_⟩
      have h1 := run_equalIn_struct (P := P) w 9999 t xs ys (by rw [hfo]; exact hu) hg.2
      rw [hfo] at h1
      rw [show (10000 : Nat) = 9999 + 1 from rfl, h1]
      exact eqF w 9998 xs ys fs.toList 0 ks us vs hk hv (fun j hj => by rw [Nat.zero_add]; exact hx j hj) (fun j hj => by rw [Nat.zero_add]; exact hy j hj)
  · cases hk
theorem does_eqa {t t' : TypeId} {x y : Operand} {cs ds : List AV} {ks : List SK} (ho : o.op = .binOp .eql t x y t') (hx : F.eval x = .agg cs) (hy : F.eval y = .agg ds) (hk : tyEqK P t = some ks) (hv : vKs ks (cs.map unS) (ds.map unS) = true) (hc : cs.all isS = true) (hd : ds.all isS = true) :
    Does P o F σ (.s (.bool (@decide (cs.map unS = ds.map unS) (Classical.propDecidable _)))) σ :=
  does_val fun G ρ hr hop => by
    have h1 := hop x (by simp [ho, Op.operands])
    have h2 := hop y (by simp [ho, Op.operands])
    rw [hx] at h1
    rw [hy] at h2
    obtain ⟨xs, e1, g1⟩ := agg_vals h1 hc
    obtain ⟨ys, e2, g2⟩ := agg_vals h2 hd
    obtain ⟨r1, r2⟩ := eqa_run hk hv g1 g2 x y .eql G.w
    refine ⟨_, ?_, .s _⟩
    simp only [execOp, ho, e1, e2, Sem.run_bind]
    rw [r1]
    simp only [Result.andThen_ok, run_eql_struct, r2]
    rfl
theorem does_nea {t t' : TypeId} {x y : Operand} {cs ds : List AV} {ks : List SK} (ho : o.op = .binOp .neq t x y t') (hx : F.eval x = .agg cs) (hy : F.eval y = .agg ds) (hk : tyEqK P t = some ks) (hv : vKs ks (cs.map unS) (ds.map unS) = true) (hc : cs.all isS = true) (hd : ds.all isS = true) :
    Does P o F σ (.s (.bool (@decide (cs.map unS ≠ ds.map unS) (Classical.propDecidable _)))) σ :=
  does_val fun G ρ hr hop => by
    have h1 := hop x (by simp [ho, Op.operands])
    have h2 := hop y (by simp [ho, Op.operands])
    rw [hx] at h1
    rw [hy] at h2
    obtain ⟨xs, e1, g1⟩ := agg_vals h1 hc
    obtain ⟨ys, e2, g2⟩ := agg_vals h2 hd
    obtain ⟨r1, r2⟩ := eqa_run hk hv g1 g2 x y .neq G.w
    refine ⟨.bool (!(eqL (cs.map unS) (ds.map unS))), ?_, ?_⟩
    · simp only [execOp, ho, e1, e2, Sem.run_bind]
      rw [r1]
      simp only [Result.andThen_ok, run_neq_struct, r2]
      rfl
    · have : (!(eqL (cs.map unS) (ds.map unS))) = @decide (cs.map unS ≠ ds.map unS) (Classical.propDecidable _) := by
        unfold eqL
        by_cases h : cs.map unS = ds.map unS <;> simp [h]
      rw [this]
      exact .s _
end
end Go.Proofs.Ythdpacbjbdkemaa.Aw
end
section
namespace Go.Proofs.Ythdpacbjbdkemaa.Aw
set_option linter.unusedSimpArgs false
set_option linter.unusedVariables false
open Go.RowKit

abbrev ER := AV × Sto × Kd
inductive OpOk (P : Program) (o : Oper) (F : Frm) (s : Sto) : ER → Prop
  | free (x : AV) (h : ∀ σ, Does P o F σ x σ) : OpOk P o F s (x, s, .free)
  | look (x : AV) (R : List Nat) (h : ∀ σ2, (∀ id ∈ R, σ2[id]? = s.abs[id]?) → Does P o F σ2 x σ2) : OpOk P o F s (x, s, .look R)
  | eff (x : AV) (s1 : Sto) (W : List Nat) (h : Does P o F s.abs x s1.abs) (hW : ∀ id, id ∉ W → s1.abs[id]? = s.abs[id]?) : OpOk P o F s (x, s1, .eff W)
theorem OpOk.does {P : Program} {o : Oper} {F : Frm} {s s' : Sto} {x : AV} {k : Kd} (h : OpOk P o F s (x, s', k)) : Does P o F s.abs x s'.abs := by
  cases h with
  | free _ h => exact h s.abs
  | look _ R h => exact h s.abs (fun _ _ => rfl)
  | eff _ _ _ h => exact h
def evBool (P : Program) (t : TypeId) : Bool := match P.underlying t with | some .bool => true | _ => false
theorem bool_of {P : Program} {t : TypeId} (h : evBool P t = true) : P.underlying t = some .bool := by
  unfold evBool at h
  split at h
  · assumption
  · cases h
theorem eqb_of {k k' : IntKind} (h : decide (k = k') = true) : k = k' := of_decide_eq_true h

/-! ## numbers and tests -/
def intBin (b : BinOp) (k : IntKind) (m n : Int) : Option Value := match b with
  | .add => some (.int k (k.wrap (m + n)))
  | .sub => some (.int k (k.wrap (m - n)))
  | .mul => some (.int k (k.wrap (m * n)))
  | .quo => bif decide (n = 0) then none else some (.int k (k.wrap (m.tdiv n)))
  | .rem => bif decide (n = 0) then none else some (.int k (m.tmod n))
  | .lss => some (.bool (decide (m < n)))
  | .leq => some (.bool (decide (m ≤ n)))
  | .gtr => some (.bool (decide (n < m)))
  | .geq => some (.bool (decide (n ≤ m)))
  | .eql => some (.bool (decide (m = n)))
  | .neq => some (.bool (decide (m ≠ n)))
  | .and => some (.int k (bitsV .and k m n))
  | .or => some (.int k (bitsV .or k m n))
  | .xor => some (.int k (bitsV .xor k m n))
  | .andNot => some (.int k (bitsV .andNot k m n))
  | _ => none
def strBin (b : BinOp) (a c : ByteArray) : Option Value := match b with
  | .eql => some (.bool (decide (a = c)))
  | .neq => some (.bool (decide (a ≠ c)))
  | .lss => some (.bool (Op.bytesLess a.toList c.toList))
  | .gtr => some (.bool (!(Op.bytesLess a.toList c.toList || decide (a = c))))
  | _ => none
def veq : List Value → List Value → Option Bool
  | [], [] => some true
  | .int _ m :: us, .int _ n :: vs => match veq us vs with | some b => some (decide (m = n) && b) | none => none
  | .bool m :: us, .bool n :: vs => match veq us vs with | some b => some ((m == n) && b) | none => none
  | .string m :: us, .string n :: vs => match veq us vs with | some b => some (decide (m = n) && b) | none => none
  | _, _ => none
theorem veq_of : ∀ {ks : List SK} {us vs : List Value} {b : Bool}, vKs ks us vs = true → veq us vs = some b → (b = true ↔ us = vs)
  | [], [], [], b, _, h => by simp [veq] at h; simp [← h]
  | [], [], _ :: _, b, hv, h => by simp [vKs] at hv
  | [], _ :: _, _, b, hv, h => by simp [vKs] at hv
  | _ :: _, [], _, b, hv, h => by simp [vKs] at hv
  | _ :: _, _ :: _, [], b, hv, h => by simp [vKs] at hv
  | k :: ks, u :: us, v :: vs, b, hv, h => by
    simp only [vKs, Bool.and_eq_true] at hv
    cases hr : veq us vs with
    | none => cases u <;> cases v <;> simp [veq, hr] at h
    | some c =>
      have ih := veq_of hv.2 hr
      have h1 := hv.1
      cases u <;> cases v <;> simp only [veq, hr, Option.some.injEq, reduceCtorEq] at h <;> subst h <;> cases k <;> simp_all [vK]
def binA (P : Program) (b : BinOp) (t : TypeId) (cs ds : List AV) : Option Value := match tyEqK P t with
  | none => none
  | some ks => bif vKs ks (cs.map unS) (ds.map unS) && cs.all isS && ds.all isS then
      match veq (cs.map unS) (ds.map unS), b with
      | some r, .eql => some (.bool r)
      | some r, .neq => some (.bool (!r))
      | _, _ => none
    else none
def nonNilB : AV → Bool
  | .own _ _ n => Nat.blt 0 n
  | .sub _ _ _ n => Nat.blt 0 n
  | .sl (_ :: _) => true
  | _ => false
theorem nonNilB_of {u : AV} (h : nonNilB u = true) : NonNil u := by
  unfold nonNilB at h
  split at h
  · exact .own _ _ _ (by simpa [Nat.blt_eq] using h)
  · exact .sub _ _ _ _ (by simpa [Nat.blt_eq] using h)
  · exact .sl _ _
  · cases h
def evBin (P : Program) (b : BinOp) (t : TypeId) : AV → AV → Option Value
  | .s (.int k m), .s (.int k' n) => match b with
    | .shr => bif decide (0 ≤ n) then some (.int k (m.fdiv (2 ^ min n.toNat k.bits))) else none
    | .shl => bif decide (0 ≤ n) then some (.int k (k.wrap (m * 2 ^ min n.toNat k.bits))) else none
    | _ => bif decide (k = k') then intBin b k m n else none
  | .s (.string a), .s (.string c) => strBin b a c
  | .s (.bool a), .s (.bool c) => match b with
    | .eql => bif evBool P t then some (.bool (a == c)) else none
    | .neq => bif evBool P t then some (.bool (!(a == c))) else none
    | _ => none
  | .agg cs, .agg ds => binA P b t cs ds
  | .s (.slice none 0 0), .s (.slice none 0 0) => bif (tySlice P t).isSome then match b with
      | .eql => some (.bool true)
      | .neq => some (.bool false)
      | _ => none
    else none
  | u, .s (.slice none 0 0) => bif (tySlice P t).isSome && nonNilB u then match b with
      | .eql => some (.bool false)
      | .neq => some (.bool true)
      | _ => none
    else none
  | _, _ => none
section
variable {P : Program} {o : Oper} {F : Frm} {σ : List Ob}
theorem intBin_ok {b : BinOp} {t t' : TypeId} {x y : Operand} {k : IntKind} {m n : Int} {v : Value} (ho : o.op = .binOp b t x y t') (hx : F.eval x = .s (.int k m)) (hy : F.eval y = .s (.int k n)) (h : intBin b k m n = some v) : Does P o F σ (.s v) σ := by
  unfold intBin at h
  split at h
  · cases h; exact does_add ho hx hy rfl
  · cases h; exact does_sub ho hx hy rfl
  · cases h; exact does_mul ho hx hy rfl
  · cases hn : decide (n = 0) with
    | true => rw [hn] at h; cases h
    | false => rw [hn] at h; cases h; exact does_quo ho hx hy (of_decide_eq_false hn) rfl
  · cases hn : decide (n = 0) with
    | true => rw [hn] at h; cases h
    | false => rw [hn] at h; cases h; exact does_rem ho hx hy (of_decide_eq_false hn) rfl
  · cases h; exact does_lss ho hx hy
  · cases h; exact does_leq ho hx hy
  · cases h; exact does_gtr ho hx hy
  · cases h; exact does_geq ho hx hy
  · cases h; exact does_eql ho hx hy
  · cases h; exact does_neq ho hx hy
  · cases h; exact does_bits ho (.inl rfl) hx hy rfl
  · cases h; exact does_bits ho (.inr (.inl rfl)) hx hy rfl
  · cases h; exact does_bits ho (.inr (.inr (.inl rfl))) hx hy rfl
  · cases h; exact does_bits ho (.inr (.inr (.inr rfl))) hx hy rfl
  · cases h
theorem strBin_ok {b : BinOp} {t t' : TypeId} {x y : Operand} {a c : ByteArray} {v : Value} (ho : o.op = .binOp b t x y t') (hx : F.eval x = .s (.string a)) (hy : F.eval y = .s (.string c)) (h : strBin b a c = some v) : Does P o F σ (.s v) σ := by
  unfold strBin at h
  split at h
  · cases h; exact does_eqs ho hx hy
  · cases h; exact does_nes ho hx hy
  · cases h; exact does_lts ho hx hy
  · cases h; exact does_gts ho hx hy
  · cases h
theorem binA_ok {b : BinOp} {t t' : TypeId} {x y : Operand} {cs ds : List AV} {v : Value} (ho : o.op = .binOp b t x y t') (hx : F.eval x = .agg cs) (hy : F.eval y = .agg ds) (h : binA P b t cs ds = some v) : Does P o F σ (.s v) σ := by
  unfold binA at h
  split at h
  · cases h
  · rename_i ks hk
    cases hc : (vKs ks (cs.map unS) (ds.map unS) && cs.all isS && ds.all isS) with
    | false => rw [hc] at h; cases h
    | true =>
      rw [hc, cond_true] at h
      simp only [Bool.and_eq_true] at hc
      obtain ⟨⟨h1, h2⟩, h3⟩ := hc
      split at h
      · rename_i r hr
        cases h
        have h4 := veq_of h1 hr
        have := does_eqa (P := P) (F := F) (σ := σ) ho hx hy hk h1 h2 h3
        have e : @decide (cs.map unS = ds.map unS) (Classical.propDecidable _) = r := by
          rw [Bool.eq_iff_iff, h4]; simp
        rwa [e] at this
      · rename_i r hr
        cases h
        have h4 := veq_of h1 hr
        have := does_nea (P := P) (F := F) (σ := σ) ho hx hy hk h1 h2 h3
        have e : @decide (cs.map unS ≠ ds.map unS) (Classical.propDecidable _) = !r := by
          rw [Bool.eq_iff_iff]
          cases r with
          | true => have := h4.1 rfl; simp [this]
          | false => simp; intro h5; have := h4.2 h5; cases this
        rwa [e] at this
      · cases h
theorem evBin_ok {b : BinOp} {t t' : TypeId} {x y : Operand} {v : Value} (ho : o.op = .binOp b t x y t') (h : evBin P b t (F.eval x) (F.eval y) = some v) : Does P o F σ (.s v) σ := by
  generalize hx : F.eval x = u at h
  generalize hy : F.eval y = w at h
  unfold evBin at h
  split at h
  · rename_i k m k' n
    split at h
    · cases hk : decide (0 ≤ n) with
      | false => rw [hk] at h; cases h
      | true => rw [hk] at h; cases h; exact does_shift ho hx hy (of_decide_eq_true hk) (.inl ⟨rfl, rfl⟩)
    · cases hk : decide (0 ≤ n) with
      | false => rw [hk] at h; cases h
      | true => rw [hk] at h; cases h; exact does_shift ho hx hy (of_decide_eq_true hk) (.inr ⟨rfl, rfl⟩)
    · cases hk : decide (k = k') with
      | false => rw [hk] at h; cases h
      | true =>
        rw [hk, cond_true] at h
        obtain rfl := eqb_of hk
        exact intBin_ok ho hx hy h
  · exact strBin_ok ho hx hy h
  · split at h
    · rename_i a c
      cases hk : evBool P t with
      | false => rw [hk] at h; cases h
      | true => rw [hk] at h; cases h; exact does_eqlb (bool_of hk) ho hx hy
    · rename_i a c
      cases hk : evBool P t with
      | false => rw [hk] at h; cases h
      | true => rw [hk] at h; cases h; exact does_neqb (bool_of hk) ho hx hy
    · cases h
  · exact binA_ok ho hx hy h
  · cases ht : tySlice P t with
    | none => rw [ht] at h; cases h
    | some e =>
      rw [ht, Option.isSome_some, cond_true] at h
      split at h
      · cases h; exact does_eqnil0 ho ht hx hy (.inl ⟨rfl, rfl⟩)
      · cases h; exact does_eqnil0 ho ht hx hy (.inr ⟨rfl, rfl⟩)
      · cases h
  · cases ht : tySlice P t with
    | none => rw [ht] at h; cases h
    | some e =>
      rw [ht, Option.isSome_some, Bool.true_and] at h
      generalize hb : nonNilB u = q at h
      cases q with
      | false => cases h
      | true =>
        rw [cond_true] at h
        split at h
        · cases h; exact does_eqnil ho ht hx (nonNilB_of hb) hy (.inl ⟨rfl, rfl⟩)
        · cases h; exact does_eqnil ho ht hx (nonNilB_of hb) hy (.inr ⟨rfl, rfl⟩)
        · cases h
  · cases h
end

/-! ## single operations -/
def evUn (b : UnOp) : AV → Option Value
  | .s (.bool c) => match b with | .not => some (.bool (!c)) | _ => none
  | .s (.int k n) => match b with | .neg => some (.int k (k.wrap (0 - n))) | _ => none
  | _ => none
def evConv (P : Program) (t t' : TypeId) : AV → Option Value
  | .s (.int k n) => match tyInt P t' with
    | some k' => bif (P.underlying t).isSome then some (.int k' (k'.wrap n)) else none
    | none => none
  | _ => none
def evFieldAddr (P : Program) (t : TypeId) (f : Nat) (x : AV) : Option AV := match tyField P t f with
  | some (off, _, some n) => bif Nat.beq n 0 then none else match x with
    | .ptr id sz k j => some (.ptr id sz k (j + off))
    | .ref cs => some (.ref (cs.drop off))
    | _ => none
  | _ => none
def evField (P : Program) (t : TypeId) (f : Nat) : AV → Option AV
  | .agg cs => match tyField P t f with
    | some (off, ft, n) => match tyAgg P ft with
      | some false => cs[off]?
      | some true => match n, tyInfo P ft with
        | some n, some (_, n', _) => bif Nat.beq n n' then some (.agg ((cs.drop off).take n)) else none
        | _, _ => none
      | none => none
    | none => none
  | _ => none
def evIndexStr (P : Program) (t : TypeId) : AV → AV → Option Value
  | .s (.string b), .s (.int _ (.ofNat k)) => bif tyString P t then match b[k]? with
      | some u => some (.int .u8 (u.toNat : Nat))
      | none => none
    else none
  | _, _ => none
def evNil : AV → Option AV
  | .ptr id sz k j => some (.ptr id sz k j)
  | .ref cs => some (.ref cs)
  | .fn f cs => some (.fn f cs)
  | _ => none
def evIndexAddr (P : Program) (t : TypeId) : AV → AV → Option AV
  | .sl l, .s (.int _ (.ofNat k)) => match tySlice P t with
    | none => none
    | some e => match tyInfo P e, l[k]? with
      | some (_, sz, _), some u => bif Nat.beq u.cells.length sz then some (.ref u.cells) else none
      | _, _ => none
  | .own id sz m, .s (.int _ (.ofNat k)) => match tySlice P t with
    | none => none
    | some e => match tyInfo P e with
      | some (_, sz', _) => bif Nat.beq sz sz' && Nat.blt k m then some (.ptr id sz k 0) else none
      | none => none
  | .sub id sz q m, .s (.int _ (.ofNat k)) => match tySlice P t with
    | none => none
    | some e => match tyInfo P e with
      | some (_, sz', _) => bif Nat.beq sz sz' && Nat.blt k m then some (.ptr id sz (q + k) 0) else none
      | none => none
  | .ptr id s k j, .s (.int _ (.ofNat i)) => match tyArr P t with
    | none => none
    | some (m, e) => match tyInfo P e with
      | some (_, sz, _) => bif Nat.blt i m then some (.ptr id s k (j + i * sz)) else none
      | none => none
  | .ref cs, .s (.int _ (.ofNat i)) => match tyArr P t with
    | none => none
    | some (m, e) => match tyInfo P e with
      | some (_, sz, _) => bif Nat.blt i m then some (.ref (cs.drop (i * sz))) else none
      | none => none
  | _, _ => none
def evExtract (i : Nat) : AV → Option AV
  | .tup l => l[i]?
  | _ => none
/-- what a pointer into the call's own leads to -/
def cellsO (sz k : Nat) : Option Ob → Option (List AV)
  | none => none
  | some ob => match rowOf ob with
    | none => none
    | some (sz', cs) => bif Nat.beq sz' sz then match cs[k]? with
        | some e => some e.cells
        | none => none
      else none
theorem cellsO_of {sz k : Nat} {l : List AV} {x : Option Ob} (h : cellsO sz k x = some l) : ∃ ob cs e, x = some ob ∧ rowOf ob = some (sz, cs) ∧ cs[k]? = some e ∧ e.cells = l := by
  unfold cellsO at h
  split at h
  · cases h
  · rename_i ob
    split at h
    · cases h
    · rename_i sz' cs hr
      cases hb : Nat.beq sz' sz with
      | false => rw [hb] at h; cases h
      | true =>
        rw [hb, cond_true] at h
        obtain rfl := Nat.eq_of_beq_eq_true hb
        split at h
        · rename_i e he
          cases h
          exact ⟨ob, cs, e, rfl, hr, he, rfl⟩
        · cases h
def cellsAt (s : Sto) (id sz k : Nat) : Option (List AV) := cellsO sz k (s.get id)
def evLoad (P : Program) (t : TypeId) (σ : Sto) (x : AV) : Option ER := match tyAgg P t with
  | none => none
  | some false => match x with
    | .ref (c :: _) => some (c, σ, .free)
    | .ptr id sz k j => match cellsAt σ id sz k with
      | none => none
      | some l => match l[j]? with
        | some c => some (c, σ, .look [id])
        | none => none
    | _ => none
  | some true => match tyInfo P t with
    | none => none
    | some (_, n, _) => match x with
      | .ref cs => bif Nat.ble n cs.length then some (.agg (cs.take n), σ, .free) else none
      | .ptr id sz k j => match cellsAt σ id sz k with
        | none => none
        | some l => bif Nat.ble (j + n) l.length then some (.agg ((l.drop j).take n), σ, .look [id]) else none
      | _ => none
def evStore (P : Program) (t : TypeId) (σ : Sto) (p x : AV) : Option ER := match p with
  | .ptr id sz k j => match tyInfo P t, σ.get id with
    | some (_, n, _), some (.row sz' cs) => match cs[k]? with
      | some e => bif Nat.beq sz' sz && x.cells.all AV.one && Nat.beq x.cells.length n && Nat.blt 0 n && Nat.ble (j + n) sz then some (.any, σ.set id (.row sz (cs.set k (putC e j x.cells))), .eff [id]) else none
      | none => none
    | _, _ => none
  | _ => none
def evAlloc (P : Program) (e : TypeId) (σ : Sto) : Option ER := match tyInfo P e with
  | some (some z, n, _) => bif (ofValue z).cells.all AV.one && Nat.beq (ofValue z).cells.length n then some (.ptr σ.len n 0 0, σ.push (.row n [ofValue z]), .eff [σ.len]) else none
  | _ => none
def evBox (σ : Sto) (x : AV) : Option ER := bif x.cells.all AV.one then some (.ptr σ.len x.cells.length 0 0, σ.push (.row x.cells.length [x]), .eff [σ.len]) else none
def evBuild (P : Program) (t : TypeId) (parts : List (Nat × AV)) : Option AV := match tyInfo P t, tyPlaces P t with
  | some (some z, _, _), some pl => bif (ofValue z).cells.all AV.one then match fillA (pl[·]?) (ofValue z).cells parts with
      | some cs => some (.agg cs)
      | none => none
    else none
  | some (some z, _, _), none => match tyArr P t with
    | none => none
    | some (_, e) => match tyInfo P e with
      | none => none
      | some (_, sz, _) => bif (ofValue z).cells.all AV.one then match fillA (fun i => some (i * sz, sz)) (ofValue z).cells parts with
          | some cs => some (.agg cs)
          | none => none
        else none
  | _, _ => none
def evLit (P : Program) (t : TypeId) (len : Nat) (parts : List (Nat × AV)) (σ : Sto) : Option ER := match tySlice P t with
  | none => none
  | some e => match tyInfo P e with
    | some (some z, n, _) => bif Nat.beq len 0 then bif parts.isEmpty then some (.emp, σ, .free) else none
      else bif (ofValue z).cells.all AV.one && Nat.beq (ofValue z).cells.length n && Nat.blt 0 n && Nat.ble (len * n) 16777216 then match fillA (fun i => some (i * n, n)) (zeroA z (len * n)) parts with
        | some cs => bif Nat.beq cs.length (len * n) then some (.own σ.len n len, σ.push (.row n (chunks n len cs)), .eff [σ.len]) else none
        | none => none
      else none
    | _ => none
def evLitF (P : Program) (t : TypeId) (len : Nat) (parts : List (Nat × AV)) (σ : Sto) : Option ER := match tySlice P t with
  | none => none
  | some e => match tyInfo P e with
    | some (some z, n, _) => bif (ofValue z).cells.all AV.one && Nat.beq (ofValue z).cells.length n && Nat.blt 0 n && Nat.blt 0 len && Nat.ble (len * n) 16777216 then match fillA (fun i => some (i * n, n)) (zeroA z (len * n)) parts with
        | some cs => bif Nat.beq cs.length (len * n) then some (.sl (chunks n len cs), σ, .free) else none
        | none => none
      else none
    | _ => none
def evMake (P : Program) (t : TypeId) (σ : Sto) : AV → AV → Option ER
  | .s (.int _ (.ofNat l)), .s (.int _ (.ofNat c)) => match tySlice P t with
    | none => none
    | some e => match tyInfo P e with
      | some (some z, n, bt) => bif (ofValue z).cells.all AV.one && Nat.beq (ofValue z).cells.length n && Nat.blt 0 n && Nat.ble l c && Nat.ble (bt * c) 281474976710656 && Nat.ble c 9223372036854775807 then some (.own σ.len n l, σ.push (.row n (List.replicate l (ofValue z))), .eff [σ.len]) else none
      | _ => none
  | _, _ => none
def evLen (P : Program) (t : TypeId) : AV → Option Value
  | .sl l => bif (tySlice P t).isSome then some (.int .i64 (l.length : Nat)) else none
  | .own _ _ n => bif (tySlice P t).isSome then some (.int .i64 (n : Nat)) else none
  | .sub _ _ _ n => bif (tySlice P t).isSome then some (.int .i64 (n : Nat)) else none
  | .emp => bif (tySlice P t).isSome then some (.int .i64 0) else none
  | .s (.slice _ n _) => bif (tySlice P t).isSome then some (.int .i64 (n : Nat)) else none
  | .s (.string b) => bif tyString P t then some (.int .i64 (b.size : Nat)) else none
  | _ => none
/-- what a slice reads as -/
def srcOf (σ : Sto) (sz : Nat) : AV → Option (List AV)
  | .sl l => bif l.all (fun e => Nat.beq e.cells.length sz) then some l else none
  | .emp => some []
  | .s (.slice none 0 0) => some []
  | .own id sz' n => match σ.get id with
    | none => none
    | some ob => match rowOf ob with
      | some (sz2, cs) => bif Nat.beq sz' sz && Nat.beq sz2 sz && Nat.ble n cs.length then some (cs.take n) else none
      | none => none
  | .sub id sz' i n => match σ.get id with
    | none => none
    | some ob => match rowOf ob with
      | some (sz2, cs) => bif Nat.beq sz' sz && Nat.beq sz2 sz && Nat.ble (i + n) cs.length then some ((cs.drop i).take n) else none
      | none => none
  | _ => none
theorem srcOf_ok {σ : Sto} {sz : Nat} {x : AV} {l : List AV} (h : srcOf σ sz x = some l) : Src σ.abs sz x l := by
  unfold srcOf at h
  split at h
  · rename_i l'
    cases hb : l'.all (fun e => Nat.beq e.cells.length sz) with
    | false => rw [hb] at h; cases h
    | true =>
      rw [hb] at h; cases h
      exact .sl l (fun e he => Nat.eq_of_beq_eq_true (List.all_eq_true.1 hb e he))
  · cases h; exact .emp
  · cases h; exact .nil
  · rename_i id sz' n
    split at h
    · cases h
    · rename_i ob hob
      split at h
      · rename_i sz2 cs hr
        cases hb : (Nat.beq sz' sz && Nat.beq sz2 sz && Nat.ble n cs.length) with
        | false => rw [hb] at h; cases h
        | true =>
          rw [hb] at h; cases h
          simp only [Bool.and_eq_true] at hb
          obtain ⟨⟨h1, h2⟩, h3⟩ := hb
          obtain rfl := Nat.eq_of_beq_eq_true h1
          obtain rfl := Nat.eq_of_beq_eq_true h2
          exact .pre id ob cs (by rw [← Sto.get_abs]; exact hob) hr n (Nat.le_of_ble_eq_true h3)
      · cases h
  · rename_i id sz' i n
    split at h
    · cases h
    · rename_i ob hob
      split at h
      · rename_i sz2 cs hr
        cases hb : (Nat.beq sz' sz && Nat.beq sz2 sz && Nat.ble (i + n) cs.length) with
        | false => rw [hb] at h; cases h
        | true =>
          rw [hb] at h; cases h
          simp only [Bool.and_eq_true] at hb
          obtain ⟨⟨h1, h2⟩, h3⟩ := hb
          obtain rfl := Nat.eq_of_beq_eq_true h1
          obtain rfl := Nat.eq_of_beq_eq_true h2
          exact .sub id ob cs (by rw [← Sto.get_abs]; exact hob) hr i n (Nat.le_of_ble_eq_true h3)
      · cases h
  · cases h
def evMinMax (b : Builtin) : AV → AV → Option Value
  | .s (.int k m), .s (.int _ n) => match b with
    | .max => some (.int k (if m < n then n else m))
    | .min => some (.int k (if n < m then n else m))
    | _ => none
  | _, _ => none
/-- where a copy goes: the row, the offset, how many -/
def dstOf (sz : Nat) : AV → Option (Nat × Nat × Nat)
  | .own id sz' n => bif Nat.beq sz' sz then some (id, 0, n) else none
  | .sub id sz' k n => bif Nat.beq sz' sz then some (id, k, n) else none
  | _ => none
theorem dstOf_ok {sz id k n : Nat} {x : AV} (h : dstOf sz x = some (id, k, n)) : Dst id sz k n x := by
  unfold dstOf at h
  split at h
  · rename_i i s m
    cases hb : Nat.beq s sz with
    | false => rw [hb] at h; cases h
    | true => rw [hb] at h; cases h; rw [Nat.eq_of_beq_eq_true hb]; exact .own rfl
  · rename_i i s j m
    cases hb : Nat.beq s sz with
    | false => rw [hb] at h; cases h
    | true => rw [hb] at h; cases h; rw [Nat.eq_of_beq_eq_true hb]; exact .sub
  · cases h
def evCopy (P : Program) (t : TypeId) (σ : Sto) (x y : AV) : Option ER := match tySlice P t with
  | none => none
  | some e => match tyInfo P e with
    | some (_, sz, _) => bif Nat.blt 0 sz then match srcOf σ sz y, dstOf sz x with
        | some l, some (id, k, n) => match σ.get id with
          | some (.row sz2 cs) => bif Nat.beq sz2 sz && Nat.ble (k + n) cs.length then some (.s (.int .i64 (Nat.min l.length n : Nat)), σ.set id (.row sz (laid cs k (l.take n))), .eff [id]) else none
          | _ => none
        | _, _ => none
      else none
    | none => none
def evAppend (P : Program) (t : TypeId) (σ : Sto) (x y : AV) : Option ER := match tySlice P t with
  | none => none
  | some e => match tyInfo P e with
    | some (some z, sz, bt) => bif Nat.beq z.cells.size sz && Nat.blt 0 sz then match srcOf σ sz y with
        | none => none
        | some l => match x with
          | .own id sz' n => match σ.get id with
            | some (.row sz2 cs) => bif Nat.beq sz' sz && Nat.beq sz2 sz && Nat.beq n cs.length && Nat.ble (cs.length + l.length) maxLen && Nat.ble ((cs.length + l.length) * bt) 140737488355328 then
                some (.own σ.len sz (cs.length + l.length), (σ.set id .dead).push (.row sz (cs ++ l)), .eff [id, σ.len]) else none
            | _ => none
          | .emp => bif Nat.ble l.length maxLen && Nat.ble (l.length * bt) 140737488355328 then some (.own σ.len sz l.length, σ.push (.row sz l), .eff [σ.len]) else none
          | .s (.slice none 0 0) => bif Nat.ble l.length maxLen && Nat.ble (l.length * bt) 140737488355328 then some (.own σ.len sz l.length, σ.push (.row sz l), .eff [σ.len]) else none
          | _ => none
      else none
    | _ => none
end Go.Proofs.Ythdpacbjbdkemaa.Aw
end
