import Derived.Test.YtllkbjcemecmjaaGreatJB4
import Derived.Test.YtllkbjcemecmjaaGreatJB7
import Derived.Test.YtllkbjcemecmjaaGreatJB8
set_option linter.unusedSimpArgs false
set_option linter.unusedVariables false
set_option linter.unusedSectionVars false
section
namespace Go.Proofs.YtllkbjcemecmjaaGreat.Aw
open Go.RowKit
inductive FKd | free | look (R : List Nat) | eff (W : List Nat) | flt
def FKd.kd : FKd → Kd
 | .free => .free
 | .look R => .look R
 | .eff W => .eff W
 | .flt => .free
inductive FSteps (P : Program) (N : Nat) (ops : Array Oper) (n0 : Nat) (ob : Ob) (fl : Bool) (Inv : List Ob → Prop) : List Oper → Frm → List Ob → Frm → List Ob → List (Nat × AV) → List FKd → List (List Ob) → Prop
 | nil (F : Frm) (σ : List Ob) (hn : σ.length = n0 ∧ Inv σ) : FSteps P N ops n0 ob fl Inv [] F σ F σ [] [] []
 | free (o : Oper) (l : List Oper) (F F' : Frm) (σ σ' : List Ob) (x : AV) (out : List (Nat × AV)) (ks : List FKd) (sts : List (List Ob)) (hn : σ.length = n0 ∧ Inv σ) (hd : dOk N o = true) (hr : Runs ops F o true) (hD : ∀ σ, Inv σ → Does P o F σ x σ) (h : FSteps P N ops n0 ob fl Inv l (ent N o x :: F) σ F' σ' out ks sts) : FSteps P N ops n0 ob fl Inv (o :: l) F σ F' σ' (ent N o x :: out) (.free :: ks) (σ :: sts)
 | look (o : Oper) (l : List Oper) (F F' : Frm) (σ σ' : List Ob) (x : AV) (out : List (Nat × AV)) (ks : List FKd) (sts : List (List Ob)) (R : List Nat) (hn : σ.length = n0 ∧ Inv σ) (hR : ∀ id ∈ R, id < n0) (hd : dOk N o = true) (hr : Runs ops F o true) (hD : ∀ σ2, (∀ id ∈ R, σ2[id]? = σ[id]?) → Does P o F σ2 x σ2) (h : FSteps P N ops n0 ob fl Inv l (ent N o x :: F) σ F' σ' out ks sts) : FSteps P N ops n0 ob fl Inv (o :: l) F σ F' σ' (ent N o x :: out) (.look R :: ks) (σ :: sts)
 | eff (o : Oper) (l : List Oper) (F F' : Frm) (σ σ1 σ' : List Ob) (x : AV) (out : List (Nat × AV)) (ks : List FKd) (sts : List (List Ob)) (W : List Nat) (hn : σ.length = n0 ∧ Inv σ) (hd : dOk N o = true) (hr : Runs ops F o true) (hD : ∀ X, (fl = false → X = []) → Does P o F (σ ++ X) x (σ1 ++ X)) (hW : ∀ id, id ∉ W → σ1[id]? = σ[id]?) (h : FSteps P N ops n0 ob fl Inv l (ent N o x :: F) σ1 F' σ' out ks sts) : FSteps P N ops n0 ob fl Inv (o :: l) F σ F' σ' (ent N o x :: out) (.eff W :: ks) (σ :: sts)
 | flt (o : Oper) (l : List Oper) (F F' : Frm) (σ σ' : List Ob) (x : AV) (out : List (Nat × AV)) (ks : List FKd) (sts : List (List Ob)) (hn : σ.length = n0 ∧ Inv σ) (hd : dOk N o = true) (hr : Runs ops F o true) (hD : ∀ σ : List Ob, σ.length = n0 → Does P o F σ x (σ ++ [ob])) (h : FSteps P N ops n0 ob fl Inv l (ent N o x :: F) σ F' σ' out ks sts) : FSteps P N ops n0 ob fl Inv (o :: l) F σ F' σ' (ent N o x :: out) (.flt :: ks) (σ :: sts)
def FAt (P : Program) (ops : Array Oper) (n0 : Nat) (ob : Ob) (fl : Bool) (Inv : List Ob → Prop) (o : Oper) (F : Frm) (x : AV) (k : Option FKd) (s s1 : List Ob) : Prop :=
 (k = some .free ∧ s1 = s ∧ Runs ops F o true ∧ ∀ σ, Inv σ → Does P o F σ x σ) ∨
 (∃ R, k = some (.look R) ∧ s1 = s ∧ (∀ id ∈ R, id < n0) ∧ Runs ops F o true ∧ ∀ σ2, (∀ id ∈ R, σ2[id]? = s[id]?) → Does P o F σ2 x σ2) ∨
 (∃ W, k = some (.eff W) ∧ Runs ops F o true ∧ (∀ X, (fl = false → X = []) → Does P o F (s ++ X) x (s1 ++ X)) ∧ ∀ id, id ∉ W → s1[id]? = s[id]?) ∨
 (k = some .flt ∧ s1 = s ∧ Runs ops F o true ∧ ∀ σ : List Ob, σ.length = n0 → Does P o F σ x (σ ++ [ob]))
theorem fsteps_at {P : Program} {N : Nat} {ops : Array Oper} {n0 : Nat} {ob : Ob} {fl : Bool} {Inv : List Ob → Prop} : ∀ {l : List Oper} {F F' : Frm} {σ σ' : List Ob} {out : List (Nat × AV)} {ks : List FKd} {sts : List (List Ob)}, FSteps P N ops n0 ob fl Inv l F σ F' σ' out ks sts → l.length = out.length ∧ F' = out.reverse ++ F ∧ ks.length = l.length ∧ sts.length = l.length ∧ (sts ++ [σ']).getD 0 [] = σ ∧ (∀ s ∈ sts ++ [σ'], s.length = n0 ∧ Inv s) ∧
  ∀ (i : Nat) o, l[i]? = some o → ∃ x, out[i]? = some (ent N o x) ∧ dOk N o = true ∧ FAt P ops n0 ob fl Inv o ((out.take i).reverse ++ F) x ks[i]? ((sts ++ [σ']).getD i []) ((sts ++ [σ']).getD (i + 1) []) := by
 intro l F F' σ σ' out ks sts h
 induction h with
 | nil F σ hn => exact ⟨rfl, rfl, rfl, rfl, rfl, by simpa using hn, by simp⟩
 | free o l F F' σ σ' x out ks sts hn hd hr hD h ih =>
  obtain ⟨h1, h2, h3, h4, h0, h6, h5⟩ := ih
  refine ⟨by simp [h1], by simp [h2], by simp [h3], by simp [h4], rfl, fun s hs => ?_, fun i o' hi => ?_⟩
  ·
   rcases List.mem_cons.1 hs with rfl | hs
   ·
    exact hn
   ·
    exact h6 s hs
  cases i with
  | zero => simp at hi; subst hi; exact ⟨x, rfl, hd, .inl ⟨rfl, h0, by simpa using hr, by simpa using hD⟩⟩
  | succ i =>
   obtain ⟨x', g1, g2, g3⟩ := h5 i o' (by simpa using hi)
   exact ⟨x', by simpa using g1, g2, by simpa using g3⟩
 | look o l F F' σ σ' x out ks sts R hn hR hd hr hD h ih =>
  obtain ⟨h1, h2, h3, h4, h0, h6, h5⟩ := ih
  refine ⟨by simp [h1], by simp [h2], by simp [h3], by simp [h4], rfl, fun s hs => ?_, fun i o' hi => ?_⟩
  ·
   rcases List.mem_cons.1 hs with rfl | hs
   ·
    exact hn
   ·
    exact h6 s hs
  cases i with
  | zero => simp at hi; subst hi; exact ⟨x, rfl, hd, .inr (.inl ⟨R, rfl, h0, hR, by simpa using hr, by simpa using hD⟩)⟩
  | succ i =>
   obtain ⟨x', g1, g2, g3⟩ := h5 i o' (by simpa using hi)
   exact ⟨x', by simpa using g1, g2, by simpa using g3⟩
 | eff o l F F' σ σ1 σ' x out ks sts W hn hd hr hD hW h ih =>
  obtain ⟨h1, h2, h3, h4, h0, h6, h5⟩ := ih
  refine ⟨by simp [h1], by simp [h2], by simp [h3], by simp [h4], rfl, fun s hs => ?_, fun i o' hi => ?_⟩
  ·
   rcases List.mem_cons.1 hs with rfl | hs
   ·
    exact hn
   ·
    exact h6 s hs
  cases i with
  | zero =>
   simp at hi; subst hi
   have e : ((σ :: sts) ++ [σ']).getD (0 + 1) [] = σ1 := h0
   refine ⟨x, rfl, hd, .inr (.inr (.inl ⟨W, rfl, by simpa using hr, ?_, ?_⟩))⟩
   ·
    rw [e]; simpa using hD
   ·
    rw [e]; exact hW
  | succ i =>
   obtain ⟨x', g1, g2, g3⟩ := h5 i o' (by simpa using hi)
   exact ⟨x', by simpa using g1, g2, by simpa using g3⟩
 | flt o l F F' σ σ' x out ks sts hn hd hr hD h ih =>
  obtain ⟨h1, h2, h3, h4, h0, h6, h5⟩ := ih
  refine ⟨by simp [h1], by simp [h2], by simp [h3], by simp [h4], rfl, fun s hs => ?_, fun i o' hi => ?_⟩
  ·
   rcases List.mem_cons.1 hs with rfl | hs
   ·
    exact hn
   ·
    exact h6 s hs
  cases i with
  | zero => simp at hi; subst hi; exact ⟨x, rfl, hd, .inr (.inr (.inr ⟨rfl, h0, by simpa using hr, by simpa using hD⟩))⟩
  | succ i =>
   obtain ⟨x', g1, g2, g3⟩ := h5 i o' (by simpa using hi)
   exact ⟨x', by simpa using g1, g2, by simpa using g3⟩
def fOk (l : List Oper) (N : Nat) (ks : List FKd) (f : Nat) : Bool := eOk l N (ks.map FKd.kd) && (List.range ks.length).all fun i => match ks[i]? with | some .flt => Nat.beq i f | _ => true
section
variable {P : Program} {N : Nat} {l : List Oper} {F F' : Frm} {σ : List Ob} {out : List (Nat × AV)} {Q : Exit → Frm → List Ob → Prop}
theorem fgen_any {n0 : Nat} {ob : Ob} {fl : Bool} {Inv : List Ob → Prop} {f : Nat} {σ' : List Ob} {ks : List FKd} {sts : List (List Ob)} (hIX : ∀ s, Inv s → Inv (s ++ [ob])) (hq : fOk l N ks f = true) (hf : (fl = true ∧ ks[f]? = some .flt) ∨ (fl = false ∧ l.length ≤ f)) (hs : FSteps P N l.toArray n0 ob fl Inv l F σ F' σ' out ks sts) (hQ : Q .normal F' (σ' ++ (if fl = true then [ob] else []))) (G0 : Cx) :
  ∀ (fuel : Nat) (L : Array Bool) (G : Cx) (a : Act) (m : Nat), G0.Ext G → L.size = l.length → left L.toList = fuel → Closed l (fun j => L.getD j false = true) → m ≤ l.length → (∀ j W, ks[j]? = some (.eff W) → (L.getD j false = true ↔ j < m)) → Rep G (a.tmps.getD N undef) (F.get N) → S8 N G a (fr (fun j => L.getD j false) 0 out F) ((sts ++ [σ']).getD m [] ++ (if L.getD f false = true then [ob] else [])) → wpAny P .any l.toArray (liftE N G0 Q) fuel L a G.w := by
 obtain ⟨hlen, hF', hkl, hsl, _, hn0, hat⟩ := fsteps_at hs
 unfold fOk eOk sOk at hq
 simp only [Bool.and_eq_true] at hq
 obtain ⟨⟨⟨hq, hlk⟩, hkp⟩, hone⟩ := hq
 have hone2 : ∀ i, ks[i]? = some .flt → i = f := fun i hi => by
  have h1 := List.all_eq_true.1 hone i (by simpa using (List.getElem?_eq_some_iff.1 hi).1)
  rw [hi] at h1
  exact Nat.eq_of_beq_eq_true h1
 have hfl : fl = true → f < l.length := fun h => by
  rcases hf with ⟨_, hf⟩ | ⟨hf, _⟩
  ·
   rw [← hkl]; exact (List.getElem?_eq_some_iff.1 hf).1
  ·
   rw [h] at hf; cases hf
 have hff : ∀ L : Array Bool, L.size = l.length → fl = false → ¬ L.getD f false = true := fun L hL h => by
  rcases hf with ⟨hf, _⟩ | ⟨_, hf⟩
  ·
   rw [h] at hf; cases hf
  ·
   have : ¬ f < L.size := by omega
   simp [Array.getD_eq_getD_getElem?, this]
 have hlenS : ∀ m, m ≤ l.length → ((sts ++ [σ']).getD m []).length = n0 ∧ Inv ((sts ++ [σ']).getD m []) := fun m hm => by
  refine hn0 _ ?_
  rw [List.getD_eq_getElem?_getD, List.getElem?_eq_getElem (by simp; omega)]
  exact List.getElem_mem _
 obtain ⟨_, hkp⟩ := kPairs_of _ _ _ _ hkp
 have hq2 : ∀ (i j : Nat) a b, i < j → ks[i]? = some a → ks[j]? = some b → kdClash a.kd b.kd = true → ((masks l []).getD j 0).testBit i = true := fun i j a b h1 h2 h3 h4 => by
  have := hkp i j a.kd b.kd h1 (by simp [h2]) (by simp [h3]) h4
  simpa using this
 have hlk' : ∀ (i : Nat) o, l[i]? = some o → ∀ t ∈ o.looksAt l.toArray, t < N := fun i o ho t ht => by
  have h1 := List.all_eq_true.1 hlk o (List.mem_of_getElem? ho)
  have h2 := List.all_eq_true.1 h1 t ht
  simpa [Nat.blt_eq] using h2
 unfold qOk at hq
 have hq' : ∀ j oj, l[j]? = some oj → (∀ e ∈ oj.after.toList, Region.binds .any e = true → e.on < j) ∧ ∀ i oi, i < j → l[i]? = some oi → clash l.toArray oi oj = true → ((masks l []).getD j 0).testBit i = true := by
  intro j oj hj
  have h1 := List.all_eq_true.1 hq j (by simpa using (List.getElem?_eq_some_iff.1 hj).1)
  rw [hj] at h1
  simp only [Bool.and_eq_true, List.all_eq_true] at h1
  refine ⟨fun e he hb => ?_, fun i oi hij hi hc => ?_⟩
  ·
   have := h1.1 e he
   rw [hb] at this
   simpa [Nat.blt_eq] using this
  ·
   have := h1.2 i (by simpa using hij)
   rw [hi] at this
   simpa [hc] using this
 have hsound : ∀ (D : Nat → Prop), Closed l D → ∀ j i, ((masks l []).getD j 0).testBit i = true → D j → D i := fun D hD => masks_sound hD l [] (fun j o h => by simpa using h) (fun j i h => by simp at h)
 have hnone : ∀ (L : Array Bool), L.size = l.length → Region.ready .any l.toArray L = [] → ∀ j, j < l.length → L.getD j false = true := by
  intro L hL hr j
  induction j using Nat.strongRecOn with
  | _ j ih =>
   intro hj
   cases hc : L.getD j false with
   | true => rfl
   | false =>
    exfalso
    obtain ⟨o, ho⟩ : ∃ o, l[j]? = some o := ⟨_, List.getElem?_eq_getElem hj⟩
    have hm : j ∈ Region.ready .any l.toArray L := by
     refine mem_ready.2 ⟨?_, o, by simpa using ho, fun e he hb => ?_⟩
     ·
      have hlt : j < L.size := by omega
      simp [Array.getD_eq_getD_getElem?, hlt] at hc ⊢
      exact hc
     ·
      have hon := (hq' j o ho).1 e (by simpa using he) hb
      exact ih e.on hon xd
    rw [hr] at hm
    cases hm
 have hstepS : ∀ (j id : Nat), j < l.length → (∀ W, ks[j]? = some (.eff W) → id ∉ W) → ((sts ++ [σ']).getD (j + 1) [])[id]? = ((sts ++ [σ']).getD j [])[id]? := by
  intro j id hj hW
  obtain ⟨x, _, _, hc⟩ := hat j _ (List.getElem?_eq_getElem hj)
  rcases hc with ⟨_, g2, _⟩ | ⟨R, _, g2, _⟩ | ⟨W, g1, _, _, g4⟩ | ⟨_, g2, _⟩
  ·
   rw [g2]
  ·
   rw [g2]
  ·
   exact g4 id (hW W g1)
  ·
   rw [g2]
 have hstepN : ∀ (j : Nat), j < l.length → (∀ W, ks[j]? ≠ some (.eff W)) → (sts ++ [σ']).getD (j + 1) [] = (sts ++ [σ']).getD j [] := by
  intro j hj hW
  obtain ⟨x, _, _, hc⟩ := hat j _ (List.getElem?_eq_getElem hj)
  rcases hc with ⟨_, g2, _⟩ | ⟨R, _, g2, _⟩ | ⟨W, g1, _⟩ | ⟨_, g2, _⟩
  ·
   exact g2
  ·
   exact g2
  ·
   exact absurd g1 (hW W)
  ·
   exact g2
 have hlookS : ∀ (id k n : Nat), n + k ≤ l.length → (∀ j W, n ≤ j → j < n + k → ks[j]? = some (.eff W) → id ∉ W) → ((sts ++ [σ']).getD (n + k) [])[id]? = ((sts ++ [σ']).getD n [])[id]? := by
  intro id k n hnk h
  induction k with
  | zero => rfl
  | succ k ihk =>
   rw [← ihk xd (fun j W h1 h2 => h j W h1 xd)]
   exact hstepS (n + k) id xd (fun W hW => h (n + k) W xd xd hW)
 have hlooks : ∀ (id m n : Nat), m ≤ l.length → n ≤ l.length → (∀ j W, ks[j]? = some (.eff W) → ¬ (j < m ↔ j < n) → id ∉ W) → ((sts ++ [σ']).getD m [])[id]? = ((sts ++ [σ']).getD n [])[id]? := by
  intro id m n hm hn h
  rcases Nat.le_total m n with h1 | h1
  ·
   obtain ⟨k, rfl⟩ := Nat.exists_eq_add_of_le h1
   exact (hlookS id k m hn (fun j W h2 h3 h4 => h j W h4 xd)).symm
  ·
   obtain ⟨k, rfl⟩ := Nat.exists_eq_add_of_le h1
   exact hlookS id k n hm (fun j W h2 h3 h4 => h j W h4 xd)
 -- states without an effect between them are the same
 have hsame : ∀ (k n : Nat), n + k ≤ l.length → (∀ j W, n ≤ j → j < n + k → ks[j]? ≠ some (.eff W)) → (sts ++ [σ']).getD (n + k) [] = (sts ++ [σ']).getD n [] := by
  intro k n hnk h
  induction k with
  | zero => rfl
  | succ k ihk =>
   rw [← ihk xd (fun j W h1 h2 => h j W h1 xd)]
   exact hstepN (n + k) xd (fun W => h (n + k) W xd xd)
 have hbetween : ∀ (m n : Nat), m ≤ l.length → n ≤ l.length → (∀ j W, ks[j]? = some (.eff W) → (j < m ↔ j < n)) → (sts ++ [σ']).getD m [] = (sts ++ [σ']).getD n [] := by
  intro m n hm hn h
  rcases Nat.le_total m n with h1 | h1
  ·
   obtain ⟨k, rfl⟩ := Nat.exists_eq_add_of_le h1
   exact (hsame k m hn (fun j W h2 h3 h4 => by have := h j W h4; omega)).symm
  ·
   obtain ⟨k, rfl⟩ := Nat.exists_eq_add_of_le h1
   exact hsame k n hm (fun j W h2 h3 h4 => by have := h j W h4; omega)
 -- when all have come up
 have hend : ∀ (L : Array Bool) (G : Cx) (a : Act) (m : Nat), G0.Ext G → L.size = l.length → Region.ready .any l.toArray L = [] → m ≤ l.length → (∀ j W, ks[j]? = some (.eff W) → (L.getD j false = true ↔ j < m)) → S8 N G a (fr (fun j => L.getD j false) 0 out F) ((sts ++ [σ']).getD m [] ++ (if L.getD f false = true then [ob] else [])) → liftE N G0 Q .normal a G.w := by
  intro L G a m hst hL hr hml hm h8
  have e1 : (sts ++ [σ']).getD m [] = σ' := by
   rw [hbetween m l.length hml (Nat.le_refl _) (fun j W hj => by
    have hjl : j < l.length := by rw [← hkl]; exact (List.getElem?_eq_some_iff.1 hj).1
    have := (hm j W hj).1 (hnone L hL hr j hjl)
    exact ⟨fun _ => hjl, fun _ => this⟩)]
   simp [List.getD, ← hsl]
  have e2 : (if L.getD f false = true then [ob] else []) = (if fl = true then [ob] else []) := by
   cases hb : fl with
   | true => rw [if_pos (hnone L hL hr f (hfl hb)), if_pos rfl]
   | false => rw [if_neg (hff L hL hb), if_neg xo]
  rw [e1, e2] at h8
  refine ⟨G, F', _, rfl, hst, ⟨h8.rel, fun t => ?_, h8.df, h8.nt⟩, hQ⟩
  have h1 := h8.fr t
  have h2 : (fr (fun j => L.getD j false) 0 out F).get t = (fr (fun j => decide (j < 0 + out.length)) 0 out F).get t := fr_congr out 0 F F rfl (fun j p hp _ => by
   have hj : j < out.length := (List.getElem?_eq_some_iff.1 hp).1
   simp only [Nat.zero_add]
   rw [hnone L hL hr j xd]
   simp [hj])
  rw [h2, fr_pre, List.take_length, ← hF'] at h1
  exact h1
 intro fuel
 induction fuel with
 | zero =>
  intro L G a m hst hL hlf hcl hml hm _ h8
  have hr : Region.ready .any l.toArray L = [] := by
   rw [List.eq_nil_iff_forall_not_mem]
   intro i hi
   obtain ⟨h1, o, ho, _⟩ := mem_ready.1 hi
   have hlt : i < L.size := by rw [hL]; simpa using (Array.getElem?_eq_some_iff.1 ho).1
   have : 0 < left L.toList := left_pos i (by simp [Array.getD_eq_getD_getElem?, hlt] at h1 ⊢; exact h1)
   omega
  exact ⟨hr, hend L G a m hst hL hr hml hm h8⟩
 | succ fuel ih =>
  intro L G a m hst hL hlf hcl hml hm hNr h8
  refine ⟨fun hr => hend L G a m hst hL hr hml hm h8, fun i hi => ?_⟩
  obtain ⟨h1, o, ho, hall⟩ := mem_ready.1 hi
  have hli : l[i]? = some o := by simpa using ho
  have hlt : i < L.size := by rw [hL]; exact (List.getElem?_eq_some_iff.1 hli).1
  have hfalse : L.getD i false = false := by simp [Array.getD_eq_getD_getElem?, hlt] at h1 ⊢; exact h1
  obtain ⟨x, g1, g2, g4⟩ := hat i o hli
  -- the others that touch its slots: those before it have come up, those behind it have not
  have hcl' : Closed l (fun j => j = i ∨ L.getD j false = true) := by
   intro j oj hj hD e he hb
   rcases hD with rfl | hD
   ·
    rw [hli] at hj; cases hj
    exact .inr (hall e (by simpa using he) hb)
   ·
    exact .inr (hcl j oj hj hD e he hb)
  have hord : ∀ j oj, l[j]? = some oj → j ≠ i → (j < i → clash l.toArray oj o = true → L.getD j false = true) ∧ (i < j → clash l.toArray o oj = true → L.getD j false = false) := by
   intro j oj hj hne
   refine ⟨fun hji hc => ?_, fun hij hc => ?_⟩
   ·
    rcases hsound _ hcl' i j ((hq' i o hli).2 j oj hji hj hc) (.inl rfl) with h | h
    ·
     exact absurd h hne
    ·
     exact h
   ·
    cases hx : L.getD j false with
    | false => rfl
    | true =>
     have := hsound _ hcl j i ((hq' j oj hj).2 i o hij hli hc) hx
     rw [hfalse] at this
     cases this
  have hsel : ∀ t, t ∈ o.looksAt l.toArray → Frm.get ((out.take i).reverse ++ F) t = (fr (fun j => L.getD j false) 0 out F).get t := by
   intro t ht
   rw [← fr_pre out 0 i F]
   refine (fr_congr out 0 F F rfl (fun j p hp hpt => ?_)).symm
   simp only [Nat.zero_add]
   have hj : j < l.length := by rw [hlen]; exact (List.getElem?_eq_some_iff.1 hp).1
   obtain ⟨x', k1, _, _⟩ := hat j _ (List.getElem?_eq_getElem hj)
   rw [k1] at hp
   cases hp
   have htN := hlk' i o hli t ht
   have k2 : l[j].dst = some t := ent_at hpt htN
   by_cases hji : j = i
   ·
    subst hji; rw [hfalse]; simp
   ·
    rcases Nat.lt_or_gt_of_ne hji with h | h
    ·
     rw [(hord j _ (List.getElem?_eq_getElem hj) hji).1 h (clash_of.1 k2 ht)]; simp [h]
    ·
     rw [(hord j _ (List.getElem?_eq_getElem hj) hji).2 h (clash_of.2.2 k2 ht)]; simp; omega
  -- what is known behind it
  have hnext : ∀ (m' : Nat), m' ≤ l.length → (∀ j W, ks[j]? = some (.eff W) → ((L.setIfInBounds i true).getD j false = true ↔ j < m')) → ∀ (G' : Cx) (v : Value), G.Ext G' → Rel G' ((sts ++ [σ']).getD m' [] ++ (if (L.setIfInBounds i true).getD f false = true then [ob] else [])) → Rep G' v x → wpAny P .any l.toArray (liftE N G0 Q) fuel (L.setIfInBounds i true) (a.put o.dst v) G'.w := by
   intro m' hm'l hm' G' v he hr' hv
   refine ih _ G' _ m' (hst.trans he) (by simpa using hL) ?_ ?_ hm'l hm' ?_ ⟨hr', fun t => ?_, by cases o.dst <;> exact h8.df, by cases o.dst <;> simp [Act.put, h8.nt]⟩
   ·
    have := left_set L.toList i (by simp [Array.getD_eq_getD_getElem?, hlt] at hfalse ⊢; exact hfalse)
    rw [Array.toList_setIfInBounds]; omega
   ·
    intro j oj hj hD e he2 hb
    have key : ∀ k, (L.setIfInBounds i true).getD k false = true ↔ (k = i ∨ L.getD k false = true) := fun k => by
     by_cases hk : i = k
     ·
      subst hk; simp [Array.getD_eq_getD_getElem?, hlt]
     ·
      simp [Array.getD_eq_getD_getElem?, Array.getElem?_setIfInBounds, hk, Ne.symm hk]
    rw [key] at hD ⊢
    exact hcl' j oj hj hD e he2 hb
   ·
    cases ho2 : o.dst with
    | none => exact hNr.ext he
    | some d =>
     have hd := dOk_lt g2 ho2
     have : d ≠ N := Nat.ne_of_lt hd
     have h1 : (a.put (some d) v).tmps.getD N undef = a.tmps.getD N undef := by simp [Act.put, Array.getD_eq_getD_getElem?, Array.getElem?_setIfInBounds, this]
     rw [h1]; exact hNr.ext he
   ·
    have hselL : ∀ k, k ≠ i → (L.setIfInBounds i true).getD k false = L.getD k false := fun k hk => by
     simp [Array.getD_eq_getD_getElem?, Array.getElem?_setIfInBounds, Ne.symm hk]
    by_cases hte : t = (ent N o x).1
    ·
     cases ho2 : o.dst with
     | none =>
      rw [ent_none ho2] at hte
      have hte : t = N := hte
      rw [hte]
      refine fr_rep out 0 F (hNr.ext he) (fun p hp hpt => ?_)
      obtain ⟨j, hj, rfl⟩ := List.mem_iff_getElem.1 hp
      obtain ⟨x', k1, k2, _⟩ := hat j l[j] (List.getElem?_eq_getElem xd)
      have k3 : out[j] = ent N l[j] x' := by rw [List.getElem?_eq_getElem hj] at k1; exact Option.some.inj k1
      rw [k3] at hpt ⊢
      rw [ent_top hpt k2]
      exact .any _
     | some d =>
      rw [zc0 ho2] at hte g1
      dsimp only at hte
      subst hte
      have h2 : (fr (fun j => (L.setIfInBounds i true).getD j false) 0 out F).get t = x := fr_last out 0 F i g1 (by simp [Array.getD_eq_getD_getElem?, hlt]) (fun j p hp hij hc hpt => by
       simp only [Nat.zero_add] at hc
       rw [hselL j xd] at hc
       have hj : j < l.length := by rw [hlen]; exact (List.getElem?_eq_some_iff.1 hp).1
       obtain ⟨x', k1, _, _⟩ := hat j _ (List.getElem?_eq_getElem hj)
       rw [k1] at hp
       cases hp
       have htN := dOk_lt g2 ho2
       have k2 : l[j].dst = some t := ent_at hpt htN
       have := (hord j _ (List.getElem?_eq_getElem hj) xd).2 hij (clash_of.2.1 ho2 k2)
       rw [this] at hc
       cases hc)
      rw [h2]
      have : t < a.tmps.size := by rw [h8.nt]; exact dOk_lt g2 ho2
      simpa [Act.put, Array.getD_eq_getD_getElem?, this] using hv
    ·
     have h2 : (fr (fun j => (L.setIfInBounds i true).getD j false) 0 out F).get t = (fr (fun j => L.getD j false) 0 out F).get t := fr_congr out 0 F F rfl (fun j p hp hpt => by
      simp only [Nat.zero_add]
      refine hselL j (fun e => ?_)
      subst e
      rw [g1] at hp
      cases hp
      exact hte hpt.symm)
     rw [h2]
     have h3 := (h8.fr t).ext he
     cases ho2 : o.dst with
     | none => exact h3
     | some d =>
      rw [zc0 ho2] at hte
      have hte : t ≠ d := hte
      simpa [Act.put, Array.getD_eq_getD_getElem?, Array.getElem?_setIfInBounds, Ne.symm hte] using h3
  have hset : ∀ j, j ≠ i → ((L.setIfInBounds i true).getD j false = true ↔ L.getD j false = true) := fun j hj => by
   simp [Array.getD_eq_getD_getElem?, Array.getElem?_setIfInBounds, Ne.symm hj]
  have hseti : (L.setIfInBounds i true).getD i false = true := by simp [Array.getD_eq_getD_getElem?, hlt]
  have hil : i < l.length := (List.getElem?_eq_some_iff.1 hli).1
  have hkeep : (∀ W, ks[i]? ≠ some (.eff W)) → ∀ j W, ks[j]? = some (.eff W) → ((L.setIfInBounds i true).getD j false = true ↔ j < m) := fun hne j W hj => by
   have : j ≠ i := fun e => hne W (e ▸ hj)
   rw [hset j this]; exact hm j W hj
  -- an effect that is on the other side in the list is one that it does not meet
  have hside : ∀ b, ks[i]? = some b → ∀ j W, ks[j]? = some (.eff W) → kdClash b.kd (.eff W) = true → (j < m ↔ j < i) := fun b hb j W hj hcl2 => by
   have hjl : j < l.length := by rw [← hkl]; exact (List.getElem?_eq_some_iff.1 hj).1
   rw [← hm j W hj]
   rcases Nat.lt_trichotomy j i with h | h | h
   ·
    have h3 := hq2 j i (.eff W) b h hj hb (by rw [kdClash_symm]; exact hcl2)
    rcases hsound _ hcl' i j h3 (.inl rfl) with h4 | h4
    ·
     omega
    ·
     simp [h, h4]
   ·
    subst h; rw [hfalse]; simp
   ·
    have h3 := hq2 i j b (.eff W) h hb hj hcl2
    constructor
    ·
     intro h4
     have := hsound _ hcl j i h3 h4
     rw [hfalse] at this; cases this
    ·
     intro h4; omega
  have hfi : ks[i]? ≠ some .flt → ((L.setIfInBounds i true).getD f false = true ↔ L.getD f false = true) := fun hne => hset f (fun e => by
   rcases hf with ⟨_, hf⟩ | ⟨_, hf⟩
   ·
    exact hne (e ▸ hf)
   ·
    omega)
  have hInv : Inv ((sts ++ [σ']).getD m [] ++ (if L.getD f false = true then [ob] else [])) := by
   split
   ·
    exact hIX _ (hlenS m hml).2
   ·
    rw [List.append_nil]; exact (hlenS m hml).2
  have hfe : ks[i]? ≠ some .flt → (if (L.setIfInBounds i true).getD f false = true then [ob] else []) = (if L.getD f false = true then [ob] else []) := fun hne => by simp only [hfi hne]
  unfold wpOp
  simp only [ho]
  rcases g4 with ⟨k0, ks0, k1, k2⟩ | ⟨R, k0, ks0, kR, k1, k2⟩ | ⟨W0, k0, k1, k2, _⟩ | ⟨k0, ks0, k1, k2⟩
  ·
   rw [if_pos ((k1.congr hsel).wanted h8.fr)]
   left
   refine ((k2 _ hInv).congr hsel) G a _ _ h8.rel (fun y _ => zc4 h8.fr y) (fun v G' he hr' hv => ?_)
   exact hnext m hml (hkeep (by rw [k0]; simp)) G' v he (by rw [hfe (by rw [k0]; simp)]; exact hr') hv
  ·
   rw [if_pos ((k1.congr hsel).wanted h8.fr)]
   left
   have hlooked : ∀ id ∈ R, ((sts ++ [σ']).getD m [] ++ (if L.getD f false = true then [ob] else []))[id]? = ((sts ++ [σ']).getD i [])[id]? := fun id hid => by
    rw [List.getElem?_append_left (by rw [(hlenS m hml).1]; exact kR id hid)]
    exact hlooks id m i hml (Nat.le_of_lt hil) (fun j W hj hne => by
     cases hc : kdClash (.look R) (.eff W) with
     | true => exact absurd (hside _ k0 j W hj hc) hne
     | false => exact meets_of hc id hid)
   refine ((k2 _ hlooked).congr hsel) G a _ _ h8.rel (fun y _ => zc4 h8.fr y) (fun v G' he hr' hv => ?_)
   exact hnext m hml (hkeep (by rw [k0]; simp)) G' v he (by rw [hfe (by rw [k0]; simp)]; exact hr') hv
  ·
   rw [if_pos ((k1.congr hsel).wanted h8.fr)]
   left
   have hef : ∀ j W, ks[j]? = some (.eff W) → (j < m ↔ j < i) := fun j W hj => hside _ k0 j W hj rfl
   have e1 := hbetween m i hml (Nat.le_of_lt hil) hef
   have h8r := h8.rel
   rw [e1] at h8r
   refine ((k2 _ (fun hb => if_neg (hff L hL hb))).congr hsel) G a _ _ h8r (fun y _ => zc4 h8.fr y) (fun v G' he hr' hv => ?_)
   refine hnext (i + 1) hil (fun j W hj => ?_) G' v he (by rw [hfe (by rw [k0]; simp)]; exact hr') hv
   by_cases hji : j = i
   ·
    subst hji; rw [hseti]; simp
   ·
    rw [hset j hji, hm j W hj, hef j W hj]; omega
  ·
   rw [if_pos ((k1.congr hsel).wanted h8.fr)]
   left
   have hif := hone2 i k0
   have h8r := h8.rel
   rw [if_neg (by rw [← hif, hfalse]; simp), List.append_nil] at h8r
   refine ((k2 _ (hlenS m hml).1).congr hsel) G a _ _ h8r (fun y _ => zc4 h8.fr y) (fun v G' he hr' hv => ?_)
   exact hnext m hml (hkeep (by rw [k0]; simp)) G' v he (by rw [← hif, if_pos hseti]; exact hr') hv
theorem fdraw_steps {n0 : Nat} {ob : Ob} {fl : Bool} {Inv : List Ob → Prop} {f : Nat} {σ' : List Ob} {ks : List FKd} {sts : List (List Ob)} (hs : FSteps P N l.toArray n0 ob fl Inv l F σ F' σ' out ks sts) (hIX : ∀ s, Inv s → Inv (s ++ [ob])) (hf : (fl = true ∧ ks[f]? = some .flt) ∨ (fl = false ∧ l.length ≤ f)) (hq : fOk l N ks f = true) (hQ : Q .normal F' (σ' ++ (if fl = true then [ob] else []))) : EDraw P N l F σ Q := fun G a h8 => by
 have hno : ∀ j, (Array.replicate l.length false).getD j false = false := fun j => by
  simp only [Array.getD_eq_getD_getElem?, Array.getElem?_replicate]
  split <;> rfl
 have h3 : ∀ (out : List (Nat × AV)) (k : Nat) (F : Frm), fr (fun j => (Array.replicate l.length false).getD j false) k out F = F := by
  intro out
  induction out with
  | nil => intro k F; rfl
  | cons p out ih =>
   intro k F
   have := hno k
   simp only [fr, this, cond_false]
   exact ih _ _
 refine fgen_any hIX hq hf hs hQ G l.length _ G a 0 (.refl G) xo (by simp [left_rep]) ?_ (Nat.zero_le _) ?_ (h8.fr N) ?_
 ·
  intro j o hj hD
  rw [hno] at hD
  cases hD
 ·
  intro j W hj
  rw [hno]; simp
 ·
  rw [h3, (fsteps_at hs).2.2.2.2.1, if_neg (by rw [hno]; simp), List.append_nil]; exact h8
def FX (P : Program) (N : Nat) (ops : Array Oper) (all : List Oper) (n0 : Nat) (ob : Ob) (fl : Bool) (Inv : List Ob → Prop) (f : Nat) (acc : List FKd) (l : List Oper) (F : Frm) (σ : List Ob) (K : Frm → List Ob → Prop) : Prop :=
 ∃ F' σ' out ks sts, FSteps P N ops n0 ob fl Inv l F σ F' σ' out ks sts ∧ fOk all N (acc.reverse ++ ks) f = true ∧ ((fl = true ∧ (acc.reverse ++ ks)[f]? = some .flt) ∨ (fl = false ∧ all.length ≤ f)) ∧ K F' (σ' ++ (if fl = true then [ob] else []))
variable {ops : Array Oper} {all : List Oper} {n0 : Nat} {ob : Ob} {fl : Bool} {Inv : List Ob → Prop} {f : Nat} {acc : List FKd} {K : Frm → List Ob → Prop} {o : Oper} {d : Nat} {x : AV} {σ1 : List Ob}
theorem fx_nil (hn : σ.length = n0 ∧ Inv σ) (hk : fOk all N acc.reverse f = true) (hf : (fl = true ∧ acc.reverse[f]? = some .flt) ∨ (fl = false ∧ all.length ≤ f)) (h : K F (σ ++ (if fl = true then [ob] else []))) : FX P N ops all n0 ob fl Inv f acc [] F σ K := ⟨F, σ, [], [], [], .nil F σ hn, by simpa using hk, by simpa using hf, h⟩
theorem fx_inv (hd : o.dst = some d) (hN : Nat.blt d N = true) (hr : Runs ops F o true) (hD : ∀ σ, Inv σ → Does P o F σ x σ) (hn : σ.length = n0 ∧ Inv σ) (h : FX P N ops all n0 ob fl Inv f (.free :: acc) l ((d, x) :: F) σ K) : FX P N ops all n0 ob fl Inv f acc (o :: l) F σ K := by
 obtain ⟨F', σ', out, ks, sts, h1, h2, h4, h3⟩ := h
 exact ⟨F', σ', _, _, _, .free o l F F' σ σ' x out ks sts hn (dOk_s hd hN) hr hD (by rw [zc0 hd]; exact h1), by simpa using h2, by simpa using h4, h3⟩
theorem zbh (hd : o.dst = some d) (hN : Nat.blt d N = true) (hr : Runs ops F o true) (hD : ∀ σ, Does P o F σ x σ) (hn : σ.length = n0 ∧ Inv σ) (h : FX P N ops all n0 ob fl Inv f (.free :: acc) l ((d, x) :: F) σ K) : FX P N ops all n0 ob fl Inv f acc (o :: l) F σ K :=
 fx_inv hd hN hr (fun σ _ => hD σ) hn h
theorem fx_look {R : List Nat} (hd : o.dst = some d) (hN : Nat.blt d N = true) (hr : Runs ops F o true) (hD : ∀ σ2, (∀ id ∈ R, σ2[id]? = σ[id]?) → Does P o F σ2 x σ2) (hn : σ.length = n0 ∧ Inv σ) (hR : ∀ id ∈ R, id < n0) (h : FX P N ops all n0 ob fl Inv f (.look R :: acc) l ((d, x) :: F) σ K) : FX P N ops all n0 ob fl Inv f acc (o :: l) F σ K := by
 obtain ⟨F', σ', out, ks, sts, h1, h2, h4, h3⟩ := h
 exact ⟨F', σ', _, _, _, .look o l F F' σ σ' x out ks sts R hn hR (dOk_s hd hN) hr hD (by rw [zc0 hd]; exact h1), by simpa using h2, by simpa using h4, h3⟩
theorem fx_eff {W : List Nat} (hd : o.dst = some d) (hN : Nat.blt d N = true) (hr : Runs ops F o true) (hD : ∀ X, (fl = false → X = []) → Does P o F (σ ++ X) x (σ1 ++ X)) (hW : ∀ id, id ∉ W → σ1[id]? = σ[id]?) (hn : σ.length = n0 ∧ Inv σ) (h : FX P N ops all n0 ob fl Inv f (.eff W :: acc) l ((d, x) :: F) σ1 K) : FX P N ops all n0 ob fl Inv f acc (o :: l) F σ K := by
 obtain ⟨F', σ', out, ks, sts, h1, h2, h4, h3⟩ := h
 exact ⟨F', σ', _, _, _, .eff o l F F' σ σ1 σ' x out ks sts W hn (dOk_s hd hN) hr hD hW (by rw [zc0 hd]; exact h1), by simpa using h2, by simpa using h4, h3⟩
theorem fx_flt (hd : o.dst = some d) (hN : Nat.blt d N = true) (hr : Runs ops F o true) (hD : ∀ σ : List Ob, σ.length = n0 → Does P o F σ x (σ ++ [ob])) (hn : σ.length = n0 ∧ Inv σ) (h : FX P N ops all n0 ob fl Inv f (.flt :: acc) l ((d, x) :: F) σ K) : FX P N ops all n0 ob fl Inv f acc (o :: l) F σ K := by
 obtain ⟨F', σ', out, ks, sts, h1, h2, h4, h3⟩ := h
 exact ⟨F', σ', _, _, _, .flt o l F F' σ σ' x out ks sts hn (dOk_s hd hN) hr hD (by rw [zc0 hd]; exact h1), by simpa using h2, by simpa using h4, h3⟩
theorem edraw_fx (f : Nat) (ob : Ob) (Inv : List Ob → Prop) (hIX : ∀ s, Inv s → Inv (s ++ [ob])) (h : FX P N l.toArray l σ.length ob true Inv f [] l F σ (fun F' σ' => Q .normal F' σ')) : EDraw P N l F σ Q := by
 obtain ⟨F', σ', out, ks, sts, h1, h2, h4, h3⟩ := h
 exact fdraw_steps h1 hIX (by simpa using h4) (by simpa using h2) h3
theorem edraw_f0 (Inv : List Ob → Prop) (hIX : ∀ s, Inv s → Inv (s ++ [.dead])) (h : FX P N l.toArray l σ.length .dead false Inv l.length [] l F σ (fun F' σ' => Q .normal F' σ')) : EDraw P N l F σ Q := by
 obtain ⟨F', σ', out, ks, sts, h1, h2, h4, h3⟩ := h
 exact fdraw_steps h1 hIX (.inr ⟨rfl, Nat.le_refl _⟩) (by simpa using h2) h3
theorem fx_n0 {a a' : Ob} {R : List Ob} (hd : o.dst = some d) (hN : Nat.blt d N = true) (hr : Runs ops F o true) (hD : ∀ X, Does P o F (a :: (R ++ X)) x (a' :: (R ++ X))) (hn : (a :: R).length = n0 ∧ Inv (a :: R)) (h : FX P N ops all n0 ob fl Inv f (.eff [0] :: acc) l ((d, x) :: F) (a' :: R) K) : FX P N ops all n0 ob fl Inv f acc (o :: l) F (a :: R) K :=
 fx_eff (W := [0]) (σ := a :: R) (σ1 := a' :: R) hd hN hr (fun X _ => hD X) (fun id hid => by
  cases id with
  | zero => exact absurd xo hid
  | succ id => rfl) hn h
theorem fx_m0 {a a' : Ob} {R : List Ob} (hfl : fl = false) (hd : o.dst = some d) (hN : Nat.blt d N = true) (hr : Runs ops F o true) (hD : Does P o F (a :: R) x (a' :: R)) (hn : (a :: R).length = n0 ∧ Inv (a :: R)) (h : FX P N ops all n0 ob fl Inv f (.eff [0] :: acc) l ((d, x) :: F) (a' :: R) K) : FX P N ops all n0 ob fl Inv f acc (o :: l) F (a :: R) K :=
 fx_eff (W := [0]) (σ := a :: R) (σ1 := a' :: R) hd hN hr (fun X hX => by rw [hX hfl, List.append_nil, List.append_nil]; exact hD) (fun id hid => by
  cases id with
  | zero => exact absurd xo hid
  | succ id => rfl) hn h
theorem edraw_lastT {last : Oper} (hl : l.dropLast ++ [last] = l) (hk : lastBT l.dropLast last = true) (h : EDraw P N l.dropLast F σ (AThen (fun F σ => EOps P N l.toArray [last] F σ Q) Q)) : EDraw P N l F σ Q := fun G a hs => by
 have h1 := h G a hs
 have h2 := wpAny_mono (Q' := thenLast P l.dropLast last (liftE N G Q)) (fun e a w q => by
  obtain ⟨G', F', σ', rfl, g2, g3, g4⟩ := q
  unfold thenLast
  rw [hl]
  cases e with
  | normal => exact zcm (fun e a w q => liftE_mono g2 (fun _ _ _ x => x) q) _ _ _ (g4 G' a g3)
  | _ => exact ⟨G', F', σ', rfl, g2, g3, g4⟩) _ _ _ _ h1
 have h3 := last_anyT (lastT_of hk) _ _ a G.w xo (Clo.none _) h2
 rw [hl] at h3
 have h4 : l.length = l.dropLast.length + 1 := by rw [← hl]; simp
 rw [h4]
 rwa [show Array.replicate (l.dropLast.length + 1) false = (Array.replicate l.dropLast.length false).push false by simp [Array.replicate_succ]]
theorem does_alloc_flt {n0 sz : Nat} {F : Frm} {o : Oper} (h : ∀ σ : List Ob, Does P o F σ (.ptr σ.length sz 0 0) (σ ++ [ob])) : ∀ σ : List Ob, σ.length = n0 → Does P o F σ (.ptr n0 sz 0 0) (σ ++ [ob]) := fun σ e => by
 subst e; exact h σ
end
end Go.Proofs.YtllkbjcemecmjaaGreat.Aw
end
section
namespace Go.Proofs.YtllkbjcemecmjaaGreat.Aw.K4
open Go Go.RowKit Go.Proofs
structure KE (G G' : Cx) : Prop where
 step : G.Step G'
 mu0 : ∀ i y, i < 4 → G.mu i = some y → G'.mu i = some y
 rows : zcc G.w G'.w
 size : G.w.heap.size ≤ G'.w.heap.size
theorem KE.refl (G : Cx) : KE G G := ⟨.refl G, fun _ _ _ h => h, zcc.refl _, Nat.le_refl _⟩
theorem KE.trans {G H K : Cx} (h : KE G H) (k : KE H K) : KE G K := ⟨h.step.trans k.step, fun i y hi x => k.mu0 i y hi (h.mu0 i y hi x), h.rows.trans k.rows, Nat.le_trans h.size k.size⟩
theorem KE.of {G G' : Cx} (e : G.Ext G') : KE G G' := ⟨e.step, fun i y _ h => e.mu i y h, e.rows, e.size⟩
def liftK (N : Nat) (G : Cx) (Q : Exit → Frm → List Ob → Prop) : Exit → Act → World → Prop :=
 fun e a' w' => ∃ G' F' σ', G'.w = w' ∧ KE G G' ∧ S8 N G' a' F' σ' ∧ Q e F' σ'
theorem liftK_mono {N : Nat} {G G1 : Cx} (h : KE G G1) {Q Q' : Exit → Frm → List Ob → Prop} (hq : ∀ e F σ, Q e F σ → Q' e F σ) {e : Exit} {a : Act} {w : World} (x : liftK N G1 Q e a w) : liftK N G Q' e a w := by
 obtain ⟨G', F', σ', h1, h2, h3, h4⟩ := x
 exact ⟨G', F', σ', h1, h.trans h2, h3, hq _ _ _ h4⟩
def KWp (P : Program) (N : Nat) (c : Code) (F : Frm) (σ : List Ob) (Q : Exit → Frm → List Ob → Prop) : Prop :=
 ∀ G a, S8 N G a F σ → c.wp P (liftK N G Q) a G.w
def KOps (P : Program) (N : Nat) (ops : Array Oper) (l : List Oper) (F : Frm) (σ : List Ob) (Q : Exit → Frm → List Ob → Prop) : Prop :=
 ∀ G a, S8 N G a F σ → wpList P ops (liftK N G Q) l a G.w
section
variable {P : Program} {N : Nat} {F : Frm} {σ : List Ob} {Q : Exit → Frm → List Ob → Prop}
theorem kw_seq {x y : Code} (h : KWp P N x F σ (AThen (fun F σ => KWp P N y F σ Q) Q)) : KWp P N (.seq x y) F σ Q := fun G a hs => by
 refine wp_seq (Code.wp_mono (fun e a1 w1 q => ?_) (h G a hs))
 obtain ⟨G', F', σ', rfl, h2, h3, h4⟩ := q
 cases e with
 | normal => exact Code.wp_mono (fun e a w q => liftK_mono h2 (fun _ _ _ x => x) q) (h4 G' a1 h3)
 | _ => exact ⟨G', F', σ', rfl, h2, h3, h4⟩
theorem kw_skip (h : Q .normal F σ) : KWp P N .skip F σ Q := fun G a hs => wp_skip ⟨G, F, σ, rfl, .refl G, hs, h⟩
theorem kw_exit {id : Nat} (h : Q (.exit id) F σ) : KWp P N (.exit id) F σ Q := fun G a hs => wp_exit ⟨G, F, σ, rfl, .refl G, hs, h⟩
theorem kw_ret (h : Q .ret F σ) : KWp P N .ret F σ Q := fun G a hs => wp_ret ⟨G, F, σ, rfl, .refl G, hs, h⟩
theorem kw_block {id : Nat} {c : Code} (h : KWp P N c F σ (ABlk id Q)) : KWp P N (.block id c) F σ Q := fun G a hs => by
 refine wp_block (Code.wp_mono (fun e a1 w1 q => ?_) (h G a hs))
 obtain ⟨G', F', σ', rfl, h2, h3, h4⟩ := q
 cases e with
 | exit id' =>
  simp only [ABlk] at h4
  simp only [Exit.inBlock]
  split
  ·
   rename_i e; rw [if_pos e] at h4; exact ⟨G', F', σ', rfl, h2, h3, h4⟩
  ·
   rename_i e; rw [if_neg e] at h4; exact ⟨G', F', σ', rfl, h2, h3, h4⟩
 | _ => exact ⟨G', F', σ', rfl, h2, h3, h4⟩
theorem kw_cond {c : Operand} {x y : Code} {b : Bool} (hc : F.eval c = .s (.bool b)) (ht : b = true → KWp P N x F σ Q) (hf : b = false → KWp P N y F σ Q) : KWp P N (.cond c x y) F σ Q := fun G a hs =>
 wp_cond_split (rep_bool hs.fr hc) (fun e => ht e G a hs) (fun e => hf e G a hs)
theorem kw_true {c : Operand} {x y : Code} (hc : F.eval c = .s (.bool true)) (ht : KWp P N x F σ Q) : KWp P N (.cond c x y) F σ Q := kw_cond hc (fun _ => ht) (fun e => by cases e)
theorem kw_false {c : Operand} {x y : Code} (hc : F.eval c = .s (.bool false)) (ht : KWp P N y F σ Q) : KWp P N (.cond c x y) F σ Q := kw_cond hc (fun e => by cases e) (fun _ => ht)
theorem kw_loop {c : Code} (I : Nat → Frm → List Ob → Prop) (m : Nat) (h0 : I m F σ)
  (round : ∀ m F σ, I m F σ → KWp P N c F σ (AThen (fun F' σ' => ∃ m', m' < m ∧ I m' F' σ') Q)) : KWp P N (.loop c) F σ Q := fun G a hs => by
 refine wp_loop_ghost (fun n a w => ∃ G' F' σ', G'.w = w ∧ KE G G' ∧ S8 N G' a F' σ' ∧ I n F' σ') m ⟨G, F, σ, rfl, .refl G, hs, h0⟩ ?_
 rintro n a w ⟨G', F', σ', rfl, h2, h3, h4⟩
 refine Code.wp_mono (fun e a1 w1 q => ?_) (round n F' σ' h4 G' a h3)
 obtain ⟨G2, F2, σ2, rfl, h5, h6, h7⟩ := q
 cases e with
 | normal => obtain ⟨m', hm, hi⟩ := h7; exact ⟨m', hm, ⟨G2, F2, σ2, rfl, h2.trans h5, h6, hi⟩⟩
 | _ => exact ⟨G2, F2, σ2, rfl, h2.trans h5, h6, h7⟩
theorem kw_region {id : Nat} {l : List Oper} (h : KOps P N l.toArray l F σ Q) : KWp P N (.region id l.toArray false) F σ Q := fun G a hs => wp_region_lit (h G a hs)
theorem kw_mono {c : Code} {Q' : Exit → Frm → List Ob → Prop} (h : KWp P N c F σ Q) (hq : ∀ e F σ, Q e F σ → Q' e F σ) : KWp P N c F σ Q' := fun G a hs =>
 Code.wp_mono (fun e a w q => liftK_mono (.refl G) hq q) (h G a hs)
end
section
variable {P : Program} {N : Nat} {F : Frm} {σ σ' : List Ob} {Q : Exit → Frm → List Ob → Prop} {ops : Array Oper} {o : Oper} {l : List Oper} {x : AV}
theorem kops_nil (h : Q .normal F σ) : KOps P N ops [] F σ Q := fun G a hs => ⟨G, F, σ, rfl, .refl G, hs, h⟩
theorem kops_op {d : Nat} (hd : o.dst = some d) (hN : Nat.blt d N = true) (hr : Runs ops F o true) (hD : Does P o F σ x σ') (k : KOps P N ops l ((d, x) :: F) σ' Q) : KOps P N ops (o :: l) F σ Q := fun G a hs => by
 unfold wpList
 rw [if_pos (hr.wanted hs.fr)]
 left
 refine hD G a _ _ hs.rel (fun y _ => zc4 hs.fr y) (fun v G' e r hv => ?_)
 rw [hd]
 exact zcm (fun e' a w q => liftK_mono (KE.of e) (fun _ _ _ x => x) q) _ _ _ (k G' _ ((hs.step e r).put (by simpa [Nat.blt_eq] using hN) hv))
theorem kops_eff (hd : o.dst = none) (hr : Runs ops F o true) (hD : Does P o F σ x σ') (k : KOps P N ops l F σ' Q) : KOps P N ops (o :: l) F σ Q := fun G a hs => by
 unfold wpList
 rw [if_pos (hr.wanted hs.fr)]
 left
 refine hD G a _ _ hs.rel (fun y _ => zc4 hs.fr y) (fun v G' e r hv => ?_)
 rw [hd]
 exact zcm (fun e' a w q => liftK_mono (KE.of e) (fun _ _ _ x => x) q) _ _ _ (k G' _ (hs.step e r))
theorem kops_skip {d : Nat} (hd : o.dst = some d) (hN : Nat.blt d N = true) (hr : Runs ops F o false) (k : KOps P N ops l ((d, .s undef) :: F) σ Q) : KOps P N ops (o :: l) F σ Q := fun G a hs => by
 unfold wpList
 rw [if_neg (by rw [hr.wanted hs.fr]; simp)]
 rw [hd]
 exact k G _ (hs.put (by simpa [Nat.blt_eq] using hN) (.s _))
end
def WeakK (N : Nat) (F : Frm) (σ : List Ob) (F' : Frm) (σ' : List Ob) : Prop := ∀ G a, S8 N G a F σ → ∃ G', G'.w = G.w ∧ KE G G' ∧ S8 N G' a F' σ'
theorem WeakK.refl {N : Nat} {F : Frm} {σ : List Ob} : WeakK N F σ F σ := fun G a h => ⟨G, rfl, .refl G, h⟩
section
variable {P : Program} {N : Nat} {F F' : Frm} {σ σ' : List Ob} {Q : Exit → Frm → List Ob → Prop}
theorem kw_weak {c : Code} (w : WeakK N F σ F' σ') (h : KWp P N c F' σ' Q) : KWp P N c F σ Q := fun G a hs => by
 obtain ⟨G1, e1, s1, h1⟩ := w G a hs
 rw [← e1]
 exact Code.wp_mono (fun e a w q => liftK_mono s1 (fun _ _ _ x => x) q) (h G1 a h1)
theorem kops_weak {ops : Array Oper} {l : List Oper} (w : WeakK N F σ F' σ') (h : KOps P N ops l F' σ' Q) : KOps P N ops l F σ Q := fun G a hs => by
 obtain ⟨G1, e1, s1, h1⟩ := w G a hs
 rw [← e1]
 exact zcm (fun e a w q => liftK_mono s1 (fun _ _ _ x => x) q) _ _ _ (h G1 a h1)
theorem kw_loops {c : Code} {S : Type} (fr : S → Frm) (st : S → List Ob) (inv : S → Prop) (ms : S → Nat) (s0 : S) (hw : WeakK N F σ (fr s0) (st s0)) (h0 : inv s0)
  (round : ∀ s, inv s → KWp P N c (fr s) (st s) (AThen (fun F' σ' => ∃ s', inv s' ∧ ms s' < ms s ∧ WeakK N F' σ' (fr s') (st s')) Q)) : KWp P N (.loop c) F σ Q := by
 refine kw_weak hw (kw_loop (fun m F σ => ∃ s, inv s ∧ ms s = m ∧ WeakK N F σ (fr s) (st s)) (ms s0) ⟨s0, h0, rfl, WeakK.refl⟩ (fun m F σ h => ?_))
 obtain ⟨s, h1, rfl, h3⟩ := h
 refine kw_weak h3 (kw_mono (round s h1) (fun e F σ q => ?_))
 cases e with
 | normal => obtain ⟨s', g1, g2, g3⟩ := q; exact ⟨ms s', g2, s', g1, rfl, g3⟩
 | _ => exact q
variable {ops : Array Oper} {o : Oper} {l : List Oper} {d : Nat}
theorem kops_opP {p : Prop} [Decidable p] (hd : o.dst = some d) (hN : Nat.blt d N = true) (hr : Runs ops F o true) (hD : Does P o F σ (.s (.bool (decide p))) σ) (k1 : p → KOps P N ops l ((d, .s (.bool true)) :: F) σ Q) (k2 : ¬ p → KOps P N ops l ((d, .s (.bool false)) :: F) σ Q) : KOps P N ops (o :: l) F σ Q := by
 by_cases h : p
 ·
  exact kops_op hd hN hr (zdc h hD) (k1 h)
 ·
  exact kops_op hd hN hr (dec_f h hD) (k2 h)
end
section
variable {N : Nat} {F F' : Frm} {σ σ' : List Ob}
theorem WeakK.weak (h : WeakK N F σ F' σ') : Weak N F σ F' σ' := fun G a hs => by
 obtain ⟨G', h1, h2, h3⟩ := h G a hs
 exact ⟨G', h1, h2.step, h3⟩
theorem WeakK.trans {F1 F2 : Frm} {σ1 σ2 : List Ob} (h : WeakK N F σ F1 σ1) (k : WeakK N F1 σ1 F2 σ2) : WeakK N F σ F2 σ2 := fun G a hs => by
 obtain ⟨G1, e1, s1, h1⟩ := h G a hs
 obtain ⟨G2, e2, s2, h2⟩ := k G1 a h1
 exact ⟨G2, e2.trans e1, s1.trans s2, h2⟩
theorem kwk_froz {id sz : Nat} {cs : List AV} (hs : σ[id]? = some (.row sz cs)) : WeakK N F σ F (σ.set id (.fz sz cs)) := fun G a h => by
 obtain ⟨h1, h2⟩ := froz_ok h.rel hs
 exact ⟨G.froz id, rfl, KE.of h1, h.step h1 h2⟩
theorem kwk_ref {d id sz k : Nat} {cs : List AV} {e : AV} (hd : F.get d = .ptr id sz k 0) (hs : σ[id]? = some (.fz sz cs)) (he : cs[k]? = some e) : WeakK N F σ ((d, .ref e.cells) :: F) σ := fun G a h =>
 ⟨G, rfl, .refl G, h.rel, h.fr.more (rep_fzp h.rel hs he (by rw [← hd]; exact h.fr d)), h.df, h.nt⟩
theorem kwk_cut {X : List Ob} (h0 : 3 < σ.length) (hσ : ∀ ob ∈ σ, LoOb σ.length ob) (hF : FrLo F σ.length F') : WeakK N F (σ ++ X) F' σ := fun G a h => by
 let G' : Cx := { G with mu := fun i => if i < σ.length then G.mu i else none }
 have hmu : ∀ i, i < σ.length → G'.mu i = G.mu i := fun i hi => if_pos hi
 have low : ∀ {v x}, Rep G v x → Lo σ.length x → Rep G' v x := fun hv hx => hv.low hx (fun _ _ h => h) (fun _ _ _ => rfl) (fun id y hid hy => by rw [hmu id hid]; exact hy) (fun _ => zcc.refl _)
 have hr := h.rel
 have rowlow : ∀ {b sz : Nat} {cs : List AV} {f : Nat × Nat → Prop}, (∀ e ∈ cs, ∀ c ∈ e.cells, Lo σ.length c) → RowAt G b sz cs f → RowAt G' b sz cs f := fun hlo ⟨cur, t, fr, g1, g2, g3, g4⟩ =>
  ⟨cur, t, fr, g1, g2, g3, fun k e he => ⟨(g4 k e he).1, (g4 k e he).2.1, fun j c hc => by
   obtain ⟨v, h6, h7⟩ := (g4 k e he).2.2 j c hc
   exact ⟨v, h6, low h7 (hlo e (List.mem_of_getElem? he) c (List.mem_of_getElem? hc))⟩⟩⟩
 refine ⟨G', rfl, ⟨⟨rfl, rfl, fun _ _ h => h, fun _ _ _ => rfl, fun _ _ h => .inl h, rfl, fun _ _ h => .inl h⟩, fun i y hi hy => by rw [hmu i xd]; exact hy, zcc.refl _, Nat.le_refl _⟩, ⟨⟨hr.below, hr.le, hr.st, fun id ob hob => ?_, fun i j b hi hj hm hm' => ?_, fun id hid => if_neg xd⟩, ?_, h.df, h.nt⟩⟩
 ·
  have hid := (List.getElem?_eq_some_iff.1 hob).1
  have h1 := hr.obs id ob (by rw [List.getElem?_append_left hid]; exact hob)
  have hlo := hσ ob (List.mem_of_getElem? hob)
  cases ob with
  | dead => intro b hb; rw [hmu id hid] at hb; exact h1 b hb
  | row sz cs =>
   simp only [ObOk, hmu id hid] at h1 ⊢
   cases hx : G.mu id with
   | none => rw [hx] at h1; exact h1
   | some x =>
    rw [hx] at h1
    cases x with
    | none => exact h1
    | some b => exact ⟨rowlow hlo h1.1, h1.2⟩
  | fz sz cs =>
   simp only [ObOk, hmu id hid] at h1 ⊢
   cases hx : G.mu id with
   | none => rw [hx] at h1; exact h1
   | some x =>
    rw [hx] at h1
    cases x with
    | none => exact h1
    | some b => exact ⟨rowlow hlo h1.1, h1.2⟩
  | mp X =>
   obtain ⟨b, g1, g2, g3, g4, g5⟩ := h1
   refine ⟨b, (hmu id hid).trans g1, g2, g3, g4, fun j hj => g5 j ?_⟩
   by_cases hjl : j < σ.length
   ·
    rwa [hmu j hjl] at hj
   ·
    simp only [G', if_neg hjl] at hj; cases hj
 ·
  obtain ⟨sz, cs, h1⟩ := hi
  obtain ⟨sz', cs', h1'⟩ := hj
  have hil := (List.getElem?_eq_some_iff.1 h1).1
  have hjl := (List.getElem?_eq_some_iff.1 h1').1
  rw [hmu i hil] at hm
  rw [hmu j hjl] at hm'
  exact hr.inj i j b ⟨sz, cs, by rw [List.getElem?_append_left hil]; exact h1⟩ ⟨sz', cs', by rw [List.getElem?_append_left hjl]; exact h1'⟩ hm hm'
 ·
  have key : ∀ F', FrLo F σ.length F' → FOk G' a F' := by
   intro F'
   induction F' with
   | nil => intro _ d; exact .any _
   | cons p F' ih =>
    obtain ⟨d, y⟩ := p
    rintro ⟨⟨g1, g2⟩, g3⟩ t
    simp only [Frm.get]
    cases e : Nat.beq d t with
    | true =>
     have := Nat.eq_of_beq_eq_true e
     subst this
     have := h.fr d
     rw [g1] at this
     exact low this g2
    | false => exact ih g3 t
  exact key F' hF
theorem kwk_st (ρ : List Nat) (h0 : ρ[0]? = some 0) (h1 : ρ[1]? = some 1) (h2 : ρ[2]? = some 2) (h3 : ρ[3]? = some 3) (hn : ρ.Nodup) (hs : StL ρ σ ρ σ') (hf : FrRn F ρ F') : WeakK N F σ F' σ' := fun G a h =>
 ⟨G.ren ρ, rfl, ⟨⟨rfl, rfl, fun _ _ h => h, fun _ _ _ => rfl, fun _ _ h => .inl h, rfl, fun _ _ h => .inl h⟩, fun i y hi hy => by
  match i, hi with
  | 0, _ => simp [Cx.ren, h0, hy]
  | 1, _ => simp [Cx.ren, h1, hy]
  | 2, _ => simp [Cx.ren, h2, hy]
  | 3, _ => simp [Cx.ren, h3, hy], zcc.refl _, Nat.le_refl _⟩, ⟨ren_rel h.rel hn (stRn_of ρ σ' hs), frRn_ok h.fr F' hf, h.df, h.nt⟩⟩
theorem kwk_sl {d id sz n : Nat} {cs : List AV} (hd : F.get d = .own id sz n) (hs : σ[id]? = some (.fz sz cs)) (hn : n = cs.length) : WeakK N F σ ((d, .sl cs) :: F) σ := fun G a h =>
 ⟨G, rfl, .refl G, h.rel, h.fr.more (rep_fz h.rel hs hn (by rw [← hd]; exact h.fr d)), h.df, h.nt⟩
theorem kwk_nil {d : Nat} (hd : F.get d = .s (.slice none 0 0)) : WeakK N F σ ((d, .sl []) :: F) σ := fun G a h =>
 ⟨G, rfl, .refl G, h.rel, h.fr.more (rep_nil (by rw [← hd]; exact h.fr d)), h.df, h.nt⟩
theorem kwk_own {d : Nat} {x : AV} (sz : Nat) (hd : F.get d = x) (hx : x = .emp ∨ x = .s (.slice none 0 0)) : WeakK N F σ ((d, .own σ.length sz 0) :: F) (σ ++ [.row sz []]) := fun G a h => by
 have he := nil_ext h.rel
 refine ⟨G.new σ.length G.w none, rfl, .of he, nil_rel h.rel sz, (h.fr.ext he).more ?_, h.df, h.nt⟩
 have h1 := h.fr d
 rw [hd] at h1
 generalize a.tmps.getD d undef = v at h1
 rcases hx with rfl | rfl
 ·
  cases h1 with | emp A hA => exact .own0 σ.length sz A hA (by simp [Cx.new])
 ·
  cases h1; exact .own0 σ.length sz none (fun a ha => by cases ha) (by simp [Cx.new])
end
section
variable {P : Program} {σ σ' : List Ob} {f : FuncId} {y : AV} {args : List AV}
theorem callE_fn {fn : Func} {c : Code} (hl : σ.length ≤ 4) (hf : P.funcs[f]? = some fn) (hname : (fn.name == "runtime.NumGoroutine") = false) (hb : fn.body = some c) (hn : args.length ≤ fn.ntmps)
  (h : KWp P fn.ntmps c (argF 0 args) σ (fun e F σ1 => (e = .normal ∨ e = .ret) ∧ σ1 = σ' ∧ ∃ xs, ResL P F σ1 fn.results.toList xs ∧ oneOf xs = y)) : CallE P f args σ y σ' := by
 refine ⟨enters_of hf hname hb, fun G vargs hrel hsz hrep => ?_⟩
 refine calls_of_wp hf hb ?_
 have hfo : FOk G { tmps := vargs ++ Array.replicate (fn.ntmps - vargs.size) undef, defers := [] } (argF 0 args) := by
  intro d
  rw [argF_get]
  simp only [Nat.zero_le, if_true, Nat.sub_zero]
  by_cases hd : d < args.length
  ·
   have h1 : (vargs ++ Array.replicate (fn.ntmps - vargs.size) undef).getD d undef = vargs[d]'(by omega) := by
    rw [Array.getD_eq_getD_getElem?, Array.getElem?_append_left xd]
    simp [show d < vargs.size by omega]
   rw [h1]
   have h2 : args.getD d .any = args[d] := by rw [List.getD_eq_getElem?_getD, List.getElem?_eq_getElem hd]; rfl
   rw [h2]
   exact hrep d _ _ (by simp [show d < vargs.size by omega]) (by simp [hd])
  ·
   have h2 : args.getD d .any = .any := by
    rw [List.getD_eq_getElem?_getD, List.getElem?_eq_none xd]; rfl
   rw [h2]; exact .any _
 have hs8 : S8 fn.ntmps G { tmps := vargs ++ Array.replicate (fn.ntmps - vargs.size) undef, defers := [] } (argF 0 args) σ := ⟨hrel, hfo, rfl, by simp; omega⟩
 refine Code.wp_mono (fun e a w q => ?_) (h G _ hs8)
 obtain ⟨G', F', σ1, rfl, h2, h3, he, rfl, xs, hrl, hy⟩ := q
 obtain ⟨v, h6, h7⟩ := results_run (fn := fn) h3.rel h3.fr hrl
 rw [hy] at h7
 have hext : G.Ext G' := ⟨h2.step.base, h2.step.w0, h2.step.st, h2.step.cell, fun id x hx => by
  by_cases hid : id < 4
  ·
   exact h2.mu0 id x hid hx
  ·
   rw [hrel.fresh id xd] at hx; exact absurd hx xo, h2.size, h2.rows, h2.step.stN, h2.step.pr, h2.step.prN⟩
 have post : ∃ (v' : Value) (G'' : Cx), Ending.returned v = .returned v' ∧ G''.w = G'.w ∧ G.Ext G'' ∧ Rel G'' σ1 ∧ Rep G'' v' y := ⟨v, G', rfl, rfl, hext, h3.rel, h7⟩
 rcases he with rfl | rfl
 ·
  exact ⟨h3.df, _, h6, post⟩
 ·
  exact ⟨h3.df, _, h6, post⟩
theorem callE_fn1 {fn : Func} {c : Code} {t : Nat} (hl : σ.length ≤ 4) (hf : P.funcs[f]? = some fn) (hname : (fn.name == "runtime.NumGoroutine") = false) (hb : fn.body = some c) (hn : args.length ≤ fn.ntmps) (hres : fn.results.toList = [.tmp t])
  (h : KWp P fn.ntmps c (argF 0 args) σ (fun e F σ1 => (e = .normal ∨ e = .ret) ∧ F.get t = y ∧ σ1 = σ')) : CallE P f args σ y σ' :=
 callE_fn hl hf hname hb hn (kw_mono h (fun e F σ1 ⟨h1, h2, h3⟩ => ⟨h1, h3, [y], by rw [hres]; exact .cons _ _ _ _ (.tmp t y h2) .nil, rfl⟩))
theorem callE_fn0 {fn : Func} {c : Code} (hl : σ.length ≤ 4) (hf : P.funcs[f]? = some fn) (hname : (fn.name == "runtime.NumGoroutine") = false) (hb : fn.body = some c) (hn : args.length ≤ fn.ntmps) (hres : fn.results.toList = [])
  (h : KWp P fn.ntmps c (argF 0 args) σ (fun e F σ1 => (e = .normal ∨ e = .ret) ∧ σ1 = σ')) : CallE P f args σ (.tup []) σ' :=
 callE_fn hl hf hname hb hn (kw_mono h (fun e F σ1 ⟨h1, h3⟩ => ⟨h1, h3, [], by rw [hres]; exact .nil, rfl⟩))
end
theorem kwk_sub {N : Nat} {F : Frm} {σ : List Ob} : ∀ {F'}, Sub F F' → WeakK N F σ F' σ := fun {F'} h G a hs => by
 refine ⟨G, rfl, .refl G, hs.rel, ?_, hs.df, hs.nt⟩
 have key : ∀ F', Sub F F' → FOk G a F' := by
  intro F'
  induction F' with
  | nil => intro _ d; exact .any _
  | cons p F' ih =>
   obtain ⟨d, y⟩ := p
   intro h t
   simp only [Frm.get]
   cases e : Nat.beq d t with
   | true => have := Nat.eq_of_beq_eq_true e; subst this; rw [← h.1]; exact hs.fr d
   | false => exact ih h.2 t
 exact key F' h
theorem kw_of {P : Program} {N : Nat} {F : Frm} {σ : List Ob} {Q : Exit → Frm → List Ob → Prop} {c : Code} (h : EWp P N c F σ Q) : KWp P N c F σ Q := fun G a hs =>
 Code.wp_mono (fun e a w q => by obtain ⟨G', F', σ', h1, h2, h3, h4⟩ := q; exact ⟨G', F', σ', h1, KE.of h2, h3, h4⟩) (h G a hs)
theorem kw_draw {P : Program} {N : Nat} {l : List Oper} {F : Frm} {σ : List Ob} {Q : Exit → Frm → List Ob → Prop} {id : Nat} (hm : P.follows .mixedOrders = true) (h : EDraw P N l F σ Q) : KWp P N (.region id l.toArray true) F σ Q := kw_of (ew_draw hm h)
theorem kdraw_ex {P : Program} {N : Nat} {l : List Oper} {F : Frm} {σ : List Ob} {Q : Exit → Frm → List Ob → Prop} (h : EX P N l.toArray l [] l F σ (fun F' σ' => Q .normal F' σ')) : EDraw P N l F σ Q := by
 obtain ⟨F', σ', out, ks, sts, h1, h2, h3⟩ := h
 exact edraw_steps h1 (by simpa using h2) h3
section
variable {P : Program} {N : Nat} {F : Frm} {σ : List Ob} {Q : Exit → Frm → List Ob → Prop} {ops : Array Oper} {o : Oper} {l : List Oper} {d : Nat} {x : AV}
theorem kops_s (h : stv (opv o.op F) N ops o F = some (d, x)) (k : KOps P N ops l ((d, x) :: F) σ Q) : KOps P N ops (o :: l) F σ Q := kops_op (zbo h).1 (zbo h).2.1 (zbo h).2.2.1 (opv_does (zbo h).2.2.2) k
theorem kops_f {t f off n ft : Nat} (hf : zca P t f = some (off, ft, some n)) (h : stv (fdv o.op t f off n F) N ops o F = some (d, x)) (k : KOps P N ops l ((d, x) :: F) σ Q) : KOps P N ops (o :: l) F σ Q := kops_op (zbo h).1 (zbo h).2.1 (zbo h).2.2.1 (fdv_does hf (zbo h).2.2.2) k
theorem kops_l {t : Nat} (ha : zc8 P t = some false) (h : stv (ldv o.op t F) N ops o F = some (d, x)) (k : KOps P N ops l ((d, x) :: F) σ Q) : KOps P N ops (o :: l) F σ Q := kops_op (zbo h).1 (zbo h).2.1 (zbo h).2.2.1 (ldv_does ha (zbo h).2.2.2) k
theorem kops_w {t n bt : Nat} {z : Option Value} (ha : zc8 P t = some true) (hi : zb5 P t = some (z, n, bt)) (h : stv (lwv o.op t n F) N ops o F = some (d, x)) (k : KOps P N ops l ((d, x) :: F) σ Q) : KOps P N ops (o :: l) F σ Q := kops_op (zbo h).1 (zbo h).2.1 (zbo h).2.2.1 (lwv_does ha hi (zbo h).2.2.2) k
theorem kops_z (h : stz N ops o F = some d) (k : KOps P N ops l ((d, .s undef) :: F) σ Q) : KOps P N ops (o :: l) F σ Q := kops_skip (stz_ok h).1 (stz_ok h).2.1 (stz_ok h).2.2 k
end
end Go.Proofs.YtllkbjcemecmjaaGreat.Aw.K4
end
section
namespace Go.Proofs.YtllkbjcemecmjaaGreat.Aw
open Go Go.RowKit Go.Proofs
variable {P : Program} [IsP P]
structure Zc where
 n : Nat
 cs : List AV
 lo : ∀ e ∈ cs, ∀ c ∈ e.cells, Lo 0 c
def stE (z : Zc) (t : Tb) (e : Int) : List Ob := [.row 5 [tbC t e], .row 1 (t.rows.map (eL eF)), .row 1 (t.bas.map eI), .row z.n z.cs]
theorem tb_ren {ρ : List Nat} {t : Tb} {e : Int} (h1 : ρ[1]? = some 1) (h2 : ρ[2]? = some 2) : ObRn ρ (.row 5 [tbC t e]) (.row 5 [tbC t e]) :=
 zc5 (.cons (.own _ _ _ _ _ h1 rfl) (.cons (.lo _ (lo_Fs _)) (.cons (.own _ _ _ _ _ h2 rfl) (.cons (.lo _ (.s _)) (.cons (.lo _ (.s _)) .nil)))))
theorem zde {k : Nat} (t : Tb) : ∀ e ∈ t.rows.map (eL eF), ∀ c ∈ e.cells, Lo k c := zav fun r c hc => by
 simp [eL, AV.cells] at hc; subst hc; exact lo_up (lo_Fs r)
theorem bas_lo {k : Nat} (t : Tb) : ∀ e ∈ t.bas.map eI, ∀ c ∈ e.cells, Lo k c := zav fun r c hc => by
 simp [eI, AV.cells] at hc; subst hc; exact .s _
theorem stE_lo (z : Zc) (t : Tb) (e : Int) : ∀ ob ∈ stE z t e, LoOb (stE z t e).length ob := by
 intro ob hob
 simp only [stE, List.mem_cons, List.mem_nil_iff, or_false] at hob
 rcases hob with rfl | rfl | rfl | rfl
 ·
  intro x hx c hc
  simp only [List.mem_singleton] at hx
  subst hx
  simp only [tbC, AV.cells, List.mem_cons, List.mem_nil_iff, or_false] at hc
  rcases hc with rfl | rfl | rfl | rfl | rfl
  ·
   exact .own _ _ _ (by simp [stE])
  ·
   exact lo_up (lo_Fs _)
  ·
   exact .own _ _ _ (by simp [stE])
  ·
   exact .s _
  ·
   exact .s _
 ·
  exact zde t
 ·
  exact bas_lo t
 ·
  intro e he c hc; exact lo_up (z.lo e he c hc)
theorem tbC_lo {t : Tb} {k : Nat} (h : 3 ≤ k) : ∀ c ∈ [AV.own 1 1 t.rows.length, eL eF t.cost, AV.own 2 1 t.bas.length, eI t.last], Lo k c := by
 intro c hc
 simp only [List.mem_cons, List.mem_nil_iff, or_false] at hc
 rcases hc with rfl | rfl | rfl | rfl
 ·
  exact .own _ _ _ xd
 ·
  exact lo_up (lo_Fs _)
 ·
  exact .own _ _ _ xd
 ·
  exact .s _
theorem note0 (t : Tb) (R : List Ob) (hR : 2 ≤ R.length) (x : Fr) (e' : Int) : CallE P 105 [.ptr 0 5 0 0, eF x, eI e'] (.row 5 [tbC t 0] :: R) (eF x) (.row 5 [tbC t e'] :: R) := by
 have h := note_call (P := P) (c0 := AV.own 1 1 t.rows.length) (c1 := eL eF t.cost) (c2 := AV.own 2 1 t.bas.length) (c3 := eI t.last) (e := 0) (R := R) x e' (tbC_lo xd)
 rwa [if_pos rfl] at h
def cmbL (pre : List Fr) (r : List Fr × Int) : List Fr × Int := if r.2 ≠ 0 then ([], r.2) else (pre ++ r.1, 0)
theorem cmb_assoc {a b : List Fr} {r : List Fr × Int} : cmbL a (cmbL b r) = cmbL (a ++ b) r := by
 unfold cmbL
 by_cases h : r.2 ≠ 0
 ·
  rw [if_pos h, if_pos h, if_pos h]
 ·
  rw [if_neg h, if_neg h]; simp
theorem dropF {a : List Fr} {i : Nat} (h : i < a.length) : a.drop i = gti a i :: a.drop (i + 1) := by
 rw [List.drop_eq_getElem_cons h]
 congr 1
 unfold gti; rw [List.getElem?_eq_getElem h]; rfl
theorem less_step {by_ : Fr} {a b : List Fr} {i : Nat} (h : i < a.length) : zdr by_ (a.drop i) (b.drop i) =
  if (mulE by_ (gti b i)).e ≠ 0 then ([], (mulE by_ (gti b i)).e) else if (subE (gti a i) (mulE by_ (gti b i)).fr).e ≠ 0 then ([], (subE (gti a i) (mulE by_ (gti b i)).fr).e)
  else cmbL [(subE (gti a i) (mulE by_ (gti b i)).fr).fr] (zdr by_ (a.drop (i + 1)) (b.drop (i + 1))) := by
 rw [dropF h, zdr, show gti (b.drop i) 0 = gti b i by simp [gti], List.drop_drop]
 rfl
theorem less_err {by_ : Fr} : ∀ (a b : List Fr), (zdr by_ a b).2 ≠ 0 → (zdr by_ a b).1 = []
 | [], _, h => absurd rfl h
 | a :: xs, b, h => by
  rw [zdr] at h ⊢
  dsimp only at h ⊢
  by_cases h1 : (mulE by_ (gti b 0)).e ≠ 0
  ·
   rw [if_pos h1]
  ·
   rw [if_neg h1] at h ⊢
   by_cases h2 : (subE a (mulE by_ (gti b 0)).fr).e ≠ 0
   ·
    rw [if_pos h2]
   ·
    rw [if_neg h2] at h ⊢
    by_cases h3 : (zdr by_ xs (b.drop 1)).2 ≠ 0
    ·
     rw [if_pos h3]
    ·
     rw [if_neg h3] at h; exact absurd rfl h
theorem cmb_nil {r : List Fr × Int} (h : r.2 ≠ 0 → r.1 = []) : cmbL [] r = r := by
 unfold cmbL
 by_cases h1 : r.2 ≠ 0
 ·
  rw [if_pos h1]; exact Prod.ext (h h1).symm rfl
 ·
  rw [if_neg h1]; exact Prod.ext rfl (Decidable.not_not.1 h1).symm
namespace K4
set_option maxHeartbeats 2000000 in
theorem less_call (z : Zc) (t : Tb) (a b : List Fr) (by_ : Fr) (hl : a.length ≤ b.length) (hn : a.length ≤ 60) :
  CallE P 102 [.ptr 0 5 0 0, eL eF a, eL eF b, eF by_] (stE z t 0) (eL eF (zdr by_ a b).1) (stE z t (zdr by_ a b).2) := by
 have HI : zdr by_ a b = cmbL [] (zdr by_ (a.drop 0) (b.drop 0)) := by
  rw [List.drop_zero, List.drop_zero, cmb_nil (less_err a b)]
 generalize zdr by_ a b = r at HI ⊢
 refine callE_fn1 (Nat.le_refl _) (by rw [IsP.eq (P := P)]; exact Tryz.func102) rfl rfl (Nat.le_of_ble_eq_true rfl) rfl ?_
 simp only [argF]
 refine kw_seq (kw_region (kops_op rfl rfl (zaa rfl) (zb3 rfl rfl rfl rfl) (kops_s rfl (kops_nil (kw_seq (kw_region (kops_s rfl (kops_nil (kw_seq (kw_seq ?_))))))))))
 refine kw_weak (kwk_froz (id := 4) rfl) ?_
 refine kw_weak (kwk_ref (d := 7) rfl rfl rfl) ?_
 refine kw_weak (kwk_own (d := 9) 2 rfl (.inr rfl)) ?_
 refine kw_region (kops_s rfl (kops_op rfl rfl (zaa rfl) (zao rfl ts30 rfl) (kops_s rfl (kops_nil (zai (kw_block ?_))))))
 refine kw_loops (S := Nat × List Fr) (fun s => [(0, .ptr 0 5 0 0), (1, eL eF a), (2, eL eF b), (7, .ref (eF by_).cells), (9, .own 4 2 s.1), (13, eI a.length), (14, eI s.1)]) (fun s => [.row 5 [tbC t 0], .row 1 (t.rows.map (eL eF)), .row 1 (t.bas.map eI), .row z.n z.cs, .row 2 (s.2.map eF)]) (fun s => s.1 ≤ a.length ∧ s.2.length = s.1 ∧ r = cmbL s.2 (zdr by_ (a.drop s.1) (b.drop s.1))) (fun s => a.length - s.1) (0, [])
  (kwk_st [0, 1, 2, 3, 5] rfl rfl rfl rfl xf ⟨⟨_, rfl, tb_ren rfl rfl⟩, ⟨_, rfl, .rowE (zde t) rfl⟩, ⟨_, rfl, .rowE (bas_lo t) rfl⟩, ⟨_, rfl, .rowE z.lo rfl⟩, ⟨_, rfl, .rowE (zaz) rfl⟩, trivial⟩ ⟨.ptr 0 0 5 0 0 rfl, .lo _ (lo_Fs _), .lo _ (lo_Fs _), .lo _ xc, .own 5 4 2 _ _ rfl rfl, .lo _ (.s _), .lo _ (.s _), trivial⟩) ⟨Nat.zero_le _, rfl, HI⟩ (fun s hs => ?_)
 obtain ⟨i, pre⟩ := s
 obtain ⟨hi, hp, hr⟩ := hs
 dsimp only at hi hp hr ⊢
 refine kw_seq (kw_region ?_)
 refine kops_opP rfl rfl (zaa rfl) (za2 rfl rfl rfl) (fun h15 => ?_) (fun h15 => ?_)
 all_goals refine kops_nil (kw_seq ?_)
 all_goals (first | refine kw_true rfl ?_ | refine kw_false rfl ?_)
 all_goals (repeat (first | refine kw_seq ?_ | refine kw_skip ?_ | refine kw_block ?_))
 ·
  have hlt : i < a.length := by omega
  rw [less_step hlt] at hr
  have hxa : (a.map eF)[i]? = some (eF (gti a i)) := zbb hlt
  have hxb : (b.map eF)[i]? = some (eF (gti b i)) := zbb xd
  have hnx := fun R hR => note0 (P := P) t R hR (mulE by_ (gti b i)).fr (mulE by_ (gti b i)).e
  have hny := fun R hR => note0 (P := P) t R hR (subE (gti a i) (mulE by_ (gti b i)).fr).fr (subE (gti a i) (mulE by_ (gti b i)).fr).e
  refine kw_region (kops_s rfl (kops_s rfl (kops_nil (kw_seq ?_))))
  refine kw_draw hmix ?_
  refine edraw_lastT rfl xi ?_
  simp only [List.dropLast]
  refine edraw_fx 10 (.row 2 [.agg [eI 0, eI 0]]) (fun _ => True) (fun _ _ => trivial) ?_
  refine zbh rfl rfl (zaa rfl) (fun _ => (mv_ptr (.inl rfl) rfl)) ⟨rfl, trivial⟩ ?_
  refine zbh rfl rfl (zaa rfl) (fun _ => (zck rfl ta45 ti45 rfl rfl)) ⟨rfl, trivial⟩ ?_
  refine zbh rfl rfl (zaa rfl) (fun _ => (mv_sl (.inl rfl) rfl)) ⟨rfl, trivial⟩ ?_
  refine zbh rfl rfl (zaa rfl) (fun _ => (mv_s (.inl rfl) rfl)) ⟨rfl, trivial⟩ ?_
  refine zbh rfl rfl (zaa rfl) (fun _ => (zal rfl ts30 ti45 rfl rfl rfl hxb rfl)) ⟨rfl, trivial⟩ ?_
  refine zbh rfl rfl (zaa rfl) (fun _ => (zck rfl ta45 ti45 rfl rfl)) ⟨rfl, trivial⟩ ?_
  refine zbh rfl rfl (zaa rfl) (fun _ => (zam rfl rfl ((fMul_pf by_ (gti b i))) (zae rfl (zae rfl zap)))) ⟨rfl, trivial⟩ ?_
  refine zbh rfl rfl (zaa rfl) (fun _ => (zcz rfl rfl rfl)) ⟨rfl, trivial⟩ ?_
  refine zbh rfl rfl (zaa rfl) (fun _ => (zcz rfl rfl rfl)) ⟨rfl, trivial⟩ ?_
  refine fx_n0 rfl rfl (zaa rfl) (fun X => zbs rfl rfl (hnx _ (by simp <;> omega)) (zae rfl (zae rfl (zae rfl zap)))) ⟨rfl, trivial⟩ ?_
  refine fx_flt rfl rfl (zaa rfl) (does_alloc_flt (fun σ => (za1 rfl ti45 rfl rfl))) ⟨rfl, trivial⟩ ?_
  refine fx_nil ⟨rfl, trivial⟩ xi (.inl ⟨rfl, rfl⟩) ?_
  simp only [if_true, Bool.false_eq_true, if_false, List.append_nil, List.cons_append, List.nil_append]
  refine zai (eops_eff rfl (zaa rfl) (zaj rfl ti45 rfl rfl rfl rfl rfl rfl xf xf) (zdj (kw_seq (kw_seq (kw_region (kops_s rfl (kops_s rfl (kops_f zdu rfl (kops_op rfl rfl (zaa rfl) (zaq rfl ta33 rfl rfl rfl rfl rfl) ?_)))))))))
  refine kops_opP rfl rfl (zaa rfl) (zbp rfl rfl rfl) (fun h31 => ?_) (fun h31 => ?_)
  all_goals refine kops_nil (zai ?_)
  all_goals (first | refine kw_true rfl ?_ | refine kw_false rfl ?_)
  all_goals (repeat (first | refine kw_seq ?_ | refine kw_skip ?_))
  ·
   rw [if_pos h31] at hr
   refine kw_region (kops_s rfl (kops_nil (zai ?_)))
   refine kw_weak (kwk_nil (d := 8) rfl) ?_
   refine kw_weak (kwk_cut (σ := stE z t (mulE by_ (gti b i)).e) (F' := [(8, .sl [])]) (by simp [stE]) (stE_lo _ _ _) ⟨⟨rfl, lo_up xa⟩, trivial⟩) ?_
   (refine kw_ret ?_; repeat (first | refine zbc ?_ | refine zbe ?_))
   subst hr
   exact ⟨.inr rfl, by simp [cmbL, h31, eL, Frm.get], by simp [cmbL, h31]⟩
  ·
   rw [if_neg h31] at hr
   have h0 : (mulE by_ (gti b i)).e = 0 := Decidable.not_not.1 h31
   rw [h0]
   have hpl : (pre.map eF).length = i := by simp [hp]
   refine kw_draw hmix ?_
   refine kdraw_ex ?_
   refine ex_s rfl (ex_s rfl (ex_s rfl (ex_s rfl (zay rfl rfl (zaa rfl) (fun _ => (zal rfl ts30 ti45 rfl rfl rfl hxa rfl)) (ex_w ta45 ti45 rfl (zbv rfl rfl (zaa rfl) (zdq rfl ta45 ti45 rfl rfl rfl rfl rfl) (zay rfl rfl (zaa rfl) (fun _ => (zam rfl rfl ((fSub_pf (gti a i) (mulE by_ (gti b i)).fr)) (zae rfl (zae rfl zap)))) (ex_s rfl (ex_s rfl ?_)))))))))
   all_goals refine zc9 (W := [0]) rfl rfl (zaa rfl) (zbs rfl rfl (hny _ (by simp <;> omega)) (zae rfl (zae rfl (zae rfl zap)))) (fun _ h => cons_other h) ?_
   refine zay rfl rfl (zaa rfl) (fun _ => (zco rfl ts30 ti45 rfl rfl xf xf rfl rfl rfl (.agg _ (zah (.s _) (zah (.s _) zak))))) ?_
   refine zc9 rfl rfl (zaa rfl) (zbq rfl ts30 ti45 rfl xf rfl rfl xk rfl xe xg xg) (fun _ h => zct h) ?_
   refine ex_s rfl ?_
   refine zcf xi ?_
   refine kw_seq (kw_region (kops_s rfl (kops_s rfl (kops_f zdu rfl (kops_op rfl rfl (zaa rfl) (zaq rfl ta33 rfl rfl rfl rfl rfl) ?_)))))
   refine kops_opP rfl rfl (zaa rfl) (zbp rfl rfl rfl) (fun h49 => ?_) (fun h49 => ?_)
   all_goals refine kops_nil (zai ?_)
   all_goals (first | refine kw_true rfl ?_ | refine kw_false rfl ?_)
   all_goals (repeat (first | refine kw_seq ?_ | refine zai ?_ | refine kw_skip ?_ | refine zbl ?_))
   ·
    rw [if_pos h49] at hr
    refine kw_region (kops_s rfl (kops_nil (zai ?_)))
    refine kw_weak (kwk_nil (d := 8) rfl) ?_
    refine kw_weak (kwk_cut (σ := stE z t (subE (gti a i) (mulE by_ (gti b i)).fr).e) (F' := [(8, .sl [])]) (by simp [stE]) (stE_lo _ _ _) ⟨⟨rfl, lo_up xa⟩, trivial⟩) ?_
    (refine kw_ret ?_; repeat (first | refine zbc ?_ | refine zbe ?_))
    subst hr
    exact ⟨.inr rfl, by simp [cmbL, h49, eL, Frm.get], by simp [cmbL, h49]⟩
   ·
    rw [if_neg h49, cmb_assoc] at hr
    have h1 : (subE (gti a i) (mulE by_ (gti b i)).fr).e = 0 := Decidable.not_not.1 h49
    rw [h1]
    refine kw_region (kops_op rfl rfl (zaa rfl) (zax rfl rfl rfl (IntWalk.i64_in _ xd)) (kops_s rfl (kops_nil (zai ?_))))
    exact ⟨(i + 1, pre ++ [(subE (gti a i) (mulE by_ (gti b i)).fr).fr]), ⟨by show i + 1 ≤ a.length; omega, by simp [hp], hr⟩, by show a.length - (i + 1) < a.length - i; omega, kwk_st [0, 1, 2, 3, 6] rfl rfl rfl rfl xf ⟨⟨_, rfl, tb_ren rfl rfl⟩, ⟨_, rfl, .rowE (zde t) rfl⟩, ⟨_, rfl, .rowE (bas_lo t) rfl⟩, ⟨_, rfl, .rowE z.lo rfl⟩, ⟨_, rfl, .rowE xb (by rw [List.map_append]; rfl)⟩, trivial⟩ ⟨.ptr 0 0 5 0 0 rfl, .lo _ (lo_Fs _), .lo _ (lo_Fs _), .lo _ xc, .own 6 4 2 _ _ rfl (by simp [hp]), .lo _ (.s _), .lo _ (.s _), trivial⟩⟩
 ·
  have e : i = a.length := by omega
  subst e
  (refine kw_exit ?_; repeat (first | refine zcr ?_ | refine zbt ?_ | refine zbk rfl ?_ | refine zbl ?_ | refine zai ?_ | refine kw_seq ?_ | refine kw_skip ?_ | refine kw_block ?_))
  refine kw_weak (kwk_froz (id := 4) rfl) ?_
  refine kw_weak (kwk_sl (d := 9) rfl rfl (by simp [hp])) ?_
  refine kw_region (kops_s rfl (kops_s rfl (kops_nil (zai ?_))))
  refine kw_weak (kwk_cut (σ := stE z t 0) (F' := [(8, .sl (pre.map eF))]) (by simp [stE]) (stE_lo _ _ _) ⟨⟨rfl, lo_up xa⟩, trivial⟩) ?_
  (refine kw_ret ?_; repeat (first | refine zbc ?_ | refine zbe ?_))
  subst hr
  have e2 : zdr by_ (a.drop a.length) (b.drop a.length) = ([], 0) := by rw [List.drop_length]; rfl
  rw [e2]
  exact ⟨.inr rfl, by simp [cmbL, eL, Frm.get], by simp [cmbL]⟩
end K4
end Go.Proofs.YtllkbjcemecmjaaGreat.Aw
end
section
namespace Go.Proofs.YtllkbjcemecmjaaGreat.Aw
open Go Go.RowKit Go.Proofs
variable {P : Program} [IsP P]
structure TbSh (m N : Nat) (t : Tb) : Prop where
 rl : t.rows.length = m
 rw_ : ∀ r ∈ t.rows, r.length = N + 1
 cl : t.cost.length = N + 1
 bl : t.bas.length = m
 bs : ∀ i, i < m → 0 ≤ gti t.bas i ∧ gti t.bas i < N
 sm : m ≤ 12 ∧ N ≤ 40
theorem TbSh.row {m N : Nat} {t : Tb} (h : TbSh m N t) {i : Nat} (hi : i < m) : (gti t.rows i).length = N + 1 := h.rw_ _ (zds (by rw [h.rl]; exact hi))
theorem TbOk.sh {m N : Nat} {t : Tb} (h : TbOk m N t) (hs : m ≤ 12 ∧ N ≤ 40) : TbSh m N t := ⟨h.rl, fun r hr => (h.rw_ r hr).1, h.cl, h.bl, h.bs, hs⟩
theorem less_len {by_ : Fr} : ∀ (a b : List Fr), (zdr by_ a b).2 = 0 → (zdr by_ a b).1.length = a.length
 | [], _, _ => rfl
 | a :: xs, b, h => by
  rw [zdr] at h ⊢
  dsimp only at h ⊢
  by_cases h1 : (mulE by_ (gti b 0)).e ≠ 0
  ·
   rw [if_pos h1] at h; exact absurd h h1
  ·
   rw [if_neg h1] at h ⊢
   by_cases h2 : (subE a (mulE by_ (gti b 0)).fr).e ≠ 0
   ·
    rw [if_pos h2] at h; exact absurd h h2
   ·
    rw [if_neg h2] at h ⊢
    by_cases h3 : (zdr by_ xs (b.drop 1)).2 ≠ 0
    ·
     rw [if_pos h3] at h; exact absurd h h3
    ·
     rw [if_neg h3]
     exact congrArg (· + 1) (less_len xs (b.drop 1) (Decidable.not_not.1 h3))
theorem div_len {by_ : Fr} : ∀ (a : List Fr), (divL by_ a).2 = 0 → (divL by_ a).1.length = a.length
 | [], _ => rfl
 | a :: xs, h => by
  rw [divL] at h ⊢
  dsimp only at h ⊢
  by_cases h1 : (divE a by_).e ≠ 0
  ·
   rw [if_pos h1] at h; exact absurd h h1
  ·
   rw [if_neg h1] at h ⊢
   by_cases h3 : (divL by_ xs).2 ≠ 0
   ·
    rw [if_pos h3] at h; exact absurd h h3
   ·
    rw [if_neg h3]
    exact congrArg (· + 1) (div_len xs (Decidable.not_not.1 h3))
theorem div_err {by_ : Fr} : ∀ (a : List Fr), (divL by_ a).2 ≠ 0 → (divL by_ a).1 = []
 | [], h => absurd rfl h
 | a :: xs, h => by
  rw [divL] at h ⊢
  dsimp only at h ⊢
  by_cases h1 : (divE a by_).e ≠ 0
  ·
   rw [if_pos h1]
  ·
   rw [if_neg h1] at h ⊢
   by_cases h3 : (divL by_ xs).2 ≠ 0
   ·
    rw [if_pos h3]
   ·
    rw [if_neg h3] at h; exact absurd rfl h
theorem div_step {by_ : Fr} {a : List Fr} {i : Nat} (h : i < a.length) : divL by_ (a.drop i) =
  if (divE (gti a i) by_).e ≠ 0 then ([], (divE (gti a i) by_).e) else cmbL [(divE (gti a i) by_).fr] (divL by_ (a.drop (i + 1))) := by
 rw [dropF h, divL]
 rfl
def invT (t : Tb) (σ : List Ob) : Prop := ∃ e, σ[0]? = some (.row 5 [tbC t e])
theorem invT_app {t : Tb} {x : Ob} : ∀ s : List Ob, invT t s → invT t (s ++ [x]) := fun s ⟨e, h⟩ =>
 ⟨e, by rw [List.getElem?_append_left (List.getElem?_eq_some_iff.1 h).1]; exact h⟩
def pivFin (k : Nat) (row : List Fr) (t1 : Tb) : Tb := if t1.e ≠ 0 then t1 else pivC k row t1
namespace K4
theorem kw_stEq {N : Nat} {c : Code} {F : Frm} {σ σ' : List Ob} {Q : Exit → Frm → List Ob → Prop} (h : σ = σ') (k : KWp P N c F σ' Q) : KWp P N c F σ Q := by rw [h]; exact k
set_option maxHeartbeats 4000000 in
theorem pivot_call {m N : Nat} (z : Zc) (t : Tb) (ht : TbSh m N t) (he : t.e = 0) (i k : Nat) (hi : i < m) (hk : k < N) :
  CallE P 92 [.ptr 0 5 0 0, eI i, eI k] (stE z t 0) (.tup []) (stE z (pivE i k t) (pivE i k t).e) := by
 have hrl := ht.rl
 have hbl := ht.bl
 have hsm := ht.sm
 have hri := ht.row hi
 have HI : pivE i k t = (let d := divL (gti (gti t.rows i) k) (gti t.rows i)
  if d.2 ≠ 0 then { t with e := d.2 } else
  pivFin k d.1 (pivJ i k d.1 t.rows.length 0 { t with rows := t.rows.set i d.1, bas := t.bas.set i k })) := rfl
 have hdl := div_len (by_ := gti (gti t.rows i) k) (gti t.rows i)
 have HD : divL (gti (gti t.rows i) k) (gti t.rows i) = cmbL [] (divL (gti (gti t.rows i) k) ((gti t.rows i).drop 0)) := by
  rw [List.drop_zero, cmb_nil (div_err _)]
 generalize pivE i k t = R at HI ⊢
 generalize divL (gti (gti t.rows i) k) (gti t.rows i) = d at HI HD hdl
 have hxr : (t.rows.map (eL eF))[i]? = some (eL eF (gti t.rows i)) := zbb xd
 have hxk : ((gti t.rows i).map eF)[k]? = some (eF (gti (gti t.rows i) k)) := zbb xd
 generalize hby : gti (gti t.rows i) k = by_ at HD hxk
 generalize hrow : gti t.rows i = row at HD hxk hdl hri hxr
 refine callE_fn0 (Nat.le_refl _) (by rw [IsP.eq (P := P)]; exact Tryz.func92) rfl rfl (Nat.le_of_ble_eq_true rfl) rfl ?_
 simp only [argF]
 refine kw_seq (kw_region (kops_s rfl (kops_s rfl (kops_f zc6 rfl (kops_op rfl rfl (zaa rfl) (zaq rfl ta86 rfl rfl rfl rfl rfl) (kops_s rfl (kops_op rfl rfl (zaa rfl) (za0 rfl ts86 ti30 rfl rfl rfl xd) (kops_op rfl rfl (zaa rfl) (zaq rfl ta30 rfl rfl rfl hxr rfl) (kops_s rfl (kops_op rfl rfl (zaa rfl) (zal rfl ts30 ti45 rfl rfl rfl hxk rfl) (kops_w ta45 ti45 rfl (kops_op rfl rfl (zaa rfl) (za1 rfl ti45 rfl rfl) (kops_eff rfl (zaa rfl) (zaj rfl ti45 rfl rfl rfl rfl rfl rfl xf xf) ?_)))))))))))))
 refine kops_nil (kw_seq (kw_region (kops_s rfl (kops_nil (kw_seq (kw_seq ?_))))))
 refine kw_weak (kwk_froz (id := 4) rfl) ?_
 refine kw_weak (kwk_ref (d := 6) rfl rfl rfl) ?_
 refine kw_weak (kwk_own (d := 7) 2 rfl (.inr rfl)) ?_
 refine kw_region (kops_s rfl (kops_s rfl (kops_f zc6 rfl (kops_op rfl rfl (zaa rfl) (zaq rfl ta86 rfl rfl rfl rfl rfl) (kops_s rfl (kops_op rfl rfl (zaa rfl) (za0 rfl ts86 ti30 rfl rfl rfl xd) (kops_op rfl rfl (zaa rfl) (zaq rfl ta30 rfl rfl rfl hxr rfl) (kops_op rfl rfl (zaa rfl) (zao rfl ts30 rfl) (kops_s rfl (kops_nil (zai (kw_block ?_))))))))))))
 refine kw_loops (S := Nat × List Fr) (fun s => [(0, .ptr 0 5 0 0), (1, eI i), (2, eI k), (6, .ref (eF by_).cells), (7, .own 4 2 s.1), (27, eL eF row), (28, eI row.length), (29, eI s.1)]) (fun s => [.row 5 [tbC t 0], .row 1 (t.rows.map (eL eF)), .row 1 (t.bas.map eI), .row z.n z.cs, .row 2 (s.2.map eF)]) (fun s => s.1 ≤ row.length ∧ s.2.length = s.1 ∧ d = cmbL s.2 (divL by_ (row.drop s.1))) (fun s => row.length - s.1) (0, [])
  (kwk_st [0, 1, 2, 3, 5] rfl rfl rfl rfl xf ⟨⟨_, rfl, tb_ren rfl rfl⟩, ⟨_, rfl, .rowE (zde t) rfl⟩, ⟨_, rfl, .rowE (bas_lo t) rfl⟩, ⟨_, rfl, .rowE z.lo rfl⟩, ⟨_, rfl, .rowE (zaz) rfl⟩, trivial⟩ ⟨.ptr 0 0 5 0 0 rfl, .lo _ (.s _), .lo _ (.s _), .lo _ xc, .own 5 4 2 _ _ rfl rfl, .lo _ (lo_Fs _), .lo _ (.s _), .lo _ (.s _), trivial⟩) ⟨Nat.zero_le _, rfl, HD⟩ (fun s hs => ?_)
 obtain ⟨v, pre⟩ := s
 obtain ⟨hv, hp, hr⟩ := hs
 dsimp only at hv hp hr ⊢
 refine kw_seq (kw_region ?_)
 refine kops_opP rfl rfl (zaa rfl) (za2 rfl rfl rfl) (fun h30 => ?_) (fun h30 => ?_)
 all_goals refine kops_nil (kw_seq ?_)
 all_goals (first | refine kw_true rfl ?_ | refine kw_false rfl ?_)
 all_goals (repeat (first | refine kw_seq ?_ | refine kw_skip ?_ | refine kw_block ?_))
 ·
  have hlt : v < row.length := by omega
  rw [div_step hlt] at hr
  have hxa : (row.map eF)[v]? = some (eF (gti row v)) := zbb hlt
  have hnd := fun R hR => note0 (P := P) t R hR (divE (gti row v) by_).fr (divE (gti row v) by_).e
  have hpl : (pre.map eF).length = v := by simp [hp]
  refine kw_region (kops_op rfl rfl (zaa rfl) (zal rfl ts30 ti45 rfl rfl rfl hxa rfl) (kops_w ta45 ti45 rfl (kops_op rfl rfl (zaa rfl) (za1 rfl ti45 rfl rfl) (kops_eff rfl (zaa rfl) (zaj rfl ti45 rfl rfl rfl rfl rfl rfl xf xf) (kops_nil (kw_seq ?_))))))
  refine kw_weak (kwk_froz (id := 5) rfl) ?_
  refine kw_weak (kwk_ref (d := 9) rfl rfl rfl) ?_
  refine kw_region (kops_s rfl (kops_s rfl (kops_w ta45 ti45 rfl (kops_w ta45 ti45 rfl (kops_op rfl rfl (zaa rfl) (zam rfl rfl ((fDiv_pf (gti row v) by_)) (zae rfl (zae rfl zap))) (kops_s rfl (kops_s rfl (kops_op rfl rfl (zaa rfl) (zbs rfl rfl (hnd _ xo) (zae rfl (zae rfl (zae rfl zap)))) (kops_op rfl rfl (zaa rfl) (zco rfl ts30 ti45 rfl rfl xf xf rfl rfl rfl (.agg _ (zah (.s _) (zah (.s _) zak)))) ?_)))))))))
  refine kops_op rfl rfl (zaa rfl) (zbq rfl ts30 ti45 rfl xf rfl rfl xk rfl xe xg xg) ?_
  refine kops_s rfl (kops_nil (kw_seq (kw_region (kops_s rfl (kops_s rfl (kops_f zdu rfl (kops_op rfl rfl (zaa rfl) (zaq rfl ta33 rfl rfl rfl rfl rfl) ?_)))))))
  refine kops_opP rfl rfl (zaa rfl) (zbp rfl rfl rfl) (fun h47 => ?_) (fun h47 => ?_)
  all_goals refine kops_nil (zai ?_)
  all_goals (first | refine kw_true rfl ?_ | refine kw_false rfl ?_)
  all_goals (repeat (first | refine zai ?_ | refine kw_skip ?_ | refine zbl ?_))
  ·
   rw [if_pos h47] at hr
   refine kw_weak (kwk_cut (σ := stE z t (divE (gti row v) by_).e) (F' := []) (by simp [stE]) (stE_lo _ _ _) trivial) ?_
   (refine kw_ret ?_; repeat (first | refine zbc ?_ | refine zbe ?_))
   subst hr
   simp only [cmbL] at HI
   rw [if_pos h47, if_pos h47] at HI
   subst HI
   exact ⟨.inr rfl, rfl⟩
  ·
   rw [if_neg h47, cmb_assoc] at hr
   have h1 : (divE (gti row v) by_).e = 0 := Decidable.not_not.1 h47
   rw [h1]
   refine kw_region (kops_op rfl rfl (zaa rfl) (zax rfl rfl rfl (IntWalk.i64_in _ xd)) (kops_s rfl (kops_nil (zai ?_))))
   exact ⟨(v + 1, pre ++ [(divE (gti row v) by_).fr]), ⟨by show v + 1 ≤ row.length; omega, by simp [hp], hr⟩, by show row.length - (v + 1) < row.length - v; omega, kwk_st [0, 1, 2, 3, 6] rfl rfl rfl rfl xf ⟨⟨_, rfl, tb_ren rfl rfl⟩, ⟨_, rfl, .rowE (zde t) rfl⟩, ⟨_, rfl, .rowE (bas_lo t) rfl⟩, ⟨_, rfl, .rowE z.lo rfl⟩, ⟨_, rfl, .rowE xb (by rw [List.map_append]; rfl)⟩, trivial⟩ ⟨.ptr 0 0 5 0 0 rfl, .lo _ (.s _), .lo _ (.s _), .lo _ xc, .own 6 4 2 _ _ rfl (by simp [hp]), .lo _ (lo_Fs _), .lo _ (.s _), .lo _ (.s _), trivial⟩⟩
 have ev : v = row.length := by omega
 subst ev
 have hd : d = (pre, 0) := by rw [hr, List.drop_length]; simp [divL, cmbL]
 subst hd
 clear hr HD
 rw [if_neg xo] at HI
 (refine kw_exit ?_; repeat (first | refine zcr ?_ | refine zbt ?_ | refine zbk rfl ?_ | refine zbl ?_ | refine zai ?_ | refine kw_seq ?_ | refine kw_skip ?_ | refine kw_block ?_))
 refine kw_weak (kwk_froz (id := 4) rfl) ?_
 refine kw_weak (kwk_sl (d := 7) rfl rfl (by simp [hp])) ?_
 refine kw_weak (kwk_cut (σ := stE z t 0) (F' := [(0, .ptr 0 5 0 0), (1, eI i), (2, eI k), (7, .sl (pre.map eF))]) (by simp [stE]) (stE_lo _ _ _) ⟨⟨rfl, .ptr _ _ _ _ (by simp [stE])⟩, ⟨rfl, lo_up (.s _)⟩, ⟨rfl, lo_up (.s _)⟩, ⟨rfl, lo_up xa⟩, trivial⟩) ?_
 have hxr2 : (t.rows.map (eL eF))[i]? = some (eL eF row) := hxr
 have hxb : (t.bas.map eI)[i]? = some (eI (gti t.bas i)) := zbb xd
 refine kw_draw hmix ?_
 refine kdraw_ex ?_
 refine ex_s rfl (ex_s rfl (ex_f zc6 rfl (zbv rfl rfl (zaa rfl) (zbr rfl ta86 rfl rfl rfl rfl rfl) (ex_s rfl (ex_s rfl (ex_s rfl (ex_f zdl rfl (zbv rfl rfl (zaa rfl) (zbr rfl ta22 rfl rfl rfl rfl rfl) (ex_s rfl (ex_s rfl (ex_s rfl (zay rfl rfl (zaa rfl) (fun _ => (za0 rfl ts86 ti30 rfl rfl rfl xd)) ?_))))))))))))
 refine zci rfl (zaa rfl) (zaj rfl ti30 rfl rfl rfl hxr2 rfl rfl xf xf) (fun _ h => zbw h) ?_
 refine zay rfl rfl (zaa rfl) (fun _ => (za0 rfl ts22 ti3 rfl rfl rfl xd)) ?_
 refine zci rfl (zaa rfl) (zaj rfl ti3 rfl rfl rfl hxb rfl rfl xf xf) (fun _ h => zbw h) ?_
 refine zcf xi ?_
 refine kw_seq (kw_seq ?_)
 generalize hT : ({ t with rows := t.rows.set i pre, bas := t.bas.set i (k : Int) } : Tb) = T1 at HI
 have hT1 : TbSh m N T1 := by
  subst hT
  refine ⟨by show (t.rows.set i pre).length = m; rw [List.length_set]; exact hrl, fun r hr => ?_, ht.cl, by show (t.bas.set i (k : Int)).length = m; rw [List.length_set]; exact hbl, fun q hq => ?_, hsm⟩
  ·
   rcases List.mem_or_eq_of_mem_set hr with hr | rfl
   ·
    exact ht.rw_ r hr
   ·
    omega
  ·
   show 0 ≤ gti (t.bas.set i (k : Int)) q ∧ gti (t.bas.set i (k : Int)) q < N
   rw [gtiI_set _ _ _ _ (by rw [hbl]; exact hi)]
   split
   ·
    omega
   ·
    exact ht.bs q hq
 have he1 : T1.e = 0 := by subst hT; exact he
 have hc1 : T1.cost = t.cost := by subst hT; rfl
 refine kw_stEq (σ' := stE z T1 0) (by
  subst hT
  simp only [stE, tbC, List.length_set, List.map_set]
  rfl) ?_
 refine kw_region (kops_s rfl (kops_s rfl (kops_f zc6 rfl (kops_op rfl rfl (zaa rfl) (zaq rfl ta86 rfl rfl rfl rfl rfl) (kops_op rfl rfl (zaa rfl) (zc7 rfl ts86 rfl) (kops_s rfl (kops_nil (zai (kw_block ?_)))))))))
 rw [hrl] at HI
 refine kw_loops (S := Nat × Tb) (fun s => [(0, .ptr 0 5 0 0), (1, eI i), (2, eI k), (7, eL eF pre), (67, eI m), (68, eI s.1)]) (fun s => [.row 5 [tbC s.2 0], .row 1 (s.2.rows.map (eL eF)), .row 1 (s.2.bas.map eI), .row z.n z.cs]) (fun s => s.1 ≤ m ∧ TbSh m N s.2 ∧ s.2.e = 0 ∧ R = pivFin k pre (pivJ i k pre (m - s.1) s.1 s.2)) (fun s => m - s.1) (0, T1)
  (kwk_sub ⟨rfl, rfl, rfl, rfl, by rw [← hT1.rl]; rfl, rfl, trivial⟩) ⟨Nat.zero_le _, hT1, he1, HI⟩ (fun s hs => ?_)
 obtain ⟨j, tj⟩ := s
 obtain ⟨hj, hs1, hs2, HJ⟩ := hs
 dsimp only at hj hs1 hs2 HJ ⊢
 clear hT he1 hc1 hT1 HI T1 hxr2 hxb hxk hxr hrow hby ht hdl hv h30
 have hrj := hs1.rl
 refine kw_seq (kw_region ?_)
 refine kops_opP rfl rfl (zaa rfl) (za2 rfl rfl rfl) (fun h69 => ?_) (fun h69 => ?_)
 all_goals refine kops_nil (kw_seq ?_)
 all_goals (first | refine kw_true rfl ?_ | refine kw_false rfl ?_)
 all_goals (repeat (first | refine kw_seq ?_ | refine kw_skip ?_ | refine kw_block ?_))
 ·
  have hlt : j < m := by omega
  have hrow := hs1.row hlt
  have hxr : (tj.rows.map (eL eF))[j]? = some (eL eF (gti tj.rows j)) := zbb xd
  have hxk : ((gti tj.rows j).map eF)[k]? = some (eF (gti (gti tj.rows j) k)) := zbb xd
  rw [show m - j = (m - (j + 1)) + 1 by omega] at HJ
  unfold pivJ at HJ
  refine kw_region (kops_s rfl (kops_s rfl (kops_nil (kw_seq (kw_seq (kw_region (kops_s rfl (kops_s rfl ?_))))))))
  refine kops_opP rfl rfl (zaa rfl) (zbn rfl rfl rfl) (fun h73 => ?_) (fun h73 => ?_)
  all_goals refine kops_s rfl ?_
  all_goals (first | refine kops_s rfl ?_ | refine kops_z rfl ?_)
  all_goals (first | refine kops_s rfl ?_ | refine kops_z rfl ?_)
  all_goals (first | refine kops_f zc6 rfl ?_ | refine kops_z rfl ?_)
  all_goals (first | refine kops_op rfl rfl (zat rfl rfl rfl) (zaq rfl ta86 rfl rfl rfl rfl rfl) ?_ | refine kops_z rfl ?_)
  all_goals (first | refine kops_s rfl ?_ | refine kops_z rfl ?_)
  all_goals (first | refine kops_op rfl rfl (zat rfl rfl rfl) (za0 rfl ts86 ti30 rfl rfl rfl (by omega)) ?_ | refine kops_z rfl ?_)
  all_goals (first | refine kops_op rfl rfl (zat rfl rfl rfl) (zaq rfl ta30 rfl rfl rfl hxr rfl) ?_ | refine kops_z rfl ?_)
  all_goals (first | refine kops_s rfl ?_ | refine kops_z rfl ?_)
  all_goals (first | refine kops_op rfl rfl (zat rfl rfl rfl) (zal rfl ts30 ti45 rfl rfl rfl hxk rfl) ?_ | refine kops_z rfl ?_)
  all_goals (first | refine kops_f tf45_0 rfl ?_ | refine kops_z rfl ?_)
  all_goals (first | refine kops_l ta3 rfl ?_ | refine kops_z rfl ?_)
  all_goals (first | refine kops_opP rfl rfl (zat rfl rfl rfl) (zbn rfl rfl rfl) (fun h86 => ?_) (fun h86 => ?_) | refine kops_z rfl ?_)
  all_goals refine kops_s rfl (kops_nil (zai ?_))
  all_goals (first | refine kw_true rfl ?_ | refine kw_false rfl ?_)
  all_goals (repeat (first | refine kw_seq ?_ | refine kw_skip ?_))
  ·
   rw [if_pos (.inl xd)] at HJ
   (refine kw_exit ?_; repeat (first | refine zcr ?_ | refine zbt ?_ | refine zbk rfl ?_ | refine zbl ?_ | refine zai ?_ | refine kw_seq ?_ | refine kw_skip ?_ | refine kw_block ?_))
   refine kw_region (kops_op rfl rfl (zaa rfl) (zax rfl rfl rfl (IntWalk.i64_in _ xd)) (kops_s rfl (kops_nil (zai ?_))))
   exact ⟨(j + 1, tj), ⟨by show j + 1 ≤ m; omega, hs1, hs2, HJ⟩, by show m - (j + 1) < m - j; omega, kwk_sub ⟨rfl, rfl, rfl, rfl, rfl, rfl, trivial⟩⟩
  ·
   rw [if_pos (.inr h86)] at HJ
   (refine kw_exit ?_; repeat (first | refine zcr ?_ | refine zbt ?_ | refine zbk rfl ?_ | refine zbl ?_ | refine zai ?_ | refine kw_seq ?_ | refine kw_skip ?_ | refine kw_block ?_))
   refine kw_region (kops_op rfl rfl (zaa rfl) (zax rfl rfl rfl (IntWalk.i64_in _ xd)) (kops_s rfl (kops_nil (zai ?_))))
   exact ⟨(j + 1, tj), ⟨by show j + 1 ≤ m; omega, hs1, hs2, HJ⟩, by show m - (j + 1) < m - j; omega, kwk_sub ⟨rfl, rfl, rfl, rfl, rfl, rfl, trivial⟩⟩
  ·
   have hji : ¬ j = i := by omega
   rw [if_neg (by intro h; rcases h with h | h <;> contradiction)] at HJ
   have hls := less_call (P := P) z tj (gti tj.rows j) pre (gti (gti tj.rows j) k) xd xd
   have hll := less_len (by_ := gti (gti tj.rows j) k) (gti tj.rows j) pre
   generalize zdr (gti (gti tj.rows j) k) (gti tj.rows j) pre = L at HJ hls hll
   dsimp only at HJ
   refine kw_draw hmix ?_
   refine edraw_lastT rfl xi ?_
   simp only [List.dropLast]
   refine edraw_f0 (invT tj) (invT_app) ?_
   refine zbh rfl rfl (zaa rfl) (fun _ => (mv_ptr (.inl rfl) rfl)) ⟨rfl, ⟨_, rfl⟩⟩ ?_
   refine zbh rfl rfl (zaa rfl) (fun _ => (zcy rfl rfl)) ⟨rfl, ⟨_, rfl⟩⟩ ?_
   refine zbh rfl rfl (zaa rfl) (fun _ => (zb7 rfl zc6 xf rfl)) ⟨rfl, ⟨_, rfl⟩⟩ ?_
   refine fx_inv rfl rfl (zaa rfl) (fun σ2 h => by obtain ⟨_, h⟩ := h; exact zaq rfl ta86 rfl h rfl rfl rfl) ⟨rfl, ⟨_, rfl⟩⟩ ?_
   refine zbh rfl rfl (zaa rfl) (fun _ => (mv_s (.inl rfl) rfl)) ⟨rfl, ⟨_, rfl⟩⟩ ?_
   refine zbh rfl rfl (zaa rfl) (fun _ => (mv_ptr (.inl rfl) rfl)) ⟨rfl, ⟨_, rfl⟩⟩ ?_
   refine zbh rfl rfl (zaa rfl) (fun _ => (mv_ptr (.inl rfl) rfl)) ⟨rfl, ⟨_, rfl⟩⟩ ?_
   refine zbh rfl rfl (zaa rfl) (fun _ => (zcy rfl rfl)) ⟨rfl, ⟨_, rfl⟩⟩ ?_
   refine zbh rfl rfl (zaa rfl) (fun _ => (zb7 rfl zc6 xf rfl)) ⟨rfl, ⟨_, rfl⟩⟩ ?_
   refine fx_inv rfl rfl (zaa rfl) (fun σ2 h => by obtain ⟨_, h⟩ := h; exact zaq rfl ta86 rfl h rfl rfl rfl) ⟨rfl, ⟨_, rfl⟩⟩ ?_
   refine zbh rfl rfl (zaa rfl) (fun _ => (mv_s (.inl rfl) rfl)) ⟨rfl, ⟨_, rfl⟩⟩ ?_
   refine zbh rfl rfl (zaa rfl) (fun _ => (za0 rfl ts86 ti30 rfl rfl rfl xd)) ⟨rfl, ⟨_, rfl⟩⟩ ?_
   refine fx_look rfl rfl (zaa rfl) (zbr rfl ta30 rfl rfl rfl hxr rfl) ⟨rfl, ⟨_, rfl⟩⟩ (by intro id h; simp at h; subst h; exact Nat.le_of_ble_eq_true rfl) ?_
   refine zbh rfl rfl (zaa rfl) (fun _ => (mv_sl (.inl rfl) rfl)) ⟨rfl, ⟨_, rfl⟩⟩ ?_
   refine zbh rfl rfl (zaa rfl) (fun _ => (mv_ptr (.inl rfl) rfl)) ⟨rfl, ⟨_, rfl⟩⟩ ?_
   refine zbh rfl rfl (zaa rfl) (fun _ => (zcy rfl rfl)) ⟨rfl, ⟨_, rfl⟩⟩ ?_
   refine zbh rfl rfl (zaa rfl) (fun _ => (zb7 rfl zc6 xf rfl)) ⟨rfl, ⟨_, rfl⟩⟩ ?_
   refine fx_inv rfl rfl (zaa rfl) (fun σ2 h => by obtain ⟨_, h⟩ := h; exact zaq rfl ta86 rfl h rfl rfl rfl) ⟨rfl, ⟨_, rfl⟩⟩ ?_
   refine zbh rfl rfl (zaa rfl) (fun _ => (mv_s (.inl rfl) rfl)) ⟨rfl, ⟨_, rfl⟩⟩ ?_
   refine zbh rfl rfl (zaa rfl) (fun _ => (za0 rfl ts86 ti30 rfl rfl rfl xd)) ⟨rfl, ⟨_, rfl⟩⟩ ?_
   refine fx_look rfl rfl (zaa rfl) (zbr rfl ta30 rfl rfl rfl hxr rfl) ⟨rfl, ⟨_, rfl⟩⟩ (by intro id h; simp at h; subst h; exact Nat.le_of_ble_eq_true rfl) ?_
   refine zbh rfl rfl (zaa rfl) (fun _ => (mv_s (.inl rfl) rfl)) ⟨rfl, ⟨_, rfl⟩⟩ ?_
   refine zbh rfl rfl (zaa rfl) (fun _ => (zal rfl ts30 ti45 rfl rfl rfl hxk rfl)) ⟨rfl, ⟨_, rfl⟩⟩ ?_
   refine zbh rfl rfl (zaa rfl) (fun _ => (zck rfl ta45 ti45 rfl rfl)) ⟨rfl, ⟨_, rfl⟩⟩ ?_
   refine fx_m0 rfl rfl rfl (zaa rfl) (zbs rfl rfl (hls) (zae rfl (zae rfl (zae rfl (zae rfl zap))))) ⟨rfl, ⟨_, rfl⟩⟩ ?_
   refine zbh rfl rfl (zaa rfl) (fun _ => (za0 rfl ts86 ti30 rfl rfl rfl xd)) ⟨rfl, ⟨_, rfl⟩⟩ ?_
   refine fx_nil ⟨rfl, ⟨_, rfl⟩⟩ xi (.inr ⟨rfl, Nat.le_refl _⟩) ?_
   simp only [if_true, Bool.false_eq_true, if_false, List.append_nil, List.cons_append, List.nil_append]
   refine zai (eops_eff rfl (zaa rfl) (zaj rfl ti30 rfl rfl rfl hxr rfl rfl xf xf) (zdj (kw_seq ?_)))
   refine kw_stEq (σ' := stE z { tj with rows := tj.rows.set j L.1 } L.2) (by
    simp only [stE, tbC, List.length_set, List.map_set]
    rfl) ?_
   refine kw_region (kops_s rfl (kops_s rfl (kops_f zdu rfl (kops_op rfl rfl (zaa rfl) (zaq rfl ta33 rfl rfl rfl rfl rfl) ?_))))
   refine kops_opP rfl rfl (zaa rfl) (zbp rfl rfl rfl) (fun h118 => ?_) (fun h118 => ?_)
   all_goals refine kops_nil (zai ?_)
   all_goals (first | refine kw_true rfl ?_ | refine kw_false rfl ?_)
   all_goals (repeat (first | refine zai ?_ | refine kw_skip ?_ | refine zbl ?_))
   ·
    rw [if_pos h118] at HJ
    unfold pivFin at HJ
    rw [if_pos h118] at HJ
    (refine kw_ret ?_; repeat (first | refine zbc ?_ | refine zbe ?_))
    subst HJ
    exact ⟨.inr rfl, rfl⟩
   ·
    rw [if_neg h118] at HJ
    have h1 : L.2 = 0 := Decidable.not_not.1 h118
    rw [h1]
    refine kw_region (kops_op rfl rfl (zaa rfl) (zax rfl rfl rfl (IntWalk.i64_in _ xd)) (kops_s rfl (kops_nil (zai ?_))))
    refine ⟨(j + 1, { tj with rows := tj.rows.set j L.1 }), ⟨by show j + 1 ≤ m; omega, ⟨by show (tj.rows.set j L.1).length = m; rw [List.length_set]; exact hrj, fun r hr => ?_, hs1.cl, hs1.bl, hs1.bs, hsm⟩, hs2, HJ⟩, by show m - (j + 1) < m - j; omega, kwk_sub ⟨rfl, rfl, rfl, rfl, rfl, rfl, trivial⟩⟩
    rcases List.mem_or_eq_of_mem_set hr with hr | rfl
    ·
     exact hs1.rw_ r hr
    ·
     have := hll h1; omega
 ·
  have ej : j = m := by omega
  subst ej
  rw [Nat.sub_self] at HJ
  unfold pivJ pivFin at HJ
  rw [if_neg xd] at HJ
  (refine kw_exit ?_; repeat (first | refine zcr ?_ | refine zbt ?_ | refine zbk rfl ?_ | refine zbl ?_ | refine zai ?_ | refine kw_seq ?_ | refine kw_skip ?_ | refine kw_block ?_))
  have hcl := hs1.cl
  have hxc : (tj.cost.map eF)[k]? = some (eF (gti tj.cost k)) := zbb xd
  refine kw_region (kops_s rfl (kops_s rfl (kops_f tf138_1 rfl (kops_op rfl rfl (zaa rfl) (zaq rfl ta30 rfl rfl rfl rfl rfl) (kops_s rfl (kops_op rfl rfl (zaa rfl) (zal rfl ts30 ti45 rfl rfl rfl hxc rfl) (kops_f tf45_0 rfl (kops_l ta3 rfl ?_))))))))
  refine kops_opP rfl rfl (zaa rfl) (zbp rfl rfl rfl) (fun h128 => ?_) (fun h128 => ?_)
  all_goals refine kops_nil (zai ?_)
  all_goals (first | refine kw_true rfl ?_ | refine kw_false rfl ?_)
  all_goals repeat refine kw_skip ?_
  ·
   have hR : R = { tj with cost := (zdr (gti tj.cost k) tj.cost pre).1, e := (zdr (gti tj.cost k) tj.cost pre).2 } := by rw [HJ]; unfold pivC; rw [if_neg h128]
   have hls := less_call (P := P) z tj tj.cost pre (gti tj.cost k) xd xd
   generalize zdr (gti tj.cost k) tj.cost pre = L at hR hls
   refine kw_draw hmix ?_
   refine edraw_lastT rfl xi ?_
   simp only [List.dropLast]
   refine edraw_f0 (invT tj) (invT_app) ?_
   refine zbh rfl rfl (zaa rfl) (fun _ => (mv_ptr (.inl rfl) rfl)) ⟨rfl, ⟨_, rfl⟩⟩ ?_
   refine zbh rfl rfl (zaa rfl) (fun _ => (mv_ptr (.inl rfl) rfl)) ⟨rfl, ⟨_, rfl⟩⟩ ?_
   refine zbh rfl rfl (zaa rfl) (fun _ => (mv_ptr (.inl rfl) rfl)) ⟨rfl, ⟨_, rfl⟩⟩ ?_
   refine zbh rfl rfl (zaa rfl) (fun _ => (zcy rfl rfl)) ⟨rfl, ⟨_, rfl⟩⟩ ?_
   refine zbh rfl rfl (zaa rfl) (fun _ => (zb7 rfl tf138_1 xf rfl)) ⟨rfl, ⟨_, rfl⟩⟩ ?_
   refine fx_inv rfl rfl (zaa rfl) (fun σ2 h => by obtain ⟨_, h⟩ := h; exact zaq rfl ta30 rfl h rfl rfl rfl) ⟨rfl, ⟨_, rfl⟩⟩ ?_
   refine zbh rfl rfl (zaa rfl) (fun _ => (mv_sl (.inl rfl) rfl)) ⟨rfl, ⟨_, rfl⟩⟩ ?_
   refine zbh rfl rfl (zaa rfl) (fun _ => (mv_ptr (.inl rfl) rfl)) ⟨rfl, ⟨_, rfl⟩⟩ ?_
   refine zbh rfl rfl (zaa rfl) (fun _ => (zcy rfl rfl)) ⟨rfl, ⟨_, rfl⟩⟩ ?_
   refine zbh rfl rfl (zaa rfl) (fun _ => (zb7 rfl tf138_1 xf rfl)) ⟨rfl, ⟨_, rfl⟩⟩ ?_
   refine fx_inv rfl rfl (zaa rfl) (fun σ2 h => by obtain ⟨_, h⟩ := h; exact zaq rfl ta30 rfl h rfl rfl rfl) ⟨rfl, ⟨_, rfl⟩⟩ ?_
   refine zbh rfl rfl (zaa rfl) (fun _ => (mv_s (.inl rfl) rfl)) ⟨rfl, ⟨_, rfl⟩⟩ ?_
   refine zbh rfl rfl (zaa rfl) (fun _ => (zal rfl ts30 ti45 rfl rfl rfl hxc rfl)) ⟨rfl, ⟨_, rfl⟩⟩ ?_
   refine zbh rfl rfl (zaa rfl) (fun _ => (zck rfl ta45 ti45 rfl rfl)) ⟨rfl, ⟨_, rfl⟩⟩ ?_
   refine fx_m0 rfl rfl rfl (zaa rfl) (zbs rfl rfl (hls) (zae rfl (zae rfl (zae rfl (zae rfl zap))))) ⟨rfl, ⟨_, rfl⟩⟩ ?_
   refine zbh rfl rfl (zaa rfl) (fun _ => (zcy rfl rfl)) ⟨rfl, ⟨_, rfl⟩⟩ ?_
   refine zbh rfl rfl (zaa rfl) (fun _ => (zb7 rfl tf138_1 xf rfl)) ⟨rfl, ⟨_, rfl⟩⟩ ?_
   refine fx_nil ⟨rfl, ⟨_, rfl⟩⟩ xi (.inr ⟨rfl, Nat.le_refl _⟩) ?_
   simp only [if_true, Bool.false_eq_true, if_false, List.append_nil, List.cons_append, List.nil_append]
   refine zai (eops_eff rfl (zaa rfl) (zaj rfl ti30 rfl rfl rfl rfl rfl rfl xf xf) (zdj ?_))
   subst hR
   exact ⟨.inl rfl, rfl⟩
  ·
   have hR : R = tj := by rw [HJ]; unfold pivC; rw [if_pos xd]
   subst hR
   exact ⟨.inl rfl, by rw [hs2]; rfl⟩
end K4
end Go.Proofs.YtllkbjcemecmjaaGreat.Aw
end
section
namespace Go.Proofs.YtllkbjcemecmjaaGreat.Aw
open Go Go.RowKit Go.Proofs
variable {P : Program} [IsP P]
namespace K4
set_option maxHeartbeats 4000000 in
theorem leave_call {m N : Nat} (z : Zc) (t : Tb) (ht : TbSh m N t) (k : Nat) (hk : k ≤ N) :
  CallE P 104 [.ptr 0 5 0 0, eI k] (stE z t 0) (eI (lvE k t).1) (stE z t (lvE k t).2) := by
 have hrl := ht.rl
 have hbl := ht.bl
 have hsm := ht.sm
 have HI : lvE k t = lvF k t m 0 (-1) ⟨0, 0⟩ := by unfold lvE; rw [hrl]
 generalize lvE k t = R at HI ⊢
 refine callE_fn1 (Nat.le_refl _) (by rw [IsP.eq (P := P)]; exact Tryz.func104) rfl rfl (Nat.le_of_ble_eq_true rfl) rfl ?_
 simp only [argF]
 refine kw_seq (kw_region (kops_s rfl (kops_nil (kw_seq (kw_region (kops_s rfl (kops_nil (kw_seq (kw_region (kops_op rfl rfl (zaa rfl) (za1 rfl ti45 rfl rfl) (kops_nil (kw_seq (kw_seq (kw_region (kops_s rfl (kops_s rfl (kops_f zc6 rfl (kops_op rfl rfl (zaa rfl) (zaq rfl ta86 rfl rfl rfl rfl rfl) (kops_op rfl rfl (zaa rfl) (zc7 rfl ts86 rfl) (kops_s rfl (kops_nil (zai (kw_block ?_)))))))))))))))))))))))
 refine kw_loops (S := Nat × Int × Fr) (fun s => [(0, .ptr 0 5 0 0), (1, eI k), (5, eI s.2.1), (6, .ptr 4 2 0 0), (14, .own 1 1 t.rows.length), (15, eI m), (16, eI s.1)]) (fun s => [.row 5 [tbC t 0], .row 1 (t.rows.map (eL eF)), .row 1 (t.bas.map eI), .row z.n z.cs, .row 2 [eF s.2.2]]) (fun s => s.1 ≤ m ∧ (s.2.1 = -1 ∨ ∃ b : Nat, s.2.1 = b ∧ b < m) ∧ R = lvF k t (m - s.1) s.1 s.2.1 s.2.2) (fun s => m - s.1) (0, -1, ⟨0, 0⟩)
  (kwk_sub ⟨rfl, rfl, rfl, rfl, rfl, by rw [← hrl]; rfl, rfl, trivial⟩) ⟨Nat.zero_le _, .inl rfl, HI⟩ (fun s hs => ?_)
 obtain ⟨i, best, least⟩ := s
 obtain ⟨hi, hb, HJ⟩ := hs
 dsimp only at hi hb HJ ⊢
 clear HI
 refine kw_seq (kw_region ?_)
 refine kops_opP rfl rfl (zaa rfl) (za2 rfl rfl rfl) (fun h17 => ?_) (fun h17 => ?_)
 all_goals refine kops_nil (kw_seq ?_)
 all_goals (first | refine kw_true rfl ?_ | refine kw_false rfl ?_)
 all_goals (repeat (first | refine kw_seq ?_ | refine kw_skip ?_ | refine kw_block ?_))
 ·
  have hlt : i < m := by omega
  have hrow := ht.row hlt
  have hxr : (t.rows.map (eL eF))[i]? = some (eL eF (gti t.rows i)) := zbb xd
  have hxk : ((gti t.rows i).map eF)[k]? = some (eF (gti (gti t.rows i) k)) := zbb xd
  have hxN : ((gti t.rows i).map eF)[N]? = some (eF (gti (gti t.rows i) N)) := zbb xd
  have hxb : (t.bas.map eI)[i]? = some (eI (gti t.bas i)) := zbb xd
  rw [show m - i = (m - (i + 1)) + 1 by omega] at HJ
  unfold lvF at HJ
  dsimp only at HJ
  rw [show (gti t.rows i).length - 1 = N by omega] at HJ
  refine kw_region (kops_s rfl (kops_op rfl rfl (zaa rfl) (za0 rfl ts86 ti30 rfl rfl rfl xd) (kops_op rfl rfl (zaa rfl) (zaq rfl ta30 rfl rfl rfl hxr rfl) (kops_s rfl (kops_s rfl (kops_nil (kw_seq (kw_seq (kw_region (kops_s rfl (kops_s rfl (kops_op rfl rfl (zaa rfl) (zal rfl ts30 ti45 rfl rfl rfl hxk rfl) (kops_f tf45_0 rfl (kops_l ta3 rfl ?_))))))))))))))
  refine kops_opP rfl rfl (zaa rfl) (does_leq rfl rfl rfl) (fun h26 => ?_) (fun h26 => ?_)
  all_goals refine kops_nil (zai ?_)
  all_goals (first | refine kw_true rfl ?_ | refine kw_false rfl ?_)
  all_goals (repeat (first | refine kw_seq ?_ | refine kw_skip ?_))
  ·
   rw [if_pos h26] at HJ
   (refine kw_exit ?_; repeat (first | refine zcr ?_ | refine zbt ?_ | refine zbk rfl ?_ | refine zbl ?_ | refine zai ?_ | refine kw_seq ?_ | refine kw_skip ?_ | refine kw_block ?_))
   refine kw_region (kops_op rfl rfl (zaa rfl) (zax rfl rfl rfl (IntWalk.i64_in _ xd)) (kops_s rfl (kops_nil (zai ?_))))
   exact ⟨(i + 1, best, least), ⟨by show i + 1 ≤ m; omega, hb, HJ⟩, by show m - (i + 1) < m - i; omega, kwk_sub ⟨rfl, rfl, rfl, rfl, rfl, rfl, rfl, trivial⟩⟩
  ·
   rw [if_neg h26] at HJ
   have hnr := fun R hR => note0 (P := P) t R hR (divE (gti (gti t.rows i) N) (gti (gti t.rows i) k)).fr (divE (gti (gti t.rows i) N) (gti (gti t.rows i) k)).e
   have hkN : (((gti t.rows i).length : Nat) : Int) - 1 = ((N : Nat) : Int) := by omega
   refine kw_draw hmix ?_
   refine edraw_lastT rfl xi ?_
   simp only [List.dropLast]
   refine edraw_fx 15 (.row 2 [.agg [eI 0, eI 0]]) (fun _ => True) (fun _ _ => trivial) ?_
   refine zbh rfl rfl (zaa rfl) (fun _ => (mv_ptr (.inl rfl) rfl)) ⟨rfl, trivial⟩ ?_
   refine zbh rfl rfl (zaa rfl) (fun _ => (mv_sl (.inl rfl) rfl)) ⟨rfl, trivial⟩ ?_
   refine zbh rfl rfl (zaa rfl) (fun _ => (mv_sl (.inl rfl) rfl)) ⟨rfl, trivial⟩ ?_
   refine zbh rfl rfl (zaa rfl) (fun _ => (zao rfl ts30 rfl)) ⟨rfl, trivial⟩ ?_
   refine zbh rfl rfl (zaa rfl) (fun _ => (zdx rfl rfl rfl (IntWalk.i64_in _ xd))) ⟨rfl, trivial⟩ ?_
   refine zbh rfl rfl (zaa rfl) (fun _ => (zal rfl ts30 ti45 rfl rfl hkN hxN rfl)) ⟨rfl, trivial⟩ ?_
   refine zbh rfl rfl (zaa rfl) (fun _ => (zck rfl ta45 ti45 rfl rfl)) ⟨rfl, trivial⟩ ?_
   refine zbh rfl rfl (zaa rfl) (fun _ => (mv_sl (.inl rfl) rfl)) ⟨rfl, trivial⟩ ?_
   refine zbh rfl rfl (zaa rfl) (fun _ => (mv_s (.inl rfl) rfl)) ⟨rfl, trivial⟩ ?_
   refine zbh rfl rfl (zaa rfl) (fun _ => (zal rfl ts30 ti45 rfl rfl rfl hxk rfl)) ⟨rfl, trivial⟩ ?_
   refine zbh rfl rfl (zaa rfl) (fun _ => (zck rfl ta45 ti45 rfl rfl)) ⟨rfl, trivial⟩ ?_
   refine zbh rfl rfl (zaa rfl) (fun _ => (zam rfl rfl ((fDiv_pf (gti (gti t.rows i) N) (gti (gti t.rows i) k))) (zae rfl (zae rfl zap)))) ⟨rfl, trivial⟩ ?_
   refine zbh rfl rfl (zaa rfl) (fun _ => (zcz rfl rfl rfl)) ⟨rfl, trivial⟩ ?_
   refine zbh rfl rfl (zaa rfl) (fun _ => (zcz rfl rfl rfl)) ⟨rfl, trivial⟩ ?_
   refine fx_n0 rfl rfl (zaa rfl) (fun X => zbs rfl rfl (hnr _ (by simp <;> omega)) (zae rfl (zae rfl (zae rfl zap)))) ⟨rfl, trivial⟩ ?_
   refine fx_flt rfl rfl (zaa rfl) (does_alloc_flt (fun σ => (za1 rfl ti45 rfl rfl))) ⟨rfl, trivial⟩ ?_
   refine fx_nil ⟨rfl, trivial⟩ xi (.inl ⟨rfl, rfl⟩) ?_
   simp only [if_true, Bool.false_eq_true, if_false, List.append_nil, List.cons_append, List.nil_append]
   refine zai (eops_eff rfl (zaa rfl) (zaj rfl ti45 rfl rfl rfl rfl rfl rfl xf xf) (zdj (kw_seq (kw_seq ?_))))
   generalize divE (gti (gti t.rows i) N) (gti (gti t.rows i) k) = r at HJ hnr ⊢
   refine kw_region (kops_s rfl (kops_s rfl (kops_f zdu rfl (kops_op rfl rfl (zaa rfl) (zaq rfl ta33 rfl rfl rfl rfl rfl) ?_))))
   refine kops_opP rfl rfl (zaa rfl) (zbp rfl rfl rfl) (fun h46 => ?_) (fun h46 => ?_)
   all_goals refine kops_nil (zai ?_)
   all_goals (first | refine kw_true rfl ?_ | refine kw_false rfl ?_)
   all_goals (repeat (first | refine kw_seq ?_ | refine kw_skip ?_))
   ·
    rw [if_pos h46] at HJ
    refine kw_region (kops_s rfl (kops_nil (zai ?_)))
    refine kw_weak (kwk_cut (σ := stE z t r.e) (F' := [(4, eI (-1))]) (by simp [stE]) (stE_lo _ _ _) ⟨⟨rfl, .s _⟩, trivial⟩) ?_
    (refine kw_ret ?_; repeat (first | refine zbc ?_ | refine zbe ?_))
    subst HJ
    exact ⟨.inr rfl, rfl, rfl⟩
   ·
    rw [if_neg h46] at HJ
    have h0 : r.e = 0 := Decidable.not_not.1 h46
    rw [h0]
    refine kw_region (kops_s rfl (kops_nil (kw_seq (kw_seq (kw_region (kops_s rfl ?_))))))
    refine kops_opP rfl rfl (zaa rfl) (zcp rfl rfl rfl) (fun h48 => ?_) (fun h48 => ?_)
    all_goals refine kops_nil (zai ?_)
    all_goals (first | refine kw_true rfl ?_ | refine kw_false rfl ?_)
    all_goals (repeat (first | refine kw_seq ?_ | refine kw_skip ?_))
    ·
     obtain ⟨b, rfl, hbm⟩ : ∃ b : Nat, best = b ∧ b < m := by
      rcases hb with hb | hb
      ·
       omega
      ·
       exact hb
     rw [if_neg (show ¬ ((b : Int) < 0) by omega), show (b : Int).toNat = b from rfl] at HJ
     have hxbb : (t.bas.map eI)[b]? = some (eI (gti t.bas b)) := zbb xd
     refine kw_region (kops_op rfl rfl (zaa rfl) (za8 rfl ta45 ti45 rfl rfl rfl rfl rfl) (kops_op rfl rfl (zaa rfl) (za8 rfl ta45 ti45 rfl rfl rfl rfl rfl) (kops_op rfl rfl (zaa rfl) (zam rfl rfl ((fCmp_pf r.fr least)) (zae rfl (zae rfl zap))) (kops_s rfl (kops_s rfl (kops_s rfl (kops_s rfl (kops_nil (kw_seq ?_)))))))))
     generalize (cmpE r.fr least).1 = c at HJ ⊢
     by_cases c1 : c < 0
     ·
      rw [if_pos (.inl c1)] at HJ
      refine kw_draw hmix ?_
      refine kdraw_ex ?_
      refine ex_s rfl (zay rfl rfl (zaa rfl) (fun _ => (zdc c1 (za2 rfl rfl rfl))) (ex_s rfl (ex_z rfl (ex_z rfl (ex_z rfl (zcg rfl rfl (zbi rfl rfl rfl) (zcg rfl rfl (zbi rfl rfl rfl) (zcg rfl rfl (zbi rfl rfl rfl) (zcg rfl rfl (zbi rfl rfl rfl) (zcg rfl rfl (zbi rfl rfl rfl) (zcg rfl rfl (zbi rfl rfl rfl) (zcg rfl rfl (zbi rfl rfl rfl) (zcg rfl rfl (zbi rfl rfl rfl) (zcg rfl rfl (zbi rfl rfl rfl) (zcg rfl rfl (zbi rfl rfl rfl) (zcg rfl rfl (zbi rfl rfl rfl) (zcg rfl rfl (zbi rfl rfl rfl) ?_)))))))))))))))))
      refine zcg rfl rfl (zbi rfl rfl rfl) (zcg rfl rfl (zbi rfl rfl rfl) (zcg rfl rfl (zbi rfl rfl rfl) (ex_z rfl (ex_s rfl ?_))))
      refine zcf xi ?_
      refine zai (kw_true rfl ?_)
      refine kw_draw hmix ?_
      refine kdraw_ex ?_
      refine ex_s rfl (zbv rfl rfl (zaa rfl) (zdq rfl ta45 ti45 rfl rfl rfl rfl rfl) (ex_s rfl ?_))
      refine zci rfl (zaa rfl) (zaj rfl ti45 rfl rfl rfl rfl rfl rfl xf xf) (fun _ h => zbw h) ?_
      refine zcf xi ?_
      refine zbl (zai (kw_region (kops_op rfl rfl (zaa rfl) (zax rfl rfl rfl (IntWalk.i64_in _ xd)) (kops_s rfl (kops_nil (zai ?_))))))
      exact ⟨(i + 1, i, r.fr), ⟨by show i + 1 ≤ m; omega, .inr ⟨i, rfl, hlt⟩, HJ⟩, by show m - (i + 1) < m - i; omega, kwk_st [0, 1, 2, 3, 4] rfl rfl rfl rfl xf ⟨⟨_, rfl, tb_ren rfl rfl⟩, ⟨_, rfl, .rowE (zde t) rfl⟩, ⟨_, rfl, .rowE (bas_lo t) rfl⟩, ⟨_, rfl, .rowE z.lo rfl⟩, ⟨_, rfl, .rowE xb rfl⟩, trivial⟩ ⟨.ptr 0 0 5 0 0 rfl, .lo _ (.s _), .lo _ (.s _), .ptr 4 4 2 0 0 rfl, .own 1 1 1 _ _ rfl rfl, .lo _ (.s _), .lo _ (.s _), trivial⟩⟩
     ·
      by_cases c2 : c = 0
      ·
       by_cases c3 : gti t.bas i < gti t.bas b
       ·
        rw [if_pos (.inr ⟨c2, c3⟩)] at HJ
        refine kw_draw hmix ?_
        refine kdraw_ex ?_
        refine ex_s rfl (zay rfl rfl (zaa rfl) (fun _ => (dec_f c1 (za2 rfl rfl rfl))) (ex_s rfl (ex_s rfl (zay rfl rfl (zat rfl rfl rfl) (fun _ => (zdc c2 (zbn rfl rfl rfl))) (ex_s rfl (ex_s rfl (ex_s rfl (ex_f zdl rfl (zbv rfl rfl (zat rfl rfl rfl) (zbr rfl ta22 rfl rfl rfl rfl rfl) (ex_s rfl (zay rfl rfl (zat rfl rfl rfl) (fun _ => (za0 rfl ts22 ti3 rfl rfl rfl xd)) (zbv rfl rfl (zat rfl rfl rfl) (zbr rfl ta3 rfl rfl rfl hxb rfl) (ex_s rfl (ex_s rfl (ex_f zdl rfl (zbv rfl rfl (zat rfl rfl rfl) (zbr rfl ta22 rfl rfl rfl rfl rfl) ?_))))))))))))))))
        refine ex_s rfl (zay rfl rfl (zat rfl rfl rfl) (fun _ => (za0 rfl ts22 ti3 rfl rfl rfl xd)) (zbv rfl rfl (zat rfl rfl rfl) (zbr rfl ta3 rfl rfl rfl hxbb rfl) (zay rfl rfl (zat rfl rfl rfl) (fun _ => (zdc c3 (za2 rfl rfl rfl))) (ex_s rfl (ex_s rfl ?_)))))
        refine zcf xi ?_
        refine zai (kw_true rfl ?_)
        refine kw_draw hmix ?_
        refine kdraw_ex ?_
        refine ex_s rfl (zbv rfl rfl (zaa rfl) (zdq rfl ta45 ti45 rfl rfl rfl rfl rfl) (ex_s rfl ?_))
        refine zci rfl (zaa rfl) (zaj rfl ti45 rfl rfl rfl rfl rfl rfl xf xf) (fun _ h => zbw h) ?_
        refine zcf xi ?_
        refine zbl (zai (kw_region (kops_op rfl rfl (zaa rfl) (zax rfl rfl rfl (IntWalk.i64_in _ xd)) (kops_s rfl (kops_nil (zai ?_))))))
        exact ⟨(i + 1, i, r.fr), ⟨by show i + 1 ≤ m; omega, .inr ⟨i, rfl, hlt⟩, HJ⟩, by show m - (i + 1) < m - i; omega, kwk_st [0, 1, 2, 3, 4] rfl rfl rfl rfl xf ⟨⟨_, rfl, tb_ren rfl rfl⟩, ⟨_, rfl, .rowE (zde t) rfl⟩, ⟨_, rfl, .rowE (bas_lo t) rfl⟩, ⟨_, rfl, .rowE z.lo rfl⟩, ⟨_, rfl, .rowE xb rfl⟩, trivial⟩ ⟨.ptr 0 0 5 0 0 rfl, .lo _ (.s _), .lo _ (.s _), .ptr 4 4 2 0 0 rfl, .own 1 1 1 _ _ rfl rfl, .lo _ (.s _), .lo _ (.s _), trivial⟩⟩
       ·
        rw [if_neg (by intro h; rcases h with h | h; exact c1 h; exact c3 h.2)] at HJ
        refine kw_draw hmix ?_
        refine kdraw_ex ?_
        refine ex_s rfl (zay rfl rfl (zaa rfl) (fun _ => (dec_f c1 (za2 rfl rfl rfl))) (ex_s rfl (ex_s rfl (zay rfl rfl (zat rfl rfl rfl) (fun _ => (zdc c2 (zbn rfl rfl rfl))) (ex_s rfl (ex_s rfl (ex_s rfl (ex_f zdl rfl (zbv rfl rfl (zat rfl rfl rfl) (zbr rfl ta22 rfl rfl rfl rfl rfl) (ex_s rfl (zay rfl rfl (zat rfl rfl rfl) (fun _ => (za0 rfl ts22 ti3 rfl rfl rfl xd)) (zbv rfl rfl (zat rfl rfl rfl) (zbr rfl ta3 rfl rfl rfl hxb rfl) (ex_s rfl (ex_s rfl (ex_f zdl rfl (zbv rfl rfl (zat rfl rfl rfl) (zbr rfl ta22 rfl rfl rfl rfl rfl) ?_))))))))))))))))
        refine ex_s rfl (zay rfl rfl (zat rfl rfl rfl) (fun _ => (za0 rfl ts22 ti3 rfl rfl rfl xd)) (zbv rfl rfl (zat rfl rfl rfl) (zbr rfl ta3 rfl rfl rfl hxbb rfl) (zay rfl rfl (zat rfl rfl rfl) (fun _ => (dec_f c3 (za2 rfl rfl rfl))) (ex_s rfl (ex_s rfl ?_)))))
        refine zcf xi ?_
        refine zai (kw_false rfl (kw_skip (zbl (zai (kw_region (kops_op rfl rfl (zaa rfl) (zax rfl rfl rfl (IntWalk.i64_in _ xd)) (kops_s rfl (kops_nil (zai ?_)))))))))
        exact ⟨(i + 1, (b : Int), least), ⟨by show i + 1 ≤ m; omega, .inr ⟨b, rfl, hbm⟩, HJ⟩, by show m - (i + 1) < m - i; omega, kwk_st [0, 1, 2, 3, 4] rfl rfl rfl rfl xf ⟨⟨_, rfl, tb_ren rfl rfl⟩, ⟨_, rfl, .rowE (zde t) rfl⟩, ⟨_, rfl, .rowE (bas_lo t) rfl⟩, ⟨_, rfl, .rowE z.lo rfl⟩, ⟨_, rfl, .rowE xb rfl⟩, trivial⟩ ⟨.ptr 0 0 5 0 0 rfl, .lo _ (.s _), .lo _ (.s _), .ptr 4 4 2 0 0 rfl, .own 1 1 1 _ _ rfl rfl, .lo _ (.s _), .lo _ (.s _), trivial⟩⟩
      ·
       rw [if_neg (by intro h; rcases h with h | h; exact c1 h; exact c2 h.1)] at HJ
       refine kw_draw hmix ?_
       refine kdraw_ex ?_
       refine ex_s rfl (zay rfl rfl (zaa rfl) (fun _ => (dec_f c1 (za2 rfl rfl rfl))) (ex_s rfl (ex_s rfl (zay rfl rfl (zat rfl rfl rfl) (fun _ => (dec_f c2 (zbn rfl rfl rfl))) (ex_s rfl (ex_z rfl (ex_z rfl (ex_z rfl (ex_z rfl (ex_z rfl (ex_z rfl (ex_z rfl (ex_z rfl (ex_z rfl (ex_z rfl (ex_z rfl (ex_z rfl (ex_z rfl (ex_z rfl (ex_z rfl (ex_s rfl (ex_s rfl ?_))))))))))))))))))))))
       refine zcf xi ?_
       refine zai (kw_false rfl (kw_skip (zbl (zai (kw_region (kops_op rfl rfl (zaa rfl) (zax rfl rfl rfl (IntWalk.i64_in _ xd)) (kops_s rfl (kops_nil (zai ?_)))))))))
       exact ⟨(i + 1, (b : Int), least), ⟨by show i + 1 ≤ m; omega, .inr ⟨b, rfl, hbm⟩, HJ⟩, by show m - (i + 1) < m - i; omega, kwk_st [0, 1, 2, 3, 4] rfl rfl rfl rfl xf ⟨⟨_, rfl, tb_ren rfl rfl⟩, ⟨_, rfl, .rowE (zde t) rfl⟩, ⟨_, rfl, .rowE (bas_lo t) rfl⟩, ⟨_, rfl, .rowE z.lo rfl⟩, ⟨_, rfl, .rowE xb rfl⟩, trivial⟩ ⟨.ptr 0 0 5 0 0 rfl, .lo _ (.s _), .lo _ (.s _), .ptr 4 4 2 0 0 rfl, .own 1 1 1 _ _ rfl rfl, .lo _ (.s _), .lo _ (.s _), trivial⟩⟩
    ·
     rw [if_pos (show best < 0 by omega), if_pos (.inl xd)] at HJ
     have cm : (-1 : Int) < 0 := by omega
     refine kw_draw hmix ?_
     refine kdraw_ex ?_
     refine ex_s rfl (zay rfl rfl (zaa rfl) (fun _ => (zdc cm (za2 rfl rfl rfl))) (ex_s rfl (ex_z rfl (ex_z rfl (ex_z rfl (zcg rfl rfl (zbi rfl rfl rfl) (zcg rfl rfl (zbi rfl rfl rfl) (zcg rfl rfl (zbi rfl rfl rfl) (zcg rfl rfl (zbi rfl rfl rfl) (zcg rfl rfl (zbi rfl rfl rfl) (zcg rfl rfl (zbi rfl rfl rfl) (zcg rfl rfl (zbi rfl rfl rfl) (zcg rfl rfl (zbi rfl rfl rfl) (zcg rfl rfl (zbi rfl rfl rfl) (zcg rfl rfl (zbi rfl rfl rfl) (zcg rfl rfl (zbi rfl rfl rfl) (zcg rfl rfl (zbi rfl rfl rfl) ?_)))))))))))))))))
     refine zcg rfl rfl (zbi rfl rfl rfl) (zcg rfl rfl (zbi rfl rfl rfl) (zcg rfl rfl (zbi rfl rfl rfl) (ex_z rfl (ex_s rfl ?_))))
     refine zcf xi ?_
     refine zai (kw_true rfl ?_)
     refine kw_draw hmix ?_
     refine kdraw_ex ?_
     refine ex_s rfl (zbv rfl rfl (zaa rfl) (zdq rfl ta45 ti45 rfl rfl rfl rfl rfl) (ex_s rfl ?_))
     refine zci rfl (zaa rfl) (zaj rfl ti45 rfl rfl rfl rfl rfl rfl xf xf) (fun _ h => zbw h) ?_
     refine zcf xi ?_
     refine zbl (zai (kw_region (kops_op rfl rfl (zaa rfl) (zax rfl rfl rfl (IntWalk.i64_in _ xd)) (kops_s rfl (kops_nil (zai ?_))))))
     exact ⟨(i + 1, i, r.fr), ⟨by show i + 1 ≤ m; omega, .inr ⟨i, rfl, hlt⟩, HJ⟩, by show m - (i + 1) < m - i; omega, kwk_st [0, 1, 2, 3, 4] rfl rfl rfl rfl xf ⟨⟨_, rfl, tb_ren rfl rfl⟩, ⟨_, rfl, .rowE (zde t) rfl⟩, ⟨_, rfl, .rowE (bas_lo t) rfl⟩, ⟨_, rfl, .rowE z.lo rfl⟩, ⟨_, rfl, .rowE xb rfl⟩, trivial⟩ ⟨.ptr 0 0 5 0 0 rfl, .lo _ (.s _), .lo _ (.s _), .ptr 4 4 2 0 0 rfl, .own 1 1 1 _ _ rfl rfl, .lo _ (.s _), .lo _ (.s _), trivial⟩⟩
 ·
  have e : i = m := by omega
  subst e
  rw [Nat.sub_self] at HJ
  unfold lvF at HJ
  subst HJ
  (refine kw_exit ?_; repeat (first | refine zcr ?_ | refine zbt ?_ | refine zbk rfl ?_ | refine zbl ?_ | refine zai ?_ | refine kw_seq ?_ | refine kw_skip ?_ | refine kw_block ?_))
  refine kw_region (kops_s rfl (kops_s rfl (kops_nil (zai ?_))))
  refine kw_weak (kwk_cut (σ := stE z t 0) (F' := [(4, eI best)]) (by simp [stE]) (stE_lo _ _ _) ⟨⟨rfl, .s _⟩, trivial⟩) ?_
  (refine kw_ret ?_; repeat (first | refine zbc ?_ | refine zbe ?_))
  exact ⟨.inr rfl, rfl, rfl⟩
end K4
end Go.Proofs.YtllkbjcemecmjaaGreat.Aw
end
section
namespace Go.Proofs.YtllkbjcemecmjaaGreat.Aw
open Go Go.RowKit Go.Proofs
variable {P : Program} [IsP P]
theorem run1_pf (a : Fr) : Pure P 103 [eF a] (eB (negF a)) := by
 refine zcl (by rw [IsP.eq (P := P)]; exact Tryz.func103) rfl rfl rfl rfl rfl xa (.s _) (by simp only [argF]; rfl) ?_
 refine zag (zab (zaf rfl rfl (zaa rfl) (zb3 rfl rfl rfl rfl) (zac rfl (zad (zag (zab (zbz tf45_0 rfl (zaf rfl rfl (zaa rfl) (zaq rfl ta3 rfl rfl rfl rfl rfl) (zaf rfl rfl (zaa rfl) (za2 rfl rfl rfl) (zac rfl (zad (zai ?_))))))))))))
 (refine za7 ?_; repeat (first | refine zbc ?_ | refine zbe ?_))
 exact zb6 (.inr rfl) rfl rfl
theorem solved1_pf (a : Fr) : Pure P 91 [eF a] (eB (nzF a)) := by
 refine zcl (by rw [IsP.eq (P := P)]; exact Tryz.func91) rfl rfl rfl rfl rfl xa (.s _) (by simp only [argF]; rfl) ?_
 refine zag (zab (zaf rfl rfl (zaa rfl) (zb3 rfl rfl rfl rfl) (zac rfl (zad (zag (zab (zbz tf45_0 rfl (zaf rfl rfl (zaa rfl) (zaq rfl ta3 rfl rfl rfl rfl rfl) (zaf rfl rfl (zaa rfl) (zbp rfl rfl rfl) (zac rfl (zad (zai ?_))))))))))))
 (refine za7 ?_; repeat (first | refine zbc ?_ | refine zbe ?_))
 exact zb6 (.inr rfl) rfl rfl
namespace K4
set_option maxHeartbeats 4000000 in
theorem run_call {m N vars : Nat} (z : Zc) (hm : m ≤ 12 ∧ N ≤ 40) (hv : vars ≤ N) (t t' : Tb) (f : Nat) (k : Int) (ht : t.e = 0 → TbOk m N t) (hr : runE vars f t = some (t', k)) :
  CallE P 89 [.ptr 0 5 0 0, eI vars] (stE z t t.e) (eI k) (stE z t' t'.e) := by
 refine callE_fn1 (Nat.le_refl _) (by rw [IsP.eq (P := P)]; exact Tryz.func89) rfl rfl (Nat.le_of_ble_eq_true rfl) rfl ?_
 simp only [argF]
 refine kw_seq (kw_region (kops_s rfl (kops_nil (kw_seq (kw_block ?_)))))
 refine kw_loops (S := Nat × Tb) (fun s => [(0, .ptr 0 5 0 0), (1, eI vars)]) (fun s => [.row 5 [tbC s.2 s.2.e], .row 1 (s.2.rows.map (eL eF)), .row 1 (s.2.bas.map eI), .row z.n z.cs]) (fun s => (s.2.e = 0 → TbOk m N s.2) ∧ runE vars s.1 s.2 = some (t', k)) (fun s => s.1) (f, t)
  (kwk_sub ⟨rfl, rfl, trivial⟩) ⟨ht, hr⟩ (fun s hs => ?_)
 obtain ⟨f, s⟩ := s
 obtain ⟨hs1, hs2⟩ := hs
 dsimp only at hs1 hs2 ⊢
 clear ht hr
 cases f with
 | zero => cases hs2
 | succ f =>
 unfold runE at hs2
 refine kw_seq (kw_seq (kw_region (kops_s rfl (kops_s rfl (kops_f zdu rfl (kops_op rfl rfl (zaa rfl) (zaq rfl ta33 rfl rfl rfl rfl rfl) ?_))))))
 refine kops_opP rfl rfl (zaa rfl) (zbn rfl rfl rfl) (fun h11 => ?_) (fun h11 => ?_)
 all_goals refine kops_nil (zai ?_)
 all_goals (first | refine kw_true rfl ?_ | refine kw_false rfl ?_)
 all_goals (repeat (first | refine kw_seq ?_ | refine zai ?_ | refine kw_skip ?_ | refine kw_block ?_))
 ·
  have hok := hs1 h11
  have hsh := hok.sh hm
  have hcl := hok.cl
  have hix : Pure P 73 [.sl ((s.cost.map eF).take vars), .fn 103 []] (eI (zc2 negF (s.cost.take vars))) := by
   rw [← List.map_take]
   exact indexFF_pf _ [] negF (s.cost.take vars) lo_F (.fn _ _ xo) (fun a _ => run1_pf a)
  have hst : ∀ t2, runS vars s = .inr t2 → t2.e = 0 → TbOk m N t2 := fun t2 h1 h2 => (runS_step hv hok h1 h2).2.1
  have hR : runS vars s = (let k := zc2 negF (s.cost.take vars)
   if k < 0 then .inl (s, -1) else
   let l := lvE k.toNat s
   if l.2 ≠ 0 then .inl ({ s with e := l.2 }, -1) else
   if l.1 < 0 then .inl (s, k) else .inr (pivE l.1.toNat k.toNat s)) := by
   unfold runS
   rw [if_neg (by simpa using h11)]
  have hfge := firstAt_ge negF (s.cost.take vars)
  have hfl : 0 ≤ zc2 negF (s.cost.take vars) → zc2 negF (s.cost.take vars) < vars := fun h => by
   obtain ⟨q, e1, e2, _⟩ := firstAt_get h
   rw [List.length_take] at e2
   omega
  rw [h11]
  refine kw_region (kops_s rfl (kops_s rfl (kops_f tf138_1 rfl (kops_op rfl rfl (zaa rfl) (zaq rfl ta30 rfl rfl rfl rfl rfl) (kops_s rfl ?_)))))
  refine kops_op rfl rfl (zaa rfl) (does_slice_h rfl ts30 ti45 rfl rfl rfl (by simp; omega) (by intro e he; simp at he; obtain ⟨_, _, rfl⟩ := he; rfl)) ?_
  refine kops_op rfl rfl (zaa rfl) (zam rfl rfl (hix) (zae rfl (zae rfl zap))) (kops_s rfl (kops_nil (kw_seq (kw_seq ?_))))
  generalize zc2 negF (s.cost.take vars) = kk at hix hR hfge hfl ⊢
  refine kw_region (kops_s rfl ?_)
  refine kops_opP rfl rfl (zaa rfl) (za2 rfl rfl rfl) (fun h20 => ?_) (fun h20 => ?_)
  all_goals refine kops_nil (zai ?_)
  all_goals (first | refine kw_true rfl ?_ | refine kw_false rfl ?_)
  all_goals (repeat (first | refine kw_seq ?_ | refine kw_skip ?_))
  ·
   rw [hR] at hs2
   dsimp only at hs2
   rw [if_pos h20] at hs2
   cases hs2
   refine kw_region (kops_s rfl (kops_nil (zai ?_)))
   (refine kw_ret ?_; repeat (first | refine zbc ?_ | refine zbe ?_))
   exact ⟨.inr rfl, rfl, by rw [h11]; rfl⟩
  ·
   obtain ⟨q, rfl⟩ : ∃ q : Nat, kk = q := ⟨kk.toNat, by omega⟩
   have hq := hfl xd
   dsimp only at hR
   rw [if_neg h20, show (q : Int).toNat = q from rfl] at hR
   have hlv := leave_call (P := P) z s hsh q xd
   have hlb : (lvE q s).2 = 0 → (lvE q s).1 < 0 ∨ ∃ b : Nat, (lvE q s).1 = b ∧ b < m := fun h => by
    have hrl := hok.rl
    have e1 : lvE q s = lvF q s m 0 (-1) ⟨0, 0⟩ := by unfold lvE; rw [hrl]
    rw [e1] at h ⊢
    obtain ⟨l, hI⟩ := lvF_ok hok (k := q) xd m 0 (-1) ⟨0, 0⟩ xd (.inl ⟨rfl, fun q hq => by omega⟩) h
    rcases hI with ⟨g1, _⟩ | ⟨b, g1, g2, _⟩
    ·
     exact .inl xd
    ·
     exact .inr ⟨b, g1, g2⟩
   generalize lvE q s = l at hlv hlb hR
   refine kw_region (kops_s rfl (kops_s rfl (kops_op rfl rfl (zaa rfl) (zbs rfl rfl hlv (zae rfl (zae rfl zap))) (kops_s rfl (kops_nil (kw_seq (kw_seq (kw_region (kops_s rfl (kops_s rfl (kops_f zdu rfl (kops_op rfl rfl (zaa rfl) (zaq rfl ta33 rfl rfl rfl rfl rfl) ?_))))))))))))
   refine kops_opP rfl rfl (zaa rfl) (zbp rfl rfl rfl) (fun h28 => ?_) (fun h28 => ?_)
   all_goals refine kops_nil (zai ?_)
   all_goals (first | refine kw_true rfl ?_ | refine kw_false rfl ?_)
   all_goals (repeat (first | refine kw_seq ?_ | refine kw_skip ?_))
   ·
    rw [if_pos h28] at hR
    rw [hR] at hs2
    cases hs2
    (refine kw_exit ?_; repeat (first | refine zcr ?_ | refine zbt ?_ | refine zbk rfl ?_ | refine zbl ?_ | refine zai ?_ | refine kw_seq ?_ | refine kw_skip ?_ | refine kw_block ?_))
    refine kw_region (kops_s rfl (kops_nil (zai ?_)))
    (refine kw_ret ?_; repeat (first | refine zbc ?_ | refine zbe ?_))
    exact ⟨.inr rfl, rfl, rfl⟩
   ·
    rw [if_neg h28] at hR
    have h0 : l.2 = 0 := Decidable.not_not.1 h28
    rw [h0]
    refine kw_region (kops_s rfl ?_)
    refine kops_opP rfl rfl (zaa rfl) (za2 rfl rfl rfl) (fun h30 => ?_) (fun h30 => ?_)
    all_goals refine kops_nil (zai ?_)
    all_goals (first | refine kw_true rfl ?_ | refine kw_false rfl ?_)
    all_goals (repeat (first | refine kw_seq ?_ | refine zai ?_ | refine kw_skip ?_))
    ·
     rw [if_pos h30] at hR
     rw [hR] at hs2
     cases hs2
     refine kw_region (kops_s rfl (kops_s rfl (kops_nil (zai ?_))))
     (refine kw_ret ?_; repeat (first | refine zbc ?_ | refine zbe ?_))
     exact ⟨.inr rfl, rfl, by rw [h11]⟩
    ·
     rw [if_neg h30] at hR
     obtain ⟨b, e1, hb⟩ : ∃ b : Nat, l.1 = b ∧ b < m := by
      rcases hlb h0 with h | h
      ·
       exact absurd h h30
      ·
       exact h
     rw [e1] at hR ⊢
     rw [show (b : Int).toNat = b from rfl] at hR
     rw [hR] at hs2
     have hpv := pivot_call (P := P) z s hsh h11 b q hb xd
     refine kw_region (kops_s rfl (kops_s rfl (kops_s rfl (kops_op rfl rfl (zaa rfl) (zbs rfl rfl hpv (zae rfl (zae rfl (zae rfl zap)))) (kops_nil (zbl (zai ?_)))))))
     exact ⟨(f, pivE b q s), ⟨hst _ hR, hs2⟩, Nat.lt_succ_self f, kwk_sub ⟨rfl, rfl, trivial⟩⟩
 ·
  have hR : runS vars s = .inl (s, -1) := by unfold runS; rw [if_pos h11]
  rw [hR] at hs2
  cases hs2
  (refine kw_exit ?_; repeat (first | refine zcr ?_ | refine zbt ?_ | refine zbk rfl ?_ | refine zbl ?_ | refine zai ?_ | refine kw_seq ?_ | refine kw_skip ?_ | refine kw_block ?_))
  refine kw_region (kops_s rfl (kops_nil (zai ?_)))
  (refine kw_ret ?_; repeat (first | refine zbc ?_ | refine zbe ?_))
  exact ⟨.inr rfl, rfl, rfl⟩
end K4
end Go.Proofs.YtllkbjcemecmjaaGreat.Aw
end
section
namespace Go.Proofs.YtllkbjcemecmjaaGreat.Aw
open Go Go.RowKit Go.Proofs
variable {P : Program} [IsP P]
theorem onesF_po (n : Nat) (h : 1 ≤ n ∧ n ≤ 12) : PureO P 45 [eL eF [Fr.of 1], eI n] 2 ((List.replicate n (Fr.of 1)).map eF) :=
 repO (K1.repF_call (Fr.of 1) n ⟨h.1, by omega⟩) h.1 (zah (.sl _ (zah (lo_F _) zak)) (zah (.s _) zak))
end Go.Proofs.YtllkbjcemecmjaaGreat.Aw
end
