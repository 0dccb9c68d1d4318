/-
  Texts joined: AwN, RRv, RRc. Conditions: none.
-/
import Derived.Test.YtmhbfoaecebobaaJF10
section
namespace Go.Proofs.Ytmhbfoaecebobaa.Aw
set_option linter.unusedSimpArgs false
set_option linter.unusedVariables false
open Go.RowKit

def ge1 : Option Nat → Bool
  | some (_ + 1) => true
  | _ => false
def is2 : Option Nat → Bool
  | some 2 => true
  | _ => false
/-- what changes the store keeps its order to all that is not free -/
def gOk (l : List Oper) (ks : List Nat) : Bool :=
  qOk l && (let m := masks l []
    (List.range l.length).all fun j => (List.range j).all fun i => !(ge1 ks[i]? && ge1 ks[j]? && (is2 ks[i]? || is2 ks[j]?)) || (m.getD j 0).testBit i)
theorem gOk_of {l : List Oper} {ks : List Nat} (h : gOk l ks = true) : qOk l = true ∧ ∀ (i j a b : Nat), i < j → j < l.length → ks[i]? = some a → ks[j]? = some b → 1 ≤ a → 1 ≤ b → a = 2 ∨ b = 2 → ((masks l []).getD j 0).testBit i = true := by
  unfold gOk at h
  simp only [Bool.and_eq_true] at h
  refine ⟨h.1, fun i j a b hij hj ha hb h1 h2 h3 => ?_⟩
  have h4 := List.all_eq_true.1 (List.all_eq_true.1 h.2 j (by simpa using hj)) i (by simpa using hij)
  rw [ha, hb] at h4
  obtain ⟨a, rfl⟩ : ∃ k, a = k + 1 := ⟨a - 1, by omega⟩
  obtain ⟨b, rfl⟩ : ∃ k, b = k + 1 := ⟨b - 1, by omega⟩
  have h5 : (is2 (some (a + 1)) || is2 (some (b + 1))) = true := by
    rcases h3 with h | h
    · have : a = 1 := by omega
      subst this; rfl
    · have : b = 1 := by omega
      subst this; simp [is2]
  simpa [ge1, h5] using h4

inductive GSteps (P : Program) (N : Nat) (ops : Array Oper) : List Oper → Frm → List Ob → Frm → List Ob → List (Nat × AV) → List Nat → List (List Ob) → Prop
  | nil (F : Frm) (σ : List Ob) : GSteps P N ops [] F σ F σ [] [] []
  | free (o : Oper) (l : List Oper) (F F' : Frm) (σ σ' : List Ob) (x : AV) (out : List (Nat × AV)) (ks : List Nat) (sts : List (List Ob)) (d : Nat) (hd : o.dst = some d) (hN : Nat.blt d N = true) (hr : Runs ops F o true) (hD : ∀ σ, Does P o F σ x σ) (h : GSteps P N ops l ((d, x) :: F) σ F' σ' out ks sts) : GSteps P N ops (o :: l) F σ F' σ' ((d, x) :: out) (0 :: ks) (σ :: sts)
  | skip (o : Oper) (l : List Oper) (F F' : Frm) (σ σ' : List Ob) (out : List (Nat × AV)) (ks : List Nat) (sts : List (List Ob)) (d : Nat) (hd : o.dst = some d) (hN : Nat.blt d N = true) (hr : Runs ops F o false) (h : GSteps P N ops l ((d, .s undef) :: F) σ F' σ' out ks sts) : GSteps P N ops (o :: l) F σ F' σ' ((d, .s undef) :: out) (0 :: ks) (σ :: sts)
  | look (o : Oper) (l : List Oper) (F F' : Frm) (σ σ' : List Ob) (x : AV) (out : List (Nat × AV)) (ks : List Nat) (sts : List (List Ob)) (d : Nat) (hd : o.dst = some d) (hN : Nat.blt d N = true) (hr : Runs ops F o true) (hD : Does P o F σ x σ) (h : GSteps P N ops l ((d, x) :: F) σ F' σ' out ks sts) : GSteps P N ops (o :: l) F σ F' σ' ((d, x) :: out) (1 :: ks) (σ :: sts)
  | eff (o : Oper) (l : List Oper) (F F' : Frm) (σ σ1 σ' : List Ob) (x : AV) (out : List (Nat × AV)) (ks : List Nat) (sts : List (List Ob)) (d : Nat) (hd : o.dst = some d) (hN : Nat.blt d N = true) (hr : Runs ops F o true) (hD : Does P o F σ x σ1) (h : GSteps P N ops l ((d, x) :: F) σ1 F' σ' out ks sts) : GSteps P N ops (o :: l) F σ F' σ' ((d, x) :: out) (2 :: ks) (σ :: sts)

theorem gsteps_at {P : Program} {N : Nat} {ops : Array Oper} : ∀ {l : List Oper} {F F' : Frm} {σ σ' : List Ob} {out : List (Nat × AV)} {ks : List Nat} {sts : List (List Ob)}, GSteps P N ops l F σ F' σ' out ks sts → l.length = out.length ∧ F' = out.reverse ++ F ∧ ks.length = l.length ∧ sts.length = l.length ∧ (sts ++ [σ']).getD 0 [] = σ ∧
    ∀ (i : Nat) o, l[i]? = some o → ∃ d x, out[i]? = some (d, x) ∧ o.dst = some d ∧ d < N ∧
      ((ks[i]? = some 0 ∧ (sts ++ [σ']).getD (i + 1) [] = (sts ++ [σ']).getD i [] ∧ ((Runs ops ((out.take i).reverse ++ F) o true ∧ ∀ σ, Does P o ((out.take i).reverse ++ F) σ x σ) ∨ (Runs ops ((out.take i).reverse ++ F) o false ∧ x = .s undef))) ∨
       (ks[i]? = some 1 ∧ (sts ++ [σ']).getD (i + 1) [] = (sts ++ [σ']).getD i [] ∧ Runs ops ((out.take i).reverse ++ F) o true ∧ Does P o ((out.take i).reverse ++ F) ((sts ++ [σ']).getD i []) x ((sts ++ [σ']).getD i [])) ∨
       (ks[i]? = some 2 ∧ Runs ops ((out.take i).reverse ++ F) o true ∧ Does P o ((out.take i).reverse ++ F) ((sts ++ [σ']).getD i []) x ((sts ++ [σ']).getD (i + 1) []))) := by
  intro l F F' σ σ' out ks sts h
  induction h with
  | nil F σ => exact ⟨rfl, rfl, rfl, rfl, rfl, by simp⟩
  | free o l F F' σ σ' x out ks sts d hd hN hr hD h ih =>
    obtain ⟨h1, h2, h3, h4, h0, h5⟩ := ih
    refine ⟨by simp [h1], by simp [h2], by simp [h3], by simp [h4], rfl, fun i o' hi => ?_⟩
    cases i with
    | zero => simp at hi; subst hi; exact ⟨d, x, rfl, hd, by simpa [Nat.blt_eq] using hN, .inl ⟨rfl, h0, .inl ⟨by simpa using hr, by simpa using hD⟩⟩⟩
    | succ i =>
      obtain ⟨d', x', g1, g2, g3, g4⟩ := h5 i o' (by simpa using hi)
      exact ⟨d', x', by simpa using g1, g2, g3, by simpa using g4⟩
  | skip o l F F' σ σ' out ks sts d hd hN hr h ih =>
    obtain ⟨h1, h2, h3, h4, h0, h5⟩ := ih
    refine ⟨by simp [h1], by simp [h2], by simp [h3], by simp [h4], rfl, fun i o' hi => ?_⟩
    cases i with
    | zero => simp at hi; subst hi; exact ⟨d, .s undef, rfl, hd, by simpa [Nat.blt_eq] using hN, .inl ⟨rfl, h0, .inr ⟨by simpa using hr, rfl⟩⟩⟩
    | succ i =>
      obtain ⟨d', x', g1, g2, g3, g4⟩ := h5 i o' (by simpa using hi)
      exact ⟨d', x', by simpa using g1, g2, g3, by simpa using g4⟩
  | look o l F F' σ σ' x out ks sts d hd hN hr hD h ih =>
    obtain ⟨h1, h2, h3, h4, h0, h5⟩ := ih
    refine ⟨by simp [h1], by simp [h2], by simp [h3], by simp [h4], rfl, fun i o' hi => ?_⟩
    cases i with
    | zero => simp at hi; subst hi; exact ⟨d, x, rfl, hd, by simpa [Nat.blt_eq] using hN, .inr (.inl ⟨rfl, h0, by simpa using hr, by simpa using hD⟩)⟩
    | succ i =>
      obtain ⟨d', x', g1, g2, g3, g4⟩ := h5 i o' (by simpa using hi)
      exact ⟨d', x', by simpa using g1, g2, g3, by simpa using g4⟩
  | eff o l F F' σ σ1 σ' x out ks sts d hd hN hr hD h ih =>
    obtain ⟨h1, h2, h3, h4, h0, h5⟩ := ih
    refine ⟨by simp [h1], by simp [h2], by simp [h3], by simp [h4], rfl, fun i o' hi => ?_⟩
    cases i with
    | zero =>
      simp at hi; subst hi
      refine ⟨d, x, rfl, hd, by simpa [Nat.blt_eq] using hN, .inr (.inr ⟨rfl, by simpa using hr, ?_⟩)⟩
      have e : ((σ :: sts) ++ [σ']).getD (0 + 1) [] = σ1 := h0
      rw [e]
      simpa using hD
    | succ i =>
      obtain ⟨d', x', g1, g2, g3, g4⟩ := h5 i o' (by simpa using hi)
      exact ⟨d', x', by simpa using g1, g2, g3, by simpa using g4⟩

section
variable {P : Program} {N : Nat} {l : List Oper} {F F' : Frm} {σ : List Ob} {out : List (Nat × AV)} {Q : Exit → Frm → List Ob → Prop}

theorem gen_any {σ' : List Ob} {ks : List Nat} {sts : List (List Ob)} (hq : gOk l ks = true) (hs : GSteps P N l.toArray l F σ F' σ' out ks sts) (hQ : Q .normal F' σ') (G0 : Cx) :
    ∀ (fuel : Nat) (L : Array Bool) (G : Cx) (a : Act) (m : Nat), G0.Step G → L.size = l.length → left L.toList = fuel → Closed l (fun j => L.getD j false = true) → m ≤ l.length → (∀ j, ks[j]? = some 2 → (L.getD j false = true ↔ j < m)) → S8 N G a (fr (fun j => L.getD j false) 0 out F) ((sts ++ [σ']).getD m []) → wpAny P .any l.toArray (lift N G0 Q) fuel L a G.w := by
  obtain ⟨hlen, hF', hkl, hsl, _, hat⟩ := gsteps_at hs
  obtain ⟨hq, hq2⟩ := gOk_of hq
  unfold qOk at hq
  have hq' : ∀ j oj, l[j]? = some oj → (∀ e ∈ oj.after.toList, Region.binds .any e = true → e.on < j) ∧ ∀ i oi, i < j → l[i]? = some oi → clash l.toArray oi oj = true → ((masks l []).getD j 0).testBit i = true := by
    intro j oj hj
    have h1 := List.all_eq_true.1 hq j (by simpa using (List.getElem?_eq_some_iff.1 hj).1)
    rw [hj] at h1
    simp only [Bool.and_eq_true, List.all_eq_true] at h1
    refine ⟨fun e he hb => ?_, fun i oi hij hi hc => ?_⟩
    · have := h1.1 e he
      rw [hb] at this
      simpa [Nat.blt_eq] using this
    · have := h1.2 i (by simpa using hij)
      rw [hi] at this
      simpa [hc] using this
  have hsound : ∀ (D : Nat → Prop), Closed l D → ∀ j i, ((masks l []).getD j 0).testBit i = true → D j → D i := fun D hD => masks_sound hD l [] (fun j o h => by simpa using h) (fun j i h => by simp at h)
  have hnone : ∀ (L : Array Bool), L.size = l.length → Region.ready .any l.toArray L = [] → ∀ j, j < l.length → L.getD j false = true := by
    intro L hL hr j
    induction j using Nat.strongRecOn with
    | _ j ih =>
      intro hj
      cases hc : L.getD j false with
      | true => rfl
      | false =>
        exfalso
        obtain ⟨o, ho⟩ : ∃ o, l[j]? = some o := ⟨_, List.getElem?_eq_getElem hj⟩
        have hm : j ∈ Region.ready .any l.toArray L := by
          refine mem_ready.2 ⟨?_, o, by simpa using ho, fun e he hb => ?_⟩
          · have hlt : j < L.size := by omega
            simp [Array.getD_eq_getD_getElem?, hlt] at hc ⊢
            exact hc
          · have hon := (hq' j o ho).1 e (by simpa using he) hb
            exact ih e.on hon (by omega)
        rw [hr] at hm
        cases hm
  -- states without an effect between them are the same
  have hsame : ∀ (k n : Nat), n + k ≤ l.length → (∀ j, n ≤ j → j < n + k → ks[j]? ≠ some 2) → (sts ++ [σ']).getD (n + k) [] = (sts ++ [σ']).getD n [] := by
    intro k n hnk h
    induction k with
    | zero => rfl
    | succ k ihk =>
      rw [← ihk (by omega) (fun j h1 h2 => h j h1 (by omega))]
      obtain ⟨d, x, _, _, _, hc⟩ := hat (n + k) _ (List.getElem?_eq_getElem (by omega))
      have h2 := h (n + k) (by omega) (by omega)
      rcases hc with ⟨g1, g2, _⟩ | ⟨g1, g2, _⟩ | ⟨g1, _⟩
      · exact g2
      · exact g2
      · exact absurd g1 h2
  have hbetween : ∀ (m n : Nat), m ≤ l.length → n ≤ l.length → (∀ j, ks[j]? = some 2 → (j < m ↔ j < n)) → (sts ++ [σ']).getD m [] = (sts ++ [σ']).getD n [] := by
    intro m n hm hn h
    rcases Nat.le_total m n with h1 | h1
    · obtain ⟨k, rfl⟩ := Nat.exists_eq_add_of_le h1
      exact (hsame k m hn (fun j h2 h3 h4 => by have := h j h4; omega)).symm
    · obtain ⟨k, rfl⟩ := Nat.exists_eq_add_of_le h1
      exact hsame k n hm (fun j h2 h3 h4 => by have := h j h4; omega)
  -- when all have come up
  have hend : ∀ (L : Array Bool) (G : Cx) (a : Act) (m : Nat), G0.Step G → L.size = l.length → Region.ready .any l.toArray L = [] → m ≤ l.length → (∀ j, ks[j]? = some 2 → (L.getD j false = true ↔ j < m)) → S8 N G a (fr (fun j => L.getD j false) 0 out F) ((sts ++ [σ']).getD m []) → lift N G0 Q .normal a G.w := by
    intro L G a m hst hL hr hml hm h8
    have e1 : (sts ++ [σ']).getD m [] = σ' := by
      rw [hbetween m l.length hml (Nat.le_refl _) (fun j hj => by
        have hjl : j < l.length := by rw [← hkl]; exact (List.getElem?_eq_some_iff.1 hj).1
        have := (hm j hj).1 (hnone L hL hr j hjl)
        exact ⟨fun _ => hjl, fun _ => this⟩)]
      simp [List.getD, ← hsl]
    rw [e1] at h8
    refine ⟨G, F', σ', rfl, hst, ⟨h8.rel, fun t => ?_, h8.df, h8.nt⟩, hQ⟩
    have h1 := h8.fr t
    have h2 : (fr (fun j => L.getD j false) 0 out F).get t = (fr (fun j => decide (j < 0 + out.length)) 0 out F).get t := fr_congr out 0 F F rfl (fun j p hp _ => by
      have hj : j < out.length := (List.getElem?_eq_some_iff.1 hp).1
      simp only [Nat.zero_add]
      rw [hnone L hL hr j (by omega)]
      simp [hj])
    rw [h2, fr_pre, List.take_length, ← hF'] at h1
    exact h1
  intro fuel
  induction fuel with
  | zero =>
    intro L G a m hst hL hlf hcl hml hm h8
    have hr : Region.ready .any l.toArray L = [] := by
      rw [List.eq_nil_iff_forall_not_mem]
      intro i hi
      obtain ⟨h1, o, ho, _⟩ := mem_ready.1 hi
      have hlt : i < L.size := by rw [hL]; simpa using (Array.getElem?_eq_some_iff.1 ho).1
      have : 0 < left L.toList := left_pos i (by simp [Array.getD_eq_getD_getElem?, hlt] at h1 ⊢; exact h1)
      omega
    exact ⟨hr, hend L G a m hst hL hr hml hm h8⟩
  | succ fuel ih =>
    intro L G a m hst hL hlf hcl hml hm h8
    refine ⟨fun hr => hend L G a m hst hL hr hml hm h8, fun i hi => ?_⟩
    obtain ⟨h1, o, ho, hall⟩ := mem_ready.1 hi
    have hli : l[i]? = some o := by simpa using ho
    have hlt : i < L.size := by rw [hL]; exact (List.getElem?_eq_some_iff.1 hli).1
    have hfalse : L.getD i false = false := by simp [Array.getD_eq_getD_getElem?, hlt] at h1 ⊢; exact h1
    obtain ⟨d, x, g1, g2, g3, g4⟩ := hat i o hli
    -- the others that touch its slots: those before it have come up, those behind it have not
    have hcl' : Closed l (fun j => j = i ∨ L.getD j false = true) := by
      intro j oj hj hD e he hb
      rcases hD with rfl | hD
      · rw [hli] at hj; cases hj
        exact .inr (hall e (by simpa using he) hb)
      · exact .inr (hcl j oj hj hD e he hb)
    have hord : ∀ j oj, l[j]? = some oj → j ≠ i → (j < i → clash l.toArray oj o = true → L.getD j false = true) ∧ (i < j → clash l.toArray o oj = true → L.getD j false = false) := by
      intro j oj hj hne
      refine ⟨fun hji hc => ?_, fun hij hc => ?_⟩
      · rcases hsound _ hcl' i j ((hq' i o hli).2 j oj hji hj hc) (.inl rfl) with h | h
        · exact absurd h hne
        · exact h
      · cases hx : L.getD j false with
        | false => rfl
        | true =>
          have := hsound _ hcl j i ((hq' j oj hj).2 i o hij hli hc) hx
          rw [hfalse] at this
          cases this
    have hsel : ∀ t, t ∈ o.looksAt l.toArray → Frm.get ((out.take i).reverse ++ F) t = (fr (fun j => L.getD j false) 0 out F).get t := by
      intro t ht
      rw [← fr_pre out 0 i F]
      refine (fr_congr out 0 F F rfl (fun j p hp hpt => ?_)).symm
      simp only [Nat.zero_add]
      have hj : j < l.length := by rw [hlen]; exact (List.getElem?_eq_some_iff.1 hp).1
      obtain ⟨d', x', k1, k2, _⟩ := hat j _ (List.getElem?_eq_getElem hj)
      rw [k1] at hp
      cases hp
      dsimp only at hpt
      subst hpt
      by_cases hji : j = i
      · subst hji; rw [hfalse]; simp
      · rcases Nat.lt_or_gt_of_ne hji with h | h
        · rw [(hord j _ (List.getElem?_eq_getElem hj) hji).1 h (clash_of.1 k2 ht)]; simp [h]
        · rw [(hord j _ (List.getElem?_eq_getElem hj) hji).2 h (clash_of.2.2 k2 ht)]; simp; omega
    -- what is known behind it
    have hnext : ∀ (m' : Nat), m' ≤ l.length → (∀ j, ks[j]? = some 2 → ((L.setIfInBounds i true).getD j false = true ↔ j < m')) → ∀ (G' : Cx) (v : Value), G.Ext G' → Rel G' ((sts ++ [σ']).getD m' []) → Rep G' v x → wpAny P .any l.toArray (lift N G0 Q) fuel (L.setIfInBounds i true) (a.put (some d) v) G'.w := by
      intro m' hm'l hm' G' v he hr' hv
      refine ih _ G' _ m' (hst.trans he.step) (by simpa using hL) ?_ ?_ hm'l hm' ⟨hr', fun t => ?_, h8.df, by simp [Act.put, h8.nt]⟩
      · have := left_set L.toList i (by simp [Array.getD_eq_getD_getElem?, hlt] at hfalse ⊢; exact hfalse)
        rw [Array.toList_setIfInBounds]; omega
      · intro j oj hj hD e he2 hb
        have key : ∀ k, (L.setIfInBounds i true).getD k false = true ↔ (k = i ∨ L.getD k false = true) := fun k => by
          by_cases hk : i = k
          · subst hk; simp [Array.getD_eq_getD_getElem?, hlt]
          · simp [Array.getD_eq_getD_getElem?, Array.getElem?_setIfInBounds, hk, Ne.symm hk]
        rw [key] at hD ⊢
        exact hcl' j oj hj hD e he2 hb
      · have hselL : ∀ k, k ≠ i → (L.setIfInBounds i true).getD k false = L.getD k false := fun k hk => by
          simp [Array.getD_eq_getD_getElem?, Array.getElem?_setIfInBounds, Ne.symm hk]
        by_cases htd : t = d
        · subst htd
          have h2 : (fr (fun j => (L.setIfInBounds i true).getD j false) 0 out F).get t = x := fr_last out 0 F i g1 (by simp [Array.getD_eq_getD_getElem?, hlt]) (fun j p hp hij hc hpt => by
            simp only [Nat.zero_add] at hc
            rw [hselL j (by omega)] at hc
            have hj : j < l.length := by rw [hlen]; exact (List.getElem?_eq_some_iff.1 hp).1
            obtain ⟨d', x', k1, k2, _⟩ := hat j _ (List.getElem?_eq_getElem hj)
            rw [k1] at hp
            cases hp
            dsimp only at hpt
            subst hpt
            have := (hord j _ (List.getElem?_eq_getElem hj) (by omega)).2 hij (clash_of.2.1 g2 k2)
            rw [this] at hc
            cases hc)
          rw [h2]
          have : t < a.tmps.size := by rw [h8.nt]; exact g3
          simpa [Act.put, Array.getD_eq_getD_getElem?, this] using hv
        · have h2 : (fr (fun j => (L.setIfInBounds i true).getD j false) 0 out F).get t = (fr (fun j => L.getD j false) 0 out F).get t := fr_congr out 0 F F rfl (fun j p hp hpt => by
            simp only [Nat.zero_add]
            refine hselL j (fun e => ?_)
            subst e
            rw [g1] at hp
            cases hp
            exact htd hpt.symm)
          rw [h2]
          have := (h8.fr t).ext he
          simpa [Act.put, Array.getD_eq_getD_getElem?, Array.getElem?_setIfInBounds, Ne.symm htd] using this
    have hset : ∀ j, j ≠ i → ((L.setIfInBounds i true).getD j false = true ↔ L.getD j false = true) := fun j hj => by
      simp [Array.getD_eq_getD_getElem?, Array.getElem?_setIfInBounds, Ne.symm hj]
    have hseti : (L.setIfInBounds i true).getD i false = true := by simp [Array.getD_eq_getD_getElem?, hlt]
    have hil : i < l.length := (List.getElem?_eq_some_iff.1 hli).1
    have hkeep : ks[i]? ≠ some 2 → ∀ j, ks[j]? = some 2 → ((L.setIfInBounds i true).getD j false = true ↔ j < m) := fun hne j hj => by
      have : j ≠ i := fun e => hne (e ▸ hj)
      rw [hset j this]; exact hm j hj
    have heff : ∀ b, ks[i]? = some b → 1 ≤ b → ∀ j, ks[j]? = some 2 → (j < m ↔ j < i) := fun b hb h1b j hj => by
      have hjl : j < l.length := by rw [← hkl]; exact (List.getElem?_eq_some_iff.1 hj).1
      rw [← hm j hj]
      rcases Nat.lt_trichotomy j i with h | h | h
      · have h3 := hq2 j i 2 b h hil hj hb (by omega) h1b (.inl rfl)
        rcases hsound _ hcl' i j h3 (.inl rfl) with h4 | h4
        · omega
        · simp [h, h4]
      · subst h; rw [hfalse]; simp
      · have h3 := hq2 i j b 2 h hjl hb hj h1b (by omega) (.inr rfl)
        constructor
        · intro h4
          have := hsound _ hcl j i h3 h4
          rw [hfalse] at this; cases this
        · intro h4; omega
    unfold wpOp
    simp only [ho]
    rcases g4 with ⟨k0, ks0, ⟨k1, k2⟩ | ⟨k1, rfl⟩⟩ | ⟨k0, ks0, k1, k2⟩ | ⟨k0, k1, k2⟩
    · rw [if_pos ((k1.congr hsel).wanted h8.fr)]
      left
      refine ((k2 _).congr hsel) G a _ _ h8.rel (fun y _ => rep_eval h8.fr y) (fun v G' he hr' hv => ?_)
      rw [g2]
      exact hnext m hml (hkeep (by rw [k0]; simp)) G' v he hr' hv
    · rw [if_neg (by rw [(k1.congr hsel).wanted h8.fr]; simp)]
      rw [g2]
      exact hnext m hml (hkeep (by rw [k0]; simp)) G undef (.refl G) h8.rel (.s _)
    · rw [if_pos ((k1.congr hsel).wanted h8.fr)]
      left
      have e1 := hbetween m i hml (Nat.le_of_lt hil) (heff 1 k0 (by omega))
      have h8r := h8.rel
      rw [e1] at h8r
      refine (k2.congr hsel) G a _ _ h8r (fun y _ => rep_eval h8.fr y) (fun v G' he hr' hv => ?_)
      rw [g2]
      rw [← e1] at hr'
      exact hnext m hml (hkeep (by rw [k0]; simp)) G' v he hr' hv
    · rw [if_pos ((k1.congr hsel).wanted h8.fr)]
      left
      have hef := heff 2 k0 (by omega)
      have e1 := hbetween m i hml (Nat.le_of_lt hil) hef
      have h8r := h8.rel
      rw [e1] at h8r
      refine (k2.congr hsel) G a _ _ h8r (fun y _ => rep_eval h8.fr y) (fun v G' he hr' hv => ?_)
      rw [g2]
      refine hnext (i + 1) hil (fun j hj => ?_) G' v he hr' hv
      by_cases hji : j = i
      · subst hji; rw [hseti]; simp
      · rw [hset j hji, hm j hj, hef j hj]; omega


/-- a region with operations that change the store -/
def GX (P : Program) (N : Nat) (ops : Array Oper) (all : List Oper) (acc : List Nat) (l : List Oper) (F : Frm) (σ : List Ob) (K : Frm → List Ob → Prop) : Prop :=
  ∃ F' σ' out ks sts, GSteps P N ops l F σ F' σ' out ks sts ∧ gOk all (acc.reverse ++ ks) = true ∧ K F' σ'
variable {ops : Array Oper} {all : List Oper} {acc : List Nat} {K : Frm → List Ob → Prop}
theorem gx_nil (hk : gOk all acc.reverse = true) (h : K F σ) : GX P N ops all acc [] F σ K := ⟨F, σ, [], [], [], .nil F σ, by simpa using hk, h⟩
theorem gx_free {o : Oper} {d : Nat} {x : AV} (hd : o.dst = some d) (hN : Nat.blt d N = true) (hr : Runs ops F o true) (hD : ∀ σ, Does P o F σ x σ) (h : GX P N ops all (0 :: acc) l ((d, x) :: F) σ K) : GX P N ops all acc (o :: l) F σ K := by
  obtain ⟨F', σ', out, ks, sts, h1, h2, h3⟩ := h
  exact ⟨F', σ', _, _, _, .free o l F F' σ σ' x out ks sts d hd hN hr hD h1, by simpa using h2, h3⟩
theorem gx_look {o : Oper} {d : Nat} {x : AV} (hd : o.dst = some d) (hN : Nat.blt d N = true) (hr : Runs ops F o true) (hD : Does P o F σ x σ) (h : GX P N ops all (1 :: acc) l ((d, x) :: F) σ K) : GX P N ops all acc (o :: l) F σ K := by
  obtain ⟨F', σ', out, ks, sts, h1, h2, h3⟩ := h
  exact ⟨F', σ', _, _, _, .look o l F F' σ σ' x out ks sts d hd hN hr hD h1, by simpa using h2, h3⟩
theorem gx_eff {o : Oper} {d : Nat} {x : AV} {σ1 : List Ob} (hd : o.dst = some d) (hN : Nat.blt d N = true) (hr : Runs ops F o true) (hD : Does P o F σ x σ1) (h : GX P N ops all (2 :: acc) l ((d, x) :: F) σ1 K) : GX P N ops all acc (o :: l) F σ K := by
  obtain ⟨F', σ', out, ks, sts, h1, h2, h3⟩ := h
  exact ⟨F', σ', _, _, _, .eff o l F F' σ σ1 σ' x out ks sts d hd hN hr hD h1, by simpa using h2, h3⟩
theorem adraw_gen (h : GX P N l.toArray l [] l F σ (fun F' σ' => Q .normal F' σ')) : ADraw P N l F σ Q := fun G a hs => by
  obtain ⟨F', σ', out, ks, sts, h1, h2, h4⟩ := h
  have hno : ∀ j, (Array.replicate l.length false).getD j false = false := fun j => by
    simp only [Array.getD_eq_getD_getElem?, Array.getElem?_replicate]
    split <;> rfl
  have h3 : ∀ (out : List (Nat × AV)) (k : Nat) (F : Frm), fr (fun j => (Array.replicate l.length false).getD j false) k out F = F := by
    intro out
    induction out with
    | nil => intro k F; rfl
    | cons p out ih =>
      intro k F
      have := hno k
      simp only [fr, this, cond_false]
      exact ih _ _
  refine gen_any (by simpa using h2) h1 h4 G l.length _ G a 0 (.refl G) (by simp) (by simp [left_rep]) ?_ (Nat.zero_le _) ?_ ?_
  · intro j o hj hD
    rw [hno] at hD
    cases hD
  · intro j hj
    rw [hno]; simp
  · rw [h3, (gsteps_at h1).2.2.2.2.1]; exact hs
end
end Go.Proofs.Ytmhbfoaecebobaa.Aw
end
section
namespace Go.Proofs.Ytmhbfoaecebobaa.Aw
set_option linter.unusedSimpArgs false
set_option linter.unusedVariables false
open Go.RowKit Go.Proofs
variable {P : Program} [IsP P]

def revT (t : Tr) : Tr := ⟨t.label, t.out, t.inn⟩
def revN (n : Net) : Net := ⟨n.places, n.trans.map revT, n.sink, n.source⟩
abbrev zN : AV := .agg [.s (.int .i64 0), .s (.slice none 0 0), .s (.int .i64 0), .s (.int .i64 0)]
set_option maxHeartbeats 4000000 in
theorem reverse_pf (n : Net) (hval : validB n = true) : Pure P 51 [eN n] (eN (revN n)) := by
  have hpl := validB_places hval
  refine aw_fn (by rw [IsP.eq (P := P)]; exact Try.func51) rfl rfl rfl rfl rfl (by repeat' (first | exact Lo.s _ | exact Lo.emp | exact Lo.any | exact lo_nil | exact lo_nilE | refine lo_cons ?_ ?_ | refine lo_consE ?_ ?_ | refine lo_map ?_ | refine lo_mapE ?_ | refine Lo.cells ?_ | refine Lo.agg _ ?_ | refine Lo.ref _ ?_ | refine Lo.tup _ ?_ | refine Lo.fn _ _ ?_ | refine Lo.sl _ ?_ | intro _)) (by repeat' (first | exact Lo.s _ | exact Lo.emp | exact Lo.any | exact lo_nil | exact lo_nilE | refine lo_cons ?_ ?_ | refine lo_consE ?_ ?_ | refine lo_map ?_ | refine lo_mapE ?_ | refine Lo.cells ?_ | refine Lo.agg _ ?_ | refine Lo.ref _ ?_ | refine Lo.tup _ ?_ | refine Lo.fn _ _ ?_ | refine Lo.sl _ ?_ | intro _)) (by simp only [argF]; rfl) ?_
  repeat (first | refine aw_seq ?_ | refine ath_n ?_ | refine aw_skip ?_ | refine abl_n ?_ | refine aw_block ?_)
  refine aw_region ?_
  refine ops_op rfl rfl (runs_none rfl) (does_box rfl rfl rfl rfl) ?_
  refine aops_weak (wk_froz (id := 0) rfl) (aops_weak (wk_ref (d := 1) rfl rfl rfl) ?_)
  refine ops_op rfl rfl (runs_none rfl) (does_alloc rfl ti24 rfl rfl) ?_
  refine ops_nil ?_
  repeat (first | refine aw_seq ?_ | refine ath_n ?_ | refine aw_skip ?_ | refine abl_n ?_ | refine aw_block ?_)
  refine aw_region ?_
  first | refine ops_op rfl rfl (runs_none rfl) (does_fieldAddr_ptr rfl tf24_0 (by decide) rfl) ?_ | refine ops_op rfl rfl (runs_none rfl) (does_fieldAddr_ref rfl tf24_0 (by decide) rfl) ?_
  first | refine ops_op rfl rfl (runs_none rfl) (does_load_ref rfl ta3 rfl) ?_ | refine ops_op rfl rfl (runs_none rfl) (does_load_ptr rfl ta3 rfl rfl rfl rfl rfl) ?_
  first | refine ops_op rfl rfl (runs_none rfl) (does_fieldAddr_ptr rfl tf24_3 (by decide) rfl) ?_ | refine ops_op rfl rfl (runs_none rfl) (does_fieldAddr_ref rfl tf24_3 (by decide) rfl) ?_
  first | refine ops_op rfl rfl (runs_none rfl) (does_load_ref rfl ta3 rfl) ?_ | refine ops_op rfl rfl (runs_none rfl) (does_load_ptr rfl ta3 rfl rfl rfl rfl rfl) ?_
  first | refine ops_op rfl rfl (runs_none rfl) (does_fieldAddr_ptr rfl tf24_2 (by decide) rfl) ?_ | refine ops_op rfl rfl (runs_none rfl) (does_fieldAddr_ref rfl tf24_2 (by decide) rfl) ?_
  first | refine ops_op rfl rfl (runs_none rfl) (does_load_ref rfl ta3 rfl) ?_ | refine ops_op rfl rfl (runs_none rfl) (does_load_ptr rfl ta3 rfl rfl rfl rfl rfl) ?_
  refine ops_op rfl rfl (runs_none rfl) (does_build rfl ti24 tp24 rfl rfl) ?_
  refine ops_op rfl rfl (runs_none rfl) (does_alloc rfl ti24 rfl rfl) ?_
  refine ops_eff rfl (runs_none rfl) (does_store rfl ti24 rfl rfl rfl rfl rfl rfl (by decide) (by decide)) ?_
  refine ops_nil ?_
  repeat (first | refine aw_seq ?_ | refine ath_n ?_ | refine aw_skip ?_ | refine abl_n ?_ | refine aw_block ?_)
  refine aw_region ?_
  refine ops_op rfl rfl (runs_none rfl) (mv_s (.inr rfl) rfl) ?_
  refine ops_nil ?_
  repeat (first | refine aw_seq ?_ | refine ath_n ?_ | refine aw_skip ?_ | refine abl_n ?_ | refine aw_block ?_)
  refine aw_weak (wk_ownC (id := 2) (sz2 := 3) (e' := .agg [eI n.places, .own 3 3 0, eI n.sink, eI n.source]) (pre := [eI n.places]) (post := [eI n.sink, eI n.source]) rfl rfl rfl) ?_
  refine aw_loops (S := Nat) (fun k => [(1, .ref (eN n).cells), (2, .ptr 0 4 0 0), (3, .ptr 1 4 0 0), (4, eI k)]) (fun k => [.row 4 [zN], .row 4 [.agg [eI n.places, .own 2 3 k, eI n.sink, eI n.source]], .row 3 ((List.range k).map fun i => eT (revT (gti n.trans i)))]) (fun k => k ≤ n.trans.length) (fun k => n.trans.length - k) 0
    (wk_st [1, 2, 3] (by decide) ⟨⟨_, rfl, .rowE (by repeat' (first | exact Lo.s _ | exact Lo.emp | exact Lo.any | exact lo_nil | exact lo_nilE | refine lo_cons ?_ ?_ | refine lo_consE ?_ ?_ | refine lo_map ?_ | refine lo_mapE ?_ | refine Lo.cells ?_ | refine Lo.agg _ ?_ | refine Lo.ref _ ?_ | refine Lo.tup _ ?_ | refine Lo.fn _ _ ?_ | refine Lo.sl _ ?_ | intro _)) rfl⟩, ⟨_, rfl, obRn_agg (.cons (.lo _ (.s _)) (.cons (.own _ _ _ _ _ rfl rfl) (.cons (.lo _ (.s _)) (.cons (.lo _ (.s _)) .nil))))⟩, ⟨_, rfl, .rowE (by repeat' (first | exact Lo.s _ | exact Lo.emp | exact Lo.any | exact lo_nil | exact lo_nilE | refine lo_cons ?_ ?_ | refine lo_consE ?_ ?_ | refine lo_map ?_ | refine lo_mapE ?_ | refine Lo.cells ?_ | refine Lo.agg _ ?_ | refine Lo.ref _ ?_ | refine Lo.tup _ ?_ | refine Lo.fn _ _ ?_ | refine Lo.sl _ ?_ | intro _)) rfl⟩, trivial⟩ ⟨.lo _ (by repeat' (first | exact Lo.s _ | exact Lo.emp | exact Lo.any | exact lo_nil | exact lo_nilE | refine lo_cons ?_ ?_ | refine lo_consE ?_ ?_ | refine lo_map ?_ | refine lo_mapE ?_ | refine Lo.cells ?_ | refine Lo.agg _ ?_ | refine Lo.ref _ ?_ | refine Lo.tup _ ?_ | refine Lo.fn _ _ ?_ | refine Lo.sl _ ?_ | intro _)), .ptr 1 0 4 0 0 rfl, .ptr 2 1 4 0 0 rfl, .lo _ (by repeat' (first | exact Lo.s _ | exact Lo.emp | exact Lo.any | exact lo_nil | exact lo_nilE | refine lo_cons ?_ ?_ | refine lo_consE ?_ ?_ | refine lo_map ?_ | refine lo_mapE ?_ | refine Lo.cells ?_ | refine Lo.agg _ ?_ | refine Lo.ref _ ?_ | refine Lo.tup _ ?_ | refine Lo.fn _ _ ?_ | refine Lo.sl _ ?_ | intro _)), trivial⟩) (Nat.zero_le _) (fun k hk => ?_)
  repeat (first | refine aw_seq ?_ | refine ath_n ?_ | refine aw_skip ?_ | refine abl_n ?_ | refine aw_block ?_)
  refine aw_region ?_
  refine ops_op rfl rfl (runs_none rfl) (mv_s (.inl rfl) rfl) ?_
  first | refine ops_op rfl rfl (runs_none rfl) (does_fieldAddr_ptr rfl tf24_1 (by decide) rfl) ?_ | refine ops_op rfl rfl (runs_none rfl) (does_fieldAddr_ref rfl tf24_1 (by decide) rfl) ?_
  first | refine ops_op rfl rfl (runs_none rfl) (does_load_ref rfl ta22 rfl) ?_ | refine ops_op rfl rfl (runs_none rfl) (does_load_ptr rfl ta22 rfl rfl rfl rfl rfl) ?_
  first | refine ops_op rfl rfl (runs_none rfl) (does_len_map rfl ts22 rfl) ?_ | refine ops_op rfl rfl (runs_none rfl) (does_len_sl rfl ts22 rfl) ?_ | refine ops_op rfl rfl (runs_none rfl) (does_len_own rfl ts22 rfl) ?_ | refine ops_op rfl rfl (runs_none rfl) (does_len_s rfl ts22 rfl) ?_ | refine ops_op rfl rfl (runs_none rfl) (does_len_emp rfl ts22 rfl) ?_
  refine ops_op rfl rfl (runs_none rfl) (does_lss rfl rfl rfl) ?_
  refine ops_nil ?_
  repeat (first | refine aw_seq ?_ | refine ath_n ?_ | refine aw_skip ?_ | refine abl_n ?_ | refine aw_block ?_)
  refine aw_if rfl (fun h => ?_) (fun h => ?_)
  · have hlt : k < n.trans.length := by omega
    obtain ⟨_, _, hil, hol⟩ := trans_in hval hlt
    repeat (first | refine aw_seq ?_ | refine ath_n ?_ | refine aw_skip ?_ | refine abl_n ?_ | refine aw_block ?_)
    refine aw_region ?_
    first | refine ops_op rfl rfl (runs_none rfl) (does_fieldAddr_ptr rfl tf24_1 (by decide) rfl) ?_ | refine ops_op rfl rfl (runs_none rfl) (does_fieldAddr_ref rfl tf24_1 (by decide) rfl) ?_
    first | refine ops_op rfl rfl (runs_none rfl) (does_load_ref rfl ta22 rfl) ?_ | refine ops_op rfl rfl (runs_none rfl) (does_load_ptr rfl ta22 rfl rfl rfl rfl rfl) ?_
    refine ops_op rfl rfl (runs_none rfl) (mv_s (.inl rfl) rfl) ?_
    first | refine ops_op rfl rfl (runs_none rfl) (does_index_sl rfl ts22 ti46 rfl rfl rfl (ix_map hlt) rfl) ?_ | refine ops_op rfl rfl (runs_none rfl) (does_index_own rfl ts22 ti46 rfl rfl rfl (ix_map hlt)) ?_
    first | refine ops_op rfl rfl (runs_none rfl) (does_load_refw rfl ta46 ti46 rfl rfl) ?_ | refine ops_op rfl rfl (runs_none rfl) (does_load_whole rfl ta46 ti46 rfl rfl rfl rfl rfl) ?_ | refine ops_op rfl rfl (runs_none rfl) (does_load_refs rfl ta46 ti46 rfl (Nat.le_of_ble_eq_true rfl)) ?_ | refine ops_op rfl rfl (runs_none rfl) (does_load_ptrs rfl ta46 ti46 rfl rfl rfl rfl (Nat.le_of_ble_eq_true rfl)) ?_
    refine ops_op rfl rfl (runs_none rfl) (does_alloc rfl ti46 rfl rfl) ?_
    refine ops_eff rfl (runs_none rfl) (does_store rfl ti46 rfl rfl rfl rfl rfl rfl (by decide) (by decide)) ?_
    refine ops_nil ?_
    repeat (first | refine aw_seq ?_ | refine ath_n ?_ | refine aw_skip ?_ | refine abl_n ?_ | refine aw_block ?_)
    refine aw_draw hmix ?_
    refine adraw_lastT rfl (by kernel_rfl) ?_
    refine adraw_gen ?_
    simp only [List.dropLast]
    first | refine gx_free rfl rfl (runs_none rfl) (fun _ => (does_fieldAddr_ptr rfl tf24_1 (by decide) rfl)) ?_ | refine gx_free rfl rfl (runs_none rfl) (fun _ => (does_fieldAddr_ref rfl tf24_1 (by decide) rfl)) ?_
    first | refine gx_free rfl rfl (runs_none rfl) (fun _ => (does_load_ref rfl ta22 rfl)) ?_ | refine gx_look rfl rfl (runs_none rfl) (does_load_ptr rfl ta22 rfl rfl rfl rfl rfl) ?_
    first | refine gx_free rfl rfl (runs_none rfl) (fun _ => (does_fieldAddr_ptr rfl tf46_0 (by decide) rfl)) ?_ | refine gx_free rfl rfl (runs_none rfl) (fun _ => (does_fieldAddr_ref rfl tf46_0 (by decide) rfl)) ?_
    first | refine gx_free rfl rfl (runs_none rfl) (fun _ => (does_load_ref rfl ta9 rfl)) ?_ | refine gx_look rfl rfl (runs_none rfl) (does_load_ptr rfl ta9 rfl rfl rfl rfl rfl) ?_
    refine gx_free rfl rfl (runs_none rfl) (fun _ => (does_lit0 rfl rfl ts30 ti3)) ?_
    first | refine gx_free rfl rfl (runs_none rfl) (fun _ => (does_fieldAddr_ptr rfl tf46_2 (by decide) rfl)) ?_ | refine gx_free rfl rfl (runs_none rfl) (fun _ => (does_fieldAddr_ref rfl tf46_2 (by decide) rfl)) ?_
    first | refine gx_free rfl rfl (runs_none rfl) (fun _ => (does_load_ref rfl ta30 rfl)) ?_ | refine gx_look rfl rfl (runs_none rfl) (does_load_ptr rfl ta30 rfl rfl rfl rfl rfl) ?_
    first | refine gx_free rfl rfl (runs_none rfl) (fun _ => (does_append0F rfl ts30 ti3 rfl (by decide) rfl (.inl rfl) rfl (by first | exact .own _ _ _ rfl rfl _ (by first | rfl | simp) | exact .emp | exact .nil | exact .sl _ (by first | simp; done | intro e he; simp at he; obtain ⟨_, _, rfl⟩ := he; rfl)) (by first | omega | (simp; omega) | (unfold maxLen; simp; omega)) (by first | omega | (simp; omega) | (unfold maxLen; simp; omega)) (by repeat' (first | exact Lo.s _ | exact Lo.emp | exact Lo.any | exact lo_nil | exact lo_nilE | refine lo_cons ?_ ?_ | refine lo_consE ?_ ?_ | refine lo_map ?_ | refine lo_mapE ?_ | refine Lo.cells ?_ | refine Lo.agg _ ?_ | refine Lo.ref _ ?_ | refine Lo.tup _ ?_ | refine Lo.fn _ _ ?_ | refine Lo.sl _ ?_ | intro _)) (by repeat' (first | exact Lo.s _ | exact Lo.emp | exact Lo.any | exact lo_nil | exact lo_nilE | refine lo_cons ?_ ?_ | refine lo_consE ?_ ?_ | refine lo_map ?_ | refine lo_mapE ?_ | refine Lo.cells ?_ | refine Lo.agg _ ?_ | refine Lo.ref _ ?_ | refine Lo.tup _ ?_ | refine Lo.fn _ _ ?_ | refine Lo.sl _ ?_ | intro _)))) ?_ | refine gx_free rfl rfl (runs_none rfl) (fun _ => (does_append0F rfl ts30 ti3 rfl (by decide) rfl (.inr rfl) rfl (by first | exact .own _ _ _ rfl rfl _ (by first | rfl | simp) | exact .emp | exact .nil | exact .sl _ (by first | simp; done | intro e he; simp at he; obtain ⟨_, _, rfl⟩ := he; rfl)) (by first | omega | (simp; omega) | (unfold maxLen; simp; omega)) (by first | omega | (simp; omega) | (unfold maxLen; simp; omega)) (by repeat' (first | exact Lo.s _ | exact Lo.emp | exact Lo.any | exact lo_nil | exact lo_nilE | refine lo_cons ?_ ?_ | refine lo_consE ?_ ?_ | refine lo_map ?_ | refine lo_mapE ?_ | refine Lo.cells ?_ | refine Lo.agg _ ?_ | refine Lo.ref _ ?_ | refine Lo.tup _ ?_ | refine Lo.fn _ _ ?_ | refine Lo.sl _ ?_ | intro _)) (by repeat' (first | exact Lo.s _ | exact Lo.emp | exact Lo.any | exact lo_nil | exact lo_nilE | refine lo_cons ?_ ?_ | refine lo_consE ?_ ?_ | refine lo_map ?_ | refine lo_mapE ?_ | refine Lo.cells ?_ | refine Lo.agg _ ?_ | refine Lo.ref _ ?_ | refine Lo.tup _ ?_ | refine Lo.fn _ _ ?_ | refine Lo.sl _ ?_ | intro _)))) ?_
    refine gx_free rfl rfl (runs_none rfl) (fun _ => (does_lit0 rfl rfl ts30 ti3)) ?_
    first | refine gx_free rfl rfl (runs_none rfl) (fun _ => (does_fieldAddr_ptr rfl tf46_1 (by decide) rfl)) ?_ | refine gx_free rfl rfl (runs_none rfl) (fun _ => (does_fieldAddr_ref rfl tf46_1 (by decide) rfl)) ?_
    first | refine gx_free rfl rfl (runs_none rfl) (fun _ => (does_load_ref rfl ta30 rfl)) ?_ | refine gx_look rfl rfl (runs_none rfl) (does_load_ptr rfl ta30 rfl rfl rfl rfl rfl) ?_
    first | refine gx_free rfl rfl (runs_none rfl) (fun _ => (does_append0F rfl ts30 ti3 rfl (by decide) rfl (.inl rfl) rfl (by first | exact .own _ _ _ rfl rfl _ (by first | rfl | simp) | exact .emp | exact .nil | exact .sl _ (by first | simp; done | intro e he; simp at he; obtain ⟨_, _, rfl⟩ := he; rfl)) (by first | omega | (simp; omega) | (unfold maxLen; simp; omega)) (by first | omega | (simp; omega) | (unfold maxLen; simp; omega)) (by repeat' (first | exact Lo.s _ | exact Lo.emp | exact Lo.any | exact lo_nil | exact lo_nilE | refine lo_cons ?_ ?_ | refine lo_consE ?_ ?_ | refine lo_map ?_ | refine lo_mapE ?_ | refine Lo.cells ?_ | refine Lo.agg _ ?_ | refine Lo.ref _ ?_ | refine Lo.tup _ ?_ | refine Lo.fn _ _ ?_ | refine Lo.sl _ ?_ | intro _)) (by repeat' (first | exact Lo.s _ | exact Lo.emp | exact Lo.any | exact lo_nil | exact lo_nilE | refine lo_cons ?_ ?_ | refine lo_consE ?_ ?_ | refine lo_map ?_ | refine lo_mapE ?_ | refine Lo.cells ?_ | refine Lo.agg _ ?_ | refine Lo.ref _ ?_ | refine Lo.tup _ ?_ | refine Lo.fn _ _ ?_ | refine Lo.sl _ ?_ | intro _)))) ?_ | refine gx_free rfl rfl (runs_none rfl) (fun _ => (does_append0F rfl ts30 ti3 rfl (by decide) rfl (.inr rfl) rfl (by first | exact .own _ _ _ rfl rfl _ (by first | rfl | simp) | exact .emp | exact .nil | exact .sl _ (by first | simp; done | intro e he; simp at he; obtain ⟨_, _, rfl⟩ := he; rfl)) (by first | omega | (simp; omega) | (unfold maxLen; simp; omega)) (by first | omega | (simp; omega) | (unfold maxLen; simp; omega)) (by repeat' (first | exact Lo.s _ | exact Lo.emp | exact Lo.any | exact lo_nil | exact lo_nilE | refine lo_cons ?_ ?_ | refine lo_consE ?_ ?_ | refine lo_map ?_ | refine lo_mapE ?_ | refine Lo.cells ?_ | refine Lo.agg _ ?_ | refine Lo.ref _ ?_ | refine Lo.tup _ ?_ | refine Lo.fn _ _ ?_ | refine Lo.sl _ ?_ | intro _)) (by repeat' (first | exact Lo.s _ | exact Lo.emp | exact Lo.any | exact lo_nil | exact lo_nilE | refine lo_cons ?_ ?_ | refine lo_consE ?_ ?_ | refine lo_map ?_ | refine lo_mapE ?_ | refine Lo.cells ?_ | refine Lo.agg _ ?_ | refine Lo.ref _ ?_ | refine Lo.tup _ ?_ | refine Lo.fn _ _ ?_ | refine Lo.sl _ ?_ | intro _)))) ?_
    refine gx_free rfl rfl (runs_none rfl) (fun _ => (does_build rfl ti46 tp46 rfl rfl)) ?_
    first | refine gx_free rfl rfl (runs_none rfl) (fun _ => (lit1_sF rfl ts22 ti46 rfl rfl rfl rfl)) ?_ | refine gx_free rfl rfl (runs_none rfl) (fun _ => (lit1_slF rfl ts22 ti46 rfl rfl rfl rfl (by repeat' (first | exact Lo.s _ | exact Lo.emp | exact Lo.any | exact lo_nil | exact lo_nilE | refine lo_cons ?_ ?_ | refine lo_consE ?_ ?_ | refine lo_map ?_ | refine lo_mapE ?_ | refine Lo.cells ?_ | refine Lo.agg _ ?_ | refine Lo.ref _ ?_ | refine Lo.tup _ ?_ | refine Lo.fn _ _ ?_ | refine Lo.sl _ ?_ | intro _)))) ?_ | refine gx_free rfl rfl (runs_none rfl) (fun _ => (does_litAF rfl ts22 ti46 rfl rfl (by decide) (by decide) rfl rfl rfl (by repeat' (first | exact Lo.s _ | exact Lo.emp | exact Lo.any | exact lo_nil | exact lo_nilE | refine lo_cons ?_ ?_ | refine lo_consE ?_ ?_ | refine lo_map ?_ | refine lo_mapE ?_ | refine Lo.cells ?_ | refine Lo.agg _ ?_ | refine Lo.ref _ ?_ | refine Lo.tup _ ?_ | refine Lo.fn _ _ ?_ | refine Lo.sl _ ?_ | intro _)))) ?_
    first | refine gx_eff rfl rfl (runs_none rfl) (does_append rfl ts22 ti46 rfl (by decide) rfl rfl (by first | rfl | simp) rfl (by first | exact .own _ _ _ rfl rfl _ (by first | rfl | simp) | exact .emp | exact .nil | exact .sl _ (by first | simp; done | intro e he; simp at he; obtain ⟨_, _, rfl⟩ := he; rfl)) (by first | omega | (simp; omega) | (unfold maxLen; simp; omega)) (by first | omega | (simp; omega) | (unfold maxLen; simp; omega))) ?_ | refine gx_eff rfl rfl (runs_none rfl) (does_append0 rfl ts22 ti46 rfl (by decide) rfl (.inl rfl) rfl (by first | exact .own _ _ _ rfl rfl _ (by first | rfl | simp) | exact .emp | exact .nil | exact .sl _ (by first | simp; done | intro e he; simp at he; obtain ⟨_, _, rfl⟩ := he; rfl)) (by first | omega | (simp; omega) | (unfold maxLen; simp; omega)) (by first | omega | (simp; omega) | (unfold maxLen; simp; omega))) ?_ | refine gx_eff rfl rfl (runs_none rfl) (does_append0 rfl ts22 ti46 rfl (by decide) rfl (.inr rfl) rfl (by first | exact .own _ _ _ rfl rfl _ (by first | rfl | simp) | exact .emp | exact .nil | exact .sl _ (by first | simp; done | intro e he; simp at he; obtain ⟨_, _, rfl⟩ := he; rfl)) (by first | omega | (simp; omega) | (unfold maxLen; simp; omega)) (by first | omega | (simp; omega) | (unfold maxLen; simp; omega))) ?_
    first | refine gx_free rfl rfl (runs_none rfl) (fun _ => (does_fieldAddr_ptr rfl tf24_1 (by decide) rfl)) ?_ | refine gx_free rfl rfl (runs_none rfl) (fun _ => (does_fieldAddr_ref rfl tf24_1 (by decide) rfl)) ?_
    refine gx_nil (by kernel_rfl) ?_
    refine ath_n ?_
    refine ops_eff rfl (runs_none rfl) (does_store rfl ti22 rfl rfl rfl rfl rfl rfl (by decide) (by decide)) ?_
    refine ops_nil ?_
    repeat (first | refine aw_seq ?_ | refine ath_n ?_ | refine aw_skip ?_ | refine abl_n ?_ | refine aw_block ?_)
    refine aw_region ?_
    refine ops_op rfl rfl (runs_none rfl) (mv_s (.inl rfl) rfl) ?_
    refine ops_op rfl rfl (runs_none rfl) (does_add rfl rfl rfl (IntWalk.i64_in _ (by omega))) ?_
    refine ops_op rfl rfl (runs_none rfl) (mv_s (.inr rfl) rfl) ?_
    refine ops_nil ?_
    repeat (first | refine aw_seq ?_ | refine ath_n ?_ | refine aw_skip ?_ | refine abl_n ?_ | refine aw_block ?_)
    refine ⟨k + 1, by omega, by omega, ?_⟩
    exact wk_st [0, 1, 4] (by decide) ⟨⟨_, rfl, .rowE (by repeat' (first | exact Lo.s _ | exact Lo.emp | exact Lo.any | exact lo_nil | exact lo_nilE | refine lo_cons ?_ ?_ | refine lo_consE ?_ ?_ | refine lo_map ?_ | refine lo_mapE ?_ | refine Lo.cells ?_ | refine Lo.agg _ ?_ | refine Lo.ref _ ?_ | refine Lo.tup _ ?_ | refine Lo.fn _ _ ?_ | refine Lo.sl _ ?_ | intro _)) rfl⟩, ⟨_, rfl, obRn_agg (.cons (.lo _ (.s _)) (.cons (.own _ _ _ _ _ rfl (by simp)) (.cons (.lo _ (.s _)) (.cons (.lo _ (.s _)) .nil))))⟩, ⟨_, rfl, .rowE (by repeat' (first | exact Lo.s _ | exact Lo.emp | exact Lo.any | exact lo_nil | exact lo_nilE | refine lo_cons ?_ ?_ | refine lo_consE ?_ ?_ | refine lo_map ?_ | refine lo_mapE ?_ | refine Lo.cells ?_ | refine Lo.agg _ ?_ | refine Lo.ref _ ?_ | refine Lo.tup _ ?_ | refine Lo.fn _ _ ?_ | refine Lo.sl _ ?_ | intro _)) (by rw [List.range_succ, List.map_append]; rfl)⟩, trivial⟩ ⟨.lo _ (by repeat' (first | exact Lo.s _ | exact Lo.emp | exact Lo.any | exact lo_nil | exact lo_nilE | refine lo_cons ?_ ?_ | refine lo_consE ?_ ?_ | refine lo_map ?_ | refine lo_mapE ?_ | refine Lo.cells ?_ | refine Lo.agg _ ?_ | refine Lo.ref _ ?_ | refine Lo.tup _ ?_ | refine Lo.fn _ _ ?_ | refine Lo.sl _ ?_ | intro _)), .ptr 0 0 4 0 0 rfl, .ptr 1 1 4 0 0 rfl, .lo _ (by repeat' (first | exact Lo.s _ | exact Lo.emp | exact Lo.any | exact lo_nil | exact lo_nilE | refine lo_cons ?_ ?_ | refine lo_consE ?_ ?_ | refine lo_map ?_ | refine lo_mapE ?_ | refine Lo.cells ?_ | refine Lo.agg _ ?_ | refine Lo.ref _ ?_ | refine Lo.tup _ ?_ | refine Lo.fn _ _ ?_ | refine Lo.sl _ ?_ | intro _)), trivial⟩
  · have hkk : k = n.trans.length := by omega
    subst hkk
    have hE : ((List.range n.trans.length).map fun i => eT (revT (gti n.trans i))) = (n.trans.map revT).map eT := by
      apply List.ext_getElem
      · simp
      · intro i h1 h2
        simp at h1
        simp only [List.getElem_map, List.getElem_range]
        congr 2
        unfold gti
        rw [List.getElem?_eq_getElem h1]; rfl
    (refine aw_exit ?_; repeat (first | refine ath_x ?_ | refine abl_hit ?_ | refine abl_miss rfl ?_ | refine abl_n ?_ | refine ath_n ?_ | refine aw_seq ?_ | refine aw_skip ?_ | refine aw_block ?_))
    refine aw_region ?_
    first | refine ops_op rfl rfl (runs_none rfl) (does_load_refw rfl ta24 ti24 rfl rfl) ?_ | refine ops_op rfl rfl (runs_none rfl) (does_load_whole rfl ta24 ti24 rfl rfl rfl rfl rfl) ?_ | refine ops_op rfl rfl (runs_none rfl) (does_load_refs rfl ta24 ti24 rfl (Nat.le_of_ble_eq_true rfl)) ?_ | refine ops_op rfl rfl (runs_none rfl) (does_load_ptrs rfl ta24 ti24 rfl rfl rfl rfl (Nat.le_of_ble_eq_true rfl)) ?_
    refine ops_eff rfl (runs_none rfl) (does_store rfl ti24 rfl rfl rfl rfl rfl rfl (by decide) (by decide)) ?_
    refine ops_nil ?_
    repeat (first | refine aw_seq ?_ | refine ath_n ?_ | refine aw_skip ?_ | refine abl_n ?_ | refine aw_block ?_)
    (refine aw_ret ?_; repeat (first | refine ath_r ?_ | refine abl_r ?_))
    have hR : eN (revN n) = .agg [eI n.places, .sl ((List.range n.trans.length).map fun i => eT (revT (gti n.trans i))), eI n.sink, eI n.source] := by rw [hE]; rfl
    rw [hR]
    apply post1cf (.inr rfl) (cs1 := [eI n.places, .own 2 3 n.trans.length, eI n.sink, eI n.source])
    · exact ta24
    · exact ti24
    · exact rfl
    · exact rfl
    · exact rfl
    · exact rfl
    · exact rfl
    · exact rfl
    · exact .cons (.refl _) (.cons (.own _ _ _ _ _ rfl rfl (by simp)) (.cons (.refl _) (.cons (.refl _) .nil)))
end Go.Proofs.Ytmhbfoaecebobaa.Aw
end
section
namespace Go.Proofs.Ytmhbfoaecebobaa.Aw
set_option linter.unusedSimpArgs false
set_option linter.unusedVariables false
open Go.RowKit Go.Proofs
variable {P : Program} [IsP P]

def addL (L : List Int) : List Int → List Int
  | [] => L
  | q :: l => addL (if q ∈ L then L else L ++ [q]) l
theorem addL_snoc : ∀ (l : List Int) (L : List Int) (q : Int), addL L (l ++ [q]) = if q ∈ addL L l then addL L l else addL L l ++ [q]
  | [], L, q => rfl
  | x :: l, L, q => addL_snoc l _ q
def addT (n : Net) (x : Int) (L : List Int) (k : Nat) : List Int := if x ∈ (gti n.trans k).inn then addL L (gti n.trans k).out else L
def rndW (n : Net) (x : Int) (L : List Int) : Nat → List Int
  | 0 => L
  | k + 1 => addT n x (rndW n x L k) k
def rchW (n : Net) : Nat → Nat → List Int → List Int
  | 0, _, L => L
  | f + 1, i, L => if i < L.length then rchW n f (i + 1) (rndW n (gti L i) L n.trans.length) else L
def reachW (n : Net) (s : Int) : List Int := rchW n 41 0 [s]

/-- what the list keeps -/
structure LI (n : Net) (s : Int) (L : List Int) : Prop where
  nd : L.Nodup
  rng : ∀ p ∈ L, 0 ≤ p ∧ p < n.places
  st : s ∈ L
  rch : ∀ p ∈ L, Rch n false s p
theorem nodup_sub {α : Type} [BEq α] [LawfulBEq α] : ∀ {l m : List α}, l.Nodup → l ⊆ m → l.length ≤ m.length
  | [], m, _, _ => Nat.zero_le _
  | a :: l, m, h, hs => by
    rw [List.nodup_cons] at h
    have ha : a ∈ m := hs (List.mem_cons_self ..)
    have h1 : l ⊆ m.erase a := fun x hx => by
      have hne : x ≠ a := fun e => h.1 (e ▸ hx)
      exact (List.mem_erase_of_ne hne).2 (hs (List.mem_cons_of_mem _ hx))
    have h2 := nodup_sub h.2 h1
    rw [List.length_erase_of_mem ha] at h2
    have := List.length_pos_of_mem ha
    simp only [List.length_cons]
    omega
theorem nodup_len {L : List Int} {m : Int} (h : L.Nodup) (hr : ∀ p ∈ L, 0 ≤ p ∧ p < m) : (L.length : Int) ≤ m ∨ L = [] := by
  by_cases h0 : L = []
  · exact .inr h0
  · left
    have hm : 0 ≤ m := by
      obtain ⟨x, hx⟩ := List.exists_mem_of_ne_nil L h0
      have := hr x hx; omega
    have h1 : (L.map Int.toNat).Nodup := by
      rw [List.nodup_iff_pairwise_ne] at h ⊢
      rw [List.pairwise_map]
      refine List.Pairwise.imp_of_mem ?_ h
      intro a b ha hb hab e
      have := hr a ha; have := hr b hb
      omega
    have h2 : (L.map Int.toNat) ⊆ List.range m.toNat := by
      intro x hx
      obtain ⟨p, hp, rfl⟩ := List.mem_map.1 hx
      have := hr p hp
      simp; omega
    have h3 := nodup_sub h1 h2
    simp at h3
    omega
theorem LI.len {n : Net} {s : Int} {L : List Int} (h : LI n s L) : (L.length : Int) ≤ n.places ∧ 0 < L.length := by
  have h0 : 0 < L.length := List.length_pos_of_mem h.st
  rcases nodup_len h.nd h.rng with h1 | h1
  · exact ⟨h1, h0⟩
  · rw [h1] at h0; simp at h0
theorem LI.add1 {n : Net} {s : Int} {L : List Int} (h : LI n s L) {q : Int} (h1 : 0 ≤ q ∧ q < n.places) (h2 : Rch n false s q) : LI n s (if q ∈ L then L else L ++ [q]) := by
  by_cases hq : q ∈ L
  · rw [if_pos hq]; exact h
  · rw [if_neg hq]
    refine ⟨?_, fun p hp => ?_, by simp [h.st], fun p hp => ?_⟩
    · rw [List.nodup_append]
      refine ⟨h.nd, by simp, fun a ha b hb => ?_⟩
      simp at hb
      subst hb
      intro e; subst e; exact hq ha
    · simp only [List.mem_append, List.mem_singleton] at hp
      rcases hp with hp | rfl
      · exact h.rng p hp
      · exact h1
    · simp only [List.mem_append, List.mem_singleton] at hp
      rcases hp with hp | rfl
      · exact h.rch p hp
      · exact h2
theorem LI.addL {n : Net} {s : Int} : ∀ {l : List Int} {L : List Int}, LI n s L → (∀ q ∈ l, (0 ≤ q ∧ q < n.places) ∧ Rch n false s q) → LI n s (addL L l)
  | [], L, h, _ => h
  | q :: l, L, h, hl => LI.addL (l := l) (h.add1 (hl q (List.mem_cons_self ..)).1 (hl q (List.mem_cons_self ..)).2) (fun u hu => hl u (List.mem_cons_of_mem _ hu))
theorem LI.addT {n : Net} {s : Int} {L : List Int} (h : LI n s L) (hp : Plc n) {x : Int} (hx : Rch n false s x) {k : Nat} (hk : k < n.trans.length) : LI n s (addT n x L k) := by
  unfold Aw.addT
  split
  · rename_i hin
    exact h.addL (fun q hq => ⟨hp.out hk false q hq, .step hk hin hx hq⟩)
  · exact h
theorem LI.rnd {n : Net} {s : Int} {L : List Int} (h : LI n s L) (hp : Plc n) {x : Int} (hx : Rch n false s x) : ∀ {k : Nat}, k ≤ n.trans.length → LI n s (rndW n x L k)
  | 0, _ => h
  | k + 1, hk => (h.rnd hp hx (by omega)).addT hp hx hk
theorem addL_pre : ∀ (l : List Int) (L : List Int), ∃ t, addL L l = L ++ t ∧ ∀ q ∈ l, q ∈ addL L l
  | [], L => ⟨[], by simp [addL], by simp⟩
  | q :: l, L => by
    obtain ⟨t, h1, h2⟩ := addL_pre l (if q ∈ L then L else L ++ [q])
    have hq : q ∈ (if q ∈ L then L else L ++ [q]) := by split <;> simp_all
    refine ⟨(if q ∈ L then [] else [q]) ++ t, ?_, fun u hu => ?_⟩
    · rw [addL, h1]; split <;> simp
    · rw [addL]
      rcases List.mem_cons.1 hu with rfl | hu
      · rw [h1]; exact List.mem_append_left _ hq
      · exact h2 u hu
theorem rndW_pre (n : Net) (x : Int) (L : List Int) : ∀ k, ∃ t, rndW n x L k = L ++ t
  | 0 => ⟨[], by simp [rndW]⟩
  | k + 1 => by
    obtain ⟨t, h⟩ := rndW_pre n x L k
    rw [rndW, addT, h]
    split
    · obtain ⟨u, h2, _⟩ := addL_pre (gti n.trans k).out (L ++ t)
      exact ⟨t ++ u, by rw [h2, List.append_assoc]⟩
    · exact ⟨t, rfl⟩
theorem rndW_mem (n : Net) (x : Int) (L : List Int) : ∀ (k j : Nat), j < k → x ∈ (gti n.trans j).inn → ∀ q ∈ (gti n.trans j).out, q ∈ rndW n x L k
  | 0, j, h, _, _, _ => by omega
  | k + 1, j, h, hx, q, hq => by
    rw [rndW]
    by_cases hj : j = k
    · subst hj
      rw [addT, if_pos hx]
      exact (addL_pre _ _).choose_spec.2 q hq
    · have h1 := rndW_mem n x L k j (by omega) hx q hq
      unfold addT
      split
      · obtain ⟨t, h2, _⟩ := addL_pre (gti n.trans k).out (rndW n x L k)
        rw [h2]; exact List.mem_append_left _ h1
      · exact h1
/-- all that the first i places lead to is there -/
def LC (n : Net) (L : List Int) (i : Nat) : Prop := ∀ j, j < i → ∀ k, k < n.trans.length → gti L j ∈ (gti n.trans k).inn → ∀ q ∈ (gti n.trans k).out, q ∈ L
theorem gti_app {α : Type} [Inhabited α] {L t : List α} {j : Nat} (h : j < L.length) : gti (L ++ t) j = gti L j := by unfold gti; rw [List.getElem?_append_left h]
theorem LC.rnd {n : Net} {L : List Int} {i : Nat} (h : LC n L i) (hi : i < L.length) : LC n (rndW n (gti L i) L n.trans.length) (i + 1) := by
  intro j hj k hk hin q hq
  obtain ⟨t, ht⟩ := rndW_pre n (gti L i) L n.trans.length
  have hjl : j < L.length := by omega
  have e : gti (rndW n (gti L i) L n.trans.length) j = gti L j := by rw [ht, gti_app hjl]
  rw [e] at hin
  by_cases hji : j = i
  · subst hji
    exact rndW_mem n _ L n.trans.length k hk hin q hq
  · rw [ht]
    exact List.mem_append_left _ (h j (by omega) k hk hin q hq)
theorem LC.all {n : Net} {s : Int} {L : List Int} (h : LI n s L) (hc : LC n L L.length) (p : Int) : p ∈ L ↔ Rch n false s p := by
  refine ⟨h.rch p, fun hr => ?_⟩
  induction hr with
  | start => exact h.st
  | @step k p q hk hin _ hq ih =>
    obtain ⟨j, hj, rfl⟩ := List.getElem_of_mem ih
    have e : gti L j = L[j] := by unfold gti; rw [List.getElem?_eq_getElem hj]; rfl
    exact hc j hj k hk (by rw [e]; exact hin) q hq
theorem rchW_spec {n : Net} {s : Int} (hp : Plc n) (h40 : n.places ≤ 40) : ∀ (f i : Nat) (L : List Int), 41 ≤ f + i → i ≤ L.length → LI n s L → LC n L i → LI n s (rchW n f i L) ∧ LC n (rchW n f i L) (rchW n f i L).length
  | 0, i, L, hf, hi, h, hc => by have := h.len; omega
  | f + 1, i, L, hf, hi, h, hc => by
    rw [rchW]
    by_cases hlt : i < L.length
    · rw [if_pos hlt]
      obtain ⟨t, ht⟩ := rndW_pre n (gti L i) L n.trans.length
      exact rchW_spec hp h40 f (i + 1) _ (by omega) (by rw [ht]; simp; omega) (h.rnd hp (h.rch _ (gti_mem hlt)) (Nat.le_refl _)) (hc.rnd hlt)
    · rw [if_neg hlt]
      obtain rfl : i = L.length := by omega
      exact ⟨h, hc⟩
theorem LI.init {n : Net} {s : Int} (h : 0 ≤ s ∧ s < n.places) : LI n s [s] := ⟨by simp, fun p hp => by simp at hp; subst hp; exact h, by simp, fun p hp => by simp at hp; subst hp; exact .start⟩
theorem reachW_iff {n : Net} {s : Int} (hv : validB n = true) (h : 0 ≤ s ∧ s < n.places) (p : Int) : p ∈ reachW n s ↔ Rch n false s p := by
  have h1 := rchW_spec (Plc.of hv) (validB_places hv).2.1 41 0 [s] (by omega) (by omega) (LI.init h) (fun j hj => by omega)
  exact LC.all h1.1 h1.2 p
end Go.Proofs.Ytmhbfoaecebobaa.Aw
end
