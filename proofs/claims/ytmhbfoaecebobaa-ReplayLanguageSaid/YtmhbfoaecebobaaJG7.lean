import Derived.Test.YtmhbfoaecebobaaJG6
import Derived.Test.YtmhbfoaecebobaaJG2
import Derived.Test.YtmhbfoaecebobaaJG5
section
namespace Go.Proofs.Ytmhbfoaecebobaa.Aw
set_option linter.unusedSimpArgs false
set_option linter.unusedVariables false
open Go.RowKit
def ge1 : Option Nat → Bool
  | some (_ + 1) => true
  | _ => false
def is2 : Option Nat → Bool
  | some 2 => true
  | _ => false
def gOk (l : List Oper) (ks : List Nat) : Bool :=
  qOk l && (let m := masks l []
    (List.range l.length).all fun j => (List.range j).all fun i => !(ge1 ks[i]? && ge1 ks[j]? && (is2 ks[i]? || is2 ks[j]?)) || (m.getD j 0).testBit i)
theorem gOk_of {l : List Oper} {ks : List Nat} (h : gOk l ks = true) : qOk l = true ∧ ∀ (i j a b : Nat), i < j → j < l.length → ks[i]? = some a → ks[j]? = some b → 1 ≤ a → 1 ≤ b → a = 2 ∨ b = 2 → ((masks l []).getD j 0).testBit i = true := by
  unfold gOk at h
  simp only [Bool.and_eq_true] at h
  refine ⟨h.1, fun i j a b hij hj ha hb h1 h2 h3 => ?_⟩
  have h4 := List.all_eq_true.1 (List.all_eq_true.1 h.2 j (by simpa using hj)) i (by simpa using hij)
  rw [ha, hb] at h4
  obtain ⟨a, rfl⟩ : ∃ k, a = k + 1 := ⟨a - 1, by omega⟩
  obtain ⟨b, rfl⟩ : ∃ k, b = k + 1 := ⟨b - 1, by omega⟩
  have h5 : (is2 (some (a + 1)) || is2 (some (b + 1))) = true := by
    rcases h3 with h | h
    · have : a = 1 := by omega
      subst this; rfl
    · have : b = 1 := by omega
      subst this; simp [is2]
  simpa [ge1, h5] using h4
inductive GSteps (P : Program) (N : Nat) (ops : Array Oper) : List Oper → Frm → List Ob → Frm → List Ob → List (Nat × AV) → List Nat → List (List Ob) → Prop
  | nil (F : Frm) (σ : List Ob) : GSteps P N ops [] F σ F σ [] [] []
  | free (o : Oper) (l : List Oper) (F F' : Frm) (σ σ' : List Ob) (x : AV) (out : List (Nat × AV)) (ks : List Nat) (sts : List (List Ob)) (d : Nat) (hd : o.dst = some d) (hN : Nat.blt d N = true) (hr : Runs ops F o true) (hD : ∀ σ, Does P o F σ x σ) (h : GSteps P N ops l ((d, x) :: F) σ F' σ' out ks sts) : GSteps P N ops (o :: l) F σ F' σ' ((d, x) :: out) (0 :: ks) (σ :: sts)
  | skip (o : Oper) (l : List Oper) (F F' : Frm) (σ σ' : List Ob) (out : List (Nat × AV)) (ks : List Nat) (sts : List (List Ob)) (d : Nat) (hd : o.dst = some d) (hN : Nat.blt d N = true) (hr : Runs ops F o false) (h : GSteps P N ops l ((d, .s undef) :: F) σ F' σ' out ks sts) : GSteps P N ops (o :: l) F σ F' σ' ((d, .s undef) :: out) (0 :: ks) (σ :: sts)
  | look (o : Oper) (l : List Oper) (F F' : Frm) (σ σ' : List Ob) (x : AV) (out : List (Nat × AV)) (ks : List Nat) (sts : List (List Ob)) (d : Nat) (hd : o.dst = some d) (hN : Nat.blt d N = true) (hr : Runs ops F o true) (hD : Does P o F σ x σ) (h : GSteps P N ops l ((d, x) :: F) σ F' σ' out ks sts) : GSteps P N ops (o :: l) F σ F' σ' ((d, x) :: out) (1 :: ks) (σ :: sts)
  | eff (o : Oper) (l : List Oper) (F F' : Frm) (σ σ1 σ' : List Ob) (x : AV) (out : List (Nat × AV)) (ks : List Nat) (sts : List (List Ob)) (d : Nat) (hd : o.dst = some d) (hN : Nat.blt d N = true) (hr : Runs ops F o true) (hD : Does P o F σ x σ1) (h : GSteps P N ops l ((d, x) :: F) σ1 F' σ' out ks sts) : GSteps P N ops (o :: l) F σ F' σ' ((d, x) :: out) (2 :: ks) (σ :: sts)
theorem gsteps_at {P : Program} {N : Nat} {ops : Array Oper} : ∀ {l : List Oper} {F F' : Frm} {σ σ' : List Ob} {out : List (Nat × AV)} {ks : List Nat} {sts : List (List Ob)}, GSteps P N ops l F σ F' σ' out ks sts → l.length = out.length ∧ F' = out.reverse ++ F ∧ ks.length = l.length ∧ sts.length = l.length ∧ (sts ++ [σ']).getD 0 [] = σ ∧
    ∀ (i : Nat) o, l[i]? = some o → ∃ d x, out[i]? = some (d, x) ∧ o.dst = some d ∧ d < N ∧
      ((ks[i]? = some 0 ∧ (sts ++ [σ']).getD (i + 1) [] = (sts ++ [σ']).getD i [] ∧ ((Runs ops ((out.take i).reverse ++ F) o true ∧ ∀ σ, Does P o ((out.take i).reverse ++ F) σ x σ) ∨ (Runs ops ((out.take i).reverse ++ F) o false ∧ x = .s undef))) ∨
       (ks[i]? = some 1 ∧ (sts ++ [σ']).getD (i + 1) [] = (sts ++ [σ']).getD i [] ∧ Runs ops ((out.take i).reverse ++ F) o true ∧ Does P o ((out.take i).reverse ++ F) ((sts ++ [σ']).getD i []) x ((sts ++ [σ']).getD i [])) ∨
       (ks[i]? = some 2 ∧ Runs ops ((out.take i).reverse ++ F) o true ∧ Does P o ((out.take i).reverse ++ F) ((sts ++ [σ']).getD i []) x ((sts ++ [σ']).getD (i + 1) []))) := by
  intro l F F' σ σ' out ks sts h
  induction h with
  | nil F σ => exact ⟨rfl, rfl, rfl, rfl, rfl, by simp⟩
  | free o l F F' σ σ' x out ks sts d hd hN hr hD h ih =>
    obtain ⟨h1, h2, h3, h4, h0, h5⟩ := ih
    refine ⟨by simp [h1], by simp [h2], by simp [h3], by simp [h4], rfl, fun i o' hi => ?_⟩
    cases i with
    | zero => simp at hi; subst hi; exact ⟨d, x, rfl, hd, by simpa [Nat.blt_eq] using hN, .inl ⟨rfl, h0, .inl ⟨by simpa using hr, by simpa using hD⟩⟩⟩
    | succ i =>
      obtain ⟨d', x', g1, g2, g3, g4⟩ := h5 i o' (by simpa using hi)
      exact ⟨d', x', by simpa using g1, g2, g3, by simpa using g4⟩
  | skip o l F F' σ σ' out ks sts d hd hN hr h ih =>
    obtain ⟨h1, h2, h3, h4, h0, h5⟩ := ih
    refine ⟨by simp [h1], by simp [h2], by simp [h3], by simp [h4], rfl, fun i o' hi => ?_⟩
    cases i with
    | zero => simp at hi; subst hi; exact ⟨d, .s undef, rfl, hd, by simpa [Nat.blt_eq] using hN, .inl ⟨rfl, h0, .inr ⟨by simpa using hr, rfl⟩⟩⟩
    | succ i =>
      obtain ⟨d', x', g1, g2, g3, g4⟩ := h5 i o' (by simpa using hi)
      exact ⟨d', x', by simpa using g1, g2, g3, by simpa using g4⟩
  | look o l F F' σ σ' x out ks sts d hd hN hr hD h ih =>
    obtain ⟨h1, h2, h3, h4, h0, h5⟩ := ih
    refine ⟨by simp [h1], by simp [h2], by simp [h3], by simp [h4], rfl, fun i o' hi => ?_⟩
    cases i with
    | zero => simp at hi; subst hi; exact ⟨d, x, rfl, hd, by simpa [Nat.blt_eq] using hN, .inr (.inl ⟨rfl, h0, by simpa using hr, by simpa using hD⟩)⟩
    | succ i =>
      obtain ⟨d', x', g1, g2, g3, g4⟩ := h5 i o' (by simpa using hi)
      exact ⟨d', x', by simpa using g1, g2, g3, by simpa using g4⟩
  | eff o l F F' σ σ1 σ' x out ks sts d hd hN hr hD h ih =>
    obtain ⟨h1, h2, h3, h4, h0, h5⟩ := ih
    refine ⟨by simp [h1], by simp [h2], by simp [h3], by simp [h4], rfl, fun i o' hi => ?_⟩
    cases i with
    | zero =>
      simp at hi; subst hi
      refine ⟨d, x, rfl, hd, by simpa [Nat.blt_eq] using hN, .inr (.inr ⟨rfl, by simpa using hr, ?_⟩)⟩
      have e : ((σ :: sts) ++ [σ']).getD (0 + 1) [] = σ1 := h0
      rw [e]
      simpa using hD
    | succ i =>
      obtain ⟨d', x', g1, g2, g3, g4⟩ := h5 i o' (by simpa using hi)
      exact ⟨d', x', by simpa using g1, g2, g3, by simpa using g4⟩
section
variable {P : Program} {N : Nat} {l : List Oper} {F F' : Frm} {σ : List Ob} {out : List (Nat × AV)} {Q : Exit → Frm → List Ob → Prop}
theorem gen_any {σ' : List Ob} {ks : List Nat} {sts : List (List Ob)} (hq : gOk l ks = true) (hs : GSteps P N l.toArray l F σ F' σ' out ks sts) (hQ : Q .normal F' σ') (G0 : Cx) :
    ∀ (fuel : Nat) (L : Array Bool) (G : Cx) (a : Act) (m : Nat), G0.Step G → L.size = l.length → left L.toList = fuel → Closed l (fun j => L.getD j false = true) → m ≤ l.length → (∀ j, ks[j]? = some 2 → (L.getD j false = true ↔ j < m)) → S8 N G a (fr (fun j => L.getD j false) 0 out F) ((sts ++ [σ']).getD m []) → wpAny P .any l.toArray (lift N G0 Q) fuel L a G.w := by
  obtain ⟨hlen, hF', hkl, hsl, _, hat⟩ := gsteps_at hs
  obtain ⟨hq, hq2⟩ := gOk_of hq
  unfold qOk at hq
  have hq' : ∀ j oj, l[j]? = some oj → (∀ e ∈ oj.after.toList, Region.binds .any e = true → e.on < j) ∧ ∀ i oi, i < j → l[i]? = some oi → clash l.toArray oi oj = true → ((masks l []).getD j 0).testBit i = true := by
    intro j oj hj
    have h1 := List.all_eq_true.1 hq j (by simpa using (List.getElem?_eq_some_iff.1 hj).1)
    rw [hj] at h1
    simp only [Bool.and_eq_true, List.all_eq_true] at h1
    refine ⟨fun e he hb => ?_, fun i oi hij hi hc => ?_⟩
    · have := h1.1 e he
      rw [hb] at this
      simpa [Nat.blt_eq] using this
    · have := h1.2 i (by simpa using hij)
      rw [hi] at this
      simpa [hc] using this
  have hsound : ∀ (D : Nat → Prop), Closed l D → ∀ j i, ((masks l []).getD j 0).testBit i = true → D j → D i := fun D hD => masks_sound hD l [] (fun j o h => by simpa using h) (fun j i h => by simp at h)
  have hnone : ∀ (L : Array Bool), L.size = l.length → Region.ready .any l.toArray L = [] → ∀ j, j < l.length → L.getD j false = true := by
    intro L hL hr j
    induction j using Nat.strongRecOn with
    | _ j ih =>
      intro hj
      cases hc : L.getD j false with
      | true => rfl
      | false =>
        exfalso
        obtain ⟨o, ho⟩ : ∃ o, l[j]? = some o := ⟨_, List.getElem?_eq_getElem hj⟩
        have hm : j ∈ Region.ready .any l.toArray L := by
          refine mem_ready.2 ⟨?_, o, by simpa using ho, fun e he hb => ?_⟩
          · have hlt : j < L.size := by omega
            simp [Array.getD_eq_getD_getElem?, hlt] at hc ⊢
            exact hc
          · have hon := (hq' j o ho).1 e (by simpa using he) hb
            exact ih e.on hon (by omega)
        rw [hr] at hm
        cases hm
  -- states without an effect between them are the same
  have hsame : ∀ (k n : Nat), n + k ≤ l.length → (∀ j, n ≤ j → j < n + k → ks[j]? ≠ some 2) → (sts ++ [σ']).getD (n + k) [] = (sts ++ [σ']).getD n [] := by
    intro k n hnk h
    induction k with
    | zero => rfl
    | succ k ihk =>
      rw [← ihk (by omega) (fun j h1 h2 => h j h1 (by omega))]
      obtain ⟨d, x, _, _, _, hc⟩ := hat (n + k) _ (List.getElem?_eq_getElem (by omega))
      have h2 := h (n + k) (by omega) (by omega)
      rcases hc with ⟨g1, g2, _⟩ | ⟨g1, g2, _⟩ | ⟨g1, _⟩
      · exact g2
      · exact g2
      · exact absurd g1 h2
  have hbetween : ∀ (m n : Nat), m ≤ l.length → n ≤ l.length → (∀ j, ks[j]? = some 2 → (j < m ↔ j < n)) → (sts ++ [σ']).getD m [] = (sts ++ [σ']).getD n [] := by
    intro m n hm hn h
    rcases Nat.le_total m n with h1 | h1
    · obtain ⟨k, rfl⟩ := Nat.exists_eq_add_of_le h1
      exact (hsame k m hn (fun j h2 h3 h4 => by have := h j h4; omega)).symm
    · obtain ⟨k, rfl⟩ := Nat.exists_eq_add_of_le h1
      exact hsame k n hm (fun j h2 h3 h4 => by have := h j h4; omega)
  -- when all have come up
  have hend : ∀ (L : Array Bool) (G : Cx) (a : Act) (m : Nat), G0.Step G → L.size = l.length → Region.ready .any l.toArray L = [] → m ≤ l.length → (∀ j, ks[j]? = some 2 → (L.getD j false = true ↔ j < m)) → S8 N G a (fr (fun j => L.getD j false) 0 out F) ((sts ++ [σ']).getD m []) → lift N G0 Q .normal a G.w := by
    intro L G a m hst hL hr hml hm h8
    have e1 : (sts ++ [σ']).getD m [] = σ' := by
      rw [hbetween m l.length hml (Nat.le_refl _) (fun j hj => by
        have hjl : j < l.length := by rw [← hkl]; exact (List.getElem?_eq_some_iff.1 hj).1
        have := (hm j hj).1 (hnone L hL hr j hjl)
        exact ⟨fun _ => hjl, fun _ => this⟩)]
      simp [List.getD, ← hsl]
    rw [e1] at h8
    refine ⟨G, F', σ', rfl, hst, ⟨h8.rel, fun t => ?_, h8.df, h8.nt⟩, hQ⟩
    have h1 := h8.fr t
    have h2 : (fr (fun j => L.getD j false) 0 out F).get t = (fr (fun j => decide (j < 0 + out.length)) 0 out F).get t := fr_congr out 0 F F rfl (fun j p hp _ => by
      have hj : j < out.length := (List.getElem?_eq_some_iff.1 hp).1
      simp only [Nat.zero_add]
      rw [hnone L hL hr j (by omega)]
      simp [hj])
    rw [h2, fr_pre, List.take_length, ← hF'] at h1
    exact h1
  intro fuel
  induction fuel with
  | zero =>
    intro L G a m hst hL hlf hcl hml hm h8
    have hr : Region.ready .any l.toArray L = [] := by
      rw [List.eq_nil_iff_forall_not_mem]
      intro i hi
      obtain ⟨h1, o, ho, _⟩ := mem_ready.1 hi
      have hlt : i < L.size := by rw [hL]; simpa using (Array.getElem?_eq_some_iff.1 ho).1
      have : 0 < left L.toList := left_pos i (by simp [Array.getD_eq_getD_getElem?, hlt] at h1 ⊢; exact h1)
      omega
    exact ⟨hr, hend L G a m hst hL hr hml hm h8⟩
  | succ fuel ih =>
    intro L G a m hst hL hlf hcl hml hm h8
    refine ⟨fun hr => hend L G a m hst hL hr hml hm h8, fun i hi => ?_⟩
    obtain ⟨h1, o, ho, hall⟩ := mem_ready.1 hi
    have hli : l[i]? = some o := by simpa using ho
    have hlt : i < L.size := by rw [hL]; exact (List.getElem?_eq_some_iff.1 hli).1
    have hfalse : L.getD i false = false := by simp [Array.getD_eq_getD_getElem?, hlt] at h1 ⊢; exact h1
    obtain ⟨d, x, g1, g2, g3, g4⟩ := hat i o hli
    -- the others that touch its slots: those before it have come up, those behind it have not
    have hcl' : Closed l (fun j => j = i ∨ L.getD j false = true) := by
      intro j oj hj hD e he hb
      rcases hD with rfl | hD
      · rw [hli] at hj; cases hj
        exact .inr (hall e (by simpa using he) hb)
      · exact .inr (hcl j oj hj hD e he hb)
    have hord : ∀ j oj, l[j]? = some oj → j ≠ i → (j < i → clash l.toArray oj o = true → L.getD j false = true) ∧ (i < j → clash l.toArray o oj = true → L.getD j false = false) := by
      intro j oj hj hne
      refine ⟨fun hji hc => ?_, fun hij hc => ?_⟩
      · rcases hsound _ hcl' i j ((hq' i o hli).2 j oj hji hj hc) (.inl rfl) with h | h
        · exact absurd h hne
        · exact h
      · cases hx : L.getD j false with
        | false => rfl
        | true =>
          have := hsound _ hcl j i ((hq' j oj hj).2 i o hij hli hc) hx
          rw [hfalse] at this
          cases this
    have hsel : ∀ t, t ∈ o.looksAt l.toArray → Frm.get ((out.take i).reverse ++ F) t = (fr (fun j => L.getD j false) 0 out F).get t := by
      intro t ht
      rw [← fr_pre out 0 i F]
      refine (fr_congr out 0 F F rfl (fun j p hp hpt => ?_)).symm
      simp only [Nat.zero_add]
      have hj : j < l.length := by rw [hlen]; exact (List.getElem?_eq_some_iff.1 hp).1
      obtain ⟨d', x', k1, k2, _⟩ := hat j _ (List.getElem?_eq_getElem hj)
      rw [k1] at hp
      cases hp
      dsimp only at hpt
      subst hpt
      by_cases hji : j = i
      · subst hji; rw [hfalse]; simp
      · rcases Nat.lt_or_gt_of_ne hji with h | h
        · rw [(hord j _ (List.getElem?_eq_getElem hj) hji).1 h (clash_of.1 k2 ht)]; simp [h]
        · rw [(hord j _ (List.getElem?_eq_getElem hj) hji).2 h (clash_of.2.2 k2 ht)]; simp; omega
    -- what is known behind it
    have hnext : ∀ (m' : Nat), m' ≤ l.length → (∀ j, ks[j]? = some 2 → ((L.setIfInBounds i true).getD j false = true ↔ j < m')) → ∀ (G' : Cx) (v : Value), G.Ext G' → Rel G' ((sts ++ [σ']).getD m' []) → Rep G' v x → wpAny P .any l.toArray (lift N G0 Q) fuel (L.setIfInBounds i true) (a.put (some d) v) G'.w := by
      intro m' hm'l hm' G' v he hr' hv
      refine ih _ G' _ m' (hst.trans he.step) (by simpa using hL) ?_ ?_ hm'l hm' ⟨hr', fun t => ?_, h8.df, by simp [Act.put, h8.nt]⟩
      · have := left_set L.toList i (by simp [Array.getD_eq_getD_getElem?, hlt] at hfalse ⊢; exact hfalse)
        rw [Array.toList_setIfInBounds]; omega
      · intro j oj hj hD e he2 hb
        have key : ∀ k, (L.setIfInBounds i true).getD k false = true ↔ (k = i ∨ L.getD k false = true) := fun k => by
          by_cases hk : i = k
          · subst hk; simp [Array.getD_eq_getD_getElem?, hlt]
          · simp [Array.getD_eq_getD_getElem?, Array.getElem?_setIfInBounds, hk, Ne.symm hk]
        rw [key] at hD ⊢
        exact hcl' j oj hj hD e he2 hb
      · have hselL : ∀ k, k ≠ i → (L.setIfInBounds i true).getD k false = L.getD k false := fun k hk => by
          simp [Array.getD_eq_getD_getElem?, Array.getElem?_setIfInBounds, Ne.symm hk]
        by_cases htd : t = d
        · subst htd
          have h2 : (fr (fun j => (L.setIfInBounds i true).getD j false) 0 out F).get t = x := fr_last out 0 F i g1 (by simp [Array.getD_eq_getD_getElem?, hlt]) (fun j p hp hij hc hpt => by
            simp only [Nat.zero_add] at hc
            rw [hselL j (by omega)] at hc
            have hj : j < l.length := by rw [hlen]; exact (List.getElem?_eq_some_iff.1 hp).1
            obtain ⟨d', x', k1, k2, _⟩ := hat j _ (List.getElem?_eq_getElem hj)
            rw [k1] at hp
            cases hp
            dsimp only at hpt
            subst hpt
            have := (hord j _ (List.getElem?_eq_getElem hj) (by omega)).2 hij (clash_of.2.1 g2 k2)
            rw [this] at hc
            cases hc)
          rw [h2]
          have : t < a.tmps.size := by rw [h8.nt]; exact g3
          simpa [Act.put, Array.getD_eq_getD_getElem?, this] using hv
        · have h2 : (fr (fun j => (L.setIfInBounds i true).getD j false) 0 out F).get t = (fr (fun j => L.getD j false) 0 out F).get t := fr_congr out 0 F F rfl (fun j p hp hpt => by
            simp only [Nat.zero_add]
            refine hselL j (fun e => ?_)
            subst e
            rw [g1] at hp
            cases hp
            exact htd hpt.symm)
          rw [h2]
          have := (h8.fr t).ext he
          simpa [Act.put, Array.getD_eq_getD_getElem?, Array.getElem?_setIfInBounds, Ne.symm htd] using this
    have hset : ∀ j, j ≠ i → ((L.setIfInBounds i true).getD j false = true ↔ L.getD j false = true) := fun j hj => by
      simp [Array.getD_eq_getD_getElem?, Array.getElem?_setIfInBounds, Ne.symm hj]
    have hseti : (L.setIfInBounds i true).getD i false = true := by simp [Array.getD_eq_getD_getElem?, hlt]
    have hil : i < l.length := (List.getElem?_eq_some_iff.1 hli).1
    have hkeep : ks[i]? ≠ some 2 → ∀ j, ks[j]? = some 2 → ((L.setIfInBounds i true).getD j false = true ↔ j < m) := fun hne j hj => by
      have : j ≠ i := fun e => hne (e ▸ hj)
      rw [hset j this]; exact hm j hj
    have heff : ∀ b, ks[i]? = some b → 1 ≤ b → ∀ j, ks[j]? = some 2 → (j < m ↔ j < i) := fun b hb h1b j hj => by
      have hjl : j < l.length := by rw [← hkl]; exact (List.getElem?_eq_some_iff.1 hj).1
      rw [← hm j hj]
      rcases Nat.lt_trichotomy j i with h | h | h
      · have h3 := hq2 j i 2 b h hil hj hb (by omega) h1b (.inl rfl)
        rcases hsound _ hcl' i j h3 (.inl rfl) with h4 | h4
        · omega
        · simp [h, h4]
      · subst h; rw [hfalse]; simp
      · have h3 := hq2 i j b 2 h hjl hb hj h1b (by omega) (.inr rfl)
        constructor
        · intro h4
          have := hsound _ hcl j i h3 h4
          rw [hfalse] at this; cases this
        · intro h4; omega
    unfold wpOp
    simp only [ho]
    rcases g4 with ⟨k0, ks0, ⟨k1, k2⟩ | ⟨k1, rfl⟩⟩ | ⟨k0, ks0, k1, k2⟩ | ⟨k0, k1, k2⟩
    · rw [if_pos ((k1.congr hsel).wanted h8.fr)]
      left
      refine ((k2 _).congr hsel) G a _ _ h8.rel (fun y _ => rep_eval h8.fr y) (fun v G' he hr' hv => ?_)
      rw [g2]
      exact hnext m hml (hkeep (by rw [k0]; simp)) G' v he hr' hv
    · rw [if_neg (by rw [(k1.congr hsel).wanted h8.fr]; simp)]
      rw [g2]
      exact hnext m hml (hkeep (by rw [k0]; simp)) G undef (.refl G) h8.rel (.s _)
    · rw [if_pos ((k1.congr hsel).wanted h8.fr)]
      left
      have e1 := hbetween m i hml (Nat.le_of_lt hil) (heff 1 k0 (by omega))
      have h8r := h8.rel
      rw [e1] at h8r
      refine (k2.congr hsel) G a _ _ h8r (fun y _ => rep_eval h8.fr y) (fun v G' he hr' hv => ?_)
      rw [g2]
      rw [← e1] at hr'
      exact hnext m hml (hkeep (by rw [k0]; simp)) G' v he hr' hv
    · rw [if_pos ((k1.congr hsel).wanted h8.fr)]
      left
      have hef := heff 2 k0 (by omega)
      have e1 := hbetween m i hml (Nat.le_of_lt hil) hef
      have h8r := h8.rel
      rw [e1] at h8r
      refine (k2.congr hsel) G a _ _ h8r (fun y _ => rep_eval h8.fr y) (fun v G' he hr' hv => ?_)
      rw [g2]
      refine hnext (i + 1) hil (fun j hj => ?_) G' v he hr' hv
      by_cases hji : j = i
      · subst hji; rw [hseti]; simp
      · rw [hset j hji, hm j hj, hef j hj]; omega
def GX (P : Program) (N : Nat) (ops : Array Oper) (all : List Oper) (acc : List Nat) (l : List Oper) (F : Frm) (σ : List Ob) (K : Frm → List Ob → Prop) : Prop :=
  ∃ F' σ' out ks sts, GSteps P N ops l F σ F' σ' out ks sts ∧ gOk all (acc.reverse ++ ks) = true ∧ K F' σ'
variable {ops : Array Oper} {all : List Oper} {acc : List Nat} {K : Frm → List Ob → Prop}
theorem gx_nil (hk : gOk all acc.reverse = true) (h : K F σ) : GX P N ops all acc [] F σ K := ⟨F, σ, [], [], [], .nil F σ, by simpa using hk, h⟩
theorem gx_free {o : Oper} {d : Nat} {x : AV} (hd : o.dst = some d) (hN : Nat.blt d N = true) (hr : Runs ops F o true) (hD : ∀ σ, Does P o F σ x σ) (h : GX P N ops all (0 :: acc) l ((d, x) :: F) σ K) : GX P N ops all acc (o :: l) F σ K := by
  obtain ⟨F', σ', out, ks, sts, h1, h2, h3⟩ := h
  exact ⟨F', σ', _, _, _, .free o l F F' σ σ' x out ks sts d hd hN hr hD h1, by simpa using h2, h3⟩
theorem gx_look {o : Oper} {d : Nat} {x : AV} (hd : o.dst = some d) (hN : Nat.blt d N = true) (hr : Runs ops F o true) (hD : Does P o F σ x σ) (h : GX P N ops all (1 :: acc) l ((d, x) :: F) σ K) : GX P N ops all acc (o :: l) F σ K := by
  obtain ⟨F', σ', out, ks, sts, h1, h2, h3⟩ := h
  exact ⟨F', σ', _, _, _, .look o l F F' σ σ' x out ks sts d hd hN hr hD h1, by simpa using h2, h3⟩
theorem gx_eff {o : Oper} {d : Nat} {x : AV} {σ1 : List Ob} (hd : o.dst = some d) (hN : Nat.blt d N = true) (hr : Runs ops F o true) (hD : Does P o F σ x σ1) (h : GX P N ops all (2 :: acc) l ((d, x) :: F) σ1 K) : GX P N ops all acc (o :: l) F σ K := by
  obtain ⟨F', σ', out, ks, sts, h1, h2, h3⟩ := h
  exact ⟨F', σ', _, _, _, .eff o l F F' σ σ1 σ' x out ks sts d hd hN hr hD h1, by simpa using h2, h3⟩
theorem adraw_gen (h : GX P N l.toArray l [] l F σ (fun F' σ' => Q .normal F' σ')) : ADraw P N l F σ Q := fun G a hs => by
  obtain ⟨F', σ', out, ks, sts, h1, h2, h4⟩ := h
  have hno : ∀ j, (Array.replicate l.length false).getD j false = false := fun j => by
    simp only [Array.getD_eq_getD_getElem?, Array.getElem?_replicate]
    split <;> rfl
  have h3 : ∀ (out : List (Nat × AV)) (k : Nat) (F : Frm), fr (fun j => (Array.replicate l.length false).getD j false) k out F = F := by
    intro out
    induction out with
    | nil => intro k F; rfl
    | cons p out ih =>
      intro k F
      have := hno k
      simp only [fr, this, cond_false]
      exact ih _ _
  refine gen_any (by simpa using h2) h1 h4 G l.length _ G a 0 (.refl G) (by simp) (by simp [left_rep]) ?_ (Nat.zero_le _) ?_ ?_
  · intro j o hj hD
    rw [hno] at hD
    cases hD
  · intro j hj
    rw [hno]; simp
  · rw [h3, (gsteps_at h1).2.2.2.2.1]; exact hs
end
end Go.Proofs.Ytmhbfoaecebobaa.Aw
end
section
namespace Go.Proofs.Ytmhbfoaecebobaa.Aw
set_option linter.unusedSimpArgs false
set_option linter.unusedVariables false
open Go.RowKit Go.Proofs
variable {P : Program} [IsP P]
def revT (t : Tr) : Tr := ⟨t.label, t.out, t.inn⟩
def revN (n : Net) : Net := ⟨n.places, n.trans.map revT, n.sink, n.source⟩
abbrev zN : AV := .agg [.s (.int .i64 0), .s (.slice none 0 0), .s (.int .i64 0), .s (.int .i64 0)]
set_option maxHeartbeats 4000000 in
theorem reverse_pf (n : Net) (hval : zbc n = true) : Pure P 51 [eN n] (eN (revN n)) := by
  have hpl := za8 hval
  refine aw_fn (by rw [IsP.eq (P := P)]; exact Try.func51) rfl rfl rfl rfl rfl (by repeat' (first | exact Lo.s _ | exact Lo.emp | exact Lo.any | exact zap | exact zao | refine zah ?_ ?_ | refine zai ?_ ?_ | refine zaq ?_ | refine zan ?_ | refine Lo.cells ?_ | refine Lo.agg _ ?_ | refine Lo.ref _ ?_ | refine Lo.tup _ ?_ | refine Lo.fn _ _ ?_ | refine Lo.sl _ ?_ | intro _)) (by repeat' (first | exact Lo.s _ | exact Lo.emp | exact Lo.any | exact zap | exact zao | refine zah ?_ ?_ | refine zai ?_ ?_ | refine zaq ?_ | refine zan ?_ | refine Lo.cells ?_ | refine Lo.agg _ ?_ | refine Lo.ref _ ?_ | refine Lo.tup _ ?_ | refine Lo.fn _ _ ?_ | refine Lo.sl _ ?_ | intro _)) (by simp only [argF]; rfl) ?_
  repeat (first | refine zaf ?_ | refine zak ?_ | refine zad ?_ | refine zal ?_ | refine zac ?_)
  refine zae ?_
  refine zab rfl rfl (zaa rfl) (does_box rfl rfl rfl rfl) ?_
  refine za5 (wk_froz (id := 0) rfl) (za5 (wk_ref (d := 1) rfl rfl rfl) ?_)
  refine zab rfl rfl (zaa rfl) (does_alloc rfl ti24 rfl rfl) ?_
  refine zaj ?_
  repeat (first | refine zaf ?_ | refine zak ?_ | refine zad ?_ | refine zal ?_ | refine zac ?_)
  refine zae ?_
  refine zab rfl rfl (zaa rfl) (zag rfl tf24_0 (by decide) rfl) ?_
  refine zab rfl rfl (zaa rfl) (zam rfl ta3 rfl) ?_
  refine zab rfl rfl (zaa rfl) (zag rfl tf24_3 (by decide) rfl) ?_
  refine zab rfl rfl (zaa rfl) (zam rfl ta3 rfl) ?_
  refine zab rfl rfl (zaa rfl) (zag rfl tf24_2 (by decide) rfl) ?_
  refine zab rfl rfl (zaa rfl) (zam rfl ta3 rfl) ?_
  refine zab rfl rfl (zaa rfl) (does_build rfl ti24 tp24 rfl rfl) ?_
  refine zab rfl rfl (zaa rfl) (does_alloc rfl ti24 rfl rfl) ?_
  refine ops_eff rfl (zaa rfl) (za7 rfl ti24 rfl rfl rfl rfl rfl rfl (by decide) (by decide)) ?_
  refine zaj ?_
  repeat (first | refine zaf ?_ | refine zak ?_ | refine zad ?_ | refine zal ?_ | refine zac ?_)
  refine zae ?_
  refine zab rfl rfl (zaa rfl) (mv_s (.inr rfl) rfl) ?_
  refine zaj ?_
  repeat (first | refine zaf ?_ | refine zak ?_ | refine zad ?_ | refine zal ?_ | refine zac ?_)
  refine aw_weak (wk_ownC (id := 2) (sz2 := 3) (e' := .agg [eI n.places, .own 3 3 0, eI n.sink, eI n.source]) (pre := [eI n.places]) (post := [eI n.sink, eI n.source]) rfl rfl rfl) ?_
  refine aw_loops (S := Nat) (fun k => [(1, .ref (eN n).cells), (2, .ptr 0 4 0 0), (3, .ptr 1 4 0 0), (4, eI k)]) (fun k => [.row 4 [zN], .row 4 [.agg [eI n.places, .own 2 3 k, eI n.sink, eI n.source]], .row 3 ((List.range k).map fun i => eT (revT (gti n.trans i)))]) (fun k => k ≤ n.trans.length) (fun k => n.trans.length - k) 0
    (wk_st [1, 2, 3] (by decide) ⟨⟨_, rfl, .rowE (by repeat' (first | exact Lo.s _ | exact Lo.emp | exact Lo.any | exact zap | exact zao | refine zah ?_ ?_ | refine zai ?_ ?_ | refine zaq ?_ | refine zan ?_ | refine Lo.cells ?_ | refine Lo.agg _ ?_ | refine Lo.ref _ ?_ | refine Lo.tup _ ?_ | refine Lo.fn _ _ ?_ | refine Lo.sl _ ?_ | intro _)) rfl⟩, ⟨_, rfl, obRn_agg (.cons (.lo _ (.s _)) (.cons (.own _ _ _ _ _ rfl rfl) (.cons (.lo _ (.s _)) (.cons (.lo _ (.s _)) .nil))))⟩, ⟨_, rfl, .rowE (by repeat' (first | exact Lo.s _ | exact Lo.emp | exact Lo.any | exact zap | exact zao | refine zah ?_ ?_ | refine zai ?_ ?_ | refine zaq ?_ | refine zan ?_ | refine Lo.cells ?_ | refine Lo.agg _ ?_ | refine Lo.ref _ ?_ | refine Lo.tup _ ?_ | refine Lo.fn _ _ ?_ | refine Lo.sl _ ?_ | intro _)) rfl⟩, trivial⟩ ⟨.lo _ (by repeat' (first | exact Lo.s _ | exact Lo.emp | exact Lo.any | exact zap | exact zao | refine zah ?_ ?_ | refine zai ?_ ?_ | refine zaq ?_ | refine zan ?_ | refine Lo.cells ?_ | refine Lo.agg _ ?_ | refine Lo.ref _ ?_ | refine Lo.tup _ ?_ | refine Lo.fn _ _ ?_ | refine Lo.sl _ ?_ | intro _)), .ptr 1 0 4 0 0 rfl, .ptr 2 1 4 0 0 rfl, .lo _ (by repeat' (first | exact Lo.s _ | exact Lo.emp | exact Lo.any | exact zap | exact zao | refine zah ?_ ?_ | refine zai ?_ ?_ | refine zaq ?_ | refine zan ?_ | refine Lo.cells ?_ | refine Lo.agg _ ?_ | refine Lo.ref _ ?_ | refine Lo.tup _ ?_ | refine Lo.fn _ _ ?_ | refine Lo.sl _ ?_ | intro _)), trivial⟩) (Nat.zero_le _) (fun k hk => ?_)
  repeat (first | refine zaf ?_ | refine zak ?_ | refine zad ?_ | refine zal ?_ | refine zac ?_)
  refine zae ?_
  refine zab rfl rfl (zaa rfl) (mv_s (.inl rfl) rfl) ?_
  refine zab rfl rfl (zaa rfl) (zag rfl tf24_1 (by decide) rfl) ?_
  refine zab rfl rfl (zaa rfl) (zam rfl ta22 rfl) ?_
  refine zab rfl rfl (zaa rfl) (za2 rfl ts22 rfl) ?_
  refine zab rfl rfl (zaa rfl) (does_lss rfl rfl rfl) ?_
  refine zaj ?_
  repeat (first | refine zaf ?_ | refine zak ?_ | refine zad ?_ | refine zal ?_ | refine zac ?_)
  refine aw_if rfl (fun h => ?_) (fun h => ?_)
  · have hlt : k < n.trans.length := by omega
    obtain ⟨_, _, hil, hol⟩ := trans_in hval hlt
    repeat (first | refine zaf ?_ | refine zak ?_ | refine zad ?_ | refine zal ?_ | refine zac ?_)
    refine zae ?_
    refine zab rfl rfl (zaa rfl) (zag rfl tf24_1 (by decide) rfl) ?_
    refine zab rfl rfl (zaa rfl) (zam rfl ta22 rfl) ?_
    refine zab rfl rfl (zaa rfl) (mv_s (.inl rfl) rfl) ?_
    refine zab rfl rfl (zaa rfl) (za1 rfl ts22 ti46 rfl rfl rfl (ix_map hlt) rfl) ?_
    refine zab rfl rfl (zaa rfl) (zas rfl ta46 ti46 rfl rfl) ?_
    refine zab rfl rfl (zaa rfl) (does_alloc rfl ti46 rfl rfl) ?_
    refine ops_eff rfl (zaa rfl) (za7 rfl ti46 rfl rfl rfl rfl rfl rfl (by decide) (by decide)) ?_
    refine zaj ?_
    repeat (first | refine zaf ?_ | refine zak ?_ | refine zad ?_ | refine zal ?_ | refine zac ?_)
    refine aw_draw hmix ?_
    refine adraw_lastT rfl (by kernel_rfl) ?_
    refine adraw_gen ?_
    simp only [List.dropLast]
    refine gx_free rfl rfl (zaa rfl) (fun _ => (zat rfl tf24_1 (by decide) rfl)) ?_
    refine gx_look rfl rfl (zaa rfl) (za3 rfl ta22 rfl rfl rfl rfl rfl) ?_
    refine gx_free rfl rfl (zaa rfl) (fun _ => (zat rfl tf46_0 (by decide) rfl)) ?_
    refine gx_look rfl rfl (zaa rfl) (za3 rfl ta9 rfl rfl rfl rfl rfl) ?_
    refine gx_free rfl rfl (zaa rfl) (fun _ => (does_lit0 rfl rfl ts30 ti3)) ?_
    refine gx_free rfl rfl (zaa rfl) (fun _ => (zat rfl tf46_2 (by decide) rfl)) ?_
    refine gx_look rfl rfl (zaa rfl) (za3 rfl ta30 rfl rfl rfl rfl rfl) ?_
    refine gx_free rfl rfl (zaa rfl) (fun _ => (does_append0F rfl ts30 ti3 rfl (by decide) rfl (.inl rfl) rfl (by first | exact .own _ _ _ rfl rfl _ (by first | rfl | simp) | exact .emp | exact .nil | exact .sl _ (by first | simp; done | intro e he; simp at he; obtain ⟨_, _, rfl⟩ := he; rfl)) (by first | omega | (simp; omega) | (unfold maxLen; simp; omega)) (by first | omega | (simp; omega) | (unfold maxLen; simp; omega)) (by repeat' (first | exact Lo.s _ | exact Lo.emp | exact Lo.any | exact zap | exact zao | refine zah ?_ ?_ | refine zai ?_ ?_ | refine zaq ?_ | refine zan ?_ | refine Lo.cells ?_ | refine Lo.agg _ ?_ | refine Lo.ref _ ?_ | refine Lo.tup _ ?_ | refine Lo.fn _ _ ?_ | refine Lo.sl _ ?_ | intro _)) (by repeat' (first | exact Lo.s _ | exact Lo.emp | exact Lo.any | exact zap | exact zao | refine zah ?_ ?_ | refine zai ?_ ?_ | refine zaq ?_ | refine zan ?_ | refine Lo.cells ?_ | refine Lo.agg _ ?_ | refine Lo.ref _ ?_ | refine Lo.tup _ ?_ | refine Lo.fn _ _ ?_ | refine Lo.sl _ ?_ | intro _)))) ?_
    refine gx_free rfl rfl (zaa rfl) (fun _ => (does_lit0 rfl rfl ts30 ti3)) ?_
    refine gx_free rfl rfl (zaa rfl) (fun _ => (zat rfl tf46_1 (by decide) rfl)) ?_
    refine gx_look rfl rfl (zaa rfl) (za3 rfl ta30 rfl rfl rfl rfl rfl) ?_
    refine gx_free rfl rfl (zaa rfl) (fun _ => (does_append0F rfl ts30 ti3 rfl (by decide) rfl (.inl rfl) rfl (by first | exact .own _ _ _ rfl rfl _ (by first | rfl | simp) | exact .emp | exact .nil | exact .sl _ (by first | simp; done | intro e he; simp at he; obtain ⟨_, _, rfl⟩ := he; rfl)) (by first | omega | (simp; omega) | (unfold maxLen; simp; omega)) (by first | omega | (simp; omega) | (unfold maxLen; simp; omega)) (by repeat' (first | exact Lo.s _ | exact Lo.emp | exact Lo.any | exact zap | exact zao | refine zah ?_ ?_ | refine zai ?_ ?_ | refine zaq ?_ | refine zan ?_ | refine Lo.cells ?_ | refine Lo.agg _ ?_ | refine Lo.ref _ ?_ | refine Lo.tup _ ?_ | refine Lo.fn _ _ ?_ | refine Lo.sl _ ?_ | intro _)) (by repeat' (first | exact Lo.s _ | exact Lo.emp | exact Lo.any | exact zap | exact zao | refine zah ?_ ?_ | refine zai ?_ ?_ | refine zaq ?_ | refine zan ?_ | refine Lo.cells ?_ | refine Lo.agg _ ?_ | refine Lo.ref _ ?_ | refine Lo.tup _ ?_ | refine Lo.fn _ _ ?_ | refine Lo.sl _ ?_ | intro _)))) ?_
    refine gx_free rfl rfl (zaa rfl) (fun _ => (does_build rfl ti46 tp46 rfl rfl)) ?_
    refine gx_free rfl rfl (zaa rfl) (fun _ => (does_litAF rfl ts22 ti46 rfl rfl (by decide) (by decide) rfl rfl rfl (by repeat' (first | exact Lo.s _ | exact Lo.emp | exact Lo.any | exact zap | exact zao | refine zah ?_ ?_ | refine zai ?_ ?_ | refine zaq ?_ | refine zan ?_ | refine Lo.cells ?_ | refine Lo.agg _ ?_ | refine Lo.ref _ ?_ | refine Lo.tup _ ?_ | refine Lo.fn _ _ ?_ | refine Lo.sl _ ?_ | intro _)))) ?_
    refine gx_eff rfl rfl (zaa rfl) (does_append rfl ts22 ti46 rfl (by decide) rfl rfl (by first | rfl | (simp; done) | (simp; omega)) rfl (by first | exact .own _ _ _ rfl rfl _ (by first | rfl | simp) | exact .emp | exact .nil | exact .sl _ (by first | simp; done | intro e he; simp at he; obtain ⟨_, _, rfl⟩ := he; rfl)) (by first | omega | (simp; omega) | (unfold maxLen; simp; omega)) (by first | omega | (simp; omega) | (unfold maxLen; simp; omega))) ?_
    refine gx_free rfl rfl (zaa rfl) (fun _ => (zat rfl tf24_1 (by decide) rfl)) ?_
    refine gx_nil (by kernel_rfl) ?_
    refine zak ?_
    refine ops_eff rfl (zaa rfl) (za7 rfl ti22 rfl rfl rfl rfl rfl rfl (by decide) (by decide)) ?_
    refine zaj ?_
    repeat (first | refine zaf ?_ | refine zak ?_ | refine zad ?_ | refine zal ?_ | refine zac ?_)
    refine zae ?_
    refine zab rfl rfl (zaa rfl) (mv_s (.inl rfl) rfl) ?_
    refine zab rfl rfl (zaa rfl) (does_add rfl rfl rfl (IntWalk.i64_in _ (by omega))) ?_
    refine zab rfl rfl (zaa rfl) (mv_s (.inr rfl) rfl) ?_
    refine zaj ?_
    repeat (first | refine zaf ?_ | refine zak ?_ | refine zad ?_ | refine zal ?_ | refine zac ?_)
    refine ⟨k + 1, by omega, by omega, ?_⟩
    exact wk_st [0, 1, 4] (by decide) ⟨⟨_, rfl, .rowE (by repeat' (first | exact Lo.s _ | exact Lo.emp | exact Lo.any | exact zap | exact zao | refine zah ?_ ?_ | refine zai ?_ ?_ | refine zaq ?_ | refine zan ?_ | refine Lo.cells ?_ | refine Lo.agg _ ?_ | refine Lo.ref _ ?_ | refine Lo.tup _ ?_ | refine Lo.fn _ _ ?_ | refine Lo.sl _ ?_ | intro _)) rfl⟩, ⟨_, rfl, obRn_agg (.cons (.lo _ (.s _)) (.cons (.own _ _ _ _ _ rfl (by simp)) (.cons (.lo _ (.s _)) (.cons (.lo _ (.s _)) .nil))))⟩, ⟨_, rfl, .rowE (by repeat' (first | exact Lo.s _ | exact Lo.emp | exact Lo.any | exact zap | exact zao | refine zah ?_ ?_ | refine zai ?_ ?_ | refine zaq ?_ | refine zan ?_ | refine Lo.cells ?_ | refine Lo.agg _ ?_ | refine Lo.ref _ ?_ | refine Lo.tup _ ?_ | refine Lo.fn _ _ ?_ | refine Lo.sl _ ?_ | intro _)) (by rw [List.range_succ, List.map_append]; rfl)⟩, trivial⟩ ⟨.lo _ (by repeat' (first | exact Lo.s _ | exact Lo.emp | exact Lo.any | exact zap | exact zao | refine zah ?_ ?_ | refine zai ?_ ?_ | refine zaq ?_ | refine zan ?_ | refine Lo.cells ?_ | refine Lo.agg _ ?_ | refine Lo.ref _ ?_ | refine Lo.tup _ ?_ | refine Lo.fn _ _ ?_ | refine Lo.sl _ ?_ | intro _)), .ptr 0 0 4 0 0 rfl, .ptr 1 1 4 0 0 rfl, .lo _ (by repeat' (first | exact Lo.s _ | exact Lo.emp | exact Lo.any | exact zap | exact zao | refine zah ?_ ?_ | refine zai ?_ ?_ | refine zaq ?_ | refine zan ?_ | refine Lo.cells ?_ | refine Lo.agg _ ?_ | refine Lo.ref _ ?_ | refine Lo.tup _ ?_ | refine Lo.fn _ _ ?_ | refine Lo.sl _ ?_ | intro _)), trivial⟩
  · have hkk : k = n.trans.length := by omega
    subst hkk
    have hE : ((List.range n.trans.length).map fun i => eT (revT (gti n.trans i))) = (n.trans.map revT).map eT := by
      apply List.ext_getElem
      · simp
      · intro i h1 h2
        simp at h1
        simp only [List.getElem_map, List.getElem_range]
        congr 2
        unfold gti
        rw [List.getElem?_eq_getElem h1]; rfl
    (refine aw_exit ?_; repeat (first | refine ath_x ?_ | refine abl_hit ?_ | refine abl_miss rfl ?_ | refine zal ?_ | refine zak ?_ | refine zaf ?_ | refine zad ?_ | refine zac ?_))
    refine zae ?_
    refine zab rfl rfl (zaa rfl) (does_load_whole rfl ta24 ti24 rfl rfl rfl rfl rfl) ?_
    refine ops_eff rfl (zaa rfl) (za7 rfl ti24 rfl rfl rfl rfl rfl rfl (by decide) (by decide)) ?_
    refine zaj ?_
    repeat (first | refine zaf ?_ | refine zak ?_ | refine zad ?_ | refine zal ?_ | refine zac ?_)
    (refine zbd ?_; repeat (first | refine ath_r ?_ | refine abl_r ?_))
    have hR : eN (revN n) = .agg [eI n.places, .sl ((List.range n.trans.length).map fun i => eT (revT (gti n.trans i))), eI n.sink, eI n.source] := by rw [hE]; rfl
    rw [hR]
    apply post1cf (.inr rfl) (cs1 := [eI n.places, .own 2 3 n.trans.length, eI n.sink, eI n.source])
    · exact ta24
    · exact ti24
    · exact rfl
    · exact rfl
    · exact rfl
    · exact rfl
    · exact rfl
    · exact rfl
    · exact .cons (.refl _) (.cons (.own _ _ _ _ _ rfl rfl (by simp)) (.cons (.refl _) (.cons (.refl _) .nil)))
end Go.Proofs.Ytmhbfoaecebobaa.Aw
end
section
namespace Go.Proofs.Ytmhbfoaecebobaa.Aw
set_option linter.unusedSimpArgs false
set_option linter.unusedVariables false
open Go.RowKit Go.Proofs
variable {P : Program} [IsP P]
def addL (L : List Int) : List Int → List Int
  | [] => L
  | q :: l => addL (if q ∈ L then L else L ++ [q]) l
theorem addL_snoc : ∀ (l : List Int) (L : List Int) (q : Int), addL L (l ++ [q]) = if q ∈ addL L l then addL L l else addL L l ++ [q]
  | [], L, q => rfl
  | x :: l, L, q => addL_snoc l _ q
def addT (n : Net) (x : Int) (L : List Int) (k : Nat) : List Int := if x ∈ (gti n.trans k).inn then addL L (gti n.trans k).out else L
def rndW (n : Net) (x : Int) (L : List Int) : Nat → List Int
  | 0 => L
  | k + 1 => addT n x (rndW n x L k) k
def rchW (n : Net) : Nat → Nat → List Int → List Int
  | 0, _, L => L
  | f + 1, i, L => if i < L.length then rchW n f (i + 1) (rndW n (gti L i) L n.trans.length) else L
def reachW (n : Net) (s : Int) : List Int := rchW n 41 0 [s]
structure LI (n : Net) (s : Int) (L : List Int) : Prop where
  nd : L.Nodup
  rng : ∀ p ∈ L, 0 ≤ p ∧ p < n.places
  st : s ∈ L
  rch : ∀ p ∈ L, Rch n false s p
theorem nodup_sub {α : Type} [BEq α] [LawfulBEq α] : ∀ {l m : List α}, l.Nodup → l ⊆ m → l.length ≤ m.length
  | [], m, _, _ => Nat.zero_le _
  | a :: l, m, h, hs => by
    rw [List.nodup_cons] at h
    have ha : a ∈ m := hs (List.mem_cons_self ..)
    have h1 : l ⊆ m.erase a := fun x hx => by
      have hne : x ≠ a := fun e => h.1 (e ▸ hx)
      exact (List.mem_erase_of_ne hne).2 (hs (List.mem_cons_of_mem _ hx))
    have h2 := nodup_sub h.2 h1
    rw [List.length_erase_of_mem ha] at h2
    have := List.length_pos_of_mem ha
    simp only [List.length_cons]
    omega
theorem nodup_len {L : List Int} {m : Int} (h : L.Nodup) (hr : ∀ p ∈ L, 0 ≤ p ∧ p < m) : (L.length : Int) ≤ m ∨ L = [] := by
  by_cases h0 : L = []
  · exact .inr h0
  · left
    have hm : 0 ≤ m := by
      obtain ⟨x, hx⟩ := List.exists_mem_of_ne_nil L h0
      have := hr x hx; omega
    have h1 : (L.map Int.toNat).Nodup := by
      rw [List.nodup_iff_pairwise_ne] at h ⊢
      rw [List.pairwise_map]
      refine List.Pairwise.imp_of_mem ?_ h
      intro a b ha hb hab e
      have := hr a ha; have := hr b hb
      omega
    have h2 : (L.map Int.toNat) ⊆ List.range m.toNat := by
      intro x hx
      obtain ⟨p, hp, rfl⟩ := List.mem_map.1 hx
      have := hr p hp
      simp; omega
    have h3 := nodup_sub h1 h2
    simp at h3
    omega
theorem LI.len {n : Net} {s : Int} {L : List Int} (h : LI n s L) : (L.length : Int) ≤ n.places ∧ 0 < L.length := by
  have h0 : 0 < L.length := List.length_pos_of_mem h.st
  rcases nodup_len h.nd h.rng with h1 | h1
  · exact ⟨h1, h0⟩
  · rw [h1] at h0; simp at h0
theorem LI.add1 {n : Net} {s : Int} {L : List Int} (h : LI n s L) {q : Int} (h1 : 0 ≤ q ∧ q < n.places) (h2 : Rch n false s q) : LI n s (if q ∈ L then L else L ++ [q]) := by
  by_cases hq : q ∈ L
  · rw [if_pos hq]; exact h
  · rw [if_neg hq]
    refine ⟨?_, fun p hp => ?_, by simp [h.st], fun p hp => ?_⟩
    · rw [List.nodup_append]
      refine ⟨h.nd, by simp, fun a ha b hb => ?_⟩
      simp at hb
      subst hb
      intro e; subst e; exact hq ha
    · simp only [List.mem_append, List.mem_singleton] at hp
      rcases hp with hp | rfl
      · exact h.rng p hp
      · exact h1
    · simp only [List.mem_append, List.mem_singleton] at hp
      rcases hp with hp | rfl
      · exact h.rch p hp
      · exact h2
theorem LI.addL {n : Net} {s : Int} : ∀ {l : List Int} {L : List Int}, LI n s L → (∀ q ∈ l, (0 ≤ q ∧ q < n.places) ∧ Rch n false s q) → LI n s (addL L l)
  | [], L, h, _ => h
  | q :: l, L, h, hl => LI.addL (l := l) (h.add1 (hl q (List.mem_cons_self ..)).1 (hl q (List.mem_cons_self ..)).2) (fun u hu => hl u (List.mem_cons_of_mem _ hu))
theorem LI.addT {n : Net} {s : Int} {L : List Int} (h : LI n s L) (hp : Plc n) {x : Int} (hx : Rch n false s x) {k : Nat} (hk : k < n.trans.length) : LI n s (addT n x L k) := by
  unfold Aw.addT
  split
  · rename_i hin
    exact h.addL (fun q hq => ⟨hp.out hk false q hq, .step hk hin hx hq⟩)
  · exact h
theorem LI.rnd {n : Net} {s : Int} {L : List Int} (h : LI n s L) (hp : Plc n) {x : Int} (hx : Rch n false s x) : ∀ {k : Nat}, k ≤ n.trans.length → LI n s (rndW n x L k)
  | 0, _ => h
  | k + 1, hk => (h.rnd hp hx (by omega)).addT hp hx hk
theorem addL_pre : ∀ (l : List Int) (L : List Int), ∃ t, addL L l = L ++ t ∧ ∀ q ∈ l, q ∈ addL L l
  | [], L => ⟨[], by simp [addL], by simp⟩
  | q :: l, L => by
    obtain ⟨t, h1, h2⟩ := addL_pre l (if q ∈ L then L else L ++ [q])
    have hq : q ∈ (if q ∈ L then L else L ++ [q]) := by split <;> simp_all
    refine ⟨(if q ∈ L then [] else [q]) ++ t, ?_, fun u hu => ?_⟩
    · rw [addL, h1]; split <;> simp
    · rw [addL]
      rcases List.mem_cons.1 hu with rfl | hu
      · rw [h1]; exact List.mem_append_left _ hq
      · exact h2 u hu
theorem rndW_pre (n : Net) (x : Int) (L : List Int) : ∀ k, ∃ t, rndW n x L k = L ++ t
  | 0 => ⟨[], by simp [rndW]⟩
  | k + 1 => by
    obtain ⟨t, h⟩ := rndW_pre n x L k
    rw [rndW, addT, h]
    split
    · obtain ⟨u, h2, _⟩ := addL_pre (gti n.trans k).out (L ++ t)
      exact ⟨t ++ u, by rw [h2, List.append_assoc]⟩
    · exact ⟨t, rfl⟩
theorem rndW_mem (n : Net) (x : Int) (L : List Int) : ∀ (k j : Nat), j < k → x ∈ (gti n.trans j).inn → ∀ q ∈ (gti n.trans j).out, q ∈ rndW n x L k
  | 0, j, h, _, _, _ => by omega
  | k + 1, j, h, hx, q, hq => by
    rw [rndW]
    by_cases hj : j = k
    · subst hj
      rw [addT, if_pos hx]
      exact (addL_pre _ _).choose_spec.2 q hq
    · have h1 := rndW_mem n x L k j (by omega) hx q hq
      unfold addT
      split
      · obtain ⟨t, h2, _⟩ := addL_pre (gti n.trans k).out (rndW n x L k)
        rw [h2]; exact List.mem_append_left _ h1
      · exact h1
def LC (n : Net) (L : List Int) (i : Nat) : Prop := ∀ j, j < i → ∀ k, k < n.trans.length → gti L j ∈ (gti n.trans k).inn → ∀ q ∈ (gti n.trans k).out, q ∈ L
theorem gti_app {α : Type} [Inhabited α] {L t : List α} {j : Nat} (h : j < L.length) : gti (L ++ t) j = gti L j := by unfold gti; rw [List.getElem?_append_left h]
theorem LC.rnd {n : Net} {L : List Int} {i : Nat} (h : LC n L i) (hi : i < L.length) : LC n (rndW n (gti L i) L n.trans.length) (i + 1) := by
  intro j hj k hk hin q hq
  obtain ⟨t, ht⟩ := rndW_pre n (gti L i) L n.trans.length
  have hjl : j < L.length := by omega
  have e : gti (rndW n (gti L i) L n.trans.length) j = gti L j := by rw [ht, gti_app hjl]
  rw [e] at hin
  by_cases hji : j = i
  · subst hji
    exact rndW_mem n _ L n.trans.length k hk hin q hq
  · rw [ht]
    exact List.mem_append_left _ (h j (by omega) k hk hin q hq)
theorem LC.all {n : Net} {s : Int} {L : List Int} (h : LI n s L) (hc : LC n L L.length) (p : Int) : p ∈ L ↔ Rch n false s p := by
  refine ⟨h.rch p, fun hr => ?_⟩
  induction hr with
  | start => exact h.st
  | @step k p q hk hin _ hq ih =>
    obtain ⟨j, hj, rfl⟩ := List.getElem_of_mem ih
    have e : gti L j = L[j] := by unfold gti; rw [List.getElem?_eq_getElem hj]; rfl
    exact hc j hj k hk (by rw [e]; exact hin) q hq
theorem rchW_spec {n : Net} {s : Int} (hp : Plc n) (h40 : n.places ≤ 40) : ∀ (f i : Nat) (L : List Int), 41 ≤ f + i → i ≤ L.length → LI n s L → LC n L i → LI n s (rchW n f i L) ∧ LC n (rchW n f i L) (rchW n f i L).length
  | 0, i, L, hf, hi, h, hc => by have := h.len; omega
  | f + 1, i, L, hf, hi, h, hc => by
    rw [rchW]
    by_cases hlt : i < L.length
    · rw [if_pos hlt]
      obtain ⟨t, ht⟩ := rndW_pre n (gti L i) L n.trans.length
      exact rchW_spec hp h40 f (i + 1) _ (by omega) (by rw [ht]; simp; omega) (h.rnd hp (h.rch _ (gti_mem hlt)) (Nat.le_refl _)) (hc.rnd hlt)
    · rw [if_neg hlt]
      obtain rfl : i = L.length := by omega
      exact ⟨h, hc⟩
theorem LI.init {n : Net} {s : Int} (h : 0 ≤ s ∧ s < n.places) : LI n s [s] := ⟨by simp, fun p hp => by simp at hp; subst hp; exact h, by simp, fun p hp => by simp at hp; subst hp; exact .start⟩
theorem reachW_iff {n : Net} {s : Int} (hv : zbc n = true) (h : 0 ≤ s ∧ s < n.places) (p : Int) : p ∈ reachW n s ↔ Rch n false s p := by
  have h1 := rchW_spec (Plc.of hv) (za8 hv).2.1 41 0 [s] (by omega) (by omega) (LI.init h) (fun j hj => by omega)
  exact LC.all h1.1 h1.2 p
end Go.Proofs.Ytmhbfoaecebobaa.Aw
end
section
namespace Go.Proofs.Ytmhbfoaecebobaa.Aw
set_option linter.unusedSimpArgs false
set_option linter.unusedVariables false
open Go.RowKit Go.Proofs
variable {P : Program} [IsP P]
theorem not_mem_take_succ {α : Type} [Inhabited α] {l : List α} {x : α} {k : Nat} (hlt : k < l.length) (h : x ∉ l.take k) (hne : gti l k ≠ x) : x ∉ l.take (k + 1) := by
  rw [List.take_add_one, gti_get hlt]
  simp only [List.mem_append, Option.toList_some, List.mem_singleton, not_or]
  exact ⟨h, fun e => hne e.symm⟩
theorem Has_pf (l : List Int) (x : Int) : Pure P 52 [eL eI l, eI x] (eB (decide (x ∈ l))) := by
  refine aw_fn (by rw [IsP.eq (P := P)]; exact Try.func52) rfl rfl rfl rfl rfl (by repeat' (first | exact Lo.s _ | exact Lo.emp | exact Lo.any | exact zap | exact zao | refine zah ?_ ?_ | refine zai ?_ ?_ | refine zaq ?_ | refine zan ?_ | refine Lo.cells ?_ | refine Lo.agg _ ?_ | refine Lo.ref _ ?_ | refine Lo.tup _ ?_ | refine Lo.fn _ _ ?_ | refine Lo.sl _ ?_ | intro _)) (by repeat' (first | exact Lo.s _ | exact Lo.emp | exact Lo.any | exact zap | exact zao | refine zah ?_ ?_ | refine zai ?_ ?_ | refine zaq ?_ | refine zan ?_ | refine Lo.cells ?_ | refine Lo.agg _ ?_ | refine Lo.ref _ ?_ | refine Lo.tup _ ?_ | refine Lo.fn _ _ ?_ | refine Lo.sl _ ?_ | intro _)) (by simp only [argF]; rfl) ?_
  repeat (first | refine zaf ?_ | refine zak ?_ | refine zad ?_ | refine zal ?_ | refine zac ?_)
  refine zae ?_
  refine zab rfl rfl (zaa rfl) (mv_s (.inr rfl) rfl) ?_
  refine zaj ?_
  repeat (first | refine zaf ?_ | refine zak ?_ | refine zad ?_ | refine zal ?_ | refine zac ?_)
  refine aw_bdm (d := 0) rfl (fun ha => ?_)
  unfold maxLen at ha
  refine zae ?_
  refine zab rfl rfl (zaa rfl) (mv_s (.inr rfl) rfl) ?_
  refine zaj ?_
  repeat (first | refine zaf ?_ | refine zak ?_ | refine zad ?_ | refine zal ?_ | refine zac ?_)
  refine aw_loops (S := Nat) (fun k => [(0, eL eI l), (1, eI x), (5, eI k)]) (fun _ => []) (fun k => k ≤ l.length ∧ x ∉ l.take k) (fun k => l.length - k) 0 (wk_sub _ ⟨rfl, rfl, rfl, trivial⟩) ⟨by omega, by simp⟩ (fun k hk => ?_)
  repeat (first | refine zaf ?_ | refine zak ?_ | refine zad ?_ | refine zal ?_ | refine zac ?_)
  refine zae ?_
  refine zab rfl rfl (zaa rfl) (mv_s (.inl rfl) rfl) ?_
  refine zab rfl rfl (zaa rfl) (mv_sl (.inl rfl) rfl) ?_
  refine zab rfl rfl (zaa rfl) (za2 rfl ts30 rfl) ?_
  refine zab rfl rfl (zaa rfl) (does_lss rfl rfl rfl) ?_
  refine zaj ?_
  repeat (first | refine zaf ?_ | refine zak ?_ | refine zad ?_ | refine zal ?_ | refine zac ?_)
  refine aw_if rfl (fun h => ?_) (fun h => ?_)
  · have hlt : k < l.length := by omega
    repeat (first | refine zaf ?_ | refine zak ?_ | refine zad ?_ | refine zal ?_ | refine zac ?_)
    refine zae ?_
    refine zab rfl rfl (zaa rfl) (mv_sl (.inl rfl) rfl) ?_
    refine zab rfl rfl (zaa rfl) (mv_s (.inl rfl) rfl) ?_
    refine zab rfl rfl (zaa rfl) (za1 rfl ts30 ti3 rfl rfl rfl (ix_map hlt) rfl) ?_
    refine zab rfl rfl (zaa rfl) (zam rfl ta3 rfl) ?_
    refine zab rfl rfl (zaa rfl) (mv_s (.inl rfl) rfl) ?_
    refine zab rfl rfl (zaa rfl) (does_eql rfl rfl rfl) ?_
    refine zaj ?_
    repeat (first | refine zaf ?_ | refine zak ?_ | refine zad ?_ | refine zal ?_ | refine zac ?_)
    refine aw_if rfl (fun h => ?_) (fun h => ?_)
    · repeat (first | refine zaf ?_ | refine zak ?_ | refine zad ?_ | refine zal ?_ | refine zac ?_)
      refine zae ?_
      refine zab rfl rfl (zaa rfl) (mv_s (.inr rfl) rfl) ?_
      refine zaj ?_
      repeat (first | refine zaf ?_ | refine zak ?_ | refine zad ?_ | refine zal ?_ | refine zac ?_)
      (refine zbd ?_; repeat (first | refine ath_r ?_ | refine abl_r ?_))
      refine post1 (.inr rfl) rfl (congrArg eB ?_)
      have : x ∈ l := h ▸ gti_mem hlt
      simp [this]
    · repeat (first | refine zaf ?_ | refine zak ?_ | refine zad ?_ | refine zal ?_ | refine zac ?_)
      refine zae ?_
      refine zab rfl rfl (zaa rfl) (mv_s (.inl rfl) rfl) ?_
      refine zab rfl rfl (zaa rfl) (does_add rfl rfl rfl (IntWalk.i64_in _ (by omega))) ?_
      refine zab rfl rfl (zaa rfl) (mv_s (.inr rfl) rfl) ?_
      refine zaj ?_
      repeat (first | refine zaf ?_ | refine zak ?_ | refine zad ?_ | refine zal ?_ | refine zac ?_)
      exact ⟨k + 1, ⟨by omega, not_mem_take_succ hlt hk.2 h⟩, by omega, wk_sub _ ⟨rfl, rfl, rfl, trivial⟩⟩
  · (refine aw_exit ?_; repeat (first | refine ath_x ?_ | refine abl_hit ?_ | refine abl_miss rfl ?_ | refine zal ?_ | refine zak ?_ | refine zaf ?_ | refine zad ?_ | refine zac ?_))
    refine zae ?_
    refine zab rfl rfl (zaa rfl) (mv_s (.inr rfl) rfl) ?_
    refine zaj ?_
    repeat (first | refine zaf ?_ | refine zak ?_ | refine zad ?_ | refine zal ?_ | refine zac ?_)
    (refine zbd ?_; repeat (first | refine ath_r ?_ | refine abl_r ?_))
    refine post1 (.inr rfl) rfl (congrArg eB ?_)
    have h2 := hk.2
    rw [List.take_of_length_le (by omega)] at h2
    simp [h2]
theorem some_pf (a b : List Int) : Pure P 53 [eL eI a, eL eI b] (eB (a.any fun y => decide (y ∈ b))) := by
  refine aw_fn (by rw [IsP.eq (P := P)]; exact Try.func53) rfl rfl rfl rfl rfl (by repeat' (first | exact Lo.s _ | exact Lo.emp | exact Lo.any | exact zap | exact zao | refine zah ?_ ?_ | refine zai ?_ ?_ | refine zaq ?_ | refine zan ?_ | refine Lo.cells ?_ | refine Lo.agg _ ?_ | refine Lo.ref _ ?_ | refine Lo.tup _ ?_ | refine Lo.fn _ _ ?_ | refine Lo.sl _ ?_ | intro _)) (by repeat' (first | exact Lo.s _ | exact Lo.emp | exact Lo.any | exact zap | exact zao | refine zah ?_ ?_ | refine zai ?_ ?_ | refine zaq ?_ | refine zan ?_ | refine Lo.cells ?_ | refine Lo.agg _ ?_ | refine Lo.ref _ ?_ | refine Lo.tup _ ?_ | refine Lo.fn _ _ ?_ | refine Lo.sl _ ?_ | intro _)) (by simp only [argF]; rfl) ?_
  repeat (first | refine zaf ?_ | refine zak ?_ | refine zad ?_ | refine zal ?_ | refine zac ?_)
  refine zae ?_
  refine zab rfl rfl (zaa rfl) (mv_s (.inr rfl) rfl) ?_
  refine zaj ?_
  repeat (first | refine zaf ?_ | refine zak ?_ | refine zad ?_ | refine zal ?_ | refine zac ?_)
  refine aw_bdm (d := 0) rfl (fun ha => ?_)
  unfold maxLen at ha
  refine zae ?_
  refine zab rfl rfl (zaa rfl) (mv_s (.inr rfl) rfl) ?_
  refine zaj ?_
  repeat (first | refine zaf ?_ | refine zak ?_ | refine zad ?_ | refine zal ?_ | refine zac ?_)
  refine aw_loops (S := Nat) (fun k => [(0, eL eI a), (1, eL eI b), (5, eI k)]) (fun _ => []) (fun k => k ≤ a.length ∧ ∀ y ∈ a.take k, y ∉ b) (fun k => a.length - k) 0 (wk_sub _ ⟨rfl, rfl, rfl, trivial⟩) ⟨by omega, by simp⟩ (fun k hk => ?_)
  repeat (first | refine zaf ?_ | refine zak ?_ | refine zad ?_ | refine zal ?_ | refine zac ?_)
  refine zae ?_
  refine zab rfl rfl (zaa rfl) (mv_s (.inl rfl) rfl) ?_
  refine zab rfl rfl (zaa rfl) (mv_sl (.inl rfl) rfl) ?_
  refine zab rfl rfl (zaa rfl) (za2 rfl ts30 rfl) ?_
  refine zab rfl rfl (zaa rfl) (does_lss rfl rfl rfl) ?_
  refine zaj ?_
  repeat (first | refine zaf ?_ | refine zak ?_ | refine zad ?_ | refine zal ?_ | refine zac ?_)
  refine aw_if rfl (fun h => ?_) (fun h => ?_)
  · have hlt : k < a.length := by omega
    repeat (first | refine zaf ?_ | refine zak ?_ | refine zad ?_ | refine zal ?_ | refine zac ?_)
    refine zae ?_
    refine zab rfl rfl (zaa rfl) (mv_sl (.inl rfl) rfl) ?_
    refine zab rfl rfl (zaa rfl) (mv_sl (.inl rfl) rfl) ?_
    refine zab rfl rfl (zaa rfl) (mv_s (.inl rfl) rfl) ?_
    refine zab rfl rfl (zaa rfl) (za1 rfl ts30 ti3 rfl rfl rfl (ix_map hlt) rfl) ?_
    refine zab rfl rfl (zaa rfl) (zam rfl ta3 rfl) ?_
    refine zab rfl rfl (zaa rfl) (zav rfl rfl (Has_pf b (gti a k)) (zar rfl (zar rfl za0))) ?_
    refine zaj ?_
    repeat (first | refine zaf ?_ | refine zak ?_ | refine zad ?_ | refine zal ?_ | refine zac ?_)
    refine aw_if rfl (fun h => ?_) (fun h => ?_)
    · repeat (first | refine zaf ?_ | refine zak ?_ | refine zad ?_ | refine zal ?_ | refine zac ?_)
      refine zae ?_
      refine zab rfl rfl (zaa rfl) (mv_s (.inr rfl) rfl) ?_
      refine zaj ?_
      repeat (first | refine zaf ?_ | refine zak ?_ | refine zad ?_ | refine zal ?_ | refine zac ?_)
      (refine zbd ?_; repeat (first | refine ath_r ?_ | refine abl_r ?_))
      refine post1 (.inr rfl) rfl (congrArg eB ?_)
      symm
      exact List.any_eq_true.2 ⟨_, gti_mem hlt, by simpa using h⟩
    · repeat (first | refine zaf ?_ | refine zak ?_ | refine zad ?_ | refine zal ?_ | refine zac ?_)
      refine zae ?_
      refine zab rfl rfl (zaa rfl) (mv_s (.inl rfl) rfl) ?_
      refine zab rfl rfl (zaa rfl) (does_add rfl rfl rfl (IntWalk.i64_in _ (by omega))) ?_
      refine zab rfl rfl (zaa rfl) (mv_s (.inr rfl) rfl) ?_
      refine zaj ?_
      repeat (first | refine zaf ?_ | refine zak ?_ | refine zad ?_ | refine zal ?_ | refine zac ?_)
      refine ⟨k + 1, ⟨by omega, fun y hy => ?_⟩, by omega, wk_sub _ ⟨rfl, rfl, rfl, trivial⟩⟩
      rw [List.take_add_one, gti_get hlt] at hy
      simp only [List.mem_append, Option.toList_some, List.mem_singleton] at hy
      rcases hy with hy | rfl
      · exact hk.2 y hy
      · exact h
  · (refine aw_exit ?_; repeat (first | refine ath_x ?_ | refine abl_hit ?_ | refine abl_miss rfl ?_ | refine zal ?_ | refine zak ?_ | refine zaf ?_ | refine zad ?_ | refine zac ?_))
    refine zae ?_
    refine zab rfl rfl (zaa rfl) (mv_s (.inr rfl) rfl) ?_
    refine zaj ?_
    repeat (first | refine zaf ?_ | refine zak ?_ | refine zad ?_ | refine zal ?_ | refine zac ?_)
    (refine zbd ?_; repeat (first | refine ath_r ?_ | refine abl_r ?_))
    refine post1 (.inr rfl) rfl (congrArg eB ?_)
    have h2 := hk.2
    rw [List.take_of_length_le (by omega)] at h2
    symm
    exact List.any_eq_false.2 (fun y hy => by simpa using h2 y hy)
set_option maxHeartbeats 4000000 in
theorem reach_pf (n : Net) (s : Int) (hval : zbc n = true) (hs : 0 ≤ s ∧ s < n.places) : Pure P 50 [eN n, eI s] (eL eI (reachW n s)) := by
  have hpl := za8 hval
  have hplc := Plc.of hval
  refine aw_fn (by rw [IsP.eq (P := P)]; exact Try.func50) rfl rfl rfl rfl rfl (by repeat' (first | exact Lo.s _ | exact Lo.emp | exact Lo.any | exact zap | exact zao | refine zah ?_ ?_ | refine zai ?_ ?_ | refine zaq ?_ | refine zan ?_ | refine Lo.cells ?_ | refine Lo.agg _ ?_ | refine Lo.ref _ ?_ | refine Lo.tup _ ?_ | refine Lo.fn _ _ ?_ | refine Lo.sl _ ?_ | intro _)) (by repeat' (first | exact Lo.s _ | exact Lo.emp | exact Lo.any | exact zap | exact zao | refine zah ?_ ?_ | refine zai ?_ ?_ | refine zaq ?_ | refine zan ?_ | refine Lo.cells ?_ | refine Lo.agg _ ?_ | refine Lo.ref _ ?_ | refine Lo.tup _ ?_ | refine Lo.fn _ _ ?_ | refine Lo.sl _ ?_ | intro _)) (by simp only [argF]; rfl) ?_
  repeat (first | refine zaf ?_ | refine zak ?_ | refine zad ?_ | refine zal ?_ | refine zac ?_)
  refine zae ?_
  refine zab rfl rfl (zaa rfl) (does_box rfl rfl rfl rfl) ?_
  refine za5 (wk_froz (id := 0) rfl) (za5 (wk_ref (d := 2) rfl rfl rfl) ?_)
  refine zab rfl rfl (zaa rfl) (mv_s (.inr rfl) rfl) ?_
  refine zaj ?_
  repeat (first | refine zaf ?_ | refine zak ?_ | refine zad ?_ | refine zal ?_ | refine zac ?_)
  refine zae ?_
  refine zab rfl rfl (zaa rfl) (mv_s (.inl rfl) rfl) ?_
  refine zab rfl rfl (zaa rfl) (lit1_s rfl ts30 ti3 rfl rfl rfl rfl) ?_
  refine zab rfl rfl (zaa rfl) (mv_own (.inr rfl) rfl) ?_
  refine zaj ?_
  repeat (first | refine zaf ?_ | refine zak ?_ | refine zad ?_ | refine zal ?_ | refine zac ?_)
  refine zae ?_
  refine zab rfl rfl (zaa rfl) (mv_s (.inr rfl) rfl) ?_
  refine zaj ?_
  repeat (first | refine zaf ?_ | refine zak ?_ | refine zad ?_ | refine zal ?_ | refine zac ?_)
  refine aw_loops (S := List Int × Nat) (fun q => [(2, .ref (eN n).cells), (5, .own 0 1 q.1.length), (6, eI q.2)]) (fun q => [.row 1 (q.1.map eI)]) (fun q => q.2 ≤ q.1.length ∧ LI n s q.1 ∧ reachW n s = rchW n (41 - q.2) q.2 q.1) (fun q => 41 - q.2) ([s], 0)
    (wk_st [1] (by decide) ⟨⟨_, rfl, .rowE (by repeat' (first | exact Lo.s _ | exact Lo.emp | exact Lo.any | exact zap | exact zao | refine zah ?_ ?_ | refine zai ?_ ?_ | refine zaq ?_ | refine zan ?_ | refine Lo.cells ?_ | refine Lo.agg _ ?_ | refine Lo.ref _ ?_ | refine Lo.tup _ ?_ | refine Lo.fn _ _ ?_ | refine Lo.sl _ ?_ | intro _)) rfl⟩, trivial⟩ ⟨.lo _ (by repeat' (first | exact Lo.s _ | exact Lo.emp | exact Lo.any | exact zap | exact zao | refine zah ?_ ?_ | refine zai ?_ ?_ | refine zaq ?_ | refine zan ?_ | refine Lo.cells ?_ | refine Lo.agg _ ?_ | refine Lo.ref _ ?_ | refine Lo.tup _ ?_ | refine Lo.fn _ _ ?_ | refine Lo.sl _ ?_ | intro _)), .own 1 0 1 _ _ rfl rfl, .lo _ (by repeat' (first | exact Lo.s _ | exact Lo.emp | exact Lo.any | exact zap | exact zao | refine zah ?_ ?_ | refine zai ?_ ?_ | refine zaq ?_ | refine zan ?_ | refine Lo.cells ?_ | refine Lo.agg _ ?_ | refine Lo.ref _ ?_ | refine Lo.tup _ ?_ | refine Lo.fn _ _ ?_ | refine Lo.sl _ ?_ | intro _)), trivial⟩) ⟨by simp, LI.init hs, rfl⟩ ?_
  rintro ⟨L, i⟩ ⟨hil, HL, HE⟩
  dsimp only at hil HL HE ⊢
  have hll := HL.len
  repeat (first | refine zaf ?_ | refine zak ?_ | refine zad ?_ | refine zal ?_ | refine zac ?_)
  refine zae ?_
  refine zab rfl rfl (zaa rfl) (mv_s (.inl rfl) rfl) ?_
  refine zab rfl rfl (zaa rfl) (mv_own (.inl rfl) rfl) ?_
  refine zab rfl rfl (zaa rfl) (does_len_own rfl ts30 rfl) ?_
  refine zab rfl rfl (zaa rfl) (does_lss rfl rfl rfl) ?_
  refine zaj ?_
  repeat (first | refine zaf ?_ | refine zak ?_ | refine zad ?_ | refine zal ?_ | refine zac ?_)
  refine aw_if rfl (fun h => ?_) (fun h => ?_)
  · have hlt : i < L.length := by omega
    have HE1 : reachW n s = rchW n (41 - (i + 1)) (i + 1) (rndW n (gti L i) L n.trans.length) := by
      rw [HE, show 41 - i = (41 - (i + 1)) + 1 by omega, rchW, if_pos hlt]
    have hxr := HL.rch _ (gti_mem hlt)
    obtain ⟨x, hx⟩ : ∃ x, gti L i = x := ⟨_, rfl⟩
    rw [hx] at HE1 hxr
    repeat (first | refine zaf ?_ | refine zak ?_ | refine zad ?_ | refine zal ?_ | refine zac ?_)
    refine zae ?_
    refine zab rfl rfl (zaa rfl) (mv_s (.inr rfl) rfl) ?_
    refine zaj ?_
    repeat (first | refine zaf ?_ | refine zak ?_ | refine zad ?_ | refine zal ?_ | refine zac ?_)
    refine aw_loops (S := Nat) (fun k => [(2, .ref (eN n).cells), (5, .own 0 1 (rndW n x L k).length), (6, eI i), (7, eI k)]) (fun k => [.row 1 ((rndW n x L k).map eI)]) (fun k => k ≤ n.trans.length) (fun k => n.trans.length - k) 0 (wk_sub _ ⟨rfl, rfl, rfl, rfl, trivial⟩) (Nat.zero_le _) (fun k hk => ?_)
    have HK := HL.rnd hplc hxr hk
    have hkl := HK.len
    have hki : gti (rndW n x L k) i = x ∧ i < (rndW n x L k).length := by
      obtain ⟨t, ht⟩ := rndW_pre n x L k
      rw [ht, gti_app hlt, hx]
      exact ⟨rfl, by simp; omega⟩
    have HS : rndW n x L (k + 1) = addT n x (rndW n x L k) k := rfl
    have HX : k = n.trans.length → reachW n s = rchW n (41 - (i + 1)) (i + 1) (rndW n x L k) := fun h => by rw [HE1, h]
    generalize rndW n x L k = K at *
    repeat (first | refine zaf ?_ | refine zak ?_ | refine zad ?_ | refine zal ?_ | refine zac ?_)
    refine zae ?_
    refine zab rfl rfl (zaa rfl) (mv_s (.inl rfl) rfl) ?_
    refine zab rfl rfl (zaa rfl) (zag rfl tf24_1 (by decide) rfl) ?_
    refine zab rfl rfl (zaa rfl) (zam rfl ta22 rfl) ?_
    refine zab rfl rfl (zaa rfl) (za2 rfl ts22 rfl) ?_
    refine zab rfl rfl (zaa rfl) (does_lss rfl rfl rfl) ?_
    refine zaj ?_
    repeat (first | refine zaf ?_ | refine zak ?_ | refine zad ?_ | refine zal ?_ | refine zac ?_)
    refine aw_if rfl (fun h => ?_) (fun h => ?_)
    · have hlk : k < n.trans.length := by omega
      obtain ⟨_, _, hil2, hol2⟩ := trans_in hval hlk
      repeat (first | refine zaf ?_ | refine zak ?_ | refine zad ?_ | refine zal ?_ | refine zac ?_)
      refine aw_draw hmix ?_
      refine adraw_quiet (by kernel_rfl) ?_
      refine zba rfl rfl (zaa rfl) (zag rfl tf24_1 (by decide) rfl) ?_
      refine zba rfl rfl (zaa rfl) (zam rfl ta22 rfl) ?_
      refine zba rfl rfl (zaa rfl) (mv_s (.inl rfl) rfl) ?_
      refine zba rfl rfl (zaa rfl) (za1 rfl ts22 ti46 rfl rfl rfl (ix_map hlk) rfl) ?_
      refine zba rfl rfl (zaa rfl) (zag rfl tf46_1 (by decide) rfl) ?_
      refine zba rfl rfl (zaa rfl) (zam rfl ta30 rfl) ?_
      refine zba rfl rfl (zaa rfl) (mv_own (.inl rfl) rfl) ?_
      refine zba rfl rfl (zaa rfl) (mv_s (.inl rfl) rfl) ?_
      refine zba rfl rfl (zaa rfl) (does_index_own rfl ts30 ti3 rfl rfl rfl hki.2) ?_
      refine zba rfl rfl (zaa rfl) (za3 rfl ta3 rfl rfl rfl (ix_map hki.2) rfl) ?_
      refine zba rfl rfl (zaa rfl) (zav rfl rfl (Has_pf (gti n.trans k).inn (gti K i)) (zar rfl (zar rfl za0))) ?_
      refine zba rfl rfl (zaa rfl) (does_notp rfl rfl) ?_
      refine qx_nil ?_
      repeat (first | refine zaf ?_ | refine zak ?_ | refine zad ?_ | refine zal ?_ | refine zac ?_)
      rw [hki.1]
      refine aw_if rfl (fun h0 => ?_) (fun h0 => ?_)
      · (refine aw_exit ?_; repeat (first | refine ath_x ?_ | refine abl_hit ?_ | refine abl_miss rfl ?_ | refine zal ?_ | refine zak ?_ | refine zaf ?_ | refine zad ?_ | refine zac ?_))
        refine zae ?_
        refine zab rfl rfl (zaa rfl) (mv_s (.inl rfl) rfl) ?_
        refine zab rfl rfl (zaa rfl) (does_add rfl rfl rfl (IntWalk.i64_in _ (by omega))) ?_
        refine zab rfl rfl (zaa rfl) (mv_s (.inr rfl) rfl) ?_
        refine zaj ?_
        repeat (first | refine zaf ?_ | refine zak ?_ | refine zad ?_ | refine zal ?_ | refine zac ?_)
        have hS : rndW n x L (k + 1) = K := by rw [HS]; unfold addT; rw [if_neg h0]
        refine ⟨k + 1, by omega, by omega, ?_⟩
        rw [hS]
        exact wk_sub _ ⟨rfl, rfl, rfl, rfl, trivial⟩
      · have hS : rndW n x L (k + 1) = addL K (gti n.trans k).out := by rw [HS]; unfold addT; rw [if_pos (by simpa using h0)]
        have h0' : x ∈ (gti n.trans k).inn := by simpa using h0
        have hout : ∀ q ∈ (gti n.trans k).out, (0 ≤ q ∧ q < n.places) ∧ Rch n false s q := fun q hq => ⟨hplc.out hlk false q hq, .step hlk h0' hxr hq⟩
        repeat (first | refine zaf ?_ | refine zak ?_ | refine zad ?_ | refine zal ?_ | refine zac ?_)
        refine zae ?_
        refine zab rfl rfl (zaa rfl) (mv_s (.inr rfl) rfl) ?_
        refine zaj ?_
        repeat (first | refine zaf ?_ | refine zak ?_ | refine zad ?_ | refine zal ?_ | refine zac ?_)
        refine aw_loops (S := Nat) (fun j => [(2, .ref (eN n).cells), (5, .own 0 1 (addL K ((gti n.trans k).out.take j)).length), (6, eI i), (7, eI k), (8, eI j)]) (fun j => [.row 1 ((addL K ((gti n.trans k).out.take j)).map eI)]) (fun j => j ≤ (gti n.trans k).out.length) (fun j => (gti n.trans k).out.length - j) 0 (wk_sub _ ⟨rfl, rfl, rfl, rfl, rfl, trivial⟩) (Nat.zero_le _) (fun j hj => ?_)
        have HJ : LI n s (addL K ((gti n.trans k).out.take j)) := HK.addL (fun q hq => hout q (List.mem_of_mem_take hq))
        have hjl := HJ.len
        have HSJ : j < (gti n.trans k).out.length → addL K ((gti n.trans k).out.take (j + 1)) = if gti (gti n.trans k).out j ∈ addL K ((gti n.trans k).out.take j) then addL K ((gti n.trans k).out.take j) else addL K ((gti n.trans k).out.take j) ++ [gti (gti n.trans k).out j] := fun h => by rw [take_snoc' h, addL_snoc]
        have HXJ : j = (gti n.trans k).out.length → rndW n x L (k + 1) = addL K ((gti n.trans k).out.take j) := fun h => by rw [hS, h, List.take_length]
        generalize addL K ((gti n.trans k).out.take j) = J at *
        repeat (first | refine zaf ?_ | refine zak ?_ | refine zad ?_ | refine zal ?_ | refine zac ?_)
        refine zae ?_
        refine zab rfl rfl (zaa rfl) (mv_s (.inl rfl) rfl) ?_
        refine zab rfl rfl (zaa rfl) (zag rfl tf24_1 (by decide) rfl) ?_
        refine zab rfl rfl (zaa rfl) (zam rfl ta22 rfl) ?_
        refine zab rfl rfl (zaa rfl) (mv_s (.inl rfl) rfl) ?_
        refine zab rfl rfl (zaa rfl) (za1 rfl ts22 ti46 rfl rfl rfl (ix_map hlk) rfl) ?_
        refine zab rfl rfl (zaa rfl) (zag rfl tf46_2 (by decide) rfl) ?_
        refine zab rfl rfl (zaa rfl) (zam rfl ta30 rfl) ?_
        refine zab rfl rfl (zaa rfl) (za2 rfl ts30 rfl) ?_
        refine zab rfl rfl (zaa rfl) (does_lss rfl rfl rfl) ?_
        refine zaj ?_
        repeat (first | refine zaf ?_ | refine zak ?_ | refine zad ?_ | refine zal ?_ | refine zac ?_)
        refine aw_if rfl (fun h => ?_) (fun h => ?_)
        · have hlj : j < (gti n.trans k).out.length := by omega
          have HSJ2 := HSJ hlj
          repeat (first | refine zaf ?_ | refine zak ?_ | refine zad ?_ | refine zal ?_ | refine zac ?_)
          refine zae ?_
          refine zab rfl rfl (zaa rfl) (mv_own (.inl rfl) rfl) ?_
          refine zab rfl rfl (zaa rfl) (zag rfl tf24_1 (by decide) rfl) ?_
          refine zab rfl rfl (zaa rfl) (zam rfl ta22 rfl) ?_
          refine zab rfl rfl (zaa rfl) (mv_s (.inl rfl) rfl) ?_
          refine zab rfl rfl (zaa rfl) (za1 rfl ts22 ti46 rfl rfl rfl (ix_map hlk) rfl) ?_
          refine zab rfl rfl (zaa rfl) (zag rfl tf46_2 (by decide) rfl) ?_
          refine zab rfl rfl (zaa rfl) (zam rfl ta30 rfl) ?_
          refine zab rfl rfl (zaa rfl) (mv_s (.inl rfl) rfl) ?_
          refine zab rfl rfl (zaa rfl) (za1 rfl ts30 ti3 rfl rfl rfl (ix_map hlj) rfl) ?_
          refine zab rfl rfl (zaa rfl) (zam rfl ta3 rfl) ?_
          refine zab rfl rfl (zaa rfl) (does_callb rfl rfl (Has_pf J (gti (gti n.trans k).out j)) (by repeat' (first | exact FiniL.nil | refine FiniL.cons ?_ ?_ | exact .own _ _ _ _ _ rfl rfl (by first | rfl | simp) | exact .refl _)) (by repeat' (first | exact Flat.s _ | exact flat_nil | refine flat_cons ?_ ?_ | refine Flat.agg ?_ | refine Flat.tup ?_))) ?_
          refine zab rfl rfl (zaa rfl) (does_notp rfl rfl) ?_
          refine zaj ?_
          repeat (first | refine zaf ?_ | refine zak ?_ | refine zad ?_ | refine zal ?_ | refine zac ?_)
          refine aw_if rfl (fun h1 => ?_) (fun h1 => ?_)
          · repeat (first | refine zaf ?_ | refine zak ?_ | refine zad ?_ | refine zal ?_ | refine zac ?_)
            refine zae ?_
            refine zab rfl rfl (zaa rfl) (mv_own (.inl rfl) rfl) ?_
            refine zab rfl rfl (zaa rfl) (zag rfl tf24_1 (by decide) rfl) ?_
            refine zab rfl rfl (zaa rfl) (zam rfl ta22 rfl) ?_
            refine zab rfl rfl (zaa rfl) (mv_s (.inl rfl) rfl) ?_
            refine zab rfl rfl (zaa rfl) (za1 rfl ts22 ti46 rfl rfl rfl (ix_map hlk) rfl) ?_
            refine zab rfl rfl (zaa rfl) (zag rfl tf46_2 (by decide) rfl) ?_
            refine zab rfl rfl (zaa rfl) (zam rfl ta30 rfl) ?_
            refine zab rfl rfl (zaa rfl) (mv_s (.inl rfl) rfl) ?_
            refine zab rfl rfl (zaa rfl) (za1 rfl ts30 ti3 rfl rfl rfl (ix_map hlj) rfl) ?_
            refine zab rfl rfl (zaa rfl) (zam rfl ta3 rfl) ?_
            refine zab rfl rfl (zaa rfl) (lit1_s rfl ts30 ti3 rfl rfl rfl rfl) ?_
            refine zab rfl rfl (zaa rfl) (does_append rfl ts30 ti3 rfl (by decide) rfl rfl (by first | rfl | (simp; done) | (simp; omega)) rfl (by first | exact .own _ _ _ rfl rfl _ (by first | rfl | simp) | exact .emp | exact .nil | exact .sl _ (by first | simp; done | intro e he; simp at he; obtain ⟨_, _, rfl⟩ := he; rfl)) (by first | omega | (simp; omega) | (unfold maxLen; simp; omega)) (by first | omega | (simp; omega) | (unfold maxLen; simp; omega))) ?_
            refine zab rfl rfl (zaa rfl) (mv_own (.inr rfl) rfl) ?_
            refine zaj ?_
            repeat (first | refine zaf ?_ | refine zak ?_ | refine zad ?_ | refine zal ?_ | refine zac ?_)
            refine zae ?_
            refine zab rfl rfl (zaa rfl) (mv_s (.inl rfl) rfl) ?_
            refine zab rfl rfl (zaa rfl) (does_add rfl rfl rfl (IntWalk.i64_in _ (by omega))) ?_
            refine zab rfl rfl (zaa rfl) (mv_s (.inr rfl) rfl) ?_
            refine zaj ?_
            repeat (first | refine zaf ?_ | refine zak ?_ | refine zad ?_ | refine zal ?_ | refine zac ?_)
            refine ⟨j + 1, by omega, by omega, ?_⟩
            rw [HSJ2, if_neg h1]
            exact wk_st [2] (by decide) ⟨⟨_, rfl, .rowE (by repeat' (first | exact Lo.s _ | exact Lo.emp | exact Lo.any | exact zap | exact zao | refine zah ?_ ?_ | refine zai ?_ ?_ | refine zaq ?_ | refine zan ?_ | refine Lo.cells ?_ | refine Lo.agg _ ?_ | refine Lo.ref _ ?_ | refine Lo.tup _ ?_ | refine Lo.fn _ _ ?_ | refine Lo.sl _ ?_ | intro _)) (by rw [List.map_append]; rfl)⟩, trivial⟩ ⟨.lo _ (by repeat' (first | exact Lo.s _ | exact Lo.emp | exact Lo.any | exact zap | exact zao | refine zah ?_ ?_ | refine zai ?_ ?_ | refine zaq ?_ | refine zan ?_ | refine Lo.cells ?_ | refine Lo.agg _ ?_ | refine Lo.ref _ ?_ | refine Lo.tup _ ?_ | refine Lo.fn _ _ ?_ | refine Lo.sl _ ?_ | intro _)), .own 2 0 1 _ _ rfl (by simp), .lo _ (by repeat' (first | exact Lo.s _ | exact Lo.emp | exact Lo.any | exact zap | exact zao | refine zah ?_ ?_ | refine zai ?_ ?_ | refine zaq ?_ | refine zan ?_ | refine Lo.cells ?_ | refine Lo.agg _ ?_ | refine Lo.ref _ ?_ | refine Lo.tup _ ?_ | refine Lo.fn _ _ ?_ | refine Lo.sl _ ?_ | intro _)), .lo _ (by repeat' (first | exact Lo.s _ | exact Lo.emp | exact Lo.any | exact zap | exact zao | refine zah ?_ ?_ | refine zai ?_ ?_ | refine zaq ?_ | refine zan ?_ | refine Lo.cells ?_ | refine Lo.agg _ ?_ | refine Lo.ref _ ?_ | refine Lo.tup _ ?_ | refine Lo.fn _ _ ?_ | refine Lo.sl _ ?_ | intro _)), .lo _ (by repeat' (first | exact Lo.s _ | exact Lo.emp | exact Lo.any | exact zap | exact zao | refine zah ?_ ?_ | refine zai ?_ ?_ | refine zaq ?_ | refine zan ?_ | refine Lo.cells ?_ | refine Lo.agg _ ?_ | refine Lo.ref _ ?_ | refine Lo.tup _ ?_ | refine Lo.fn _ _ ?_ | refine Lo.sl _ ?_ | intro _)), trivial⟩
          · repeat (first | refine zaf ?_ | refine zak ?_ | refine zad ?_ | refine zal ?_ | refine zac ?_)
            refine zae ?_
            refine zab rfl rfl (zaa rfl) (mv_s (.inl rfl) rfl) ?_
            refine zab rfl rfl (zaa rfl) (does_add rfl rfl rfl (IntWalk.i64_in _ (by omega))) ?_
            refine zab rfl rfl (zaa rfl) (mv_s (.inr rfl) rfl) ?_
            refine zaj ?_
            repeat (first | refine zaf ?_ | refine zak ?_ | refine zad ?_ | refine zal ?_ | refine zac ?_)
            refine ⟨j + 1, by omega, by omega, ?_⟩
            rw [HSJ2, if_pos (by simpa using h1)]
            exact wk_sub _ ⟨rfl, rfl, rfl, rfl, rfl, trivial⟩
        · have HXJ2 := HXJ (by omega)
          (refine aw_exit ?_; repeat (first | refine ath_x ?_ | refine abl_hit ?_ | refine abl_miss rfl ?_ | refine zal ?_ | refine zak ?_ | refine zaf ?_ | refine zad ?_ | refine zac ?_))
          refine zae ?_
          refine zab rfl rfl (zaa rfl) (mv_s (.inl rfl) rfl) ?_
          refine zab rfl rfl (zaa rfl) (does_add rfl rfl rfl (IntWalk.i64_in _ (by omega))) ?_
          refine zab rfl rfl (zaa rfl) (mv_s (.inr rfl) rfl) ?_
          refine zaj ?_
          repeat (first | refine zaf ?_ | refine zak ?_ | refine zad ?_ | refine zal ?_ | refine zac ?_)
          refine ⟨k + 1, by omega, by omega, ?_⟩
          rw [HXJ2]
          exact wk_sub _ ⟨rfl, rfl, rfl, rfl, trivial⟩
    · (refine aw_exit ?_; repeat (first | refine ath_x ?_ | refine abl_hit ?_ | refine abl_miss rfl ?_ | refine zal ?_ | refine zak ?_ | refine zaf ?_ | refine zad ?_ | refine zac ?_))
      refine zae ?_
      refine zab rfl rfl (zaa rfl) (mv_s (.inl rfl) rfl) ?_
      refine zab rfl rfl (zaa rfl) (does_add rfl rfl rfl (IntWalk.i64_in _ (by omega))) ?_
      refine zab rfl rfl (zaa rfl) (mv_s (.inr rfl) rfl) ?_
      refine zaj ?_
      repeat (first | refine zaf ?_ | refine zak ?_ | refine zad ?_ | refine zal ?_ | refine zac ?_)
      have := HX (by omega)
      exact ⟨(K, i + 1), ⟨by dsimp only; omega, HK, this⟩, by dsimp only; omega, wk_sub _ ⟨rfl, rfl, rfl, trivial⟩⟩
  · (refine aw_exit ?_; repeat (first | refine ath_x ?_ | refine abl_hit ?_ | refine abl_miss rfl ?_ | refine zal ?_ | refine zak ?_ | refine zaf ?_ | refine zad ?_ | refine zac ?_))
    have hiL : i = L.length := by omega
    have HE2 : reachW n s = L := by
      rw [HE, show 41 - i = (41 - (i + 1)) + 1 by omega, rchW, if_neg (by omega)]
    refine zae ?_
    refine zab rfl rfl (zaa rfl) (mv_own (.inl rfl) rfl) ?_
    refine zab rfl rfl (zaa rfl) (mv_own (.inr rfl) rfl) ?_
    refine zaj ?_
    repeat (first | refine zaf ?_ | refine zak ?_ | refine zad ?_ | refine zal ?_ | refine zac ?_)
    (refine zbd ?_; repeat (first | refine ath_r ?_ | refine abl_r ?_))
    rw [HE2]
    exact post1f (.inr rfl) rfl (.own _ _ _ _ _ rfl rfl (by simp))
end Go.Proofs.Ytmhbfoaecebobaa.Aw
end
section
namespace Go.Proofs.Ytmhbfoaecebobaa.Aw
set_option linter.unusedSimpArgs false
set_option linter.unusedVariables false
open Go.RowKit Go.Proofs
variable {P : Program} [IsP P]
theorem gti_rev {n : Net} {i : Nat} (h : i < n.trans.length) : gti (revN n).trans i = revT (gti n.trans i) := by
  unfold gti revN
  simp only [List.getElem?_map]
  rw [List.getElem?_eq_getElem h]; rfl
theorem rch_rev {n : Net} {s p : Int} : Rch (revN n) false s p ↔ Rch n true s p := by
  constructor
  · intro h
    induction h with
    | start => exact .start
    | @step i p q hi hin _ hq ih =>
      have hi2 : i < n.trans.length := by simpa [revN] using hi
      rw [gti_rev hi2] at hin hq
      exact .step hi2 hin ih hq
  · intro h
    induction h with
    | start => exact .start
    | @step i p q hi hin _ hq ih =>
      refine .step (i := i) (p := p) (by simpa [revN] using hi) ?_ ih ?_
      · rw [gti_rev hi]; exact hin
      · rw [gti_rev hi]; exact hq
theorem validL_rev {n : Net} : ∀ {l : List Tr}, validL n l = true → validL (revN n) (l.map revT) = true
  | [], h => by
    simp only [validL, List.map_nil, Bool.and_eq_true] at h ⊢
    exact ⟨h.2, h.1⟩
  | t :: l, h => by
    rw [validL] at h
    cases ht : trB n.places t with
    | false => rw [ht] at h; simp at h
    | true =>
      rw [ht] at h
      have h2 : validL n l = true := by simpa using h
      have e : trB (revN n).places (revT t) = true := by
        unfold trB at ht ⊢
        simp only [Bool.and_eq_true] at ht ⊢
        exact ⟨⟨ht.1.1, ht.2⟩, ht.1.2⟩
      rw [List.map_cons, validL, e, if_pos rfl]
      exact validL_rev h2
theorem valid_rev {n : Net} (h : zbc n = true) : zbc (revN n) = true := by
  unfold zbc at h ⊢
  split at h
  · cases h
  · rename_i hc
    rw [if_neg (by simpa [revN] using hc)]
    exact validL_rev h
theorem any_reach {n : Net} {back : Bool} {L : List Int} (hm : ∀ p, p ∈ L ↔ Rch n back (endOf n back) p) (i : Nat) : ((insB back (gti n.trans i)).any fun y => decide (y ∈ L)) = true ↔ RchT n back (endOf n back) i := by
  rw [List.any_eq_true]
  constructor
  · rintro ⟨p, hp, h⟩; exact ⟨p, hp, (hm p).1 (by simpa using h)⟩
  · rintro ⟨p, hp, h⟩; exact ⟨p, hp, by simpa using (hm p).2 h⟩
set_option maxHeartbeats 4000000 in
theorem rworkflow_pf (n : Net) : Pure P 17 [eN n] (eB (wfB n)) := by
  have hv := rvalid_pf (P := P) n
  refine aw_fn (by rw [IsP.eq (P := P)]; exact Try.func17) rfl rfl rfl rfl rfl (by repeat' (first | exact Lo.s _ | exact Lo.emp | exact Lo.any | exact zap | exact zao | refine zah ?_ ?_ | refine zai ?_ ?_ | refine zaq ?_ | refine zan ?_ | refine Lo.cells ?_ | refine Lo.agg _ ?_ | refine Lo.ref _ ?_ | refine Lo.tup _ ?_ | refine Lo.fn _ _ ?_ | refine Lo.sl _ ?_ | intro _)) (by repeat' (first | exact Lo.s _ | exact Lo.emp | exact Lo.any | exact zap | exact zao | refine zah ?_ ?_ | refine zai ?_ ?_ | refine zaq ?_ | refine zan ?_ | refine Lo.cells ?_ | refine Lo.agg _ ?_ | refine Lo.ref _ ?_ | refine Lo.tup _ ?_ | refine Lo.fn _ _ ?_ | refine Lo.sl _ ?_ | intro _)) (by simp only [argF]; rfl) ?_
  repeat (first | refine zaf ?_ | refine zak ?_ | refine zad ?_ | refine zal ?_ | refine zac ?_)
  refine zae ?_
  refine zab rfl rfl (zaa rfl) (does_box rfl rfl rfl rfl) ?_
  refine za5 (wk_froz (id := 0) rfl) (za5 (wk_ref (d := 1) rfl rfl rfl) ?_)
  refine zab rfl rfl (zaa rfl) (mv_s (.inr rfl) rfl) ?_
  refine zaj ?_
  repeat (first | refine zaf ?_ | refine zak ?_ | refine zad ?_ | refine zal ?_ | refine zac ?_)
  cases hval : zbc n with
  | false =>
    rw [hval] at hv
    refine zae ?_
    refine zab rfl rfl (zaa rfl) (zas rfl ta24 ti24 rfl rfl) ?_
    refine zab rfl rfl (zaa rfl) (zav rfl rfl (hv) (zar rfl za0)) ?_
    refine zab rfl rfl (zaa rfl) (does_not rfl rfl) ?_
    refine zab rfl rfl (zaa rfl) (mv_s (.inl rfl) rfl) ?_
    refine zaw rfl rfl (za4 rfl rfl rfl) ?_
    refine zaw rfl rfl (za4 rfl rfl rfl) ?_
    refine zaw rfl rfl (za4 rfl rfl rfl) ?_
    refine zaw rfl rfl (za4 rfl rfl rfl) ?_
    refine zaw rfl rfl (za4 rfl rfl rfl) ?_
    refine zab rfl rfl (zaa rfl) (pickT_s rfl rfl rfl) ?_
    refine zaj ?_
    repeat (first | refine zaf ?_ | refine zak ?_ | refine zad ?_ | refine zal ?_ | refine zac ?_)
    refine aw_true rfl ?_
    repeat (first | refine zaf ?_ | refine zak ?_ | refine zad ?_ | refine zal ?_ | refine zac ?_)
    refine zae ?_
    refine zab rfl rfl (zaa rfl) (mv_s (.inr rfl) rfl) ?_
    refine zaj ?_
    repeat (first | refine zaf ?_ | refine zak ?_ | refine zad ?_ | refine zal ?_ | refine zac ?_)
    (refine zbd ?_; repeat (first | refine ath_r ?_ | refine abl_r ?_))
    exact post1 (.inr rfl) rfl (congrArg eB (wfB_false (fun h => by rw [h.valid] at hval; cases hval)).symm)
  | true =>
    rw [hval] at hv
    have hends := validB_ends hval
    have hpl := za8 hval
    have hplc := Plc.of hval
    refine zae ?_
    refine zab rfl rfl (zaa rfl) (zas rfl ta24 ti24 rfl rfl) ?_
    refine zab rfl rfl (zaa rfl) (zav rfl rfl (hv) (zar rfl za0)) ?_
    refine zab rfl rfl (zaa rfl) (does_not rfl rfl) ?_
    refine zab rfl rfl (zaa rfl) (mv_s (.inl rfl) rfl) ?_
    refine zab rfl rfl (zau rfl rfl rfl) (zag rfl tf24_2 (by decide) rfl) ?_
    refine zab rfl rfl (zau rfl rfl rfl) (zam rfl ta3 rfl) ?_
    refine zab rfl rfl (zau rfl rfl rfl) (zag rfl tf24_3 (by decide) rfl) ?_
    refine zab rfl rfl (zau rfl rfl rfl) (zam rfl ta3 rfl) ?_
    refine zab rfl rfl (zau rfl rfl rfl) (does_eql rfl rfl rfl) ?_
    refine zab rfl rfl (zaa rfl) (pickF_s rfl rfl rfl) ?_
    refine zaj ?_
    repeat (first | refine zaf ?_ | refine zak ?_ | refine zad ?_ | refine zal ?_ | refine zac ?_)
    refine aw_if rfl (fun hne => ?_) (fun hne => ?_)
    · repeat (first | refine zaf ?_ | refine zak ?_ | refine zad ?_ | refine zal ?_ | refine zac ?_)
      refine zae ?_
      refine zab rfl rfl (zaa rfl) (mv_s (.inr rfl) rfl) ?_
      refine zaj ?_
      repeat (first | refine zaf ?_ | refine zak ?_ | refine zad ?_ | refine zal ?_ | refine zac ?_)
      (refine zbd ?_; repeat (first | refine ath_r ?_ | refine abl_r ?_))
      exact post1 (.inr rfl) rfl (congrArg eB (wfB_false (fun h => h.ne hne)).symm)
    · have hf := reach_pf (P := P) n n.source hval hends.1
      have hr := reverse_pf (P := P) n hval
      have hb := reach_pf (P := P) (revN n) n.sink (valid_rev hval) hends.2
      have hfm := fun p => reachW_iff hval hends.1 p
      have hbm := fun p => (reachW_iff (valid_rev hval) hends.2 p).trans rch_rev
      generalize reachW n n.source = fr at *
      generalize reachW (revN n) n.sink = bk at *
      repeat (first | refine zaf ?_ | refine zak ?_ | refine zad ?_ | refine zal ?_ | refine zac ?_)
      refine zae ?_
      refine zab rfl rfl (zaa rfl) (zas rfl ta24 ti24 rfl rfl) ?_
      refine zab rfl rfl (zaa rfl) (zag rfl tf24_2 (by decide) rfl) ?_
      refine zab rfl rfl (zaa rfl) (zam rfl ta3 rfl) ?_
      refine zab rfl rfl (zaa rfl) (zav rfl rfl (hf) (zar rfl (zar rfl za0))) ?_
      refine zab rfl rfl (zaa rfl) (mv_sl (.inr rfl) rfl) ?_
      refine zaj ?_
      repeat (first | refine zaf ?_ | refine zak ?_ | refine zad ?_ | refine zal ?_ | refine zac ?_)
      refine aw_draw hmix ?_
      refine adraw_quiet (by kernel_rfl) ?_
      refine zba rfl rfl (zaa rfl) (zas rfl ta24 ti24 rfl rfl) ?_
      refine zba rfl rfl (zaa rfl) (zav rfl rfl (hr) (zar rfl za0)) ?_
      refine zba rfl rfl (zaa rfl) (zag rfl tf24_3 (by decide) rfl) ?_
      refine zba rfl rfl (zaa rfl) (zam rfl ta3 rfl) ?_
      refine zba rfl rfl (zaa rfl) (zav rfl rfl (hb) (zar rfl (zar rfl za0))) ?_
      refine zba rfl rfl (zaa rfl) (mv_sl (.inr rfl) rfl) ?_
      refine qx_nil ?_
      repeat (first | refine zaf ?_ | refine zak ?_ | refine zad ?_ | refine zal ?_ | refine zac ?_)
      refine zae ?_
      refine zab rfl rfl (zaa rfl) (mv_s (.inr rfl) rfl) ?_
      refine zaj ?_
      repeat (first | refine zaf ?_ | refine zak ?_ | refine zad ?_ | refine zal ?_ | refine zac ?_)
      refine aw_loops (S := Nat) (fun k => [(1, .ref (eN n).cells), (3, eL eI fr), (4, eL eI bk), (5, eI k)]) (fun _ => []) (fun k => (k : Int) ≤ n.places ∧ ∀ j : Nat, j < k → (j : Int) ∈ fr ∧ (j : Int) ∈ bk) (fun k => n.places.toNat - k) 0 (wk_st [] (by decide) trivial ⟨.lo _ (by repeat' (first | exact Lo.s _ | exact Lo.emp | exact Lo.any | exact zap | exact zao | refine zah ?_ ?_ | refine zai ?_ ?_ | refine zaq ?_ | refine zan ?_ | refine Lo.cells ?_ | refine Lo.agg _ ?_ | refine Lo.ref _ ?_ | refine Lo.tup _ ?_ | refine Lo.fn _ _ ?_ | refine Lo.sl _ ?_ | intro _)), .lo _ (by repeat' (first | exact Lo.s _ | exact Lo.emp | exact Lo.any | exact zap | exact zao | refine zah ?_ ?_ | refine zai ?_ ?_ | refine zaq ?_ | refine zan ?_ | refine Lo.cells ?_ | refine Lo.agg _ ?_ | refine Lo.ref _ ?_ | refine Lo.tup _ ?_ | refine Lo.fn _ _ ?_ | refine Lo.sl _ ?_ | intro _)), .lo _ (by repeat' (first | exact Lo.s _ | exact Lo.emp | exact Lo.any | exact zap | exact zao | refine zah ?_ ?_ | refine zai ?_ ?_ | refine zaq ?_ | refine zan ?_ | refine Lo.cells ?_ | refine Lo.agg _ ?_ | refine Lo.ref _ ?_ | refine Lo.tup _ ?_ | refine Lo.fn _ _ ?_ | refine Lo.sl _ ?_ | intro _)), .lo _ (by repeat' (first | exact Lo.s _ | exact Lo.emp | exact Lo.any | exact zap | exact zao | refine zah ?_ ?_ | refine zai ?_ ?_ | refine zaq ?_ | refine zan ?_ | refine Lo.cells ?_ | refine Lo.agg _ ?_ | refine Lo.ref _ ?_ | refine Lo.tup _ ?_ | refine Lo.fn _ _ ?_ | refine Lo.sl _ ?_ | intro _)), trivial⟩) ⟨by omega, fun j hj => by omega⟩ (fun k hk => ?_)
      repeat (first | refine zaf ?_ | refine zak ?_ | refine zad ?_ | refine zal ?_ | refine zac ?_)
      refine zae ?_
      refine zab rfl rfl (zaa rfl) (mv_s (.inl rfl) rfl) ?_
      refine zab rfl rfl (zaa rfl) (zag rfl tf24_0 (by decide) rfl) ?_
      refine zab rfl rfl (zaa rfl) (zam rfl ta3 rfl) ?_
      refine zab rfl rfl (zaa rfl) (does_lss rfl rfl rfl) ?_
      refine zaj ?_
      repeat (first | refine zaf ?_ | refine zak ?_ | refine zad ?_ | refine zal ?_ | refine zac ?_)
      refine aw_if rfl (fun h => ?_) (fun h => ?_)
      · have h1 := Has_pf (P := P) fr (k : Int)
        have h2 := Has_pf (P := P) bk (k : Int)
        have hq1 : (k : Int) ∈ fr ↔ Rch n false n.source k := hfm _
        have hq2 : (k : Int) ∈ bk ↔ Rch n true n.sink k := hbm _
        have hbad : ¬ ((k : Int) ∈ fr ∧ (k : Int) ∈ bk) → wfB n = false := fun hn => wfB_false (fun hw => hn ⟨hq1.2 (hw.places false k (by omega)), hq2.2 (hw.places true k (by omega))⟩)
        repeat (first | refine zaf ?_ | refine zak ?_ | refine zad ?_ | refine zal ?_ | refine zac ?_)
        by_cases hfk : (k : Int) ∈ fr
        · rw [decide_eq_true hfk] at h1
          by_cases hbk : (k : Int) ∈ bk
          · rw [decide_eq_true hbk] at h2
            refine zae ?_
            refine zab rfl rfl (zaa rfl) (mv_sl (.inl rfl) rfl) ?_
            refine zab rfl rfl (zaa rfl) (mv_s (.inl rfl) rfl) ?_
            refine zab rfl rfl (zaa rfl) (zav rfl rfl (h1) (zar rfl (zar rfl za0))) ?_
            refine zab rfl rfl (zaa rfl) (does_not rfl rfl) ?_
            refine zab rfl rfl (zaa rfl) (mv_s (.inl rfl) rfl) ?_
            refine zab rfl rfl (zau rfl rfl rfl) (mv_sl (.inl rfl) rfl) ?_
            refine zab rfl rfl (zau rfl rfl rfl) (mv_s (.inl rfl) rfl) ?_
            refine zab rfl rfl (zau rfl rfl rfl) (zav rfl rfl (h2) (zar rfl (zar rfl za0))) ?_
            refine zab rfl rfl (zau rfl rfl rfl) (does_not rfl rfl) ?_
            refine zab rfl rfl (zaa rfl) (pickF_s rfl rfl rfl) ?_
            refine zaj ?_
            repeat (first | refine zaf ?_ | refine zak ?_ | refine zad ?_ | refine zal ?_ | refine zac ?_)
            refine za6 rfl ?_
            repeat (first | refine zaf ?_ | refine zak ?_ | refine zad ?_ | refine zal ?_ | refine zac ?_)
            refine zae ?_
            refine zab rfl rfl (zaa rfl) (mv_s (.inl rfl) rfl) ?_
            refine zab rfl rfl (zaa rfl) (does_add rfl rfl rfl (IntWalk.i64_in _ (by omega))) ?_
            refine zab rfl rfl (zaa rfl) (mv_s (.inr rfl) rfl) ?_
            refine zaj ?_
            repeat (first | refine zaf ?_ | refine zak ?_ | refine zad ?_ | refine zal ?_ | refine zac ?_)
            refine ⟨k + 1, ⟨by omega, fun j hj => ?_⟩, by omega, wk_sub _ ⟨rfl, rfl, rfl, rfl, trivial⟩⟩
            by_cases e : j = k
            · subst e; exact ⟨hfk, hbk⟩
            · exact hk.2 j (by omega)
          · rw [decide_eq_false hbk] at h2
            refine zae ?_
            refine zab rfl rfl (zaa rfl) (mv_sl (.inl rfl) rfl) ?_
            refine zab rfl rfl (zaa rfl) (mv_s (.inl rfl) rfl) ?_
            refine zab rfl rfl (zaa rfl) (zav rfl rfl (h1) (zar rfl (zar rfl za0))) ?_
            refine zab rfl rfl (zaa rfl) (does_not rfl rfl) ?_
            refine zab rfl rfl (zaa rfl) (mv_s (.inl rfl) rfl) ?_
            refine zab rfl rfl (zau rfl rfl rfl) (mv_sl (.inl rfl) rfl) ?_
            refine zab rfl rfl (zau rfl rfl rfl) (mv_s (.inl rfl) rfl) ?_
            refine zab rfl rfl (zau rfl rfl rfl) (zav rfl rfl (h2) (zar rfl (zar rfl za0))) ?_
            refine zab rfl rfl (zau rfl rfl rfl) (does_not rfl rfl) ?_
            refine zab rfl rfl (zaa rfl) (pickF_s rfl rfl rfl) ?_
            refine zaj ?_
            repeat (first | refine zaf ?_ | refine zak ?_ | refine zad ?_ | refine zal ?_ | refine zac ?_)
            refine aw_true rfl ?_
            repeat (first | refine zaf ?_ | refine zak ?_ | refine zad ?_ | refine zal ?_ | refine zac ?_)
            refine zae ?_
            refine zab rfl rfl (zaa rfl) (mv_s (.inr rfl) rfl) ?_
            refine zaj ?_
            repeat (first | refine zaf ?_ | refine zak ?_ | refine zad ?_ | refine zal ?_ | refine zac ?_)
            (refine zbd ?_; repeat (first | refine ath_r ?_ | refine abl_r ?_))
            exact post1 (.inr rfl) rfl (congrArg eB (hbad (fun h => hbk h.2)).symm)
        · rw [decide_eq_false hfk] at h1
          refine zae ?_
          refine zab rfl rfl (zaa rfl) (mv_sl (.inl rfl) rfl) ?_
          refine zab rfl rfl (zaa rfl) (mv_s (.inl rfl) rfl) ?_
          refine zab rfl rfl (zaa rfl) (zav rfl rfl (h1) (zar rfl (zar rfl za0))) ?_
          refine zab rfl rfl (zaa rfl) (does_not rfl rfl) ?_
          refine zab rfl rfl (zaa rfl) (mv_s (.inl rfl) rfl) ?_
          refine zaw rfl rfl (za4 rfl rfl rfl) ?_
          refine zaw rfl rfl (za4 rfl rfl rfl) ?_
          refine zaw rfl rfl (za4 rfl rfl rfl) ?_
          refine zaw rfl rfl (za4 rfl rfl rfl) ?_
          refine zab rfl rfl (zaa rfl) (pickT_s rfl rfl rfl) ?_
          refine zaj ?_
          repeat (first | refine zaf ?_ | refine zak ?_ | refine zad ?_ | refine zal ?_ | refine zac ?_)
          refine aw_true rfl ?_
          repeat (first | refine zaf ?_ | refine zak ?_ | refine zad ?_ | refine zal ?_ | refine zac ?_)
          refine zae ?_
          refine zab rfl rfl (zaa rfl) (mv_s (.inr rfl) rfl) ?_
          refine zaj ?_
          repeat (first | refine zaf ?_ | refine zak ?_ | refine zad ?_ | refine zal ?_ | refine zac ?_)
          (refine zbd ?_; repeat (first | refine ath_r ?_ | refine abl_r ?_))
          exact post1 (.inr rfl) rfl (congrArg eB (hbad (fun h => hfk h.1)).symm)
      · have hpl1 : ∀ j : Nat, j < n.places.toNat → (j : Int) ∈ fr ∧ (j : Int) ∈ bk := fun j hj => hk.2 j (by omega)
        clear hk h
        (refine aw_exit ?_; repeat (first | refine ath_x ?_ | refine abl_hit ?_ | refine abl_miss rfl ?_ | refine zal ?_ | refine zak ?_ | refine zaf ?_ | refine zad ?_ | refine zac ?_))
        refine zae ?_
        refine zab rfl rfl (zaa rfl) (mv_s (.inr rfl) rfl) ?_
        refine zaj ?_
        repeat (first | refine zaf ?_ | refine zak ?_ | refine zad ?_ | refine zal ?_ | refine zac ?_)
        refine aw_loops (S := Nat) (fun k => [(1, .ref (eN n).cells), (3, eL eI fr), (4, eL eI bk), (6, eI k)]) (fun _ => []) (fun k => k ≤ n.trans.length ∧ ∀ j : Nat, j < k → (n.source ∉ (gti n.trans j).out ∧ n.sink ∉ (gti n.trans j).inn) ∧ RchT n false n.source j ∧ RchT n true n.sink j) (fun k => n.trans.length - k) 0 (wk_sub _ ⟨rfl, rfl, rfl, rfl, trivial⟩) ⟨by omega, fun j hj => by omega⟩ (fun i hi => ?_)
        repeat (first | refine zaf ?_ | refine zak ?_ | refine zad ?_ | refine zal ?_ | refine zac ?_)
        refine zae ?_
        refine zab rfl rfl (zaa rfl) (mv_s (.inl rfl) rfl) ?_
        refine zab rfl rfl (zaa rfl) (zag rfl tf24_1 (by decide) rfl) ?_
        refine zab rfl rfl (zaa rfl) (zam rfl ta22 rfl) ?_
        refine zab rfl rfl (zaa rfl) (za2 rfl ts22 rfl) ?_
        refine zab rfl rfl (zaa rfl) (does_lss rfl rfl rfl) ?_
        refine zaj ?_
        repeat (first | refine zaf ?_ | refine zak ?_ | refine zad ?_ | refine zal ?_ | refine zac ?_)
        refine aw_if rfl (fun h => ?_) (fun h => ?_)
        · have hlt : i < n.trans.length := by omega
          have h1 := Has_pf (P := P) (gti n.trans i).out n.source
          have h2 := Has_pf (P := P) (gti n.trans i).inn n.sink
          have h3 := some_pf (P := P) (gti n.trans i).inn fr
          have h4 := some_pf (P := P) (gti n.trans i).out bk
          have q3 : ((gti n.trans i).inn.any fun y => decide (y ∈ fr)) = true ↔ RchT n false n.source i := any_reach (back := false) hfm i
          have q4 : ((gti n.trans i).out.any fun y => decide (y ∈ bk)) = true ↔ RchT n true n.sink i := any_reach (back := true) hbm i
          have hbad : ¬ ((n.source ∉ (gti n.trans i).out ∧ n.sink ∉ (gti n.trans i).inn) ∧ RchT n false n.source i ∧ RchT n true n.sink i) → wfB n = false := fun hn => wfB_false (fun hw => hn ⟨hw.no i hlt, hw.trans false i hlt, hw.trans true i hlt⟩)
          generalize hz3 : ((gti n.trans i).inn.any fun y => decide (y ∈ fr)) = z3 at *
          generalize hz4 : ((gti n.trans i).out.any fun y => decide (y ∈ bk)) = z4 at *
          repeat (first | refine zaf ?_ | refine zak ?_ | refine zad ?_ | refine zal ?_ | refine zac ?_)
          refine zae ?_
          refine zab rfl rfl (zaa rfl) (zag rfl tf24_1 (by decide) rfl) ?_
          refine zab rfl rfl (zaa rfl) (zam rfl ta22 rfl) ?_
          refine zab rfl rfl (zaa rfl) (mv_s (.inl rfl) rfl) ?_
          refine zab rfl rfl (zaa rfl) (za1 rfl ts22 ti46 rfl rfl rfl (ix_map hlt) rfl) ?_
          refine zab rfl rfl (zaa rfl) (zas rfl ta46 ti46 rfl rfl) ?_
          refine zab rfl rfl (zaa rfl) (does_alloc rfl ti46 rfl rfl) ?_
          refine ops_eff rfl (zaa rfl) (za7 rfl ti46 rfl rfl rfl rfl rfl rfl (by decide) (by decide)) ?_
          refine zaj ?_
          repeat (first | refine zaf ?_ | refine zak ?_ | refine zad ?_ | refine zal ?_ | refine zac ?_)
          by_cases c1 : n.source ∈ (gti n.trans i).out
          · rw [decide_eq_true c1] at h1
            refine zae ?_
            refine zab rfl rfl (zaa rfl) (zat rfl tf46_2 (by decide) rfl) ?_
            refine zab rfl rfl (zaa rfl) (za3 rfl ta30 rfl rfl rfl rfl rfl) ?_
            refine zab rfl rfl (zaa rfl) (zag rfl tf24_2 (by decide) rfl) ?_
            refine zab rfl rfl (zaa rfl) (zam rfl ta3 rfl) ?_
            refine zab rfl rfl (zaa rfl) (zav rfl rfl (h1) (zar rfl (zar rfl za0))) ?_
            refine zab rfl rfl (zaa rfl) (mv_s (.inl rfl) rfl) ?_
            refine zaw rfl rfl (za4 rfl rfl rfl) ?_
            refine zaw rfl rfl (za4 rfl rfl rfl) ?_
            refine zaw rfl rfl (za4 rfl rfl rfl) ?_
            refine zaw rfl rfl (za4 rfl rfl rfl) ?_
            refine zaw rfl rfl (za4 rfl rfl rfl) ?_
            refine zab rfl rfl (zaa rfl) (pickT_s rfl rfl rfl) ?_
            refine zab rfl rfl (zaa rfl) (mv_s (.inl rfl) rfl) ?_
            refine zaw rfl rfl (za4 rfl rfl rfl) ?_
            refine zaw rfl rfl (za4 rfl rfl rfl) ?_
            refine zaw rfl rfl (za4 rfl rfl rfl) ?_
            refine zaw rfl rfl (za4 rfl rfl rfl) ?_
            refine zaw rfl rfl (za4 rfl rfl rfl) ?_
            refine zab rfl rfl (zaa rfl) (pickT_s rfl rfl rfl) ?_
            refine zab rfl rfl (zaa rfl) (mv_s (.inl rfl) rfl) ?_
            refine zaw rfl rfl (za4 rfl rfl rfl) ?_
            refine zaw rfl rfl (za4 rfl rfl rfl) ?_
            refine zaw rfl rfl (za4 rfl rfl rfl) ?_
            refine zaw rfl rfl (za4 rfl rfl rfl) ?_
            refine zaw rfl rfl (za4 rfl rfl rfl) ?_
            refine zab rfl rfl (zaa rfl) (pickT_s rfl rfl rfl) ?_
            refine zaj ?_
            repeat (first | refine zaf ?_ | refine zak ?_ | refine zad ?_ | refine zal ?_ | refine zac ?_)
            refine aw_true rfl ?_
            repeat (first | refine zaf ?_ | refine zak ?_ | refine zad ?_ | refine zal ?_ | refine zac ?_)
            refine zae ?_
            refine zab rfl rfl (zaa rfl) (mv_s (.inr rfl) rfl) ?_
            refine zaj ?_
            repeat (first | refine zaf ?_ | refine zak ?_ | refine zad ?_ | refine zal ?_ | refine zac ?_)
            (refine zbd ?_; repeat (first | refine ath_r ?_ | refine abl_r ?_))
            exact post1 (.inr rfl) rfl (congrArg eB (hbad (fun h => h.1.1 c1)).symm)
          · rw [decide_eq_false c1] at h1
            by_cases c2 : n.sink ∈ (gti n.trans i).inn
            · rw [decide_eq_true c2] at h2
              refine zae ?_
              refine zab rfl rfl (zaa rfl) (zat rfl tf46_2 (by decide) rfl) ?_
              refine zab rfl rfl (zaa rfl) (za3 rfl ta30 rfl rfl rfl rfl rfl) ?_
              refine zab rfl rfl (zaa rfl) (zag rfl tf24_2 (by decide) rfl) ?_
              refine zab rfl rfl (zaa rfl) (zam rfl ta3 rfl) ?_
              refine zab rfl rfl (zaa rfl) (zav rfl rfl (h1) (zar rfl (zar rfl za0))) ?_
              refine zab rfl rfl (zaa rfl) (mv_s (.inl rfl) rfl) ?_
              refine zab rfl rfl (zau rfl rfl rfl) (zat rfl tf46_1 (by decide) rfl) ?_
              refine zab rfl rfl (zau rfl rfl rfl) (za3 rfl ta30 rfl rfl rfl rfl rfl) ?_
              refine zab rfl rfl (zau rfl rfl rfl) (zag rfl tf24_3 (by decide) rfl) ?_
              refine zab rfl rfl (zau rfl rfl rfl) (zam rfl ta3 rfl) ?_
              refine zab rfl rfl (zau rfl rfl rfl) (zav rfl rfl (h2) (zar rfl (zar rfl za0))) ?_
              refine zab rfl rfl (zaa rfl) (pickF_s rfl rfl rfl) ?_
              refine zab rfl rfl (zaa rfl) (mv_s (.inl rfl) rfl) ?_
              refine zaw rfl rfl (za4 rfl rfl rfl) ?_
              refine zaw rfl rfl (za4 rfl rfl rfl) ?_
              refine zaw rfl rfl (za4 rfl rfl rfl) ?_
              refine zaw rfl rfl (za4 rfl rfl rfl) ?_
              refine zaw rfl rfl (za4 rfl rfl rfl) ?_
              refine zab rfl rfl (zaa rfl) (pickT_s rfl rfl rfl) ?_
              refine zab rfl rfl (zaa rfl) (mv_s (.inl rfl) rfl) ?_
              refine zaw rfl rfl (za4 rfl rfl rfl) ?_
              refine zaw rfl rfl (za4 rfl rfl rfl) ?_
              refine zaw rfl rfl (za4 rfl rfl rfl) ?_
              refine zaw rfl rfl (za4 rfl rfl rfl) ?_
              refine zaw rfl rfl (za4 rfl rfl rfl) ?_
              refine zab rfl rfl (zaa rfl) (pickT_s rfl rfl rfl) ?_
              refine zaj ?_
              repeat (first | refine zaf ?_ | refine zak ?_ | refine zad ?_ | refine zal ?_ | refine zac ?_)
              refine aw_true rfl ?_
              repeat (first | refine zaf ?_ | refine zak ?_ | refine zad ?_ | refine zal ?_ | refine zac ?_)
              refine zae ?_
              refine zab rfl rfl (zaa rfl) (mv_s (.inr rfl) rfl) ?_
              refine zaj ?_
              repeat (first | refine zaf ?_ | refine zak ?_ | refine zad ?_ | refine zal ?_ | refine zac ?_)
              (refine zbd ?_; repeat (first | refine ath_r ?_ | refine abl_r ?_))
              exact post1 (.inr rfl) rfl (congrArg eB (hbad (fun h => h.1.2 c2)).symm)
            · rw [decide_eq_false c2] at h2
              cases z3 with
              | false =>
                refine zae ?_
                refine zab rfl rfl (zaa rfl) (zat rfl tf46_2 (by decide) rfl) ?_
                refine zab rfl rfl (zaa rfl) (za3 rfl ta30 rfl rfl rfl rfl rfl) ?_
                refine zab rfl rfl (zaa rfl) (zag rfl tf24_2 (by decide) rfl) ?_
                refine zab rfl rfl (zaa rfl) (zam rfl ta3 rfl) ?_
                refine zab rfl rfl (zaa rfl) (zav rfl rfl (h1) (zar rfl (zar rfl za0))) ?_
                refine zab rfl rfl (zaa rfl) (mv_s (.inl rfl) rfl) ?_
                refine zab rfl rfl (zau rfl rfl rfl) (zat rfl tf46_1 (by decide) rfl) ?_
                refine zab rfl rfl (zau rfl rfl rfl) (za3 rfl ta30 rfl rfl rfl rfl rfl) ?_
                refine zab rfl rfl (zau rfl rfl rfl) (zag rfl tf24_3 (by decide) rfl) ?_
                refine zab rfl rfl (zau rfl rfl rfl) (zam rfl ta3 rfl) ?_
                refine zab rfl rfl (zau rfl rfl rfl) (zav rfl rfl (h2) (zar rfl (zar rfl za0))) ?_
                refine zab rfl rfl (zaa rfl) (pickF_s rfl rfl rfl) ?_
                refine zab rfl rfl (zaa rfl) (mv_s (.inl rfl) rfl) ?_
                refine zab rfl rfl (zau rfl rfl rfl) (zat rfl tf46_1 (by decide) rfl) ?_
                refine zab rfl rfl (zau rfl rfl rfl) (za3 rfl ta30 rfl rfl rfl rfl rfl) ?_
                refine zab rfl rfl (zau rfl rfl rfl) (mv_sl (.inl rfl) rfl) ?_
                refine zab rfl rfl (zau rfl rfl rfl) (zav rfl rfl (h3) (zar rfl (zar rfl za0))) ?_
                refine zab rfl rfl (zau rfl rfl rfl) (does_not rfl rfl) ?_
                refine zab rfl rfl (zaa rfl) (pickF_s rfl rfl rfl) ?_
                refine zab rfl rfl (zaa rfl) (mv_s (.inl rfl) rfl) ?_
                refine zaw rfl rfl (za4 rfl rfl rfl) ?_
                refine zaw rfl rfl (za4 rfl rfl rfl) ?_
                refine zaw rfl rfl (za4 rfl rfl rfl) ?_
                refine zaw rfl rfl (za4 rfl rfl rfl) ?_
                refine zaw rfl rfl (za4 rfl rfl rfl) ?_
                refine zab rfl rfl (zaa rfl) (pickT_s rfl rfl rfl) ?_
                refine zaj ?_
                repeat (first | refine zaf ?_ | refine zak ?_ | refine zad ?_ | refine zal ?_ | refine zac ?_)
                refine aw_true rfl ?_
                repeat (first | refine zaf ?_ | refine zak ?_ | refine zad ?_ | refine zal ?_ | refine zac ?_)
                refine zae ?_
                refine zab rfl rfl (zaa rfl) (mv_s (.inr rfl) rfl) ?_
                refine zaj ?_
                repeat (first | refine zaf ?_ | refine zak ?_ | refine zad ?_ | refine zal ?_ | refine zac ?_)
                (refine zbd ?_; repeat (first | refine ath_r ?_ | refine abl_r ?_))
                exact post1 (.inr rfl) rfl (congrArg eB (hbad (fun h => by have := q3.2 h.2.1; cases this)).symm)
              | true =>
                cases z4 with
                | false =>
                  refine zae ?_
                  refine zab rfl rfl (zaa rfl) (zat rfl tf46_2 (by decide) rfl) ?_
                  refine zab rfl rfl (zaa rfl) (za3 rfl ta30 rfl rfl rfl rfl rfl) ?_
                  refine zab rfl rfl (zaa rfl) (zag rfl tf24_2 (by decide) rfl) ?_
                  refine zab rfl rfl (zaa rfl) (zam rfl ta3 rfl) ?_
                  refine zab rfl rfl (zaa rfl) (zav rfl rfl (h1) (zar rfl (zar rfl za0))) ?_
                  refine zab rfl rfl (zaa rfl) (mv_s (.inl rfl) rfl) ?_
                  refine zab rfl rfl (zau rfl rfl rfl) (zat rfl tf46_1 (by decide) rfl) ?_
                  refine zab rfl rfl (zau rfl rfl rfl) (za3 rfl ta30 rfl rfl rfl rfl rfl) ?_
                  refine zab rfl rfl (zau rfl rfl rfl) (zag rfl tf24_3 (by decide) rfl) ?_
                  refine zab rfl rfl (zau rfl rfl rfl) (zam rfl ta3 rfl) ?_
                  refine zab rfl rfl (zau rfl rfl rfl) (zav rfl rfl (h2) (zar rfl (zar rfl za0))) ?_
                  refine zab rfl rfl (zaa rfl) (pickF_s rfl rfl rfl) ?_
                  refine zab rfl rfl (zaa rfl) (mv_s (.inl rfl) rfl) ?_
                  refine zab rfl rfl (zau rfl rfl rfl) (zat rfl tf46_1 (by decide) rfl) ?_
                  refine zab rfl rfl (zau rfl rfl rfl) (za3 rfl ta30 rfl rfl rfl rfl rfl) ?_
                  refine zab rfl rfl (zau rfl rfl rfl) (mv_sl (.inl rfl) rfl) ?_
                  refine zab rfl rfl (zau rfl rfl rfl) (zav rfl rfl (h3) (zar rfl (zar rfl za0))) ?_
                  refine zab rfl rfl (zau rfl rfl rfl) (does_not rfl rfl) ?_
                  refine zab rfl rfl (zaa rfl) (pickF_s rfl rfl rfl) ?_
                  refine zab rfl rfl (zaa rfl) (mv_s (.inl rfl) rfl) ?_
                  refine zab rfl rfl (zau rfl rfl rfl) (zat rfl tf46_2 (by decide) rfl) ?_
                  refine zab rfl rfl (zau rfl rfl rfl) (za3 rfl ta30 rfl rfl rfl rfl rfl) ?_
                  refine zab rfl rfl (zau rfl rfl rfl) (mv_sl (.inl rfl) rfl) ?_
                  refine zab rfl rfl (zau rfl rfl rfl) (zav rfl rfl (h4) (zar rfl (zar rfl za0))) ?_
                  refine zab rfl rfl (zau rfl rfl rfl) (does_not rfl rfl) ?_
                  refine zab rfl rfl (zaa rfl) (pickF_s rfl rfl rfl) ?_
                  refine zaj ?_
                  repeat (first | refine zaf ?_ | refine zak ?_ | refine zad ?_ | refine zal ?_ | refine zac ?_)
                  refine aw_true rfl ?_
                  repeat (first | refine zaf ?_ | refine zak ?_ | refine zad ?_ | refine zal ?_ | refine zac ?_)
                  refine zae ?_
                  refine zab rfl rfl (zaa rfl) (mv_s (.inr rfl) rfl) ?_
                  refine zaj ?_
                  repeat (first | refine zaf ?_ | refine zak ?_ | refine zad ?_ | refine zal ?_ | refine zac ?_)
                  (refine zbd ?_; repeat (first | refine ath_r ?_ | refine abl_r ?_))
                  exact post1 (.inr rfl) rfl (congrArg eB (hbad (fun h => by have := q4.2 h.2.2; cases this)).symm)
                | true =>
                  refine zae ?_
                  refine zab rfl rfl (zaa rfl) (zat rfl tf46_2 (by decide) rfl) ?_
                  refine zab rfl rfl (zaa rfl) (za3 rfl ta30 rfl rfl rfl rfl rfl) ?_
                  refine zab rfl rfl (zaa rfl) (zag rfl tf24_2 (by decide) rfl) ?_
                  refine zab rfl rfl (zaa rfl) (zam rfl ta3 rfl) ?_
                  refine zab rfl rfl (zaa rfl) (zav rfl rfl (h1) (zar rfl (zar rfl za0))) ?_
                  refine zab rfl rfl (zaa rfl) (mv_s (.inl rfl) rfl) ?_
                  refine zab rfl rfl (zau rfl rfl rfl) (zat rfl tf46_1 (by decide) rfl) ?_
                  refine zab rfl rfl (zau rfl rfl rfl) (za3 rfl ta30 rfl rfl rfl rfl rfl) ?_
                  refine zab rfl rfl (zau rfl rfl rfl) (zag rfl tf24_3 (by decide) rfl) ?_
                  refine zab rfl rfl (zau rfl rfl rfl) (zam rfl ta3 rfl) ?_
                  refine zab rfl rfl (zau rfl rfl rfl) (zav rfl rfl (h2) (zar rfl (zar rfl za0))) ?_
                  refine zab rfl rfl (zaa rfl) (pickF_s rfl rfl rfl) ?_
                  refine zab rfl rfl (zaa rfl) (mv_s (.inl rfl) rfl) ?_
                  refine zab rfl rfl (zau rfl rfl rfl) (zat rfl tf46_1 (by decide) rfl) ?_
                  refine zab rfl rfl (zau rfl rfl rfl) (za3 rfl ta30 rfl rfl rfl rfl rfl) ?_
                  refine zab rfl rfl (zau rfl rfl rfl) (mv_sl (.inl rfl) rfl) ?_
                  refine zab rfl rfl (zau rfl rfl rfl) (zav rfl rfl (h3) (zar rfl (zar rfl za0))) ?_
                  refine zab rfl rfl (zau rfl rfl rfl) (does_not rfl rfl) ?_
                  refine zab rfl rfl (zaa rfl) (pickF_s rfl rfl rfl) ?_
                  refine zab rfl rfl (zaa rfl) (mv_s (.inl rfl) rfl) ?_
                  refine zab rfl rfl (zau rfl rfl rfl) (zat rfl tf46_2 (by decide) rfl) ?_
                  refine zab rfl rfl (zau rfl rfl rfl) (za3 rfl ta30 rfl rfl rfl rfl rfl) ?_
                  refine zab rfl rfl (zau rfl rfl rfl) (mv_sl (.inl rfl) rfl) ?_
                  refine zab rfl rfl (zau rfl rfl rfl) (zav rfl rfl (h4) (zar rfl (zar rfl za0))) ?_
                  refine zab rfl rfl (zau rfl rfl rfl) (does_not rfl rfl) ?_
                  refine zab rfl rfl (zaa rfl) (pickF_s rfl rfl rfl) ?_
                  refine zaj ?_
                  repeat (first | refine zaf ?_ | refine zak ?_ | refine zad ?_ | refine zal ?_ | refine zac ?_)
                  refine za6 rfl ?_
                  repeat (first | refine zaf ?_ | refine zak ?_ | refine zad ?_ | refine zal ?_ | refine zac ?_)
                  refine zae ?_
                  refine zab rfl rfl (zaa rfl) (mv_s (.inl rfl) rfl) ?_
                  refine zab rfl rfl (zaa rfl) (does_add rfl rfl rfl (IntWalk.i64_in _ (by omega))) ?_
                  refine zab rfl rfl (zaa rfl) (mv_s (.inr rfl) rfl) ?_
                  refine zaj ?_
                  repeat (first | refine zaf ?_ | refine zak ?_ | refine zad ?_ | refine zal ?_ | refine zac ?_)
                  refine ⟨i + 1, ⟨by omega, fun j hj => ?_⟩, by omega, wk_st [] (by decide) trivial ⟨.lo _ (by repeat' (first | exact Lo.s _ | exact Lo.emp | exact Lo.any | exact zap | exact zao | refine zah ?_ ?_ | refine zai ?_ ?_ | refine zaq ?_ | refine zan ?_ | refine Lo.cells ?_ | refine Lo.agg _ ?_ | refine Lo.ref _ ?_ | refine Lo.tup _ ?_ | refine Lo.fn _ _ ?_ | refine Lo.sl _ ?_ | intro _)), .lo _ (by repeat' (first | exact Lo.s _ | exact Lo.emp | exact Lo.any | exact zap | exact zao | refine zah ?_ ?_ | refine zai ?_ ?_ | refine zaq ?_ | refine zan ?_ | refine Lo.cells ?_ | refine Lo.agg _ ?_ | refine Lo.ref _ ?_ | refine Lo.tup _ ?_ | refine Lo.fn _ _ ?_ | refine Lo.sl _ ?_ | intro _)), .lo _ (by repeat' (first | exact Lo.s _ | exact Lo.emp | exact Lo.any | exact zap | exact zao | refine zah ?_ ?_ | refine zai ?_ ?_ | refine zaq ?_ | refine zan ?_ | refine Lo.cells ?_ | refine Lo.agg _ ?_ | refine Lo.ref _ ?_ | refine Lo.tup _ ?_ | refine Lo.fn _ _ ?_ | refine Lo.sl _ ?_ | intro _)), .lo _ (by repeat' (first | exact Lo.s _ | exact Lo.emp | exact Lo.any | exact zap | exact zao | refine zah ?_ ?_ | refine zai ?_ ?_ | refine zaq ?_ | refine zan ?_ | refine Lo.cells ?_ | refine Lo.agg _ ?_ | refine Lo.ref _ ?_ | refine Lo.tup _ ?_ | refine Lo.fn _ _ ?_ | refine Lo.sl _ ?_ | intro _)), trivial⟩⟩
                  by_cases e : j = i
                  · subst e; exact ⟨⟨c1, c2⟩, q3.1 rfl, q4.1 rfl⟩
                  · exact hi.2 j (by omega)
        · (refine aw_exit ?_; repeat (first | refine ath_x ?_ | refine abl_hit ?_ | refine abl_miss rfl ?_ | refine zal ?_ | refine zak ?_ | refine zaf ?_ | refine zad ?_ | refine zac ?_))
          refine zae ?_
          refine zab rfl rfl (zaa rfl) (mv_s (.inr rfl) rfl) ?_
          refine zaj ?_
          repeat (first | refine zaf ?_ | refine zak ?_ | refine zad ?_ | refine zal ?_ | refine zac ?_)
          (refine zbd ?_; repeat (first | refine ath_r ?_ | refine abl_r ?_))
          refine post1 (.inr rfl) rfl (congrArg eB (wfB_true ⟨hval, hne, fun j hj => (hi.2 j (by omega)).1, fun b p hp => ?_, fun b j hj => ?_⟩).symm)
          · cases b
            · exact (hfm p).1 (hpl1 p hp).1
            · exact (hbm p).1 (hpl1 p hp).2
          · cases b
            · exact (hi.2 j (by omega)).2.1
            · exact (hi.2 j (by omega)).2.2
end Go.Proofs.Ytmhbfoaecebobaa.Aw
end
section
namespace Go.Proofs.Ytmhbfoaecebobaa.Aw
set_option linter.unusedSimpArgs false
set_option linter.unusedVariables false
open Go.RowKit Go.Proofs
variable {P : Program} [IsP P]
noncomputable def wordsE (n : Net) (l : List ByteArray) : Int := if (wfB n && allN l) = false then 1 else if 200 < l.length then 5 else 0
end Go.Proofs.Ytmhbfoaecebobaa.Aw
end
section
namespace Go.Proofs.Ytmhbfoaecebobaa
set_option linter.unusedSimpArgs false
set_option linter.unusedVariables false
def lblK (n : Net) (w : List ByteArray) (x : Nd) (t : Nat) : Option Int :=
  if (gti n.trans t).label = Aw.eBA then some x.k else if (w.length : Int) ≤ x.k ∨ gti w x.k.toNat ≠ (gti n.trans t).label then none else some (x.k + 1)
def nkey (x : Nd) : Int × List Int := (x.k, x.m)
def stepF (n : Net) (w : List ByteArray) (x : Nd) (q : List Nd) (t : Nat) : List Nd :=
  match lblK n w x t with
  | none => q
  | some k => if (FireE n x.m t).2 ≠ 0 ∨ (k, (FireE n x.m t).1) ∈ q.map nkey then q else q ++ [⟨k, (FireE n x.m t).1, x.run ++ [(t : Int)]⟩]
def roundF (n : Net) (w : List ByteArray) (most : Int) (x : Nd) (q : List Nd) : Nat → List Nd
  | 0 => q
  | k + 1 => if ((roundF n w most x q k).length : Int) ≤ most then stepF n w x (roundF n w most x q k) k else roundF n w most x q k
def doneF (n : Net) (w : List ByteArray) (x : Nd) : Bool := decide (x.k = w.length) && decide (x.m = oneL n.places.toNat n.sink)
def srchF (n : Net) (w : List ByteArray) (most : Int) : Nat → Nat → List Nd → Bool × List Int × Int
  | 0, _, _ => (false, [], 0)
  | f + 1, i, q => if i < q.length ∧ (i : Int) < most then if doneF n w (gti q i) then (true, (gti q i).run, 0) else srchF n w most f (i + 1) (roundF n w most (gti q i) q n.trans.length)
    else (false, [], if most < q.length then 13 else 0)
noncomputable def FitsE (n : Net) (w : List ByteArray) (most : Int) : Bool × List Int × Int :=
  if Aw.wordsE n w ≠ 0 then (false, [], Aw.wordsE n w) else if most < 1 ∨ 2000 < most then (false, [], 2) else srchF n w most (most.toNat + 1) 0 [⟨0, oneL n.places.toNat n.source, []⟩]
theorem stepF_pre (n : Net) (w : List ByteArray) (x : Nd) (q : List Nd) (t : Nat) : stepF n w x q t = q ∨ ∃ y, stepF n w x q t = q ++ [y] := by
  unfold stepF
  split
  · exact .inl rfl
  · split
    · exact .inl rfl
    · exact .inr ⟨_, rfl⟩
theorem stepF_len (n : Net) (w : List ByteArray) (x : Nd) (q : List Nd) (t : Nat) : q.length ≤ (stepF n w x q t).length ∧ (stepF n w x q t).length ≤ q.length + 1 := by
  rcases stepF_pre n w x q t with h | ⟨y, h⟩ <;> rw [h] <;> simp
theorem stepF_at {n : Net} {w : List ByteArray} {x : Nd} {q : List Nd} {t i : Nat} (hi : i < q.length) : gti (stepF n w x q t) i = gti q i := by
  rcases stepF_pre n w x q t with h | ⟨y, h⟩ <;> rw [h]
  rw [gti_app, if_pos hi]
theorem roundF_ge (n : Net) (w : List ByteArray) (most : Int) (x : Nd) (q : List Nd) : ∀ k, q.length ≤ (roundF n w most x q k).length
  | 0 => Nat.le_refl _
  | k + 1 => by
    have h1 := roundF_ge n w most x q k
    have h2 := (stepF_len n w x (roundF n w most x q k) k).1
    unfold roundF
    split <;> omega
theorem roundF_at {n : Net} {w : List ByteArray} {most : Int} {x : Nd} {q : List Nd} {i : Nat} (hi : i < q.length) : ∀ k, gti (roundF n w most x q k) i = gti q i
  | 0 => rfl
  | k + 1 => by
    have h1 := roundF_at (n := n) (w := w) (most := most) (x := x) hi k
    have h2 := roundF_ge n w most x q k
    unfold roundF
    split
    · rw [stepF_at (by omega)]; exact h1
    · exact h1
theorem roundF_stop {n : Net} {w : List ByteArray} {most : Int} {x : Nd} {q : List Nd} {k : Nat} (h : most < (roundF n w most x q k).length) : ∀ j, roundF n w most x q (k + j) = roundF n w most x q k
  | 0 => rfl
  | j + 1 => by
    have h1 := roundF_stop h j
    rw [show k + (j + 1) = (k + j) + 1 by omega]
    rw [roundF, h1, if_neg (by omega)]
theorem roundF_id {n : Net} {w : List ByteArray} {most : Int} {x : Nd} {q : List Nd} (h : most < q.length) (k : Nat) : roundF n w most x q k = q := by
  have := roundF_stop (n := n) (w := w) (most := most) (x := x) (q := q) (k := 0) h k
  rw [Nat.zero_add] at this
  exact this
structure QF (n : Net) (w : List ByteArray) (q : List Nd) : Prop where
  at_ : ∀ i, i < q.length → markB n (gti q i).m = true ∧ 0 ≤ (gti q i).k ∧ (gti q i).k ≤ w.length ∧ (gti q i).run.length ≤ i
theorem QF.step {n : Net} {w : List ByteArray} {q : List Nd} {i : Nat} (h : QF n w q) (hi : i < q.length) {x : Nd} (hx : x = gti q i) (t : Nat) : QF n w (stepF n w x q t) := by
  subst hx
  unfold stepF
  split
  · exact h
  · rename_i k hk
    split
    · exact h
    · rename_i hc
      rw [not_or] at hc
      obtain ⟨a1, a2, a3, a4⟩ := h.at_ i hi
      refine ⟨fun j hj => ?_⟩
      rw [gti_app]
      split
      · rename_i hlt; exact h.at_ j hlt
      · have hj2 : j = q.length := by simp at hj; omega
        subst hj2
        rw [Nat.sub_self]
        have e : gti [(⟨k, (FireE n (gti q i).m t).1, (gti q i).run ++ [(t : Int)]⟩ : Nd)] 0 = ⟨k, (FireE n (gti q i).m t).1, (gti q i).run ++ [(t : Int)]⟩ := rfl
        rw [e]
        refine ⟨FireE_mark a1 (Decidable.not_not.1 hc.1), ?_, ?_, ?_⟩
        · unfold lblK at hk
          dsimp only
          split at hk
          · cases hk; exact a2
          · split at hk
            · cases hk
            · cases hk; omega
        · unfold lblK at hk
          dsimp only
          split at hk
          · cases hk; exact a3
          · split at hk
            · cases hk
            · rename_i hh
              rw [not_or] at hh
              cases hk; omega
        · simp; omega
theorem QF.round {n : Net} {w : List ByteArray} {most : Int} {q : List Nd} {i : Nat} (h : QF n w q) (hi : i < q.length) : ∀ k, QF n w (roundF n w most (gti q i) q k)
  | 0 => h
  | k + 1 => by
    have h1 := QF.round (most := most) h hi k
    have h2 := roundF_ge n w most (gti q i) q k
    have h3 := roundF_at (n := n) (w := w) (most := most) (x := gti q i) hi k
    unfold roundF
    split
    · exact h1.step (i := i) (by omega) h3.symm k
    · exact h1
theorem QF.init {n : Net} (w : List ByteArray) (hv : zbc n = true) : QF n w [⟨0, oneL n.places.toNat n.source, []⟩] := by
  refine ⟨fun i hi => ?_⟩
  have : i = 0 := by simp at hi; omega
  subst this
  have h1 := (pl0_pm hv).1.ok rfl
  refine ⟨h1, ?_, ?_, ?_⟩ <;> simp [gti]
theorem srch_over {n : Net} {w : List ByteArray} {most : Int} {q : List Nd} (hq : (q.length : Int) = most + 1) : ∀ (f i : Nat), most.toNat < f + i → (i : Int) ≤ most → srchF n w most f i q = match ((q.take most.toNat).drop i).find? (doneF n w) with | some y => (true, y.run, 0) | none => (false, [], 13)
  | 0, i, hf, hi => by omega
  | f + 1, i, hf, hi => by
    have hlen : (q.take most.toNat).length = most.toNat := by simp; omega
    unfold srchF
    by_cases hlt : (i : Int) < most
    · rw [if_pos ⟨by omega, hlt⟩]
      have hd : (q.take most.toNat).drop i = gti q i :: (q.take most.toNat).drop (i + 1) := by
        rw [List.drop_eq_getElem_cons (by omega)]
        congr 1
        rw [List.getElem_take]
        unfold gti
        rw [List.getElem?_eq_getElem (by omega)]; rfl
      rw [hd, List.find?_cons]
      cases hdn : doneF n w (gti q i) with
      | true => rfl
      | false =>
        rw [roundF_id (by omega)]
        simp only [Bool.false_eq_true, if_false]
        exact srch_over hq f (i + 1) (by omega) (by omega)
    · rw [if_neg (by omega), if_pos (by omega)]
      rw [List.drop_of_length_le (by omega)]
      rfl
end Go.Proofs.Ytmhbfoaecebobaa
end
section
namespace Go.Proofs.Ytmhbfoaecebobaa
set_option linter.unusedSimpArgs false
set_option linter.unusedVariables false
open Go.RowKit
structure Mvx where
  fr : Int
  tt : Int
  sym : Int
instance : Inhabited Mvx := ⟨⟨0, 0, 0⟩⟩
structure Spc where
  st : List (List Int)
  mv : List Mvx
  full : Bool
def zSp : Spc := ⟨[], [], false⟩
def findI (S : List (List Int)) (m : List Int) : Int := firstAt (fun x => decide (x = m)) S
def xstS (most : Int) (i : Nat) (s : Spc) (r : List Int × Int) (t : Int) : Option Spc :=
  if r.2 ≠ 0 ∨ (findI s.st r.1 < 0 ∧ most ≤ s.st.length) then some ⟨s.st, s.mv, false⟩
  else if 20000 ≤ s.mv.length then none
  else some ⟨if findI s.st r.1 < 0 then s.st ++ [r.1] else s.st, s.mv ++ [⟨i, if findI s.st r.1 < 0 then s.st.length else findI s.st r.1, t⟩], s.full⟩
def rowS (n : Net) (most : Int) (i : Nat) (x : List Int) : List Int → Spc → Option Spc
  | [], s => some s
  | t :: ts, s => (xstS most i s (FireE n x t) t).bind (rowS n most i x ts)
def expS (n : Net) (most : Int) : Nat → Nat → Spc → Option Spc
  | 0, _, s => some s
  | f + 1, i, s => if i < s.st.length then (rowS n most i (gti s.st i) (enabledL (gti s.st i) 0 n.trans) s).bind (expS n most f (i + 1)) else some s
def explR (r : Option Spc) : Spc × Int := match r with | some s => (s, 0) | none => (zSp, 13)
def explE (n : Net) (m : List Int) (most : Int) : Spc × Int := if markB n m = true then (if most < 1 ∨ 2000 < most then (zSp, 2) else explR (expS n most (most.toNat + 1) 0 ⟨[m], [], true⟩)) else (zSp, 1)
theorem findI_neg {S : List (List Int)} {m : List Int} : findI S m < 0 ↔ m ∉ S := by
  have h := firstAt_any (fun x => decide (x = m)) S
  unfold findI
  rw [Bool.eq_iff_iff, List.any_eq_true] at h
  simp only [decide_eq_true_eq] at h
  constructor
  · intro hn hm
    have := h.2 ⟨m, hm, rfl⟩
    omega
  · intro hm
    by_cases h0 : 0 ≤ firstAt (fun x => decide (x = m)) S
    · obtain ⟨x, hx, rfl⟩ := h.1 h0
      exact absurd hx hm
    · omega
theorem findI_pos {S : List (List Int)} {m : List Int} (h : 0 ≤ findI S m) : ∃ k : Nat, findI S m = k ∧ S[k]? = some m ∧ k < S.length := by
  unfold findI firstAt at h ⊢
  cases e : S.findIdx? (fun x => decide (x = m)) with
  | none => rw [e] at h; simp at h
  | some k =>
    refine ⟨k, rfl, ?_, ?_⟩
    · have := List.findIdx?_eq_some_iff_getElem.1 e
      obtain ⟨h1, h2, _⟩ := this
      rw [List.getElem?_eq_getElem h1]
      exact congrArg some (of_decide_eq_true h2)
    · exact (List.findIdx?_eq_some_iff_getElem.1 e).1
theorem findI_at {S : List (List Int)} {m : List Int} {k : Nat} (hk : S[k]? = some m) (hn : ∀ j, j < k → S[j]? ≠ some m) : findI S m = k :=
  firstAt_some hk (decide_eq_true rfl) (fun j a hj ha => decide_eq_false (fun e => hn j hj (by rw [ha, e])))
theorem findI_snoc_self {S : List (List Int)} {m : List Int} (h : m ∉ S) : findI (S ++ [m]) m = S.length :=
  findI_at (by simp) (fun j hj e => h (by rw [List.getElem?_append_left hj] at e; exact List.mem_of_getElem? e))
theorem findI_snoc_old {S : List (List Int)} {m x : List Int} (h : m ∈ S) : findI (S ++ [x]) m = findI S m := by
  obtain ⟨k, h1, h2, h3⟩ := findI_pos (S := S) (m := m) (by by_cases h0 : findI S m < 0; exact absurd h (findI_neg.1 h0); omega)
  unfold findI firstAt at *
  rw [List.findIdx?_append]
  cases e : S.findIdx? (fun x => decide (x = m)) with
  | none => rw [e] at h1; simp at h1
  | some k => rfl
structure SI (n : Net) (most : Int) (s : Spc) : Prop where
  marks : ∀ x ∈ s.st, markB n x = true
  nd : s.st.Nodup
  ne : 1 ≤ s.st.length
  le : (s.st.length : Int) ≤ most
  mvs : s.mv.length ≤ 20000
theorem SI.init {n : Net} {m : List Int} {most : Int} (h : markB n m = true) (h1 : ¬ most < 1) : SI n most ⟨[m], [], true⟩ :=
  ⟨fun x hx => by simp at hx; subst hx; exact h, by simp, by simp, by simp; omega, by simp⟩
theorem SI.step {n : Net} {most : Int} {s s' : Spc} {i : Nat} {x : List Int} {t : Int} (h : SI n most s) (hx : markB n x = true) (he : xstS most i s (FireE n x t) t = some s') : SI n most s' := by
  unfold xstS at he
  split at he
  · cases he; exact ⟨h.marks, h.nd, h.ne, h.le, h.mvs⟩
  · rename_i h1
    split at he
    · cases he
    · rename_i h2
      cases he
      have h0 : (FireE n x t).2 = 0 := Classical.byContradiction fun hc => h1 (.inl hc)
      by_cases hf : findI s.st (FireE n x t).1 < 0
      · simp only [if_pos hf]
        have hlt : ¬ most ≤ s.st.length := fun hc => h1 (.inr ⟨hf, hc⟩)
        refine ⟨fun y hy => ?_, ?_, by simp, by simp; omega, by simp; omega⟩
        · rcases List.mem_append.1 hy with hy | hy
          · exact h.marks y hy
          · simp at hy; subst hy; exact FireE_mark hx h0
        · refine List.nodup_append.2 ⟨h.nd, by simp, fun a ha b hb e => ?_⟩
          simp at hb
          subst hb e
          exact findI_neg.1 hf ha
      · simp only [if_neg hf]
        exact ⟨h.marks, h.nd, h.ne, h.le, by simp; omega⟩
theorem SI.gti {n : Net} {most : Int} {s : Spc} (h : SI n most s) {i : Nat} (hi : i < s.st.length) : markB n (gti s.st i) = true := h.marks _ (gti_mem hi)
end Go.Proofs.Ytmhbfoaecebobaa
end
