/-
  Texts joined: AwJ, Core. Conditions: none.
-/
import Derived.Test.YtmhbfoaecebobaaJP4
import Derived.Test.YtmhbfoaecebobaaJP1
import Derived.Deep.AppendLies
import Derived.Laws.MakeOwn
section
namespace Go.Proofs.Ytmhbfoaecebobaa.Aw
set_option linter.unusedSimpArgs false
set_option linter.unusedVariables false
open Go.RowKit

/-- which operations must have come up -/
def maskOf (acc : List Nat) (o : Oper) : Nat := o.after.toList.foldl (fun s e => bif Region.binds .any e then (s ||| 2 ^ e.on) ||| acc.getD e.on 0 else s) 0
def masks : List Oper → List Nat → List Nat
  | [], acc => acc
  | o :: l, acc => masks l (acc ++ [maskOf acc o])
def clash (ops : Array Oper) (x y : Oper) : Bool :=
  (match x.dst with | some d => (y.looksAt ops).contains d || y.dst == some d | none => false) ||
  (match y.dst with | some d => (x.looksAt ops).contains d | none => false)
/-- operations that touch one slot keep their order -/
def qOk (l : List Oper) : Bool :=
  let m := masks l []
  (List.range l.length).all fun j => match l[j]? with
    | none => true
    | some oj => (oj.after.toList.all fun e => !Region.binds .any e || Nat.blt e.on j) && (List.range j).all fun i => match l[i]? with
      | none => true
      | some oi => !clash l.toArray oi oj || (m.getD j 0).testBit i

theorem maskOf_bit {acc : List Nat} {i : Nat} : ∀ (es : List Edge) (s : Nat), (es.foldl (fun s e => bif Region.binds .any e then (s ||| 2 ^ e.on) ||| acc.getD e.on 0 else s) s).testBit i = true → s.testBit i = true ∨ ∃ e ∈ es, Region.binds .any e = true ∧ (e.on = i ∨ (acc.getD e.on 0).testBit i = true)
  | [], s, h => .inl h
  | e :: es, s, h => by
    rw [List.foldl_cons] at h
    rcases maskOf_bit es _ h with h1 | ⟨e', h1, h2⟩
    · cases hb : Region.binds .any e with
      | false => rw [hb] at h1; exact .inl h1
      | true =>
        rw [hb] at h1
        simp only [cond_true, Nat.testBit_or, Bool.or_eq_true] at h1
        rcases h1 with (h1 | h1) | h1
        · exact .inl h1
        · refine .inr ⟨e, by simp, hb, .inl ?_⟩
          rw [Nat.testBit_two_pow] at h1
          simpa using h1
        · exact .inr ⟨e, by simp, hb, .inr h1⟩
    · exact .inr ⟨e', by simp [h1], h2⟩

/-- closed under waiting -/
def Closed (l : List Oper) (D : Nat → Prop) : Prop := ∀ (j : Nat) o, l[j]? = some o → D j → ∀ e ∈ o.after.toList, Region.binds .any e = true → D e.on
theorem masks_len : ∀ (l : List Oper) (acc : List Nat), (masks l acc).length = acc.length + l.length
  | [], acc => rfl
  | o :: l, acc => by rw [masks, masks_len]; simp; omega
theorem masks_sound {all : List Oper} {D : Nat → Prop} (hD : Closed all D) : ∀ (l : List Oper) (acc : List Nat), (∀ j o, l[j]? = some o → all[acc.length + j]? = some o) → (∀ (j i : Nat), j < acc.length → (acc.getD j 0).testBit i = true → D j → D i) →
    ∀ (j i : Nat), ((masks l acc).getD j 0).testBit i = true → D j → D i
  | [], acc, _, h, j, i, hb, hj => by
    by_cases hlt : j < acc.length
    · exact h j i hlt hb hj
    · simp [masks, List.getD, hlt] at hb
  | o :: l, acc, hall, h, j, i, hb, hj => by
    refine masks_sound hD l (acc ++ [maskOf acc o]) (fun j o' ho' => ?_) (fun j i hlt hb hj => ?_) j i hb hj
    · have := hall (j + 1) o' (by simpa using ho')
      rw [← this]
      congr 1
      simp; omega
    · simp only [List.length_append, List.length_singleton] at hlt
      by_cases hlt2 : j < acc.length
      · rw [List.getD_eq_getElem?_getD, List.getElem?_append_left hlt2, ← List.getD_eq_getElem?_getD] at hb
        exact h j i hlt2 hb hj
      · have hje : j = acc.length := by omega
        subst hje
        rw [List.getD_eq_getElem?_getD, List.getElem?_append_right (Nat.le_refl _)] at hb
        simp at hb
        rcases maskOf_bit _ _ hb with h1 | ⟨e, h1, h2, h3⟩
        · simp at h1
        · have hoe := hD acc.length o (by simpa using hall 0 o rfl) hj e h1 h2
          rcases h3 with rfl | h3
          · exact hoe
          · by_cases hlt3 : e.on < acc.length
            · exact h e.on i hlt3 h3 hoe
            · simp [List.getD, hlt3] at h3

/-- the frame once some operations have come up -/
def fr (sel : Nat → Bool) : Nat → List (Nat × AV) → Frm → Frm
  | _, [], F => F
  | k, p :: out, F => fr sel (k + 1) out (bif sel k then p :: F else F)
theorem fr_congr {sel sel' : Nat → Bool} {t : Nat} : ∀ (out : List (Nat × AV)) (k : Nat) (F F' : Frm), F.get t = F'.get t → (∀ (j : Nat) p, out[j]? = some p → p.1 = t → sel (k + j) = sel' (k + j)) → (fr sel k out F).get t = (fr sel' k out F').get t
  | [], k, F, F', h, _ => h
  | p :: out, k, F, F', h, hs => by
    refine fr_congr out (k + 1) _ _ ?_ (fun j q hq he => by have := hs (j + 1) q (by simpa using hq) he; rwa [show k + (j + 1) = k + 1 + j by omega] at this)
    by_cases hp : p.1 = t
    · have h1 := hs 0 p rfl hp
      simp only [Nat.add_zero] at h1
      rw [h1]
      obtain ⟨d, x⟩ := p
      cases sel' k with
      | true => simp only [cond_true, Frm.get, h]
      | false => exact h
    · have hb : ∀ (F : Frm), Frm.get (p :: F) t = F.get t := fun F => by
        obtain ⟨d, x⟩ := p
        simp only [Frm.get]
        cases e : Nat.beq d t with
        | true => exact absurd (Nat.eq_of_beq_eq_true e) hp
        | false => rfl
      cases sel k <;> cases sel' k <;> simp [hb, h]
theorem fr_last {sel : Nat → Bool} {t : Nat} {x : AV} : ∀ (out : List (Nat × AV)) (k : Nat) (F : Frm) (i : Nat), out[i]? = some (t, x) → sel (k + i) = true → (∀ (j : Nat) p, out[j]? = some p → i < j → sel (k + j) = true → p.1 ≠ t) → (fr sel k out F).get t = x
  | [], _, _, i, h, _, _ => by simp at h
  | p :: out, k, F, 0, h, hs, hn => by
    simp at h
    subst h
    have h1 : (fr sel (k + 1) out ((t, x) :: F)).get t = (fr (fun _ => false) (k + 1) out ((t, x) :: F)).get t := fr_congr out (k + 1) _ _ rfl (fun j q hq he => by
      cases hc : sel (k + 1 + j) with
      | false => rfl
      | true => exact absurd he (hn (j + 1) q (by simpa using hq) (by omega) (by rw [show k + (j + 1) = k + 1 + j by omega]; exact hc)))
    have h2 : ∀ (out : List (Nat × AV)) (k : Nat) (F : Frm), fr (fun _ => false) k out F = F := by
      intro out
      induction out with
      | nil => intro k F; rfl
      | cons p out ih => intro k F; simp [fr, ih]
    simp only [Nat.add_zero] at hs
    simp only [fr, hs, cond_true]
    rw [h1, h2]
    simp [Frm.get]
  | p :: out, k, F, i + 1, h, hs, hn => by
    simp only [fr]
    exact fr_last out (k + 1) _ i (by simpa using h) (by rwa [show k + 1 + i = k + (i + 1) by omega]) (fun j q hq hij hc => hn (j + 1) q (by simpa using hq) (by omega) (by rwa [show k + (j + 1) = k + 1 + j by omega]))
theorem fr_pre : ∀ (out : List (Nat × AV)) (k i : Nat) (F : Frm), fr (fun j => decide (j < k + i)) k out F = (out.take i).reverse ++ F
  | [], k, i, F => by simp [fr]
  | p :: out, k, 0, F => by
    have h := fr_pre out (k + 1) 0 F
    have h2 : ∀ (out : List (Nat × AV)) (k' : Nat) (F : Frm), k ≤ k' → fr (fun j => decide (j < k + 0)) k' out F = F := by
      intro out
      induction out with
      | nil => intro k' F _; rfl
      | cons p out ih =>
        intro k' F hk
        have : decide (k' < k + 0) = false := by simp; omega
        simp only [fr, this, cond_false]
        exact ih _ _ (by omega)
    simpa using h2 (p :: out) k F (Nat.le_refl _)
  | p :: out, k, i + 1, F => by
    have h := fr_pre out (k + 1) i (p :: F)
    have : decide (k < k + (i + 1)) = true := by simp
    simp only [fr, this, cond_true]
    rw [show (fun j => decide (j < k + (i + 1))) = (fun j => decide (j < k + 1 + i)) by funext j; congr 1; simp; omega, h]
    simp

inductive QSteps (P : Program) (N : Nat) (ops : Array Oper) (σ : List Ob) : List Oper → Frm → Frm → List (Nat × AV) → Prop
  | nil (F : Frm) : QSteps P N ops σ [] F F []
  | run (o : Oper) (l : List Oper) (F F' : Frm) (x : AV) (out : List (Nat × AV)) (d : Nat) (hd : o.dst = some d) (hN : Nat.blt d N = true) (hr : Runs ops F o true) (hD : Does P o F σ x σ) (h : QSteps P N ops σ l ((d, x) :: F) F' out) : QSteps P N ops σ (o :: l) F F' ((d, x) :: out)
  | skip (o : Oper) (l : List Oper) (F F' : Frm) (out : List (Nat × AV)) (d : Nat) (hd : o.dst = some d) (hN : Nat.blt d N = true) (hr : Runs ops F o false) (h : QSteps P N ops σ l ((d, .s undef) :: F) F' out) : QSteps P N ops σ (o :: l) F F' ((d, .s undef) :: out)

theorem qsteps_at {P : Program} {N : Nat} {ops : Array Oper} {σ : List Ob} : ∀ {l : List Oper} {F F' : Frm} {out : List (Nat × AV)}, QSteps P N ops σ l F F' out → l.length = out.length ∧ F' = out.reverse ++ F ∧
    ∀ (i : Nat) o, l[i]? = some o → ∃ d x, out[i]? = some (d, x) ∧ o.dst = some d ∧ d < N ∧ ((Runs ops ((out.take i).reverse ++ F) o true ∧ Does P o ((out.take i).reverse ++ F) σ x σ) ∨ (Runs ops ((out.take i).reverse ++ F) o false ∧ x = .s undef)) := by
  intro l F F' out h
  induction h with
  | nil F => exact ⟨rfl, rfl, by simp⟩
  | run o l F F' x out d hd hN hr hD h ih =>
    obtain ⟨h1, h2, h3⟩ := ih
    refine ⟨by simp [h1], by simp [h2], fun i o' hi => ?_⟩
    cases i with
    | zero => simp at hi; subst hi; exact ⟨d, x, rfl, hd, by simpa [Nat.blt_eq] using hN, .inl ⟨by simpa using hr, by simpa using hD⟩⟩
    | succ i =>
      obtain ⟨d', x', g1, g2, g3, g4⟩ := h3 i o' (by simpa using hi)
      exact ⟨d', x', by simpa using g1, g2, g3, by simpa using g4⟩
  | skip o l F F' out d hd hN hr h ih =>
    obtain ⟨h1, h2, h3⟩ := ih
    refine ⟨by simp [h1], by simp [h2], fun i o' hi => ?_⟩
    cases i with
    | zero => simp at hi; subst hi; exact ⟨d, .s undef, rfl, hd, by simpa [Nat.blt_eq] using hN, .inr ⟨by simpa using hr, rfl⟩⟩
    | succ i =>
      obtain ⟨d', x', g1, g2, g3, g4⟩ := h3 i o' (by simpa using hi)
      exact ⟨d', x', by simpa using g1, g2, g3, by simpa using g4⟩

/-- how many have not come up -/
def left : List Bool → Nat
  | [] => 0
  | b :: l => (bif b then 0 else 1) + left l
theorem left_set : ∀ (l : List Bool) (i : Nat), l[i]? = some false → left (l.set i true) + 1 = left l
  | [], i, h => by simp at h
  | b :: l, 0, h => by simp at h; subst h; simp [left]; omega
  | b :: l, i + 1, h => by have := left_set l i (by simpa using h); simp [left]; omega
theorem left_pos {l : List Bool} : ∀ (i : Nat), l[i]? = some false → 0 < left l
  | i, h => by have := left_set l i h; omega

theorem eval_congr {F F' : Frm} {ops : Array Oper} {o : Oper} (h : ∀ t ∈ o.looksAt ops, F.get t = F'.get t) : ∀ y ∈ o.op.operands, F.eval y = F'.eval y := by
  intro y hy
  cases y with
  | tmp t => exact h t (List.mem_append_left _ (List.mem_filterMap.2 ⟨.tmp t, by simpa using hy, rfl⟩))
  | _ => rfl
theorem Does.congr {P : Program} {F F' : Frm} {ops : Array Oper} {o : Oper} {σ σ' : List Ob} {x : AV} (h : Does P o F σ x σ') (he : ∀ t ∈ o.looksAt ops, F.get t = F'.get t) : Does P o F' σ x σ' := fun G a next Q hr hop hn =>
  h G a next Q hr (fun y hy => by rw [eval_congr he y hy]; exact hop y hy) hn
theorem Runs.congr {F F' : Frm} {ops : Array Oper} {o : Oper} {b : Bool} (h : Runs ops F o b) (he : ∀ t ∈ o.looksAt ops, F.get t = F'.get t) : Runs ops F' o b := by
  unfold Runs at h ⊢
  cases hg : o.guard with
  | none => rw [hg] at h; exact h
  | some jb =>
    obtain ⟨j, want⟩ := jb
    rw [hg] at h
    obtain ⟨t, h1, h2⟩ := h
    exact ⟨t, h1, by rw [← he t (List.mem_append_right _ (by simp [hg, h1]))]; exact h2⟩

def ADraw (P : Program) (N : Nat) (l : List Oper) (F : Frm) (σ : List Ob) (Q : Exit → Frm → List Ob → Prop) : Prop :=
  ∀ G a, S8 N G a F σ → wpAny P .any l.toArray (lift N G Q) l.length (Array.replicate l.length false) a G.w

theorem clash_of {ops : Array Oper} {x y : Oper} {d : Nat} : (x.dst = some d → d ∈ y.looksAt ops → clash ops x y = true) ∧ (x.dst = some d → y.dst = some d → clash ops x y = true) ∧ (y.dst = some d → d ∈ x.looksAt ops → clash ops x y = true) := by
  refine ⟨fun h1 h2 => ?_, fun h1 h2 => ?_, fun h1 h2 => ?_⟩
  · simp [clash, h1, h2]
  · simp [clash, h1, h2]
  · simp [clash, h1, h2]

section
variable {P : Program} {N : Nat} {l : List Oper} {F F' : Frm} {σ : List Ob} {out : List (Nat × AV)} {Q : Exit → Frm → List Ob → Prop}

theorem quiet_any (hq : qOk l = true) (hs : QSteps P N l.toArray σ l F F' out) (hQ : Q .normal F' σ) (G0 : Cx) :
    ∀ (fuel : Nat) (L : Array Bool) (G : Cx) (a : Act), G0.Step G → L.size = l.length → left L.toList = fuel → Closed l (fun j => L.getD j false = true) → S8 N G a (fr (fun j => L.getD j false) 0 out F) σ → wpAny P .any l.toArray (lift N G0 Q) fuel L a G.w := by
  obtain ⟨hlen, hF', hat⟩ := qsteps_at hs
  unfold qOk at hq
  have hq' : ∀ j oj, l[j]? = some oj → (∀ e ∈ oj.after.toList, Region.binds .any e = true → e.on < j) ∧ ∀ i oi, i < j → l[i]? = some oi → clash l.toArray oi oj = true → ((masks l []).getD j 0).testBit i = true := by
    intro j oj hj
    have h1 := List.all_eq_true.1 hq j (by simpa using (List.getElem?_eq_some_iff.1 hj).1)
    rw [hj] at h1
    simp only [Bool.and_eq_true, List.all_eq_true] at h1
    refine ⟨fun e he hb => ?_, fun i oi hij hi hc => ?_⟩
    · have := h1.1 e he
      rw [hb] at this
      simpa [Nat.blt_eq] using this
    · have := h1.2 i (by simpa using hij)
      rw [hi] at this
      simpa [hc] using this
  have hsound : ∀ (D : Nat → Prop), Closed l D → ∀ j i, ((masks l []).getD j 0).testBit i = true → D j → D i := fun D hD => masks_sound hD l [] (fun j o h => by simpa using h) (fun j i h => by simp at h)
  have hnone : ∀ (L : Array Bool), L.size = l.length → Region.ready .any l.toArray L = [] → ∀ j, j < l.length → L.getD j false = true := by
    intro L hL hr j
    induction j using Nat.strongRecOn with
    | _ j ih =>
      intro hj
      cases hc : L.getD j false with
      | true => rfl
      | false =>
        exfalso
        obtain ⟨o, ho⟩ : ∃ o, l[j]? = some o := ⟨_, List.getElem?_eq_getElem hj⟩
        have hm : j ∈ Region.ready .any l.toArray L := by
          refine mem_ready.2 ⟨?_, o, by simpa using ho, fun e he hb => ?_⟩
          · have hlt : j < L.size := by omega
            simp [Array.getD_eq_getD_getElem?, hlt] at hc ⊢
            exact hc
          · have hon := (hq' j o ho).1 e (by simpa using he) hb
            exact ih e.on hon (by omega)
        rw [hr] at hm
        cases hm
  -- when all have come up
  have hend : ∀ (L : Array Bool) (G : Cx) (a : Act), G0.Step G → L.size = l.length → Region.ready .any l.toArray L = [] → S8 N G a (fr (fun j => L.getD j false) 0 out F) σ → lift N G0 Q .normal a G.w := by
    intro L G a hst hL hr h8
    refine ⟨G, F', σ, rfl, hst, ⟨h8.rel, fun t => ?_, h8.df, h8.nt⟩, hQ⟩
    have h1 := h8.fr t
    have h2 : (fr (fun j => L.getD j false) 0 out F).get t = (fr (fun j => decide (j < 0 + out.length)) 0 out F).get t := fr_congr out 0 F F rfl (fun j p hp _ => by
      have hj : j < out.length := (List.getElem?_eq_some_iff.1 hp).1
      simp only [Nat.zero_add]
      rw [hnone L hL hr j (by omega)]
      simp [hj])
    rw [h2, fr_pre, List.take_length, ← hF'] at h1
    exact h1
  intro fuel
  induction fuel with
  | zero =>
    intro L G a hst hL hlf hcl h8
    have hr : Region.ready .any l.toArray L = [] := by
      rw [List.eq_nil_iff_forall_not_mem]
      intro i hi
      obtain ⟨h1, o, ho, _⟩ := mem_ready.1 hi
      have hlt : i < L.size := by rw [hL]; simpa using (Array.getElem?_eq_some_iff.1 ho).1
      have : 0 < left L.toList := left_pos i (by simp [Array.getD_eq_getD_getElem?, hlt] at h1 ⊢; exact h1)
      omega
    exact ⟨hr, hend L G a hst hL hr h8⟩
  | succ fuel ih =>
    intro L G a hst hL hlf hcl h8
    refine ⟨fun hr => hend L G a hst hL hr h8, fun i hi => ?_⟩
    obtain ⟨h1, o, ho, hall⟩ := mem_ready.1 hi
    have hli : l[i]? = some o := by simpa using ho
    have hlt : i < L.size := by rw [hL]; exact (List.getElem?_eq_some_iff.1 hli).1
    have hfalse : L.getD i false = false := by simp [Array.getD_eq_getD_getElem?, hlt] at h1 ⊢; exact h1
    obtain ⟨d, x, g1, g2, g3, g4⟩ := hat i o hli
    -- the others that touch its slots: those before it have come up, those behind it have not
    have hcl' : Closed l (fun j => j = i ∨ L.getD j false = true) := by
      intro j oj hj hD e he hb
      rcases hD with rfl | hD
      · rw [hli] at hj; cases hj
        exact .inr (hall e (by simpa using he) hb)
      · exact .inr (hcl j oj hj hD e he hb)
    have hord : ∀ j oj, l[j]? = some oj → j ≠ i → (j < i → clash l.toArray oj o = true → L.getD j false = true) ∧ (i < j → clash l.toArray o oj = true → L.getD j false = false) := by
      intro j oj hj hne
      refine ⟨fun hji hc => ?_, fun hij hc => ?_⟩
      · rcases hsound _ hcl' i j ((hq' i o hli).2 j oj hji hj hc) (.inl rfl) with h | h
        · exact absurd h hne
        · exact h
      · cases hx : L.getD j false with
        | false => rfl
        | true =>
          have := hsound _ hcl j i ((hq' j oj hj).2 i o hij hli hc) hx
          rw [hfalse] at this
          cases this
    have hsel : ∀ t, t ∈ o.looksAt l.toArray → Frm.get ((out.take i).reverse ++ F) t = (fr (fun j => L.getD j false) 0 out F).get t := by
      intro t ht
      rw [← fr_pre out 0 i F]
      refine (fr_congr out 0 F F rfl (fun j p hp hpt => ?_)).symm
      simp only [Nat.zero_add]
      have hj : j < l.length := by rw [hlen]; exact (List.getElem?_eq_some_iff.1 hp).1
      obtain ⟨d', x', k1, k2, _, _⟩ := hat j _ (List.getElem?_eq_getElem hj)
      rw [k1] at hp
      cases hp
      dsimp only at hpt
      subst hpt
      by_cases hji : j = i
      · subst hji; rw [hfalse]; simp
      · rcases Nat.lt_or_gt_of_ne hji with h | h
        · rw [(hord j _ (List.getElem?_eq_getElem hj) hji).1 h (clash_of.1 k2 ht)]; simp [h]
        · rw [(hord j _ (List.getElem?_eq_getElem hj) hji).2 h (clash_of.2.2 k2 ht)]; simp; omega
    -- what is known behind it
    have hnext : ∀ (G' : Cx) (v : Value), G.Ext G' → Rel G' σ → Rep G' v x → wpAny P .any l.toArray (lift N G0 Q) fuel (L.setIfInBounds i true) (a.put (some d) v) G'.w := by
      intro G' v he hr' hv
      refine ih _ G' _ (hst.trans he.step) (by simpa using hL) ?_ ?_ ⟨hr', fun t => ?_, h8.df, by simp [Act.put, h8.nt]⟩
      · have := left_set L.toList i (by simp [Array.getD_eq_getD_getElem?, hlt] at hfalse ⊢; exact hfalse)
        rw [Array.toList_setIfInBounds]; omega
      · intro j oj hj hD e he2 hb
        have key : ∀ k, (L.setIfInBounds i true).getD k false = true ↔ (k = i ∨ L.getD k false = true) := fun k => by
          by_cases hk : i = k
          · subst hk; simp [Array.getD_eq_getD_getElem?, hlt]
          · simp [Array.getD_eq_getD_getElem?, Array.getElem?_setIfInBounds, hk, Ne.symm hk]
        rw [key] at hD ⊢
        exact hcl' j oj hj hD e he2 hb
      · have hselL : ∀ k, k ≠ i → (L.setIfInBounds i true).getD k false = L.getD k false := fun k hk => by
          simp [Array.getD_eq_getD_getElem?, Array.getElem?_setIfInBounds, Ne.symm hk]
        by_cases htd : t = d
        · subst htd
          have h2 : (fr (fun j => (L.setIfInBounds i true).getD j false) 0 out F).get t = x := fr_last out 0 F i g1 (by simp [Array.getD_eq_getD_getElem?, hlt]) (fun j p hp hij hc hpt => by
            simp only [Nat.zero_add] at hc
            rw [hselL j (by omega)] at hc
            have hj : j < l.length := by rw [hlen]; exact (List.getElem?_eq_some_iff.1 hp).1
            obtain ⟨d', x', k1, k2, _, _⟩ := hat j _ (List.getElem?_eq_getElem hj)
            rw [k1] at hp
            cases hp
            dsimp only at hpt
            subst hpt
            have := (hord j _ (List.getElem?_eq_getElem hj) (by omega)).2 hij (clash_of.2.1 g2 k2)
            rw [this] at hc
            cases hc)
          rw [h2]
          have : t < a.tmps.size := by rw [h8.nt]; exact g3
          simpa [Act.put, Array.getD_eq_getD_getElem?, this] using hv
        · have h2 : (fr (fun j => (L.setIfInBounds i true).getD j false) 0 out F).get t = (fr (fun j => L.getD j false) 0 out F).get t := fr_congr out 0 F F rfl (fun j p hp hpt => by
            simp only [Nat.zero_add]
            refine hselL j (fun e => ?_)
            subst e
            rw [g1] at hp
            cases hp
            exact htd hpt.symm)
          rw [h2]
          have := (h8.fr t).ext he
          simpa [Act.put, Array.getD_eq_getD_getElem?, Array.getElem?_setIfInBounds, Ne.symm htd] using this
    unfold wpOp
    simp only [ho]
    rcases g4 with ⟨k1, k2⟩ | ⟨k1, rfl⟩
    · rw [if_pos ((k1.congr hsel).wanted h8.fr)]
      left
      refine (k2.congr hsel) G a _ _ h8.rel (fun y _ => rep_eval h8.fr y) (fun v G' he hr' hv => ?_)
      rw [g2]
      exact hnext G' v he hr' hv
    · rw [if_neg (by rw [(k1.congr hsel).wanted h8.fr]; simp)]
      rw [g2]
      exact hnext G undef (.refl G) h8.rel (.s _)

/-- a region in which all only read, call and make -/
def QX (P : Program) (N : Nat) (ops : Array Oper) (σ : List Ob) (l : List Oper) (F : Frm) (K : Frm → Prop) : Prop := ∃ F' out, QSteps P N ops σ l F F' out ∧ K F'
theorem qx_nil {ops : Array Oper} {K : Frm → Prop} (h : K F) : QX P N ops σ [] F K := ⟨F, [], .nil F, h⟩
theorem qx_op {ops : Array Oper} {K : Frm → Prop} {o : Oper} {d : Nat} {x : AV} (hd : o.dst = some d) (hN : Nat.blt d N = true) (hr : Runs ops F o true) (hD : Does P o F σ x σ) (h : QX P N ops σ l ((d, x) :: F) K) : QX P N ops σ (o :: l) F K := by
  obtain ⟨F', out, h1, h2⟩ := h
  exact ⟨F', _, .run o l F F' x out d hd hN hr hD h1, h2⟩
theorem qx_skip {ops : Array Oper} {K : Frm → Prop} {o : Oper} {d : Nat} (hd : o.dst = some d) (hN : Nat.blt d N = true) (hr : Runs ops F o false) (h : QX P N ops σ l ((d, .s undef) :: F) K) : QX P N ops σ (o :: l) F K := by
  obtain ⟨F', out, h1, h2⟩ := h
  exact ⟨F', _, .skip o l F F' out d hd hN hr h1, h2⟩
theorem left_rep : ∀ n, left (List.replicate n false) = n
  | 0 => rfl
  | n + 1 => by simp [List.replicate_succ, left, left_rep n]; omega
theorem adraw_quiet (hq : qOk l = true) (h : QX P N l.toArray σ l F (fun F' => Q .normal F' σ)) : ADraw P N l F σ Q := fun G a hs => by
  obtain ⟨F', out, h1, h2⟩ := h
  have h3 : ∀ (out : List (Nat × AV)) (k : Nat) (F : Frm), fr (fun j => (Array.replicate l.length false).getD j false) k out F = F := by
    intro out
    induction out with
    | nil => intro k F; rfl
    | cons p out ih =>
      intro k F
      have : (Array.replicate l.length false).getD k false = false := by
        simp only [Array.getD_eq_getD_getElem?, Array.getElem?_replicate]
        split <;> rfl
      simp only [fr, this, cond_false]
      exact ih _ _
  refine quiet_any hq h1 h2 G l.length _ G a (.refl G) (by simp) (by simp [left_rep]) ?_ ?_
  · intro j o hj hD
    have : (Array.replicate l.length false).getD j false = false := by
      simp only [Array.getD_eq_getD_getElem?, Array.getElem?_replicate]
      split <;> rfl
    rw [this] at hD
    cases hD
  · rw [h3]; exact hs

theorem wpAny_mono {md : Region.Mode} {ops : Array Oper} {Q Q' : Exit → Act → World → Prop} (hQ : ∀ e a w, Q e a w → Q' e a w) : ∀ (fuel : Nat) (L : Array Bool) (a : Act) (w : World), wpAny P md ops Q fuel L a w → wpAny P md ops Q' fuel L a w
  | 0, L, a, w, h => ⟨h.1, hQ _ _ _ h.2⟩
  | fuel + 1, L, a, w, h => by
    refine ⟨fun hr => hQ _ _ _ (h.1 hr), fun i hi => ?_⟩
    have h1 := h.2 i hi
    unfold wpOp at h1 ⊢
    split
    · rename_i hn
      rw [hn] at h1
      exact wpAny_mono hQ fuel _ a w h1
    · rename_i o hn
      rw [hn] at h1
      dsimp only at h1
      split
      · rename_i hw
        rw [if_pos hw] at h1
        rcases h1 with h1 | ⟨h1, a0, w0, h2⟩
        · exact .inl (upon_mono (fun a w x => wpAny_mono hQ fuel _ a w x) hQ h1)
        · exact .inr ⟨h1, a0, w0, hQ _ _ _ h2⟩
      · rename_i hw
        rw [if_neg hw] at h1
        exact wpAny_mono hQ fuel _ _ w h1

theorem adraw_last {last : Oper} (hl : l.dropLast ++ [last] = l) (hk : lastB l.dropLast last = true) (h : ADraw P N l.dropLast F σ (AThen (fun F σ => AOps P N l.toArray [last] F σ Q) Q)) : ADraw P N l F σ Q := fun G a hs => by
  have h1 := h G a hs
  have h2 := wpAny_mono (Q' := thenLast P l.dropLast last (lift N G Q)) (fun e a w q => by
    obtain ⟨G', F', σ', rfl, g2, g3, g4⟩ := q
    unfold thenLast
    rw [hl]
    cases e with
    | normal => exact wpList_mono (fun e a w q => lift_mono g2 (fun _ _ _ x => x) q) _ _ _ (g4 G' a g3)
    | _ => exact ⟨G', F', σ', rfl, g2, g3, g4⟩) _ _ _ _ h1
  have h3 := last_any (lastOk_of hk) _ _ a G.w (by simp) h2
  rw [hl] at h3
  have h4 : l.length = l.dropLast.length + 1 := by rw [← hl]; simp
  rw [h4]
  rwa [show Array.replicate (l.dropLast.length + 1) false = (Array.replicate l.dropLast.length false).push false by simp [Array.replicate_succ]]

theorem aw_draw {id : Nat} (hm : P.follows .mixedOrders = true) (h : ADraw P N l F σ Q) : AWp P N (.region id l.toArray true) F σ Q := fun G a hs => by
  refine wp_region_any hm ?_
  have he := drew_ext G
  have h1 := h _ a (hs.step he (drew_rel hs.rel))
  exact wpAny_mono (fun e a w q => lift_mono he.step (fun _ _ _ x => x) q) _ _ _ _ (by simpa using h1)
end
end Go.Proofs.Ytmhbfoaecebobaa.Aw
end
section
namespace Go.Proofs.Ytmhbfoaecebobaa
set_option linter.unusedSimpArgs false
set_option linter.unusedVariables false
open Go.RowKit

theorem B2.alloc {W : World} {g : Nat} {x y : Value} (h : B2 W g x y) (o : Obj) : B2 (W.alloc o) g x y :=
  B2.after ((Below.refl W.heap.size W).alloc (Nat.le_refl _) o) h h.lt
theorem block_far {W : World} {g g' o : Nat} {u : Value} (hne : g ≠ g') : (W.setCell ⟨g', o, none⟩ u).heap[g]? = W.heap[g]? := Below.heap_setCell _ _ _ _ hne
theorem B2.of_block {W W' : World} {g : Nat} {x y : Value} (h : B2 W g x y) (he : W'.heap[g]? = W.heap[g]?) (hs : W.heap.size ≤ W'.heap.size) : B2 W' g x y := by
  obtain ⟨h1, h2, h3, h4, h5⟩ := h
  exact ⟨(World.cell?_of_block (w := W) he).trans h1, (World.cell?_of_block (w := W) he).trans h2, (World.frozen?_of_block (w := W) he).trans h3, (World.frozen?_of_block (w := W) he).trans h4, Nat.lt_of_lt_of_le h5 hs⟩
theorem B1.of_block {W W' : World} {g : Nat} {x : Value} (h : B1 W g x) (he : W'.heap[g]? = W.heap[g]?) (hs : W.heap.size ≤ W'.heap.size) : B1 W' g x := by
  obtain ⟨h1, h2, h5⟩ := h
  exact ⟨(World.cell?_of_block (w := W) he).trans h1, (World.frozen?_of_block (w := W) he).trans h2, Nat.lt_of_lt_of_le h5 hs⟩
theorem size_setCell (W : World) (p : Addr) (u : Value) : (W.setCell p u).heap.size = W.heap.size := by simp [World.setCell]
theorem B2.far {W : World} {g : Nat} {x y : Value} (h : B2 W g x y) {g' o : Nat} (hne : g ≠ g') (u : Value) : B2 (W.setCell ⟨g', o, none⟩ u) g x y :=
  h.of_block (block_far hne) (by rw [size_setCell]; exact Nat.le_refl _)
theorem B1.far {W : World} {g : Nat} {x : Value} (h : B1 W g x) {g' o : Nat} (hne : g ≠ g') (u : Value) : B1 (W.setCell ⟨g', o, none⟩ u) g x :=
  h.of_block (block_far hne) (by rw [size_setCell]; exact Nat.le_refl _)
theorem B1.new (W : World) (x : Value) (t : TypeId) : B1 (W.alloc (.cells #[x] t)) W.heap.size x := by simp [B1, go_sem]
theorem B2.new (W : World) (x y : Value) (t : TypeId) : B2 (W.alloc (.cells #[x, y] t)) W.heap.size x y := by simp [B2, go_sem]


abbrev K1 (w : World) (g : Nat) (x : Value) : Prop := w.cell? ⟨g, 0, none⟩ = some x ∧ w.frozen? ⟨g, 0, none⟩ = false ∧ g < w.heap.size
abbrev K2 (w : World) (g : Nat) (x y : Value) : Prop := w.cell? ⟨g, 0, none⟩ = some x ∧ w.cell? ⟨g, 1, none⟩ = some y ∧ w.frozen? ⟨g, 0, none⟩ = false ∧ w.frozen? ⟨g, 1, none⟩ = false ∧ g < w.heap.size
abbrev K6 (w : World) (g : Nat) (a b c d e f : Value) : Prop := w.cell? ⟨g, 0, none⟩ = some a ∧ w.cell? ⟨g, 1, none⟩ = some b ∧ w.cell? ⟨g, 2, none⟩ = some c ∧ w.cell? ⟨g, 3, none⟩ = some d ∧ w.cell? ⟨g, 4, none⟩ = some e ∧ w.cell? ⟨g, 5, none⟩ = some f ∧ g < w.heap.size

theorem K1.after {W w1 : World} {g : Nat} {x : Value} (h : K1 W g x) (hb : Below W.heap.size W w1) : K1 w1 g x := B1.after hb h h.2.2
theorem K2.after {W w1 : World} {g : Nat} {x y : Value} (h : K2 W g x y) (hb : Below W.heap.size W w1) : K2 w1 g x y := B2.after hb h h.2.2.2.2
theorem K1.off {c : Nat} {W w1 : World} {g : Nat} {x : Value} (h : K1 W g x) (hb : Off c W.heap.size W w1) (hc : g ≠ c) : K1 w1 g x := B1.off hb h h.2.2 hc
theorem K2.off {c : Nat} {W w1 : World} {g : Nat} {x y : Value} (h : K2 W g x y) (hb : Off c W.heap.size W w1) (hc : g ≠ c) : K2 w1 g x y := B2.off hb h h.2.2.2.2 hc
theorem K6.of_block {W W' : World} {g : Nat} {a b c d e f : Value} (h : K6 W g a b c d e f) (he : W'.heap[g]? = W.heap[g]?) (hs : W.heap.size ≤ W'.heap.size) : K6 W' g a b c d e f := by
  obtain ⟨h1, h2, h3, h4, h5, h6, h7⟩ := h
  exact ⟨(World.cell?_of_block (w := W) he).trans h1, (World.cell?_of_block (w := W) he).trans h2, (World.cell?_of_block (w := W) he).trans h3, (World.cell?_of_block (w := W) he).trans h4, (World.cell?_of_block (w := W) he).trans h5, (World.cell?_of_block (w := W) he).trans h6, Nat.lt_of_lt_of_le h7 hs⟩
theorem K6.after {W w1 : World} {g : Nat} {a b c d e f : Value} (h : K6 W g a b c d e f) (hb : Below W.heap.size W w1) : K6 w1 g a b c d e f := K6.of_block h (hb.block g h.2.2.2.2.2.2) hb.size
theorem K6.off {x : Nat} {W w1 : World} {g : Nat} {a b c d e f : Value} (h : K6 W g a b c d e f) (hb : Off x W.heap.size W w1) (hc : g ≠ x) : K6 w1 g a b c d e f := K6.of_block h (hb.block g h.2.2.2.2.2.2 hc) hb.size

theorem K1.aft {W w1 : World} {g : Nat} {x : Value} (hb : Below W.heap.size W w1) (h : K1 W g x) : K1 w1 g x := K1.after h hb
theorem K2.aft {W w1 : World} {g : Nat} {x y : Value} (hb : Below W.heap.size W w1) (h : K2 W g x y) : K2 w1 g x y := K2.after h hb
theorem K6.aft {W w1 : World} {g : Nat} {a b c d e f : Value} (hb : Below W.heap.size W w1) (h : K6 W g a b c d e f) : K6 w1 g a b c d e f := K6.after h hb
theorem K1.oft {c : Nat} {W w1 : World} {g : Nat} {x : Value} (hb : Off c W.heap.size W w1) (h : K1 W g x) (hc : g ≠ c) : K1 w1 g x := K1.off h hb hc
theorem K2.oft {c : Nat} {W w1 : World} {g : Nat} {x y : Value} (hb : Off c W.heap.size W w1) (h : K2 W g x y) (hc : g ≠ c) : K2 w1 g x y := K2.off h hb hc
theorem K6.oft {x : Nat} {W w1 : World} {g : Nat} {a b c d e f : Value} (hb : Off x W.heap.size W w1) (h : K6 W g a b c d e f) (hc : g ≠ x) : K6 w1 g a b c d e f := K6.off h hb hc

theorem K1.alloc {W : World} {g : Nat} {x : Value} (h : K1 W g x) (o : Obj) : K1 (W.alloc o) g x := K1.after h ((Below.refl W.heap.size W).alloc (Nat.le_refl _) o)
theorem K2.alloc {W : World} {g : Nat} {x y : Value} (h : K2 W g x y) (o : Obj) : K2 (W.alloc o) g x y := K2.after h ((Below.refl W.heap.size W).alloc (Nat.le_refl _) o)
theorem K6.alloc {W : World} {g : Nat} {a b c d e f : Value} (h : K6 W g a b c d e f) (o : Obj) : K6 (W.alloc o) g a b c d e f := K6.after h ((Below.refl W.heap.size W).alloc (Nat.le_refl _) o)
theorem K1.new (W : World) (x : Value) (t : TypeId) : K1 (W.alloc (.cells #[x] t)) W.heap.size x := B1.new W x t
theorem K2.new (W : World) (x y : Value) (t : TypeId) : K2 (W.alloc (.cells #[x, y] t)) W.heap.size x y := B2.new W x y t
theorem K6.new (W : World) (a b c d e f : Value) (t : TypeId) : K6 (W.alloc (.cells #[a, b, c, d, e, f] t)) W.heap.size a b c d e f := by simp [K6, go_sem]
theorem K2.new1d (w : World) (o : Obj) (x y : Value) (t : TypeId) : K2 (((w.alloc o).alloc (.cells #[x, y] t)).drew) (w.heap.size + 1) x y := by
  have := K2.new (w.alloc o) x y t
  rw [World.size_alloc] at this
  exact this
theorem K2.newd (w : World) (x y : Value) (t : TypeId) : K2 ((w.alloc (.cells #[x, y] t)).drew) w.heap.size x y := K2.new w x y t
theorem K2.set {W : World} {g : Nat} {x y : Value} (h : K2 W g x y) (u v : Value) : K2 ((W.setCell ⟨g, 0, none⟩ u).setCell ⟨g, 1, none⟩ v) g u v := B2.set h u v
theorem K1.set {W : World} {g : Nat} {x : Value} (h : K1 W g x) (u : Value) : K1 (W.setCell ⟨g, 0, none⟩ u) g u := B1.set h u
theorem K1.far2 {W : World} {g : Nat} {x : Value} (h : K1 W g x) {g' : Nat} (hne : g ≠ g') (u v : Value) : K1 ((W.setCell ⟨g', 0, none⟩ u).setCell ⟨g', 1, none⟩ v) g x := B1.set2 h hne
theorem K1.far {W : World} {g : Nat} {x : Value} (h : K1 W g x) {g' o : Nat} (hne : g ≠ g') (u : Value) : K1 (W.setCell ⟨g', o, none⟩ u) g x := B1.far h hne u
theorem K2.far {W : World} {g : Nat} {x y : Value} (h : K2 W g x y) {g' o : Nat} (hne : g ≠ g') (u : Value) : K2 (W.setCell ⟨g', o, none⟩ u) g x y := B2.far h hne u
theorem K6.far {W : World} {g : Nat} {a b c d e f : Value} (h : K6 W g a b c d e f) {g' o : Nat} (hne : g ≠ g') (u : Value) : K6 (W.setCell ⟨g', o, none⟩ u) g a b c d e f :=
  K6.of_block h (block_far hne) (by rw [size_setCell]; exact Nat.le_refl _)

theorem K6.far2 {W : World} {g : Nat} {a b c d e f : Value} (h : K6 W g a b c d e f) {g' : Nat} (hne : g ≠ g') (u v : Value) : K6 ((W.setCell ⟨g', 0, none⟩ u).setCell ⟨g', 1, none⟩ v) g a b c d e f := K6.far (K6.far h hne u) hne v

/-- a slice that reads as the cells xs (n elements of size cells each); its block has elements of type t and a number from lo on, below hi -/
def RdG (t : TypeId) (size : Nat) (w : World) (lo hi : Nat) (v : Value) (n : Nat) (xs : List Value) : Prop :=
  xs.length = n * size ∧ ∃ A c, v = .slice A n c ∧ n ≤ c ∧ n ≤ maxLen ∧ (0 < n → ∃ b off cs fr, A = some ⟨b, off, none⟩ ∧ lo ≤ b ∧ b < hi ∧ w.heap[b]? = some (.cells cs t fr) ∧ ∀ j u, xs[j]? = some u → cs[off + j]? = some u)

section
variable {t : TypeId} {size : Nat} {w W : World} {lo hi : Nat} {v : Value} {n : Nat} {xs : List Value}
theorem RdG.of_blocks (h : RdG t size w lo hi v n xs) (hk : ∀ b, lo ≤ b → b < hi → b < w.heap.size → (∃ cs fr, w.heap[b]? = some (.cells cs t fr)) → W.heap[b]? = w.heap[b]?) : RdG t size W lo hi v n xs := by
  obtain ⟨h1, A, c, hv, h2, h3, h4⟩ := h
  refine ⟨h1, A, c, hv, h2, h3, fun hn => ?_⟩
  obtain ⟨b, off, cs, fr, hA, hlo, hhi, hb, hc⟩ := h4 hn
  exact ⟨b, off, cs, fr, hA, hlo, hhi, (hk b hlo hhi (Array.getElem?_eq_some_iff.1 hb).1 ⟨cs, fr, hb⟩).trans hb, hc⟩
theorem RdG.after (h : RdG t size w lo hi v n xs) (hb : Below w.heap.size w W) : RdG t size W lo hi v n xs := h.of_blocks fun b _ _ hb' _ => hb.block b hb'
theorem RdG.off {c : Nat} (h : RdG t size w lo hi v n xs) (hb : Off c w.heap.size w W) (hc : c < lo) : RdG t size W lo hi v n xs := h.of_blocks fun b hl _ hb' _ => hb.block b hb' (by omega)
theorem RdG.grownB {row : Option Nat} (h : RdG t size w lo hi v n xs) (hg : w.grownBy W row) (hr : ∀ g, row = some g → hi ≤ g) : RdG t size W lo hi v n xs :=
  h.of_blocks fun b _ hh hb' _ => hg.block b hb' (fun e => by have := hr b e.symm; omega)
theorem RdG.grownT {base : Nat} {e : TypeId} {sz m : Nat} {u : Value} {ys : List Value} (h : RdG t size w lo hi v n xs) (hg : w.grownBy W u.ownBlock) (ho : w.ownsRow base e sz u m ys) (hne : e ≠ t) : RdG t size W lo hi v n xs :=
  h.of_blocks fun b _ _ hb' ⟨cs, fr, hcs⟩ => hg.block b hb' (fun he => by
    rcases ho.2 with ⟨rfl, _⟩ | ⟨g, cap, cur, rfl, _, hgg, _⟩
    · simp [Value.ownBlock] at he
    · simp [Value.ownBlock] at he
      subst he
      rw [hcs] at hgg
      injection hgg with hgg
      injection hgg with _ h2
      exact hne h2.symm)
theorem RdG.mono {lo' hi' : Nat} (h : RdG t size w lo hi v n xs) (hl : lo' ≤ lo) (hh : hi ≤ hi') : RdG t size w lo' hi' v n xs := by
  obtain ⟨h1, A, c, hv, h2, h3, h4⟩ := h
  refine ⟨h1, A, c, hv, h2, h3, fun hn => ?_⟩
  obtain ⟨b, off, cs, fr, hA, hlo, hhi, hb, hc⟩ := h4 hn
  exact ⟨b, off, cs, fr, hA, by omega, by omega, hb, hc⟩
theorem RdG.of_own (h : w.ownsRow lo t size v n xs) : RdG t size w lo w.heap.size v n xs := by
  refine ⟨h.1, ?_⟩
  rcases h.2 with ⟨rfl, h0⟩ | ⟨g, cap, cur, rfl, hb, hg, h1, h2, h3, h4⟩
  · exact ⟨none, 0, by rw [h0], by omega, by simp [h0, maxLen], fun hn => by omega⟩
  · refine ⟨_, cap, rfl, h1, by omega, fun _ => ⟨g, 0, cur, _, rfl, hb, (Array.getElem?_eq_some_iff.1 hg).1, hg, ?_⟩⟩
    intro j u hu
    rw [← h4, List.getElem?_take] at hu
    split at hu
    · simpa using hu
    · cases hu
/-- the value, written out, and its cells -/
theorem RdG.form (h : RdG t size w lo hi v n xs) : ∃ A c, v = .slice A n c ∧ n ≤ c ∧ n ≤ 9223372036854775807 := by
  obtain ⟨h1, A, c, hv, h2, h3, h4⟩ := h
  exact ⟨A, c, hv, h2, by unfold maxLen at h3; omega⟩
theorem RdG.cells {A : Option Addr} {c : Nat} (h : RdG t size w lo hi (.slice A n c) n xs) (hn : 0 < n) : ∃ b off, A = some ⟨b, off, none⟩ ∧ lo ≤ b ∧ b < hi ∧ b < w.heap.size ∧ ∀ j u, xs[j]? = some u → w.cell? ⟨b, off + j, none⟩ = some u := by
  obtain ⟨h1, A', c', hv, h2, h3, h4⟩ := h
  injection hv with hA _ hc
  subst hA
  obtain ⟨b, off, cs, fr, hA, hlo, hhi, hb, hc⟩ := h4 hn
  refine ⟨b, off, hA, hlo, hhi, (Array.getElem?_eq_some_iff.1 hb).1, fun j u hu => ?_⟩
  rw [cell_of_row w b (off + j) cs t fr hb]
  exact hc j u hu
end

theorem own_off {c : Nat} {w W : World} {base : Nat} {e : TypeId} {size n : Nat} {v : Value} {xs : List Value} (h : w.ownsRow base e size v n xs) (ho : Off c w.heap.size w W) (hc : c < base) : W.ownsRow base e size v n xs :=
  h.kept ho.grownBy (by
    cases hv : v.ownBlock with
    | none => exact .inl rfl
    | some k =>
      right
      intro he
      injection he with he
      have := h.lt k hv
      omega)
theorem own_below {w W : World} {base : Nat} {e : TypeId} {size n : Nat} {v : Value} {xs : List Value} (h : w.ownsRow base e size v n xs) (hb : Below w.heap.size w W) : W.ownsRow base e size v n xs := by
  obtain ⟨h1, h2⟩ := h
  refine ⟨h1, ?_⟩
  rcases h2 with h2 | ⟨g, cap, cur, hv, hg, hh, r⟩
  · exact Or.inl h2
  · exact Or.inr ⟨g, cap, cur, hv, hg, (hb.block g (Array.getElem?_eq_some_iff.1 hh).1).trans hh, r⟩

/-- what an append onto a row of the call's own leaves below block N, if that row is not below N -/
theorem Off.grown {c N : Nat} {w W W' : World} {row : Option Nat} (h : Off c N w W) (hg : W.grownBy W' row) (hN : N ≤ W.heap.size) (hr : ∀ g, row = some g → N ≤ g) : Off c N w W' :=
  h.trans ⟨hg.os, hg.tape, hg.output, hg.size, fun k hk _ => hg.block k (by omega) (fun e => by have := hr k e.symm; omega)⟩
theorem K1.grown {W w1 : World} {g : Nat} {x : Value} {row : Option Nat} (h : K1 W g x) (hg : W.grownBy w1 row) (hr : ∀ k, row = some k → g < k) : K1 w1 g x :=
  B1.of_block h (hg.block g h.2.2 (fun e => by have := hr g e.symm; omega)) hg.size
theorem K2.grown {W w1 : World} {g : Nat} {x y : Value} {row : Option Nat} (h : K2 W g x y) (hg : W.grownBy w1 row) (hr : ∀ k, row = some k → g < k) : K2 w1 g x y :=
  B2.of_block h (hg.block g h.2.2.2.2 (fun e => by have := hr g e.symm; omega)) hg.size
theorem K6.grown {W w1 : World} {g : Nat} {a b c d e f : Value} {row : Option Nat} (h : K6 W g a b c d e f) (hg : W.grownBy w1 row) (hr : ∀ k, row = some k → g < k) : K6 w1 g a b c d e f :=
  K6.of_block h (hg.block g h.2.2.2.2.2.2 (fun e => by have := hr g e.symm; omega)) hg.size


theorem own_lit (W : World) (cs : Array Value) (t : TypeId) (base size n : Nat) (hs : cs.size = n * size) (hn : n ≤ maxLen) (hb : base ≤ W.heap.size) :
    (W.alloc (.cells cs t)).ownsRow base t size (.slice (some ⟨W.heap.size, 0, none⟩) n n) n cs.toList :=
  ⟨by simp [hs], .inr ⟨W.heap.size, n, cs, rfl, hb, heap_alloc_new W _, Nat.le_refl _, hn, hs, List.take_of_length_le (by simp [hs])⟩⟩
theorem own_ne {w : World} {base base' : Nat} {e e' : TypeId} {size size' n n' : Nat} {v v' : Value} {xs xs' : List Value} (h : w.ownsRow base e size v n xs) (h' : w.ownsRow base' e' size' v' n' xs') (hne : e ≠ e') : v.ownBlock = none ∨ v.ownBlock ≠ v'.ownBlock := by
  rcases h.2 with ⟨rfl, _⟩ | ⟨g, cap, cur, rfl, _, hg, _⟩
  · exact .inl rfl
  · right
    rcases h'.2 with ⟨rfl, _⟩ | ⟨g', cap', cur', rfl, _, hg', _⟩
    · simp [Value.ownBlock]
    · intro he
      simp [Value.ownBlock] at he
      subst he
      rw [hg] at hg'
      injection hg' with hg'
      injection hg' with _ h2
      exact hne h2

theorem own_cell {w : World} {base : Nat} {e : TypeId} {n g cap : Nat} {xs : List Value} (h : w.ownsRow base e 1 (.slice (some ⟨g, 0, none⟩) n cap) n xs) {j : Nat} {u : Value} (hj : xs[j]? = some u) : w.cell? ⟨g, j, none⟩ = some u := by
  have := h.cells (g := g) rfl j u hj
  have hadd : (⟨g, 0, none⟩ : Addr).add j = ⟨g, j, none⟩ := by unfold Addr.add; split <;> simp_all
  rw [hadd] at this
  exact this

theorem own_lower {W : World} {lo lo' t sz n : Nat} {v : Value} {cells : List Value} (h : W.ownsRow lo t sz v n cells) (hl : lo' ≤ lo) : W.ownsRow lo' t sz v n cells := by
  refine ⟨h.1, ?_⟩
  rcases h.2 with h2 | ⟨g', cap', cur, hv, hg', r⟩
  · exact Or.inl h2
  · exact Or.inr ⟨g', cap', cur, hv, Nat.le_trans hl hg', r⟩

theorem K2.far' {W : World} {s : Nat} {x y : Value} (h : K2 W s x y) {g i j : Nat} (hne : s ≠ g) (u v : Value) : K2 ((W.setCell ⟨g, i, none⟩ u).setCell ⟨g, j, none⟩ v) s x y := K2.far (K2.far h hne u) hne v
/-- a store into one's own row keeps what is in other blocks -/
theorem below_set {N : Nat} {w : World} {g i j : Nat} {u v : Value} (hg : N ≤ g) : Below N w ((w.setCell ⟨g, i, none⟩ u).setCell ⟨g, j, none⟩ v) :=
  ((Below.refl N w).setCell (p := ⟨g, i, none⟩) hg u).setCell (p := ⟨g, j, none⟩) hg v

theorem cell_oft {c : Nat} {W W' : World} {b o : Nat} {v : Value} (ho : Off c W.heap.size W W') (h : W.cell? ⟨b, o, none⟩ = some v) (hne : b ≠ c) : W'.cell? ⟨b, o, none⟩ = some v :=
  (ho.cell (p := ⟨b, o, none⟩) (World.block_lt_of_cell? W _ h) hne).trans h

/-- from w to W the blocks D alone have changed, of those that were there -/
structure Chg (D : Nat → Prop) (w W : World) : Prop where
  os : W.os = w.os
  tape : W.tape = w.tape
  output : W.output = w.output
  size : w.heap.size ≤ W.heap.size
  block : ∀ k, k < w.heap.size → ¬ D k → W.heap[k]? = w.heap[k]?
theorem Chg.below {w W : World} (h : Below w.heap.size w W) : Chg (fun _ => False) w W := ⟨h.os, h.tape, h.output, h.size, fun k hk _ => h.block k hk⟩
theorem Chg.belowN {N : Nat} {w W : World} (h : Below N w W) : Chg (fun k => N ≤ k) w W := ⟨h.os, h.tape, h.output, h.size, fun k _ hk => h.block k (by omega)⟩
theorem Chg.off {c : Nat} {w W : World} (h : Off c w.heap.size w W) : Chg (fun k => k = c) w W := ⟨h.os, h.tape, h.output, h.size, fun k hk hc => h.block k hk hc⟩
theorem Chg.grown {row : Option Nat} {w W : World} (h : w.grownBy W row) : Chg (fun k => row = some k) w W := ⟨h.os, h.tape, h.output, h.size, fun k hk hc => h.block k hk (fun e => hc e.symm)⟩
theorem Chg.drew (w : World) : Chg (fun _ => False) w w.drew := ⟨rfl, rfl, rfl, Nat.le_refl _, fun _ _ _ => rfl⟩
theorem Chg.drewN (w : World) (n : Nat) : Chg (fun _ => False) w (w.drewN n) := Chg.below (below_drewN (Below.refl _ w) n)
theorem Chg.alloc (w : World) (o : Obj) : Chg (fun _ => False) w (w.alloc o) := Chg.below ((Below.refl _ w).alloc (Nat.le_refl _) o)
theorem Chg.set (w : World) (g i : Nat) (u : Value) : Chg (fun k => k = g) w (w.setCell ⟨g, i, none⟩ u) :=
  ⟨rfl, rfl, rfl, by simp [World.setCell], fun k hk hc => Below.heap_setCell _ _ _ _ hc⟩
theorem Chg.set2 (w : World) (g i j : Nat) (u v : Value) : Chg (fun k => k = g) w ((w.setCell ⟨g, i, none⟩ u).setCell ⟨g, j, none⟩ v) :=
  ⟨rfl, rfl, rfl, by simp [World.setCell], fun k hk hc => (Below.heap_setCell _ _ _ _ hc).trans (Below.heap_setCell _ _ _ _ hc)⟩

/-- a fact that looks at the blocks F alone -/
structure Loc where
  P : World → Prop
  F : Nat → Prop
  keep : ∀ {D : Nat → Prop} {w W : World}, Chg D w W → (∀ k, F k → ¬ D k) → P w → P W

abbrev Loc.k1 (g : Nat) (x : Value) : Loc := ⟨fun w => K1 w g x, fun k => k = g, fun h hd hp => B1.of_block hp (h.block g hp.2.2 (hd g rfl)) h.size⟩
abbrev Loc.k2 (g : Nat) (x y : Value) : Loc := ⟨fun w => K2 w g x y, fun k => k = g, fun h hd hp => B2.of_block hp (h.block g hp.2.2.2.2 (hd g rfl)) h.size⟩
abbrev Loc.k6 (g : Nat) (a b c d e f : Value) : Loc := ⟨fun w => K6 w g a b c d e f, fun k => k = g, fun h hd hp => K6.of_block hp (h.block g hp.2.2.2.2.2.2 (hd g rfl)) h.size⟩
/-- a cell; two cells side by side -/
abbrev C1 (w : World) (b o : Nat) (x : Value) : Prop := w.cell? ⟨b, o, none⟩ = some x
abbrev C2 (w : World) (b o : Nat) (x y : Value) : Prop := w.cell? ⟨b, o, none⟩ = some x ∧ w.cell? ⟨b, o + 1, none⟩ = some y
abbrev Loc.c1 (b o : Nat) (x : Value) : Loc := ⟨fun w => C1 w b o x, fun k => k = b, fun h hd hp => (World.cell?_of_block (h.block b (World.block_lt_of_cell? _ _ hp) (hd b rfl))).trans hp⟩
abbrev Loc.c2 (b o : Nat) (x y : Value) : Loc := ⟨fun w => C2 w b o x y, fun k => k = b, fun h hd hp => ⟨(World.cell?_of_block (h.block b (World.block_lt_of_cell? _ _ hp.1) (hd b rfl))).trans hp.1, (World.cell?_of_block (h.block b (World.block_lt_of_cell? _ _ hp.1) (hd b rfl))).trans hp.2⟩⟩
/-- the call's frame: below block N all but block c is as it was in w0 -/
abbrev Loc.fr (c N : Nat) (w0 : World) : Loc :=
  ⟨fun W => Off c N w0 W ∧ N ≤ W.heap.size, fun k => k < N ∧ k ≠ c, fun h hd hp => ⟨hp.1.trans ⟨h.os, h.tape, h.output, h.size, fun k hk hc => h.block k (Nat.lt_of_lt_of_le hk hp.2) (hd k ⟨hk, hc⟩)⟩, Nat.le_trans hp.2 h.size⟩⟩
/-- a row of the call's own -/
abbrev Loc.own (lo hi : Nat) (t : TypeId) (sz : Nat) (v : Value) (n : Nat) (xs : List Value) : Loc :=
  ⟨fun w => w.ownsRow lo t sz v n xs ∧ ∀ k, v.ownBlock = some k → k < hi, fun k => lo ≤ k ∧ k < hi ∧ v.ownBlock = some k, fun h hd hp => by
    refine ⟨⟨hp.1.1, ?_⟩, hp.2⟩
    rcases hp.1.2 with h2 | ⟨g, cap, cur, hv, hg, hh, r⟩
    · exact Or.inl h2
    · have hvg : v.ownBlock = some g := by rw [hv]; rfl
      exact Or.inr ⟨g, cap, cur, hv, hg, (h.block g (Array.getElem?_eq_some_iff.1 hh).1 (hd g ⟨hg, hp.2 g hvg, hvg⟩)).trans hh, r⟩⟩
/-- below block N all is as it was in w0 -/
abbrev Loc.bl (N : Nat) (w0 : World) : Loc :=
  ⟨fun W => Below N w0 W ∧ N ≤ W.heap.size, fun k => k < N, fun h hd hp => ⟨hp.1.trans ⟨h.os, h.tape, h.output, h.size, fun k hk => h.block k (Nat.lt_of_lt_of_le hk hp.2) (hd k hk)⟩, Nat.le_trans hp.2 h.size⟩⟩
/-- the heap has grown to N -/
abbrev Loc.sz (N : Nat) : Loc := ⟨fun w => N ≤ w.heap.size, fun _ => False, fun h _ hp => Nat.le_trans hp h.size⟩

def Mem : List Loc → World → Prop
  | [], _ => True
  | a :: l, w => a.P w ∧ Mem l w
def Apart (D : Nat → Prop) : List Loc → Prop
  | [] => True
  | a :: l => (∀ k, a.F k → D k → False) ∧ Apart D l
theorem Mem.chg {D : Nat → Prop} {w W : World} (h : Chg D w W) : ∀ {l : List Loc}, Mem l w → Apart D l → Mem l W
  | [], _, _ => True.intro
  | a :: l, hm, ha => ⟨a.keep h (fun k hk hd => ha.1 k hk hd) hm.1, Mem.chg h hm.2 ha.2⟩
theorem Apart.none : ∀ {l : List Loc}, Apart (fun _ => False) l
  | [] => True.intro
  | _ :: _ => ⟨fun _ _ h => h, Apart.none⟩
theorem Mem.below {w W : World} {l : List Loc} (hm : Mem l w) (h : Below w.heap.size w W) : Mem l W := hm.chg (Chg.below h) Apart.none
theorem Mem.drew {w : World} {l : List Loc} (hm : Mem l w) : Mem l w.drew := hm.chg (Chg.drew w) Apart.none
theorem Mem.drewN {w : World} {l : List Loc} (hm : Mem l w) (n : Nat) : Mem l (w.drewN n) := hm.chg (Chg.drewN w n) Apart.none
theorem Mem.alloc {w : World} {l : List Loc} (hm : Mem l w) (o : Obj) : Mem l (w.alloc o) := hm.chg (Chg.alloc w o) Apart.none
theorem Mem.off {c : Nat} {w W : World} {l : List Loc} (hm : Mem l w) (h : Off c w.heap.size w W) (ha : Apart (fun k => k = c) l) : Mem l W := hm.chg (Chg.off h) ha
theorem Mem.set {g i : Nat} {u : Value} {w : World} {l : List Loc} (hm : Mem l w) (ha : Apart (fun k => k = g) l) : Mem l (w.setCell ⟨g, i, none⟩ u) := hm.chg (Chg.set w g i u) ha
theorem Mem.set2 {g i j : Nat} {u v : Value} {w : World} {l : List Loc} (hm : Mem l w) (ha : Apart (fun k => k = g) l) : Mem l ((w.setCell ⟨g, i, none⟩ u).setCell ⟨g, j, none⟩ v) := hm.chg (Chg.set2 w g i j u v) ha
theorem Mem.grown {row : Option Nat} {w W : World} {l : List Loc} (hm : Mem l w) (h : w.grownBy W row) (ha : Apart (fun k => row = some k) l) : Mem l W := hm.chg (Chg.grown h) ha
/-- apart from what lies from N on -/
theorem Apart.weaken {D E : Nat → Prop} (h : ∀ k, E k → D k) : ∀ {l : List Loc}, Apart D l → Apart E l
  | [], _ => True.intro
  | _ :: _, ha => ⟨fun k hf he => ha.1 k hf (h k he), Apart.weaken h ha.2⟩
theorem Mem.grownO {base e sz n : Nat} {v : Value} {xs : List Value} {w W : World} {l : List Loc} (hm : Mem l w) (h : w.grownBy W v.ownBlock) (ho : w.ownsRow base e sz v n xs) (ha : Apart (fun k => base ≤ k) l) : Mem l W :=
  hm.grown h (ha.weaken fun k hk => (ho.lt k hk).1)
/-- an own row, behind a store into another block -/
theorem own_far2 {w : World} {base : Nat} {t : TypeId} {sz g n cap : Nat} {xs : List Value} {b i j : Nat} {u v : Value} (h : w.ownsRow base t sz (.slice (some ⟨g, 0, none⟩) n cap) n xs) (hne : g ≠ b) :
    ((w.setCell ⟨b, i, none⟩ u).setCell ⟨b, j, none⟩ v).ownsRow base t sz (.slice (some ⟨g, 0, none⟩) n cap) n xs := by
  refine ⟨h.1, ?_⟩
  rcases h.2 with h2 | ⟨g', cap', cur, hv, hg', hh', r⟩
  · exact Or.inl h2
  · refine Or.inr ⟨g', cap', cur, hv, hg', ?_, r⟩
    have : g' = g := by injection hv with hA; injection hA with hA; injection hA with hA; exact hA.symm
    rw [block_far (by omega), block_far (by omega)]
    exact hh'
/-- a fact more -/
theorem Mem.cons {a : Loc} {w : World} {l : List Loc} (h : a.P w) (hm : Mem l w) : Mem (a :: l) w := ⟨h, hm⟩


/-- a slice that reads as the cells xs (n elements of size cells each), in blocks from lo on, below hi -/
def RdC (size : Nat) (w : World) (lo hi : Nat) (v : Value) (n : Nat) (xs : List Value) : Prop :=
  xs.length = n * size ∧ ∃ A c, v = .slice A n c ∧ n ≤ c ∧ n ≤ maxLen ∧ (0 < n → ∃ b off, A = some ⟨b, off, none⟩ ∧ lo ≤ b ∧ b < hi ∧ ∀ j u, xs[j]? = some u → w.cell? ⟨b, off + j, none⟩ = some u)
section
variable {size : Nat} {w W : World} {lo hi : Nat} {v : Value} {n : Nat} {xs : List Value}
theorem RdC.of_blocks (h : RdC size w lo hi v n xs) (hk : ∀ b, lo ≤ b → b < hi → b < w.heap.size → W.heap[b]? = w.heap[b]?) : RdC size W lo hi v n xs := by
  obtain ⟨h1, A, c, hv, h2, h3, h4⟩ := h
  refine ⟨h1, A, c, hv, h2, h3, fun hn => ?_⟩
  obtain ⟨b, off, hA, hlo, hhi, hc⟩ := h4 hn
  exact ⟨b, off, hA, hlo, hhi, fun j u hu => (World.cell?_of_block (hk b hlo hhi (World.block_lt_of_cell? _ _ (hc j u hu)))).trans (hc j u hu)⟩
theorem RdC.after (h : RdC size w lo hi v n xs) (hb : Below w.heap.size w W) : RdC size W lo hi v n xs := h.of_blocks fun b _ _ hb' => hb.block b hb'
theorem RdC.mono {lo' hi' : Nat} (h : RdC size w lo hi v n xs) (hl : lo' ≤ lo) (hh : hi ≤ hi') : RdC size w lo' hi' v n xs := by
  obtain ⟨h1, A, c, hv, h2, h3, h4⟩ := h
  refine ⟨h1, A, c, hv, h2, h3, fun hn => ?_⟩
  obtain ⟨b, off, hA, hlo, hhi, hc⟩ := h4 hn
  exact ⟨b, off, hA, by omega, by omega, hc⟩
theorem RdC.of_own {t : TypeId} (h : w.ownsRow lo t size v n xs) : RdC size w lo w.heap.size v n xs := by
  have h' := RdG.of_own h
  obtain ⟨h1, A, c, hv, h2, h3, h4⟩ := h'
  refine ⟨h1, A, c, hv, h2, h3, fun hn => ?_⟩
  obtain ⟨b, off, cs, fr, hA, hlo, hhi, hb, hc⟩ := h4 hn
  exact ⟨b, off, hA, hlo, hhi, fun j u hu => by rw [cell_of_row w b (off + j) cs t fr hb]; exact hc j u hu⟩
theorem RdC.form (h : RdC size w lo hi v n xs) : ∃ A c, v = .slice A n c ∧ n ≤ c ∧ n ≤ 9223372036854775807 := by
  obtain ⟨h1, A, c, hv, h2, h3, h4⟩ := h
  exact ⟨A, c, hv, h2, by unfold maxLen at h3; omega⟩
theorem RdC.cells {A : Option Addr} {c : Nat} (h : RdC size w lo hi (.slice A n c) n xs) (hn : 0 < n) : ∃ b off, A = some ⟨b, off, none⟩ ∧ lo ≤ b ∧ b < hi ∧ ∀ j u, xs[j]? = some u → w.cell? ⟨b, off + j, none⟩ = some u := by
  obtain ⟨h1, A', c', hv, h2, h3, h4⟩ := h
  injection hv with hA _ hc
  subst hA
  exact h4 hn
theorem RdC.nil (w : World) (lo hi : Nat) : RdC size w lo hi (.slice none 0 0) 0 [] := ⟨by simp, none, 0, rfl, Nat.le_refl _, by simp, fun h => by omega⟩
end
abbrev Loc.rdC (size lo hi : Nat) (v : Value) (n : Nat) (xs : List Value) : Loc := ⟨fun w => RdC size w lo hi v n xs, fun k => lo ≤ k ∧ k < hi, fun h hd hp => RdC.of_blocks hp (fun b h1 h2 h3 => h.block b h3 (hd b ⟨h1, h2⟩))⟩

end Go.Proofs.Ytmhbfoaecebobaa
end
