/-
  Texts joined: Rd, AwK, Find, Name, Pred, Net. Conditions: none.
-/
import Derived.Test.YtmhbfoaecebobaaJP5
section
namespace Go.Proofs.Ytmhbfoaecebobaa
set_option linter.unusedSimpArgs false
set_option linter.unusedVariables false
open Go.RowKit

theorem findIdx_some {α : Type} {p : α → Bool} : ∀ {l : List α} {k : Nat} {a : α}, l[k]? = some a → p a = true → (∀ j a, j < k → l[j]? = some a → p a = false) → l.findIdx? p = some k
  | [], _, _, h, _, _ => by simp at h
  | b :: l, 0, a, h, hp, _ => by simp at h; subst h; simp [List.findIdx?_cons, hp]
  | b :: l, k + 1, a, h, hp, hn => by
    have hb : p b = false := hn 0 b (by omega) (by simp)
    rw [List.findIdx?_cons, hb]
    simp only [Bool.false_eq_true, if_false]
    rw [findIdx_some (l := l) (k := k) (a := a) (by simpa using h) hp (fun j a hj hja => hn (j + 1) a (by omega) (by simpa using hja))]
    rfl
theorem findIdx_none {α : Type} {p : α → Bool} {l : List α} (hn : ∀ j a, j < l.length → l[j]? = some a → p a = false) : l.findIdx? p = none := by
  rw [List.findIdx?_eq_none_iff]
  intro x hx
  obtain ⟨i, hi, rfl⟩ := List.mem_iff_getElem.1 hx
  exact hn i _ hi (List.getElem?_eq_getElem hi)
/-- the place of the first element with a property, or -1 -/
def firstAt {α : Type} (p : α → Bool) (l : List α) : Int := match l.findIdx? p with | some i => (i : Int) | none => -1
theorem firstAt_some {α : Type} {p : α → Bool} {l : List α} {k : Nat} {a : α} (h : l[k]? = some a) (hp : p a = true) (hn : ∀ j a, j < k → l[j]? = some a → p a = false) : firstAt p l = k := by
  unfold firstAt; rw [findIdx_some h hp hn]
theorem firstAt_none {α : Type} {p : α → Bool} {l : List α} (hn : ∀ j a, j < l.length → l[j]? = some a → p a = false) : firstAt p l = -1 := by
  unfold firstAt; rw [findIdx_none hn]
theorem firstAt_any {α : Type} (p : α → Bool) (l : List α) : decide (0 ≤ firstAt p l) = l.any p := by
  unfold firstAt
  cases h : l.findIdx? p with
  | none =>
    rw [List.findIdx?_eq_none_iff] at h
    rw [Bool.eq_iff_iff, decide_eq_true_eq, List.any_eq_true]
    constructor
    · intro h; simp only at h; omega
    · rintro ⟨x, hx, hp⟩; rw [h x hx] at hp; cases hp
  | some i =>
    obtain ⟨hlt, hp, _⟩ := List.findIdx?_eq_some_iff_getElem.1 h
    rw [Bool.eq_iff_iff, decide_eq_true_eq, List.any_eq_true]
    exact ⟨fun _ => ⟨_, List.getElem_mem hlt, hp⟩, fun _ => by simp only; omega⟩
theorem firstAt_ge {α : Type} (p : α → Bool) (l : List α) : -1 ≤ firstAt p l := by
  unfold firstAt; split <;> omega
theorem firstAt_le {α : Type} (p : α → Bool) (l : List α) : firstAt p l ≤ l.length := by
  unfold firstAt
  split
  · rename_i i h
    obtain ⟨hlt, _⟩ := List.findIdx?_eq_some_iff_getElem.1 h
    omega
  · omega

/-- a slice that reads as the list l; each element lies in size cells, as enc says -/
def Rd {α : Type} (size : Nat) (enc : α → List Value) (w : World) (lo hi : Nat) (v : Value) (l : List α) : Prop := RdC size w lo hi v l.length (l.flatMap enc)

theorem flatMap_get {α : Type} {size : Nat} {enc : α → List Value} (he : ∀ a, (enc a).length = size) : ∀ (l : List α) (k : Nat) (a : α) (j : Nat) (u : Value), l[k]? = some a → (enc a)[j]? = some u → (l.flatMap enc)[k * size + j]? = some u
  | [], k, a, j, u, h, _ => by simp at h
  | b :: l, 0, a, j, u, h, hu => by
    simp at h
    subst h
    rw [List.flatMap_cons, Nat.zero_mul, Nat.zero_add, List.getElem?_append_left (by
      rcases Nat.lt_or_ge j (enc b).length with h | h
      · exact h
      · rw [List.getElem?_eq_none h] at hu; cases hu)]
    exact hu
  | b :: l, k + 1, a, j, u, h, hu => by
    simp at h
    rw [List.flatMap_cons, List.getElem?_append_right (by rw [he]; rw [Nat.add_mul]; omega), he]
    have e : (k + 1) * size + j - size = k * size + j := by rw [Nat.add_mul]; omega
    rw [e]
    exact flatMap_get he l k a j u h hu
theorem flatMap_len {α : Type} {size : Nat} {enc : α → List Value} (he : ∀ a, (enc a).length = size) : ∀ l : List α, (l.flatMap enc).length = l.length * size
  | [] => by simp
  | b :: l => by rw [List.flatMap_cons, List.length_append, he, flatMap_len he l, List.length_cons, Nat.add_mul]; omega

section
variable {α : Type} {size : Nat} {enc : α → List Value} {w W : World} {lo hi : Nat} {v : Value} {l : List α}
theorem Rd.form (h : Rd size enc w lo hi v l) : ∃ A c, v = .slice A l.length c ∧ l.length ≤ c ∧ l.length ≤ 9223372036854775807 := RdC.form h
theorem Rd.after (h : Rd size enc w lo hi v l) (hb : Below w.heap.size w W) : Rd size enc W lo hi v l := RdC.after h hb
theorem Rd.of_blocks (h : Rd size enc w lo hi v l) (hk : ∀ b, lo ≤ b → b < hi → b < w.heap.size → W.heap[b]? = w.heap[b]?) : Rd size enc W lo hi v l := RdC.of_blocks h hk
theorem Rd.mono {lo' hi' : Nat} (h : Rd size enc w lo hi v l) (hl : lo' ≤ lo) (hh : hi ≤ hi') : Rd size enc w lo' hi' v l := RdC.mono h hl hh
theorem Rd.of_own {t : TypeId} (h : w.ownsRow lo t size v l.length (l.flatMap enc)) : Rd size enc w lo w.heap.size v l := RdC.of_own h
theorem Rd.nil (w : World) (lo hi : Nat) : Rd size enc w lo hi (.slice none 0 0) [] := RdC.nil w lo hi
theorem Rd.at_ {A : Option Addr} {c : Nat} (h : Rd size enc w lo hi (.slice A l.length c) l) (he : ∀ a, (enc a).length = size) {k : Nat} {a : α} (hk : l[k]? = some a) :
    ∃ b off, A = some ⟨b, off, none⟩ ∧ lo ≤ b ∧ b < hi ∧ ∀ j u, (enc a)[j]? = some u → w.cell? ⟨b, off + (k * size + j), none⟩ = some u := by
  have hlt : k < l.length := by
    rcases Nat.lt_or_ge k l.length with h | h
    · exact h
    · rw [List.getElem?_eq_none h] at hk; cases hk
  obtain ⟨b, off, hA, h1, h2, hc⟩ := RdC.cells h (by omega)
  exact ⟨b, off, hA, h1, h2, fun j u hu => hc _ u (flatMap_get he l k a j u hk hu)⟩
end
abbrev Loc.rd {α : Type} (size : Nat) (enc : α → List Value) (lo hi : Nat) (v : Value) (l : List α) : Loc :=
  ⟨fun w => Rd size enc w lo hi v l, fun k => lo ≤ k ∧ k < hi, fun h hd hp => Rd.of_blocks hp (fun b h1 h2 h3 => h.block b h3 (hd b ⟨h1, h2⟩))⟩

/-- the element k, or the first that there is none -/
def gti {α : Type} [Inhabited α] (l : List α) (k : Nat) : α := l[k]?.getD default
theorem gti_get {α : Type} [Inhabited α] {l : List α} {k : Nat} (h : k < l.length) : l[k]? = some (gti l k) := by unfold gti; rw [List.getElem?_eq_getElem h]; rfl

abbrev encI (x : Int) : List Value := [.int .i64 x]
abbrev encS (s : ByteArray) : List Value := [.string s]
structure Stp where
  kind : Int
  trans : Int
  act : ByteArray
  deriving Inhabited
abbrev encM (m : Stp) : List Value := [.int .i64 m.kind, .int .i64 m.trans, .string m.act]
abbrev RdI := Rd 1 encI
abbrev RdS := Rd 1 encS
abbrev RdM := Rd 3 encM

theorem RdI.at1 {w : World} {lo hi : Nat} {A : Option Addr} {c : Nat} {l : List Int} (h : RdI w lo hi (.slice A l.length c) l) {k : Nat} (hk : k < l.length) :
    ∃ b off, A = some ⟨b, off, none⟩ ∧ lo ≤ b ∧ b < hi ∧ C1 w b (off + k) (.int .i64 (gti l k)) := by
  obtain ⟨b, off, hA, h1, h2, hc⟩ := Rd.at_ h (fun _ => rfl) (gti_get hk)
  exact ⟨b, off, hA, h1, h2, by have := hc 0 _ rfl; rw [Nat.mul_one] at this; exact this⟩
theorem RdS.at1 {w : World} {lo hi : Nat} {A : Option Addr} {c : Nat} {l : List ByteArray} (h : RdS w lo hi (.slice A l.length c) l) {k : Nat} (hk : k < l.length) :
    ∃ b off, A = some ⟨b, off, none⟩ ∧ lo ≤ b ∧ b < hi ∧ C1 w b (off + k) (.string (gti l k)) := by
  obtain ⟨b, off, hA, h1, h2, hc⟩ := Rd.at_ h (fun _ => rfl) (gti_get hk)
  exact ⟨b, off, hA, h1, h2, by have := hc 0 _ rfl; rw [Nat.mul_one] at this; exact this⟩
abbrev C3 (w : World) (b o : Nat) (x y z : Value) : Prop := w.cell? ⟨b, o, none⟩ = some x ∧ w.cell? ⟨b, o + 1, none⟩ = some y ∧ w.cell? ⟨b, o + 2, none⟩ = some z
theorem RdM.at3 {w : World} {lo hi : Nat} {A : Option Addr} {c : Nat} {l : List Stp} (h : RdM w lo hi (.slice A l.length c) l) {k : Nat} (hk : k < l.length) :
    ∃ b off, A = some ⟨b, off, none⟩ ∧ lo ≤ b ∧ b < hi ∧ C3 w b (off + k * 3) (.int .i64 (gti l k).kind) (.int .i64 (gti l k).trans) (.string (gti l k).act) := by
  obtain ⟨b, off, hA, h1, h2, hc⟩ := Rd.at_ h (fun _ => rfl) (gti_get hk)
  exact ⟨b, off, hA, h1, h2, hc 0 _ rfl, hc 1 _ rfl, hc 2 _ rfl⟩
/-- the cells of a transition -/
structure TrV where
  label : ByteArray
  vi : Value
  vo : Value
instance : Inhabited TrV := ⟨⟨default, .slice none 0 0, .slice none 0 0⟩⟩
abbrev encV (m : TrV) : List Value := [.string m.label, m.vi, m.vo]
abbrev RdV := Rd 3 encV
theorem RdV.at3 {w : World} {lo hi : Nat} {A : Option Addr} {c : Nat} {l : List TrV} (h : RdV w lo hi (.slice A l.length c) l) {k : Nat} (hk : k < l.length) :
    ∃ b off, A = some ⟨b, off, none⟩ ∧ lo ≤ b ∧ b < hi ∧ C3 w b (off + k * 3) (.string (gti l k).label) (gti l k).vi (gti l k).vo := by
  obtain ⟨b, off, hA, h1, h2, hc⟩ := Rd.at_ h (fun _ => rfl) (gti_get hk)
  exact ⟨b, off, hA, h1, h2, hc 0 _ rfl, hc 1 _ rfl, hc 2 _ rfl⟩
end Go.Proofs.Ytmhbfoaecebobaa
end
section
namespace Go.Proofs.Ytmhbfoaecebobaa.Aw
set_option linter.unusedSimpArgs false
set_option linter.unusedVariables false
open Go.RowKit

section
variable {P : Program} {N : Nat} {F : Frm} {σ σ' : List Ob} {Q : Exit → Frm → List Ob → Prop} {next : Frm → List Ob → Prop}
theorem ath_n (h : next F σ) : AThen next Q .normal F σ := h
theorem ath_x {id : Nat} (h : Q (.exit id) F σ) : AThen next Q (.exit id) F σ := h
theorem ath_r (h : Q .ret F σ) : AThen next Q .ret F σ := h
theorem abl_n {id : Nat} (h : Q .normal F σ) : ABlk id Q .normal F σ := h
theorem abl_r {id : Nat} (h : Q .ret F σ) : ABlk id Q .ret F σ := h
theorem abl_hit {id : Nat} (h : Q .normal F σ) : ABlk id Q (.exit id) F σ := by simp only [ABlk, if_true]; exact h
theorem abl_miss {id id' : Nat} (hne : Nat.beq id' id = false) (h : Q (.exit id') F σ) : ABlk id Q (.exit id') F σ := by
  have : id' ≠ id := fun e => by subst e; simp at hne
  simp only [ABlk, if_neg this]; exact h
theorem runs_y {ops : Array Oper} {o : Oper} {j t : Nat} {c : Bool} (h : o.guard = some (j, c)) (hd : (ops[j]?).bind (·.dst) = some t) (hc : F.get t = .s (.bool c)) : Runs ops F o true := by
  have := runs_some (F := F) h hd hc
  simpa using this
theorem runs_nt {ops : Array Oper} {o : Oper} {j t : Nat} (h : o.guard = some (j, true)) (hd : (ops[j]?).bind (·.dst) = some t) (hc : F.get t = .s (.bool false)) : Runs ops F o false := by
  have := runs_some (F := F) h hd hc
  simpa using this
theorem runs_nf {ops : Array Oper} {o : Oper} {j t : Nat} (h : o.guard = some (j, false)) (hd : (ops[j]?).bind (·.dst) = some t) (hc : F.get t = .s (.bool true)) : Runs ops F o false := by
  have := runs_some (F := F) h hd hc
  simpa using this

/-- a loop with a state of its own -/
theorem aw_loops {c : Code} {S : Type} (fr : S → Frm) (st : S → List Ob) (inv : S → Prop) (ms : S → Nat) (s0 : S) (hw : Weak N F σ (fr s0) (st s0)) (h0 : inv s0)
    (round : ∀ s, inv s → AWp P N c (fr s) (st s) (AThen (fun F' σ' => ∃ s', inv s' ∧ ms s' < ms s ∧ Weak N F' σ' (fr s') (st s')) Q)) : AWp P N (.loop c) F σ Q := by
  refine aw_weak hw (aw_loop (fun m F σ => ∃ s, inv s ∧ ms s = m ∧ Weak N F σ (fr s) (st s)) (ms s0) ⟨s0, h0, rfl, Weak.refl⟩ (fun m F σ h => ?_))
  obtain ⟨s, h1, rfl, h3⟩ := h
  refine aw_weak h3 (aw_mono (round s h1) (fun e F σ q => ?_))
  cases e with
  | normal => obtain ⟨s', g1, g2, g3⟩ := q; exact ⟨ms s', g2, s', g1, rfl, g3⟩
  | _ => exact q
/-- ways that meet again -/
theorem aw_cut {c : Code} (mid : Frm → List Ob → Prop) (h : AWp P N c F σ (AThen (fun F' σ' => ∃ F'' σ'', mid F'' σ'' ∧ Weak N F' σ' F'' σ'') Q)) (k : ∀ F' σ', mid F' σ' → Q .normal F' σ') : AWp P N c F σ Q := fun G a hs =>
  Code.wp_mono (fun e a w q => by
    obtain ⟨G', F', σ', rfl, g2, g3, g4⟩ := q
    cases e with
    | normal =>
      obtain ⟨F'', σ'', hm, hw⟩ := g4
      obtain ⟨G2, e2, s2, h8⟩ := hw G' a g3
      exact ⟨G2, F'', σ'', e2, g2.trans s2, h8, k F'' σ'' hm⟩
    | _ => exact ⟨G', F', σ', rfl, g2, g3, g4⟩) (h G a hs)
/-- a slice is not too long -/
theorem rep_len {G : Cx} {v : Value} {l : List AV} (h : Rep G v (.sl l)) : l.length ≤ maxLen := by
  cases h with
  | slnil => exact Nat.zero_le _
  | sl b o cap sz _ val hc hm h1 h2 h => exact hm
theorem rep_leno {G : Cx} {v : Value} {id sz n : Nat} (h : Rep G v (.own id sz n)) : n ≤ maxLen := by
  cases h with
  | own0 => exact Nat.zero_le _
  | own _ _ _ b cap hm hn hc hb => exact Nat.le_trans hn hc
theorem aw_bd {c : Code} {d : Nat} {L : List AV} (hd : F.get d = .sl L) (k : L.length ≤ maxLen → AWp P N c F σ Q) : AWp P N c F σ Q := fun G a hs => k (rep_len (by rw [← hd]; exact hs.fr d)) G a hs
theorem aw_bdm {α : Type} {f : α → AV} {l : List α} {c : Code} {d : Nat} (hd : F.get d = .sl (l.map f)) (k : l.length ≤ maxLen → AWp P N c F σ Q) : AWp P N c F σ Q := aw_bd hd (fun h => k (by simpa using h))
theorem aw_bdo {c : Code} {d id sz n : Nat} (hd : F.get d = .own id sz n) (k : n ≤ maxLen → AWp P N c F σ Q) : AWp P N c F σ Q := fun G a hs => k (rep_leno (by rw [← hd]; exact hs.fr d)) G a hs
theorem aops_bdm {α : Type} {f : α → AV} {l : List α} {ops : Array Oper} {lo : List Oper} {d : Nat} (hd : F.get d = .sl (l.map f)) (k : l.length ≤ maxLen → AOps P N ops lo F σ Q) : AOps P N ops lo F σ Q := fun G a hs => k (by have := rep_len (by rw [← hd]; exact hs.fr d); simpa using this) G a hs
/-- the same with a state of its own -/
theorem aw_cuts {c : Code} {S : Type} (fr : S → Frm) (st : S → List Ob) (inv : S → Prop) (h : AWp P N c F σ (AThen (fun F' σ' => ∃ s, inv s ∧ Weak N F' σ' (fr s) (st s)) Q)) (k : ∀ s, inv s → Q .normal (fr s) (st s)) : AWp P N c F σ Q :=
  aw_cut (fun F σ => ∃ s, inv s ∧ F = fr s ∧ σ = st s) (aw_mono h (fun e F σ q => by
    cases e with
    | normal => obtain ⟨s, h1, h2⟩ := q; exact ⟨fr s, st s, ⟨s, h1, rfl, rfl⟩, h2⟩
    | _ => exact q)) (fun F' σ' h => by obtain ⟨s, h1, rfl, rfl⟩ := h; exact k s h1)

/-- knowing less: slots are forgotten, rows behind the first few too -/
def Sub (F : Frm) : Frm → Prop
  | [] => True
  | (d, y) :: F' => F.get d = y ∧ Sub F F'
theorem wk_sub : ∀ F', Sub F F' → Weak N F σ F' σ := fun F' h G a hs => ⟨G, rfl, .refl G, hs.rel, by
  have key : ∀ F', Sub F F' → FOk G a F' := by
    intro F'
    induction F' with
    | nil => intro _ d; exact .any _
    | cons p F' ih =>
      obtain ⟨d, y⟩ := p
      intro h t
      simp only [Frm.get]
      cases e : Nat.beq d t with
      | true => have := Nat.eq_of_beq_eq_true e; subst this; rw [← h.1]; exact hs.fr d
      | false => exact ih h.2 t
  exact key F' h, hs.df, hs.nt⟩

/-- nil slices in a row, as empty ones -/
inductive Cv : AV → AV → Prop
  | refl (x : AV) : Cv x x
  | nil : Cv (.s (.slice none 0 0)) (.sl [])
  | emp : Cv .emp (.sl [])
theorem wk_cv {id sz : Nat} {cs cs' : List AV} (hs : σ[id]? = some (.row sz cs)) (hl : cs.length = cs'.length) (h : ∀ (k : Nat) x y, cs[k]? = some x → cs'[k]? = some y → Cv x y) : Weak N F σ F (σ.set id (.row sz cs')) := fun G a h8 => by
  refine ⟨G, rfl, .refl G, ?_, h8.fr, h8.df, h8.nt⟩
  have hr := h8.rel
  have hid : id < σ.length := (List.getElem?_eq_some_iff.1 hs).1
  have row : ∀ b f, RowAt G b sz cs f → RowAt G b sz cs' f := by
    rintro b f ⟨cur, t, fr, h1, h2, h3, h4⟩
    refine ⟨cur, t, fr, h1, h2, by rw [← hl]; exact h3, fun k y hy => ?_⟩
    have hk : k < cs.length := by rw [hl]; exact (List.getElem?_eq_some_iff.1 hy).1
    obtain ⟨g1, g2, g3⟩ := h4 k _ (List.getElem?_eq_getElem hk)
    have hc := h k _ y (List.getElem?_eq_getElem hk) hy
    generalize cs[k] = x at *
    cases hc with
    | refl => exact ⟨g1, g2, g3⟩
    | nil =>
      refine ⟨g1, by simp [AV.cells, AV.one], fun j c hc => ?_⟩
      cases j with
      | succ j => simp [AV.cells] at hc
      | zero =>
        simp [AV.cells] at hc
        subst hc
        obtain ⟨v, k1, k2⟩ := g3 0 _ rfl
        exact ⟨v, k1, rep_nil k2⟩
    | emp =>
      refine ⟨g1, by simp [AV.cells, AV.one], fun j c hc => ?_⟩
      cases j with
      | succ j => simp [AV.cells] at hc
      | zero =>
        simp [AV.cells] at hc
        subst hc
        obtain ⟨v, k1, k2⟩ := g3 0 _ rfl
        exact ⟨v, k1, rep_emp k2⟩
  refine ⟨hr.below, hr.le, hr.st, fun i ob hob => ?_, fun i j b hi hj hm hm' => ?_, fun i hi => hr.fresh i (by simpa using hi)⟩
  · by_cases hi : id = i
    · subst hi
      rw [List.getElem?_set_self hid] at hob
      cases hob
      have h0 := hr.obs id _ hs
      simp only [ObOk] at h0 ⊢
      cases hx : G.mu id with
      | none => rw [hx] at h0; exact h0
      | some x =>
        rw [hx] at h0
        cases x with
        | none => exact List.eq_nil_of_length_eq_zero (by rw [← hl, h0]; rfl)
        | some b => exact ⟨row b _ h0.1, h0.2⟩
    · rw [List.getElem?_set_ne hi] at hob; exact hr.obs i ob hob
  · have old : ∀ i, alive (σ.set id (.row sz cs')) i → alive σ i := by
      rintro i ⟨sz1, cs1, hi⟩
      by_cases h2 : id = i
      · subst h2; exact ⟨sz, cs, hs⟩
      · rw [List.getElem?_set_ne h2] at hi; exact ⟨sz1, cs1, hi⟩
    exact hr.inj i j b (old i hi) (old j hj) hm hm'
theorem cv1 {x y : AV} (h : Cv x y) : ∀ (k : Nat) u v, [x][k]? = some u → [y][k]? = some v → Cv u v := by
  intro k u v hu hv
  cases k with
  | zero => simp at hu hv; subst hu hv; exact h
  | succ k => simp at hu

theorem dec_t {o : Oper} {p : Prop} [Decidable p] (h : p) (hd : Does P o F σ (.s (.bool (decide p))) σ') : Does P o F σ (.s (.bool true)) σ' := by rwa [decide_eq_true h] at hd
theorem dec_f {o : Oper} {p : Prop} [Decidable p] (h : ¬ p) (hd : Does P o F σ (.s (.bool (decide p))) σ') : Does P o F σ (.s (.bool false)) σ' := by rwa [decide_eq_false h] at hd
/-- the result under another spelling -/
theorem does_eq {o : Oper} {x y : AV} (h : x = y) (hd : Does P o F σ x σ') : Does P o F σ y σ' := h ▸ hd

section
variable {o : Oper}
theorem does_pickT {c x y : Operand} {u : AV} (ho : o.op = .pick c x y) (hc : F.eval c = .s (.bool true)) (hu : F.eval x = u) : Does P o F σ u σ := hu ▸ does_pick ho hc
theorem pickT_s {c x y : Operand} {v : Value} (ho : o.op = .pick c x y) (hc : F.eval c = .s (.bool true)) (hu : F.eval x = .s v) : Does P o F σ (.s v) σ := does_pickT ho hc hu
theorem does_pickF {c x y : Operand} {u : AV} (ho : o.op = .pick c x y) (hc : F.eval c = .s (.bool false)) (hu : F.eval y = u) : Does P o F σ u σ := hu ▸ does_pick ho hc
theorem pickF_s {c x y : Operand} {v : Value} (ho : o.op = .pick c x y) (hc : F.eval c = .s (.bool false)) (hu : F.eval y = .s v) : Does P o F σ (.s v) σ := does_pickF ho hc hu
theorem does_len_map {α : Type} {f : α → AV} {l : List α} {t e : TypeId} {x : Operand} (ho : o.op = .call { callee := .builtin .len, args := #[x], argTypes := #[t] }) (ht : tySlice P t = some e) (hx : F.eval x = .sl (l.map f)) : Does P o F σ (.s (.int .i64 (l.length : Nat))) σ := by
  have := does_len_sl (F := F) (σ := σ) ho ht hx
  rwa [List.length_map] at this
theorem does_len_emp {t e : TypeId} {x : Operand} (ho : o.op = .call { callee := .builtin .len, args := #[x], argTypes := #[t] }) (ht : tySlice P t = some e) (hx : F.eval x = .emp) : Does P o F σ (.s (.int .i64 0)) σ :=
  does_val fun G ρ hr hop => by
    have h1 := hop x (by simp [ho, Op.operands, Call.operands])
    rw [hx] at h1
    generalize hv : ρ x = v at h1
    cases h1 with
    | emp A hA => exact ⟨_, run_len_slice ht ho ρ _ _ _ hv _, .s _⟩
theorem does_load_refw {t : TypeId} {x : Operand} {z : Option Value} {n bt : Nat} {cs : List AV} (ho : o.op = .load t x) (ha : tyAgg P t = some true) (hi : tyInfo P t = some (z, n, bt)) (hx : F.eval x = .ref cs) (hn : cs.length = n) : Does P o F σ (.agg cs) σ := by
  have := does_load_refs (F := F) (σ := σ) ho ha hi hx (by omega)
  rwa [← hn, List.take_length] at this
theorem does_eqlb {t t' : TypeId} {x y : Operand} {a b : Bool} (ht : P.underlying t = some .bool) (ho : o.op = .binOp .eql t x y t') (hx : F.eval x = .s (.bool a)) (hy : F.eval y = .s (.bool b)) : Does P o F σ (.s (.bool (a == b))) σ :=
  does_bin ho hx hy fun w => by
    have h1 : ∀ d, (Op.equalIn (d + 1) t (.bool a) (.bool b)).run P w = .ok (a == b) w := fun d => by simp [Op.equalIn, run_underlying ht]
    have h2 : (Op.equal t (.bool a) (.bool b)).run P w = .ok (a == b) w := h1 9999
    have h3 : (binOp .eql t (.bool a) (.bool b) : Sem Value) = (do pure (.bool (← Op.equal t (.bool a) (.bool b)))) := rfl
    rw [Sem.run_bind, show (eqGuard .eql t x y (.bool a) (.bool b)).run P w = .ok () w from rfl, Result.andThen_ok, h3, Sem.run_bind, h2]
    rfl
theorem does_nil_ref {x : Operand} {cs : List AV} (ho : o.op = .nilCheck x) (hx : F.eval x = .ref cs) : Does P o F σ (.ref cs) σ :=
  does_val fun G ρ hr hop => by
    have h1 := hop x (by simp [ho, Op.operands])
    rw [hx] at h1
    generalize hv : ρ x = u at h1
    cases h1 with
    | ref b i _ val h1 h2 h => exact ⟨_, by simp [execOp, ho, hv], .ref b i cs val h1 h2 h⟩
end
/-- one result, a struct in a variable -/
theorem post1c {ad : Tmp} {ty : TypeId} {id sz k n bt : Nat} {z : Option Value} {ob : Ob} {cs : List AV} {e1 r : AV} {e : Exit} (he : e = .normal ∨ e = .ret) (ha : tyAgg P ty = some true) (hi : tyInfo P ty = some (z, n, bt)) (hp : F.get ad = .ptr id sz k 0) (hs : σ[id]? = some ob) (ho : rowOf ob = some (sz, cs)) (hk : cs[k]? = some e1) (hn : e1.cells.length = n) (hr : .agg e1.cells = r) : APost P [.cell ad ty] r e F σ :=
  ⟨he, [_], .cons _ _ _ _ (.cells ad ty id sz k n bt z ob cs e1 ha hi hp hs ho hk hn) .nil, by subst hr; exact .refl _⟩
/-- one result, in a slot -/
theorem post1 {t : Nat} {x r : AV} {e : Exit} (he : e = .normal ∨ e = .ret) (h : F.get t = x) (hr : x = r) : APost P [.tmp t] r e F σ := ⟨he, [x], .cons _ _ _ _ (.tmp t x h) .nil, by subst hr; exact .refl _⟩
theorem post1f {t : Nat} {x r : AV} {e : Exit} (he : e = .normal ∨ e = .ret) (h : F.get t = x) (hf : Fini σ x r) : APost P [.tmp t] r e F σ := ⟨he, [x], .cons _ _ _ _ (.tmp t x h) .nil, hf⟩
theorem post2 {t u : Nat} {x y x' y' : AV} {e : Exit} (he : e = .normal ∨ e = .ret) (h : F.get t = x) (h' : F.get u = y) (hf : Fini σ x x') (hf' : Fini σ y y') : APost P [.tmp t, .tmp u] (.tup [x', y']) e F σ :=
  ⟨he, [x, y], .cons _ _ _ _ (.tmp t x h) (.cons _ _ _ _ (.tmp u y h') .nil), .tup _ _ rfl (FiniL.cons hf (FiniL.cons hf' FiniL.nil)).2⟩
theorem post3 {t u v : Nat} {x y z x' y' z' : AV} {e : Exit} (he : e = .normal ∨ e = .ret) (h : F.get t = x) (h' : F.get u = y) (h'' : F.get v = z) (hf : Fini σ x x') (hf' : Fini σ y y') (hf'' : Fini σ z z') : APost P [.tmp t, .tmp u, .tmp v] (.tup [x', y', z']) e F σ :=
  ⟨he, [x, y, z], .cons _ _ _ _ (.tmp t x h) (.cons _ _ _ _ (.tmp u y h') (.cons _ _ _ _ (.tmp v z h'') .nil)), .tup _ _ rfl (FiniL.cons hf (FiniL.cons hf' (FiniL.cons hf'' FiniL.nil))).2⟩

end
/-- an element of a list of data -/
theorem ix_map {α : Type} [Inhabited α] {f : α → AV} {l : List α} {k : Nat} (h : k < l.length) : (l.map f)[k]? = some (f (gti l k)) := by
  rw [List.getElem?_map, gti_get h]; rfl
theorem lo_nil {k : Nat} : ∀ y ∈ ([] : List AV), Lo k y := by simp
theorem lo_cons {k : Nat} {x : AV} {l : List AV} (h : Lo k x) (t : ∀ y ∈ l, Lo k y) : ∀ y ∈ x :: l, Lo k y := by
  intro y hy
  rcases List.mem_cons.1 hy with rfl | hy
  · exact h
  · exact t y hy
theorem lo_map {k : Nat} {α : Type} {f : α → AV} {l : List α} (h : ∀ a, Lo k (f a)) : Lo k (.sl (l.map f)) := .sl _ fun y hy => by
  obtain ⟨a, _, rfl⟩ := List.mem_map.1 hy
  exact h a
theorem lo_mapE {k : Nat} {α : Type} {f : α → AV} {l : List α} (h : ∀ a, ∀ c ∈ (f a).cells, Lo k c) : ∀ e ∈ l.map f, ∀ c ∈ e.cells, Lo k c := fun y hy => by
  obtain ⟨a, _, rfl⟩ := List.mem_map.1 hy
  exact h a
theorem lo_nilE {k : Nat} : ∀ e ∈ ([] : List AV), ∀ c ∈ e.cells, Lo k c := by simp
theorem lo_consE {k : Nat} {x : AV} {l : List AV} (h : Lo k x) (t : ∀ e ∈ l, ∀ c ∈ e.cells, Lo k c) : ∀ e ∈ x :: l, ∀ c ∈ e.cells, Lo k c := by
  intro y hy
  rcases List.mem_cons.1 hy with rfl | hy
  · exact h.cells
  · exact t y hy
theorem flat_nil : ∀ c ∈ ([] : List AV), Flat c := by simp
theorem flat_cons {x : AV} {l : List AV} (h : Flat x) (t : ∀ c ∈ l, Flat c) : ∀ c ∈ x :: l, Flat c := by
  intro y hy
  rcases List.mem_cons.1 hy with rfl | hy
  · exact h
  · exact t y hy

/-- data -/
def eI (n : Int) : AV := .s (.int .i64 n)
def eB (b : Bool) : AV := .s (.bool b)
def eS (s : ByteArray) : AV := .s (.string s)
def eL {α : Type} (f : α → AV) (l : List α) : AV := .sl (l.map f)
end Go.Proofs.Ytmhbfoaecebobaa.Aw
end
section
namespace Go.Proofs.Ytmhbfoaecebobaa
set_option linter.unusedSimpArgs false
set_option linter.unusedVariables false
open Go.RowKit

theorem snoc_no {α : Type} {p : α → Bool} {l : List α} {k : Nat} {a : α} (h : ∀ j a, j < k → l[j]? = some a → p a = false) (ha : l[k]? = some a) (hp : p a = false) : ∀ j a, j < k + 1 → l[j]? = some a → p a = false := by
  intro j b hj hb
  rcases Nat.lt_or_eq_of_le (Nat.le_of_lt_succ hj) with h1 | rfl
  · exact h j b h1 hb
  · rw [ha] at hb; injection hb with hb; rw [← hb]; exact hp

set_option maxHeartbeats 1000000 in
theorem indexFI_any (f : FuncId) (hent : Ent f) (cap : Array Value) (p : Int → Bool) (l : List Int) (lo hi : Nat) (v : Value) (w : World) (hv : RdI w lo hi v l)
    (hf : ∀ a ∈ l, ∀ W, Below w.heap.size w W → Calls Try.prog f (#[.int .i64 a] ++ cap) W fun e W' => e = .returned (.bool (p a)) ∧ Below W.heap.size W W') :
    Calls Try.prog 110 #[v, .func (.func f) #[] cap] w fun e w' => e = .returned (.int .i64 (firstAt p l)) ∧ Below w.heap.size w w' := by
  obtain ⟨A, c, rfl, hc, hm⟩ := hv.form
  unfold Ent at hent
  have HF := Lib.hid hf
  clear hf
  have HA := Lib.hid hv
  clear hv
  refine calls_cps fun R hR => ?_
  have HR := Lib.hid hR
  clear hR
  go_enter Try.func110, Try.ntmps110
  go_wp2
  go_loopw [8] (fun i wr => ∃ k : Nat, k ≤ l.length ∧ i = .int .i64 k ∧ (∀ j a, j < k → l[j]? = some a → p a = false) ∧ Below w.heap.size w wr) (fun i _ => l.length - (intOf i).toNat)
  case atStart => exact ⟨0, Nat.zero_le _, rfl, fun j a h => absurd h (by omega), Below.refl _ _⟩
  case round =>
    obtain ⟨k, hk, rfl, hno, hb⟩ := hrel
    have HNO := Lib.hid hno
    have HB := Lib.hid hb
    clear hno hb
    by_cases hlt : k < l.length
    · obtain ⟨b, off, rfl, _, _, hcell⟩ := RdI.at1 (HA.out.after HB.out) hlt
      have HA2 := Lib.hid (gti_get hlt)
      generalize gti l k = a at *
      go_wp2_with fail
      refine (HF.out a (List.mem_of_getElem? HA2.out) _ HB.out).mono ?_
      rintro e w1 ⟨rfl, hb1⟩
      have HB1 := Lib.hid hb1
      clear hb1
      cases hp : p a with
      | true =>
        have HP := Lib.hid hp
        clear hp
        go_wp2
        exact HR.out _ _ ⟨ret_int (firstAt_some HA2.out HP.out HNO.out).symm, HB.out.trans (HB1.out.mono HB.out.size)⟩
      | false =>
        have HP := Lib.hid hp
        clear hp
        go_wp2
        go_roundw
        case rel => exact ⟨k + 1, by omega, by go_num, snoc_no HNO.out HA2.out HP.out, HB.out.trans (HB1.out.mono HB.out.size)⟩
        case measure => simp [intOf]; omega
    · go_wp2
      have hkl : k = l.length := by omega
      exact HR.out _ _ ⟨ret_int (firstAt_none (by rw [← hkl]; exact HNO.out)).symm, HB.out⟩

set_option maxHeartbeats 400000 in
theorem containsFI_any (f : FuncId) (hent : Ent f) (cap : Array Value) (p : Int → Bool) (l : List Int) (lo hi : Nat) (v : Value) (w : World) (hv : RdI w lo hi v l)
    (hf : ∀ a ∈ l, ∀ W, Below w.heap.size w W → Calls Try.prog f (#[.int .i64 a] ++ cap) W fun e W' => e = .returned (.bool (p a)) ∧ Below W.heap.size W W') :
    Calls Try.prog 95 #[v, .func (.func f) #[] cap] w fun e w' => e = .returned (.bool (l.any p)) ∧ Below w.heap.size w w' := by
  have HC := Lib.hid (indexFI_any f hent cap p l lo hi v w hv hf)
  clear hf hent hv
  refine calls_cps fun R hR => ?_
  have HR := Lib.hid hR
  clear hR
  go_enter Try.func95, Try.ntmps95
  go_wp2_with fail
  refine HC.out.mono ?_
  rintro e w1 ⟨rfl, hb1⟩
  have HB1 := Lib.hid hb1
  clear hb1
  go_wp2
  exact HR.out _ _ ⟨congrArg (fun b => Ending.returned (.bool b)) (firstAt_any p l), HB1.out⟩

set_option maxHeartbeats 1000000 in
theorem indexFS_any (f : FuncId) (hent : Ent f) (cap : Array Value) (p : ByteArray → Bool) (l : List ByteArray) (lo hi : Nat) (v : Value) (w : World) (hv : RdS w lo hi v l)
    (hf : ∀ a ∈ l, ∀ W, Below w.heap.size w W → Calls Try.prog f (#[.string a] ++ cap) W fun e W' => e = .returned (.bool (p a)) ∧ Below W.heap.size W W') :
    Calls Try.prog 64 #[v, .func (.func f) #[] cap] w fun e w' => e = .returned (.int .i64 (firstAt p l)) ∧ Below w.heap.size w w' := by
  obtain ⟨A, c, rfl, hc, hm⟩ := hv.form
  unfold Ent at hent
  have HF := Lib.hid hf
  clear hf
  have HA := Lib.hid hv
  clear hv
  refine calls_cps fun R hR => ?_
  have HR := Lib.hid hR
  clear hR
  go_enter Try.func64, Try.ntmps64
  go_wp2
  go_loopw [8] (fun i wr => ∃ k : Nat, k ≤ l.length ∧ i = .int .i64 k ∧ (∀ j a, j < k → l[j]? = some a → p a = false) ∧ Below w.heap.size w wr) (fun i _ => l.length - (intOf i).toNat)
  case atStart => exact ⟨0, Nat.zero_le _, rfl, fun j a h => absurd h (by omega), Below.refl _ _⟩
  case round =>
    obtain ⟨k, hk, rfl, hno, hb⟩ := hrel
    have HNO := Lib.hid hno
    have HB := Lib.hid hb
    clear hno hb
    by_cases hlt : k < l.length
    · obtain ⟨b, off, rfl, _, _, hcell⟩ := RdS.at1 (HA.out.after HB.out) hlt
      have HA2 := Lib.hid (gti_get hlt)
      generalize gti l k = a at *
      go_wp2_with fail
      refine (HF.out a (List.mem_of_getElem? HA2.out) _ HB.out).mono ?_
      rintro e w1 ⟨rfl, hb1⟩
      have HB1 := Lib.hid hb1
      clear hb1
      cases hp : p a with
      | true =>
        have HP := Lib.hid hp
        clear hp
        go_wp2
        exact HR.out _ _ ⟨ret_int (firstAt_some HA2.out HP.out HNO.out).symm, HB.out.trans (HB1.out.mono HB.out.size)⟩
      | false =>
        have HP := Lib.hid hp
        clear hp
        go_wp2
        go_roundw
        case rel => exact ⟨k + 1, by omega, by go_num, snoc_no HNO.out HA2.out HP.out, HB.out.trans (HB1.out.mono HB.out.size)⟩
        case measure => simp [intOf]; omega
    · go_wp2
      have hkl : k = l.length := by omega
      exact HR.out _ _ ⟨ret_int (firstAt_none (by rw [← hkl]; exact HNO.out)).symm, HB.out⟩

set_option maxHeartbeats 400000 in
theorem containsFS_any (f : FuncId) (hent : Ent f) (cap : Array Value) (p : ByteArray → Bool) (l : List ByteArray) (lo hi : Nat) (v : Value) (w : World) (hv : RdS w lo hi v l)
    (hf : ∀ a ∈ l, ∀ W, Below w.heap.size w W → Calls Try.prog f (#[.string a] ++ cap) W fun e W' => e = .returned (.bool (p a)) ∧ Below W.heap.size W W') :
    Calls Try.prog 23 #[v, .func (.func f) #[] cap] w fun e w' => e = .returned (.bool (l.any p)) ∧ Below w.heap.size w w' := by
  have HC := Lib.hid (indexFS_any f hent cap p l lo hi v w hv hf)
  clear hf hent hv
  refine calls_cps fun R hR => ?_
  have HR := Lib.hid hR
  clear hR
  go_enter Try.func23, Try.ntmps23
  go_wp2_with fail
  refine HC.out.mono ?_
  rintro e w1 ⟨rfl, hb1⟩
  have HB1 := Lib.hid hb1
  clear hb1
  go_wp2
  exact HR.out _ _ ⟨congrArg (fun b => Ending.returned (.bool b)) (firstAt_any p l), HB1.out⟩

set_option maxHeartbeats 1000000 in
theorem indexFV_any (f : FuncId) (hent : Ent f) (cap : Array Value) (p : TrV → Bool) (l : List TrV) (lo hi : Nat) (v : Value) (w : World) (hv : RdV w lo hi v l)
    (hf : ∀ a ∈ l, ∀ W, Below w.heap.size w W → Calls Try.prog f (#[.agg #[.string a.label, a.vi, a.vo]] ++ cap) W fun e W' => e = .returned (.bool (p a)) ∧ Below W.heap.size W W') :
    Calls Try.prog 65 #[v, .func (.func f) #[] cap] w fun e w' => e = .returned (.int .i64 (firstAt p l)) ∧ Below w.heap.size w w' := by
  obtain ⟨A, c, rfl, hc, hm⟩ := hv.form
  unfold Ent at hent
  have HF := Lib.hid hf
  clear hf
  have HA := Lib.hid hv
  clear hv
  refine calls_cps fun R hR => ?_
  have HR := Lib.hid hR
  clear hR
  go_enter Try.func65, Try.ntmps65
  go_wp2
  go_loopw [8] (fun i wr => ∃ k : Nat, k ≤ l.length ∧ i = .int .i64 k ∧ (∀ j a, j < k → l[j]? = some a → p a = false) ∧ Below w.heap.size w wr) (fun i _ => l.length - (intOf i).toNat)
  case atStart => exact ⟨0, Nat.zero_le _, rfl, fun j a h => absurd h (by omega), Below.refl _ _⟩
  case round =>
    obtain ⟨k, hk, rfl, hno, hb⟩ := hrel
    have HNO := Lib.hid hno
    have HB := Lib.hid hb
    clear hno hb
    by_cases hlt : k < l.length
    · obtain ⟨b, off, rfl, _, _, hcell⟩ := RdV.at3 (HA.out.after HB.out) hlt
      have HA2 := Lib.hid (gti_get hlt)
      generalize gti l k = a at *
      go_wp2_with fail
      refine (HF.out a (List.mem_of_getElem? HA2.out) _ HB.out).mono ?_
      rintro e w1 ⟨rfl, hb1⟩
      have HB1 := Lib.hid hb1
      clear hb1
      cases hp : p a with
      | true =>
        have HP := Lib.hid hp
        clear hp
        go_wp2
        exact HR.out _ _ ⟨ret_int (firstAt_some HA2.out HP.out HNO.out).symm, HB.out.trans (HB1.out.mono HB.out.size)⟩
      | false =>
        have HP := Lib.hid hp
        clear hp
        go_wp2
        go_roundw
        case rel => exact ⟨k + 1, by omega, by go_num, snoc_no HNO.out HA2.out HP.out, HB.out.trans (HB1.out.mono HB.out.size)⟩
        case measure => simp [intOf]; omega
    · go_wp2
      have hkl : k = l.length := by omega
      exact HR.out _ _ ⟨ret_int (firstAt_none (by rw [← hkl]; exact HNO.out)).symm, HB.out⟩

set_option maxHeartbeats 400000 in
theorem containsFV_any (f : FuncId) (hent : Ent f) (cap : Array Value) (p : TrV → Bool) (l : List TrV) (lo hi : Nat) (v : Value) (w : World) (hv : RdV w lo hi v l)
    (hf : ∀ a ∈ l, ∀ W, Below w.heap.size w W → Calls Try.prog f (#[.agg #[.string a.label, a.vi, a.vo]] ++ cap) W fun e W' => e = .returned (.bool (p a)) ∧ Below W.heap.size W W') :
    Calls Try.prog 25 #[v, .func (.func f) #[] cap] w fun e w' => e = .returned (.bool (l.any p)) ∧ Below w.heap.size w w' := by
  have HC := Lib.hid (indexFV_any f hent cap p l lo hi v w hv hf)
  clear hf hent hv
  refine calls_cps fun R hR => ?_
  have HR := Lib.hid hR
  clear hR
  go_enter Try.func25, Try.ntmps25
  go_wp2_with fail
  refine HC.out.mono ?_
  rintro e w1 ⟨rfl, hb1⟩
  have HB1 := Lib.hid hb1
  clear hb1
  go_wp2
  exact HR.out _ _ ⟨congrArg (fun b => Ending.returned (.bool b)) (firstAt_any p l), HB1.out⟩

end Go.Proofs.Ytmhbfoaecebobaa
end
section
namespace Go.Proofs.Ytmhbfoaecebobaa
set_option linter.unusedSimpArgs false
set_option linter.unusedVariables false
open Go.RowKit

def letB (c : Int) : Bool := decide (65 ≤ c) && decide (c ≤ 90) || decide (97 ≤ c) && decide (c ≤ 122)
def partB (c : Int) : Bool := letB c || decide (48 ≤ c) && decide (c ≤ 57) || decide (c = 95) || decide (c = 45) || decide (c = 46)

set_option maxHeartbeats 2000000 in
theorem letter_any (c : Int) (w : World) : Calls Try.prog 90 #[.int .u8 c] w fun e w' => e = .returned (.bool (letB c)) ∧ Below w.heap.size w w' := by
  refine calls_cps fun R hR => ?_
  have HR := Lib.hid hR
  clear hR
  go_enter Try.func90, Try.ntmps90
  by_cases h1 : (65 : Int) ≤ c <;> by_cases h2 : c ≤ 90 <;> by_cases h3 : (97 : Int) ≤ c <;> by_cases h4 : c ≤ 122 <;> first
    | (exfalso; omega)
    | (have d1 := Lib.hid h1; have d2 := Lib.hid h2; have d3 := Lib.hid h3; have d4 := Lib.hid h4
       go_wp2
       refine HR.out _ _ ⟨?_, ?_⟩
       · simp [letB, h1, h2, h3, h4]
       · (repeat (first | exact Below.refl _ _ | assumption | refine Below.setCell ?_ (by first | omega | (simp; done) | (simp; omega)) _ | refine Below.alloc ?_ (by first | omega | (simp; done) | (simp; omega)) _ | refine Below.drew ?_ | refine below_drewN ?_ _)))

set_option maxHeartbeats 2000000 in
theorem letter2_any (c : Int) (w : World) : Calls Try.prog 105 #[.int .u8 c] w fun e w' => e = .returned (.bool (letB c)) ∧ Below w.heap.size w w' := by
  refine calls_cps fun R hR => ?_
  have HR := Lib.hid hR
  clear hR
  go_enter Try.func105, Try.ntmps105
  by_cases h1 : (65 : Int) ≤ c <;> by_cases h2 : c ≤ 90 <;> by_cases h3 : (97 : Int) ≤ c <;> by_cases h4 : c ≤ 122 <;> first
    | (exfalso; omega)
    | (have d1 := Lib.hid h1; have d2 := Lib.hid h2; have d3 := Lib.hid h3; have d4 := Lib.hid h4
       go_wp2
       refine HR.out _ _ ⟨?_, ?_⟩
       · simp [letB, h1, h2, h3, h4]
       · (repeat (first | exact Below.refl _ _ | assumption | refine Below.setCell ?_ (by first | omega | (simp; done) | (simp; omega)) _ | refine Below.alloc ?_ (by first | omega | (simp; done) | (simp; omega)) _ | refine Below.drew ?_ | refine below_drewN ?_ _)))

set_option maxHeartbeats 2000000 in
theorem part_any (c : Int) (w : World) : Calls Try.prog 91 #[.int .u8 c] w fun e w' => e = .returned (.bool (partB c)) ∧ Below w.heap.size w w' := by
  refine calls_cps fun R hR => ?_
  have HR := Lib.hid hR
  clear hR
  go_enter Try.func91, Try.ntmps91
  go_wp2_with fail
  refine (letter_any _ _).mono ?_
  rintro e w1 ⟨rfl, hb⟩
  have HB := Lib.hid hb
  clear hb
  cases hl : letB c
  · have HL := Lib.hid hl
    by_cases h1 : (48 : Int) ≤ c <;> by_cases h2 : c ≤ 57 <;> by_cases h3 : c = 95 <;> by_cases h4 : c = 45 <;> by_cases h5 : c = 46 <;> first
      | (exfalso; omega)
      | (go_wp2
         refine HR.out _ _ ⟨congrArg Ending.returned (congrArg Value.bool ?_), HB.out⟩
         rw [Bool.eq_iff_iff]
         simp [partB, hl]
         try omega)
  · go_wp2
    refine HR.out _ _ ⟨?_, HB.out⟩
    simp [partB, hl]

/-- byte k of a string, as a number -/
def byt (s : ByteArray) (k : Nat) : Int := if h : k < s.size then (s[k].toNat : Int) else 0
theorem byt_lt {s : ByteArray} {k : Nat} (h : k < s.size) : (s[k].toNat : Int) = byt s k := by unfold byt; rw [dif_pos h]
def nameB (s : ByteArray) : Bool := decide (1 ≤ s.size) && decide (s.size ≤ 40) && letB (byt s 0) && (List.range s.size).all fun k => partB (byt s k)
theorem nameB_false {s : ByteArray} (h : s.size < 1 ∨ 40 < s.size ∨ letB (byt s 0) = false ∨ ∃ k, k < s.size ∧ partB (byt s k) = false) : nameB s = false := by
  unfold nameB
  rcases h with h | h | h | ⟨k, h1, h2⟩
  · have : decide (1 ≤ s.size) = false := decide_eq_false (by omega)
    simp [this]
  · have : decide (s.size ≤ 40) = false := decide_eq_false (by omega)
    simp [this]
  · simp [h]
  · have : (List.range s.size).all (fun k => partB (byt s k)) = false := by
      rw [List.all_eq_false]
      exact ⟨k, by simp [h1], by simp [h2]⟩
    simp [this]
theorem nameB_true {s : ByteArray} (h1 : ¬ s.size < 1) (h2 : ¬ 40 < s.size) (h3 : letB (byt s 0) = true) (h4 : ∀ k, k < s.size → partB (byt s k) = true) : nameB s = true := by
  unfold nameB
  have e1 : decide (1 ≤ s.size) = true := decide_eq_true (by omega)
  have e2 : decide (s.size ≤ 40) = true := decide_eq_true (by omega)
  have : (List.range s.size).all (fun k => partB (byt s k)) = true := by
    rw [List.all_eq_true]
    intro k hk
    exact h4 k (by simpa using hk)
  rw [e1, e2, h3, this]
  rfl

set_option maxHeartbeats 2000000 in
theorem isName_any (s : ByteArray) (w : World) : Calls Try.prog 56 #[.string s] w fun e w' => e = .returned (.bool (nameB s)) ∧ Below w.heap.size w w' := by
  refine calls_cps fun R hR => ?_
  have HR := Lib.hid hR
  clear hR
  go_enter Try.func56, Try.ntmps56
  by_cases h1 : s.size < 1
  · have HF := Lib.hid (nameB_false (.inl h1))
    go_wp2
    refine HR.out _ _ ⟨by rw [HF.out], Below.refl _ _⟩
  · by_cases h2 : 40 < s.size
    · have HF := Lib.hid (nameB_false (.inr (.inl h2)))
      go_wp2
      refine HR.out _ _ ⟨by rw [HF.out], Below.refl _ _⟩
    · have d1 : decide ((s.size : Int) < 1) = false := decide_eq_false (by omega)
      have d2 : decide ((40 : Int) < (s.size : Int)) = false := decide_eq_false (by omega)
      have H1 := Lib.hid h1
      have H2 := Lib.hid h2
      have hpos : 0 < s.size := by omega
      have hb0 := byt_lt hpos
      go_wp2_with fail
      refine (letter_any _ _).mono ?_
      rintro e w1 ⟨rfl, hb⟩
      cases hl : letB (byt s 0)
      · have HF := Lib.hid (nameB_false (.inr (.inr (.inl hl))))
        go_wp2
        refine HR.out _ _ ⟨(by first | (rw [HF.out]; done) | (rw [HF.out]; rfl)), hb⟩
      · have HL := Lib.hid hl
        have HB := Lib.hid hb
        clear hb hl
        clear hb0 d1 d2
        go_wp2
        go_loopw [20, 3] (fun v20 v3 wr => ∃ (k : Nat), k ≤ s.size ∧ v20 = .int .i64 k ∧ Hid (∀ j, j < k → partB (byt s j) = true) ∧ Below w.heap.size w wr) (fun v20 _ _ => s.size - (intOf v20).toNat)
        case atStart => exact ⟨0, by omega, rfl, Lib.hid (fun j hj => by omega), HB.out⟩
        case round =>
          obtain ⟨k, hk, rfl, HP, hbr⟩ := hrel
          have HBR := Lib.hid hbr
          clear hbr
          by_cases hlt : k < s.size
          · have hkd : decide ((k : Int) < (s.size : Int)) = true := by simp; omega
            have hbk := byt_lt hlt
            go_wp2_with fail
            refine (part_any _ _).mono ?_
            rintro e w2 ⟨rfl, hb2⟩
            have HB2 := Lib.hid (Ext.trans HBR.out hb2)
            clear hb2
            cases hp : partB (byt s k)
            · have HF := Lib.hid (nameB_false (.inr (.inr (.inr ⟨k, hlt, hp⟩))))
              go_wp2
              refine HR.out _ _ ⟨(by first | (rw [HF.out]; done) | (rw [HF.out]; rfl)), HB2.out⟩
            · have HPk := Lib.hid hp
              clear hp
              go_wp2
              go_roundw
              case rel =>
                refine ⟨k + 1, by omega, by go_num, Lib.hid (fun j hj => ?_), HB2.out⟩
                by_cases hjk : j < k
                · exact HP.out j hjk
                · obtain rfl : j = k := by omega
                  exact HPk.out
              case measure => simp [intOf]; omega
          · have hkd : decide ((k : Int) < (s.size : Int)) = false := by simp; omega
            go_wp2
            refine HR.out _ _ ⟨?_, HBR.out⟩
            have HF := nameB_true H1.out H2.out HL.out (fun j hj => HP.out j (by omega))
            exact (by first | (rw [HF]; done) | (rw [HF]; rfl))

theorem partB_of_let {c : Int} (h : letB c = true) : partB c = true := by simp [partB, h]

set_option maxHeartbeats 4000000 in
theorem isName2_any (s : ByteArray) (w : World) : Calls Try.prog 87 #[.string s] w fun e w' => e = .returned (.bool (nameB s)) ∧ Below w.heap.size w w' := by
  refine calls_cps fun R hR => ?_
  have HR := Lib.hid hR
  clear hR
  go_enter Try.func87, Try.ntmps87
  by_cases h1 : s.size < 1
  · have HF := Lib.hid (nameB_false (.inl h1))
    go_wp2
    refine HR.out _ _ ⟨(by first | (rw [HF.out]; done) | (rw [HF.out]; rfl)), Below.refl _ _⟩
  · by_cases h2 : 40 < s.size
    · have HF := Lib.hid (nameB_false (.inr (.inl h2)))
      go_wp2
      refine HR.out _ _ ⟨(by first | (rw [HF.out]; done) | (rw [HF.out]; rfl)), Below.refl _ _⟩
    · have d1 : decide ((s.size : Int) < 1) = false := decide_eq_false (by omega)
      have d2 : decide ((40 : Int) < (s.size : Int)) = false := decide_eq_false (by omega)
      have H1 := Lib.hid h1
      have H2 := Lib.hid h2
      have hpos : 0 < s.size := by omega
      have hb0 := byt_lt hpos
      go_wp2_with fail
      refine (letter2_any _ _).mono ?_
      rintro e w1 ⟨rfl, hb⟩
      cases hl : letB (byt s 0)
      · have HF := Lib.hid (nameB_false (.inr (.inr (.inl hl))))
        go_wp2
        refine HR.out _ _ ⟨(by first | (rw [HF.out]; done) | (rw [HF.out]; rfl)), hb⟩
      · have HL := Lib.hid hl
        have HB := Lib.hid hb
        clear hb hl
        clear hb0 d1 d2
        go_wp2
        go_loopw [3] (fun v3 wr => ∃ (k : Nat), 1 ≤ k ∧ k ≤ s.size ∧ v3 = .int .i64 k ∧ Hid (∀ j, j < k → partB (byt s j) = true) ∧ Below w.heap.size w wr) (fun v3 _ => s.size - (intOf v3).toNat)
        case atStart => exact ⟨1, by omega, by omega, rfl, Lib.hid (fun j hj => by (obtain rfl : j = 0 := by omega); exact partB_of_let HL.out), HB.out⟩
        case round =>
          obtain ⟨k, hk1, hk, rfl, HP, hbr⟩ := hrel
          have HBR := Lib.hid hbr
          clear hbr
          by_cases hlt : k < s.size
          · have hkd : decide ((k : Int) < (s.size : Int)) = true := by simp; omega
            have hbk := byt_lt hlt
            go_wp2_with fail
            refine (letter2_any _ _).mono ?_
            rintro e w2 ⟨rfl, hb2⟩
            have HB2 := Lib.hid (Ext.trans HBR.out hb2)
            clear hb2
            cases hl : letB (byt s k)
            · have HK := Lib.hid hl
              clear hl
              have HX : partB (byt s k) = true ↔ ((48 ≤ byt s k ∧ byt s k ≤ 57) ∨ byt s k = 95 ∨ byt s k = 45 ∨ byt s k = 46) := by simp [partB, HK.out, or_assoc]
              have HXX := Lib.hid HX
              clear HX
              have HG : partB (byt s k) = true → Hid (∀ j, j < k + 1 → partB (byt s j) = true) := fun h => Lib.hid (fun j hj => by
                by_cases hjk : j < k
                · exact HP.out j hjk
                · (obtain rfl : j = k := by omega)
                  exact h)
              have HF : partB (byt s k) = false → Hid (nameB s = false) := fun hp => Lib.hid (nameB_false (.inr (.inr (.inr ⟨k, hlt, hp⟩))))
              have HGG := Lib.hid HG
              have HFF := Lib.hid HF
              clear HG HF HP
              generalize byt s k = c at *
              by_cases g1 : (48 : Int) ≤ c <;> by_cases g2 : c ≤ 57 <;> by_cases g3 : c = 95 <;> by_cases g4 : c = 45 <;> by_cases g5 : c = 46 <;> first
                | (exfalso; omega)
                | (have HP := HGG.out (HXX.out.2 (by omega))
                   (try subst c)
                   clear HXX HFF HGG
                   go_wp2
                   go_roundw
                   case rel => exact ⟨k + 1, by omega, by omega, by go_num, HP, HB2.out⟩
                   case measure => (simp [intOf]; omega))
                | (have HP := HFF.out (by rw [← Bool.not_eq_true]; intro h; have := HXX.out.1 h; omega)
                   have b1 : (c == 95) = false := beq_false_of_ne g3
                   have b2 : (c == 45) = false := beq_false_of_ne g4
                   have b3 : (c == 46) = false := beq_false_of_ne g5
                   have b4 : (decide (48 ≤ c) && decide (c ≤ 57)) = false := by simp; omega
                   first | have b5 := decide_eq_false g1 | have b5 := decide_eq_true g1
                   first | have b6 := decide_eq_false g2 | have b6 := decide_eq_true g2
                   clear g1 g2
                   go_wp2 <;> first
                     | exact HR.out _ _ ⟨(by first | (rw [HP.out]; done) | (rw [HP.out]; rfl)), HB2.out⟩
                     | (exfalso; clear HXX HGG HFF HP HK HB2 HBR HL HB H1 H2; simp_all; done))
            · have HPk := Lib.hid (partB_of_let hl)
              clear hl
              go_wp2
              go_roundw
              case rel =>
                refine ⟨k + 1, by omega, by omega, by go_num, Lib.hid (fun j hj => ?_), HB2.out⟩
                by_cases hjk : j < k
                · exact HP.out j hjk
                · obtain rfl : j = k := by omega
                  exact HPk.out
              case measure => simp [intOf]; omega
          · have hkd : decide ((k : Int) < (s.size : Int)) = false := by simp; omega
            go_wp2
            refine HR.out _ _ ⟨?_, HBR.out⟩
            have HF := nameB_true H1.out H2.out HL.out (fun j hj => HP.out j (by omega))
            exact (by first | (rw [HF]; done) | (rw [HF]; rfl))
end Go.Proofs.Ytmhbfoaecebobaa
end
section
namespace Go.Proofs.Ytmhbfoaecebobaa
set_option linter.unusedSimpArgs false
set_option linter.unusedVariables false
open Go.RowKit

def kindB (k : Int) : Bool := decide (1 ≤ k) && decide (k ≤ 4)
def fineB (l : List Stp) : Bool := decide (l.length ≤ 4000) && l.all fun m => kindB m.kind
def lenOfV : Value → Nat
  | .slice _ n _ => n
  | _ => 0
def few1B (a : TrV) : Bool := decide (20 < lenOfV a.vi) || decide (20 < lenOfV a.vo) || decide (100 < a.label.size)
def wordB (l : List ByteArray) : Bool := decide (l.length ≤ 200) && l.all nameB

end Go.Proofs.Ytmhbfoaecebobaa
end
section
namespace Go.Proofs.Ytmhbfoaecebobaa
set_option linter.unusedSimpArgs false
set_option linter.unusedVariables false
open Go.RowKit

structure Tr where
  label : ByteArray
  inn : List Int
  out : List Int
  deriving Inhabited
structure Net where
  places : Int
  trans : List Tr
  source : Int
  sink : Int

/-- a slice that reads as a list of transitions -/
def RdT (w : World) (lo hi : Nat) (v : Value) (ts : List Tr) : Prop :=
  ∃ vs : List TrV, RdV w lo hi v vs ∧ vs.length = ts.length ∧ ∀ k, k < ts.length → (gti vs k).label = (gti ts k).label ∧ RdI w lo hi (gti vs k).vi (gti ts k).inn ∧ RdI w lo hi (gti vs k).vo (gti ts k).out
section
variable {w W : World} {lo hi : Nat} {v : Value} {l : List Tr}
theorem RdT.of_blocks (h : RdT w lo hi v l) (hk : ∀ b, lo ≤ b → b < hi → b < w.heap.size → W.heap[b]? = w.heap[b]?) : RdT W lo hi v l := by
  obtain ⟨vs, h1, h2, h3⟩ := h
  exact ⟨vs, h1.of_blocks hk, h2, fun k hk' => ⟨(h3 k hk').1, (h3 k hk').2.1.of_blocks hk, (h3 k hk').2.2.of_blocks hk⟩⟩
theorem RdT.after (h : RdT w lo hi v l) (hb : Below w.heap.size w W) : RdT W lo hi v l := h.of_blocks fun b _ _ hb' => hb.block b hb'
theorem RdT.mono {lo' hi' : Nat} (h : RdT w lo hi v l) (hl : lo' ≤ lo) (hh : hi ≤ hi') : RdT w lo' hi' v l := by
  obtain ⟨vs, h1, h2, h3⟩ := h
  exact ⟨vs, h1.mono hl hh, h2, fun k hk' => ⟨(h3 k hk').1, (h3 k hk').2.1.mono hl hh, (h3 k hk').2.2.mono hl hh⟩⟩
theorem RdT.form (h : RdT w lo hi v l) : ∃ A c, v = .slice A l.length c ∧ l.length ≤ c ∧ l.length ≤ 9223372036854775807 := by
  obtain ⟨vs, h1, h2, h3⟩ := h
  rw [← h2]
  exact h1.form
theorem RdT.at3 {A : Option Addr} {c : Nat} (h : RdT w lo hi (.slice A l.length c) l) {k : Nat} (hk : k < l.length) :
    ∃ b off vi vo, A = some ⟨b, off, none⟩ ∧ lo ≤ b ∧ b < hi ∧ C3 w b (off + k * 3) (.string (gti l k).label) vi vo ∧ RdI w lo hi vi (gti l k).inn ∧ RdI w lo hi vo (gti l k).out := by
  obtain ⟨vs, h1, h2, h3⟩ := h
  rw [← h2] at h1
  obtain ⟨b, off, hA, hl, hh, hc⟩ := RdV.at3 (k := k) h1 (by omega)
  rw [(h3 k hk).1] at hc
  exact ⟨b, off, _, _, hA, hl, hh, hc, (h3 k hk).2⟩
end
abbrev Loc.rdT (lo hi : Nat) (v : Value) (l : List Tr) : Loc :=
  ⟨fun w => RdT w lo hi v l, fun k => lo ≤ k ∧ k < hi, fun h hd hp => RdT.of_blocks hp (fun b h1 h2 h3 => h.block b h3 (hd b ⟨h1, h2⟩))⟩
abbrev K4 (w : World) (g : Nat) (a b c d : Value) : Prop := w.cell? ⟨g, 0, none⟩ = some a ∧ w.cell? ⟨g, 1, none⟩ = some b ∧ w.cell? ⟨g, 2, none⟩ = some c ∧ w.cell? ⟨g, 3, none⟩ = some d ∧ g < w.heap.size
theorem K4.of_block {W W' : World} {g : Nat} {a b c d : Value} (h : K4 W g a b c d) (he : W'.heap[g]? = W.heap[g]?) (hs : W.heap.size ≤ W'.heap.size) : K4 W' g a b c d := by
  obtain ⟨h1, h2, h3, h4, h7⟩ := h
  exact ⟨(World.cell?_of_block (w := W) he).trans h1, (World.cell?_of_block (w := W) he).trans h2, (World.cell?_of_block (w := W) he).trans h3, (World.cell?_of_block (w := W) he).trans h4, Nat.lt_of_lt_of_le h7 hs⟩
theorem K4.aft {W w1 : World} {g : Nat} {a b c d : Value} (hb : Below W.heap.size W w1) (h : K4 W g a b c d) : K4 w1 g a b c d := K4.of_block h (hb.block g h.2.2.2.2) hb.size
theorem K4.new (W : World) (a b c d : Value) (t : TypeId) : K4 (W.alloc (.cells #[a, b, c, d] t)) W.heap.size a b c d := by simp [K4, go_sem]
abbrev Loc.k4 (g : Nat) (a b c d : Value) : Loc := ⟨fun w => K4 w g a b c d, fun k => k = g, fun h hd hp => K4.of_block hp (h.block g hp.2.2.2.2 (hd g rfl)) h.size⟩

/-- a net, as an argument: n's transitions lie in blocks from lo on, below hi -/
abbrev netV (n : Net) (vt : Value) : Value := .agg #[.int .i64 n.places, vt, .int .i64 n.source, .int .i64 n.sink]

theorem few1_in (n : List Tr) (vs : List TrV) {w : World} {lo hi : Nat} (h2 : vs.length = n.length) (h3 : ∀ k, k < n.length → (gti vs k).label = (gti n k).label ∧ RdI w lo hi (gti vs k).vi (gti n k).inn ∧ RdI w lo hi (gti vs k).vo (gti n k).out) (a : TrV) (ha : a ∈ vs) :
    ∃ A n c B m d, a.vi = .slice A n c ∧ a.vo = .slice B m d := by
  obtain ⟨k, hk, rfl⟩ := List.mem_iff_getElem.1 ha
  obtain ⟨_, hi, ho⟩ := h3 k (by omega)
  have e : gti vs k = vs[k] := by unfold gti; rw [List.getElem?_eq_getElem hk]; rfl
  rw [e] at hi ho
  obtain ⟨A, c, h1, _⟩ := hi.form
  obtain ⟨B, d, h2, _⟩ := ho.form
  exact ⟨A, _, c, B, _, d, h1, h2⟩

end Go.Proofs.Ytmhbfoaecebobaa
end
