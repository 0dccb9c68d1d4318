/-
  Typed readings of slices: ints, strings, steps, transitions. Conditions: none.
-/
import Derived.Test.YtmhbfoaecebobaaCore
namespace Go.Proofs.Ytmhbfoaecebobaa
set_option linter.unusedSimpArgs false
set_option linter.unusedVariables false
open Go.RowKit

theorem findIdx_some {α : Type} {p : α → Bool} : ∀ {l : List α} {k : Nat} {a : α}, l[k]? = some a → p a = true → (∀ j a, j < k → l[j]? = some a → p a = false) → l.findIdx? p = some k
  | [], _, _, h, _, _ => by simp at h
  | b :: l, 0, a, h, hp, _ => by simp at h; subst h; simp [List.findIdx?_cons, hp]
  | b :: l, k + 1, a, h, hp, hn => by
    have hb : p b = false := hn 0 b (by omega) (by simp)
    rw [List.findIdx?_cons, hb]
    simp only [Bool.false_eq_true, if_false]
    rw [findIdx_some (l := l) (k := k) (a := a) (by simpa using h) hp (fun j a hj hja => hn (j + 1) a (by omega) (by simpa using hja))]
    rfl
theorem findIdx_none {α : Type} {p : α → Bool} {l : List α} (hn : ∀ j a, j < l.length → l[j]? = some a → p a = false) : l.findIdx? p = none := by
  rw [List.findIdx?_eq_none_iff]
  intro x hx
  obtain ⟨i, hi, rfl⟩ := List.mem_iff_getElem.1 hx
  exact hn i _ hi (List.getElem?_eq_getElem hi)
/-- the place of the first element with a property, or -1 -/
def firstAt {α : Type} (p : α → Bool) (l : List α) : Int := match l.findIdx? p with | some i => (i : Int) | none => -1
theorem firstAt_some {α : Type} {p : α → Bool} {l : List α} {k : Nat} {a : α} (h : l[k]? = some a) (hp : p a = true) (hn : ∀ j a, j < k → l[j]? = some a → p a = false) : firstAt p l = k := by
  unfold firstAt; rw [findIdx_some h hp hn]
theorem firstAt_none {α : Type} {p : α → Bool} {l : List α} (hn : ∀ j a, j < l.length → l[j]? = some a → p a = false) : firstAt p l = -1 := by
  unfold firstAt; rw [findIdx_none hn]
theorem firstAt_any {α : Type} (p : α → Bool) (l : List α) : decide (0 ≤ firstAt p l) = l.any p := by
  unfold firstAt
  cases h : l.findIdx? p with
  | none =>
    rw [List.findIdx?_eq_none_iff] at h
    rw [Bool.eq_iff_iff, decide_eq_true_eq, List.any_eq_true]
    constructor
    · intro h; simp only at h; omega
    · rintro ⟨x, hx, hp⟩; rw [h x hx] at hp; cases hp
  | some i =>
    obtain ⟨hlt, hp, _⟩ := List.findIdx?_eq_some_iff_getElem.1 h
    rw [Bool.eq_iff_iff, decide_eq_true_eq, List.any_eq_true]
    exact ⟨fun _ => ⟨_, List.getElem_mem hlt, hp⟩, fun _ => by simp only; omega⟩
theorem firstAt_ge {α : Type} (p : α → Bool) (l : List α) : -1 ≤ firstAt p l := by
  unfold firstAt; split <;> omega
theorem firstAt_le {α : Type} (p : α → Bool) (l : List α) : firstAt p l ≤ l.length := by
  unfold firstAt
  split
  · rename_i i h
    obtain ⟨hlt, _⟩ := List.findIdx?_eq_some_iff_getElem.1 h
    omega
  · omega

/-- a slice that reads as the list l; each element lies in size cells, as enc says -/
def Rd {α : Type} (size : Nat) (enc : α → List Value) (w : World) (lo hi : Nat) (v : Value) (l : List α) : Prop := RdC size w lo hi v l.length (l.flatMap enc)

theorem flatMap_get {α : Type} {size : Nat} {enc : α → List Value} (he : ∀ a, (enc a).length = size) : ∀ (l : List α) (k : Nat) (a : α) (j : Nat) (u : Value), l[k]? = some a → (enc a)[j]? = some u → (l.flatMap enc)[k * size + j]? = some u
  | [], k, a, j, u, h, _ => by simp at h
  | b :: l, 0, a, j, u, h, hu => by
    simp at h
    subst h
    rw [List.flatMap_cons, Nat.zero_mul, Nat.zero_add, List.getElem?_append_left (by
      rcases Nat.lt_or_ge j (enc b).length with h | h
      · exact h
      · rw [List.getElem?_eq_none h] at hu; cases hu)]
    exact hu
  | b :: l, k + 1, a, j, u, h, hu => by
    simp at h
    rw [List.flatMap_cons, List.getElem?_append_right (by rw [he]; rw [Nat.add_mul]; omega), he]
    have e : (k + 1) * size + j - size = k * size + j := by rw [Nat.add_mul]; omega
    rw [e]
    exact flatMap_get he l k a j u h hu
theorem flatMap_len {α : Type} {size : Nat} {enc : α → List Value} (he : ∀ a, (enc a).length = size) : ∀ l : List α, (l.flatMap enc).length = l.length * size
  | [] => by simp
  | b :: l => by rw [List.flatMap_cons, List.length_append, he, flatMap_len he l, List.length_cons, Nat.add_mul]; omega

section
variable {α : Type} {size : Nat} {enc : α → List Value} {w W : World} {lo hi : Nat} {v : Value} {l : List α}
theorem Rd.form (h : Rd size enc w lo hi v l) : ∃ A c, v = .slice A l.length c ∧ l.length ≤ c ∧ l.length ≤ 9223372036854775807 := RdC.form h
theorem Rd.after (h : Rd size enc w lo hi v l) (hb : Below w.heap.size w W) : Rd size enc W lo hi v l := RdC.after h hb
theorem Rd.of_blocks (h : Rd size enc w lo hi v l) (hk : ∀ b, lo ≤ b → b < hi → b < w.heap.size → W.heap[b]? = w.heap[b]?) : Rd size enc W lo hi v l := RdC.of_blocks h hk
theorem Rd.mono {lo' hi' : Nat} (h : Rd size enc w lo hi v l) (hl : lo' ≤ lo) (hh : hi ≤ hi') : Rd size enc w lo' hi' v l := RdC.mono h hl hh
theorem Rd.of_own {t : TypeId} (h : w.ownsRow lo t size v l.length (l.flatMap enc)) : Rd size enc w lo w.heap.size v l := RdC.of_own h
theorem Rd.nil (w : World) (lo hi : Nat) : Rd size enc w lo hi (.slice none 0 0) [] := RdC.nil w lo hi
theorem Rd.at_ {A : Option Addr} {c : Nat} (h : Rd size enc w lo hi (.slice A l.length c) l) (he : ∀ a, (enc a).length = size) {k : Nat} {a : α} (hk : l[k]? = some a) :
    ∃ b off, A = some ⟨b, off, none⟩ ∧ lo ≤ b ∧ b < hi ∧ ∀ j u, (enc a)[j]? = some u → w.cell? ⟨b, off + (k * size + j), none⟩ = some u := by
  have hlt : k < l.length := by
    rcases Nat.lt_or_ge k l.length with h | h
    · exact h
    · rw [List.getElem?_eq_none h] at hk; cases hk
  obtain ⟨b, off, hA, h1, h2, hc⟩ := RdC.cells h (by omega)
  exact ⟨b, off, hA, h1, h2, fun j u hu => hc _ u (flatMap_get he l k a j u hk hu)⟩
end
abbrev Loc.rd {α : Type} (size : Nat) (enc : α → List Value) (lo hi : Nat) (v : Value) (l : List α) : Loc :=
  ⟨fun w => Rd size enc w lo hi v l, fun k => lo ≤ k ∧ k < hi, fun h hd hp => Rd.of_blocks hp (fun b h1 h2 h3 => h.block b h3 (hd b ⟨h1, h2⟩))⟩

/-- the element k, or the first that there is none -/
def gti {α : Type} [Inhabited α] (l : List α) (k : Nat) : α := l[k]?.getD default
theorem gti_get {α : Type} [Inhabited α] {l : List α} {k : Nat} (h : k < l.length) : l[k]? = some (gti l k) := by unfold gti; rw [List.getElem?_eq_getElem h]; rfl

abbrev encI (x : Int) : List Value := [.int .i64 x]
abbrev encS (s : ByteArray) : List Value := [.string s]
structure Stp where
  kind : Int
  trans : Int
  act : ByteArray
  deriving Inhabited
abbrev encM (m : Stp) : List Value := [.int .i64 m.kind, .int .i64 m.trans, .string m.act]
abbrev RdI := Rd 1 encI
abbrev RdS := Rd 1 encS
abbrev RdM := Rd 3 encM

theorem RdI.at1 {w : World} {lo hi : Nat} {A : Option Addr} {c : Nat} {l : List Int} (h : RdI w lo hi (.slice A l.length c) l) {k : Nat} (hk : k < l.length) :
    ∃ b off, A = some ⟨b, off, none⟩ ∧ lo ≤ b ∧ b < hi ∧ C1 w b (off + k) (.int .i64 (gti l k)) := by
  obtain ⟨b, off, hA, h1, h2, hc⟩ := Rd.at_ h (fun _ => rfl) (gti_get hk)
  exact ⟨b, off, hA, h1, h2, by have := hc 0 _ rfl; rw [Nat.mul_one] at this; exact this⟩
theorem RdS.at1 {w : World} {lo hi : Nat} {A : Option Addr} {c : Nat} {l : List ByteArray} (h : RdS w lo hi (.slice A l.length c) l) {k : Nat} (hk : k < l.length) :
    ∃ b off, A = some ⟨b, off, none⟩ ∧ lo ≤ b ∧ b < hi ∧ C1 w b (off + k) (.string (gti l k)) := by
  obtain ⟨b, off, hA, h1, h2, hc⟩ := Rd.at_ h (fun _ => rfl) (gti_get hk)
  exact ⟨b, off, hA, h1, h2, by have := hc 0 _ rfl; rw [Nat.mul_one] at this; exact this⟩
abbrev C3 (w : World) (b o : Nat) (x y z : Value) : Prop := w.cell? ⟨b, o, none⟩ = some x ∧ w.cell? ⟨b, o + 1, none⟩ = some y ∧ w.cell? ⟨b, o + 2, none⟩ = some z
theorem RdM.at3 {w : World} {lo hi : Nat} {A : Option Addr} {c : Nat} {l : List Stp} (h : RdM w lo hi (.slice A l.length c) l) {k : Nat} (hk : k < l.length) :
    ∃ b off, A = some ⟨b, off, none⟩ ∧ lo ≤ b ∧ b < hi ∧ C3 w b (off + k * 3) (.int .i64 (gti l k).kind) (.int .i64 (gti l k).trans) (.string (gti l k).act) := by
  obtain ⟨b, off, hA, h1, h2, hc⟩ := Rd.at_ h (fun _ => rfl) (gti_get hk)
  exact ⟨b, off, hA, h1, h2, hc 0 _ rfl, hc 1 _ rfl, hc 2 _ rfl⟩
/-- the cells of a transition -/
structure TrV where
  label : ByteArray
  vi : Value
  vo : Value
instance : Inhabited TrV := ⟨⟨default, .slice none 0 0, .slice none 0 0⟩⟩
abbrev encV (m : TrV) : List Value := [.string m.label, m.vi, m.vo]
abbrev RdV := Rd 3 encV
theorem RdV.at3 {w : World} {lo hi : Nat} {A : Option Addr} {c : Nat} {l : List TrV} (h : RdV w lo hi (.slice A l.length c) l) {k : Nat} (hk : k < l.length) :
    ∃ b off, A = some ⟨b, off, none⟩ ∧ lo ≤ b ∧ b < hi ∧ C3 w b (off + k * 3) (.string (gti l k).label) (gti l k).vi (gti l k).vo := by
  obtain ⟨b, off, hA, h1, h2, hc⟩ := Rd.at_ h (fun _ => rfl) (gti_get hk)
  exact ⟨b, off, hA, h1, h2, hc 0 _ rfl, hc 1 _ rfl, hc 2 _ rfl⟩
end Go.Proofs.Ytmhbfoaecebobaa
