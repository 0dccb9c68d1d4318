import Derived.Test.YtmhbfoaecebobaaJG7
import Derived.Test.YtmhbfoaecebobaaJG4
import Derived.Laws.Small
import Derived.Test.YtmhbfoaecebobaaJG3
import Derived.Laws.BytesArg
import Derived.Maps.OwnSet
import Derived.Test.YtmhbfoaecebobaaJG6
import Derived.Test.YtmhbfoaecebobaaJG2
import Derived.Test.YtmhbfoaecebobaaJG1
section
namespace Go.Proofs.Ytmhbfoaecebobaa
set_option linter.unusedSimpArgs false
set_option linter.unusedVariables false
open Go.RowKit
theorem nodup_sub {α : Type} [BEq α] [LawfulBEq α] : ∀ {l m : List α}, l.Nodup → l ⊆ m → l.length ≤ m.length
  | [], m, _, _ => Nat.zero_le _
  | a :: l, m, h, hs => by
    rw [List.nodup_cons] at h
    have ha : a ∈ m := hs (List.mem_cons_self ..)
    have h1 : l ⊆ m.erase a := fun x hx => by
      have hne : x ≠ a := fun e => h.1 (e ▸ hx)
      exact (List.mem_erase_of_ne hne).2 (hs (List.mem_cons_of_mem _ hx))
    have h2 := nodup_sub h.2 h1
    rw [List.length_erase_of_mem ha] at h2
    have := List.length_pos_of_mem ha
    simp only [List.length_cons]
    omega
theorem nodup_len {L : List Int} {m : Int} (h : L.Nodup) (hr : ∀ p ∈ L, 0 ≤ p ∧ p < m) : (L.length : Int) ≤ m ∨ L = [] := by
  by_cases h0 : L = []
  · exact .inr h0
  · left
    have hm : 0 ≤ m := by
      obtain ⟨x, hx⟩ := List.exists_mem_of_ne_nil L h0
      have := hr x hx; omega
    have h1 : (L.map Int.toNat).Nodup := by
      rw [List.nodup_iff_pairwise_ne] at h ⊢
      rw [List.pairwise_map]
      refine List.Pairwise.imp_of_mem ?_ h
      intro a b ha hb hab e
      have := hr a ha; have := hr b hb
      omega
    have h2 : (L.map Int.toNat) ⊆ List.range m.toNat := by
      intro x hx
      obtain ⟨a, ha, rfl⟩ := List.mem_map.1 hx
      have := hr a ha
      rw [List.mem_range]
      omega
    have h3 := nodup_sub h1 h2
    rw [List.length_map, List.length_range] at h3
    omega
theorem gtiS {α : Type} [Inhabited α] {l : List α} {i j : Nat} {x : α} (hi : i < l.length) : gti (l.set i x) j = if i = j then x else gti l j := by
  unfold gti
  by_cases h : i = j
  · subst h; rw [List.getElem?_set_self hi, if_pos rfl]; rfl
  · rw [List.getElem?_set_ne h, if_neg h]
theorem gtiL {α : Type} [Inhabited α] {L t : List α} {j : Nat} (h : j < L.length) : gti (L ++ t) j = gti L j := by unfold gti; rw [List.getElem?_append_left h]
theorem gtiZ {α : Type} [Inhabited α] {L : List α} {x : α} : gti (L ++ [x]) L.length = x := by unfold gti; simp
abbrev QB := List Int × List Int
def bstep (mv : List Mvx) (v : Int) (s : QB) (k : Nat) : QB := if (gti mv k).fr = v ∧ (gti mv k).tt ≠ 0 ∧ gti s.2 (gti mv k).tt.toNat < 0 then (s.1 ++ [(gti mv k).tt], s.2.set (gti mv k).tt.toNat (k : Int)) else s
def brow (mv : List Mvx) (v : Int) (s : QB) (l : List Nat) : QB := l.foldl (bstep mv v) s
def bfs (mv : List Mvx) : Nat → Nat → QB → QB
  | 0, _, s => s
  | f + 1, i, s => if i < s.1.length then bfs mv f (i + 1) (brow mv (gti s.1 i) s (List.range mv.length)) else s
def ixs (mv : List Mvx) (v : Int) (n : Nat) : List Nat := (List.range n).filter (fun k => decide ((gti mv k).fr = v))
def outsL (mv : List Mvx) (v : Int) (n : Nat) : List Mvx := (ixs mv v n).map (gti mv)
theorem outsL_succ (mv : List Mvx) (v : Int) (n : Nat) : outsL mv v (n + 1) = outsL mv v n ++ if (gti mv n).fr = v then [gti mv n] else [] := by
  unfold outsL ixs
  rw [List.range_succ, List.filter_append, List.map_append]
  by_cases h : (gti mv n).fr = v
  · simp [h]
  · simp [h]
theorem ixs_len (mv : List Mvx) (v : Int) (n : Nat) : (ixs mv v n).length ≤ n := by
  unfold ixs
  exact Nat.le_trans (List.length_filter_le _ _) (by simp)
theorem outsL_len (mv : List Mvx) (v : Int) (n : Nat) : (outsL mv v n).length ≤ n := by
  unfold outsL; rw [List.length_map]; exact ixs_len mv v n
theorem ixs_mem {mv : List Mvx} {v : Int} {n k : Nat} (h : k ∈ ixs mv v n) : k < n ∧ (gti mv k).fr = v := by
  unfold ixs at h
  rw [List.mem_filter, List.mem_range] at h
  exact ⟨h.1, of_decide_eq_true h.2⟩
structure BI (mv : List Mvx) (n : Nat) (s : QB) : Prop where
  bl : s.2.length = n
  h0 : s.1[0]? = some 0
  rng : ∀ x ∈ s.1, 0 ≤ x ∧ x < (n : Int)
  nd : s.1.Nodup
  iff : ∀ v : Nat, v < n → (0 ≤ gti s.2 v ↔ (v : Int) ∈ s.1 ∧ v ≠ 0)
  par : ∀ p : Nat, 1 ≤ p → p < s.1.length → ∃ k : Nat, k < mv.length ∧ gti s.2 (gti s.1 p).toNat = k ∧ (gti mv k).tt = gti s.1 p ∧ ∃ p', p' < p ∧ gti s.1 p' = (gti mv k).fr
theorem BI.len {mv : List Mvx} {n : Nat} {s : QB} (h : BI mv n s) : 1 ≤ s.1.length ∧ s.1.length ≤ n := by
  have h1 := (List.getElem?_eq_some_iff.1 h.h0).1
  rcases nodup_len h.nd h.rng with h2 | h2
  · omega
  · rw [h2] at h1; simp at h1
theorem BI.at_ {mv : List Mvx} {n : Nat} {s : QB} (h : BI mv n s) {p : Nat} (hp : p < s.1.length) : 0 ≤ gti s.1 p ∧ gti s.1 p < (n : Int) := h.rng _ (gti_mem hp)
theorem BI.at0 {mv : List Mvx} {n : Nat} {s : QB} (h : BI mv n s) : gti s.1 0 = 0 := by unfold gti; rw [h.h0]; rfl
def BExt (s s' : QB) : Prop := (∃ t, s'.1 = s.1 ++ t) ∧ ∀ v, 0 ≤ gti s.2 v → gti s'.2 v = gti s.2 v
theorem BExt.refl (s : QB) : BExt s s := ⟨⟨[], by simp⟩, fun _ _ => rfl⟩
theorem BExt.trans {a b c : QB} (h : BExt a b) (k : BExt b c) : BExt a c := by
  obtain ⟨⟨t, h1⟩, h2⟩ := h
  obtain ⟨⟨u, k1⟩, k2⟩ := k
  exact ⟨⟨t ++ u, by rw [k1, h1, List.append_assoc]⟩, fun v hv => by rw [k2 v (by rw [h2 v hv]; exact hv), h2 v hv]⟩
theorem BI.step {mv : List Mvx} {n : Nat} {s : QB} (h : BI mv n s) {i k : Nat} (hi : i < s.1.length) (hk : k < mv.length) (hr : 0 ≤ (gti mv k).tt ∧ (gti mv k).tt < (n : Int)) : BI mv n (bstep mv (gti s.1 i) s k) ∧ BExt s (bstep mv (gti s.1 i) s k) := by
  unfold bstep
  split
  case isFalse => exact ⟨h, .refl _⟩
  rename_i hc
  obtain ⟨c1, c2, c3⟩ := hc
  generalize hm : gti mv k = m at c1 c2 c3 hr
  have htn : m.tt.toNat < n := by omega
  have hnot : m.tt ∉ s.1 := fun hm => by
    have := (h.iff m.tt.toNat htn).2 ⟨by rw [Int.toNat_of_nonneg hr.1]; exact hm, by omega⟩
    omega
  have hset : ∀ v, gti (s.2.set m.tt.toNat (k : Int)) v = if m.tt.toNat = v then (k : Int) else gti s.2 v := fun v => gtiS (by rw [h.bl]; exact htn)
  refine ⟨⟨by simp [h.bl], by rw [List.getElem?_append_left (List.getElem?_eq_some_iff.1 h.h0).1]; exact h.h0, ?_, ?_, ?_, ?_⟩, ⟨[m.tt], rfl⟩, fun v hv => ?_⟩
  · intro x hx
    rcases List.mem_append.1 hx with hx | hx
    · exact h.rng x hx
    · simp at hx; subst hx; exact hr
  · refine List.nodup_append.2 ⟨h.nd, by simp, fun a ha b hb e => ?_⟩
    simp at hb
    subst hb e
    exact hnot ha
  · intro v hv
    rw [hset]
    by_cases e : m.tt.toNat = v
    · subst e
      rw [if_pos rfl]
      refine ⟨fun _ => ⟨?_, by omega⟩, fun _ => by omega⟩
      rw [Int.toNat_of_nonneg hr.1]
      simp
    · rw [if_neg e, h.iff v hv]
      simp only [List.mem_append, List.mem_singleton]
      constructor
      · rintro ⟨g1, g2⟩; exact ⟨.inl g1, g2⟩
      · rintro ⟨g1 | g1, g2⟩
        · exact ⟨g1, g2⟩
        · omega
  · intro p hp1 hp2
    simp only [List.length_append, List.length_singleton] at hp2
    by_cases hp : p < s.1.length
    · obtain ⟨k', g1, g2, g3, p', g4, g5⟩ := h.par p hp1 hp
      have hne : ¬ m.tt.toNat = (gti s.1 p).toNat := fun e => hnot (by
        have := h.at_ hp
        have e2 : m.tt = gti s.1 p := by omega
        rw [e2]; exact gti_mem hp)
      refine ⟨k', g1, ?_, ?_, p', g4, ?_⟩
      · rw [gtiL hp, hset, if_neg hne, g2]
      · rw [gtiL hp, g3]
      · rw [gtiL (by omega), g5]
    · have e : p = s.1.length := by omega
      subst e
      refine ⟨k, hk, ?_, ?_, i, hi, ?_⟩
      · rw [gtiZ, hset, if_pos rfl]
      · rw [gtiZ, hm]
      · rw [gtiL hi, hm]; exact c1.symm
  · show gti (s.2.set m.tt.toNat (k : Int)) v = _
    rw [hset]
    by_cases e : m.tt.toNat = v
    · subst e; omega
    · rw [if_neg e]
theorem BExt.gti {s s' : QB} (h : BExt s s') {i : Nat} (hi : i < s.1.length) : gti s'.1 i = gti s.1 i ∧ i < s'.1.length := by
  obtain ⟨⟨t, h1⟩, _⟩ := h
  rw [h1]
  exact ⟨gtiL hi, by simp; omega⟩
theorem BI.row {mv : List Mvx} {n : Nat} (hmv : ∀ k, k < mv.length → 0 ≤ (gti mv k).tt ∧ (gti mv k).tt < (n : Int)) : ∀ (l : List Nat) {s : QB} (h : BI mv n s) {i : Nat} (hi : i < s.1.length) (hl : ∀ k ∈ l, k < mv.length), BI mv n (brow mv (gti s.1 i) s l) ∧ BExt s (brow mv (gti s.1 i) s l)
  | [], s, h, i, hi, _ => ⟨h, .refl _⟩
  | k :: l, s, h, i, hi, hl => by
    have hk := hl k List.mem_cons_self
    obtain ⟨h1, h2⟩ := h.step hi hk (hmv k hk)
    have h3 := h2.gti hi
    have := BI.row hmv l h1 h3.2 (fun k hk => hl k (List.mem_cons_of_mem _ hk))
    rw [h3.1] at this
    exact ⟨this.1, h2.trans this.2⟩
theorem BI.bfs {mv : List Mvx} {n : Nat} (hmv : ∀ k, k < mv.length → 0 ≤ (gti mv k).tt ∧ (gti mv k).tt < (n : Int)) : ∀ (f i : Nat) {s : QB} (h : BI mv n s), BI mv n (bfs mv f i s) ∧ BExt s (bfs mv f i s)
  | 0, i, s, h => ⟨h, .refl _⟩
  | f + 1, i, s, h => by
    unfold Go.Proofs.Ytmhbfoaecebobaa.bfs
    split
    · rename_i hi
      obtain ⟨h1, h2⟩ := h.row hmv _ hi (fun k hk => List.mem_range.1 hk)
      have := BI.bfs hmv f (i + 1) h1
      exact ⟨this.1, h2.trans this.2⟩
    · exact ⟨h, .refl _⟩
def bs0 (n : Nat) : QB := ([0], List.replicate n (-1))
theorem BI.init {mv : List Mvx} {n : Nat} (hn : 1 ≤ n) : BI mv n (bs0 n) := by
  refine ⟨by simp [bs0], rfl, fun x hx => by simp [bs0] at hx; omega, by simp [bs0], fun v hv => ?_, fun p h1 h2 => by simp [bs0] at h2; omega⟩
  have : gti (List.replicate n (-1 : Int)) v = -1 := by unfold gti; simp [hv]
  simp only [bs0, this]
  simp
def backP (mv : List Mvx) (B : List Int) : Nat → Int → List Int
  | 0, _ => []
  | f + 1, tg => if tg = 0 then [] else (gti mv (gti B tg.toNat).toNat).sym :: backP mv B f (gti mv (gti B tg.toNat).toNat).fr
theorem backP_len (mv : List Mvx) (B : List Int) : ∀ (f : Nat) (tg : Int), (backP mv B f tg).length ≤ f
  | 0, tg => Nat.le_refl _
  | f + 1, tg => by
    unfold backP
    split
    · simp
    · simp only [List.length_cons]
      have := backP_len mv B f (gti mv (gti B tg.toNat).toNat).fr
      omega
theorem BI.back {mv : List Mvx} {n : Nat} {s : QB} (h : BI mv n s) {p : Nat} (hp : p < s.1.length) (h0 : gti s.1 p ≠ 0) : ∃ k : Nat, k < mv.length ∧ gti s.2 (gti s.1 p).toNat = k ∧ ∃ p', p' < p ∧ gti s.1 p' = (gti mv k).fr := by
  have h1 : 1 ≤ p := by
    rcases Nat.eq_zero_or_pos p with rfl | h1
    · exact absurd h.at0 h0
    · exact h1
  obtain ⟨k, g1, g2, g3, g4⟩ := h.par p h1 hp
  exact ⟨k, g1, g2, g4⟩
theorem BI.backP {mv : List Mvx} {n : Nat} {s : QB} (h : BI mv n s) {s' : QB} (he : BExt s s') : ∀ (f f' p : Nat), p < s.1.length → p < f → p < f' → backP mv s'.2 f' (gti s.1 p) = backP mv s.2 f (gti s.1 p)
  | 0, f', p, _, hf, _ => by omega
  | f + 1, 0, p, _, _, hf => by omega
  | f + 1, f' + 1, p, hp, hf, hf' => by
    unfold Go.Proofs.Ytmhbfoaecebobaa.backP
    by_cases h0 : gti s.1 p = 0
    · rw [if_pos h0, if_pos h0]
    · rw [if_neg h0, if_neg h0]
      obtain ⟨k, g1, g2, p', g3, g4⟩ := h.back hp h0
      rw [he.2 _ (by omega), g2, Int.toNat_natCast, ← g4, BI.backP h he f f' p' (by omega) (by omega) (by omega)]
def formedB (s : Spc) : Bool := decide (1 ≤ s.st.length ∧ s.st.length ≤ 2000 ∧ s.mv.length ≤ 20000) && s.mv.all fun m => decide (0 ≤ m.fr ∧ m.fr < s.st.length ∧ 0 ≤ m.tt ∧ m.tt < s.st.length)
def bend (s : Spc) : QB := bfs s.mv s.st.length 0 (bs0 s.st.length)
def pathE (s : Spc) (tg : Int) : List Int × Int := if formedB s = true then (if tg < 0 ∨ (s.st.length : Int) ≤ tg then ([], 2) else if tg ≠ 0 ∧ gti (bend s).2 tg.toNat < 0 then ([], 10) else ((backP s.mv (bend s).2 s.st.length tg).reverse, 0)) else ([], 1)
theorem mem_pos {s : List Int} {x : Int} (h : x ∈ s) : ∃ p, p < s.length ∧ gti s p = x := by
  obtain ⟨p, h1, h2⟩ := mem_gti' h
  exact ⟨p, h1, h2⟩
theorem BI.met {mv : List Mvx} {n : Nat} {s : QB} (h : BI mv n s) {tg : Int} (h0 : 0 ≤ tg) (hn : tg < n) (hm : tg = 0 ∨ 0 ≤ gti s.2 tg.toNat) : ∃ p, p < s.1.length ∧ gti s.1 p = tg := by
  rcases hm with rfl | hm
  · exact ⟨0, h.len.1, h.at0⟩
  · have := ((h.iff tg.toNat (by omega)).1 hm).1
    rw [Int.toNat_of_nonneg h0] at this
    exact mem_pos this
end Go.Proofs.Ytmhbfoaecebobaa
end
section
namespace Go.Proofs.Ytmhbfoaecebobaa
set_option linter.unusedSimpArgs false
set_option linter.unusedVariables false
open Go.RowKit
def noB : ByteArray := ⟨#[]⟩
def labM (n : Net) (m : Mvx) : ByteArray := (gti n.trans m.sym.toNat).label
abbrev QS := List Int × List Bool
def cstep (n : Net) (mv : List Mvx) (s : QS) (k : Nat) : QS := if labM n (gti mv k) = noB ∧ gti s.2 (gti mv k).tt.toNat = false then (s.1 ++ [(gti mv k).tt], s.2.set (gti mv k).tt.toNat true) else s
def crow (n : Net) (mv : List Mvx) (s : QS) (l : List Nat) : QS := l.foldl (cstep n mv) s
def cfs (n : Net) (mv : List Mvx) : Nat → Nat → QS → QS
  | 0, _, s => s
  | f + 1, i, s => if i < s.1.length then cfs n mv f (i + 1) (crow n mv s (ixs mv (gti s.1 i) mv.length)) else s
def setQ (set : List Bool) (k : Nat) : List Int := ((List.range k).filter fun v => gti set v).map fun v : Nat => (v : Int)
theorem setQ_succ (set : List Bool) (k : Nat) : setQ set (k + 1) = setQ set k ++ if gti set k = true then [(k : Int)] else [] := by
  unfold setQ
  rw [List.range_succ, List.filter_append, List.map_append]
  by_cases h : gti set k = true
  · simp [h]
  · simp [h]
theorem setQ_len (set : List Bool) (k : Nat) : (setQ set k).length ≤ k := by
  unfold setQ
  rw [List.length_map]
  exact Nat.le_trans (List.length_filter_le _ _) (by simp)
def closeE (n : Net) (mv : List Mvx) (set : List Bool) : List Bool := (cfs n mv set.length 0 (setQ set set.length, set)).2
structure CI (N : Nat) (s : QS) : Prop where
  bl : s.2.length = N
  rng : ∀ x ∈ s.1, 0 ≤ x ∧ x < (N : Int)
  nd : s.1.Nodup
  iff : ∀ v : Nat, v < N → (gti s.2 v = true ↔ (v : Int) ∈ s.1)
theorem CI.len {N : Nat} {s : QS} (h : CI N s) : s.1.length ≤ N := by
  rcases nodup_len h.nd h.rng with h2 | h2
  · omega
  · rw [h2]; simp
theorem CI.at_ {N : Nat} {s : QS} (h : CI N s) {p : Nat} (hp : p < s.1.length) : 0 ≤ gti s.1 p ∧ gti s.1 p < (N : Int) := h.rng _ (gti_mem hp)
theorem CI.init (set : List Bool) : CI set.length (setQ set set.length, set) := by
  refine ⟨rfl, fun x hx => ?_, ?_, fun v hv => ?_⟩
  · simp only [setQ, List.mem_map, List.mem_filter, List.mem_range] at hx
    obtain ⟨v, ⟨h1, _⟩, rfl⟩ := hx
    omega
  · unfold setQ
    have h1 : ((List.range set.length).filter fun v => gti set v).Nodup := List.Pairwise.filter _ List.nodup_range
    rw [List.nodup_iff_pairwise_ne, List.pairwise_map]
    refine List.Pairwise.imp ?_ (List.nodup_iff_pairwise_ne.1 h1)
    intro a b hab e
    exact hab (by omega)
  · simp only [setQ, List.mem_map, List.mem_filter, List.mem_range]
    constructor
    · intro h; exact ⟨v, ⟨hv, h⟩, rfl⟩
    · rintro ⟨u, ⟨_, h⟩, e⟩
      have : u = v := by omega
      rwa [this] at h
theorem CI.step {N : Nat} {s : QS} (h : CI N s) {n : Net} {mv : List Mvx} {k : Nat} (hr : 0 ≤ (gti mv k).tt ∧ (gti mv k).tt < (N : Int)) : CI N (cstep n mv s k) ∧ ∃ t, (cstep n mv s k).1 = s.1 ++ t := by
  unfold cstep
  split
  case isFalse => exact ⟨h, [], by simp⟩
  rename_i hc
  obtain ⟨c1, c2⟩ := hc
  generalize hm : gti mv k = m at c1 c2 hr
  have htn : m.tt.toNat < N := by omega
  have hnot : m.tt ∉ s.1 := fun hm => by
    have := (h.iff m.tt.toNat htn).2 (by rw [Int.toNat_of_nonneg hr.1]; exact hm)
    rw [c2] at this; cases this
  refine ⟨⟨by simp [h.bl], ?_, ?_, ?_⟩, [m.tt], rfl⟩
  · intro x hx
    rcases List.mem_append.1 hx with hx | hx
    · exact h.rng x hx
    · simp at hx; subst hx; exact hr
  · refine List.nodup_append.2 ⟨h.nd, by simp, fun a ha b hb e => ?_⟩
    simp at hb
    subst hb e
    exact hnot ha
  · intro v hv
    show gti (s.2.set m.tt.toNat true) v = true ↔ _
    rw [gtiS (by rw [h.bl]; exact htn)]
    by_cases e : m.tt.toNat = v
    · subst e
      rw [if_pos rfl, Int.toNat_of_nonneg hr.1]
      simp
    · rw [if_neg e, h.iff v hv]
      simp only [List.mem_append, List.mem_singleton]
      constructor
      · intro g; exact .inl g
      · rintro (g | g)
        · exact g
        · omega
def MvOk (n : Net) (s : Spc) : Prop := ∀ k, k < s.mv.length → 0 ≤ (gti s.mv k).fr ∧ (gti s.mv k).fr < s.st.length ∧ 0 ≤ (gti s.mv k).tt ∧ (gti s.mv k).tt < s.st.length ∧ 0 ≤ (gti s.mv k).sym ∧ (gti s.mv k).sym < n.trans.length
def startE (n : Net) (s : Spc) : List Bool := closeE n s.mv ((List.replicate s.st.length false).set 0 true)
def hitE (n : Net) (mv : List Mvx) (act : ByteArray) (l : List Nat) (nx : List Bool) : List Bool := l.foldl (fun nx k => if labM n (gti mv k) = act then nx.set (gti mv k).tt.toNat true else nx) nx
def nextE (n : Net) (mv : List Mvx) (act : ByteArray) (set : List Bool) : Nat → List Bool
  | 0 => List.replicate set.length false
  | v + 1 => if gti set v = true then hitE n mv act (ixs mv v mv.length) (nextE n mv act set v) else nextE n mv act set v
def stepE (n : Net) (mv : List Mvx) (act : ByteArray) (set : List Bool) : List Bool := closeE n mv (nextE n mv act set set.length)
theorem hitE_len (n : Net) (mv : List Mvx) (act : ByteArray) : ∀ (l : List Nat) (nx : List Bool), (hitE n mv act l nx).length = nx.length
  | [], nx => rfl
  | k :: l, nx => by
    unfold hitE
    rw [List.foldl_cons]
    have := hitE_len n mv act l (if labM n (gti mv k) = act then nx.set (gti mv k).tt.toNat true else nx)
    unfold hitE at this
    rw [this]
    split <;> simp
theorem nextE_len (n : Net) (mv : List Mvx) (act : ByteArray) (set : List Bool) : ∀ k, (nextE n mv act set k).length = set.length
  | 0 => by simp [nextE]
  | k + 1 => by
    unfold nextE
    split
    · rw [hitE_len, nextE_len n mv act set k]
    · exact nextE_len n mv act set k
theorem crow_CI {N : Nat} {n : Net} {mv : List Mvx} (hmv : ∀ k, k < mv.length → 0 ≤ (gti mv k).tt ∧ (gti mv k).tt < (N : Int)) : ∀ (l : List Nat) {s : QS}, CI N s → (∀ k ∈ l, k < mv.length) → CI N (crow n mv s l)
  | [], s, h, _ => h
  | k :: l, s, h, hl => crow_CI hmv l (h.step (hmv k (hl k List.mem_cons_self))).1 (fun k hk => hl k (List.mem_cons_of_mem _ hk))
theorem cfs_CI {N : Nat} {n : Net} {mv : List Mvx} (hmv : ∀ k, k < mv.length → 0 ≤ (gti mv k).tt ∧ (gti mv k).tt < (N : Int)) : ∀ (f i : Nat) {s : QS}, CI N s → CI N (cfs n mv f i s)
  | 0, i, s, h => h
  | f + 1, i, s, h => by
    unfold cfs
    split
    · exact cfs_CI hmv f (i + 1) (crow_CI hmv _ h (fun k hk => (ixs_mem hk).1))
    · exact h
theorem closeE_len {N : Nat} {n : Net} {mv : List Mvx} (hmv : ∀ k, k < mv.length → 0 ≤ (gti mv k).tt ∧ (gti mv k).tt < (N : Int)) {set : List Bool} (h : set.length = N) : (closeE n mv set).length = N := by
  subst h
  exact (cfs_CI hmv _ _ (CI.init set)).bl
theorem cfs_end {n : Net} {mv : List Mvx} {f i : Nat} {s : QS} (h : s.1.length ≤ i) : cfs n mv f i s = s := by
  cases f with
  | zero => rfl
  | succ f => unfold cfs; rw [if_neg (by omega)]
end Go.Proofs.Ytmhbfoaecebobaa
end
section
namespace Go.Proofs.Ytmhbfoaecebobaa.Aw
set_option linter.unusedSimpArgs false
set_option linter.unusedVariables false
open Go Go.Proofs Go.RowKit
theorem mv_mp {P : Program} {o : Oper} {F : Frm} {σ : List Ob} {y : Operand} {id : Nat} (ho : o.op = .move y ∨ o.op = .assign y) (hx : F.eval y = .mp id) : Does P o F σ (.mp id) σ := does_mv ho hx
theorem ObRn.mpE {ρ : List Nat} {P : Program} {kt el : TypeId} {n n' : Nat} {D D' : DataW Unit} (hn : n ≤ n') (hD : D = D') : ObRn ρ (.mp ⟨P, kt, el, n, D⟩) (.mp ⟨P, kt, el, n', D'⟩) := by
  subst hD
  exact .mp ⟨P, kt, el, n, D⟩ n' hn
end Go.Proofs.Ytmhbfoaecebobaa.Aw
end
section
namespace Go.Proofs.Ytmhbfoaecebobaa.Aw
set_option linter.unusedSimpArgs false
set_option linter.unusedVariables false
open Go.RowKit
def liftE (N : Nat) (G : Cx) (Q : Exit → Frm → List Ob → Prop) : Exit → Act → World → Prop :=
  fun e a' w' => ∃ G' F' σ', G'.w = w' ∧ G.Ext G' ∧ S8 N G' a' F' σ' ∧ Q e F' σ'
theorem liftE_mono {N : Nat} {G G1 : Cx} (h : G.Ext G1) {Q Q' : Exit → Frm → List Ob → Prop} (hq : ∀ e F σ, Q e F σ → Q' e F σ) {e : Exit} {a : Act} {w : World} (x : liftE N G1 Q e a w) : liftE N G Q' e a w := by
  obtain ⟨G', F', σ', h1, h2, h3, h4⟩ := x
  exact ⟨G', F', σ', h1, h.trans h2, h3, hq _ _ _ h4⟩
def EWp (P : Program) (N : Nat) (c : Code) (F : Frm) (σ : List Ob) (Q : Exit → Frm → List Ob → Prop) : Prop :=
  ∀ G a, S8 N G a F σ → c.wp P (liftE N G Q) a G.w
section
variable {P : Program} {N : Nat} {F : Frm} {σ : List Ob} {Q : Exit → Frm → List Ob → Prop}
end
section
variable {P : Program} {N : Nat} {F : Frm} {σ σ' : List Ob} {Q : Exit → Frm → List Ob → Prop} {ops : Array Oper} {o : Oper} {l : List Oper} {x : AV}
end
end Go.Proofs.Ytmhbfoaecebobaa.Aw
end
section
namespace Go.Proofs.Ytmhbfoaecebobaa.Aw
set_option linter.unusedSimpArgs false
set_option linter.unusedVariables false
open Go.RowKit
inductive Kd where
  | free
  | look (R : List Nat)
  | eff (W : List Nat)
def meets : List Nat → List Nat → Bool
  | [], _ => false
  | r :: R, W => W.any (fun w => Nat.beq r w) || meets R W
theorem meets_of {R W : List Nat} (h : meets R W = false) : ∀ r ∈ R, r ∉ W := by
  induction R with
  | nil => simp
  | cons a R ih =>
    simp only [meets, Bool.or_eq_false_iff] at h
    intro r hr hw
    rcases List.mem_cons.1 hr with rfl | hr
    · have h2 := List.any_eq_false.1 h.1 r hw
      simp at h2
    · exact ih h.2 r hr hw
def kdClash : Kd → Kd → Bool
  | .look R, .eff W => meets R W
  | .eff W, .look R => meets R W
  | .eff _, .eff _ => true
  | _, _ => false
def kPairs : Nat → List (Nat × Kd) → List Kd → List Nat → Bool
  | j, prev, k :: ks, m :: ms => (prev.all fun p => !(kdClash p.2 k) || m.testBit p.1) && kPairs (j + 1) (match k with | .free => prev | _ => (j, k) :: prev) ks ms
  | _, _, [], _ => true
  | _, _, _ :: _, [] => false
theorem kPairs_of : ∀ (ks : List Kd) (ms : List Nat) (j0 : Nat) (prev : List (Nat × Kd)), kPairs j0 prev ks ms = true →
    (∀ (j : Nat) b, ks[j]? = some b → ∀ p ∈ prev, kdClash p.2 b = true → (ms.getD j 0).testBit p.1 = true) ∧
    ∀ (i j : Nat) a b, i < j → ks[i]? = some a → ks[j]? = some b → kdClash a b = true → (ms.getD j 0).testBit (j0 + i) = true
  | [], ms, j0, prev, h => ⟨by simp, by simp⟩
  | k :: ks, [], j0, prev, h => by simp [kPairs] at h
  | k :: ks, m :: ms, j0, prev, h => by
    simp only [kPairs, Bool.and_eq_true] at h
    obtain ⟨h1, h2⟩ := h
    obtain ⟨h3, h4⟩ := kPairs_of ks ms (j0 + 1) _ h2
    refine ⟨fun j b hb p hp hc => ?_, fun i j a b hij ha hb hc => ?_⟩
    · cases j with
      | zero =>
        simp at hb
        subst hb
        have := List.all_eq_true.1 h1 p hp
        simpa [hc] using this
      | succ j =>
        have := h3 j b (by simpa using hb) p (by cases k <;> first | exact hp | exact List.mem_cons_of_mem _ hp) hc
        simpa using this
    · cases j with
      | zero => omega
      | succ j =>
        cases i with
        | zero =>
          simp at ha
          subst ha
          have := h3 j b (by simpa using hb) (j0, k) (by cases k <;> first | (cases b <;> simp [kdClash] at hc; done) | simp) hc
          simpa using this
        | succ i =>
          have := h4 i j a b (by omega) (by simpa using ha) (by simpa using hb) hc
          rw [show j0 + (i + 1) = j0 + 1 + i by omega]
          simpa using this
def sOk (l : List Oper) (N : Nat) : Bool := qOk l && l.all fun o => (o.looksAt l.toArray).all fun t => Nat.blt t N
def eOk (l : List Oper) (N : Nat) (ks : List Kd) : Bool := sOk l N && kPairs 0 [] ks (masks l [])
theorem kdClash_symm (a b : Kd) : kdClash a b = kdClash b a := by cases a <;> cases b <;> rfl
def ent (N : Nat) (o : Oper) (x : AV) : Nat × AV := match o.dst with
  | some d => (d, x)
  | none => (N, .any)
def dOk (N : Nat) (o : Oper) : Bool := match o.dst with
  | some d => Nat.blt d N
  | none => true
theorem ent_some {N : Nat} {o : Oper} {x : AV} {d : Nat} (h : o.dst = some d) : ent N o x = (d, x) := by unfold ent; rw [h]
theorem ent_none {N : Nat} {o : Oper} {x : AV} (h : o.dst = none) : ent N o x = (N, .any) := by unfold ent; rw [h]
theorem ent_at {N : Nat} {o : Oper} {x : AV} {t : Nat} (h : (ent N o x).1 = t) (ht : t < N) : o.dst = some t := by
  cases hd : o.dst with
  | none => rw [ent_none hd] at h; have h : N = t := h; exact absurd ht (by rw [h]; exact Nat.lt_irrefl _)
  | some d => rw [ent_some hd] at h; have h : d = t := h; rw [h]
theorem ent_top {N : Nat} {o : Oper} {x : AV} (h : (ent N o x).1 = N) (hk : dOk N o = true) : (ent N o x).2 = .any := by
  cases hd : o.dst with
  | none => rw [ent_none hd]
  | some d =>
    rw [ent_some hd] at h
    have h : d = N := h
    unfold dOk at hk
    rw [hd] at hk
    simp [h] at hk
theorem dOk_lt {N : Nat} {o : Oper} {d : Nat} (h : dOk N o = true) (hd : o.dst = some d) : d < N := by unfold dOk at h; rw [hd] at h; simpa [Nat.blt_eq] using h
inductive ESteps (P : Program) (N : Nat) (ops : Array Oper) : List Oper → Frm → List Ob → Frm → List Ob → List (Nat × AV) → List Kd → List (List Ob) → Prop
  | nil (F : Frm) (σ : List Ob) : ESteps P N ops [] F σ F σ [] [] []
  | free (o : Oper) (l : List Oper) (F F' : Frm) (σ σ' : List Ob) (x : AV) (out : List (Nat × AV)) (ks : List Kd) (sts : List (List Ob)) (hd : dOk N o = true) (hr : Runs ops F o true) (hD : ∀ σ, Does P o F σ x σ) (h : ESteps P N ops l (ent N o x :: F) σ F' σ' out ks sts) : ESteps P N ops (o :: l) F σ F' σ' (ent N o x :: out) (.free :: ks) (σ :: sts)
  | skip (o : Oper) (l : List Oper) (F F' : Frm) (σ σ' : List Ob) (out : List (Nat × AV)) (ks : List Kd) (sts : List (List Ob)) (hd : dOk N o = true) (hr : Runs ops F o false) (h : ESteps P N ops l (ent N o (.s undef) :: F) σ F' σ' out ks sts) : ESteps P N ops (o :: l) F σ F' σ' (ent N o (.s undef) :: out) (.free :: ks) (σ :: sts)
  | look (o : Oper) (l : List Oper) (F F' : Frm) (σ σ' : List Ob) (x : AV) (out : List (Nat × AV)) (ks : List Kd) (sts : List (List Ob)) (R : List Nat) (hd : dOk N o = true) (hr : Runs ops F o true) (hD : ∀ σ2, (∀ id ∈ R, σ2[id]? = σ[id]?) → Does P o F σ2 x σ2) (h : ESteps P N ops l (ent N o x :: F) σ F' σ' out ks sts) : ESteps P N ops (o :: l) F σ F' σ' (ent N o x :: out) (.look R :: ks) (σ :: sts)
  | eff (o : Oper) (l : List Oper) (F F' : Frm) (σ σ1 σ' : List Ob) (x : AV) (out : List (Nat × AV)) (ks : List Kd) (sts : List (List Ob)) (W : List Nat) (hd : dOk N o = true) (hr : Runs ops F o true) (hD : Does P o F σ x σ1) (hW : ∀ id, id ∉ W → σ1[id]? = σ[id]?) (h : ESteps P N ops l (ent N o x :: F) σ1 F' σ' out ks sts) : ESteps P N ops (o :: l) F σ F' σ' (ent N o x :: out) (.eff W :: ks) (σ :: sts)
def EAt (P : Program) (ops : Array Oper) (o : Oper) (F : Frm) (x : AV) (k : Option Kd) (s s1 : List Ob) : Prop :=
  (k = some .free ∧ s1 = s ∧ ((Runs ops F o true ∧ ∀ σ, Does P o F σ x σ) ∨ (Runs ops F o false ∧ x = .s undef))) ∨
  (∃ R, k = some (.look R) ∧ s1 = s ∧ Runs ops F o true ∧ ∀ σ2, (∀ id ∈ R, σ2[id]? = s[id]?) → Does P o F σ2 x σ2) ∨
  (∃ W, k = some (.eff W) ∧ Runs ops F o true ∧ Does P o F s x s1 ∧ ∀ id, id ∉ W → s1[id]? = s[id]?)
theorem esteps_at {P : Program} {N : Nat} {ops : Array Oper} : ∀ {l : List Oper} {F F' : Frm} {σ σ' : List Ob} {out : List (Nat × AV)} {ks : List Kd} {sts : List (List Ob)}, ESteps P N ops l F σ F' σ' out ks sts → l.length = out.length ∧ F' = out.reverse ++ F ∧ ks.length = l.length ∧ sts.length = l.length ∧ (sts ++ [σ']).getD 0 [] = σ ∧
    ∀ (i : Nat) o, l[i]? = some o → ∃ x, out[i]? = some (ent N o x) ∧ dOk N o = true ∧ EAt P ops o ((out.take i).reverse ++ F) x ks[i]? ((sts ++ [σ']).getD i []) ((sts ++ [σ']).getD (i + 1) []) := by
  intro l F F' σ σ' out ks sts h
  induction h with
  | nil F σ => exact ⟨rfl, rfl, rfl, rfl, rfl, by simp⟩
  | free o l F F' σ σ' x out ks sts hd hr hD h ih =>
    obtain ⟨h1, h2, h3, h4, h0, h5⟩ := ih
    refine ⟨by simp [h1], by simp [h2], by simp [h3], by simp [h4], rfl, fun i o' hi => ?_⟩
    cases i with
    | zero => simp at hi; subst hi; exact ⟨x, rfl, hd, .inl ⟨rfl, h0, .inl ⟨by simpa using hr, by simpa using hD⟩⟩⟩
    | succ i =>
      obtain ⟨x', g1, g2, g3⟩ := h5 i o' (by simpa using hi)
      exact ⟨x', by simpa using g1, g2, by simpa using g3⟩
  | skip o l F F' σ σ' out ks sts hd hr h ih =>
    obtain ⟨h1, h2, h3, h4, h0, h5⟩ := ih
    refine ⟨by simp [h1], by simp [h2], by simp [h3], by simp [h4], rfl, fun i o' hi => ?_⟩
    cases i with
    | zero => simp at hi; subst hi; exact ⟨.s undef, rfl, hd, .inl ⟨rfl, h0, .inr ⟨by simpa using hr, rfl⟩⟩⟩
    | succ i =>
      obtain ⟨x', g1, g2, g3⟩ := h5 i o' (by simpa using hi)
      exact ⟨x', by simpa using g1, g2, by simpa using g3⟩
  | look o l F F' σ σ' x out ks sts R hd hr hD h ih =>
    obtain ⟨h1, h2, h3, h4, h0, h5⟩ := ih
    refine ⟨by simp [h1], by simp [h2], by simp [h3], by simp [h4], rfl, fun i o' hi => ?_⟩
    cases i with
    | zero => simp at hi; subst hi; exact ⟨x, rfl, hd, .inr (.inl ⟨R, rfl, h0, by simpa using hr, by simpa using hD⟩)⟩
    | succ i =>
      obtain ⟨x', g1, g2, g3⟩ := h5 i o' (by simpa using hi)
      exact ⟨x', by simpa using g1, g2, by simpa using g3⟩
  | eff o l F F' σ σ1 σ' x out ks sts W hd hr hD hW h ih =>
    obtain ⟨h1, h2, h3, h4, h0, h5⟩ := ih
    refine ⟨by simp [h1], by simp [h2], by simp [h3], by simp [h4], rfl, fun i o' hi => ?_⟩
    cases i with
    | zero =>
      simp at hi; subst hi
      have e : ((σ :: sts) ++ [σ']).getD (0 + 1) [] = σ1 := h0
      refine ⟨x, rfl, hd, .inr (.inr ⟨W, rfl, by simpa using hr, ?_, ?_⟩)⟩
      · rw [e]; simpa using hD
      · rw [e]; exact hW
    | succ i =>
      obtain ⟨x', g1, g2, g3⟩ := h5 i o' (by simpa using hi)
      exact ⟨x', by simpa using g1, g2, by simpa using g3⟩
theorem fr_rep {G : Cx} {v : Value} {t : Nat} {sel : Nat → Bool} : ∀ (out : List (Nat × AV)) (k : Nat) (F : Frm), Rep G v (F.get t) → (∀ p ∈ out, p.1 = t → Rep G v p.2) → Rep G v ((fr sel k out F).get t)
  | [], k, F, h, _ => h
  | p :: out, k, F, h, hp => by
    refine fr_rep out (k + 1) _ ?_ (fun q hq => hp q (by simp [hq]))
    cases sel k with
    | false => exact h
    | true =>
      obtain ⟨d, x⟩ := p
      simp only [cond_true, Frm.get]
      cases e : Nat.beq d t with
      | true => exact hp (d, x) (by simp) (Nat.eq_of_beq_eq_true e)
      | false => exact h
def EDraw (P : Program) (N : Nat) (l : List Oper) (F : Frm) (σ : List Ob) (Q : Exit → Frm → List Ob → Prop) : Prop :=
  ∀ G a, S8 N G a F σ → wpAny P .any l.toArray (liftE N G Q) l.length (Array.replicate l.length false) a G.w
section
variable {P : Program} {N : Nat} {l : List Oper} {F F' : Frm} {σ : List Ob} {out : List (Nat × AV)} {Q : Exit → Frm → List Ob → Prop}
theorem egen_any {σ' : List Ob} {ks : List Kd} {sts : List (List Ob)} (hq : eOk l N ks = true) (hs : ESteps P N l.toArray l F σ F' σ' out ks sts) (hQ : Q .normal F' σ') (G0 : Cx) :
    ∀ (fuel : Nat) (L : Array Bool) (G : Cx) (a : Act) (m : Nat), G0.Ext G → L.size = l.length → left L.toList = fuel → Closed l (fun j => L.getD j false = true) → m ≤ l.length → (∀ j W, ks[j]? = some (.eff W) → (L.getD j false = true ↔ j < m)) → Rep G (a.tmps.getD N undef) (F.get N) → S8 N G a (fr (fun j => L.getD j false) 0 out F) ((sts ++ [σ']).getD m []) → wpAny P .any l.toArray (liftE N G0 Q) fuel L a G.w := by
  obtain ⟨hlen, hF', hkl, hsl, _, hat⟩ := esteps_at hs
  unfold eOk sOk at hq
  simp only [Bool.and_eq_true] at hq
  obtain ⟨⟨hq, hlk⟩, hkp⟩ := hq
  obtain ⟨_, hkp⟩ := kPairs_of _ _ _ _ hkp
  have hq2 : ∀ (i j : Nat) a b, i < j → ks[i]? = some a → ks[j]? = some b → kdClash a b = true → ((masks l []).getD j 0).testBit i = true := fun i j a b h1 h2 h3 h4 => by
    have := hkp i j a b h1 h2 h3 h4
    simpa using this
  have hlk' : ∀ (i : Nat) o, l[i]? = some o → ∀ t ∈ o.looksAt l.toArray, t < N := fun i o ho t ht => by
    have h1 := List.all_eq_true.1 hlk o (List.mem_of_getElem? ho)
    have h2 := List.all_eq_true.1 h1 t ht
    simpa [Nat.blt_eq] using h2
  unfold qOk at hq
  have hq' : ∀ j oj, l[j]? = some oj → (∀ e ∈ oj.after.toList, Region.binds .any e = true → e.on < j) ∧ ∀ i oi, i < j → l[i]? = some oi → clash l.toArray oi oj = true → ((masks l []).getD j 0).testBit i = true := by
    intro j oj hj
    have h1 := List.all_eq_true.1 hq j (by simpa using (List.getElem?_eq_some_iff.1 hj).1)
    rw [hj] at h1
    simp only [Bool.and_eq_true, List.all_eq_true] at h1
    refine ⟨fun e he hb => ?_, fun i oi hij hi hc => ?_⟩
    · have := h1.1 e he
      rw [hb] at this
      simpa [Nat.blt_eq] using this
    · have := h1.2 i (by simpa using hij)
      rw [hi] at this
      simpa [hc] using this
  have hsound : ∀ (D : Nat → Prop), Closed l D → ∀ j i, ((masks l []).getD j 0).testBit i = true → D j → D i := fun D hD => masks_sound hD l [] (fun j o h => by simpa using h) (fun j i h => by simp at h)
  have hnone : ∀ (L : Array Bool), L.size = l.length → Region.ready .any l.toArray L = [] → ∀ j, j < l.length → L.getD j false = true := by
    intro L hL hr j
    induction j using Nat.strongRecOn with
    | _ j ih =>
      intro hj
      cases hc : L.getD j false with
      | true => rfl
      | false =>
        exfalso
        obtain ⟨o, ho⟩ : ∃ o, l[j]? = some o := ⟨_, List.getElem?_eq_getElem hj⟩
        have hm : j ∈ Region.ready .any l.toArray L := by
          refine mem_ready.2 ⟨?_, o, by simpa using ho, fun e he hb => ?_⟩
          · have hlt : j < L.size := by omega
            simp [Array.getD_eq_getD_getElem?, hlt] at hc ⊢
            exact hc
          · have hon := (hq' j o ho).1 e (by simpa using he) hb
            exact ih e.on hon (by omega)
        rw [hr] at hm
        cases hm
  have hstepS : ∀ (j id : Nat), j < l.length → (∀ W, ks[j]? = some (.eff W) → id ∉ W) → ((sts ++ [σ']).getD (j + 1) [])[id]? = ((sts ++ [σ']).getD j [])[id]? := by
    intro j id hj hW
    obtain ⟨x, _, _, hc⟩ := hat j _ (List.getElem?_eq_getElem hj)
    rcases hc with ⟨_, g2, _⟩ | ⟨R, _, g2, _⟩ | ⟨W, g1, _, _, g4⟩
    · rw [g2]
    · rw [g2]
    · exact g4 id (hW W g1)
  have hstepN : ∀ (j : Nat), j < l.length → (∀ W, ks[j]? ≠ some (.eff W)) → (sts ++ [σ']).getD (j + 1) [] = (sts ++ [σ']).getD j [] := by
    intro j hj hW
    obtain ⟨x, _, _, hc⟩ := hat j _ (List.getElem?_eq_getElem hj)
    rcases hc with ⟨_, g2, _⟩ | ⟨R, _, g2, _⟩ | ⟨W, g1, _⟩
    · exact g2
    · exact g2
    · exact absurd g1 (hW W)
  have hlookS : ∀ (id k n : Nat), n + k ≤ l.length → (∀ j W, n ≤ j → j < n + k → ks[j]? = some (.eff W) → id ∉ W) → ((sts ++ [σ']).getD (n + k) [])[id]? = ((sts ++ [σ']).getD n [])[id]? := by
    intro id k n hnk h
    induction k with
    | zero => rfl
    | succ k ihk =>
      rw [← ihk (by omega) (fun j W h1 h2 => h j W h1 (by omega))]
      exact hstepS (n + k) id (by omega) (fun W hW => h (n + k) W (by omega) (by omega) hW)
  have hlooks : ∀ (id m n : Nat), m ≤ l.length → n ≤ l.length → (∀ j W, ks[j]? = some (.eff W) → ¬ (j < m ↔ j < n) → id ∉ W) → ((sts ++ [σ']).getD m [])[id]? = ((sts ++ [σ']).getD n [])[id]? := by
    intro id m n hm hn h
    rcases Nat.le_total m n with h1 | h1
    · obtain ⟨k, rfl⟩ := Nat.exists_eq_add_of_le h1
      exact (hlookS id k m hn (fun j W h2 h3 h4 => h j W h4 (by omega))).symm
    · obtain ⟨k, rfl⟩ := Nat.exists_eq_add_of_le h1
      exact hlookS id k n hm (fun j W h2 h3 h4 => h j W h4 (by omega))
  -- states without an effect between them are the same
  have hsame : ∀ (k n : Nat), n + k ≤ l.length → (∀ j W, n ≤ j → j < n + k → ks[j]? ≠ some (.eff W)) → (sts ++ [σ']).getD (n + k) [] = (sts ++ [σ']).getD n [] := by
    intro k n hnk h
    induction k with
    | zero => rfl
    | succ k ihk =>
      rw [← ihk (by omega) (fun j W h1 h2 => h j W h1 (by omega))]
      exact hstepN (n + k) (by omega) (fun W => h (n + k) W (by omega) (by omega))
  have hbetween : ∀ (m n : Nat), m ≤ l.length → n ≤ l.length → (∀ j W, ks[j]? = some (.eff W) → (j < m ↔ j < n)) → (sts ++ [σ']).getD m [] = (sts ++ [σ']).getD n [] := by
    intro m n hm hn h
    rcases Nat.le_total m n with h1 | h1
    · obtain ⟨k, rfl⟩ := Nat.exists_eq_add_of_le h1
      exact (hsame k m hn (fun j W h2 h3 h4 => by have := h j W h4; omega)).symm
    · obtain ⟨k, rfl⟩ := Nat.exists_eq_add_of_le h1
      exact hsame k n hm (fun j W h2 h3 h4 => by have := h j W h4; omega)
  -- when all have come up
  have hend : ∀ (L : Array Bool) (G : Cx) (a : Act) (m : Nat), G0.Ext G → L.size = l.length → Region.ready .any l.toArray L = [] → m ≤ l.length → (∀ j W, ks[j]? = some (.eff W) → (L.getD j false = true ↔ j < m)) → S8 N G a (fr (fun j => L.getD j false) 0 out F) ((sts ++ [σ']).getD m []) → liftE N G0 Q .normal a G.w := by
    intro L G a m hst hL hr hml hm h8
    have e1 : (sts ++ [σ']).getD m [] = σ' := by
      rw [hbetween m l.length hml (Nat.le_refl _) (fun j W hj => by
        have hjl : j < l.length := by rw [← hkl]; exact (List.getElem?_eq_some_iff.1 hj).1
        have := (hm j W hj).1 (hnone L hL hr j hjl)
        exact ⟨fun _ => hjl, fun _ => this⟩)]
      simp [List.getD, ← hsl]
    rw [e1] at h8
    refine ⟨G, F', σ', rfl, hst, ⟨h8.rel, fun t => ?_, h8.df, h8.nt⟩, hQ⟩
    have h1 := h8.fr t
    have h2 : (fr (fun j => L.getD j false) 0 out F).get t = (fr (fun j => decide (j < 0 + out.length)) 0 out F).get t := fr_congr out 0 F F rfl (fun j p hp _ => by
      have hj : j < out.length := (List.getElem?_eq_some_iff.1 hp).1
      simp only [Nat.zero_add]
      rw [hnone L hL hr j (by omega)]
      simp [hj])
    rw [h2, fr_pre, List.take_length, ← hF'] at h1
    exact h1
  intro fuel
  induction fuel with
  | zero =>
    intro L G a m hst hL hlf hcl hml hm _ h8
    have hr : Region.ready .any l.toArray L = [] := by
      rw [List.eq_nil_iff_forall_not_mem]
      intro i hi
      obtain ⟨h1, o, ho, _⟩ := mem_ready.1 hi
      have hlt : i < L.size := by rw [hL]; simpa using (Array.getElem?_eq_some_iff.1 ho).1
      have : 0 < left L.toList := left_pos i (by simp [Array.getD_eq_getD_getElem?, hlt] at h1 ⊢; exact h1)
      omega
    exact ⟨hr, hend L G a m hst hL hr hml hm h8⟩
  | succ fuel ih =>
    intro L G a m hst hL hlf hcl hml hm hNr h8
    refine ⟨fun hr => hend L G a m hst hL hr hml hm h8, fun i hi => ?_⟩
    obtain ⟨h1, o, ho, hall⟩ := mem_ready.1 hi
    have hli : l[i]? = some o := by simpa using ho
    have hlt : i < L.size := by rw [hL]; exact (List.getElem?_eq_some_iff.1 hli).1
    have hfalse : L.getD i false = false := by simp [Array.getD_eq_getD_getElem?, hlt] at h1 ⊢; exact h1
    obtain ⟨x, g1, g2, g4⟩ := hat i o hli
    -- the others that touch its slots: those before it have come up, those behind it have not
    have hcl' : Closed l (fun j => j = i ∨ L.getD j false = true) := by
      intro j oj hj hD e he hb
      rcases hD with rfl | hD
      · rw [hli] at hj; cases hj
        exact .inr (hall e (by simpa using he) hb)
      · exact .inr (hcl j oj hj hD e he hb)
    have hord : ∀ j oj, l[j]? = some oj → j ≠ i → (j < i → clash l.toArray oj o = true → L.getD j false = true) ∧ (i < j → clash l.toArray o oj = true → L.getD j false = false) := by
      intro j oj hj hne
      refine ⟨fun hji hc => ?_, fun hij hc => ?_⟩
      · rcases hsound _ hcl' i j ((hq' i o hli).2 j oj hji hj hc) (.inl rfl) with h | h
        · exact absurd h hne
        · exact h
      · cases hx : L.getD j false with
        | false => rfl
        | true =>
          have := hsound _ hcl j i ((hq' j oj hj).2 i o hij hli hc) hx
          rw [hfalse] at this
          cases this
    have hsel : ∀ t, t ∈ o.looksAt l.toArray → Frm.get ((out.take i).reverse ++ F) t = (fr (fun j => L.getD j false) 0 out F).get t := by
      intro t ht
      rw [← fr_pre out 0 i F]
      refine (fr_congr out 0 F F rfl (fun j p hp hpt => ?_)).symm
      simp only [Nat.zero_add]
      have hj : j < l.length := by rw [hlen]; exact (List.getElem?_eq_some_iff.1 hp).1
      obtain ⟨x', k1, _, _⟩ := hat j _ (List.getElem?_eq_getElem hj)
      rw [k1] at hp
      cases hp
      have htN := hlk' i o hli t ht
      have k2 : l[j].dst = some t := ent_at hpt htN
      by_cases hji : j = i
      · subst hji; rw [hfalse]; simp
      · rcases Nat.lt_or_gt_of_ne hji with h | h
        · rw [(hord j _ (List.getElem?_eq_getElem hj) hji).1 h (clash_of.1 k2 ht)]; simp [h]
        · rw [(hord j _ (List.getElem?_eq_getElem hj) hji).2 h (clash_of.2.2 k2 ht)]; simp; omega
    -- what is known behind it
    have hnext : ∀ (m' : Nat), m' ≤ l.length → (∀ j W, ks[j]? = some (.eff W) → ((L.setIfInBounds i true).getD j false = true ↔ j < m')) → ∀ (G' : Cx) (v : Value), G.Ext G' → Rel G' ((sts ++ [σ']).getD m' []) → Rep G' v x → wpAny P .any l.toArray (liftE N G0 Q) fuel (L.setIfInBounds i true) (a.put o.dst v) G'.w := by
      intro m' hm'l hm' G' v he hr' hv
      refine ih _ G' _ m' (hst.trans he) (by simpa using hL) ?_ ?_ hm'l hm' ?_ ⟨hr', fun t => ?_, by cases o.dst <;> exact h8.df, by cases o.dst <;> simp [Act.put, h8.nt]⟩
      · have := left_set L.toList i (by simp [Array.getD_eq_getD_getElem?, hlt] at hfalse ⊢; exact hfalse)
        rw [Array.toList_setIfInBounds]; omega
      · intro j oj hj hD e he2 hb
        have key : ∀ k, (L.setIfInBounds i true).getD k false = true ↔ (k = i ∨ L.getD k false = true) := fun k => by
          by_cases hk : i = k
          · subst hk; simp [Array.getD_eq_getD_getElem?, hlt]
          · simp [Array.getD_eq_getD_getElem?, Array.getElem?_setIfInBounds, hk, Ne.symm hk]
        rw [key] at hD ⊢
        exact hcl' j oj hj hD e he2 hb
      · cases ho2 : o.dst with
        | none => exact hNr.ext he
        | some d =>
          have hd := dOk_lt g2 ho2
          have : d ≠ N := Nat.ne_of_lt hd
          have h1 : (a.put (some d) v).tmps.getD N undef = a.tmps.getD N undef := by simp [Act.put, Array.getD_eq_getD_getElem?, Array.getElem?_setIfInBounds, this]
          rw [h1]; exact hNr.ext he
      · have hselL : ∀ k, k ≠ i → (L.setIfInBounds i true).getD k false = L.getD k false := fun k hk => by
          simp [Array.getD_eq_getD_getElem?, Array.getElem?_setIfInBounds, Ne.symm hk]
        by_cases hte : t = (ent N o x).1
        · cases ho2 : o.dst with
          | none =>
            rw [ent_none ho2] at hte
            have hte : t = N := hte
            rw [hte]
            refine fr_rep out 0 F (hNr.ext he) (fun p hp hpt => ?_)
            obtain ⟨j, hj, rfl⟩ := List.mem_iff_getElem.1 hp
            obtain ⟨x', k1, k2, _⟩ := hat j l[j] (List.getElem?_eq_getElem (by omega))
            have k3 : out[j] = ent N l[j] x' := by rw [List.getElem?_eq_getElem hj] at k1; exact Option.some.inj k1
            rw [k3] at hpt ⊢
            rw [ent_top hpt k2]
            exact .any _
          | some d =>
            rw [ent_some ho2] at hte g1
            dsimp only at hte
            subst hte
            have h2 : (fr (fun j => (L.setIfInBounds i true).getD j false) 0 out F).get t = x := fr_last out 0 F i g1 (by simp [Array.getD_eq_getD_getElem?, hlt]) (fun j p hp hij hc hpt => by
              simp only [Nat.zero_add] at hc
              rw [hselL j (by omega)] at hc
              have hj : j < l.length := by rw [hlen]; exact (List.getElem?_eq_some_iff.1 hp).1
              obtain ⟨x', k1, _, _⟩ := hat j _ (List.getElem?_eq_getElem hj)
              rw [k1] at hp
              cases hp
              have htN := dOk_lt g2 ho2
              have k2 : l[j].dst = some t := ent_at hpt htN
              have := (hord j _ (List.getElem?_eq_getElem hj) (by omega)).2 hij (clash_of.2.1 ho2 k2)
              rw [this] at hc
              cases hc)
            rw [h2]
            have : t < a.tmps.size := by rw [h8.nt]; exact dOk_lt g2 ho2
            simpa [Act.put, Array.getD_eq_getD_getElem?, this] using hv
        · have h2 : (fr (fun j => (L.setIfInBounds i true).getD j false) 0 out F).get t = (fr (fun j => L.getD j false) 0 out F).get t := fr_congr out 0 F F rfl (fun j p hp hpt => by
            simp only [Nat.zero_add]
            refine hselL j (fun e => ?_)
            subst e
            rw [g1] at hp
            cases hp
            exact hte hpt.symm)
          rw [h2]
          have h3 := (h8.fr t).ext he
          cases ho2 : o.dst with
          | none => exact h3
          | some d =>
            rw [ent_some ho2] at hte
            have hte : t ≠ d := hte
            simpa [Act.put, Array.getD_eq_getD_getElem?, Array.getElem?_setIfInBounds, Ne.symm hte] using h3
    have hset : ∀ j, j ≠ i → ((L.setIfInBounds i true).getD j false = true ↔ L.getD j false = true) := fun j hj => by
      simp [Array.getD_eq_getD_getElem?, Array.getElem?_setIfInBounds, Ne.symm hj]
    have hseti : (L.setIfInBounds i true).getD i false = true := by simp [Array.getD_eq_getD_getElem?, hlt]
    have hil : i < l.length := (List.getElem?_eq_some_iff.1 hli).1
    have hkeep : (∀ W, ks[i]? ≠ some (.eff W)) → ∀ j W, ks[j]? = some (.eff W) → ((L.setIfInBounds i true).getD j false = true ↔ j < m) := fun hne j W hj => by
      have : j ≠ i := fun e => hne W (e ▸ hj)
      rw [hset j this]; exact hm j W hj
    -- an effect that is on the other side in the list is one that it does not meet
    have hside : ∀ b, ks[i]? = some b → ∀ j W, ks[j]? = some (.eff W) → kdClash b (.eff W) = true → (j < m ↔ j < i) := fun b hb j W hj hcl2 => by
      have hjl : j < l.length := by rw [← hkl]; exact (List.getElem?_eq_some_iff.1 hj).1
      rw [← hm j W hj]
      rcases Nat.lt_trichotomy j i with h | h | h
      · have h3 := hq2 j i (.eff W) b h hj hb (by rw [kdClash_symm]; exact hcl2)
        rcases hsound _ hcl' i j h3 (.inl rfl) with h4 | h4
        · omega
        · simp [h, h4]
      · subst h; rw [hfalse]; simp
      · have h3 := hq2 i j b (.eff W) h hb hj hcl2
        constructor
        · intro h4
          have := hsound _ hcl j i h3 h4
          rw [hfalse] at this; cases this
        · intro h4; omega
    unfold wpOp
    simp only [ho]
    rcases g4 with ⟨k0, ks0, ⟨k1, k2⟩ | ⟨k1, rfl⟩⟩ | ⟨R, k0, ks0, k1, k2⟩ | ⟨W0, k0, k1, k2, _⟩
    · rw [if_pos ((k1.congr hsel).wanted h8.fr)]
      left
      refine ((k2 _).congr hsel) G a _ _ h8.rel (fun y _ => rep_eval h8.fr y) (fun v G' he hr' hv => ?_)
      exact hnext m hml (hkeep (by rw [k0]; simp)) G' v he hr' hv
    · rw [if_neg (by rw [(k1.congr hsel).wanted h8.fr]; simp)]
      exact hnext m hml (hkeep (by rw [k0]; simp)) G undef (.refl G) h8.rel (.s _)
    · rw [if_pos ((k1.congr hsel).wanted h8.fr)]
      left
      have hlooked : ∀ id ∈ R, ((sts ++ [σ']).getD m [])[id]? = ((sts ++ [σ']).getD i [])[id]? := fun id hid =>
        hlooks id m i hml (Nat.le_of_lt hil) (fun j W hj hne => by
          cases hc : kdClash (.look R) (.eff W) with
          | true => exact absurd (hside _ k0 j W hj hc) hne
          | false => exact meets_of hc id hid)
      refine ((k2 _ hlooked).congr hsel) G a _ _ h8.rel (fun y _ => rep_eval h8.fr y) (fun v G' he hr' hv => ?_)
      exact hnext m hml (hkeep (by rw [k0]; simp)) G' v he hr' hv
    · rw [if_pos ((k1.congr hsel).wanted h8.fr)]
      left
      have hef : ∀ j W, ks[j]? = some (.eff W) → (j < m ↔ j < i) := fun j W hj => hside _ k0 j W hj rfl
      have e1 := hbetween m i hml (Nat.le_of_lt hil) hef
      have h8r := h8.rel
      rw [e1] at h8r
      refine (k2.congr hsel) G a _ _ h8r (fun y _ => rep_eval h8.fr y) (fun v G' he hr' hv => ?_)
      refine hnext (i + 1) hil (fun j W hj => ?_) G' v he hr' hv
      by_cases hji : j = i
      · subst hji; rw [hseti]; simp
      · rw [hset j hji, hm j W hj, hef j W hj]; omega
theorem edraw_steps {σ' : List Ob} {ks : List Kd} {sts : List (List Ob)} (hs : ESteps P N l.toArray l F σ F' σ' out ks sts) (hq : eOk l N ks = true) (hQ : Q .normal F' σ') : EDraw P N l F σ Q := fun G a h8 => by
  have hno : ∀ j, (Array.replicate l.length false).getD j false = false := fun j => by
    simp only [Array.getD_eq_getD_getElem?, Array.getElem?_replicate]
    split <;> rfl
  have h3 : ∀ (out : List (Nat × AV)) (k : Nat) (F : Frm), fr (fun j => (Array.replicate l.length false).getD j false) k out F = F := by
    intro out
    induction out with
    | nil => intro k F; rfl
    | cons p out ih =>
      intro k F
      have := hno k
      simp only [fr, this, cond_false]
      exact ih _ _
  refine egen_any hq hs hQ G l.length _ G a 0 (.refl G) (by simp) (by simp [left_rep]) ?_ (Nat.zero_le _) ?_ (h8.fr N) ?_
  · intro j o hj hD
    rw [hno] at hD
    cases hD
  · intro j W hj
    rw [hno]; simp
  · rw [h3, (esteps_at hs).2.2.2.2.1]; exact h8
theorem ew_draw {id : Nat} (hm : P.follows .mixedOrders = true) (h : EDraw P N l F σ Q) : EWp P N (.region id l.toArray true) F σ Q := fun G a hs => by
  refine wp_region_any hm ?_
  have he := drew_ext G
  have h1 := h _ a (hs.step he (drew_rel hs.rel))
  exact wpAny_mono (fun e a w q => liftE_mono he (fun _ _ _ x => x) q) _ _ _ _ (by simpa using h1)
end
section
variable {P : Program} {N : Nat} {l : List Oper} {F F' : Frm} {σ : List Ob} {out : List (Nat × AV)} {Q : Exit → Frm → List Ob → Prop}
end
end Go.Proofs.Ytmhbfoaecebobaa.Aw
end
section
namespace Go.Proofs.Ytmhbfoaecebobaa.Aw
set_option linter.unusedSimpArgs false
set_option linter.unusedVariables false
inductive Tri (α : Type) where
  | nil
  | node (v : Option α) (l r : Tri α)
namespace Tri
variable {α : Type}
def get : Tri α → Nat → Option α
  | .nil, _ => none
  | .node v l r, i => bif Nat.beq i 0 then v else bif Nat.beq (i % 2) 1 then get l (i / 2) else get r (i / 2 - 1)
def set : Nat → Tri α → Nat → α → Tri α
  | 0, t, _, _ => t
  | f + 1, .nil, i, x => bif Nat.beq i 0 then .node (some x) .nil .nil else bif Nat.beq (i % 2) 1 then .node none (set f .nil (i / 2) x) .nil else .node none .nil (set f .nil (i / 2 - 1) x)
  | f + 1, .node v l r, i, x => bif Nat.beq i 0 then .node (some x) l r else bif Nat.beq (i % 2) 1 then .node v (set f l (i / 2) x) r else .node v l (set f r (i / 2 - 1) x)
theorem beq_t {a b : Nat} (h : a = b) : Nat.beq a b = true := by subst h; simp
theorem beq_f {a b : Nat} (h : a ≠ b) : Nat.beq a b = false := by
  cases hb : Nat.beq a b with
  | false => rfl
  | true => exact absurd (Nat.eq_of_beq_eq_true hb) h
theorem get_set : ∀ (f : Nat) (t : Tri α) (i j : Nat) (x : α), i < f → get (set f t i x) j = if j = i then some x else get t j
  | 0, t, i, j, x, h => by omega
  | f + 1, .nil, i, j, x, h => by
    have key : ∀ k, get (.nil : Tri α) k = none := fun _ => rfl
    unfold set
    by_cases hi : i = 0
    · subst hi
      rw [beq_t rfl, cond_true]
      by_cases hj : j = 0
      · subst hj; simp [get]
      · simp only [get, beq_f hj, cond_false, if_neg hj]; cases Nat.beq (j % 2) 1 <;> rfl
    · rw [beq_f hi, cond_false]
      by_cases hp : i % 2 = 1
      · rw [beq_t hp, cond_true]
        by_cases hj : j = 0
        · subst hj; rw [if_neg (Ne.symm hi)]; rfl
        · simp only [get, beq_f hj, cond_false]
          by_cases hq : j % 2 = 1
          · rw [beq_t hq, cond_true, get_set f .nil (i / 2) (j / 2) x (by omega)]
            by_cases e : j = i
            · subst e; simp
            · rw [if_neg e, if_neg (by omega)]; rfl
          · rw [beq_f hq, cond_false, if_neg (by intro e; subst e; exact hq hp)]
      · rw [beq_f hp, cond_false]
        by_cases hj : j = 0
        · subst hj; rw [if_neg (Ne.symm hi)]; rfl
        · simp only [get, beq_f hj, cond_false]
          by_cases hq : j % 2 = 1
          · rw [beq_t hq, cond_true, if_neg (by intro e; subst e; exact hp hq)]
          · rw [beq_f hq, cond_false, get_set f .nil (i / 2 - 1) (j / 2 - 1) x (by omega)]
            by_cases e : j = i
            · subst e; simp
            · rw [if_neg e, if_neg (by omega)]; rfl
  | f + 1, .node v l r, i, j, x, h => by
    unfold set
    by_cases hi : i = 0
    · subst hi
      rw [beq_t rfl, cond_true]
      by_cases hj : j = 0
      · subst hj; simp [get]
      · simp only [get, beq_f hj, cond_false, if_neg hj]
    · rw [beq_f hi, cond_false]
      by_cases hp : i % 2 = 1
      · rw [beq_t hp, cond_true]
        by_cases hj : j = 0
        · subst hj; rw [if_neg (Ne.symm hi)]; rfl
        · simp only [get, beq_f hj, cond_false]
          by_cases hq : j % 2 = 1
          · rw [beq_t hq, cond_true, get_set f l (i / 2) (j / 2) x (by omega)]
            by_cases e : j = i
            · subst e; simp
            · rw [if_neg e, if_neg (by omega)]; rfl
          · rw [beq_f hq, cond_false, if_neg (by intro e; subst e; exact hq hp)]
            rfl
      · rw [beq_f hp, cond_false]
        by_cases hj : j = 0
        · subst hj; rw [if_neg (Ne.symm hi)]; rfl
        · simp only [get, beq_f hj, cond_false]
          by_cases hq : j % 2 = 1
          · rw [beq_t hq, cond_true, if_neg (by intro e; subst e; exact hp hq)]
            rfl
          · rw [beq_f hq, cond_false, get_set f r (i / 2 - 1) (j / 2 - 1) x (by omega)]
            by_cases e : j = i
            · subst e; simp
            · rw [if_neg e, if_neg (by omega)]; rfl
end Tri
structure Sto where
  len : Nat
  t : Tri Ob
namespace Sto
def at_ (s : Sto) (i : Nat) : Ob := match s.t.get i with | some x => x | none => .dead
def abs (s : Sto) : List Ob := (List.range s.len).map s.at_
def get (s : Sto) (i : Nat) : Option Ob := bif Nat.blt i s.len then some (s.at_ i) else none
def set (s : Sto) (i : Nat) (x : Ob) : Sto := ⟨s.len, s.t.set (i + 1) i x⟩
def push (s : Sto) (x : Ob) : Sto := ⟨s.len + 1, s.t.set (s.len + 1) s.len x⟩
def take (s : Sto) (k : Nat) : Sto := bif Nat.ble k s.len then ⟨k, s.t⟩ else s
def nil : Sto := ⟨0, .nil⟩
end Sto
abbrev FT := Tri AV
def fget (t : FT) (d : Nat) : AV := match t.get d with | some x => x | none => .any
def fset (t : FT) (d : Nat) (x : AV) : FT := t.set (d + 1) d x
theorem fget_set (t : FT) (d e : Nat) (x : AV) : fget (fset t d x) e = if e = d then x else fget t e := by
  unfold fget fset
  rw [Tri.get_set _ _ _ _ _ (Nat.lt_succ_self d)]
  by_cases h : e = d
  · rw [if_pos h, if_pos h]
  · rw [if_neg h, if_neg h]
def FEq (F : Frm) (t : FT) : Prop := ∀ d, F.get d = fget t d
theorem FEq.put {F : Frm} {t : FT} (h : FEq F t) (d : Nat) (x : AV) : FEq ((d, x) :: F) (fset t d x) := fun e => by
  rw [fget_set]
  simp only [Frm.get]
  by_cases he : e = d
  · subst he; simp
  · rw [if_neg he, Tri.beq_f (Ne.symm he), cond_false]; exact h e
end Go.Proofs.Ytmhbfoaecebobaa.Aw
end
section
namespace Go.Proofs.Ytmhbfoaecebobaa.Aw
set_option linter.unusedSimpArgs false
set_option linter.unusedVariables false
open Go Go.RowKit
section
variable {P : Program} {o : Oper} {F : Frm} {σ : List Ob}
theorem does_shift {b : BinOp} {t t' : TypeId} {x y : Operand} {k k' : IntKind} {m n c : Int} (ho : o.op = .binOp b t x y t') (hx : F.eval x = .s (.int k m)) (hy : F.eval y = .s (.int k' n)) (h0 : 0 ≤ n)
    (hw : (b = .shr ∧ m.fdiv (2 ^ min n.toNat k.bits) = c) ∨ (b = .shl ∧ k.wrap (m * 2 ^ min n.toNat k.bits) = c)) : Does P o F σ (.s (.int k c)) σ :=
  does_bin ho hx hy fun w => by
    have hn : ¬ (n < 0) := by omega
    have hg : (eqGuard b t x y (.int k m) (.int k' n)).run P w = .ok () w := by
      unfold eqGuard
      rcases hw with ⟨rfl, _⟩ | ⟨rfl, _⟩ <;> rfl
    rw [Sem.run_bind, hg, Result.andThen_ok]
    rcases hw with ⟨rfl, rfl⟩ | ⟨rfl, rfl⟩ <;> simp [binOp, Op.shift, hn]
theorem does_neqb {t t' : TypeId} {x y : Operand} {a b : Bool} (ht : P.underlying t = some .bool) (ho : o.op = .binOp .neq t x y t') (hx : F.eval x = .s (.bool a)) (hy : F.eval y = .s (.bool b)) : Does P o F σ (.s (.bool (!(a == b)))) σ :=
  does_bin ho hx hy fun w => by
    have h1 : ∀ d, (Op.equalIn (d + 1) t (.bool a) (.bool b)).run P w = .ok (a == b) w := fun d => by simp [Op.equalIn, run_underlying ht]
    have h2 : (Op.equal t (.bool a) (.bool b)).run P w = .ok (a == b) w := h1 9999
    have h3 : (binOp .neq t (.bool a) (.bool b) : Sem Value) = (do pure (.bool (!(← Op.equal t (.bool a) (.bool b))))) := rfl
    rw [Sem.run_bind, show (eqGuard .neq t x y (.bool a) (.bool b)).run P w = .ok () w from rfl, Result.andThen_ok, h3, Sem.run_bind, h2]
    rfl
inductive NonNil : AV → Prop
  | own (id sz n : Nat) (h : 0 < n) : NonNil (.own id sz n)
  | sub (id sz k n : Nat) (h : 0 < n) : NonNil (.sub id sz k n)
  | sl (x : AV) (l : List AV) : NonNil (.sl (x :: l))
theorem nonNil_rep {G : Cx} {x : AV} {v : Value} (h : NonNil x) (hv : Rep G v x) : ∃ a n c, v = .slice (some a) n c := by
  cases h with
  | own id sz n h =>
    cases hv with
    | own0 => omega
    | own => exact ⟨_, _, _, rfl⟩
  | sub id sz k n h => cases hv with | sub _ _ _ _ b cap A hm hA _ => rw [hA h]; exact ⟨_, _, _, rfl⟩
  | sl x l => cases hv with | sl => exact ⟨_, _, _, rfl⟩
theorem run_nil_cmp {P : Program} {t e : TypeId} (ht : tySlice P t = some e) (x y : Operand) (A : Option Addr) (n c : Nat) (b : BinOp) (w : World) {r : Bool} (hr : (b = .eql ∧ r = A.isNone) ∨ (b = .neq ∧ r = !A.isNone)) : (do eqGuard b t x y (.slice A n c) (.slice none 0 0); binOp b t (.slice A n c) (.slice none 0 0) : Sem Value).run P w = .ok (.bool r) w := by
  have hg : (eqGuard b t x y (.slice A n c) (.slice none 0 0)).run P w = .ok () w := by
    unfold eqGuard
    rcases hr with ⟨rfl, _⟩ | ⟨rfl, _⟩ <;> rfl
  have he : (Op.equal t (.slice A n c) (.slice none 0 0)).run P w = .ok A.isNone w := by
    have key : ∀ d, (Op.equalIn (d + 1) t (.slice A n c) (.slice none 0 0)).run P w = .ok A.isNone w := fun d => by
      unfold Op.equalIn
      cases A <;> simp [run_underlying (slice_of ht)]
    exact key 9999
  rw [Sem.run_bind, hg, Result.andThen_ok]
  rcases hr with ⟨rfl, rfl⟩ | ⟨rfl, rfl⟩ <;> simp [binOp, he]
theorem does_eqnil {t t' e : TypeId} {x y : Operand} {u : AV} {b : BinOp} {r : Bool} (ho : o.op = .binOp b t x y t') (ht : tySlice P t = some e) (hx : F.eval x = u) (hu : NonNil u) (hy : F.eval y = .s (.slice none 0 0)) (hr : (b = .eql ∧ r = false) ∨ (b = .neq ∧ r = true)) : Does P o F σ (.s (.bool r)) σ :=
  does_val fun G ρ hrl hop => by
    have h1 := hop x (by simp [ho, Op.operands])
    have h2 := hop y (by simp [ho, Op.operands])
    rw [hx] at h1
    rw [hy] at h2
    obtain ⟨a, n, c, hv⟩ := nonNil_rep hu h1
    refine ⟨_, ?_, .s _⟩
    have h3 := run_nil_cmp (P := P) ht x y (some a) n c b G.w (r := r) (by simpa using hr)
    simp only [execOp, ho, hv, rep_s h2, Sem.run_bind] at h3 ⊢
    rw [h3]
    rfl
end
end Go.Proofs.Ytmhbfoaecebobaa.Aw
end
section
namespace Go.Proofs.Ytmhbfoaecebobaa.Aw
set_option linter.unusedSimpArgs false
set_option linter.unusedVariables false
open Go.RowKit
section
variable {P : Program} {o : Oper} {F : Frm} {σ : List Ob}
theorem does_len_sub {t e : TypeId} {x : Operand} {id sz q n : Nat} (ho : o.op = .call { callee := .builtin .len, args := #[x], argTypes := #[t] }) (ht : tySlice P t = some e) (hx : F.eval x = .sub id sz q n) : Does P o F σ (.s (.int .i64 (n : Nat))) σ :=
  does_val fun G ρ hr hop => by
    have h1 := hop x (by simp [ho, Op.operands, Call.operands])
    rw [hx] at h1
    generalize hv : ρ x = v at h1
    cases h1 with
    | sub _ _ _ _ b cap A hm hA _ => exact ⟨_, run_len_slice ht ho ρ _ _ _ hv _, .s _⟩
theorem does_index_sub {t e : TypeId} {x y : Operand} {z : Option Value} {sz bt : Nat} {id q m : Nat} {kd : IntKind} {n : Int} {k : Nat} (ho : o.op = .indexAddr t x y) (ht : tySlice P t = some e) (he : tyInfo P e = some (z, sz, bt))
    (hx : F.eval x = .sub id sz q m) (hy : F.eval y = .s (.int kd n)) (hk : n = (k : Int)) (hu : k < m) : Does P o F σ (.ptr id sz (q + k) 0) σ :=
  does_val fun G ρ hr hop => by
    have h1 := hop x (by simp [ho, Op.operands])
    have h2 := hop y (by simp [ho, Op.operands])
    rw [hx] at h1
    rw [hy] at h2
    have hyv := rep_s h2
    subst hk
    generalize hv : ρ x = v at h1
    cases h1 with
    | sub _ _ _ _ b cap A hm hA _ =>
      have hA := hA (by omega)
      subst hA
      refine ⟨.pointer (some ⟨b, (q + k) * sz + 0, none⟩), ?_, .ptr id sz (q + k) 0 b hm⟩
      simp only [execOp, ho, hv, hyv, Sem.run_bind, run_indexAt ht he b _ m cap kd (k : Int) (by omega) (by omega), Result.andThen_ok, Sem.run_pure, Int.toNat_natCast, Nat.add_zero, Nat.add_mul]
end
end Go.Proofs.Ytmhbfoaecebobaa.Aw
end
section
namespace Go.Proofs.Ytmhbfoaecebobaa.Aw
set_option linter.unusedSimpArgs false
set_option linter.unusedVariables false
open Go.RowKit
abbrev ER := AV × Sto × Kd
inductive OpOk (P : Program) (o : Oper) (F : Frm) (s : Sto) : ER → Prop
  | free (x : AV) (h : ∀ σ, Does P o F σ x σ) : OpOk P o F s (x, s, .free)
  | look (x : AV) (R : List Nat) (h : ∀ σ2, (∀ id ∈ R, σ2[id]? = s.abs[id]?) → Does P o F σ2 x σ2) : OpOk P o F s (x, s, .look R)
  | eff (x : AV) (s1 : Sto) (W : List Nat) (h : Does P o F s.abs x s1.abs) (hW : ∀ id, id ∉ W → s1.abs[id]? = s.abs[id]?) : OpOk P o F s (x, s1, .eff W)
theorem OpOk.does {P : Program} {o : Oper} {F : Frm} {s s' : Sto} {x : AV} {k : Kd} (h : OpOk P o F s (x, s', k)) : Does P o F s.abs x s'.abs := by
  cases h with
  | free _ h => exact h s.abs
  | look _ R h => exact h s.abs (fun _ _ => rfl)
  | eff _ _ _ h => exact h
section
variable {P : Program} {o : Oper} {F : Frm} {σ : List Ob}
end
end Go.Proofs.Ytmhbfoaecebobaa.Aw
end
section
namespace Go.Proofs.Ytmhbfoaecebobaa.Aw
set_option linter.unusedSimpArgs false
set_option linter.unusedVariables false
open Go.RowKit
section
variable {P : Program} {o : Oper} {F : Frm} {σ : List Ob} {s : Sto}
theorem set_other {σ : List Ob} {i id : Nat} {ob : Ob} (h : id ∉ [i]) : (σ.set i ob)[id]? = σ[id]? := by
  rw [List.getElem?_set_ne]; intro e; exact h (by simp [e])
theorem app_other {σ : List Ob} {id : Nat} {ob : Ob} (h : id ∉ [σ.length]) : (σ ++ [ob])[id]? = σ[id]? := by
  by_cases hl : id < σ.length
  · rw [List.getElem?_append_left hl]
  · have hne : id ≠ σ.length := by simpa using h
    rw [List.getElem?_eq_none (by simp; omega), List.getElem?_eq_none (by omega)]
end
end Go.Proofs.Ytmhbfoaecebobaa.Aw
end
section
namespace Go.Proofs.Ytmhbfoaecebobaa.Aw
set_option linter.unusedSimpArgs false
set_option linter.unusedVariables false
open Go.RowKit
section
variable {P : Program} {N : Nat} {F : Frm} {σ : List Ob} {Q : Exit → Frm → List Ob → Prop} {ops : Array Oper} {o : Oper} {l : List Oper} {d : Nat}
theorem ops_opP {p : Prop} [Decidable p] (hd : o.dst = some d) (hN : Nat.blt d N = true) (hr : Runs ops F o true) (hD : Does P o F σ (.s (.bool (decide p))) σ) (k1 : p → AOps P N ops l ((d, .s (.bool true)) :: F) σ Q) (k2 : ¬ p → AOps P N ops l ((d, .s (.bool false)) :: F) σ Q) : AOps P N ops (o :: l) F σ Q := by
  by_cases h : p
  · exact zab hd hN hr (dec_t h hD) (k1 h)
  · exact zab hd hN hr (dec_f h hD) (k2 h)
theorem ops_opB {b : Bool} (hd : o.dst = some d) (hN : Nat.blt d N = true) (hr : Runs ops F o true) (hD : Does P o F σ (.s (.bool b)) σ) (k1 : b = true → AOps P N ops l ((d, .s (.bool true)) :: F) σ Q) (k2 : b = false → AOps P N ops l ((d, .s (.bool false)) :: F) σ Q) : AOps P N ops (o :: l) F σ Q := by
  cases b with
  | true => exact zab hd hN hr hD (k1 rfl)
  | false => exact zab hd hN hr hD (k2 rfl)
end
end Go.Proofs.Ytmhbfoaecebobaa.Aw
end
section
namespace Go.Proofs.Ytmhbfoaecebobaa.Aw
set_option linter.unusedSimpArgs false
set_option linter.unusedVariables false
open Go.RowKit
section
variable {P : Program} {N : Nat} {l : List Oper} {F F' : Frm} {σ : List Ob} {out : List (Nat × AV)} {Q : Exit → Frm → List Ob → Prop}
theorem adraw_of (h : EDraw P N l F σ Q) : ADraw P N l F σ Q := fun G a hs =>
  wpAny_mono (fun e a w q => by obtain ⟨G', F', σ', h1, h2, h3, h4⟩ := q; exact ⟨G', F', σ', h1, h2.step, h3, h4⟩) _ _ _ _ (h G a hs)
def EX (P : Program) (N : Nat) (ops : Array Oper) (all : List Oper) (acc : List Kd) (l : List Oper) (F : Frm) (σ : List Ob) (K : Frm → List Ob → Prop) : Prop :=
  ∃ F' σ' out ks sts, ESteps P N ops l F σ F' σ' out ks sts ∧ eOk all N (acc.reverse ++ ks) = true ∧ K F' σ'
variable {ops : Array Oper} {all : List Oper} {acc : List Kd} {K : Frm → List Ob → Prop} {o : Oper} {d : Nat} {x : AV} {σ1 : List Ob}
theorem ex_nil (hk : eOk all N acc.reverse = true) (h : K F σ) : EX P N ops all acc [] F σ K := ⟨F, σ, [], [], [], .nil F σ, by simpa using hk, h⟩
theorem dOk_s (hd : o.dst = some d) (hN : Nat.blt d N = true) : dOk N o = true := by unfold dOk; rw [hd]; exact hN
theorem dOk_n (hd : o.dst = none) : dOk N o = true := by unfold dOk; rw [hd]
theorem zaz (hd : o.dst = some d) (hN : Nat.blt d N = true) (hr : Runs ops F o true) (hD : ∀ σ, Does P o F σ x σ) (h : EX P N ops all (.free :: acc) l ((d, x) :: F) σ K) : EX P N ops all acc (o :: l) F σ K := by
  obtain ⟨F', σ', out, ks, sts, h1, h2, h3⟩ := h
  exact ⟨F', σ', _, _, _, .free o l F F' σ σ' x out ks sts (dOk_s hd hN) hr hD (by rw [ent_some hd]; exact h1), by simpa using h2, h3⟩
theorem ex_skip (hd : o.dst = some d) (hN : Nat.blt d N = true) (hr : Runs ops F o false) (h : EX P N ops all (.free :: acc) l ((d, .s undef) :: F) σ K) : EX P N ops all acc (o :: l) F σ K := by
  obtain ⟨F', σ', out, ks, sts, h1, h2, h3⟩ := h
  exact ⟨F', σ', _, _, _, .skip o l F F' σ σ' out ks sts (dOk_s hd hN) hr (by rw [ent_some hd]; exact h1), by simpa using h2, h3⟩
theorem ex_look {R : List Nat} (hd : o.dst = some d) (hN : Nat.blt d N = true) (hr : Runs ops F o true) (hD : ∀ σ2, (∀ id ∈ R, σ2[id]? = σ[id]?) → Does P o F σ2 x σ2) (h : EX P N ops all (.look R :: acc) l ((d, x) :: F) σ K) : EX P N ops all acc (o :: l) F σ K := by
  obtain ⟨F', σ', out, ks, sts, h1, h2, h3⟩ := h
  exact ⟨F', σ', _, _, _, .look o l F F' σ σ' x out ks sts R (dOk_s hd hN) hr hD (by rw [ent_some hd]; exact h1), by simpa using h2, h3⟩
theorem ex_eff {W : List Nat} (hd : o.dst = some d) (hN : Nat.blt d N = true) (hr : Runs ops F o true) (hD : Does P o F σ x σ1) (hW : ∀ id, id ∉ W → σ1[id]? = σ[id]?) (h : EX P N ops all (.eff W :: acc) l ((d, x) :: F) σ1 K) : EX P N ops all acc (o :: l) F σ K := by
  obtain ⟨F', σ', out, ks, sts, h1, h2, h3⟩ := h
  exact ⟨F', σ', _, _, _, .eff o l F F' σ σ1 σ' x out ks sts W (dOk_s hd hN) hr hD hW (by rw [ent_some hd]; exact h1), by simpa using h2, h3⟩
theorem ex_eff0 {W : List Nat} (hd : o.dst = none) (hr : Runs ops F o true) (hD : Does P o F σ x σ1) (hW : ∀ id, id ∉ W → σ1[id]? = σ[id]?) (h : EX P N ops all (.eff W :: acc) l ((N, .any) :: F) σ1 K) : EX P N ops all acc (o :: l) F σ K := by
  obtain ⟨F', σ', out, ks, sts, h1, h2, h3⟩ := h
  exact ⟨F', σ', _, _, _, .eff o l F F' σ σ1 σ' x out ks sts W (dOk_n hd) hr hD hW (by rw [ent_none hd]; exact h1), by simpa using h2, h3⟩
theorem adraw_ex (h : EX P N l.toArray l [] l F σ (fun F' σ' => Q .normal F' σ')) : ADraw P N l F σ Q := by
  obtain ⟨F', σ', out, ks, sts, h1, h2, h3⟩ := h
  exact adraw_of (edraw_steps h1 (by simpa using h2) h3)
theorem look_ptr {t : TypeId} {x : Operand} {id sz k j : Nat} {ob : Ob} {cs : List AV} {e c : AV} (ho : o.op = .load t x) (ha : tyAgg P t = some false) (hx : F.eval x = .ptr id sz k j) (hs : σ[id]? = some ob) (hb : rowOf ob = some (sz, cs)) (he : cs[k]? = some e) (hc : e.cells[j]? = some c) : ∀ σ2 : List Ob, (∀ i ∈ [id], σ2[i]? = σ[i]?) → Does P o F σ2 c σ2 :=
  fun σ2 h => za3 ho ha hx ((h id (by simp)).trans hs) hb he hc
theorem app2_other {id i : Nat} {ob ob' : Ob} (h : id ∉ [i, σ.length]) : (σ.set i ob ++ [ob'])[id]? = σ[id]? := by
  have h2 : id ≠ i ∧ id ≠ σ.length := by simpa using h
  rw [app_other (by rw [List.length_set]; simpa using h2.2), set_other (by simpa using h2.1)]
end
end Go.Proofs.Ytmhbfoaecebobaa.Aw
end
section
namespace Go.Proofs.Ytmhbfoaecebobaa.Aw
set_option linter.unusedSimpArgs false
set_option linter.unusedVariables false
open Go Go.Proofs Go.RowKit Go.Maps Go.WideMaps
section
variable {P : Program} {o : Oper} {F : Frm} {σ : List Ob}
theorem look_mapC {t kt el : TypeId} {m x : Operand} {id : Nat} {X : MapX} {key z : Value} {kl zl rl : Lit} {n bt : Nat} {b : Bool} (ho : o.op = .lookup t m x true) (ht : tyMap P t = some (kt, el)) (K : Keyed P kt) (hm : F.eval m = .mp id) (hs : σ[id]? = some (.mp X)) (hX : X.P = P ∧ X.kt = kt ∧ X.el = el)
    (hx : F.eval x = .s key) (hkey : keyOf P kt key = some kl) (hi : tyInfo P el = some (some z, n, bt)) (hz : plainElem (H := Unit) P el z = some (.lit zl, [])) (hr : X.D.atKey kl (.lit zl) = .lit rl) (hb : Maps.has X.D kl = b) : ∀ σ2 : List Ob, (∀ i ∈ [id], σ2[i]? = σ[i]?) → Does P o F σ2 (.tup [.s (unLit rl), .s (.bool b)]) σ2 := fun σ2 hσ =>
  does_val fun G ρ hrel hop => by
    have g1 := hop m (by simp [ho, Op.operands])
    have g2 := hop x (by simp [ho, Op.operands])
    rw [hm] at g1
    rw [hx] at g2
    have e2 := rep_s g2
    generalize hu : ρ m = u at g1
    cases g1 with
    | mp _ c hmu =>
      obtain ⟨b0, h1, h2, h3, h4, h5⟩ := hrel.obs id _ ((hσ id (by simp)).trans hs)
      rw [hmu] at h1
      cases h1
      obtain ⟨XP, Xk, Xe, Xn, XD⟩ := X
      obtain ⟨rfl, rfl, rfl⟩ := hX
      obtain ⟨i, k1, k2, k3, k4⟩ := info_of hi
      have hzero : (zeroValue Xe).run XP G.w = .ok z G.w := by simp [zeroValue, typeInfo, k1, k2]
      obtain ⟨v, ps, hrun, hv⟩ := World.ownsMap.look_ok h2 K (map_of ht) hzero hz hkey
      have hr' : XD.atKey kl (.lit zl) = .lit rl := hr
      have hb' : Maps.has XD kl = b := hb
      rw [hr'] at hv
      rw [hb'] at hrun
      have := plain_unlit hv
      subst this
      refine ⟨.tuple #[unLit rl, .bool b], ?_, .tup _ _ rfl (fun j v c hv hc => ?_)⟩
      · simp [execOp, ho, hu, e2, hrun, Result.andThen]
      · match j, hv, hc with
        | 0, hv, hc => simp at hv hc; subst hv hc; exact .s _
        | 1, hv, hc => simp at hv hc; subst hv hc; exact .s _
        | j + 2, hv, hc => simp at hv
theorem does_lookupC {t kt el : TypeId} {m x : Operand} {id : Nat} {X : MapX} {key z : Value} {kl zl rl : Lit} {n bt : Nat} {b : Bool} (ho : o.op = .lookup t m x true) (ht : tyMap P t = some (kt, el)) (K : Keyed P kt) (hm : F.eval m = .mp id) (hs : σ[id]? = some (.mp X)) (hX : X.P = P ∧ X.kt = kt ∧ X.el = el)
    (hx : F.eval x = .s key) (hkey : keyOf P kt key = some kl) (hi : tyInfo P el = some (some z, n, bt)) (hz : plainElem (H := Unit) P el z = some (.lit zl, [])) (hr : X.D.atKey kl (.lit zl) = .lit rl) (hb : Maps.has X.D kl = b) : Does P o F σ (.tup [.s (unLit rl), .s (.bool b)]) σ :=
  look_mapC ho ht K hm hs hX hx hkey hi hz hr hb σ (fun _ _ => rfl)
def eU (n : Int) : AV := .s (.int .u8 n)
def bytesS (xs : List Int) : ByteArray := ⟨(xs.map fun n => UInt8.ofNat n.toNat).toArray⟩
theorem does_bstr {t t' e : TypeId} {x : Operand} {y : AV} {xs : List Int} (ho : o.op = .convert t t' x) (ht : tySlice P t = some e) (he : tyInt P e = some .u8) (hd : tyString P t' = true) (hx : F.eval x = y) (hs : Src σ 1 y (xs.map eU)) : Does P o F σ (.s (.string (bytesS xs))) σ :=
  does_val fun G ρ hrel hop => by
    have g1 := hop x (by simp [ho, Op.operands])
    rw [hx] at g1
    obtain ⟨A, c, news, hv, hV⟩ := src_vals (by decide) hrel hs g1
    have hsl : P.underlying t = some (.slice e) := by
      unfold tySlice at ht
      split at ht
      · rename_i h1; cases ht; exact h1
      · cases ht
    have hi8 : P.underlying e = some (.int .u8) := by
      unfold tyInt at he
      split at he
      · rename_i h1; cases he; exact h1
      · cases he
    have hst := string_of hd
    have hnews : news = xs.map (Value.int .u8) := by
      refine List.ext_getElem? fun k => ?_
      have hl := hV.len
      rw [List.length_map, Nat.mul_one] at hl
      by_cases hk : k < xs.length
      · obtain ⟨q1, q2, q3⟩ := hV.rep k (eU xs[k]) (by simp [hk])
        obtain ⟨u, h1, h2⟩ := q3 0 (eU xs[k]) rfl
        rw [Nat.mul_one, Nat.add_zero] at h1
        rw [h1, rep_s h2]
        simp [hk]
      · rw [List.getElem?_eq_none (by omega), List.getElem?_eq_none (by simp; omega)]
    have hrun : (convert t t' (.slice A (xs.map eU).length c)).run P G.w = .ok (.string (bytesS xs)) G.w := by
      cases A with
      | none =>
        have h0 : xs = [] := List.map_eq_nil_iff.1 (hV.nil rfl)
        subst h0
        rw [run_convert_bytes_nil G.w t e hsl hi8 _ _ _ hst]
        rfl
      | some a =>
        have hl : (loadCells a xs.length).run P G.w = .ok (xs.map (Value.int .u8)).toArray G.w := by
          have := run_loadCells_list (P := P) G.w a (xs.map (Value.int .u8)) (fun j v hj => hV.at_ a rfl j v (by rw [hnews]; exact hj))
          rwa [List.length_map] at this
        rw [run_convert_bytes_string G.w t t' e _ _ _ hsl hi8 hst, List.length_map, run_bytesToString G.w a _ c xs hl, foldl_push_bytes]
        simp [bytesS, ByteArray.empty, ByteArray.emptyWithCapacity]
        rfl
    refine ⟨.string (bytesS xs), ?_, .s _⟩
    simp only [execOp, ho, hv, Sem.run_bind, hrun, Result.andThen_ok, Sem.run_pure]
end
end Go.Proofs.Ytmhbfoaecebobaa.Aw
end
section
namespace Go.Proofs.Ytmhbfoaecebobaa.Aw
set_option linter.unusedSimpArgs false
set_option linter.unusedVariables false
open Go.RowKit Go.Proofs
variable {P : Program} [IsP P]
theorem argsII {G : Cx} {vargs : Array Value} {a b : List Int} (hst : ∀ b o, G.St b o → b < G.w.heap.size) (hsz : vargs.size = [eL eI a, eL eI b].length) (hrep : ∀ (j : Nat) v y, vargs[j]? = some v → [eL eI a, eL eI b][j]? = some y → Rep G v y) :
    ∃ x y, vargs = #[x, y] ∧ RdI G.w 0 G.w.heap.size x a ∧ RdI G.w 0 G.w.heap.size y b := by
  obtain ⟨q⟩ := vargs
  match q, hsz with
  | [x, y], _ => exact ⟨x, y, rfl, rep_rdI (hrep 0 x _ rfl rfl) hst, rep_rdI (hrep 1 y _ rfl rfl) hst⟩
theorem argsI {G : Cx} {vargs : Array Value} {a : List Int} (hst : ∀ b o, G.St b o → b < G.w.heap.size) (hsz : vargs.size = [eL eI a].length) (hrep : ∀ (j : Nat) v y, vargs[j]? = some v → [eL eI a][j]? = some y → Rep G v y) :
    ∃ x, vargs = #[x] ∧ RdI G.w 0 G.w.heap.size x a := by
  obtain ⟨q⟩ := vargs
  match q, hsz with
  | [x], _ => exact ⟨x, rfl, rep_rdI (hrep 0 x _ rfl rfl) hst⟩
theorem eqI_pf (a b : List Int) : Pure P 12 [eL eI a, eL eI b] (eB (decide (a = b))) :=
  retB_pure (ent_of Try.func12 rfl rfl) fun G vargs hst hsz hrep => by
    obtain ⟨x, y, rfl, h1, h2⟩ := argsII hst hsz hrep
    exact equalI_any a b _ _ _ _ x y G.w h1 h2
theorem Fire_pf (n : Net) (m : List Int) (t : Int) : Pure P 45 [eN n, eL eI m, eI t] (.tup [eL eI (FireE n m t).1, eI (FireE n m t).2]) :=
  retI_pure (ent_of Try.func45 rfl rfl) fun G vargs hst hsz hrep => by
    obtain ⟨vt, v, rfl, h1, h2⟩ := args3 hst hsz hrep
    exact Fire_any n m t vt v _ _ _ _ G.w h1 h2
theorem initial_pf (n : Net) : Pure P 29 [eN n] (.tup [eL eI (oneE n n.source).1, eI (oneE n n.source).2]) :=
  retI_pure (ent_of Try.func29 rfl rfl) fun G vargs hst hsz hrep => by
    obtain ⟨vt, rfl, h1⟩ := args1 hst hsz hrep
    exact initial_any n vt _ _ G.w h1
theorem final_pf (n : Net) : Pure P 42 [eN n] (.tup [eL eI (oneE n n.sink).1, eI (oneE n n.sink).2]) :=
  retI_pure (ent_of Try.func42 rfl rfl) fun G vargs hst hsz hrep => by
    obtain ⟨vt, rfl, h1⟩ := args1 hst hsz hrep
    exact final_any n vt _ _ G.w h1
theorem key_pf (m : List Int) (hm : ∀ x ∈ m, 0 ≤ x ∧ x ≤ 255) (hl : m.length ≤ 1000) (hne : m ≠ []) : Pure P 44 [eL eI m] (eS ⟨(keyL m).toArray⟩) :=
  pure_prog (pure_mk (ent_of Try.func44 rfl rfl) (.s _) fun G vargs hst hsz hrep => by
    obtain ⟨x, rfl, h1⟩ := argsI hst hsz hrep
    refine (key_any m _ _ x G.w h1 hm hl hne).mono ?_
    rintro e w' ⟨rfl, hb⟩
    exact ⟨_, rfl, hb, .s _⟩)
theorem pureO_prog {f : FuncId} {args : List AV} {sz : Nat} {cs : List AV} (h : PureO Try.prog f args sz cs) : PureO P f args sz cs := by rw [IsP.eq (P := P)]; exact h
theorem clone_po (l : List Int) (hl : l.length ≤ 1000000) : PureO P 46 [eL eI l] 1 (l.map eI) :=
  pureO_prog ⟨ent_enters (ent_of Try.func46 rfl rfl), fun G vargs hst hsz hrep => by
    obtain ⟨x, rfl, h1⟩ := argsI hst hsz hrep
    refine (clone_any l x _ _ G.w h1 hl).mono ?_
    rintro e w' ⟨A, c, rfl, ho, hb⟩
    refine ⟨_, rfl, hb, ?_⟩
    rcases ho.1.2 with ⟨h2, h3⟩ | ⟨g, cap, cur, hv, hg, hh, h5, h6, h7, h8⟩
    · left
      injection h2 with e1 e2 e3
      have : l = [] := List.eq_nil_of_length_eq_zero h3
      subst this
      exact ⟨by rw [e1, e3]; rfl, rfl⟩
    · right
      injection hv with e1 e2 e3
      refine ⟨g, c, cur, _, by rw [e1, List.length_map], hg, hh, by rw [e3]; exact h7, by rw [List.length_map, e3]; exact h5, by rw [e3]; exact h6, fun k e hk => ?_⟩
      rw [List.getElem?_map] at hk
      cases hx : l[k]? with
      | none => rw [hx] at hk; cases hk
      | some a =>
        rw [hx] at hk
        cases hk
        refine ⟨rfl, fun j c hc => ?_⟩
        cases j with
        | succ j => simp [eI, AV.cells] at hc
        | zero =>
          simp [eI, AV.cells] at hc
          subst hc
          refine ⟨.int .i64 a, ?_, rfl, rfl⟩
          have hf := flatMap_get (size := 1) (enc := encI) (by simp) l k a 0 (.int .i64 a) hx rfl
          rw [← h8, List.getElem?_take] at hf
          split at hf
          · simpa using hf
          · cases hf⟩
end Go.Proofs.Ytmhbfoaecebobaa.Aw
end
section
namespace Go.Proofs.Ytmhbfoaecebobaa.Aw
set_option linter.unusedSimpArgs false
set_option linter.unusedVariables false
open Go.RowKit Go.Proofs
variable {P : Program} [IsP P]
theorem enabled_pf (n : Net) (m : List Int) : Pure P 106 [eN n, eL eI m] (.tup [eL eI (enabledE n m).1, eI (enabledE n m).2]) :=
  retI_pure (ent_of Try.func106 rfl rfl) fun G vargs hst hsz hrep => by
    obtain ⟨vt, v, rfl, h1, h2⟩ := args2 hst hsz hrep
    exact Enabled_any n m vt v _ _ _ _ G.w h1 h2
end Go.Proofs.Ytmhbfoaecebobaa.Aw
end
section
namespace Go.Proofs.Ytmhbfoaecebobaa.Aw
set_option linter.unusedSimpArgs false
set_option linter.unusedVariables false
set_option linter.unusedSectionVars false
open Go Go.RowKit Go.Proofs Go.Maps Go.WideMaps
variable {P : Program} [IsP P]
theorem take_snoc {α : Type} [Inhabited α] {l : List α} {k : Nat} (h : k < l.length) : l.take (k + 1) = l.take k ++ [gti l k] := by
  rw [List.take_add_one, gti_get h]; rfl
def keyS (m : List Int) : ByteArray := ⟨(keyL m).toArray⟩
theorem keyS_size (m : List Int) : (keyS m).size = 2 * m.length := by
  have := keyL_len m
  simp [keyS, ByteArray.size, this]
def xsL (m : List Int) : List Int := m.flatMap fun n => [n, 0]
theorem xsL_snoc (m : List Int) (n : Int) : xsL (m ++ [n]) = xsL m ++ [n, 0] := by simp [xsL]
theorem xsL_len (m : List Int) : (xsL m).length = 2 * m.length := by
  induction m with
  | nil => rfl
  | cons a m ih =>
    have : xsL (a :: m) = [a, 0] ++ xsL m := rfl
    rw [this, List.length_append, ih]
    simp; omega
theorem bytesS_xs (m : List Int) : bytesS (xsL m) = keyS m := by
  have : (xsL m).map (fun n => UInt8.ofNat n.toNat) = keyL m := by
    unfold xsL keyL
    rw [List.map_flatMap]
    rfl
  unfold bytesS keyS
  rw [this]
theorem wrap_u8 {n : Int} (h0 : 0 ≤ n) (h1 : n ≤ 255) : IntKind.u8.wrap n = n := IntWalk.u8_in n (by omega)
theorem shr8 {n : Int} (h0 : 0 ≤ n) (h1 : n ≤ 255) : n.fdiv (2 ^ min (8 : Int).toNat IntKind.i64.bits) = 0 := by
  have e : (2 : Int) ^ min (8 : Int).toNat IntKind.i64.bits = 256 := by decide
  rw [e]
  obtain ⟨k, rfl⟩ : ∃ k : Nat, n = k := ⟨n.toNat, by omega⟩
  have : (k : Int).fdiv 256 = ((k / 256 : Nat) : Int) := by
    rw [Int.fdiv_eq_ediv_of_nonneg _ (by omega)]; rfl
  rw [this, Nat.div_eq_of_lt (by omega)]; rfl
theorem lo_U (l : List Int) : ∀ e ∈ l.map eU, ∀ c ∈ e.cells, Lo 0 c := by
  intro e he c hc
  obtain ⟨x, _, rfl⟩ := List.mem_map.1 he
  simp [eU, AV.cells] at hc; subst hc; exact .s _
theorem spKey_pf (m : List Int) (hm : ∀ x ∈ m, 0 ≤ x ∧ x ≤ 255) (hl : m.length ≤ 40) : Pure P 107 [eL eI m] (eS (keyS m)) := by
  refine aw_fn (by rw [IsP.eq (P := P)]; exact Try.func107) rfl rfl rfl rfl rfl (by repeat' (first | exact Lo.s _ | exact Lo.emp | exact Lo.any | exact zap | exact zao | refine zah ?_ ?_ | refine zai ?_ ?_ | refine zaq ?_ | refine zan ?_ | refine Lo.cells ?_ | refine Lo.agg _ ?_ | refine Lo.ref _ ?_ | refine Lo.tup _ ?_ | refine Lo.fn _ _ ?_ | refine Lo.sl _ ?_ | intro _)) (by repeat' (first | exact Lo.s _ | exact Lo.emp | exact Lo.any | exact zap | exact zao | refine zah ?_ ?_ | refine zai ?_ ?_ | refine zaq ?_ | refine zan ?_ | refine Lo.cells ?_ | refine Lo.agg _ ?_ | refine Lo.ref _ ?_ | refine Lo.tup _ ?_ | refine Lo.fn _ _ ?_ | refine Lo.sl _ ?_ | intro _)) (by simp only [argF]; rfl) ?_
  repeat (first | refine zaf ?_ | refine zak ?_ | refine zad ?_ | refine zal ?_ | refine zac ?_)
  refine zae ?_
  refine zab rfl rfl (zaa rfl) (mv_s (.inr rfl) rfl) ?_
  refine zaj ?_
  repeat (first | refine zaf ?_ | refine zak ?_ | refine zad ?_ | refine zal ?_ | refine zac ?_)
  refine zae ?_
  refine zab rfl rfl (zaa rfl) (mv_sl (.inl rfl) rfl) ?_
  refine zab rfl rfl (zaa rfl) (za2 rfl ts30 rfl) ?_
  refine zab rfl rfl (zaa rfl) (does_mul rfl rfl rfl (IntWalk.i64_in _ (by omega))) ?_
  refine zab rfl rfl (zaa rfl) (does_make (l := 0) (c := 2 * m.length) rfl ts134 ti5 rfl rfl (by decide) rfl rfl rfl (by simp) (by omega) (by omega) (by omega)) ?_
  refine zab rfl rfl (zaa rfl) (mv_own (.inr rfl) rfl) ?_
  refine zaj ?_
  repeat (first | refine zaf ?_ | refine zak ?_ | refine zad ?_ | refine zal ?_ | refine zac ?_)
  refine zae ?_
  refine zab rfl rfl (zaa rfl) (mv_sl (.inl rfl) rfl) ?_
  refine zab rfl rfl (zaa rfl) (za2 rfl ts30 rfl) ?_
  refine zab rfl rfl (zaa rfl) (mv_s (.inl rfl) rfl) ?_
  refine zaj ?_
  repeat (first | refine zaf ?_ | refine zak ?_ | refine zad ?_ | refine zal ?_ | refine zac ?_)
  refine aw_loops (S := Nat) (fun k => [(10, eL eI m), (11, eI m.length), (12, eI k), (3, .own 0 1 (2 * k))]) (fun k => [.row 1 ((xsL (m.take k)).map eU)]) (fun k => k ≤ m.length) (fun k => m.length - k) 0 (wk_st [0] (by decide) ⟨⟨_, rfl, .rowE (lo_U _) rfl⟩, trivial⟩ ⟨.lo _ (by repeat' (first | exact Lo.s _ | exact Lo.emp | exact Lo.any | exact zap | exact zao | refine zah ?_ ?_ | refine zai ?_ ?_ | refine zaq ?_ | refine zan ?_ | refine Lo.cells ?_ | refine Lo.agg _ ?_ | refine Lo.ref _ ?_ | refine Lo.tup _ ?_ | refine Lo.fn _ _ ?_ | refine Lo.sl _ ?_ | intro _)), .lo _ (by repeat' (first | exact Lo.s _ | exact Lo.emp | exact Lo.any | exact zap | exact zao | refine zah ?_ ?_ | refine zai ?_ ?_ | refine zaq ?_ | refine zan ?_ | refine Lo.cells ?_ | refine Lo.agg _ ?_ | refine Lo.ref _ ?_ | refine Lo.tup _ ?_ | refine Lo.fn _ _ ?_ | refine Lo.sl _ ?_ | intro _)), .lo _ (by repeat' (first | exact Lo.s _ | exact Lo.emp | exact Lo.any | exact zap | exact zao | refine zah ?_ ?_ | refine zai ?_ ?_ | refine zaq ?_ | refine zan ?_ | refine Lo.cells ?_ | refine Lo.agg _ ?_ | refine Lo.ref _ ?_ | refine Lo.tup _ ?_ | refine Lo.fn _ _ ?_ | refine Lo.sl _ ?_ | intro _)), .own 0 0 1 _ _ rfl rfl, trivial⟩) (Nat.zero_le _) (fun k hk => ?_)
  repeat (first | refine zaf ?_ | refine zak ?_ | refine zad ?_ | refine zal ?_ | refine zac ?_)
  all_goals refine zae ?_
  all_goals (refine ops_opP rfl rfl (zaa rfl) (does_lss rfl rfl rfl) (fun h13 => ?_) (fun h13 => ?_))
  all_goals refine zaj ?_
  all_goals (repeat (first | refine zaf ?_ | refine zak ?_ | refine zad ?_ | refine zal ?_ | refine zac ?_))
  all_goals (first | refine aw_true rfl ?_ | refine za6 rfl ?_)
  all_goals (repeat (first | refine zaf ?_ | refine zak ?_ | refine zad ?_ | refine zal ?_ | refine zac ?_))
  · have hlt : k < m.length := by omega
    obtain ⟨hx0, hx1⟩ := hm (gti m k) (gti_mem hlt)
    have hw1 := wrap_u8 hx0 hx1
    have hw2 := shr8 hx0 hx1
    have hxl2 : (xsL (m.take k)).length = 2 * k := by rw [xsL_len, List.length_take]; omega
    have hxl : ((xsL (m.take k)).map eU).length = 2 * k := by rw [List.length_map, hxl2]
    have hrow : (xsL (m.take (k + 1))).map eU = (xsL (m.take k)).map eU ++ [eU (gti m k), eU 0] := by
      rw [take_snoc hlt, xsL_snoc, List.map_append]; rfl
    refine zae ?_
    refine zab rfl rfl (zaa rfl) (za1 rfl ts30 ti3 rfl rfl rfl (ix_map (by omega)) rfl) ?_
    refine zab rfl rfl (zaa rfl) (zam rfl ta3 rfl) ?_
    refine zab rfl rfl (zaa rfl) (mv_s (.inr rfl) rfl) ?_
    refine zaj ?_
    repeat (first | refine zaf ?_ | refine zak ?_ | refine zad ?_ | refine zal ?_ | refine zac ?_)
    refine zae ?_
    refine zab rfl rfl (zaa rfl) (mv_own (.inl rfl) rfl) ?_
    refine zab rfl rfl (zaa rfl) (mv_s (.inl rfl) rfl) ?_
    refine zab rfl rfl (zaa rfl) (does_conv rfl tu3 tk5 rfl hw1) ?_
    refine zab rfl rfl (zaa rfl) (mv_s (.inl rfl) rfl) ?_
    refine zab rfl rfl (zaa rfl) (does_shift rfl rfl rfl (by decide) (.inl ⟨rfl, hw2⟩)) ?_
    refine zab rfl rfl (zaa rfl) (does_conv rfl tu3 tk5 rfl rfl) ?_
    refine zab rfl rfl (zaa rfl) (does_lit rfl ts134 ti5 rfl rfl (by decide) (by decide) (by decide) rfl rfl) ?_
    refine za5 (σ' := [.row 1 ((xsL (m.take k)).map eU), .row 1 [eU (gti m k), eU 0]]) (wk_sub [(10, eL eI m), (11, eI m.length), (12, eI k), (16, .own 0 1 (2 * k)), (22, .own 1 1 2)] ⟨rfl, rfl, rfl, rfl, rfl, trivial⟩) ?_
    refine zab rfl rfl (zaa rfl) (does_append rfl ts134 ti5 rfl (by decide) rfl rfl (by first | rfl | (simp; done) | (simp; omega)) rfl (by first | exact .own _ _ _ rfl rfl _ (by first | rfl | simp) | exact .emp | exact .nil | exact .sl _ (by first | simp; done | intro e he; simp at he; obtain ⟨_, _, rfl⟩ := he; rfl)) (by first | omega | (simp; omega) | (unfold maxLen; simp; omega)) (by first | omega | (simp; omega) | (unfold maxLen; simp; omega))) ?_
    refine zab rfl rfl (zaa rfl) (mv_own (.inr rfl) rfl) ?_
    refine zaj ?_
    repeat (first | refine zaf ?_ | refine zak ?_ | refine zad ?_ | refine zal ?_ | refine zac ?_)
    refine zae ?_
    refine zab rfl rfl (zaa rfl) (does_add rfl rfl rfl (IntWalk.i64_in _ (by omega))) ?_
    refine zab rfl rfl (zaa rfl) (mv_s (.inl rfl) rfl) ?_
    refine zaj ?_
    repeat (first | refine zaf ?_ | refine zak ?_ | refine zad ?_ | refine zal ?_ | refine zac ?_)
    exact ⟨k + 1, by omega, by omega, wk_st [2] (by decide) ⟨⟨_, rfl, .rowE (lo_U _) hrow.symm⟩, trivial⟩ ⟨.lo _ (by repeat' (first | exact Lo.s _ | exact Lo.emp | exact Lo.any | exact zap | exact zao | refine zah ?_ ?_ | refine zai ?_ ?_ | refine zaq ?_ | refine zan ?_ | refine Lo.cells ?_ | refine Lo.agg _ ?_ | refine Lo.ref _ ?_ | refine Lo.tup _ ?_ | refine Lo.fn _ _ ?_ | refine Lo.sl _ ?_ | intro _)), .lo _ (by repeat' (first | exact Lo.s _ | exact Lo.emp | exact Lo.any | exact zap | exact zao | refine zah ?_ ?_ | refine zai ?_ ?_ | refine zaq ?_ | refine zan ?_ | refine Lo.cells ?_ | refine Lo.agg _ ?_ | refine Lo.ref _ ?_ | refine Lo.tup _ ?_ | refine Lo.fn _ _ ?_ | refine Lo.sl _ ?_ | intro _)), .lo _ (by repeat' (first | exact Lo.s _ | exact Lo.emp | exact Lo.any | exact zap | exact zao | refine zah ?_ ?_ | refine zai ?_ ?_ | refine zaq ?_ | refine zan ?_ | refine Lo.cells ?_ | refine Lo.agg _ ?_ | refine Lo.ref _ ?_ | refine Lo.tup _ ?_ | refine Lo.fn _ _ ?_ | refine Lo.sl _ ?_ | intro _)), .own 2 0 1 _ _ rfl (by simp [hxl]; omega), trivial⟩⟩
  · have e : k = m.length := by omega
    subst e
    rw [List.take_length]
    (refine aw_exit ?_; repeat (first | refine ath_x ?_ | refine abl_hit ?_ | refine abl_miss rfl ?_ | refine zal ?_ | refine zak ?_ | refine zaf ?_ | refine zad ?_ | refine zac ?_))
    refine zae ?_
    refine zab rfl rfl (zaa rfl) (mv_own (.inl rfl) rfl) ?_
    refine zab rfl rfl (zaa rfl) (does_bstr rfl ts134 tk5 tg9 rfl (.own _ _ _ rfl rfl _ (by rw [List.length_map, xsL_len]))) ?_
    refine zab rfl rfl (zaa rfl) (mv_s (.inr rfl) rfl) ?_
    refine zaj ?_
    repeat (first | refine zaf ?_ | refine zak ?_ | refine zad ?_ | refine zal ?_ | refine zac ?_)
    (refine zbd ?_; repeat (first | refine ath_r ?_ | refine abl_r ?_))
    exact post1 (.inr rfl) rfl (congrArg eS (bytesS_xs m))
theorem cloneI_pf (l : List Int) (h : l.length ≤ 50) (hn : 1 ≤ l.length) : Pure P 46 [eL eI l] (eL eI l) := by
  have hnn : NonNil (eL eI l) := by
    cases l with
    | nil => simp at hn
    | cons a t => exact .sl _ _
  refine aw_fn (by rw [IsP.eq (P := P)]; exact Try.func46) rfl rfl rfl rfl rfl (by repeat' (first | exact Lo.s _ | exact Lo.emp | exact Lo.any | exact zap | exact zao | refine zah ?_ ?_ | refine zai ?_ ?_ | refine zaq ?_ | refine zan ?_ | refine Lo.cells ?_ | refine Lo.agg _ ?_ | refine Lo.ref _ ?_ | refine Lo.tup _ ?_ | refine Lo.fn _ _ ?_ | refine Lo.sl _ ?_ | intro _)) (by repeat' (first | exact Lo.s _ | exact Lo.emp | exact Lo.any | exact zap | exact zao | refine zah ?_ ?_ | refine zai ?_ ?_ | refine zaq ?_ | refine zan ?_ | refine Lo.cells ?_ | refine Lo.agg _ ?_ | refine Lo.ref _ ?_ | refine Lo.tup _ ?_ | refine Lo.fn _ _ ?_ | refine Lo.sl _ ?_ | intro _)) (by simp only [argF]; rfl) ?_
  repeat (first | refine zaf ?_ | refine zak ?_ | refine zad ?_ | refine zal ?_ | refine zac ?_)
  refine zae ?_
  refine zab rfl rfl (zaa rfl) (mv_s (.inr rfl) rfl) ?_
  refine zaj ?_
  repeat (first | refine zaf ?_ | refine zak ?_ | refine zad ?_ | refine zal ?_ | refine zac ?_)
  refine zae ?_
  refine zab rfl rfl (zaa rfl) (mv_sl (.inl rfl) rfl) ?_
  refine zab rfl rfl (zaa rfl) (does_eqnil rfl ts30 rfl hnn rfl (.inl ⟨rfl, rfl⟩)) ?_
  refine zaj ?_
  repeat (first | refine zaf ?_ | refine zak ?_ | refine zad ?_ | refine zal ?_ | refine zac ?_)
  refine za6 rfl ?_
  repeat (first | refine zaf ?_ | refine zak ?_ | refine zad ?_ | refine zal ?_ | refine zac ?_)
  refine zae ?_
  refine zab rfl rfl (zaa rfl) (does_lit0 rfl rfl ts30 ti3) ?_
  refine zab rfl rfl (zaa rfl) (mv_sl (.inl rfl) rfl) ?_
  refine zab rfl rfl (zaa rfl) (does_append0 rfl ts30 ti3 rfl (by decide) rfl (.inl rfl) rfl (by first | exact .own _ _ _ rfl rfl _ (by first | rfl | simp) | exact .emp | exact .nil | exact .sl _ (by first | simp; done | intro e he; simp at he; obtain ⟨_, _, rfl⟩ := he; rfl)) (by first | omega | (simp; omega) | (unfold maxLen; simp; omega)) (by first | omega | (simp; omega) | (unfold maxLen; simp; omega))) ?_
  refine zab rfl rfl (zaa rfl) (mv_own (.inr rfl) rfl) ?_
  refine zaj ?_
  repeat (first | refine zaf ?_ | refine zak ?_ | refine zad ?_ | refine zal ?_ | refine zac ?_)
  (refine zbd ?_; repeat (first | refine ath_r ?_ | refine abl_r ?_))
  exact post1f (.inr rfl) rfl (.own _ _ _ _ _ rfl rfl (by simp))
end Go.Proofs.Ytmhbfoaecebobaa.Aw
end
