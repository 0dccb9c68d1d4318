import Derived.Test.YtmhbfoaecebobaaJG10
import Derived.Test.YtmhbfoaecebobaaJG9
import Derived.Test.YtmhbfoaecebobaaJG7
import Derived.Test.YtmhbfoaecebobaaJG6
import Derived.Test.YtmhbfoaecebobaaRows
import Derived.Test.YtmhbfoaecebobaaJG2
import Derived.ProofKit
import Derived.Below
import Derived.ChangeSame
import Derived.ChangeSlices
import Derived.DataReads
import Derived.Test.YtmhbfoaecebobaaJG4
import Derived.ChangeShapes
import Derived.Test.YtmhbfoaecebobaaJG8
section
namespace Go.Proofs.Ytmhbfoaecebobaa
set_option linter.unusedSimpArgs false
set_option linter.unusedVariables false
open Go.RowKit
def Pre (a b : List (List Int)) : Prop := ∃ t, b = a ++ t
theorem Pre.refl (a : List (List Int)) : Pre a a := ⟨[], by simp⟩
theorem Pre.trans {a b c : List (List Int)} (h : Pre a b) (k : Pre b c) : Pre a c := by
  obtain ⟨t, rfl⟩ := h
  obtain ⟨u, rfl⟩ := k
  exact ⟨t ++ u, by rw [List.append_assoc]⟩
theorem Pre.len {a b : List (List Int)} (h : Pre a b) : a.length ≤ b.length := by obtain ⟨t, rfl⟩ := h; simp
theorem Pre.gti {a b : List (List Int)} (h : Pre a b) {i : Nat} (hi : i < a.length) : gti b i = gti a i := by obtain ⟨t, rfl⟩ := h; exact gtiL hi
theorem Pre.find {a b : List (List Int)} (h : Pre a b) {x : List Int} (hx : 0 ≤ findI a x) : findI b x = findI a x := by
  obtain ⟨t, rfl⟩ := h
  unfold findI firstAt at *
  rw [List.findIdx?_append]
  cases e : a.findIdx? (fun y => decide (y = x)) with
  | none => rw [e] at hx; simp at hx
  | some k => rfl
def mvOf (S : List (List Int)) (i : Nat) (r : List Int × Int) (t : Int) : List Mvx := if r.2 = 0 ∧ 0 ≤ findI S r.1 then [⟨i, findI S r.1, t⟩] else []
def Fut (most : Int) (s : Spc) (S : List (List Int)) : Prop := Pre s.st S ∧ (most ≤ s.st.length → S = s.st)
theorem stepS_fut {most : Int} {i : Nat} {s s' : Spc} {r : List Int × Int} {t : Int} {S : List (List Int)} (hf : Fut most s' S) (he : xstS most i s r t = some s') :
    Fut most s S ∧ s'.mv = s.mv ++ mvOf S i r t ∧ s'.full = (s.full && !(mvOf S i r t).isEmpty) := by
  unfold xstS at he
  split at he
  · rename_i h1
    cases he
    obtain ⟨f1, f2⟩ := hf
    have e : mvOf S i r t = [] := by
      unfold mvOf
      rw [if_neg]
      rintro ⟨g1, g2⟩
      rcases h1 with h1 | ⟨h1, h2⟩
      · exact h1 g1
      · rw [f2 h2] at g2
        simp only at g2 h1
        omega
    rw [e]
    exact ⟨⟨f1, f2⟩, by simp, by simp⟩
  · rename_i h1
    split at he
    · cases he
    · cases he
      obtain ⟨f1, f2⟩ := hf
      have h0 : r.2 = 0 := Classical.byContradiction fun hc => h1 (.inl hc)
      by_cases hn : findI s.st r.1 < 0
      · simp only [if_pos hn] at f1 f2 ⊢
        have hnot := findI_neg.1 hn
        have e1 : findI (s.st ++ [r.1]) r.1 = s.st.length := findI_snoc_self hnot
        have e2 : findI S r.1 = s.st.length := by rw [f1.find (by rw [e1]; omega), e1]
        have e : mvOf S i r t = [⟨i, s.st.length, t⟩] := by
          unfold mvOf
          rw [e2, if_pos ⟨h0, by omega⟩]
        rw [e]
        refine ⟨⟨Pre.trans ⟨[r.1], rfl⟩ f1, fun hm => ?_⟩, rfl, by simp⟩
        exact absurd (.inr ⟨hn, hm⟩) h1
      · simp only [if_neg hn] at f1 f2 ⊢
        have e : mvOf S i r t = [⟨i, findI s.st r.1, t⟩] := by
          unfold mvOf
          rw [f1.find (by omega), if_pos ⟨h0, by omega⟩]
        rw [e]
        exact ⟨⟨f1, f2⟩, rfl, by simp⟩
def rowMv (n : Net) (S : List (List Int)) (i : Nat) (x : List Int) (on : List Int) : List Mvx := on.flatMap fun t => mvOf S i (FireE n x t) t
def rowOk (n : Net) (S : List (List Int)) (i : Nat) (x : List Int) (on : List Int) : Bool := on.all fun t => !(mvOf S i (FireE n x t) t).isEmpty
theorem rowS_fut {n : Net} {most : Int} {i : Nat} {x : List Int} {S : List (List Int)} : ∀ (on : List Int) (s s' : Spc), Fut most s' S → rowS n most i x on s = some s' →
    Fut most s S ∧ s'.mv = s.mv ++ rowMv n S i x on ∧ s'.full = (s.full && rowOk n S i x on)
  | [], s, s', hf, h => by simp only [rowS, Option.some.injEq] at h; subst h; exact ⟨hf, by simp [rowMv], by simp [rowOk]⟩
  | t :: ts, s, s', hf, h => by
    simp only [rowS] at h
    cases e : xstS most i s (FireE n x t) t with
    | none => rw [e] at h; cases h
    | some s1 =>
      rw [e] at h
      obtain ⟨g1, g2, g3⟩ := rowS_fut ts s1 s' hf h
      obtain ⟨k1, k2, k3⟩ := stepS_fut g1 e
      refine ⟨k1, ?_, ?_⟩
      · rw [g2, k2, List.append_assoc]; rfl
      · rw [g3, k3, Bool.and_assoc]; rfl
def onS (n : Net) (S : List (List Int)) (j : Nat) : List Int := enabledL (gti S j) 0 n.trans
def rows (n : Net) (S : List (List Int)) (i k : Nat) : List Mvx := ((List.range k).drop i).flatMap fun j => rowMv n S j (gti S j) (onS n S j)
def rowsOk (n : Net) (S : List (List Int)) (i k : Nat) : Bool := ((List.range k).drop i).all fun j => rowOk n S j (gti S j) (onS n S j)
theorem range_drop {N k : Nat} (h : k < N) : (List.range N).drop k = k :: (List.range N).drop (k + 1) := by
  have e : gti (List.range N) k = k := by unfold gti; simp [h]
  have := drop_gti (l := List.range N) (k := k) (by simpa using h)
  rwa [e] at this
theorem rows_step {n : Net} {S : List (List Int)} {i k : Nat} (h : i < k) : rows n S i k = rowMv n S i (gti S i) (onS n S i) ++ rows n S (i + 1) k := by
  unfold rows; rw [range_drop h, List.flatMap_cons]
theorem rowsOk_step {n : Net} {S : List (List Int)} {i k : Nat} (h : i < k) : rowsOk n S i k = (rowOk n S i (gti S i) (onS n S i) && rowsOk n S (i + 1) k) := by
  unfold rowsOk; rw [range_drop h, List.all_cons]
theorem expS_fut {n : Net} {most : Int} : ∀ (f i : Nat) (s s' : Spc), SI n most s → (most + 1 ≤ (f + i : Nat)) → expS n most f i s = some s' → Fut most s s'.st ∧ s'.mv = s.mv ++ rows n s'.st i s'.st.length ∧ s'.full = (s.full && rowsOk n s'.st i s'.st.length)
  | 0, i, s, s', hs, hfu, h => by
    simp only [expS, Option.some.injEq] at h; subst h
    have := hs.le
    have e : (List.range s.st.length).drop i = [] := List.drop_eq_nil_of_le (by simp; omega)
    exact ⟨⟨.refl _, fun _ => rfl⟩, by simp [rows, e], by simp [rowsOk, e]⟩
  | f + 1, i, s, s', hs, hfu, h => by
    unfold expS at h
    split at h
    · rename_i hi
      cases e : rowS n most i (gti s.st i) (enabledL (gti s.st i) 0 n.trans) s with
      | none => rw [e] at h; cases h
      | some s1 =>
        rw [e] at h
        have hsi := (Aw.rowS_SI (hs.gti hi) _ s s1 hs e).1
        obtain ⟨g1, g2, g3⟩ := expS_fut f (i + 1) s1 s' hsi (by omega) h
        obtain ⟨k1, k2, k3⟩ := rowS_fut _ s s1 g1 e
        have hg := k1.1.gti hi
        have hlt : i < s'.st.length := by have := k1.1.len; omega
        refine ⟨k1, ?_, ?_⟩
        · rw [g2, k2, rows_step hlt, onS, hg, List.append_assoc]
        · rw [g3, k3, rowsOk_step hlt, onS, hg, Bool.and_assoc]
    · rename_i hi
      simp only [Option.some.injEq] at h; subst h
      have e : (List.range s.st.length).drop i = [] := List.drop_eq_nil_of_le (by simp; omega)
      exact ⟨⟨.refl _, fun _ => rfl⟩, by simp [rows, e], by simp [rowsOk, e]⟩
def Par (s : Spc) : Prop := ∀ j : Nat, 1 ≤ j → j < s.st.length → ∃ k, k < s.mv.length ∧ (gti s.mv k).tt = j ∧ 0 ≤ (gti s.mv k).fr ∧ (gti s.mv k).fr < j
theorem stepS_par {most : Int} {i : Nat} {s s' : Spc} {r : List Int × Int} {t : Int} (hi : i < s.st.length) (h : Par s) (he : xstS most i s r t = some s') : Par s' := by
  unfold xstS at he
  split at he
  · cases he; exact h
  · split at he
    · cases he
    · cases he
      intro j hj1 hj2
      by_cases hn : findI s.st r.1 < 0
      · simp only [if_pos hn, List.length_append, List.length_singleton] at hj2 ⊢
        by_cases hl : j < s.st.length
        · obtain ⟨k, k1, k2, k3⟩ := h j hj1 hl
          exact ⟨k, by omega, by rw [gtiL k1]; exact k2, by rw [gtiL k1]; exact k3⟩
        · refine ⟨s.mv.length, by omega, ?_, ?_⟩
          · rw [gtiZ]; simp only; omega
          · rw [gtiZ]; simp only; omega
      · simp only [if_neg hn, List.length_append, List.length_singleton] at hj2 ⊢
        obtain ⟨k, k1, k2, k3⟩ := h j hj1 hj2
        exact ⟨k, by omega, by rw [gtiL k1]; exact k2, by rw [gtiL k1]; exact k3⟩
theorem stepS_len {most : Int} {i : Nat} {s s' : Spc} {r : List Int × Int} {t : Int} (he : xstS most i s r t = some s') : s.st.length ≤ s'.st.length := by
  unfold xstS at he
  split at he
  · cases he; exact Nat.le_refl _
  · split at he
    · cases he
    · cases he
      dsimp only
      split
      · simp
      · exact Nat.le_refl _
theorem rowS_par {n : Net} {most : Int} {i : Nat} {x : List Int} : ∀ (on : List Int) (s s' : Spc), i < s.st.length → Par s → rowS n most i x on s = some s' → Par s' ∧ s.st.length ≤ s'.st.length
  | [], s, s', hi, hp, h => by simp only [rowS, Option.some.injEq] at h; subst h; exact ⟨hp, Nat.le_refl _⟩
  | t :: ts, s, s', hi, hp, h => by
    simp only [rowS] at h
    cases e : xstS most i s (FireE n x t) t with
    | none => rw [e] at h; cases h
    | some s1 =>
      rw [e] at h
      have hl := stepS_len e
      obtain ⟨g1, g2⟩ := rowS_par ts s1 s' (by omega) (stepS_par hi hp e) h
      exact ⟨g1, by omega⟩
theorem expS_par {n : Net} {most : Int} : ∀ (f i : Nat) (s s' : Spc), Par s → expS n most f i s = some s' → Par s'
  | 0, i, s, s', hp, h => by simp only [expS, Option.some.injEq] at h; subst h; exact hp
  | f + 1, i, s, s', hp, h => by
    unfold expS at h
    split at h
    · rename_i hi
      cases e : rowS n most i (gti s.st i) (enabledL (gti s.st i) 0 n.trans) s with
      | none => rw [e] at h; cases h
      | some s1 =>
        rw [e] at h
        exact expS_par f (i + 1) s1 s' (rowS_par _ s s1 hi hp e).1 h
    · simp only [Option.some.injEq] at h; subst h; exact hp
theorem explE_some {n : Net} {m : List Int} {most : Int} (h : (explE n m most).2 = 0) : markB n m = true ∧ 1 ≤ most ∧ most ≤ 2000 ∧ expS n most (most.toNat + 1) 0 ⟨[m], [], true⟩ = some (explE n m most).1 := by
  unfold explE at h ⊢
  split at h
  · rename_i h1
    rw [if_pos h1]
    split at h
    · simp at h
    · rename_i h2
      rw [if_neg h2]
      cases e : expS n most (most.toNat + 1) 0 ⟨[m], [], true⟩ with
      | none => rw [e] at h; simp [explR] at h
      | some s => exact ⟨h1, by omega, by omega, rfl⟩
  · simp at h
end Go.Proofs.Ytmhbfoaecebobaa
end
section
namespace Go.Proofs.Ytmhbfoaecebobaa
set_option linter.unusedSimpArgs false
set_option linter.unusedVariables false
open Go.RowKit
structure XS (n : Net) (m : List Int) (most : Int) (s : Spc) : Prop where
  hm : markB n m = true
  hb : 1 ≤ most ∧ most ≤ 2000
  pre : Pre [m] s.st
  si : SI n most s
  mv : s.mv = rows n s.st 0 s.st.length
  fl : s.full = rowsOk n s.st 0 s.st.length
  par : Par s
  ok : MvOk n s
theorem XS.of {n : Net} {m : List Int} {most : Int} (h : (explE n m most).2 = 0) : XS n m most (explE n m most).1 := by
  obtain ⟨h1, h2, h3, h4⟩ := explE_some h
  obtain ⟨g1, g2, g3⟩ := expS_fut _ _ _ _ (SI.init h1 (by omega)) (by omega) h4
  refine ⟨h1, ⟨h2, h3⟩, g1.1, (Aw.explE_SI h).2.2, by simpa using g2, by simpa using g3, expS_par _ _ _ _ (fun j a b => by simp at b; omega) h4, explE_MvOk h⟩
theorem XS.st0 {n : Net} {m : List Int} {most : Int} {s : Spc} (h : XS n m most s) : gti s.st 0 = m := by rw [h.pre.gti (by simp)]; rfl
theorem XS.find {n : Net} {m : List Int} {most : Int} {s : Spc} (h : XS n m most s) {i : Nat} (hi : i < s.st.length) : findI s.st (gti s.st i) = i := by
  refine findI_at (gti_get hi) (fun j hj e => ?_)
  have hjl : j < s.st.length := by omega
  have hne := (List.nodup_iff_pairwise_ne.1 h.si.nd)
  rw [List.pairwise_iff_getElem] at hne
  have := hne j i hjl hi hj
  rw [List.getElem?_eq_getElem hjl] at e
  have e2 := Option.some.inj e
  apply this
  rw [e2]
  unfold Go.Proofs.Ytmhbfoaecebobaa.gti
  rw [List.getElem?_eq_getElem hi]; rfl
theorem findI_gti {S : List (List Int)} {x : List Int} (h : 0 ≤ findI S x) : gti S (findI S x).toNat = x ∧ (findI S x).toNat < S.length := by
  obtain ⟨k, h1, h2, h3⟩ := findI_pos h
  rw [h1, Int.toNat_natCast]
  unfold Go.Proofs.Ytmhbfoaecebobaa.gti
  rw [h2]
  exact ⟨rfl, h3⟩
theorem rows_mem {n : Net} {S : List (List Int)} {m : Mvx} {k : Nat} : m ∈ rows n S 0 k ↔ ∃ j, j < k ∧ ∃ t ∈ onS n S j, m ∈ mvOf S j (FireE n (gti S j) t) t := by
  unfold rows rowMv
  rw [List.drop_zero, List.mem_flatMap]
  constructor
  · rintro ⟨j, hj, hm⟩
    rw [List.mem_flatMap] at hm
    exact ⟨j, List.mem_range.1 hj, hm⟩
  · rintro ⟨j, hj, hm⟩
    exact ⟨j, List.mem_range.2 hj, List.mem_flatMap.2 hm⟩
theorem XS.fire {n : Net} {m : List Int} {most : Int} {s : Spc} (h : XS n m most s) {k : Nat} (hk : k < s.mv.length) : FireE n (gti s.st (gti s.mv k).fr.toNat) (gti s.mv k).sym = (gti s.st (gti s.mv k).tt.toNat, 0) := by
  have hm := gti_mem hk
  generalize gti s.mv k = v at hm ⊢
  rw [h.mv] at hm
  obtain ⟨j, hj, t, ht, hv⟩ := rows_mem.1 hm
  unfold mvOf at hv
  split at hv
  · rename_i hc
    simp at hv
    subst hv
    simp only [Int.toNat_natCast]
    rw [(findI_gti hc.2).1, ← hc.1]
  · simp at hv
theorem XS.formed {n : Net} {m : List Int} {most : Int} {s : Spc} (h : XS n m most s) : formedB s = true := by
  have := h.si.ne
  have := h.si.le
  have := h.si.mvs
  have := h.hb
  unfold formedB
  rw [Bool.and_eq_true, List.all_eq_true]
  refine ⟨decide_eq_true ⟨by omega, by omega, by omega⟩, fun x hx => decide_eq_true ?_⟩
  obtain ⟨k, hk, rfl⟩ := mem_gti' hx
  obtain ⟨h1, h2, h3, h4, _⟩ := h.ok k hk
  exact ⟨h1, h2, h3, h4⟩
theorem bstep_in {mv : List Mvx} {n : Nat} {s : QB} (h : BI mv n s) {i k : Nat} (hi : i < s.1.length) (hk : k < mv.length) (hr : 0 ≤ (gti mv k).tt ∧ (gti mv k).tt < (n : Int)) (hf : (gti mv k).fr = gti s.1 i) : (gti mv k).tt ∈ (bstep mv (gti s.1 i) s k).1 := by
  unfold bstep
  split
  · simp
  · rename_i hc
    by_cases h0 : (gti mv k).tt = 0
    · rw [h0]; exact List.mem_of_getElem? h.h0
    · by_cases h1 : gti s.2 (gti mv k).tt.toNat < 0
      · exact absurd ⟨hf, h0, h1⟩ hc
      · have := ((h.iff (gti mv k).tt.toNat (by omega)).1 (by omega)).1
        rwa [Int.toNat_of_nonneg hr.1] at this
theorem BExt.sub {s s' : QB} (h : BExt s s') {x : Int} (hx : x ∈ s.1) : x ∈ s'.1 := by
  obtain ⟨⟨t, h1⟩, _⟩ := h
  rw [h1]; exact List.mem_append_left _ hx
theorem brow_in {mv : List Mvx} {n : Nat} (hmv : ∀ k, k < mv.length → 0 ≤ (gti mv k).tt ∧ (gti mv k).tt < (n : Int)) : ∀ (l : List Nat) {s : QB} (h : BI mv n s) {i : Nat} (hi : i < s.1.length) (hl : ∀ k ∈ l, k < mv.length), ∀ k ∈ l, (gti mv k).fr = gti s.1 i → (gti mv k).tt ∈ (brow mv (gti s.1 i) s l).1
  | [], s, h, i, hi, _, k, hk, _ => by cases hk
  | a :: l, s, h, i, hi, hl, k, hk, hf => by
    have ha := hl a List.mem_cons_self
    obtain ⟨h1, h2⟩ := h.step hi ha (hmv a ha)
    have h3 := h2.gti hi
    have hl2 : ∀ k ∈ l, k < mv.length := fun k hk => hl k (List.mem_cons_of_mem _ hk)
    show _ ∈ (brow mv (gti s.1 i) (bstep mv (gti s.1 i) s a) l).1
    rcases List.mem_cons.1 hk with rfl | hk
    · have h4 := bstep_in h hi ha (hmv k ha) hf
      have h5 := (h1.row hmv l h3.2 hl2).2
      rw [h3.1] at h5
      exact h5.sub h4
    · have := brow_in hmv l h1 h3.2 hl2 k hk (by rw [h3.1]; exact hf)
      rwa [h3.1] at this
def Cl (mv : List Mvx) (i : Nat) (s : QB) : Prop := ∀ p, p < i → ∀ k, k < mv.length → (gti mv k).fr = gti s.1 p → (gti mv k).tt ∈ s.1
theorem bfs_cl {mv : List Mvx} {n : Nat} (hmv : ∀ k, k < mv.length → 0 ≤ (gti mv k).tt ∧ (gti mv k).tt < (n : Int)) : ∀ (f i : Nat) {s : QB} (h : BI mv n s), i ≤ s.1.length → n ≤ f + i → Cl mv i s → Cl mv (bfs mv f i s).1.length (bfs mv f i s)
  | 0, i, s, h, hi, hf, hc => by
    have := h.len
    have e : i = s.1.length := by omega
    unfold bfs; rw [← e]; exact hc
  | f + 1, i, s, h, hi, hf, hc => by
    unfold bfs
    split
    · rename_i hlt
      obtain ⟨h1, h2⟩ := h.row hmv (List.range mv.length) hlt (fun k hk => List.mem_range.1 hk)
      have h3 := h2.gti hlt
      refine bfs_cl hmv f (i + 1) h1 h3.2 (by omega) (fun p hp k hk hfr => ?_)
      by_cases hpi : p < i
      · have h4 := h2.gti (i := p) (by omega)
        exact h2.sub (hc p hpi k hk (by rw [← h4.1]; exact hfr))
      · have e : p = i := by omega
        subst e
        rw [h3.1] at hfr
        exact brow_in hmv _ h hlt (fun k hk => List.mem_range.1 hk) k (List.mem_range.2 hk) hfr
    · rename_i hlt
      have e : i = s.1.length := by omega
      rw [← e]; exact hc
theorem XS.all {n : Net} {m : List Int} {most : Int} {s : Spc} (h : XS n m most s) : BI s.mv s.st.length (bend s) ∧ ∀ j : Nat, j < s.st.length → (j : Int) ∈ (bend s).1 := by
  have hmv : ∀ k, k < s.mv.length → 0 ≤ (gti s.mv k).tt ∧ (gti s.mv k).tt < (s.st.length : Int) := fun k hk => by obtain ⟨_, _, h3, h4, _⟩ := h.ok k hk; exact ⟨h3, h4⟩
  have hi := BI.init (mv := s.mv) h.si.ne
  have hB := (hi.bfs hmv s.st.length 0).1
  have hC := bfs_cl hmv s.st.length 0 hi (Nat.zero_le _) (by omega) (fun p hp => by omega)
  refine ⟨hB, fun j => ?_⟩
  induction j using Nat.strongRecOn with
  | ind j ih =>
    intro hj
    rcases Nat.eq_zero_or_pos j with rfl | hj1
    · exact List.mem_of_getElem? hB.h0
    · obtain ⟨k, k1, k2, k3, k4⟩ := h.par j hj1 hj
      have h5 := ih (gti s.mv k).fr.toNat (by omega) (by omega)
      rw [Int.toNat_of_nonneg k3] at h5
      obtain ⟨p, hp, hpe⟩ := mem_pos h5
      have := hC p hp k k1 hpe.symm
      rwa [k2] at this
def goE (n : Net) : List Int → List Int → Option (List Int)
  | m, [] => some m
  | m, t :: ts => if (FireE n m t).2 = 0 then goE n (FireE n m t).1 ts else none
theorem goE_append (n : Net) : ∀ (a : List Int) (m : List Int) (b : List Int), goE n m (a ++ b) = (goE n m a).bind fun x => goE n x b
  | [], m, b => rfl
  | t :: a, m, b => by
    simp only [List.cons_append, goE]
    split
    · exact goE_append n a _ b
    · rfl
theorem XS.go {n : Net} {m : List Int} {most : Int} {s : Spc} (h : XS n m most s) : ∀ (f p : Nat), p < (bend s).1.length → p < f → goE n m (backP s.mv (bend s).2 f (gti (bend s).1 p)).reverse = some (gti s.st (gti (bend s).1 p).toNat)
  | 0, p, _, hf => by omega
  | f + 1, p, hp, hf => by
    have hB := h.all.1
    unfold backP
    by_cases h0 : gti (bend s).1 p = 0
    · rw [if_pos h0, h0, Int.toNat_zero, h.st0]; rfl
    · rw [if_neg h0]
      obtain ⟨k, g1, g2, p', g3, g4⟩ := hB.back hp h0
      obtain ⟨k2, q1, q2, q3, _⟩ := hB.par p (by rcases Nat.eq_zero_or_pos p with rfl | h1; exact absurd hB.at0 h0; exact h1) hp
      have e : k2 = k := by rw [q2] at g2; omega
      subst e
      rw [g2, Int.toNat_natCast, ← g4, List.reverse_cons, goE_append, XS.go h f p' (by omega) (by omega), g4]
      have hfi := h.fire g1
      show goE n _ [_] = _
      unfold goE
      rw [hfi, if_pos rfl, q3]; rfl
theorem XS.path {n : Net} {m : List Int} {most : Int} {s : Spc} (h : XS n m most s) {i : Nat} (hi : i < s.st.length) : ∃ l : List Int, pathE s i = (l, 0) ∧ l.length ≤ s.st.length ∧ goE n m l = some (gti s.st i) := by
  obtain ⟨hB, hall⟩ := h.all
  obtain ⟨p, hp, hpe⟩ := mem_pos (hall i hi)
  have hpl := hB.len
  refine ⟨(backP s.mv (bend s).2 s.st.length i).reverse, ?_, by rw [List.length_reverse]; exact backP_len _ _ _ _, ?_⟩
  · unfold pathE
    rw [if_pos h.formed, if_neg (by omega), if_neg]
    rintro ⟨g1, g2⟩
    rw [Int.toNat_natCast] at g2
    have := (hB.iff i hi).2 ⟨hall i hi, by omega⟩
    omega
  · have := h.go s.st.length p hp (by omega)
    rw [hpe, Int.toNat_natCast] at this
    exact this
theorem rowOk_at {n : Net} {S : List (List Int)} {i : Nat} {x : List Int} {on : List Int} {t : Int} (h : rowOk n S i x on = true) (ht : t ∈ on) : mvOf S i (FireE n x t) t ≠ [] := by
  unfold rowOk at h
  rw [List.all_eq_true] at h
  have := h t ht
  intro e
  rw [e] at this
  simp at this
theorem XS.gap {n : Net} {m : List Int} {most : Int} {s : Spc} (h : XS n m most s) {i : Nat} (hi : i < s.st.length) {t : Int} (ht : t ∈ onS n s.st i) (he : mvOf s.st i (FireE n (gti s.st i) t) t = []) : s.full = false := by
  cases hf : s.full with
  | false => rfl
  | true =>
    rw [h.fl] at hf
    unfold rowsOk at hf
    rw [List.drop_zero, List.all_eq_true] at hf
    exact absurd he (rowOk_at (hf i (List.mem_range.2 hi)) ht)
end Go.Proofs.Ytmhbfoaecebobaa
end
section
namespace Go.Proofs.Ytmhbfoaecebobaa
set_option linter.unusedSimpArgs false
set_option linter.unusedVariables false
open Go.RowKit
def QExt (s s' : QS) : Prop := (∃ t, s'.1 = s.1 ++ t)
theorem crow_ext (n : Net) (mv : List Mvx) : ∀ (l : List Nat) (s : QS), QExt s (crow n mv s l)
  | [], s => ⟨[], by simp [crow]⟩
  | k :: l, s => by
    obtain ⟨t, ht⟩ := crow_ext n mv l (cstep n mv s k)
    have h1 : ∃ u, (cstep n mv s k).1 = s.1 ++ u := by
      unfold cstep
      split
      · exact ⟨_, rfl⟩
      · exact ⟨[], by simp⟩
    obtain ⟨u, hu⟩ := h1
    exact ⟨u ++ t, by show (crow n mv (cstep n mv s k) l).1 = _; rw [ht, hu, List.append_assoc]⟩
theorem QExt.sub {s s' : QS} (h : QExt s s') {x : Int} (hx : x ∈ s.1) : x ∈ s'.1 := by
  obtain ⟨t, h1⟩ := h
  rw [h1]; exact List.mem_append_left _ hx
theorem QExt.gti {s s' : QS} (h : QExt s s') {i : Nat} (hi : i < s.1.length) : gti s'.1 i = gti s.1 i ∧ i < s'.1.length := by
  obtain ⟨t, h1⟩ := h
  rw [h1]
  exact ⟨gtiL hi, by simp; omega⟩
theorem cstep_in {N : Nat} {n : Net} {mv : List Mvx} {s : QS} (h : CI N s) {k : Nat} (hr : 0 ≤ (gti mv k).tt ∧ (gti mv k).tt < (N : Int)) (hl : labM n (gti mv k) = noB) : (gti mv k).tt ∈ (cstep n mv s k).1 := by
  unfold cstep
  split
  · simp
  · rename_i hc
    cases hg : gti s.2 (gti mv k).tt.toNat with
    | false => exact absurd ⟨hl, hg⟩ hc
    | true =>
      have := (h.iff (gti mv k).tt.toNat (by omega)).1 hg
      rwa [Int.toNat_of_nonneg hr.1] at this
theorem crow_in {N : Nat} {n : Net} {mv : List Mvx} (hmv : ∀ k, k < mv.length → 0 ≤ (gti mv k).tt ∧ (gti mv k).tt < (N : Int)) : ∀ (l : List Nat) {s : QS}, CI N s → (∀ k ∈ l, k < mv.length) → ∀ k ∈ l, labM n (gti mv k) = noB → (gti mv k).tt ∈ (crow n mv s l).1
  | [], s, h, _, k, hk, _ => by cases hk
  | a :: l, s, h, hl, k, hk, he => by
    have ha := hl a List.mem_cons_self
    obtain ⟨h1, _⟩ := h.step (n := n) (hmv a ha)
    rcases List.mem_cons.1 hk with rfl | hk
    · exact (crow_ext n mv l _).sub (cstep_in h (hmv k ha) he)
    · exact crow_in hmv l h1 (fun k hk => hl k (List.mem_cons_of_mem _ hk)) k hk he
def ClS (n : Net) (mv : List Mvx) (i : Nat) (s : QS) : Prop := ∀ p, p < i → ∀ k, k < mv.length → (gti mv k).fr = gti s.1 p → labM n (gti mv k) = noB → (gti mv k).tt ∈ s.1
theorem mem_ixs {mv : List Mvx} {v : Int} {n k : Nat} (hk : k < n) (h : (gti mv k).fr = v) : k ∈ ixs mv v n := by
  unfold ixs
  rw [List.mem_filter, List.mem_range]
  exact ⟨hk, decide_eq_true h⟩
theorem cfs_cl {N : Nat} {n : Net} {mv : List Mvx} (hmv : ∀ k, k < mv.length → 0 ≤ (gti mv k).tt ∧ (gti mv k).tt < (N : Int)) : ∀ (f i : Nat) {s : QS} (h : CI N s), i ≤ s.1.length → N ≤ f + i → ClS n mv i s → ClS n mv (cfs n mv f i s).1.length (cfs n mv f i s) ∧ QExt s (cfs n mv f i s)
  | 0, i, s, h, hi, hf, hc => by
    have := h.len
    have e : i = s.1.length := by omega
    unfold cfs; rw [← e]; exact ⟨hc, [], by simp⟩
  | f + 1, i, s, h, hi, hf, hc => by
    unfold cfs
    split
    · rename_i hlt
      have h1 := crow_CI hmv (ixs mv (gti s.1 i) mv.length) h (n := n) (fun k hk => (ixs_mem hk).1)
      have h2 := crow_ext n mv (ixs mv (gti s.1 i) mv.length) s
      have h3 := h2.gti hlt
      obtain ⟨g1, g2⟩ := cfs_cl hmv f (i + 1) h1 h3.2 (by omega) (fun p hp k hk hfr hl => by
        by_cases hpi : p < i
        · have h4 := h2.gti (i := p) (by omega)
          exact h2.sub (hc p hpi k hk (by rw [← h4.1]; exact hfr) hl)
        · have e : p = i := by omega
          subst e
          rw [h3.1] at hfr
          exact crow_in hmv _ h (fun k hk => (ixs_mem hk).1) k (mem_ixs hk hfr) hl)
      obtain ⟨t, ht⟩ := h2
      obtain ⟨u, hu⟩ := g2
      exact ⟨g1, t ++ u, by rw [hu, ht, List.append_assoc]⟩
    · rename_i hlt
      have e : i = s.1.length := by omega
      rw [← e]; exact ⟨hc, [], by simp⟩
theorem cfs_min {N : Nat} {n : Net} {mv : List Mvx} {Q : Int → Prop} (hQ : ∀ k, k < mv.length → labM n (gti mv k) = noB → Q (gti mv k).fr → Q (gti mv k).tt) : ∀ (f i : Nat) {s : QS}, (∀ x ∈ s.1, Q x) → ∀ x ∈ (cfs n mv f i s).1, Q x
  | 0, i, s, h => h
  | f + 1, i, s, h => by
    unfold cfs
    split
    · rename_i hi
      have hv : Q (gti s.1 i) := h _ (gti_mem hi)
      refine cfs_min (N := N) hQ f (i + 1) ?_
      have key : ∀ (l : List Nat) (s' : QS), (∀ k ∈ l, k < mv.length ∧ (gti mv k).fr = gti s.1 i) → (∀ x ∈ s'.1, Q x) → ∀ x ∈ (crow n mv s' l).1, Q x := by
        intro l
        induction l with
        | nil => intro s' _ h' x hx; exact h' x hx
        | cons k l ih =>
          intro s' hl h' x hx
          refine ih (cstep n mv s' k) (fun k hk => hl k (List.mem_cons_of_mem _ hk)) ?_ x hx
          intro y hy
          unfold cstep at hy
          split at hy
          · rename_i hc
            rcases List.mem_append.1 hy with hy | hy
            · exact h' y hy
            · simp at hy
              subst hy
              obtain ⟨k1, k2⟩ := hl k List.mem_cons_self
              exact hQ k k1 hc.1 (by rw [k2]; exact hv)
          · exact h' y hy
      exact key _ s (fun k hk => ixs_mem hk) h
    · exact h
theorem closeE_spec {n : Net} {s : Spc} (hm : MvOk n s) {set : List Bool} (hs : set.length = s.st.length) :
    (∀ v : Nat, gti set v = true → gti (closeE n s.mv set) v = true) ∧
    (∀ k, k < s.mv.length → labM n (gti s.mv k) = noB → gti (closeE n s.mv set) (gti s.mv k).fr.toNat = true → gti (closeE n s.mv set) (gti s.mv k).tt.toNat = true) ∧
    (∀ Q : Nat → Prop, (∀ v : Nat, gti set v = true → Q v) → (∀ k, k < s.mv.length → labM n (gti s.mv k) = noB → Q (gti s.mv k).fr.toNat → Q (gti s.mv k).tt.toNat) → ∀ v : Nat, gti (closeE n s.mv set) v = true → Q v) := by
  have hmv : ∀ k, k < s.mv.length → 0 ≤ (gti s.mv k).tt ∧ (gti s.mv k).tt < (set.length : Int) := fun k hk => by obtain ⟨_, _, h1, h2, _⟩ := hm k hk; omega
  have hi := CI.init set
  have hC := cfs_CI (n := n) hmv set.length 0 hi
  obtain ⟨hcl, hx⟩ := cfs_cl (n := n) hmv set.length 0 hi (Nat.zero_le _) (by omega) (fun p hp => by omega)
  have hlt : ∀ (B : List Bool) (v : Nat), gti B v = true → v < B.length := fun B v h => by
    by_cases hv : v < B.length
    · exact hv
    · exfalso
      have h2 : gti B v = false := by unfold gti; rw [List.getElem?_eq_none (by omega)]; rfl
      rw [h] at h2; cases h2
  have hiff : ∀ v : Nat, gti (closeE n s.mv set) v = true ↔ (v : Int) ∈ (cfs n s.mv set.length 0 (setQ set set.length, set)).1 := fun v => by
    constructor
    · intro h
      have h1 := hlt _ v h
      have h2 : v < set.length := by rw [← hC.bl]; exact h1
      exact (hC.iff v h2).1 h
    · intro h
      have h2 := hC.rng _ h
      exact (hC.iff v (by omega)).2 h
  refine ⟨fun v hv => ?_, fun k hk hl hf => ?_, fun Q h1 h2 v hv => ?_⟩
  · rw [hiff]
    exact hx.sub ((hi.iff v (hlt set v hv)).1 hv)
  · rw [hiff] at hf ⊢
    obtain ⟨a1, a2, a3, a4, _⟩ := hm k hk
    rw [Int.toNat_of_nonneg a1] at hf
    rw [Int.toNat_of_nonneg a3]
    obtain ⟨p, hp, hpe⟩ := mem_pos hf
    exact hcl p hp k hk hpe.symm hl
  · rw [hiff] at hv
    have := cfs_min (N := set.length) (n := n) (mv := s.mv) (Q := fun x => Q x.toNat) (fun k hk hl => h2 k hk hl) set.length 0 (s := (setQ set set.length, set)) (fun x hx => by
      have h3 := hi.rng x hx
      refine h1 x.toNat ((hi.iff x.toNat (by omega)).2 ?_)
      rw [Int.toNat_of_nonneg h3.1]; exact hx) v hv
    simpa using this
theorem hitE_spec {n : Net} {mv : List Mvx} {act : ByteArray} {N : Nat} (hmv : ∀ k, k < mv.length → 0 ≤ (gti mv k).tt ∧ (gti mv k).tt < (N : Int)) : ∀ (l : List Nat) (nx : List Bool), nx.length = N → (∀ k ∈ l, k < mv.length) → ∀ v : Nat, gti (hitE n mv act l nx) v = true ↔ gti nx v = true ∨ ∃ k ∈ l, (gti mv k).tt = v ∧ labM n (gti mv k) = act
  | [], nx, hn, hl, v => by simp [hitE]
  | k :: l, nx, hn, hl, v => by
    have hk := hmv k (hl k List.mem_cons_self)
    have hl2 : ∀ k ∈ l, k < mv.length := fun k hk => hl k (List.mem_cons_of_mem _ hk)
    show gti (hitE n mv act l (if labM n (gti mv k) = act then nx.set (gti mv k).tt.toNat true else nx)) v = true ↔ _
    by_cases h : labM n (gti mv k) = act
    · rw [if_pos h, hitE_spec hmv l _ (by simpa using hn) hl2, gtiS (by rw [hn]; omega)]
      by_cases e : (gti mv k).tt.toNat = v
      · rw [if_pos e]
        exact ⟨fun _ => .inr ⟨k, List.mem_cons_self, by omega, h⟩, fun _ => .inl rfl⟩
      · rw [if_neg e]
        constructor
        · rintro (g | ⟨k', g1, g2⟩)
          · exact .inl g
          · exact .inr ⟨k', List.mem_cons_of_mem _ g1, g2⟩
        · rintro (g | ⟨k', g1, g2, g3⟩)
          · exact .inl g
          · rcases List.mem_cons.1 g1 with rfl | g1
            · omega
            · exact .inr ⟨k', g1, g2, g3⟩
    · rw [if_neg h, hitE_spec hmv l _ hn hl2]
      constructor
      · rintro (g | ⟨k', g1, g2⟩)
        · exact .inl g
        · exact .inr ⟨k', List.mem_cons_of_mem _ g1, g2⟩
      · rintro (g | ⟨k', g1, g2, g3⟩)
        · exact .inl g
        · rcases List.mem_cons.1 g1 with rfl | g1
          · exact absurd g3 h
          · exact .inr ⟨k', g1, g2, g3⟩
theorem nextE_spec {n : Net} {s : Spc} (hm : MvOk n s) (act : ByteArray) {set : List Bool} (hs : set.length = s.st.length) : ∀ (K : Nat) (v : Nat), gti (nextE n s.mv act set K) v = true ↔ ∃ k, k < s.mv.length ∧ (gti s.mv k).fr.toNat < K ∧ gti set (gti s.mv k).fr.toNat = true ∧ (gti s.mv k).tt = v ∧ labM n (gti s.mv k) = act
  | 0, v => by
    unfold nextE
    constructor
    · intro h
      exfalso
      have h2 : gti (List.replicate set.length false) v = false := by
        unfold gti
        rw [List.getElem?_replicate]
        split <;> rfl
      rw [h] at h2; cases h2
    · rintro ⟨k, _, h, _⟩; omega
  | K + 1, v => by
    have hmv : ∀ k, k < s.mv.length → 0 ≤ (gti s.mv k).tt ∧ (gti s.mv k).tt < (s.st.length : Int) := fun k hk => by obtain ⟨_, _, h1, h2, _⟩ := hm k hk; omega
    unfold nextE
    by_cases h : gti set K = true
    · rw [if_pos h, hitE_spec hmv _ _ (by rw [nextE_len, hs]) (fun k hk => (ixs_mem hk).1), nextE_spec hm act hs K v]
      constructor
      · rintro (⟨k, g1, g2, g3⟩ | ⟨k, g1, g2, g3⟩)
        · exact ⟨k, g1, by omega, g3⟩
        · obtain ⟨k1, k2⟩ := ixs_mem g1
          have e : (gti s.mv k).fr.toNat = K := by omega
          exact ⟨k, k1, by omega, by rw [e]; exact h, g2, g3⟩
      · rintro ⟨k, g1, g2, g3, g4, g5⟩
        by_cases hk : (gti s.mv k).fr.toNat < K
        · exact .inl ⟨k, g1, hk, g3, g4, g5⟩
        · have := (hm k g1).1
          exact .inr ⟨k, mem_ixs g1 (by omega), g4, g5⟩
    · rw [if_neg h, nextE_spec hm act hs K v]
      constructor
      · rintro ⟨k, g1, g2, g3⟩; exact ⟨k, g1, by omega, g3⟩
      · rintro ⟨k, g1, g2, g3, g4⟩
        refine ⟨k, g1, ?_, g3, g4⟩
        by_cases e : (gti s.mv k).fr.toNat = K
        · rw [e] at g3; exact absurd g3 h
        · omega
def labT (n : Net) (t : Int) : ByteArray := (gti n.trans t.toNat).label
inductive RunW (n : Net) (m0 : List Int) : List ByteArray → List Int → Prop
  | nil : RunW n m0 [] m0
  | sil (w : List ByteArray) (x y : List Int) (t : Int) (h : RunW n m0 w x) (hf : FireE n x t = (y, 0)) (hl : labT n t = noB) : RunW n m0 w y
  | act (w : List ByteArray) (x y : List Int) (t : Int) (h : RunW n m0 w x) (hf : FireE n x t = (y, 0)) (hl : labT n t ≠ noB) : RunW n m0 (w ++ [labT n t]) y
theorem wsetE_snoc (n : Net) (s : Spc) (w : List ByteArray) (a : ByteArray) : wsetE n s (w ++ [a]) = stepE n s.mv a (wsetE n s w) := by
  unfold wsetE
  rw [List.foldl_append]; rfl
theorem wsetE_len {n : Net} {s : Spc} (hm : MvOk n s) (w : List ByteArray) : (wsetE n s w).length = s.st.length := by
  unfold wsetE
  have key : ∀ (w : List ByteArray) (set : List Bool), set.length = s.st.length → (w.foldl (fun set a => stepE n s.mv a set) set).length = s.st.length := by
    intro w
    induction w with
    | nil => intro set h; exact h
    | cons a w ih => intro set h; exact ih _ (Aw.stepE_len hm a h)
  exact key w _ (Aw.startE_len hm)
theorem XS.move {n : Net} {m : List Int} {most : Int} {s : Spc} (h : XS n m most s) (hf : s.full = true) {i : Nat} (hi : i < s.st.length) {t : Int} {y : List Int} (he : FireE n (gti s.st i) t = (y, 0)) : ∃ k, k < s.mv.length ∧ (gti s.mv k).fr = i ∧ (gti s.mv k).sym = t ∧ 0 ≤ (gti s.mv k).tt ∧ (gti s.mv k).tt.toNat < s.st.length ∧ gti s.st (gti s.mv k).tt.toNat = y := by
  have hx := h.si.gti hi
  -- what fires is enabled
  have hon : t ∈ onS n s.st i := by
    have h1 : FireE n (gti s.st i) t = fireE n (gti s.st i) t := by unfold FireE; rw [if_pos hx]
    rw [h1] at he
    unfold fireE at he
    split at he
    · cases he
    · rename_i hr
      split at he
      · rename_i hen
        have key : ∀ (ts : List Tr) (q : Nat) (j : Nat), j < ts.length → enB (gti ts j) (gti s.st i) = true → ((q + j : Nat) : Int) ∈ enabledL (gti s.st i) q ts := by
          intro ts
          induction ts with
          | nil => intro q j hj; simp at hj
          | cons a ts ih =>
            intro q j hj hb
            rw [enabledL]
            cases j with
            | zero =>
              have : enB a (gti s.st i) = true := hb
              rw [if_pos this]; exact List.mem_cons_self
            | succ j =>
              have := ih (q + 1) j (by simpa using hj) hb
              rw [show q + 1 + j = q + (j + 1) by omega] at this
              split
              · exact List.mem_cons_of_mem _ this
              · exact this
        have := key n.trans 0 t.toNat (by omega) hen
        rw [Nat.zero_add, Int.toNat_of_nonneg (by omega)] at this
        exact this
      · cases he
  have hne : mvOf s.st i (FireE n (gti s.st i) t) t ≠ [] := fun e => by rw [h.gap hi hon e] at hf; cases hf
  unfold mvOf at hne
  by_cases hc : (FireE n (gti s.st i) t).2 = 0 ∧ 0 ≤ findI s.st (FireE n (gti s.st i) t).1
  · have hmem : (⟨i, findI s.st (FireE n (gti s.st i) t).1, t⟩ : Mvx) ∈ s.mv := by
      rw [h.mv]
      refine rows_mem.2 ⟨i, hi, t, hon, ?_⟩
      unfold mvOf
      rw [if_pos hc]; exact List.mem_cons_self
    obtain ⟨k, hk, hke⟩ := mem_gti' hmem
    have hg := findI_gti hc.2
    rw [he] at hke hg hc
    exact ⟨k, hk, by rw [hke], by rw [hke], by rw [hke]; exact hc.2, by rw [hke]; exact hg.2, by rw [hke]; exact hg.1⟩
  · rw [if_neg hc] at hne; exact absurd rfl hne
theorem labM_labT (n : Net) (m : Mvx) : labM n m = labT n m.sym := rfl
theorem startE_zero {n : Net} {s : Spc} (hm : MvOk n s) (h1 : 1 ≤ s.st.length) : gti (startE n s) 0 = true := by
  refine (closeE_spec hm (by simp)).1 0 ?_
  rw [gtiS (by simp; omega)]; simp
theorem XS.words {n : Net} {m : List Int} {most : Int} {s : Spc} (h : XS n m most s) (hf : s.full = true) {w : List ByteArray} {x : List Int} (hr : RunW n m w x) : ∃ i, i < s.st.length ∧ gti s.st i = x ∧ gti (wsetE n s w) i = true := by
  induction hr with
  | nil => exact ⟨0, h.si.ne, h.st0, startE_zero h.ok h.si.ne⟩
  | sil w x y t _ hfi hl ih =>
    obtain ⟨i, hi, rfl, hs⟩ := ih
    obtain ⟨k, k1, k2, k3, k4, k5, k6⟩ := h.move hf hi hfi
    refine ⟨_, k5, k6, ?_⟩
    have hcl : ∀ set : List Bool, set.length = s.st.length → gti (closeE n s.mv set) i = true → gti (closeE n s.mv set) (gti s.mv k).tt.toNat = true := fun set hsl hg =>
      (closeE_spec h.ok hsl).2.1 k k1 (by rw [labM_labT, k3]; exact hl) (by rw [k2, Int.toNat_natCast]; exact hg)
    by_cases hwn : w = []
    · subst hwn
      exact hcl _ (by simp) hs
    · have hwe := (List.dropLast_concat_getLast hwn).symm
      rw [hwe, wsetE_snoc] at hs ⊢
      exact hcl _ (by rw [nextE_len, wsetE_len h.ok]) hs
  | act w x y t _ hfi hl ih =>
    obtain ⟨i, hi, rfl, hs⟩ := ih
    obtain ⟨k, k1, k2, k3, k4, k5, k6⟩ := h.move hf hi hfi
    refine ⟨_, k5, k6, ?_⟩
    rw [wsetE_snoc]
    have hwl := wsetE_len h.ok w
    refine (closeE_spec h.ok (by rw [nextE_len, hwl])).1 _ ?_
    rw [nextE_spec h.ok _ hwl]
    exact ⟨k, k1, by rw [k2, Int.toNat_natCast, hwl]; exact hi, by rw [k2, Int.toNat_natCast]; exact hs, by omega, by rw [labM_labT, k3]⟩
theorem XS.sound {n : Net} {m : List Int} {most : Int} {s : Spc} (h : XS n m most s) : ∀ (w : List ByteArray), (∀ a ∈ w, a ≠ noB) → ∀ i, gti (wsetE n s w) i = true → RunW n m w (gti s.st i) := by
  have hsil : ∀ (w : List ByteArray) (set : List Bool), set.length = s.st.length → (∀ v : Nat, gti set v = true → RunW n m w (gti s.st v)) → ∀ v, gti (closeE n s.mv set) v = true → RunW n m w (gti s.st v) := fun w set hsl h0 =>
    (closeE_spec h.ok hsl).2.2 (fun v => RunW n m w (gti s.st v)) h0 (fun k hk hl hr => .sil w _ _ _ hr (h.fire hk) hl)
  intro w
  induction hw : w.length generalizing w with
  | zero =>
    have := List.eq_nil_of_length_eq_zero hw
    subst this
    intro _ i hi
    refine hsil [] _ (by simp) (fun v hv => ?_) i hi
    rw [gtiS (by have := h.si.ne; simp; omega)] at hv
    by_cases e : 0 = v
    · rw [← e, h.st0]; exact .nil
    · rw [if_neg e] at hv
      exfalso
      have h2 : gti (List.replicate s.st.length false) v = false := by
        unfold gti
        rw [List.getElem?_replicate]
        split <;> rfl
      rw [hv] at h2; cases h2
  | succ q ih =>
    intro hne i hi
    have hwn : w ≠ [] := fun e => by rw [e] at hw; simp at hw
    obtain ⟨w', a, rfl⟩ : ∃ w' a, w = w' ++ [a] := ⟨w.dropLast, w.getLast hwn, (List.dropLast_concat_getLast hwn).symm⟩
    rw [wsetE_snoc] at hi
    have hwl := wsetE_len h.ok w'
    refine hsil (w' ++ [a]) _ (by rw [nextE_len, hwl]) (fun v hv => ?_) i hi
    rw [nextE_spec h.ok _ hwl] at hv
    obtain ⟨k, k1, k2, k3, k4, k5⟩ := hv
    have h1 := ih w' (by simpa using hw) (fun a ha => hne a (List.mem_append_left _ ha)) _ k3
    have h2 := h.fire k1
    rw [k4, Int.toNat_natCast] at h2
    have ha : a ≠ noB := hne a (by simp)
    rw [← k5, labM_labT] at ha ⊢
    exact .act w' _ _ _ h1 h2 ha
end Go.Proofs.Ytmhbfoaecebobaa
end
section
namespace Go.Proofs.Ytmhbfoaecebobaa
set_option linter.unusedSimpArgs false
set_option linter.unusedVariables false
open Go.RowKit
def lblsW (n : Net) (l : List Int) : List ByteArray := (l.map (labT n)).filter fun a => decide (a ≠ noB)
theorem lblsW_snoc (n : Net) (l : List Int) (t : Int) : lblsW n (l ++ [t]) = lblsW n l ++ if labT n t = noB then [] else [labT n t] := by
  unfold lblsW
  rw [List.map_append, List.filter_append]
  by_cases h : labT n t = noB
  · simp [h]
  · simp [h]
theorem goE_run {n : Net} {m0 : List Int} : ∀ (l : List Int) (x : List Int), goE n m0 l = some x → RunW n m0 (lblsW n l) x := by
  intro l
  induction hl : l.length generalizing l with
  | zero =>
    intro x h
    have := List.eq_nil_of_length_eq_zero hl
    subst this
    cases h
    exact .nil
  | succ q ih =>
    intro x h
    have hne : l ≠ [] := fun e => by rw [e] at hl; simp at hl
    obtain ⟨l', t, rfl⟩ : ∃ l' t, l = l' ++ [t] := ⟨l.dropLast, l.getLast hne, (List.dropLast_concat_getLast hne).symm⟩
    rw [goE_append] at h
    cases e : goE n m0 l' with
    | none => rw [e] at h; cases h
    | some y =>
      rw [e] at h
      have h1 := ih l' (by simpa using hl) y e
      replace h : goE n y [t] = some x := h
      unfold goE at h
      split at h
      · rename_i h0
        have hx : (FireE n y t).1 = x := Option.some.inj h
        have hf : FireE n y t = (x, 0) := by rw [← hx, ← h0]
        rw [lblsW_snoc]
        by_cases hl2 : labT n t = noB
        · rw [if_pos hl2, List.append_nil]
          exact .sil _ _ _ _ h1 hf hl2
        · rw [if_neg hl2]
          exact .act _ _ _ _ h1 hf hl2
      · cases h
structure GI (n : Net) (w : List ByteArray) (m0 : List Int) (q : List Nd) : Prop where
  at_ : ∀ i, i < q.length → 0 ≤ (gti q i).k ∧ (gti q i).k ≤ w.length ∧ goE n m0 (gti q i).run = some (gti q i).m ∧ lblsW n (gti q i).run = w.take (gti q i).k.toNat ∧ (gti q i).run.length ≤ i
theorem GI.step {n : Net} {w : List ByteArray} {m0 : List Int} {q : List Nd} {i : Nat} (h : GI n w m0 q) (hi : i < q.length) {x : Nd} (hx : x = gti q i) (t : Nat) : GI n w m0 (stepF n w x q t) := by
  subst hx
  unfold stepF
  split
  · exact h
  · rename_i k hk
    split
    · exact h
    · rename_i hc
      rw [not_or] at hc
      obtain ⟨a1, a2, a3, a4, a5⟩ := h.at_ i hi
      have h0 : (FireE n (gti q i).m t).2 = 0 := Decidable.not_not.1 hc.1
      refine ⟨fun j hj => ?_⟩
      rw [gti_app]
      split
      · rename_i hlt; exact h.at_ j hlt
      · have hj2 : j = q.length := by simp at hj; omega
        subst hj2
        rw [Nat.sub_self]
        have e : gti [(⟨k, (FireE n (gti q i).m t).1, (gti q i).run ++ [(t : Int)]⟩ : Nd)] 0 = ⟨k, (FireE n (gti q i).m t).1, (gti q i).run ++ [(t : Int)]⟩ := rfl
        rw [e]
        have hgo : goE n m0 ((gti q i).run ++ [(t : Int)]) = some (FireE n (gti q i).m t).1 := by
          rw [goE_append, a3]
          show goE n (gti q i).m [(t : Int)] = _
          unfold goE
          rw [if_pos h0]; rfl
        have hlt : labT n (t : Int) = (gti n.trans t).label := rfl
        unfold lblK at hk
        split at hk
        · rename_i hl
          cases hk
          refine ⟨a1, a2, hgo, ?_, by simp; omega⟩
          rw [lblsW_snoc, if_pos (by rw [hlt]; exact hl), List.append_nil, a4]
        · rename_i hl
          split at hk
          · cases hk
          · rename_i hh
            rw [not_or] at hh
            cases hk
            refine ⟨by show 0 ≤ (gti q i).k + 1; omega, by show (gti q i).k + 1 ≤ (w.length : Int); omega, hgo, ?_, by simp; omega⟩
            have hwl : gti w (gti q i).k.toNat = (gti n.trans t).label := Decidable.not_not.1 hh.2
            rw [lblsW_snoc, if_neg (by rw [hlt]; exact hl), a4, hlt, ← hwl]
            rw [show ((gti q i).k + 1).toNat = (gti q i).k.toNat + 1 by omega, List.take_add_one, gti_get (by omega)]
            rfl
theorem GI.round {n : Net} {w : List ByteArray} {m0 : List Int} {most : Int} {q : List Nd} {i : Nat} (h : GI n w m0 q) (hi : i < q.length) : ∀ k, GI n w m0 (roundF n w most (gti q i) q k)
  | 0 => h
  | k + 1 => by
    have h1 := GI.round (most := most) h hi k
    have h2 := roundF_ge n w most (gti q i) q k
    have h3 := roundF_at (n := n) (w := w) (most := most) (x := gti q i) hi k
    unfold roundF
    split
    · exact h1.step (i := i) (by omega) h3.symm k
    · exact h1
theorem stepF_sub (n : Net) (w : List ByteArray) (x : Nd) (q : List Nd) (t : Nat) {z : Int × List Int} (h : z ∈ q.map nkey) : z ∈ (stepF n w x q t).map nkey := by
  rcases stepF_pre n w x q t with e | ⟨y, e⟩ <;> rw [e]
  · exact h
  · rw [List.map_append]; exact List.mem_append_left _ h
theorem roundF_sub (n : Net) (w : List ByteArray) (most : Int) (x : Nd) (q : List Nd) {z : Int × List Int} (h : z ∈ q.map nkey) : ∀ k, z ∈ (roundF n w most x q k).map nkey
  | 0 => h
  | k + 1 => by
    have h1 := roundF_sub n w most x q h k
    unfold roundF
    split
    · exact stepF_sub n w x _ k h1
    · exact h1
theorem stepF_in {n : Net} {w : List ByteArray} {x : Nd} {q : List Nd} {t : Nat} {k : Int} (hk : lblK n w x t = some k) (h0 : (FireE n x.m t).2 = 0) : (k, (FireE n x.m t).1) ∈ (stepF n w x q t).map nkey := by
  unfold stepF
  rw [hk]
  dsimp only
  split
  · rename_i hc
    rcases hc with hc | hc
    · exact absurd h0 hc
    · exact hc
  · rw [List.map_append]
    exact List.mem_append_right _ (by simp [nkey])
theorem roundF_in {n : Net} {w : List ByteArray} {most : Int} {x : Nd} {q : List Nd} : ∀ K, ((roundF n w most x q K).length : Int) ≤ most → ∀ t, t < K → ∀ k, lblK n w x t = some k → (FireE n x.m t).2 = 0 → (k, (FireE n x.m t).1) ∈ (roundF n w most x q K).map nkey
  | 0, _, t, ht, _, _, _ => by omega
  | K + 1, hl, t, ht, k, hk, h0 => by
    unfold roundF at hl ⊢
    by_cases hc : ((roundF n w most x q K).length : Int) ≤ most
    · rw [if_pos hc] at hl ⊢
      by_cases e : t = K
      · subst e; exact stepF_in hk h0
      · exact stepF_sub n w x _ K (roundF_in K hc t (by omega) k hk h0)
    · rw [if_neg hc] at hl; exact absurd hl hc
def CF (n : Net) (w : List ByteArray) (i : Nat) (q : List Nd) : Prop := ∀ j, j < i → ∀ t, t < n.trans.length → ∀ k, lblK n w (gti q j) t = some k → (FireE n (gti q j).m t).2 = 0 → (k, (FireE n (gti q j).m t).1) ∈ q.map nkey
def ND (n : Net) (w : List ByteArray) (i : Nat) (q : List Nd) : Prop := ∀ j, j < i → doneF n w (gti q j) = false
theorem srch_big {n : Net} {w : List ByteArray} {most : Int} {q : List Nd} (hq : most < q.length) : ∀ (f i : Nat) (l : List Int) (e : Int), most.toNat < f + i → (i : Int) ≤ most → srchF n w most f i q = (false, l, e) → e = 13
  | 0, i, l, e, hf, hi, h => by omega
  | f + 1, i, l, e, hf, hi, h => by
    unfold srchF at h
    by_cases hlt : (i : Int) < most
    · rw [if_pos ⟨by omega, hlt⟩] at h
      split at h
      · cases h
      · rw [roundF_id (by omega)] at h
        exact srch_big hq f (i + 1) l e (by omega) (by omega) h
    · rw [if_neg (by omega), if_pos (by omega)] at h
      cases h; rfl
theorem srch_no {n : Net} {w : List ByteArray} {most : Int} {z : Int × List Int} : ∀ (f i : Nat) (q : List Nd) (l : List Int), most.toNat < f + i → (i : Int) ≤ most → i ≤ q.length → z ∈ q.map nkey → CF n w i q → ND n w i q → srchF n w most f i q = (false, l, 0) → l = [] ∧ ∃ q', z ∈ q'.map nkey ∧ CF n w q'.length q' ∧ ND n w q'.length q'
  | 0, i, q, l, hf, hi, _, _, _, _, h => by omega
  | f + 1, i, q, l, hf, hi, hiq, hz, hc, hn, h => by
    unfold srchF at h
    by_cases hlt : i < q.length ∧ (i : Int) < most
    · rw [if_pos hlt] at h
      split at h
      · cases h
      · rename_i hd
        have hge := roundF_ge n w most (gti q i) q n.trans.length
        have hat := fun j (hj : j < q.length) => roundF_at (n := n) (w := w) (most := most) (x := gti q i) hj n.trans.length
        have hfit : ((roundF n w most (gti q i) q n.trans.length).length : Int) ≤ most := by
          by_cases hbig : most < (roundF n w most (gti q i) q n.trans.length).length
          · have := srch_big hbig f (i + 1) l 0 (by omega) (by omega) h
            omega
          · omega
        refine srch_no f (i + 1) _ l (by omega) (by omega) (by omega) (roundF_sub n w most _ q hz _) (fun j hj t ht k hk h0 => ?_) (fun j hj => ?_) h
        · rw [hat j (by omega)] at hk h0 ⊢
          by_cases e : j = i
          · subst e
            exact roundF_in _ hfit t ht k hk h0
          · exact roundF_sub n w most _ q (hc j (by omega) t ht k hk h0) _
        · rw [hat j (by omega)]
          by_cases e : j = i
          · subst e
            simpa using hd
          · exact hn j (by omega)
    · rw [if_neg hlt] at h
      by_cases hbig : most < q.length
      · rw [if_pos hbig] at h; simp at h
      · rw [if_neg hbig] at h
        cases h
        have e : i = q.length := by omega
        subst e
        exact ⟨rfl, q, hz, hc, hn⟩
theorem srch_yes {n : Net} {w : List ByteArray} {m0 : List Int} {most : Int} : ∀ (f i : Nat) (q : List Nd) (l : List Int) (e : Int), GI n w m0 q → srchF n w most f i q = (true, l, e) → goE n m0 l = some (oneL n.places.toNat n.sink) ∧ lblsW n l = w ∧ (l.length : Int) ≤ most
  | 0, i, q, l, e, _, h => by cases h
  | f + 1, i, q, l, e, hg, h => by
    unfold srchF at h
    by_cases hlt : i < q.length ∧ (i : Int) < most
    · rw [if_pos hlt] at h
      split at h
      · rename_i hd
        obtain ⟨a1, a2, a3, a4, a5⟩ := hg.at_ i hlt.1
        unfold doneF at hd
        simp only [Bool.and_eq_true, decide_eq_true_eq] at hd
        cases h
        refine ⟨by rw [a3, hd.2], ?_, by omega⟩
        rw [a4, hd.1, Int.toNat_natCast, List.take_length]
      · exact srch_yes f (i + 1) _ l e (hg.round hlt.1 _) h
    · rw [if_neg hlt] at h; cases h
theorem srch_nil {n : Net} {w : List ByteArray} {most : Int} : ∀ (f i : Nat) (q : List Nd) (l : List Int) (e : Int), srchF n w most f i q = (false, l, e) → l = []
  | 0, i, q, l, e, h => by cases h; rfl
  | f + 1, i, q, l, e, h => by
    unfold srchF at h
    split at h
    · split at h
      · cases h
      · exact srch_nil f (i + 1) _ l e h
    · cases h; rfl
theorem fire_in {n : Net} {x y : List Int} {t : Int} (h : FireE n x t = (y, 0)) : ∃ q : Nat, t = q ∧ q < n.trans.length := by
  unfold FireE at h
  split at h
  · unfold fireE at h
    split at h
    · cases h
    · rename_i hr
      exact ⟨t.toNat, by omega, by omega⟩
  · cases h
theorem closed_run {n : Net} {w : List ByteArray} {m0 : List Int} {q : List Nd} (h0 : ((0 : Int), m0) ∈ q.map nkey) (hc : CF n w q.length q) {v : List ByteArray} {x : List Int} (hr : RunW n m0 v x) : v = w.take v.length → ((v.length : Int), x) ∈ q.map nkey := by
  induction hr with
  | nil => exact fun _ => h0
  | sil v x y t _ hf hl ih =>
    intro hv
    have h1 := ih hv
    obtain ⟨nd, hnd, he⟩ := List.mem_map.1 h1
    obtain ⟨j, hj, rfl⟩ := mem_gti' hnd
    unfold nkey at he
    obtain ⟨e1, e2⟩ := Prod.mk.injEq .. ▸ he
    obtain ⟨q0, rfl, hq0⟩ := fire_in hf
    have := hc j hj q0 hq0 (v.length : Int) (by
      unfold lblK
      rw [if_pos (show (gti n.trans q0).label = Aw.eBA from hl), e1]) (by rw [e2, hf])
    rw [e2, hf] at this
    exact this
  | act v x y t _ hf hl ih =>
    intro hv
    have hlen : (v ++ [labT n t]).length = v.length + 1 := by simp
    rw [hlen] at hv ⊢
    have hwl : v.length < w.length := by
      have h2 := congrArg List.length hv
      rw [hlen, List.length_take] at h2
      omega
    rw [List.take_add_one, gti_get hwl] at hv
    have hv1 : v = w.take v.length ∧ labT n t = gti w v.length := by
      have h3 := List.append_inj hv (by rw [List.length_take]; omega)
      refine ⟨h3.1, ?_⟩
      have h4 := h3.2
      simpa using h4
    have h1 := ih hv1.1
    obtain ⟨nd, hnd, he⟩ := List.mem_map.1 h1
    obtain ⟨j, hj, rfl⟩ := mem_gti' hnd
    unfold nkey at he
    obtain ⟨e1, e2⟩ := Prod.mk.injEq .. ▸ he
    obtain ⟨q0, rfl, hq0⟩ := fire_in hf
    have := hc j hj q0 hq0 ((v.length : Int) + 1) (by
      unfold lblK
      rw [if_neg (show ¬ (gti n.trans q0).label = Aw.eBA from hl), if_neg, e1]
      rw [e1, Int.toNat_natCast]
      rintro (g | g)
      · omega
      · exact g hv1.2.symm) (by rw [e2, hf])
    rw [e2, hf] at this
    exact_mod_cast this
theorem fits_ok {n : Net} {w : List ByteArray} {most : Int} {b : Bool} {l : List Int} {e : Int} (h : FitsE n w most = (b, l, e)) (he : b = true ∨ e = 0) : (wfB n = true ∧ allN w = true) ∧ 1 ≤ most ∧ most ≤ 2000 ∧ srchF n w most (most.toNat + 1) 0 [⟨0, oneL n.places.toNat n.source, []⟩] = (b, l, e) := by
  unfold FitsE at h
  split at h
  · rename_i hw
    cases h
    rcases he with he | he
    · cases he
    · exact absurd he hw
  · rename_i hw
    split at h
    · cases h
      rcases he with he | he
      · cases he
      · simp at he
    · rename_i hm
      refine ⟨?_, by omega, by omega, h⟩
      unfold Aw.wordsE at hw
      cases h1 : wfB n <;> cases h2 : allN w <;> simp_all
theorem fits_true {n : Net} {w : List ByteArray} {most : Int} {l : List Int} {e : Int} (h : FitsE n w most = (true, l, e)) : goE n (oneL n.places.toNat n.source) l = some (oneL n.places.toNat n.sink) ∧ lblsW n l = w ∧ (l.length : Int) ≤ most := by
  obtain ⟨_, _, _, h4⟩ := fits_ok h (.inl rfl)
  refine srch_yes _ _ _ _ _ ⟨fun i hi => ?_⟩ h4
  have : i = 0 := by simp at hi; omega
  subst this
  exact ⟨Int.le_refl 0, by simp [gti], rfl, rfl, Nat.le_refl _⟩
theorem fits_nil {n : Net} {w : List ByteArray} {most : Int} {l : List Int} {e : Int} (h : FitsE n w most = (false, l, e)) : l = [] := by
  unfold FitsE at h
  split at h
  · cases h; rfl
  · split at h
    · cases h; rfl
    · exact srch_nil _ _ _ _ _ h
theorem fits_false {n : Net} {w : List ByteArray} {most : Int} {l : List Int} (h : FitsE n w most = (false, l, 0)) : ¬ RunW n (oneL n.places.toNat n.source) w (oneL n.places.toNat n.sink) := by
  obtain ⟨_, h2, h3, h4⟩ := fits_ok h (.inr rfl)
  obtain ⟨_, q, hz, hc, hn⟩ := srch_no (z := ((0 : Int), oneL n.places.toNat n.source)) _ 0 _ _ (by omega) (by omega) (Nat.zero_le _) (by simp [nkey]) (fun j hj => by omega) (fun j hj => by omega) h4
  intro hr
  have := closed_run hz hc hr (by rw [List.take_length])
  obtain ⟨nd, hnd, he⟩ := List.mem_map.1 this
  obtain ⟨j, hj, rfl⟩ := mem_gti' hnd
  unfold nkey at he
  obtain ⟨e1, e2⟩ := Prod.mk.injEq .. ▸ he
  have hd := hn j hj
  unfold doneF at hd
  rw [e1, e2] at hd
  simp at hd
theorem accepts_run {n : Net} {w : List ByteArray} {most : Int} {b : Bool} (h : acceptsE n w most = (b, 0)) : zbc n = true ∧ (b = true ↔ RunW n (oneL n.places.toNat n.source) w (oneL n.places.toNat n.sink)) := by
  unfold acceptsE at h
  split at h
  · simp at h
  · rename_i hv
    rw [not_or] at hv
    have hvb : zbc n = true := by simpa using hv.1
    split at h
    · rename_i hg
      have := congrArg Prod.snd h
      exact absurd this hg
    · split at h
      · simp at h
      · split at h
        · rename_i hw
          have := congrArg Prod.snd h
          exact absurd this hw
        · rename_i hw
          have hw0 : (wholeE n most).2 = 0 := Decidable.not_not.1 hw
          have hone : oneE n n.source = (oneL n.places.toNat n.source, 0) := by unfold oneE; rw [if_pos hvb]
          have hsink : oneE n n.sink = (oneL n.places.toNat n.sink, 0) := by unfold oneE; rw [if_pos hvb]
          have hex : (explE n (oneL n.places.toNat n.source) most).2 = 0 ∧ (wholeE n most).1 = (explE n (oneL n.places.toNat n.source) most).1 ∧ (wholeE n most).1.full = true := by
            unfold wholeE at hw0 ⊢
            rw [hone] at hw0 ⊢
            simp only [ne_eq, not_true_eq_false, if_false] at hw0 ⊢
            split at hw0
            · simp at hw0
            · rename_i hc
              rw [if_neg hc]
              refine ⟨hw0, rfl, ?_⟩
              cases hf : (explE n (oneL n.places.toNat n.source) most).1.full with
              | true => rfl
              | false => exact absurd ⟨hw0, hf⟩ hc
          obtain ⟨g1, g2, g3⟩ := hex
          have hX := XS.of g1
          rw [← g2] at hX
          generalize (wholeE n most).1 = s at h hX g3
          refine ⟨hvb, ?_⟩
          have hb : accS n s w = b := congrArg Prod.fst h
          rw [← hb]
          unfold accS
          rw [hsink, Bool.and_eq_true, decide_eq_true_eq]
          have hnames : ∀ a ∈ w, a ≠ noB := by
            intro a ha e
            apply hv.2
            rw [List.any_eq_true]
            refine ⟨a, ha, ?_⟩
            rw [e]
            decide +kernel
          constructor
          · rintro ⟨f1, f2⟩
            have := hX.sound w hnames _ f2
            rwa [(findI_gti f1).1] at this
          · intro hr
            obtain ⟨i, i1, i2, i3⟩ := hX.words g3 hr
            have := hX.find i1
            rw [i2] at this
            simp only
            rw [this, Int.toNat_natCast]
            exact ⟨by omega, i3⟩
theorem srch_e {n : Net} {w : List ByteArray} {most : Int} : ∀ (f i : Nat) (q : List Nd) (l : List Int) (e : Int), srchF n w most f i q = (true, l, e) → e = 0
  | 0, i, q, l, e, h => by cases h
  | f + 1, i, q, l, e, h => by
    unfold srchF at h
    split at h
    · split at h
      · cases h; rfl
      · exact srch_e f (i + 1) _ l e h
    · cases h
theorem goE_range {n : Net} : ∀ (l m : List Int) (x : List Int), goE n m l = some x → ∀ t ∈ l, 0 ≤ t ∧ t < n.trans.length
  | [], m, x, h => by simp
  | t :: ts, m, x, h => by
    unfold goE at h
    split at h
    · rename_i h0
      obtain ⟨q, rfl, hq⟩ := fire_in (n := n) (x := m) (t := t) (y := (FireE n m t).1) (by rw [← h0])
      intro u hu
      rcases List.mem_cons.1 hu with rfl | hu
      · exact ⟨by omega, by omega⟩
      · exact goE_range ts _ x h u hu
    · cases h
theorem lang_law {n : Net} {w : List ByteArray} {most : Int} {b z : Bool} {l : List Int} {e f : Int} (hF : FitsE n w most = (b, l, e)) (hA : acceptsE n w most = (z, f)) :
    (e = 0 → f = 0 → b = z) ∧ (b = false → l = []) ∧ (b = true → e = 0 ∧ goE n (oneL n.places.toNat n.source) l = some (oneL n.places.toNat n.sink) ∧ lblsW n l = w ∧ (l.length : Int) ≤ most) := by
  refine ⟨fun he hf => ?_, fun hb => ?_, fun hb => ?_⟩
  · subst he hf
    have h1 := (accepts_run hA).2
    cases b with
    | true =>
      obtain ⟨g1, g2, _⟩ := fits_true hF
      have := goE_run l _ g1
      rw [g2] at this
      exact (h1.2 this).symm
    | false =>
      have h2 := fits_false hF
      cases z with
      | true => exact absurd (h1.1 rfl) h2
      | false => rfl
  · subst hb; exact fits_nil hF
  · subst hb
    obtain ⟨_, _, _, h4⟩ := fits_ok hF (.inl rfl)
    exact ⟨srch_e _ _ _ _ _ h4, fits_true hF⟩
end Go.Proofs.Ytmhbfoaecebobaa
end
section
namespace Go.Proofs.Ytmhbfoaecebobaa.Aw
set_option linter.unusedSimpArgs false
set_option linter.unusedVariables false
open Go.RowKit
section
variable {P : Program} {N : Nat} {l : List Oper} {F F1 : Frm} {σ σ1 : List Ob} {Q : Exit → Frm → List Ob → Prop}
end
end Go.Proofs.Ytmhbfoaecebobaa.Aw
end
section
namespace Go.Proofs.Ytmhbfoaecebobaa.Aw
set_option linter.unusedSimpArgs false
set_option linter.unusedVariables false
set_option linter.unusedSectionVars false
open Go Go.RowKit Go.Proofs
variable {P : Program} [IsP P]
theorem fire_pf (n : Net) (m : List Int) (t : Int) (hm : markB n m = true) : Pure P 63 [eN n, eL eI m, eI t] (.tup [eL eI (FireE n m t).1, eI (FireE n m t).2]) :=
  retI_pure (ent_of Try.func63 rfl rfl) fun G vargs hst hsz hrep => by
    obtain ⟨vt, v, rfl, h1, h2⟩ := args3 hst hsz hrep
    have := fire_any n m t vt v _ _ _ _ G.w h1 h2 hm
    unfold FireE
    rw [if_pos hm]
    exact this
theorem marking_pf (n : Net) (m : List Int) : Pure P 62 [eN n, eL eI m] (eB (markB n m)) :=
  retB_pure (ent_of Try.func62 rfl rfl) fun G vargs hst hsz hrep => by
    obtain ⟨vt, v, rfl, h1, h2⟩ := args2 hst hsz hrep
    exact marking_any n m vt v _ _ _ _ G.w h1 h2
theorem run_ok_pf (n : Net) (m l x : List Int) (hm : markB n m = true) (hl : l.length ≤ 1000) (hg : goE n m l = some x) : Pure P 19 [eN n, eL eI m, eL eI l] (.tup [eL eI x, eI l.length, eI 0]) := by
  have h1 := marking_pf (P := P) n m
  rw [hm] at h1
  have hml := markB_len hm
  have h2 := cloneI_pf (P := P) m (by omega) hml.1
  have hln : Lo 0 (.ref (eN n).cells) := .ref _ (lo_N n).cells
  refine aw_fn (by rw [IsP.eq (P := P)]; exact Try.func19) rfl rfl rfl rfl rfl (zah (lo_N n) (zah lo_I (zah lo_I zap))) (.tup _ (zah lo_I (zah (.s _) (zah (.s _) zap)))) (by simp only [argF]; rfl) ?_
  repeat (first | refine zaf ?_ | refine zak ?_ | refine zad ?_ | refine zal ?_ | refine zac ?_)
  refine zae ?_
  refine zab rfl rfl (zaa rfl) (does_box rfl rfl rfl rfl) ?_
  refine za5 (wk_froz (id := 0) rfl) (za5 (wk_ref (d := 3) rfl rfl rfl) ?_)
  refine zab rfl rfl (zaa rfl) (mv_s (.inr rfl) rfl) ?_
  refine zab rfl rfl (zaa rfl) (mv_s (.inr rfl) rfl) ?_
  refine zab rfl rfl (zaa rfl) (mv_s (.inr rfl) rfl) ?_
  refine zaj ?_
  repeat (first | refine zaf ?_ | refine zak ?_ | refine zad ?_ | refine zal ?_ | refine zac ?_)
  refine zae ?_
  refine zab rfl rfl (zaa rfl) (zas rfl ta24 ti24 rfl rfl) ?_
  refine zab rfl rfl (zaa rfl) (mv_sl (.inl rfl) rfl) ?_
  refine zab rfl rfl (zaa rfl) (zav rfl rfl (h1) (zar rfl (zar rfl za0))) ?_
  refine zab rfl rfl (zaa rfl) (does_not rfl rfl) ?_
  refine zab rfl rfl (zaa rfl) (mv_s (.inr rfl) rfl) ?_
  refine zaj ?_
  repeat (first | refine zaf ?_ | refine zak ?_ | refine zad ?_ | refine zal ?_ | refine zac ?_)
  refine za6 rfl ?_
  repeat (first | refine zaf ?_ | refine zak ?_ | refine zad ?_ | refine zal ?_ | refine zac ?_)
  refine zae ?_
  refine zab rfl rfl (zaa rfl) (mv_sl (.inl rfl) rfl) ?_
  refine zab rfl rfl (zaa rfl) (za2 rfl ts30 rfl) ?_
  refine zab rfl rfl (zaa rfl) (dec_f (by omega) (does_gtr rfl rfl rfl)) ?_
  refine zab rfl rfl (zaa rfl) (mv_s (.inr rfl) rfl) ?_
  refine zaj ?_
  repeat (first | refine zaf ?_ | refine zak ?_ | refine zad ?_ | refine zal ?_ | refine zac ?_)
  refine za6 rfl ?_
  repeat (first | refine zaf ?_ | refine zak ?_ | refine zad ?_ | refine zal ?_ | refine zac ?_)
  refine zae ?_
  refine zab rfl rfl (zaa rfl) (mv_sl (.inl rfl) rfl) ?_
  refine zab rfl rfl (zaa rfl) (zav rfl rfl (h2) (zar rfl za0)) ?_
  refine zab rfl rfl (zaa rfl) (mv_sl (.inr rfl) rfl) ?_
  refine zaj ?_
  repeat (first | refine zaf ?_ | refine zak ?_ | refine zad ?_ | refine zal ?_ | refine zac ?_)
  refine zae ?_
  refine zab rfl rfl (zaa rfl) (mv_sl (.inl rfl) rfl) ?_
  refine zab rfl rfl (zaa rfl) (za2 rfl ts30 rfl) ?_
  refine zab rfl rfl (zaa rfl) (mv_s (.inl rfl) rfl) ?_
  refine zaj ?_
  repeat (first | refine zaf ?_ | refine zak ?_ | refine zad ?_ | refine zal ?_ | refine zac ?_)
  refine aw_loops (S := Nat × List Int) (fun p => [(2, eL eI l), (3, .ref (eN n).cells), (9, eL eI p.2), (25, eL eI l), (26, eI l.length), (27, eI p.1)]) (fun _ => []) (fun p => p.1 ≤ l.length ∧ markB n p.2 = true ∧ goE n p.2 (l.drop p.1) = some x) (fun p => l.length - p.1) (0, m) (wk_st [] (by decide) trivial ⟨.lo _ lo_I, .lo _ hln, .lo _ lo_I, .lo _ lo_I, .lo _ (by repeat' (first | exact Lo.s _ | exact Lo.emp | exact Lo.any | exact zap | exact zao | refine zah ?_ ?_ | refine zai ?_ ?_ | refine zaq ?_ | refine zan ?_ | refine Lo.cells ?_ | refine Lo.agg _ ?_ | refine Lo.ref _ ?_ | refine Lo.tup _ ?_ | refine Lo.fn _ _ ?_ | refine Lo.sl _ ?_ | intro _)), .lo _ (by repeat' (first | exact Lo.s _ | exact Lo.emp | exact Lo.any | exact zap | exact zao | refine zah ?_ ?_ | refine zai ?_ ?_ | refine zaq ?_ | refine zan ?_ | refine Lo.cells ?_ | refine Lo.agg _ ?_ | refine Lo.ref _ ?_ | refine Lo.tup _ ?_ | refine Lo.fn _ _ ?_ | refine Lo.sl _ ?_ | intro _)), trivial⟩) ⟨Nat.zero_le _, hm, hg⟩ (fun p hp => ?_)
  clear hm h1 h2 hml hg
  obtain ⟨k, m⟩ := p
  obtain ⟨hk, hm, hg⟩ := hp
  replace hk : k ≤ l.length := hk
  replace hm : markB n m = true := hm
  replace hg : goE n m (l.drop k) = some x := hg
  repeat (first | refine zaf ?_ | refine zak ?_ | refine zad ?_ | refine zal ?_ | refine zac ?_)
  all_goals refine zae ?_
  all_goals (refine ops_opP rfl rfl (zaa rfl) (does_lss rfl rfl rfl) (fun h28 => ?_) (fun h28 => ?_))
  all_goals refine zaj ?_
  all_goals (repeat (first | refine zaf ?_ | refine zak ?_ | refine zad ?_ | refine zal ?_ | refine zac ?_))
  all_goals (first | refine aw_true rfl ?_ | refine za6 rfl ?_)
  all_goals (repeat (first | refine zaf ?_ | refine zak ?_ | refine zad ?_ | refine zal ?_ | refine zac ?_))
  all_goals dsimp only at h28
  · have hkt : k < l.length := by omega
    have hix : (l.map eI)[k]? = some (eI (gti l k)) := ix_map hkt
    rw [drop_gti hkt, goE] at hg
    have hf := fire_pf (P := P) n m (gti l k) hm
    have hfm := fun h => FireE_mark (t := gti l k) hm h
    generalize FireE n m (gti l k) = r at hf hfm hg
    by_cases h0 : r.2 = 0
    · rw [if_pos h0] at hg
      refine zae ?_
      refine zab rfl rfl (zaa rfl) (mv_s (.inl rfl) rfl) ?_
      refine zab rfl rfl (zaa rfl) (za1 rfl ts30 ti3 rfl rfl rfl hix rfl) ?_
      refine zab rfl rfl (zaa rfl) (zam rfl ta3 rfl) ?_
      refine zab rfl rfl (zaa rfl) (mv_s (.inr rfl) rfl) ?_
      refine zab rfl rfl (zaa rfl) (mv_s (.inr rfl) rfl) ?_
      refine zaj ?_
      repeat (first | refine zaf ?_ | refine zak ?_ | refine zad ?_ | refine zal ?_ | refine zac ?_)
      refine zae ?_
      refine zab rfl rfl (zaa rfl) (zas rfl ta24 ti24 rfl rfl) ?_
      refine zab rfl rfl (zaa rfl) (mv_sl (.inl rfl) rfl) ?_
      refine zab rfl rfl (zaa rfl) (mv_s (.inl rfl) rfl) ?_
      refine zab rfl rfl (zaa rfl) (zav rfl rfl (hf) (zar rfl (zar rfl (zar rfl za0)))) ?_
      refine zab rfl rfl (zaa rfl) (mv_tup (.inl rfl) rfl) ?_
      refine zab rfl rfl (zaa rfl) (zay rfl rfl rfl) ?_
      refine zab rfl rfl (zaa rfl) (zay rfl rfl rfl) ?_
      refine zab rfl rfl (zaa rfl) (mv_sl (.inr rfl) rfl) ?_
      refine zab rfl rfl (zaa rfl) (mv_s (.inr rfl) rfl) ?_
      refine zaj ?_
      repeat (first | refine zaf ?_ | refine zak ?_ | refine zad ?_ | refine zal ?_ | refine zac ?_)
      refine zae ?_
      refine zab rfl rfl (zaa rfl) (mv_s (.inl rfl) rfl) ?_
      refine zab rfl rfl (zaa rfl) (dec_f (by simp [h0]) (does_neq rfl rfl rfl)) ?_
      refine zaj ?_
      repeat (first | refine zaf ?_ | refine zak ?_ | refine zad ?_ | refine zal ?_ | refine zac ?_)
      refine za6 rfl ?_
      repeat (first | refine zaf ?_ | refine zak ?_ | refine zad ?_ | refine zal ?_ | refine zac ?_)
      refine zae ?_
      refine zab rfl rfl (zaa rfl) (mv_sl (.inl rfl) rfl) ?_
      refine zab rfl rfl (zaa rfl) (mv_sl (.inr rfl) rfl) ?_
      refine zaj ?_
      repeat (first | refine zaf ?_ | refine zak ?_ | refine zad ?_ | refine zal ?_ | refine zac ?_)
      refine zae ?_
      refine zab rfl rfl (zaa rfl) (does_add rfl rfl rfl (IntWalk.i64_in _ (by omega))) ?_
      refine zab rfl rfl (zaa rfl) (mv_s (.inl rfl) rfl) ?_
      refine zaj ?_
      repeat (first | refine zaf ?_ | refine zak ?_ | refine zad ?_ | refine zal ?_ | refine zac ?_)
      exact ⟨(k + 1, r.1), ⟨by show k + 1 ≤ l.length; omega, hfm h0, hg⟩, by show l.length - (k + 1) < l.length - k; omega, wk_st [] (by decide) trivial ⟨.lo _ lo_I, .lo _ hln, .lo _ lo_I, .lo _ lo_I, .lo _ (by repeat' (first | exact Lo.s _ | exact Lo.emp | exact Lo.any | exact zap | exact zao | refine zah ?_ ?_ | refine zai ?_ ?_ | refine zaq ?_ | refine zan ?_ | refine Lo.cells ?_ | refine Lo.agg _ ?_ | refine Lo.ref _ ?_ | refine Lo.tup _ ?_ | refine Lo.fn _ _ ?_ | refine Lo.sl _ ?_ | intro _)), .lo _ (by repeat' (first | exact Lo.s _ | exact Lo.emp | exact Lo.any | exact zap | exact zao | refine zah ?_ ?_ | refine zai ?_ ?_ | refine zaq ?_ | refine zan ?_ | refine Lo.cells ?_ | refine Lo.agg _ ?_ | refine Lo.ref _ ?_ | refine Lo.tup _ ?_ | refine Lo.fn _ _ ?_ | refine Lo.sl _ ?_ | intro _)), trivial⟩⟩
    · rw [if_neg h0] at hg; cases hg
  · have e : k = l.length := by omega
    subst e
    rw [List.drop_length] at hg
    replace hg : m = x := Option.some.inj hg
    subst hg
    (refine aw_exit ?_; repeat (first | refine ath_x ?_ | refine abl_hit ?_ | refine abl_miss rfl ?_ | refine zal ?_ | refine zak ?_ | refine zaf ?_ | refine zad ?_ | refine zac ?_))
    refine zae ?_
    refine zab rfl rfl (zaa rfl) (mv_sl (.inl rfl) rfl) ?_
    refine zab rfl rfl (zaa rfl) (mv_sl (.inl rfl) rfl) ?_
    refine zab rfl rfl (zaa rfl) (za2 rfl ts30 rfl) ?_
    refine zab rfl rfl (zaa rfl) (mv_sl (.inr rfl) rfl) ?_
    refine zab rfl rfl (zaa rfl) (mv_s (.inr rfl) rfl) ?_
    refine zab rfl rfl (zaa rfl) (mv_s (.inr rfl) rfl) ?_
    refine zaj ?_
    repeat (first | refine zaf ?_ | refine zak ?_ | refine zad ?_ | refine zal ?_ | refine zac ?_)
    (refine zbd ?_; repeat (first | refine ath_r ?_ | refine abl_r ?_))
    exact post3 (.inr rfl) rfl rfl rfl (.refl _) (.refl _) (.refl _)
end Go.Proofs.Ytmhbfoaecebobaa.Aw
end
section
namespace Go.Proofs.Ytmhbfoaecebobaa
set_option linter.unusedSimpArgs false
set_option linter.unusedVariables false
set_option linter.unusedSectionVars false
open Go.RowKit
set_option maxHeartbeats 1000000 in
theorem equalS_eq (l : List ByteArray) (lo hi lo2 hi2 : Nat) (v1 v2 : Value) (w : World) (h1 : RdS w lo hi v1 l) (h2 : RdS w lo2 hi2 v2 l) :
    Calls Try.prog 22 #[v1, v2] w fun e w' => e = .returned (.bool true) ∧ Below w.heap.size w w' := by
  obtain ⟨A1, c1, rfl, hc1, hm1⟩ := h1.form
  obtain ⟨A2, c2, rfl, hc2, hm2⟩ := h2.form
  have H1 := Lib.hid h1
  have H2 := Lib.hid h2
  clear h1 h2
  refine zax fun R hR => ?_
  have HR := Lib.hid hR
  clear hR
  go_enter Try.func22, Try.ntmps22
  go_wp2_with fail
  go_loopw [13, 5] (fun v13 _ wr => ∃ (k q : Nat), k ≤ l.length ∧ v13 = .int .i64 k ∧ wr = w.drewN q) (fun v13 _ _ => l.length - (intOf v13).toNat)
  case atStart => exact ⟨0, 0, by omega, rfl, rfl⟩
  case round =>
    obtain ⟨k, q, hk, rfl, rfl⟩ := hrel
    by_cases hlt : k < l.length
    · have hkd : decide ((k : Int) < (l.length : Int)) = true := by simp; omega
      have hkb : (k : Int) < (l.length : Int) := by omega
      obtain ⟨b1, o1, rfl, _, _, f1⟩ := RdS.at1 H1.out hlt
      obtain ⟨b2, o2, rfl, _, _, f2⟩ := RdS.at1 H2.out hlt
      generalize gti l k = x at *
      go_wp2
      go_quiet (fail)
      go_wp2
      refine ⟨⟨k + 1, _, by omega, by go_num, by first | rfl | (rw [World.drewN_drewN])⟩, by simp [intOf]; omega⟩
    · have hkd : decide ((k : Int) < (l.length : Int)) = false := by simp; omega
      go_wp2
      exact HR.out _ _ ⟨rfl, below_drewN (Below.refl _ _) _⟩
end Go.Proofs.Ytmhbfoaecebobaa
namespace Go.Proofs.Ytmhbfoaecebobaa.Aw
open Go Go.RowKit Go.Proofs
variable {P : Program} [IsP P]
theorem eqS_pf (l : List ByteArray) : Pure P 22 [eL eS l, eL eS l] (eB true) :=
  retB_pure (ent_of Try.func22 rfl rfl) fun G vargs hst hsz hrep => by
    obtain ⟨q⟩ := vargs
    match q, hsz with
    | [x, y], _ => exact equalS_eq l _ _ _ _ x y G.w (rep_rdS (hrep 0 x _ rfl rfl) hst) (rep_rdS (hrep 1 y _ rfl rfl) hst)
theorem rowS_lo (l : List ByteArray) : ∀ e ∈ l.map eS, ∀ c ∈ e.cells, Lo 0 c := by
  intro e he c hc
  obtain ⟨x, _, rfl⟩ := List.mem_map.1 he
  simp [eS, AV.cells] at hc
  subst hc
  exact .s _
theorem word_pf (n : Net) (l : List Int) (hv : zbc n = true) (hl : l.length ≤ 1000) (hr : ∀ t ∈ l, 0 ≤ t ∧ t < n.trans.length) : Pure P 21 [eN n, eL eI l] (.tup [eL eS (lblsW n l), eI 0]) := by
  have h1 := pvalid_pf (P := P) n
  rw [hv] at h1
  have hln : Lo 0 (.ref (eN n).cells) := .ref _ (lo_N n).cells
  refine aw_fn (by rw [IsP.eq (P := P)]; exact Try.func21) rfl rfl rfl rfl rfl (zah (lo_N n) (zah lo_I zap)) (.tup _ (zah (by repeat' (first | exact Lo.s _ | exact Lo.emp | exact Lo.any | exact zap | exact zao | refine zah ?_ ?_ | refine zai ?_ ?_ | refine zaq ?_ | refine zan ?_ | refine Lo.cells ?_ | refine Lo.agg _ ?_ | refine Lo.ref _ ?_ | refine Lo.tup _ ?_ | refine Lo.fn _ _ ?_ | refine Lo.sl _ ?_ | intro _)) (zah (.s _) zap))) (by simp only [argF]; rfl) ?_
  repeat (first | refine zaf ?_ | refine zak ?_ | refine zad ?_ | refine zal ?_ | refine zac ?_)
  refine zae ?_
  refine zab rfl rfl (zaa rfl) (does_box rfl rfl rfl rfl) ?_
  refine za5 (wk_froz (id := 0) rfl) (za5 (wk_ref (d := 2) rfl rfl rfl) ?_)
  refine zab rfl rfl (zaa rfl) (mv_s (.inr rfl) rfl) ?_
  refine zab rfl rfl (zaa rfl) (mv_s (.inr rfl) rfl) ?_
  refine zaj ?_
  repeat (first | refine zaf ?_ | refine zak ?_ | refine zad ?_ | refine zal ?_ | refine zac ?_)
  refine zae ?_
  refine zab rfl rfl (zaa rfl) (zas rfl ta24 ti24 rfl rfl) ?_
  refine zab rfl rfl (zaa rfl) (zav rfl rfl (h1) (zar rfl za0)) ?_
  refine zab rfl rfl (zaa rfl) (does_not rfl rfl) ?_
  refine zab rfl rfl (zaa rfl) (mv_s (.inr rfl) rfl) ?_
  refine zaj ?_
  repeat (first | refine zaf ?_ | refine zak ?_ | refine zad ?_ | refine zal ?_ | refine zac ?_)
  refine za6 rfl ?_
  repeat (first | refine zaf ?_ | refine zak ?_ | refine zad ?_ | refine zal ?_ | refine zac ?_)
  refine zae ?_
  refine zab rfl rfl (zaa rfl) (mv_sl (.inl rfl) rfl) ?_
  refine zab rfl rfl (zaa rfl) (za2 rfl ts30 rfl) ?_
  refine zab rfl rfl (zaa rfl) (dec_f (by omega) (does_gtr rfl rfl rfl)) ?_
  refine zab rfl rfl (zaa rfl) (mv_s (.inr rfl) rfl) ?_
  refine zaj ?_
  repeat (first | refine zaf ?_ | refine zak ?_ | refine zad ?_ | refine zal ?_ | refine zac ?_)
  refine za6 rfl ?_
  repeat (first | refine zaf ?_ | refine zak ?_ | refine zad ?_ | refine zal ?_ | refine zac ?_)
  refine zae ?_
  refine zab rfl rfl (zaa rfl) (mv_s (.inr rfl) rfl) ?_
  refine zaj ?_
  repeat (first | refine zaf ?_ | refine zak ?_ | refine zad ?_ | refine zal ?_ | refine zac ?_)
  refine aw_weak (wk_own (d := 6) 1 rfl (.inr rfl)) ?_
  refine zae ?_
  refine zab rfl rfl (zaa rfl) (mv_sl (.inl rfl) rfl) ?_
  refine zab rfl rfl (zaa rfl) (za2 rfl ts30 rfl) ?_
  refine zab rfl rfl (zaa rfl) (mv_s (.inl rfl) rfl) ?_
  refine zaj ?_
  repeat (first | refine zaf ?_ | refine zak ?_ | refine zad ?_ | refine zal ?_ | refine zac ?_)
  refine aw_loops (S := Nat) (fun k => [(2, .ref (eN n).cells), (6, .own 0 1 (lblsW n (l.take k)).length), (18, eL eI l), (19, eI l.length), (20, eI k)]) (fun k => [.row 1 ((lblsW n (l.take k)).map eS)]) (fun k => k ≤ l.length ∧ (lblsW n (l.take k)).length ≤ k) (fun k => l.length - k) 0 (wk_st [1] (by decide) ⟨⟨_, rfl, .rowE (by simp [lblsW]) rfl⟩, trivial⟩ ⟨.lo _ hln, .own 1 0 1 _ _ rfl rfl, .lo _ lo_I, .lo _ (by repeat' (first | exact Lo.s _ | exact Lo.emp | exact Lo.any | exact zap | exact zao | refine zah ?_ ?_ | refine zai ?_ ?_ | refine zaq ?_ | refine zan ?_ | refine Lo.cells ?_ | refine Lo.agg _ ?_ | refine Lo.ref _ ?_ | refine Lo.tup _ ?_ | refine Lo.fn _ _ ?_ | refine Lo.sl _ ?_ | intro _)), .lo _ (by repeat' (first | exact Lo.s _ | exact Lo.emp | exact Lo.any | exact zap | exact zao | refine zah ?_ ?_ | refine zai ?_ ?_ | refine zaq ?_ | refine zan ?_ | refine Lo.cells ?_ | refine Lo.agg _ ?_ | refine Lo.ref _ ?_ | refine Lo.tup _ ?_ | refine Lo.fn _ _ ?_ | refine Lo.sl _ ?_ | intro _)), trivial⟩) ⟨Nat.zero_le _, by simp [lblsW]⟩ (fun k hk => ?_)
  obtain ⟨hk, hlk⟩ := hk
  repeat (first | refine zaf ?_ | refine zak ?_ | refine zad ?_ | refine zal ?_ | refine zac ?_)
  all_goals refine zae ?_
  all_goals (refine ops_opP rfl rfl (zaa rfl) (does_lss rfl rfl rfl) (fun h21 => ?_) (fun h21 => ?_))
  all_goals refine zaj ?_
  all_goals (repeat (first | refine zaf ?_ | refine zak ?_ | refine zad ?_ | refine zal ?_ | refine zac ?_))
  all_goals (first | refine aw_true rfl ?_ | refine za6 rfl ?_)
  all_goals (repeat (first | refine zaf ?_ | refine zak ?_ | refine zad ?_ | refine zal ?_ | refine zac ?_))
  · have hlt : k < l.length := by omega
    have hix : (l.map eI)[k]? = some (eI (gti l k)) := ix_map hlt
    obtain ⟨g1, g2⟩ := hr _ (gti_mem hlt)
    have htk : lblsW n (l.take (k + 1)) = lblsW n (l.take k) ++ if labT n (gti l k) = noB then [] else [labT n (gti l k)] := by
      rw [List.take_add_one, gti_get hlt]
      exact lblsW_snoc n _ _
    have hlm : ((lblsW n (l.take k)).map eS).length = (lblsW n (l.take k)).length := by simp
    obtain ⟨q, hq⟩ : ∃ q : Nat, gti l k = q := ⟨(gti l k).toNat, by omega⟩
    have hqn : q < n.trans.length := by omega
    have hixt : (n.trans.map eT)[q]? = some (eT (gti n.trans q)) := ix_map hqn
    have hlab : labT n (gti l k) = (gti n.trans q).label := by unfold labT; rw [hq, Int.toNat_natCast]
    rw [hlab] at htk
    generalize gti l k = y at *
    generalize gti n.trans q = t at *
    refine zae ?_
    refine zab rfl rfl (zaa rfl) (za1 rfl ts30 ti3 rfl rfl rfl hix rfl) ?_
    refine zab rfl rfl (zaa rfl) (zam rfl ta3 rfl) ?_
    refine zab rfl rfl (zaa rfl) (mv_s (.inr rfl) rfl) ?_
    refine zaj ?_
    repeat (first | refine zaf ?_ | refine zak ?_ | refine zad ?_ | refine zal ?_ | refine zac ?_)
    refine zae ?_
    refine zab rfl rfl (zaa rfl) (mv_s (.inl rfl) rfl) ?_
    refine zab rfl rfl (zaa rfl) (dec_f (by omega) (does_lss rfl rfl rfl)) ?_
    refine zab rfl rfl (zaa rfl) (mv_s (.inl rfl) rfl) ?_
    refine zab rfl rfl (zau rfl rfl rfl) (mv_s (.inl rfl) rfl) ?_
    refine zab rfl rfl (zau rfl rfl rfl) (zag rfl tf24_1 (by decide) rfl) ?_
    refine zab rfl rfl (zau rfl rfl rfl) (zam rfl ta22 rfl) ?_
    refine zab rfl rfl (zau rfl rfl rfl) (za2 rfl ts22 rfl) ?_
    refine zab rfl rfl (zau rfl rfl rfl) (dec_f (by omega) (does_geq rfl rfl rfl)) ?_
    refine zab rfl rfl (zaa rfl) (pickF_s rfl rfl rfl) ?_
    refine zaj ?_
    repeat (first | refine zaf ?_ | refine zak ?_ | refine zad ?_ | refine zal ?_ | refine zac ?_)
    refine za6 rfl ?_
    repeat (first | refine zaf ?_ | refine zak ?_ | refine zad ?_ | refine zal ?_ | refine zac ?_)
    refine zae ?_
    refine zab rfl rfl (zaa rfl) (zag rfl tf24_1 (by decide) rfl) ?_
    refine zab rfl rfl (zaa rfl) (zam rfl ta22 rfl) ?_
    refine zab rfl rfl (zaa rfl) (mv_s (.inl rfl) rfl) ?_
    refine zab rfl rfl (zaa rfl) (za1 rfl ts22 ti46 rfl rfl hq hixt rfl) ?_
    refine zab rfl rfl (zaa rfl) (zag rfl tf46_0 (by decide) rfl) ?_
    refine zab rfl rfl (zaa rfl) (zam rfl ta9 rfl) ?_
    refine zab rfl rfl (zaa rfl) (mv_s (.inr rfl) rfl) ?_
    refine zaj ?_
    repeat (first | refine zaf ?_ | refine zak ?_ | refine zad ?_ | refine zal ?_ | refine zac ?_)
    by_cases hsl : t.label = noB
    · rw [if_pos hsl, List.append_nil] at htk
      refine zae ?_
      refine zab rfl rfl (zaa rfl) (mv_s (.inl rfl) rfl) ?_
      refine zab rfl rfl (zaa rfl) (dec_f (fun h => h hsl) (does_nes rfl rfl rfl)) ?_
      refine zaj ?_
      repeat (first | refine zaf ?_ | refine zak ?_ | refine zad ?_ | refine zal ?_ | refine zac ?_)
      refine za6 rfl ?_
      repeat (first | refine zaf ?_ | refine zak ?_ | refine zad ?_ | refine zal ?_ | refine zac ?_)
      refine zae ?_
      refine zab rfl rfl (zaa rfl) (does_add rfl rfl rfl (IntWalk.i64_in _ (by omega))) ?_
      refine zab rfl rfl (zaa rfl) (mv_s (.inl rfl) rfl) ?_
      refine zaj ?_
      repeat (first | refine zaf ?_ | refine zak ?_ | refine zad ?_ | refine zal ?_ | refine zac ?_)
      exact ⟨k + 1, ⟨by omega, by rw [htk]; omega⟩, by omega, wk_st [0] (by decide) ⟨⟨_, rfl, .rowE (rowS_lo _) (by rw [htk])⟩, trivial⟩ ⟨.lo _ hln, .own 0 0 1 _ _ rfl (by rw [htk]), .lo _ lo_I, .lo _ (by repeat' (first | exact Lo.s _ | exact Lo.emp | exact Lo.any | exact zap | exact zao | refine zah ?_ ?_ | refine zai ?_ ?_ | refine zaq ?_ | refine zan ?_ | refine Lo.cells ?_ | refine Lo.agg _ ?_ | refine Lo.ref _ ?_ | refine Lo.tup _ ?_ | refine Lo.fn _ _ ?_ | refine Lo.sl _ ?_ | intro _)), .lo _ (by repeat' (first | exact Lo.s _ | exact Lo.emp | exact Lo.any | exact zap | exact zao | refine zah ?_ ?_ | refine zai ?_ ?_ | refine zaq ?_ | refine zan ?_ | refine Lo.cells ?_ | refine Lo.agg _ ?_ | refine Lo.ref _ ?_ | refine Lo.tup _ ?_ | refine Lo.fn _ _ ?_ | refine Lo.sl _ ?_ | intro _)), trivial⟩⟩
    · rw [if_neg hsl] at htk
      refine zae ?_
      refine zab rfl rfl (zaa rfl) (mv_s (.inl rfl) rfl) ?_
      refine zab rfl rfl (zaa rfl) (dec_t hsl (does_nes rfl rfl rfl)) ?_
      refine zaj ?_
      repeat (first | refine zaf ?_ | refine zak ?_ | refine zad ?_ | refine zal ?_ | refine zac ?_)
      refine aw_true rfl ?_
      repeat (first | refine zaf ?_ | refine zak ?_ | refine zad ?_ | refine zal ?_ | refine zac ?_)
      refine zae ?_
      refine zab rfl rfl (zaa rfl) (mv_own (.inl rfl) rfl) ?_
      refine zab rfl rfl (zaa rfl) (mv_s (.inl rfl) rfl) ?_
      refine zab rfl rfl (zaa rfl) (lit1_sF rfl ts25 ti9 rfl rfl rfl rfl) ?_
      refine zab rfl rfl (zaa rfl) (does_append rfl ts25 ti9 rfl (by decide) rfl rfl (by first | rfl | (simp; done) | (simp; omega)) rfl (by first | exact .own _ _ _ rfl rfl _ (by first | rfl | simp) | exact .emp | exact .nil | exact .sl _ (by first | simp; done | intro e he; simp at he; obtain ⟨_, _, rfl⟩ := he; rfl)) (by first | omega | (simp; omega) | (unfold maxLen; simp; omega)) (by first | omega | (simp; omega) | (unfold maxLen; simp; omega))) ?_
      refine zab rfl rfl (zaa rfl) (mv_own (.inr rfl) rfl) ?_
      refine zaj ?_
      repeat (first | refine zaf ?_ | refine zak ?_ | refine zad ?_ | refine zal ?_ | refine zac ?_)
      refine zae ?_
      refine zab rfl rfl (zaa rfl) (does_add rfl rfl rfl (IntWalk.i64_in _ (by omega))) ?_
      refine zab rfl rfl (zaa rfl) (mv_s (.inl rfl) rfl) ?_
      refine zaj ?_
      repeat (first | refine zaf ?_ | refine zak ?_ | refine zad ?_ | refine zal ?_ | refine zac ?_)
      exact ⟨k + 1, ⟨by omega, by rw [htk, List.length_append]; simp; omega⟩, by omega, wk_st [1] (by decide) ⟨⟨_, rfl, .rowE (rowS_lo _) (by rw [htk, List.map_append]; rfl)⟩, trivial⟩ ⟨.lo _ hln, .own 1 0 1 _ _ rfl (by rw [htk]; simp), .lo _ lo_I, .lo _ (by repeat' (first | exact Lo.s _ | exact Lo.emp | exact Lo.any | exact zap | exact zao | refine zah ?_ ?_ | refine zai ?_ ?_ | refine zaq ?_ | refine zan ?_ | refine Lo.cells ?_ | refine Lo.agg _ ?_ | refine Lo.ref _ ?_ | refine Lo.tup _ ?_ | refine Lo.fn _ _ ?_ | refine Lo.sl _ ?_ | intro _)), .lo _ (by repeat' (first | exact Lo.s _ | exact Lo.emp | exact Lo.any | exact zap | exact zao | refine zah ?_ ?_ | refine zai ?_ ?_ | refine zaq ?_ | refine zan ?_ | refine Lo.cells ?_ | refine Lo.agg _ ?_ | refine Lo.ref _ ?_ | refine Lo.tup _ ?_ | refine Lo.fn _ _ ?_ | refine Lo.sl _ ?_ | intro _)), trivial⟩⟩
  · have e : k = l.length := by omega
    subst e
    rw [List.take_length] at *
    (refine aw_exit ?_; repeat (first | refine ath_x ?_ | refine abl_hit ?_ | refine abl_miss rfl ?_ | refine zal ?_ | refine zak ?_ | refine zaf ?_ | refine zad ?_ | refine zac ?_))
    refine zae ?_
    refine zab rfl rfl (zaa rfl) (mv_own (.inl rfl) rfl) ?_
    refine zab rfl rfl (zaa rfl) (mv_own (.inr rfl) rfl) ?_
    refine zab rfl rfl (zaa rfl) (mv_s (.inr rfl) rfl) ?_
    refine zaj ?_
    repeat (first | refine zaf ?_ | refine zak ?_ | refine zad ?_ | refine zal ?_ | refine zac ?_)
    (refine zbd ?_; repeat (first | refine ath_r ?_ | refine abl_r ?_))
    exact post2 (.inr rfl) rfl rfl (.own _ _ _ _ _ rfl rfl (by simp)) (.refl _)
end Go.Proofs.Ytmhbfoaecebobaa.Aw
end
section
namespace Go.Proofs.Ytmhbfoaecebobaa
set_option linter.unusedSimpArgs false
set_option linter.unusedVariables false
open Go.RowKit
theorem ent_long : Ent 24 := ent_of Try.func24 (by kernel_rfl) rfl
theorem ent_great1 : Ent 26 := ent_of Try.func26 (by kernel_rfl) rfl
set_option maxHeartbeats 400000 in
theorem long_any (a : ByteArray) (w : World) : Calls Try.prog 24 #[.string a] w fun e w' => e = .returned (.bool (decide ((100 : Int) < a.size))) ∧ Below w.heap.size w w' := by
  refine zax fun R hR => ?_
  have HR := Lib.hid hR
  clear hR
  go_enter Try.func24, Try.ntmps24
  go_wp2_with fail
  exact HR.out _ _ ⟨rfl, Below.refl _ _⟩
def great1B (a : TrV) : Bool := decide (50 < lenOfV a.vi) || decide (50 < lenOfV a.vo) || decide (100 < a.label.size)
set_option maxHeartbeats 1000000 in
theorem great1_any (a : TrV) (h : ∃ A n c B m d, a.vi = .slice A n c ∧ a.vo = .slice B m d) (w : World) : Calls Try.prog 26 #[.agg #[.string a.label, a.vi, a.vo]] w fun e w' => e = .returned (.bool (great1B a)) ∧ Below w.heap.size w w' := by
  obtain ⟨A, n, c, B, m, d, hi, ho⟩ := h
  have HE : Hid (great1B a = (decide (50 < n) || decide (50 < m) || decide ((100 : Int) < a.label.size))) := Lib.hid (by
    have e : decide (100 < a.label.size) = decide ((100 : Int) < a.label.size) := by rw [decide_eq_decide]; omega
    unfold great1B; rw [hi, ho, ← e]; simp [lenOfV] <;> rfl)
  rw [hi, ho]
  clear hi ho
  have HB : Hid (Below w.heap.size w (w.alloc (.cells #[.string a.label, .slice A n c, .slice B m d] 46))) := Lib.hid ((Below.refl _ _).alloc (Nat.le_refl _) _)
  by_cases h1 : 50 < n
  · have hd1 : decide ((50 : Int) < n) = true := by simp; omega
    refine zax fun R hR => ?_
    have HR := Lib.hid hR
    clear hR
    go_enter Try.func26, Try.ntmps26
    go_wp2_with fail
    exact HR.out _ _ ⟨ret_bool (by rw [HE.out, decide_eq_true h1]; rfl), HB.out⟩
  · have hd1 : decide ((50 : Int) < n) = false := by simp; omega
    by_cases h2 : 50 < m
    · have hd2 : decide ((50 : Int) < m) = true := by simp; omega
      refine zax fun R hR => ?_
      have HR := Lib.hid hR
      clear hR
      go_enter Try.func26, Try.ntmps26
      go_wp2_with fail
      exact HR.out _ _ ⟨ret_bool (by rw [HE.out, decide_eq_true h2]; simp), HB.out⟩
    · have hd2 : decide ((50 : Int) < m) = false := by simp; omega
      refine zax fun R hR => ?_
      have HR := Lib.hid hR
      clear hR
      go_enter Try.func26, Try.ntmps26
      go_wp2_with (go_at_call 24; refine (long_any _ _).mono ?_; rintro e w1 ⟨rfl, hb1⟩; replace HB := Lib.hid (HB.out.trans (hb1.mono HB.out.size)); clear hb1)
      exact HR.out _ _ ⟨ret_bool (by rw [HE.out, decide_eq_false h1, decide_eq_false h2]; rfl), HB.out⟩
theorem great1_in (n : List Tr) (vs : List TrV) {w : World} {lo hi : Nat} (h2 : vs.length = n.length) (h3 : ∀ k, k < n.length → (gti vs k).label = (gti n k).label ∧ RdI w lo hi (gti vs k).vi (gti n k).inn ∧ RdI w lo hi (gti vs k).vo (gti n k).out) (a : TrV) (ha : a ∈ vs) :
    ∃ A n c B m d, a.vi = .slice A n c ∧ a.vo = .slice B m d := by
  obtain ⟨k, hk, rfl⟩ := List.mem_iff_getElem.1 ha
  obtain ⟨_, hi, ho⟩ := h3 k (by omega)
  have e : gti vs k = vs[k] := by unfold gti; rw [List.getElem?_eq_getElem hk]; rfl
  rw [e] at hi ho
  obtain ⟨A, c, h1, _⟩ := hi.form
  obtain ⟨B, d, h2, _⟩ := ho.form
  exact ⟨A, _, c, B, _, d, h1, h2⟩
set_option maxRecDepth 100000 in
set_option maxHeartbeats 8000000 in
theorem great_any (n : Net) (l : List ByteArray) (lo hi lo' hi' : Nat) (vt v : Value) (w : World) (hn : RdT w lo hi vt n.trans) (hv : RdS w lo' hi' v l) :
    Calls Try.prog 9 #[netV n vt, v] w fun e w' => ∃ z, e = .returned (.bool z) ∧ Below w.heap.size w w' := by
  have HC := Lib.hid (fun (W : World) (hW : Below w.heap.size w W) => containsFS_any 24 ent_long #[] (fun a => decide ((100 : Int) < a.size)) l lo' hi' v W (hv.after hW) (fun a _ W _ => long_any a W))
  obtain ⟨vs, h1, h2, h3⟩ := hn
  have HV := Lib.hid (fun (W : World) (hW : Below w.heap.size w W) => containsFV_any 26 ent_great1 #[] great1B vs lo hi vt W (h1.after hW) (fun a ha W _ => great1_any a (great1_in n.trans vs h2 h3 a ha) W))
  obtain ⟨A, c, rfl, hc, hm⟩ := hv.form
  obtain ⟨B, d, rfl, hd, hm2⟩ := h1.form
  clear hv h1 h3 h2
  refine zax fun R hR => ?_
  have HR := Lib.hid hR
  clear hR
  go_enter Try.func9, Try.ntmps9
  have M : Hid (Mem [Loc.k4 w.heap.size (.int .i64 n.places) (.slice B vs.length d) (.int .i64 n.source) (.int .i64 n.sink), Loc.bl w.heap.size w] (w.alloc (.cells #[.int .i64 n.places, .slice B vs.length d, .int .i64 n.source, .int .i64 n.sink] 24))) := Lib.hid ⟨K4.new w _ _ _ _ _, ⟨(Below.refl _ _).alloc (Nat.le_refl _) _, by simp⟩, True.intro⟩
  have hk4 := M.out.1
  have tT : vs.length ≤ 12 ∨ (12 < vs.length ∧ vs.length ≤ 60) ∨ (60 < vs.length ∧ vs.length ≤ 100) ∨ 100 < vs.length := by omega
  have tP : n.places ≤ 12 ∨ (12 < n.places ∧ n.places ≤ 40) ∨ 40 < n.places := by omega
  have tL : l.length ≤ 30 ∨ (30 < l.length ∧ l.length ≤ 200) ∨ (200 < l.length ∧ l.length ≤ 1000) ∨ 1000 < l.length := by omega
  rcases tT with t | t | t | t
  case inr.inl =>
    have d1 : decide ((12 : Int) < vs.length) = true := by simp; omega
    have d2 : decide ((vs.length : Int) ≤ 60) = true := by simp; omega
    go_wp2_with fail
    exact HR.out _ _ ⟨_, rfl, M.out.2.1.1⟩
  case inr.inr.inr =>
    have d1 : decide ((12 : Int) < vs.length) = true := by simp; omega
    have d2 : decide ((vs.length : Int) ≤ 60) = false := by simp; omega
    have d3 : decide ((100 : Int) < vs.length) = true := by simp; omega
    go_wp2_with fail
    exact HR.out _ _ ⟨_, rfl, M.out.2.1.1⟩
  case' inl =>
    have d1 : decide ((12 : Int) < vs.length) = false := by simp; omega
  case' inr.inr.inl =>
    have d1 : decide ((12 : Int) < vs.length) = true := by simp; omega
    have d2 : decide ((vs.length : Int) ≤ 60) = false := by simp; omega
  all_goals
    have d3 : decide ((100 : Int) < vs.length) = false := by simp; omega
    rcases tP with p | p | p
  all_goals first
    | (have e1 : decide ((12 : Int) < n.places) = true := by simp; omega
       have e2 : decide (n.places ≤ 40) = true := by simp; omega
       go_wp2_with fail
       exact HR.out _ _ ⟨_, rfl, M.out.2.1.1⟩)
    | (have e1 : decide ((12 : Int) < n.places) = false := by simp; omega
       skip)
    | (have e1 : decide ((12 : Int) < n.places) = true := by simp; omega
       have e2 : decide (n.places ≤ 40) = false := by simp; omega
       skip)
  all_goals rcases tL with q | q | q | q
  all_goals first
    | (have f1 : decide ((30 : Int) < l.length) = true := by simp; omega
       have f2 : decide ((l.length : Int) ≤ 200) = true := by simp; omega
       go_wp2_with fail
       exact HR.out _ _ ⟨_, rfl, M.out.2.1.1⟩)
    | (have f1 : decide ((30 : Int) < l.length) = true := by simp; omega
       have f2 : decide ((l.length : Int) ≤ 200) = false := by simp; omega
       have f3 : decide ((1000 : Int) < l.length) = true := by simp; omega
       go_wp2_with fail
       exact HR.out _ _ ⟨_, rfl, M.out.2.1.1⟩)
    | (have f1 : decide ((30 : Int) < l.length) = false := by simp; omega
       have f3 : decide ((1000 : Int) < l.length) = false := by simp; omega
       skip)
    | (have f1 : decide ((30 : Int) < l.length) = true := by simp; omega
       have f2 : decide ((l.length : Int) ≤ 200) = false := by simp; omega
       have f3 : decide ((1000 : Int) < l.length) = false := by simp; omega
       skip)
  all_goals
    obtain ⟨za, hza⟩ : ∃ z, l.any (fun a => decide ((100 : Int) < a.size)) = z := ⟨_, rfl⟩
    rw [hza] at HC
    clear hza
    cases za
    all_goals go_wp2_with (first
      | (go_at_call 23; refine (HC.out _ M.out.2.1.1).mono ?_; rintro e w1 ⟨rfl, hb1⟩; replace M := Lib.hid (M.out.below hb1); clear hb1; replace hk4 := M.out.1)
      | (go_at_call 25; refine (HV.out _ M.out.2.1.1).mono ?_; rintro e w1 ⟨rfl, hb1⟩; replace M := Lib.hid (M.out.below hb1); clear hb1; replace hk4 := M.out.1))
    all_goals exact HR.out _ _ ⟨_, rfl, M.out.2.1.1⟩
end Go.Proofs.Ytmhbfoaecebobaa
end
section
namespace Go.Proofs.Ytmhbfoaecebobaa
set_option linter.unusedSimpArgs false
set_option linter.unusedVariables false
open Go.ChangeShapes Go.WideShapes Go.ChangeAt Go.RowKit
theorem own_knob : ownKnob Try.prog.godebug = none := by kernel_rfl
theorem laid_out : laidOutB Try.prog = true := by kernel_rfl
section
variable {H : Type} {enc : TypeId × Value → H}
set_option maxRecDepth 100000 in
theorem law_post {f : Func} {s : ChangeSpec} {W W' : World} {args : Array Value} {ds gs : List (DataW H)} {before : List MemPlace} {t : TypeId}
    (hW : DataW.Whole enc Try.prog f.params.toList s.vars false W args.toList ds gs before) (hr : f.resultTypes = #[t]) (ht : Try.prog.underlying t = some .bool)
    (hfn : (s.fn H (ds ++ gs)).results = [.lit (.bool true)] ∧ (s.fn H (ds ++ gs)).args = ds ∧ (s.fn H (ds ++ gs)).vars = []) (hv : s.vars = [])
    (hargs : DataW.TrodAll enc Try.prog W' 0 (fun b => decide (b < W.heap.size)) true f.params.toList args.toList ds before) (hb : Below W.heap.size W W') :
    s.post enc Try.prog f false true false false W args (.bool true) W' := by
  refine ⟨ds, gs, before, [], before, [], hW, ?_, ?_, ?_, World.keptBut_mono (fun p hp => ⟨hp, Or.inr (by simpa using hp)⟩) (hb.frame (· ∈ before)), fun h => by cases h⟩
  · rw [hfn.1, hr]
    exact trodAll_mk1 (shut_bool ht true)
  · rw [hfn.2.1]
    exact hargs
  · rw [hfn.2.2, hv]
    rfl
variable {w : World} {base : Nat} {sp : Nat → Bool} {held : Bool}
theorem open_rd {α : Type} {size : Nat} {en : α → List Value} {Pr : α → Prop} {t e : TypeId} (ht : Try.prog.underlying t = some (.slice e)) (hc : Try.prog.cellsOf e = size) (hpos : 0 < size) (hen : ∀ a, (en a).length = size)
    (hel : ∀ fuel cs (x : DataW H × List MemPlace), DataW.trod enc Try.prog w base sp held fuel e cs = some x → ∃ a, cs = en a ∧ Pr a)
    {fuel : Nat} {cs : List Value} {x : DataW H × List MemPlace} (h : DataW.trod enc Try.prog w base sp held fuel t cs = some x) : ∃ v l, cs = [v] ∧ Rd size en w 0 w.heap.size v l ∧ ∀ a ∈ l, Pr a := by
  rcases DataW.trod_slice ht h with ⟨rfl, _⟩ | ⟨a, len, cap, elems, rest, n, _, rfl, _, hb, hl, hm, hlen, helem, _⟩
  · exact ⟨_, [], rfl, Rd.nil _ _ _, fun a ha => by cases ha⟩
  · rw [hc] at helem
    have hx : ∀ i : Fin len, ∃ y, w.cells? base (a.add (i * size)) size = some (en y) ∧ Pr y := by
      intro i
      have h1 := helem i i.2
      have hi : (i : Nat) < elems.length := by rw [hlen]; exact i.2
      rw [List.getElem?_eq_getElem hi, Option.bind_eq_some_iff] at h1
      obtain ⟨cs', h2, h3⟩ := h1
      obtain ⟨y, rfl, hp⟩ := hel _ _ _ h3
      exact ⟨y, h2, hp⟩
    let f : Fin len → α := fun i => Classical.choose (hx i)
    have hf : ∀ i : Fin len, w.cells? base (a.add ((i : Nat) * size)) size = some (en (f i)) ∧ Pr (f i) := fun i => Classical.choose_spec (hx i)
    have hlf : (List.ofFn f).length = len := by simp
    have hcell : ∀ (k : Nat) (hk : k < len) (r : Nat), r < size → w.cell? ((a.add (k * size)).add r) = (en (f ⟨k, hk⟩))[r]? := by
      intro k hk r hr
      exact (World.cells?_some (hf ⟨k, hk⟩).1).2.2 r hr
    refine ⟨_, List.ofFn f, rfl, ⟨flatMap_len hen _, some a, cap, by rw [hlf], by rw [hlf]; exact hl, by rw [hlf]; exact Nat.le_trans hl hm, fun hn => ?_⟩, fun y hy => ?_⟩
    · rw [hlf] at hn
      have hspot : a.spot = none := by
        have h0 := hcell 0 hn 0 hpos
        have h1 : ((a.add (0 * size)).add 0) = a := by simp [Addr.add]
        rw [h1] at h0
        obtain ⟨u, hu⟩ : ∃ u, (en (f ⟨0, hn⟩))[0]? = some u := ⟨_, List.getElem?_eq_getElem (by rw [hen]; exact hpos)⟩
        rw [hu] at h0
        exact World.cell?_spot h0
      obtain ⟨b, off, s⟩ := a
      simp only at hspot
      subst hspot
      have hall : ∀ j u, ((List.ofFn f).flatMap en)[j]? = some u → w.cell? ⟨b, off + j, none⟩ = some u := by
        intro j u hu
        have hj : j < len * size := by
          have := (List.getElem?_eq_some_iff.1 hu).1
          rw [flatMap_len hen, hlf] at this
          exact this
        have hk : j / size < len := (Nat.div_lt_iff_lt_mul hpos).2 hj
        have hr : j % size < size := Nat.mod_lt _ hpos
        have hg := hcell (j / size) hk (j % size) hr
        obtain ⟨u', hu'⟩ : ∃ u', (en (f ⟨j / size, hk⟩))[j % size]? = some u' := ⟨_, List.getElem?_eq_getElem (by rw [hen]; exact hr)⟩
        have hfm := flatMap_get hen (List.ofFn f) (j / size) (f ⟨j / size, hk⟩) (j % size) u' (by simp [hk]) hu'
        have hjj : j / size * size + j % size = j := Nat.div_add_mod' j size
        rw [hjj, hu] at hfm
        rw [hu', add_off, add_off, Nat.add_assoc, hjj] at hg
        rw [hg, ← hfm]
      have hblk : b < w.heap.size := by
        obtain ⟨u, hu⟩ : ∃ u, ((List.ofFn f).flatMap en)[0]? = some u := ⟨_, List.getElem?_eq_getElem (by rw [flatMap_len hen, hlf]; exact Nat.mul_pos hn hpos)⟩
        exact World.block_lt_of_cell? _ _ (hall 0 u hu)
      exact ⟨b, off, rfl, Nat.zero_le _, hblk, hall⟩
    · obtain ⟨i, hi⟩ := List.mem_ofFn.1 hy
      rw [← hi]
      exact (hf i).2
theorem ints_open {fuel : Nat} {cs : List Value} {x : DataW H × List MemPlace} (h : DataW.trod enc Try.prog w base sp held fuel 30 cs = some x) : ∃ v l, cs = [v] ∧ RdI w 0 w.heap.size v l := by
  obtain ⟨v, l, h1, h2, _⟩ := open_rd (en := encI) (Pr := fun _ => True) (size := 1) Try.underlying30 (by kernel_rfl) (by decide) (fun _ => rfl) (fun fuel cs x h => by
    obtain ⟨n, rfl, _⟩ := DataW.trod_int Try.underlying3 h
    exact ⟨n, rfl, True.intro⟩) h
  exact ⟨v, l, h1, h2⟩
theorem strs_open {fuel : Nat} {cs : List Value} {x : DataW H × List MemPlace} (h : DataW.trod enc Try.prog w base sp held fuel 25 cs = some x) : ∃ v l, cs = [v] ∧ RdS w 0 w.heap.size v l := by
  obtain ⟨v, l, h1, h2, _⟩ := open_rd (en := encS) (Pr := fun _ => True) (size := 1) Try.underlying25 (by kernel_rfl) (by decide) (fun _ => rfl) (fun fuel cs x h => by
    obtain ⟨n, rfl, _⟩ := DataW.trod_string Try.underlying9 h
    exact ⟨n, rfl, True.intro⟩) h
  exact ⟨v, l, h1, h2⟩
set_option maxRecDepth 100000 in
theorem trans_open {fuel : Nat} {cs : List Value} {x : DataW H × List MemPlace} (h : DataW.trod enc Try.prog w base sp held fuel 46 cs = some x) : ∃ m : TrV, cs = encV m ∧ ∃ inn out, RdI w 0 w.heap.size m.vi inn ∧ RdI w 0 w.heap.size m.vo out := by
  obtain ⟨xs, n, _, _, hlen, hl, hg⟩ := DataW.trod_struct Try.underlying46 h
  have hc : Try.prog.cellsOf 46 = 3 := by kernel_rfl
  have hi : Try.prog.cellsOf 30 = 1 := by kernel_rfl
  have hs : Try.prog.cellsOf 9 = 1 := by kernel_rfl
  match cs, hlen.trans hc, xs, hl with
  | [c0, c1, c2], _, [x0, x1, x2], _ =>
    have g0 := hg 0 _ rfl
    have g1 := hg 1 _ rfl
    have g2 := hg 2 _ rfl
    simp [hi, hs] at g0 g1 g2
    obtain ⟨n0, e0, _⟩ := DataW.trod_string Try.underlying9 g0
    obtain ⟨v1, l1, e1, r1⟩ := ints_open g1
    obtain ⟨v2, l2, e2, r2⟩ := ints_open g2
    injection e0 with e0
    injection e1 with e1
    injection e2 with e2
    exact ⟨⟨n0, v1, v2⟩, by rw [e0, e1, e2], l1, l2, r1, r2⟩
theorem rdT_of {v : Value} {vs : List TrV} (h : RdV w 0 w.heap.size v vs) (hp : ∀ a ∈ vs, ∃ inn out, RdI w 0 w.heap.size a.vi inn ∧ RdI w 0 w.heap.size a.vo out) : ∃ ts : List Tr, RdT w 0 w.heap.size v ts := by
  have hx : ∀ a : TrV, ∃ t : Tr, a ∈ vs → (a.label = t.label ∧ RdI w 0 w.heap.size a.vi t.inn ∧ RdI w 0 w.heap.size a.vo t.out) := by
    intro a
    by_cases ha : a ∈ vs
    · obtain ⟨inn, out, h1, h2⟩ := hp a ha
      exact ⟨⟨a.label, inn, out⟩, fun _ => ⟨rfl, h1, h2⟩⟩
    · exact ⟨⟨a.label, [], []⟩, fun h => absurd h ha⟩
  let f : TrV → Tr := fun a => Classical.choose (hx a)
  have hf : ∀ a, a ∈ vs → (a.label = (f a).label ∧ RdI w 0 w.heap.size a.vi (f a).inn ∧ RdI w 0 w.heap.size a.vo (f a).out) := fun a => Classical.choose_spec (hx a)
  refine ⟨vs.map f, vs, h, by simp, fun k hk => ?_⟩
  rw [List.length_map] at hk
  have e : gti (vs.map f) k = f (gti vs k) := by
    unfold gti
    rw [List.getElem?_map, List.getElem?_eq_getElem hk]
    rfl
  rw [e]
  exact hf _ (gti_mem hk)
set_option maxRecDepth 100000 in
theorem net_open {fuel : Nat} {cs : List Value} {x : DataW H × List MemPlace} (h : DataW.trod enc Try.prog w base sp held fuel 24 cs = some x) : ∃ (n : Net) (vt : Value), cs = [.int .i64 n.places, vt, .int .i64 n.source, .int .i64 n.sink] ∧ RdT w 0 w.heap.size vt n.trans := by
  obtain ⟨xs, n, _, _, hlen, hl, hg⟩ := DataW.trod_struct Try.underlying24 h
  have hc : Try.prog.cellsOf 24 = 4 := by kernel_rfl
  have hi : Try.prog.cellsOf 3 = 1 := by kernel_rfl
  have hs : Try.prog.cellsOf 22 = 1 := by kernel_rfl
  match cs, hlen.trans hc, xs, hl with
  | [c0, c1, c2, c3], _, [x0, x1, x2, x3], _ =>
    have g0 := hg 0 _ rfl
    have g1 := hg 1 _ rfl
    have g2 := hg 2 _ rfl
    have g3 := hg 3 _ rfl
    simp [hi, hs] at g0 g1 g2 g3
    obtain ⟨n0, e0, _⟩ := DataW.trod_int Try.underlying3 g0
    obtain ⟨v1, vs, e1, r1, p1⟩ := open_rd (en := encV) (Pr := fun m => ∃ inn out, RdI w 0 w.heap.size m.vi inn ∧ RdI w 0 w.heap.size m.vo out) (size := 3) Try.underlying22 (by kernel_rfl) (by decide) (fun _ => rfl) (fun fuel cs x h => trans_open h) g1
    obtain ⟨n2, e2, _⟩ := DataW.trod_int Try.underlying3 g2
    obtain ⟨n3, e3, _⟩ := DataW.trod_int Try.underlying3 g3
    obtain ⟨ts, rt⟩ := rdT_of r1 p1
    injection e0 with e0
    injection e1 with e1
    injection e2 with e2
    injection e3 with e3
    exact ⟨⟨n0, ts, n2, n3⟩, v1, by rw [e0, e1, e2, e3], rt⟩
variable {b0 : Nat} {r : Reach} {v : Value} {d : DataW H} {p : List MemPlace}
set_option maxRecDepth 100000 in
theorem open_net (hv : Value.okWide Try.prog w r b0 24 v) (h : DataW.Trod enc Try.prog w base sp held 24 v d p) : ∃ (n : Net) (vt : Value), v = netV n vt ∧ RdT w 0 w.heap.size vt n.trans := by
  obtain ⟨cs, rfl, hsz⟩ := okWide_struct Try.underlying24 hv
  obtain ⟨fuel, hf⟩ := h
  obtain ⟨n, vt, ha, hr⟩ := net_open hf
  refine ⟨n, vt, ?_, hr⟩
  simp [Value.cells] at ha
  rw [show cs = cs.toList.toArray by simp, ha]
set_option maxRecDepth 100000 in
theorem open_strs' (hv : Value.okWide Try.prog w r b0 25 v) (h : DataW.Trod enc Try.prog w base sp held 25 v d p) : ∃ l, RdS w 0 w.heap.size v l := by
  obtain ⟨a, n, c, rfl⟩ := okWide_slice Try.underlying25 hv
  obtain ⟨fuel, hf⟩ := h
  obtain ⟨v', l, ha, hr⟩ := strs_open hf
  simp [Value.cells] at ha
  subst ha
  exact ⟨l, hr⟩
end
end Go.Proofs.Ytmhbfoaecebobaa
end
section
namespace Go.Proofs.Ytmhbfoaecebobaa.Aw
set_option linter.unusedSimpArgs false
set_option linter.unusedVariables false
open Go.RowKit Go.Proofs
variable {P : Program} [IsP P]
def G0 (W : World) : Cx := { base := 0, w0 := W, w := W, mu := fun _ => none, St := fun b _ => b < W.heap.size }
theorem pure_law {P : Program} {f : FuncId} {args : List AV} (hp : Pure P f args (eB true)) (W : World) (vargs : Array Value) (hsz : vargs.size = args.length) (hrep : ∀ (j : Nat) v x, vargs[j]? = some v → args[j]? = some x → Rep (G0 W) v x) :
    Calls P f vargs W fun e w' => e = .returned (.bool true) ∧ Below W.heap.size W w' :=
  (hp.call (G0 W) vargs (fun b o h => h) hsz hrep).mono (by
    rintro e w' ⟨v, G', rfl, rfl, hb, _, _, _, hr⟩
    exact ⟨by rw [rep_s hr], hb⟩)
theorem rep_net0 {W : World} {lo hi : Nat} {vt : Value} {n : Net} (h : RdT W lo hi vt n.trans) : Rep (G0 W) (netV n vt) (eN n) :=
  .agg _ _ rfl (by intro c hc; simp at hc; rcases hc with rfl | rfl | rfl | rfl <;> rfl) (fun j v x hv hx => by
    match j, hv, hx with
    | 0, hv, hx => simp at hv hx; subst hv hx; exact .s _
    | 1, hv, hx => simp at hv hx; subst hv hx; exact rdT_rep (G := G0 W) h (fun b o _ _ h => h)
    | 2, hv, hx => simp at hv hx; subst hv hx; exact .s _
    | 3, hv, hx => simp at hv hx; subst hv hx; exact .s _
    | j + 4, hv, hx => simp at hv)
theorem pureE_prog {f : FuncId} {args : List AV} {R : AV → Prop} (h : PureE Try.prog f args R) : PureE P f args R := by rw [IsP.eq (P := P)]; exact h
theorem someB_pure {f : FuncId} {args : List AV} (he : Ent f) (h : ∀ (G : Cx) (vargs : Array Value), (∀ b o, G.St b o → b < G.w.heap.size) → vargs.size = args.length → (∀ (j : Nat) v x, vargs[j]? = some v → args[j]? = some x → Rep G v x) → Calls Try.prog f vargs G.w fun e w' => ∃ z, e = .returned (.bool z) ∧ Below G.w.heap.size G.w w') : PureE P f args (fun r => ∃ z, r = eB z) :=
  pureE_prog ⟨he, by rintro r ⟨z, rfl⟩; exact .s _, fun G vargs hst hsz hrep => (h G vargs hst hsz hrep).mono (by
    rintro e w' ⟨z, rfl, hb⟩
    refine ⟨_, newCx G w', eB z, ⟨z, rfl⟩, rfl, rfl, hb, fun b o h => .inl h, fun b o h => ?_, fun b o h => ?_, .s _⟩
    · exact h.imp (fun h => h) (fun h => h.1)
    · rcases h with h | h
      · have := hst b o h; have := hb.size; show b < w'.heap.size; omega
      · exact h.2)⟩
theorem awake_pf : Pure P 8 [] (eB true) :=
  retB_pure (ent_of Try.func8 rfl rfl) fun G vargs hst hsz hrep => by
    obtain ⟨q⟩ := vargs
    match q, hsz with
    | [], _ => exact awake_any G.w
theorem argsNS {G : Cx} {vargs : Array Value} {n : Net} {l : List ByteArray} (hst : ∀ b o, G.St b o → b < G.w.heap.size) (hsz : vargs.size = [eN n, eL eS l].length) (hrep : ∀ (j : Nat) v y, vargs[j]? = some v → [eN n, eL eS l][j]? = some y → Rep G v y) :
    ∃ vt v, vargs = #[netV n vt, v] ∧ RdT G.w 0 G.w.heap.size vt n.trans ∧ RdS G.w 0 G.w.heap.size v l := by
  obtain ⟨q⟩ := vargs
  match q, hsz with
  | [a, b], _ =>
    obtain ⟨vt, rfl, h1⟩ := rep_net (hrep 0 a _ rfl rfl) hst
    exact ⟨vt, b, rfl, h1, rep_rdS (hrep 1 b _ rfl rfl) hst⟩
theorem great_pf (n : Net) (l : List ByteArray) : PureE P 9 [eN n, eL eS l] (fun r => ∃ z, r = eB z) :=
  someB_pure (ent_of Try.func9 rfl rfl) fun G vargs hst hsz hrep => by
    obtain ⟨vt, v, rfl, h1, h2⟩ := argsNS hst hsz hrep
    exact great_any n l _ _ _ _ vt v G.w h1 h2
end Go.Proofs.Ytmhbfoaecebobaa.Aw
end
section
namespace Go.Proofs.Ytmhbfoaecebobaa.Aw
set_option linter.unusedSimpArgs false
set_option linter.unusedVariables false
open Go Go.Proofs Go.RowKit
theorem wk_nilC {N : Nat} {F : Frm} {σ : List Ob} {id sz : Nat} {e e' : AV} {pre post : List AV} (hs : σ[id]? = some (.row sz [e])) (h1 : e.cells = pre ++ .s (.slice none 0 0) :: post) (h2 : e'.cells = pre ++ .sl [] :: post) :
    Weak N F σ F (σ.set id (.row sz [e'])) := fun G a h => by
  refine ⟨G, rfl, .refl G, ?_, h.fr, h.df, h.nt⟩
  refine reread_rel h.rel hs (fun h => by cases h) ?_
  rintro b f ⟨cur, t, fr, g1, g2, g3, g4⟩
  refine ⟨cur, t, fr, g1, g2, g3, fun k y hy => ?_⟩
  cases k with
  | succ k => simp at hy
  | zero =>
    simp at hy
    subst hy
    obtain ⟨k1, k2, k3⟩ := g4 0 e rfl
    rw [h1] at k1 k2 k3
    rw [h2]
    refine ⟨by simpa using k1, fun c hc => ?_, fun j c hc => ?_⟩
    · simp only [List.mem_append, List.mem_cons] at hc
      rcases hc with hc | rfl | hc
      · exact k2 c (by simp [hc])
      · rfl
      · exact k2 c (by simp [hc])
    · by_cases hj : j = pre.length
      · subst hj
        simp at hc
        subst hc
        obtain ⟨v, h6, h7⟩ := k3 pre.length (.s (.slice none 0 0)) (by simp)
        exact ⟨v, h6, rep_nil h7⟩
      · have e : (pre ++ AV.s (.slice none 0 0) :: post)[j]? = some c := by
          rw [← hc]
          by_cases hlt : j < pre.length
          · rw [List.getElem?_append_left hlt, List.getElem?_append_left hlt]
          · rw [List.getElem?_append_right (by omega), List.getElem?_append_right (by omega)]
            obtain ⟨i, hi⟩ : ∃ i, j - pre.length = i + 1 := ⟨j - pre.length - 1, by omega⟩
            rw [hi]; rfl
        exact k3 j c e
end Go.Proofs.Ytmhbfoaecebobaa.Aw
end
section
namespace Go.Proofs.Ytmhbfoaecebobaa.Aw
set_option linter.unusedSimpArgs false
set_option linter.unusedVariables false
open Go.RowKit Go.Proofs
variable {P : Program} [IsP P]
def eNd (x : Nd) : AV := .agg [eI x.k, eL eI x.m, eL eI x.run]
def eFt (r : Bool × List Int × Int) : AV := .tup [eB r.1, eL eI r.2.1, eI r.2.2]
end Go.Proofs.Ytmhbfoaecebobaa.Aw
end
section
namespace Go.Proofs.Ytmhbfoaecebobaa.Aw
set_option linter.unusedSimpArgs false
set_option linter.unusedVariables false
open Go Go.RowKit Go.Proofs Go.Maps Go.WideMaps
def keyN (x : Nd) : List UInt8 := keyL (x.k :: x.m)
def seenR : List Nd → DataW Unit
  | [] => .map []
  | x :: l => (seenR l).put (.string (keyN x)) (.lit (.bool true))
def seenQ (q : List Nd) : DataW Unit := seenR q.reverse
theorem seenQ_snoc (q : List Nd) (x : Nd) : seenQ (q ++ [x]) = (seenQ q).put (.string (keyN x)) (.lit (.bool true)) := by
  unfold seenQ
  rw [List.reverse_append]; rfl
theorem seenR_map : ∀ l, IsMap (seenR l)
  | [] => isMap_empty
  | x :: l => (seenR_map l).put _ _
theorem seenR_look (k : List UInt8) : ∀ l : List Nd, (seenR l).atKey (.string k) (.lit (.bool false)) = .lit (.bool (decide (k ∈ l.map keyN)))
  | [] => by simp [seenR, DataW.atKey]
  | x :: l => by
    by_cases e : k = keyN x
    · subst e
      rw [seenR, atKey_put_same (seenR_map l) (by first | trivial | simp [WideAt.IsKeyLit])]
      simp
    · rw [seenR, atKey_put_other (by intro h; injection h with h; exact e h), seenR_look k l]
      simp [e]
theorem qf_small {n : Net} {w : List ByteArray} {q : List Nd} (h : QF n w q) (hw : w.length ≤ 200) : ∀ y ∈ q, ∀ x ∈ y.k :: y.m, 0 ≤ x ∧ x ≤ 255 := by
  intro y hy x hx
  obtain ⟨i, hi, rfl⟩ := List.mem_iff_getElem.1 hy
  have e : gti q i = q[i] := by unfold gti; rw [List.getElem?_eq_getElem hi]; rfl
  obtain ⟨a1, a2, a3, _⟩ := h.at_ i hi
  rw [e] at a1 a2 a3
  rcases List.mem_cons.1 hx with rfl | hx
  · omega
  · exact markB_small a1 x hx
theorem seenQ_look {n : Net} {w : List ByteArray} {q : List Nd} (h : QF n w q) (hw : w.length ≤ 200) {k : Int} {m : List Int} (hkm : ∀ x ∈ k :: m, 0 ≤ x ∧ x ≤ 255) : (seenQ q).atKey (.string (keyL (k :: m))) (.lit (.bool false)) = .lit (.bool (decide ((k, m) ∈ q.map nkey))) := by
  unfold seenQ
  rw [seenR_look]
  congr 2
  rw [decide_eq_decide]
  simp only [List.mem_map, List.mem_reverse]
  constructor
  · rintro ⟨y, hy, e⟩
    have := keyL_inj (qf_small h hw y hy) hkm e
    injection this with e1 e2
    exact ⟨y, hy, by unfold nkey; rw [e1, e2]⟩
  · rintro ⟨y, hy, e⟩
    unfold nkey at e
    injection e with e1 e2
    exact ⟨y, hy, by unfold keyN; rw [e1, e2]⟩
section
variable {P : Program} [IsP P]
theorem seen_key {n : Net} {w : List ByteArray} {q : List Nd} (h : QF n w q) (hw : w.length ≤ 200) {k : Int} {m : List Int} (hkm : ∀ x ∈ k :: m, 0 ≤ x ∧ x ≤ 255) (hl : m.length ≤ 900) :
    ∃ kb : ByteArray, Pure P 44 [eL eI (k :: m)] (eS kb) ∧ kb.size ≤ maxLen ∧ (seenQ q).atKey (.string kb.data.toList) (.lit (.bool false)) = .lit (.bool (decide ((k, m) ∈ q.map nkey))) ∧ ∀ run, (seenQ q).put (.string kb.data.toList) (.lit (.bool true)) = seenQ (q ++ [⟨k, m, run⟩]) := by
  refine ⟨⟨(keyL (k :: m)).toArray⟩, key_pf (k :: m) hkm (by simp; omega) (by simp), ?_, ?_, fun run => ?_⟩
  · have := keyL_len (k :: m)
    simp only [ByteArray.size, List.size_toArray, maxLen]
    simp only [List.length_cons] at this
    omega
  · exact seenQ_look h hw hkm
  · exact (seenQ_snoc q ⟨k, m, run⟩).symm
theorem done_pf (x : Nd) (w : List ByteArray) (fin : List Int) : Pure P 43 [eNd x, .ref [eL eS w], .ref [eL eI fin]] (eB (decide (x.k = w.length) && decide (x.m = fin))) := by
  have he := eqI_pf (P := P) x.m fin
  refine aw_fn (by rw [IsP.eq (P := P)]; exact Try.func43) rfl rfl rfl rfl rfl (by repeat' (first | exact Lo.s _ | exact Lo.emp | exact Lo.any | exact zap | exact zao | refine zah ?_ ?_ | refine zai ?_ ?_ | refine zaq ?_ | refine zan ?_ | refine Lo.cells ?_ | refine Lo.agg _ ?_ | refine Lo.ref _ ?_ | refine Lo.tup _ ?_ | refine Lo.fn _ _ ?_ | refine Lo.sl _ ?_ | intro _)) (by repeat' (first | exact Lo.s _ | exact Lo.emp | exact Lo.any | exact zap | exact zao | refine zah ?_ ?_ | refine zai ?_ ?_ | refine zaq ?_ | refine zan ?_ | refine Lo.cells ?_ | refine Lo.agg _ ?_ | refine Lo.ref _ ?_ | refine Lo.tup _ ?_ | refine Lo.fn _ _ ?_ | refine Lo.sl _ ?_ | intro _)) (by simp only [argF]; rfl) ?_
  repeat (first | refine zaf ?_ | refine zak ?_ | refine zad ?_ | refine zal ?_ | refine zac ?_)
  refine zae ?_
  refine zab rfl rfl (zaa rfl) (does_box rfl rfl rfl rfl) ?_
  refine za5 (wk_froz (id := 0) rfl) (za5 (wk_ref (d := 3) rfl rfl rfl) ?_)
  refine zab rfl rfl (zaa rfl) (mv_s (.inr rfl) rfl) ?_
  refine zaj ?_
  repeat (first | refine zaf ?_ | refine zak ?_ | refine zad ?_ | refine zal ?_ | refine zac ?_)
  by_cases hk : x.k = w.length
  · skip
    refine zae ?_
    refine zab rfl rfl (zaa rfl) (zag rfl tf86_0 (by decide) rfl) ?_
    refine zab rfl rfl (zaa rfl) (zam rfl ta3 rfl) ?_
    refine zab rfl rfl (zaa rfl) (zam rfl ta25 rfl) ?_
    refine zab rfl rfl (zaa rfl) (za2 rfl ts25 rfl) ?_
    refine zab rfl rfl (zaa rfl) (dec_t hk (does_eql rfl rfl rfl)) ?_
    refine zab rfl rfl (zaa rfl) (mv_s (.inl rfl) rfl) ?_
    refine zab rfl rfl (zau rfl rfl rfl) (zag rfl tf86_1 (by decide) rfl) ?_
    refine zab rfl rfl (zau rfl rfl rfl) (zam rfl ta30 rfl) ?_
    refine zab rfl rfl (zau rfl rfl rfl) (zam rfl ta30 rfl) ?_
    refine zab rfl rfl (zau rfl rfl rfl) (zav rfl rfl (he) (zar rfl (zar rfl za0))) ?_
    refine zab rfl rfl (zaa rfl) (pickT_s rfl rfl rfl) ?_
    refine zab rfl rfl (zaa rfl) (mv_s (.inr rfl) rfl) ?_
    refine zaj ?_
    repeat (first | refine zaf ?_ | refine zak ?_ | refine zad ?_ | refine zal ?_ | refine zac ?_)
    (refine zbd ?_; repeat (first | refine ath_r ?_ | refine abl_r ?_))
    exact post1 (.inr rfl) rfl (congrArg eB (by rw [decide_eq_true hk, Bool.true_and]))
  · skip
    refine zae ?_
    refine zab rfl rfl (zaa rfl) (zag rfl tf86_0 (by decide) rfl) ?_
    refine zab rfl rfl (zaa rfl) (zam rfl ta3 rfl) ?_
    refine zab rfl rfl (zaa rfl) (zam rfl ta25 rfl) ?_
    refine zab rfl rfl (zaa rfl) (za2 rfl ts25 rfl) ?_
    refine zab rfl rfl (zaa rfl) (dec_f hk (does_eql rfl rfl rfl)) ?_
    refine zab rfl rfl (zaa rfl) (mv_s (.inl rfl) rfl) ?_
    refine zaw rfl rfl (runs_nt rfl rfl rfl) ?_
    refine zaw rfl rfl (runs_nt rfl rfl rfl) ?_
    refine zaw rfl rfl (runs_nt rfl rfl rfl) ?_
    refine zaw rfl rfl (runs_nt rfl rfl rfl) ?_
    refine zab rfl rfl (zaa rfl) (pickF_s rfl rfl rfl) ?_
    refine zab rfl rfl (zaa rfl) (mv_s (.inr rfl) rfl) ?_
    refine zaj ?_
    repeat (first | refine zaf ?_ | refine zak ?_ | refine zad ?_ | refine zal ?_ | refine zac ?_)
    (refine zbd ?_; repeat (first | refine ath_r ?_ | refine abl_r ?_))
    exact post1 (.inr rfl) rfl (congrArg eB (by rw [decide_eq_false hk, Bool.false_and]))
end
end Go.Proofs.Ytmhbfoaecebobaa.Aw
end
