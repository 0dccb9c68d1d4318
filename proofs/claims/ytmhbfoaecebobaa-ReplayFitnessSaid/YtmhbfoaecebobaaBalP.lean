/-
  What a replay that succeeds returns: the balance, the bounds, plainly. Conditions: none.
-/
import Derived.Test.YtmhbfoaecebobaaPlay5
namespace Go.Proofs.Ytmhbfoaecebobaa
set_option linter.unusedSimpArgs false
set_option linter.unusedVariables false
open Go.RowKit

def inS (n : Net) : List Int → Int
  | [] => 0
  | t :: l => (gti n.trans t.toNat).inn.length + inS n l
def outS (n : Net) : List Int → Int
  | [] => 0
  | t :: l => (gti n.trans t.toNat).out.length + outS n l
theorem inS_snoc (n : Net) (t : Int) : ∀ l, inS n (l ++ [t]) = inS n l + (gti n.trans t.toNat).inn.length
  | [] => by simp [inS]
  | a :: l => by rw [List.cons_append, inS, inS, inS_snoc n t l]; omega
theorem outS_snoc (n : Net) (t : Int) : ∀ l, outS n (l ++ [t]) = outS n l + (gti n.trans t.toNat).out.length
  | [] => by simp [outS]
  | a :: l => by rw [List.cons_append, outS, outS, outS_snoc n t l]; omega
/-- the activities that no transition has -/
def PC (n : Net) (s : Pl) : Prop := ∃ u : Int, 0 ≤ u ∧ s.c.c = u + inS n s.run ∧ s.c.p = 1 + u + outS n s.run
theorem PC.take {n : Net} {s : Pl} (h : PC n s) (t : Int) : PC n (takeP n t s) := by
  obtain ⟨u, h0, h1, h2⟩ := h
  obtain ⟨e1, e2, e3, e4⟩ := takeP_c n t s
  refine ⟨u, h0, ?_, ?_⟩
  · rw [e1, e4, inS_snoc]; omega
  · rw [e2, e4, outS_snoc]; omega
theorem PC.all {n : Net} : ∀ {l : List Int} {s : Pl}, PC n s → PC n (takeAll n l s)
  | [], s, h => h
  | t :: l, s, h => PC.all (l := l) (s := takeP n t s) (h.take t)
theorem PC.play {n : Net} {s : Pl} (h : PC n s) (act : ByteArray) : PC n (playE n act s) := by
  unfold playE
  split
  · exact h.all.take _
  · split
    · exact h.take _
    · obtain ⟨u, h0, h1, h2⟩ := h
      exact ⟨u + 1, by omega, by simp only; omega, by simp only; omega⟩
theorem playL_some {n : Net} (hv : validB n = true) : ∀ {l : List ByteArray} {s s' : Pl} {B : Nat}, PM n s → s.big = false → Sm s B → PC n s → playL n l s = some s' → PM n s' ∧ s'.big = false ∧ Sm s' (B + 200 * l.length) ∧ PC n s'
  | [], s, s', B, h1, h2, h3, h4, h => by
    simp only [playL, Option.some.injEq] at h
    subst h
    exact ⟨h1, h2, by simpa using h3, h4⟩
  | a :: l, s, s', B, h1, h2, h3, h4, h => by
    rw [playL] at h
    split at h
    · cases h
    · rename_i hb
      obtain ⟨p1, p2⟩ := play_pm (act := a) hv h1 h2 h3
      obtain ⟨q1, q2, q3, q4⟩ := playL_some hv (l := l) p1 (by simpa using hb) p2 (h4.play a) h
      exact ⟨q1, q2, q3.mono (by simp; omega), q4⟩
theorem takeIn1_c (s : Pl) (k : Int) : (takeIn1 s k).c.p = s.c.p ∧ (takeIn1 s k).c.c = s.c.c + 1 ∧ (takeIn1 s k).c.r = s.c.r := by
  unfold takeIn1; split <;> exact ⟨rfl, rfl, rfl⟩
structure Good3 (n : Net) (c : Cnt) (run : List Int) : Prop where
  u : ∃ u : Int, 0 ≤ u ∧ c.c = 1 + u + inS n run ∧ c.p = 1 + u + outS n run
  m0 : 0 ≤ c.m
  mc : c.m ≤ c.c
  r0 : 0 ≤ c.r
  rp : c.r ≤ c.p
  bal : c.p + c.m = c.c + c.r
  rg : ∀ t ∈ run, 0 ≤ t ∧ t < n.trans.length
  big : c.p ≤ 10000000 ∧ c.c ≤ 10000000
  len : run.length ≤ 100000
  valid : validB n = true
theorem PlayE_good {n : Net} {w : List ByteArray} (h : (PlayE n w).2.2 = 0) : Good3 n (PlayE n w).1 (PlayE n w).2.1 := by
  unfold PlayE at h ⊢
  split at h
  · exact absurd h (by decide)
  · rename_i hw
    split at h
    · exact absurd h (by decide)
    · rename_i hl
      rw [if_neg hw, if_neg hl]
      have hv : validB n = true := by
        cases hz : wfB n with
        | false => rw [hz] at hw; exact absurd rfl hw
        | true => exact wfB_valid hz
      cases hp : playL n w (pl0 n) with
      | none => rw [hp] at h; exact absurd h (by simp [endE])
      | some s =>
        rw [hp] at h
        obtain ⟨a1, a2, a3⟩ := pl0_pm hv
        obtain ⟨b1, b2, b3, b4⟩ := playL_some hv a1 a3 a2 ⟨0, by omega, by simp [pl0, inS], by simp [pl0, outS]⟩ hp
        obtain ⟨c1, c2, c3⟩ := finA_pm hv b1 b2 b3
        have c4 : PC n (finA n s) := by
          unfold finA
          split
          · exact b4.all
          · exact b4
        unfold endE at h ⊢
        simp only at h ⊢
        split at h
        · exact absurd h (by simp)
        · rename_i hb
          rw [if_neg hb]
          have hs := (validB_ends hv).2
          have hpt := c1.pt.in1 hs.1 hs.2
          obtain ⟨e1, e2, e3⟩ := takeIn1_c (finA n s) n.sink
          have hbal := hpt.bal
          have hsum := sumI_ge _ hpt.nn
          have h1 := hpt.c0
          have h2 := hpt.mc
          have h3 := hpt.r0
          have h4 := c2.p
          have h5 := c2.c
          have h6 := c2.l
          obtain ⟨u, u0, u1, u2⟩ := c4
          refine ⟨⟨u, u0, ?_, ?_⟩, ?_, ?_, ?_, ?_, ?_, ?_, ⟨?_, ?_⟩, ?_, hv⟩
          · simp only [finE]; omega
          · simp only [finE]; omega
          · simp only [finE]; omega
          · simp only [finE]; omega
          · simp only [finE]; omega
          · simp only [finE]; omega
          · simp only [finE]; omega
          · exact c1.rg
          · simp only [finE]; omega
          · simp only [finE]; omega
          · simp only [finE]; omega
theorem PlayE_err {n : Net} {w : List ByteArray} (h : (PlayE n w).2.2 ≠ 0) : (PlayE n w).1 = ⟨0, 0, 0, 0⟩ ∧ (PlayE n w).2.1 = [] := by
  unfold PlayE at h ⊢
  split
  · exact ⟨rfl, rfl⟩
  · rename_i hw
    rw [if_neg hw] at h
    split
    · exact ⟨rfl, rfl⟩
    · rename_i hl
      rw [if_neg hl] at h
      unfold endE at h ⊢
      split
      · exact ⟨rfl, rfl⟩
      · rename_i s hs
        rw [hs] at h
        simp only at h
        split
        · exact ⟨rfl, rfl⟩
        · rename_i hb; rw [if_neg hb] at h; exact absurd rfl h
end Go.Proofs.Ytmhbfoaecebobaa
