/-
  The player of replays, plainly: transitions taken, activities played, the end. Conditions: none.
-/
import Derived.Test.YtmhbfoaecebobaaRepP
namespace Go.Proofs.Ytmhbfoaecebobaa
set_option linter.unusedSimpArgs false
set_option linter.unusedVariables false
open Go.RowKit

/-- what is produced, consumed, missing, remaining -/
structure Cnt where
  p : Int
  c : Int
  m : Int
  r : Int
  deriving Inhabited, DecidableEq
structure Pl where
  m : List Int
  c : Cnt
  run : List Int
  big : Bool
  deriving Inhabited
def takeIn1 (s : Pl) (k : Int) : Pl :=
  if 0 < gti s.m k.toNat then ⟨s.m.set k.toNat (gti s.m k.toNat - 1), ⟨s.c.p, s.c.c + 1, s.c.m, s.c.r⟩, s.run, s.big⟩
  else ⟨s.m, ⟨s.c.p, s.c.c + 1, s.c.m + 1, s.c.r⟩, s.run, s.big⟩
def takeIn : List Int → Pl → Pl
  | [], s => s
  | k :: ks, s => takeIn ks (takeIn1 s k)
def takeOut1 (s : Pl) (k : Int) : Pl := ⟨s.m.set k.toNat (gti s.m k.toNat + 1), ⟨s.c.p + 1, s.c.c, s.c.m, s.c.r⟩, s.run, s.big⟩
def takeOut : List Int → Pl → Pl
  | [], s => s
  | k :: ks, s => takeOut ks (takeOut1 s k)
def takeEnd (s : Pl) (t : Int) : Pl := ⟨s.m, s.c, s.run ++ [t], s.big || decide (100 < maxL s.m)⟩
def takeP (n : Net) (t : Int) (s : Pl) : Pl := takeEnd (takeOut (gti n.trans t.toNat).out (takeIn (gti n.trans t.toNat).inn s)) t
def takeAll (n : Net) : List Int → Pl → Pl
  | [], s => s
  | t :: l, s => takeAll n l (takeP n t s)
theorem takeAll_app (n : Net) : ∀ (a b : List Int) (s : Pl), takeAll n (a ++ b) s = takeAll n b (takeAll n a s)
  | [], b, s => rfl
  | t :: a, b, s => takeAll_app n a b (takeP n t s)
def enB2 (m : List Int) (act : ByteArray) (t : Tr) : Bool := decide (t.label = act) && enB t m
def enabledAt (n : Net) (m : List Int) (act : ByteArray) : Int := firstAt (enB2 m act) n.trans
def labB (act : ByteArray) (t : Tr) : Bool := decide (t.label = act)
def labAt (n : Net) (act : ByteArray) : Int := firstAt (labB act) n.trans
def goodA (n : Net) (act : ByteArray) (m : List Int) : Bool := decide (0 ≤ enabledAt n m act)
def goodF (n : Net) (m : List Int) : Bool := decide (0 < gti m n.sink.toNat)
def playE (n : Net) (act : ByteArray) (s : Pl) : Pl :=
  match silE n (goodA n act) s.m with
  | some way => takeP n (enabledAt n (takeAll n way s).m act) (takeAll n way s)
  | none => if 0 ≤ labAt n act then takeP n (labAt n act) s else ⟨s.m, ⟨s.c.p + 1, s.c.c + 1, s.c.m + 1, s.c.r + 1⟩, s.run, s.big⟩
def sumI : List Int → Int
  | [] => 0
  | x :: l => x + sumI l
def finA (n : Net) (s : Pl) : Pl := match silE n (goodF n) s.m with | some way => takeAll n way s | none => s
def finE (n : Net) (s : Pl) : Pl :=
  ⟨(takeIn1 (finA n s) n.sink).m, ⟨(takeIn1 (finA n s) n.sink).c.p, (takeIn1 (finA n s) n.sink).c.c, (takeIn1 (finA n s) n.sink).c.m, (takeIn1 (finA n s) n.sink).c.r + sumI (takeIn1 (finA n s) n.sink).m⟩, (finA n s).run, (finA n s).big⟩
def playL (n : Net) : List ByteArray → Pl → Option Pl
  | [], s => some s
  | a :: l, s => if (playE n a s).big then none else playL n l (playE n a s)
def pl0 (n : Net) : Pl := ⟨oneL n.places.toNat n.source, ⟨1, 0, 0, 0⟩, [], false⟩
def endE (n : Net) : Option Pl → Cnt × List Int × Int
  | none => (⟨0, 0, 0, 0⟩, [], 6)
  | some s => if (finE n s).big then (⟨0, 0, 0, 0⟩, [], 6) else ((finE n s).c, (finE n s).run, 0)
noncomputable def PlayE (n : Net) (w : List ByteArray) : Cnt × List Int × Int :=
  if (wfB n && allN w) = false then (⟨0, 0, 0, 0⟩, [], 1) else if 200 < w.length then (⟨0, 0, 0, 0⟩, [], 5) else endE n (playL n w (pl0 n))

/-- the marking is one of the net's size, and no token is less than nought -/
structure PM (n : Net) (s : Pl) : Prop where
  len : (s.m.length : Int) = n.places
  nn : ∀ i, 0 ≤ gti s.m i
  ok : s.big = false → markB n s.m = true
  c0 : 0 ≤ s.c.m
  mc : s.c.m ≤ s.c.c
  r0 : 0 ≤ s.c.r
  bal : s.c.p + s.c.m = s.c.c + s.c.r + sumI s.m
  rg : ∀ t ∈ s.run, 0 ≤ t ∧ t < n.trans.length
theorem sumI_set : ∀ (m : List Int) (k : Nat) (x : Int), k < m.length → sumI (m.set k x) = sumI m - gti m k + x
  | [], k, x, h => by simp at h
  | y :: m, 0, x, h => by simp [sumI, gti]; omega
  | y :: m, k + 1, x, h => by
    have := sumI_set m k x (by simpa using h)
    have e : gti (y :: m) (k + 1) = gti m k := by simp [gti]
    simp only [List.set_cons_succ, sumI, e]
    omega
theorem sumI_ge : ∀ (m : List Int), (∀ i, 0 ≤ gti m i) → 0 ≤ sumI m ∧ ∀ i, gti m i ≤ sumI m
  | [], h => ⟨Int.le_refl _, fun i => by simp [gti, sumI]⟩
  | y :: m, h => by
    have h0 := h 0
    have e : gti (y :: m) 0 = y := by simp [gti]
    rw [e] at h0
    obtain ⟨h1, h2⟩ := sumI_ge m (fun i => by have := h (i + 1); have e : gti (y :: m) (i + 1) = gti m i := by simp [gti]
                                              rwa [e] at this)
    refine ⟨by simp only [sumI]; omega, fun i => ?_⟩
    cases i with
    | zero => rw [e]; simp only [sumI]; omega
    | succ i =>
      have e : gti (y :: m) (i + 1) = gti m i := by simp [gti]
      rw [e]
      have := h2 i
      simp only [sumI]
      omega
/-- counters and tokens are small -/
theorem PM.small {n : Net} {s : Pl} (h : PM n s) : 0 ≤ s.c.c ∧ 0 ≤ s.c.p ∧ ∀ i, 0 ≤ gti s.m i ∧ gti s.m i ≤ s.c.p := by
  obtain ⟨h1, h2⟩ := sumI_ge s.m h.nn
  have := h.bal; have := h.mc; have := h.c0; have := h.r0
  refine ⟨by omega, by omega, fun i => ?_⟩
  have := h.nn i
  have := h2 i
  omega
/-- what holds while a transition is taken -/
structure PT (n : Net) (s : Pl) : Prop where
  len : (s.m.length : Int) = n.places
  nn : ∀ i, 0 ≤ gti s.m i
  c0 : 0 ≤ s.c.m
  mc : s.c.m ≤ s.c.c
  r0 : 0 ≤ s.c.r
  bal : s.c.p + s.c.m = s.c.c + s.c.r + sumI s.m
theorem PM.pt {n : Net} {s : Pl} (h : PM n s) : PT n s := ⟨h.len, h.nn, h.c0, h.mc, h.r0, h.bal⟩
theorem PT.small {n : Net} {s : Pl} (h : PT n s) : 0 ≤ s.c.c ∧ 0 ≤ s.c.p ∧ ∀ i, 0 ≤ gti s.m i ∧ gti s.m i ≤ s.c.p := by
  obtain ⟨h1, h2⟩ := sumI_ge s.m h.nn
  have := h.bal; have := h.mc; have := h.c0; have := h.r0
  refine ⟨by omega, by omega, fun i => ?_⟩
  have := h.nn i
  have := h2 i
  omega
theorem PT.in1 {n : Net} {s : Pl} (h : PT n s) {k : Int} (h0 : 0 ≤ k) (h1 : k < n.places) : PT n (takeIn1 s k) := by
  have hl := h.len
  unfold takeIn1
  split
  · rename_i hg
    refine ⟨by simpa using hl, fun i => ?_, h.c0, ?_, h.r0, ?_⟩
    · simp only
      rw [gti_set]
      have := h.nn i
      split <;> omega
    · have := h.mc; simp only; omega
    · have := h.bal
      simp only
      rw [sumI_set _ _ _ (by omega)]
      omega
  · refine ⟨hl, h.nn, ?_, ?_, h.r0, ?_⟩
    · have := h.c0; simp only; omega
    · have := h.mc; simp only; omega
    · have := h.bal; simp only; omega
theorem PT.out1 {n : Net} {s : Pl} (h : PT n s) {k : Int} (h0 : 0 ≤ k) (h1 : k < n.places) : PT n (takeOut1 s k) := by
  have hl := h.len
  refine ⟨by simpa [takeOut1] using hl, fun i => ?_, h.c0, h.mc, h.r0, ?_⟩
  · simp only [takeOut1]
    rw [gti_set]
    have := h.nn i
    have := h.nn k.toNat
    split <;> omega
  · have := h.bal
    simp only [takeOut1]
    rw [sumI_set _ _ _ (by omega)]
    omega
theorem takeIn_c : ∀ (l : List Int) (s : Pl), (takeIn l s).c.c = s.c.c + l.length ∧ (takeIn l s).c.p = s.c.p ∧ (takeIn l s).c.r = s.c.r ∧ (takeIn l s).run = s.run ∧ (takeIn l s).big = s.big
  | [], s => by simp [takeIn]
  | k :: l, s => by
    have := takeIn_c l (takeIn1 s k)
    have e : (takeIn1 s k).c.c = s.c.c + 1 ∧ (takeIn1 s k).c.p = s.c.p ∧ (takeIn1 s k).c.r = s.c.r ∧ (takeIn1 s k).run = s.run ∧ (takeIn1 s k).big = s.big := by
      unfold takeIn1; split <;> simp
    rw [takeIn, this.1, this.2.1, this.2.2.1, this.2.2.2.1, this.2.2.2.2, e.1, e.2.1, e.2.2.1, e.2.2.2.1, e.2.2.2.2]
    refine ⟨?_, rfl, rfl, rfl, rfl⟩
    simp; omega
theorem takeOut_c : ∀ (l : List Int) (s : Pl), (takeOut l s).c.p = s.c.p + l.length ∧ (takeOut l s).c.c = s.c.c ∧ (takeOut l s).c.m = s.c.m ∧ (takeOut l s).c.r = s.c.r ∧ (takeOut l s).run = s.run ∧ (takeOut l s).big = s.big
  | [], s => by simp [takeOut]
  | k :: l, s => by
    have := takeOut_c l (takeOut1 s k)
    rw [takeOut, this.1, this.2.1, this.2.2.1, this.2.2.2.1, this.2.2.2.2.1, this.2.2.2.2.2]
    refine ⟨?_, rfl, rfl, rfl, rfl, rfl⟩
    simp [takeOut1]; omega
theorem PT.inn {n : Net} : ∀ {l : List Int} {s : Pl}, PT n s → (∀ k ∈ l, 0 ≤ k ∧ k < n.places) → PT n (takeIn l s)
  | [], s, h, _ => h
  | k :: l, s, h, hl => PT.inn (l := l) (s := takeIn1 s k) (h.in1 (hl k (List.mem_cons_self ..)).1 (hl k (List.mem_cons_self ..)).2) (fun j hj => hl j (List.mem_cons_of_mem _ hj))
theorem PT.outt {n : Net} : ∀ {l : List Int} {s : Pl}, PT n s → (∀ k ∈ l, 0 ≤ k ∧ k < n.places) → PT n (takeOut l s)
  | [], s, h, _ => h
  | k :: l, s, h, hl => PT.outt (l := l) (s := takeOut1 s k) (h.out1 (hl k (List.mem_cons_self ..)).1 (hl k (List.mem_cons_self ..)).2) (fun j hj => hl j (List.mem_cons_of_mem _ hj))
theorem all01_intro : ∀ {m : List Int}, (∀ i, 0 ≤ gti m i ∧ gti m i ≤ 100) → all01 m = true
  | [], _ => rfl
  | x :: m, h => by
    have h0 := h 0
    have e : gti (x :: m) 0 = x := by simp [gti]
    rw [e] at h0
    have := all01_intro (m := m) (fun i => by have := h (i + 1); have e : gti (x :: m) (i + 1) = gti m i := by simp [gti]
                                              rwa [e] at this)
    simp only [all01]
    rw [this]
    grind
/-- what is true of the places of a valid net's transition -/
theorem trans_in {n : Net} (hv : validB n = true) {t : Nat} (ht : t < n.trans.length) : (∀ k ∈ (gti n.trans t).inn, 0 ≤ k ∧ k < n.places) ∧ (∀ k ∈ (gti n.trans t).out, 0 ≤ k ∧ k < n.places) ∧ (gti n.trans t).inn.length ≤ 40 ∧ (gti n.trans t).out.length ≤ 40 := by
  obtain ⟨_, h1, h2⟩ := validB_tr hv (gti_mem ht)
  have := validB_places hv
  have a1 := placesB_len h1
  have a2 := placesB_len h2
  refine ⟨fun k hk => Go.Proofs.Ytmhbfoaecebobaa.placesB_mem h1 hk, fun k hk => Go.Proofs.Ytmhbfoaecebobaa.placesB_mem h2 hk, ?_, ?_⟩ <;> omega
theorem takeOut_m : ∀ (l : List Int) (s : Pl), (takeOut l s).m = incL l s.m
  | [], s => rfl
  | k :: l, s => takeOut_m l (takeOut1 s k)
theorem takeIn_m : ∀ (l : List Int) (s : Pl) {n : Int}, placesB n l = true → (∀ k ∈ l, 0 < gti s.m k.toNat) → (takeIn l s).m = decL l s.m
  | [], s, n, _, _ => rfl
  | k :: l, s, n, hp, h => by
    have h0 := h k (List.mem_cons_self ..)
    obtain ⟨_, _, hd⟩ := placesB_head hp
    have e : takeIn1 s k = ⟨s.m.set k.toNat (gti s.m k.toNat - 1), ⟨s.c.p, s.c.c + 1, s.c.m, s.c.r⟩, s.run, s.big⟩ := by unfold takeIn1; rw [if_pos h0]
    rw [takeIn, takeIn_m l (takeIn1 s k) (placesB_tail hp) (fun j hj => ?_), e, decL]
    rw [e]
    simp only
    rw [gti_set, if_neg (fun hh => hd j hj hh.1.symm)]
    exact h j (List.mem_cons_of_mem _ hj)
theorem PM.take {n : Net} {s : Pl} (h : PM n s) (hv : validB n = true) {t : Int} (h0 : 0 ≤ t) (h1 : t < n.trans.length) : PM n (takeP n t s) := by
  obtain ⟨hi, ho, _⟩ := trans_in hv (t := t.toNat) (by omega)
  have hp := (h.pt.inn hi).outt ho
  have hc := takeOut_c (gti n.trans t.toNat).out (takeIn (gti n.trans t.toNat).inn s)
  have hci := takeIn_c (gti n.trans t.toNat).inn s
  refine ⟨hp.len, hp.nn, fun hb => ?_, hp.c0, hp.mc, hp.r0, hp.bal, fun u hu => ?_⟩
  · unfold takeP takeEnd at hb ⊢
    simp only [Bool.or_eq_false_iff, decide_eq_false_iff_not] at hb
    have hpl := validB_places hv
    have hlen := hp.len
    have hmx := maxL_gt 100 (l := (takeOut (gti n.trans t.toNat).out (takeIn (gti n.trans t.toNat).inn s)).m) (by omega)
    have hno : (takeOut (gti n.trans t.toNat).out (takeIn (gti n.trans t.toNat).inn s)).m.any (fun y => decide (100 < y)) = false := by rw [← hmx]; simp; omega
    unfold markB mark2B
    simp only
    rw [hv, if_neg (by omega), all01_intro (fun i => ⟨hp.nn i, ?_⟩)]
    · rfl
    · by_cases hil : i < (takeOut (gti n.trans t.toNat).out (takeIn (gti n.trans t.toNat).inn s)).m.length
      · have := List.any_eq_false.1 hno _ (gti_mem hil)
        simpa using this
      · have hz : ∀ (l : List Int) (j : Nat), l.length ≤ j → gti l j ≤ 100 := fun l j hj => by unfold gti; rw [List.getElem?_eq_none hj]; simp
        exact hz _ i (by omega)
  · unfold takeP takeEnd at hu
    simp only [List.mem_append, List.mem_singleton] at hu
    rw [hc.2.2.2.2.1, hci.2.2.2.1] at hu
    rcases hu with hu | rfl
    · exact h.rg u hu
    · exact ⟨h0, h1⟩
theorem takeP_c (n : Net) (t : Int) (s : Pl) : (takeP n t s).c.c = s.c.c + (gti n.trans t.toNat).inn.length ∧ (takeP n t s).c.p = s.c.p + (gti n.trans t.toNat).out.length ∧ (takeP n t s).c.r = s.c.r ∧ (takeP n t s).run = s.run ++ [t] := by
  have hc := takeOut_c (gti n.trans t.toNat).out (takeIn (gti n.trans t.toNat).inn s)
  have hci := takeIn_c (gti n.trans t.toNat).inn s
  unfold takeP takeEnd
  simp only
  rw [hc.1, hc.2.1, hc.2.2.2.1, hc.2.2.2.2.1, hci.1, hci.2.1, hci.2.2.1, hci.2.2.2.1]
  exact ⟨rfl, rfl, rfl, rfl⟩
/-- a transition that fires, taken -/
theorem take_fire {n : Net} {s : Pl} (h : PM n s) (hb : s.big = false) {t : Int} (h0 : 0 ≤ t) (h1 : t < n.trans.length) (hf : (FireE n s.m t).2 = 0) : (takeP n t s).m = (FireE n s.m t).1 ∧ (takeP n t s).big = false := by
  have hm := h.ok hb
  have hv : validB n = true := by unfold markB at hm; simp only [Bool.and_eq_true] at hm; exact hm.1
  unfold FireE fireE at hf ⊢
  rw [if_pos hm] at hf ⊢
  rw [if_neg (by omega)] at hf ⊢
  split at hf
  · rename_i he
    rw [if_pos he]
    split at hf
    · cases hf
    · rename_i hn
      rw [if_neg hn]
      obtain ⟨_, hpi, hpo⟩ := validB_tr hv (gti_mem (l := n.trans) (k := t.toNat) (by omega))
      have e : (takeP n t s).m = incL (gti n.trans t.toNat).out (decL (gti n.trans t.toNat).inn s.m) := by
        unfold takeP takeEnd
        simp only
        rw [takeOut_m, takeIn_m _ _ hpi (fun k hk => by
          have := enB_at he hk
          have := h.nn k.toNat
          omega)]
      refine ⟨e, ?_⟩
      have hpl := validB_places hv
      have hlen := (PM.take h hv h0 h1).len
      rw [e] at hlen
      have hmx := maxL_gt 100 (l := incL (gti n.trans t.toNat).out (decL (gti n.trans t.toNat).inn s.m)) (by omega)
      have hmx' : ¬ (100 : Int) < maxL (incL (gti n.trans t.toNat).out (decL (gti n.trans t.toNat).inn s.m)) := fun h => hn (by rw [← hmx]; simpa using h)
      have hci := takeIn_c (gti n.trans t.toNat).inn s
      have hc := takeOut_c (gti n.trans t.toNat).out (takeIn (gti n.trans t.toNat).inn s)
      have e2 : (takeP n t s).big = (s.big || decide (100 < maxL (takeP n t s).m)) := by
        unfold takeP takeEnd
        simp only
        rw [hc.2.2.2.2.2, hci.2.2.2.2]
      rw [e2, hb, e]
      simpa using hmx'
  · cases hf
theorem takeAll_run {n : Net} (hv : validB n = true) : ∀ {l : List Int} {s : Pl} {m' : List Int}, PM n s → s.big = false → runTo n s.m l = some m' → PM n (takeAll n l s) ∧ (takeAll n l s).m = m' ∧ (takeAll n l s).big = false ∧ (takeAll n l s).run = s.run ++ l ∧ (takeAll n l s).c.r = s.c.r
  | [], s, m', h, hb, hr => by
    simp only [runTo, Option.some.injEq] at hr
    exact ⟨h, hr, hb, by simp [takeAll], rfl⟩
  | t :: l, s, m', h, hb, hr => by
    rw [runTo] at hr
    split at hr
    · rename_i hc
      obtain ⟨h1, h2⟩ := take_fire h hb hc.1 hc.2.1 hc.2.2
      have hcc := takeP_c n t s
      obtain ⟨a1, a2, a3, a4, a5⟩ := takeAll_run hv (l := l) (PM.take h hv hc.1 hc.2.1) h2 (m' := m') (by rw [h1]; exact hr)
      rw [takeAll]
      exact ⟨a1, a2, a3, by rw [a4, hcc.2.2.2]; simp, by rw [a5, hcc.2.2.1]⟩
    · cases hr
end Go.Proofs.Ytmhbfoaecebobaa
