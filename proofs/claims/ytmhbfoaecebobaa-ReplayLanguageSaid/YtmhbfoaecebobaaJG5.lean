import Derived.Test.YtmhbfoaecebobaaJG4
import Derived.Test.YtmhbfoaecebobaaJG2
import Derived.Maps.Own
import Derived.Maps.Views
section
namespace Go.Proofs.Ytmhbfoaecebobaa.Aw
set_option linter.unusedSimpArgs false
set_option linter.unusedVariables false
open Go.RowKit Go.Proofs
variable {P : Program} [IsP P]
theorem indexFS_pf (f : FuncId) (caps : List AV) (p : ByteArray → Bool) (l : List ByteArray) (hlo : ∀ a : ByteArray, Lo 0 (eS a)) (hlc : Lo 0 (.fn f caps)) (hf : ∀ a ∈ l, Pure P f ([eS a] ++ caps) (eB (p a))) :
    Pure P 64 [eL eS l, .fn f caps] (eI (firstAt p l)) := by
  refine aw_fn (by rw [IsP.eq (P := P)]; exact Try.func64) rfl rfl rfl rfl rfl (zah (zaq hlo) (zah hlc zap)) (.s _) (by simp only [argF]; rfl) ?_
  refine aw_bdm (d := 0) rfl (fun hmx => ?_)
  unfold maxLen at hmx
  repeat (first | refine zaf ?_ | refine zak ?_ | refine zad ?_ | refine zal ?_ | refine zac ?_)
  refine zae ?_
  refine zab rfl rfl (zaa rfl) (mv_s (.inr rfl) rfl) ?_
  refine zaj ?_
  repeat (first | refine zaf ?_ | refine zak ?_ | refine zad ?_ | refine zal ?_ | refine zac ?_)
  refine zae ?_
  refine zab rfl rfl (zaa rfl) (mv_sl (.inl rfl) rfl) ?_
  refine zab rfl rfl (zaa rfl) (za2 rfl ts25 rfl) ?_
  refine zab rfl rfl (zaa rfl) (mv_s (.inl rfl) rfl) ?_
  refine zaj ?_
  repeat (first | refine zaf ?_ | refine zak ?_ | refine zad ?_ | refine zal ?_ | refine zac ?_)
  refine aw_loops (S := Nat) (fun k => [(0, eL eS l), (1, .fn f caps), (7, eI l.length), (8, eI k)]) (fun _ => []) (fun k => k ≤ l.length ∧ ∀ j a, j < k → l[j]? = some a → p a = false) (fun k => l.length - k) 0 (wk_sub _ ⟨rfl, rfl, rfl, rfl, trivial⟩) ⟨by omega, fun j a hj => by omega⟩ (fun k hk => ?_)
  repeat (first | refine zaf ?_ | refine zak ?_ | refine zad ?_ | refine zal ?_ | refine zac ?_)
  refine zae ?_
  refine zab rfl rfl (zaa rfl) (does_lss rfl rfl rfl) ?_
  refine zaj ?_
  repeat (first | refine zaf ?_ | refine zak ?_ | refine zad ?_ | refine zal ?_ | refine zac ?_)
  refine aw_if rfl (fun h => ?_) (fun h => ?_)
  · have hlt : k < l.length := by omega
    repeat (first | refine zaf ?_ | refine zak ?_ | refine zad ?_ | refine zal ?_ | refine zac ?_)
    refine zae ?_
    refine zab rfl rfl (zaa rfl) (mv_s (.inl rfl) rfl) ?_
    refine zab rfl rfl (zaa rfl) (mv_s (.inr rfl) rfl) ?_
    refine zaj ?_
    repeat (first | refine zaf ?_ | refine zak ?_ | refine zad ?_ | refine zal ?_ | refine zac ?_)
    have hp := hf (gti l k) (gti_mem hlt)
    refine zae ?_
    refine zab rfl rfl (zaa rfl) (mv_fn (.inl rfl) rfl) ?_
    refine zab rfl rfl (zaa rfl) (mv_sl (.inl rfl) rfl) ?_
    refine zab rfl rfl (zaa rfl) (mv_s (.inl rfl) rfl) ?_
    refine zab rfl rfl (zaa rfl) (za1 rfl ts25 ti9 rfl rfl rfl (ix_map (by omega)) rfl) ?_
    refine zab rfl rfl (zaa rfl) (zam rfl ta9 rfl) ?_
    refine zab rfl rfl (zaa rfl) (zav rfl rfl (hp) (zar rfl za0)) ?_
    refine zaj ?_
    repeat (first | refine zaf ?_ | refine zak ?_ | refine zad ?_ | refine zal ?_ | refine zac ?_)
    refine aw_cond rfl (fun h => ?_) (fun h => ?_)
    · repeat (first | refine zaf ?_ | refine zak ?_ | refine zad ?_ | refine zal ?_ | refine zac ?_)
      refine zae ?_
      refine zab rfl rfl (zaa rfl) (mv_s (.inl rfl) rfl) ?_
      refine zab rfl rfl (zaa rfl) (mv_s (.inr rfl) rfl) ?_
      refine zaj ?_
      repeat (first | refine zaf ?_ | refine zak ?_ | refine zad ?_ | refine zal ?_ | refine zac ?_)
      (refine zbd ?_; repeat (first | refine ath_r ?_ | refine abl_r ?_))
      exact post1 (.inr rfl) rfl (congrArg eI (firstAt_some (gti_get hlt) h hk.2).symm)
    · repeat (first | refine zaf ?_ | refine zak ?_ | refine zad ?_ | refine zal ?_ | refine zac ?_)
      refine zae ?_
      refine zab rfl rfl (zaa rfl) (does_add rfl rfl rfl (IntWalk.i64_in _ (by omega))) ?_
      refine zab rfl rfl (zaa rfl) (mv_s (.inl rfl) rfl) ?_
      refine zaj ?_
      repeat (first | refine zaf ?_ | refine zak ?_ | refine zad ?_ | refine zal ?_ | refine zac ?_)
      refine ⟨k + 1, ⟨by omega, fun j a hj ha => ?_⟩, by omega, wk_sub _ ⟨rfl, rfl, rfl, rfl, trivial⟩⟩
      by_cases e : j = k
      · subst e
        rw [gti_get hlt] at ha
        cases ha
        exact h
      · exact hk.2 j a (by omega) ha
  · (refine aw_exit ?_; repeat (first | refine ath_x ?_ | refine abl_hit ?_ | refine abl_miss rfl ?_ | refine zal ?_ | refine zak ?_ | refine zaf ?_ | refine zad ?_ | refine zac ?_))
    refine zae ?_
    refine zab rfl rfl (zaa rfl) (mv_s (.inr rfl) rfl) ?_
    refine zaj ?_
    repeat (first | refine zaf ?_ | refine zak ?_ | refine zad ?_ | refine zal ?_ | refine zac ?_)
    (refine zbd ?_; repeat (first | refine ath_r ?_ | refine abl_r ?_))
    exact post1 (.inr rfl) rfl (congrArg eI (firstAt_none (fun j a hj ha => hk.2 j a (by omega) ha)).symm)
theorem containsFS_pf (f : FuncId) (caps : List AV) (p : ByteArray → Bool) (l : List ByteArray) (hlo : ∀ a : ByteArray, Lo 0 (eS a)) (hlc : Lo 0 (.fn f caps)) (hf : ∀ a ∈ l, Pure P f ([eS a] ++ caps) (eB (p a))) :
    Pure P 23 [eL eS l, .fn f caps] (eB (l.any p)) := by
  refine aw_fn (by rw [IsP.eq (P := P)]; exact Try.func23) rfl rfl rfl rfl rfl (zah (zaq hlo) (zah hlc zap)) (.s _) (by simp only [argF]; rfl) ?_
  have hi := indexFS_pf f caps p l hlo hlc hf
  repeat (first | refine zaf ?_ | refine zak ?_ | refine zad ?_ | refine zal ?_ | refine zac ?_)
  refine zae ?_
  refine zab rfl rfl (zaa rfl) (mv_s (.inr rfl) rfl) ?_
  refine zaj ?_
  repeat (first | refine zaf ?_ | refine zak ?_ | refine zad ?_ | refine zal ?_ | refine zac ?_)
  refine zae ?_
  refine zab rfl rfl (zaa rfl) (mv_sl (.inl rfl) rfl) ?_
  refine zab rfl rfl (zaa rfl) (mv_fn (.inl rfl) rfl) ?_
  refine zab rfl rfl (zaa rfl) (zav rfl rfl (hi) (zar rfl (zar rfl za0))) ?_
  refine zab rfl rfl (zaa rfl) (does_geq rfl rfl rfl) ?_
  refine zab rfl rfl (zaa rfl) (mv_s (.inr rfl) rfl) ?_
  refine zaj ?_
  repeat (first | refine zaf ?_ | refine zak ?_ | refine zad ?_ | refine zal ?_ | refine zac ?_)
  (refine zbd ?_; repeat (first | refine ath_r ?_ | refine abl_r ?_))
  exact post1 (.inr rfl) rfl (congrArg eB (firstAt_any p l))
end Go.Proofs.Ytmhbfoaecebobaa.Aw
end
section
namespace Go.Proofs.Ytmhbfoaecebobaa.Aw
set_option linter.unusedSimpArgs false
set_option linter.unusedVariables false
open Go.RowKit Go.Proofs
variable {P : Program} [IsP P]
end Go.Proofs.Ytmhbfoaecebobaa.Aw
end
section
namespace Go.Proofs.Ytmhbfoaecebobaa
set_option linter.unusedSimpArgs false
set_option linter.unusedVariables false
open Go.RowKit
theorem Mem.lit1 {L : List Loc} {w : World} (hM : Mem L w) (x : Int) : Mem (Loc.owI w.heap.size (w.heap.size + 1) (.slice (some ⟨w.heap.size, 0, none⟩) 1 1) [x] :: L) (w.alloc (.cells #[.int .i64 x] 3)) :=
  ⟨Own.lit w 3 w.heap.size [x] #[.int .i64 x] 1 rfl rfl (Nat.le_refl _) (by decide) (fun _ => rfl), hM.alloc _⟩
end Go.Proofs.Ytmhbfoaecebobaa
end
section
namespace Go.Proofs.Ytmhbfoaecebobaa
set_option linter.unusedSimpArgs false
set_option linter.unusedVariables false
open Go.RowKit
structure Cnt where
  p : Int
  c : Int
  m : Int
  r : Int
  deriving Inhabited, DecidableEq
structure Pl where
  m : List Int
  c : Cnt
  run : List Int
  big : Bool
  deriving Inhabited
def takeIn1 (s : Pl) (k : Int) : Pl :=
  if 0 < gti s.m k.toNat then ⟨s.m.set k.toNat (gti s.m k.toNat - 1), ⟨s.c.p, s.c.c + 1, s.c.m, s.c.r⟩, s.run, s.big⟩
  else ⟨s.m, ⟨s.c.p, s.c.c + 1, s.c.m + 1, s.c.r⟩, s.run, s.big⟩
def takeIn : List Int → Pl → Pl
  | [], s => s
  | k :: ks, s => takeIn ks (takeIn1 s k)
def takeOut1 (s : Pl) (k : Int) : Pl := ⟨s.m.set k.toNat (gti s.m k.toNat + 1), ⟨s.c.p + 1, s.c.c, s.c.m, s.c.r⟩, s.run, s.big⟩
def takeOut : List Int → Pl → Pl
  | [], s => s
  | k :: ks, s => takeOut ks (takeOut1 s k)
def takeEnd (s : Pl) (t : Int) : Pl := ⟨s.m, s.c, s.run ++ [t], s.big || decide (100 < maxL s.m)⟩
def takeP (n : Net) (t : Int) (s : Pl) : Pl := takeEnd (takeOut (gti n.trans t.toNat).out (takeIn (gti n.trans t.toNat).inn s)) t
def takeAll (n : Net) : List Int → Pl → Pl
  | [], s => s
  | t :: l, s => takeAll n l (takeP n t s)
def enB2 (m : List Int) (act : ByteArray) (t : Tr) : Bool := decide (t.label = act) && enB t m
def enabledAt (n : Net) (m : List Int) (act : ByteArray) : Int := firstAt (enB2 m act) n.trans
def labB (act : ByteArray) (t : Tr) : Bool := decide (t.label = act)
def labAt (n : Net) (act : ByteArray) : Int := firstAt (labB act) n.trans
def goodA (n : Net) (act : ByteArray) (m : List Int) : Bool := decide (0 ≤ enabledAt n m act)
def goodF (n : Net) (m : List Int) : Bool := decide (0 < gti m n.sink.toNat)
def playE (n : Net) (act : ByteArray) (s : Pl) : Pl :=
  match silE n (goodA n act) s.m with
  | some way => takeP n (enabledAt n (takeAll n way s).m act) (takeAll n way s)
  | none => if 0 ≤ labAt n act then takeP n (labAt n act) s else ⟨s.m, ⟨s.c.p + 1, s.c.c + 1, s.c.m + 1, s.c.r + 1⟩, s.run, s.big⟩
def sumI : List Int → Int
  | [] => 0
  | x :: l => x + sumI l
def finA (n : Net) (s : Pl) : Pl := match silE n (goodF n) s.m with | some way => takeAll n way s | none => s
def finE (n : Net) (s : Pl) : Pl :=
  ⟨(takeIn1 (finA n s) n.sink).m, ⟨(takeIn1 (finA n s) n.sink).c.p, (takeIn1 (finA n s) n.sink).c.c, (takeIn1 (finA n s) n.sink).c.m, (takeIn1 (finA n s) n.sink).c.r + sumI (takeIn1 (finA n s) n.sink).m⟩, (finA n s).run, (finA n s).big⟩
def playL (n : Net) : List ByteArray → Pl → Option Pl
  | [], s => some s
  | a :: l, s => if (playE n a s).big then none else playL n l (playE n a s)
def pl0 (n : Net) : Pl := ⟨oneL n.places.toNat n.source, ⟨1, 0, 0, 0⟩, [], false⟩
def endE (n : Net) : Option Pl → Cnt × List Int × Int
  | none => (⟨0, 0, 0, 0⟩, [], 6)
  | some s => if (finE n s).big then (⟨0, 0, 0, 0⟩, [], 6) else ((finE n s).c, (finE n s).run, 0)
noncomputable def PlayE (n : Net) (w : List ByteArray) : Cnt × List Int × Int :=
  if (wfB n && allN w) = false then (⟨0, 0, 0, 0⟩, [], 1) else if 200 < w.length then (⟨0, 0, 0, 0⟩, [], 5) else endE n (playL n w (pl0 n))
structure PM (n : Net) (s : Pl) : Prop where
  len : (s.m.length : Int) = n.places
  nn : ∀ i, 0 ≤ gti s.m i
  ok : s.big = false → markB n s.m = true
  c0 : 0 ≤ s.c.m
  mc : s.c.m ≤ s.c.c
  r0 : 0 ≤ s.c.r
  bal : s.c.p + s.c.m = s.c.c + s.c.r + sumI s.m
  rg : ∀ t ∈ s.run, 0 ≤ t ∧ t < n.trans.length
theorem sumI_set : ∀ (m : List Int) (k : Nat) (x : Int), k < m.length → sumI (m.set k x) = sumI m - gti m k + x
  | [], k, x, h => by simp at h
  | y :: m, 0, x, h => by simp [sumI, gti]; omega
  | y :: m, k + 1, x, h => by
    have := sumI_set m k x (by simpa using h)
    have e : gti (y :: m) (k + 1) = gti m k := by simp [gti]
    simp only [List.set_cons_succ, sumI, e]
    omega
theorem sumI_ge : ∀ (m : List Int), (∀ i, 0 ≤ gti m i) → 0 ≤ sumI m ∧ ∀ i, gti m i ≤ sumI m
  | [], h => ⟨Int.le_refl _, fun i => by simp [gti, sumI]⟩
  | y :: m, h => by
    have h0 := h 0
    have e : gti (y :: m) 0 = y := by simp [gti]
    rw [e] at h0
    obtain ⟨h1, h2⟩ := sumI_ge m (fun i => by have := h (i + 1); have e : gti (y :: m) (i + 1) = gti m i := by simp [gti]
                                              rwa [e] at this)
    refine ⟨by simp only [sumI]; omega, fun i => ?_⟩
    cases i with
    | zero => rw [e]; simp only [sumI]; omega
    | succ i =>
      have e : gti (y :: m) (i + 1) = gti m i := by simp [gti]
      rw [e]
      have := h2 i
      simp only [sumI]
      omega
theorem PM.small {n : Net} {s : Pl} (h : PM n s) : 0 ≤ s.c.c ∧ 0 ≤ s.c.p ∧ ∀ i, 0 ≤ gti s.m i ∧ gti s.m i ≤ s.c.p := by
  obtain ⟨h1, h2⟩ := sumI_ge s.m h.nn
  have := h.bal; have := h.mc; have := h.c0; have := h.r0
  refine ⟨by omega, by omega, fun i => ?_⟩
  have := h.nn i
  have := h2 i
  omega
structure PT (n : Net) (s : Pl) : Prop where
  len : (s.m.length : Int) = n.places
  nn : ∀ i, 0 ≤ gti s.m i
  c0 : 0 ≤ s.c.m
  mc : s.c.m ≤ s.c.c
  r0 : 0 ≤ s.c.r
  bal : s.c.p + s.c.m = s.c.c + s.c.r + sumI s.m
theorem PM.pt {n : Net} {s : Pl} (h : PM n s) : PT n s := ⟨h.len, h.nn, h.c0, h.mc, h.r0, h.bal⟩
theorem PT.small {n : Net} {s : Pl} (h : PT n s) : 0 ≤ s.c.c ∧ 0 ≤ s.c.p ∧ ∀ i, 0 ≤ gti s.m i ∧ gti s.m i ≤ s.c.p := by
  obtain ⟨h1, h2⟩ := sumI_ge s.m h.nn
  have := h.bal; have := h.mc; have := h.c0; have := h.r0
  refine ⟨by omega, by omega, fun i => ?_⟩
  have := h.nn i
  have := h2 i
  omega
theorem PT.in1 {n : Net} {s : Pl} (h : PT n s) {k : Int} (h0 : 0 ≤ k) (h1 : k < n.places) : PT n (takeIn1 s k) := by
  have hl := h.len
  unfold takeIn1
  split
  · rename_i hg
    refine ⟨by simpa using hl, fun i => ?_, h.c0, ?_, h.r0, ?_⟩
    · simp only
      rw [gti_set]
      have := h.nn i
      split <;> omega
    · have := h.mc; simp only; omega
    · have := h.bal
      simp only
      rw [sumI_set _ _ _ (by omega)]
      omega
  · refine ⟨hl, h.nn, ?_, ?_, h.r0, ?_⟩
    · have := h.c0; simp only; omega
    · have := h.mc; simp only; omega
    · have := h.bal; simp only; omega
theorem PT.out1 {n : Net} {s : Pl} (h : PT n s) {k : Int} (h0 : 0 ≤ k) (h1 : k < n.places) : PT n (takeOut1 s k) := by
  have hl := h.len
  refine ⟨by simpa [takeOut1] using hl, fun i => ?_, h.c0, h.mc, h.r0, ?_⟩
  · simp only [takeOut1]
    rw [gti_set]
    have := h.nn i
    have := h.nn k.toNat
    split <;> omega
  · have := h.bal
    simp only [takeOut1]
    rw [sumI_set _ _ _ (by omega)]
    omega
theorem takeIn_c : ∀ (l : List Int) (s : Pl), (takeIn l s).c.c = s.c.c + l.length ∧ (takeIn l s).c.p = s.c.p ∧ (takeIn l s).c.r = s.c.r ∧ (takeIn l s).run = s.run ∧ (takeIn l s).big = s.big
  | [], s => by simp [takeIn]
  | k :: l, s => by
    have := takeIn_c l (takeIn1 s k)
    have e : (takeIn1 s k).c.c = s.c.c + 1 ∧ (takeIn1 s k).c.p = s.c.p ∧ (takeIn1 s k).c.r = s.c.r ∧ (takeIn1 s k).run = s.run ∧ (takeIn1 s k).big = s.big := by
      unfold takeIn1; split <;> simp
    rw [takeIn, this.1, this.2.1, this.2.2.1, this.2.2.2.1, this.2.2.2.2, e.1, e.2.1, e.2.2.1, e.2.2.2.1, e.2.2.2.2]
    refine ⟨?_, rfl, rfl, rfl, rfl⟩
    simp; omega
theorem takeOut_c : ∀ (l : List Int) (s : Pl), (takeOut l s).c.p = s.c.p + l.length ∧ (takeOut l s).c.c = s.c.c ∧ (takeOut l s).c.m = s.c.m ∧ (takeOut l s).c.r = s.c.r ∧ (takeOut l s).run = s.run ∧ (takeOut l s).big = s.big
  | [], s => by simp [takeOut]
  | k :: l, s => by
    have := takeOut_c l (takeOut1 s k)
    rw [takeOut, this.1, this.2.1, this.2.2.1, this.2.2.2.1, this.2.2.2.2.1, this.2.2.2.2.2]
    refine ⟨?_, rfl, rfl, rfl, rfl, rfl⟩
    simp [takeOut1]; omega
theorem PT.inn {n : Net} : ∀ {l : List Int} {s : Pl}, PT n s → (∀ k ∈ l, 0 ≤ k ∧ k < n.places) → PT n (takeIn l s)
  | [], s, h, _ => h
  | k :: l, s, h, hl => PT.inn (l := l) (s := takeIn1 s k) (h.in1 (hl k (List.mem_cons_self ..)).1 (hl k (List.mem_cons_self ..)).2) (fun j hj => hl j (List.mem_cons_of_mem _ hj))
theorem PT.outt {n : Net} : ∀ {l : List Int} {s : Pl}, PT n s → (∀ k ∈ l, 0 ≤ k ∧ k < n.places) → PT n (takeOut l s)
  | [], s, h, _ => h
  | k :: l, s, h, hl => PT.outt (l := l) (s := takeOut1 s k) (h.out1 (hl k (List.mem_cons_self ..)).1 (hl k (List.mem_cons_self ..)).2) (fun j hj => hl j (List.mem_cons_of_mem _ hj))
theorem all01_intro : ∀ {m : List Int}, (∀ i, 0 ≤ gti m i ∧ gti m i ≤ 100) → all01 m = true
  | [], _ => rfl
  | x :: m, h => by
    have h0 := h 0
    have e : gti (x :: m) 0 = x := by simp [gti]
    rw [e] at h0
    have := all01_intro (m := m) (fun i => by have := h (i + 1); have e : gti (x :: m) (i + 1) = gti m i := by simp [gti]
                                              rwa [e] at this)
    simp only [all01]
    rw [this]
    grind
theorem trans_in {n : Net} (hv : zbc n = true) {t : Nat} (ht : t < n.trans.length) : (∀ k ∈ (gti n.trans t).inn, 0 ≤ k ∧ k < n.places) ∧ (∀ k ∈ (gti n.trans t).out, 0 ≤ k ∧ k < n.places) ∧ (gti n.trans t).inn.length ≤ 40 ∧ (gti n.trans t).out.length ≤ 40 := by
  obtain ⟨_, h1, h2⟩ := validB_tr hv (gti_mem ht)
  have := za8 hv
  have a1 := placesB_len h1
  have a2 := placesB_len h2
  refine ⟨fun k hk => Go.Proofs.Ytmhbfoaecebobaa.placesB_mem h1 hk, fun k hk => Go.Proofs.Ytmhbfoaecebobaa.placesB_mem h2 hk, ?_, ?_⟩ <;> omega
theorem takeOut_m : ∀ (l : List Int) (s : Pl), (takeOut l s).m = incL l s.m
  | [], s => rfl
  | k :: l, s => takeOut_m l (takeOut1 s k)
theorem takeIn_m : ∀ (l : List Int) (s : Pl) {n : Int}, placesB n l = true → (∀ k ∈ l, 0 < gti s.m k.toNat) → (takeIn l s).m = decL l s.m
  | [], s, n, _, _ => rfl
  | k :: l, s, n, hp, h => by
    have h0 := h k (List.mem_cons_self ..)
    obtain ⟨_, _, hd⟩ := placesB_head hp
    have e : takeIn1 s k = ⟨s.m.set k.toNat (gti s.m k.toNat - 1), ⟨s.c.p, s.c.c + 1, s.c.m, s.c.r⟩, s.run, s.big⟩ := by unfold takeIn1; rw [if_pos h0]
    rw [takeIn, takeIn_m l (takeIn1 s k) (placesB_tail hp) (fun j hj => ?_), e, decL]
    rw [e]
    simp only
    rw [gti_set, if_neg (fun hh => hd j hj hh.1.symm)]
    exact h j (List.mem_cons_of_mem _ hj)
theorem PM.take {n : Net} {s : Pl} (h : PM n s) (hv : zbc n = true) {t : Int} (h0 : 0 ≤ t) (h1 : t < n.trans.length) : PM n (takeP n t s) := by
  obtain ⟨hi, ho, _⟩ := trans_in hv (t := t.toNat) (by omega)
  have hp := (h.pt.inn hi).outt ho
  have hc := takeOut_c (gti n.trans t.toNat).out (takeIn (gti n.trans t.toNat).inn s)
  have hci := takeIn_c (gti n.trans t.toNat).inn s
  refine ⟨hp.len, hp.nn, fun hb => ?_, hp.c0, hp.mc, hp.r0, hp.bal, fun u hu => ?_⟩
  · unfold takeP takeEnd at hb ⊢
    simp only [Bool.or_eq_false_iff, decide_eq_false_iff_not] at hb
    have hpl := za8 hv
    have hlen := hp.len
    have hmx := maxL_gt 100 (l := (takeOut (gti n.trans t.toNat).out (takeIn (gti n.trans t.toNat).inn s)).m) (by omega)
    have hno : (takeOut (gti n.trans t.toNat).out (takeIn (gti n.trans t.toNat).inn s)).m.any (fun y => decide (100 < y)) = false := by rw [← hmx]; simp; omega
    unfold markB mark2B
    simp only
    rw [hv, if_neg (by omega), all01_intro (fun i => ⟨hp.nn i, ?_⟩)]
    · rfl
    · by_cases hil : i < (takeOut (gti n.trans t.toNat).out (takeIn (gti n.trans t.toNat).inn s)).m.length
      · have := List.any_eq_false.1 hno _ (gti_mem hil)
        simpa using this
      · have hz : ∀ (l : List Int) (j : Nat), l.length ≤ j → gti l j ≤ 100 := fun l j hj => by unfold gti; rw [List.getElem?_eq_none hj]; simp
        exact hz _ i (by omega)
  · unfold takeP takeEnd at hu
    simp only [List.mem_append, List.mem_singleton] at hu
    rw [hc.2.2.2.2.1, hci.2.2.2.1] at hu
    rcases hu with hu | rfl
    · exact h.rg u hu
    · exact ⟨h0, h1⟩
theorem takeP_c (n : Net) (t : Int) (s : Pl) : (takeP n t s).c.c = s.c.c + (gti n.trans t.toNat).inn.length ∧ (takeP n t s).c.p = s.c.p + (gti n.trans t.toNat).out.length ∧ (takeP n t s).c.r = s.c.r ∧ (takeP n t s).run = s.run ++ [t] := by
  have hc := takeOut_c (gti n.trans t.toNat).out (takeIn (gti n.trans t.toNat).inn s)
  have hci := takeIn_c (gti n.trans t.toNat).inn s
  unfold takeP takeEnd
  simp only
  rw [hc.1, hc.2.1, hc.2.2.2.1, hc.2.2.2.2.1, hci.1, hci.2.1, hci.2.2.1, hci.2.2.2.1]
  exact ⟨rfl, rfl, rfl, rfl⟩
theorem take_fire {n : Net} {s : Pl} (h : PM n s) (hb : s.big = false) {t : Int} (h0 : 0 ≤ t) (h1 : t < n.trans.length) (hf : (FireE n s.m t).2 = 0) : (takeP n t s).m = (FireE n s.m t).1 ∧ (takeP n t s).big = false := by
  have hm := h.ok hb
  have hv : zbc n = true := by unfold markB at hm; simp only [Bool.and_eq_true] at hm; exact hm.1
  unfold FireE fireE at hf ⊢
  rw [if_pos hm] at hf ⊢
  rw [if_neg (by omega)] at hf ⊢
  split at hf
  · rename_i he
    rw [if_pos he]
    split at hf
    · cases hf
    · rename_i hn
      rw [if_neg hn]
      obtain ⟨_, hpi, hpo⟩ := validB_tr hv (gti_mem (l := n.trans) (k := t.toNat) (by omega))
      have e : (takeP n t s).m = incL (gti n.trans t.toNat).out (decL (gti n.trans t.toNat).inn s.m) := by
        unfold takeP takeEnd
        simp only
        rw [takeOut_m, takeIn_m _ _ hpi (fun k hk => by
          have := enB_at he hk
          have := h.nn k.toNat
          omega)]
      refine ⟨e, ?_⟩
      have hpl := za8 hv
      have hlen := (PM.take h hv h0 h1).len
      rw [e] at hlen
      have hmx := maxL_gt 100 (l := incL (gti n.trans t.toNat).out (decL (gti n.trans t.toNat).inn s.m)) (by omega)
      have hmx' : ¬ (100 : Int) < maxL (incL (gti n.trans t.toNat).out (decL (gti n.trans t.toNat).inn s.m)) := fun h => hn (by rw [← hmx]; simpa using h)
      have hci := takeIn_c (gti n.trans t.toNat).inn s
      have hc := takeOut_c (gti n.trans t.toNat).out (takeIn (gti n.trans t.toNat).inn s)
      have e2 : (takeP n t s).big = (s.big || decide (100 < maxL (takeP n t s).m)) := by
        unfold takeP takeEnd
        simp only
        rw [hc.2.2.2.2.2, hci.2.2.2.2]
      rw [e2, hb, e]
      simpa using hmx'
  · cases hf
theorem takeAll_run {n : Net} (hv : zbc n = true) : ∀ {l : List Int} {s : Pl} {m' : List Int}, PM n s → s.big = false → runTo n s.m l = some m' → PM n (takeAll n l s) ∧ (takeAll n l s).m = m' ∧ (takeAll n l s).big = false ∧ (takeAll n l s).run = s.run ++ l ∧ (takeAll n l s).c.r = s.c.r
  | [], s, m', h, hb, hr => by
    simp only [runTo, Option.some.injEq] at hr
    exact ⟨h, hr, hb, by simp [takeAll], rfl⟩
  | t :: l, s, m', h, hb, hr => by
    rw [runTo] at hr
    split at hr
    · rename_i hc
      obtain ⟨h1, h2⟩ := take_fire h hb hc.1 hc.2.1 hc.2.2
      have hcc := takeP_c n t s
      obtain ⟨a1, a2, a3, a4, a5⟩ := takeAll_run hv (l := l) (PM.take h hv hc.1 hc.2.1) h2 (m' := m') (by rw [h1]; exact hr)
      rw [takeAll]
      exact ⟨a1, a2, a3, by rw [a4, hcc.2.2.2]; simp, by rw [a5, hcc.2.2.1]⟩
    · cases hr
end Go.Proofs.Ytmhbfoaecebobaa
end
section
namespace Go.Proofs.Ytmhbfoaecebobaa
set_option linter.unusedSimpArgs false
set_option linter.unusedVariables false
open Go.RowKit Go.Maps Go.WideMaps
theorem str_law : Keyed Try.prog 9 := string_keyed Try.underlying9
theorem zeroBo (w : World) : (zeroValue 4).run Try.prog w = .ok (.bool false) w := by kernel_rfl
def SetAt (w : World) (b : Nat) (ks : List (List UInt8)) : Prop :=
  ∃ D : DataW Unit, w.ownsMap Try.prog 9 (plainElem Try.prog 4) b ks.length D ∧ ∀ l : List UInt8, D.atKey (.string l) (.lit (.bool false)) = .lit (.bool (decide (l ∈ ks)))
theorem SetAt.made (w : World) : SetAt (w.alloc (.map #[] 0)) w.heap.size [] :=
  ⟨.map [], World.ownsMap_made w _ _ _, fun l => by simp [DataW.atKey]⟩
set_option maxRecDepth 100000 in
theorem plainElem_bool_inv {v : Value} {x : Bool} {ps : List MemPlace} (h : plainElem (H := Unit) Try.prog 4 v = some (.lit (.bool x), ps)) : v = .bool x := by
  unfold plainElem at h
  rw [Try.underlying4] at h
  split at h
  · simp at h; simp_all
  · simp_all
  · simp_all
  · cases h
set_option maxRecDepth 100000 in
theorem SetAt.look {w : World} {b : Nat} {ks : List (List UInt8)} (h : SetAt w b ks) (l : List UInt8) (hl : l.length ≤ 1000000) :
    (Instr.lookup 90 (.map (some b)) (.string ⟨l.toArray⟩) false).run Try.prog w = .ok (.bool (decide (l ∈ ks))) w := by
  obtain ⟨D, ho, hD⟩ := h
  obtain ⟨v, ps, hrun, hv⟩ := ho.lookup str_law Try.underlying90 (zeroBo w) (plainElem_bool Try.underlying4 false) (key := .string ⟨l.toArray⟩) (keyOf_string_mk Try.underlying9 (by simp [ByteArray.size, maxLen]; omega))
  simp only [] at hv
  rw [hD] at hv
  rw [plainElem_bool_inv hv] at hrun
  exact hrun
theorem ownsMap_isMap {w : World} {b n : Nat} {D : DataW Unit} (h : w.ownsMap Try.prog 9 (plainElem Try.prog 4) b n D) : IsMap D := by
  obtain ⟨es, clock, _, _, _, rfl⟩ := h
  exact ⟨_, rfl⟩
set_option maxRecDepth 100000 in
theorem SetAt.put {w : World} {b : Nat} {ks : List (List UInt8)} (h : SetAt w b ks) (l : List UInt8) (hl : l.length ≤ 1000000) (hk : ks.length ≤ 1000000) :
    ∃ w', (Instr.mapUpdate 90 (.map (some b)) (.string ⟨l.toArray⟩) (.bool true)).run Try.prog w = .ok () w' ∧ SetAt w' b (l :: ks) ∧ w.grownBy w' (some b) := by
  obtain ⟨D, ho, hD⟩ := h
  obtain ⟨w', hrun, h2, h3⟩ := ho.update str_law Try.underlying90 (by unfold maxLen; omega) (key := .string ⟨l.toArray⟩) (keyOf_string_mk Try.underlying9 (by simp [ByteArray.size, maxLen]; omega)) (plainElem_bool Try.underlying4 true)
  refine ⟨w', hrun, ⟨_, h2, fun l' => ?_⟩, h3⟩
  by_cases e : l' = l
  · subst e
    rw [atKey_put_same (ownsMap_isMap ho) (by first | trivial | simp [WideAt.IsKeyLit])]
    simp
  · rw [atKey_put_other (by intro h; injection h with h; exact e h), hD]
    simp [e]
end Go.Proofs.Ytmhbfoaecebobaa
end
section
namespace Go.Proofs.Ytmhbfoaecebobaa
set_option linter.unusedSimpArgs false
set_option linter.unusedVariables false
open Go.RowKit Go.Maps Go.WideMaps
theorem SetAt.keep {D : Nat → Prop} {w W : World} (hc : Chg D w W) {b : Nat} {ks : List (List UInt8)} (hd : ¬ D b) (h : SetAt w b ks) : SetAt W b ks := by
  obtain ⟨Dm, ⟨es, clock, hb, F, hs, hD⟩, h2⟩ := h
  exact ⟨Dm, ⟨es, clock, (hc.block b (Array.getElem?_eq_some_iff.1 hb).1 hd).trans hb, F, hs, hD⟩, h2⟩
theorem SetAt.lt {w : World} {b : Nat} {ks : List (List UInt8)} (h : SetAt w b ks) : b < w.heap.size := by
  obtain ⟨Dm, ho, _⟩ := h
  exact ho.lt
abbrev Loc.set (b : Nat) (ks : List (List UInt8)) : Loc := ⟨fun w => SetAt w b ks, fun k => k = b, fun h hd hp => SetAt.keep h (hd b rfl) hp⟩
abbrev Loc.cg (D : Nat → Prop) (w0 : World) : Loc :=
  ⟨fun W => Chg D w0 W, fun k => k < w0.heap.size ∧ ¬ D k, fun h hd hp => ⟨h.os.trans hp.os, h.tape.trans hp.tape, h.output.trans hp.output, Nat.le_trans hp.size h.size, fun k hk hD => (h.block k (Nat.lt_of_lt_of_le hk hp.size) (hd k ⟨hk, hD⟩)).trans (hp.block k hk hD)⟩⟩
theorem Chg.refl (D : Nat → Prop) (w : World) : Chg D w w := ⟨rfl, rfl, rfl, Nat.le_refl _, fun _ _ _ => rfl⟩
theorem Mem.step {a a' : Loc} {rest : List Loc} {D : Nat → Prop} {w W : World} (h : Mem (a :: rest) w) (h' : a'.P W) (hc : Chg D w W) (ha : Apart D rest) : Mem (a' :: rest) W := ⟨h', h.2.chg hc ha⟩
theorem wpList_put_set {ops : Array Oper} {rest : List Oper} {o : Oper} {a : Act} {Q : Exit → Act → World → Prop} {w : World} (hg : o.guard = none) (m x v : Operand)
    (hop : o.op = Op.mapUpdate 90 m x v ∨ o.op = Op.insert 90 m x v) {b : Nat} {ks : List (List UInt8)} {L : List Loc} (l : List UInt8) (hm : a.eval m = .map (some b)) (hx : a.eval x = .string ⟨l.toArray⟩) (hv : a.eval v = .bool true)
    (hM : Mem (Loc.set b ks :: L) w) (hA : Apart (fun k => k = b) L) (hl : l.length ≤ 1000000) (hk : ks.length ≤ 1000000)
    (hK : ∀ w', Mem (Loc.set b (l :: ks) :: L) w' → w.heap.size ≤ w'.heap.size → wpList Try.prog ops Q rest (a.put o.dst undef) w') : wpList Try.prog ops Q (o :: rest) a w := by
  refine wpList_plain hg fun K' hK' => ?_
  obtain ⟨w', hrun, h2, h3⟩ := hM.1.put l hl hk
  have hfin := hK' _ _ (hK w' ⟨h2, hM.2.chg (D := fun k => k = b) (Chg.below (w := w) (W := w) (Below.refl _ _) |> fun _ => ⟨h3.os, h3.tape, h3.output, h3.size, fun k hk hne => h3.block k hk (fun e => hne (by injection e))⟩) hA⟩ h3.size)
  unfold Oper.wp
  rcases hop with hop | hop
  · simp [execOp, hop, hm, hx, hv, hrun, Result.andThen]
    exact hfin
  · simp [execOp, hop, hm, hx, hv, hrun, Result.andThen]
    exact hfin
theorem SetAt.look' {w : World} {b : Nat} {ks : List (List UInt8)} (h : SetAt w b ks) (l : List UInt8) (hl : l.length ≤ 1000000) {z : Bool} (hz : decide (l ∈ ks) = z) :
    (Instr.lookup 90 (.map (some b)) (.string ⟨l.toArray⟩) false).run Try.prog w = .ok (.bool z) w := hz ▸ h.look l hl
structure NdV where
  k : Int
  am : Option Addr
  nm : Nat
  cm : Nat
  ar : Option Addr
  nr : Nat
  cr : Nat
  deriving Inhabited
abbrev NdV.vm (x : NdV) : Value := .slice x.am x.nm x.cm
abbrev NdV.vr (x : NdV) : Value := .slice x.ar x.nr x.cr
abbrev encN (x : NdV) : List Value := [.int .i64 x.k, x.vm, x.vr]
theorem ti_node : TI 88 86 3 56 (.agg #[.int .i64 0, .slice none 0 0, .slice none 0 0]) := TI.mk Try.underlying88 (by kernel_rfl) rfl (by decide)
def RdB (D : Nat → Prop) (w : World) (v : Value) (l : List Int) : Prop := ∃ b, (0 < l.length → D b) ∧ RdI w b (b + 1) v l
theorem RdB.of {D : Nat → Prop} {w : World} {lo hi : Nat} {v : Value} {l : List Int} (h : RdI w lo hi v l) (hd : ∀ k, lo ≤ k → k < hi → D k) : RdB D w v l := by
  obtain ⟨h1, A, c, hv, h2, h3, h4⟩ := h
  rcases Nat.eq_zero_or_pos l.length with h0 | h0
  · exact ⟨0, fun h => by omega, h1, A, c, hv, h2, h3, fun h => by omega⟩
  · obtain ⟨b, off, hA, hl, hh, hc⟩ := h4 h0
    exact ⟨b, fun _ => hd b hl hh, h1, A, c, hv, h2, h3, fun _ => ⟨b, off, hA, Nat.le_refl _, by omega, hc⟩⟩
theorem RdB.nil (D : Nat → Prop) (w : World) : RdB D w (.slice none 0 0) [] := ⟨0, fun h => by simp at h, Rd.nil _ _ _⟩
theorem RdB.mono {D E : Nat → Prop} {w : World} {v : Value} {l : List Int} (h : RdB D w v l) (hd : ∀ k, D k → E k) : RdB E w v l := by
  obtain ⟨b, h1, h2⟩ := h
  exact ⟨b, fun h => hd b (h1 h), h2⟩
theorem RdB.keep {D E : Nat → Prop} {w W : World} (hc : Chg E w W) (hd : ∀ k, D k → ¬ E k) {v : Value} {l : List Int} (h : RdB D w v l) : RdB D W v l := by
  obtain ⟨b, h1, h2⟩ := h
  refine ⟨b, h1, ?_⟩
  rcases Nat.eq_zero_or_pos l.length with h0 | h0
  · obtain ⟨h3, A, c, hv, h4, h5, h6⟩ := h2
    exact ⟨h3, A, c, hv, h4, h5, fun h => by omega⟩
  · exact Rd.of_blocks h2 (fun k hk1 hk2 hk => hc.block k hk (by
      have : k = b := by omega
      rw [this]
      exact hd b (h1 h0)))
theorem RdB.rd {D : Nat → Prop} {w : World} {v : Value} {l : List Int} (h : RdB D w v l) : ∃ b, RdI w b (b + 1) v l := by
  obtain ⟨b, _, h⟩ := h
  exact ⟨b, h⟩
theorem RdB.within {D : Nat → Prop} {s hi : Nat} {w : World} {v : Value} {l : List Int} (h : RdB D w v l) (hd : ∀ k, D k → s ≤ k ∧ k < hi) : RdI w s hi v l := by
  obtain ⟨b, h1, h2, A, c, hv, h4, h5, h6⟩ := h
  refine ⟨h2, A, c, hv, h4, h5, fun hn => ?_⟩
  obtain ⟨b', off, hA, hl, hh, hc⟩ := h6 hn
  have := hd b (h1 hn)
  exact ⟨b', off, hA, by omega, by omega, hc⟩
def RdNs (D : Nat → Prop) (s : Nat) (w : World) (vs : List NdV) (q : List Nd) : Prop :=
  vs.length = q.length ∧ ∀ i, i < q.length → (gti vs i).k = (gti q i).k ∧ RdB D w (gti vs i).vm (gti q i).m ∧ RdB (fun k => s ≤ k ∧ D k) w (gti vs i).vr (gti q i).run
theorem RdNs.keep {D E : Nat → Prop} {s : Nat} {w W : World} (hc : Chg E w W) (hd : ∀ k, D k → ¬ E k) {vs : List NdV} {q : List Nd} (h : RdNs D s w vs q) : RdNs D s W vs q :=
  ⟨h.1, fun i hi => ⟨(h.2 i hi).1, (h.2 i hi).2.1.keep hc hd, (h.2 i hi).2.2.keep hc (fun k hk => hd k hk.2)⟩⟩
abbrev Loc.ns (D : Nat → Prop) (s : Nat) (vs : List NdV) (q : List Nd) : Loc := ⟨fun w => RdNs D s w vs q, D, fun h hd hp => RdNs.keep h hd hp⟩
theorem RdNs.mono {D E : Nat → Prop} {s : Nat} {w : World} {vs : List NdV} {q : List Nd} (h : RdNs D s w vs q) (hd : ∀ k, D k → E k) : RdNs E s w vs q :=
  ⟨h.1, fun i hi => ⟨(h.2 i hi).1, (h.2 i hi).2.1.mono hd, (h.2 i hi).2.2.mono (fun k hk => ⟨hk.1, hd k hk.2⟩)⟩⟩
theorem RdNs.snoc {D : Nat → Prop} {s : Nat} {w : World} {vs : List NdV} {q : List Nd} (h : RdNs D s w vs q) {v : NdV} {x : Nd} (h1 : v.k = x.k) (h2 : RdB D w v.vm x.m) (h3 : RdB (fun k => s ≤ k ∧ D k) w v.vr x.run) : RdNs D s w (vs ++ [v]) (q ++ [x]) := by
  refine ⟨by simp [h.1], fun i hi => ?_⟩
  by_cases hl : i < q.length
  · rw [gti_pre hl, gti_pre (by rw [h.1]; exact hl)]
    exact h.2 i hl
  · obtain rfl : i = q.length := by simp at hi; omega
    have e1 : gti (vs ++ [v]) q.length = v := by rw [gti_app, if_neg (by rw [h.1]; omega), h.1, Nat.sub_self]; rfl
    have e2 : gti (q ++ [x]) q.length = x := by rw [gti_app, if_neg (by omega), Nat.sub_self]; rfl
    rw [e1, e2]
    exact ⟨h1, h2, h3⟩
theorem RdNs.nil (D : Nat → Prop) (s : Nat) (w : World) : RdNs D s w [] [] := ⟨rfl, fun i hi => absurd hi (by simp)⟩
abbrev RdNv := Rd 3 encN
abbrev OwnN := Own 86 3 encN
abbrev Loc.owN (lo hi : Nat) (v : Value) (l : List NdV) : Loc := Loc.ow 86 3 encN lo hi v l
theorem OwnN.at3 {w : World} {lo hi : Nat} {A : Option Addr} {c : Nat} {l : List NdV} (h : OwnN w lo hi (.slice A l.length c) l) {k : Nat} (hk : k < l.length) :
    ∃ b off, A = some ⟨b, off, none⟩ ∧ lo ≤ b ∧ b < hi ∧ C3 w b (off + k * 3) (.int .i64 (gti l k).k) (gti l k).vm (gti l k).vr := by
  obtain ⟨b, off, hA, h1, h2, hc⟩ := Rd.at_ h.rd (fun _ => rfl) (gti_get hk)
  exact ⟨b, off, hA, h1, h2, hc 0 _ rfl, hc 1 _ rfl, hc 2 _ rfl⟩
theorem oneN : ∀ a : NdV, ∀ u ∈ encN a, u.oneCell' = true := by
  intro a u hu
  simp at hu
  rcases hu with rfl | rfl | rfl <;> rfl
theorem RdNv.lit (W : World) (x : NdV) (t : TypeId) : RdNv (W.alloc (.cells #[.int .i64 x.k, x.vm, x.vr] t)) 0 (W.heap.size + 1) (.slice (some ⟨W.heap.size, 0, none⟩) 1 1) [x] := Rd.lit W t [x] _ 1 rfl rfl (by decide) (fun _ => rfl)
theorem Own.alloc {α : Type} {e size : Nat} {enc : α → List Value} {w : World} {lo hi : Nat} {v : Value} {l : List α} (h : Own e size enc w lo hi v l) (o : Obj) : Own e size enc (w.alloc o) lo hi v l := Own.keep (Chg.alloc w o) (fun _ _ h => h) h
theorem Own.below {α : Type} {e size : Nat} {enc : α → List Value} {w W : World} {lo hi : Nat} {v : Value} {l : List α} (h : Own e size enc w lo hi v l) (hb : Below w.heap.size w W) : Own e size enc W lo hi v l := Own.keep (Chg.below hb) (fun _ _ h => h) h
end Go.Proofs.Ytmhbfoaecebobaa
end
section
namespace Go.Proofs.Ytmhbfoaecebobaa
set_option linter.unusedSimpArgs false
set_option linter.unusedVariables false
open Go.RowKit
abbrev plA (n : Net) (vt vm : Value) (c : Cnt) (vr : Value) (big : Bool) : Array Value := #[.int .i64 n.places, vt, .int .i64 n.source, .int .i64 n.sink, vm, .int .i64 c.p, .int .i64 c.c, .int .i64 c.m, .int .i64 c.r, vr, .bool big]
def PB (cs : Array Value) (g : Nat) (w : World) : Prop := w.heap[g]? = some (.cells cs 70 (0, 0))
abbrev Loc.pb (cs : Array Value) (g : Nat) : Loc := ⟨fun w => PB cs g w, fun k => k = g, fun h hd hp => (h.block g (Array.getElem?_eq_some_iff.1 hp).1 (hd g rfl)).trans hp⟩
abbrev K11 (w : World) (g : Nat) (a0 a1 a2 a3 a4 a5 a6 a7 a8 a9 a10 : Value) : Prop :=
  w.cell? ⟨g, 0, none⟩ = some a0 ∧ w.cell? ⟨g, 1, none⟩ = some a1 ∧ w.cell? ⟨g, 2, none⟩ = some a2 ∧ w.cell? ⟨g, 3, none⟩ = some a3 ∧ w.cell? ⟨g, 4, none⟩ = some a4 ∧ w.cell? ⟨g, 5, none⟩ = some a5 ∧ w.cell? ⟨g, 6, none⟩ = some a6 ∧ w.cell? ⟨g, 7, none⟩ = some a7 ∧ w.cell? ⟨g, 8, none⟩ = some a8 ∧ w.cell? ⟨g, 9, none⟩ = some a9 ∧ w.cell? ⟨g, 10, none⟩ = some a10 ∧
  w.frozen? ⟨g, 5, none⟩ = false ∧ w.frozen? ⟨g, 6, none⟩ = false ∧ w.frozen? ⟨g, 7, none⟩ = false ∧ w.frozen? ⟨g, 8, none⟩ = false ∧ w.frozen? ⟨g, 9, none⟩ = false ∧ w.frozen? ⟨g, 10, none⟩ = false
theorem PB.lt {cs : Array Value} {g : Nat} {w : World} (h : PB cs g w) : g < w.heap.size := (Array.getElem?_eq_some_iff.1 h).1
theorem PB.k11 {a0 a1 a2 a3 a4 a5 a6 a7 a8 a9 a10 : Value} {g : Nat} {w : World} (h : PB #[a0, a1, a2, a3, a4, a5, a6, a7, a8, a9, a10] g w) : K11 w g a0 a1 a2 a3 a4 a5 a6 a7 a8 a9 a10 := by
  have hc : ∀ i, w.cell? ⟨g, i, none⟩ = #[a0, a1, a2, a3, a4, a5, a6, a7, a8, a9, a10][i]? := fun i => cell_of_row w g i _ _ _ h
  have hf : ∀ i, w.frozen? ⟨g, i, none⟩ = false := fun i => by simp [World.frozen?, show w.heap[g]? = _ from h]
  exact ⟨hc 0, hc 1, hc 2, hc 3, hc 4, hc 5, hc 6, hc 7, hc 8, hc 9, hc 10, hf _, hf _, hf _, hf _, hf _, hf _⟩
theorem PB.set {cs cs' : Array Value} {g : Nat} {w : World} (h : PB cs g w) (i : Nat) (u : Value) (he : cs.setIfInBounds i u = cs') : PB cs' g (w.setCell ⟨g, i, none⟩ u) := by
  subst he
  unfold PB at h ⊢
  simp [World.setCell, Array.getElem?_modify, h]
abbrev plD (g gm r0 r1 : Nat) : Nat → Prop := fun k => k = g ∨ k = gm ∨ (r0 ≤ k ∧ k < r1)
theorem Mem.step2 {a b b' : Loc} {rest : List Loc} {D : Nat → Prop} {w W : World} (h : Mem (a :: b :: rest) w) (h' : b'.P W) (hc : Chg D w W) (ha : Apart D (a :: rest)) : Mem (a :: b' :: rest) W := ⟨a.keep hc (fun k hk hd => ha.1 k hk hd) h.1, h', h.2.2.chg hc ha.2⟩
set_option maxRecDepth 100000 in
set_option maxHeartbeats 4000000 in
theorem take_any (n : Net) (s : Pl) (t g gm np cm r0 r1 lo hi : Nat) (vt vr : Value) (w : World) (hv : RdT w lo hi vt n.trans) (hval : zbc n = true) (ht : t < n.trans.length) (hpt : PT n s) (hcp : s.c.p ≤ 1000000000) (hcc : s.c.c ≤ 1000000000) (hrun : s.run.length ≤ 1000000)
    (hnp : s.m.length = np) (hM : Mem [Loc.pb (plA n (vt) (.slice (some ⟨gm, 0, none⟩) np cm) (s).c vr (s).big) g, Loc.owI gm (gm + 1) (.slice (some ⟨gm, 0, none⟩) np cm) (s).m, Loc.owI r0 r1 vr (s).run] w) (hg : g ≠ gm) (hgr : g < r0 ∨ r1 ≤ g) (hmr : gm < r0 ∨ r1 ≤ gm) (h1 : hi ≤ g) (h2 : hi ≤ gm) (h3 : hi ≤ r0) (h4 : r1 ≤ w.heap.size) (h5 : r0 ≤ w.heap.size) :
    Calls Try.prog 75 #[.pointer (some ⟨g, 0, none⟩), .int .i64 t] w fun e w' => ∃ vr' r0' r1', e = .returned (.tuple #[]) ∧ Mem [Loc.pb (plA n (vt) (.slice (some ⟨gm, 0, none⟩) np cm) (takeP n t s).c vr' (takeP n t s).big) g, Loc.owI gm (gm + 1) (.slice (some ⟨gm, 0, none⟩) np cm) (takeP n t s).m, Loc.owI r0' r1' vr' (takeP n t s).run] w' ∧ (r0' = r0 ∧ r1' = r1 ∨ w.heap.size ≤ r0') ∧ r0' ≤ w'.heap.size ∧ r1' ≤ w'.heap.size ∧ Chg (plD g gm r0 r1) w w' := by
  obtain ⟨A, c, rfl, hc, hmm⟩ := hv.form
  obtain ⟨b4, off4, vi, vo, rfl, _, _, hct, hri, hro⟩ := RdT.at3 hv ht
  obtain ⟨Ai, ci, rfl, hci, hmi⟩ := hri.form
  obtain ⟨Ao, co, rfl, hco, hmo⟩ := hro.form
  obtain ⟨Ar, cr, rfl, hcr, hmr2⟩ := hM.2.2.1.form
  have HTR := Lib.hid (trans_in hval ht)
  have HPT := Lib.hid hpt
  have HPL := Lib.hid (za8 hval)
  have HTK : Hid (takeP n t s = takeEnd (takeOut (gti n.trans t).out (takeIn (gti n.trans t).inn s)) t) := Lib.hid rfl
  clear hv hpt hval
  obtain ⟨x, hx⟩ : ∃ x, gti n.trans t = x := ⟨_, rfl⟩
  rw [hx] at HTR HTK hct hri hro hci hmi hco hmo
  clear hx
  generalize takeP n t s = sE at *
  have M : Hid (Mem [Loc.pb (plA n (.slice (some ⟨b4, off4, none⟩) n.trans.length c) (.slice (some ⟨gm, 0, none⟩) np cm) (s).c (.slice Ar s.run.length cr) (s).big) g, Loc.owI gm (gm + 1) (.slice (some ⟨gm, 0, none⟩) np cm) (s).m, Loc.owI r0 r1 (.slice Ar s.run.length cr) (s).run, Loc.k3 w.heap.size (.string x.label) (.slice Ai x.inn.length ci) (.slice Ao x.out.length co), Loc.rdI lo hi (.slice Ai x.inn.length ci) x.inn, Loc.rdI lo hi (.slice Ao x.out.length co) x.out, Loc.cg (plD g gm r0 r1) w] (w.alloc (.cells #[.string x.label, .slice Ai x.inn.length ci, .slice Ao x.out.length co] 46))) := Lib.hid (by
    have hb : Below w.heap.size w (w.alloc (.cells #[.string x.label, .slice Ai x.inn.length ci, .slice Ao x.out.length co] 46)) := (Below.refl _ _).alloc (Nat.le_refl _) _
    have hal := hM.below hb
    exact ⟨hal.1, hal.2.1, hal.2.2.1, K3.new w _ _ _ _, hri.after hb, hro.after hb, ⟨hb.os, hb.tape, hb.output, hb.size, fun k hk _ => hb.block k hk⟩, True.intro⟩)
  have hgw : g < w.heap.size := PB.lt hM.1
  have hgmw : gm < w.heap.size := by
    have hnz := HPL.out.1
    have hln := HPT.out.len
    obtain ⟨g', cap, hv', _, h5, h6⟩ := Own.blk hM.2.1 (by omega)
    injection hv' with hv' _ _
    injection hv' with hv'
    injection hv' with hv' _ _
    omega
  have HMw := Lib.hid hM
  have HK11 := PB.k11 hM.1
  have HNP := Lib.hid hnp
  clear hM hri hro hnp
  refine zax fun R hR => ?_
  have HR := Lib.hid hR
  clear hR
  go_enter Try.func75, Try.ntmps75
  have hk3 := M.out.2.2.2.1
  go_wp2_with fail
  have hgm : gm ≠ g := fun e => hg e.symm
  go_loopw [20, 6] (fun v20 _ wr => ∃ (j : Nat) (sj : Pl), j ≤ x.inn.length ∧ v20 = .int .i64 j ∧ Hid (takeIn (x.inn.drop j) sj = takeIn x.inn s) ∧ Hid (PT n sj) ∧ Hid (sj.run = s.run ∧ sj.big = s.big ∧ sj.c.p = s.c.p ∧ sj.c.c = s.c.c + j ∧ sj.m.length = np) ∧ Hid (Mem [Loc.pb (plA n (.slice (some ⟨b4, off4, none⟩) n.trans.length c) (.slice (some ⟨gm, 0, none⟩) np cm) (sj).c (.slice Ar s.run.length cr) (sj).big) g, Loc.owI gm (gm + 1) (.slice (some ⟨gm, 0, none⟩) np cm) (sj).m, Loc.owI r0 r1 (.slice Ar s.run.length cr) (sj).run, Loc.k3 w.heap.size (.string x.label) (.slice Ai x.inn.length ci) (.slice Ao x.out.length co), Loc.rdI lo hi (.slice Ai x.inn.length ci) x.inn, Loc.rdI lo hi (.slice Ao x.out.length co) x.out, Loc.cg (plD g gm r0 r1) w] wr)) (fun v20 _ _ => x.inn.length - (intOf v20).toNat)
  case atStart => exact ⟨0, s, Nat.zero_le _, rfl, Lib.hid (by simp), HPT, Lib.hid ⟨rfl, rfl, rfl, by simp, HNP.out⟩, M⟩
  case round =>
    clear M hk3 HK11
    obtain ⟨j, sj, hj, rfl, HT, HP, HS, M⟩ := hrel
    have hk3 := M.out.2.2.2.1
    have hk11 := PB.k11 M.out.1
    by_cases hlt : j < x.inn.length
    · have hkr := HTR.out.1 (gti x.inn j) (gti_mem hlt)
      have HD : Hid (takeIn (x.inn.drop j) sj = takeIn (x.inn.drop (j + 1)) (takeIn1 sj (gti x.inn j))) := Lib.hid (by rw [drop_gti hlt]; rfl)
      obtain ⟨bi, oi, rfl, _, _, hci2⟩ := RdI.at1 M.out.2.2.2.2.1 hlt
      obtain ⟨kk, hkk⟩ : ∃ k : Nat, gti x.inn j = k := ⟨(gti x.inn j).toNat, by omega⟩
      rw [hkk] at HD hci2 hkr
      clear hkk
      have hln := HP.out.len
      have hsl := HS.out.2.2.2.2
      have hk1 : kk < np := by omega
      have hat := OwnI.at1 M.out.2.1 (k := kk) (by omega)
      have hsm := HP.out.small
      have hm0 := hsm.2.2 kk
      have hcj := HS.out.2.2.2.1
      have hc0 := HP.out.c0
      have hmc := HP.out.mc
      have hpj := HS.out.2.2.1
      have hj40 := HTR.out.2.2.1
      have hb1 : 0 ≤ sj.c.c ∧ sj.c.c ≤ 1000000040 ∧ 0 ≤ sj.c.m ∧ sj.c.m ≤ 1000000040 ∧ 0 ≤ gti sj.m kk ∧ gti sj.m kk ≤ 1000000000 := by omega
      have HPn : Hid (PT n (takeIn1 sj kk)) := Lib.hid (HP.out.in1 hkr.1 hkr.2)
      clear hsm hm0 hcj hc0 hmc hpj hln hsl hj40
      obtain ⟨q1, q2, q3, q4, q5, q6⟩ := hb1
      by_cases hpos : 0 < gti sj.m kk
      · have HE : Hid (takeIn1 sj kk = ⟨sj.m.set kk (gti sj.m kk - 1), ⟨sj.c.p, sj.c.c + 1, sj.c.m, sj.c.r⟩, sj.run, sj.big⟩) := Lib.hid (by unfold takeIn1; simp only [Int.toNat_natCast]; rw [if_pos hpos])
        have hd1 : decide ((0 : Int) < gti sj.m kk) = true := by simpa using hpos
        go_wp2_with fail
        have MS1 := Mem.step (a' := Loc.pb (plA n (.slice (some ⟨b4, off4, none⟩) n.trans.length c) (.slice (some ⟨gm, 0, none⟩) np cm) ⟨sj.c.p, sj.c.c + 1, sj.c.m, sj.c.r⟩ (.slice Ar s.run.length cr) sj.big) g) M.out (PB.set M.out.1 6 (.int .i64 (sj.c.c + 1)) rfl) (Chg.set _ g 6 _) (by (repeat' (first | exact True.intro | refine And.intro (fun k hk e => ?_) ?_)) <;> (first | exact e | ((try dsimp only [Loc.c1, Loc.c2, Loc.k1, Loc.k2, Loc.k3, Loc.k4, Loc.k6, Loc.fr, Loc.bl, Loc.own, Loc.sz, Loc.rd, Loc.rdI, Loc.rdS, Loc.rdM, Loc.rdT, Loc.ow, Loc.owI, Loc.owN, Loc.set, Loc.ns, Loc.cg, Loc.pb, silD, plD] at hk e) <;> omega)))
        have MS2 := Mem.step2 (b' := Loc.owI gm (gm + 1) (.slice (some ⟨gm, 0, none⟩) np cm) (sj.m.set kk (gti sj.m kk - 1))) MS1 (OwnI.set MS1.2.1 kk (gti sj.m kk - 1)) (Chg.set _ gm kk _) (by (repeat' (first | exact True.intro | refine And.intro (fun k hk e => ?_) ?_)) <;> (first | exact e | ((try dsimp only [Loc.c1, Loc.c2, Loc.k1, Loc.k2, Loc.k3, Loc.k4, Loc.k6, Loc.fr, Loc.bl, Loc.own, Loc.sz, Loc.rd, Loc.rdI, Loc.rdS, Loc.rdM, Loc.rdT, Loc.ow, Loc.owI, Loc.owN, Loc.set, Loc.ns, Loc.cg, Loc.pb, silD, plD] at hk e) <;> omega)))
        exact ⟨⟨j + 1, takeIn1 sj kk, by omega, by go_num, Lib.hid (HD.out ▸ HT.out), HPn, Lib.hid (by
          rw [HE.out]
          refine ⟨HS.out.1, HS.out.2.1, HS.out.2.2.1, ?_, ?_⟩
          · have := HS.out.2.2.2.1; simp; omega
          · simpa using HS.out.2.2.2.2), Lib.hid (by rw [HE.out]; exact MS2)⟩, by simp [intOf]; omega⟩
      · have HE : Hid (takeIn1 sj kk = ⟨sj.m, ⟨sj.c.p, sj.c.c + 1, sj.c.m + 1, sj.c.r⟩, sj.run, sj.big⟩) := Lib.hid (by unfold takeIn1; simp only [Int.toNat_natCast]; rw [if_neg hpos])
        have hd1 : decide ((0 : Int) < gti sj.m kk) = false := by simpa using hpos
        go_wp2_with fail
        have MS1 := Mem.step (a' := Loc.pb (plA n (.slice (some ⟨b4, off4, none⟩) n.trans.length c) (.slice (some ⟨gm, 0, none⟩) np cm) ⟨sj.c.p, sj.c.c + 1, sj.c.m, sj.c.r⟩ (.slice Ar s.run.length cr) sj.big) g) M.out (PB.set M.out.1 6 (.int .i64 (sj.c.c + 1)) rfl) (Chg.set _ g 6 _) (by (repeat' (first | exact True.intro | refine And.intro (fun k hk e => ?_) ?_)) <;> (first | exact e | ((try dsimp only [Loc.c1, Loc.c2, Loc.k1, Loc.k2, Loc.k3, Loc.k4, Loc.k6, Loc.fr, Loc.bl, Loc.own, Loc.sz, Loc.rd, Loc.rdI, Loc.rdS, Loc.rdM, Loc.rdT, Loc.ow, Loc.owI, Loc.owN, Loc.set, Loc.ns, Loc.cg, Loc.pb, silD, plD] at hk e) <;> omega)))
        have MS2 := Mem.step (a' := Loc.pb (plA n (.slice (some ⟨b4, off4, none⟩) n.trans.length c) (.slice (some ⟨gm, 0, none⟩) np cm) ⟨sj.c.p, sj.c.c + 1, sj.c.m + 1, sj.c.r⟩ (.slice Ar s.run.length cr) sj.big) g) MS1 (PB.set MS1.1 7 (.int .i64 (sj.c.m + 1)) rfl) (Chg.set _ g 7 _) (by (repeat' (first | exact True.intro | refine And.intro (fun k hk e => ?_) ?_)) <;> (first | exact e | ((try dsimp only [Loc.c1, Loc.c2, Loc.k1, Loc.k2, Loc.k3, Loc.k4, Loc.k6, Loc.fr, Loc.bl, Loc.own, Loc.sz, Loc.rd, Loc.rdI, Loc.rdS, Loc.rdM, Loc.rdT, Loc.ow, Loc.owI, Loc.owN, Loc.set, Loc.ns, Loc.cg, Loc.pb, silD, plD] at hk e) <;> omega)))
        exact ⟨⟨j + 1, takeIn1 sj kk, by omega, by go_num, Lib.hid (HD.out ▸ HT.out), HPn, Lib.hid (by
          rw [HE.out]
          refine ⟨HS.out.1, HS.out.2.1, HS.out.2.2.1, ?_, ?_⟩
          · have := HS.out.2.2.2.1; simp; omega
          · simpa using HS.out.2.2.2.2), Lib.hid (by rw [HE.out]; exact MS2)⟩, by simp [intOf]; omega⟩
    · obtain rfl : j = x.inn.length := by omega
      have HT1 : Hid (sj = takeIn x.inn s) := Lib.hid (by have := HT.out; rw [List.drop_length] at this; exact this)
      clear HT
      go_wp2_with fail
      go_loopw [63, 8] (fun v63 _ wr => ∃ (j : Nat) (s2 : Pl), j ≤ x.out.length ∧ v63 = .int .i64 j ∧ Hid (takeOut (x.out.drop j) s2 = takeOut x.out (takeIn x.inn s)) ∧ Hid (PT n s2) ∧ Hid (s2.run = s.run ∧ s2.big = s.big ∧ s2.c.p = s.c.p + j ∧ s2.m.length = np) ∧ Hid (Mem [Loc.pb (plA n (.slice (some ⟨b4, off4, none⟩) n.trans.length c) (.slice (some ⟨gm, 0, none⟩) np cm) (s2).c (.slice Ar s.run.length cr) (s2).big) g, Loc.owI gm (gm + 1) (.slice (some ⟨gm, 0, none⟩) np cm) (s2).m, Loc.owI r0 r1 (.slice Ar s.run.length cr) (s2).run, Loc.k3 w.heap.size (.string x.label) (.slice Ai x.inn.length ci) (.slice Ao x.out.length co), Loc.rdI lo hi (.slice Ai x.inn.length ci) x.inn, Loc.rdI lo hi (.slice Ao x.out.length co) x.out, Loc.cg (plD g gm r0 r1) w] wr)) (fun v63 _ _ => x.out.length - (intOf v63).toNat)
      case atStart => exact ⟨0, sj, Nat.zero_le _, rfl, Lib.hid (by rw [HT1.out]; rfl), HP, Lib.hid ⟨HS.out.1, HS.out.2.1, by have := HS.out.2.2.1; simp; omega, HS.out.2.2.2.2⟩, M⟩
      case round =>
        clear M hk3 hk11 HS HP HT1 hj
        obtain ⟨j, s2, hj, rfl, HT, HP, HS, M⟩ := hrel
        have hk3 := M.out.2.2.2.1
        have hk11 := PB.k11 M.out.1
        by_cases hlt : j < x.out.length
        · have hkr := HTR.out.2.1 (gti x.out j) (gti_mem hlt)
          have HD : Hid (takeOut (x.out.drop j) s2 = takeOut (x.out.drop (j + 1)) (takeOut1 s2 (gti x.out j))) := Lib.hid (by rw [drop_gti hlt]; rfl)
          obtain ⟨bi, oi, rfl, _, _, hci2⟩ := RdI.at1 M.out.2.2.2.2.2.1 hlt
          obtain ⟨kk, hkk⟩ : ∃ k : Nat, gti x.out j = k := ⟨(gti x.out j).toNat, by omega⟩
          rw [hkk] at HD hci2 hkr
          clear hkk
          have hln := HP.out.len
          have hsl := HS.out.2.2.2
          have hk1 : kk < np := by omega
          have hat := OwnI.at1 M.out.2.1 (k := kk) (by omega)
          have hsm := HP.out.small
          have hm0 := hsm.2.2 kk
          have hpj := HS.out.2.2.1
          have hj40 := HTR.out.2.2.2
          have hb1 : 0 ≤ s2.c.p ∧ s2.c.p ≤ 1000000040 ∧ 0 ≤ gti s2.m kk ∧ gti s2.m kk ≤ 1000000040 := by omega
          have HPn : Hid (PT n (takeOut1 s2 kk)) := Lib.hid (HP.out.out1 hkr.1 hkr.2)
          have HE : Hid (takeOut1 s2 kk = ⟨s2.m.set kk (gti s2.m kk + 1), ⟨s2.c.p + 1, s2.c.c, s2.c.m, s2.c.r⟩, s2.run, s2.big⟩) := Lib.hid rfl
          clear hsm hm0 hpj hln hsl hj40
          obtain ⟨q1, q2, q3, q4⟩ := hb1
          go_wp2_with fail
          have MS1 := Mem.step (a' := Loc.pb (plA n (.slice (some ⟨b4, off4, none⟩) n.trans.length c) (.slice (some ⟨gm, 0, none⟩) np cm) ⟨s2.c.p + 1, s2.c.c, s2.c.m, s2.c.r⟩ (.slice Ar s.run.length cr) s2.big) g) M.out (PB.set M.out.1 5 (.int .i64 (s2.c.p + 1)) rfl) (Chg.set _ g 5 _) (by (repeat' (first | exact True.intro | refine And.intro (fun k hk e => ?_) ?_)) <;> (first | exact e | ((try dsimp only [Loc.c1, Loc.c2, Loc.k1, Loc.k2, Loc.k3, Loc.k4, Loc.k6, Loc.fr, Loc.bl, Loc.own, Loc.sz, Loc.rd, Loc.rdI, Loc.rdS, Loc.rdM, Loc.rdT, Loc.ow, Loc.owI, Loc.owN, Loc.set, Loc.ns, Loc.cg, Loc.pb, silD, plD] at hk e) <;> omega)))
          have MS2 := Mem.step2 (b' := Loc.owI gm (gm + 1) (.slice (some ⟨gm, 0, none⟩) np cm) (s2.m.set kk (gti s2.m kk + 1))) MS1 (OwnI.set MS1.2.1 kk (gti s2.m kk + 1)) (Chg.set _ gm kk _) (by (repeat' (first | exact True.intro | refine And.intro (fun k hk e => ?_) ?_)) <;> (first | exact e | ((try dsimp only [Loc.c1, Loc.c2, Loc.k1, Loc.k2, Loc.k3, Loc.k4, Loc.k6, Loc.fr, Loc.bl, Loc.own, Loc.sz, Loc.rd, Loc.rdI, Loc.rdS, Loc.rdM, Loc.rdT, Loc.ow, Loc.owI, Loc.owN, Loc.set, Loc.ns, Loc.cg, Loc.pb, silD, plD] at hk e) <;> omega)))
          exact ⟨⟨j + 1, takeOut1 s2 kk, by omega, by go_num, Lib.hid (HD.out ▸ HT.out), HPn, Lib.hid (by
            rw [HE.out]
            refine ⟨HS.out.1, HS.out.2.1, ?_, ?_⟩
            · have := HS.out.2.2.1; simp; omega
            · simpa using HS.out.2.2.2), Lib.hid (by rw [HE.out]; exact MS2)⟩, by simp [intOf]; omega⟩
        · obtain rfl : j = x.out.length := by omega
          have HT1 : Hid (s2 = takeOut x.out (takeIn x.inn s)) := Lib.hid (by have := HT.out; rw [List.drop_length] at this; exact this)
          have HRL : Hid (s2.run.length = s.run.length) := Lib.hid (by rw [HS.out.1])
          have HEE : Hid (sE = ⟨s2.m, s2.c, s2.run ++ [(t : Int)], s2.big || decide (100 < maxL s2.m)⟩) := Lib.hid (by rw [HTK.out, ← HT1.out]; rfl)
          have HLP : Hid (0 < s2.m.length) := Lib.hid (by have := HP.out.len; have := HPL.out; omega)
          obtain ⟨zb, hzb⟩ : ∃ z, s2.big = z := ⟨_, rfl⟩
          rw [hzb] at HEE M hk11
          clear hzb HT HT1
          have hsz := M.out.2.2.2.2.2.2.1.size
          cases zb with
          | true =>
            go_wp2_with (first | (at_builtin; refine wpList_app2 rfl _ _ rfl ti_int (fun _ => rfl) oneI rfl rfl (Mem.cons (a := Loc.owI r0 r1 _ s2.run) (M.out.alloc _).2.2.1 (Mem.cons (a := Loc.pb _ g) (M.out.alloc _).1 (Mem.cons (a := Loc.owI gm (gm + 1) _ s2.m) (M.out.alloc _).2.1 (M.out.alloc _).2.2.2))) (by (repeat' (first | exact True.intro | refine And.intro (fun k hk e => ?_) ?_)) <;> (first | exact e | ((try dsimp only [Loc.c1, Loc.c2, Loc.k1, Loc.k2, Loc.k3, Loc.k4, Loc.k6, Loc.fr, Loc.bl, Loc.own, Loc.sz, Loc.rd, Loc.rdI, Loc.rdS, Loc.rdM, Loc.rdT, Loc.ow, Loc.owI, Loc.owN, Loc.set, Loc.ns, Loc.cg, Loc.pb, silD, plD] at hk e) <;> omega))) (RdI.lit1 _ _ _) (by rw [HRL.out]; simp; omega) (by rw [HRL.out]; simp; omega) (by simp; omega) ?_; intro A9 c9 w9 q0 q1 hq9 hM9 hs9 hch9; have M9 := Lib.hid hM9; simp only [World.size_alloc] at hs9 hq9; clear hM9 hch9; replace hk11 := PB.k11 M9.out.2.1; have MB := Lib.hid (Mem.step (a' := Loc.pb (plA n (.slice (some ⟨b4, off4, none⟩) n.trans.length c) (.slice (some ⟨gm, 0, none⟩) np cm) s2.c (.slice A9 (s2.run.length + 1) c9) true) g) (Mem.cons (a := Loc.pb _ g) M9.out.2.1 (Mem.cons (a := Loc.owI q0 q1 _ (s2.run ++ [(t : Int)])) M9.out.1 M9.out.2.2)) (PB.set M9.out.2.1 9 (.slice A9 (s2.run.length + 1) c9) rfl) (Chg.set _ g 9 _) (by (repeat' (first | exact True.intro | refine And.intro (fun k hk e => ?_) ?_)) <;> (first | exact e | ((try dsimp only [Loc.c1, Loc.c2, Loc.k1, Loc.k2, Loc.k3, Loc.k4, Loc.k6, Loc.fr, Loc.bl, Loc.own, Loc.sz, Loc.rd, Loc.rdI, Loc.rdS, Loc.rdM, Loc.rdT, Loc.ow, Loc.owI, Loc.owN, Loc.set, Loc.ns, Loc.cg, Loc.pb, silD, plD] at hk e) <;> omega))))))
            have MC := Mem.step (a' := Loc.pb (plA n (.slice (some ⟨b4, off4, none⟩) n.trans.length c) (.slice (some ⟨gm, 0, none⟩) np cm) s2.c (.slice A9 (s2.run.length + 1) c9) (true)) g) MB.out (PB.set MB.out.1 10 (.bool (true)) rfl) (Chg.set _ g 10 _) (by (repeat' (first | exact True.intro | refine And.intro (fun k hk e => ?_) ?_)) <;> (first | exact e | ((try dsimp only [Loc.c1, Loc.c2, Loc.k1, Loc.k2, Loc.k3, Loc.k4, Loc.k6, Loc.fr, Loc.bl, Loc.own, Loc.sz, Loc.rd, Loc.rdI, Loc.rdS, Loc.rdM, Loc.rdT, Loc.ow, Loc.owI, Loc.owN, Loc.set, Loc.ns, Loc.cg, Loc.pb, silD, plD] at hk e) <;> omega)))
            go_end0
            refine HR.out _ _ ⟨.slice A9 (s2.run.length + 1) c9, q0, q1, rfl, ?_, ?_, ?_, ?_, MC.2.2.2.2.2.2.1⟩
            · rw [HEE.out]
              exact ⟨MC.1, MC.2.2.1, MC.2.1, True.intro⟩
            · omega
            · simp only [size_setCell]; omega
            · simp only [size_setCell]; omega
          | false =>
            go_wp2_with (first
              | (at_builtin; refine wpList_app2 rfl _ _ rfl ti_int (fun _ => rfl) oneI rfl rfl (Mem.cons (a := Loc.owI r0 r1 _ s2.run) (M.out.alloc _).2.2.1 (Mem.cons (a := Loc.pb _ g) (M.out.alloc _).1 (Mem.cons (a := Loc.owI gm (gm + 1) _ s2.m) (M.out.alloc _).2.1 (M.out.alloc _).2.2.2))) (by (repeat' (first | exact True.intro | refine And.intro (fun k hk e => ?_) ?_)) <;> (first | exact e | ((try dsimp only [Loc.c1, Loc.c2, Loc.k1, Loc.k2, Loc.k3, Loc.k4, Loc.k6, Loc.fr, Loc.bl, Loc.own, Loc.sz, Loc.rd, Loc.rdI, Loc.rdS, Loc.rdM, Loc.rdT, Loc.ow, Loc.owI, Loc.owN, Loc.set, Loc.ns, Loc.cg, Loc.pb, silD, plD] at hk e) <;> omega))) (RdI.lit1 _ _ _) (by rw [HRL.out]; simp; omega) (by rw [HRL.out]; simp; omega) (by simp; omega) ?_; intro A9 c9 w9 q0 q1 hq9 hM9 hs9 hch9; have M9 := Lib.hid hM9; simp only [World.size_alloc] at hs9 hq9; clear hM9 hch9; replace hk11 := PB.k11 M9.out.2.1; have MB := Lib.hid (Mem.step (a' := Loc.pb (plA n (.slice (some ⟨b4, off4, none⟩) n.trans.length c) (.slice (some ⟨gm, 0, none⟩) np cm) s2.c (.slice A9 (s2.run.length + 1) c9) false) g) (Mem.cons (a := Loc.pb _ g) M9.out.2.1 (Mem.cons (a := Loc.owI q0 q1 _ (s2.run ++ [(t : Int)])) M9.out.1 M9.out.2.2)) (PB.set M9.out.2.1 9 (.slice A9 (s2.run.length + 1) c9) rfl) (Chg.set _ g 9 _) (by (repeat' (first | exact True.intro | refine And.intro (fun k hk e => ?_) ?_)) <;> (first | exact e | ((try dsimp only [Loc.c1, Loc.c2, Loc.k1, Loc.k2, Loc.k3, Loc.k4, Loc.k6, Loc.fr, Loc.bl, Loc.own, Loc.sz, Loc.rd, Loc.rdI, Loc.rdS, Loc.rdM, Loc.rdT, Loc.ow, Loc.owI, Loc.owN, Loc.set, Loc.ns, Loc.cg, Loc.pb, silD, plD] at hk e) <;> omega)))))
              | (go_at_call 98; refine (maxL_any s2.m _ gm (gm + 1) _ (Own.rd MB.out.2.2.1) HLP.out).mono ?_; rintro e w10 ⟨rfl, hb10⟩; replace MB := Lib.hid (MB.out.below hb10); have hz10 := hb10.size; simp only [size_setCell] at hz10; clear hb10; replace hk11 := PB.k11 MB.out.1))
            have MC := Mem.step (a' := Loc.pb (plA n (.slice (some ⟨b4, off4, none⟩) n.trans.length c) (.slice (some ⟨gm, 0, none⟩) np cm) s2.c (.slice A9 (s2.run.length + 1) c9) (decide ((100 : Int) < maxL s2.m))) g) MB.out (PB.set MB.out.1 10 (.bool (decide ((100 : Int) < maxL s2.m))) rfl) (Chg.set _ g 10 _) (by (repeat' (first | exact True.intro | refine And.intro (fun k hk e => ?_) ?_)) <;> (first | exact e | ((try dsimp only [Loc.c1, Loc.c2, Loc.k1, Loc.k2, Loc.k3, Loc.k4, Loc.k6, Loc.fr, Loc.bl, Loc.own, Loc.sz, Loc.rd, Loc.rdI, Loc.rdS, Loc.rdM, Loc.rdT, Loc.ow, Loc.owI, Loc.owN, Loc.set, Loc.ns, Loc.cg, Loc.pb, silD, plD] at hk e) <;> omega)))
            go_end0
            refine HR.out _ _ ⟨.slice A9 (s2.run.length + 1) c9, q0, q1, rfl, ?_, ?_, ?_, ?_, MC.2.2.2.2.2.2.1⟩
            · rw [HEE.out]
              exact ⟨MC.1, MC.2.2.1, MC.2.1, True.intro⟩
            · omega
            · simp only [size_setCell]; omega
            · simp only [size_setCell]; omega
end Go.Proofs.Ytmhbfoaecebobaa
end
section
namespace Go.Proofs.Ytmhbfoaecebobaa
set_option linter.unusedSimpArgs false
set_option linter.unusedVariables false
open Go.RowKit
theorem toList_inj {x a : ByteArray} : x.toList = a.toList ↔ x = a := by
  rw [ByteArray.toList_eq, ByteArray.toList_eq]
  constructor
  · intro h
    exact ByteArray.ext (Array.toList_inj.1 h)
  · intro h; rw [h]
set_option maxHeartbeats 1000000 in
theorem indexFT_any (f : FuncId) (hent : Ent f) (cap : Array Value) (p : Tr → Bool) (l : List Tr) (lo hi : Nat) (v : Value) (w : World) (hv : RdT w lo hi v l)
    (hf : ∀ k, k < l.length → ∀ vi vo W, Below w.heap.size w W → RdI W lo hi vi (gti l k).inn → RdI W lo hi vo (gti l k).out → Calls Try.prog f (#[trV (gti l k) vi vo] ++ cap) W fun e W' => e = .returned (.bool (p (gti l k))) ∧ Below W.heap.size W W') :
    Calls Try.prog 65 #[v, .func (.func f) #[] cap] w fun e w' => e = .returned (.int .i64 (firstAt p l)) ∧ Below w.heap.size w w' := by
  obtain ⟨A, c, rfl, hc, hm⟩ := hv.form
  unfold Ent at hent
  have HF := Lib.hid hf
  clear hf
  have HA := Lib.hid hv
  clear hv
  refine zax fun R hR => ?_
  have HR := Lib.hid hR
  clear hR
  go_enter Try.func65, Try.ntmps65
  go_wp2
  go_loopw [8, 5] (fun i _ wr => ∃ k : Nat, k ≤ l.length ∧ i = .int .i64 k ∧ Hid (∀ j a, j < k → l[j]? = some a → p a = false) ∧ Hid (Below w.heap.size w wr)) (fun i _ _ => l.length - (intOf i).toNat)
  case atStart => exact ⟨0, Nat.zero_le _, rfl, Lib.hid (fun j a h => absurd h (by omega)), Lib.hid (Below.refl _ _)⟩
  case round =>
    obtain ⟨k, hk, rfl, HNO, HB⟩ := hrel
    by_cases hlt : k < l.length
    · obtain ⟨b, off, vi, vo, rfl, _, _, hcell, hri, hro⟩ := RdT.at3 (HA.out.after HB.out) hlt
      have HFk := Lib.hid (HF.out k hlt vi vo wr HB.out hri hro)
      obtain ⟨Ai, ci, rfl, hci, hmi⟩ := hri.form
      obtain ⟨Ao, co, rfl, hco, hmo⟩ := hro.form
      clear hri hro
      have HA2 := Lib.hid (gti_get hlt)
      generalize gti l k = a at *
      go_wp2_with fail
      refine HFk.out.mono ?_
      rintro e w1 ⟨rfl, hb1⟩
      have HB1 := Lib.hid hb1
      clear hb1
      cases hp : p a with
      | true =>
        have HP := Lib.hid hp
        clear hp
        go_wp2
        exact HR.out _ _ ⟨ret_int (firstAt_some HA2.out HP.out HNO.out).symm, HB.out.trans (HB1.out.mono HB.out.size)⟩
      | false =>
        have HP := Lib.hid hp
        clear hp
        go_wp2
        exact ⟨⟨k + 1, by omega, by go_num, Lib.hid (snoc_no HNO.out HA2.out HP.out), Lib.hid (HB.out.trans (HB1.out.mono HB.out.size))⟩, by simp [intOf]; omega⟩
    · go_wp2
      have hkl : k = l.length := by omega
      exact HR.out _ _ ⟨ret_int (firstAt_none (by rw [← hkl]; exact HNO.out)).symm, HB.out⟩
theorem ent_en11 : Ent 103 := ent_of Try.func103 (by kernel_rfl) rfl
theorem ent_en1 : Ent 102 := ent_of Try.func102 (by kernel_rfl) rfl
theorem ent_play1 : Ent 72 := ent_of Try.func72 (by kernel_rfl) rfl
theorem ent_play2 : Ent 76 := ent_of Try.func76 (by kernel_rfl) rfl
theorem ent_fin1 : Ent 77 := ent_of Try.func77 (by kernel_rfl) rfl
set_option maxHeartbeats 400000 in
theorem en11_any (m : List Int) (v : Value) (lo hi g : Nat) (p : Int) (w : World) (hg : C1 w g 0 v) (hv : RdI w lo hi v m) (h0 : 0 ≤ p) (h1 : p < m.length) :
    Calls Try.prog 103 #[.int .i64 p, .pointer (some ⟨g, 0, none⟩)] w fun e w' => e = .returned (.bool (decide (gti m p.toNat = 0))) ∧ Below w.heap.size w w' := by
  obtain ⟨k, rfl⟩ : ∃ k : Nat, p = k := ⟨p.toNat, by omega⟩
  have hlt : k < m.length := by omega
  clear h0 h1
  obtain ⟨A, c, rfl, hc, hm⟩ := hv.form
  obtain ⟨b, off, rfl, _, _, hcell⟩ := RdI.at1 hv hlt
  have HV := Lib.hid hv
  clear hv
  simp only [Int.toNat_natCast]
  refine zax fun R hR => ?_
  have HR := Lib.hid hR
  clear hR
  go_enter Try.func103, Try.ntmps103
  go_wp2_with fail
  all_goals (refine HR.out _ _ ⟨ret_bool ?_, Below.refl _ _⟩ <;> (go_light; grind))
set_option maxRecDepth 100000 in
set_option maxHeartbeats 400000 in
theorem en1_any (t : Tr) (vi vo : Value) (act : ByteArray) (m : List Int) (v : Value) (lo hi lo' hi' gl gb : Nat) (w : World) (hl : C1 w gl 0 (.string act)) (hb : C1 w gb 0 v) (hi1 : RdI w lo hi vi t.inn) (ho1 : RdI w lo hi vo t.out) (hv : RdI w lo' hi' v m) (hin : ∀ p ∈ t.inn, 0 ≤ p ∧ p < m.length) :
    Calls Try.prog 102 #[trV t vi vo, .pointer (some ⟨gl, 0, none⟩), .pointer (some ⟨gb, 0, none⟩)] w fun e w' => e = .returned (.bool (enB2 m act t)) ∧ Below w.heap.size w w' := by
  obtain ⟨A2, c2, rfl, hc2, hm2⟩ := hi1.form
  obtain ⟨A3, c3, rfl, hc3, hm3⟩ := ho1.form
  have HV := Lib.hid hv
  have HI := Lib.hid hi1
  have HN := Lib.hid hin
  have HBB := Lib.hid hb
  have hgl := World.block_lt_of_cell? w _ hl
  dsimp only at hgl
  have hnl : gl ≠ w.heap.size := by omega
  have HC : Hid (∀ W, Below w.heap.size w W → Calls Try.prog 95 #[.slice A2 t.inn.length c2, .func (.func 103) #[] #[.pointer (some ⟨gb, 0, none⟩)]] W fun e w' => e = .returned (.bool (t.inn.any fun p => decide (gti m p.toNat = 0))) ∧ Below W.heap.size W w') :=
    Lib.hid (fun W hW => containsFI_any 103 ent_en11 #[.pointer (some ⟨gb, 0, none⟩)] (fun p => decide (gti m p.toNat = 0)) t.inn lo hi _ W (HI.out.after hW) (fun a ha W' hW' => en11_any m _ lo' hi' _ a W' (cell_aft hW' (cell_aft hW HBB.out)) ((HV.out.after hW).after hW') (HN.out a ha).1 (HN.out a ha).2))
  clear hv hi1 hin ho1 hb
  have hb0 : Below w.heap.size w (w.alloc (Obj.cells #[Value.string t.label, Value.slice A2 t.inn.length c2, .slice A3 t.out.length c3] 46)) := (Below.refl _ _).alloc (Nat.le_refl _) _
  have HB0 := Lib.hid hb0
  have HEN : Hid (enB2 m act t = (decide (t.label = act) && !t.inn.any fun p => decide (gti m p.toNat = 0))) := Lib.hid rfl
  clear hb0
  by_cases hla : t.label.toList = act.toList
  · have HLA := Lib.hid (toList_inj.1 hla)
    refine zax fun R hR => ?_
    have HR := Lib.hid hR
    clear hR
    go_enter Try.func102, Try.ntmps102
    go_wp2_with (go_at_call 95; refine (HC.out _ HB0.out).mono ?_; rintro e w1 ⟨rfl, hb1⟩; replace HB0 := Lib.hid (HB0.out.trans (hb1.mono HB0.out.size)); clear hb1)
    exact HR.out _ _ ⟨ret_bool (by rw [HEN.out, decide_eq_true HLA.out]; rfl), HB0.out⟩
  · have HLA := Lib.hid (fun e => hla (toList_inj.2 e))
    refine zax fun R hR => ?_
    have HR := Lib.hid hR
    clear hR
    go_enter Try.func102, Try.ntmps102
    go_wp2_with fail
    exact HR.out _ _ ⟨ret_bool (by rw [HEN.out, decide_eq_false HLA.out]; rfl), HB0.out⟩
def InOk (n : Net) (k : Nat) : Prop := ∀ i, i < n.trans.length → ∀ p ∈ (gti n.trans i).inn, 0 ≤ p ∧ p < (k : Int)
theorem InOk.of {n : Net} {k : Nat} (hv : zbc n = true) (hk : (k : Int) = n.places) : InOk n k := fun i hi p hp => by have := (trans_in hv hi).1 p hp; omega
set_option maxRecDepth 100000 in
set_option maxHeartbeats 400000 in
theorem enabledP_any (n : Net) (m : List Int) (act : ByteArray) (g lo hi lo' hi' : Nat) (vt v : Value) (w : World) (hg : C1 w g 1 vt) (hv : RdT w lo hi vt n.trans) (hm : RdI w lo' hi' v m) (hin : InOk n m.length) :
    Calls Try.prog 73 #[.pointer (some ⟨g, 0, none⟩), v, .string act] w fun e w' => e = .returned (.int .i64 (enabledAt n m act)) ∧ Below w.heap.size w w' := by
  obtain ⟨A, c, rfl, hc, hmm⟩ := hv.form
  obtain ⟨A2, c2, rfl, hc2, hmm2⟩ := hm.form
  have hgw := World.block_lt_of_cell? w _ hg
  dsimp only at hgw
  have hg0 : g ≠ w.heap.size := by omega
  have hg1 : g ≠ w.heap.size + 1 := by omega
  have hb0 : Below w.heap.size w ((w.alloc (.cells #[.slice A2 m.length c2] 30)).alloc (.cells #[.string act] 9)) := ((Below.refl _ _).alloc (Nat.le_refl _) _).alloc (by simp) _
  have HB0 := Lib.hid hb0
  have HC := Lib.hid (indexFT_any 102 ent_en1 #[.pointer (some ⟨w.heap.size + 1, 0, none⟩), .pointer (some ⟨w.heap.size, 0, none⟩)] (enB2 m act) n.trans lo hi _ _ (hv.after hb0)
    (fun k hk vi vo W hW hvi hvo => en1_any (gti n.trans k) vi vo act m _ lo hi lo' hi' _ _ W (cell_aft hW (by simp [C1, go_sem])) (cell_aft hW (by simp [C1, go_sem])) hvi hvo ((hm.after hb0).after hW) (hin k hk)))
  have HE : Hid (enabledAt n m act = firstAt (enB2 m act) n.trans) := Lib.hid rfl
  clear hv hm hin hb0
  refine zax fun R hR => ?_
  have HR := Lib.hid hR
  clear hR
  go_enter Try.func73, Try.ntmps73
  go_wp2_with (go_at_call 65; refine HC.out.mono ?_; rintro e w1 ⟨rfl, hb1⟩; replace HB0 := Lib.hid (HB0.out.trans (hb1.mono HB0.out.size)); clear hb1)
  exact HR.out _ _ ⟨ret_int HE.out.symm, HB0.out⟩
set_option maxHeartbeats 400000 in
theorem play1_any (n : Net) (m : List Int) (act : ByteArray) (g gp ga lo hi lo' hi' : Nat) (vt v : Value) (w : World) (hp : C1 w gp 0 (.pointer (some ⟨g, 0, none⟩))) (ha : C1 w ga 0 (.string act)) (hg : C1 w g 1 vt) (hv : RdT w lo hi vt n.trans) (hm : RdI w lo' hi' v m) (hin : InOk n m.length) :
    Calls Try.prog 72 #[v, .pointer (some ⟨gp, 0, none⟩), .pointer (some ⟨ga, 0, none⟩)] w fun e w' => e = .returned (.bool (goodA n act m)) ∧ Below w.heap.size w w' := by
  have HC := Lib.hid (enabledP_any n m act g lo hi lo' hi' vt v w hg hv hm hin)
  clear hv hm hin hg
  refine zax fun R hR => ?_
  have HR := Lib.hid hR
  clear hR
  go_enter Try.func72, Try.ntmps72
  go_wp2_with (go_at_call 73; refine HC.out.mono ?_; rintro e w1 ⟨rfl, hb1⟩; have HB1 := Lib.hid hb1; clear hb1)
  exact HR.out _ _ ⟨ret_bool (by unfold goodA; go_light; grind), HB1.out⟩
set_option maxHeartbeats 400000 in
theorem play2_any (t : Tr) (vi vo : Value) (act : ByteArray) (ga : Nat) (w : World) (ha : C1 w ga 0 (.string act)) (hvi : ∃ A n c, vi = .slice A n c) (hvo : ∃ A n c, vo = .slice A n c) :
    Calls Try.prog 76 #[trV t vi vo, .pointer (some ⟨ga, 0, none⟩)] w fun e w' => e = .returned (.bool (labB act t)) ∧ Below w.heap.size w w' := by
  obtain ⟨A, k, c, rfl⟩ := hvi
  obtain ⟨B, k2, c2, rfl⟩ := hvo
  have hgl := World.block_lt_of_cell? w _ ha
  dsimp only at hgl
  have hnl : ga ≠ w.heap.size := by omega
  have hb0 : Below w.heap.size w (w.alloc (Obj.cells #[Value.string t.label, .slice A k c, .slice B k2 c2] 46)) := (Below.refl _ _).alloc (Nat.le_refl _) _
  have HB0 := Lib.hid hb0
  clear hb0
  refine zax fun R hR => ?_
  have HR := Lib.hid hR
  clear hR
  go_enter Try.func76, Try.ntmps76
  go_wp2_with fail
  all_goals have hinj := @toList_inj t.label act
  all_goals exact HR.out _ _ ⟨ret_bool (by unfold labB; go_light; grind), HB0.out⟩
set_option maxHeartbeats 400000 in
theorem fin1_any (n : Net) (m : List Int) (g gp lo' hi' ks : Nat) (v : Value) (w : World) (hp : C1 w gp 0 (.pointer (some ⟨g, 0, none⟩))) (hks : n.sink = ks) (hg : C1 w g 3 (.int .i64 n.sink)) (hm : RdI w lo' hi' v m) (hk : ks < m.length) :
    Calls Try.prog 77 #[v, .pointer (some ⟨gp, 0, none⟩)] w fun e w' => e = .returned (.bool (goodF n m)) ∧ Below w.heap.size w w' := by
  have HE : Hid (goodF n m = decide (0 < gti m ks)) := Lib.hid (by unfold goodF; rw [hks]; rfl)
  rw [hks] at hg
  clear hks
  obtain ⟨A, c, rfl, hc, hmm⟩ := hm.form
  obtain ⟨b, off, rfl, _, _, hcell⟩ := RdI.at1 hm hk
  clear hm
  refine zax fun R hR => ?_
  have HR := Lib.hid hR
  clear hR
  go_enter Try.func77, Try.ntmps77
  go_wp2_with fail
  all_goals exact HR.out _ _ ⟨ret_bool (by first | (rw [HE.out]; done) | (rw [HE.out]; go_light; grind)), Below.refl _ _⟩
end Go.Proofs.Ytmhbfoaecebobaa
end
section
namespace Go.Proofs.Ytmhbfoaecebobaa
set_option linter.unusedSimpArgs false
set_option linter.unusedVariables false
open Go.RowKit Go.Maps Go.WideMaps
def RetW (w : World) (r : Option (List Int)) (e : Ending) (w' : World) : Prop :=
  ∃ A c, e = .returned (.tuple #[.slice A (r.getD []).length c, .bool r.isSome]) ∧ RdI w' w.heap.size w'.heap.size (.slice A (r.getD []).length c) (r.getD []) ∧ Below w.heap.size w w'
abbrev silD (hh gs qb : Nat) : Nat → Prop := fun k => k < hh ∧ k ≠ gs ∧ k ≠ qb
set_option maxRecDepth 100000 in
set_option maxHeartbeats 4000000 in
theorem silent_any (n : Net) (m : List Int) (vt v : Value) (lo hi lo' hi' : Nat) (f : FuncId) (hent : Ent f) (cap : Array Value) (good : List Int → Bool) (w : World) (hv : RdT w lo hi vt n.trans) (hm : RdI w lo' hi' v m) (hmk : markB n m = true) (hhi : hi' ≤ w.heap.size)
    (hg : ∀ (x : List Int) (lo hi : Nat) (v : Value) (W : World), markB n x = true → Below w.heap.size w W → RdI W lo hi v x → Calls Try.prog f (#[v] ++ cap) W fun e W' => e = .returned (.bool (good x)) ∧ Below W.heap.size W W') :
    Calls Try.prog 71 #[netV n vt, v, .func (.func f) #[] cap] w (RetW w (silE n good m)) := by
  obtain ⟨A, c, rfl, hc, hmm⟩ := hv.form
  obtain ⟨A2, c2, rfl, hc2, hmm2⟩ := hm.form
  have HV := Lib.hid hv
  have HW := Lib.hid hm
  have HG := Lib.hid hg
  have HMK := Lib.hid hmk
  have HML := Lib.hid (markB_len hmk)
  unfold Ent at hent
  clear hv hm hg hmk
  have hmmk := @run_makeMap Try.prog
  refine zax fun R hR => ?_
  have HR := Lib.hid hR
  clear hR
  go_enter Try.func71, Try.ntmps71
  have M : Hid (Mem [Loc.k4 w.heap.size (.int .i64 n.places) (.slice A n.trans.length c) (.int .i64 n.source) (.int .i64 n.sink), Loc.bl w.heap.size w] (w.alloc (.cells #[.int .i64 n.places, .slice A n.trans.length c, .int .i64 n.source, .int .i64 n.sink] 24))) := Lib.hid ⟨K4.new w _ _ _ _ _, ⟨(Below.refl _ _).alloc (Nat.le_refl _) _, by simp⟩, True.intro⟩
  have hk4 := M.out.1
  have M2 : Hid (Mem [Loc.set (w.heap.size + 1) [], Loc.k4 w.heap.size (.int .i64 n.places) (.slice A n.trans.length c) (.int .i64 n.source) (.int .i64 n.sink), Loc.bl w.heap.size w] ((w.alloc (.cells #[.int .i64 n.places, .slice A n.trans.length c, .int .i64 n.source, .int .i64 n.sink] 24)).alloc (.map #[] 0))) := Lib.hid ⟨by have := SetAt.made (w.alloc (.cells #[.int .i64 n.places, .slice A n.trans.length c, .int .i64 n.source, .int .i64 n.sink] 24)); rw [World.size_alloc] at this; exact this, M.out.alloc _⟩
  go_wp2_with (first
    | (go_at_call 44; refine (key_any m lo' hi' _ _ (HW.out.after M2.out.2.2.1.1) (markB_small HMK.out) (by have := HML.out; omega) (by have := HML.out; intro e; rw [e] at this; simp at this)).mono ?_; rintro e w1 ⟨rfl, hb1⟩; replace M := Lib.hid (M2.out.below hb1); clear hb1 M2)
    | (refine wpList_put_set rfl _ _ _ (.inr rfl) (keyL m) rfl rfl rfl M.out (by (repeat' (first | exact True.intro | refine And.intro (fun k hk e => ?_) ?_)) <;> (first | exact e | ((try dsimp only [Loc.c1, Loc.c2, Loc.k1, Loc.k2, Loc.k3, Loc.k4, Loc.k6, Loc.fr, Loc.bl, Loc.own, Loc.sz, Loc.rd, Loc.rdI, Loc.rdS, Loc.rdM, Loc.rdT, Loc.ow, Loc.owI] at hk e) <;> omega))) (by rw [keyL_len]; have := HML.out; omega) (by simp) ?_; intro w2 hM2 hs2; replace M := Lib.hid hM2; clear hM2; replace hk4 := M.out.2.1))
  have hgs : w.heap.size + 1 < w2.heap.size := SetAt.lt M.out.1
  obtain ⟨qb, hqb⟩ : ∃ b, b = w2.heap.size := ⟨_, rfl⟩
  have M0 : Hid (Mem [Loc.owN qb (qb + 1) (.slice (some ⟨qb, 0, none⟩) 1 1) [⟨0, A2, m.length, c2, none, 0, 0⟩], Loc.set (w.heap.size + 1) (keysOf [⟨0, m, []⟩]), Loc.ns (silD w2.heap.size (w.heap.size + 1) qb) (w.heap.size + 2) [⟨0, A2, m.length, c2, none, 0, 0⟩] [⟨0, m, []⟩], Loc.k4 w.heap.size (.int .i64 n.places) (.slice A n.trans.length c) (.int .i64 n.source) (.int .i64 n.sink), Loc.bl w.heap.size w] (w2.alloc (.cells #[.int .i64 0, .slice A2 m.length c2, .slice none 0 0] 86))) := Lib.hid (by
    have hal := M.out.alloc (.cells #[.int .i64 0, .slice A2 m.length c2, .slice none 0 0] 86)
    refine ⟨?_, hal.1, ?_, hal.2⟩
    · rw [hqb]
      exact Own.lit w2 86 _ _ _ 1 rfl rfl (Nat.le_refl _) (by decide) (fun _ => rfl)
    · refine RdNs.snoc (RdNs.nil _ _ _) (v := ⟨0, A2, m.length, c2, none, 0, 0⟩) (x := ⟨0, m, []⟩) rfl (RdB.of (HW.out.after hal.2.2.1.1) (fun k h1 h2 => ⟨by omega, by omega, by omega⟩)) (RdB.nil _ _))
  have HQ0 : Hid (QI n m [⟨0, m, []⟩]) := Lib.hid (QI.init HMK.out)
  have hqs : qb < w2.heap.size + 1 := by omega
  have hgq : w.heap.size + 1 < qb := by omega
  go_wp2_with fail
  rw [← hqb]
  go_loopw [10, 9, 11, 12, 13, 14, 15] (fun v10 v9 _ _ _ _ _ wr => ∃ (i : Nat) (q : List Nd) (vs : List NdV) (B : Option Addr) (d qb hh : Nat), i ≤ q.length ∧ v10 = .int .i64 i ∧ v9 = .slice B vs.length d ∧ hh ≤ wr.heap.size ∧ w.heap.size + 1 < qb ∧ qb < wr.heap.size ∧ Hid (QI n m q) ∧ Hid (silE n good m = srch n good (201 - i) i q) ∧ Hid (Mem [Loc.owN qb (qb + 1) (.slice B vs.length d) vs, Loc.set (w.heap.size + 1) (keysOf q), Loc.ns (silD hh (w.heap.size + 1) qb) (w.heap.size + 2) vs q, Loc.k4 w.heap.size (.int .i64 n.places) (.slice A n.trans.length c) (.int .i64 n.source) (.int .i64 n.sink), Loc.bl w.heap.size w] wr)) (fun v10 _ _ _ _ _ _ _ => 201 - (intOf v10).toNat)
  case atStart => exact ⟨0, _, _, _, 1, qb, w2.heap.size, Nat.zero_le _, rfl, rfl, by simp, hgq, by simp; omega, HQ0, Lib.hid rfl, M0⟩
  case round =>
    clear M M0 HQ0 hqs hgq hqb hk4 hgs hmmk
    obtain ⟨i, q, vs, B, d, qb, hh, hil, rfl, rfl, hhs, hgq, hqs, HQ, HI, M⟩ := hrel
    have hk4 := M.out.2.2.2.1
    have hvl := M.out.2.2.1.1
    have hql := HQ.out.len
    by_cases hlt : i < q.length
    · obtain ⟨hxm, hxr, hxt⟩ := HQ.out.at_ i hlt
      obtain ⟨bq, offq, rfl, _, _, hcq⟩ := OwnN.at3 M.out.1 (k := i) (by omega)
      have hlt' : i < vs.length := by omega
      obtain ⟨hxk, hxm2, hxr2⟩ := M.out.2.2.1.2 i hlt
      have HXM := Lib.hid hxm
      have HXR := Lib.hid hxr
      have HXT := Lib.hid hxt
      obtain ⟨bm, hxm3⟩ := hxm2.rd
      have HRM := Lib.hid hxm3
      have HRR := Lib.hid hxr2
      have HS1 : Hid (silE n good m = if good (gti q i).m then some (gti q i).run else srch n good (201 - (i + 1)) (i + 1) (roundS n (gti q i) q n.trans.length)) := Lib.hid (by
        rw [HI.out]
        have e : 201 - i = (201 - (i + 1)) + 1 := by omega
        rw [e, srch, if_pos hlt])
      have HRD : Hid (∀ k, k ≤ n.trans.length → QI n m (roundS n (gti q i) q k)) := Lib.hid (fun k hk => HQ.out.round hlt hk)
      have HRA : Hid (∀ k, i < (roundS n (gti q i) q k).length ∧ gti (roundS n (gti q i) q k) i = gti q i) := Lib.hid (roundS_at hlt (gti q i))
      have HVL := Lib.hid hvl
      clear HI hxm hxr hxt hxm2 hxm3 hxr2 HXT hvl
      obtain ⟨x, hx⟩ : ∃ x, gti q i = x := ⟨_, rfl⟩
      obtain ⟨xv, hxv⟩ : ∃ x, gti vs i = x := ⟨_, rfl⟩
      have HX := Lib.hid hx
      have HXV := Lib.hid hxv
      rw [hx] at HS1 HRD HRA HXM HXR HRM HRR hxk
      rw [hxv] at HRM HRR hxk hcq
      clear hx hxv
      obtain ⟨xk, am, nm, cm, ar, nr, cr⟩ := xv
      dsimp only at hxk hcq HRM HRR
      have hnm : nm = x.m.length := by obtain ⟨_, _, h, _⟩ := HRM.out.form; injection h
      have hnr : nr = x.run.length := by obtain ⟨_, h⟩ := HRR.out; obtain ⟨_, _, h, _⟩ := h.2.form; injection h
      subst hnm hnr hxk
      have M3 : Hid (Mem [Loc.k3 wr.heap.size (.int .i64 x.k) (.slice am x.m.length cm) (.slice ar x.run.length cr), Loc.owN qb (qb + 1) (.slice (some ⟨bq, offq, none⟩) vs.length d) vs, Loc.set (w.heap.size + 1) (keysOf q), Loc.ns (silD hh (w.heap.size + 1) qb) (w.heap.size + 2) vs q, Loc.k4 w.heap.size (.int .i64 n.places) (.slice A n.trans.length c) (.int .i64 n.source) (.int .i64 n.sink), Loc.bl w.heap.size w] (wr.alloc (.cells #[.int .i64 x.k, .slice am x.m.length cm, .slice ar x.run.length cr] 86))) :=
        Lib.hid ⟨K3.new wr _ _ _ _, M.out.alloc _⟩
      have HRM3 := Lib.hid (HRM.out.after ((Below.refl _ _).alloc (Nat.le_refl _) (.cells #[.int .i64 x.k, .slice am x.m.length cm, .slice ar x.run.length cr] 86)))
      have HRR3 := Lib.hid (HRR.out.keep (Chg.alloc wr (.cells #[.int .i64 x.k, .slice am x.m.length cm, .slice ar x.run.length cr] 86)) (fun _ _ h => h))
      clear M HRM HRR
      have hkx := M3.out.1
      go_wp2_with fail
      refine (HG.out x.m bm (bm + 1) _ _ HXM.out M3.out.2.2.2.2.2.1.1 HRM3.out).mono ?_
      rintro e w3 ⟨rfl, hb3⟩
      have M := Lib.hid (M3.out.below hb3)
      have HRR := Lib.hid (HRR3.out.keep (Chg.below hb3) (fun _ _ h => h))
      have hw3 := hb3.size
      simp only [World.size_alloc] at hw3
      clear M3 hb3 HRM3 HRR3 hcq
      generalize wr.heap.size = gx at *
      replace hkx := M.out.1
      replace hk4 := M.out.2.2.2.2.1
      obtain ⟨zg, hzg⟩ : ∃ z, good x.m = z := ⟨_, rfl⟩
      rw [hzg] at HS1
      rw [hzg]
      clear hzg
      cases zg with
      | true =>
        rw [if_pos rfl] at HS1
        go_wp2_with fail
        exact HR.out _ _ ⟨_, _, by rw [HS1.out]; rfl, by rw [HS1.out]; exact HRR.out.within (fun k hk => ⟨by omega, by omega⟩), M.out.2.2.2.2.2.1.1⟩
      | false =>
        rw [if_neg (by simp)] at HS1
        go_wp2_with fail
        go_loopw [42, 9, 12, 13, 14, 15] (fun v42 v9 _ _ _ _ wr2 => ∃ (k : Nat) (vs2 : List NdV) (B2 : Option Addr) (d2 qb2 hh2 : Nat), k ≤ n.trans.length ∧ v42 = .int .i64 k ∧ v9 = .slice B2 vs2.length d2 ∧ hh2 ≤ wr2.heap.size ∧ w.heap.size + 1 < qb2 ∧ qb2 < wr2.heap.size ∧ qb2 ≠ gx ∧ gx + 1 ≤ wr2.heap.size ∧ Hid (∃ r, vs2 = vs ++ r) ∧ Hid (Mem [Loc.set (w.heap.size + 1) (keysOf (roundS n x q k)), Loc.owN qb2 (qb2 + 1) (.slice B2 vs2.length d2) vs2, Loc.ns (silD hh2 (w.heap.size + 1) qb2) (w.heap.size + 2) vs2 (roundS n x q k), Loc.k3 gx (.int .i64 x.k) (.slice am x.m.length cm) (.slice ar x.run.length cr), Loc.k4 w.heap.size (.int .i64 n.places) (.slice A n.trans.length c) (.int .i64 n.source) (.int .i64 n.sink), Loc.bl w.heap.size w] wr2)) (fun v42 _ _ _ _ _ _ => n.trans.length - (intOf v42).toNat)
        case atStart => exact ⟨0, vs, _, d, qb, hh, Nat.zero_le _, rfl, rfl, by omega, hgq, by omega, by omega, hw3, Lib.hid ⟨[], by simp⟩, Lib.hid ⟨M.out.2.2.1, M.out.2.1, M.out.2.2.2.1, M.out.1, M.out.2.2.2.2⟩⟩
        case round =>
          clear M HRR hkx hk4
          obtain ⟨k, vs2, B2, d2, qb2, hh2, hk, rfl, rfl, hhs2, hgq2, hqs2, hqx, hws2, HPRE, M⟩ := hrel
          have hkx := M.out.2.2.2.1
          have hk4 := M.out.2.2.2.2.1
          by_cases hlt2 : k < n.trans.length
          · have HQ2 := Lib.hid (HRD.out k hk)
            have HX2 := Lib.hid (HRA.out k)
            have HR3 : Hid (roundS n x q (k + 1) = stepS n x (roundS n x q k) k) := Lib.hid rfl
            obtain ⟨q2, hq2⟩ : ∃ y, roundS n x q k = y := ⟨_, rfl⟩
            rw [hq2] at HQ2 HX2 HR3 M
            clear hq2
            have hvl2 := M.out.2.2.1.1
            have hq200 := HQ2.out.len
            have hvl200 : vs2.length ≤ 200 := by omega
            obtain ⟨b4, off4, vi, vo, rfl, _, _, hct, hri, hro⟩ := RdT.at3 (HV.out.after M.out.2.2.2.2.2.1.1) hlt2
            obtain ⟨Ai, ci, rfl, hci, hmi⟩ := hri.form
            obtain ⟨Ao, co, rfl, hco, hmo⟩ := hro.form
            have HFE := Lib.hid (fun (W : World) (hW : Below w.heap.size w W) (bb : Nat) (hr : RdI W bb (bb + 1) (.slice am x.m.length cm) x.m) => Fire_any n x.m k _ _ lo hi bb (bb + 1) W (HV.out.after hW) hr)
            have HFM : Hid ((FireE n x.m k).2 = 0 → markB n (FireE n x.m k).1 = true) := Lib.hid (FireE_mark HXM.out)
            have HST : Hid (stepS n x q2 k = if silB n k = false ∨ q2.length = 200 then q2 else if (FireE n x.m k).2 ≠ 0 ∨ (FireE n x.m k).1 ∈ q2.map Nd.m then q2 else q2 ++ [⟨0, (FireE n x.m k).1, x.run ++ [(k : Int)]⟩]) := Lib.hid rfl
            obtain ⟨⟨fl, fe⟩, hfe⟩ : ∃ r, FireE n x.m k = r := ⟨_, rfl⟩
            rw [hfe] at HFE HFM HST
            dsimp only at HFM HST
            clear hfe hri hro
            obtain ⟨zl, hzl⟩ : ∃ z, silB n k = z := ⟨_, rfl⟩
            rw [hzl] at HST
            unfold silB at hzl
            generalize gti n.trans k = tr at *
            have HVL2 := Lib.hid hvl2
            cases zl with
            | false =>
              have HSQ : Hid (roundS n x q (k + 1) = q2) := Lib.hid (by rw [HR3.out, HST.out, if_pos (.inl rfl)])
              clear hvl2
              go_wp2_with fail
              exact ⟨⟨k + 1, vs2, B2, d2, qb2, hh2, by omega, by go_num, rfl, by simp; omega, hgq2, by simp; omega, hqx, by simp; omega, HPRE, Lib.hid (by rw [HSQ.out]; exact M.out.alloc _)⟩, by simp [intOf]; omega⟩
            | true =>
              by_cases h200 : q2.length = 200
              · have HSQ : Hid (roundS n x q (k + 1) = q2) := Lib.hid (by rw [HR3.out, HST.out, if_pos (.inr h200)])
                have hd1 : ((vs2.length : Int) == 200) = true := by simp; omega
                have hd2 : decide ((vs2.length : Int) = 200) = true := by simp; omega
                clear hvl2 h200
                go_wp2_with fail
                exact ⟨⟨k + 1, vs2, B2, d2, qb2, hh2, by omega, by go_num, rfl, by simp; omega, hgq2, by simp; omega, hqx, by simp; omega, HPRE, Lib.hid (by rw [HSQ.out]; exact M.out.alloc _)⟩, by simp [intOf]; omega⟩
              · have hd1 : ((vs2.length : Int) == 200) = false := by simp; omega
                have hd2 : decide ((vs2.length : Int) = 200) = false := by simp; omega
                rw [if_neg (by simp [h200])] at HST
                have H200 := Lib.hid h200
                clear h200
                obtain ⟨nv, hnv⟩ : ∃ v, v = gti vs2 i := ⟨_, rfl⟩
                have hxm2 := (M.out.2.2.1.2 i HX2.out.1).2.1
                have hxr2 := (M.out.2.2.1.2 i HX2.out.1).2.2
                have hve : gti vs2 i = ⟨x.k, am, x.m.length, cm, ar, x.run.length, cr⟩ := by
                  obtain ⟨r, hr⟩ := HPRE.out
                  rw [hr, gti_pre hlt', HXV.out]
                rw [HX2.out.2, hve] at hxm2 hxr2
                have HVE := Lib.hid hve
                clear hve hnv nv
                obtain ⟨bm2, hxm3⟩ := hxm2.rd
                have HXM3 := Lib.hid (Rd.after hxm3 ((Below.refl _ _).alloc (Nat.le_refl _) (.cells #[.string tr.label, .slice Ai tr.inn.length ci, .slice Ao tr.out.length co] 46)))
                clear hxm2 hxm3 hvl2
                by_cases hfe : fe = 0
                · subst hfe
                  have HFK := Lib.hid (HFM.out rfl)
                  have HFL := Lib.hid (markB_len HFK.out)
                  have HFS := Lib.hid (markB_small HFK.out)
                  have HKY := Lib.hid (HQ2.out.key HFK.out)
                  have HKL : Hid ((keyL fl).length ≤ 1000000) := Lib.hid (by rw [keyL_len]; have := HFL.out; omega)
                  obtain ⟨zs, hzs⟩ : ∃ z, decide (fl ∈ q2.map Nd.m) = z := ⟨_, rfl⟩
                  rw [hzs] at HKY
                  have HZS := Lib.hid hzs
                  clear hzs
                  obtain ⟨gt, hgt⟩ : ∃ g, wr.heap.size + 1 = g := ⟨_, rfl⟩
                  have HGT := Lib.hid hgt
                  have hgt1 : wr.heap.size < gt := by omega
                  clear hgt
                  cases zs with
                  | true =>
                    have HSQ : Hid (roundS n x q (k + 1) = q2) := Lib.hid (by rw [HR3.out, HST.out, if_pos (.inr (of_decide_eq_true HZS.out))])
                    go_wp2_with (first
                      | (go_at_call 45; refine (HFE.out _ (M.out.alloc _).2.2.2.2.2.1.1 bm2 HXM3.out).mono ?_; rintro e w5 ⟨A5, c5, rfl, hr5, hb5⟩; replace M := Lib.hid ((M.out.alloc (.cells #[.string tr.label, .slice Ai tr.inn.length ci, .slice Ao tr.out.length co] 46)).below hb5); have hz5 := hb5.size; simp only [World.size_alloc] at hz5 hr5; have HR5 := Lib.hid hr5; clear hb5 hr5)
                      | (go_at_call 44; refine (key_any fl _ _ _ _ HR5.out HFS.out (by have := HFL.out; omega) (by have := HFL.out; intro e; rw [e] at this; simp at this)).mono ?_; rintro e w6 ⟨rfl, hb6⟩; replace M := Lib.hid (M.out.below hb6); have hz6 := hb6.size; have hlook := SetAt.look' M.out.1 (keyL fl) HKL.out HKY.out; clear hb6)
                      )
                    exact ⟨⟨k + 1, vs2, B2, d2, qb2, hh2, by omega, by go_num, rfl, by omega, hgq2, by omega, hqx, by omega, HPRE, Lib.hid (by rw [HSQ.out]; exact M.out)⟩, by simp [intOf]; omega⟩
                  | false =>
                    have HSQ : Hid (roundS n x q (k + 1) = q2 ++ [⟨0, fl, x.run ++ [(k : Int)]⟩]) := Lib.hid (by rw [HR3.out, HST.out, if_neg (by simp; have := of_decide_eq_false HZS.out; simpa using this)])
                    have HXL : Hid (x.run.length ≤ 200) := Lib.hid (by have := HXR.out; omega)
                    go_wp2_with (first
                      | (go_at_call 45; refine (HFE.out _ (M.out.alloc _).2.2.2.2.2.1.1 bm2 HXM3.out).mono ?_; rintro e w5 ⟨A5, c5, rfl, hr5, hb5⟩; have hz5 := hb5.size; simp only [World.size_alloc] at hz5 hr5; rw [HGT.out] at hr5 hz5; replace M : Hid (Mem [_, _, _, _, Loc.rdI gt w5.heap.size _ fl, _, _] w5) := Lib.hid (by have hal := ((M.out.alloc (.cells #[.string tr.label, .slice Ai tr.inn.length ci, .slice Ao tr.out.length co] 46)).below hb5); exact ⟨hal.1, hal.2.1, hal.2.2.1, hal.2.2.2.1, hr5, hal.2.2.2.2⟩); clear hb5 hr5)
                      | (go_at_call 44; refine (key_any fl _ _ _ _ M.out.2.2.2.2.1 HFS.out (by have := HFL.out; omega) (by have := HFL.out; intro e; rw [e] at this; simp at this)).mono ?_; rintro e w6 ⟨rfl, hb6⟩; replace M := Lib.hid (M.out.below hb6); have hz6 := hb6.size; have hlook := SetAt.look' M.out.1 (keyL fl) HKL.out HKY.out; clear hb6)
                      | (refine wpList_put_set rfl _ _ _ (.inl rfl) (keyL fl) rfl rfl rfl M.out (by (repeat' (first | exact True.intro | refine And.intro (fun k hk e => ?_) ?_)) <;> (first | exact e | ((try dsimp only [Loc.c1, Loc.c2, Loc.k1, Loc.k2, Loc.k3, Loc.k4, Loc.k6, Loc.fr, Loc.bl, Loc.own, Loc.sz, Loc.rd, Loc.rdI, Loc.rdS, Loc.rdM, Loc.rdT, Loc.ow, Loc.owI, Loc.owN, Loc.set, Loc.ns, Loc.cg, silD] at hk e) <;> omega))) HKL.out (by rw [keysOf_len]; omega) ?_; intro w7 hM7 hs7; replace M := Lib.hid hM7; clear hM7; replace hkx := M.out.2.2.2.1; replace hk4 := M.out.2.2.2.2.2.1)
                      | (go_at_call 46; have hxr3 := (M.out.2.2.1.2 i HX2.out.1).2.2; rw [HX2.out.2, HVE.out] at hxr3; obtain ⟨br, hbr⟩ := hxr3.rd; clear hxr3; refine (clone_any x.run _ br (br + 1) _ hbr (by have := HXL.out; omega)).mono ?_; rintro e w8 ⟨A8, c8, rfl, ho8, hb8⟩; replace M := Lib.hid (M.out.below hb8); have hz8 := hb8.size; have HO := Lib.hid ho8; clear hb8 ho8 hbr)
                      | (at_builtin; refine wpList_app2 rfl _ _ rfl ti_int (fun _ => rfl) oneI rfl rfl (Mem.cons (a := Loc.owI w7.heap.size w8.heap.size _ _) (HO.out.alloc _) (M.out.alloc _)) (by (repeat' (first | exact True.intro | refine And.intro (fun k hk e => ?_) ?_)) <;> (first | exact e | ((try dsimp only [Loc.c1, Loc.c2, Loc.k1, Loc.k2, Loc.k3, Loc.k4, Loc.k6, Loc.fr, Loc.bl, Loc.own, Loc.sz, Loc.rd, Loc.rdI, Loc.rdS, Loc.rdM, Loc.rdT, Loc.ow, Loc.owI, Loc.owN, Loc.set, Loc.ns, Loc.cg, silD] at hk e) <;> omega))) (RdI.lit1 _ _ _) (by have := HXL.out; simp; omega) (by have := HXL.out; simp; omega) (by simp; omega) ?_; intro A9 c9 w9 g0 g1 hg9 hM9 hs9 hch9; have M9 := Lib.hid hM9; simp only [World.size_alloc] at hs9 hg9; clear hM9 hch9; have tok9 : True := trivial)
                      | (have _t := tok9; at_builtin; refine wpList_app2 rfl _ _ rfl ti_node (fun _ => rfl) oneN rfl rfl (Mem.cons (a := Loc.owN qb2 (qb2 + 1) _ vs2) (M9.out.alloc _).2.2.1 (Mem.cons (a := Loc.owI g0 g1 _ (x.run ++ [(k : Int)])) (M9.out.alloc _).1 (Mem.cons (a := Loc.set _ _) (M9.out.alloc _).2.1 (M9.out.alloc _).2.2.2))) (by (repeat' (first | exact True.intro | refine And.intro (fun k hk e => ?_) ?_)) <;> (first | exact e | ((try dsimp only [Loc.c1, Loc.c2, Loc.k1, Loc.k2, Loc.k3, Loc.k4, Loc.k6, Loc.fr, Loc.bl, Loc.own, Loc.sz, Loc.rd, Loc.rdI, Loc.rdS, Loc.rdM, Loc.rdT, Loc.ow, Loc.owI, Loc.owN, Loc.set, Loc.ns, Loc.cg, silD] at hk e) <;> omega))) (RdNv.lit w9 ⟨0, A5, fl.length, c5, A9, x.run.length + 1, c9⟩ _) (by simp; omega) (by simp; omega) (by simp; omega) ?_; intro AA cA wA q0 q1 hgA hMA hsA hchA; have MA := Lib.hid hMA; simp only [World.size_alloc] at hsA hgA; clear hMA hchA))
                    have hq1 : q1 = q0 + 1 := by omega
                    subst hq1
                    have HNS : Hid (RdNs (silD wA.heap.size (w.heap.size + 1) q0) (w.heap.size + 2) wA (vs2 ++ [⟨0, A5, fl.length, c5, A9, x.run.length + 1, c9⟩]) (q2 ++ [⟨0, fl, x.run ++ [(k : Int)]⟩])) := Lib.hid (by
                      refine RdNs.snoc (RdNs.mono MA.out.2.2.2.1 (fun k hk => ?_)) rfl (RdB.of MA.out.2.2.2.2.2.1 (fun k h1 h2 => ?_)) (RdB.of (Own.rd MA.out.2.1) (fun k h1 h2 => ?_))
                      · have := hk.1; have := hk.2.1; have := hk.2.2
                        refine ⟨?_, ?_, ?_⟩ <;> omega
                      · refine ⟨?_, ?_, ?_⟩ <;> omega
                      · refine ⟨?_, ?_, ?_, ?_⟩ <;> omega)
                    exact ⟨⟨k + 1, vs2 ++ [⟨0, A5, fl.length, c5, A9, x.run.length + 1, c9⟩], AA, cA, q0, wA.heap.size, by omega, by go_num, by simp, Nat.le_refl _, by omega, by omega, by omega, by omega, Lib.hid (by obtain ⟨r, hr⟩ := HPRE.out; exact ⟨r ++ [_], by rw [hr, List.append_assoc]⟩), Lib.hid (by rw [HSQ.out, keysOf_snoc, List.length_append]; exact ⟨MA.out.2.2.1, MA.out.1, HNS.out, MA.out.2.2.2.2.1, MA.out.2.2.2.2.2.2⟩)⟩, by simp [intOf]; omega⟩
                · have HSQ : Hid (roundS n x q (k + 1) = q2) := Lib.hid (by rw [HR3.out, HST.out, if_pos (.inl hfe)])
                  go_wp2_with (go_at_call 45; refine (HFE.out _ (M.out.alloc _).2.2.2.2.2.1.1 bm2 HXM3.out).mono ?_; rintro e w5 ⟨A5, c5, rfl, hr5, hb5⟩; replace M := Lib.hid ((M.out.alloc (.cells #[.string tr.label, .slice Ai tr.inn.length ci, .slice Ao tr.out.length co] 46)).below hb5); have hz5 := hb5.size; simp only [World.size_alloc] at hz5; clear hb5 hr5)
                  exact ⟨⟨k + 1, vs2, B2, d2, qb2, hh2, by omega, by go_num, rfl, by omega, hgq2, by omega, hqx, by omega, HPRE, Lib.hid (by rw [HSQ.out]; exact M.out)⟩, by simp [intOf]; omega⟩
          · obtain rfl : k = n.trans.length := by omega
            have HAT := Lib.hid (HRA.out n.trans.length)
            go_wp2_with fail
            exact ⟨⟨i + 1, roundS n x q n.trans.length, vs2, B2, d2, qb2, hh2, by have := HAT.out.1; omega, by go_num, rfl, hhs2, hgq2, hqs2, Lib.hid (HRD.out _ (Nat.le_refl _)), HS1, Lib.hid ⟨M.out.2.1, M.out.1, M.out.2.2.1, M.out.2.2.2.2⟩⟩, by simp [intOf]; omega⟩
    · obtain rfl : i = q.length := by omega
      have hlt' : ¬ q.length < vs.length := by omega
      clear hvl
      have HE : Hid (silE n good m = none) := Lib.hid (by
        rw [HI.out]
        obtain h | ⟨k, h⟩ : 201 - q.length = 0 ∨ ∃ k, 201 - q.length = k + 1 := by
          rcases Nat.eq_zero_or_pos (201 - q.length) with h | h
          · exact .inl h
          · exact .inr ⟨201 - q.length - 1, by omega⟩
        · rw [h]; rfl
        · rw [h, srch, if_neg (by omega)])
      clear HI
      go_wp2_with fail
      exact HR.out _ _ ⟨none, 0, by rw [HE.out]; rfl, by rw [HE.out]; exact Rd.nil _ _ _, M.out.2.2.2.2.1.1⟩
end Go.Proofs.Ytmhbfoaecebobaa
end
section
namespace Go.Proofs.Ytmhbfoaecebobaa
set_option linter.unusedSimpArgs false
set_option linter.unusedVariables false
open Go.RowKit
theorem PM.c_ge {n : Net} {s : Pl} (h : PM n s) : 0 ≤ s.c.p ∧ 0 ≤ s.c.c ∧ 0 ≤ s.c.m := ⟨h.small.2.1, h.small.1, h.c0⟩
structure Sm (s : Pl) (B : Nat) : Prop where
  p : s.c.p ≤ 40 * B
  c : s.c.c ≤ 40 * B
  r : s.c.r ≤ 40 * B
  l : s.run.length ≤ B
theorem Sm.take {n : Net} {s : Pl} {B : Nat} (h : Sm s B) (hv : zbc n = true) {t : Nat} (ht : t < n.trans.length) : Sm (takeP n t s) (B + 1) := by
  obtain ⟨_, _, h1, h2⟩ := trans_in hv ht
  obtain ⟨h3, h4, h5, h6⟩ := takeP_c n t s
  rw [Int.toNat_natCast] at h3 h4
  refine ⟨?_, ?_, ?_, ?_⟩
  · rw [h4]; have := h.p; omega
  · rw [h3]; have := h.c; omega
  · rw [h5]; have := h.r; omega
  · rw [h6]; have := h.l; simp; omega
theorem Sm.all {n : Net} (hv : zbc n = true) : ∀ {l : List Int} {s : Pl} {B : Nat}, Sm s B → (∀ t ∈ l, 0 ≤ t ∧ t < n.trans.length) → Sm (takeAll n l s) (B + l.length)
  | [], s, B, h, _ => h
  | t :: l, s, B, h, ht => by
    obtain ⟨h0, h1⟩ := ht t (List.mem_cons_self ..)
    obtain ⟨k, rfl⟩ : ∃ k : Nat, t = k := ⟨t.toNat, by omega⟩
    have := Sm.all hv (l := l) (h.take hv (t := k) (by omega)) (fun u hu => ht u (List.mem_cons_of_mem _ hu))
    rw [takeAll]
    have e : B + 1 + l.length = B + (↑k :: l).length := by simp; omega
    rw [← e]
    exact this
theorem PM.all {n : Net} (hv : zbc n = true) : ∀ {l : List Int} {s : Pl}, PM n s → (∀ t ∈ l, 0 ≤ t ∧ t < n.trans.length) → PM n (takeAll n l s)
  | [], s, h, _ => h
  | t :: l, s, h, ht => PM.all hv (l := l) (s := takeP n t s) (h.take hv (ht t (List.mem_cons_self ..)).1 (ht t (List.mem_cons_self ..)).2) (fun u hu => ht u (List.mem_cons_of_mem _ hu))
set_option maxRecDepth 100000 in
set_option maxHeartbeats 2000000 in
theorem takeAll_any (n : Net) (s : Pl) (l : List Int) (B g gm np cm r0 r1 lo hi lw hw : Nat) (vt vr vl : Value) (w : World) (hv : RdT w lo hi vt n.trans) (hval : zbc n = true) (hl : ∀ t ∈ l, 0 ≤ t ∧ t < n.trans.length) (hpm : PM n s) (hsm : Sm s B) (hB : B + l.length ≤ 900000)
    (hnp : s.m.length = np) (hM : Mem [Loc.pb (plA n (vt) (.slice (some ⟨gm, 0, none⟩) np cm) (s).c vr (s).big) g, Loc.owI gm (gm + 1) (.slice (some ⟨gm, 0, none⟩) np cm) (s).m, Loc.owI r0 r1 vr (s).run] w) (hg : g ≠ gm) (hgr : g < r0 ∨ r1 ≤ g) (hmr : gm < r0 ∨ r1 ≤ gm) (h1 : hi ≤ g) (h2 : hi ≤ gm) (h3 : hi ≤ r0) (h4 : r1 ≤ w.heap.size) (h5 : r0 ≤ w.heap.size)
    (hvl : RdI w lw hw vl l) (h6 : g < lw) (h7 : gm < lw) (h8 : r1 ≤ lw) (h9 : hw ≤ w.heap.size) :
    Calls Try.prog 74 #[.pointer (some ⟨g, 0, none⟩), vl] w fun e w' => ∃ vr' r0' r1', e = .returned (.tuple #[]) ∧ Mem [Loc.pb (plA n (vt) (.slice (some ⟨gm, 0, none⟩) np cm) (takeAll n l s).c vr' (takeAll n l s).big) g, Loc.owI gm (gm + 1) (.slice (some ⟨gm, 0, none⟩) np cm) (takeAll n l s).m, Loc.owI r0' r1' vr' (takeAll n l s).run] w' ∧ (r0' = r0 ∧ r1' = r1 ∨ w.heap.size ≤ r0') ∧ r0' ≤ w'.heap.size ∧ r1' ≤ w'.heap.size ∧ Chg (plD g gm r0 r1) w w' := by
  obtain ⟨A, c, rfl, hc, hmm⟩ := hvl.form
  have M : Hid (Mem [Loc.pb (plA n (vt) (.slice (some ⟨gm, 0, none⟩) np cm) (s).c vr (s).big) g, Loc.owI gm (gm + 1) (.slice (some ⟨gm, 0, none⟩) np cm) (s).m, Loc.owI r0 r1 vr (s).run, Loc.rdI lw hw (.slice A l.length c) l, Loc.rdT lo hi vt n.trans, Loc.cg (plD g gm r0 r1) w] w) := Lib.hid ⟨hM.1, hM.2.1, hM.2.2.1, hvl, hv, Chg.refl _ _, True.intro⟩
  have hgw : g < w.heap.size := PB.lt hM.1
  have hgmw : gm < w.heap.size := by
    have hnz := za8 hval
    have hln := hpm.len
    obtain ⟨g', cap, hv', _, h5, h6⟩ := Own.blk hM.2.1 (by omega)
    injection hv' with hv' _ _
    injection hv' with hv'
    injection hv' with hv' _ _
    omega
  have HL := Lib.hid hl
  have HPM := Lib.hid hpm
  have HSM := Lib.hid hsm
  have HVAL := Lib.hid hval
  have HNP := Lib.hid hnp
  have HNL := Lib.hid (za8 hval)
  clear hM hvl hv hl hpm hsm hval hnp
  refine zax fun R hR => ?_
  have HR := Lib.hid hR
  clear hR
  go_enter Try.func74, Try.ntmps74
  go_wp2_with fail
  go_loopw [8, 5] (fun v8 _ wr => ∃ (j : Nat) (sj : Pl) (vrj : Value) (a0 a1 : Nat), j ≤ l.length ∧ v8 = .int .i64 j ∧ Hid (takeAll n (l.drop j) sj = takeAll n l s) ∧ Hid (PM n sj) ∧ Hid (Sm sj (B + j)) ∧ Hid (sj.m.length = np) ∧ (a0 = r0 ∧ a1 = r1 ∨ w.heap.size ≤ a0) ∧ a0 ≤ wr.heap.size ∧ a1 ≤ wr.heap.size ∧ Hid (Mem [Loc.pb (plA n (vt) (.slice (some ⟨gm, 0, none⟩) np cm) (sj).c vrj (sj).big) g, Loc.owI gm (gm + 1) (.slice (some ⟨gm, 0, none⟩) np cm) (sj).m, Loc.owI a0 a1 vrj (sj).run, Loc.rdI lw hw (.slice A l.length c) l, Loc.rdT lo hi vt n.trans, Loc.cg (plD g gm r0 r1) w] wr)) (fun v8 _ _ => l.length - (intOf v8).toNat)
  case atStart => exact ⟨0, s, vr, r0, r1, Nat.zero_le _, rfl, Lib.hid (by simp), HPM, HSM, HNP, .inl ⟨rfl, rfl⟩, h5, h4, M⟩
  case round =>
    clear M HPM HSM HNP
    obtain ⟨j, sj, vrj, a0, a1, hj, rfl, HT, HPM, HSM, HNP, haa, ha0, ha1, M⟩ := hrel
    by_cases hlt : j < l.length
    · have hkr := HL.out (gti l j) (gti_mem hlt)
      have HD : Hid (takeAll n (l.drop j) sj = takeAll n (l.drop (j + 1)) (takeP n (gti l j) sj)) := Lib.hid (by rw [drop_gti hlt]; rfl)
      obtain ⟨bi, oi, rfl, _, _, hci2⟩ := RdI.at1 M.out.2.2.2.1 hlt
      obtain ⟨kk, hkk⟩ : ∃ k : Nat, gti l j = k := ⟨(gti l j).toNat, by omega⟩
      rw [hkk] at HD hci2 hkr
      clear hkk
      have hkt : kk < n.trans.length := by omega
      have HTC := Lib.hid (take_any n sj kk g gm np cm a0 a1 lo hi vt vrj wr M.out.2.2.2.2.1 HVAL.out hkt HPM.out.pt (by have := HSM.out.p; omega) (by have := HSM.out.c; omega) (by have := HSM.out.l; omega) HNP.out ⟨M.out.1, M.out.2.1, M.out.2.2.1, True.intro⟩ hg (by omega) (by omega) h1 h2 (by omega) ha1 ha0)
      have HPn := Lib.hid (HPM.out.take HVAL.out hkr.1 hkr.2)
      have HSn := Lib.hid (HSM.out.take HVAL.out hkt)
      have hsw := M.out.2.2.2.2.2.1.size
      go_wp2_with (go_at_call 75; refine HTC.out.mono ?_; rintro e w1 ⟨vr2, b0, b1, rfl, hM2, hbb, hb0, hb1, hch⟩; have M2 : Hid (Mem [Loc.pb (plA n (vt) (.slice (some ⟨gm, 0, none⟩) np cm) (takeP n kk sj).c vr2 (takeP n kk sj).big) g, Loc.owI gm (gm + 1) (.slice (some ⟨gm, 0, none⟩) np cm) (takeP n kk sj).m, Loc.owI b0 b1 vr2 (takeP n kk sj).run, Loc.rdI lw hw (.slice (some ⟨bi, oi, none⟩) l.length c) l, Loc.rdT lo hi vt n.trans, Loc.cg (plD g gm r0 r1) w] w1) := Lib.hid ⟨hM2.1, hM2.2.1, hM2.2.2.1, Mem.chg hch M.out.2.2.2 (by (repeat' (first | exact True.intro | refine And.intro (fun k hk e => ?_) ?_)) <;> (first | exact e | ((try dsimp only [Loc.c1, Loc.c2, Loc.k1, Loc.k2, Loc.k3, Loc.k4, Loc.k6, Loc.fr, Loc.bl, Loc.own, Loc.sz, Loc.rd, Loc.rdI, Loc.rdS, Loc.rdM, Loc.rdT, Loc.ow, Loc.owI, Loc.owN, Loc.set, Loc.ns, Loc.cg, Loc.pb, silD, plD] at hk e) <;> omega)))⟩; have hs2 := hch.size; clear hM2 hch)
      refine ⟨⟨j + 1, takeP n kk sj, vr2, b0, b1, by omega, by go_num, Lib.hid (HD.out ▸ HT.out), HPn, HSn, Lib.hid (by have h1 := HPn.out.len; have h2 := HPM.out.len; have h3 := HNP.out; omega), by omega, hb0, hb1, M2⟩, by simp [intOf]; omega⟩
    · obtain rfl : j = l.length := by omega
      have HT1 : Hid (sj = takeAll n l s) := Lib.hid (by have := HT.out; rw [List.drop_length] at this; exact this)
      go_wp2_with fail
      go_end0
      refine HR.out _ _ ⟨vrj, a0, a1, rfl, ?_, haa, ha0, ha1, M.out.2.2.2.2.2.1⟩
      rw [← HT1.out]
      exact ⟨M.out.1, M.out.2.1, M.out.2.2.1, True.intro⟩
end Go.Proofs.Ytmhbfoaecebobaa
end
section
namespace Go.Proofs.Ytmhbfoaecebobaa
set_option linter.unusedSimpArgs false
set_option linter.unusedVariables false
open Go.RowKit
theorem firstAt_lt {α : Type} {p : α → Bool} {l : List α} (h : 0 ≤ firstAt p l) : firstAt p l < l.length := by
  unfold firstAt at h ⊢
  split
  · rename_i i hi
    obtain ⟨hlt, _⟩ := List.findIdx?_eq_some_iff_getElem.1 hi
    first | omega | (simp only; omega) | (show (i : Int) < l.length; omega)
  · rename_i hn; rw [hn] at h; exact absurd h (by simp)
theorem Sm.mono {s : Pl} {B B' : Nat} (h : Sm s B) (hb : B ≤ B') : Sm s B' := ⟨by have := h.p; omega, by have := h.c; omega, by have := h.r; omega, by have := h.l; omega⟩
theorem runTo_rg {n : Net} : ∀ {l m m' : List Int}, runTo n m l = some m' → ∀ t ∈ l, 0 ≤ t ∧ t < n.trans.length
  | [], m, m', _, t, ht => by simp at ht
  | a :: l, m, m', h, t, ht => by
    rw [runTo] at h
    split at h
    · rename_i hc
      rcases List.mem_cons.1 ht with rfl | ht
      · exact ⟨hc.1, hc.2.1⟩
      · exact runTo_rg h t ht
    · cases h
def plUnk (s : Pl) : Pl := ⟨s.m, ⟨s.c.p + 1, s.c.c + 1, s.c.m + 1, s.c.r + 1⟩, s.run, s.big⟩
theorem PM.unk {n : Net} {s : Pl} (h : PM n s) : PM n (plUnk s) :=
  ⟨h.len, h.nn, h.ok, by have := h.c0; simp only [plUnk]; omega, by have := h.mc; simp only [plUnk]; omega, by have := h.r0; simp only [plUnk]; omega, by have := h.bal; simp only [plUnk]; omega, h.rg⟩
theorem Sm.unk {s : Pl} {B : Nat} (h : Sm s B) : Sm (plUnk s) (B + 1) :=
  ⟨by have := h.p; simp only [plUnk]; omega, by have := h.c; simp only [plUnk]; omega, by have := h.r; simp only [plUnk]; omega, by have := h.l; simp only [plUnk]; omega⟩
theorem play_pm {n : Net} {act : ByteArray} {s : Pl} {B : Nat} (hv : zbc n = true) (h : PM n s) (hb : s.big = false) (hs : Sm s B) : PM n (playE n act s) ∧ Sm (playE n act s) (B + 200) := by
  unfold playE
  cases hw : silE n (goodA n act) s.m with
  | some way =>
    obtain ⟨m', h1, h2, h3, h4⟩ := silE_some (h.ok hb) hw
    obtain ⟨a1, a2, a3, a4, a5⟩ := takeAll_run hv h hb h1
    have hg : 0 ≤ enabledAt n (takeAll n way s).m act := by rw [a2]; unfold goodA at h2; simpa using h2
    have hlt := firstAt_lt hg
    obtain ⟨k, hk⟩ : ∃ k : Nat, enabledAt n (takeAll n way s).m act = k := ⟨(enabledAt n (takeAll n way s).m act).toNat, by omega⟩
    have hkl : k < n.trans.length := by unfold enabledAt at hk; omega
    simp only
    rw [hk]
    exact ⟨a1.take hv (by omega) (by omega), ((Sm.all hv hs (runTo_rg h1)).take hv hkl).mono (by omega)⟩
  | none =>
    simp only
    split
    · rename_i hl
      have hlt := firstAt_lt hl
      obtain ⟨k, hk⟩ : ∃ k : Nat, labAt n act = k := ⟨(labAt n act).toNat, by omega⟩
      have hkl : k < n.trans.length := by unfold labAt at hk; omega
      rw [hk]
      exact ⟨h.take hv (by omega) (by omega), (hs.take hv hkl).mono (by omega)⟩
    · exact ⟨h.unk, hs.unk.mono (by omega)⟩
set_option maxRecDepth 100000 in
set_option maxHeartbeats 4000000 in
theorem play_any (n : Net) (act : ByteArray) (s : Pl) (B g gm np cm r0 r1 lo hi : Nat) (vt vr : Value) (w : World) (hv : RdT w lo hi vt n.trans) (hval : zbc n = true) (hpm : PM n s) (hbig : s.big = false) (hsm : Sm s B) (hB : B ≤ 800000)
    (hnp : s.m.length = np) (hM : Mem [Loc.pb (plA n (vt) (.slice (some ⟨gm, 0, none⟩) np cm) (s).c vr (s).big) g, Loc.owI gm (gm + 1) (.slice (some ⟨gm, 0, none⟩) np cm) (s).m, Loc.owI r0 r1 vr (s).run] w) (hg : g ≠ gm) (hgr : g < r0 ∨ r1 ≤ g) (hmr : gm < r0 ∨ r1 ≤ gm) (h1 : hi ≤ g) (h2 : hi ≤ gm) (h3 : hi ≤ r0) (h4 : r1 ≤ w.heap.size) (h5 : r0 ≤ w.heap.size) :
    Calls Try.prog 30 #[.pointer (some ⟨g, 0, none⟩), .string act] w fun e w' => ∃ vr' r0' r1', e = .returned (.tuple #[]) ∧ Mem [Loc.pb (plA n (vt) (.slice (some ⟨gm, 0, none⟩) np cm) (playE n act s).c vr' (playE n act s).big) g, Loc.owI gm (gm + 1) (.slice (some ⟨gm, 0, none⟩) np cm) (playE n act s).m, Loc.owI r0' r1' vr' (playE n act s).run] w' ∧ (r0' = r0 ∧ r1' = r1 ∨ w.heap.size ≤ r0') ∧ r0' ≤ w'.heap.size ∧ r1' ≤ w'.heap.size ∧ Chg (plD g gm r0 r1) w w' := by
  have hmark := hpm.ok hbig
  have hgw : g < w.heap.size := PB.lt hM.1
  have hgmw : gm < w.heap.size := by
    have hnz := za8 hval
    have hln := hpm.len
    obtain ⟨g', cap, hv', _, h5, h6⟩ := Own.blk hM.2.1 (by omega)
    injection hv' with hv' _ _
    injection hv' with hv'
    injection hv' with hv' _ _
    omega
  have hb0 : Below w.heap.size w ((w.alloc (.cells #[.pointer (some ⟨g, 0, none⟩)] 68)).alloc (.cells #[.string act] 9)) := ((Below.refl _ _).alloc (Nat.le_refl _) _).alloc (by simp) _
  have M : Hid (Mem [Loc.pb (plA n (vt) (.slice (some ⟨gm, 0, none⟩) np cm) (s).c vr (s).big) g, Loc.owI gm (gm + 1) (.slice (some ⟨gm, 0, none⟩) np cm) (s).m, Loc.owI r0 r1 vr (s).run, Loc.c1 w.heap.size 0 (.pointer (some ⟨g, 0, none⟩)), Loc.c1 (w.heap.size + 1) 0 (.string act), Loc.rdT lo hi vt n.trans, Loc.cg (plD g gm r0 r1) w] ((w.alloc (.cells #[.pointer (some ⟨g, 0, none⟩)] 68)).alloc (.cells #[.string act] 9))) := Lib.hid (by
    have hal := hM.below hb0
    exact ⟨hal.1, hal.2.1, hal.2.2.1, by simp [C1, go_sem], by simp [C1, go_sem], hv.after hb0, ⟨hb0.os, hb0.tape, hb0.output, hb0.size, fun k hk _ => hb0.block k hk⟩, True.intro⟩)
  have HSI : Hid (∀ W, Mem [Loc.pb (plA n (vt) (.slice (some ⟨gm, 0, none⟩) np cm) (s).c vr (s).big) g, Loc.owI gm (gm + 1) (.slice (some ⟨gm, 0, none⟩) np cm) (s).m, Loc.owI r0 r1 vr (s).run, Loc.c1 w.heap.size 0 (.pointer (some ⟨g, 0, none⟩)), Loc.c1 (w.heap.size + 1) 0 (.string act), Loc.rdT lo hi vt n.trans, Loc.cg (plD g gm r0 r1) w] W → Calls Try.prog 71 #[netV n vt, .slice (some ⟨gm, 0, none⟩) np cm, .func (.func 72) #[] #[.pointer (some ⟨w.heap.size, 0, none⟩), .pointer (some ⟨w.heap.size + 1, 0, none⟩)]] W (RetW W (silE n (goodA n act) s.m))) :=
    Lib.hid (fun W hW => silent_any n s.m vt _ lo hi gm (gm + 1) 72 ent_play1 #[.pointer (some ⟨w.heap.size, 0, none⟩), .pointer (some ⟨w.heap.size + 1, 0, none⟩)] (goodA n act) W hW.2.2.2.2.2.1 (Own.rd hW.2.1) hmark (by have := hW.2.2.2.2.2.2.1.size; omega)
      (fun x lo2 hi2 v W2 hx hb2 hr2 => play1_any n x act g _ _ lo hi lo2 hi2 vt v W2 (cell_aft hb2 hW.2.2.2.1) (cell_aft hb2 hW.2.2.2.2.1) (cell_aft hb2 (PB.k11 hW.1).2.1) (hW.2.2.2.2.2.1.after hb2) hr2 (InOk.of hval (markB_len hx).2.2)))
  have HVAL := Lib.hid hval
  have HPM := Lib.hid hpm
  have HSM := Lib.hid hsm
  have HNP := Lib.hid hnp
  have HMK := Lib.hid hmark
  have HBG := Lib.hid hbig
  obtain ⟨A, c, rfl, hc, hmm⟩ := hv.form
  clear hM hv hval hpm hsm hnp hmark hbig hb0
  refine zax fun R hR => ?_
  have HR := Lib.hid hR
  clear hR
  go_enter Try.func30, Try.ntmps30
  cases hsil : silE n (goodA n act) s.m with
  | some way =>
    rw [hsil] at HSI
    have HW := Lib.hid (silE_some HMK.out hsil)
    have hk11 := PB.k11 M.out.1
    have hc1 := M.out.2.2.2.1
    have hc2 := M.out.2.2.2.2.1
    go_wp2_with fail
    go_region_held3 (fun W => C1 W w.heap.size 0 (.pointer (some ⟨g, 0, none⟩)) ∧ K11 W g (.int .i64 n.places) (.slice A n.trans.length c) (.int .i64 n.source) (.int .i64 n.sink) (.slice (some ⟨gm, 0, none⟩) np cm) (.int .i64 s.c.p) (.int .i64 s.c.c) (.int .i64 s.c.m) (.int .i64 s.c.r) vr (.bool s.big)) (exact ⟨hc1, hk11⟩) (first
      | (go_at_call 71; refine (HSI.out _ (by first | exact M.out | exact M.out.drew)).mono ?_; rintro e w6 ⟨A6, c6, rfl, hr6, hb6⟩; have HR6 := Lib.hid (hr6.mono (lo' := w.heap.size + 2) (by simp [heap_drew]) (Nat.le_refl _)); have hz6 := hb6.size; simp only [World.size_alloc, heap_drew] at hz6; replace M := Lib.hid (Mem.below (by first | exact M.out | exact M.out.drew) hb6); clear hb6 hr6; replace hk11 := PB.k11 M.out.1; replace hc1 := M.out.2.2.2.1; replace hc2 := M.out.2.2.2.2.1))
    obtain ⟨m', hr1, hr2, hr3, hr4⟩ := HW.out
    have hta := takeAll_run HVAL.out HPM.out HBG.out hr1
    have hsa := Sm.all HVAL.out HSM.out (runTo_rg hr1)
    have HRG := Lib.hid (runTo_rg hr1)
    have HPE : Hid (playE n act s = takeP n (enabledAt n (takeAll n way s).m act) (takeAll n way s)) := Lib.hid (by unfold playE; rw [hsil])
    obtain ⟨sA, hsA⟩ : ∃ y, takeAll n way s = y := ⟨_, rfl⟩
    rw [hsA] at hta hsa HPE
    have HSA := Lib.hid hsA
    have hge : 0 ≤ enabledAt n sA.m act := by rw [hta.2.1]; unfold goodA at hr2; simpa using hr2
    have hlt := firstAt_lt hge
    obtain ⟨k, hk⟩ : ∃ k : Nat, enabledAt n sA.m act = k := ⟨(enabledAt n sA.m act).toNat, by omega⟩
    have hkt : k < n.trans.length := by unfold enabledAt at hk; omega
    rw [hk] at HPE
    have HK := Lib.hid hk
    have HTA := Lib.hid hta
    have HSMA := Lib.hid hsa
    have hnpa : (sA.m.length : Int) = np := by have h1 := hta.1.len; have h2 := HPM.out.len; have h3 := HNP.out; omega
    have HNPA : Hid (sA.m.length = np) := Lib.hid (by omega)
    clear hsA hge hlt hk hta hsa hr1 hr2 hr3 hnpa
    have hr4 : way.length ≤ 200 := by omega
    go_wp2_with (first
      | (go_at_call 74; refine (takeAll_any n s way B g gm np cm r0 r1 lo hi (w.heap.size + 2) w6.heap.size _ vr _ _ M.out.2.2.2.2.2.1 HVAL.out HRG.out HPM.out HSM.out (by omega) HNP.out ⟨M.out.1, M.out.2.1, M.out.2.2.1, True.intro⟩ hg hgr hmr h1 h2 h3 (by have := M.out.2.2.2.2.2.2.1.size; omega) (by have := M.out.2.2.2.2.2.2.1.size; omega) HR6.out (by omega) (by omega) (by omega) (Nat.le_refl _)).mono ?_; rintro e w7 ⟨vr2, b0, b1, rfl, hM2, hbb, hb0, hb1, hch⟩; rw [HSA.out] at hM2; have M2 : Hid (Mem [Loc.pb (plA n (.slice A n.trans.length c) (.slice (some ⟨gm, 0, none⟩) np cm) (sA).c vr2 (sA).big) g, Loc.owI gm (gm + 1) (.slice (some ⟨gm, 0, none⟩) np cm) (sA).m, Loc.owI b0 b1 vr2 (sA).run, Loc.c1 w.heap.size 0 (.pointer (some ⟨g, 0, none⟩)), Loc.c1 (w.heap.size + 1) 0 (.string act), Loc.rdT lo hi (.slice A n.trans.length c) n.trans, Loc.cg (plD g gm r0 r1) w] w7) := Lib.hid ⟨hM2.1, hM2.2.1, hM2.2.2.1, Mem.chg hch M.out.2.2.2 (by (repeat' (first | exact True.intro | refine And.intro (fun k hk e => ?_) ?_)) <;> (first | exact e | ((try dsimp only [Loc.c1, Loc.c2, Loc.k1, Loc.k2, Loc.k3, Loc.k4, Loc.k6, Loc.fr, Loc.bl, Loc.own, Loc.sz, Loc.rd, Loc.rdI, Loc.rdS, Loc.rdM, Loc.rdT, Loc.ow, Loc.owI, Loc.owN, Loc.set, Loc.ns, Loc.cg, Loc.pb, silD, plD] at hk e) <;> omega)))⟩; have hs7 := hch.size; have hs6 := M.out.2.2.2.2.2.2.1.size; clear hM2 hch M; replace hk11 := PB.k11 M2.out.1; replace hc1 := M2.out.2.2.2.1; replace hc2 := M2.out.2.2.2.2.1))
    have hc4 := hk11.2.2.2.2.1
    go_region_held3 (fun W => C1 W w.heap.size 0 (.pointer (some ⟨g, 0, none⟩)) ∧ C1 W (w.heap.size + 1) 0 (.string act) ∧ C1 W g 4 (.slice (some ⟨gm, 0, none⟩) np cm)) (exact ⟨hc1, hc2, hc4⟩) (first
      | (go_at_call 73; refine (enabledP_any n sA.m act g lo hi gm (gm + 1) _ _ _ (by first | exact (PB.k11 M2.out.1).2.1 | exact (PB.k11 M2.out.drew.1).2.1) (by first | exact M2.out.2.2.2.2.2.1 | exact M2.out.drew.2.2.2.2.2.1) (by first | exact Own.rd M2.out.2.1 | exact Own.rd M2.out.drew.2.1) (InOk.of HVAL.out HTA.out.1.len)).mono ?_; rw [HK.out]; rintro e w8 ⟨rfl, hb8⟩; have hs8 : w7.heap.size ≤ w8.heap.size := hb8.size; replace M2 := Lib.hid (Mem.below (by first | exact M2.out | exact M2.out.drew) hb8); clear hb8; replace hc1 := M2.out.2.2.2.1; replace hc2 := M2.out.2.2.2.2.1; replace hc4 := (PB.k11 M2.out.1).2.2.2.2.1)
      | (go_at_call 75; refine (take_any n sA k g gm np cm b0 b1 lo hi _ vr2 _ (by first | exact M2.out.2.2.2.2.2.1 | exact M2.out.drew.2.2.2.2.2.1) HVAL.out hkt HTA.out.1.pt (by have := HSMA.out.p; omega) (by have := HSMA.out.c; omega) (by have := HSMA.out.l; omega) HNPA.out (by first | exact ⟨M2.out.1, M2.out.2.1, M2.out.2.2.1, True.intro⟩ | exact ⟨M2.out.drew.1, M2.out.drew.2.1, M2.out.drew.2.2.1, True.intro⟩) hg (by omega) (by omega) h1 h2 (by omega) (by first | omega | (simp; done) | (simp; omega)) (by first | omega | (simp; done) | (simp; omega))).mono ?_; rintro e w9 ⟨vr3, d0, d1, rfl, hM3, hdd, hd0, hd1, hch⟩; have M3 : Hid (Mem [Loc.pb (plA n (.slice A n.trans.length c) (.slice (some ⟨gm, 0, none⟩) np cm) (takeP n k sA).c vr3 (takeP n k sA).big) g, Loc.owI gm (gm + 1) (.slice (some ⟨gm, 0, none⟩) np cm) (takeP n k sA).m, Loc.owI d0 d1 vr3 (takeP n k sA).run, Loc.c1 w.heap.size 0 (.pointer (some ⟨g, 0, none⟩)), Loc.c1 (w.heap.size + 1) 0 (.string act), Loc.rdT lo hi (.slice A n.trans.length c) n.trans, Loc.cg (plD g gm r0 r1) w] w9) := Lib.hid ⟨hM3.1, hM3.2.1, hM3.2.2.1, Mem.chg hch (by first | exact M2.out.2.2.2 | exact M2.out.drew.2.2.2) (by (repeat' (first | exact True.intro | refine And.intro (fun k hk e => ?_) ?_)) <;> (first | exact e | ((try dsimp only [Loc.c1, Loc.c2, Loc.k1, Loc.k2, Loc.k3, Loc.k4, Loc.k6, Loc.fr, Loc.bl, Loc.own, Loc.sz, Loc.rd, Loc.rdI, Loc.rdS, Loc.rdM, Loc.rdT, Loc.ow, Loc.owI, Loc.owN, Loc.set, Loc.ns, Loc.cg, Loc.pb, silD, plD] at hk e) <;> omega)))⟩; have hs9 := hch.size; clear hM3 hch M2; replace hc1 := M3.out.2.2.2.1; replace hc2 := M3.out.2.2.2.2.1; replace hc4 := (PB.k11 M3.out.1).2.2.2.2.1))
    go_wp2_with fail
    first | go_end0 | refine bodyPost_ret (results_none rfl _ _ _) rfl ?_
    refine HR.out _ _ ⟨vr3, d0, d1, rfl, ?_, by omega, hd0, hd1, M3.out.2.2.2.2.2.2.1⟩
    rw [HPE.out]
    exact ⟨M3.out.1, M3.out.2.1, M3.out.2.2.1, True.intro⟩
  | none =>
    rw [hsil] at HSI
    have HIX : Hid (∀ W, Mem [Loc.pb (plA n (.slice A n.trans.length c) (.slice (some ⟨gm, 0, none⟩) np cm) (s).c vr (s).big) g, Loc.owI gm (gm + 1) (.slice (some ⟨gm, 0, none⟩) np cm) (s).m, Loc.owI r0 r1 vr (s).run, Loc.c1 w.heap.size 0 (.pointer (some ⟨g, 0, none⟩)), Loc.c1 (w.heap.size + 1) 0 (.string act), Loc.rdT lo hi (.slice A n.trans.length c) n.trans, Loc.cg (plD g gm r0 r1) w] W → Calls Try.prog 65 #[.slice A n.trans.length c, .func (.func 76) #[] #[.pointer (some ⟨w.heap.size + 1, 0, none⟩)]] W fun e W' => e = .returned (.int .i64 (labAt n act)) ∧ Below W.heap.size W W') :=
      Lib.hid (fun W hW => indexFT_any 76 ent_play2 #[.pointer (some ⟨w.heap.size + 1, 0, none⟩)] (labB act) n.trans lo hi _ W hW.2.2.2.2.2.1
        (fun k hk vi vo W' hW' hvi hvo => play2_any (gti n.trans k) vi vo act _ W' (cell_aft hW' hW.2.2.2.2.1) (by obtain ⟨a, b, h, _⟩ := hvi.form; exact ⟨_, _, _, h⟩) (by obtain ⟨a, b, h, _⟩ := hvo.form; exact ⟨_, _, _, h⟩)))
    have HPE : Hid (playE n act s = if 0 ≤ labAt n act then takeP n (labAt n act) s else plUnk s) := Lib.hid (by unfold playE; rw [hsil]; rfl)
    have hfl := firstAt_lt (p := labB act) (l := n.trans)
    obtain ⟨L, hL⟩ : ∃ L, labAt n act = L := ⟨_, rfl⟩
    rw [hL] at HIX HPE
    unfold labAt at hL
    rw [hL] at hfl
    clear hL hsil
    have hk11 := PB.k11 M.out.1
    have hc1 := M.out.2.2.2.1
    have hc2 := M.out.2.2.2.2.1
    go_wp2_with fail
    go_region_held3 (fun W => C1 W w.heap.size 0 (.pointer (some ⟨g, 0, none⟩)) ∧ K11 W g (.int .i64 n.places) (.slice A n.trans.length c) (.int .i64 n.source) (.int .i64 n.sink) (.slice (some ⟨gm, 0, none⟩) np cm) (.int .i64 s.c.p) (.int .i64 s.c.c) (.int .i64 s.c.m) (.int .i64 s.c.r) vr (.bool s.big)) (exact ⟨hc1, hk11⟩) (first
      | (go_at_call 71; refine (HSI.out _ (by first | exact M.out | exact M.out.drew)).mono ?_; rintro e w6 ⟨A6, c6, rfl, hr6, hb6⟩; have HR6 := Lib.hid (hr6.mono (lo' := w.heap.size + 2) (by simp [heap_drew]) (Nat.le_refl _)); have hz6 := hb6.size; simp only [World.size_alloc, heap_drew] at hz6; replace M := Lib.hid (Mem.below (by first | exact M.out | exact M.out.drew) hb6); clear hb6 hr6; replace hk11 := PB.k11 M.out.1; replace hc1 := M.out.2.2.2.1; replace hc2 := M.out.2.2.2.2.1))
    by_cases hlab : 0 ≤ L
    · obtain ⟨k, rfl⟩ : ∃ k : Nat, L = k := ⟨L.toNat, by omega⟩
      have hkt : k < n.trans.length := by have := hfl hlab; omega
      rw [if_pos hlab] at HPE
      clear hlab hfl
      go_wp2_with (first
        | (go_at_call 65; refine (HIX.out _ M.out).mono ?_; rintro e w7 ⟨rfl, hb7⟩; have hs7 := hb7.size; replace M := Lib.hid (M.out.below hb7); clear hb7; replace hk11 := PB.k11 M.out.1; replace hc1 := M.out.2.2.2.1; replace hc2 := M.out.2.2.2.2.1)
        | (go_at_call 75; refine (take_any n s k g gm np cm r0 r1 lo hi _ vr _ M.out.2.2.2.2.2.1 HVAL.out hkt HPM.out.pt (by have := HSM.out.p; omega) (by have := HSM.out.c; omega) (by have := HSM.out.l; omega) HNP.out ⟨M.out.1, M.out.2.1, M.out.2.2.1, True.intro⟩ hg hgr hmr h1 h2 h3 (by have := M.out.2.2.2.2.2.2.1.size; omega) (by have := M.out.2.2.2.2.2.2.1.size; omega)).mono ?_; rintro e w9 ⟨vr3, d0, d1, rfl, hM3, hdd, hd0, hd1, hch⟩; have hs8 := M.out.2.2.2.2.2.2.1.size; have M3 : Hid (Mem [Loc.pb (plA n (.slice A n.trans.length c) (.slice (some ⟨gm, 0, none⟩) np cm) (takeP n k s).c vr3 (takeP n k s).big) g, Loc.owI gm (gm + 1) (.slice (some ⟨gm, 0, none⟩) np cm) (takeP n k s).m, Loc.owI d0 d1 vr3 (takeP n k s).run, Loc.c1 w.heap.size 0 (.pointer (some ⟨g, 0, none⟩)), Loc.c1 (w.heap.size + 1) 0 (.string act), Loc.rdT lo hi (.slice A n.trans.length c) n.trans, Loc.cg (plD g gm r0 r1) w] w9) := Lib.hid ⟨hM3.1, hM3.2.1, hM3.2.2.1, Mem.chg hch M.out.2.2.2 (by (repeat' (first | exact True.intro | refine And.intro (fun k hk e => ?_) ?_)) <;> (first | exact e | ((try dsimp only [Loc.c1, Loc.c2, Loc.k1, Loc.k2, Loc.k3, Loc.k4, Loc.k6, Loc.fr, Loc.bl, Loc.own, Loc.sz, Loc.rd, Loc.rdI, Loc.rdS, Loc.rdM, Loc.rdT, Loc.ow, Loc.owI, Loc.owN, Loc.set, Loc.ns, Loc.cg, Loc.pb, silD, plD] at hk e) <;> omega)))⟩; have hs9 := hch.size; clear hM3 hch M))
      first | go_end0 | refine bodyPost_ret (results_none rfl _ _ _) rfl ?_
      refine HR.out _ _ ⟨vr3, d0, d1, rfl, ?_, by omega, hd0, hd1, M3.out.2.2.2.2.2.2.1⟩
      rw [HPE.out]
      exact ⟨M3.out.1, M3.out.2.1, M3.out.2.2.1, True.intro⟩
    · rw [if_neg hlab] at HPE
      clear hfl
      have hp0 := HPM.out.c_ge
      have hr0 := HPM.out.r0
      have hmc := HPM.out.mc
      have hbp := HSM.out.p
      have hbc := HSM.out.c
      have hbr := HSM.out.r
      have hq : 0 ≤ s.c.p ∧ s.c.p ≤ 1000000000 ∧ 0 ≤ s.c.c ∧ s.c.c ≤ 1000000000 ∧ 0 ≤ s.c.m ∧ s.c.m ≤ 1000000000 ∧ 0 ≤ s.c.r ∧ s.c.r ≤ 1000000000 := by omega
      clear hp0 hr0 hmc hbp hbc hbr
      obtain ⟨e1, e2, e3, e4, e5, e6, e7, e8⟩ := hq
      go_wp2_with (first
        | (go_at_call 65; refine (HIX.out _ M.out).mono ?_; rintro e w7 ⟨rfl, hb7⟩; have hs7 := hb7.size; replace M := Lib.hid (M.out.below hb7); clear hb7; replace hk11 := PB.k11 M.out.1; replace hc1 := M.out.2.2.2.1; replace hc2 := M.out.2.2.2.2.1))
      have M1 := Mem.step (a' := Loc.pb (plA n (.slice A n.trans.length c) (.slice (some ⟨gm, 0, none⟩) np cm) ⟨s.c.p + 1, s.c.c, s.c.m, s.c.r⟩ vr s.big) g) M.out (PB.set M.out.1 5 (.int .i64 (s.c.p + 1)) rfl) (Chg.set _ g 5 _) (by (repeat' (first | exact True.intro | refine And.intro (fun k hk e => ?_) ?_)) <;> (first | exact e | ((try dsimp only [Loc.c1, Loc.c2, Loc.k1, Loc.k2, Loc.k3, Loc.k4, Loc.k6, Loc.fr, Loc.bl, Loc.own, Loc.sz, Loc.rd, Loc.rdI, Loc.rdS, Loc.rdM, Loc.rdT, Loc.ow, Loc.owI, Loc.owN, Loc.set, Loc.ns, Loc.cg, Loc.pb, silD, plD] at hk e) <;> omega)))
      have M2 := Mem.step (a' := Loc.pb (plA n (.slice A n.trans.length c) (.slice (some ⟨gm, 0, none⟩) np cm) ⟨s.c.p + 1, s.c.c + 1, s.c.m, s.c.r⟩ vr s.big) g) M1 (PB.set M1.1 6 (.int .i64 (s.c.c + 1)) rfl) (Chg.set _ g 6 _) (by (repeat' (first | exact True.intro | refine And.intro (fun k hk e => ?_) ?_)) <;> (first | exact e | ((try dsimp only [Loc.c1, Loc.c2, Loc.k1, Loc.k2, Loc.k3, Loc.k4, Loc.k6, Loc.fr, Loc.bl, Loc.own, Loc.sz, Loc.rd, Loc.rdI, Loc.rdS, Loc.rdM, Loc.rdT, Loc.ow, Loc.owI, Loc.owN, Loc.set, Loc.ns, Loc.cg, Loc.pb, silD, plD] at hk e) <;> omega)))
      have M3 := Mem.step (a' := Loc.pb (plA n (.slice A n.trans.length c) (.slice (some ⟨gm, 0, none⟩) np cm) ⟨s.c.p + 1, s.c.c + 1, s.c.m + 1, s.c.r⟩ vr s.big) g) M2 (PB.set M2.1 7 (.int .i64 (s.c.m + 1)) rfl) (Chg.set _ g 7 _) (by (repeat' (first | exact True.intro | refine And.intro (fun k hk e => ?_) ?_)) <;> (first | exact e | ((try dsimp only [Loc.c1, Loc.c2, Loc.k1, Loc.k2, Loc.k3, Loc.k4, Loc.k6, Loc.fr, Loc.bl, Loc.own, Loc.sz, Loc.rd, Loc.rdI, Loc.rdS, Loc.rdM, Loc.rdT, Loc.ow, Loc.owI, Loc.owN, Loc.set, Loc.ns, Loc.cg, Loc.pb, silD, plD] at hk e) <;> omega)))
      have M4 := Mem.step (a' := Loc.pb (plA n (.slice A n.trans.length c) (.slice (some ⟨gm, 0, none⟩) np cm) ⟨s.c.p + 1, s.c.c + 1, s.c.m + 1, s.c.r + 1⟩ vr s.big) g) M3 (PB.set M3.1 8 (.int .i64 (s.c.r + 1)) rfl) (Chg.set _ g 8 _) (by (repeat' (first | exact True.intro | refine And.intro (fun k hk e => ?_) ?_)) <;> (first | exact e | ((try dsimp only [Loc.c1, Loc.c2, Loc.k1, Loc.k2, Loc.k3, Loc.k4, Loc.k6, Loc.fr, Loc.bl, Loc.own, Loc.sz, Loc.rd, Loc.rdI, Loc.rdS, Loc.rdM, Loc.rdT, Loc.ow, Loc.owI, Loc.owN, Loc.set, Loc.ns, Loc.cg, Loc.pb, silD, plD] at hk e) <;> omega)))
      first | go_end0 | refine bodyPost_ret (results_none rfl _ _ _) rfl ?_
      refine HR.out _ _ ⟨vr, r0, r1, rfl, ?_, .inl ⟨rfl, rfl⟩, ?_, ?_, M4.2.2.2.2.2.2.1⟩
      · rw [HPE.out]
        exact ⟨M4.1, M4.2.1, M4.2.2.1, True.intro⟩
      · have := M4.2.2.2.2.2.2.1.size; omega
      · have := M4.2.2.2.2.2.2.1.size; omega
end Go.Proofs.Ytmhbfoaecebobaa
end
