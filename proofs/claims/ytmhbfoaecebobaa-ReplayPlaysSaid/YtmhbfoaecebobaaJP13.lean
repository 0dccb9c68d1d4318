/-
  Texts joined: Key2, Named, RepP, PlP, Set, Set2. Conditions: none.
-/
import Derived.Test.YtmhbfoaecebobaaJP12
import Derived.Test.YtmhbfoaecebobaaJP9
import Derived.Test.YtmhbfoaecebobaaJP11
import Derived.Maps.Own
import Derived.Maps.Views
section
namespace Go.Proofs.Ytmhbfoaecebobaa
set_option linter.unusedSimpArgs false
set_option linter.unusedVariables false
open Go.RowKit

theorem heap_newK (w : World) (o : Obj) : (w.alloc o).heap[w.heap.size]? = some o := by
  show (w.heap.push o)[w.heap.size]? = some o
  simp
/-- the bytes of numbers from 0 to 255 -/
def keyL (m : List Int) : List UInt8 := m.flatMap fun n => [UInt8.ofNat n.toNat, 0]
theorem keyL_snoc (m : List Int) (n : Int) : keyL (m ++ [n]) = keyL m ++ [UInt8.ofNat n.toNat] ++ [0] := by simp [keyL]
theorem keyL_len (m : List Int) : (keyL m).length = 2 * m.length := by
  induction m with
  | nil => rfl
  | cons a m ih =>
    have : keyL (a :: m) = [UInt8.ofNat a.toNat, 0] ++ keyL m := rfl
    rw [this, List.length_append, ih]
    simp
    omega
theorem byte_of {n : Int} (h0 : 0 ≤ n) (h1 : n ≤ 255) : ((UInt8.ofNat n.toNat).toNat : Int) = n := by
  rw [UInt8.toNat_ofNat', Nat.mod_eq_of_lt (by omega)]
  omega
set_option maxHeartbeats 2000000 in
set_option maxRecDepth 100000 in
theorem key_any (m : List Int) (lo hi : Nat) (v : Value) (w : World) (hv : RdI w lo hi v m) (hm : ∀ x ∈ m, 0 ≤ x ∧ x ≤ 255) (hl : m.length ≤ 1000) (hne : m ≠ []) :
    Calls Try.prog 44 #[v] w fun e w' => e = .returned (.string ⟨(keyL m).toArray⟩) ∧ Below w.heap.size w w' := by
  obtain ⟨A, c, rfl, hc, hmm⟩ := hv.form
  have HV := Lib.hid hv
  have HM := Lib.hid hm
  clear hv hm
  have HB0 : Hid (Lib.IsBuilder 136 5 w.heap.size w.heap.size (Lib.byteCells (keyL (m.take 0))) (w.alloc (.cells #[.pointer none, .slice none 0 0] 136))) := Lib.hid (.inl ⟨Nat.le_refl _, .slice none 0 0, heap_newK w _, ⟨rfl, .inl ⟨rfl, rfl⟩⟩, by simp [Value.ownBlock]⟩)
  have HE : Hid (Below w.heap.size w (w.alloc (.cells #[.pointer none, .slice none 0 0] 136))) := Lib.hid ((Below.refl _ _).alloc (Nat.le_refl _) _)
  refine calls_cps fun R hR => ?_
  have HR := Lib.hid hR
  clear hR
  go_enter Try.func44, Try.ntmps44
  go_wp2_with fail
  go_loopw [8, 5] (fun v8 _ wr => ∃ k : Nat, k ≤ m.length ∧ v8 = .int .i64 k ∧ Hid (Lib.IsBuilder 136 5 w.heap.size w.heap.size (Lib.byteCells (keyL (m.take k))) wr) ∧ Hid (Below w.heap.size w wr)) (fun v8 _ _ => m.length - (intOf v8).toNat)
  case atStart => exact ⟨0, Nat.zero_le _, rfl, HB0, HE⟩
  case round =>
    clear HB0 HE
    obtain ⟨k, hk, rfl, HB, HE⟩ := hrel
    by_cases hlt : k < m.length
    · obtain ⟨b, off, rfl, _, _, hcell⟩ := RdI.at1 (HV.out.after HE.out) hlt
      obtain ⟨h0, h1⟩ := HM.out _ (List.mem_of_getElem? (gti_get hlt))
      have HBX : Hid (0 ≤ gti m k ∧ gti m k ≤ 255) := Lib.hid ⟨h0, h1⟩
      obtain ⟨x, hx⟩ : ∃ x, gti m k = x := ⟨_, rfl⟩
      have HGX := Lib.hid hx
      rw [hx] at hcell h0 h1
      clear hx
      go_wp2_with fail
      have HL : Hid ((Lib.byteCells (keyL (m.take k))).length ≤ 2000) := Lib.hid (by rw [Lib.byteCells_length, keyL_len, List.length_take]; omega)
      refine (writeByte_any _ _ _ x _ HB.out (by have := HL.out; omega) HE.out.size).mono ?_
      rintro e w1 ⟨rfl, hb1, hw1⟩
      have HB1 := Lib.hid hb1
      have HE1 := Lib.hid (HE.out.trans hw1)
      clear hb1 hw1
      have HX : Hid (x / 256 = 0) := Lib.hid (by omega)
      have HT : Hid (Lib.byteCells (keyL (m.take k)) ++ [.int .u8 x] ++ [.int .u8 0] = Lib.byteCells (keyL (m.take (k + 1)))) := Lib.hid (by
        rw [List.take_add_one, gti_get hlt]
        simp only [Option.toList]
        rw [keyL_snoc, HGX.out]
        simp only [Lib.byteCells, List.map_append, List.map_cons, List.map_nil]
        rw [byte_of h0 h1]
        rfl)
      go_wp2_with fail
      rw [HX.out]
      refine (writeByte_any _ _ _ 0 _ (.inr HB1.out) (by have := HL.out; simp; omega) HE1.out.size).mono ?_
      rintro e w2 ⟨rfl, hb2, hw2⟩
      rw [HT.out] at hb2
      have HB2 := Lib.hid hb2
      have HE2 := Lib.hid (HE1.out.trans hw2)
      clear hb2 hw2
      go_wp2_with fail
      exact ⟨⟨k + 1, by omega, by go_num, Lib.hid (.inr HB2.out), HE2⟩, by simp [intOf]; omega⟩
    · obtain rfl : k = m.length := by omega
      rw [List.take_length] at HB
      go_wp2_with (go_at_call 85; refine (bldString_any _ _ (keyL m) _ HB.out (by intro e; have := keyL_len m; rw [e] at this; simp at this; exact hne (List.eq_nil_of_length_eq_zero (by omega)))).mono ?_; rintro e w1 ⟨rfl, hb⟩; replace HE := Lib.hid (HE.out.trans hb); clear hb)
      exact HR.out _ _ ⟨rfl, HE.out⟩
end Go.Proofs.Ytmhbfoaecebobaa
end
section
namespace Go.Proofs.Ytmhbfoaecebobaa
set_option linter.unusedSimpArgs false
set_option linter.unusedVariables false
open Go.RowKit

def allN : List ByteArray → Bool
  | [] => true
  | a :: l => if nameB a then allN l else false
theorem allN_eq : ∀ l, allN l = l.all nameB
  | [] => rfl
  | a :: l => by rw [allN, allN_eq l, List.all_cons]; cases nameB a <;> rfl
set_option maxHeartbeats 1000000 in
theorem names_any (l : List ByteArray) (lo hi : Nat) (v : Value) (w : World) (hv : RdS w lo hi v l) :
    Calls Try.prog 78 #[v] w fun e w' => e = .returned (.bool (allN l)) ∧ Below w.heap.size w w' := by
  obtain ⟨A, c, rfl, hc, hm⟩ := hv.form
  have HV := Lib.hid hv
  clear hv
  have M : Hid (Mem [Loc.bl w.heap.size w] w) := Lib.hid ⟨⟨Below.refl _ _, Nat.le_refl _⟩, True.intro⟩
  refine calls_cps fun R hR => ?_
  have HR := Lib.hid hR
  clear hR
  go_enter Try.func78, Try.ntmps78
  go_wp2_with fail
  go_loopw [3] (fun v3 wr => ∃ k : Nat, k ≤ l.length ∧ v3 = .int .i64 k ∧ Hid (allN l = allN (l.drop k)) ∧ Hid (Mem [Loc.bl w.heap.size w] wr)) (fun v3 _ => l.length - (intOf v3).toNat)
  case atStart => exact ⟨0, by omega, rfl, Lib.hid rfl, M⟩
  case round =>
    clear M
    obtain ⟨k, hk, rfl, HI, M⟩ := hrel
    by_cases hlt : k < l.length
    · obtain ⟨b, off, rfl, _, _, hcell⟩ := RdS.at1 (HV.out.after M.out.1.1) hlt
      have HJ : Hid (allN l = if nameB (gti l k) then allN (l.drop (k + 1)) else false) := Lib.hid (by rw [HI.out, drop_gti hlt, allN])
      generalize gti l k = x at *
      go_wp2_with (go_at_call 87; refine (isName2_any _ _).mono ?_; rintro e w1 ⟨rfl, hb1⟩; replace M := Lib.hid (M.out.below hb1); clear hb1; skip)
      all_goals have hj := HJ.out
      all_goals first
        | ((with_reducible refine HR.out _ _ ⟨?_, ?_⟩) <;> first | exact ret_bool (by clear HJ HI; go_light; grind) | exact M.out.1.1)
        | (refine ⟨⟨k + 1, by omega, by go_num, Lib.hid (by clear HJ HI; go_light; grind), M⟩, by simp [intOf]; omega⟩)
    · obtain rfl : k = l.length := by omega
      have HE : Hid (allN l = true) := Lib.hid (by rw [HI.out]; simp [allN])
      clear HI
      go_wp2_with fail
      all_goals ((with_reducible refine HR.out _ _ ⟨?_, ?_⟩) <;> first | exact ret_bool (by rw [HE.out]) | exact M.out.1.1)

theorem ent_named1 : Ent 69 := ent_of Try.func69 (by kernel_rfl) rfl
set_option maxHeartbeats 400000 in
theorem named1_any (a : ByteArray) (w : World) : Calls Try.prog 69 #[.string a] w fun e w' => e = .returned (.bool (!nameB a)) ∧ Below w.heap.size w w' := by
  refine calls_cps fun R hR => ?_
  have HR := Lib.hid hR
  clear hR
  go_enter Try.func69, Try.ntmps69
  go_wp2_with fail
  refine (isName_any _ _).mono ?_
  rintro e w1 ⟨rfl, hb1⟩
  have HB1 := Lib.hid hb1
  clear hb1
  go_wp2
  exact HR.out _ _ ⟨rfl, HB1.out⟩
set_option maxHeartbeats 400000 in
theorem named_any (l : List ByteArray) (lo hi : Nat) (v : Value) (w : World) (hv : RdS w lo hi v l) :
    Calls Try.prog 28 #[v] w fun e w' => e = .returned (.bool (allN l)) ∧ Below w.heap.size w w' := by
  have HC := Lib.hid (containsFS_any 69 ent_named1 #[] (fun a => !nameB a) l lo hi v w hv (fun a _ W _ => named1_any a W))
  obtain ⟨A, c, rfl, hc, hm⟩ := hv.form
  clear hv
  refine calls_cps fun R hR => ?_
  have HR := Lib.hid hR
  clear hR
  go_enter Try.func28, Try.ntmps28
  go_wp2_with fail
  refine HC.out.mono ?_
  rintro e w1 ⟨rfl, hb1⟩
  have HB1 := Lib.hid hb1
  clear hb1
  go_wp2
  refine HR.out _ _ ⟨congrArg (fun b => Ending.returned (.bool b)) ?_, HB1.out⟩
  rw [allN_eq]
  simp [List.all_eq_not_any_not]
end Go.Proofs.Ytmhbfoaecebobaa
end
section
namespace Go.Proofs.Ytmhbfoaecebobaa
set_option linter.unusedSimpArgs false
set_option linter.unusedVariables false
open Go.RowKit

/-- something that was met: a number, a marking, the transitions that lead to it -/
structure Nd where
  k : Int
  m : List Int
  run : List Int
  deriving Inhabited
def silB (n : Net) (t : Nat) : Bool := (gti n.trans t).label.toList.isEmpty
def stepS (n : Net) (x : Nd) (q : List Nd) (t : Nat) : List Nd :=
  if silB n t = false ∨ q.length = 200 then q
  else if (FireE n x.m t).2 ≠ 0 ∨ (FireE n x.m t).1 ∈ q.map Nd.m then q
  else q ++ [⟨0, (FireE n x.m t).1, x.run ++ [(t : Int)]⟩]
def roundS (n : Net) (x : Nd) (q : List Nd) : Nat → List Nd
  | 0 => q
  | k + 1 => stepS n x (roundS n x q k) k
def srch (n : Net) (good : List Int → Bool) : Nat → Nat → List Nd → Option (List Int)
  | 0, _, _ => none
  | f + 1, i, q => if i < q.length then if good (gti q i).m then some (gti q i).run else srch n good f (i + 1) (roundS n (gti q i) q n.trans.length) else none
def silE (n : Net) (good : List Int → Bool) (m : List Int) : Option (List Int) := srch n good 201 0 [⟨0, m, []⟩]

def runTo (n : Net) : List Int → List Int → Option (List Int)
  | m, [] => some m
  | m, t :: l => if 0 ≤ t ∧ t < n.trans.length ∧ (FireE n m t).2 = 0 then runTo n (FireE n m t).1 l else none
theorem runTo_snoc {n : Net} : ∀ {l : List Int} {m m' : List Int} {t : Int}, runTo n m l = some m' → 0 ≤ t → t < n.trans.length → (FireE n m' t).2 = 0 → runTo n m (l ++ [t]) = some (FireE n m' t).1
  | [], m, m', t, h, h1, h2, h3 => by
    simp only [runTo, Option.some.injEq] at h
    subst h
    simp [runTo, h1, h2, h3]
  | a :: l, m, m', t, h, h1, h2, h3 => by
    rw [runTo] at h
    rw [List.cons_append, runTo]
    split at h
    · rename_i hc
      rw [if_pos hc]
      exact runTo_snoc h h1 h2 h3
    · cases h
/-- what holds of the list of those that were met -/
structure QI (n : Net) (m0 : List Int) (q : List Nd) : Prop where
  len : q.length ≤ 200
  at_ : ∀ i, i < q.length → markB n (gti q i).m = true ∧ (gti q i).run.length ≤ i ∧ runTo n m0 (gti q i).run = some (gti q i).m
theorem gti_app {α : Type} [Inhabited α] (a b : List α) (i : Nat) : gti (a ++ b) i = if i < a.length then gti a i else gti b (i - a.length) := by
  unfold gti
  split
  · rename_i h; rw [List.getElem?_append_left h]
  · rename_i h; rw [List.getElem?_append_right (by omega)]
theorem FireE_mark {n : Net} {m : List Int} {t : Int} (hm : markB n m = true) (h : (FireE n m t).2 = 0) : markB n (FireE n m t).1 = true := by
  unfold FireE at h ⊢
  rw [if_pos hm] at h ⊢
  exact fireE_mark hm h
theorem QI.init {n : Net} {m0 : List Int} (h : markB n m0 = true) : QI n m0 [⟨0, m0, []⟩] :=
  ⟨by simp, fun i hi => by
    obtain rfl : i = 0 := by simpa using hi
    exact ⟨h, by simp [gti], rfl⟩⟩
theorem stepS_pre (n : Net) (x : Nd) (q : List Nd) (t : Nat) : ∃ r, stepS n x q t = q ++ r := by
  unfold stepS
  split
  · exact ⟨[], by simp⟩
  · split
    · exact ⟨[], by simp⟩
    · exact ⟨_, rfl⟩
theorem roundS_pre (n : Net) (x : Nd) (q : List Nd) : ∀ k, ∃ r, roundS n x q k = q ++ r
  | 0 => ⟨[], by simp [roundS]⟩
  | k + 1 => by
    obtain ⟨r, hr⟩ := roundS_pre n x q k
    obtain ⟨r', hr'⟩ := stepS_pre n x (roundS n x q k) k
    exact ⟨r ++ r', by rw [roundS, hr', hr, List.append_assoc]⟩
theorem QI.step {n : Net} {m0 : List Int} {q : List Nd} (h : QI n m0 q) {i : Nat} (hi : i < q.length) {t : Nat} (ht : t < n.trans.length) : QI n m0 (stepS n (gti q i) q t) := by
  unfold stepS
  split
  · exact h
  · rename_i h1
    split
    · exact h
    · rename_i h2
      obtain ⟨hm, hl, hr⟩ := h.at_ i hi
      have h2' : (FireE n (gti q i).m t).2 = 0 := by
        rcases Decidable.em ((FireE n (gti q i).m t).2 = 0) with h | h
        · exact h
        · exact absurd (.inl h) h2
      refine ⟨?_, fun j hj => ?_⟩
      · have := h.len
        have : q.length ≠ 200 := fun e => h1 (.inr e)
        simp
        omega
      · rw [gti_app]
        split
        · rename_i hjl; exact h.at_ j hjl
        · rename_i hjl
          have : j - q.length = 0 := by simp at hj; omega
          rw [this]
          refine ⟨FireE_mark hm h2', ?_, runTo_snoc hr (by omega) (by omega) h2'⟩
          simp [gti]
          unfold gti at hl
          omega
theorem gti_pre {α : Type} [Inhabited α] {a b : List α} {i : Nat} (h : i < a.length) : gti (a ++ b) i = gti a i := by rw [gti_app, if_pos h]
theorem roundS_at {n : Net} {q : List Nd} {i : Nat} (hi : i < q.length) (x : Nd) (k : Nat) : i < (roundS n x q k).length ∧ gti (roundS n x q k) i = gti q i := by
  obtain ⟨r, hr⟩ := roundS_pre n x q k
  rw [hr, gti_pre hi]
  exact ⟨by simp; omega, rfl⟩
theorem QI.round {n : Net} {m0 : List Int} {q : List Nd} (h : QI n m0 q) {i : Nat} (hi : i < q.length) : ∀ {k : Nat}, k ≤ n.trans.length → QI n m0 (roundS n (gti q i) q k)
  | 0, _ => h
  | k + 1, hk => by
    obtain ⟨h1, h2⟩ := roundS_at (n := n) hi (gti q i) k
    have := (QI.round h hi (k := k) (by omega)).step h1 (t := k) (by omega)
    rw [h2] at this
    exact this
theorem srch_some {n : Net} {good : List Int → Bool} {m0 : List Int} : ∀ {f i : Nat} {q : List Nd} {way : List Int}, QI n m0 q → srch n good f i q = some way → ∃ m', runTo n m0 way = some m' ∧ good m' = true ∧ markB n m' = true ∧ way.length < 200
  | 0, i, q, way, _, h => by cases h
  | f + 1, i, q, way, hq, h => by
    rw [srch] at h
    split at h
    · rename_i hi
      split at h
      · rename_i hg
        injection h with h
        subst h
        obtain ⟨h1, h2, h3⟩ := hq.at_ i hi
        exact ⟨_, h3, hg, h1, by have := hq.len; omega⟩
      · exact srch_some (hq.round hi (Nat.le_refl _)) h
    · cases h
theorem silE_some {n : Net} {good : List Int → Bool} {m : List Int} {way : List Int} (hm : markB n m = true) (h : silE n good m = some way) : ∃ m', runTo n m way = some m' ∧ good m' = true ∧ markB n m' = true ∧ way.length < 200 := srch_some (QI.init hm) h
/-- the key tells markings apart -/
theorem keyL_inj : ∀ {a b : List Int}, (∀ x ∈ a, 0 ≤ x ∧ x ≤ 255) → (∀ x ∈ b, 0 ≤ x ∧ x ≤ 255) → keyL a = keyL b → a = b
  | [], [], _, _, _ => rfl
  | [], y :: b, _, _, h => by simp [keyL] at h
  | x :: a, [], _, _, h => by simp [keyL] at h
  | x :: a, y :: b, ha, hb, h => by
    have e1 : keyL (x :: a) = [UInt8.ofNat x.toNat, 0] ++ keyL a := rfl
    have e2 : keyL (y :: b) = [UInt8.ofNat y.toNat, 0] ++ keyL b := rfl
    rw [e1, e2] at h
    simp only [List.cons_append, List.nil_append, List.cons.injEq, true_and] at h
    have hx := ha x (List.mem_cons_self ..)
    have hy := hb y (List.mem_cons_self ..)
    have h1 := byte_of hx.1 hx.2
    have h2 := byte_of hy.1 hy.2
    rw [h.1, h2] at h1
    rw [h1, keyL_inj (fun z hz => ha z (List.mem_cons_of_mem _ hz)) (fun z hz => hb z (List.mem_cons_of_mem _ hz)) h.2]
theorem mem_gti' {α : Type} [Inhabited α] {l : List α} {a : α} (h : a ∈ l) : ∃ k, k < l.length ∧ gti l k = a := by
  obtain ⟨k, hk, rfl⟩ := List.getElem_of_mem h
  exact ⟨k, hk, by unfold gti; rw [List.getElem?_eq_getElem hk]; rfl⟩
theorem markB_small {n : Net} {m : List Int} (h : markB n m = true) : ∀ x ∈ m, 0 ≤ x ∧ x ≤ 255 := by
  intro x hx
  unfold markB at h
  simp only [Bool.and_eq_true] at h
  obtain ⟨k, _, rfl⟩ := mem_gti' hx
  have := mark2B_at h.2 k
  omega
theorem markB_len {n : Net} {m : List Int} (h : markB n m = true) : 1 ≤ m.length ∧ m.length ≤ 40 ∧ (m.length : Int) = n.places := by
  unfold markB at h
  simp only [Bool.and_eq_true] at h
  have := mark2B_len h.2
  have := validB_places h.1
  omega
def keysOf (q : List Nd) : List (List UInt8) := (q.map fun x => keyL x.m).reverse
theorem keysOf_snoc (q : List Nd) (x : Nd) : keysOf (q ++ [x]) = keyL x.m :: keysOf q := by simp [keysOf]
theorem keysOf_len (q : List Nd) : (keysOf q).length = q.length := by simp [keysOf]
theorem QI.key {n : Net} {m0 : List Int} {q : List Nd} (h : QI n m0 q) {m : List Int} (hm : markB n m = true) : decide (keyL m ∈ keysOf q) = decide (m ∈ q.map Nd.m) := by
  rw [decide_eq_decide]
  unfold keysOf
  rw [List.mem_reverse]
  constructor
  · intro hk
    obtain ⟨x, hx, e⟩ := List.mem_map.1 hk
    obtain ⟨i, hi, rfl⟩ := mem_gti' hx
    have := keyL_inj (markB_small (h.at_ i hi).1) (markB_small hm) e
    exact List.mem_map.2 ⟨_, hx, this⟩
  · intro hk
    obtain ⟨x, hx, rfl⟩ := List.mem_map.1 hk
    exact List.mem_map.2 ⟨x, hx, rfl⟩
end Go.Proofs.Ytmhbfoaecebobaa
end
section
namespace Go.Proofs.Ytmhbfoaecebobaa
set_option linter.unusedSimpArgs false
set_option linter.unusedVariables false
open Go.RowKit

/-- what is produced, consumed, missing, remaining -/
structure Cnt where
  p : Int
  c : Int
  m : Int
  r : Int
  deriving Inhabited, DecidableEq
structure Pl where
  m : List Int
  c : Cnt
  run : List Int
  big : Bool
  deriving Inhabited
def takeIn1 (s : Pl) (k : Int) : Pl :=
  if 0 < gti s.m k.toNat then ⟨s.m.set k.toNat (gti s.m k.toNat - 1), ⟨s.c.p, s.c.c + 1, s.c.m, s.c.r⟩, s.run, s.big⟩
  else ⟨s.m, ⟨s.c.p, s.c.c + 1, s.c.m + 1, s.c.r⟩, s.run, s.big⟩
def takeIn : List Int → Pl → Pl
  | [], s => s
  | k :: ks, s => takeIn ks (takeIn1 s k)
def takeOut1 (s : Pl) (k : Int) : Pl := ⟨s.m.set k.toNat (gti s.m k.toNat + 1), ⟨s.c.p + 1, s.c.c, s.c.m, s.c.r⟩, s.run, s.big⟩
def takeOut : List Int → Pl → Pl
  | [], s => s
  | k :: ks, s => takeOut ks (takeOut1 s k)
def takeEnd (s : Pl) (t : Int) : Pl := ⟨s.m, s.c, s.run ++ [t], s.big || decide (100 < maxL s.m)⟩
def takeP (n : Net) (t : Int) (s : Pl) : Pl := takeEnd (takeOut (gti n.trans t.toNat).out (takeIn (gti n.trans t.toNat).inn s)) t
def takeAll (n : Net) : List Int → Pl → Pl
  | [], s => s
  | t :: l, s => takeAll n l (takeP n t s)
theorem takeAll_app (n : Net) : ∀ (a b : List Int) (s : Pl), takeAll n (a ++ b) s = takeAll n b (takeAll n a s)
  | [], b, s => rfl
  | t :: a, b, s => takeAll_app n a b (takeP n t s)
def enB2 (m : List Int) (act : ByteArray) (t : Tr) : Bool := decide (t.label = act) && enB t m
def enabledAt (n : Net) (m : List Int) (act : ByteArray) : Int := firstAt (enB2 m act) n.trans
def labB (act : ByteArray) (t : Tr) : Bool := decide (t.label = act)
def labAt (n : Net) (act : ByteArray) : Int := firstAt (labB act) n.trans
def goodA (n : Net) (act : ByteArray) (m : List Int) : Bool := decide (0 ≤ enabledAt n m act)
def goodF (n : Net) (m : List Int) : Bool := decide (0 < gti m n.sink.toNat)
def playE (n : Net) (act : ByteArray) (s : Pl) : Pl :=
  match silE n (goodA n act) s.m with
  | some way => takeP n (enabledAt n (takeAll n way s).m act) (takeAll n way s)
  | none => if 0 ≤ labAt n act then takeP n (labAt n act) s else ⟨s.m, ⟨s.c.p + 1, s.c.c + 1, s.c.m + 1, s.c.r + 1⟩, s.run, s.big⟩
def sumI : List Int → Int
  | [] => 0
  | x :: l => x + sumI l
def finA (n : Net) (s : Pl) : Pl := match silE n (goodF n) s.m with | some way => takeAll n way s | none => s
def finE (n : Net) (s : Pl) : Pl :=
  ⟨(takeIn1 (finA n s) n.sink).m, ⟨(takeIn1 (finA n s) n.sink).c.p, (takeIn1 (finA n s) n.sink).c.c, (takeIn1 (finA n s) n.sink).c.m, (takeIn1 (finA n s) n.sink).c.r + sumI (takeIn1 (finA n s) n.sink).m⟩, (finA n s).run, (finA n s).big⟩
def playL (n : Net) : List ByteArray → Pl → Option Pl
  | [], s => some s
  | a :: l, s => if (playE n a s).big then none else playL n l (playE n a s)
def pl0 (n : Net) : Pl := ⟨oneL n.places.toNat n.source, ⟨1, 0, 0, 0⟩, [], false⟩
def endE (n : Net) : Option Pl → Cnt × List Int × Int
  | none => (⟨0, 0, 0, 0⟩, [], 6)
  | some s => if (finE n s).big then (⟨0, 0, 0, 0⟩, [], 6) else ((finE n s).c, (finE n s).run, 0)
noncomputable def PlayE (n : Net) (w : List ByteArray) : Cnt × List Int × Int :=
  if (wfB n && allN w) = false then (⟨0, 0, 0, 0⟩, [], 1) else if 200 < w.length then (⟨0, 0, 0, 0⟩, [], 5) else endE n (playL n w (pl0 n))

/-- the marking is one of the net's size, and no token is less than nought -/
structure PM (n : Net) (s : Pl) : Prop where
  len : (s.m.length : Int) = n.places
  nn : ∀ i, 0 ≤ gti s.m i
  ok : s.big = false → markB n s.m = true
  c0 : 0 ≤ s.c.m
  mc : s.c.m ≤ s.c.c
  r0 : 0 ≤ s.c.r
  bal : s.c.p + s.c.m = s.c.c + s.c.r + sumI s.m
  rg : ∀ t ∈ s.run, 0 ≤ t ∧ t < n.trans.length
theorem sumI_set : ∀ (m : List Int) (k : Nat) (x : Int), k < m.length → sumI (m.set k x) = sumI m - gti m k + x
  | [], k, x, h => by simp at h
  | y :: m, 0, x, h => by simp [sumI, gti]; omega
  | y :: m, k + 1, x, h => by
    have := sumI_set m k x (by simpa using h)
    have e : gti (y :: m) (k + 1) = gti m k := by simp [gti]
    simp only [List.set_cons_succ, sumI, e]
    omega
theorem sumI_ge : ∀ (m : List Int), (∀ i, 0 ≤ gti m i) → 0 ≤ sumI m ∧ ∀ i, gti m i ≤ sumI m
  | [], h => ⟨Int.le_refl _, fun i => by simp [gti, sumI]⟩
  | y :: m, h => by
    have h0 := h 0
    have e : gti (y :: m) 0 = y := by simp [gti]
    rw [e] at h0
    obtain ⟨h1, h2⟩ := sumI_ge m (fun i => by have := h (i + 1); have e : gti (y :: m) (i + 1) = gti m i := by simp [gti]
                                              rwa [e] at this)
    refine ⟨by simp only [sumI]; omega, fun i => ?_⟩
    cases i with
    | zero => rw [e]; simp only [sumI]; omega
    | succ i =>
      have e : gti (y :: m) (i + 1) = gti m i := by simp [gti]
      rw [e]
      have := h2 i
      simp only [sumI]
      omega
/-- counters and tokens are small -/
theorem PM.small {n : Net} {s : Pl} (h : PM n s) : 0 ≤ s.c.c ∧ 0 ≤ s.c.p ∧ ∀ i, 0 ≤ gti s.m i ∧ gti s.m i ≤ s.c.p := by
  obtain ⟨h1, h2⟩ := sumI_ge s.m h.nn
  have := h.bal; have := h.mc; have := h.c0; have := h.r0
  refine ⟨by omega, by omega, fun i => ?_⟩
  have := h.nn i
  have := h2 i
  omega
/-- what holds while a transition is taken -/
structure PT (n : Net) (s : Pl) : Prop where
  len : (s.m.length : Int) = n.places
  nn : ∀ i, 0 ≤ gti s.m i
  c0 : 0 ≤ s.c.m
  mc : s.c.m ≤ s.c.c
  r0 : 0 ≤ s.c.r
  bal : s.c.p + s.c.m = s.c.c + s.c.r + sumI s.m
theorem PM.pt {n : Net} {s : Pl} (h : PM n s) : PT n s := ⟨h.len, h.nn, h.c0, h.mc, h.r0, h.bal⟩
theorem PT.small {n : Net} {s : Pl} (h : PT n s) : 0 ≤ s.c.c ∧ 0 ≤ s.c.p ∧ ∀ i, 0 ≤ gti s.m i ∧ gti s.m i ≤ s.c.p := by
  obtain ⟨h1, h2⟩ := sumI_ge s.m h.nn
  have := h.bal; have := h.mc; have := h.c0; have := h.r0
  refine ⟨by omega, by omega, fun i => ?_⟩
  have := h.nn i
  have := h2 i
  omega
theorem PT.in1 {n : Net} {s : Pl} (h : PT n s) {k : Int} (h0 : 0 ≤ k) (h1 : k < n.places) : PT n (takeIn1 s k) := by
  have hl := h.len
  unfold takeIn1
  split
  · rename_i hg
    refine ⟨by simpa using hl, fun i => ?_, h.c0, ?_, h.r0, ?_⟩
    · simp only
      rw [gti_set]
      have := h.nn i
      split <;> omega
    · have := h.mc; simp only; omega
    · have := h.bal
      simp only
      rw [sumI_set _ _ _ (by omega)]
      omega
  · refine ⟨hl, h.nn, ?_, ?_, h.r0, ?_⟩
    · have := h.c0; simp only; omega
    · have := h.mc; simp only; omega
    · have := h.bal; simp only; omega
theorem PT.out1 {n : Net} {s : Pl} (h : PT n s) {k : Int} (h0 : 0 ≤ k) (h1 : k < n.places) : PT n (takeOut1 s k) := by
  have hl := h.len
  refine ⟨by simpa [takeOut1] using hl, fun i => ?_, h.c0, h.mc, h.r0, ?_⟩
  · simp only [takeOut1]
    rw [gti_set]
    have := h.nn i
    have := h.nn k.toNat
    split <;> omega
  · have := h.bal
    simp only [takeOut1]
    rw [sumI_set _ _ _ (by omega)]
    omega
theorem takeIn_c : ∀ (l : List Int) (s : Pl), (takeIn l s).c.c = s.c.c + l.length ∧ (takeIn l s).c.p = s.c.p ∧ (takeIn l s).c.r = s.c.r ∧ (takeIn l s).run = s.run ∧ (takeIn l s).big = s.big
  | [], s => by simp [takeIn]
  | k :: l, s => by
    have := takeIn_c l (takeIn1 s k)
    have e : (takeIn1 s k).c.c = s.c.c + 1 ∧ (takeIn1 s k).c.p = s.c.p ∧ (takeIn1 s k).c.r = s.c.r ∧ (takeIn1 s k).run = s.run ∧ (takeIn1 s k).big = s.big := by
      unfold takeIn1; split <;> simp
    rw [takeIn, this.1, this.2.1, this.2.2.1, this.2.2.2.1, this.2.2.2.2, e.1, e.2.1, e.2.2.1, e.2.2.2.1, e.2.2.2.2]
    refine ⟨?_, rfl, rfl, rfl, rfl⟩
    simp; omega
theorem takeOut_c : ∀ (l : List Int) (s : Pl), (takeOut l s).c.p = s.c.p + l.length ∧ (takeOut l s).c.c = s.c.c ∧ (takeOut l s).c.m = s.c.m ∧ (takeOut l s).c.r = s.c.r ∧ (takeOut l s).run = s.run ∧ (takeOut l s).big = s.big
  | [], s => by simp [takeOut]
  | k :: l, s => by
    have := takeOut_c l (takeOut1 s k)
    rw [takeOut, this.1, this.2.1, this.2.2.1, this.2.2.2.1, this.2.2.2.2.1, this.2.2.2.2.2]
    refine ⟨?_, rfl, rfl, rfl, rfl, rfl⟩
    simp [takeOut1]; omega
theorem PT.inn {n : Net} : ∀ {l : List Int} {s : Pl}, PT n s → (∀ k ∈ l, 0 ≤ k ∧ k < n.places) → PT n (takeIn l s)
  | [], s, h, _ => h
  | k :: l, s, h, hl => PT.inn (l := l) (s := takeIn1 s k) (h.in1 (hl k (List.mem_cons_self ..)).1 (hl k (List.mem_cons_self ..)).2) (fun j hj => hl j (List.mem_cons_of_mem _ hj))
theorem PT.outt {n : Net} : ∀ {l : List Int} {s : Pl}, PT n s → (∀ k ∈ l, 0 ≤ k ∧ k < n.places) → PT n (takeOut l s)
  | [], s, h, _ => h
  | k :: l, s, h, hl => PT.outt (l := l) (s := takeOut1 s k) (h.out1 (hl k (List.mem_cons_self ..)).1 (hl k (List.mem_cons_self ..)).2) (fun j hj => hl j (List.mem_cons_of_mem _ hj))
theorem all01_intro : ∀ {m : List Int}, (∀ i, 0 ≤ gti m i ∧ gti m i ≤ 100) → all01 m = true
  | [], _ => rfl
  | x :: m, h => by
    have h0 := h 0
    have e : gti (x :: m) 0 = x := by simp [gti]
    rw [e] at h0
    have := all01_intro (m := m) (fun i => by have := h (i + 1); have e : gti (x :: m) (i + 1) = gti m i := by simp [gti]
                                              rwa [e] at this)
    simp only [all01]
    rw [this]
    grind
/-- what is true of the places of a valid net's transition -/
theorem trans_in {n : Net} (hv : validB n = true) {t : Nat} (ht : t < n.trans.length) : (∀ k ∈ (gti n.trans t).inn, 0 ≤ k ∧ k < n.places) ∧ (∀ k ∈ (gti n.trans t).out, 0 ≤ k ∧ k < n.places) ∧ (gti n.trans t).inn.length ≤ 40 ∧ (gti n.trans t).out.length ≤ 40 := by
  obtain ⟨_, h1, h2⟩ := validB_tr hv (gti_mem ht)
  have := validB_places hv
  have a1 := placesB_len h1
  have a2 := placesB_len h2
  refine ⟨fun k hk => Go.Proofs.Ytmhbfoaecebobaa.placesB_mem h1 hk, fun k hk => Go.Proofs.Ytmhbfoaecebobaa.placesB_mem h2 hk, ?_, ?_⟩ <;> omega
theorem takeOut_m : ∀ (l : List Int) (s : Pl), (takeOut l s).m = incL l s.m
  | [], s => rfl
  | k :: l, s => takeOut_m l (takeOut1 s k)
theorem takeIn_m : ∀ (l : List Int) (s : Pl) {n : Int}, placesB n l = true → (∀ k ∈ l, 0 < gti s.m k.toNat) → (takeIn l s).m = decL l s.m
  | [], s, n, _, _ => rfl
  | k :: l, s, n, hp, h => by
    have h0 := h k (List.mem_cons_self ..)
    obtain ⟨_, _, hd⟩ := placesB_head hp
    have e : takeIn1 s k = ⟨s.m.set k.toNat (gti s.m k.toNat - 1), ⟨s.c.p, s.c.c + 1, s.c.m, s.c.r⟩, s.run, s.big⟩ := by unfold takeIn1; rw [if_pos h0]
    rw [takeIn, takeIn_m l (takeIn1 s k) (placesB_tail hp) (fun j hj => ?_), e, decL]
    rw [e]
    simp only
    rw [gti_set, if_neg (fun hh => hd j hj hh.1.symm)]
    exact h j (List.mem_cons_of_mem _ hj)
theorem PM.take {n : Net} {s : Pl} (h : PM n s) (hv : validB n = true) {t : Int} (h0 : 0 ≤ t) (h1 : t < n.trans.length) : PM n (takeP n t s) := by
  obtain ⟨hi, ho, _⟩ := trans_in hv (t := t.toNat) (by omega)
  have hp := (h.pt.inn hi).outt ho
  have hc := takeOut_c (gti n.trans t.toNat).out (takeIn (gti n.trans t.toNat).inn s)
  have hci := takeIn_c (gti n.trans t.toNat).inn s
  refine ⟨hp.len, hp.nn, fun hb => ?_, hp.c0, hp.mc, hp.r0, hp.bal, fun u hu => ?_⟩
  · unfold takeP takeEnd at hb ⊢
    simp only [Bool.or_eq_false_iff, decide_eq_false_iff_not] at hb
    have hpl := validB_places hv
    have hlen := hp.len
    have hmx := maxL_gt 100 (l := (takeOut (gti n.trans t.toNat).out (takeIn (gti n.trans t.toNat).inn s)).m) (by omega)
    have hno : (takeOut (gti n.trans t.toNat).out (takeIn (gti n.trans t.toNat).inn s)).m.any (fun y => decide (100 < y)) = false := by rw [← hmx]; simp; omega
    unfold markB mark2B
    simp only
    rw [hv, if_neg (by omega), all01_intro (fun i => ⟨hp.nn i, ?_⟩)]
    · rfl
    · by_cases hil : i < (takeOut (gti n.trans t.toNat).out (takeIn (gti n.trans t.toNat).inn s)).m.length
      · have := List.any_eq_false.1 hno _ (gti_mem hil)
        simpa using this
      · have hz : ∀ (l : List Int) (j : Nat), l.length ≤ j → gti l j ≤ 100 := fun l j hj => by unfold gti; rw [List.getElem?_eq_none hj]; simp
        exact hz _ i (by omega)
  · unfold takeP takeEnd at hu
    simp only [List.mem_append, List.mem_singleton] at hu
    rw [hc.2.2.2.2.1, hci.2.2.2.1] at hu
    rcases hu with hu | rfl
    · exact h.rg u hu
    · exact ⟨h0, h1⟩
theorem takeP_c (n : Net) (t : Int) (s : Pl) : (takeP n t s).c.c = s.c.c + (gti n.trans t.toNat).inn.length ∧ (takeP n t s).c.p = s.c.p + (gti n.trans t.toNat).out.length ∧ (takeP n t s).c.r = s.c.r ∧ (takeP n t s).run = s.run ++ [t] := by
  have hc := takeOut_c (gti n.trans t.toNat).out (takeIn (gti n.trans t.toNat).inn s)
  have hci := takeIn_c (gti n.trans t.toNat).inn s
  unfold takeP takeEnd
  simp only
  rw [hc.1, hc.2.1, hc.2.2.2.1, hc.2.2.2.2.1, hci.1, hci.2.1, hci.2.2.1, hci.2.2.2.1]
  exact ⟨rfl, rfl, rfl, rfl⟩
/-- a transition that fires, taken -/
theorem take_fire {n : Net} {s : Pl} (h : PM n s) (hb : s.big = false) {t : Int} (h0 : 0 ≤ t) (h1 : t < n.trans.length) (hf : (FireE n s.m t).2 = 0) : (takeP n t s).m = (FireE n s.m t).1 ∧ (takeP n t s).big = false := by
  have hm := h.ok hb
  have hv : validB n = true := by unfold markB at hm; simp only [Bool.and_eq_true] at hm; exact hm.1
  unfold FireE fireE at hf ⊢
  rw [if_pos hm] at hf ⊢
  rw [if_neg (by omega)] at hf ⊢
  split at hf
  · rename_i he
    rw [if_pos he]
    split at hf
    · cases hf
    · rename_i hn
      rw [if_neg hn]
      obtain ⟨_, hpi, hpo⟩ := validB_tr hv (gti_mem (l := n.trans) (k := t.toNat) (by omega))
      have e : (takeP n t s).m = incL (gti n.trans t.toNat).out (decL (gti n.trans t.toNat).inn s.m) := by
        unfold takeP takeEnd
        simp only
        rw [takeOut_m, takeIn_m _ _ hpi (fun k hk => by
          have := enB_at he hk
          have := h.nn k.toNat
          omega)]
      refine ⟨e, ?_⟩
      have hpl := validB_places hv
      have hlen := (PM.take h hv h0 h1).len
      rw [e] at hlen
      have hmx := maxL_gt 100 (l := incL (gti n.trans t.toNat).out (decL (gti n.trans t.toNat).inn s.m)) (by omega)
      have hmx' : ¬ (100 : Int) < maxL (incL (gti n.trans t.toNat).out (decL (gti n.trans t.toNat).inn s.m)) := fun h => hn (by rw [← hmx]; simpa using h)
      have hci := takeIn_c (gti n.trans t.toNat).inn s
      have hc := takeOut_c (gti n.trans t.toNat).out (takeIn (gti n.trans t.toNat).inn s)
      have e2 : (takeP n t s).big = (s.big || decide (100 < maxL (takeP n t s).m)) := by
        unfold takeP takeEnd
        simp only
        rw [hc.2.2.2.2.2, hci.2.2.2.2]
      rw [e2, hb, e]
      simpa using hmx'
  · cases hf
theorem takeAll_run {n : Net} (hv : validB n = true) : ∀ {l : List Int} {s : Pl} {m' : List Int}, PM n s → s.big = false → runTo n s.m l = some m' → PM n (takeAll n l s) ∧ (takeAll n l s).m = m' ∧ (takeAll n l s).big = false ∧ (takeAll n l s).run = s.run ++ l ∧ (takeAll n l s).c.r = s.c.r
  | [], s, m', h, hb, hr => by
    simp only [runTo, Option.some.injEq] at hr
    exact ⟨h, hr, hb, by simp [takeAll], rfl⟩
  | t :: l, s, m', h, hb, hr => by
    rw [runTo] at hr
    split at hr
    · rename_i hc
      obtain ⟨h1, h2⟩ := take_fire h hb hc.1 hc.2.1 hc.2.2
      have hcc := takeP_c n t s
      obtain ⟨a1, a2, a3, a4, a5⟩ := takeAll_run hv (l := l) (PM.take h hv hc.1 hc.2.1) h2 (m' := m') (by rw [h1]; exact hr)
      rw [takeAll]
      exact ⟨a1, a2, a3, by rw [a4, hcc.2.2.2]; simp, by rw [a5, hcc.2.2.1]⟩
    · cases hr
end Go.Proofs.Ytmhbfoaecebobaa
end
section
namespace Go.Proofs.Ytmhbfoaecebobaa
set_option linter.unusedSimpArgs false
set_option linter.unusedVariables false
open Go.RowKit Go.Maps Go.WideMaps

theorem str_law : Keyed Try.prog 9 := string_keyed Try.underlying9
theorem zeroBo (w : World) : (zeroValue 4).run Try.prog w = .ok (.bool false) w := by kernel_rfl
/-- block b is a map in which the keys of a list are true, and no others -/
def SetAt (w : World) (b : Nat) (ks : List (List UInt8)) : Prop :=
  ∃ D : DataW Unit, w.ownsMap Try.prog 9 (plainElem Try.prog 4) b ks.length D ∧ ∀ l : List UInt8, D.atKey (.string l) (.lit (.bool false)) = .lit (.bool (decide (l ∈ ks)))
theorem SetAt.made (w : World) : SetAt (w.alloc (.map #[] 0)) w.heap.size [] :=
  ⟨.map [], World.ownsMap_made w _ _ _, fun l => by simp [DataW.atKey]⟩
set_option maxRecDepth 100000 in
theorem plainElem_bool_inv {v : Value} {x : Bool} {ps : List MemPlace} (h : plainElem (H := Unit) Try.prog 4 v = some (.lit (.bool x), ps)) : v = .bool x := by
  unfold plainElem at h
  rw [Try.underlying4] at h
  split at h
  · simp at h; simp_all
  · simp_all
  · simp_all
  · cases h
set_option maxRecDepth 100000 in
theorem SetAt.look {w : World} {b : Nat} {ks : List (List UInt8)} (h : SetAt w b ks) (l : List UInt8) (hl : l.length ≤ 1000000) :
    (Instr.lookup 90 (.map (some b)) (.string ⟨l.toArray⟩) false).run Try.prog w = .ok (.bool (decide (l ∈ ks))) w := by
  obtain ⟨D, ho, hD⟩ := h
  obtain ⟨v, ps, hrun, hv⟩ := ho.lookup str_law Try.underlying90 (zeroBo w) (plainElem_bool Try.underlying4 false) (key := .string ⟨l.toArray⟩) (keyOf_string_mk Try.underlying9 (by simp [ByteArray.size, maxLen]; omega))
  simp only [] at hv
  rw [hD] at hv
  rw [plainElem_bool_inv hv] at hrun
  exact hrun
theorem ownsMap_isMap {w : World} {b n : Nat} {D : DataW Unit} (h : w.ownsMap Try.prog 9 (plainElem Try.prog 4) b n D) : IsMap D := by
  obtain ⟨es, clock, _, _, _, rfl⟩ := h
  exact ⟨_, rfl⟩
set_option maxRecDepth 100000 in
theorem SetAt.put {w : World} {b : Nat} {ks : List (List UInt8)} (h : SetAt w b ks) (l : List UInt8) (hl : l.length ≤ 1000000) (hk : ks.length ≤ 1000000) :
    ∃ w', (Instr.mapUpdate 90 (.map (some b)) (.string ⟨l.toArray⟩) (.bool true)).run Try.prog w = .ok () w' ∧ SetAt w' b (l :: ks) ∧ w.grownBy w' (some b) := by
  obtain ⟨D, ho, hD⟩ := h
  obtain ⟨w', hrun, h2, h3⟩ := ho.update str_law Try.underlying90 (by unfold maxLen; omega) (key := .string ⟨l.toArray⟩) (keyOf_string_mk Try.underlying9 (by simp [ByteArray.size, maxLen]; omega)) (plainElem_bool Try.underlying4 true)
  refine ⟨w', hrun, ⟨_, h2, fun l' => ?_⟩, h3⟩
  by_cases e : l' = l
  · subst e
    rw [atKey_put_same (ownsMap_isMap ho) (by first | trivial | simp [WideAt.IsKeyLit])]
    simp
  · rw [atKey_put_other (by intro h; injection h with h; exact e h), hD]
    simp [e]
end Go.Proofs.Ytmhbfoaecebobaa
end
section
namespace Go.Proofs.Ytmhbfoaecebobaa
set_option linter.unusedSimpArgs false
set_option linter.unusedVariables false
open Go.RowKit Go.Maps Go.WideMaps

theorem SetAt.keep {D : Nat → Prop} {w W : World} (hc : Chg D w W) {b : Nat} {ks : List (List UInt8)} (hd : ¬ D b) (h : SetAt w b ks) : SetAt W b ks := by
  obtain ⟨Dm, ⟨es, clock, hb, F, hs, hD⟩, h2⟩ := h
  exact ⟨Dm, ⟨es, clock, (hc.block b (Array.getElem?_eq_some_iff.1 hb).1 hd).trans hb, F, hs, hD⟩, h2⟩
theorem SetAt.lt {w : World} {b : Nat} {ks : List (List UInt8)} (h : SetAt w b ks) : b < w.heap.size := by
  obtain ⟨Dm, ho, _⟩ := h
  exact ho.lt
abbrev Loc.set (b : Nat) (ks : List (List UInt8)) : Loc := ⟨fun w => SetAt w b ks, fun k => k = b, fun h hd hp => SetAt.keep h (hd b rfl) hp⟩
/-- of the blocks of w0 only those in D have changed -/
abbrev Loc.cg (D : Nat → Prop) (w0 : World) : Loc :=
  ⟨fun W => Chg D w0 W, fun k => k < w0.heap.size ∧ ¬ D k, fun h hd hp => ⟨h.os.trans hp.os, h.tape.trans hp.tape, h.output.trans hp.output, Nat.le_trans hp.size h.size, fun k hk hD => (h.block k (Nat.lt_of_lt_of_le hk hp.size) (hd k ⟨hk, hD⟩)).trans (hp.block k hk hD)⟩⟩
theorem Chg.refl (D : Nat → Prop) (w : World) : Chg D w w := ⟨rfl, rfl, rfl, Nat.le_refl _, fun _ _ _ => rfl⟩
theorem Mem.step {a a' : Loc} {rest : List Loc} {D : Nat → Prop} {w W : World} (h : Mem (a :: rest) w) (h' : a'.P W) (hc : Chg D w W) (ha : Apart D rest) : Mem (a' :: rest) W := ⟨h', h.2.chg hc ha⟩

/-- m[k] = true -/
theorem wpList_put_set {ops : Array Oper} {rest : List Oper} {o : Oper} {a : Act} {Q : Exit → Act → World → Prop} {w : World} (hg : o.guard = none) (m x v : Operand)
    (hop : o.op = Op.mapUpdate 90 m x v ∨ o.op = Op.insert 90 m x v) {b : Nat} {ks : List (List UInt8)} {L : List Loc} (l : List UInt8) (hm : a.eval m = .map (some b)) (hx : a.eval x = .string ⟨l.toArray⟩) (hv : a.eval v = .bool true)
    (hM : Mem (Loc.set b ks :: L) w) (hA : Apart (fun k => k = b) L) (hl : l.length ≤ 1000000) (hk : ks.length ≤ 1000000)
    (hK : ∀ w', Mem (Loc.set b (l :: ks) :: L) w' → w.heap.size ≤ w'.heap.size → wpList Try.prog ops Q rest (a.put o.dst undef) w') : wpList Try.prog ops Q (o :: rest) a w := by
  refine wpList_plain hg fun K' hK' => ?_
  obtain ⟨w', hrun, h2, h3⟩ := hM.1.put l hl hk
  have hfin := hK' _ _ (hK w' ⟨h2, hM.2.chg (D := fun k => k = b) (Chg.below (w := w) (W := w) (Below.refl _ _) |> fun _ => ⟨h3.os, h3.tape, h3.output, h3.size, fun k hk hne => h3.block k hk (fun e => hne (by injection e))⟩) hA⟩ h3.size)
  unfold Oper.wp
  rcases hop with hop | hop
  · simp [execOp, hop, hm, hx, hv, hrun, Result.andThen]
    exact hfin
  · simp [execOp, hop, hm, hx, hv, hrun, Result.andThen]
    exact hfin
/-- m[k] -/
theorem wpList_look_set {ops : Array Oper} {rest : List Oper} {o : Oper} {a : Act} {Q : Exit → Act → World → Prop} {w : World} (hg : o.guard = none) (m x : Operand)
    (hop : o.op = Op.lookup 90 m x false) {b : Nat} {ks : List (List UInt8)} (l : List UInt8) (hm : a.eval m = .map (some b)) (hx : a.eval x = .string ⟨l.toArray⟩)
    (hs : SetAt w b ks) (hl : l.length ≤ 1000000) {z : Bool} (hz : decide (l ∈ ks) = z)
    (hK : wpList Try.prog ops Q rest (a.put o.dst (.bool z)) w) : wpList Try.prog ops Q (o :: rest) a w := by
  subst hz
  refine wpList_plain hg fun K' hK' => ?_
  have hrun := hs.look l hl
  unfold Oper.wp
  simp [execOp, hop, hm, hx, hrun, Result.andThen, Oper.upon]
  exact hK' _ _ hK

theorem SetAt.look' {w : World} {b : Nat} {ks : List (List UInt8)} (h : SetAt w b ks) (l : List UInt8) (hl : l.length ≤ 1000000) {z : Bool} (hz : decide (l ∈ ks) = z) :
    (Instr.lookup 90 (.map (some b)) (.string ⟨l.toArray⟩) false).run Try.prog w = .ok (.bool z) w := hz ▸ h.look l hl
/-- a number, and the values of the two slices -/
structure NdV where
  k : Int
  am : Option Addr
  nm : Nat
  cm : Nat
  ar : Option Addr
  nr : Nat
  cr : Nat
  deriving Inhabited
abbrev NdV.vm (x : NdV) : Value := .slice x.am x.nm x.cm
abbrev NdV.vr (x : NdV) : Value := .slice x.ar x.nr x.cr
abbrev encN (x : NdV) : List Value := [.int .i64 x.k, x.vm, x.vr]
theorem ti_node : TI 88 86 3 56 (.agg #[.int .i64 0, .slice none 0 0, .slice none 0 0]) := TI.mk Try.underlying88 (by kernel_rfl) rfl (by decide)
/-- a slice of numbers in a block of D -/
def RdB (D : Nat → Prop) (w : World) (v : Value) (l : List Int) : Prop := ∃ b, (0 < l.length → D b) ∧ RdI w b (b + 1) v l
theorem RdB.of {D : Nat → Prop} {w : World} {lo hi : Nat} {v : Value} {l : List Int} (h : RdI w lo hi v l) (hd : ∀ k, lo ≤ k → k < hi → D k) : RdB D w v l := by
  obtain ⟨h1, A, c, hv, h2, h3, h4⟩ := h
  rcases Nat.eq_zero_or_pos l.length with h0 | h0
  · exact ⟨0, fun h => by omega, h1, A, c, hv, h2, h3, fun h => by omega⟩
  · obtain ⟨b, off, hA, hl, hh, hc⟩ := h4 h0
    exact ⟨b, fun _ => hd b hl hh, h1, A, c, hv, h2, h3, fun _ => ⟨b, off, hA, Nat.le_refl _, by omega, hc⟩⟩
theorem RdB.nil (D : Nat → Prop) (w : World) : RdB D w (.slice none 0 0) [] := ⟨0, fun h => by simp at h, Rd.nil _ _ _⟩
theorem RdB.mono {D E : Nat → Prop} {w : World} {v : Value} {l : List Int} (h : RdB D w v l) (hd : ∀ k, D k → E k) : RdB E w v l := by
  obtain ⟨b, h1, h2⟩ := h
  exact ⟨b, fun h => hd b (h1 h), h2⟩
theorem RdB.keep {D E : Nat → Prop} {w W : World} (hc : Chg E w W) (hd : ∀ k, D k → ¬ E k) {v : Value} {l : List Int} (h : RdB D w v l) : RdB D W v l := by
  obtain ⟨b, h1, h2⟩ := h
  refine ⟨b, h1, ?_⟩
  rcases Nat.eq_zero_or_pos l.length with h0 | h0
  · obtain ⟨h3, A, c, hv, h4, h5, h6⟩ := h2
    exact ⟨h3, A, c, hv, h4, h5, fun h => by omega⟩
  · exact Rd.of_blocks h2 (fun k hk1 hk2 hk => hc.block k hk (by
      have : k = b := by omega
      rw [this]
      exact hd b (h1 h0)))
theorem RdB.rd {D : Nat → Prop} {w : World} {v : Value} {l : List Int} (h : RdB D w v l) : ∃ b, RdI w b (b + 1) v l := by
  obtain ⟨b, _, h⟩ := h
  exact ⟨b, h⟩
theorem RdB.within {D : Nat → Prop} {s hi : Nat} {w : World} {v : Value} {l : List Int} (h : RdB D w v l) (hd : ∀ k, D k → s ≤ k ∧ k < hi) : RdI w s hi v l := by
  obtain ⟨b, h1, h2, A, c, hv, h4, h5, h6⟩ := h
  refine ⟨h2, A, c, hv, h4, h5, fun hn => ?_⟩
  obtain ⟨b', off, hA, hl, hh, hc⟩ := h6 hn
  have := hd b (h1 hn)
  exact ⟨b', off, hA, by omega, by omega, hc⟩
/-- nodes whose markings lie in blocks of D, and whose runs in blocks of D from block s on -/
def RdNs (D : Nat → Prop) (s : Nat) (w : World) (vs : List NdV) (q : List Nd) : Prop :=
  vs.length = q.length ∧ ∀ i, i < q.length → (gti vs i).k = (gti q i).k ∧ RdB D w (gti vs i).vm (gti q i).m ∧ RdB (fun k => s ≤ k ∧ D k) w (gti vs i).vr (gti q i).run
theorem RdNs.keep {D E : Nat → Prop} {s : Nat} {w W : World} (hc : Chg E w W) (hd : ∀ k, D k → ¬ E k) {vs : List NdV} {q : List Nd} (h : RdNs D s w vs q) : RdNs D s W vs q :=
  ⟨h.1, fun i hi => ⟨(h.2 i hi).1, (h.2 i hi).2.1.keep hc hd, (h.2 i hi).2.2.keep hc (fun k hk => hd k hk.2)⟩⟩
abbrev Loc.ns (D : Nat → Prop) (s : Nat) (vs : List NdV) (q : List Nd) : Loc := ⟨fun w => RdNs D s w vs q, D, fun h hd hp => RdNs.keep h hd hp⟩
theorem RdNs.mono {D E : Nat → Prop} {s : Nat} {w : World} {vs : List NdV} {q : List Nd} (h : RdNs D s w vs q) (hd : ∀ k, D k → E k) : RdNs E s w vs q :=
  ⟨h.1, fun i hi => ⟨(h.2 i hi).1, (h.2 i hi).2.1.mono hd, (h.2 i hi).2.2.mono (fun k hk => ⟨hk.1, hd k hk.2⟩)⟩⟩
theorem RdNs.snoc {D : Nat → Prop} {s : Nat} {w : World} {vs : List NdV} {q : List Nd} (h : RdNs D s w vs q) {v : NdV} {x : Nd} (h1 : v.k = x.k) (h2 : RdB D w v.vm x.m) (h3 : RdB (fun k => s ≤ k ∧ D k) w v.vr x.run) : RdNs D s w (vs ++ [v]) (q ++ [x]) := by
  refine ⟨by simp [h.1], fun i hi => ?_⟩
  by_cases hl : i < q.length
  · rw [gti_pre hl, gti_pre (by rw [h.1]; exact hl)]
    exact h.2 i hl
  · obtain rfl : i = q.length := by simp at hi; omega
    have e1 : gti (vs ++ [v]) q.length = v := by rw [gti_app, if_neg (by rw [h.1]; omega), h.1, Nat.sub_self]; rfl
    have e2 : gti (q ++ [x]) q.length = x := by rw [gti_app, if_neg (by omega), Nat.sub_self]; rfl
    rw [e1, e2]
    exact ⟨h1, h2, h3⟩
theorem RdNs.nil (D : Nat → Prop) (s : Nat) (w : World) : RdNs D s w [] [] := ⟨rfl, fun i hi => absurd hi (by simp)⟩
abbrev RdNv := Rd 3 encN
abbrev OwnN := Own 86 3 encN
abbrev Loc.owN (lo hi : Nat) (v : Value) (l : List NdV) : Loc := Loc.ow 86 3 encN lo hi v l
theorem OwnN.at3 {w : World} {lo hi : Nat} {A : Option Addr} {c : Nat} {l : List NdV} (h : OwnN w lo hi (.slice A l.length c) l) {k : Nat} (hk : k < l.length) :
    ∃ b off, A = some ⟨b, off, none⟩ ∧ lo ≤ b ∧ b < hi ∧ C3 w b (off + k * 3) (.int .i64 (gti l k).k) (gti l k).vm (gti l k).vr := by
  obtain ⟨b, off, hA, h1, h2, hc⟩ := Rd.at_ h.rd (fun _ => rfl) (gti_get hk)
  exact ⟨b, off, hA, h1, h2, hc 0 _ rfl, hc 1 _ rfl, hc 2 _ rfl⟩
theorem oneN : ∀ a : NdV, ∀ u ∈ encN a, u.oneCell' = true := by
  intro a u hu
  simp at hu
  rcases hu with rfl | rfl | rfl <;> rfl
theorem RdNv.lit (W : World) (x : NdV) (t : TypeId) : RdNv (W.alloc (.cells #[.int .i64 x.k, x.vm, x.vr] t)) 0 (W.heap.size + 1) (.slice (some ⟨W.heap.size, 0, none⟩) 1 1) [x] := Rd.lit W t [x] _ 1 rfl rfl (by decide) (fun _ => rfl)
theorem Own.alloc {α : Type} {e size : Nat} {enc : α → List Value} {w : World} {lo hi : Nat} {v : Value} {l : List α} (h : Own e size enc w lo hi v l) (o : Obj) : Own e size enc (w.alloc o) lo hi v l := Own.keep (Chg.alloc w o) (fun _ _ h => h) h
theorem Own.below {α : Type} {e size : Nat} {enc : α → List Value} {w W : World} {lo hi : Nat} {v : Value} {l : List α} (h : Own e size enc w lo hi v l) (hb : Below w.heap.size w W) : Own e size enc W lo hi v l := Own.keep (Chg.below hb) (fun _ _ h => h) h
end Go.Proofs.Ytmhbfoaecebobaa
end
