/-
  casebooklaw41's great. Conditions: none.
-/
import Derived.Test.YtmhbfoaecebobaaAwk
namespace Go.Proofs.Ytmhbfoaecebobaa
set_option linter.unusedSimpArgs false
set_option linter.unusedVariables false
open Go.RowKit

theorem ent_long : Ent 24 := ent_of Try.func24 (by kernel_rfl) rfl
theorem ent_great1 : Ent 26 := ent_of Try.func26 (by kernel_rfl) rfl
set_option maxHeartbeats 400000 in
theorem long_any (a : ByteArray) (w : World) : Calls Try.prog 24 #[.string a] w fun e w' => e = .returned (.bool (decide ((100 : Int) < a.size))) ∧ Below w.heap.size w w' := by
  refine calls_cps fun R hR => ?_
  have HR := Lib.hid hR
  clear hR
  go_enter Try.func24, Try.ntmps24
  go_wp2_with fail
  exact HR.out _ _ ⟨rfl, Below.refl _ _⟩
def great1B (a : TrV) : Bool := decide (50 < lenOfV a.vi) || decide (50 < lenOfV a.vo) || decide (100 < a.label.size)
set_option maxHeartbeats 1000000 in
theorem great1_any (a : TrV) (h : ∃ A n c B m d, a.vi = .slice A n c ∧ a.vo = .slice B m d) (w : World) : Calls Try.prog 26 #[.agg #[.string a.label, a.vi, a.vo]] w fun e w' => e = .returned (.bool (great1B a)) ∧ Below w.heap.size w w' := by
  obtain ⟨A, n, c, B, m, d, hi, ho⟩ := h
  have HE : Hid (great1B a = (decide (50 < n) || decide (50 < m) || decide ((100 : Int) < a.label.size))) := Lib.hid (by
    have e : decide (100 < a.label.size) = decide ((100 : Int) < a.label.size) := by rw [decide_eq_decide]; omega
    unfold great1B; rw [hi, ho, ← e]; simp [lenOfV] <;> rfl)
  rw [hi, ho]
  clear hi ho
  have HB : Hid (Below w.heap.size w (w.alloc (.cells #[.string a.label, .slice A n c, .slice B m d] 46))) := Lib.hid ((Below.refl _ _).alloc (Nat.le_refl _) _)
  by_cases h1 : 50 < n
  · have hd1 : decide ((50 : Int) < n) = true := by simp; omega
    refine calls_cps fun R hR => ?_
    have HR := Lib.hid hR
    clear hR
    go_enter Try.func26, Try.ntmps26
    go_wp2_with fail
    exact HR.out _ _ ⟨ret_bool (by rw [HE.out, decide_eq_true h1]; rfl), HB.out⟩
  · have hd1 : decide ((50 : Int) < n) = false := by simp; omega
    by_cases h2 : 50 < m
    · have hd2 : decide ((50 : Int) < m) = true := by simp; omega
      refine calls_cps fun R hR => ?_
      have HR := Lib.hid hR
      clear hR
      go_enter Try.func26, Try.ntmps26
      go_wp2_with fail
      exact HR.out _ _ ⟨ret_bool (by rw [HE.out, decide_eq_true h2]; simp), HB.out⟩
    · have hd2 : decide ((50 : Int) < m) = false := by simp; omega
      refine calls_cps fun R hR => ?_
      have HR := Lib.hid hR
      clear hR
      go_enter Try.func26, Try.ntmps26
      go_wp2_with (go_at_call 24; refine (long_any _ _).mono ?_; rintro e w1 ⟨rfl, hb1⟩; replace HB := Lib.hid (HB.out.trans (hb1.mono HB.out.size)); clear hb1)
      exact HR.out _ _ ⟨ret_bool (by rw [HE.out, decide_eq_false h1, decide_eq_false h2]; rfl), HB.out⟩
theorem great1_in (n : List Tr) (vs : List TrV) {w : World} {lo hi : Nat} (h2 : vs.length = n.length) (h3 : ∀ k, k < n.length → (gti vs k).label = (gti n k).label ∧ RdI w lo hi (gti vs k).vi (gti n k).inn ∧ RdI w lo hi (gti vs k).vo (gti n k).out) (a : TrV) (ha : a ∈ vs) :
    ∃ A n c B m d, a.vi = .slice A n c ∧ a.vo = .slice B m d := by
  obtain ⟨k, hk, rfl⟩ := List.mem_iff_getElem.1 ha
  obtain ⟨_, hi, ho⟩ := h3 k (by omega)
  have e : gti vs k = vs[k] := by unfold gti; rw [List.getElem?_eq_getElem hk]; rfl
  rw [e] at hi ho
  obtain ⟨A, c, h1, _⟩ := hi.form
  obtain ⟨B, d, h2, _⟩ := ho.form
  exact ⟨A, _, c, B, _, d, h1, h2⟩

set_option maxRecDepth 100000 in
set_option maxHeartbeats 8000000 in
theorem great_any (n : Net) (l : List ByteArray) (lo hi lo' hi' : Nat) (vt v : Value) (w : World) (hn : RdT w lo hi vt n.trans) (hv : RdS w lo' hi' v l) :
    Calls Try.prog 9 #[netV n vt, v] w fun e w' => ∃ z, e = .returned (.bool z) ∧ Below w.heap.size w w' := by
  have HC := Lib.hid (fun (W : World) (hW : Below w.heap.size w W) => containsFS_any 24 ent_long #[] (fun a => decide ((100 : Int) < a.size)) l lo' hi' v W (hv.after hW) (fun a _ W _ => long_any a W))
  obtain ⟨vs, h1, h2, h3⟩ := hn
  have HV := Lib.hid (fun (W : World) (hW : Below w.heap.size w W) => containsFV_any 26 ent_great1 #[] great1B vs lo hi vt W (h1.after hW) (fun a ha W _ => great1_any a (great1_in n.trans vs h2 h3 a ha) W))
  obtain ⟨A, c, rfl, hc, hm⟩ := hv.form
  obtain ⟨B, d, rfl, hd, hm2⟩ := h1.form
  clear hv h1 h3 h2
  refine calls_cps fun R hR => ?_
  have HR := Lib.hid hR
  clear hR
  go_enter Try.func9, Try.ntmps9
  have M : Hid (Mem [Loc.k4 w.heap.size (.int .i64 n.places) (.slice B vs.length d) (.int .i64 n.source) (.int .i64 n.sink), Loc.bl w.heap.size w] (w.alloc (.cells #[.int .i64 n.places, .slice B vs.length d, .int .i64 n.source, .int .i64 n.sink] 24))) := Lib.hid ⟨K4.new w _ _ _ _ _, ⟨(Below.refl _ _).alloc (Nat.le_refl _) _, by simp⟩, True.intro⟩
  have hk4 := M.out.1
  have tT : vs.length ≤ 12 ∨ (12 < vs.length ∧ vs.length ≤ 60) ∨ (60 < vs.length ∧ vs.length ≤ 100) ∨ 100 < vs.length := by omega
  have tP : n.places ≤ 12 ∨ (12 < n.places ∧ n.places ≤ 40) ∨ 40 < n.places := by omega
  have tL : l.length ≤ 30 ∨ (30 < l.length ∧ l.length ≤ 200) ∨ (200 < l.length ∧ l.length ≤ 1000) ∨ 1000 < l.length := by omega
  rcases tT with t | t | t | t
  case inr.inl =>
    have d1 : decide ((12 : Int) < vs.length) = true := by simp; omega
    have d2 : decide ((vs.length : Int) ≤ 60) = true := by simp; omega
    go_wp2_with fail
    exact HR.out _ _ ⟨_, rfl, M.out.2.1.1⟩
  case inr.inr.inr =>
    have d1 : decide ((12 : Int) < vs.length) = true := by simp; omega
    have d2 : decide ((vs.length : Int) ≤ 60) = false := by simp; omega
    have d3 : decide ((100 : Int) < vs.length) = true := by simp; omega
    go_wp2_with fail
    exact HR.out _ _ ⟨_, rfl, M.out.2.1.1⟩
  case' inl =>
    have d1 : decide ((12 : Int) < vs.length) = false := by simp; omega
  case' inr.inr.inl =>
    have d1 : decide ((12 : Int) < vs.length) = true := by simp; omega
    have d2 : decide ((vs.length : Int) ≤ 60) = false := by simp; omega
  all_goals
    have d3 : decide ((100 : Int) < vs.length) = false := by simp; omega
    rcases tP with p | p | p
  all_goals first
    | (have e1 : decide ((12 : Int) < n.places) = true := by simp; omega
       have e2 : decide (n.places ≤ 40) = true := by simp; omega
       go_wp2_with fail
       exact HR.out _ _ ⟨_, rfl, M.out.2.1.1⟩)
    | (have e1 : decide ((12 : Int) < n.places) = false := by simp; omega
       skip)
    | (have e1 : decide ((12 : Int) < n.places) = true := by simp; omega
       have e2 : decide (n.places ≤ 40) = false := by simp; omega
       skip)
  all_goals rcases tL with q | q | q | q
  all_goals first
    | (have f1 : decide ((30 : Int) < l.length) = true := by simp; omega
       have f2 : decide ((l.length : Int) ≤ 200) = true := by simp; omega
       go_wp2_with fail
       exact HR.out _ _ ⟨_, rfl, M.out.2.1.1⟩)
    | (have f1 : decide ((30 : Int) < l.length) = true := by simp; omega
       have f2 : decide ((l.length : Int) ≤ 200) = false := by simp; omega
       have f3 : decide ((1000 : Int) < l.length) = true := by simp; omega
       go_wp2_with fail
       exact HR.out _ _ ⟨_, rfl, M.out.2.1.1⟩)
    | (have f1 : decide ((30 : Int) < l.length) = false := by simp; omega
       have f3 : decide ((1000 : Int) < l.length) = false := by simp; omega
       skip)
    | (have f1 : decide ((30 : Int) < l.length) = true := by simp; omega
       have f2 : decide ((l.length : Int) ≤ 200) = false := by simp; omega
       have f3 : decide ((1000 : Int) < l.length) = false := by simp; omega
       skip)
  all_goals
    obtain ⟨za, hza⟩ : ∃ z, l.any (fun a => decide ((100 : Int) < a.size)) = z := ⟨_, rfl⟩
    rw [hza] at HC
    clear hza
    cases za
    all_goals go_wp2_with (first
      | (go_at_call 23; refine (HC.out _ M.out.2.1.1).mono ?_; rintro e w1 ⟨rfl, hb1⟩; replace M := Lib.hid (M.out.below hb1); clear hb1; replace hk4 := M.out.1)
      | (go_at_call 25; refine (HV.out _ M.out.2.1.1).mono ?_; rintro e w1 ⟨rfl, hb1⟩; replace M := Lib.hid (M.out.below hb1); clear hb1; replace hk4 := M.out.1))
    all_goals exact HR.out _ _ ⟨_, rfl, M.out.2.1.1⟩
end Go.Proofs.Ytmhbfoaecebobaa
