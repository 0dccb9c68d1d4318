/-
  Walks of casebook/queue: Chain. Conditions: none.
-/
import Derived.Test.YthlgkomhnhkooaaQueue12
namespace Go.Proofs.Ythlgkomhnhkooaa
set_option linter.unusedSimpArgs false
set_option linter.unusedVariables false
open Go.RowKit

/-- a struct of one cell and a slot as the two results -/
theorem ret_C1_tmp {fn : Func} {R : Ending → World → Prop} {a : Act} {w : World} {t u : Tmp} {g : Nat} {x z : Value} (hres : fn.results = #[.cell t 42, .tmp u]) (hd : a.defers = [])
    (ht : a.tmps.getD t undef = .pointer (some ⟨g, 0, none⟩)) (hu : a.tmps.getD u undef = z) (hB : B1 w g x) (hR : R (.returned (.tuple #[.agg #[x], z])) w) : bodyPost Try.prog fn R .ret a w := by
  obtain ⟨h1, h2, h5⟩ := hB
  rw [Array.getD_eq_getD_getElem?] at ht hu
  exact bodyPost_ret (by simp only [results, hres]; simp [go_sem, ht, hu, h1]) hd hR

theorem rd_nil3 (w : World) (lo hi : Nat) : RdFF w lo hi (.slice none 0 0) [] := ⟨[], ⟨rfl, none, 0, rfl, Nat.le_refl _, by simp, fun h => by simp at h⟩, rfl, fun i u l h => by simp at h⟩

set_option maxHeartbeats 4000000 in
theorem ChainB_any (ar se : Fr) (sv cp : Int) (w : World) :
    Calls Try.prog 25 #[.agg #[.int .i64 ar.n, .int .i64 ar.d, .int .i64 se.n, .int .i64 se.d, .int .i64 sv, .int .i64 cp]] w fun e w' => ∃ v ll x, e = .returned (.tuple #[.agg #[v], .int .i64 x]) ∧ Below w.heap.size w w' ∧ RdFF w' w.heap.size w'.heap.size v ll ∧
      ((qokB ar se sv cp = false ∧ ll = [] ∧ x = 1) ∨ (∃ s c : Nat, sv = s ∧ cp = c ∧ QOk ar se s c ∧ ((x = 0 ∧ ∃ b, chainQ ar se s c = some (ll, b)) ∨ (x = 6 ∧ ll = [])))) := by
  refine calls_cps fun R hR => ?_
  have HR := Lib.hid hR
  clear hR
  go_enter Try.func25, Try.ntmps25
  go_wp2_with fail
  have M0 : Mem [Loc.k6 w.heap.size (.int .i64 ar.n) (.int .i64 ar.d) (.int .i64 se.n) (.int .i64 se.d) (.int .i64 sv) (.int .i64 cp), Loc.bl w.heap.size w] (w.alloc (.cells #[.int .i64 ar.n, .int .i64 ar.d, .int .i64 se.n, .int .i64 se.d, .int .i64 sv, .int .i64 cp] 25)) := ⟨K6.new w _ _ _ _ _ _ _, ⟨(Below.refl _ _).alloc (Nat.le_refl _) _, by simp⟩, True.intro⟩
  have r0 := K1.new (w.alloc (.cells #[.int .i64 ar.n, .int .i64 ar.d, .int .i64 se.n, .int .i64 se.d, .int .i64 sv, .int .i64 cp] 25)) (.slice none 0 0) 42
  simp only [World.size_alloc] at r0
  have M1 : Mem [Loc.k1 (w.heap.size + 1) (.slice none 0 0), Loc.k6 w.heap.size (.int .i64 ar.n) (.int .i64 ar.d) (.int .i64 se.n) (.int .i64 se.d) (.int .i64 sv) (.int .i64 cp), Loc.bl w.heap.size w] _ := ⟨r0, M0.alloc _⟩
  refine (qvalid_any ar se sv cp _).mono ?_
  rintro e w1 ⟨rfl, hb1⟩
  replace M1 := M1.below hb1
  have hz1 := hb1.size
  simp at hz1
  clear hb1 M0 r0
  cases hv : qokB ar se sv cp with
  | false =>
    have r1 := M1.1
    have HB := Lib.hid M1.2.2.1.1
    have HV := Lib.hid hv
    clear M1 hv
    go_wp2_with fail
    refine ret_C1_tmp (x := .slice none 0 0) (z := .int .i64 1) rfl rfl rfl rfl (K1.set r1 _) (HR.out _ _ ⟨_, [], 1, rfl, ?_, rd_nil3 _ _ _, .inl ⟨HV.out, rfl, rfl⟩⟩)
    have := HB.out
    (repeat (first | exact Below.refl _ _ | assumption | refine Below.setCell ?_ (by first | omega | (simp; done) | (simp; omega)) _ | refine Below.alloc ?_ (by first | omega | (simp; done) | (simp; omega)) _ | refine Below.drew ?_ | refine below_drewN ?_ _))
  | true =>
    obtain ⟨s, c, rfl, rfl, hq⟩ := QOk.of_qokB hv
    clear hv
    have q1 := M1.2.1
    go_wp2_with fail
    have k0 := K1.new w1 (.int .i64 0) 62
    replace M1 := M1.alloc (.cells #[.int .i64 0] 62)
    refine (chain_any ar se s c w1.heap.size _ k0 hq.oa hq.os ⟨hq.v1, hq.v2⟩ ⟨hq.c1, hq.c2⟩).mono ?_
    rintro e w2 ⟨v, bV, ll, b, x, rfl, c2, ho2, rr, rb, hE⟩
    replace M1 := M1.off ho2 (by (repeat' (first | exact True.intro | refine And.intro (fun k hk e => ?_) ?_)) <;> (first | exact e | ((try dsimp only [Loc.c1, Loc.c2, Loc.k1, Loc.k2, Loc.k6, Loc.rdF, Loc.rdFF, Loc.all2, Loc.fr, Loc.bl, Loc.own, Loc.sz] at hk e) <;> omega)))
    have hz2 := ho2.size
    simp at hz2 rr
    have hx : (x = 0 ∧ ∃ b, chainQ ar se s c = some (ll, b)) ∨ x = 6 := by
      rcases hE.2.2.2.2 with ⟨h1, h2⟩ | ⟨h1, h2⟩
      · exact .inl ⟨h1, b, h2⟩
      · exact .inr h1
    obtain ⟨A, cc, rfl, _, _⟩ := rr.form
    have HX := Lib.hid hx
    have HQ := Lib.hid hq
    have RR := Lib.hid rr
    have r1 := M1.1
    have HM := Lib.hid M1
    clear hE hx hq rr rb ho2 k0 q1 M1
    by_cases h0 : x = 0
    · subst h0
      have hs : ∃ b, chainQ ar se s c = some (ll, b) := by
        rcases HX.out with ⟨_, h⟩ | h
        · exact h
        · cases h
      have HS := Lib.hid hs
      clear hs
      go_wp2_with fail
      refine ret_C1_tmp (x := .slice A ll.length cc) (z := .int .i64 0) rfl rfl rfl rfl (K1.set r1 _) (HR.out _ _ ⟨_, ll, 0, rfl, ?_, ?_, .inr ⟨s, c, rfl, rfl, HQ.out, .inl ⟨rfl, HS.out⟩⟩⟩)
      · have := HM.out.2.2.1.1
        (repeat (first | exact Below.refl _ _ | assumption | refine Below.setCell ?_ (by first | omega | (simp; done) | (simp; omega)) _ | refine Below.alloc ?_ (by first | omega | (simp; done) | (simp; omega)) _ | refine Below.drew ?_ | refine below_drewN ?_ _))
      · refine RdFF.mono (lo := w1.heap.size + 1) (hi := w2.heap.size) ?_ (by omega) (by rw [size_setCell]; exact Nat.le_refl _)
        exact RR.out.off ((Off.refl (w.heap.size + 1) _ w2).setCell (p := ⟨w.heap.size + 1, 0, none⟩) (Or.inr rfl) _) (by omega)
    · have hx6 : x = 6 := by
        rcases HX.out with ⟨h, _⟩ | h
        · exact absurd h h0
        · exact h
      subst hx6
      clear h0
      go_wp2_with fail
      go_region
      all_goals
        go_wp2_with fail
        refine ret_C1_tmp (x := .slice none 0 0) (z := .int .i64 6) rfl rfl rfl rfl (K1.set r1 _) (HR.out _ _ ⟨_, [], 6, rfl, ?_, rd_nil3 _ _ _, .inr ⟨s, c, rfl, rfl, HQ.out, .inr ⟨rfl, rfl⟩⟩⟩)
        have := HM.out.2.2.1.1
        (repeat (first | exact Below.refl _ _ | assumption | refine Below.setCell ?_ (by first | omega | (simp; done) | (simp; omega)) _ | refine Below.alloc ?_ (by first | omega | (simp; done) | (simp; omega)) _ | refine Below.drew ?_ | refine below_drewN ?_ _))

end Go.Proofs.Ythlgkomhnhkooaa
