/-
  QueueServers, for every queue and fraction: Servers returns the number of the reference, or the specified errors. Conditions: none.
-/
import Derived.Test.YthlgkomhnhkooaaQServ
import Derived.Test.YthlgkomhnhkooaaQLaw1
import Derived.Test.YthlgkomhnhkooaaRow
namespace Go.Proofs.Ythlgkomhnhkooaa
set_option linter.unusedSimpArgs false
set_option linter.unusedVariables false
open Go.ChangeShapes Go.WideShapes Go.ChangeAt Go.RowKit

set_option maxHeartbeats 4000000 in
theorem lawServers_any (ar se : Fr) (sv cp : Int) (loss : Fr) (w : World) :
    Calls Try.prog 7 #[.agg #[.int .i64 ar.n, .int .i64 ar.d, .int .i64 se.n, .int .i64 se.d, .int .i64 sv, .int .i64 cp], .agg #[.int .i64 (loss).n, .int .i64 (loss).d]] w fun e w' => e = .returned (.bool true) ∧ Below w.heap.size w w' := by
  refine calls_cps fun R hR => ?_
  have HR := Lib.hid hR
  clear hR
  go_enter Try.func7, Try.ntmps7
  go_wp2_with fail
  have q0 := K6.alloc (K6.new w (.int .i64 ar.n) (.int .i64 ar.d) (.int .i64 se.n) (.int .i64 se.d) (.int .i64 sv) (.int .i64 cp) 25) (.cells #[.int .i64 loss.n, .int .i64 loss.d] 23)
  have l0 := K2.new (w.alloc (.cells #[.int .i64 ar.n, .int .i64 ar.d, .int .i64 se.n, .int .i64 se.d, .int .i64 sv, .int .i64 cp] 25)) (.int .i64 loss.n) (.int .i64 loss.d) 23
  simp only [World.size_alloc] at l0
  have M0 : Mem [Loc.k2 (w.heap.size + 1) (.int .i64 loss.n) (.int .i64 loss.d), Loc.k6 w.heap.size (.int .i64 ar.n) (.int .i64 ar.d) (.int .i64 se.n) (.int .i64 se.d) (.int .i64 sv) (.int .i64 cp), Loc.bl w.heap.size w] _ := ⟨l0, q0, ⟨((Below.refl _ w).alloc (Nat.le_refl _) (.cells #[.int .i64 ar.n, .int .i64 ar.d, .int .i64 se.n, .int .i64 se.d, .int .i64 sv, .int .i64 cp] 25)).alloc (by simp) _, by simp; omega⟩, True.intro⟩
  refine (awake_any _).mono ?_
  rintro e w1 ⟨rfl, hb1⟩
  replace M0 := M0.below hb1
  clear hb1 l0 q0
  have l0 := M0.1
  have q0 := M0.2.1
  go_wp2_with fail
  refine (Servers_any ar se sv cp loss _).mono ?_
  rintro e w2 ⟨rfl, hb2⟩
  generalize hS : servA ar se sv cp loss = S
  have HS := Lib.hid hS
  clear hS
  replace M0 := M0.below hb2
  clear hb2 l0 q0
  have l0 := M0.1
  have q0 := M0.2.1
  go_wp2_with fail
  refine (rServers_any ar se sv cp loss _).mono ?_
  rintro e w3 ⟨rfl, hb3⟩
  rw [HS.out]
  have HM := Lib.hid (M0.below hb3)
  clear hb3 l0 q0 M0
  go_wp2_with fail
  exact HR.out _ _ ⟨rfl, HM.out.2.2.1.1⟩

set_option maxRecDepth 100000 in
theorem queueServers_lifted (os : Os) (started : os.Started) (H : Type) (enc : TypeId × Value → H) :
    ReturnsInHanded {} Try.checked os 7 .any (Rows.queueServersSpec.pre6 enc Try.prog Try.f7 Rows.queueServersRow.domain false) (Rows.queueServersSpec.post enc Try.prog Try.f7 false true false false) := by
  refine returnsInHanded_of_change (C := Try.checked) own_knob started (by kernel_rfl) Try.func7
    (ChangeSpec.witness6 (enc := enc) (C := Try.checked) false ⟨#[], #[.agg #[.int .i64 0, .int .i64 0, .int .i64 0, .int .i64 0, .int .i64 0, .int .i64 0], .agg #[.int .i64 0, .int .i64 0]], []⟩ 8 (by kernel_rfl) (by kernel_rfl) (by kernel_rfl) (by kernel_rfl)) ?_
  intro W base args ds gs before hval0 hW hcnd _
  have hval : ∀ (j : Nat) t v, Try.f7.params[j]? = some t → args[j]? = some v → Value.okWide Try.prog W .any base t v := hval0
  have hW' := hW
  obtain ⟨p, q, hA0, hV, rfl, hfz, hnd⟩ := hW
  have hA : DataW.TrodAll enc Try.prog W 0 (fun _ => true) true Try.f7.params.toList args.toList ds p := hA0
  rw [Try.params7] at hA hval
  obtain ⟨v0, v1, d0, d1, p0, p1, rfl, rfl, rfl, h0, h1⟩ := trodAll_two hA
  obtain ⟨rfl, rfl⟩ := trodVars_none hV
  obtain ⟨ar, se, sv, cp, rfl⟩ := open_queue (hval 0 25 v0 rfl rfl) h0
  obtain ⟨loss, rfl⟩ := open_frac (hval 1 23 v1 rfl rfl) h1
  simp only [List.append_nil] at hW'
  refine (lawServers_any ar se sv cp loss W).mono fun e W' ⟨he, hb⟩ => ?_
  subst he
  exact ⟨_, rfl, law_post (t := 4) hW' (by kernel_rfl) Try.underlying4 ⟨rfl, rfl, rfl⟩ rfl (trodAll_mk2 (Below.trod laid_out (by kernel_rfl) (of_decide_eq_true (by kernel_rfl)) h0 hb (fun x hx => hW'.lt x (List.mem_append_left _ hx))) (Below.trod laid_out (by kernel_rfl) (of_decide_eq_true (by kernel_rfl)) h1 hb (fun x hx => hW'.lt x (List.mem_append_right _ hx)))) hb⟩

theorem queueServers_holds : Rows.QueueServersSaid :=
  OpenClaim.holds_of_wide 7 Try.f7 rfl rfl rfl rfl rfl rfl rfl ⟨rfl, rfl, rfl, rfl, rfl⟩ rfl rfl rfl rfl rfl (by kernel_rfl) Try.func7 (by kernel_rfl)
    (of_decide_eq_true (by kernel_rfl)) (by unfold Func.isWrapper; first | (rw [if_pos (by decide +kernel)]; kernel_rfl) | (rw [if_neg (by decide +kernel)]; exact ⟨rfl, rfl⟩))
    (fun os started H enc _ => queueServers_lifted os started H enc)

#print axioms queueServers_holds

end Go.Proofs.Ythlgkomhnhkooaa
