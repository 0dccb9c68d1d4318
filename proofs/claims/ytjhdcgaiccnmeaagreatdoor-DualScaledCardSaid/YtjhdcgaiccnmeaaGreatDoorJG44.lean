import Derived.Test.YtjhdcgaiccnmeaaGreatDoorJG43
import Derived.Test.YtjhdcgaiccnmeaaGreatDoorJG35
import Derived.Test.YtjhdcgaiccnmeaaGreatDoorJG20
set_option linter.unusedSimpArgs false
set_option linter.unusedVariables false
set_option linter.unusedSectionVars false
section
namespace Go.Proofs.YtjhdcgaiccnmeaaGreatDoor.Aw
open Go Go.RowKit Go.Proofs Go.Maps Go.WideMaps Dl
variable {P : Program} [IsP P]
def eU8 (n : Int) : AV := .s (.int .u8 n)
theorem indexFI_pf (f : FuncId) (caps : List AV) (p : Int → Bool) (l : List Int) (hlo : ∀ a : Int, Lo 0 (eI a)) (hlc : Lo 0 (.fn f caps)) (hf : ∀ a ∈ l, Pure P f ([eI a] ++ caps) (eB (p a))) :
  Pure P 79 [eL eI l, .fn f caps] (eI (zc1 p l)) := by
 refine zbb (by rw [IsP.eq (P := P)]; exact Tryz.func79) rfl rfl rfl rfl rfl (zah (zaq hlo) (zah hlc zap)) (.s _) (by simp only [argF]; rfl) ?_
 refine aw_bdm (d := 0) rfl (fun hmx => ?_)
 unfold maxLen at hmx
 refine zaf (zae (zbe rfl (zaj (zaf (zaf (zae (zbe rfl (zab rfl rfl (zaa rfl) (za2 rfl ts29 rfl) (zbe rfl (zaj (zak (zac ?_))))))))))))
 refine zdc (S := Nat) (fun k => [(0, eL eI l), (1, .fn f caps), (7, eI l.length), (8, eI k)]) (fun _ => []) (fun k => k ≤ l.length ∧ ∀ j a, j < k → l[j]? = some a → p a = false) (fun k => l.length - k) 0 (zdk _ ⟨rfl, rfl, rfl, rfl, trivial⟩) ⟨by omega, fun j a hj => by omega⟩ (fun k hk => ?_)
 refine zaf (zae (zab rfl rfl (zaa rfl) (zb3 rfl rfl rfl) (zaj (zaf ?_))))
 refine aw_if rfl (fun h => ?_) (fun h => ?_)
 ·
  have hlt : k < l.length := by omega
  refine zad (zaf (zac (zaf (zae (zbe rfl (zbe rfl (zaj (zaf ?_))))))))
  have hp := hf (gti l k) (gti_mem hlt)
  refine zae (zbe rfl (zbe rfl (zbe rfl (zab rfl rfl (zaa rfl) (za1 rfl ts29 ti3 rfl rfl rfl (zcw (by omega)) rfl) (zbk ta3 rfl (zab rfl rfl (zaa rfl) (zav rfl rfl (hp) (zar rfl za0)) (zaj (zak ?_))))))))
  refine aw_cond rfl (fun h => ?_) (fun h => ?_)
  ·
   refine zaf (zae (zbe rfl (zbe rfl (zaj (zak ?_)))))
   (refine zbd ?_; repeat (first | refine zbn ?_ | refine zbo ?_))
   exact zcb (.inr rfl) rfl (congrArg eI (zcs (zbu hlt) h hk.2).symm)
  ·
   refine zad (zal (zak (zae (zab rfl rfl (zaa rfl) (zbj rfl rfl rfl (IntWalk.i64_in _ (by omega))) (zbe rfl (zaj (zak ?_)))))))
   refine ⟨k + 1, ⟨by omega, fun j a hj ha => ?_⟩, by omega, zdk _ ⟨rfl, rfl, rfl, rfl, trivial⟩⟩
   by_cases e : j = k
   ·
    subst e
    rw [zbu hlt] at ha
    cases ha
    exact h
   ·
    exact hk.2 j a (by omega) ha
 ·
  (refine zdd ?_; repeat (first | refine ath_x ?_ | refine zco ?_ | refine zce rfl ?_ | refine zal ?_ | refine zak ?_ | refine zaf ?_ | refine zad ?_ | refine zac ?_))
  refine zae (zbe rfl (zaj (zak ?_)))
  (refine zbd ?_; repeat (first | refine zbn ?_ | refine zbo ?_))
  exact zcb (.inr rfl) rfl (congrArg eI (zcz (fun j a hj ha => hk.2 j a (by omega) ha)).symm)
theorem containsFI_pf (f : FuncId) (caps : List AV) (p : Int → Bool) (l : List Int) (hlo : ∀ a : Int, Lo 0 (eI a)) (hlc : Lo 0 (.fn f caps)) (hf : ∀ a ∈ l, Pure P f ([eI a] ++ caps) (eB (p a))) :
  Pure P 26 [eL eI l, .fn f caps] (eB (l.any p)) := by
 refine zbb (by rw [IsP.eq (P := P)]; exact Tryz.func26) rfl rfl rfl rfl rfl (zah (zaq hlo) (zah hlc zap)) (.s _) (by simp only [argF]; rfl) ?_
 have hi := indexFI_pf f caps p l hlo hlc hf
 refine zaf (zae (zbe rfl (zaj (zaf (zae (zbe rfl (zbe rfl (zab rfl rfl (zaa rfl) (zav rfl rfl (hi) (zar rfl (zar rfl za0))) (zab rfl rfl (zaa rfl) (does_geq rfl rfl rfl) (zbe rfl (zaj (zak ?_))))))))))))
 (refine zbd ?_; repeat (first | refine zbn ?_ | refine zbo ?_))
 exact zcb (.inr rfl) rfl (congrArg eB (zc0 p l))
def bigA (a : Fr) : Bool := if a.d ≠ 1 ∨ a.n < -1000 ∨ a.n > 1000 then true else false
def bigQ (q : Int) : Bool := if q < 0 ∨ q > 100000 then true else false
theorem bigA_pf (a : Fr) : Pure P 25 [eF a] (eB (bigA a)) := by
 obtain ⟨R, hR⟩ : ∃ R, bigA a = R := ⟨_, rfl⟩
 rw [hR]
 refine zbb (by rw [IsP.eq (P := P)]; exact Tryz.func25) rfl rfl rfl rfl rfl (zah (lo_Fr a) zap) (.s _) (by simp only [argF]; rfl) ?_
 refine zaf (zae (zab rfl rfl (zaa rfl) (zb1 rfl rfl rfl rfl) ?_))
 refine za5 (zbv (id := 0) rfl) (za5 (zcf (d := 1) rfl rfl rfl) ?_)
 refine zbe rfl (zaj (zaf ?_))
 by_cases h1 : a.d ≠ 1
 ·
  refine zae (zbq tf56_1 rfl (zbk ta3 rfl (zab rfl rfl (zaa rfl) (zck h1 (zb0 rfl rfl rfl)) (zbe rfl (zbf rfl (zbf rfl (zbf rfl (zbe rfl (zbe rfl (zbf rfl (zbf rfl (zbf rfl (zbe rfl (zbe rfl (zaj (zak ?_))))))))))))))))
  (refine zbd ?_; repeat (first | refine zbn ?_ | refine zbo ?_))
  exact zcb (.inr rfl) rfl (congrArg eB (show true = R by rw [← hR]; exact (if_pos (.inl h1)).symm))
 by_cases h2 : a.n < -1000
 ·
  refine zae (zbq tf56_1 rfl (zbk ta3 rfl (zab rfl rfl (zaa rfl) (zc7 h1 (zb0 rfl rfl rfl)) (zbe rfl (zbq tf56_0 rfl (zbk ta3 rfl (zab rfl rfl (zau rfl rfl rfl) (zck h2 (zb3 rfl rfl rfl)) (zbe rfl (zbe rfl (zbf rfl (zbf rfl (zbf rfl (zbe rfl (zbe rfl (zaj (zak ?_))))))))))))))))
  (refine zbd ?_; repeat (first | refine zbn ?_ | refine zbo ?_))
  exact zcb (.inr rfl) rfl (congrArg eB (show true = R by rw [← hR]; exact (if_pos (.inr (.inl h2))).symm))
 by_cases h3 : a.n > 1000
 ·
  refine zae (zbq tf56_1 rfl (zbk ta3 rfl (zab rfl rfl (zaa rfl) (zc7 h1 (zb0 rfl rfl rfl)) (zbe rfl (zbq tf56_0 rfl (zbk ta3 rfl (zab rfl rfl (zau rfl rfl rfl) (zc7 h2 (zb3 rfl rfl rfl)) (zbe rfl (zbe rfl (zbq tf56_0 rfl (zbk ta3 rfl (zab rfl rfl (zau rfl rfl rfl) (zck h3 (zb6 rfl rfl rfl)) (zbe rfl (zbe rfl (zaj (zak ?_))))))))))))))))
  (refine zbd ?_; repeat (first | refine zbn ?_ | refine zbo ?_))
  exact zcb (.inr rfl) rfl (congrArg eB (show true = R by rw [← hR]; exact (if_pos (.inr (.inr h3))).symm))
 ·
  refine zae (zbq tf56_1 rfl (zbk ta3 rfl (zab rfl rfl (zaa rfl) (zc7 h1 (zb0 rfl rfl rfl)) (zbe rfl (zbq tf56_0 rfl (zbk ta3 rfl (zab rfl rfl (zau rfl rfl rfl) (zc7 h2 (zb3 rfl rfl rfl)) (zbe rfl (zbe rfl (zbq tf56_0 rfl (zbk ta3 rfl (zab rfl rfl (zau rfl rfl rfl) (zc7 h3 (zb6 rfl rfl rfl)) (zbe rfl (zbe rfl (zaj (zak ?_))))))))))))))))
  (refine zbd ?_; repeat (first | refine zbn ?_ | refine zbo ?_))
  exact zcb (.inr rfl) rfl (congrArg eB (show false = R by rw [← hR]; exact (if_neg (fun h => h.elim h1 (fun h => h.elim h2 h3))).symm))
theorem bigQ_pf (q : Int) : Pure P 27 [eI q] (eB (bigQ q)) := by
 obtain ⟨R, hR⟩ : ∃ R, bigQ q = R := ⟨_, rfl⟩
 rw [hR]
 refine zbb (by rw [IsP.eq (P := P)]; exact Tryz.func27) rfl rfl rfl rfl rfl (zah (.s _) zap) (.s _) (by simp only [argF]; rfl) ?_
 refine zaf (zae (zbe rfl (zaj (zaf ?_))))
 by_cases h1 : q < 0
 ·
  refine zae (zbe rfl (zab rfl rfl (zaa rfl) (zck h1 (zb3 rfl rfl rfl)) (zbe rfl (zbf rfl (zbf rfl (zbe rfl (zbe rfl (zaj (zak ?_)))))))))
  (refine zbd ?_; repeat (first | refine zbn ?_ | refine zbo ?_))
  exact zcb (.inr rfl) rfl (congrArg eB (show true = R by rw [← hR]; exact (if_pos (.inl h1)).symm))
 by_cases h2 : q > 100000
 ·
  refine zae (zbe rfl (zab rfl rfl (zaa rfl) (zc7 h1 (zb3 rfl rfl rfl)) (zbe rfl (zbe rfl (zab rfl rfl (zau rfl rfl rfl) (zck h2 (zb6 rfl rfl rfl)) (zbe rfl (zbe rfl (zaj (zak ?_)))))))))
  (refine zbd ?_; repeat (first | refine zbn ?_ | refine zbo ?_))
  exact zcb (.inr rfl) rfl (congrArg eB (show true = R by rw [← hR]; exact (if_pos (.inr h2)).symm))
 ·
  refine zae (zbe rfl (zab rfl rfl (zaa rfl) (zc7 h1 (zb3 rfl rfl rfl)) (zbe rfl (zbe rfl (zab rfl rfl (zau rfl rfl rfl) (zc7 h2 (zb6 rfl rfl rfl)) (zbe rfl (zbe rfl (zaj (zak ?_)))))))))
  (refine zbd ?_; repeat (first | refine zbn ?_ | refine zbo ?_))
  exact zcb (.inr rfl) rfl (congrArg eB (show false = R by rw [← hR]; exact (if_neg (fun h => h.elim h1 h2)).symm))
theorem integer44_pf (x : Int) : Pure P 28 [eI x] (eF (Fr.of x)) := by
 have hof := rOf_pf (P := P) x
 refine zbb (by rw [IsP.eq (P := P)]; exact Tryz.func28) rfl rfl rfl rfl rfl (zah (.s _) zap) (lo_Fr _) (by simp only [argF]; rfl) ?_
 refine zaf (zae (zab rfl rfl (zaa rfl) (zbi rfl ti56 rfl rfl) (zaj (zaf (zae (zbe rfl (zab rfl rfl (zaa rfl) (zav rfl rfl (hof) (zar rfl za0)) (zbx rfl (zaa rfl) (za7 rfl ti56 rfl rfl rfl rfl rfl rfl (by decide) (by decide)) (zaj (zak ?_))))))))))
 (refine zbd ?_; repeat (first | refine zbn ?_ | refine zbo ?_))
 exact post_c (.inr rfl) ta56 ti56 rfl rfl rfl rfl rfl (.refl _)
abbrev mPot (k : Int) (l : List Int) (j : Nat) : List AV := (l.take j).map fun x => eI (k * x)
abbrev mDu (k : Int) (l : List Fr) (j : Nat) : List AV := (l.take j).map fun a => eF (Fr.of (k * a.n))
theorem mPot_s (k : Int) {l : List Int} {j : Nat} (h : j < l.length) : mPot k l (j + 1) = mPot k l j ++ [eI (k * gti l j)] := by
 unfold mPot; rw [take_snoc h, List.map_append]; rfl
theorem mDu_s (k : Int) {l : List Fr} {j : Nat} (h : j < l.length) : mDu k l (j + 1) = mDu k l j ++ [eF (Fr.of (k * (gti l j).n))] := by
 unfold mDu; rw [take_snoc h, List.map_append]; rfl
theorem lo_mPot (k : Int) (l : List Int) (j : Nat) {i : Nat} : ∀ e ∈ mPot k l j, ∀ c ∈ e.cells, Lo i c := by unfold mPot; exact zan (fun _ => (Lo.s _).cells)
theorem lo_mDu (k : Int) (l : List Fr) (j : Nat) {i : Nat} : ∀ e ∈ mDu k l j, ∀ c ∈ e.cells, Lo i c := by unfold mDu; exact zan (fun a => (lo_Fr _).cells)
theorem mPot_len (k : Int) {l : List Int} {j : Nat} (h : j ≤ l.length) : (mPot k l j).length = j := by unfold mPot; rw [List.length_map, List.length_take]; omega
theorem mDu_len (k : Int) {l : List Fr} {j : Nat} (h : j ≤ l.length) : (mDu k l j).length = j := by unfold mDu; rw [List.length_map, List.length_take]; omega
set_option maxHeartbeats 4000000 in
theorem dualScaled_pf (n : Net) (w : List ByteArray) (c : Cst) (cost : Int) (p : Prf) (times : { x : Int // 0 ≤ x ∧ x ≤ 255 }) : Pure P 5 [eN n, eL eS w, eC c, eI cost, ePf p, eU8 times.1] (eB true) := by
 obtain ⟨times, ht1, ht2⟩ := times
 have haw := awake44 (P := P)
 have hsm := small_pf (P := P) n w
 have hfw := few_pf (P := P) p
 have hfa := containsFF_pf (P := P) 25 [] bigA p.duals (fun a => lo_Fr a) (.fn _ _ zap) (fun a _ => bigA_pf a)
 have hfq := containsFI_pf (P := P) 27 [] bigQ p.pots (fun a => .s _) (.fn _ _ zap) (fun a _ => bigQ_pf a)
 have hck := dCheck_pf (P := P) n w c cost p
 have hsb : smallB n w = true → n.trans.length ≤ 8 ∧ w.length ≤ 6 ∧ (n.places ≤ 8 ∨ 40 < n.places) := fun h => by
  have : ¬ (¬ ((n.places ≤ 8 ∨ 40 < n.places) ∧ n.trans.length ≤ 8 ∧ n.trans.any bigT = false ∧ w.length ≤ 6 ∧ w.any bigS = false)) := fun h2 => by rw [smallB_f h2] at h; cases h
  have := Decidable.not_not.1 this
  exact ⟨this.2.1, this.2.2.2.1, this.1⟩
 have hda : p.duals.any bigA = false → ∀ a ∈ p.duals, a.d = 1 ∧ -1000 ≤ a.n ∧ a.n ≤ 1000 := fun h a ha => by
  have h1 := List.any_eq_false.1 h a ha
  unfold bigA at h1
  split at h1
  ·
   exact absurd rfl h1
  ·
   omega
 have hqa : p.pots.any bigQ = false → ∀ q ∈ p.pots, 0 ≤ q ∧ q ≤ 100000 := fun h q hq => by
  have h1 := List.any_eq_false.1 h q hq
  unfold bigQ at h1
  split at h1
  ·
   exact absurd rfl h1
  ·
   omega
 have hln : Lo 0 (.ref (eN n).cells) := .ref _ (lo_N n).cells
 have hlp : Lo 0 (.ref (ePf p).cells) := lo_zero p
 have hlc : Lo 0 (.ref (eC c).cells) := .ref _ (lo_C c).cells
 have hcv : checkE n w c cost p = true → VD n w p := fun h => by
  unfold checkE at h
  simp only [Bool.and_eq_true, decide_eq_true_eq] at h
  exact vdB_iff.1 h.2.1
 have hsc := fun k (h : ScOk n w c p k) (hc : checkE n w c cost p = true) => check_sc h hc
 generalize smallB n w = b1 at hsm hsb
 generalize fewB p = b2 at hfw
 generalize p.duals.any bigA = b3 at hfa hda
 generalize p.pots.any bigQ = b4 at hfq hqa
 generalize checkE n w c cost p = b5 at hck hcv hsc
 refine zbb (by rw [IsP.eq (P := P)]; exact Tryz.func5) rfl rfl rfl rfl rfl (zah (lo_N n) (zah (lo_W w) (zah (lo_C c) (zah (.s _) (zah (lo_Pf p) (zah (.s _) zap)))))) (.s _) (by simp only [argF]; rfl) ?_
 refine zaf (zae (zab rfl rfl (zaa rfl) (zb1 rfl rfl rfl rfl) ?_))
 refine za5 (zbv (id := 0) rfl) (za5 (zcf (d := 6) rfl rfl rfl) ?_)
 refine zab rfl rfl (zaa rfl) (zb1 rfl rfl rfl rfl) ?_
 refine za5 (zbv (id := 1) rfl) (za5 (zcf (d := 8) rfl rfl rfl) ?_)
 refine zab rfl rfl (zaa rfl) (zb1 rfl rfl rfl rfl) ?_
 refine za5 (zbv (id := 2) rfl) (za5 (zcf (d := 10) rfl rfl rfl) ?_)
 refine zbe rfl (zaj (zaf (zaf ?_)))
 cases b1 with
 | false =>
  refine zae (zab rfl rfl (zaa rfl) (zav rfl rfl (haw) za0) (zab rfl rfl (zaa rfl) (zbh rfl rfl) (zbe rfl (zb2 ta24 ti24 rfl (zbe rfl (zab rfl rfl (zau rfl rfl rfl) (zav rfl rfl (hsm) (zar rfl (zar rfl za0))) (zab rfl rfl (zau rfl rfl rfl) (zbh rfl rfl) (zbe rfl (zbe rfl (zbf rfl (zbf rfl (zbf rfl (zbe rfl (zbe rfl (zbf rfl (zbf rfl (zbe rfl (zbe rfl (zbf rfl (zbf rfl (zbe rfl (zbe rfl (zbf rfl (zbf rfl (zbf rfl (zbe rfl (zbe rfl (zbf rfl (zbf rfl ?_)))))))))))))))))))))))))))))
  refine zbf rfl (zbe rfl (zaj (zak (zbl rfl (zaf (zae (zab rfl rfl (zaa rfl) (zav rfl rfl (haw) za0) (zbe rfl (zaj (zak ?_))))))))))
  (refine zbd ?_; repeat (first | refine zbn ?_ | refine zbo ?_))
  exact zcb (.inr rfl) rfl rfl
 | true =>
 cases b2 with
 | false =>
  refine zae (zab rfl rfl (zaa rfl) (zav rfl rfl (haw) za0) (zab rfl rfl (zaa rfl) (zbh rfl rfl) (zbe rfl (zb2 ta24 ti24 rfl (zbe rfl (zab rfl rfl (zau rfl rfl rfl) (zav rfl rfl (hsm) (zar rfl (zar rfl za0))) (zab rfl rfl (zau rfl rfl rfl) (zbh rfl rfl) (zbe rfl (zbe rfl (zb2 ta32 ti32 rfl (zab rfl rfl (zau rfl rfl rfl) (zav rfl rfl (hfw) (zar rfl za0)) (zab rfl rfl (zau rfl rfl rfl) (zbh rfl rfl) (zbe rfl (zbe rfl (zbf rfl (zbf rfl (zbe rfl (zbe rfl (zbf rfl ?_)))))))))))))))))))
  refine zbf rfl (zbe rfl (zbe rfl (zbf rfl (zbf rfl (zbf rfl (zbe rfl (zbe rfl (zbf rfl (zbf rfl (zbf rfl (zbe rfl (zaj (zak (zbl rfl (zaf (zae (zab rfl rfl (zaa rfl) (zav rfl rfl (haw) za0) (zbe rfl (zaj (zak ?_))))))))))))))))))))
  (refine zbd ?_; repeat (first | refine zbn ?_ | refine zbo ?_))
  exact zcb (.inr rfl) rfl rfl
 | true =>
 by_cases hc0 : cost < 0
 ·
  refine zae (zab rfl rfl (zaa rfl) (zav rfl rfl (haw) za0) (zab rfl rfl (zaa rfl) (zbh rfl rfl) (zbe rfl (zb2 ta24 ti24 rfl (zbe rfl (zab rfl rfl (zau rfl rfl rfl) (zav rfl rfl (hsm) (zar rfl (zar rfl za0))) (zab rfl rfl (zau rfl rfl rfl) (zbh rfl rfl) (zbe rfl (zbe rfl (zb2 ta32 ti32 rfl (zab rfl rfl (zau rfl rfl rfl) (zav rfl rfl (hfw) (zar rfl za0)) (zab rfl rfl (zau rfl rfl rfl) (zbh rfl rfl) (zbe rfl (zbe rfl (zbe rfl (zab rfl rfl (zau rfl rfl rfl) (zck hc0 (zb3 rfl rfl rfl)) ?_))))))))))))))))
  refine zbe rfl (zbe rfl (zbf rfl (zbf rfl (zbe rfl (zbe rfl (zbf rfl (zbf rfl (zbf rfl (zbe rfl (zbe rfl (zbf rfl (zbf rfl (zbf rfl (zbe rfl (zaj (zak (zbl rfl (zaf (zae (zab rfl rfl (zaa rfl) (zav rfl rfl (haw) za0) (zbe rfl (zaj (zak ?_)))))))))))))))))))))))
  (refine zbd ?_; repeat (first | refine zbn ?_ | refine zbo ?_))
  exact zcb (.inr rfl) rfl rfl
 by_cases hc1 : cost > 100000
 ·
  refine zae (zab rfl rfl (zaa rfl) (zav rfl rfl (haw) za0) (zab rfl rfl (zaa rfl) (zbh rfl rfl) (zbe rfl (zb2 ta24 ti24 rfl (zbe rfl (zab rfl rfl (zau rfl rfl rfl) (zav rfl rfl (hsm) (zar rfl (zar rfl za0))) (zab rfl rfl (zau rfl rfl rfl) (zbh rfl rfl) (zbe rfl (zbe rfl (zb2 ta32 ti32 rfl (zab rfl rfl (zau rfl rfl rfl) (zav rfl rfl (hfw) (zar rfl za0)) (zab rfl rfl (zau rfl rfl rfl) (zbh rfl rfl) (zbe rfl (zbe rfl (zbe rfl (zab rfl rfl (zau rfl rfl rfl) (zc7 hc0 (zb3 rfl rfl rfl)) ?_))))))))))))))))
  refine zbe rfl (zbe rfl (zbe rfl (zab rfl rfl (zau rfl rfl rfl) (zck hc1 (zb6 rfl rfl rfl)) (zbe rfl (zbe rfl (zbf rfl (zbf rfl (zbf rfl (zbe rfl (zbe rfl (zbf rfl (zbf rfl (zbf rfl (zbe rfl (zaj (zak (zbl rfl (zaf (zae (zab rfl rfl (zaa rfl) (zav rfl rfl (haw) za0) (zbe rfl (zaj (zak ?_)))))))))))))))))))))))
  (refine zbd ?_; repeat (first | refine zbn ?_ | refine zbo ?_))
  exact zcb (.inr rfl) rfl rfl
 cases b3 with
 | true =>
  refine zae (zab rfl rfl (zaa rfl) (zav rfl rfl (haw) za0) (zab rfl rfl (zaa rfl) (zbh rfl rfl) (zbe rfl (zb2 ta24 ti24 rfl (zbe rfl (zab rfl rfl (zau rfl rfl rfl) (zav rfl rfl (hsm) (zar rfl (zar rfl za0))) (zab rfl rfl (zau rfl rfl rfl) (zbh rfl rfl) (zbe rfl (zbe rfl (zb2 ta32 ti32 rfl (zab rfl rfl (zau rfl rfl rfl) (zav rfl rfl (hfw) (zar rfl za0)) (zab rfl rfl (zau rfl rfl rfl) (zbh rfl rfl) (zbe rfl (zbe rfl (zbe rfl (zab rfl rfl (zau rfl rfl rfl) (zc7 hc0 (zb3 rfl rfl rfl)) ?_))))))))))))))))
  refine zbe rfl (zbe rfl (zbe rfl (zab rfl rfl (zau rfl rfl rfl) (zc7 hc1 (zb6 rfl rfl rfl)) (zbe rfl (zbe rfl (zbq tf32_2 rfl (zbk ta30 rfl (zab rfl rfl (zau rfl rfl rfl) (zav rfl rfl (hfa) (zar rfl (zar rfl za0))) (zbe rfl (zbe rfl (zbf rfl (zbf rfl (zbf rfl (zbe rfl (zaj (zak (zbl rfl (zaf (zae (zab rfl rfl (zaa rfl) (zav rfl rfl (haw) za0) (zbe rfl (zaj (zak ?_)))))))))))))))))))))))
  (refine zbd ?_; repeat (first | refine zbn ?_ | refine zbo ?_))
  exact zcb (.inr rfl) rfl rfl
 | false =>
 cases b4 with
 | true =>
  refine zae (zab rfl rfl (zaa rfl) (zav rfl rfl (haw) za0) (zab rfl rfl (zaa rfl) (zbh rfl rfl) (zbe rfl (zb2 ta24 ti24 rfl (zbe rfl (zab rfl rfl (zau rfl rfl rfl) (zav rfl rfl (hsm) (zar rfl (zar rfl za0))) (zab rfl rfl (zau rfl rfl rfl) (zbh rfl rfl) (zbe rfl (zbe rfl (zb2 ta32 ti32 rfl (zab rfl rfl (zau rfl rfl rfl) (zav rfl rfl (hfw) (zar rfl za0)) (zab rfl rfl (zau rfl rfl rfl) (zbh rfl rfl) (zbe rfl (zbe rfl (zbe rfl (zab rfl rfl (zau rfl rfl rfl) (zc7 hc0 (zb3 rfl rfl rfl)) ?_))))))))))))))))
  refine zbe rfl (zbe rfl (zbe rfl (zab rfl rfl (zau rfl rfl rfl) (zc7 hc1 (zb6 rfl rfl rfl)) (zbe rfl (zbe rfl (zbq tf32_2 rfl (zbk ta30 rfl (zab rfl rfl (zau rfl rfl rfl) (zav rfl rfl (hfa) (zar rfl (zar rfl za0))) (zbe rfl (zbe rfl (zbq zdl rfl (zbk ta29 rfl (zab rfl rfl (zau rfl rfl rfl) (zav rfl rfl (hfq) (zar rfl (zar rfl za0))) (zbe rfl (zaj (zak (zbl rfl (zaf (zae (zab rfl rfl (zaa rfl) (zav rfl rfl (haw) za0) (zbe rfl (zaj (zak ?_)))))))))))))))))))))))
  (refine zbd ?_; repeat (first | refine zbn ?_ | refine zbo ?_))
  exact zcb (.inr rfl) rfl rfl
 | false =>
 refine zae (zab rfl rfl (zaa rfl) (zav rfl rfl (haw) za0) (zab rfl rfl (zaa rfl) (zbh rfl rfl) (zbe rfl (zb2 ta24 ti24 rfl (zbe rfl (zab rfl rfl (zau rfl rfl rfl) (zav rfl rfl (hsm) (zar rfl (zar rfl za0))) (zab rfl rfl (zau rfl rfl rfl) (zbh rfl rfl) (zbe rfl (zbe rfl (zb2 ta32 ti32 rfl (zab rfl rfl (zau rfl rfl rfl) (zav rfl rfl (hfw) (zar rfl za0)) (zab rfl rfl (zau rfl rfl rfl) (zbh rfl rfl) (zbe rfl (zbe rfl (zbe rfl (zab rfl rfl (zau rfl rfl rfl) (zc7 hc0 (zb3 rfl rfl rfl)) ?_))))))))))))))))
 refine zbe rfl (zbe rfl (zbe rfl (zab rfl rfl (zau rfl rfl rfl) (zc7 hc1 (zb6 rfl rfl rfl)) (zbe rfl (zbe rfl (zbq tf32_2 rfl (zbk ta30 rfl (zab rfl rfl (zau rfl rfl rfl) (zav rfl rfl (hfa) (zar rfl (zar rfl za0))) (zbe rfl (zbe rfl (zbq zdl rfl (zbk ta29 rfl (zab rfl rfl (zau rfl rfl rfl) (zav rfl rfl (hfq) (zar rfl (zar rfl za0))) (zbe rfl (zaj (zak (za6 rfl (zad (zaf ?_)))))))))))))))))))
 obtain ⟨k, hk⟩ : ∃ k : Int, 1 + times.tmod 5 = k := ⟨_, rfl⟩
 have hk15 : 1 ≤ k ∧ k ≤ 5 := by
  have h1 := Int.tmod_nonneg 5 ht1
  have h2 := Int.tmod_lt_of_pos times (show (0 : Int) < 5 by decide)
  omega
 have hkw : IntKind.i64.wrap (1 + times.tmod 5) = k := by rw [hk]; exact IntWalk.i64_in _ (by omega)
 refine zae (zbe rfl (zab rfl rfl (zaa rfl) (does_conv rfl tu5 tk3 rfl (IntWalk.i64_in _ (by omega))) (zab rfl rfl (zaa rfl) (does_rem rfl rfl rfl (by omega) rfl) (zab rfl rfl (zaa rfl) (zbj rfl rfl rfl hkw) (zbe rfl (zaj (zaf (zaf ?_))))))))
 by_cases h57 : c.log < 0
 ·
  refine zae (zbq tf27_0 rfl (zbk ta3 rfl (zab rfl rfl (zaa rfl) (zck h57 (zb3 rfl rfl rfl)) (zbe rfl (zbf rfl (zbf rfl (zbf rfl (zbe rfl (zbe rfl (zbf rfl (zbf rfl (zbf rfl (zbe rfl (zbe rfl (zbf rfl (zbf rfl (zbf rfl (zbe rfl (zbe rfl (zbf rfl (zbf rfl (zbf rfl (zbe rfl (zbe rfl (zbf rfl (zbf rfl (zbf rfl (zbe rfl (zbe rfl (zbf rfl (zbf rfl (zbf rfl (zbf rfl (zbf rfl (zbf rfl (zbf rfl (zbe rfl (zaj (zak ?_)))))))))))))))))))))))))))))))))))))))
  refine zbl rfl (zaf (zae (zbe rfl (zaj (zak ?_)))))
  (refine zbd ?_; repeat (first | refine zbn ?_ | refine zbo ?_))
  exact zcb (.inr rfl) rfl rfl
 by_cases h61 : c.log > 200
 ·
  refine zae (zbq tf27_0 rfl (zbk ta3 rfl (zab rfl rfl (zaa rfl) (zc7 h57 (zb3 rfl rfl rfl)) (zbe rfl (zbq tf27_0 rfl (zbk ta3 rfl (zab rfl rfl (zau rfl rfl rfl) (zck h61 (zb6 rfl rfl rfl)) (zbe rfl (zbe rfl (zbf rfl (zbf rfl (zbf rfl (zbe rfl (zbe rfl (zbf rfl (zbf rfl (zbf rfl (zbe rfl (zbe rfl (zbf rfl (zbf rfl (zbf rfl (zbe rfl (zbe rfl (zbf rfl (zbf rfl (zbf rfl (zbe rfl (zbe rfl (zbf rfl (zbf rfl (zbf rfl (zbf rfl (zbf rfl (zbf rfl (zbf rfl (zbe rfl (zaj ?_))))))))))))))))))))))))))))))))))))))
  refine zak (zbl rfl (zaf (zae (zbe rfl (zaj (zak ?_))))))
  (refine zbd ?_; repeat (first | refine zbn ?_ | refine zbo ?_))
  exact zcb (.inr rfl) rfl rfl
 by_cases h66 : c.model < 0
 ·
  refine zae (zbq tf27_0 rfl (zbk ta3 rfl (zab rfl rfl (zaa rfl) (zc7 h57 (zb3 rfl rfl rfl)) (zbe rfl (zbq tf27_0 rfl (zbk ta3 rfl (zab rfl rfl (zau rfl rfl rfl) (zc7 h61 (zb6 rfl rfl rfl)) (zbe rfl (zbe rfl (zbq tf27_1 rfl (zbk ta3 rfl (zab rfl rfl (zau rfl rfl rfl) (zck h66 (zb3 rfl rfl rfl)) (zbe rfl (zbe rfl (zbf rfl (zbf rfl (zbf rfl (zbe rfl (zbe rfl (zbf rfl (zbf rfl (zbf rfl (zbe rfl (zbe rfl (zbf rfl (zbf rfl (zbf rfl (zbe rfl (zbe rfl (zbf rfl (zbf rfl (zbf rfl ?_))))))))))))))))))))))))))))))))
  refine zbf rfl (zbf rfl (zbf rfl (zbf rfl (zbe rfl (zaj (zak (zbl rfl (zaf (zae (zbe rfl (zaj (zak ?_))))))))))))
  (refine zbd ?_; repeat (first | refine zbn ?_ | refine zbo ?_))
  exact zcb (.inr rfl) rfl rfl
 by_cases h71 : c.model > 200
 ·
  refine zae (zbq tf27_0 rfl (zbk ta3 rfl (zab rfl rfl (zaa rfl) (zc7 h57 (zb3 rfl rfl rfl)) (zbe rfl (zbq tf27_0 rfl (zbk ta3 rfl (zab rfl rfl (zau rfl rfl rfl) (zc7 h61 (zb6 rfl rfl rfl)) (zbe rfl (zbe rfl (zbq tf27_1 rfl (zbk ta3 rfl (zab rfl rfl (zau rfl rfl rfl) (zc7 h66 (zb3 rfl rfl rfl)) (zbe rfl (zbe rfl (zbq tf27_1 rfl (zbk ta3 rfl (zab rfl rfl (zau rfl rfl rfl) (zck h71 (zb6 rfl rfl rfl)) (zbe rfl (zbe rfl (zbf rfl (zbf rfl (zbf rfl (zbe rfl (zbe rfl (zbf rfl (zbf rfl ?_))))))))))))))))))))))))))
  refine zbf rfl (zbe rfl (zbe rfl (zbf rfl (zbf rfl (zbf rfl (zbf rfl (zbf rfl (zbf rfl (zbf rfl (zbe rfl (zaj (zak (zbl rfl (zaf (zae (zbe rfl (zaj (zak ?_))))))))))))))))))
  (refine zbd ?_; repeat (first | refine zbn ?_ | refine zbo ?_))
  exact zcb (.inr rfl) rfl rfl
 by_cases h76 : c.silent < 0
 ·
  refine zae (zbq tf27_0 rfl (zbk ta3 rfl (zab rfl rfl (zaa rfl) (zc7 h57 (zb3 rfl rfl rfl)) (zbe rfl (zbq tf27_0 rfl (zbk ta3 rfl (zab rfl rfl (zau rfl rfl rfl) (zc7 h61 (zb6 rfl rfl rfl)) (zbe rfl (zbe rfl (zbq tf27_1 rfl (zbk ta3 rfl (zab rfl rfl (zau rfl rfl rfl) (zc7 h66 (zb3 rfl rfl rfl)) (zbe rfl (zbe rfl (zbq tf27_1 rfl (zbk ta3 rfl (zab rfl rfl (zau rfl rfl rfl) (zc7 h71 (zb6 rfl rfl rfl)) (zbe rfl (zbe rfl (zbq tf27_2 rfl (zbk ta3 rfl (zab rfl rfl (zau rfl rfl rfl) (zck h76 (zb3 rfl rfl rfl)) ?_))))))))))))))))))))))
  refine zbe rfl (zbe rfl (zbf rfl (zbf rfl (zbf rfl (zbe rfl (zbe rfl (zbf rfl (zbf rfl (zbf rfl (zbf rfl (zbf rfl (zbf rfl (zbf rfl (zbe rfl (zaj (zak (zbl rfl (zaf (zae (zbe rfl (zaj (zak ?_))))))))))))))))))))))
  (refine zbd ?_; repeat (first | refine zbn ?_ | refine zbo ?_))
  exact zcb (.inr rfl) rfl rfl
 by_cases h81 : c.silent > 200
 ·
  refine zae (zbq tf27_0 rfl (zbk ta3 rfl (zab rfl rfl (zaa rfl) (zc7 h57 (zb3 rfl rfl rfl)) (zbe rfl (zbq tf27_0 rfl (zbk ta3 rfl (zab rfl rfl (zau rfl rfl rfl) (zc7 h61 (zb6 rfl rfl rfl)) (zbe rfl (zbe rfl (zbq tf27_1 rfl (zbk ta3 rfl (zab rfl rfl (zau rfl rfl rfl) (zc7 h66 (zb3 rfl rfl rfl)) (zbe rfl (zbe rfl (zbq tf27_1 rfl (zbk ta3 rfl (zab rfl rfl (zau rfl rfl rfl) (zc7 h71 (zb6 rfl rfl rfl)) (zbe rfl (zbe rfl (zbq tf27_2 rfl (zbk ta3 rfl (zab rfl rfl (zau rfl rfl rfl) (zc7 h76 (zb3 rfl rfl rfl)) ?_))))))))))))))))))))))
  refine zbe rfl (zbe rfl (zbq tf27_2 rfl (zbk ta3 rfl (zab rfl rfl (zau rfl rfl rfl) (zck h81 (zb6 rfl rfl rfl)) (zbe rfl (zbe rfl (zbf rfl (zbf rfl (zbf rfl (zbf rfl (zbf rfl (zbf rfl (zbf rfl (zbe rfl (zaj (zak (zbl rfl (zaf (zae (zbe rfl (zaj (zak ?_))))))))))))))))))))))
  (refine zbd ?_; repeat (first | refine zbn ?_ | refine zbo ?_))
  exact zcb (.inr rfl) rfl rfl
 cases b5 with
 | false =>
  refine zae (zbq tf27_0 rfl (zbk ta3 rfl (zab rfl rfl (zaa rfl) (zc7 h57 (zb3 rfl rfl rfl)) (zbe rfl (zbq tf27_0 rfl (zbk ta3 rfl (zab rfl rfl (zau rfl rfl rfl) (zc7 h61 (zb6 rfl rfl rfl)) (zbe rfl (zbe rfl (zbq tf27_1 rfl (zbk ta3 rfl (zab rfl rfl (zau rfl rfl rfl) (zc7 h66 (zb3 rfl rfl rfl)) (zbe rfl (zbe rfl (zbq tf27_1 rfl (zbk ta3 rfl (zab rfl rfl (zau rfl rfl rfl) (zc7 h71 (zb6 rfl rfl rfl)) (zbe rfl (zbe rfl (zbq tf27_2 rfl (zbk ta3 rfl (zab rfl rfl (zau rfl rfl rfl) (zc7 h76 (zb3 rfl rfl rfl)) ?_))))))))))))))))))))))
  refine zbe rfl (zbe rfl (zbq tf27_2 rfl (zbk ta3 rfl (zab rfl rfl (zau rfl rfl rfl) (zc7 h81 (zb6 rfl rfl rfl)) (zbe rfl (zbe rfl (zb2 ta24 ti24 rfl (zbe rfl (zb2 ta27 ti27 rfl (zbe rfl (zb2 ta32 ti32 rfl (zab rfl rfl (zau rfl rfl rfl) (zav rfl rfl (hck) (zar rfl (zar rfl (zar rfl (zar rfl (zar rfl za0)))))) (zab rfl rfl (zau rfl rfl rfl) (zbh rfl rfl) (zbe rfl (zaj (zak (zbl rfl (zaf (zae (zbe rfl (zaj (zak ?_))))))))))))))))))))))
  (refine zbd ?_; repeat (first | refine zbn ?_ | refine zbo ?_))
  exact zcb (.inr rfl) rfl rfl
 | true =>
 have hv := hcv rfl
 have hpl := za8 hv.net
 have hsb' := hsb rfl
 have hS : ScOk n w c p k := ⟨hk15, by omega, hsb'.2.1, hda rfl, hqa rfl, ⟨⟨by omega, by omega⟩, ⟨by omega, by omega⟩, by omega, by omega⟩⟩
 have hck2 := dCheck_pf (P := P) n w (scC k c) (k * cost) (scP k p)
 rw [hsc k hS rfl] at hck2
 clear hsc hcv
 refine zae (zbq tf27_0 rfl (zbk ta3 rfl (zab rfl rfl (zaa rfl) (zc7 h57 (zb3 rfl rfl rfl)) (zbe rfl (zbq tf27_0 rfl (zbk ta3 rfl (zab rfl rfl (zau rfl rfl rfl) (zc7 h61 (zb6 rfl rfl rfl)) (zbe rfl (zbe rfl (zbq tf27_1 rfl (zbk ta3 rfl (zab rfl rfl (zau rfl rfl rfl) (zc7 h66 (zb3 rfl rfl rfl)) (zbe rfl (zbe rfl (zbq tf27_1 rfl (zbk ta3 rfl (zab rfl rfl (zau rfl rfl rfl) (zc7 h71 (zb6 rfl rfl rfl)) (zbe rfl (zbe rfl (zbq tf27_2 rfl (zbk ta3 rfl (zab rfl rfl (zau rfl rfl rfl) (zc7 h76 (zb3 rfl rfl rfl)) ?_))))))))))))))))))))))
 refine zbe rfl (zbe rfl (zbq tf27_2 rfl (zbk ta3 rfl (zab rfl rfl (zau rfl rfl rfl) (zc7 h81 (zb6 rfl rfl rfl)) (zbe rfl (zbe rfl (zb2 ta24 ti24 rfl (zbe rfl (zb2 ta27 ti27 rfl (zbe rfl (zb2 ta32 ti32 rfl (zab rfl rfl (zau rfl rfl rfl) (zav rfl rfl (hck) (zar rfl (zar rfl (zar rfl (zar rfl (zar rfl za0)))))) (zab rfl rfl (zau rfl rfl rfl) (zbh rfl rfl) (zbe rfl (zaj (zak (za6 rfl (zad (zaf ?_)))))))))))))))))))
 refine zbz (F' := [(1, eL eS w), (3, eI cost), (6, .ref (eN n).cells), (8, .ref (eC c).cells), (10, .ref (ePf p).cells), (13, eI k)]) (σ' := []) (zc9 [] (by decide) trivial ⟨.lo _ (lo_W w), .lo _ (.s _), .lo _ hln, .lo _ hlc, .lo _ hlp, .lo _ (.s _), trivial⟩) ?_
 refine zae (zbq za9 rfl (zbk ta28 rfl (zab rfl rfl (zaa rfl) (zbp rfl ti32 tp32 rfl rfl) (zab rfl rfl (zaa rfl) (zbi rfl ti32 rfl rfl) (zbx rfl (zaa rfl) (za7 rfl ti32 rfl rfl rfl rfl rfl rfl (by decide) (by decide)) (zaj (zaf (zaf ?_))))))))
 refine zbz (wk_ownC (id := 0) (sz2 := 1) (e' := .agg [eL (eL eI) p.st, .own 1 1 0, .s (.slice none 0 0)]) (pre := [eL (eL eI) p.st]) (post := [.s (.slice none 0 0)]) rfl rfl rfl) ?_
 refine zbz (wk_ownC (id := 0) (sz2 := 2) (e' := .agg [eL (eL eI) p.st, .own 1 1 0, .own 2 2 0]) (pre := [eL (eL eI) p.st, .own 1 1 0]) (post := []) rfl rfl rfl) ?_
 have hpq := hv.pl
 have hpf := hv.few
 refine zae (zbq zdl rfl (zbk ta29 rfl (zab rfl rfl (zaa rfl) (za2 rfl ts29 rfl) (zbe rfl (zaj (zak (zac ?_)))))))
 refine zdc (S := Nat) (fun j => [(1, eL eS w), (3, eI cost), (6, .ref (eN n).cells), (8, .ref (eC c).cells), (10, .ref (ePf p).cells), (13, eI k), (14, .ptr 0 3 0 0), (96, eL eI p.pots), (97, eI p.pots.length), (98, eI j)]) (fun j => [.row 3 [.agg [eL (eL eI) p.st, .own 1 1 j, .own 2 2 0]], .row 1 (mPot k p.pots j), .row 2 []]) (fun j => j ≤ p.pots.length) (fun j => p.pots.length - j) 0
  (zc9 [0, 1, 2] (by decide) ⟨⟨_, rfl, obRn_agg (.cons (.lo _ (lo_II _)) (.cons (.own _ _ _ _ _ rfl rfl) (.cons (.own _ _ _ _ _ rfl rfl) .nil)))⟩, ⟨_, rfl, .rowE (lo_mPot _ _ _) rfl⟩, ⟨_, rfl, .rowE (by simp) rfl⟩, trivial⟩ ⟨.lo _ (lo_W w), .lo _ (.s _), .lo _ hln, .lo _ hlc, .lo _ hlp, .lo _ (.s _), .ptr 0 0 3 0 0 rfl, .lo _ lo_I, .lo _ (.s _), .lo _ (.s _), trivial⟩) (Nat.zero_le _) (fun j hj => ?_)
 refine zaf (zae ?_)
 refine zbw rfl rfl (zaa rfl) (zb3 rfl rfl rfl) (fun h99 => ?_) (fun h99 => ?_)
 all_goals refine zaj (zaf ?_)
 all_goals (first | refine zbl rfl ?_ | refine za6 rfl ?_)
 all_goals (repeat (first | refine zaf ?_ | refine zad ?_ | refine zac ?_))
 ·
  have hlt : j < p.pots.length := by omega
  have hix : (p.pots.map eI)[j]? = some (eI (gti p.pots j)) := zcw hlt
  have hq := hqa rfl _ (gti_mem hlt)
  have hqs := mPot_s k hlt
  have hql := mPot_len k hj
  generalize gti p.pots j = q at hix hq hqs
  have hkb := sc_bd hk15 (a := q) (X := 100000) (by omega)
  refine zae (zab rfl rfl (zaa rfl) (za1 rfl ts29 ti3 rfl rfl rfl hix rfl) (zbk ta3 rfl (zbe rfl (zaj (zak (zae (zbq zdl rfl (zab rfl rfl (zaa rfl) (za3 rfl ta29 rfl rfl rfl rfl rfl) (zbe rfl (zbe rfl (zab rfl rfl (zaa rfl) (does_mul rfl rfl rfl (IntWalk.i64_in _ (by omega))) (zab rfl rfl (zaa rfl) (lit1_sF rfl ts29 ti3 rfl rfl rfl rfl) ?_))))))))))))
  refine zab rfl rfl (zaa rfl) (zcr rfl ts29 ti3 rfl (by decide) rfl rfl (by first | rfl | (simp; done) | (simp; omega)) rfl (by first | exact .own _ _ _ rfl rfl _ (by first | rfl | simp) | exact .emp | exact .nil | exact .sl _ (by first | simp; done | intro e he; simp at he; obtain ⟨_, _, rfl⟩ := he; rfl)) (by first | omega | (simp; omega) | (unfold maxLen; simp; omega)) (by first | omega | (simp; omega) | (unfold maxLen; simp; omega))) ?_
  refine zbq zdl rfl (zbx rfl (zaa rfl) (za7 rfl ti29 rfl rfl rfl rfl rfl rfl (by decide) (by decide)) (zaj (zal (zak (zae (zab rfl rfl (zaa rfl) (zbj rfl rfl rfl (IntWalk.i64_in _ (by omega))) (zbe rfl (zaj (zak ?_)))))))))
  exact ⟨j + 1, by omega, by omega, zc9 [0, 3, 2] (by decide) ⟨⟨_, rfl, obRn_agg (.cons (.lo _ (lo_II _)) (.cons (.own _ _ _ _ _ rfl (by rw [hql]; rfl)) (.cons (.own _ _ _ _ _ rfl rfl) .nil)))⟩, ⟨_, rfl, .rowE (lo_mPot _ _ _) hqs.symm⟩, ⟨_, rfl, .rowE (by simp) rfl⟩, trivial⟩ ⟨.lo _ (lo_W w), .lo _ (.s _), .lo _ hln, .lo _ hlc, .lo _ hlp, .lo _ (.s _), .ptr 0 0 3 0 0 rfl, .lo _ lo_I, .lo _ (.s _), .lo _ (.s _), trivial⟩⟩
 have ej : j = p.pots.length := by omega
 subst ej
 (refine zdd ?_; repeat (first | refine ath_x ?_ | refine zco ?_ | refine zce rfl ?_ | refine zal ?_ | refine zak ?_ | refine zaf ?_ | refine zad ?_ | refine zac ?_))
 have hdn : p.duals.length ≤ 30 := by have := hv.dl; omega
 refine zae (zbq tf32_2 rfl (zbk ta30 rfl (zab rfl rfl (zaa rfl) (za2 rfl ts30 rfl) (zbe rfl (zaj (zak (zac ?_)))))))
 refine zdc (S := Nat) (fun j => [(1, eL eS w), (3, eI cost), (6, .ref (eN n).cells), (8, .ref (eC c).cells), (10, .ref (ePf p).cells), (13, eI k), (14, .ptr 0 3 0 0), (112, eL eF p.duals), (113, eI p.duals.length), (114, eI j)]) (fun j => [.row 3 [.agg [eL (eL eI) p.st, .own 1 1 p.pots.length, .own 2 2 j]], .row 1 (mPot k p.pots p.pots.length), .row 2 (mDu k p.duals j)]) (fun j => j ≤ p.duals.length) (fun j => p.duals.length - j) 0
  (zc9 [0, 1, 2] (by decide) ⟨⟨_, rfl, obRn_agg (.cons (.lo _ (lo_II _)) (.cons (.own _ _ _ _ _ rfl rfl) (.cons (.own _ _ _ _ _ rfl rfl) .nil)))⟩, ⟨_, rfl, .rowE (lo_mPot _ _ _) rfl⟩, ⟨_, rfl, .rowE (lo_mDu _ _ _) rfl⟩, trivial⟩ ⟨.lo _ (lo_W w), .lo _ (.s _), .lo _ hln, .lo _ hlc, .lo _ hlp, .lo _ (.s _), .ptr 0 0 3 0 0 rfl, .lo _ (zaq fun a => lo_Fr a), .lo _ (.s _), .lo _ (.s _), trivial⟩) (Nat.zero_le _) (fun j hj => ?_)
 refine zaf (zae ?_)
 refine zbw rfl rfl (zaa rfl) (zb3 rfl rfl rfl) (fun h115 => ?_) (fun h115 => ?_)
 all_goals refine zaj (zaf ?_)
 all_goals (first | refine zbl rfl ?_ | refine za6 rfl ?_)
 all_goals (repeat (first | refine zaf ?_ | refine zad ?_ | refine zac ?_))
 ·
  have hlt : j < p.duals.length := by omega
  have hix : (p.duals.map eF)[j]? = some (eF (gti p.duals j)) := zcw hlt
  have hq := hda rfl _ (gti_mem hlt)
  have hqs := mDu_s k hlt
  have hql := mDu_len k hj
  generalize gti p.duals j = q at hix hq hqs
  have hkb := sc_bd hk15 (a := q.n) (X := 1000) (by omega)
  have hin := integer44_pf (P := P) (k * q.n)
  refine zae (zab rfl rfl (zaa rfl) (za1 rfl ts30 ti56 rfl rfl rfl hix rfl) (zb2 ta56 ti56 rfl (zab rfl rfl (zaa rfl) (zbi rfl ti56 rfl rfl) (zbx rfl (zaa rfl) (za7 rfl ti56 rfl rfl rfl rfl rfl rfl (by decide) (by decide)) (zaj (zak ?_))))))
  refine zdj hmix ?_
  refine adraw_ex ?_
  refine ex_f tf32_2 rfl (zcj rfl rfl (zaa rfl) (zcg rfl ta30 rfl rfl rfl rfl rfl) (ex_s rfl (ex_f tf56_0 rfl (zcj rfl rfl (zaa rfl) (zcg rfl ta3 rfl rfl rfl rfl rfl) (zaz rfl rfl (zaa rfl) (fun _ => (does_mul rfl rfl rfl (IntWalk.i64_in _ (by omega)))) (zaz rfl rfl (zaa rfl) (fun _ => (zav rfl rfl (hin) (zar rfl za0))) (zaz rfl rfl (zaa rfl) (fun _ => (zcp rfl ts30 ti56 rfl rfl (by decide) (by decide) rfl rfl rfl (.agg _ (zah (.s _) (zah (.s _) zap))))) ?_)))))))
  refine ex_eff rfl rfl (zaa rfl) (zcr rfl ts30 ti56 rfl (by decide) rfl rfl (by first | rfl | (simp; done) | (simp; omega)) rfl (by first | exact .own _ _ _ rfl rfl _ (by first | rfl | simp) | exact .emp | exact .nil | exact .sl _ (by first | simp; done | intro e he; simp at he; obtain ⟨_, _, rfl⟩ := he; rfl)) (by first | omega | (simp; omega) | (unfold maxLen; simp; omega)) (by first | omega | (simp; omega) | (unfold maxLen; simp; omega))) (fun _ h => app2_other h) ?_
  refine ex_f tf32_2 rfl ?_
  refine ex_eff0 rfl (zaa rfl) (za7 rfl ti30 rfl rfl rfl rfl rfl rfl (by decide) (by decide)) (fun _ h => zdn h) ?_
  refine ex_nil (by kernel_rfl) ?_
  refine zal (zak (zae (zab rfl rfl (zaa rfl) (zbj rfl rfl rfl (IntWalk.i64_in _ (by omega))) (zbe rfl (zaj (zak ?_))))))
  exact ⟨j + 1, by omega, by omega, zc9 [0, 1, 4] (by decide) ⟨⟨_, rfl, obRn_agg (.cons (.lo _ (lo_II _)) (.cons (.own _ _ _ _ _ rfl rfl) (.cons (.own _ _ _ _ _ rfl (by rw [hql]; rfl)) .nil)))⟩, ⟨_, rfl, .rowE (lo_mPot _ _ _) rfl⟩, ⟨_, rfl, .rowE (lo_mDu _ _ _) hqs.symm⟩, trivial⟩ ⟨.lo _ (lo_W w), .lo _ (.s _), .lo _ hln, .lo _ hlc, .lo _ hlp, .lo _ (.s _), .ptr 0 0 3 0 0 rfl, .lo _ (zaq fun a => lo_Fr a), .lo _ (.s _), .lo _ (.s _), trivial⟩⟩
 have ej : j = p.duals.length := by omega
 subst ej
 (refine zdd ?_; repeat (first | refine ath_x ?_ | refine zco ?_ | refine zce rfl ?_ | refine zal ?_ | refine zak ?_ | refine zaf ?_ | refine zad ?_ | refine zac ?_))
 have e1 : mPot k p.pots p.pots.length = (p.pots.map (k * ·)).map eI := by unfold mPot; rw [List.take_length, List.map_map]; rfl
 have e2 : mDu k p.duals p.duals.length = (p.duals.map fun a => Fr.of (k * a.n)).map eF := by unfold mDu; rw [List.take_length, List.map_map]; rfl
 rw [e1, e2]
 refine zbz (kwk_fzC (id := 0) (sz := 3) (i := 1) (sz2 := 1) (e' := .agg [eL (eL eI) p.st, eL eI (p.pots.map (k * ·)), .own 2 2 p.duals.length]) (pre := [eL (eL eI) p.st]) (post := [.own 2 2 p.duals.length]) (cs2 := (p.pots.map (k * ·)).map eI) rfl (by rw [List.length_map, List.length_map]; rfl) rfl (by decide) rfl).weak ?_
 refine zbz (kwk_fzC (id := 0) (sz := 3) (i := 2) (sz2 := 2) (e' := .agg [eL (eL eI) p.st, eL eI (p.pots.map (k * ·)), eL eF (p.duals.map fun a => Fr.of (k * a.n))]) (pre := [eL (eL eI) p.st, eL eI (p.pots.map (k * ·))]) (post := []) (cs2 := (p.duals.map fun a => Fr.of (k * a.n)).map eF) rfl (by rw [List.length_map, List.length_map]; rfl) rfl (by decide) rfl).weak ?_
 have b1 := sc_bd hk15 (a := c.log) (X := 200) (by omega)
 have b2 := sc_bd hk15 (a := c.model) (X := 200) (by omega)
 have b3 := sc_bd hk15 (a := c.silent) (X := 200) (by omega)
 have b4 := sc_bd hk15 (a := cost) (X := 100000) (by omega)
 refine zae (zb2 ta24 ti24 rfl (zbe rfl (zbe rfl (zbq tf27_0 rfl (zbk ta3 rfl (zab rfl rfl (zaa rfl) (does_mul rfl rfl rfl (IntWalk.i64_in _ (by omega))) (zbe rfl (zbq tf27_1 rfl (zbk ta3 rfl (zab rfl rfl (zaa rfl) (does_mul rfl rfl rfl (IntWalk.i64_in _ (by omega))) (zbe rfl (zbq tf27_2 rfl (zbk ta3 rfl (zab rfl rfl (zaa rfl) (does_mul rfl rfl rfl (IntWalk.i64_in _ (by omega))) (zab rfl rfl (zaa rfl) (zbp rfl ti27 tp27 rfl rfl) (zbe rfl (zbe rfl (zab rfl rfl (zaa rfl) (does_mul rfl rfl rfl (IntWalk.i64_in _ (by omega))) ?_))))))))))))))))))
 refine zab rfl rfl (zaa rfl) (za4 rfl ta32 ti32 rfl rfl rfl rfl rfl) (zab rfl rfl (zaa rfl) (zav rfl rfl (hck2) (zar rfl (zar rfl (zar rfl (zar rfl (zar rfl za0)))))) (zbe rfl (zaj (zak ?_))))
 (refine zbd ?_; repeat (first | refine zbn ?_ | refine zbo ?_))
 exact zcb (.inr rfl) rfl rfl
end Go.Proofs.YtjhdcgaiccnmeaaGreatDoor.Aw
end
