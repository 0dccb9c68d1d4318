/-
  QueueBalance, for every queue: the rows of the chain, and the stationary probabilities, have the sum 1, and a step does not change the latter, as far as everything fits. Conditions: none.
-/
import Derived.Test.YthlgkomhnhkooaaMk3
import Derived.Test.YthlgkomhnhkooaaQBal
import Derived.Test.YthlgkomhnhkooaaQAwake
import Derived.Test.YthlgkomhnhkooaaQChainB
import Derived.Test.YthlgkomhnhkooaaRow
namespace Go.Proofs.Ythlgkomhnhkooaa
set_option linter.unusedSimpArgs false
set_option linter.unusedVariables false
open Go.ChangeShapes Go.WideShapes Go.ChangeAt Go.RowKit

theorem add_none (b off j : Nat) : (⟨b, off, none⟩ : Addr).add j = ⟨b, off + j, none⟩ := by unfold Addr.add; split <;> simp_all

set_option maxRecDepth 100000 in
set_option maxHeartbeats 2000000 in
theorem clone_ok (ll : List (List Fr)) (lo hi : Nat) (v : Value) (w : World) (hv : RdFF w lo hi v ll) (h0 : 0 < ll.length) (hl : ll.length ≤ 1000) :
    Calls Try.prog 32 #[v] w fun e w' => ∃ g cap us, e = .returned (.slice (some ⟨g, 0, none⟩) ll.length cap) ∧ w'.ownsRow w.heap.size 27 1 (.slice (some ⟨g, 0, none⟩) ll.length cap) ll.length us ∧ All2 w' lo hi us ll ∧ Below w.heap.size w w' := by
  obtain ⟨us, h1, h2⟩ := hv
  obtain ⟨A, c, rfl, hc, hm⟩ := h1.form
  obtain ⟨b, off, rfl, _, _, hb, hcells⟩ := RdG.cells h1 h0
  have hul : us.length = ll.length := h2.1
  have b1 : Below w.heap.size w (w.alloc (.cells #[] 27)) := (Below.refl _ _).alloc (Nat.le_refl _) _
  have hnews : ∀ (j : Nat) (u : Value), us[j]? = some u → (w.alloc (.cells #[] 27)).cell? ((⟨b, off, none⟩ : Addr).add j) = some u := by
    intro j u hu
    rw [add_none]
    exact (b1.cell (p := ⟨b, off + j, none⟩) hb).trans (hcells j u hu)
  have hone : ∀ u ∈ us, u.oneCell' = true := by
    intro u hu
    obtain ⟨i, hi', rfl⟩ := List.mem_iff_getElem.1 hu
    have hr := h2.2 i _ (rw' ll i) (List.getElem?_eq_getElem hi') (rw_get (by omega))
    obtain ⟨A', c', he, _⟩ := RdF.form hr
    rw [he]
    rfl
  have H2 := Lib.hid h2
  have HN := Lib.hid hnews
  have HON := Lib.hid hone
  have HUL := Lib.hid hul
  obtain ⟨i1, hi1, hy0, hy1, hy2⟩ := info_parts info_fracs
  have o1 := own_lit w #[] 27 w.heap.size 1 0 rfl (by simp [maxLen]) (Nat.le_refl _)
  have HB1 := Lib.hid b1
  clear h1 h2 hcells hnews hone hul b1
  refine calls_cps fun R hR => ?_
  have HR := Lib.hid hR
  clear hR
  have hnil := fun (W : World) => Lib.run_eql_slice_nil (P := Try.prog) W 40 27 (some ⟨b, off, none⟩) ll.length c 0 0 Try.underlying40
  simp only [Option.isNone_some] at hnil
  go_enter Try.func32, Try.ntmps32
  go_wp2_with (at_builtin; refine wpList_append_lies _ rfl _ _ 40 rfl w.heap.size 27 i1 _ 1 24 Try.underlying40 hi1 hy0 hy1 hy2 rfl (by omega) _ 0 [] rfl o1 ⟨b, off, none⟩ ll.length c us rfl (by rw [HUL.out]; omega) HN.out HON.out h0 (by unfold maxLen; omega) (by omega) (by simp) (w.heap.size + 1) (by simp) ?_; intro g3 cap3 w6 hown6 hgrow6 hat6 hlt6)
  refine HR.out _ _ ⟨g3, cap3, us, by first | rfl | simp, by simpa using hown6, ?_, ?_⟩
  · have hk : ∀ k, lo ≤ k → k < hi → k < w.heap.size → w6.heap[k]? = w.heap[k]? := by
      intro k _ _ hk
      have := hgrow6.block k (by simp; omega) (fun e => by have e2 : k = w.heap.size := Option.some.inj e; omega)
      rw [this]
      exact HB1.out.block k hk
    exact ⟨H2.out.1, fun i u l a1 a2 => RdG.of_blocks (H2.out.2 i u l a1 a2) (fun b e1 e2 e3 _ => hk b e1 e2 e3)⟩
  · refine HB1.out.trans ⟨hgrow6.os, hgrow6.tape, hgrow6.output, hgrow6.size, fun k hk => ?_⟩
    exact hgrow6.block k (by simp; omega) (fun e => by have e2 : k = w.heap.size := Option.some.inj e; omega)

set_option maxHeartbeats 1000000 in
theorem bal1_any (a : Fr) (w : World) :
    Calls Try.prog 35 #[.agg #[.int .i64 (a).n, .int .i64 (a).d]] w fun e w' => e = .returned (.bool (!a.okB || decide (a.n < 0))) ∧ Below w.heap.size w w' := by
  refine calls_cps fun R hR => ?_
  have HR := Lib.hid hR
  clear hR
  go_enter Try.func35, Try.ntmps35
  go_wp2_with fail
  have k0 := K2.new w (.int .i64 a.n) (.int .i64 a.d) 23
  refine (fracValid_any a _).mono ?_
  rintro e w1 ⟨rfl, hb1⟩
  replace k0 := K2.aft hb1 k0
  have HB : Hid (Below w.heap.size w w1) := Lib.hid (by refine Below.step ?_ hb1 (by first | omega | (simp; done) | (simp; omega)); (repeat (first | exact Below.refl _ _ | assumption | refine Below.setCell ?_ (by first | omega | (simp; done) | (simp; omega)) _ | refine Below.alloc ?_ (by first | omega | (simp; done) | (simp; omega)) _ | refine Below.drew ?_ | refine below_drewN ?_ _)))
  clear hb1
  cases hv : a.okB <;> by_cases h1 : a.n < 0
  all_goals
    go_wp2_with fail
    refine HR.out _ _ ⟨by first | (simp [hv, h1]; done) | (simp [hv, h1]; omega), HB.out⟩
theorem ent_bal1 : Ent 35 := ent_of Try.func35 (by kernel_rfl) rfl

/-- what the law needs of the rows and the probabilities -/
structure BalOk (cp : Nat) (ll : List (List Fr)) (r : List Fr) : Prop where
  c2 : cp ≤ 15
  len : ll.length = cp + 1
  rows : ∀ l ∈ ll ++ [r], l.length = cp + 1 ∧ (∀ a ∈ l, nn a) ∧ ∀ d, downS l (cp + 1) = some d → d = oneF
  stat : ∀ (j : Nat) (a : Fr), j < r.length → dotS r (colS ll j) r.length = some a → a = gt r j
theorem dotS_val {a b : List Fr} (ha : ∀ x ∈ a, x.ok) (hb : ∀ x ∈ b, x.ok) : ∀ {k : Nat} {d : Fr}, dotS a b k = some d → val d = sumR (fun i => val (gt a i) * val (gt b i)) k
  | 0, d, h => by simp [dotS] at h; subst h; exact val_zero
  | k + 1, d, h => by
    obtain ⟨s, e1, h⟩ := some_bind h
    obtain ⟨p, e2, h⟩ := some_bind h
    rw [val_add (dotS_ok ha hb e1) (fmul_ok (gt_ok ha k) (gt_ok hb k) e2) h, val_mul (gt_ok ha k) (gt_ok hb k) e2, dotS_val ha hb e1]
    rfl
theorem gt_col {ll : List (List Fr)} {j m : Nat} (h : m < ll.length) : gt (colS ll j) m = gt (rw' ll m) j := by
  have e : (colS ll j)[m]? = some (gt (rw' ll m) j) := by
    unfold colS
    rw [List.getElem?_map, rw_get h]
    rfl
  unfold gt at e ⊢
  rw [e]
  rfl
theorem BalOk.of {ar se : Fr} {sv cp : Nat} (hq : QOk ar se sv cp) {ll b b' : List (List Fr)} {r : List Fr} (hc : chainQ ar se sv cp = some (ll, b')) (hs : statQ ar se sv cp = some (r, b)) : BalOk cp ll r := by
  obtain ⟨k1, k2, k3⟩ := statQ_balance hq hc hs
  have hn := chainQ_nn hq hc
  have hg := statQ_good hq hs
  have hlast : ∀ l ∈ ll, (∀ a ∈ l, nn a) ∧ l.length = cp + 1 ∧ ∃ m, m ≤ cp ∧ l = rw' ll m := by
    intro l hl
    obtain ⟨m, hm, rfl⟩ := List.mem_iff_getElem.1 hl
    have := hn.2.1 m _ (List.getElem?_eq_getElem hm)
    refine ⟨this.1, this.2.1, m, by omega, ?_⟩
    have e := rw_get hm
    rw [List.getElem?_eq_getElem hm] at e
    injection e
  refine ⟨hq.c2, hn.1, fun l hl => ?_, fun j a hj ha => ?_⟩
  · rcases List.mem_append.1 hl with h | h
    · obtain ⟨h1, h2, m, h3, rfl⟩ := hlast l h
      exact ⟨h2, h1, fun d hd => down_one h1 (k1 m h3) hd⟩
    · simp at h
      subst h
      exact ⟨hg.1, hg.2.1, fun d hd => down_one hg.2.1 k2 hd⟩
  · have hro : ∀ x ∈ r, x.ok := fun x hx => (hg.2.1 x hx).1
    have hco : ∀ x ∈ colS ll j, x.ok := fun x hx => (colS_nn (fun l hl => (hlast l hl).1) j x hx).1
    rw [hg.1] at ha hj
    refine val_inj (dotS_ok hro hco ha) (gt_ok hro j) ?_
    rw [dotS_val hro hco ha, ← k3 j (by omega)]
    exact sumR_congr fun m hm => by rw [gt_col (by rw [hn.1]; exact hm)]

set_option maxRecDepth 100000 in
set_option maxHeartbeats 8000000 in
theorem lawBalance_any (ar se : Fr) (sv cp : Int) (w : World) :
    Calls Try.prog 9 #[.agg #[.int .i64 ar.n, .int .i64 ar.d, .int .i64 se.n, .int .i64 se.d, .int .i64 sv, .int .i64 cp]] w fun e w' => e = .returned (.bool true) ∧ Below w.heap.size w w' := by
  refine calls_cps fun R hR => ?_
  have HR := Lib.hid hR
  clear hR
  go_enter Try.func9, Try.ntmps9
  go_wp2_with fail
  have M0 : Mem [Loc.k6 w.heap.size (.int .i64 ar.n) (.int .i64 ar.d) (.int .i64 se.n) (.int .i64 se.d) (.int .i64 sv) (.int .i64 cp), Loc.bl w.heap.size w] (w.alloc (.cells #[.int .i64 ar.n, .int .i64 ar.d, .int .i64 se.n, .int .i64 se.d, .int .i64 sv, .int .i64 cp] 25)) := ⟨K6.new w _ _ _ _ _ _ _, ⟨(Below.refl _ _).alloc (Nat.le_refl _) _, by simp⟩, True.intro⟩
  refine (awake_any _).mono ?_
  rintro e w1 ⟨rfl, hb1⟩
  have hz1 := hb1.size
  simp at hz1
  replace M0 := M0.below hb1
  clear hb1
  have q0 := M0.1
  go_wp2_with fail
  refine (ChainB_any ar se sv cp _).mono ?_
  rintro e w2 ⟨v, ll, x, rfl, hb2, rr, hE⟩
  have hz2 := hb2.size
  have HE := Lib.hid hE
  obtain ⟨A, c, rfl, hlc, hlm⟩ := rr.form
  replace M0 := (M0.below hb2).alloc (.cells #[.slice A ll.length c] 42)
  have M1 : Mem [Loc.k1 w2.heap.size (.slice A ll.length c), Loc.rdFF w1.heap.size w2.heap.size (.slice A ll.length c) ll, Loc.k6 w.heap.size (.int .i64 ar.n) (.int .i64 ar.d) (.int .i64 se.n) (.int .i64 se.d) (.int .i64 sv) (.int .i64 cp), Loc.bl w.heap.size w] _ := ⟨K1.new _ _ _, rr.after ((Below.refl _ _).alloc (Nat.le_refl _) _), M0⟩
  clear hb2 rr hE M0 q0
  have q0 := M1.2.2.1
  go_wp2_with fail
  refine (Stationary_any ar se sv cp _).mono ?_
  rintro e w3 ⟨v2, r, x2, rfl, rf, hb3, hS⟩
  have hz3 := hb3.size
  simp at hz3
  obtain ⟨A2, c2, rfl, hlc2, hlm2⟩ := rf.form
  simp at rf
  have M2 : Mem [Loc.rdF w.heap.size w3.heap.size (.slice A2 r.length c2) r, Loc.k1 w2.heap.size (.slice A ll.length c), Loc.rdFF w1.heap.size w2.heap.size (.slice A ll.length c) ll, Loc.k6 w.heap.size (.int .i64 ar.n) (.int .i64 ar.d) (.int .i64 se.n) (.int .i64 se.d) (.int .i64 sv) (.int .i64 cp), Loc.bl w.heap.size w] w3 := ⟨RdG.mono rf (by omega) (Nat.le_refl _), M1.below hb3⟩
  have HS := Lib.hid hS
  clear hb3 hS M1 q0 rf
  have p1 := M2.2.1
  by_cases hx : x = 0 ∧ x2 = 0
  · obtain ⟨rfl, rfl⟩ := hx
    have hgood : ∃ s c' : Nat, sv = s ∧ cp = c' ∧ BalOk c' ll r := by
      rcases HE.out with ⟨_, _, h⟩ | ⟨s, c', rfl, rfl, hq, h⟩
      · cases h
      · rcases h with ⟨_, b, hc⟩ | ⟨h, _⟩
        · rcases HS.out with ⟨_, _, h⟩ | ⟨s2, c2', hs2, hc2, _, b', x0, r0, hSt, hx0, hr0⟩
          · cases h
          · obtain rfl : s = s2 := by omega
            obtain rfl : c' = c2' := by omega
            subst hx0
            rw [if_pos rfl] at hr0
            subst hr0
            rcases hSt.2.2.2 with ⟨_, hst⟩ | ⟨h, _⟩
            · exact ⟨s, c', rfl, rfl, BalOk.of hq hc hst⟩
            · cases h
        · cases h
    obtain ⟨sv, cp, rfl, rfl, hB⟩ := hgood
    have HB := Lib.hid hB
    have hcp := hB.c2
    have hll : ll.length = cp + 1 := hB.len
    have hrl : r.length = cp + 1 := (hB.rows r (by simp)).1
    have hll1 : cp + 1 ≤ ll.length ∧ ll.length ≤ cp + 1 := by omega
    have hrl1 : cp + 1 ≤ r.length ∧ r.length ≤ cp + 1 := by omega
    have HLL := Lib.hid hll
    have HRL := Lib.hid hrl
    rw [hll, hrl] at M2
    rw [hll] at p1
    rw [hll, hrl]
    clear HE HS hB hll hrl
    go_wp2_with fail
    have o1 := K2.new w3 (.int .i64 1) (.int .i64 1) 23
    replace M2 := M2.alloc (.cells #[.int .i64 1, .int .i64 1] 23)
    refine (clone_ok ll w1.heap.size w2.heap.size _ _ M2.2.2.1 (by omega) (by omega)).mono ?_
    rintro e w4 ⟨g4, cap4, us4, rfl, hown4, hal4, hb4⟩
    have hz4 := hb4.size
    simp at hz4 hown4
    replace o1 := K2.aft hb4 o1
    replace M2 := M2.below hb4
    rw [HLL.out] at hown4 ⊢
    obtain ⟨i1, hi1, hy0, hy1, hy2⟩ := info_parts info_fracs
    have M3 := M2.alloc (.cells #[.slice A2 (cp + 1) c2] 27)
    have ow3 := hown4.alloc (.cells #[.slice A2 (cp + 1) c2] 27)
    have HAL := Lib.hid (hal4.after ((Below.refl _ w4).alloc (Nat.le_refl _) (.cells #[.slice A2 (cp + 1) c2] 27)))
    have ok3 := K2.alloc o1 (.cells #[.slice A2 (cp + 1) c2] 27)
    have hul4 : us4.length = cp + 1 := by rw [hal4.1, HLL.out]
    have HUL4 := Lib.hid hul4
    clear hb4 hown4 hal4 M2 o1 hul4
    go_wp2_with (at_builtin; refine wpList_append_lies _ rfl _ _ 40 rfl (w3.heap.size + 1) 27 i1 _ 1 24 Try.underlying40 hi1 hy0 hy1 hy2 rfl (by omega) _ (cp + 1) us4 rfl ow3 ⟨w4.heap.size, 0, none⟩ 1 1 [_] rfl rfl (World.news_of_block (heap_alloc_new w4 _)) (by simp [Value.oneCell']) (by omega) (by unfold maxLen; omega) (by omega) (by simp; omega) (w4.heap.size + 1) (by simp) ?_; intro g6 cap6 w6 hown6 hgrow6 hat6 hlt6)
    have hz6 := hgrow6.size
    simp at hz6
    obtain ⟨us, hus⟩ : ∃ us, us4 ++ [Value.slice A2 (cp + 1) c2] = us := ⟨_, rfl⟩
    obtain ⟨L, hL⟩ : ∃ L, ll ++ [r] = L := ⟨_, rfl⟩
    have hLl : L.length = cp + 1 + 1 := by rw [← hL]; simp [HLL.out]
    have hull : us.length = cp + 1 + 1 := by rw [← hus]; simp [HUL4.out]
    have hal6 : All2 w6 w.heap.size w3.heap.size us L := by
      have a1 : All2 (w4.alloc (.cells #[.slice A2 (cp + 1) c2] 27)) w.heap.size w3.heap.size us4 ll := ⟨HAL.out.1, fun i u l a b => RdG.mono (HAL.out.2 i u l a b) (by omega) (by omega)⟩
      have a2 : RdF (w4.alloc (.cells #[.slice A2 (cp + 1) c2] 27)) w.heap.size w3.heap.size (.slice A2 (cp + 1) c2) r := M3.1
      rw [← hus, ← hL]
      exact (a1.snoc a2).grownB hgrow6 (fun g hg => by have := (ow3.lt g hg).1; omega)
    have M6 := Mem.grownO M3 hgrow6 ow3 (by (repeat' (first | exact True.intro | refine And.intro (fun k hk e => ?_) ?_)) <;> (first | exact e | ((try dsimp only [Loc.c1, Loc.c2, Loc.k1, Loc.k2, Loc.k6, Loc.rdF, Loc.rdFF, Loc.all2, Loc.fr, Loc.bl, Loc.own, Loc.sz] at hk e) <;> omega)))
    have ok6 : Mem [Loc.k2 w3.heap.size (.int .i64 1) (.int .i64 1)] w6 := Mem.grownO (⟨ok3, True.intro⟩ : Mem [Loc.k2 w3.heap.size (.int .i64 1) (.int .i64 1)] _) hgrow6 ow3 (by (repeat' (first | exact True.intro | refine And.intro (fun k hk e => ?_) ?_)) <;> (first | exact e | ((try dsimp only [Loc.c1, Loc.c2, Loc.k1, Loc.k2, Loc.k6, Loc.rdF, Loc.rdFF, Loc.all2, Loc.fr, Loc.bl, Loc.own, Loc.sz] at hk e) <;> omega)))
    rw [hus] at hown6
    have M : Mem [Loc.all2 w.heap.size w3.heap.size us L, Loc.own (w3.heap.size + 1) w6.heap.size 27 1 (.slice (some ⟨g6, 0, none⟩) (cp + 1 + 1) cap6) (cp + 1 + 1) us, Loc.k2 w3.heap.size (.int .i64 1) (.int .i64 1), Loc.rdF w.heap.size w3.heap.size (.slice A2 (cp + 1) c2) r, Loc.k1 w2.heap.size (.slice A (cp + 1) c), Loc.rdFF w1.heap.size w2.heap.size (.slice A (cp + 1) c) ll, Loc.k6 w.heap.size (.int .i64 ar.n) (.int .i64 ar.d) (.int .i64 se.n) (.int .i64 se.d) (.int .i64 sv) (.int .i64 cp), Loc.bl w.heap.size w, Loc.sz w6.heap.size] w6 := ⟨hal6, ⟨hown6, fun k hk => by have := (hown6.lt k hk).2; exact this⟩, ok6.1, M6.1, M6.2.1, M6.2.2.1, M6.2.2.2.1, M6.2.2.2.2.1, Nat.le_refl _, True.intro⟩
    have HM := Lib.hid M
    have HLL2 := Lib.hid hLl
    have HUU := Lib.hid hull
    have HLR := Lib.hid (show ∀ l ∈ L, l.length = cp + 1 ∧ (∀ a ∈ l, nn a) ∧ ∀ d, downS l (cp + 1) = some d → d = oneF by rw [← hL]; exact HB.out.rows)
    have HLE := Lib.hid hL
    clear M hown6 hgrow6 hat6 hlt6 M3 ow3 HAL ok3 hal6 M6 ok6 hus hL hLl hull p1
    go_wp2
    go_loopw [8, 50] (fun v8 v50 wr => ∃ (k : Nat) (fit : Bool), k ≤ cp + 1 + 1 ∧ v50 = .int .i64 k ∧ v8 = .bool fit ∧ Mem [Loc.all2 w.heap.size w3.heap.size us L, Loc.own (w3.heap.size + 1) w6.heap.size 27 1 (.slice (some ⟨g6, 0, none⟩) (cp + 1 + 1) cap6) (cp + 1 + 1) us, Loc.k2 w3.heap.size (.int .i64 1) (.int .i64 1), Loc.rdF w.heap.size w3.heap.size (.slice A2 (cp + 1) c2) r, Loc.k1 w2.heap.size (.slice A (cp + 1) c), Loc.rdFF w1.heap.size w2.heap.size (.slice A (cp + 1) c) ll, Loc.k6 w.heap.size (.int .i64 ar.n) (.int .i64 ar.d) (.int .i64 se.n) (.int .i64 se.d) (.int .i64 sv) (.int .i64 cp), Loc.bl w.heap.size w, Loc.sz w6.heap.size] wr ∧ (fit = true → ∀ (i : Nat) (l : List Fr), i < k → L[i]? = some l → downS l (cp + 1) = some oneF)) (fun _ v50 _ => cp + 1 + 1 - (intOf v50).toNat)
    case atStart => exact ⟨0, true, by omega, rfl, rfl, HM.out, fun _ i l hi => by omega⟩
    case round =>
      clear HM
      obtain ⟨k, fit, hk, rfl, rfl, M, hF⟩ := hrel
      have HF := Lib.hid hF
      clear hF
      by_cases hlt : k < cp + 1 + 1
      · have hkd : decide ((k : Int) < (cp : Int) + 1 + 1) = true := by simp; omega
        have hkb : (k : Int) < (cp : Int) + 1 + 1 := by omega
        obtain ⟨u, hu⟩ : ∃ u, us[k]? = some u := ⟨_, List.getElem?_eq_getElem (by rw [HUU.out]; exact hlt)⟩
        have hrow : L[k]? = some (rw' L k) := rw_get (by rw [HLL2.out]; exact hlt)
        have hc1 := own_cell M.2.1.1 hu
        have rf1 := M.1.2 k u _ hu hrow
        have hLk := HLR.out (rw' L k) (List.mem_of_getElem? hrow)
        obtain ⟨B, d, hue, _, _⟩ := rf1.form
        rw [hLk.1] at hue
        subst hue
        have hnn := hLk.2.1
        have HSU : Hid (sumE (rw' L k) = FE.of (downS (rw' L k) (cp + 1))) := Lib.hid (by unfold sumE; rw [nn_all hnn, if_pos rfl, if_pos (by rw [hLk.1]; omega), hLk.1])
        have HAN := Lib.hid (nn_none hnn)
        have HD1 := Lib.hid hLk.2.2
        have HRF := Lib.hid rf1
        have HROW := Lib.hid hrow
        have q1 := M.2.2.2.2.2.2.1
        have hzz := M.2.2.2.2.2.2.2.2.1
        clear hu rf1 hLk hnn hrow
        go_wp2_with fail
        refine (Sum_any (rw' L k) w.heap.size w3.heap.size _ _ HRF.out (by omega)).mono ?_
        rintro e w7 ⟨rfl, hb7⟩
        rw [HSU.out]
        replace M := M.below hb7
        replace HRF := Lib.hid (RdG.after HRF.out hb7)
        have hz7 := hb7.size
        clear hb7 q1 hc1
        have k2 := M.2.2.1
        obtain ⟨o, ho⟩ : ∃ o, downS (rw' L k) (cp + 1) = o := ⟨_, rfl⟩
        rw [ho]
        have HO := Lib.hid ho
        clear ho
        cases o with
        | none =>
          have hof : FE.of none = ⟨0, 0, 6⟩ := rfl
          rw [hof]
          clear hof
          cases fit
          all_goals
            go_wp2_with fail
            refine (containsFuncF_any 35 ent_bal1 #[] (fun a => !a.okB || decide (a.n < 0)) (rw' L k) _ _ (RdF.toB (RdG.after HRF.out ((Below.refl _ _).alloc (Nat.le_refl _) _))) (fun a _ W _ => bal1_any a W)).mono ?_
            rintro e w8 ⟨rfl, hb8⟩
            rw [HAN.out]
            have HM8 := Lib.hid ((M.alloc _).below hb8)
            clear hb8 k2
            clear M
            go_wp2_with fail
            go_roundw
            case rel =>
              have hrel : ∃ (k' : Nat) (fit' : Bool), k' ≤ cp + 1 + 1 ∧ Value.int .i64 ((k : Int) + 1) = .int .i64 k' ∧ Value.bool false = .bool fit' ∧ Mem [Loc.all2 w.heap.size w3.heap.size us L, Loc.own (w3.heap.size + 1) w6.heap.size 27 1 (.slice (some ⟨g6, 0, none⟩) (cp + 1 + 1) cap6) (cp + 1 + 1) us, Loc.k2 w3.heap.size (.int .i64 1) (.int .i64 1), Loc.rdF w.heap.size w3.heap.size (.slice A2 (cp + 1) c2) r, Loc.k1 w2.heap.size (.slice A (cp + 1) c), Loc.rdFF w1.heap.size w2.heap.size (.slice A (cp + 1) c) ll, Loc.k6 w.heap.size (.int .i64 ar.n) (.int .i64 ar.d) (.int .i64 se.n) (.int .i64 se.d) (.int .i64 sv) (.int .i64 cp), Loc.bl w.heap.size w, Loc.sz w6.heap.size] w8 ∧ (fit' = true → ∀ (i : Nat) (l : List Fr), i < k' → L[i]? = some l → downS l (cp + 1) = some oneF) := ⟨k + 1, false, by omega, by go_num, rfl, HM8.out, fun h => by cases h⟩
              first | exact hrel | ((repeat apply Exists.intro); exact ⟨hrel, rfl⟩)
            case measure => first | (simp [intOf]; done) | (simp [intOf]; omega)
        | some dd =>
          have hdd : dd = oneF := HD1.out dd HO.out
          subst hdd
          have hof : FE.of (some oneF) = ⟨1, 1, 0⟩ := rfl
          rw [hof]
          clear hof
          cases fit with
          | false =>
            go_wp2_with fail
            refine (containsFuncF_any 35 ent_bal1 #[] (fun a => !a.okB || decide (a.n < 0)) (rw' L k) _ _ (RdF.toB (RdG.after HRF.out ((Below.refl _ _).alloc (Nat.le_refl _) _))) (fun a _ W _ => bal1_any a W)).mono ?_
            rintro e w8 ⟨rfl, hb8⟩
            rw [HAN.out]
            have HM8 := Lib.hid ((M.alloc _).below hb8)
            clear hb8 k2
            clear M
            go_wp2_with fail
            go_roundw
            case rel =>
              have hrel : ∃ (k' : Nat) (fit' : Bool), k' ≤ cp + 1 + 1 ∧ Value.int .i64 ((k : Int) + 1) = .int .i64 k' ∧ Value.bool false = .bool fit' ∧ Mem [Loc.all2 w.heap.size w3.heap.size us L, Loc.own (w3.heap.size + 1) w6.heap.size 27 1 (.slice (some ⟨g6, 0, none⟩) (cp + 1 + 1) cap6) (cp + 1 + 1) us, Loc.k2 w3.heap.size (.int .i64 1) (.int .i64 1), Loc.rdF w.heap.size w3.heap.size (.slice A2 (cp + 1) c2) r, Loc.k1 w2.heap.size (.slice A (cp + 1) c), Loc.rdFF w1.heap.size w2.heap.size (.slice A (cp + 1) c) ll, Loc.k6 w.heap.size (.int .i64 ar.n) (.int .i64 ar.d) (.int .i64 se.n) (.int .i64 se.d) (.int .i64 sv) (.int .i64 cp), Loc.bl w.heap.size w, Loc.sz w6.heap.size] w8 ∧ (fit' = true → ∀ (i : Nat) (l : List Fr), i < k' → L[i]? = some l → downS l (cp + 1) = some oneF) := ⟨k + 1, false, by omega, by go_num, rfl, HM8.out, fun h => by cases h⟩
              first | exact hrel | ((repeat apply Exists.intro); exact ⟨hrel, rfl⟩)
            case measure => first | (simp [intOf]; done) | (simp [intOf]; omega)
          | true =>
            go_wp2_with fail
            refine (containsFuncF_any 35 ent_bal1 #[] (fun a => !a.okB || decide (a.n < 0)) (rw' L k) _ _ (RdF.toB (RdG.after HRF.out ((Below.refl _ _).alloc (Nat.le_refl _) _))) (fun a _ W _ => bal1_any a W)).mono ?_
            rintro e w8 ⟨rfl, hb8⟩
            rw [HAN.out]
            have HM8 := Lib.hid ((M.alloc _).below hb8)
            clear hb8 k2
            clear M
            go_wp2_with fail
            go_roundw
            case rel =>
              have hrel : ∃ (k' : Nat) (fit' : Bool), k' ≤ cp + 1 + 1 ∧ Value.int .i64 ((k : Int) + 1) = .int .i64 k' ∧ Value.bool true = .bool fit' ∧ Mem [Loc.all2 w.heap.size w3.heap.size us L, Loc.own (w3.heap.size + 1) w6.heap.size 27 1 (.slice (some ⟨g6, 0, none⟩) (cp + 1 + 1) cap6) (cp + 1 + 1) us, Loc.k2 w3.heap.size (.int .i64 1) (.int .i64 1), Loc.rdF w.heap.size w3.heap.size (.slice A2 (cp + 1) c2) r, Loc.k1 w2.heap.size (.slice A (cp + 1) c), Loc.rdFF w1.heap.size w2.heap.size (.slice A (cp + 1) c) ll, Loc.k6 w.heap.size (.int .i64 ar.n) (.int .i64 ar.d) (.int .i64 se.n) (.int .i64 se.d) (.int .i64 sv) (.int .i64 cp), Loc.bl w.heap.size w, Loc.sz w6.heap.size] w8 ∧ (fit' = true → ∀ (i : Nat) (l : List Fr), i < k' → L[i]? = some l → downS l (cp + 1) = some oneF) := ⟨k + 1, true, by omega, by go_num, rfl, HM8.out, fun h i l hi hl => by
                rcases Nat.lt_or_eq_of_le (Nat.le_of_lt_succ hi) with h1 | h1
                · exact HF.out (by first | trivial | rfl) i l h1 hl
                · subst h1; rw [HROW.out] at hl; injection hl with hl; rw [← hl]; exact HO.out⟩
              first | exact hrel | ((repeat apply Exists.intro); exact ⟨hrel, rfl⟩)
            case measure => first | (simp [intOf]; done) | (simp [intOf]; omega)
      · have hkd : decide ((k : Int) < (cp : Int) + 1 + 1) = false := by simp; omega
        obtain rfl : k = cp + 1 + 1 := by omega
        have p1 := M.2.2.2.2.1
        have hzz := M.2.2.2.2.2.2.2.2.1
        cases fit with
        | false =>
          have HM := Lib.hid M
          clear M
          go_wp2_with fail
          exact HR.out _ _ ⟨rfl, HM.out.2.2.2.2.2.2.2.1.1⟩
        | true =>
          have hall := HF.out rfl
          have hdist : ∀ l ∈ L, DistOk l (cp + 1) := by
            intro l hl
            obtain ⟨i, hi, rfl⟩ := List.mem_iff_getElem.1 hl
            have h1 := HLR.out _ (List.getElem_mem hi)
            exact ⟨h1.1, by omega, h1.2.1, by rw [h1.1]; exact hall i _ (by rw [← HLL2.out]; exact hi) (List.getElem?_eq_getElem hi)⟩
          have hch : ChainOk ll := ⟨by rw [HLL.out]; omega, by rw [HLL.out]; omega, fun l hl => by rw [HLL.out]; exact hdist l (by rw [← HLE.out]; exact List.mem_append_left _ hl)⟩
          have hpd : DistOk r ll.length := by rw [HLL.out]; exact hdist r (by rw [← HLE.out]; simp)
          have HIS := Lib.hid (isStationary_ok ll r w1.heap.size w2.heap.size w.heap.size w3.heap.size (.slice A (cp + 1) c) (.slice A2 (cp + 1) c2) wr M.2.2.2.2.2.1 M.2.2.2.1 ⟨by omega, by omega⟩ hch hpd HB.out.stat)
          have HM := Lib.hid M
          clear M hall hdist hch hpd
          go_wp2_with fail
          refine HIS.out.mono ?_
          rintro e w9 ⟨y, z, rfl, hb9, hyz⟩
          have HM9 := Lib.hid (HM.out.below hb9)
          clear hb9 HIS
          rcases hyz with ⟨rfl, rfl⟩ | ⟨rfl, rfl⟩
          all_goals
            go_wp2_with fail
            exact HR.out _ _ ⟨rfl, HM9.out.2.2.2.2.2.2.2.1.1⟩
  · have hlen : (ll = [] ∨ r = []) := by
      by_cases h1 : x = 0
      · right
        have h2 : x2 ≠ 0 := fun h => hx ⟨h1, h⟩
        rcases HS.out with ⟨_, h, _⟩ | ⟨s2, c2', _, _, _, b', x0, r0, _, hx0, hr0⟩
        · exact h
        · subst hx0
          rw [if_neg h2] at hr0
          exact hr0
      · left
        rcases HE.out with ⟨_, h, _⟩ | ⟨s, c', _, _, _, h⟩
        · exact h
        · rcases h with ⟨h, _⟩ | ⟨_, h⟩
          · exact absurd h h1
          · exact h
    have HM := Lib.hid M2
    have HX := Lib.hid hx
    clear M2 HE HS
    by_cases h1 : x = 0
    · subst h1
      have h2 : (x2 != 0) = true := by
        have : x2 ≠ 0 := fun h => HX.out ⟨rfl, h⟩
        simpa using this
      clear hx HX
      rcases hlen with rfl | rfl
      · go_wp2_with fail
        exact HR.out _ _ ⟨rfl, HM.out.2.2.2.2.1.1⟩
      · cases hl0 : ll.length with
        | zero =>
          rw [hl0] at p1
          go_wp2_with fail
          exact HR.out _ _ ⟨rfl, HM.out.2.2.2.2.1.1⟩
        | succ n =>
          rw [hl0] at p1
          go_wp2_with fail
          exact HR.out _ _ ⟨rfl, HM.out.2.2.2.2.1.1⟩
    · have h2 : (x != 0) = true := by simpa using h1
      clear hx HX h1
      rcases hlen with rfl | rfl
      · go_wp2_with fail
        exact HR.out _ _ ⟨rfl, HM.out.2.2.2.2.1.1⟩
      · cases hl0 : ll.length with
        | zero =>
          rw [hl0] at p1
          go_wp2_with fail
          exact HR.out _ _ ⟨rfl, HM.out.2.2.2.2.1.1⟩
        | succ n =>
          rw [hl0] at p1
          go_wp2_with fail
          exact HR.out _ _ ⟨rfl, HM.out.2.2.2.2.1.1⟩


set_option maxRecDepth 100000 in
theorem queueBalance_lifted (os : Os) (started : os.Started) (H : Type) (enc : TypeId × Value → H) :
    ReturnsInHanded {} Try.checked os 9 .any (Rows.queueBalanceSpec.pre6 enc Try.prog Try.f9 Rows.queueBalanceRow.domain false) (Rows.queueBalanceSpec.post enc Try.prog Try.f9 false true false false) := by
  refine returnsInHanded_of_change (C := Try.checked) own_knob started (by kernel_rfl) Try.func9
    (ChangeSpec.witness6 (enc := enc) (C := Try.checked) false ⟨#[], #[.agg #[.int .i64 0, .int .i64 0, .int .i64 0, .int .i64 0, .int .i64 0, .int .i64 0]], []⟩ 8 (by kernel_rfl) (by kernel_rfl) (by kernel_rfl) (by kernel_rfl)) ?_
  intro W base args ds gs before hval0 hW hcnd _
  have hval : ∀ (j : Nat) t v, Try.f9.params[j]? = some t → args[j]? = some v → Value.okWide Try.prog W .any base t v := hval0
  have hW' := hW
  obtain ⟨p, q, hA0, hV, rfl, hfz, hnd⟩ := hW
  have hA : DataW.TrodAll enc Try.prog W 0 (fun _ => true) true Try.f9.params.toList args.toList ds p := hA0
  rw [Try.params9] at hA hval
  obtain ⟨v0, d0, rfl, rfl, h0⟩ := trodAll_one hA
  obtain ⟨rfl, rfl⟩ := trodVars_none hV
  obtain ⟨ar, se, sv, cp, rfl⟩ := open_queue (hval 0 25 v0 rfl rfl) h0
  simp only [List.append_nil] at hW'
  refine (lawBalance_any ar se sv cp W).mono fun e W' ⟨he, hb⟩ => ?_
  subst he
  exact ⟨_, rfl, law_post (t := 4) hW' (by kernel_rfl) Try.underlying4 ⟨rfl, rfl, rfl⟩ rfl (trodAll_mk1 (Below.trod laid_out (by kernel_rfl) (of_decide_eq_true (by kernel_rfl)) h0 hb (fun x hx => hW'.lt x hx))) hb⟩

theorem queueBalance_holds : Rows.QueueBalanceSaid :=
  OpenClaim.holds_of_wide 9 Try.f9 rfl rfl rfl rfl rfl rfl rfl ⟨rfl, rfl, rfl, rfl, rfl⟩ rfl rfl rfl rfl rfl (by kernel_rfl) Try.func9 (by kernel_rfl)
    (of_decide_eq_true (by kernel_rfl)) (by unfold Func.isWrapper; first | (rw [if_pos (by decide +kernel)]; kernel_rfl) | (rw [if_neg (by decide +kernel)]; exact ⟨rfl, rfl⟩))
    (fun os started H enc _ => queueBalance_lifted os started H enc)

#print axioms queueBalance_holds

end Go.Proofs.Ythlgkomhnhkooaa
