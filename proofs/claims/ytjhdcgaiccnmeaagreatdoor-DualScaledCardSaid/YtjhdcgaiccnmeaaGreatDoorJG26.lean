import Derived.Test.YtjhdcgaiccnmeaaGreatDoorJG24
import Derived.Test.YtjhdcgaiccnmeaaGreatDoorJG15
import Derived.Test.YtjhdcgaiccnmeaaGreatDoorJG18
import Derived.Test.YtjhdcgaiccnmeaaGreatDoorJG19
import Derived.Test.YtjhdcgaiccnmeaaGreatDoorJG5
import Derived.Test.YtjhdcgaiccnmeaaGreatDoorJG4
import Derived.Test.YtjhdcgaiccnmeaaGreatDoorJG20
set_option linter.unusedSimpArgs false
set_option linter.unusedVariables false
set_option linter.unusedSectionVars false
section
namespace Go.Proofs.YtjhdcgaiccnmeaaGreatDoor.Aw
open Go.RowKit Go.Proofs
variable {P : Program} [IsP P]
theorem gti_mem {α : Type} [Inhabited α] {l : List α} {k : Nat} (h : k < l.length) : gti l k ∈ l := List.mem_of_getElem? (zbu h)
instance : Inhabited Fr := ⟨⟨0, 0⟩⟩
def eF (a : Fr) : AV := .agg [eI a.n, eI a.d]
def eFE (x : FE) : AV := .tup [.agg [eI x.n, eI x.d], eI x.e]
theorem lo_F (a : Fr) : Lo 0 (eF a) := .agg _ (zah (.s _) (zah (.s _) zap))
theorem rep_F {G : Cx} {v : Value} {a : Fr} (h : Rep G v (eF a)) : v = .agg #[.int .i64 a.n, .int .i64 a.d] := by
 generalize hx : eF a = x at h
 cases h with
 | agg vs cs hl h1 hr =>
  unfold eF at hx
  injection hx with hx
  subst hx
  obtain ⟨q⟩ := vs
  match q, hl with
  | [u, w], _ =>
   have e1 := zdr (hr 0 u _ rfl rfl)
   have e2 := zdr (hr 1 w _ rfl rfl)
   rw [e1, e2]
 | _ => unfold eF at hx; cases hx
theorem rep_mkF (G : Cx) (n d : Int) : Rep G (.agg #[.int .i64 n, .int .i64 d]) (.agg [eI n, eI d]) :=
 .agg _ _ rfl (fun c hc => by simp at hc; rcases hc with rfl | rfl <;> rfl) (fun j v c hv hc => by
  match j, hv, hc with
  | 0, hv, hc => simp at hv hc; subst hv hc; exact .s _
  | 1, hv, hc => simp at hv hc; subst hv hc; exact .s _
  | j + 2, hv, hc => simp at hv)
theorem retFE_pure {f : FuncId} {args : List AV} {x : FE} (he : Ent f) (h : ∀ (G : Cx) (vargs : Array Value), vargs.size = args.length → (∀ (j : Nat) v x, vargs[j]? = some v → args[j]? = some x → Rep G v x) → Calls Tryz.prog f vargs G.w fun e w' => e = .returned (.tuple #[.agg #[.int .i64 (x).n, .int .i64 (x).d], .int .i64 (x).e]) ∧ Below G.w.heap.size G.w w') : Pure P f args (eFE x) :=
 pure_prog (pure_mk he (.tup _ (zah (.agg _ (zah (.s _) (zah (.s _) zap))) (zah (.s _) zap))) fun G vargs hst hsz hrep => (h G vargs hsz hrep).mono (by
  rintro e w' ⟨rfl, hb⟩
  refine ⟨_, rfl, hb, .tup _ _ rfl (fun j v c hv hc => ?_)⟩
  match j, hv, hc with
  | 0, hv, hc => simp at hv hc; subst hv hc; exact rep_mkF _ _ _
  | 1, hv, hc => simp at hv hc; subst hv hc; exact .s _
  | j + 2, hv, hc => simp at hv))
theorem args_FF {G : Cx} {vargs : Array Value} {a b : Fr} (hsz : vargs.size = [eF a, eF b].length) (hrep : ∀ (j : Nat) v x, vargs[j]? = some v → [eF a, eF b][j]? = some x → Rep G v x) : vargs = #[.agg #[.int .i64 (a).n, .int .i64 (a).d], .agg #[.int .i64 (b).n, .int .i64 (b).d]] := by
 obtain ⟨q⟩ := vargs
 match q, hsz with
 | [u, w], _ => rw [rep_F (hrep 0 u _ rfl rfl), rep_F (hrep 1 w _ rfl rfl)]
theorem args_F {G : Cx} {vargs : Array Value} {a : Fr} (hsz : vargs.size = [eF a].length) (hrep : ∀ (j : Nat) v x, vargs[j]? = some v → [eF a][j]? = some x → Rep G v x) : vargs = #[.agg #[.int .i64 (a).n, .int .i64 (a).d]] := by
 obtain ⟨q⟩ := vargs
 match q, hsz with
 | [u], _ => rw [rep_F (hrep 0 u _ rfl rfl)]
theorem ret_s_pure {f : FuncId} {args : List AV} {u : Value} (he : Ent f) (h : ∀ (G : Cx) (vargs : Array Value), vargs.size = args.length → (∀ (j : Nat) v x, vargs[j]? = some v → args[j]? = some x → Rep G v x) → Calls Tryz.prog f vargs G.w fun e w' => e = .returned u ∧ Below G.w.heap.size G.w w') : Pure P f args (.s u) :=
 pure_prog (pure_mk he (.s _) fun G vargs hst hsz hrep => (h G vargs hsz hrep).mono (by
  rintro e w' ⟨rfl, hb⟩
  exact ⟨_, rfl, hb, .s _⟩))
theorem retF_pure {f : FuncId} {args : List AV} {a : Fr} (he : Ent f) (h : ∀ (G : Cx) (vargs : Array Value), vargs.size = args.length → (∀ (j : Nat) v x, vargs[j]? = some v → args[j]? = some x → Rep G v x) → Calls Tryz.prog f vargs G.w fun e w' => e = .returned (.agg #[.int .i64 (a).n, .int .i64 (a).d]) ∧ Below G.w.heap.size G.w w') : Pure P f args (eF a) :=
 pure_prog (pure_mk he (lo_F a) fun G vargs hst hsz hrep => (h G vargs hsz hrep).mono (by
  rintro e w' ⟨rfl, hb⟩
  exact ⟨_, rfl, hb, rep_mkF _ _ _⟩))
theorem fAdd_pf (a b : Fr) : Pure P 100 [eF a, eF b] (eFE (addE a b)) :=
 retFE_pure (zdg Tryz.func100 rfl rfl) fun G vargs hsz hrep => by rw [args_FF hsz hrep]; exact add_any a b G.w
theorem fMul_pf (a b : Fr) : Pure P 150 [eF a, eF b] (eFE (mulE a b)) :=
 retFE_pure (zdg Tryz.func150 rfl rfl) fun G vargs hsz hrep => by rw [args_FF hsz hrep]; exact mul_any a b G.w
def cmpE (a b : Fr) : Int × Int := if a.okB && b.okB then (cmpN a b, 0) else (0, 1)
theorem fCmp_pf (a b : Fr) : Pure P 131 [eF a, eF b] (.tup [eI (cmpE a b).1, eI (cmpE a b).2]) :=
 pure_prog (pure_mk (zdg Tryz.func131 rfl rfl) (.tup _ (zah (.s _) (zah (.s _) zap))) fun G vargs hst hsz hrep => by
  rw [args_FF hsz hrep]
  refine (cmp_any a b G.w).mono ?_
  rintro e w' ⟨rfl, hb⟩
  refine ⟨_, rfl, hb, .tup _ _ rfl (fun j v c hv hc => ?_)⟩
  match j, hv, hc with
  | 0, hv, hc => simp at hv hc; subst hv hc; unfold cmpE eI; cases a.okB <;> cases b.okB <;> exact .s _
  | 1, hv, hc => simp at hv hc; subst hv hc; unfold cmpE eI; cases a.okB <;> cases b.okB <;> exact .s _
  | j + 2, hv, hc => simp at hv)
theorem fValid_pf (a : Fr) : Pure P 81 [eF a] (eB a.okB) :=
 ret_s_pure (zdg Tryz.func81 rfl rfl) fun G vargs hsz hrep => by rw [args_F hsz hrep]; exact fracValid_any a G.w
theorem rValid_pf (a : Fr) : Pure P 105 [eF a] (eB a.okB) :=
 ret_s_pure (zdg Tryz.func105 rfl rfl) fun G vargs hsz hrep => by rw [args_F hsz hrep]; exact frvalid_any a G.w
theorem rOf_pf (n : Int) : Pure P 61 [eI n] (eF (Fr.of n)) :=
 retF_pure (zdg Tryz.func61 rfl rfl) fun G vargs hsz hrep => by
  obtain ⟨q⟩ := vargs
  match q, hsz with
  | [u], _ => rw [zdr (hrep 0 u _ rfl rfl)]; exact rof_any n G.w
theorem rAdd_pf (a b : Fr) : Pure P 66 [eF a, eF b] (eFE (addE a b)) :=
 retFE_pure (zdg Tryz.func66 rfl rfl) fun G vargs hsz hrep => by rw [args_FF hsz hrep]; exact radd_any a b G.w
theorem rMul_pf (a b : Fr) : Pure P 138 [eF a, eF b] (eFE (mulE a b)) :=
 retFE_pure (zdg Tryz.func138 rfl rfl) fun G vargs hsz hrep => by rw [args_FF hsz hrep]; exact rmul_any a b G.w
theorem indexFF_pf (f : FuncId) (caps : List AV) (p : Fr → Bool) (l : List Fr) (hlo : ∀ a : Fr, Lo 0 (eF a)) (hlc : Lo 0 (.fn f caps)) (hf : ∀ a ∈ l, Pure P f ([eF a] ++ caps) (eB (p a))) :
  Pure P 78 [eL eF l, .fn f caps] (eI (zc1 p l)) := by
 refine zbb (by rw [IsP.eq (P := P)]; exact Tryz.func78) rfl rfl rfl rfl rfl (zah (zaq hlo) (zah hlc zap)) (.s _) (by simp only [argF]; rfl) ?_
 refine aw_bdm (d := 0) rfl (fun hmx => ?_)
 unfold maxLen at hmx
 refine zaf (zae (zbe rfl (zaj (zaf (zaf (zae (zbe rfl (zab rfl rfl (zaa rfl) (za2 rfl ts30 rfl) (zbe rfl (zaj (zak (zac ?_))))))))))))
 refine zdc (S := Nat) (fun k => [(0, eL eF l), (1, .fn f caps), (7, eI l.length), (8, eI k)]) (fun _ => []) (fun k => k ≤ l.length ∧ ∀ j a, j < k → l[j]? = some a → p a = false) (fun k => l.length - k) 0 (zdk _ ⟨rfl, rfl, rfl, rfl, trivial⟩) ⟨by omega, fun j a hj => by omega⟩ (fun k hk => ?_)
 refine zaf (zae (zab rfl rfl (zaa rfl) (zb3 rfl rfl rfl) (zaj (zaf ?_))))
 refine aw_if rfl (fun h => ?_) (fun h => ?_)
 ·
  have hlt : k < l.length := by omega
  refine zad (zaf (zac (zaf (zae (zbe rfl (zbe rfl (zaj (zaf ?_))))))))
  have hp := hf (gti l k) (gti_mem hlt)
  refine zae (zbe rfl (zbe rfl (zbe rfl (zab rfl rfl (zaa rfl) (za1 rfl ts30 ti56 rfl rfl rfl (zcw (by omega)) rfl) (zb2 ta56 ti56 rfl (zab rfl rfl (zaa rfl) (zav rfl rfl (hp) (zar rfl za0)) (zaj (zak ?_))))))))
  refine aw_cond rfl (fun h => ?_) (fun h => ?_)
  ·
   refine zaf (zae (zbe rfl (zbe rfl (zaj (zak ?_)))))
   (refine zbd ?_; repeat (first | refine zbn ?_ | refine zbo ?_))
   exact zcb (.inr rfl) rfl (congrArg eI (zcs (zbu hlt) h hk.2).symm)
  ·
   refine zad (zal (zak (zae (zab rfl rfl (zaa rfl) (zbj rfl rfl rfl (IntWalk.i64_in _ (by omega))) (zbe rfl (zaj (zak ?_)))))))
   refine ⟨k + 1, ⟨by omega, fun j a hj ha => ?_⟩, by omega, zdk _ ⟨rfl, rfl, rfl, rfl, trivial⟩⟩
   by_cases e : j = k
   ·
    subst e
    rw [zbu hlt] at ha
    cases ha
    exact h
   ·
    exact hk.2 j a (by omega) ha
 ·
  (refine zdd ?_; repeat (first | refine ath_x ?_ | refine zco ?_ | refine zce rfl ?_ | refine zal ?_ | refine zak ?_ | refine zaf ?_ | refine zad ?_ | refine zac ?_))
  refine zae (zbe rfl (zaj (zak ?_)))
  (refine zbd ?_; repeat (first | refine zbn ?_ | refine zbo ?_))
  exact zcb (.inr rfl) rfl (congrArg eI (zcz (fun j a hj ha => hk.2 j a (by omega) ha)).symm)
theorem containsFF_pf (f : FuncId) (caps : List AV) (p : Fr → Bool) (l : List Fr) (hlo : ∀ a : Fr, Lo 0 (eF a)) (hlc : Lo 0 (.fn f caps)) (hf : ∀ a ∈ l, Pure P f ([eF a] ++ caps) (eB (p a))) :
  Pure P 24 [eL eF l, .fn f caps] (eB (l.any p)) := by
 refine zbb (by rw [IsP.eq (P := P)]; exact Tryz.func24) rfl rfl rfl rfl rfl (zah (zaq hlo) (zah hlc zap)) (.s _) (by simp only [argF]; rfl) ?_
 have hi := indexFF_pf f caps p l hlo hlc hf
 refine zaf (zae (zbe rfl (zaj (zaf (zae (zbe rfl (zbe rfl (zab rfl rfl (zaa rfl) (zav rfl rfl (hi) (zar rfl (zar rfl za0))) (zab rfl rfl (zaa rfl) (does_geq rfl rfl rfl) (zbe rfl (zaj (zak ?_))))))))))))
 (refine zbd ?_; repeat (first | refine zbn ?_ | refine zbo ?_))
 exact zcb (.inr rfl) rfl (congrArg eB (zc0 p l))
end Go.Proofs.YtjhdcgaiccnmeaaGreatDoor.Aw
end
section
namespace Go.Proofs.YtjhdcgaiccnmeaaGreatDoor.Aw
open Go.RowKit Go.Proofs
variable {P : Program} [IsP P]
def fineB (l : List Fr) (n : Int) : Bool := decide ((l.length : Int) = n) && l.all Fr.okB
theorem all_okB (l : List Fr) : l.all Fr.okB = !l.any (fun a => !a.okB) := by simp [List.all_eq_not_any_not]
theorem rValidAll_pf (l : List Fr) : Pure P 56 [eL eF l] (eB (l.all Fr.okB)) := by
 refine zbb (by rw [IsP.eq (P := P)]; exact Tryz.func56) rfl rfl rfl rfl rfl (by repeat' (first | exact Lo.s _ | exact zap | refine zah ?_ ?_ | refine zaq ?_ | refine Lo.agg _ ?_ | refine Lo.sl _ ?_ | intro _)) (.s _) (by simp only [argF]; rfl) ?_
 refine zaf ?_
 refine aw_bdm (d := 0) rfl (fun hmx => ?_)
 unfold maxLen at hmx
 refine zae (zbe rfl (zaj (zaf (zaf (zae (zbe rfl (zaj (zak (zac ?_)))))))))
 refine zdc (S := Nat) (fun k => [(0, eL eF l), (3, eI k)]) (fun _ => []) (fun k => k ≤ l.length ∧ ∀ j, j < k → (gti l j).okB = true) (fun k => l.length - k) 0 (zdk _ ⟨rfl, rfl, trivial⟩) ⟨by omega, fun j hj => by omega⟩ (fun k hk => ?_)
 refine zaf (zaf (zae (zbe rfl (zbe rfl (zab rfl rfl (zaa rfl) (za2 rfl ts30 rfl) ?_)))))
 refine zbw rfl rfl (zaa rfl) (zb3 rfl rfl rfl) (fun h7 => ?_) (fun h7 => ?_)
 all_goals refine zaj (zak ?_)
 all_goals (first | refine zbl rfl ?_ | refine za6 rfl ?_)
 all_goals (repeat (first | refine zaf ?_ | refine zad ?_ | refine zac ?_))
 ·
  have hlt : k < l.length := by omega
  refine zae (zbe rfl (zbe rfl (zab rfl rfl (zaa rfl) (za1 rfl ts30 ti56 rfl rfl rfl (zcw (by omega)) rfl) (zb2 ta56 ti56 rfl ?_))))
  refine zbw rfl rfl (zaa rfl) (zav rfl rfl (rValid_pf _) (zar rfl za0)) (fun h14 => ?_) (fun h14 => ?_)
  all_goals refine zab rfl rfl (zaa rfl) (zbh rfl rfl) (zaj (zak ?_))
  all_goals (first | refine zbl rfl ?_ | refine za6 rfl ?_)
  all_goals (repeat (first | refine zaf ?_ | refine zak ?_ | refine zad ?_ | refine zal ?_))
  ·
   refine zae (zbe rfl (zab rfl rfl (zaa rfl) (zbj rfl rfl rfl (IntWalk.i64_in _ (by omega))) (zbe rfl (zaj (zak ?_)))))
   refine ⟨k + 1, ⟨by omega, fun j hj => ?_⟩, by omega, zdk _ ⟨rfl, rfl, trivial⟩⟩
   by_cases e : j = k
   ·
    subst e; exact Fr.okB_of h14
   ·
    exact hk.2 j (by omega)
  ·
   refine zae (zbe rfl (zaj (zak ?_)))
   (refine zbd ?_; repeat (first | refine zbn ?_ | refine zbo ?_))
   refine zcb (.inr rfl) rfl (congrArg eB ?_)
   symm
   rw [List.all_eq_false]
   exact ⟨gti l k, gti_mem hlt, by rw [Fr.okB_not h14]; simp⟩
 ·
  (refine zdd ?_; repeat (first | refine ath_x ?_ | refine zco ?_ | refine zce rfl ?_ | refine zal ?_ | refine zak ?_ | refine zaf ?_ | refine zad ?_ | refine zac ?_))
  refine zae (zbe rfl (zaj (zak ?_)))
  (refine zbd ?_; repeat (first | refine zbn ?_ | refine zbo ?_))
  refine zcb (.inr rfl) rfl (congrArg eB ?_)
  symm
  rw [List.all_eq_true]
  intro a ha
  obtain ⟨j, hj, rfl⟩ := List.mem_iff_getElem.1 ha
  have h1 := hk.2 j (by omega)
  have h2 := zbu hj
  rw [List.getElem?_eq_getElem hj] at h2
  rw [Option.some.inj h2]; exact h1
end Go.Proofs.YtjhdcgaiccnmeaaGreatDoor.Aw
end
section
namespace Go.Proofs.YtjhdcgaiccnmeaaGreatDoor.Aw
open Go.RowKit Go.Proofs
variable {P : Program} [IsP P]
theorem fvalid1_pf (a : Fr) : Pure P 151 [eF a] (eB (!a.okB)) := by
 refine zbb (by rw [IsP.eq (P := P)]; exact Tryz.func151) rfl rfl rfl rfl rfl (by repeat' (first | exact Lo.s _ | exact zap | refine zah ?_ ?_ | refine zaq ?_ | refine Lo.agg _ ?_ | refine Lo.sl _ ?_ | intro _)) (.s _) (by simp only [argF]; rfl) ?_
 refine zaf (zae (zab rfl rfl (zaa rfl) (zb1 rfl rfl rfl rfl) ?_))
 refine za5 (zbv (id := 0) rfl) (za5 (zcf (d := 1) rfl rfl rfl) ?_)
 refine zbe rfl (zaj (zaf (zae (zb2 ta56 ti56 rfl (zab rfl rfl (zaa rfl) (zav rfl rfl (fValid_pf _) (zar rfl za0)) (zab rfl rfl (zaa rfl) (does_notp rfl rfl) (zbe rfl (zaj (zak ?_)))))))))
 (refine zbd ?_; repeat (first | refine zbn ?_ | refine zbo ?_))
 exact zcb (.inr rfl) rfl (congrArg eB (by simp [Fr.okB]))
theorem fvalid_pf (l : List Fr) : Pure P 132 [eL eF l] (eB (l.all Fr.okB)) := by
 have hc := containsFF_pf (P := P) 151 [] (fun a => !a.okB) l lo_F (.fn _ _ (by simp)) (fun a _ => fvalid1_pf a)
 refine zbb (by rw [IsP.eq (P := P)]; exact Tryz.func132) rfl rfl rfl rfl rfl (by repeat' (first | exact Lo.s _ | exact zap | refine zah ?_ ?_ | refine zaq ?_ | refine Lo.agg _ ?_ | refine Lo.sl _ ?_ | intro _)) (.s _) (by simp only [argF]; rfl) ?_
 refine zaf (zae (zbe rfl (zaj (zaf (zae (zbe rfl ?_))))))
 refine zab rfl rfl (zaa rfl) (zav rfl rfl (by assumption) (zar rfl (zar rfl za0))) ?_
 refine zab rfl rfl (zaa rfl) (zbh rfl rfl) (zbe rfl (zaj (zak ?_)))
 (refine zbd ?_; repeat (first | refine zbn ?_ | refine zbo ?_))
 exact zcb (.inr rfl) rfl (congrArg eB (all_okB l).symm)
def dotG : Fr → List Fr → List Fr → FE
 | acc, a :: ta, b :: tb => if (mulE a b).e ≠ 0 then FE.err (mulE a b).e else if (addE acc ⟨(mulE a b).n, (mulE a b).d⟩).e ≠ 0 then FE.err (addE acc ⟨(mulE a b).n, (mulE a b).d⟩).e else dotG ⟨(addE acc ⟨(mulE a b).n, (mulE a b).d⟩).n, (addE acc ⟨(mulE a b).n, (mulE a b).d⟩).d⟩ ta tb
 | acc, _, _ => ⟨acc.n, acc.d, 0⟩
def dotE (a b : List Fr) : FE := if ¬ (a.all Fr.okB = true ∧ b.all Fr.okB = true) then FE.err 1 else if 1000 < a.length ∨ 1000 < b.length then FE.err 5 else if a.length ≠ b.length then FE.err 29 else dotG (Fr.of 0) a b
theorem dotG_step {acc : Fr} {a b : List Fr} {k : Nat} (h1 : k < a.length) (h2 : k < b.length) : dotG acc (a.drop k) (b.drop k) = if (mulE (gti a k) (gti b k)).e ≠ 0 then FE.err (mulE (gti a k) (gti b k)).e else if (addE acc ⟨(mulE (gti a k) (gti b k)).n, (mulE (gti a k) (gti b k)).d⟩).e ≠ 0 then FE.err (addE acc ⟨(mulE (gti a k) (gti b k)).n, (mulE (gti a k) (gti b k)).d⟩).e else dotG ⟨(addE acc ⟨(mulE (gti a k) (gti b k)).n, (mulE (gti a k) (gti b k)).d⟩).n, (addE acc ⟨(mulE (gti a k) (gti b k)).n, (mulE (gti a k) (gti b k)).d⟩).d⟩ (a.drop (k + 1)) (b.drop (k + 1)) := by
 have e1 : a.drop k = gti a k :: a.drop (k + 1) := by
  rw [List.drop_eq_getElem_cons h1]
  have := zbu h1
  rw [List.getElem?_eq_getElem h1] at this
  rw [Option.some.inj this]
 have e2 : b.drop k = gti b k :: b.drop (k + 1) := by
  rw [List.drop_eq_getElem_cons h2]
  have := zbu h2
  rw [List.getElem?_eq_getElem h2] at this
  rw [Option.some.inj this]
 rw [e1, e2, dotG]
theorem dotG_end {acc : Fr} {a b : List Fr} {k : Nat} (h : k = a.length) : dotG acc (a.drop k) (b.drop k) = ⟨acc.n, acc.d, 0⟩ := by
 subst h
 rw [List.drop_length, dotG]
 intro a ta b tb h; cases h
theorem dotE_arg {a b : List Fr} (h : ¬ (a.all Fr.okB = true ∧ b.all Fr.okB = true)) : dotE a b = ⟨0, 0, 1⟩ := if_pos h
theorem dotE_full {a b : List Fr} (h1 : a.all Fr.okB = true) (h2 : b.all Fr.okB = true) (h : 1000 < a.length ∨ 1000 < b.length) : dotE a b = ⟨0, 0, 5⟩ := by unfold dotE; rw [if_neg (fun h => h ⟨h1, h2⟩), if_pos h]; rfl
theorem dotE_size {a b : List Fr} (h1 : a.all Fr.okB = true) (h2 : b.all Fr.okB = true) (h3 : ¬ (1000 < a.length ∨ 1000 < b.length)) (h : a.length ≠ b.length) : dotE a b = ⟨0, 0, 29⟩ := by unfold dotE; rw [if_neg (fun h => h ⟨h1, h2⟩), if_neg h3, if_pos h]; rfl
theorem dotE_go {a b : List Fr} (h1 : a.all Fr.okB = true) (h2 : b.all Fr.okB = true) (h3 : ¬ (1000 < a.length ∨ 1000 < b.length)) (h : a.length = b.length) : dotE a b = dotG (Fr.of 0) (a.drop 0) (b.drop 0) := by unfold dotE; rw [if_neg (fun h => h ⟨h1, h2⟩), if_neg h3, if_neg (fun h' => h' h)]; rfl
set_option maxHeartbeats 1000000 in
theorem rDot_pf (a b : List Fr) : Pure P 108 [eL eF a, eL eF b] (eFE (dotE a b)) := by
 refine zbb (by rw [IsP.eq (P := P)]; exact Tryz.func108) rfl rfl rfl rfl rfl (by repeat' (first | exact Lo.s _ | exact zap | refine zah ?_ ?_ | refine zaq ?_ | refine Lo.agg _ ?_ | refine Lo.sl _ ?_ | intro _)) (by repeat' (first | exact Lo.s _ | exact zap | refine zah ?_ ?_ | refine zaq ?_ | refine Lo.cells ?_ | refine Lo.agg _ ?_ | refine Lo.ref _ ?_ | refine Lo.tup _ ?_ | refine Lo.fn _ _ ?_ | refine Lo.sl _ ?_ | intro _)) (by simp only [argF]; rfl) ?_
 refine zaf ?_
 refine aw_bdm (d := 0) rfl (fun hm1 => ?_)
 refine aw_bdm (d := 1) rfl (fun hm2 => ?_)
 unfold maxLen at hm1 hm2
 refine zae (zab rfl rfl (zaa rfl) (zbi rfl ti56 rfl rfl) (zbe rfl (zaj (zaf (zaf (zae (zbe rfl ?_)))))))
 refine ops_opB rfl rfl (zaa rfl) (zav rfl rfl (rValidAll_pf _) (zar rfl za0)) (fun h11 => ?_) (fun h11 => ?_)
 all_goals refine zab rfl rfl (zaa rfl) (zbh rfl rfl) (zbe rfl ?_)
 all_goals (first | refine zbe rfl ?_ | refine zbf rfl ?_)
 all_goals (first | refine ops_opB rfl rfl (zau rfl rfl rfl) (zav rfl rfl (rValidAll_pf _) (zar rfl za0)) (fun h15 => ?_) (fun h15 => ?_) | refine zbf rfl ?_)
 all_goals (first | refine zab rfl rfl (zau rfl rfl rfl) (zbh rfl rfl) ?_ | refine zbf rfl ?_)
 all_goals refine zbe rfl (zaj (zak ?_))
 all_goals (first | refine zbl rfl ?_ | refine za6 rfl ?_)
 all_goals (repeat (first | refine zaf ?_ | refine zad ?_))
 ·
  refine zae (zbe rfl (zab rfl rfl (zaa rfl) (za2 rfl ts30 rfl) ?_))
  refine zbw rfl rfl (zaa rfl) (zb6 rfl rfl rfl) (fun h21 => ?_) (fun h21 => ?_)
  all_goals refine zbe rfl ?_
  all_goals (first | refine zbe rfl ?_ | refine zbf rfl ?_)
  all_goals (first | refine zab rfl rfl (zau rfl rfl rfl) (za2 rfl ts30 rfl) ?_ | refine zbf rfl ?_)
  all_goals (first | refine zbw rfl rfl (zau rfl rfl rfl) (zb6 rfl rfl rfl) (fun h25 => ?_) (fun h25 => ?_) | refine zbf rfl ?_)
  all_goals refine zbe rfl (zaj (zak ?_))
  all_goals (first | refine zbl rfl ?_ | refine za6 rfl ?_)
  all_goals (repeat (first | refine zaf ?_ | refine zad ?_))
  rotate_left 2
  ·
   have h3 : ¬ (1000 < a.length ∨ 1000 < b.length) := by omega
   refine zae (zbe rfl (zab rfl rfl (zaa rfl) (za2 rfl ts30 rfl) (zbe rfl (zab rfl rfl (zaa rfl) (za2 rfl ts30 rfl) ?_))))
   refine zbw rfl rfl (zaa rfl) (zb0 rfl rfl rfl) (fun h32 => ?_) (fun h32 => ?_)
   all_goals refine zaj (zak ?_)
   all_goals (first | refine zbl rfl ?_ | refine za6 rfl ?_)
   all_goals (repeat (first | refine zaf ?_ | refine zad ?_))
   ·
    refine zae (zab rfl rfl (zaa rfl) (zbp rfl ti56 tp56 rfl rfl) (zbx rfl (zaa rfl) (za7 rfl ti56 rfl rfl rfl rfl rfl rfl (by decide) (by decide)) (zbe rfl (zaj (zak ?_)))))
    (refine zbd ?_; repeat (first | refine zbn ?_ | refine zbo ?_))
    exact post_ct (.inr rfl) ta56 ti56 rfl rfl rfl rfl rfl rfl (by rw [dotE_size h11 h15 h3 (by omega)]; rfl)
   ·
    have hl : a.length = b.length := by omega
    have HI := dotE_go h11 h15 h3 hl
    refine zae (zab rfl rfl (zaa rfl) (zav rfl rfl (rOf_pf _) (zar rfl za0)) (zab rfl rfl (zaa rfl) (zbi rfl ti56 rfl rfl) (zbx rfl (zaa rfl) (za7 rfl ti56 rfl rfl rfl rfl rfl rfl (by decide) (by decide)) (zaj (zaf (zaf (zae (zbe rfl (zaj (zak (zac ?_)))))))))))
    refine zdc (S := Fr × Nat) (fun s => [(0, eL eF a), (1, eL eF b), (4, .ptr 0 2 0 0), (6, .ptr 1 2 0 0), (7, eI s.2)]) (fun s => [.row 2 [.agg [eI 0, eI 0]], .row 2 [eF s.1]]) (fun s => s.2 ≤ a.length ∧ dotE a b = dotG s.1 (a.drop s.2) (b.drop s.2)) (fun s => a.length - s.2) (Fr.of 0, 0) (zc9 [0, 1] (by decide) ⟨⟨_, rfl, .rowE (by repeat' (first | exact Lo.s _ | exact zao | refine zai ?_ ?_ | refine zan ?_ | refine Lo.cells ?_ | refine Lo.agg _ ?_ | exact zap | refine zah ?_ ?_ | intro _)) rfl⟩, ⟨_, rfl, .rowE (by repeat' (first | exact Lo.s _ | exact zao | refine zai ?_ ?_ | refine zan ?_ | refine Lo.cells ?_ | refine Lo.agg _ ?_ | exact zap | refine zah ?_ ?_ | intro _)) rfl⟩, trivial⟩ ⟨.lo _ (by repeat' (first | exact Lo.s _ | exact zap | refine zah ?_ ?_ | refine zaq ?_ | refine Lo.agg _ ?_ | refine Lo.sl _ ?_ | intro _)), .lo _ (by repeat' (first | exact Lo.s _ | exact zap | refine zah ?_ ?_ | refine zaq ?_ | refine Lo.agg _ ?_ | refine Lo.sl _ ?_ | intro _)), .ptr 0 0 2 0 0 rfl, .ptr 1 1 2 0 0 rfl, .lo _ (.s _), trivial⟩) ⟨Nat.zero_le _, HI⟩ (fun s hk => ?_)
    obtain ⟨acc, k⟩ := s
    obtain ⟨hk, HI⟩ := hk
    dsimp only at hk HI ⊢
    refine zaf (zaf (zae (zbe rfl (zbe rfl (zab rfl rfl (zaa rfl) (za2 rfl ts30 rfl) ?_)))))
    refine zbw rfl rfl (zaa rfl) (zb3 rfl rfl rfl) (fun h38 => ?_) (fun h38 => ?_)
    all_goals refine zaj (zak ?_)
    all_goals (first | refine zbl rfl ?_ | refine za6 rfl ?_)
    all_goals (repeat (first | refine zaf ?_ | refine zad ?_ | refine zac ?_))
    ·
     have h1 : k < a.length := by omega
     have h2 : k < b.length := by omega
     rw [dotG_step h1 h2] at HI
     generalize hx : mulE (gti a k) (gti b k) = x at HI
     have hmul := rMul_pf (P := P) (gti a k) (gti b k)
     rw [hx] at hmul
     refine zdj hmix ?_
     refine adraw_ex ?_
     refine ex_s rfl (ex_s rfl (zaz rfl rfl (zaa rfl) (fun _ => (za1 rfl ts30 ti56 rfl rfl rfl (zcw (by omega)) rfl)) (ex_w ta56 ti56 rfl (ex_s rfl (ex_s rfl (zaz rfl rfl (zaa rfl) (fun _ => (za1 rfl ts30 ti56 rfl rfl rfl (zcw (by omega)) rfl)) (ex_w ta56 ti56 rfl (zaz rfl rfl (zaa rfl) (fun _ => (zav rfl rfl (hmul) (zar rfl (zar rfl za0)))) (ex_s rfl (ex_s rfl (ex_s rfl ?_)))))))))))
     refine ex_eff rfl rfl (zaa rfl) (zbi rfl ti56 rfl rfl) (fun _ h => app_other h) ?_
     refine ex_eff0 rfl (zaa rfl) (za7 rfl ti56 rfl rfl rfl rfl rfl rfl (by decide) (by decide)) (fun _ h => zdn h) ?_
     refine ex_s rfl ?_
     refine ex_nil (by kernel_rfl) ?_
     refine zaf (zaf (zae (zbe rfl ?_)))
     refine zbw rfl rfl (zaa rfl) (does_eql rfl rfl rfl) (fun h54 => ?_) (fun h54 => ?_)
     all_goals refine zaj (zak ?_)
     all_goals (first | refine zbl rfl ?_ | refine za6 rfl ?_)
     all_goals (repeat (first | refine zaf ?_ | refine zad ?_))
     ·
      rw [if_neg (by omega)] at HI
      generalize hy : addE acc ⟨x.n, x.d⟩ = y at HI
      have hadd := rAdd_pf (P := P) acc ⟨x.n, x.d⟩
      rw [hy] at hadd
      refine zae (zab rfl rfl (zaa rfl) (za4 rfl ta56 ti56 rfl rfl rfl rfl rfl) (zab rfl rfl (zaa rfl) (za4 rfl ta56 ti56 rfl rfl rfl rfl rfl) (zab rfl rfl (zaa rfl) (zav rfl rfl (hadd) (zar rfl (zar rfl za0))) (zbe rfl (zbe rfl (zbe rfl (zbx rfl (zaa rfl) (za7 rfl ti56 rfl rfl rfl rfl rfl rfl (by decide) (by decide)) (zbe rfl (zaj (zaf (zaf (zae (zbe rfl ?_)))))))))))))
      refine zbw rfl rfl (zaa rfl) (zb0 rfl rfl rfl) (fun h62 => ?_) (fun h62 => ?_)
      all_goals refine zaj (zak ?_)
      all_goals (first | refine zbl rfl ?_ | refine za6 rfl ?_)
      all_goals (repeat (first | refine zaf ?_ | refine zak ?_ | refine zad ?_))
      ·
       rw [if_pos (by omega)] at HI
       refine zae (zab rfl rfl (zaa rfl) (zbp rfl ti56 tp56 rfl rfl) (zbe rfl (zbx rfl (zaa rfl) (za7 rfl ti56 rfl rfl rfl rfl rfl rfl (by decide) (by decide)) (zbe rfl (zaj (zak ?_))))))
       (refine zbd ?_; repeat (first | refine zbn ?_ | refine zbo ?_))
       exact post_ct (.inr rfl) ta56 ti56 rfl rfl rfl rfl rfl rfl (by rw [HI]; rfl)
      ·
       rw [if_neg (by omega)] at HI
       refine zae (zab rfl rfl (zaa rfl) (za4 rfl ta56 ti56 rfl rfl rfl rfl rfl) (zbx rfl (zaa rfl) (za7 rfl ti56 rfl rfl rfl rfl rfl rfl (by decide) (by decide)) (zaj (zal (zak (zae (zbe rfl (zab rfl rfl (zaa rfl) (zbj rfl rfl rfl (IntWalk.i64_in _ (by omega))) (zbe rfl (zaj (zak ?_)))))))))))
       exact ⟨(⟨y.n, y.d⟩, k + 1), ⟨by dsimp only; omega, HI⟩, by dsimp only; omega, zc9 [0, 1] (by decide) ⟨⟨_, rfl, .rowE (by repeat' (first | exact Lo.s _ | exact zao | refine zai ?_ ?_ | refine zan ?_ | refine Lo.cells ?_ | refine Lo.agg _ ?_ | exact zap | refine zah ?_ ?_ | intro _)) rfl⟩, ⟨_, rfl, .rowE (by repeat' (first | exact Lo.s _ | exact zao | refine zai ?_ ?_ | refine zan ?_ | refine Lo.cells ?_ | refine Lo.agg _ ?_ | exact zap | refine zah ?_ ?_ | intro _)) rfl⟩, trivial⟩ ⟨.lo _ (by repeat' (first | exact Lo.s _ | exact zap | refine zah ?_ ?_ | refine zaq ?_ | refine Lo.agg _ ?_ | refine Lo.sl _ ?_ | intro _)), .lo _ (by repeat' (first | exact Lo.s _ | exact zap | refine zah ?_ ?_ | refine zaq ?_ | refine Lo.agg _ ?_ | refine Lo.sl _ ?_ | intro _)), .ptr 0 0 2 0 0 rfl, .ptr 1 1 2 0 0 rfl, .lo _ (.s _), trivial⟩⟩
     ·
      rw [if_pos (by omega)] at HI
      refine zae (zbe rfl (zab rfl rfl (zaa rfl) (zck (by omega) (zb0 rfl rfl rfl)) (zaj (zak (zbl rfl (zaf (zae (zab rfl rfl (zaa rfl) (zbp rfl ti56 tp56 rfl rfl) (zbe rfl (zbx rfl (zaa rfl) (za7 rfl ti56 rfl rfl rfl rfl rfl rfl (by decide) (by decide)) (zbe rfl (zaj (zak ?_)))))))))))))
      (refine zbd ?_; repeat (first | refine zbn ?_ | refine zbo ?_))
      exact post_ct (.inr rfl) ta56 ti56 rfl rfl rfl rfl rfl rfl (by rw [HI]; rfl)
    ·
     rw [dotG_end (by omega)] at HI
     (refine zdd ?_; repeat (first | refine ath_x ?_ | refine zco ?_ | refine zce rfl ?_ | refine zal ?_ | refine zak ?_ | refine zaf ?_ | refine zad ?_ | refine zac ?_))
     refine zae (zab rfl rfl (zaa rfl) (za4 rfl ta56 ti56 rfl rfl rfl rfl rfl) (zbx rfl (zaa rfl) (za7 rfl ti56 rfl rfl rfl rfl rfl rfl (by decide) (by decide)) (zbe rfl (zaj (zak ?_)))))
     (refine zbd ?_; repeat (first | refine zbn ?_ | refine zbo ?_))
     exact post_ct (.inr rfl) ta56 ti56 rfl rfl rfl rfl rfl rfl (by rw [HI]; rfl)
  all_goals refine zae (zab rfl rfl (zaa rfl) (zbp rfl ti56 tp56 rfl rfl) (zbx rfl (zaa rfl) (za7 rfl ti56 rfl rfl rfl rfl rfl rfl (by decide) (by decide)) (zbe rfl (zaj (zak (zbd (zbn ?_)))))))
  all_goals (exact post_ct (.inr rfl) ta56 ti56 rfl rfl rfl rfl rfl rfl (by rw [dotE_full h11 h15 (by omega)]; rfl))
 all_goals refine zae (zab rfl rfl (zaa rfl) (zbp rfl ti56 tp56 rfl rfl) (zbx rfl (zaa rfl) (za7 rfl ti56 rfl rfl rfl rfl rfl rfl (by decide) (by decide)) (zbe rfl (zaj (zak (zbd (zbn ?_)))))))
 all_goals (exact post_ct (.inr rfl) ta56 ti56 rfl rfl rfl rfl rfl rfl (by rw [dotE_arg (by rintro ⟨q1, q2⟩; first | exact Bool.noConfusion (q1.symm.trans h11) | exact Bool.noConfusion (q2.symm.trans h15))]; rfl))
set_option maxHeartbeats 1000000 in
theorem fDot_pf (a b : List Fr) : Pure P 130 [eL eF a, eL eF b] (eFE (dotE a b)) := by
 refine zbb (by rw [IsP.eq (P := P)]; exact Tryz.func130) rfl rfl rfl rfl rfl (by repeat' (first | exact Lo.s _ | exact zap | refine zah ?_ ?_ | refine zaq ?_ | refine Lo.agg _ ?_ | refine Lo.sl _ ?_ | intro _)) (by repeat' (first | exact Lo.s _ | exact zap | refine zah ?_ ?_ | refine zaq ?_ | refine Lo.cells ?_ | refine Lo.agg _ ?_ | refine Lo.ref _ ?_ | refine Lo.tup _ ?_ | refine Lo.fn _ _ ?_ | refine Lo.sl _ ?_ | intro _)) (by simp only [argF]; rfl) ?_
 refine zaf ?_
 refine aw_bdm (d := 0) rfl (fun hm1 => ?_)
 refine aw_bdm (d := 1) rfl (fun hm2 => ?_)
 unfold maxLen at hm1 hm2
 refine zae (zab rfl rfl (zaa rfl) (zbi rfl ti56 rfl rfl) (zbe rfl (zaj (zaf (zac (zaf (zae (zbe rfl ?_))))))))
 refine ops_opB rfl rfl (zaa rfl) (zav rfl rfl (fvalid_pf _) (zar rfl za0)) (fun h12 => ?_) (fun h12 => ?_)
 all_goals refine zab rfl rfl (zaa rfl) (zbh rfl rfl) (zbe rfl ?_)
 all_goals (first | refine zbe rfl ?_ | refine zbf rfl ?_)
 all_goals (first | refine ops_opB rfl rfl (zau rfl rfl rfl) (zav rfl rfl (fvalid_pf _) (zar rfl za0)) (fun h16 => ?_) (fun h16 => ?_) | refine zbf rfl ?_)
 all_goals (first | refine zab rfl rfl (zau rfl rfl rfl) (zbh rfl rfl) ?_ | refine zbf rfl ?_)
 all_goals refine zbe rfl (zbe rfl (zaj (zak ?_)))
 all_goals (first | refine zbl rfl ?_ | refine za6 rfl ?_)
 all_goals refine zaf ?_
 ·
  refine zae (zbe rfl (zab rfl rfl (zaa rfl) (za2 rfl ts30 rfl) ?_))
  refine zbw rfl rfl (zaa rfl) (zb6 rfl rfl rfl) (fun h23 => ?_) (fun h23 => ?_)
  all_goals refine zbe rfl ?_
  all_goals (first | refine zbe rfl ?_ | refine zbf rfl ?_)
  all_goals (first | refine zab rfl rfl (zau rfl rfl rfl) (za2 rfl ts30 rfl) ?_ | refine zbf rfl ?_)
  all_goals (first | refine zbw rfl rfl (zau rfl rfl rfl) (zb6 rfl rfl rfl) (fun h27 => ?_) (fun h27 => ?_) | refine zbf rfl ?_)
  all_goals refine zbe rfl (zbe rfl (zaj (zak ?_)))
  all_goals (first | refine zbl rfl ?_ | refine za6 rfl ?_)
  all_goals refine zaf ?_
  rotate_left 2
  ·
   have h3 : ¬ (1000 < a.length ∨ 1000 < b.length) := by omega
   refine zae (zbe rfl (zab rfl rfl (zaa rfl) (za2 rfl ts30 rfl) (zbe rfl (zab rfl rfl (zaa rfl) (za2 rfl ts30 rfl) ?_))))
   refine zbw rfl rfl (zaa rfl) (zb0 rfl rfl rfl) (fun h35 => ?_) (fun h35 => ?_)
   all_goals refine zbe rfl (zaj (zak ?_))
   all_goals (first | refine zbl rfl ?_ | refine za6 rfl ?_)
   all_goals (repeat (first | refine zaf ?_ | refine zad ?_))
   ·
    refine zae (zab rfl rfl (zaa rfl) (zbp rfl ti56 tp56 rfl rfl) (zbx rfl (zaa rfl) (za7 rfl ti56 rfl rfl rfl rfl rfl rfl (by decide) (by decide)) (zbe rfl (zaj (zak ?_)))))
    (refine zbd ?_; repeat (first | refine zbn ?_ | refine zbo ?_))
    exact post_ct (.inr rfl) ta56 ti56 rfl rfl rfl rfl rfl rfl (by rw [dotE_size h12 h16 h3 (by omega)]; rfl)
   ·
    have hl : a.length = b.length := by omega
    have HI := dotE_go h12 h16 h3 hl
    refine zae (zab rfl rfl (zaa rfl) (zbp rfl ti56 tp56 rfl rfl) (zab rfl rfl (zaa rfl) (zbi rfl ti56 rfl rfl) (zbx rfl (zaa rfl) (za7 rfl ti56 rfl rfl rfl rfl rfl rfl (by decide) (by decide)) (zaj (zaf (zaf (zae (zbe rfl (zab rfl rfl (zaa rfl) (za2 rfl ts30 rfl) (zbe rfl (zaj (zak (zac ?_)))))))))))))
    refine zdc (S := Fr × Nat) (fun s => [(0, eL eF a), (1, eL eF b), (4, .ptr 0 2 0 0), (6, .ptr 1 2 0 0), (39, eI a.length), (40, eI s.2)]) (fun s => [.row 2 [.agg [eI 0, eI 0]], .row 2 [eF s.1]]) (fun s => s.2 ≤ a.length ∧ dotE a b = dotG s.1 (a.drop s.2) (b.drop s.2)) (fun s => a.length - s.2) (Fr.of 0, 0) (zc9 [0, 1] (by decide) ⟨⟨_, rfl, .rowE (by repeat' (first | exact Lo.s _ | exact zao | refine zai ?_ ?_ | refine zan ?_ | refine Lo.cells ?_ | refine Lo.agg _ ?_ | exact zap | refine zah ?_ ?_ | intro _)) rfl⟩, ⟨_, rfl, .rowE (by repeat' (first | exact Lo.s _ | exact zao | refine zai ?_ ?_ | refine zan ?_ | refine Lo.cells ?_ | refine Lo.agg _ ?_ | exact zap | refine zah ?_ ?_ | intro _)) rfl⟩, trivial⟩ ⟨.lo _ (by repeat' (first | exact Lo.s _ | exact zap | refine zah ?_ ?_ | refine zaq ?_ | refine Lo.agg _ ?_ | refine Lo.sl _ ?_ | intro _)), .lo _ (by repeat' (first | exact Lo.s _ | exact zap | refine zah ?_ ?_ | refine zaq ?_ | refine Lo.agg _ ?_ | refine Lo.sl _ ?_ | intro _)), .ptr 0 0 2 0 0 rfl, .ptr 1 1 2 0 0 rfl, .lo _ (.s _), .lo _ (.s _), trivial⟩) ⟨Nat.zero_le _, HI⟩ (fun s hk => ?_)
    obtain ⟨acc, k⟩ := s
    obtain ⟨hk, HI⟩ := hk
    dsimp only at hk HI ⊢
    refine zaf (zae ?_)
    refine zbw rfl rfl (zaa rfl) (zb3 rfl rfl rfl) (fun h41 => ?_) (fun h41 => ?_)
    all_goals refine zaj (zaf ?_)
    all_goals (first | refine zbl rfl ?_ | refine za6 rfl ?_)
    all_goals (repeat (first | refine zaf ?_ | refine zad ?_ | refine zac ?_))
    ·
     have h1 : k < a.length := by omega
     have h2 : k < b.length := by omega
     rw [dotG_step h1 h2] at HI
     generalize hx : mulE (gti a k) (gti b k) = x at HI
     have hmul := fMul_pf (P := P) (gti a k) (gti b k)
     rw [hx] at hmul
     refine zae (zbe rfl (zbe rfl (zaj (zaf ?_))))
     refine zdj hmix ?_
     refine adraw_ex ?_
     refine ex_s rfl (ex_s rfl (zaz rfl rfl (zaa rfl) (fun _ => (za1 rfl ts30 ti56 rfl rfl rfl (zcw (by omega)) rfl)) (ex_w ta56 ti56 rfl (ex_s rfl (ex_s rfl (zaz rfl rfl (zaa rfl) (fun _ => (za1 rfl ts30 ti56 rfl rfl rfl (zcw (by omega)) rfl)) (ex_w ta56 ti56 rfl (zaz rfl rfl (zaa rfl) (fun _ => (zav rfl rfl (hmul) (zar rfl (zar rfl za0)))) (ex_s rfl (ex_s rfl (ex_s rfl ?_)))))))))))
     refine ex_eff rfl rfl (zaa rfl) (zbi rfl ti56 rfl rfl) (fun _ h => app_other h) ?_
     refine ex_eff0 rfl (zaa rfl) (za7 rfl ti56 rfl rfl rfl rfl rfl rfl (by decide) (by decide)) (fun _ h => zdn h) ?_
     refine ex_s rfl ?_
     refine ex_nil (by kernel_rfl) ?_
     refine zaf (zaf (zae (zbe rfl ?_)))
     refine zbw rfl rfl (zaa rfl) (zb0 rfl rfl rfl) (fun h56 => ?_) (fun h56 => ?_)
     all_goals refine zaj (zak ?_)
     all_goals (first | refine zbl rfl ?_ | refine za6 rfl ?_)
     all_goals (repeat (first | refine zaf ?_ | refine zad ?_))
     ·
      rw [if_pos (by omega)] at HI
      refine zae (zab rfl rfl (zaa rfl) (zbp rfl ti56 tp56 rfl rfl) (zbe rfl (zbx rfl (zaa rfl) (za7 rfl ti56 rfl rfl rfl rfl rfl rfl (by decide) (by decide)) (zbe rfl (zaj (zak ?_))))))
      (refine zbd ?_; repeat (first | refine zbn ?_ | refine zbo ?_))
      exact post_ct (.inr rfl) ta56 ti56 rfl rfl rfl rfl rfl rfl (by rw [HI]; rfl)
     ·
      rw [if_neg (by omega)] at HI
      generalize hy : addE acc ⟨x.n, x.d⟩ = y at HI
      have hadd := fAdd_pf (P := P) acc ⟨x.n, x.d⟩
      rw [hy] at hadd
      refine zae (zab rfl rfl (zaa rfl) (za4 rfl ta56 ti56 rfl rfl rfl rfl rfl) (zab rfl rfl (zaa rfl) (za4 rfl ta56 ti56 rfl rfl rfl rfl rfl) (zab rfl rfl (zaa rfl) (zav rfl rfl (hadd) (zar rfl (zar rfl za0))) (zbe rfl (zbe rfl (zbe rfl (zbx rfl (zaa rfl) (za7 rfl ti56 rfl rfl rfl rfl rfl rfl (by decide) (by decide)) (zbe rfl (zaj (zaf (zae (zbe rfl ?_))))))))))))
      refine zbw rfl rfl (zaa rfl) (zb0 rfl rfl rfl) (fun h66 => ?_) (fun h66 => ?_)
      all_goals refine zaj (zak ?_)
      all_goals (first | refine zbl rfl ?_ | refine za6 rfl ?_)
      all_goals (repeat (first | refine zaf ?_ | refine zak ?_ | refine zad ?_ | refine zal ?_))
      ·
       rw [if_pos (by omega)] at HI
       refine zae (zab rfl rfl (zaa rfl) (zbp rfl ti56 tp56 rfl rfl) (zbe rfl (zbx rfl (zaa rfl) (za7 rfl ti56 rfl rfl rfl rfl rfl rfl (by decide) (by decide)) (zbe rfl (zaj (zak ?_))))))
       (refine zbd ?_; repeat (first | refine zbn ?_ | refine zbo ?_))
       exact post_ct (.inr rfl) ta56 ti56 rfl rfl rfl rfl rfl rfl (by rw [HI]; rfl)
      ·
       rw [if_neg (by omega)] at HI
       refine zae (zab rfl rfl (zaa rfl) (zbj rfl rfl rfl (IntWalk.i64_in _ (by omega))) (zbe rfl (zaj (zak ?_))))
       exact ⟨(⟨y.n, y.d⟩, k + 1), ⟨by dsimp only; omega, HI⟩, by dsimp only; omega, zc9 [0, 1] (by decide) ⟨⟨_, rfl, .rowE (by repeat' (first | exact Lo.s _ | exact zao | refine zai ?_ ?_ | refine zan ?_ | refine Lo.cells ?_ | refine Lo.agg _ ?_ | exact zap | refine zah ?_ ?_ | intro _)) rfl⟩, ⟨_, rfl, .rowE (by repeat' (first | exact Lo.s _ | exact zao | refine zai ?_ ?_ | refine zan ?_ | refine Lo.cells ?_ | refine Lo.agg _ ?_ | exact zap | refine zah ?_ ?_ | intro _)) rfl⟩, trivial⟩ ⟨.lo _ (by repeat' (first | exact Lo.s _ | exact zap | refine zah ?_ ?_ | refine zaq ?_ | refine Lo.agg _ ?_ | refine Lo.sl _ ?_ | intro _)), .lo _ (by repeat' (first | exact Lo.s _ | exact zap | refine zah ?_ ?_ | refine zaq ?_ | refine Lo.agg _ ?_ | refine Lo.sl _ ?_ | intro _)), .ptr 0 0 2 0 0 rfl, .ptr 1 1 2 0 0 rfl, .lo _ (.s _), .lo _ (.s _), trivial⟩⟩
    ·
     rw [dotG_end (by omega)] at HI
     (refine zdd ?_; repeat (first | refine ath_x ?_ | refine zco ?_ | refine zce rfl ?_ | refine zal ?_ | refine zak ?_ | refine zaf ?_ | refine zad ?_ | refine zac ?_))
     refine zae (zab rfl rfl (zaa rfl) (za4 rfl ta56 ti56 rfl rfl rfl rfl rfl) (zbx rfl (zaa rfl) (za7 rfl ti56 rfl rfl rfl rfl rfl rfl (by decide) (by decide)) (zbe rfl (zaj (zak ?_)))))
     (refine zbd ?_; repeat (first | refine zbn ?_ | refine zbo ?_))
     exact post_ct (.inr rfl) ta56 ti56 rfl rfl rfl rfl rfl rfl (by rw [HI]; rfl)
  all_goals refine zae (zab rfl rfl (zaa rfl) (zbp rfl ti56 tp56 rfl rfl) (zbx rfl (zaa rfl) (za7 rfl ti56 rfl rfl rfl rfl rfl rfl (by decide) (by decide)) (zbe rfl (zaj (zak (zbd (zbo (zbn ?_))))))))
  all_goals (exact post_ct (.inr rfl) ta56 ti56 rfl rfl rfl rfl rfl rfl (by rw [dotE_full h12 h16 (by omega)]; rfl))
 all_goals refine zae (zab rfl rfl (zaa rfl) (zbp rfl ti56 tp56 rfl rfl) (zbx rfl (zaa rfl) (za7 rfl ti56 rfl rfl rfl rfl rfl rfl (by decide) (by decide)) (zbe rfl (zaj (zak (zbd (zbo (zbn ?_))))))))
 all_goals (exact post_ct (.inr rfl) ta56 ti56 rfl rfl rfl rfl rfl rfl (by rw [dotE_arg (by rintro ⟨q1, q2⟩; first | exact Bool.noConfusion (q1.symm.trans h12) | exact Bool.noConfusion (q2.symm.trans h16))]; rfl))
end Go.Proofs.YtjhdcgaiccnmeaaGreatDoor.Aw
end
