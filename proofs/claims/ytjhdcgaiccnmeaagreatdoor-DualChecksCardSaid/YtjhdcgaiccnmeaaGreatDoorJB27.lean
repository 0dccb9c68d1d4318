import Derived.Test.YtjhdcgaiccnmeaaGreatDoorJB25
import Derived.Test.YtjhdcgaiccnmeaaGreatDoorJB16
import Derived.Test.YtjhdcgaiccnmeaaGreatDoorJB19
import Derived.Test.YtjhdcgaiccnmeaaGreatDoorJB20
import Derived.Test.YtjhdcgaiccnmeaaGreatDoorJB5
import Derived.Test.YtjhdcgaiccnmeaaGreatDoorJB4
import Derived.Test.YtjhdcgaiccnmeaaGreatDoorJB21
set_option linter.unusedSimpArgs false
set_option linter.unusedVariables false
set_option linter.unusedSectionVars false
namespace Go.Proofs.YtjhdcgaiccnmeaaGreatDoor
namespace Aw
open Go.RowKit Go.Proofs
variable {P : Program} [IsP P]
theorem gti_mem {α : Type} [Inhabited α] {l : List α} {k : Nat} (h : k < l.length) : gti l k ∈ l := List.mem_of_getElem? (zdh h)
instance : Inhabited Fr := ⟨⟨0, 0⟩⟩
def eF (a : Fr) : AV := .agg [eI a.n, eI a.d]
def eFE (x : FE) : AV := .tup [.agg [eI x.n, eI x.d], eI x.e]
theorem lo_F (a : Fr) : Lo 0 (eF a) := .agg _ (zah (.s _) (zah (.s _) zak))
theorem z03 {G : Cx} {v : Value} {a : Fr} (h : Rep G v (eF a)) : v = .agg #[.int .i64 a.n, .int .i64 a.d] := by
 generalize hx : eF a = x at h
 cases h with
 | agg vs cs hl h1 hr =>
  unfold eF at hx
  injection hx with hx
  subst hx
  obtain ⟨q⟩ := vs
  match q, hl with
  | [u, w], _ =>
   have e1 := zb4 (hr 0 u _ rfl rfl)
   have e2 := zb4 (hr 1 w _ rfl rfl)
   rw [e1, e2]
 | _ => unfold eF at hx; cases hx
theorem zu4 (G : Cx) (n d : Int) : Rep G (.agg #[.int .i64 n, .int .i64 d]) (.agg [eI n, eI d]) :=
 .agg _ _ rfl (fun c hc => by simp at hc; rcases hc with rfl | rfl <;> rfl) (fun j v c hv hc => by
  match j, hv, hc with
  | 0, hv, hc => simp at hv hc; subst hv hc; exact .s _
  | 1, hv, hc => simp at hv hc; subst hv hc; exact .s _
  | j + 2, hv, hc => simp at hv)
theorem zhx {f : FuncId} {args : List AV} {x : FE} (he : Ent f) (h : ∀ (G : Cx) (vargs : Array Value), vargs.size = args.length → (∀ (j : Nat) v x, vargs[j]? = some v → args[j]? = some x → Rep G v x) → Calls Tryz.prog f vargs G.w fun e w' => e = .returned (.tuple #[.agg #[.int .i64 (x).n, .int .i64 (x).d], .int .i64 (x).e]) ∧ Below G.w.heap.size G.w w') : Pure P f args (eFE x) :=
 zcs (zfr he (.tup _ (zah (.agg _ (zah (.s _) (zah (.s _) zak))) (zah (.s _) zak))) fun G vargs hst hsz hrep => (h G vargs hsz hrep).mono (by
  rintro e w' ⟨rfl, hb⟩
  refine ⟨_, rfl, hb, .tup _ _ rfl (fun j v c hv hc => ?_)⟩
  match j, hv, hc with
  | 0, hv, hc => simp at hv hc; subst hv hc; exact zu4 _ _ _
  | 1, hv, hc => simp at hv hc; subst hv hc; exact .s _
  | j + 2, hv, hc => simp at hv))
theorem zjy {G : Cx} {vargs : Array Value} {a b : Fr} (hsz : vargs.size = [eF a, eF b].length) (hrep : ∀ (j : Nat) v x, vargs[j]? = some v → [eF a, eF b][j]? = some x → Rep G v x) : vargs = #[.agg #[.int .i64 (a).n, .int .i64 (a).d], .agg #[.int .i64 (b).n, .int .i64 (b).d]] := by
 obtain ⟨q⟩ := vargs
 match q, hsz with
 | [u, w], _ => rw [z03 (hrep 0 u _ rfl rfl), z03 (hrep 1 w _ rfl rfl)]
theorem z0r {G : Cx} {vargs : Array Value} {a : Fr} (hsz : vargs.size = [eF a].length) (hrep : ∀ (j : Nat) v x, vargs[j]? = some v → [eF a][j]? = some x → Rep G v x) : vargs = #[.agg #[.int .i64 (a).n, .int .i64 (a).d]] := by
 obtain ⟨q⟩ := vargs
 match q, hsz with
 | [u], _ => rw [z03 (hrep 0 u _ rfl rfl)]
theorem zji {f : FuncId} {args : List AV} {u : Value} (he : Ent f) (h : ∀ (G : Cx) (vargs : Array Value), vargs.size = args.length → (∀ (j : Nat) v x, vargs[j]? = some v → args[j]? = some x → Rep G v x) → Calls Tryz.prog f vargs G.w fun e w' => e = .returned u ∧ Below G.w.heap.size G.w w') : Pure P f args (.s u) :=
 zcs (zfr he (.s _) fun G vargs hst hsz hrep => (h G vargs hsz hrep).mono (by
  rintro e w' ⟨rfl, hb⟩
  exact ⟨_, rfl, hb, .s _⟩))
theorem zu1 {f : FuncId} {args : List AV} {a : Fr} (he : Ent f) (h : ∀ (G : Cx) (vargs : Array Value), vargs.size = args.length → (∀ (j : Nat) v x, vargs[j]? = some v → args[j]? = some x → Rep G v x) → Calls Tryz.prog f vargs G.w fun e w' => e = .returned (.agg #[.int .i64 (a).n, .int .i64 (a).d]) ∧ Below G.w.heap.size G.w w') : Pure P f args (eF a) :=
 zcs (zfr he (lo_F a) fun G vargs hst hsz hrep => (h G vargs hsz hrep).mono (by
  rintro e w' ⟨rfl, hb⟩
  exact ⟨_, rfl, hb, zu4 _ _ _⟩))
theorem zrd (a b : Fr) : Pure P 100 [eF a, eF b] (eFE (addE a b)) :=
 zhx (zej Tryz.func100 rfl rfl) fun G vargs hsz hrep => by rw [zjy hsz hrep]; exact z2l a b G.w
theorem z1z (a b : Fr) : Pure P 150 [eF a, eF b] (eFE (mulE a b)) :=
 zhx (zej Tryz.func150 rfl rfl) fun G vargs hsz hrep => by rw [zjy hsz hrep]; exact z1g a b G.w
def cmpE (a b : Fr) : Int × Int := if a.okB && b.okB then (cmpN a b, 0) else (0, 1)
theorem z10 (a b : Fr) : Pure P 131 [eF a, eF b] (.tup [eI (cmpE a b).1, eI (cmpE a b).2]) :=
 zcs (zfr (zej Tryz.func131 rfl rfl) (.tup _ (zah (.s _) (zah (.s _) zak))) fun G vargs hst hsz hrep => by
  rw [zjy hsz hrep]
  refine (z2b a b G.w).mono ?_
  rintro e w' ⟨rfl, hb⟩
  refine ⟨_, rfl, hb, .tup _ _ rfl (fun j v c hv hc => ?_)⟩
  match j, hv, hc with
  | 0, hv, hc => simp at hv hc; subst hv hc; unfold cmpE eI; cases a.okB <;> cases b.okB <;> exact .s _
  | 1, hv, hc => simp at hv hc; subst hv hc; unfold cmpE eI; cases a.okB <;> cases b.okB <;> exact .s _
  | j + 2, hv, hc => simp at hv)
theorem zi8 (a : Fr) : Pure P 81 [eF a] (eB a.okB) :=
 zji (zej Tryz.func81 rfl rfl) fun G vargs hsz hrep => by rw [z0r hsz hrep]; exact zi7 a G.w
theorem zva (a : Fr) : Pure P 105 [eF a] (eB a.okB) :=
 zji (zej Tryz.func105 rfl rfl) fun G vargs hsz hrep => by rw [z0r hsz hrep]; exact zf1 a G.w
theorem zhm (n : Int) : Pure P 61 [eI n] (eF (Fr.of n)) :=
 zu1 (zej Tryz.func61 rfl rfl) fun G vargs hsz hrep => by
  obtain ⟨q⟩ := vargs
  match q, hsz with
  | [u], _ => rw [zb4 (hrep 0 u _ rfl rfl)]; exact z0z n G.w
theorem zk9 (a b : Fr) (ha : a.ok) (hb : b.ok) : Pure P 62 [eF a, eF b] (eI (cmpN a b)) :=
 zji (zej Tryz.func62 rfl rfl) fun G vargs hsz hrep => by rw [zjy hsz hrep]; exact zyd a b G.w ha hb
theorem zqq (a b : Fr) : Pure P 66 [eF a, eF b] (eFE (addE a b)) :=
 zhx (zej Tryz.func66 rfl rfl) fun G vargs hsz hrep => by rw [zjy hsz hrep]; exact zye a b G.w
theorem z08 (a b : Fr) : Pure P 138 [eF a, eF b] (eFE (mulE a b)) :=
 zhx (zej Tryz.func138 rfl rfl) fun G vargs hsz hrep => by rw [zjy hsz hrep]; exact zx8 a b G.w
theorem zt1 (f : FuncId) (caps : List AV) (p : Fr → Bool) (l : List Fr) (hlo : ∀ a : Fr, Lo 0 (eF a)) (hlc : Lo 0 (.fn f caps)) (hf : ∀ a ∈ l, Pure P f ([eF a] ++ caps) (eB (p a))) :
  Pure P 78 [eL eF l, .fn f caps] (eI (zc2 p l)) := by
 refine zcl (by rw [IsP.eq (P := P)]; exact Tryz.func78) rfl rfl rfl rfl rfl (zah (zan hlo) (zah hlc zak)) (.s _) (by simp only [argF]; rfl) ?_
 refine zda (d := 0) rfl (fun hmx => ?_)
 unfold maxLen at hmx
 refine zag (zab (zac rfl (zad (zag (zag (zab (zac rfl (zaf rfl rfl (zaa rfl) (zao rfl ts30 rfl) (zac rfl (zad (zai (zas ?_))))))))))))
 refine zb1 (S := Nat) (fun k => [(0, eL eF l), (1, .fn f caps), (7, eI l.length), (8, eI k)]) (fun _ => []) (fun k => k ≤ l.length ∧ ∀ j a, j < k → l[j]? = some a → p a = false) (fun k => l.length - k) 0 (zel _ ⟨rfl, rfl, rfl, rfl, trivial⟩) ⟨by omega, fun j a hj => by omega⟩ (fun k hk => ?_)
 refine zag (zab (zaf rfl rfl (zaa rfl) (za2 rfl rfl rfl) (zad (zag ?_))))
 refine zrl rfl (fun h => ?_) (fun h => ?_)
 ·
  have hlt : k < l.length := by omega
  refine zar (zag (zas (zag (zab (zac rfl (zac rfl (zad (zag ?_))))))))
  have hp := hf (gti l k) (gti_mem hlt)
  refine zab (zac rfl (zac rfl (zac rfl (zaf rfl rfl (zaa rfl) (zal rfl ts30 ti56 rfl rfl rfl (zbb (by omega)) rfl) (zcx ta56 ti56 rfl (zaf rfl rfl (zaa rfl) (zam rfl rfl (hp) (zae rfl zap)) (zad (zai ?_))))))))
  refine ziq rfl (fun h => ?_) (fun h => ?_)
  ·
   refine zag (zab (zac rfl (zac rfl (zad (zai ?_)))))
   (refine za7 ?_; repeat (first | refine zbc ?_ | refine zbe ?_))
   exact zb6 (.inr rfl) rfl (congrArg eI (zei (zdh hlt) h hk.2).symm)
  ·
   refine zar (zbl (zai (zab (zaf rfl rfl (zaa rfl) (zax rfl rfl rfl (IntWalk.i64_in _ (by omega))) (zac rfl (zad (zai ?_)))))))
   refine ⟨k + 1, ⟨by omega, fun j a hj ha => ?_⟩, by omega, zel _ ⟨rfl, rfl, rfl, rfl, trivial⟩⟩
   by_cases e : j = k
   ·
    subst e
    rw [zdh hlt] at ha
    cases ha
    exact h
   ·
    exact hk.2 j a (by omega) ha
 ·
  (refine zb9 ?_; repeat (first | refine zcr ?_ | refine zbt ?_ | refine zbk rfl ?_ | refine zbl ?_ | refine zai ?_ | refine zag ?_ | refine zar ?_ | refine zas ?_))
  refine zab (zac rfl (zad (zai ?_)))
  (refine za7 ?_; repeat (first | refine zbc ?_ | refine zbe ?_))
  exact zb6 (.inr rfl) rfl (congrArg eI (zeo (fun j a hj ha => hk.2 j a (by omega) ha)).symm)
theorem zjb (f : FuncId) (caps : List AV) (p : Fr → Bool) (l : List Fr) (hlo : ∀ a : Fr, Lo 0 (eF a)) (hlc : Lo 0 (.fn f caps)) (hf : ∀ a ∈ l, Pure P f ([eF a] ++ caps) (eB (p a))) :
  Pure P 24 [eL eF l, .fn f caps] (eB (l.any p)) := by
 refine zcl (by rw [IsP.eq (P := P)]; exact Tryz.func24) rfl rfl rfl rfl rfl (zah (zan hlo) (zah hlc zak)) (.s _) (by simp only [argF]; rfl) ?_
 have hi := zt1 f caps p l hlo hlc hf
 refine zag (zab (zac rfl (zad (zag (zab (zac rfl (zac rfl (zaf rfl rfl (zaa rfl) (zam rfl rfl (hi) (zae rfl (zae rfl zap))) (zaf rfl rfl (zaa rfl) (zcp rfl rfl rfl) (zac rfl (zad (zai ?_))))))))))))
 (refine za7 ?_; repeat (first | refine zbc ?_ | refine zbe ?_))
 exact zb6 (.inr rfl) rfl (congrArg eB (zeq p l))
end Aw
namespace Aw
open Go.RowKit Go.Proofs
variable {P : Program} [IsP P]
def fineB (l : List Fr) (n : Int) : Bool := decide ((l.length : Int) = n) && l.all Fr.okB
theorem zxo (l : List Fr) : l.all Fr.okB = !l.any (fun a => !a.okB) := by simp [List.all_eq_not_any_not]
theorem zhl (l : List Fr) : Pure P 56 [eL eF l] (eB (l.all Fr.okB)) := by
 refine zcl (by rw [IsP.eq (P := P)]; exact Tryz.func56) rfl rfl rfl rfl rfl (by repeat' (first | exact Lo.s _ | exact zak | refine zah ?_ ?_ | refine zan ?_ | refine Lo.agg _ ?_ | refine Lo.sl _ ?_ | intro _)) (.s _) (by simp only [argF]; rfl) ?_
 refine zag ?_
 refine zda (d := 0) rfl (fun hmx => ?_)
 unfold maxLen at hmx
 refine zab (zac rfl (zad (zag (zag (zab (zac rfl (zad (zai (zas ?_)))))))))
 refine zb1 (S := Nat) (fun k => [(0, eL eF l), (3, eI k)]) (fun _ => []) (fun k => k ≤ l.length ∧ ∀ j, j < k → (gti l j).okB = true) (fun k => l.length - k) 0 (zel _ ⟨rfl, rfl, trivial⟩) ⟨by omega, fun j hj => by omega⟩ (fun k hk => ?_)
 refine zag (zag (zab (zac rfl (zac rfl (zaf rfl rfl (zaa rfl) (zao rfl ts30 rfl) ?_)))))
 refine za3 rfl rfl (zaa rfl) (za2 rfl rfl rfl) (fun h7 => ?_) (fun h7 => ?_)
 all_goals refine zad (zai ?_)
 all_goals (first | refine za5 rfl ?_ | refine zau rfl ?_)
 all_goals (repeat (first | refine zag ?_ | refine zar ?_ | refine zas ?_))
 ·
  have hlt : k < l.length := by omega
  refine zab (zac rfl (zac rfl (zaf rfl rfl (zaa rfl) (zal rfl ts30 ti56 rfl rfl rfl (zbb (by omega)) rfl) (zcx ta56 ti56 rfl ?_))))
  refine za3 rfl rfl (zaa rfl) (zam rfl rfl (zva _) (zae rfl zap)) (fun h14 => ?_) (fun h14 => ?_)
  all_goals refine zaf rfl rfl (zaa rfl) (zbj rfl rfl) (zad (zai ?_))
  all_goals (first | refine za5 rfl ?_ | refine zau rfl ?_)
  all_goals (repeat (first | refine zag ?_ | refine zai ?_ | refine zar ?_ | refine zbl ?_))
  ·
   refine zab (zac rfl (zaf rfl rfl (zaa rfl) (zax rfl rfl rfl (IntWalk.i64_in _ (by omega))) (zac rfl (zad (zai ?_)))))
   refine ⟨k + 1, ⟨by omega, fun j hj => ?_⟩, by omega, zel _ ⟨rfl, rfl, trivial⟩⟩
   by_cases e : j = k
   ·
    subst e; exact Fr.okB_of h14
   ·
    exact hk.2 j (by omega)
  ·
   refine zab (zac rfl (zad (zai ?_)))
   (refine za7 ?_; repeat (first | refine zbc ?_ | refine zbe ?_))
   refine zb6 (.inr rfl) rfl (congrArg eB ?_)
   symm
   rw [List.all_eq_false]
   exact ⟨gti l k, gti_mem hlt, by rw [Fr.okB_not h14]; simp⟩
 ·
  (refine zb9 ?_; repeat (first | refine zcr ?_ | refine zbt ?_ | refine zbk rfl ?_ | refine zbl ?_ | refine zai ?_ | refine zag ?_ | refine zar ?_ | refine zas ?_))
  refine zab (zac rfl (zad (zai ?_)))
  (refine za7 ?_; repeat (first | refine zbc ?_ | refine zbe ?_))
  refine zb6 (.inr rfl) rfl (congrArg eB ?_)
  symm
  rw [List.all_eq_true]
  intro a ha
  obtain ⟨j, hj, rfl⟩ := List.mem_iff_getElem.1 ha
  have h1 := hk.2 j (by omega)
  have h2 := zdh hj
  rw [List.getElem?_eq_getElem hj] at h2
  rw [Option.some.inj h2]; exact h1
end Aw
namespace Aw
open Go.RowKit Go.Proofs
variable {P : Program} [IsP P]
theorem zt2 (a : Fr) : Pure P 151 [eF a] (eB (!a.okB)) := by
 refine zcl (by rw [IsP.eq (P := P)]; exact Tryz.func151) rfl rfl rfl rfl rfl (by repeat' (first | exact Lo.s _ | exact zak | refine zah ?_ ?_ | refine zan ?_ | refine Lo.agg _ ?_ | refine Lo.sl _ ?_ | intro _)) (.s _) (by simp only [argF]; rfl) ?_
 refine zag (zab (zaf rfl rfl (zaa rfl) (zb3 rfl rfl rfl rfl) ?_))
 refine za6 (zbm (id := 0) rfl) (za6 (zcb (d := 1) rfl rfl rfl) ?_)
 refine zac rfl (zad (zag (zab (zcx ta56 ti56 rfl (zaf rfl rfl (zaa rfl) (zam rfl rfl (zi8 _) (zae rfl zap)) (zaf rfl rfl (zaa rfl) (zp3 rfl rfl) (zac rfl (zad (zai ?_)))))))))
 (refine za7 ?_; repeat (first | refine zbc ?_ | refine zbe ?_))
 exact zb6 (.inr rfl) rfl (congrArg eB (by simp [Fr.okB]))
theorem zpo (l : List Fr) : Pure P 132 [eL eF l] (eB (l.all Fr.okB)) := by
 have hc := zjb (P := P) 151 [] (fun a => !a.okB) l lo_F (.fn _ _ (by simp)) (fun a _ => zt2 a)
 refine zcl (by rw [IsP.eq (P := P)]; exact Tryz.func132) rfl rfl rfl rfl rfl (by repeat' (first | exact Lo.s _ | exact zak | refine zah ?_ ?_ | refine zan ?_ | refine Lo.agg _ ?_ | refine Lo.sl _ ?_ | intro _)) (.s _) (by simp only [argF]; rfl) ?_
 refine zag (zab (zac rfl (zad (zag (zab (zac rfl ?_))))))
 refine zaf rfl rfl (zaa rfl) (zam rfl rfl (by assumption) (zae rfl (zae rfl zap))) ?_
 refine zaf rfl rfl (zaa rfl) (zbj rfl rfl) (zac rfl (zad (zai ?_)))
 (refine za7 ?_; repeat (first | refine zbc ?_ | refine zbe ?_))
 exact zb6 (.inr rfl) rfl (congrArg eB (zxo l).symm)
def dotG : Fr → List Fr → List Fr → FE
 | acc, a :: ta, b :: tb => if (mulE a b).e ≠ 0 then FE.err (mulE a b).e else if (addE acc ⟨(mulE a b).n, (mulE a b).d⟩).e ≠ 0 then FE.err (addE acc ⟨(mulE a b).n, (mulE a b).d⟩).e else dotG ⟨(addE acc ⟨(mulE a b).n, (mulE a b).d⟩).n, (addE acc ⟨(mulE a b).n, (mulE a b).d⟩).d⟩ ta tb
 | acc, _, _ => ⟨acc.n, acc.d, 0⟩
def dotE (a b : List Fr) : FE := if ¬ (a.all Fr.okB = true ∧ b.all Fr.okB = true) then FE.err 1 else if 1000 < a.length ∨ 1000 < b.length then FE.err 5 else if a.length ≠ b.length then FE.err 29 else dotG (Fr.of 0) a b
theorem zpy {acc : Fr} {a b : List Fr} {k : Nat} (h1 : k < a.length) (h2 : k < b.length) : dotG acc (a.drop k) (b.drop k) = if (mulE (gti a k) (gti b k)).e ≠ 0 then FE.err (mulE (gti a k) (gti b k)).e else if (addE acc ⟨(mulE (gti a k) (gti b k)).n, (mulE (gti a k) (gti b k)).d⟩).e ≠ 0 then FE.err (addE acc ⟨(mulE (gti a k) (gti b k)).n, (mulE (gti a k) (gti b k)).d⟩).e else dotG ⟨(addE acc ⟨(mulE (gti a k) (gti b k)).n, (mulE (gti a k) (gti b k)).d⟩).n, (addE acc ⟨(mulE (gti a k) (gti b k)).n, (mulE (gti a k) (gti b k)).d⟩).d⟩ (a.drop (k + 1)) (b.drop (k + 1)) := by
 have e1 : a.drop k = gti a k :: a.drop (k + 1) := by
  rw [List.drop_eq_getElem_cons h1]
  have := zdh h1
  rw [List.getElem?_eq_getElem h1] at this
  rw [Option.some.inj this]
 have e2 : b.drop k = gti b k :: b.drop (k + 1) := by
  rw [List.drop_eq_getElem_cons h2]
  have := zdh h2
  rw [List.getElem?_eq_getElem h2] at this
  rw [Option.some.inj this]
 rw [e1, e2, dotG]
theorem zss {acc : Fr} {a b : List Fr} {k : Nat} (h : k = a.length) : dotG acc (a.drop k) (b.drop k) = ⟨acc.n, acc.d, 0⟩ := by
 subst h
 rw [List.drop_length, dotG]
 intro a ta b tb h; cases h
theorem zst {a b : List Fr} (h : ¬ (a.all Fr.okB = true ∧ b.all Fr.okB = true)) : dotE a b = ⟨0, 0, 1⟩ := if_pos h
theorem zp0 {a b : List Fr} (h1 : a.all Fr.okB = true) (h2 : b.all Fr.okB = true) (h : 1000 < a.length ∨ 1000 < b.length) : dotE a b = ⟨0, 0, 5⟩ := by unfold dotE; rw [if_neg (fun h => h ⟨h1, h2⟩), if_pos h]; rfl
theorem zpz {a b : List Fr} (h1 : a.all Fr.okB = true) (h2 : b.all Fr.okB = true) (h3 : ¬ (1000 < a.length ∨ 1000 < b.length)) (h : a.length ≠ b.length) : dotE a b = ⟨0, 0, 29⟩ := by unfold dotE; rw [if_neg (fun h => h ⟨h1, h2⟩), if_neg h3, if_pos h]; rfl
theorem zrf {a b : List Fr} (h1 : a.all Fr.okB = true) (h2 : b.all Fr.okB = true) (h3 : ¬ (1000 < a.length ∨ 1000 < b.length)) (h : a.length = b.length) : dotE a b = dotG (Fr.of 0) (a.drop 0) (b.drop 0) := by unfold dotE; rw [if_neg (fun h => h ⟨h1, h2⟩), if_neg h3, if_neg (fun h' => h' h)]; rfl
set_option maxHeartbeats 1000000 in
theorem zvf (a b : List Fr) : Pure P 108 [eL eF a, eL eF b] (eFE (dotE a b)) := by
 refine zcl (by rw [IsP.eq (P := P)]; exact Tryz.func108) rfl rfl rfl rfl rfl (by repeat' (first | exact Lo.s _ | exact zak | refine zah ?_ ?_ | refine zan ?_ | refine Lo.agg _ ?_ | refine Lo.sl _ ?_ | intro _)) (by repeat' (first | exact Lo.s _ | exact zak | refine zah ?_ ?_ | refine zan ?_ | refine Lo.cells ?_ | refine Lo.agg _ ?_ | refine Lo.ref _ ?_ | refine Lo.tup _ ?_ | refine Lo.fn _ _ ?_ | refine Lo.sl _ ?_ | intro _)) (by simp only [argF]; rfl) ?_
 refine zag ?_
 refine zda (d := 0) rfl (fun hm1 => ?_)
 refine zda (d := 1) rfl (fun hm2 => ?_)
 unfold maxLen at hm1 hm2
 refine zab (zaf rfl rfl (zaa rfl) (za1 rfl ti56 rfl rfl) (zac rfl (zad (zag (zag (zab (zac rfl ?_)))))))
 refine zcn rfl rfl (zaa rfl) (zam rfl rfl (zhl _) (zae rfl zap)) (fun h11 => ?_) (fun h11 => ?_)
 all_goals refine zaf rfl rfl (zaa rfl) (zbj rfl rfl) (zac rfl ?_)
 all_goals (first | refine zac rfl ?_ | refine za4 rfl ?_)
 all_goals (first | refine zcn rfl rfl (zat rfl rfl rfl) (zam rfl rfl (zhl _) (zae rfl zap)) (fun h15 => ?_) (fun h15 => ?_) | refine za4 rfl ?_)
 all_goals (first | refine zaf rfl rfl (zat rfl rfl rfl) (zbj rfl rfl) ?_ | refine za4 rfl ?_)
 all_goals refine zac rfl (zad (zai ?_))
 all_goals (first | refine za5 rfl ?_ | refine zau rfl ?_)
 all_goals (repeat (first | refine zag ?_ | refine zar ?_))
 ·
  refine zab (zac rfl (zaf rfl rfl (zaa rfl) (zao rfl ts30 rfl) ?_))
  refine za3 rfl rfl (zaa rfl) (zb0 rfl rfl rfl) (fun h21 => ?_) (fun h21 => ?_)
  all_goals refine zac rfl ?_
  all_goals (first | refine zac rfl ?_ | refine za4 rfl ?_)
  all_goals (first | refine zaf rfl rfl (zat rfl rfl rfl) (zao rfl ts30 rfl) ?_ | refine za4 rfl ?_)
  all_goals (first | refine za3 rfl rfl (zat rfl rfl rfl) (zb0 rfl rfl rfl) (fun h25 => ?_) (fun h25 => ?_) | refine za4 rfl ?_)
  all_goals refine zac rfl (zad (zai ?_))
  all_goals (first | refine za5 rfl ?_ | refine zau rfl ?_)
  all_goals (repeat (first | refine zag ?_ | refine zar ?_))
  rotate_left 2
  ·
   have h3 : ¬ (1000 < a.length ∨ 1000 < b.length) := by omega
   refine zab (zac rfl (zaf rfl rfl (zaa rfl) (zao rfl ts30 rfl) (zac rfl (zaf rfl rfl (zaa rfl) (zao rfl ts30 rfl) ?_))))
   refine za3 rfl rfl (zaa rfl) (zbp rfl rfl rfl) (fun h32 => ?_) (fun h32 => ?_)
   all_goals refine zad (zai ?_)
   all_goals (first | refine za5 rfl ?_ | refine zau rfl ?_)
   all_goals (repeat (first | refine zag ?_ | refine zar ?_))
   ·
    refine zab (zaf rfl rfl (zaa rfl) (za9 rfl ti56 tp56 rfl rfl) (zba rfl (zaa rfl) (zaj rfl ti56 rfl rfl rfl rfl rfl rfl (by decide) (by decide)) (zac rfl (zad (zai ?_)))))
    (refine za7 ?_; repeat (first | refine zbc ?_ | refine zbe ?_))
    exact zdf (.inr rfl) ta56 ti56 rfl rfl rfl rfl rfl rfl (by rw [zpz h11 h15 h3 (by omega)]; rfl)
   ·
    have hl : a.length = b.length := by omega
    have HI := zrf h11 h15 h3 hl
    refine zab (zaf rfl rfl (zaa rfl) (zam rfl rfl (zhm _) (zae rfl zap)) (zaf rfl rfl (zaa rfl) (za1 rfl ti56 rfl rfl) (zba rfl (zaa rfl) (zaj rfl ti56 rfl rfl rfl rfl rfl rfl (by decide) (by decide)) (zad (zag (zag (zab (zac rfl (zad (zai (zas ?_)))))))))))
    refine zb1 (S := Fr × Nat) (fun s => [(0, eL eF a), (1, eL eF b), (4, .ptr 0 2 0 0), (6, .ptr 1 2 0 0), (7, eI s.2)]) (fun s => [.row 2 [.agg [eI 0, eI 0]], .row 2 [eF s.1]]) (fun s => s.2 ≤ a.length ∧ dotE a b = dotG s.1 (a.drop s.2) (b.drop s.2)) (fun s => a.length - s.2) (Fr.of 0, 0) (zb8 [0, 1] (by decide) ⟨⟨_, rfl, .rowE (by repeat' (first | exact Lo.s _ | exact zaz | refine zaw ?_ ?_ | refine zav ?_ | refine Lo.cells ?_ | refine Lo.agg _ ?_ | exact zak | refine zah ?_ ?_ | intro _)) rfl⟩, ⟨_, rfl, .rowE (by repeat' (first | exact Lo.s _ | exact zaz | refine zaw ?_ ?_ | refine zav ?_ | refine Lo.cells ?_ | refine Lo.agg _ ?_ | exact zak | refine zah ?_ ?_ | intro _)) rfl⟩, trivial⟩ ⟨.lo _ (by repeat' (first | exact Lo.s _ | exact zak | refine zah ?_ ?_ | refine zan ?_ | refine Lo.agg _ ?_ | refine Lo.sl _ ?_ | intro _)), .lo _ (by repeat' (first | exact Lo.s _ | exact zak | refine zah ?_ ?_ | refine zan ?_ | refine Lo.agg _ ?_ | refine Lo.sl _ ?_ | intro _)), .ptr 0 0 2 0 0 rfl, .ptr 1 1 2 0 0 rfl, .lo _ (.s _), trivial⟩) ⟨Nat.zero_le _, HI⟩ (fun s hk => ?_)
    obtain ⟨acc, k⟩ := s
    obtain ⟨hk, HI⟩ := hk
    dsimp only at hk HI ⊢
    refine zag (zag (zab (zac rfl (zac rfl (zaf rfl rfl (zaa rfl) (zao rfl ts30 rfl) ?_)))))
    refine za3 rfl rfl (zaa rfl) (za2 rfl rfl rfl) (fun h38 => ?_) (fun h38 => ?_)
    all_goals refine zad (zai ?_)
    all_goals (first | refine za5 rfl ?_ | refine zau rfl ?_)
    all_goals (repeat (first | refine zag ?_ | refine zar ?_ | refine zas ?_))
    ·
     have h1 : k < a.length := by omega
     have h2 : k < b.length := by omega
     rw [zpy h1 h2] at HI
     generalize hx : mulE (gti a k) (gti b k) = x at HI
     have hmul := z08 (P := P) (gti a k) (gti b k)
     rw [hx] at hmul
     refine zb2 hmix ?_
     refine zc1 ?_
     refine ex_s rfl (ex_s rfl (zay rfl rfl (zaa rfl) (fun _ => (zal rfl ts30 ti56 rfl rfl rfl (zbb (by omega)) rfl)) (ex_w ta56 ti56 rfl (ex_s rfl (ex_s rfl (zay rfl rfl (zaa rfl) (fun _ => (zal rfl ts30 ti56 rfl rfl rfl (zbb (by omega)) rfl)) (ex_w ta56 ti56 rfl (zay rfl rfl (zaa rfl) (fun _ => (zam rfl rfl (hmul) (zae rfl (zae rfl zap)))) (ex_s rfl (ex_s rfl (ex_s rfl ?_)))))))))))
     refine zc9 rfl rfl (zaa rfl) (za1 rfl ti56 rfl rfl) (fun _ h => zdo h) ?_
     refine zci rfl (zaa rfl) (zaj rfl ti56 rfl rfl rfl rfl rfl rfl (by decide) (by decide)) (fun _ h => zbw h) ?_
     refine ex_s rfl ?_
     refine zcf (by kernel_rfl) ?_
     refine zag (zag (zab (zac rfl ?_)))
     refine za3 rfl rfl (zaa rfl) (zbn rfl rfl rfl) (fun h54 => ?_) (fun h54 => ?_)
     all_goals refine zad (zai ?_)
     all_goals (first | refine za5 rfl ?_ | refine zau rfl ?_)
     all_goals (repeat (first | refine zag ?_ | refine zar ?_))
     ·
      rw [if_neg (by omega)] at HI
      generalize hy : addE acc ⟨x.n, x.d⟩ = y at HI
      have hadd := zqq (P := P) acc ⟨x.n, x.d⟩
      rw [hy] at hadd
      refine zab (zaf rfl rfl (zaa rfl) (za8 rfl ta56 ti56 rfl rfl rfl rfl rfl) (zaf rfl rfl (zaa rfl) (za8 rfl ta56 ti56 rfl rfl rfl rfl rfl) (zaf rfl rfl (zaa rfl) (zam rfl rfl (hadd) (zae rfl (zae rfl zap))) (zac rfl (zac rfl (zac rfl (zba rfl (zaa rfl) (zaj rfl ti56 rfl rfl rfl rfl rfl rfl (by decide) (by decide)) (zac rfl (zad (zag (zag (zab (zac rfl ?_)))))))))))))
      refine za3 rfl rfl (zaa rfl) (zbp rfl rfl rfl) (fun h62 => ?_) (fun h62 => ?_)
      all_goals refine zad (zai ?_)
      all_goals (first | refine za5 rfl ?_ | refine zau rfl ?_)
      all_goals (repeat (first | refine zag ?_ | refine zai ?_ | refine zar ?_))
      ·
       rw [if_pos (by omega)] at HI
       refine zab (zaf rfl rfl (zaa rfl) (za9 rfl ti56 tp56 rfl rfl) (zac rfl (zba rfl (zaa rfl) (zaj rfl ti56 rfl rfl rfl rfl rfl rfl (by decide) (by decide)) (zac rfl (zad (zai ?_))))))
       (refine za7 ?_; repeat (first | refine zbc ?_ | refine zbe ?_))
       exact zdf (.inr rfl) ta56 ti56 rfl rfl rfl rfl rfl rfl (by rw [HI]; rfl)
      ·
       rw [if_neg (by omega)] at HI
       refine zab (zaf rfl rfl (zaa rfl) (za8 rfl ta56 ti56 rfl rfl rfl rfl rfl) (zba rfl (zaa rfl) (zaj rfl ti56 rfl rfl rfl rfl rfl rfl (by decide) (by decide)) (zad (zbl (zai (zab (zac rfl (zaf rfl rfl (zaa rfl) (zax rfl rfl rfl (IntWalk.i64_in _ (by omega))) (zac rfl (zad (zai ?_)))))))))))
       exact ⟨(⟨y.n, y.d⟩, k + 1), ⟨by dsimp only; omega, HI⟩, by dsimp only; omega, zb8 [0, 1] (by decide) ⟨⟨_, rfl, .rowE (by repeat' (first | exact Lo.s _ | exact zaz | refine zaw ?_ ?_ | refine zav ?_ | refine Lo.cells ?_ | refine Lo.agg _ ?_ | exact zak | refine zah ?_ ?_ | intro _)) rfl⟩, ⟨_, rfl, .rowE (by repeat' (first | exact Lo.s _ | exact zaz | refine zaw ?_ ?_ | refine zav ?_ | refine Lo.cells ?_ | refine Lo.agg _ ?_ | exact zak | refine zah ?_ ?_ | intro _)) rfl⟩, trivial⟩ ⟨.lo _ (by repeat' (first | exact Lo.s _ | exact zak | refine zah ?_ ?_ | refine zan ?_ | refine Lo.agg _ ?_ | refine Lo.sl _ ?_ | intro _)), .lo _ (by repeat' (first | exact Lo.s _ | exact zak | refine zah ?_ ?_ | refine zan ?_ | refine Lo.agg _ ?_ | refine Lo.sl _ ?_ | intro _)), .ptr 0 0 2 0 0 rfl, .ptr 1 1 2 0 0 rfl, .lo _ (.s _), trivial⟩⟩
     ·
      rw [if_pos (by omega)] at HI
      refine zab (zac rfl (zaf rfl rfl (zaa rfl) (zdc (by omega) (zbp rfl rfl rfl)) (zad (zai (za5 rfl (zag (zab (zaf rfl rfl (zaa rfl) (za9 rfl ti56 tp56 rfl rfl) (zac rfl (zba rfl (zaa rfl) (zaj rfl ti56 rfl rfl rfl rfl rfl rfl (by decide) (by decide)) (zac rfl (zad (zai ?_)))))))))))))
      (refine za7 ?_; repeat (first | refine zbc ?_ | refine zbe ?_))
      exact zdf (.inr rfl) ta56 ti56 rfl rfl rfl rfl rfl rfl (by rw [HI]; rfl)
    ·
     rw [zss (by omega)] at HI
     (refine zb9 ?_; repeat (first | refine zcr ?_ | refine zbt ?_ | refine zbk rfl ?_ | refine zbl ?_ | refine zai ?_ | refine zag ?_ | refine zar ?_ | refine zas ?_))
     refine zab (zaf rfl rfl (zaa rfl) (za8 rfl ta56 ti56 rfl rfl rfl rfl rfl) (zba rfl (zaa rfl) (zaj rfl ti56 rfl rfl rfl rfl rfl rfl (by decide) (by decide)) (zac rfl (zad (zai ?_)))))
     (refine za7 ?_; repeat (first | refine zbc ?_ | refine zbe ?_))
     exact zdf (.inr rfl) ta56 ti56 rfl rfl rfl rfl rfl rfl (by rw [HI]; rfl)
  all_goals refine zab (zaf rfl rfl (zaa rfl) (za9 rfl ti56 tp56 rfl rfl) (zba rfl (zaa rfl) (zaj rfl ti56 rfl rfl rfl rfl rfl rfl (by decide) (by decide)) (zac rfl (zad (zai (za7 (zbc ?_)))))))
  all_goals (exact zdf (.inr rfl) ta56 ti56 rfl rfl rfl rfl rfl rfl (by rw [zp0 h11 h15 (by omega)]; rfl))
 all_goals refine zab (zaf rfl rfl (zaa rfl) (za9 rfl ti56 tp56 rfl rfl) (zba rfl (zaa rfl) (zaj rfl ti56 rfl rfl rfl rfl rfl rfl (by decide) (by decide)) (zac rfl (zad (zai (za7 (zbc ?_)))))))
 all_goals (exact zdf (.inr rfl) ta56 ti56 rfl rfl rfl rfl rfl rfl (by rw [zst (by rintro ⟨q1, q2⟩; first | exact Bool.noConfusion (q1.symm.trans h11) | exact Bool.noConfusion (q2.symm.trans h15))]; rfl))
set_option maxHeartbeats 1000000 in
theorem zws (a b : List Fr) : Pure P 130 [eL eF a, eL eF b] (eFE (dotE a b)) := by
 refine zcl (by rw [IsP.eq (P := P)]; exact Tryz.func130) rfl rfl rfl rfl rfl (by repeat' (first | exact Lo.s _ | exact zak | refine zah ?_ ?_ | refine zan ?_ | refine Lo.agg _ ?_ | refine Lo.sl _ ?_ | intro _)) (by repeat' (first | exact Lo.s _ | exact zak | refine zah ?_ ?_ | refine zan ?_ | refine Lo.cells ?_ | refine Lo.agg _ ?_ | refine Lo.ref _ ?_ | refine Lo.tup _ ?_ | refine Lo.fn _ _ ?_ | refine Lo.sl _ ?_ | intro _)) (by simp only [argF]; rfl) ?_
 refine zag ?_
 refine zda (d := 0) rfl (fun hm1 => ?_)
 refine zda (d := 1) rfl (fun hm2 => ?_)
 unfold maxLen at hm1 hm2
 refine zab (zaf rfl rfl (zaa rfl) (za1 rfl ti56 rfl rfl) (zac rfl (zad (zag (zas (zag (zab (zac rfl ?_))))))))
 refine zcn rfl rfl (zaa rfl) (zam rfl rfl (zpo _) (zae rfl zap)) (fun h12 => ?_) (fun h12 => ?_)
 all_goals refine zaf rfl rfl (zaa rfl) (zbj rfl rfl) (zac rfl ?_)
 all_goals (first | refine zac rfl ?_ | refine za4 rfl ?_)
 all_goals (first | refine zcn rfl rfl (zat rfl rfl rfl) (zam rfl rfl (zpo _) (zae rfl zap)) (fun h16 => ?_) (fun h16 => ?_) | refine za4 rfl ?_)
 all_goals (first | refine zaf rfl rfl (zat rfl rfl rfl) (zbj rfl rfl) ?_ | refine za4 rfl ?_)
 all_goals refine zac rfl (zac rfl (zad (zai ?_)))
 all_goals (first | refine za5 rfl ?_ | refine zau rfl ?_)
 all_goals refine zag ?_
 ·
  refine zab (zac rfl (zaf rfl rfl (zaa rfl) (zao rfl ts30 rfl) ?_))
  refine za3 rfl rfl (zaa rfl) (zb0 rfl rfl rfl) (fun h23 => ?_) (fun h23 => ?_)
  all_goals refine zac rfl ?_
  all_goals (first | refine zac rfl ?_ | refine za4 rfl ?_)
  all_goals (first | refine zaf rfl rfl (zat rfl rfl rfl) (zao rfl ts30 rfl) ?_ | refine za4 rfl ?_)
  all_goals (first | refine za3 rfl rfl (zat rfl rfl rfl) (zb0 rfl rfl rfl) (fun h27 => ?_) (fun h27 => ?_) | refine za4 rfl ?_)
  all_goals refine zac rfl (zac rfl (zad (zai ?_)))
  all_goals (first | refine za5 rfl ?_ | refine zau rfl ?_)
  all_goals refine zag ?_
  rotate_left 2
  ·
   have h3 : ¬ (1000 < a.length ∨ 1000 < b.length) := by omega
   refine zab (zac rfl (zaf rfl rfl (zaa rfl) (zao rfl ts30 rfl) (zac rfl (zaf rfl rfl (zaa rfl) (zao rfl ts30 rfl) ?_))))
   refine za3 rfl rfl (zaa rfl) (zbp rfl rfl rfl) (fun h35 => ?_) (fun h35 => ?_)
   all_goals refine zac rfl (zad (zai ?_))
   all_goals (first | refine za5 rfl ?_ | refine zau rfl ?_)
   all_goals (repeat (first | refine zag ?_ | refine zar ?_))
   ·
    refine zab (zaf rfl rfl (zaa rfl) (za9 rfl ti56 tp56 rfl rfl) (zba rfl (zaa rfl) (zaj rfl ti56 rfl rfl rfl rfl rfl rfl (by decide) (by decide)) (zac rfl (zad (zai ?_)))))
    (refine za7 ?_; repeat (first | refine zbc ?_ | refine zbe ?_))
    exact zdf (.inr rfl) ta56 ti56 rfl rfl rfl rfl rfl rfl (by rw [zpz h12 h16 h3 (by omega)]; rfl)
   ·
    have hl : a.length = b.length := by omega
    have HI := zrf h12 h16 h3 hl
    refine zab (zaf rfl rfl (zaa rfl) (za9 rfl ti56 tp56 rfl rfl) (zaf rfl rfl (zaa rfl) (za1 rfl ti56 rfl rfl) (zba rfl (zaa rfl) (zaj rfl ti56 rfl rfl rfl rfl rfl rfl (by decide) (by decide)) (zad (zag (zag (zab (zac rfl (zaf rfl rfl (zaa rfl) (zao rfl ts30 rfl) (zac rfl (zad (zai (zas ?_)))))))))))))
    refine zb1 (S := Fr × Nat) (fun s => [(0, eL eF a), (1, eL eF b), (4, .ptr 0 2 0 0), (6, .ptr 1 2 0 0), (39, eI a.length), (40, eI s.2)]) (fun s => [.row 2 [.agg [eI 0, eI 0]], .row 2 [eF s.1]]) (fun s => s.2 ≤ a.length ∧ dotE a b = dotG s.1 (a.drop s.2) (b.drop s.2)) (fun s => a.length - s.2) (Fr.of 0, 0) (zb8 [0, 1] (by decide) ⟨⟨_, rfl, .rowE (by repeat' (first | exact Lo.s _ | exact zaz | refine zaw ?_ ?_ | refine zav ?_ | refine Lo.cells ?_ | refine Lo.agg _ ?_ | exact zak | refine zah ?_ ?_ | intro _)) rfl⟩, ⟨_, rfl, .rowE (by repeat' (first | exact Lo.s _ | exact zaz | refine zaw ?_ ?_ | refine zav ?_ | refine Lo.cells ?_ | refine Lo.agg _ ?_ | exact zak | refine zah ?_ ?_ | intro _)) rfl⟩, trivial⟩ ⟨.lo _ (by repeat' (first | exact Lo.s _ | exact zak | refine zah ?_ ?_ | refine zan ?_ | refine Lo.agg _ ?_ | refine Lo.sl _ ?_ | intro _)), .lo _ (by repeat' (first | exact Lo.s _ | exact zak | refine zah ?_ ?_ | refine zan ?_ | refine Lo.agg _ ?_ | refine Lo.sl _ ?_ | intro _)), .ptr 0 0 2 0 0 rfl, .ptr 1 1 2 0 0 rfl, .lo _ (.s _), .lo _ (.s _), trivial⟩) ⟨Nat.zero_le _, HI⟩ (fun s hk => ?_)
    obtain ⟨acc, k⟩ := s
    obtain ⟨hk, HI⟩ := hk
    dsimp only at hk HI ⊢
    refine zag (zab ?_)
    refine za3 rfl rfl (zaa rfl) (za2 rfl rfl rfl) (fun h41 => ?_) (fun h41 => ?_)
    all_goals refine zad (zag ?_)
    all_goals (first | refine za5 rfl ?_ | refine zau rfl ?_)
    all_goals (repeat (first | refine zag ?_ | refine zar ?_ | refine zas ?_))
    ·
     have h1 : k < a.length := by omega
     have h2 : k < b.length := by omega
     rw [zpy h1 h2] at HI
     generalize hx : mulE (gti a k) (gti b k) = x at HI
     have hmul := z1z (P := P) (gti a k) (gti b k)
     rw [hx] at hmul
     refine zab (zac rfl (zac rfl (zad (zag ?_))))
     refine zb2 hmix ?_
     refine zc1 ?_
     refine ex_s rfl (ex_s rfl (zay rfl rfl (zaa rfl) (fun _ => (zal rfl ts30 ti56 rfl rfl rfl (zbb (by omega)) rfl)) (ex_w ta56 ti56 rfl (ex_s rfl (ex_s rfl (zay rfl rfl (zaa rfl) (fun _ => (zal rfl ts30 ti56 rfl rfl rfl (zbb (by omega)) rfl)) (ex_w ta56 ti56 rfl (zay rfl rfl (zaa rfl) (fun _ => (zam rfl rfl (hmul) (zae rfl (zae rfl zap)))) (ex_s rfl (ex_s rfl (ex_s rfl ?_)))))))))))
     refine zc9 rfl rfl (zaa rfl) (za1 rfl ti56 rfl rfl) (fun _ h => zdo h) ?_
     refine zci rfl (zaa rfl) (zaj rfl ti56 rfl rfl rfl rfl rfl rfl (by decide) (by decide)) (fun _ h => zbw h) ?_
     refine ex_s rfl ?_
     refine zcf (by kernel_rfl) ?_
     refine zag (zag (zab (zac rfl ?_)))
     refine za3 rfl rfl (zaa rfl) (zbp rfl rfl rfl) (fun h56 => ?_) (fun h56 => ?_)
     all_goals refine zad (zai ?_)
     all_goals (first | refine za5 rfl ?_ | refine zau rfl ?_)
     all_goals (repeat (first | refine zag ?_ | refine zar ?_))
     ·
      rw [if_pos (by omega)] at HI
      refine zab (zaf rfl rfl (zaa rfl) (za9 rfl ti56 tp56 rfl rfl) (zac rfl (zba rfl (zaa rfl) (zaj rfl ti56 rfl rfl rfl rfl rfl rfl (by decide) (by decide)) (zac rfl (zad (zai ?_))))))
      (refine za7 ?_; repeat (first | refine zbc ?_ | refine zbe ?_))
      exact zdf (.inr rfl) ta56 ti56 rfl rfl rfl rfl rfl rfl (by rw [HI]; rfl)
     ·
      rw [if_neg (by omega)] at HI
      generalize hy : addE acc ⟨x.n, x.d⟩ = y at HI
      have hadd := zrd (P := P) acc ⟨x.n, x.d⟩
      rw [hy] at hadd
      refine zab (zaf rfl rfl (zaa rfl) (za8 rfl ta56 ti56 rfl rfl rfl rfl rfl) (zaf rfl rfl (zaa rfl) (za8 rfl ta56 ti56 rfl rfl rfl rfl rfl) (zaf rfl rfl (zaa rfl) (zam rfl rfl (hadd) (zae rfl (zae rfl zap))) (zac rfl (zac rfl (zac rfl (zba rfl (zaa rfl) (zaj rfl ti56 rfl rfl rfl rfl rfl rfl (by decide) (by decide)) (zac rfl (zad (zag (zab (zac rfl ?_))))))))))))
      refine za3 rfl rfl (zaa rfl) (zbp rfl rfl rfl) (fun h66 => ?_) (fun h66 => ?_)
      all_goals refine zad (zai ?_)
      all_goals (first | refine za5 rfl ?_ | refine zau rfl ?_)
      all_goals (repeat (first | refine zag ?_ | refine zai ?_ | refine zar ?_ | refine zbl ?_))
      ·
       rw [if_pos (by omega)] at HI
       refine zab (zaf rfl rfl (zaa rfl) (za9 rfl ti56 tp56 rfl rfl) (zac rfl (zba rfl (zaa rfl) (zaj rfl ti56 rfl rfl rfl rfl rfl rfl (by decide) (by decide)) (zac rfl (zad (zai ?_))))))
       (refine za7 ?_; repeat (first | refine zbc ?_ | refine zbe ?_))
       exact zdf (.inr rfl) ta56 ti56 rfl rfl rfl rfl rfl rfl (by rw [HI]; rfl)
      ·
       rw [if_neg (by omega)] at HI
       refine zab (zaf rfl rfl (zaa rfl) (zax rfl rfl rfl (IntWalk.i64_in _ (by omega))) (zac rfl (zad (zai ?_))))
       exact ⟨(⟨y.n, y.d⟩, k + 1), ⟨by dsimp only; omega, HI⟩, by dsimp only; omega, zb8 [0, 1] (by decide) ⟨⟨_, rfl, .rowE (by repeat' (first | exact Lo.s _ | exact zaz | refine zaw ?_ ?_ | refine zav ?_ | refine Lo.cells ?_ | refine Lo.agg _ ?_ | exact zak | refine zah ?_ ?_ | intro _)) rfl⟩, ⟨_, rfl, .rowE (by repeat' (first | exact Lo.s _ | exact zaz | refine zaw ?_ ?_ | refine zav ?_ | refine Lo.cells ?_ | refine Lo.agg _ ?_ | exact zak | refine zah ?_ ?_ | intro _)) rfl⟩, trivial⟩ ⟨.lo _ (by repeat' (first | exact Lo.s _ | exact zak | refine zah ?_ ?_ | refine zan ?_ | refine Lo.agg _ ?_ | refine Lo.sl _ ?_ | intro _)), .lo _ (by repeat' (first | exact Lo.s _ | exact zak | refine zah ?_ ?_ | refine zan ?_ | refine Lo.agg _ ?_ | refine Lo.sl _ ?_ | intro _)), .ptr 0 0 2 0 0 rfl, .ptr 1 1 2 0 0 rfl, .lo _ (.s _), .lo _ (.s _), trivial⟩⟩
    ·
     rw [zss (by omega)] at HI
     (refine zb9 ?_; repeat (first | refine zcr ?_ | refine zbt ?_ | refine zbk rfl ?_ | refine zbl ?_ | refine zai ?_ | refine zag ?_ | refine zar ?_ | refine zas ?_))
     refine zab (zaf rfl rfl (zaa rfl) (za8 rfl ta56 ti56 rfl rfl rfl rfl rfl) (zba rfl (zaa rfl) (zaj rfl ti56 rfl rfl rfl rfl rfl rfl (by decide) (by decide)) (zac rfl (zad (zai ?_)))))
     (refine za7 ?_; repeat (first | refine zbc ?_ | refine zbe ?_))
     exact zdf (.inr rfl) ta56 ti56 rfl rfl rfl rfl rfl rfl (by rw [HI]; rfl)
  all_goals refine zab (zaf rfl rfl (zaa rfl) (za9 rfl ti56 tp56 rfl rfl) (zba rfl (zaa rfl) (zaj rfl ti56 rfl rfl rfl rfl rfl rfl (by decide) (by decide)) (zac rfl (zad (zai (za7 (zbe (zbc ?_))))))))
  all_goals (exact zdf (.inr rfl) ta56 ti56 rfl rfl rfl rfl rfl rfl (by rw [zp0 h12 h16 (by omega)]; rfl))
 all_goals refine zab (zaf rfl rfl (zaa rfl) (za9 rfl ti56 tp56 rfl rfl) (zba rfl (zaa rfl) (zaj rfl ti56 rfl rfl rfl rfl rfl rfl (by decide) (by decide)) (zac rfl (zad (zai (za7 (zbe (zbc ?_))))))))
 all_goals (exact zdf (.inr rfl) ta56 ti56 rfl rfl rfl rfl rfl rfl (by rw [zst (by rintro ⟨q1, q2⟩; first | exact Bool.noConfusion (q1.symm.trans h12) | exact Bool.noConfusion (q2.symm.trans h16))]; rfl))
end Aw
end Go.Proofs.YtjhdcgaiccnmeaaGreatDoor
