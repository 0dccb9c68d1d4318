import Derived.Test.YtjhdcgaiccnmeaaGreatDoorJG24
import Derived.Test.YtjhdcgaiccnmeaaGreatDoorJG12
import Derived.Test.YtjhdcgaiccnmeaaGreatDoorJG10
import Derived.Test.YtjhdcgaiccnmeaaGreatDoorJG6
set_option linter.unusedSimpArgs false
set_option linter.unusedVariables false
set_option linter.unusedSectionVars false
section
namespace Go.Proofs.YtjhdcgaiccnmeaaGreatDoor.Aw
open Go.RowKit Go.Proofs
variable {P : Program} [IsP P]
def eSt (m : Stp) : AV := .agg [eI m.kind, eI m.trans, eS m.act]
def eC (c : Cst) : AV := .agg [eI c.log, eI c.model, eI c.silent]
theorem lo_St {k : Nat} (m : Stp) : Lo k (eSt m) := .agg _ (zah (.s _) (zah (.s _) (zah (.s _) zap)))
theorem lo_Sts {k : Nat} (l : List Stp) : Lo k (eL eSt l) := zaq fun m => lo_St m
theorem lo_C {k : Nat} (c : Cst) : Lo k (eC c) := .agg _ (zah (.s _) (zah (.s _) (zah (.s _) zap)))
theorem rep3 {G : Cx} {v x y z : Value} (h : Rep G v (.agg [.s x, .s y, .s z])) : v = .agg #[x, y, z] := by
 cases h with
 | agg vs _ hl h1 hr =>
  obtain ⟨q⟩ := vs
  match q, hl with
  | [a, b, c], _ =>
   rw [zdr (hr 0 a _ rfl rfl), zdr (hr 1 b _ rfl rfl), zdr (hr 2 c _ rfl rfl)]
theorem rdM_rep {G : Cx} {lo hi : Nat} {v : Value} {l : List Stp} (h : RdM G.w lo hi v l) (hs : ∀ b o, lo ≤ b → b < hi → b < G.w.heap.size → G.St b o) : Rep G v (eL eSt l) :=
 rd_rep (size := 3) (enc := encM) (f := eSt) (by simp) (fun _ => rfl) (fun a c hc => by simp [eSt, AV.cells] at hc; rcases hc with rfl | rfl | rfl <;> rfl) h hs (fun a _ j u c hu hc => by
  match j, hu, hc with
  | 0, hu, hc => simp [eSt, AV.cells] at hu hc; subst hu hc; exact .s _
  | 1, hu, hc => simp [eSt, AV.cells] at hu hc; subst hu hc; exact .s _
  | 2, hu, hc => simp [eSt, AV.cells] at hu hc; subst hu hc; exact .s _
  | j + 3, hu, hc => simp at hu)
theorem rep_rdM {G : Cx} {v : Value} {l : List Stp} (h : Rep G v (eL eSt l)) (hs : ∀ b o, G.St b o → b < G.w.heap.size) : RdM G.w 0 G.w.heap.size v l :=
 rep_rd (size := 3) (enc := encM) (f := eSt) (by decide) (by simp) (fun _ => rfl) h hs (fun a _ j u c v hu hc hv => by
  match j, hu, hc with
  | 0, hu, hc => simp [eSt, AV.cells] at hu hc; subst hu hc; exact zdr hv
  | 1, hu, hc => simp [eSt, AV.cells] at hu hc; subst hu hc; exact zdr hv
  | 2, hu, hc => simp [eSt, AV.cells] at hu hc; subst hu hc; exact zdr hv
  | j + 3, hu, hc => simp at hu)
theorem argsNW {G : Cx} {vargs : Array Value} {n : Net} {l : List ByteArray} (hst : ∀ b o, G.St b o → b < G.w.heap.size) (hsz : vargs.size = [eN n, eL eS l].length) (hrep : ∀ (j : Nat) v y, vargs[j]? = some v → [eN n, eL eS l][j]? = some y → Rep G v y) :
  ∃ vt v, vargs = #[netV n vt, v] ∧ RdT G.w 0 G.w.heap.size vt n.trans ∧ RdS G.w 0 G.w.heap.size v l := by
 obtain ⟨q⟩ := vargs
 match q, hsz with
 | [a, b], _ =>
  obtain ⟨vt, rfl, h1⟩ := rep_net (hrep 0 a _ rfl rfl) hst
  exact ⟨vt, b, rfl, h1, rep_rdS (hrep 1 b _ rfl rfl) hst⟩
theorem argsNWS {G : Cx} {vargs : Array Value} {n : Net} {l : List ByteArray} {s : List Int} (hst : ∀ b o, G.St b o → b < G.w.heap.size) (hsz : vargs.size = [eN n, eL eS l, eL eI s].length) (hrep : ∀ (j : Nat) v y, vargs[j]? = some v → [eN n, eL eS l, eL eI s][j]? = some y → Rep G v y) :
  ∃ vt v u, vargs = #[netV n vt, v, u] ∧ RdT G.w 0 G.w.heap.size vt n.trans ∧ RdS G.w 0 G.w.heap.size v l ∧ RdI G.w 0 G.w.heap.size u s := by
 obtain ⟨q⟩ := vargs
 match q, hsz with
 | [a, b, c], _ =>
  obtain ⟨vt, rfl, h1⟩ := rep_net (hrep 0 a _ rfl rfl) hst
  exact ⟨vt, b, c, rfl, h1, rep_rdS (hrep 1 b _ rfl rfl) hst, rep_rdI (hrep 2 c _ rfl rfl) hst⟩
theorem argsNWSM {G : Cx} {vargs : Array Value} {n : Net} {l : List ByteArray} {s : List Int} {m : Stp} (hst : ∀ b o, G.St b o → b < G.w.heap.size) (hsz : vargs.size = [eN n, eL eS l, eL eI s, eSt m].length) (hrep : ∀ (j : Nat) v y, vargs[j]? = some v → [eN n, eL eS l, eL eI s, eSt m][j]? = some y → Rep G v y) :
  ∃ vt v u, vargs = #[netV n vt, v, u, stpV m] ∧ RdT G.w 0 G.w.heap.size vt n.trans ∧ RdS G.w 0 G.w.heap.size v l ∧ RdI G.w 0 G.w.heap.size u s := by
 obtain ⟨q⟩ := vargs
 match q, hsz with
 | [a, b, c, d], _ =>
  obtain ⟨vt, rfl, h1⟩ := rep_net (hrep 0 a _ rfl rfl) hst
  have h4 := rep3 (hrep 3 d _ rfl rfl)
  subst h4
  exact ⟨vt, b, c, rfl, h1, rep_rdS (hrep 1 b _ rfl rfl) hst, rep_rdI (hrep 2 c _ rfl rfl) hst⟩
theorem start_pf (n : Net) (l : List ByteArray) : Pure P 51 [eN n, eL eS l] (.tup [eL eI (zb7 n l).1, eI (zb7 n l).2]) :=
 retI_pure (zdg Tryz.func51 rfl rfl) fun G vargs hst hsz hrep => by
  obtain ⟨vt, v, rfl, h1, h2⟩ := argsNW hst hsz hrep
  exact Start_any n l vt v _ _ _ _ G.w h1 h2
theorem end_pf (n : Net) (l : List ByteArray) : Pure P 71 [eN n, eL eS l] (.tup [eL eI (endE n l).1, eI (endE n l).2]) :=
 retI_pure (zdg Tryz.func71 rfl rfl) fun G vargs hst hsz hrep => by
  obtain ⟨vt, v, rfl, h1, h2⟩ := argsNW hst hsz hrep
  exact End_any n l vt v _ _ _ _ G.w h1 h2
theorem rEnd_pf (n : Net) (l : List ByteArray) : Pure P 59 [eN n, eL eS l] (.tup [eL eI (endE n l).1, eI (endE n l).2]) :=
 retI_pure (zdg Tryz.func59 rfl rfl) fun G vargs hst hsz hrep => by
  obtain ⟨vt, v, rfl, h1, h2⟩ := argsNW hst hsz hrep
  exact rEnd_any n l vt v _ _ _ _ G.w h1 h2
theorem rIsState_pf (n : Net) (l : List ByteArray) (s : List Int) : Pure P 31 [eN n, eL eS l, eL eI s] (eB (zct n l s)) :=
 retB_pure (zdg Tryz.func31 rfl rfl) fun G vargs hst hsz hrep => by
  obtain ⟨vt, v, u, rfl, h1, h2, h3⟩ := argsNWS hst hsz hrep
  exact rIsState_any n l s vt v u _ _ _ _ _ _ G.w h1 h2 h3
theorem rIsWord_pf (l : List ByteArray) : Pure P 21 [eL eS l] (eB (zdh l)) :=
 retB_pure (zdg Tryz.func21 rfl rfl) fun G vargs hst hsz hrep => by
  obtain ⟨v, rfl, h1⟩ := argsS hst hsz hrep
  exact rIsWord_any l _ _ v G.w h1
theorem moves_pf (n : Net) (l : List ByteArray) (s : List Int) : Pure P 69 [eN n, eL eS l, eL eI s] (.tup [eL eSt (MovesE n l s).1, eI (MovesE n l s).2]) :=
 pure_prog (pure_mk (zdg Tryz.func69 rfl rfl) (.tup _ (zah (lo_Sts _) (zah (.s _) zap))) fun G vargs hst hsz hrep => by
  obtain ⟨vt, v, u, rfl, h1, h2, h3⟩ := argsNWS hst hsz hrep
  refine (Moves_any n l s vt v u _ _ _ _ _ _ G.w h1 h2 h3).mono ?_
  rintro e w' ⟨A, c, rfl, hr, hb⟩
  refine ⟨_, rfl, hb, .tup _ _ rfl (fun j v x hv hx => ?_)⟩
  match j, hv, hx with
  | 0, hv, hx => simp at hv hx; subst hv hx; exact rdM_rep (G := newCx G w') hr (fun b o h1 h2 _ => newCx_st h1 h2)
  | 1, hv, hx => simp at hv hx; subst hv hx; exact .s _
  | j + 2, hv, hx => simp at hv)
theorem apply_pf (n : Net) (l : List ByteArray) (s : List Int) (m : Stp) : Pure P 70 [eN n, eL eS l, eL eI s, eSt m] (.tup [eL eI (zb4 n l s m).1, eI (zb4 n l s m).2]) :=
 retI_pure (zdg Tryz.func70 rfl rfl) fun G vargs hst hsz hrep => by
  obtain ⟨vt, v, u, rfl, h1, h2, h3⟩ := argsNWSM hst hsz hrep
  exact Apply_any n l s m vt v u _ _ _ _ _ _ G.w h1 h2 h3
theorem cost_pf (c : Cst) (l : List Stp) : Pure P 35 [eC c, eL eSt l] (.tup [eI (costE c l).1, eI (costE c l).2]) :=
 pure_prog (pure_mk (zdg Tryz.func35 rfl rfl) (.tup _ (zah (.s _) (zah (.s _) zap))) fun G vargs hst hsz hrep => by
  obtain ⟨q⟩ := vargs
  match q, hsz, hrep with
  | [a, b], _, hrep =>
   have h1 := rep3 (hrep 0 a _ rfl rfl)
   subst h1
   refine (Cost_any c l _ _ b G.w (rep_rdM (hrep 1 b _ rfl rfl) hst)).mono ?_
   rintro e w' ⟨rfl, hb⟩
   refine ⟨_, rfl, hb, .tup _ _ rfl (fun j v x hv hx => ?_)⟩
   match j, hv, hx with
   | 0, hv, hx => simp at hv hx; subst hv hx; exact .s _
   | 1, hv, hx => simp at hv hx; subst hv hx; exact .s _
   | j + 2, hv, hx => simp at hv)
theorem validCosts_pf (c : Cst) : Pure P 47 [eC c] (eB (vcB c)) :=
 retB_pure (zdg Tryz.func47 rfl rfl) fun G vargs hst hsz hrep => by
  obtain ⟨q⟩ := vargs
  match q, hsz, hrep with
  | [a], _, hrep =>
   have h1 := rep3 (hrep 0 a _ rfl rfl)
   subst h1
   exact validCosts_any c G.w
end Go.Proofs.YtjhdcgaiccnmeaaGreatDoor.Aw
end
