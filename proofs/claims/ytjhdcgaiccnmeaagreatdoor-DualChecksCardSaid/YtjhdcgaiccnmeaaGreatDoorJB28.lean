import Derived.Test.YtjhdcgaiccnmeaaGreatDoorJB25
import Derived.Test.YtjhdcgaiccnmeaaGreatDoorJB13
import Derived.Test.YtjhdcgaiccnmeaaGreatDoorJB10
import Derived.Test.YtjhdcgaiccnmeaaGreatDoorJB6
set_option linter.unusedSimpArgs false
set_option linter.unusedVariables false
set_option linter.unusedSectionVars false
section
namespace Go.Proofs.YtjhdcgaiccnmeaaGreatDoor.Aw
open Go.RowKit Go.Proofs
variable {P : Program} [IsP P]
def eSt (m : Stp) : AV := .agg [eI m.kind, eI m.trans, eS m.act]
def eC (c : Cst) : AV := .agg [eI c.log, eI c.model, eI c.silent]
theorem lo_St {k : Nat} (m : Stp) : Lo k (eSt m) := .agg _ (zah (.s _) (zah (.s _) (zah (.s _) zak)))
theorem zmz {k : Nat} (l : List Stp) : Lo k (eL eSt l) := zan fun m => lo_St m
theorem lo_C {k : Nat} (c : Cst) : Lo k (eC c) := .agg _ (zah (.s _) (zah (.s _) (zah (.s _) zak)))
theorem rep3 {G : Cx} {v x y z : Value} (h : Rep G v (.agg [.s x, .s y, .s z])) : v = .agg #[x, y, z] := by
 cases h with
 | agg vs _ hl h1 hr =>
  obtain ⟨q⟩ := vs
  match q, hl with
  | [a, b, c], _ =>
   rw [zb4 (hr 0 a _ rfl rfl), zb4 (hr 1 b _ rfl rfl), zb4 (hr 2 c _ rfl rfl)]
theorem zu8 {G : Cx} {lo hi : Nat} {v : Value} {l : List Stp} (h : RdM G.w lo hi v l) (hs : ∀ b o, lo ≤ b → b < hi → b < G.w.heap.size → G.St b o) : Rep G v (eL eSt l) :=
 zz6 (size := 3) (enc := encM) (f := eSt) (by simp) (fun _ => rfl) (fun a c hc => by simp [eSt, AV.cells] at hc; rcases hc with rfl | rfl | rfl <;> rfl) h hs (fun a _ j u c hu hc => by
  match j, hu, hc with
  | 0, hu, hc => simp [eSt, AV.cells] at hu hc; subst hu hc; exact .s _
  | 1, hu, hc => simp [eSt, AV.cells] at hu hc; subst hu hc; exact .s _
  | 2, hu, hc => simp [eSt, AV.cells] at hu hc; subst hu hc; exact .s _
  | j + 3, hu, hc => simp at hu)
theorem z01 {G : Cx} {v : Value} {l : List Stp} (h : Rep G v (eL eSt l)) (hs : ∀ b o, G.St b o → b < G.w.heap.size) : RdM G.w 0 G.w.heap.size v l :=
 zu2 (size := 3) (enc := encM) (f := eSt) (by decide) (by simp) (fun _ => rfl) h hs (fun a _ j u c v hu hc hv => by
  match j, hu, hc with
  | 0, hu, hc => simp [eSt, AV.cells] at hu hc; subst hu hc; exact zb4 hv
  | 1, hu, hc => simp [eSt, AV.cells] at hu hc; subst hu hc; exact zb4 hv
  | 2, hu, hc => simp [eSt, AV.cells] at hu hc; subst hu hc; exact zb4 hv
  | j + 3, hu, hc => simp at hu)
theorem zs7 {G : Cx} {vargs : Array Value} {n : Net} {l : List ByteArray} (hst : ∀ b o, G.St b o → b < G.w.heap.size) (hsz : vargs.size = [eN n, eL eS l].length) (hrep : ∀ (j : Nat) v y, vargs[j]? = some v → [eN n, eL eS l][j]? = some y → Rep G v y) :
  ∃ vt v, vargs = #[netV n vt, v] ∧ RdT G.w 0 G.w.heap.size vt n.trans ∧ RdS G.w 0 G.w.heap.size v l := by
 obtain ⟨q⟩ := vargs
 match q, hsz with
 | [a, b], _ =>
  obtain ⟨vt, rfl, h1⟩ := zni (hrep 0 a _ rfl rfl) hst
  exact ⟨vt, b, rfl, h1, znh (hrep 1 b _ rfl rfl) hst⟩
theorem zrn {G : Cx} {vargs : Array Value} {n : Net} {l : List ByteArray} {s : List Int} (hst : ∀ b o, G.St b o → b < G.w.heap.size) (hsz : vargs.size = [eN n, eL eS l, eL eI s].length) (hrep : ∀ (j : Nat) v y, vargs[j]? = some v → [eN n, eL eS l, eL eI s][j]? = some y → Rep G v y) :
  ∃ vt v u, vargs = #[netV n vt, v, u] ∧ RdT G.w 0 G.w.heap.size vt n.trans ∧ RdS G.w 0 G.w.heap.size v l ∧ RdI G.w 0 G.w.heap.size u s := by
 obtain ⟨q⟩ := vargs
 match q, hsz with
 | [a, b, c], _ =>
  obtain ⟨vt, rfl, h1⟩ := zni (hrep 0 a _ rfl rfl) hst
  exact ⟨vt, b, c, rfl, h1, znh (hrep 1 b _ rfl rfl) hst, zih (hrep 2 c _ rfl rfl) hst⟩
theorem zs6 {G : Cx} {vargs : Array Value} {n : Net} {l : List ByteArray} {s : List Int} {m : Stp} (hst : ∀ b o, G.St b o → b < G.w.heap.size) (hsz : vargs.size = [eN n, eL eS l, eL eI s, eSt m].length) (hrep : ∀ (j : Nat) v y, vargs[j]? = some v → [eN n, eL eS l, eL eI s, eSt m][j]? = some y → Rep G v y) :
  ∃ vt v u, vargs = #[netV n vt, v, u, stpV m] ∧ RdT G.w 0 G.w.heap.size vt n.trans ∧ RdS G.w 0 G.w.heap.size v l ∧ RdI G.w 0 G.w.heap.size u s := by
 obtain ⟨q⟩ := vargs
 match q, hsz with
 | [a, b, c, d], _ =>
  obtain ⟨vt, rfl, h1⟩ := zni (hrep 0 a _ rfl rfl) hst
  have h4 := rep3 (hrep 3 d _ rfl rfl)
  subst h4
  exact ⟨vt, b, c, rfl, h1, znh (hrep 1 b _ rfl rfl) hst, zih (hrep 2 c _ rfl rfl) hst⟩
theorem znc (n : Net) (l : List ByteArray) : Pure P 51 [eN n, eL eS l] (.tup [eL eI (zd9 n l).1, eI (zd9 n l).2]) :=
 zgg (zej Tryz.func51 rfl rfl) fun G vargs hst hsz hrep => by
  obtain ⟨vt, v, rfl, h1, h2⟩ := zs7 hst hsz hrep
  exact zxu n l vt v _ _ _ _ G.w h1 h2
theorem zww (n : Net) (l : List ByteArray) : Pure P 71 [eN n, eL eS l] (.tup [eL eI (endE n l).1, eI (endE n l).2]) :=
 zgg (zej Tryz.func71 rfl rfl) fun G vargs hst hsz hrep => by
  obtain ⟨vt, v, rfl, h1, h2⟩ := zs7 hst hsz hrep
  exact z2n n l vt v _ _ _ _ G.w h1 h2
theorem zo1 (n : Net) (l : List ByteArray) : Pure P 54 [eN n, eL eS l] (.tup [eL eI (zd9 n l).1, eI (zd9 n l).2]) :=
 zgg (zej Tryz.func54 rfl rfl) fun G vargs hst hsz hrep => by
  obtain ⟨vt, v, rfl, h1, h2⟩ := zs7 hst hsz hrep
  exact zto n l vt v _ _ _ _ G.w h1 h2
theorem zqp (n : Net) (l : List ByteArray) : Pure P 59 [eN n, eL eS l] (.tup [eL eI (endE n l).1, eI (endE n l).2]) :=
 zgg (zej Tryz.func59 rfl rfl) fun G vargs hst hsz hrep => by
  obtain ⟨vt, v, rfl, h1, h2⟩ := zs7 hst hsz hrep
  exact zyg n l vt v _ _ _ _ G.w h1 h2
theorem zqo (n : Net) (l : List ByteArray) (s : List Int) : Pure P 31 [eN n, eL eS l, eL eI s] (eB (zd3 n l s)) :=
 zgh (zej Tryz.func31 rfl rfl) fun G vargs hst hsz hrep => by
  obtain ⟨vt, v, u, rfl, h1, h2, h3⟩ := zrn hst hsz hrep
  exact zj6 n l s vt v u _ _ _ _ _ _ G.w h1 h2 h3
theorem zmr (l : List ByteArray) : Pure P 21 [eL eS l] (eB (zew l)) :=
 zgh (zej Tryz.func21 rfl rfl) fun G vargs hst hsz hrep => by
  obtain ⟨v, rfl, h1⟩ := argsS hst hsz hrep
  exact zk8 l _ _ v G.w h1
theorem zno (n : Net) (l : List ByteArray) (s : List Int) : Pure P 69 [eN n, eL eS l, eL eI s] (.tup [eL eSt (zgs n l s).1, eI (zgs n l s).2]) :=
 zcs (zfr (zej Tryz.func69 rfl rfl) (.tup _ (zah (zmz _) (zah (.s _) zak))) fun G vargs hst hsz hrep => by
  obtain ⟨vt, v, u, rfl, h1, h2, h3⟩ := zrn hst hsz hrep
  refine (zxv n l s vt v u _ _ _ _ _ _ G.w h1 h2 h3).mono ?_
  rintro e w' ⟨A, c, rfl, hr, hb⟩
  refine ⟨_, rfl, hb, .tup _ _ rfl (fun j v x hv hx => ?_)⟩
  match j, hv, hx with
  | 0, hv, hx => simp at hv hx; subst hv hx; exact zu8 (G := ztw G w') hr (fun b o h1 h2 _ => znn h1 h2)
  | 1, hv, hx => simp at hv hx; subst hv hx; exact .s _
  | j + 2, hv, hx => simp at hv)
theorem zo2 (n : Net) (l : List ByteArray) (s : List Int) (hz : zd3 n l s = true) : Pure P 64 [eN n, eL eS l, eL eI s] (eL eSt (zds n l s)) :=
 zcs (zfr (zej Tryz.func64 rfl rfl) (zmz _) fun G vargs hst hsz hrep => by
  obtain ⟨vt, v, u, rfl, h1, h2, h3⟩ := zrn hst hsz hrep
  refine (ztp n l s vt v u _ _ _ _ _ _ G.w h1 h2 h3 hz).mono ?_
  rintro e w' ⟨A, c, rfl, hr, hb⟩
  refine ⟨_, rfl, hb, ?_⟩
  rw [zmx hz] at hr ⊢
  exact zu8 (G := ztw G w') hr (fun b o h1 h2 _ => znn h1 h2))
theorem zs8 (n : Net) (l : List ByteArray) (s : List Int) (m : Stp) : Pure P 70 [eN n, eL eS l, eL eI s, eSt m] (.tup [eL eI (zd2 n l s m).1, eI (zd2 n l s m).2]) :=
 zgg (zej Tryz.func70 rfl rfl) fun G vargs hst hsz hrep => by
  obtain ⟨vt, v, u, rfl, h1, h2, h3⟩ := zs6 hst hsz hrep
  exact zxx n l s m vt v u _ _ _ _ _ _ G.w h1 h2 h3
theorem zo5 (n : Net) (l : List ByteArray) (s : List Int) (m : Stp) : Pure P 65 [eN n, eL eS l, eL eI s, eSt m] (.tup [eL eI (zd2 n l s m).1, eI (zd2 n l s m).2]) :=
 zgg (zej Tryz.func65 rfl rfl) fun G vargs hst hsz hrep => by
  obtain ⟨vt, v, u, rfl, h1, h2, h3⟩ := zs6 hst hsz hrep
  exact zms n l s m vt v u _ _ _ _ _ _ G.w h1 h2 h3
theorem zw8 (c : Cst) (l : List Stp) : Pure P 35 [eC c, eL eSt l] (.tup [eI (zp8 c l).1, eI (zp8 c l).2]) :=
 zcs (zfr (zej Tryz.func35 rfl rfl) (.tup _ (zah (.s _) (zah (.s _) zak))) fun G vargs hst hsz hrep => by
  obtain ⟨q⟩ := vargs
  match q, hsz, hrep with
  | [a, b], _, hrep =>
   have h1 := rep3 (hrep 0 a _ rfl rfl)
   subst h1
   refine (zzv c l _ _ b G.w (z01 (hrep 1 b _ rfl rfl) hst)).mono ?_
   rintro e w' ⟨rfl, hb⟩
   refine ⟨_, rfl, hb, .tup _ _ rfl (fun j v x hv hx => ?_)⟩
   match j, hv, hx with
   | 0, hv, hx => simp at hv hx; subst hv hx; exact .s _
   | 1, hv, hx => simp at hv hx; subst hv hx; exact .s _
   | j + 2, hv, hx => simp at hv)
theorem zit (c : Cst) : Pure P 47 [eC c] (eB (vcB c)) :=
 zgh (zej Tryz.func47 rfl rfl) fun G vargs hst hsz hrep => by
  obtain ⟨q⟩ := vargs
  match q, hsz, hrep with
  | [a], _, hrep =>
   have h1 := rep3 (hrep 0 a _ rfl rfl)
   subst h1
   exact zh8 c G.w
theorem zge (c : Cst) : Pure P 16 [eC c] (eB (vcB c)) :=
 zgh (zej Tryz.func16 rfl rfl) fun G vargs hst hsz hrep => by
  obtain ⟨q⟩ := vargs
  match q, hsz, hrep with
  | [a], _, hrep =>
   have h1 := rep3 (hrep 0 a _ rfl rfl)
   subst h1
   exact zk6 c G.w
theorem zvb (c : Cst) (m : Stp) : Pure P 67 [eC c, eSt m] (eI (zd4 c m.kind)) :=
 zu0 (zej Tryz.func67 rfl rfl) fun G vargs hst hsz hrep => by
  obtain ⟨q⟩ := vargs
  match q, hsz, hrep with
  | [a, b], _, hrep =>
   have h1 := rep3 (hrep 0 a _ rfl rfl)
   have h2 := rep3 (hrep 1 b _ rfl rfl)
   subst h1 h2
   exact z07 c m G.w
end Go.Proofs.YtjhdcgaiccnmeaaGreatDoor.Aw
end
