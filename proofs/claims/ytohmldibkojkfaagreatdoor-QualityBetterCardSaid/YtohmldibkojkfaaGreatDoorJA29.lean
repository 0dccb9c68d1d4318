import Derived.Test.YtohmldibkojkfaaGreatDoorJA25
import Derived.Test.YtohmldibkojkfaaGreatDoorJA13
import Derived.Test.YtohmldibkojkfaaGreatDoorJA11
import Derived.Test.YtohmldibkojkfaaGreatDoorJA6
import Derived.Test.YtohmldibkojkfaaGreatDoorJA16
import Derived.Test.YtohmldibkojkfaaGreatDoorJA9
set_option linter.unusedSimpArgs false
set_option linter.unusedVariables false
set_option linter.unusedSectionVars false
section
namespace Go.Proofs.YtohmldibkojkfaaGreatDoor.Aw
open Go.RowKit Go.Proofs
variable {P : Program} [IsP P]
def eSt (m : Stp) : AV := .agg [eI m.kind, eI m.trans, eS m.act]
def eC (c : Cst) : AV := .agg [eI c.log, eI c.model, eI c.silent]
theorem z2e {k : Nat} (m : Stp) : Lo k (eSt m) := .agg _ (zaj (.s _) (zaj (.s _) (zaj (.s _) zbb)))
theorem zip {k : Nat} (l : List Stp) : Lo k (eL eSt l) := zb9 fun m => z2e m
theorem lo_C {k : Nat} (c : Cst) : Lo k (eC c) := .agg _ (zaj (.s _) (zaj (.s _) (zaj (.s _) zbb)))
theorem rep3 {G : Cx} {v x y z : Value} (h : Rep G v (.agg [.s x, .s y, .s z])) : v = .agg #[x, y, z] := by
 cases h with
 | agg vs _ hl h1 hr =>
  obtain ⟨q⟩ := vs
  match q, hl with
  | [a, b, c], _ =>
   rw [zdr (hr 0 a _ rfl rfl), zdr (hr 1 b _ rfl rfl), zdr (hr 2 c _ rfl rfl)]
theorem zvi {G : Cx} {lo hi : Nat} {v : Value} {l : List Stp} (h : RdM G.w lo hi v l) (hs : ∀ b o, lo ≤ b → b < hi → b < G.w.heap.size → G.St b o) : Rep G v (eL eSt l) :=
 z0g (size := 3) (enc := encM) (f := eSt) (by simp) (fun _ => rfl) (fun a c hc => by simp [eSt, AV.cells] at hc; rcases hc with rfl | rfl | rfl <;> rfl) h hs (fun a _ j u c hu hc => by
  match j, hu, hc with
  | 0, hu, hc => simp [eSt, AV.cells] at hu hc; subst hu hc; exact .s _
  | 1, hu, hc => simp [eSt, AV.cells] at hu hc; subst hu hc; exact .s _
  | 2, hu, hc => simp [eSt, AV.cells] at hu hc; subst hu hc; exact .s _
  | j + 3, hu, hc => simp at hu)
theorem z1n {G : Cx} {v : Value} {l : List Stp} (h : Rep G v (eL eSt l)) (hs : ∀ b o, G.St b o → b < G.w.heap.size) : RdM G.w 0 G.w.heap.size v l :=
 zvd (size := 3) (enc := encM) (f := eSt) (by decide) (by simp) (fun _ => rfl) h hs (fun a _ j u c v hu hc hv => by
  match j, hu, hc with
  | 0, hu, hc => simp [eSt, AV.cells] at hu hc; subst hu hc; exact zdr hv
  | 1, hu, hc => simp [eSt, AV.cells] at hu hc; subst hu hc; exact zdr hv
  | 2, hu, hc => simp [eSt, AV.cells] at hu hc; subst hu hc; exact zdr hv
  | j + 3, hu, hc => simp at hu)
theorem ztc {G : Cx} {vargs : Array Value} {n : Net} {l : List ByteArray} (hst : ∀ b o, G.St b o → b < G.w.heap.size) (hsz : vargs.size = [eN n, eL eS l].length) (hrep : ∀ (j : Nat) v y, vargs[j]? = some v → [eN n, eL eS l][j]? = some y → Rep G v y) :
  ∃ vt v, vargs = #[netV n vt, v] ∧ RdT G.w 0 G.w.heap.size vt n.trans ∧ RdS G.w 0 G.w.heap.size v l := by
 obtain ⟨q⟩ := vargs
 match q, hsz with
 | [a, b], _ =>
  obtain ⟨vt, rfl, h1⟩ := znf (hrep 0 a _ rfl rfl) hst
  exact ⟨vt, b, rfl, h1, zne (hrep 1 b _ rfl rfl) hst⟩
theorem zx9 {G : Cx} {vargs : Array Value} {n : Net} {l : List ByteArray} {s : List Int} (hst : ∀ b o, G.St b o → b < G.w.heap.size) (hsz : vargs.size = [eN n, eL eS l, eL eI s].length) (hrep : ∀ (j : Nat) v y, vargs[j]? = some v → [eN n, eL eS l, eL eI s][j]? = some y → Rep G v y) :
  ∃ vt v u, vargs = #[netV n vt, v, u] ∧ RdT G.w 0 G.w.heap.size vt n.trans ∧ RdS G.w 0 G.w.heap.size v l ∧ RdI G.w 0 G.w.heap.size u s := by
 obtain ⟨q⟩ := vargs
 match q, hsz with
 | [a, b, c], _ =>
  obtain ⟨vt, rfl, h1⟩ := znf (hrep 0 a _ rfl rfl) hst
  exact ⟨vt, b, c, rfl, h1, zne (hrep 1 b _ rfl rfl) hst, zh7 (hrep 2 c _ rfl rfl) hst⟩
theorem ztb {G : Cx} {vargs : Array Value} {n : Net} {l : List ByteArray} {s : List Int} {m : Stp} (hst : ∀ b o, G.St b o → b < G.w.heap.size) (hsz : vargs.size = [eN n, eL eS l, eL eI s, eSt m].length) (hrep : ∀ (j : Nat) v y, vargs[j]? = some v → [eN n, eL eS l, eL eI s, eSt m][j]? = some y → Rep G v y) :
  ∃ vt v u, vargs = #[netV n vt, v, u, stpV m] ∧ RdT G.w 0 G.w.heap.size vt n.trans ∧ RdS G.w 0 G.w.heap.size v l ∧ RdI G.w 0 G.w.heap.size u s := by
 obtain ⟨q⟩ := vargs
 match q, hsz with
 | [a, b, c, d], _ =>
  obtain ⟨vt, rfl, h1⟩ := znf (hrep 0 a _ rfl rfl) hst
  have h4 := rep3 (hrep 3 d _ rfl rfl)
  subst h4
  exact ⟨vt, b, c, rfl, h1, zne (hrep 1 b _ rfl rfl) hst, zh7 (hrep 2 c _ rfl rfl) hst⟩
theorem zrz (n : Net) (l : List ByteArray) : Pure P 90 [eN n, eL eS l] (.tup [eL eI (zce n l).1, eI (zce n l).2]) :=
 zf5 (zc1 Tryz.func90 rfl rfl) fun G vargs hst hsz hrep => by
  obtain ⟨vt, v, rfl, h1, h2⟩ := ztc hst hsz hrep
  exact zyd n l vt v _ _ _ _ G.w h1 h2
theorem end_pf (n : Net) (l : List ByteArray) : Pure P 91 [eN n, eL eS l] (.tup [eL eI (endE n l).1, eI (endE n l).2]) :=
 zf5 (zc1 Tryz.func91 rfl rfl) fun G vargs hst hsz hrep => by
  obtain ⟨vt, v, rfl, h1, h2⟩ := ztc hst hsz hrep
  exact z3c n l vt v _ _ _ _ G.w h1 h2
theorem zvk (n : Net) (l : List ByteArray) : Pure P 133 [eN n, eL eS l] (.tup [eL eI (zce n l).1, eI (zce n l).2]) :=
 zf5 (zc1 Tryz.func133 rfl rfl) fun G vargs hst hsz hrep => by
  obtain ⟨vt, v, rfl, h1, h2⟩ := ztc hst hsz hrep
  exact ztq n l vt v _ _ _ _ G.w h1 h2
theorem z1x (n : Net) (l : List ByteArray) : Pure P 134 [eN n, eL eS l] (.tup [eL eI (endE n l).1, eI (endE n l).2]) :=
 zf5 (zc1 Tryz.func134 rfl rfl) fun G vargs hst hsz hrep => by
  obtain ⟨vt, v, rfl, h1, h2⟩ := ztc hst hsz hrep
  exact zyv n l vt v _ _ _ _ G.w h1 h2
theorem ztt (l : List ByteArray) : Pure P 18 [eL eS l] (eB (zd4 l)) :=
 ze2 (zc1 Tryz.func18 rfl rfl) fun G vargs hst hsz hrep => by
  obtain ⟨v, rfl, h1⟩ := argsS hst hsz hrep
  exact zkx l _ _ v G.w h1
theorem zy0 (n : Net) (l : List ByteArray) (s : List Int) : Pure P 95 [eN n, eL eS l, eL eI s] (.tup [eL eSt (zjv n l s).1, eI (zjv n l s).2]) :=
 zd6 (zfw (zc1 Tryz.func95 rfl rfl) (.tup _ (zaj (zip _) (zaj (.s _) zbb))) fun G vargs hst hsz hrep => by
  obtain ⟨vt, v, u, rfl, h1, h2, h3⟩ := zx9 hst hsz hrep
  refine (zye n l s vt v u _ _ _ _ _ _ G.w h1 h2 h3).mono ?_
  rintro e w' ⟨A, c, rfl, hr, hb⟩
  refine ⟨_, rfl, hb, .tup _ _ rfl (fun j v x hv hx => ?_)⟩
  match j, hv, hx with
  | 0, hv, hx => simp at hv hx; subst hv hx; exact zvi (G := zt2 G w') hr (fun b o h1 h2 _ => znl h1 h2)
  | 1, hv, hx => simp at hv hx; subst hv hx; exact .s _
  | j + 2, hv, hx => simp at hv)
theorem zvo (n : Net) (l : List ByteArray) (s : List Int) (hz : zcm n l s = true) : Pure P 137 [eN n, eL eS l, eL eI s] (eL eSt (zcf n l s)) :=
 zd6 (zfw (zc1 Tryz.func137 rfl rfl) (zip _) fun G vargs hst hsz hrep => by
  obtain ⟨vt, v, u, rfl, h1, h2, h3⟩ := zx9 hst hsz hrep
  refine (zts n l s vt v u _ _ _ _ _ _ G.w h1 h2 h3 hz).mono ?_
  rintro e w' ⟨A, c, rfl, hr, hb⟩
  refine ⟨_, rfl, hb, ?_⟩
  rw [zmo hz] at hr ⊢
  exact zvi (G := zt2 G w') hr (fun b o h1 h2 _ => znl h1 h2))
theorem zzy (n : Net) (l : List ByteArray) (s : List Int) (m : Stp) : Pure P 96 [eN n, eL eS l, eL eI s, eSt m] (.tup [eL eI (zbi n l s m).1, eI (zbi n l s m).2]) :=
 zf5 (zc1 Tryz.func96 rfl rfl) fun G vargs hst hsz hrep => by
  obtain ⟨vt, v, u, rfl, h1, h2, h3⟩ := ztb hst hsz hrep
  exact zyf n l s m vt v u _ _ _ _ _ _ G.w h1 h2 h3
theorem zvu (n : Net) (l : List ByteArray) (s : List Int) (m : Stp) : Pure P 138 [eN n, eL eS l, eL eI s, eSt m] (.tup [eL eI (zbi n l s m).1, eI (zbi n l s m).2]) :=
 zf5 (zc1 Tryz.func138 rfl rfl) fun G vargs hst hsz hrep => by
  obtain ⟨vt, v, u, rfl, h1, h2, h3⟩ := ztb hst hsz hrep
  exact zmi n l s m vt v u _ _ _ _ _ _ G.w h1 h2 h3
theorem z2y (c : Cst) (l : List Stp) : Pure P 97 [eC c, eL eSt l] (.tup [eI (zp0 c l).1, eI (zp0 c l).2]) :=
 zd6 (zfw (zc1 Tryz.func97 rfl rfl) (.tup _ (zaj (.s _) (zaj (.s _) zbb))) fun G vargs hst hsz hrep => by
  obtain ⟨q⟩ := vargs
  match q, hsz, hrep with
  | [a, b], _, hrep =>
   have h1 := rep3 (hrep 0 a _ rfl rfl)
   subst h1
   refine (zz3 c l _ _ b G.w (z1n (hrep 1 b _ rfl rfl) hst)).mono ?_
   rintro e w' ⟨rfl, hb⟩
   refine ⟨_, rfl, hb, .tup _ _ rfl (fun j v x hv hx => ?_)⟩
   match j, hv, hx with
   | 0, hv, hx => simp at hv hx; subst hv hx; exact .s _
   | 1, hv, hx => simp at hv hx; subst hv hx; exact .s _
   | j + 2, hv, hx => simp at hv)
theorem zif (c : Cst) : Pure P 63 [eC c] (eB (vcB c)) :=
 ze2 (zc1 Tryz.func63 rfl rfl) fun G vargs hst hsz hrep => by
  obtain ⟨q⟩ := vargs
  match q, hsz, hrep with
  | [a], _, hrep =>
   have h1 := rep3 (hrep 0 a _ rfl rfl)
   subst h1
   exact zh0 c G.w
theorem zh1 (c : Cst) : Pure P 36 [eC c] (eB (vcB c)) :=
 ze2 (zc1 Tryz.func36 rfl rfl) fun G vargs hst hsz hrep => by
  obtain ⟨q⟩ := vargs
  match q, hsz, hrep with
  | [a], _, hrep =>
   have h1 := rep3 (hrep 0 a _ rfl rfl)
   subst h1
   exact zkw c G.w
theorem z1w (c : Cst) (m : Stp) : Pure P 139 [eC c, eSt m] (eI (zbk c m.kind)) :=
 zvc (zc1 Tryz.func139 rfl rfl) fun G vargs hst hsz hrep => by
  obtain ⟨q⟩ := vargs
  match q, hsz, hrep with
  | [a, b], _, hrep =>
   have h1 := rep3 (hrep 0 a _ rfl rfl)
   have h2 := rep3 (hrep 1 b _ rfl rfl)
   subst h1 h2
   exact z1v c m G.w
end Go.Proofs.YtohmldibkojkfaaGreatDoor.Aw
end
section
namespace Go.Proofs.YtohmldibkojkfaaGreatDoor.Aw
open Go.RowKit Go.Proofs
variable {P : Program} [IsP P]
def revT (t : Tr) : Tr := ⟨t.label, t.out, t.inn⟩
def revN (n : Net) : Net := ⟨n.places, n.trans.map revT, n.sink, n.source⟩
abbrev zN : AV := .agg [.s (.int .i64 0), .s (.slice none 0 0), .s (.int .i64 0), .s (.int .i64 0)]
set_option maxHeartbeats 4000000 in
theorem ztn (n : Net) (hval : zb2 n = true) : Pure P 45 [eN n] (eN (revN n)) := by
 have hpl := zbh hval
 refine zcy (by rw [IsP.eq (P := P)]; exact Tryz.func45) rfl rfl rfl rfl rfl (by repeat' (first | exact Lo.s _ | exact zbb | refine zaj ?_ ?_ | refine zb9 ?_ | refine Lo.agg _ ?_ | refine Lo.sl _ ?_ | intro _)) (by repeat' (first | exact Lo.s _ | exact zbb | refine zaj ?_ ?_ | refine zb9 ?_ | refine Lo.agg _ ?_ | refine Lo.sl _ ?_ | intro _)) (by simp only [argF]; rfl) ?_
 refine zaf (zab (zad rfl rfl (zaa rfl) (zbg rfl rfl rfl rfl) ?_))
 refine zar (zbl (id := 0) rfl) (zar (zb3 (d := 1) rfl rfl rfl) ?_)
 refine zad rfl rfl (zaa rfl) (zbw rfl ti24 rfl rfl) (zae (zaf (zab (zbm zmb rfl (zbu ta3 rfl (zbm zkn rfl (zbu ta3 rfl (zbm zjh rfl (zbu ta3 rfl (zad rfl rfl (zaa rfl) (zbr rfl ti24 tp24 rfl rfl) (zad rfl rfl (zaa rfl) (zbw rfl ti24 rfl rfl) (zbz rfl (zaa rfl) (za0 rfl ti24 rfl rfl rfl rfl rfl rfl (by decide) (by decide)) (zae (zaf (zaf (zab (zac rfl (zae (zah (zaw ?_))))))))))))))))))))
 refine zbv (zi6 (id := 2) (sz2 := 3) (e' := .agg [eI n.places, .own 3 3 0, eI n.sink, eI n.source]) (pre := [eI n.places]) (post := [eI n.sink, eI n.source]) rfl rfl rfl) ?_
 refine zcb (S := Nat) (fun k => [(1, .ref (eN n).cells), (2, .ptr 0 4 0 0), (3, .ptr 1 4 0 0), (4, eI k)]) (fun k => [.row 4 [zN], .row 4 [.agg [eI n.places, .own 2 3 k, eI n.sink, eI n.source]], .row 3 ((List.range k).map fun i => eT (revT (gti n.trans i)))]) (fun k => k ≤ n.trans.length) (fun k => n.trans.length - k) 0
  (zed [1, 2, 3] (by decide) ⟨⟨_, rfl, .rowE (by repeat' (first | exact Lo.s _ | exact znn | refine zno ?_ ?_ | refine zhc ?_ | refine Lo.cells ?_ | refine Lo.agg _ ?_ | exact zbb | refine zaj ?_ ?_ | intro _)) rfl⟩, ⟨_, rfl, znj (.cons (.lo _ (.s _)) (.cons (.own _ _ _ _ _ rfl rfl) (.cons (.lo _ (.s _)) (.cons (.lo _ (.s _)) .nil))))⟩, ⟨_, rfl, .rowE (znn) rfl⟩, trivial⟩ ⟨.lo _ (by repeat' (first | exact Lo.s _ | exact zbb | refine zaj ?_ ?_ | refine zb9 ?_ | refine Lo.cells ?_ | refine Lo.agg _ ?_ | refine Lo.ref _ ?_ | refine Lo.tup _ ?_ | refine Lo.fn _ _ ?_ | refine Lo.sl _ ?_ | intro _)), .ptr 1 0 4 0 0 rfl, .ptr 2 1 4 0 0 rfl, .lo _ (.s _), trivial⟩) (Nat.zero_le _) (fun k hk => ?_)
 refine zaf (zaf (zab (zac rfl (zbm zd0 rfl (zbu ta22 rfl (zad rfl rfl (zaa rfl) (zak rfl ts22 rfl) (zad rfl rfl (zaa rfl) (zaz rfl rfl rfl) (zae (zah ?_)))))))))
 refine zhy rfl (fun h => ?_) (fun h => ?_)
 ·
  have hlt : k < n.trans.length := by omega
  obtain ⟨_, _, hil, hol⟩ := zj4 hval hlt
  refine zaq (zaf (zaw (zaf (zab (zbm zd0 rfl (zbu ta22 rfl (zac rfl (zad rfl rfl (zaa rfl) (zap rfl ts22 ti65 rfl rfl rfl (zch hlt) rfl) (zbc ta65 ti65 rfl (zad rfl rfl (zaa rfl) (zbw rfl ti65 rfl rfl) (zbz rfl (zaa rfl) (za0 rfl ti65 rfl rfl rfl rfl rfl rfl (by decide) (by decide)) (zae (zah ?_)))))))))))))
  refine zb1 hmix ?_
  refine zlu rfl (by kernel_rfl) ?_
  refine zyc ?_
  simp only [List.dropLast]
  refine zfm rfl rfl (zaa rfl) (fun _ => (zcs rfl zd0 (by decide) rfl)) ?_
  refine znt rfl rfl (zaa rfl) (zao rfl ta22 rfl rfl rfl rfl rfl) ?_
  refine zfm rfl rfl (zaa rfl) (fun _ => (zcs rfl zz9 (by decide) rfl)) ?_
  refine znt rfl rfl (zaa rfl) (zao rfl ta9 rfl rfl rfl rfl rfl) ?_
  refine zfm rfl rfl (zaa rfl) (fun _ => (zlo rfl rfl ts48 ti3)) ?_
  refine zfm rfl rfl (zaa rfl) (fun _ => (zcs rfl zfj (by decide) rfl)) ?_
  refine znt rfl rfl (zaa rfl) (zao rfl ta48 rfl rfl rfl rfl rfl) ?_
  refine zfm rfl rfl (zaa rfl) (fun _ => (zi0 rfl ts48 ti3 rfl (by decide) rfl (.inl rfl) rfl (by first | exact .own _ _ _ rfl rfl _ (by first | rfl | simp) | exact .emp | exact .nil | exact .sl _ (by first | simp; done | intro e he; simp at he; obtain ⟨_, _, rfl⟩ := he; rfl)) (by first | omega | (simp; omega) | (unfold maxLen; simp; omega)) (by first | omega | (simp; omega) | (unfold maxLen; simp; omega)) (zb9 fun _ => .s _) (zb9 fun _ => .s _))) ?_
  refine zfm rfl rfl (zaa rfl) (fun _ => (zlo rfl rfl ts48 ti3)) ?_
  refine zfm rfl rfl (zaa rfl) (fun _ => (zcs rfl zfr (by decide) rfl)) ?_
  refine znt rfl rfl (zaa rfl) (zao rfl ta48 rfl rfl rfl rfl rfl) ?_
  refine zfm rfl rfl (zaa rfl) (fun _ => (zi0 rfl ts48 ti3 rfl (by decide) rfl (.inl rfl) rfl (by first | exact .own _ _ _ rfl rfl _ (by first | rfl | simp) | exact .emp | exact .nil | exact .sl _ (by first | simp; done | intro e he; simp at he; obtain ⟨_, _, rfl⟩ := he; rfl)) (by first | omega | (simp; omega) | (unfold maxLen; simp; omega)) (by first | omega | (simp; omega) | (unfold maxLen; simp; omega)) (zb9 fun _ => .s _) (zb9 fun _ => .s _))) ?_
  refine zfm rfl rfl (zaa rfl) (fun _ => (zbr rfl ti65 tp65 rfl rfl)) ?_
  refine zfm rfl rfl (zaa rfl) (fun _ => (zgc rfl ts22 ti65 rfl rfl (by decide) (by decide) rfl rfl rfl (by repeat' (first | exact Lo.s _ | exact zbb | refine zaj ?_ ?_ | refine zb9 ?_ | refine Lo.agg _ ?_ | refine Lo.sl _ ?_ | intro _)))) ?_
  refine gx_eff rfl rfl (zaa rfl) (zc6 rfl ts22 ti65 rfl (by decide) rfl rfl (by first | rfl | (simp; done) | (simp; omega)) rfl (by first | exact .own _ _ _ rfl rfl _ (by first | rfl | simp) | exact .emp | exact .nil | exact .sl _ (by first | simp; done | intro e he; simp at he; obtain ⟨_, _, rfl⟩ := he; rfl)) (by first | omega | (simp; omega) | (unfold maxLen; simp; omega)) (by first | omega | (simp; omega) | (unfold maxLen; simp; omega))) ?_
  refine zfm rfl rfl (zaa rfl) (fun _ => (zcs rfl zd0 (by decide) rfl)) ?_
  refine gx_nil (by kernel_rfl) ?_
  refine zah (zbz rfl (zaa rfl) (za0 rfl ti22 rfl rfl rfl rfl rfl rfl (by decide) (by decide)) (zae (zb8 (zah (zab (zac rfl (zad rfl rfl (zaa rfl) (za9 rfl rfl rfl (IntWalk.i64_in _ (by omega))) (zac rfl (zae (zah ?_))))))))))
  refine ⟨k + 1, by omega, by omega, ?_⟩
  exact zed [0, 1, 4] (by decide) ⟨⟨_, rfl, .rowE (by repeat' (first | exact Lo.s _ | exact znn | refine zno ?_ ?_ | refine zhc ?_ | refine Lo.cells ?_ | refine Lo.agg _ ?_ | exact zbb | refine zaj ?_ ?_ | intro _)) rfl⟩, ⟨_, rfl, znj (.cons (.lo _ (.s _)) (.cons (.own _ _ _ _ _ rfl (by simp)) (.cons (.lo _ (.s _)) (.cons (.lo _ (.s _)) .nil))))⟩, ⟨_, rfl, .rowE (by repeat' (first | exact Lo.s _ | exact zbb | exact znn | refine zaj ?_ ?_ | refine zno ?_ ?_ | refine zb9 ?_ | refine zhc ?_ | refine Lo.cells ?_ | refine Lo.agg _ ?_ | refine Lo.sl _ ?_ | intro _)) (by rw [List.range_succ, List.map_append]; rfl)⟩, trivial⟩ ⟨.lo _ (by repeat' (first | exact Lo.s _ | exact zbb | refine zaj ?_ ?_ | refine zb9 ?_ | refine Lo.cells ?_ | refine Lo.agg _ ?_ | refine Lo.ref _ ?_ | refine Lo.tup _ ?_ | refine Lo.fn _ _ ?_ | refine Lo.sl _ ?_ | intro _)), .ptr 0 0 4 0 0 rfl, .ptr 1 1 4 0 0 rfl, .lo _ (.s _), trivial⟩
 ·
  have hkk : k = n.trans.length := by omega
  subst hkk
  have hE : ((List.range n.trans.length).map fun i => eT (revT (gti n.trans i))) = (n.trans.map revT).map eT := by
   apply List.ext_getElem
   ·
    simp
   ·
    intro i h1 h2
    simp at h1
    simp only [List.getElem_map, List.getElem_range]
    congr 2
    unfold gti
    rw [List.getElem?_eq_getElem h1]; rfl
  (refine zcg ?_; repeat (first | refine zdn ?_ | refine zb7 ?_ | refine zbs rfl ?_ | refine zb8 ?_ | refine zah ?_ | refine zaf ?_ | refine zaq ?_ | refine zaw ?_))
  refine zab (zad rfl rfl (zaa rfl) (zb0 rfl ta24 ti24 rfl rfl rfl rfl rfl) (zbz rfl (zaa rfl) (za0 rfl ti24 rfl rfl rfl rfl rfl rfl (by decide) (by decide)) (zae (zah ?_))))
  (refine zav ?_; repeat (first | refine za6 ?_ | refine za7 ?_))
  have hR : eN (revN n) = .agg [eI n.places, .sl ((List.range n.trans.length).map fun i => eT (revT (gti n.trans i))), eI n.sink, eI n.source] := by rw [hE]; rfl
  rw [hR]
  apply z1z (.inr rfl) (cs1 := [eI n.places, .own 2 3 n.trans.length, eI n.sink, eI n.source])
  ·
   exact ta24
  ·
   exact ti24
  ·
   exact rfl
  ·
   exact rfl
  ·
   exact rfl
  ·
   exact rfl
  ·
   exact rfl
  ·
   exact rfl
  ·
   exact .cons (.refl _) (.cons (.own _ _ _ _ _ rfl rfl (by simp)) (.cons (.refl _) (.cons (.refl _) .nil)))
end Go.Proofs.YtohmldibkojkfaaGreatDoor.Aw
end
section
namespace Go.Proofs.YtohmldibkojkfaaGreatDoor.Aw
open Go.RowKit Go.Proofs
variable {P : Program} [IsP P]
def addL (L : List Int) : List Int → List Int
 | [] => L
 | q :: l => addL (if q ∈ L then L else L ++ [q]) l
theorem zp9 : ∀ (l : List Int) (L : List Int) (q : Int), addL L (l ++ [q]) = if q ∈ addL L l then addL L l else addL L l ++ [q]
 | [], L, q => rfl
 | x :: l, L, q => zp9 l _ q
def addT (n : Net) (x : Int) (L : List Int) (k : Nat) : List Int := if x ∈ (gti n.trans k).inn then addL L (gti n.trans k).out else L
def rndW (n : Net) (x : Int) (L : List Int) : Nat → List Int
 | 0 => L
 | k + 1 => addT n x (rndW n x L k) k
def rchW (n : Net) : Nat → Nat → List Int → List Int
 | 0, _, L => L
 | f + 1, i, L => if i < L.length then rchW n f (i + 1) (rndW n (gti L i) L n.trans.length) else L
def zjl (n : Net) (s : Int) : List Int := rchW n 41 0 [s]
structure LI (n : Net) (s : Int) (L : List Int) : Prop where
 nd : L.Nodup
 rng : ∀ p ∈ L, 0 ≤ p ∧ p < n.places
 st : s ∈ L
 rch : ∀ p ∈ L, Rch n false s p
theorem zo6 {α : Type} [BEq α] [LawfulBEq α] : ∀ {l m : List α}, l.Nodup → l ⊆ m → l.length ≤ m.length
 | [], m, _, _ => Nat.zero_le _
 | a :: l, m, h, hs => by
  rw [List.nodup_cons] at h
  have ha : a ∈ m := hs (List.mem_cons_self ..)
  have h1 : l ⊆ m.erase a := fun x hx => by
   have hne : x ≠ a := fun e => h.1 (e ▸ hx)
   exact (List.mem_erase_of_ne hne).2 (hs (List.mem_cons_of_mem _ hx))
  have h2 := zo6 h.2 h1
  rw [List.length_erase_of_mem ha] at h2
  have := List.length_pos_of_mem ha
  simp only [List.length_cons]
  omega
theorem zwd {L : List Int} {m : Int} (h : L.Nodup) (hr : ∀ p ∈ L, 0 ≤ p ∧ p < m) : (L.length : Int) ≤ m ∨ L = [] := by
 by_cases h0 : L = []
 ·
  exact .inr h0
 ·
  left
  have hm : 0 ≤ m := by
   obtain ⟨x, hx⟩ := List.exists_mem_of_ne_nil L h0
   have := hr x hx; omega
  have h1 : (L.map Int.toNat).Nodup := by
   rw [List.nodup_iff_pairwise_ne] at h ⊢
   rw [List.pairwise_map]
   refine List.Pairwise.imp_of_mem ?_ h
   intro a b ha hb hab e
   have := hr a ha; have := hr b hb
   omega
  have h2 : (L.map Int.toNat) ⊆ List.range m.toNat := by
   intro x hx
   obtain ⟨p, hp, rfl⟩ := List.mem_map.1 hx
   have := hr p hp
   simp; omega
  have h3 := zo6 h1 h2
  simp at h3
  omega
theorem LI.len {n : Net} {s : Int} {L : List Int} (h : LI n s L) : (L.length : Int) ≤ n.places ∧ 0 < L.length := by
 have h0 : 0 < L.length := List.length_pos_of_mem h.st
 rcases zwd h.nd h.rng with h1 | h1
 ·
  exact ⟨h1, h0⟩
 ·
  rw [h1] at h0; simp at h0
theorem LI.add1 {n : Net} {s : Int} {L : List Int} (h : LI n s L) {q : Int} (h1 : 0 ≤ q ∧ q < n.places) (h2 : Rch n false s q) : LI n s (if q ∈ L then L else L ++ [q]) := by
 by_cases hq : q ∈ L
 ·
  rw [if_pos hq]; exact h
 ·
  rw [if_neg hq]
  refine ⟨?_, fun p hp => ?_, by simp [h.st], fun p hp => ?_⟩
  ·
   rw [List.nodup_append]
   refine ⟨h.nd, by simp, fun a ha b hb => ?_⟩
   simp at hb
   subst hb
   intro e; subst e; exact hq ha
  ·
   simp only [List.mem_append, List.mem_singleton] at hp
   rcases hp with hp | rfl
   ·
    exact h.rng p hp
   ·
    exact h1
  ·
   simp only [List.mem_append, List.mem_singleton] at hp
   rcases hp with hp | rfl
   ·
    exact h.rch p hp
   ·
    exact h2
theorem LI.addL {n : Net} {s : Int} : ∀ {l : List Int} {L : List Int}, LI n s L → (∀ q ∈ l, (0 ≤ q ∧ q < n.places) ∧ Rch n false s q) → LI n s (addL L l)
 | [], L, h, _ => h
 | q :: l, L, h, hl => LI.addL (l := l) (h.add1 (hl q (List.mem_cons_self ..)).1 (hl q (List.mem_cons_self ..)).2) (fun u hu => hl u (List.mem_cons_of_mem _ hu))
theorem LI.addT {n : Net} {s : Int} {L : List Int} (h : LI n s L) (hp : Plc n) {x : Int} (hx : Rch n false s x) {k : Nat} (hk : k < n.trans.length) : LI n s (addT n x L k) := by
 unfold Aw.addT
 split
 ·
  rename_i hin
  exact h.addL (fun q hq => ⟨hp.out hk false q hq, .step hk hin hx hq⟩)
 ·
  exact h
theorem LI.rnd {n : Net} {s : Int} {L : List Int} (h : LI n s L) (hp : Plc n) {x : Int} (hx : Rch n false s x) : ∀ {k : Nat}, k ≤ n.trans.length → LI n s (rndW n x L k)
 | 0, _ => h
 | k + 1, hk => (h.rnd hp hx (by omega)).addT hp hx hk
theorem zkj : ∀ (l : List Int) (L : List Int), ∃ t, addL L l = L ++ t ∧ ∀ q ∈ l, q ∈ addL L l
 | [], L => ⟨[], by simp [addL], by simp⟩
 | q :: l, L => by
  obtain ⟨t, h1, h2⟩ := zkj l (if q ∈ L then L else L ++ [q])
  have hq : q ∈ (if q ∈ L then L else L ++ [q]) := by split <;> simp_all
  refine ⟨(if q ∈ L then [] else [q]) ++ t, ?_, fun u hu => ?_⟩
  ·
   rw [addL, h1]; split <;> simp
  ·
   rw [addL]
   rcases List.mem_cons.1 hu with rfl | hu
   ·
    rw [h1]; exact List.mem_append_left _ hq
   ·
    exact h2 u hu
theorem zj6 (n : Net) (x : Int) (L : List Int) : ∀ k, ∃ t, rndW n x L k = L ++ t
 | 0 => ⟨[], by simp [rndW]⟩
 | k + 1 => by
  obtain ⟨t, h⟩ := zj6 n x L k
  rw [rndW, addT, h]
  split
  ·
   obtain ⟨u, h2, _⟩ := zkj (gti n.trans k).out (L ++ t)
   exact ⟨t ++ u, by rw [h2, List.append_assoc]⟩
  ·
   exact ⟨t, rfl⟩
theorem zr3 (n : Net) (x : Int) (L : List Int) : ∀ (k j : Nat), j < k → x ∈ (gti n.trans j).inn → ∀ q ∈ (gti n.trans j).out, q ∈ rndW n x L k
 | 0, j, h, _, _, _ => by omega
 | k + 1, j, h, hx, q, hq => by
  rw [rndW]
  by_cases hj : j = k
  ·
   subst hj
   rw [addT, if_pos hx]
   exact (zkj _ _).choose_spec.2 q hq
  ·
   have h1 := zr3 n x L k j (by omega) hx q hq
   unfold addT
   split
   ·
    obtain ⟨t, h2, _⟩ := zkj (gti n.trans k).out (rndW n x L k)
    rw [h2]; exact List.mem_append_left _ h1
   ·
    exact h1
def LC (n : Net) (L : List Int) (i : Nat) : Prop := ∀ j, j < i → ∀ k, k < n.trans.length → gti L j ∈ (gti n.trans k).inn → ∀ q ∈ (gti n.trans k).out, q ∈ L
theorem zw9 {α : Type} [Inhabited α] {L t : List α} {j : Nat} (h : j < L.length) : gti (L ++ t) j = gti L j := by unfold gti; rw [List.getElem?_append_left h]
theorem LC.rnd {n : Net} {L : List Int} {i : Nat} (h : LC n L i) (hi : i < L.length) : LC n (rndW n (gti L i) L n.trans.length) (i + 1) := by
 intro j hj k hk hin q hq
 obtain ⟨t, ht⟩ := zj6 n (gti L i) L n.trans.length
 have hjl : j < L.length := by omega
 have e : gti (rndW n (gti L i) L n.trans.length) j = gti L j := by rw [ht, zw9 hjl]
 rw [e] at hin
 by_cases hji : j = i
 ·
  subst hji
  exact zr3 n _ L n.trans.length k hk hin q hq
 ·
  rw [ht]
  exact List.mem_append_left _ (h j (by omega) k hk hin q hq)
theorem LC.all {n : Net} {s : Int} {L : List Int} (h : LI n s L) (hc : LC n L L.length) (p : Int) : p ∈ L ↔ Rch n false s p := by
 refine ⟨h.rch p, fun hr => ?_⟩
 induction hr with
 | start => exact h.st
 | @step k p q hk hin _ hq ih =>
  obtain ⟨j, hj, rfl⟩ := List.getElem_of_mem ih
  have e : gti L j = L[j] := by unfold gti; rw [List.getElem?_eq_getElem hj]; rfl
  exact hc j hj k hk (by rw [e]; exact hin) q hq
theorem zou {n : Net} {s : Int} (hp : Plc n) (h40 : n.places ≤ 40) : ∀ (f i : Nat) (L : List Int), 41 ≤ f + i → i ≤ L.length → LI n s L → LC n L i → LI n s (rchW n f i L) ∧ LC n (rchW n f i L) (rchW n f i L).length
 | 0, i, L, hf, hi, h, hc => by have := h.len; omega
 | f + 1, i, L, hf, hi, h, hc => by
  rw [rchW]
  by_cases hlt : i < L.length
  ·
   rw [if_pos hlt]
   obtain ⟨t, ht⟩ := zj6 n (gti L i) L n.trans.length
   exact zou hp h40 f (i + 1) _ (by omega) (by rw [ht]; simp; omega) (h.rnd hp (h.rch _ (gti_mem hlt)) (Nat.le_refl _)) (hc.rnd hlt)
  ·
   rw [if_neg hlt]
   obtain rfl : i = L.length := by omega
   exact ⟨h, hc⟩
theorem LI.init {n : Net} {s : Int} (h : 0 ≤ s ∧ s < n.places) : LI n s [s] := ⟨by simp, fun p hp => by simp at hp; subst hp; exact h, by simp, fun p hp => by simp at hp; subst hp; exact .start⟩
theorem zmg {n : Net} {s : Int} (hv : zb2 n = true) (h : 0 ≤ s ∧ s < n.places) (p : Int) : p ∈ zjl n s ↔ Rch n false s p := by
 have h1 := zou (Plc.of hv) (zbh hv).2.1 41 0 [s] (by omega) (by omega) (LI.init h) (fun j hj => by omega)
 exact LC.all h1.1 h1.2 p
end Go.Proofs.YtohmldibkojkfaaGreatDoor.Aw
end
section
namespace Go.Proofs.YtohmldibkojkfaaGreatDoor.Aw
open Go.RowKit Go.Proofs
variable {P : Program} [IsP P]
theorem zi9 {α : Type} [Inhabited α] {l : List α} {x : α} {k : Nat} (hlt : k < l.length) (h : x ∉ l.take k) (hne : gti l k ≠ x) : x ∉ l.take (k + 1) := by
 rw [List.take_add_one, zbp hlt]
 simp only [List.mem_append, Option.toList_some, List.mem_singleton, not_or]
 exact ⟨h, fun e => hne e.symm⟩
theorem zlv (l : List Int) (x : Int) : Pure P 46 [eL eI l, eI x] (eB (decide (x ∈ l))) := by
 refine zcy (by rw [IsP.eq (P := P)]; exact Tryz.func46) rfl rfl rfl rfl rfl (by repeat' (first | exact Lo.s _ | exact zbb | refine zaj ?_ ?_ | refine zb9 ?_ | refine Lo.agg _ ?_ | refine Lo.sl _ ?_ | intro _)) (.s _) (by simp only [argF]; rfl) ?_
 refine zaf (zab (zac rfl (zae (zaf (zaf ?_)))))
 refine zju (d := 0) rfl (fun ha => ?_)
 unfold maxLen at ha
 refine zab (zac rfl (zae (zah (zaw ?_))))
 refine zcb (S := Nat) (fun k => [(0, eL eI l), (1, eI x), (5, eI k)]) (fun _ => []) (fun k => k ≤ l.length ∧ x ∉ l.take k) (fun k => l.length - k) 0 (zbx _ ⟨rfl, rfl, rfl, trivial⟩) ⟨by omega, by simp⟩ (fun k hk => ?_)
 refine zaf (zaf (zab (zac rfl (zac rfl (zad rfl rfl (zaa rfl) (zak rfl ts48 rfl) (zad rfl rfl (zaa rfl) (zaz rfl rfl rfl) (zae (zah ?_))))))))
 refine zhy rfl (fun h => ?_) (fun h => ?_)
 ·
  have hlt : k < l.length := by omega
  refine zaq (zaf (zaw (zaf (zab (zac rfl (zac rfl (zad rfl rfl (zaa rfl) (zap rfl ts48 ti3 rfl rfl rfl (zch hlt) rfl) (zbu ta3 rfl (zac rfl (zad rfl rfl (zaa rfl) (zb5 rfl rfl rfl) (zae (zah ?_))))))))))))
  refine zhy rfl (fun h => ?_) (fun h => ?_)
  ·
   refine zaf (zab (zac rfl (zae (zah ?_))))
   (refine zav ?_; repeat (first | refine za6 ?_ | refine za7 ?_))
   refine zbq (.inr rfl) rfl (congrArg eB ?_)
   have : x ∈ l := h ▸ gti_mem hlt
   simp [this]
  ·
   refine zaq (zb8 (zah (zab (zac rfl (zad rfl rfl (zaa rfl) (za9 rfl rfl rfl (IntWalk.i64_in _ (by omega))) (zac rfl (zae (zah ?_))))))))
   exact ⟨k + 1, ⟨by omega, zi9 hlt hk.2 h⟩, by omega, zbx _ ⟨rfl, rfl, rfl, trivial⟩⟩
 ·
  (refine zcg ?_; repeat (first | refine zdn ?_ | refine zb7 ?_ | refine zbs rfl ?_ | refine zb8 ?_ | refine zah ?_ | refine zaf ?_ | refine zaq ?_ | refine zaw ?_))
  refine zab (zac rfl (zae (zah ?_)))
  (refine zav ?_; repeat (first | refine za6 ?_ | refine za7 ?_))
  refine zbq (.inr rfl) rfl (congrArg eB ?_)
  have h2 := hk.2
  rw [List.take_of_length_le (by omega)] at h2
  simp [h2]
theorem zu2 (a b : List Int) : Pure P 47 [eL eI a, eL eI b] (eB (a.any fun y => decide (y ∈ b))) := by
 refine zcy (by rw [IsP.eq (P := P)]; exact Tryz.func47) rfl rfl rfl rfl rfl (by repeat' (first | exact Lo.s _ | exact zbb | refine zaj ?_ ?_ | refine zb9 ?_ | refine Lo.agg _ ?_ | refine Lo.sl _ ?_ | intro _)) (.s _) (by simp only [argF]; rfl) ?_
 refine zaf (zab (zac rfl (zae (zaf (zaf ?_)))))
 refine zju (d := 0) rfl (fun ha => ?_)
 unfold maxLen at ha
 refine zab (zac rfl (zae (zah (zaw ?_))))
 refine zcb (S := Nat) (fun k => [(0, eL eI a), (1, eL eI b), (5, eI k)]) (fun _ => []) (fun k => k ≤ a.length ∧ ∀ y ∈ a.take k, y ∉ b) (fun k => a.length - k) 0 (zbx _ ⟨rfl, rfl, rfl, trivial⟩) ⟨by omega, by simp⟩ (fun k hk => ?_)
 refine zaf (zaf (zab (zac rfl (zac rfl (zad rfl rfl (zaa rfl) (zak rfl ts48 rfl) (zad rfl rfl (zaa rfl) (zaz rfl rfl rfl) (zae (zah ?_))))))))
 refine zhy rfl (fun h => ?_) (fun h => ?_)
 ·
  have hlt : k < a.length := by omega
  refine zaq (zaf (zaw (zaf (zab (zac rfl (zac rfl (zac rfl (zad rfl rfl (zaa rfl) (zap rfl ts48 ti3 rfl rfl rfl (zch hlt) rfl) (zbu ta3 rfl (zad rfl rfl (zaa rfl) (zai rfl rfl (zlv b (gti a k)) (zag rfl (zag rfl zam))) (zae (zah ?_))))))))))))
  refine zhy rfl (fun h => ?_) (fun h => ?_)
  ·
   refine zaf (zab (zac rfl (zae (zah ?_))))
   (refine zav ?_; repeat (first | refine za6 ?_ | refine za7 ?_))
   refine zbq (.inr rfl) rfl (congrArg eB ?_)
   symm
   exact List.any_eq_true.2 ⟨_, gti_mem hlt, by simpa using h⟩
  ·
   refine zaq (zb8 (zah (zab (zac rfl (zad rfl rfl (zaa rfl) (za9 rfl rfl rfl (IntWalk.i64_in _ (by omega))) (zac rfl (zae (zah ?_))))))))
   refine ⟨k + 1, ⟨by omega, fun y hy => ?_⟩, by omega, zbx _ ⟨rfl, rfl, rfl, trivial⟩⟩
   rw [List.take_add_one, zbp hlt] at hy
   simp only [List.mem_append, Option.toList_some, List.mem_singleton] at hy
   rcases hy with hy | rfl
   ·
    exact hk.2 y hy
   ·
    exact h
 ·
  (refine zcg ?_; repeat (first | refine zdn ?_ | refine zb7 ?_ | refine zbs rfl ?_ | refine zb8 ?_ | refine zah ?_ | refine zaf ?_ | refine zaq ?_ | refine zaw ?_))
  refine zab (zac rfl (zae (zah ?_)))
  (refine zav ?_; repeat (first | refine za6 ?_ | refine za7 ?_))
  refine zbq (.inr rfl) rfl (congrArg eB ?_)
  have h2 := hk.2
  rw [List.take_of_length_le (by omega)] at h2
  symm
  exact List.any_eq_false.2 (fun y hy => by simpa using h2 y hy)
set_option maxHeartbeats 4000000 in
theorem zr6 (n : Net) (s : Int) (hval : zb2 n = true) (hs : 0 ≤ s ∧ s < n.places) : Pure P 44 [eN n, eI s] (eL eI (zjl n s)) := by
 have hpl := zbh hval
 have hplc := Plc.of hval
 refine zcy (by rw [IsP.eq (P := P)]; exact Tryz.func44) rfl rfl rfl rfl rfl (by repeat' (first | exact Lo.s _ | exact zbb | refine zaj ?_ ?_ | refine zb9 ?_ | refine Lo.agg _ ?_ | refine Lo.sl _ ?_ | intro _)) (zb9 fun _ => .s _) (by simp only [argF]; rfl) ?_
 refine zaf (zab (zad rfl rfl (zaa rfl) (zbg rfl rfl rfl rfl) ?_))
 refine zar (zbl (id := 0) rfl) (zar (zb3 (d := 2) rfl rfl rfl) ?_)
 refine zac rfl (zae (zaf (zab (zac rfl (zad rfl rfl (zaa rfl) (zwx rfl ts48 ti3 rfl rfl rfl rfl) (zac rfl (zae (zaf (zaf (zab (zac rfl (zae (zah (zaw ?_))))))))))))))
 refine zcb (S := List Int × Nat) (fun q => [(2, .ref (eN n).cells), (5, .own 0 1 q.1.length), (6, eI q.2)]) (fun q => [.row 1 (q.1.map eI)]) (fun q => q.2 ≤ q.1.length ∧ LI n s q.1 ∧ zjl n s = rchW n (41 - q.2) q.2 q.1) (fun q => 41 - q.2) ([s], 0)
  (zed [1] (by decide) ⟨⟨_, rfl, .rowE (zhc fun _ => (Lo.s _).cells) rfl⟩, trivial⟩ ⟨.lo _ (by repeat' (first | exact Lo.s _ | exact zbb | refine zaj ?_ ?_ | refine zb9 ?_ | refine Lo.cells ?_ | refine Lo.agg _ ?_ | refine Lo.ref _ ?_ | refine Lo.tup _ ?_ | refine Lo.fn _ _ ?_ | refine Lo.sl _ ?_ | intro _)), .own 1 0 1 _ _ rfl rfl, .lo _ (.s _), trivial⟩) ⟨by simp, LI.init hs, rfl⟩ ?_
 rintro ⟨L, i⟩ ⟨hil, HL, HE⟩
 dsimp only at hil HL HE ⊢
 have hll := HL.len
 refine zaf (zaf (zab (zac rfl (zac rfl (zad rfl rfl (zaa rfl) (zdg rfl ts48 rfl) (zad rfl rfl (zaa rfl) (zaz rfl rfl rfl) (zae (zah ?_))))))))
 refine zhy rfl (fun h => ?_) (fun h => ?_)
 ·
  have hlt : i < L.length := by omega
  have HE1 : zjl n s = rchW n (41 - (i + 1)) (i + 1) (rndW n (gti L i) L n.trans.length) := by
   rw [HE, show 41 - i = (41 - (i + 1)) + 1 by omega, rchW, if_pos hlt]
  have hxr := HL.rch _ (gti_mem hlt)
  obtain ⟨x, hx⟩ : ∃ x, gti L i = x := ⟨_, rfl⟩
  rw [hx] at HE1 hxr
  refine zaq (zaf (zaw (zaf (zab (zac rfl (zae (zah (zaw ?_))))))))
  refine zcb (S := Nat) (fun k => [(2, .ref (eN n).cells), (5, .own 0 1 (rndW n x L k).length), (6, eI i), (7, eI k)]) (fun k => [.row 1 ((rndW n x L k).map eI)]) (fun k => k ≤ n.trans.length) (fun k => n.trans.length - k) 0 (zbx _ ⟨rfl, rfl, rfl, rfl, trivial⟩) (Nat.zero_le _) (fun k hk => ?_)
  have HK := HL.rnd hplc hxr hk
  have hkl := HK.len
  have hki : gti (rndW n x L k) i = x ∧ i < (rndW n x L k).length := by
   obtain ⟨t, ht⟩ := zj6 n x L k
   rw [ht, zw9 hlt, hx]
   exact ⟨rfl, by simp; omega⟩
  have HS : rndW n x L (k + 1) = addT n x (rndW n x L k) k := rfl
  have HX : k = n.trans.length → zjl n s = rchW n (41 - (i + 1)) (i + 1) (rndW n x L k) := fun h => by rw [HE1, h]
  generalize rndW n x L k = K at *
  refine zaf (zaf (zab (zac rfl (zbm zd0 rfl (zbu ta22 rfl (zad rfl rfl (zaa rfl) (zak rfl ts22 rfl) (zad rfl rfl (zaa rfl) (zaz rfl rfl rfl) (zae (zah ?_)))))))))
  refine zhy rfl (fun h => ?_) (fun h => ?_)
  ·
   have hlk : k < n.trans.length := by omega
   obtain ⟨_, _, hil2, hol2⟩ := zj4 hval hlk
   refine zaq (zaf (zaw (zaf (zaf ?_))))
   refine zb1 hmix ?_
   refine za5 (by kernel_rfl) ?_
   refine qx_f zd0 rfl (qx_l ta22 rfl (qx_s rfl (za2 rfl rfl (zaa rfl) (zap rfl ts22 ti65 rfl rfl rfl (zch hlk) rfl) (qx_f zfr rfl (qx_l ta48 rfl (qx_s rfl (qx_s rfl (za2 rfl rfl (zaa rfl) (zas rfl ts48 ti3 rfl rfl rfl hki.2) (za2 rfl rfl (zaa rfl) (zao rfl ta3 rfl rfl rfl (zch hki.2) rfl) (za2 rfl rfl (zaa rfl) (zai rfl rfl (zlv (gti n.trans k).inn (gti K i)) (zag rfl (zag rfl zam))) (za2 rfl rfl (zaa rfl) (zpr rfl rfl) ?_)))))))))))
   refine zck ?_
   refine zah ?_
   rw [hki.1]
   refine zhy rfl (fun h0 => ?_) (fun h0 => ?_)
   ·
    (refine zcg ?_; repeat (first | refine zdn ?_ | refine zb7 ?_ | refine zbs rfl ?_ | refine zb8 ?_ | refine zah ?_ | refine zaf ?_ | refine zaq ?_ | refine zaw ?_))
    refine zab (zac rfl (zad rfl rfl (zaa rfl) (za9 rfl rfl rfl (IntWalk.i64_in _ (by omega))) (zac rfl (zae (zah ?_)))))
    have hS : rndW n x L (k + 1) = K := by rw [HS]; unfold addT; rw [if_neg h0]
    refine ⟨k + 1, by omega, by omega, ?_⟩
    rw [hS]
    exact zbx _ ⟨rfl, rfl, rfl, rfl, trivial⟩
   ·
    have hS : rndW n x L (k + 1) = addL K (gti n.trans k).out := by rw [HS]; unfold addT; rw [if_pos (by simpa using h0)]
    have h0' : x ∈ (gti n.trans k).inn := by simpa using h0
    have hout : ∀ q ∈ (gti n.trans k).out, (0 ≤ q ∧ q < n.places) ∧ Rch n false s q := fun q hq => ⟨hplc.out hlk false q hq, .step hlk h0' hxr hq⟩
    refine zaq (zaf (zab (zac rfl (zae (zah (zaw ?_))))))
    refine zcb (S := Nat) (fun j => [(2, .ref (eN n).cells), (5, .own 0 1 (addL K ((gti n.trans k).out.take j)).length), (6, eI i), (7, eI k), (8, eI j)]) (fun j => [.row 1 ((addL K ((gti n.trans k).out.take j)).map eI)]) (fun j => j ≤ (gti n.trans k).out.length) (fun j => (gti n.trans k).out.length - j) 0 (zbx _ ⟨rfl, rfl, rfl, rfl, rfl, trivial⟩) (Nat.zero_le _) (fun j hj => ?_)
    have HJ : LI n s (addL K ((gti n.trans k).out.take j)) := HK.addL (fun q hq => hout q (List.mem_of_mem_take hq))
    have hjl := HJ.len
    have HSJ : j < (gti n.trans k).out.length → addL K ((gti n.trans k).out.take (j + 1)) = if gti (gti n.trans k).out j ∈ addL K ((gti n.trans k).out.take j) then addL K ((gti n.trans k).out.take j) else addL K ((gti n.trans k).out.take j) ++ [gti (gti n.trans k).out j] := fun h => by rw [take_snoc' h, zp9]
    have HXJ : j = (gti n.trans k).out.length → rndW n x L (k + 1) = addL K ((gti n.trans k).out.take j) := fun h => by rw [hS, h, List.take_length]
    generalize addL K ((gti n.trans k).out.take j) = J at *
    refine zaf (zaf (zab (zac rfl (zbm zd0 rfl (zbu ta22 rfl (zac rfl (zad rfl rfl (zaa rfl) (zap rfl ts22 ti65 rfl rfl rfl (zch hlk) rfl) (zbm zfj rfl (zbu ta48 rfl (zad rfl rfl (zaa rfl) (zak rfl ts48 rfl) (zad rfl rfl (zaa rfl) (zaz rfl rfl rfl) (zae (zah ?_)))))))))))))
    refine zhy rfl (fun h => ?_) (fun h => ?_)
    ·
     have hlj : j < (gti n.trans k).out.length := by omega
     have HSJ2 := HSJ hlj
     refine zaq (zaf (zaw (zaf (zab (zac rfl (zbm zd0 rfl (zbu ta22 rfl (zac rfl (zad rfl rfl (zaa rfl) (zap rfl ts22 ti65 rfl rfl rfl (zch hlk) rfl) (zbm zfj rfl (zbu ta48 rfl (zac rfl (zad rfl rfl (zaa rfl) (zap rfl ts48 ti3 rfl rfl rfl (zch hlj) rfl) (zbu ta3 rfl ?_))))))))))))))
     refine zad rfl rfl (zaa rfl) (zuk rfl rfl (zlv J (gti (gti n.trans k).out j)) (by repeat' (first | exact zgw.nil | refine zgw.cons ?_ ?_ | exact .own _ _ _ _ _ rfl rfl (by first | rfl | simp) | exact .refl _)) (by repeat' (first | exact Flat.s _ | exact zzg | refine zxf ?_ ?_ | refine Flat.agg ?_ | refine Flat.tup ?_))) ?_
     refine zad rfl rfl (zaa rfl) (zpr rfl rfl) (zae (zah ?_))
     refine zhy rfl (fun h1 => ?_) (fun h1 => ?_)
     ·
      refine zab (zac rfl (zbm zd0 rfl (zbu ta22 rfl (zac rfl (zad rfl rfl (zaa rfl) (zap rfl ts22 ti65 rfl rfl rfl (zch hlk) rfl) (zbm zfj rfl (zbu ta48 rfl (zac rfl (zad rfl rfl (zaa rfl) (zap rfl ts48 ti3 rfl rfl rfl (zch hlj) rfl) (zbu ta3 rfl (zad rfl rfl (zaa rfl) (zwx rfl ts48 ti3 rfl rfl rfl rfl) ?_)))))))))))
      refine zad rfl rfl (zaa rfl) (zc6 rfl ts48 ti3 rfl (by decide) rfl rfl (by first | rfl | (simp; done) | (simp; omega)) rfl (by first | exact .own _ _ _ rfl rfl _ (by first | rfl | simp) | exact .emp | exact .nil | exact .sl _ (by first | simp; done | intro e he; simp at he; obtain ⟨_, _, rfl⟩ := he; rfl)) (by first | omega | (simp; omega) | (unfold maxLen; simp; omega)) (by first | omega | (simp; omega) | (unfold maxLen; simp; omega))) ?_
      refine zac rfl (zae (zb8 (zah (zab (zac rfl (zad rfl rfl (zaa rfl) (za9 rfl rfl rfl (IntWalk.i64_in _ (by omega))) (zac rfl (zae (zah ?_)))))))))
      refine ⟨j + 1, by omega, by omega, ?_⟩
      rw [HSJ2, if_neg h1]
      exact zed [2] (by decide) ⟨⟨_, rfl, .rowE (zhc fun _ => (Lo.s _).cells) (by rw [List.map_append]; rfl)⟩, trivial⟩ ⟨.lo _ (by repeat' (first | exact Lo.s _ | exact zbb | refine zaj ?_ ?_ | refine zb9 ?_ | refine Lo.cells ?_ | refine Lo.agg _ ?_ | refine Lo.ref _ ?_ | refine Lo.tup _ ?_ | refine Lo.fn _ _ ?_ | refine Lo.sl _ ?_ | intro _)), .own 2 0 1 _ _ rfl (by simp), .lo _ (.s _), .lo _ (.s _), .lo _ (.s _), trivial⟩
     ·
      refine zaq (zb8 (zah (zab (zac rfl (zad rfl rfl (zaa rfl) (za9 rfl rfl rfl (IntWalk.i64_in _ (by omega))) (zac rfl (zae (zah ?_))))))))
      refine ⟨j + 1, by omega, by omega, ?_⟩
      rw [HSJ2, if_pos (by simpa using h1)]
      exact zbx _ ⟨rfl, rfl, rfl, rfl, rfl, trivial⟩
    ·
     have HXJ2 := HXJ (by omega)
     (refine zcg ?_; repeat (first | refine zdn ?_ | refine zb7 ?_ | refine zbs rfl ?_ | refine zb8 ?_ | refine zah ?_ | refine zaf ?_ | refine zaq ?_ | refine zaw ?_))
     refine zab (zac rfl (zad rfl rfl (zaa rfl) (za9 rfl rfl rfl (IntWalk.i64_in _ (by omega))) (zac rfl (zae (zah ?_)))))
     refine ⟨k + 1, by omega, by omega, ?_⟩
     rw [HXJ2]
     exact zbx _ ⟨rfl, rfl, rfl, rfl, trivial⟩
  ·
   (refine zcg ?_; repeat (first | refine zdn ?_ | refine zb7 ?_ | refine zbs rfl ?_ | refine zb8 ?_ | refine zah ?_ | refine zaf ?_ | refine zaq ?_ | refine zaw ?_))
   refine zab (zac rfl (zad rfl rfl (zaa rfl) (za9 rfl rfl rfl (IntWalk.i64_in _ (by omega))) (zac rfl (zae (zah ?_)))))
   have := HX (by omega)
   exact ⟨(K, i + 1), ⟨by dsimp only; omega, HK, this⟩, by dsimp only; omega, zbx _ ⟨rfl, rfl, rfl, trivial⟩⟩
 ·
  (refine zcg ?_; repeat (first | refine zdn ?_ | refine zb7 ?_ | refine zbs rfl ?_ | refine zb8 ?_ | refine zah ?_ | refine zaf ?_ | refine zaq ?_ | refine zaw ?_))
  have hiL : i = L.length := by omega
  have HE2 : zjl n s = L := by
   rw [HE, show 41 - i = (41 - (i + 1)) + 1 by omega, rchW, if_neg (by omega)]
  refine zab (zac rfl (zac rfl (zae (zah ?_))))
  (refine zav ?_; repeat (first | refine za6 ?_ | refine za7 ?_))
  rw [HE2]
  exact post1f (.inr rfl) rfl (.own _ _ _ _ _ rfl rfl (by simp))
end Go.Proofs.YtohmldibkojkfaaGreatDoor.Aw
end
section
namespace Go.Proofs.YtohmldibkojkfaaGreatDoor.Aw
open Go.RowKit Go.Proofs
variable {P : Program} [IsP P]
theorem zq8 {n : Net} {i : Nat} (h : i < n.trans.length) : gti (revN n).trans i = revT (gti n.trans i) := by
 unfold gti revN
 simp only [List.getElem?_map]
 rw [List.getElem?_eq_getElem h]; rfl
theorem z1u {n : Net} {s p : Int} : Rch (revN n) false s p ↔ Rch n true s p := by
 constructor
 ·
  intro h
  induction h with
  | start => exact .start
  | @step i p q hi hin _ hq ih =>
   have hi2 : i < n.trans.length := by simpa [revN] using hi
   rw [zq8 hi2] at hin hq
   exact .step hi2 hin ih hq
 ·
  intro h
  induction h with
  | start => exact .start
  | @step i p q hi hin _ hq ih =>
   refine .step (i := i) (p := p) (by simpa [revN] using hi) ?_ ih ?_
   ·
    rw [zq8 hi]; exact hin
   ·
    rw [zq8 hi]; exact hq
theorem zl8 {n : Net} : ∀ {l : List Tr}, zeb n l = true → zeb (revN n) (l.map revT) = true
 | [], h => by
  simp only [zeb, List.map_nil, Bool.and_eq_true] at h ⊢
  exact ⟨h.2, h.1⟩
 | t :: l, h => by
  rw [zeb] at h
  cases ht : trB n.places t with
  | false => rw [ht] at h; simp at h
  | true =>
   rw [ht] at h
   have h2 : zeb n l = true := by simpa using h
   have e : trB (revN n).places (revT t) = true := by
    unfold trB at ht ⊢
    simp only [Bool.and_eq_true] at ht ⊢
    exact ⟨⟨ht.1.1, ht.2⟩, ht.1.2⟩
   rw [List.map_cons, zeb, e, if_pos rfl]
   exact zl8 h2
theorem zoh {n : Net} (h : zb2 n = true) : zb2 (revN n) = true := by
 unfold zb2 at h ⊢
 split at h
 ·
  cases h
 ·
  rename_i hc
  rw [if_neg (by simpa [revN] using hc)]
  exact zl8 h
theorem zp5 {n : Net} {back : Bool} {L : List Int} (hm : ∀ p, p ∈ L ↔ Rch n back (zre n back) p) (i : Nat) : ((insB back (gti n.trans i)).any fun y => decide (y ∈ L)) = true ↔ RchT n back (zre n back) i := by
 rw [List.any_eq_true]
 constructor
 ·
  rintro ⟨p, hp, h⟩; exact ⟨p, hp, (hm p).1 (by simpa using h)⟩
 ·
  rintro ⟨p, hp, h⟩; exact ⟨p, hp, by simpa using (hm p).2 h⟩
set_option maxHeartbeats 4000000 in
theorem zfs (n : Net) : Pure P 16 [eN n] (eB (wfB n)) := by
 have hv := zoq (P := P) n
 refine zcy (by rw [IsP.eq (P := P)]; exact Tryz.func16) rfl rfl rfl rfl rfl (by repeat' (first | exact Lo.s _ | exact zbb | refine zaj ?_ ?_ | refine zb9 ?_ | refine Lo.agg _ ?_ | refine Lo.sl _ ?_ | intro _)) (.s _) (by simp only [argF]; rfl) ?_
 refine zaf (zab (zad rfl rfl (zaa rfl) (zbg rfl rfl rfl rfl) ?_))
 refine zar (zbl (id := 0) rfl) (zar (zb3 (d := 1) rfl rfl rfl) ?_)
 refine zac rfl (zae (zaf (zaf ?_)))
 cases hval : zb2 n with
 | false =>
  rw [hval] at hv
  refine zab (zbc ta24 ti24 rfl (zad rfl rfl (zaa rfl) (zai rfl rfl (hv) (zag rfl zam)) (zad rfl rfl (zaa rfl) (zay rfl rfl) (zac rfl (za3 rfl (za3 rfl (za3 rfl (za3 rfl (za3 rfl (zac rfl (zae (zah (zax rfl (zaf (zab (zac rfl (zae (zah ?_))))))))))))))))))
  (refine zav ?_; repeat (first | refine za6 ?_ | refine za7 ?_))
  exact zbq (.inr rfl) rfl (congrArg eB (zdm (fun h => by rw [h.valid] at hval; cases hval)).symm)
 | true =>
  rw [hval] at hv
  have hends := zep hval
  have hpl := zbh hval
  have hplc := Plc.of hval
  refine zab (zbc ta24 ti24 rfl (zad rfl rfl (zaa rfl) (zai rfl rfl (hv) (zag rfl zam)) (zad rfl rfl (zaa rfl) (zay rfl rfl) (zac rfl (zbm zjh rfl (zbu ta3 rfl (zbm zkn rfl (zbu ta3 rfl (zad rfl rfl (zan rfl rfl rfl) (zb5 rfl rfl rfl) (zac rfl (zae (zah ?_))))))))))))
  refine zhy rfl (fun hne => ?_) (fun hne => ?_)
  ·
   refine zaf (zab (zac rfl (zae (zah ?_))))
   (refine zav ?_; repeat (first | refine za6 ?_ | refine za7 ?_))
   exact zbq (.inr rfl) rfl (congrArg eB (zdm (fun h => h.ne hne)).symm)
  ·
   have hf := zr6 (P := P) n n.source hval hends.1
   have hr := ztn (P := P) n hval
   have hb := zr6 (P := P) (revN n) n.sink (zoh hval) hends.2
   have hfm := fun p => zmg hval hends.1 p
   have hbm := fun p => (zmg (zoh hval) hends.2 p).trans z1u
   generalize zjl n n.source = fr at *
   generalize zjl (revN n) n.sink = bk at *
   refine zaq (zaf (zab (zbc ta24 ti24 rfl (zbm zjh rfl (zbu ta3 rfl (zad rfl rfl (zaa rfl) (zai rfl rfl (hf) (zag rfl (zag rfl zam))) (zac rfl (zae (zaf ?_)))))))))
   refine zb1 hmix ?_
   refine za5 (by kernel_rfl) ?_
   refine qx_w ta24 ti24 rfl (za2 rfl rfl (zaa rfl) (zai rfl rfl (hr) (zag rfl zam)) (qx_f zkn rfl (qx_l ta3 rfl (za2 rfl rfl (zaa rfl) (zai rfl rfl (hb) (zag rfl (zag rfl zam))) (qx_s rfl ?_)))))
   refine zck ?_
   refine zaf (zaf (zab (zac rfl (zae (zah (zaw ?_))))))
   refine zcb (S := Nat) (fun k => [(1, .ref (eN n).cells), (3, eL eI fr), (4, eL eI bk), (5, eI k)]) (fun _ => []) (fun k => (k : Int) ≤ n.places ∧ ∀ j : Nat, j < k → (j : Int) ∈ fr ∧ (j : Int) ∈ bk) (fun k => n.places.toNat - k) 0 (zed [] (by decide) trivial ⟨.lo _ (by repeat' (first | exact Lo.s _ | exact zbb | refine zaj ?_ ?_ | refine zb9 ?_ | refine Lo.cells ?_ | refine Lo.agg _ ?_ | refine Lo.ref _ ?_ | refine Lo.tup _ ?_ | refine Lo.fn _ _ ?_ | refine Lo.sl _ ?_ | intro _)), .lo _ (zb9 fun _ => .s _), .lo _ (zb9 fun _ => .s _), .lo _ (.s _), trivial⟩) ⟨by omega, fun j hj => by omega⟩ (fun k hk => ?_)
   refine zaf (zaf (zab (zac rfl (zbm zmb rfl (zbu ta3 rfl (zad rfl rfl (zaa rfl) (zaz rfl rfl rfl) (zae (zah ?_))))))))
   refine zhy rfl (fun h => ?_) (fun h => ?_)
   ·
    have h1 := zlv (P := P) fr (k : Int)
    have h2 := zlv (P := P) bk (k : Int)
    have hq1 : (k : Int) ∈ fr ↔ Rch n false n.source k := hfm _
    have hq2 : (k : Int) ∈ bk ↔ Rch n true n.sink k := hbm _
    have hbad : ¬ ((k : Int) ∈ fr ∧ (k : Int) ∈ bk) → wfB n = false := fun hn => zdm (fun hw => hn ⟨hq1.2 (hw.places false k (by omega)), hq2.2 (hw.places true k (by omega))⟩)
    refine zaq (zaf (zaw (zaf ?_)))
    by_cases hfk : (k : Int) ∈ fr
    ·
     rw [decide_eq_true hfk] at h1
     by_cases hbk : (k : Int) ∈ bk
     ·
      rw [decide_eq_true hbk] at h2
      refine zab (zac rfl (zac rfl (zad rfl rfl (zaa rfl) (zai rfl rfl (h1) (zag rfl (zag rfl zam))) (zad rfl rfl (zaa rfl) (zay rfl rfl) (zac rfl (zac rfl (zac rfl (zad rfl rfl (zan rfl rfl rfl) (zai rfl rfl (h2) (zag rfl (zag rfl zam))) (zad rfl rfl (zan rfl rfl rfl) (zay rfl rfl) (zac rfl (zae (zah (zat rfl (zaq (zb8 (zah (zab (zac rfl (zad rfl rfl (zaa rfl) (za9 rfl rfl rfl (IntWalk.i64_in _ (by omega))) (zac rfl (zae (zah ?_))))))))))))))))))))))
      refine ⟨k + 1, ⟨by omega, fun j hj => ?_⟩, by omega, zbx _ ⟨rfl, rfl, rfl, rfl, trivial⟩⟩
      by_cases e : j = k
      ·
       subst e; exact ⟨hfk, hbk⟩
      ·
       exact hk.2 j (by omega)
     ·
      rw [decide_eq_false hbk] at h2
      refine zab (zac rfl (zac rfl (zad rfl rfl (zaa rfl) (zai rfl rfl (h1) (zag rfl (zag rfl zam))) (zad rfl rfl (zaa rfl) (zay rfl rfl) (zac rfl (zac rfl (zac rfl (zad rfl rfl (zan rfl rfl rfl) (zai rfl rfl (h2) (zag rfl (zag rfl zam))) (zad rfl rfl (zan rfl rfl rfl) (zay rfl rfl) (zac rfl (zae (zah (zax rfl (zaf (zab (zac rfl (zae (zah ?_))))))))))))))))))
      (refine zav ?_; repeat (first | refine za6 ?_ | refine za7 ?_))
      exact zbq (.inr rfl) rfl (congrArg eB (hbad (fun h => hbk h.2)).symm)
    ·
     rw [decide_eq_false hfk] at h1
     refine zab (zac rfl (zac rfl (zad rfl rfl (zaa rfl) (zai rfl rfl (h1) (zag rfl (zag rfl zam))) (zad rfl rfl (zaa rfl) (zay rfl rfl) (zac rfl (za3 rfl (za3 rfl (za3 rfl (za3 rfl (zac rfl (zae (zah (zax rfl (zaf (zab (zac rfl (zae (zah ?_))))))))))))))))))
     (refine zav ?_; repeat (first | refine za6 ?_ | refine za7 ?_))
     exact zbq (.inr rfl) rfl (congrArg eB (hbad (fun h => hfk h.1)).symm)
   ·
    have hpl1 : ∀ j : Nat, j < n.places.toNat → (j : Int) ∈ fr ∧ (j : Int) ∈ bk := fun j hj => hk.2 j (by omega)
    clear hk h
    (refine zcg ?_; repeat (first | refine zdn ?_ | refine zb7 ?_ | refine zbs rfl ?_ | refine zb8 ?_ | refine zah ?_ | refine zaf ?_ | refine zaq ?_ | refine zaw ?_))
    refine zab (zac rfl (zae (zah (zaw ?_))))
    refine zcb (S := Nat) (fun k => [(1, .ref (eN n).cells), (3, eL eI fr), (4, eL eI bk), (6, eI k)]) (fun _ => []) (fun k => k ≤ n.trans.length ∧ ∀ j : Nat, j < k → (n.source ∉ (gti n.trans j).out ∧ n.sink ∉ (gti n.trans j).inn) ∧ RchT n false n.source j ∧ RchT n true n.sink j) (fun k => n.trans.length - k) 0 (zbx _ ⟨rfl, rfl, rfl, rfl, trivial⟩) ⟨by omega, fun j hj => by omega⟩ (fun i hi => ?_)
    refine zaf (zaf (zab (zac rfl (zbm zd0 rfl (zbu ta22 rfl (zad rfl rfl (zaa rfl) (zak rfl ts22 rfl) (zad rfl rfl (zaa rfl) (zaz rfl rfl rfl) (zae (zah ?_)))))))))
    refine zhy rfl (fun h => ?_) (fun h => ?_)
    ·
     have hlt : i < n.trans.length := by omega
     have h1 := zlv (P := P) (gti n.trans i).out n.source
     have h2 := zlv (P := P) (gti n.trans i).inn n.sink
     have h3 := zu2 (P := P) (gti n.trans i).inn fr
     have h4 := zu2 (P := P) (gti n.trans i).out bk
     have q3 : ((gti n.trans i).inn.any fun y => decide (y ∈ fr)) = true ↔ RchT n false n.source i := zp5 (back := false) hfm i
     have q4 : ((gti n.trans i).out.any fun y => decide (y ∈ bk)) = true ↔ RchT n true n.sink i := zp5 (back := true) hbm i
     have hbad : ¬ ((n.source ∉ (gti n.trans i).out ∧ n.sink ∉ (gti n.trans i).inn) ∧ RchT n false n.source i ∧ RchT n true n.sink i) → wfB n = false := fun hn => zdm (fun hw => hn ⟨hw.no i hlt, hw.trans false i hlt, hw.trans true i hlt⟩)
     generalize hz3 : ((gti n.trans i).inn.any fun y => decide (y ∈ fr)) = z3 at *
     generalize hz4 : ((gti n.trans i).out.any fun y => decide (y ∈ bk)) = z4 at *
     refine zaq (zaf (zaw (zaf (zab (zbm zd0 rfl (zbu ta22 rfl (zac rfl (zad rfl rfl (zaa rfl) (zap rfl ts22 ti65 rfl rfl rfl (zch hlt) rfl) (zbc ta65 ti65 rfl (zad rfl rfl (zaa rfl) (zbw rfl ti65 rfl rfl) (zbz rfl (zaa rfl) (za0 rfl ti65 rfl rfl rfl rfl rfl rfl (by decide) (by decide)) (zae (zaf ?_)))))))))))))
     by_cases c1 : n.source ∈ (gti n.trans i).out
     ·
      rw [decide_eq_true c1] at h1
      refine zab (zbm zfj rfl (zad rfl rfl (zaa rfl) (zao rfl ta48 rfl rfl rfl rfl rfl) (zbm zjh rfl (zbu ta3 rfl (zad rfl rfl (zaa rfl) (zai rfl rfl (h1) (zag rfl (zag rfl zam))) (zac rfl (za3 rfl (za3 rfl (za3 rfl (za3 rfl (za3 rfl (zac rfl (zac rfl (za3 rfl (za3 rfl (za3 rfl (za3 rfl (za3 rfl (zac rfl (zac rfl (za3 rfl (za3 rfl (za3 rfl (za3 rfl (za3 rfl (zac rfl (zae (zah (zax rfl (zaf (zab (zac rfl (zae (zah ?_))))))))))))))))))))))))))))))))))
      (refine zav ?_; repeat (first | refine za6 ?_ | refine za7 ?_))
      exact zbq (.inr rfl) rfl (congrArg eB (hbad (fun h => h.1.1 c1)).symm)
     ·
      rw [decide_eq_false c1] at h1
      by_cases c2 : n.sink ∈ (gti n.trans i).inn
      ·
       rw [decide_eq_true c2] at h2
       refine zab (zbm zfj rfl (zad rfl rfl (zaa rfl) (zao rfl ta48 rfl rfl rfl rfl rfl) (zbm zjh rfl (zbu ta3 rfl (zad rfl rfl (zaa rfl) (zai rfl rfl (h1) (zag rfl (zag rfl zam))) (zac rfl (zbm zfr rfl (zad rfl rfl (zan rfl rfl rfl) (zao rfl ta48 rfl rfl rfl rfl rfl) (zbm zkn rfl (zbu ta3 rfl (zad rfl rfl (zan rfl rfl rfl) (zai rfl rfl (h2) (zag rfl (zag rfl zam))) (zac rfl (zac rfl (za3 rfl (za3 rfl (za3 rfl (za3 rfl (za3 rfl (zac rfl (zac rfl (za3 rfl ?_)))))))))))))))))))))
       refine za3 rfl (za3 rfl (za3 rfl (za3 rfl (zac rfl (zae (zah (zax rfl (zaf (zab (zac rfl (zae (zah ?_))))))))))))
       (refine zav ?_; repeat (first | refine za6 ?_ | refine za7 ?_))
       exact zbq (.inr rfl) rfl (congrArg eB (hbad (fun h => h.1.2 c2)).symm)
      ·
       rw [decide_eq_false c2] at h2
       cases z3 with
       | false =>
        refine zab (zbm zfj rfl (zad rfl rfl (zaa rfl) (zao rfl ta48 rfl rfl rfl rfl rfl) (zbm zjh rfl (zbu ta3 rfl (zad rfl rfl (zaa rfl) (zai rfl rfl (h1) (zag rfl (zag rfl zam))) (zac rfl (zbm zfr rfl (zad rfl rfl (zan rfl rfl rfl) (zao rfl ta48 rfl rfl rfl rfl rfl) (zbm zkn rfl (zbu ta3 rfl (zad rfl rfl (zan rfl rfl rfl) (zai rfl rfl (h2) (zag rfl (zag rfl zam))) (zac rfl (zac rfl (zbm zfr rfl (zad rfl rfl (zan rfl rfl rfl) (zao rfl ta48 rfl rfl rfl rfl rfl) ?_)))))))))))))))
        refine zac rfl (zad rfl rfl (zan rfl rfl rfl) (zai rfl rfl (h3) (zag rfl (zag rfl zam))) (zad rfl rfl (zan rfl rfl rfl) (zay rfl rfl) (zac rfl (zac rfl (za3 rfl (za3 rfl (za3 rfl (za3 rfl (za3 rfl (zac rfl (zae (zah (zax rfl (zaf (zab (zac rfl (zae (zah ?_))))))))))))))))))
        (refine zav ?_; repeat (first | refine za6 ?_ | refine za7 ?_))
        exact zbq (.inr rfl) rfl (congrArg eB (hbad (fun h => by have := q3.2 h.2.1; cases this)).symm)
       | true =>
        cases z4 with
        | false =>
         refine zab (zbm zfj rfl (zad rfl rfl (zaa rfl) (zao rfl ta48 rfl rfl rfl rfl rfl) (zbm zjh rfl (zbu ta3 rfl (zad rfl rfl (zaa rfl) (zai rfl rfl (h1) (zag rfl (zag rfl zam))) (zac rfl (zbm zfr rfl (zad rfl rfl (zan rfl rfl rfl) (zao rfl ta48 rfl rfl rfl rfl rfl) (zbm zkn rfl (zbu ta3 rfl (zad rfl rfl (zan rfl rfl rfl) (zai rfl rfl (h2) (zag rfl (zag rfl zam))) (zac rfl (zac rfl (zbm zfr rfl (zad rfl rfl (zan rfl rfl rfl) (zao rfl ta48 rfl rfl rfl rfl rfl) ?_)))))))))))))))
         refine zac rfl (zad rfl rfl (zan rfl rfl rfl) (zai rfl rfl (h3) (zag rfl (zag rfl zam))) (zad rfl rfl (zan rfl rfl rfl) (zay rfl rfl) (zac rfl (zac rfl (zbm zfj rfl (zad rfl rfl (zan rfl rfl rfl) (zao rfl ta48 rfl rfl rfl rfl rfl) (zac rfl (zad rfl rfl (zan rfl rfl rfl) (zai rfl rfl (h4) (zag rfl (zag rfl zam))) (zad rfl rfl (zan rfl rfl rfl) (zay rfl rfl) (zac rfl (zae (zah (zax rfl (zaf (zab (zac rfl (zae (zah ?_))))))))))))))))))
         (refine zav ?_; repeat (first | refine za6 ?_ | refine za7 ?_))
         exact zbq (.inr rfl) rfl (congrArg eB (hbad (fun h => by have := q4.2 h.2.2; cases this)).symm)
        | true =>
         refine zab (zbm zfj rfl (zad rfl rfl (zaa rfl) (zao rfl ta48 rfl rfl rfl rfl rfl) (zbm zjh rfl (zbu ta3 rfl (zad rfl rfl (zaa rfl) (zai rfl rfl (h1) (zag rfl (zag rfl zam))) (zac rfl (zbm zfr rfl (zad rfl rfl (zan rfl rfl rfl) (zao rfl ta48 rfl rfl rfl rfl rfl) (zbm zkn rfl (zbu ta3 rfl (zad rfl rfl (zan rfl rfl rfl) (zai rfl rfl (h2) (zag rfl (zag rfl zam))) (zac rfl (zac rfl (zbm zfr rfl (zad rfl rfl (zan rfl rfl rfl) (zao rfl ta48 rfl rfl rfl rfl rfl) ?_)))))))))))))))
         refine zac rfl (zad rfl rfl (zan rfl rfl rfl) (zai rfl rfl (h3) (zag rfl (zag rfl zam))) (zad rfl rfl (zan rfl rfl rfl) (zay rfl rfl) (zac rfl (zac rfl (zbm zfj rfl (zad rfl rfl (zan rfl rfl rfl) (zao rfl ta48 rfl rfl rfl rfl rfl) (zac rfl (zad rfl rfl (zan rfl rfl rfl) (zai rfl rfl (h4) (zag rfl (zag rfl zam))) (zad rfl rfl (zan rfl rfl rfl) (zay rfl rfl) (zac rfl (zae (zah (zat rfl (zaq (zb8 (zah (zab (zac rfl (zad rfl rfl (zaa rfl) (za9 rfl rfl rfl (IntWalk.i64_in _ (by omega))) ?_)))))))))))))))))))
         refine zac rfl (zae (zah ?_))
         refine ⟨i + 1, ⟨by omega, fun j hj => ?_⟩, by omega, zed [] (by decide) trivial ⟨.lo _ (by repeat' (first | exact Lo.s _ | exact zbb | refine zaj ?_ ?_ | refine zb9 ?_ | refine Lo.cells ?_ | refine Lo.agg _ ?_ | refine Lo.ref _ ?_ | refine Lo.tup _ ?_ | refine Lo.fn _ _ ?_ | refine Lo.sl _ ?_ | intro _)), .lo _ (zb9 fun _ => .s _), .lo _ (zb9 fun _ => .s _), .lo _ (.s _), trivial⟩⟩
         by_cases e : j = i
         ·
          subst e; exact ⟨⟨c1, c2⟩, q3.1 rfl, q4.1 rfl⟩
         ·
          exact hi.2 j (by omega)
    ·
     (refine zcg ?_; repeat (first | refine zdn ?_ | refine zb7 ?_ | refine zbs rfl ?_ | refine zb8 ?_ | refine zah ?_ | refine zaf ?_ | refine zaq ?_ | refine zaw ?_))
     refine zab (zac rfl (zae (zah ?_)))
     (refine zav ?_; repeat (first | refine za6 ?_ | refine za7 ?_))
     refine zbq (.inr rfl) rfl (congrArg eB (zj2 ⟨hval, hne, fun j hj => (hi.2 j (by omega)).1, fun b p hp => ?_, fun b j hj => ?_⟩).symm)
     ·
      cases b
      ·
       exact (hfm p).1 (hpl1 p hp).1
      ·
       exact (hbm p).1 (hpl1 p hp).2
     ·
      cases b
      ·
       exact (hi.2 j (by omega)).2.1
      ·
       exact (hi.2 j (by omega)).2.2
end Go.Proofs.YtohmldibkojkfaaGreatDoor.Aw
end
