import Derived.Test.YtohmldibkojkfaaGreatDoorJB27
import Derived.Test.YtohmldibkojkfaaGreatDoorJB13
import Derived.Test.YtohmldibkojkfaaGreatDoorJB11
import Derived.Test.YtohmldibkojkfaaGreatDoorJB6
import Derived.Test.YtohmldibkojkfaaGreatDoorJB17
import Derived.Test.YtohmldibkojkfaaGreatDoorJB9
set_option linter.unusedSimpArgs false
set_option linter.unusedVariables false
set_option linter.unusedSectionVars false
section
namespace Go.Proofs.YtohmldibkojkfaaGreatDoor.Aw
open Go.RowKit Go.Proofs
variable {P : Program} [IsP P]
def eSt (m : Stp) : AV := .agg [eI m.kind, eI m.trans, eS m.act]
def eC (c : Cst) : AV := .agg [eI c.log, eI c.model, eI c.silent]
theorem z2l {k : Nat} (m : Stp) : Lo k (eSt m) := .agg _ (zaj (.s _) (zaj (.s _) (zaj (.s _) zar)))
theorem znd {k : Nat} (l : List Stp) : Lo k (eL eSt l) := za1 fun m => z2l m
theorem lo_C {k : Nat} (c : Cst) : Lo k (eC c) := .agg _ (zaj (.s _) (zaj (.s _) (zaj (.s _) zar)))
theorem rep3 {G : Cx} {v x y z : Value} (h : Rep G v (.agg [.s x, .s y, .s z])) : v = .agg #[x, y, z] := by
 cases h with
 | agg vs _ hl h1 hr =>
  obtain ⟨q⟩ := vs
  match q, hl with
  | [a, b, c], _ =>
   rw [zdd (hr 0 a _ rfl rfl), zdd (hr 1 b _ rfl rfl), zdd (hr 2 c _ rfl rfl)]
theorem z10 {G : Cx} {lo hi : Nat} {v : Value} {l : List Stp} (h : RdM G.w lo hi v l) (hs : ∀ b o, lo ≤ b → b < hi → b < G.w.heap.size → G.St b o) : Rep G v (eL eSt l) :=
 z0t (size := 3) (enc := encM) (f := eSt) (by simp) (fun _ => rfl) (fun a c hc => by simp [eSt, AV.cells] at hc; rcases hc with rfl | rfl | rfl <;> rfl) h hs (fun a _ j u c hu hc => by
  match j, hu, hc with
  | 0, hu, hc => simp [eSt, AV.cells] at hu hc; subst hu hc; exact .s _
  | 1, hu, hc => simp [eSt, AV.cells] at hu hc; subst hu hc; exact .s _
  | 2, hu, hc => simp [eSt, AV.cells] at hu hc; subst hu hc; exact .s _
  | j + 3, hu, hc => simp at hu)
theorem z1u {G : Cx} {v : Value} {l : List Stp} (h : Rep G v (eL eSt l)) (hs : ∀ b o, G.St b o → b < G.w.heap.size) : RdM G.w 0 G.w.heap.size v l :=
 zv8 (size := 3) (enc := encM) (f := eSt) (by decide) (by simp) (fun _ => rfl) h hs (fun a _ j u c v hu hc hv => by
  match j, hu, hc with
  | 0, hu, hc => simp [eSt, AV.cells] at hu hc; subst hu hc; exact zdd hv
  | 1, hu, hc => simp [eSt, AV.cells] at hu hc; subst hu hc; exact zdd hv
  | 2, hu, hc => simp [eSt, AV.cells] at hu hc; subst hu hc; exact zdd hv
  | j + 3, hu, hc => simp at hu)
theorem z1f {G : Cx} {vargs : Array Value} {n : Net} {l : List ByteArray} (hst : ∀ b o, G.St b o → b < G.w.heap.size) (hsz : vargs.size = [eN n, eL eS l].length) (hrep : ∀ (j : Nat) v y, vargs[j]? = some v → [eN n, eL eS l][j]? = some y → Rep G v y) :
  ∃ vt v, vargs = #[netV n vt, v] ∧ RdT G.w 0 G.w.heap.size vt n.trans ∧ RdS G.w 0 G.w.heap.size v l := by
 obtain ⟨q⟩ := vargs
 match q, hsz with
 | [a, b], _ =>
  obtain ⟨vt, rfl, h1⟩ := zk9 (hrep 0 a _ rfl rfl) hst
  exact ⟨vt, b, rfl, h1, zrf (hrep 1 b _ rfl rfl) hst⟩
theorem z3g {G : Cx} {vargs : Array Value} {n : Net} {l : List ByteArray} {s : List Int} (hst : ∀ b o, G.St b o → b < G.w.heap.size) (hsz : vargs.size = [eN n, eL eS l, eL eI s].length) (hrep : ∀ (j : Nat) v y, vargs[j]? = some v → [eN n, eL eS l, eL eI s][j]? = some y → Rep G v y) :
  ∃ vt v u, vargs = #[netV n vt, v, u] ∧ RdT G.w 0 G.w.heap.size vt n.trans ∧ RdS G.w 0 G.w.heap.size v l ∧ RdI G.w 0 G.w.heap.size u s := by
 obtain ⟨q⟩ := vargs
 match q, hsz with
 | [a, b, c], _ =>
  obtain ⟨vt, rfl, h1⟩ := zk9 (hrep 0 a _ rfl rfl) hst
  exact ⟨vt, b, c, rfl, h1, zrf (hrep 1 b _ rfl rfl) hst, zg9 (hrep 2 c _ rfl rfl) hst⟩
theorem zz7 {G : Cx} {vargs : Array Value} {n : Net} {l : List ByteArray} {s : List Int} {m : Stp} (hst : ∀ b o, G.St b o → b < G.w.heap.size) (hsz : vargs.size = [eN n, eL eS l, eL eI s, eSt m].length) (hrep : ∀ (j : Nat) v y, vargs[j]? = some v → [eN n, eL eS l, eL eI s, eSt m][j]? = some y → Rep G v y) :
  ∃ vt v u, vargs = #[netV n vt, v, u, stpV m] ∧ RdT G.w 0 G.w.heap.size vt n.trans ∧ RdS G.w 0 G.w.heap.size v l ∧ RdI G.w 0 G.w.heap.size u s := by
 obtain ⟨q⟩ := vargs
 match q, hsz with
 | [a, b, c, d], _ =>
  obtain ⟨vt, rfl, h1⟩ := zk9 (hrep 0 a _ rfl rfl) hst
  have h4 := rep3 (hrep 3 d _ rfl rfl)
  subst h4
  exact ⟨vt, b, c, rfl, h1, zrf (hrep 1 b _ rfl rfl) hst, zg9 (hrep 2 c _ rfl rfl) hst⟩
theorem zsy (n : Net) (l : List ByteArray) : Pure P 90 [eN n, eL eS l] (.tup [eL eI (zc0 n l).1, eI (zc0 n l).2]) :=
 zfm (zdb Tryz.func90 rfl rfl) fun G vargs hst hsz hrep => by
  obtain ⟨vt, v, rfl, h1, h2⟩ := z1f hst hsz hrep
  exact zyh n l vt v _ _ _ _ G.w h1 h2
theorem end_pf (n : Net) (l : List ByteArray) : Pure P 91 [eN n, eL eS l] (.tup [eL eI (endE n l).1, eI (endE n l).2]) :=
 zfm (zdb Tryz.func91 rfl rfl) fun G vargs hst hsz hrep => by
  obtain ⟨vt, v, rfl, h1, h2⟩ := z1f hst hsz hrep
  exact z3o n l vt v _ _ _ _ G.w h1 h2
theorem zza (n : Net) (l : List ByteArray) (s : List Int) : Pure P 95 [eN n, eL eS l, eL eI s] (.tup [eL eSt (zj7 n l s).1, eI (zj7 n l s).2]) :=
 zey (zhb (zdb Tryz.func95 rfl rfl) (.tup _ (zaj (znd _) (zaj (.s _) zar))) fun G vargs hst hsz hrep => by
  obtain ⟨vt, v, u, rfl, h1, h2, h3⟩ := z3g hst hsz hrep
  refine (zyi n l s vt v u _ _ _ _ _ _ G.w h1 h2 h3).mono ?_
  rintro e w' ⟨A, c, rfl, hr, hb⟩
  refine ⟨_, rfl, hb, .tup _ _ rfl (fun j v x hv hx => ?_)⟩
  match j, hv, hx with
  | 0, hv, hx => simp at hv hx; subst hv hx; exact z10 (G := zwt G w') hr (fun b o h1 h2 _ => zte h1 h2)
  | 1, hv, hx => simp at hv hx; subst hv hx; exact .s _
  | j + 2, hv, hx => simp at hv)
theorem zz9 (n : Net) (l : List ByteArray) (s : List Int) (m : Stp) : Pure P 96 [eN n, eL eS l, eL eI s, eSt m] (.tup [eL eI (zbq n l s m).1, eI (zbq n l s m).2]) :=
 zfm (zdb Tryz.func96 rfl rfl) fun G vargs hst hsz hrep => by
  obtain ⟨vt, v, u, rfl, h1, h2, h3⟩ := zz7 hst hsz hrep
  exact zyj n l s m vt v u _ _ _ _ _ _ G.w h1 h2 h3
theorem z25 (c : Cst) (l : List Stp) : Pure P 97 [eC c, eL eSt l] (.tup [eI (zqr c l).1, eI (zqr c l).2]) :=
 zey (zhb (zdb Tryz.func97 rfl rfl) (.tup _ (zaj (.s _) (zaj (.s _) zar))) fun G vargs hst hsz hrep => by
  obtain ⟨q⟩ := vargs
  match q, hsz, hrep with
  | [a, b], _, hrep =>
   have h1 := rep3 (hrep 0 a _ rfl rfl)
   subst h1
   refine (z0f c l _ _ b G.w (z1u (hrep 1 b _ rfl rfl) hst)).mono ?_
   rintro e w' ⟨rfl, hb⟩
   refine ⟨_, rfl, hb, .tup _ _ rfl (fun j v x hv hx => ?_)⟩
   match j, hv, hx with
   | 0, hv, hx => simp at hv hx; subst hv hx; exact .s _
   | 1, hv, hx => simp at hv hx; subst hv hx; exact .s _
   | j + 2, hv, hx => simp at hv)
theorem zil (c : Cst) : Pure P 63 [eC c] (eB (vcB c)) :=
 zf5 (zdb Tryz.func63 rfl rfl) fun G vargs hst hsz hrep => by
  obtain ⟨q⟩ := vargs
  match q, hsz, hrep with
  | [a], _, hrep =>
   have h1 := rep3 (hrep 0 a _ rfl rfl)
   subst h1
   exact zh2 c G.w
end Go.Proofs.YtohmldibkojkfaaGreatDoor.Aw
end
section
namespace Go.Proofs.YtohmldibkojkfaaGreatDoor.Aw
open Go.RowKit Go.Proofs
variable {P : Program} [IsP P]
def revT (t : Tr) : Tr := ⟨t.label, t.out, t.inn⟩
def revN (n : Net) : Net := ⟨n.places, n.trans.map revT, n.sink, n.source⟩
abbrev zN : AV := .agg [.s (.int .i64 0), .s (.slice none 0 0), .s (.int .i64 0), .s (.int .i64 0)]
set_option maxHeartbeats 4000000 in
theorem zuk (n : Net) (hval : zca n = true) : Pure P 45 [eN n] (eN (revN n)) := by
 have hpl := zbo hval
 refine zcu (by rw [IsP.eq (P := P)]; exact Tryz.func45) rfl rfl rfl rfl rfl (by repeat' (first | exact Lo.s _ | exact zar | refine zaj ?_ ?_ | refine za1 ?_ | refine Lo.agg _ ?_ | refine Lo.sl _ ?_ | intro _)) (by repeat' (first | exact Lo.s _ | exact zar | refine zaj ?_ ?_ | refine za1 ?_ | refine Lo.agg _ ?_ | refine Lo.sl _ ?_ | intro _)) (by simp only [argF]; rfl) ?_
 refine zaf (zab (zad rfl rfl (zaa rfl) (zbv rfl rfl rfl rfl) ?_))
 refine zau (zbk (id := 0) rfl) (zau (zch (d := 1) rfl rfl rfl) ?_)
 refine zad rfl rfl (zaa rfl) (zbw rfl ti24 rfl rfl) (zae (zaf (zab (zbh zkz rfl (zbl ta3 rfl (zbh zjt rfl (zbl ta3 rfl (zbh zio rfl (zbl ta3 rfl (zad rfl rfl (zaa rfl) (zbf rfl ti24 tp24 rfl rfl) (zad rfl rfl (zaa rfl) (zbw rfl ti24 rfl rfl) (zcg rfl (zaa rfl) (za8 rfl ti24 rfl rfl rfl rfl rfl rfl (by decide) (by decide)) (zae (zaf (zaf (zab (zac rfl (zae (zah (zaq ?_))))))))))))))))))))
 refine zbd (zjc (id := 2) (sz2 := 3) (e' := .agg [eI n.places, .own 3 3 0, eI n.sink, eI n.source]) (pre := [eI n.places]) (post := [eI n.sink, eI n.source]) rfl rfl rfl) ?_
 refine zcd (S := Nat) (fun k => [(1, .ref (eN n).cells), (2, .ptr 0 4 0 0), (3, .ptr 1 4 0 0), (4, eI k)]) (fun k => [.row 4 [zN], .row 4 [.agg [eI n.places, .own 2 3 k, eI n.sink, eI n.source]], .row 3 ((List.range k).map fun i => eT (revT (gti n.trans i)))]) (fun k => k ≤ n.trans.length) (fun k => n.trans.length - k) 0
  (zc3 [1, 2, 3] (by decide) ⟨⟨_, rfl, .rowE (by repeat' (first | exact Lo.s _ | exact zd9 | refine zdr ?_ ?_ | refine zdl ?_ | refine Lo.cells ?_ | refine Lo.agg _ ?_ | exact zar | refine zaj ?_ ?_ | intro _)) rfl⟩, ⟨_, rfl, zn1 (.cons (.lo _ (.s _)) (.cons (.own _ _ _ _ _ rfl rfl) (.cons (.lo _ (.s _)) (.cons (.lo _ (.s _)) .nil))))⟩, ⟨_, rfl, .rowE (zd9) rfl⟩, trivial⟩ ⟨.lo _ (by repeat' (first | exact Lo.s _ | exact zar | refine zaj ?_ ?_ | refine za1 ?_ | refine Lo.cells ?_ | refine Lo.agg _ ?_ | refine Lo.ref _ ?_ | refine Lo.tup _ ?_ | refine Lo.fn _ _ ?_ | refine Lo.sl _ ?_ | intro _)), .ptr 1 0 4 0 0 rfl, .ptr 2 1 4 0 0 rfl, .lo _ (.s _), trivial⟩) (Nat.zero_le _) (fun k hk => ?_)
 refine zaf (zaf (zab (zac rfl (zbh zc7 rfl (zbl ta22 rfl (zad rfl rfl (zaa rfl) (zak rfl ts22 rfl) (zad rfl rfl (zaa rfl) (zaz rfl rfl rfl) (zae (zah ?_)))))))))
 refine zeg rfl (fun h => ?_) (fun h => ?_)
 ·
  have hlt : k < n.trans.length := by omega
  obtain ⟨_, _, hil, hol⟩ := zkc hval hlt
  refine zao (zaf (zaq (zaf (zab (zbh zc7 rfl (zbl ta22 rfl (zac rfl (zad rfl rfl (zaa rfl) (zan rfl ts22 ti65 rfl rfl rfl (zbz hlt) rfl) (zbr ta65 ti65 rfl (zad rfl rfl (zaa rfl) (zbw rfl ti65 rfl rfl) (zcg rfl (zaa rfl) (za8 rfl ti65 rfl rfl rfl rfl rfl rfl (by decide) (by decide)) (zae (zah ?_)))))))))))))
  refine zb6 hmix ?_
  refine zmc rfl (by kernel_rfl) ?_
  refine zyg ?_
  simp only [List.dropLast]
  refine zfp rfl rfl (zaa rfl) (fun _ => (zcv rfl zc7 (by decide) rfl)) ?_
  refine zob rfl rfl (zaa rfl) (zap rfl ta22 rfl rfl rfl rfl rfl) ?_
  refine zfp rfl rfl (zaa rfl) (fun _ => (zcv rfl zjs (by decide) rfl)) ?_
  refine zob rfl rfl (zaa rfl) (zap rfl ta9 rfl rfl rfl rfl rfl) ?_
  refine zfp rfl rfl (zaa rfl) (fun _ => (zge rfl rfl ts48 ti3)) ?_
  refine zfp rfl rfl (zaa rfl) (fun _ => (zcv rfl zfk (by decide) rfl)) ?_
  refine zob rfl rfl (zaa rfl) (zap rfl ta48 rfl rfl rfl rfl rfl) ?_
  refine zfp rfl rfl (zaa rfl) (fun _ => (zi7 rfl ts48 ti3 rfl (by decide) rfl (.inl rfl) rfl (by first | exact .own _ _ _ rfl rfl _ (by first | rfl | simp) | exact .emp | exact .nil | exact .sl _ (by first | simp; done | intro e he; simp at he; obtain ⟨_, _, rfl⟩ := he; rfl)) (by first | omega | (simp; omega) | (unfold maxLen; simp; omega)) (by first | omega | (simp; omega) | (unfold maxLen; simp; omega)) (za1 fun _ => .s _) (za1 fun _ => .s _))) ?_
  refine zfp rfl rfl (zaa rfl) (fun _ => (zge rfl rfl ts48 ti3)) ?_
  refine zfp rfl rfl (zaa rfl) (fun _ => (zcv rfl zfu (by decide) rfl)) ?_
  refine zob rfl rfl (zaa rfl) (zap rfl ta48 rfl rfl rfl rfl rfl) ?_
  refine zfp rfl rfl (zaa rfl) (fun _ => (zi7 rfl ts48 ti3 rfl (by decide) rfl (.inl rfl) rfl (by first | exact .own _ _ _ rfl rfl _ (by first | rfl | simp) | exact .emp | exact .nil | exact .sl _ (by first | simp; done | intro e he; simp at he; obtain ⟨_, _, rfl⟩ := he; rfl)) (by first | omega | (simp; omega) | (unfold maxLen; simp; omega)) (by first | omega | (simp; omega) | (unfold maxLen; simp; omega)) (za1 fun _ => .s _) (za1 fun _ => .s _))) ?_
  refine zfp rfl rfl (zaa rfl) (fun _ => (zbf rfl ti65 tp65 rfl rfl)) ?_
  refine zfp rfl rfl (zaa rfl) (fun _ => (zd5 rfl ts22 ti65 rfl rfl (by decide) (by decide) rfl rfl rfl (by repeat' (first | exact Lo.s _ | exact zar | refine zaj ?_ ?_ | refine za1 ?_ | refine Lo.agg _ ?_ | refine Lo.sl _ ?_ | intro _)))) ?_
  refine gx_eff rfl rfl (zaa rfl) (zb0 rfl ts22 ti65 rfl (by decide) rfl rfl (by first | rfl | (simp; done) | (simp; omega)) rfl (by first | exact .own _ _ _ rfl rfl _ (by first | rfl | simp) | exact .emp | exact .nil | exact .sl _ (by first | simp; done | intro e he; simp at he; obtain ⟨_, _, rfl⟩ := he; rfl)) (by first | omega | (simp; omega) | (unfold maxLen; simp; omega)) (by first | omega | (simp; omega) | (unfold maxLen; simp; omega))) ?_
  refine zfp rfl rfl (zaa rfl) (fun _ => (zcv rfl zc7 (by decide) rfl)) ?_
  refine gx_nil (by kernel_rfl) ?_
  refine zah (zcg rfl (zaa rfl) (za8 rfl ti22 rfl rfl rfl rfl rfl rfl (by decide) (by decide)) (zae (zb3 (zah (zab (zac rfl (zad rfl rfl (zaa rfl) (za4 rfl rfl rfl (IntWalk.i64_in _ (by omega))) (zac rfl (zae (zah ?_))))))))))
  refine ⟨k + 1, by omega, by omega, ?_⟩
  exact zc3 [0, 1, 4] (by decide) ⟨⟨_, rfl, .rowE (by repeat' (first | exact Lo.s _ | exact zd9 | refine zdr ?_ ?_ | refine zdl ?_ | refine Lo.cells ?_ | refine Lo.agg _ ?_ | exact zar | refine zaj ?_ ?_ | intro _)) rfl⟩, ⟨_, rfl, zn1 (.cons (.lo _ (.s _)) (.cons (.own _ _ _ _ _ rfl (by simp)) (.cons (.lo _ (.s _)) (.cons (.lo _ (.s _)) .nil))))⟩, ⟨_, rfl, .rowE (by repeat' (first | exact Lo.s _ | exact zar | exact zd9 | refine zaj ?_ ?_ | refine zdr ?_ ?_ | refine za1 ?_ | refine zdl ?_ | refine Lo.cells ?_ | refine Lo.agg _ ?_ | refine Lo.sl _ ?_ | intro _)) (by rw [List.range_succ, List.map_append]; rfl)⟩, trivial⟩ ⟨.lo _ (by repeat' (first | exact Lo.s _ | exact zar | refine zaj ?_ ?_ | refine za1 ?_ | refine Lo.cells ?_ | refine Lo.agg _ ?_ | refine Lo.ref _ ?_ | refine Lo.tup _ ?_ | refine Lo.fn _ _ ?_ | refine Lo.sl _ ?_ | intro _)), .ptr 0 0 4 0 0 rfl, .ptr 1 1 4 0 0 rfl, .lo _ (.s _), trivial⟩
 ·
  have hkk : k = n.trans.length := by omega
  subst hkk
  have hE : ((List.range n.trans.length).map fun i => eT (revT (gti n.trans i))) = (n.trans.map revT).map eT := by
   apply List.ext_getElem
   ·
    simp
   ·
    intro i h1 h2
    simp at h1
    simp only [List.getElem_map, List.getElem_range]
    congr 2
    unfold gti
    rw [List.getElem?_eq_getElem h1]; rfl
  (refine zb1 ?_; repeat (first | refine zcx ?_ | refine zbs ?_ | refine zbe rfl ?_ | refine zb3 ?_ | refine zah ?_ | refine zaf ?_ | refine zao ?_ | refine zaq ?_))
  refine zab (zad rfl rfl (zaa rfl) (zb2 rfl ta24 ti24 rfl rfl rfl rfl rfl) (zcg rfl (zaa rfl) (za8 rfl ti24 rfl rfl rfl rfl rfl rfl (by decide) (by decide)) (zae (zah ?_))))
  (refine zav ?_; repeat (first | refine za6 ?_ | refine za7 ?_))
  have hR : eN (revN n) = .agg [eI n.places, .sl ((List.range n.trans.length).map fun i => eT (revT (gti n.trans i))), eI n.sink, eI n.source] := by rw [hE]; rfl
  rw [hR]
  apply z17 (.inr rfl) (cs1 := [eI n.places, .own 2 3 n.trans.length, eI n.sink, eI n.source])
  ·
   exact ta24
  ·
   exact ti24
  ·
   exact rfl
  ·
   exact rfl
  ·
   exact rfl
  ·
   exact rfl
  ·
   exact rfl
  ·
   exact rfl
  ·
   exact .cons (.refl _) (.cons (.own _ _ _ _ _ rfl rfl (by simp)) (.cons (.refl _) (.cons (.refl _) .nil)))
end Go.Proofs.YtohmldibkojkfaaGreatDoor.Aw
end
section
namespace Go.Proofs.YtohmldibkojkfaaGreatDoor.Aw
open Go.RowKit Go.Proofs
variable {P : Program} [IsP P]
def addL (L : List Int) : List Int → List Int
 | [] => L
 | q :: l => addL (if q ∈ L then L else L ++ [q]) l
theorem zq1 : ∀ (l : List Int) (L : List Int) (q : Int), addL L (l ++ [q]) = if q ∈ addL L l then addL L l else addL L l ++ [q]
 | [], L, q => rfl
 | x :: l, L, q => zq1 l _ q
def addT (n : Net) (x : Int) (L : List Int) (k : Nat) : List Int := if x ∈ (gti n.trans k).inn then addL L (gti n.trans k).out else L
def rndW (n : Net) (x : Int) (L : List Int) : Nat → List Int
 | 0 => L
 | k + 1 => addT n x (rndW n x L k) k
def rchW (n : Net) : Nat → Nat → List Int → List Int
 | 0, _, L => L
 | f + 1, i, L => if i < L.length then rchW n f (i + 1) (rndW n (gti L i) L n.trans.length) else L
def zjy (n : Net) (s : Int) : List Int := rchW n 41 0 [s]
structure LI (n : Net) (s : Int) (L : List Int) : Prop where
 nd : L.Nodup
 rng : ∀ p ∈ L, 0 ≤ p ∧ p < n.places
 st : s ∈ L
 rch : ∀ p ∈ L, Rch n false s p
theorem zpv {α : Type} [BEq α] [LawfulBEq α] : ∀ {l m : List α}, l.Nodup → l ⊆ m → l.length ≤ m.length
 | [], m, _, _ => Nat.zero_le _
 | a :: l, m, h, hs => by
  rw [List.nodup_cons] at h
  have ha : a ∈ m := hs (List.mem_cons_self ..)
  have h1 : l ⊆ m.erase a := fun x hx => by
   have hne : x ≠ a := fun e => h.1 (e ▸ hx)
   exact (List.mem_erase_of_ne hne).2 (hs (List.mem_cons_of_mem _ hx))
  have h2 := zpv h.2 h1
  rw [List.length_erase_of_mem ha] at h2
  have := List.length_pos_of_mem ha
  simp only [List.length_cons]
  omega
theorem zws {L : List Int} {m : Int} (h : L.Nodup) (hr : ∀ p ∈ L, 0 ≤ p ∧ p < m) : (L.length : Int) ≤ m ∨ L = [] := by
 by_cases h0 : L = []
 ·
  exact .inr h0
 ·
  left
  have hm : 0 ≤ m := by
   obtain ⟨x, hx⟩ := List.exists_mem_of_ne_nil L h0
   have := hr x hx; omega
  have h1 : (L.map Int.toNat).Nodup := by
   rw [List.nodup_iff_pairwise_ne] at h ⊢
   rw [List.pairwise_map]
   refine List.Pairwise.imp_of_mem ?_ h
   intro a b ha hb hab e
   have := hr a ha; have := hr b hb
   omega
  have h2 : (L.map Int.toNat) ⊆ List.range m.toNat := by
   intro x hx
   obtain ⟨p, hp, rfl⟩ := List.mem_map.1 hx
   have := hr p hp
   simp; omega
  have h3 := zpv h1 h2
  simp at h3
  omega
theorem LI.len {n : Net} {s : Int} {L : List Int} (h : LI n s L) : (L.length : Int) ≤ n.places ∧ 0 < L.length := by
 have h0 : 0 < L.length := List.length_pos_of_mem h.st
 rcases zws h.nd h.rng with h1 | h1
 ·
  exact ⟨h1, h0⟩
 ·
  rw [h1] at h0; simp at h0
theorem LI.add1 {n : Net} {s : Int} {L : List Int} (h : LI n s L) {q : Int} (h1 : 0 ≤ q ∧ q < n.places) (h2 : Rch n false s q) : LI n s (if q ∈ L then L else L ++ [q]) := by
 by_cases hq : q ∈ L
 ·
  rw [if_pos hq]; exact h
 ·
  rw [if_neg hq]
  refine ⟨?_, fun p hp => ?_, by simp [h.st], fun p hp => ?_⟩
  ·
   rw [List.nodup_append]
   refine ⟨h.nd, by simp, fun a ha b hb => ?_⟩
   simp at hb
   subst hb
   intro e; subst e; exact hq ha
  ·
   simp only [List.mem_append, List.mem_singleton] at hp
   rcases hp with hp | rfl
   ·
    exact h.rng p hp
   ·
    exact h1
  ·
   simp only [List.mem_append, List.mem_singleton] at hp
   rcases hp with hp | rfl
   ·
    exact h.rch p hp
   ·
    exact h2
theorem LI.addL {n : Net} {s : Int} : ∀ {l : List Int} {L : List Int}, LI n s L → (∀ q ∈ l, (0 ≤ q ∧ q < n.places) ∧ Rch n false s q) → LI n s (addL L l)
 | [], L, h, _ => h
 | q :: l, L, h, hl => LI.addL (l := l) (h.add1 (hl q (List.mem_cons_self ..)).1 (hl q (List.mem_cons_self ..)).2) (fun u hu => hl u (List.mem_cons_of_mem _ hu))
theorem LI.addT {n : Net} {s : Int} {L : List Int} (h : LI n s L) (hp : Plc n) {x : Int} (hx : Rch n false s x) {k : Nat} (hk : k < n.trans.length) : LI n s (addT n x L k) := by
 unfold Aw.addT
 split
 ·
  rename_i hin
  exact h.addL (fun q hq => ⟨hp.out hk false q hq, .step hk hin hx hq⟩)
 ·
  exact h
theorem LI.rnd {n : Net} {s : Int} {L : List Int} (h : LI n s L) (hp : Plc n) {x : Int} (hx : Rch n false s x) : ∀ {k : Nat}, k ≤ n.trans.length → LI n s (rndW n x L k)
 | 0, _ => h
 | k + 1, hk => (h.rnd hp hx (by omega)).addT hp hx hk
theorem zkt : ∀ (l : List Int) (L : List Int), ∃ t, addL L l = L ++ t ∧ ∀ q ∈ l, q ∈ addL L l
 | [], L => ⟨[], by simp [addL], by simp⟩
 | q :: l, L => by
  obtain ⟨t, h1, h2⟩ := zkt l (if q ∈ L then L else L ++ [q])
  have hq : q ∈ (if q ∈ L then L else L ++ [q]) := by split <;> simp_all
  refine ⟨(if q ∈ L then [] else [q]) ++ t, ?_, fun u hu => ?_⟩
  ·
   rw [addL, h1]; split <;> simp
  ·
   rw [addL]
   rcases List.mem_cons.1 hu with rfl | hu
   ·
    rw [h1]; exact List.mem_append_left _ hq
   ·
    exact h2 u hu
theorem zke (n : Net) (x : Int) (L : List Int) : ∀ k, ∃ t, rndW n x L k = L ++ t
 | 0 => ⟨[], by simp [rndW]⟩
 | k + 1 => by
  obtain ⟨t, h⟩ := zke n x L k
  rw [rndW, addT, h]
  split
  ·
   obtain ⟨u, h2, _⟩ := zkt (gti n.trans k).out (L ++ t)
   exact ⟨t ++ u, by rw [h2, List.append_assoc]⟩
  ·
   exact ⟨t, rfl⟩
theorem zs5 (n : Net) (x : Int) (L : List Int) : ∀ (k j : Nat), j < k → x ∈ (gti n.trans j).inn → ∀ q ∈ (gti n.trans j).out, q ∈ rndW n x L k
 | 0, j, h, _, _, _ => by omega
 | k + 1, j, h, hx, q, hq => by
  rw [rndW]
  by_cases hj : j = k
  ·
   subst hj
   rw [addT, if_pos hx]
   exact (zkt _ _).choose_spec.2 q hq
  ·
   have h1 := zs5 n x L k j (by omega) hx q hq
   unfold addT
   split
   ·
    obtain ⟨t, h2, _⟩ := zkt (gti n.trans k).out (rndW n x L k)
    rw [h2]; exact List.mem_append_left _ h1
   ·
    exact h1
def LC (n : Net) (L : List Int) (i : Nat) : Prop := ∀ j, j < i → ∀ k, k < n.trans.length → gti L j ∈ (gti n.trans k).inn → ∀ q ∈ (gti n.trans k).out, q ∈ L
theorem gti_app {α : Type} [Inhabited α] {L t : List α} {j : Nat} (h : j < L.length) : gti (L ++ t) j = gti L j := by unfold gti; rw [List.getElem?_append_left h]
theorem LC.rnd {n : Net} {L : List Int} {i : Nat} (h : LC n L i) (hi : i < L.length) : LC n (rndW n (gti L i) L n.trans.length) (i + 1) := by
 intro j hj k hk hin q hq
 obtain ⟨t, ht⟩ := zke n (gti L i) L n.trans.length
 have hjl : j < L.length := by omega
 have e : gti (rndW n (gti L i) L n.trans.length) j = gti L j := by rw [ht, gti_app hjl]
 rw [e] at hin
 by_cases hji : j = i
 ·
  subst hji
  exact zs5 n _ L n.trans.length k hk hin q hq
 ·
  rw [ht]
  exact List.mem_append_left _ (h j (by omega) k hk hin q hq)
theorem LC.all {n : Net} {s : Int} {L : List Int} (h : LI n s L) (hc : LC n L L.length) (p : Int) : p ∈ L ↔ Rch n false s p := by
 refine ⟨h.rch p, fun hr => ?_⟩
 induction hr with
 | start => exact h.st
 | @step k p q hk hin _ hq ih =>
  obtain ⟨j, hj, rfl⟩ := List.getElem_of_mem ih
  have e : gti L j = L[j] := by unfold gti; rw [List.getElem?_eq_getElem hj]; rfl
  exact hc j hj k hk (by rw [e]; exact hin) q hq
theorem zpl {n : Net} {s : Int} (hp : Plc n) (h40 : n.places ≤ 40) : ∀ (f i : Nat) (L : List Int), 41 ≤ f + i → i ≤ L.length → LI n s L → LC n L i → LI n s (rchW n f i L) ∧ LC n (rchW n f i L) (rchW n f i L).length
 | 0, i, L, hf, hi, h, hc => by have := h.len; omega
 | f + 1, i, L, hf, hi, h, hc => by
  rw [rchW]
  by_cases hlt : i < L.length
  ·
   rw [if_pos hlt]
   obtain ⟨t, ht⟩ := zke n (gti L i) L n.trans.length
   exact zpl hp h40 f (i + 1) _ (by omega) (by rw [ht]; simp; omega) (h.rnd hp (h.rch _ (gti_mem hlt)) (Nat.le_refl _)) (hc.rnd hlt)
  ·
   rw [if_neg hlt]
   obtain rfl : i = L.length := by omega
   exact ⟨h, hc⟩
theorem LI.init {n : Net} {s : Int} (h : 0 ≤ s ∧ s < n.places) : LI n s [s] := ⟨by simp, fun p hp => by simp at hp; subst hp; exact h, by simp, fun p hp => by simp at hp; subst hp; exact .start⟩
theorem zm3 {n : Net} {s : Int} (hv : zca n = true) (h : 0 ≤ s ∧ s < n.places) (p : Int) : p ∈ zjy n s ↔ Rch n false s p := by
 have h1 := zpl (Plc.of hv) (zbo hv).2.1 41 0 [s] (by omega) (by omega) (LI.init h) (fun j hj => by omega)
 exact LC.all h1.1 h1.2 p
end Go.Proofs.YtohmldibkojkfaaGreatDoor.Aw
end
section
namespace Go.Proofs.YtohmldibkojkfaaGreatDoor.Aw
open Go.RowKit Go.Proofs
variable {P : Program} [IsP P]
theorem zjj {α : Type} [Inhabited α] {l : List α} {x : α} {k : Nat} (hlt : k < l.length) (h : x ∉ l.take k) (hne : gti l k ≠ x) : x ∉ l.take (k + 1) := by
 rw [List.take_add_one, zbn hlt]
 simp only [List.mem_append, Option.toList_some, List.mem_singleton, not_or]
 exact ⟨h, fun e => hne e.symm⟩
theorem zmd (l : List Int) (x : Int) : Pure P 46 [eL eI l, eI x] (eB (decide (x ∈ l))) := by
 refine zcu (by rw [IsP.eq (P := P)]; exact Tryz.func46) rfl rfl rfl rfl rfl (by repeat' (first | exact Lo.s _ | exact zar | refine zaj ?_ ?_ | refine za1 ?_ | refine Lo.agg _ ?_ | refine Lo.sl _ ?_ | intro _)) (.s _) (by simp only [argF]; rfl) ?_
 refine zaf (zab (zac rfl (zae (zaf (zaf ?_)))))
 refine zhn (d := 0) rfl (fun ha => ?_)
 unfold maxLen at ha
 refine zab (zac rfl (zae (zah (zaq ?_))))
 refine zcd (S := Nat) (fun k => [(0, eL eI l), (1, eI x), (5, eI k)]) (fun _ => []) (fun k => k ≤ l.length ∧ x ∉ l.take k) (fun k => l.length - k) 0 (zbx _ ⟨rfl, rfl, rfl, trivial⟩) ⟨by omega, by simp⟩ (fun k hk => ?_)
 refine zaf (zaf (zab (zac rfl (zac rfl (zad rfl rfl (zaa rfl) (zak rfl ts48 rfl) (zad rfl rfl (zaa rfl) (zaz rfl rfl rfl) (zae (zah ?_))))))))
 refine zeg rfl (fun h => ?_) (fun h => ?_)
 ·
  have hlt : k < l.length := by omega
  refine zao (zaf (zaq (zaf (zab (zac rfl (zac rfl (zad rfl rfl (zaa rfl) (zan rfl ts48 ti3 rfl rfl rfl (zbz hlt) rfl) (zbl ta3 rfl (zac rfl (zad rfl rfl (zaa rfl) (zcc rfl rfl rfl) (zae (zah ?_))))))))))))
  refine zeg rfl (fun h => ?_) (fun h => ?_)
  ·
   refine zaf (zab (zac rfl (zae (zah ?_))))
   (refine zav ?_; repeat (first | refine za6 ?_ | refine za7 ?_))
   refine zbj (.inr rfl) rfl (congrArg eB ?_)
   have : x ∈ l := h ▸ gti_mem hlt
   simp [this]
  ·
   refine zao (zb3 (zah (zab (zac rfl (zad rfl rfl (zaa rfl) (za4 rfl rfl rfl (IntWalk.i64_in _ (by omega))) (zac rfl (zae (zah ?_))))))))
   exact ⟨k + 1, ⟨by omega, zjj hlt hk.2 h⟩, by omega, zbx _ ⟨rfl, rfl, rfl, trivial⟩⟩
 ·
  (refine zb1 ?_; repeat (first | refine zcx ?_ | refine zbs ?_ | refine zbe rfl ?_ | refine zb3 ?_ | refine zah ?_ | refine zaf ?_ | refine zao ?_ | refine zaq ?_))
  refine zab (zac rfl (zae (zah ?_)))
  (refine zav ?_; repeat (first | refine za6 ?_ | refine za7 ?_))
  refine zbj (.inr rfl) rfl (congrArg eB ?_)
  have h2 := hk.2
  rw [List.take_of_length_le (by omega)] at h2
  simp [h2]
theorem zvz (a b : List Int) : Pure P 47 [eL eI a, eL eI b] (eB (a.any fun y => decide (y ∈ b))) := by
 refine zcu (by rw [IsP.eq (P := P)]; exact Tryz.func47) rfl rfl rfl rfl rfl (by repeat' (first | exact Lo.s _ | exact zar | refine zaj ?_ ?_ | refine za1 ?_ | refine Lo.agg _ ?_ | refine Lo.sl _ ?_ | intro _)) (.s _) (by simp only [argF]; rfl) ?_
 refine zaf (zab (zac rfl (zae (zaf (zaf ?_)))))
 refine zhn (d := 0) rfl (fun ha => ?_)
 unfold maxLen at ha
 refine zab (zac rfl (zae (zah (zaq ?_))))
 refine zcd (S := Nat) (fun k => [(0, eL eI a), (1, eL eI b), (5, eI k)]) (fun _ => []) (fun k => k ≤ a.length ∧ ∀ y ∈ a.take k, y ∉ b) (fun k => a.length - k) 0 (zbx _ ⟨rfl, rfl, rfl, trivial⟩) ⟨by omega, by simp⟩ (fun k hk => ?_)
 refine zaf (zaf (zab (zac rfl (zac rfl (zad rfl rfl (zaa rfl) (zak rfl ts48 rfl) (zad rfl rfl (zaa rfl) (zaz rfl rfl rfl) (zae (zah ?_))))))))
 refine zeg rfl (fun h => ?_) (fun h => ?_)
 ·
  have hlt : k < a.length := by omega
  refine zao (zaf (zaq (zaf (zab (zac rfl (zac rfl (zac rfl (zad rfl rfl (zaa rfl) (zan rfl ts48 ti3 rfl rfl rfl (zbz hlt) rfl) (zbl ta3 rfl (zad rfl rfl (zaa rfl) (zai rfl rfl (zmd b (gti a k)) (zag rfl (zag rfl zam))) (zae (zah ?_))))))))))))
  refine zeg rfl (fun h => ?_) (fun h => ?_)
  ·
   refine zaf (zab (zac rfl (zae (zah ?_))))
   (refine zav ?_; repeat (first | refine za6 ?_ | refine za7 ?_))
   refine zbj (.inr rfl) rfl (congrArg eB ?_)
   symm
   exact List.any_eq_true.2 ⟨_, gti_mem hlt, by simpa using h⟩
  ·
   refine zao (zb3 (zah (zab (zac rfl (zad rfl rfl (zaa rfl) (za4 rfl rfl rfl (IntWalk.i64_in _ (by omega))) (zac rfl (zae (zah ?_))))))))
   refine ⟨k + 1, ⟨by omega, fun y hy => ?_⟩, by omega, zbx _ ⟨rfl, rfl, rfl, trivial⟩⟩
   rw [List.take_add_one, zbn hlt] at hy
   simp only [List.mem_append, Option.toList_some, List.mem_singleton] at hy
   rcases hy with hy | rfl
   ·
    exact hk.2 y hy
   ·
    exact h
 ·
  (refine zb1 ?_; repeat (first | refine zcx ?_ | refine zbs ?_ | refine zbe rfl ?_ | refine zb3 ?_ | refine zah ?_ | refine zaf ?_ | refine zao ?_ | refine zaq ?_))
  refine zab (zac rfl (zae (zah ?_)))
  (refine zav ?_; repeat (first | refine za6 ?_ | refine za7 ?_))
  refine zbj (.inr rfl) rfl (congrArg eB ?_)
  have h2 := hk.2
  rw [List.take_of_length_le (by omega)] at h2
  symm
  exact List.any_eq_false.2 (fun y hy => by simpa using h2 y hy)
set_option maxHeartbeats 4000000 in
theorem zs8 (n : Net) (s : Int) (hval : zca n = true) (hs : 0 ≤ s ∧ s < n.places) : Pure P 44 [eN n, eI s] (eL eI (zjy n s)) := by
 have hpl := zbo hval
 have hplc := Plc.of hval
 refine zcu (by rw [IsP.eq (P := P)]; exact Tryz.func44) rfl rfl rfl rfl rfl (by repeat' (first | exact Lo.s _ | exact zar | refine zaj ?_ ?_ | refine za1 ?_ | refine Lo.agg _ ?_ | refine Lo.sl _ ?_ | intro _)) (za1 fun _ => .s _) (by simp only [argF]; rfl) ?_
 refine zaf (zab (zad rfl rfl (zaa rfl) (zbv rfl rfl rfl rfl) ?_))
 refine zau (zbk (id := 0) rfl) (zau (zch (d := 2) rfl rfl rfl) ?_)
 refine zac rfl (zae (zaf (zab (zac rfl (zad rfl rfl (zaa rfl) (ziy rfl ts48 ti3 rfl rfl rfl rfl) (zac rfl (zae (zaf (zaf (zab (zac rfl (zae (zah (zaq ?_))))))))))))))
 refine zcd (S := List Int × Nat) (fun q => [(2, .ref (eN n).cells), (5, .own 0 1 q.1.length), (6, eI q.2)]) (fun q => [.row 1 (q.1.map eI)]) (fun q => q.2 ≤ q.1.length ∧ LI n s q.1 ∧ zjy n s = rchW n (41 - q.2) q.2 q.1) (fun q => 41 - q.2) ([s], 0)
  (zc3 [1] (by decide) ⟨⟨_, rfl, .rowE (zdl fun _ => (Lo.s _).cells) rfl⟩, trivial⟩ ⟨.lo _ (by repeat' (first | exact Lo.s _ | exact zar | refine zaj ?_ ?_ | refine za1 ?_ | refine Lo.cells ?_ | refine Lo.agg _ ?_ | refine Lo.ref _ ?_ | refine Lo.tup _ ?_ | refine Lo.fn _ _ ?_ | refine Lo.sl _ ?_ | intro _)), .own 1 0 1 _ _ rfl rfl, .lo _ (.s _), trivial⟩) ⟨by simp, LI.init hs, rfl⟩ ?_
 rintro ⟨L, i⟩ ⟨hil, HL, HE⟩
 dsimp only at hil HL HE ⊢
 have hll := HL.len
 refine zaf (zaf (zab (zac rfl (zac rfl (zad rfl rfl (zaa rfl) (zb7 rfl ts48 rfl) (zad rfl rfl (zaa rfl) (zaz rfl rfl rfl) (zae (zah ?_))))))))
 refine zeg rfl (fun h => ?_) (fun h => ?_)
 ·
  have hlt : i < L.length := by omega
  have HE1 : zjy n s = rchW n (41 - (i + 1)) (i + 1) (rndW n (gti L i) L n.trans.length) := by
   rw [HE, show 41 - i = (41 - (i + 1)) + 1 by omega, rchW, if_pos hlt]
  have hxr := HL.rch _ (gti_mem hlt)
  obtain ⟨x, hx⟩ : ∃ x, gti L i = x := ⟨_, rfl⟩
  rw [hx] at HE1 hxr
  refine zao (zaf (zaq (zaf (zab (zac rfl (zae (zah (zaq ?_))))))))
  refine zcd (S := Nat) (fun k => [(2, .ref (eN n).cells), (5, .own 0 1 (rndW n x L k).length), (6, eI i), (7, eI k)]) (fun k => [.row 1 ((rndW n x L k).map eI)]) (fun k => k ≤ n.trans.length) (fun k => n.trans.length - k) 0 (zbx _ ⟨rfl, rfl, rfl, rfl, trivial⟩) (Nat.zero_le _) (fun k hk => ?_)
  have HK := HL.rnd hplc hxr hk
  have hkl := HK.len
  have hki : gti (rndW n x L k) i = x ∧ i < (rndW n x L k).length := by
   obtain ⟨t, ht⟩ := zke n x L k
   rw [ht, gti_app hlt, hx]
   exact ⟨rfl, by simp; omega⟩
  have HS : rndW n x L (k + 1) = addT n x (rndW n x L k) k := rfl
  have HX : k = n.trans.length → zjy n s = rchW n (41 - (i + 1)) (i + 1) (rndW n x L k) := fun h => by rw [HE1, h]
  generalize rndW n x L k = K at *
  refine zaf (zaf (zab (zac rfl (zbh zc7 rfl (zbl ta22 rfl (zad rfl rfl (zaa rfl) (zak rfl ts22 rfl) (zad rfl rfl (zaa rfl) (zaz rfl rfl rfl) (zae (zah ?_)))))))))
  refine zeg rfl (fun h => ?_) (fun h => ?_)
  ·
   have hlk : k < n.trans.length := by omega
   obtain ⟨_, _, hil2, hol2⟩ := zkc hval hlk
   refine zao (zaf (zaq (zaf (zaf ?_))))
   refine zb6 hmix ?_
   refine zba (by kernel_rfl) ?_
   refine qx_f zc7 rfl (qx_l ta22 rfl (qx_s rfl (za9 rfl rfl (zaa rfl) (zan rfl ts22 ti65 rfl rfl rfl (zbz hlk) rfl) (qx_f zfu rfl (qx_l ta48 rfl (qx_s rfl (qx_s rfl (za9 rfl rfl (zaa rfl) (za2 rfl ts48 ti3 rfl rfl rfl hki.2) (za9 rfl rfl (zaa rfl) (zap rfl ta3 rfl rfl rfl (zbz hki.2) rfl) (za9 rfl rfl (zaa rfl) (zai rfl rfl (zmd (gti n.trans k).inn (gti K i)) (zag rfl (zag rfl zam))) (za9 rfl rfl (zaa rfl) (zqi rfl rfl) ?_)))))))))))
   refine zcp ?_
   refine zah ?_
   rw [hki.1]
   refine zeg rfl (fun h0 => ?_) (fun h0 => ?_)
   ·
    (refine zb1 ?_; repeat (first | refine zcx ?_ | refine zbs ?_ | refine zbe rfl ?_ | refine zb3 ?_ | refine zah ?_ | refine zaf ?_ | refine zao ?_ | refine zaq ?_))
    refine zab (zac rfl (zad rfl rfl (zaa rfl) (za4 rfl rfl rfl (IntWalk.i64_in _ (by omega))) (zac rfl (zae (zah ?_)))))
    have hS : rndW n x L (k + 1) = K := by rw [HS]; unfold addT; rw [if_neg h0]
    refine ⟨k + 1, by omega, by omega, ?_⟩
    rw [hS]
    exact zbx _ ⟨rfl, rfl, rfl, rfl, trivial⟩
   ·
    have hS : rndW n x L (k + 1) = addL K (gti n.trans k).out := by rw [HS]; unfold addT; rw [if_pos (by simpa using h0)]
    have h0' : x ∈ (gti n.trans k).inn := by simpa using h0
    have hout : ∀ q ∈ (gti n.trans k).out, (0 ≤ q ∧ q < n.places) ∧ Rch n false s q := fun q hq => ⟨hplc.out hlk false q hq, .step hlk h0' hxr hq⟩
    refine zao (zaf (zab (zac rfl (zae (zah (zaq ?_))))))
    refine zcd (S := Nat) (fun j => [(2, .ref (eN n).cells), (5, .own 0 1 (addL K ((gti n.trans k).out.take j)).length), (6, eI i), (7, eI k), (8, eI j)]) (fun j => [.row 1 ((addL K ((gti n.trans k).out.take j)).map eI)]) (fun j => j ≤ (gti n.trans k).out.length) (fun j => (gti n.trans k).out.length - j) 0 (zbx _ ⟨rfl, rfl, rfl, rfl, rfl, trivial⟩) (Nat.zero_le _) (fun j hj => ?_)
    have HJ : LI n s (addL K ((gti n.trans k).out.take j)) := HK.addL (fun q hq => hout q (List.mem_of_mem_take hq))
    have hjl := HJ.len
    have HSJ : j < (gti n.trans k).out.length → addL K ((gti n.trans k).out.take (j + 1)) = if gti (gti n.trans k).out j ∈ addL K ((gti n.trans k).out.take j) then addL K ((gti n.trans k).out.take j) else addL K ((gti n.trans k).out.take j) ++ [gti (gti n.trans k).out j] := fun h => by rw [take_snoc' h, zq1]
    have HXJ : j = (gti n.trans k).out.length → rndW n x L (k + 1) = addL K ((gti n.trans k).out.take j) := fun h => by rw [hS, h, List.take_length]
    generalize addL K ((gti n.trans k).out.take j) = J at *
    refine zaf (zaf (zab (zac rfl (zbh zc7 rfl (zbl ta22 rfl (zac rfl (zad rfl rfl (zaa rfl) (zan rfl ts22 ti65 rfl rfl rfl (zbz hlk) rfl) (zbh zfk rfl (zbl ta48 rfl (zad rfl rfl (zaa rfl) (zak rfl ts48 rfl) (zad rfl rfl (zaa rfl) (zaz rfl rfl rfl) (zae (zah ?_)))))))))))))
    refine zeg rfl (fun h => ?_) (fun h => ?_)
    ·
     have hlj : j < (gti n.trans k).out.length := by omega
     have HSJ2 := HSJ hlj
     refine zao (zaf (zaq (zaf (zab (zac rfl (zbh zc7 rfl (zbl ta22 rfl (zac rfl (zad rfl rfl (zaa rfl) (zan rfl ts22 ti65 rfl rfl rfl (zbz hlk) rfl) (zbh zfk rfl (zbl ta48 rfl (zac rfl (zad rfl rfl (zaa rfl) (zan rfl ts48 ti3 rfl rfl rfl (zbz hlj) rfl) (zbl ta3 rfl ?_))))))))))))))
     refine zad rfl rfl (zaa rfl) (zu8 rfl rfl (zmd J (gti (gti n.trans k).out j)) (by repeat' (first | exact zij.nil | refine zij.cons ?_ ?_ | exact .own _ _ _ _ _ rfl rfl (by first | rfl | simp) | exact .refl _)) (by repeat' (first | exact Flat.s _ | exact zzp | refine zxo ?_ ?_ | refine Flat.agg ?_ | refine Flat.tup ?_))) ?_
     refine zad rfl rfl (zaa rfl) (zqi rfl rfl) (zae (zah ?_))
     refine zeg rfl (fun h1 => ?_) (fun h1 => ?_)
     ·
      refine zab (zac rfl (zbh zc7 rfl (zbl ta22 rfl (zac rfl (zad rfl rfl (zaa rfl) (zan rfl ts22 ti65 rfl rfl rfl (zbz hlk) rfl) (zbh zfk rfl (zbl ta48 rfl (zac rfl (zad rfl rfl (zaa rfl) (zan rfl ts48 ti3 rfl rfl rfl (zbz hlj) rfl) (zbl ta3 rfl (zad rfl rfl (zaa rfl) (ziy rfl ts48 ti3 rfl rfl rfl rfl) ?_)))))))))))
      refine zad rfl rfl (zaa rfl) (zb0 rfl ts48 ti3 rfl (by decide) rfl rfl (by first | rfl | (simp; done) | (simp; omega)) rfl (by first | exact .own _ _ _ rfl rfl _ (by first | rfl | simp) | exact .emp | exact .nil | exact .sl _ (by first | simp; done | intro e he; simp at he; obtain ⟨_, _, rfl⟩ := he; rfl)) (by first | omega | (simp; omega) | (unfold maxLen; simp; omega)) (by first | omega | (simp; omega) | (unfold maxLen; simp; omega))) ?_
      refine zac rfl (zae (zb3 (zah (zab (zac rfl (zad rfl rfl (zaa rfl) (za4 rfl rfl rfl (IntWalk.i64_in _ (by omega))) (zac rfl (zae (zah ?_)))))))))
      refine ⟨j + 1, by omega, by omega, ?_⟩
      rw [HSJ2, if_neg h1]
      exact zc3 [2] (by decide) ⟨⟨_, rfl, .rowE (zdl fun _ => (Lo.s _).cells) (by rw [List.map_append]; rfl)⟩, trivial⟩ ⟨.lo _ (by repeat' (first | exact Lo.s _ | exact zar | refine zaj ?_ ?_ | refine za1 ?_ | refine Lo.cells ?_ | refine Lo.agg _ ?_ | refine Lo.ref _ ?_ | refine Lo.tup _ ?_ | refine Lo.fn _ _ ?_ | refine Lo.sl _ ?_ | intro _)), .own 2 0 1 _ _ rfl (by simp), .lo _ (.s _), .lo _ (.s _), .lo _ (.s _), trivial⟩
     ·
      refine zao (zb3 (zah (zab (zac rfl (zad rfl rfl (zaa rfl) (za4 rfl rfl rfl (IntWalk.i64_in _ (by omega))) (zac rfl (zae (zah ?_))))))))
      refine ⟨j + 1, by omega, by omega, ?_⟩
      rw [HSJ2, if_pos (by simpa using h1)]
      exact zbx _ ⟨rfl, rfl, rfl, rfl, rfl, trivial⟩
    ·
     have HXJ2 := HXJ (by omega)
     (refine zb1 ?_; repeat (first | refine zcx ?_ | refine zbs ?_ | refine zbe rfl ?_ | refine zb3 ?_ | refine zah ?_ | refine zaf ?_ | refine zao ?_ | refine zaq ?_))
     refine zab (zac rfl (zad rfl rfl (zaa rfl) (za4 rfl rfl rfl (IntWalk.i64_in _ (by omega))) (zac rfl (zae (zah ?_)))))
     refine ⟨k + 1, by omega, by omega, ?_⟩
     rw [HXJ2]
     exact zbx _ ⟨rfl, rfl, rfl, rfl, trivial⟩
  ·
   (refine zb1 ?_; repeat (first | refine zcx ?_ | refine zbs ?_ | refine zbe rfl ?_ | refine zb3 ?_ | refine zah ?_ | refine zaf ?_ | refine zao ?_ | refine zaq ?_))
   refine zab (zac rfl (zad rfl rfl (zaa rfl) (za4 rfl rfl rfl (IntWalk.i64_in _ (by omega))) (zac rfl (zae (zah ?_)))))
   have := HX (by omega)
   exact ⟨(K, i + 1), ⟨by dsimp only; omega, HK, this⟩, by dsimp only; omega, zbx _ ⟨rfl, rfl, rfl, trivial⟩⟩
 ·
  (refine zb1 ?_; repeat (first | refine zcx ?_ | refine zbs ?_ | refine zbe rfl ?_ | refine zb3 ?_ | refine zah ?_ | refine zaf ?_ | refine zao ?_ | refine zaq ?_))
  have hiL : i = L.length := by omega
  have HE2 : zjy n s = L := by
   rw [HE, show 41 - i = (41 - (i + 1)) + 1 by omega, rchW, if_neg (by omega)]
  refine zab (zac rfl (zac rfl (zae (zah ?_))))
  (refine zav ?_; repeat (first | refine za6 ?_ | refine za7 ?_))
  rw [HE2]
  exact post1f (.inr rfl) rfl (.own _ _ _ _ _ rfl rfl (by simp))
end Go.Proofs.YtohmldibkojkfaaGreatDoor.Aw
end
section
namespace Go.Proofs.YtohmldibkojkfaaGreatDoor.Aw
open Go.RowKit Go.Proofs
variable {P : Program} [IsP P]
theorem zr1 {n : Net} {i : Nat} (h : i < n.trans.length) : gti (revN n).trans i = revT (gti n.trans i) := by
 unfold gti revN
 simp only [List.getElem?_map]
 rw [List.getElem?_eq_getElem h]; rfl
theorem z12 {n : Net} {s p : Int} : Rch (revN n) false s p ↔ Rch n true s p := by
 constructor
 ·
  intro h
  induction h with
  | start => exact .start
  | @step i p q hi hin _ hq ih =>
   have hi2 : i < n.trans.length := by simpa [revN] using hi
   rw [zr1 hi2] at hin hq
   exact .step hi2 hin ih hq
 ·
  intro h
  induction h with
  | start => exact .start
  | @step i p q hi hin _ hq ih =>
   refine .step (i := i) (p := p) (by simpa [revN] using hi) ?_ ih ?_
   ·
    rw [zr1 hi]; exact hin
   ·
    rw [zr1 hi]; exact hq
theorem zmr {n : Net} : ∀ {l : List Tr}, zd2 n l = true → zd2 (revN n) (l.map revT) = true
 | [], h => by
  simp only [zd2, List.map_nil, Bool.and_eq_true] at h ⊢
  exact ⟨h.2, h.1⟩
 | t :: l, h => by
  rw [zd2] at h
  cases ht : trB n.places t with
  | false => rw [ht] at h; simp at h
  | true =>
   rw [ht] at h
   have h2 : zd2 n l = true := by simpa using h
   have e : trB (revN n).places (revT t) = true := by
    unfold trB at ht ⊢
    simp only [Bool.and_eq_true] at ht ⊢
    exact ⟨⟨ht.1.1, ht.2⟩, ht.1.2⟩
   rw [List.map_cons, zd2, e, if_pos rfl]
   exact zmr h2
theorem zo2 {n : Net} (h : zca n = true) : zca (revN n) = true := by
 unfold zca at h ⊢
 split at h
 ·
  cases h
 ·
  rename_i hc
  rw [if_neg (by simpa [revN] using hc)]
  exact zmr h
theorem zqx {n : Net} {back : Bool} {L : List Int} (hm : ∀ p, p ∈ L ↔ Rch n back (zr8 n back) p) (i : Nat) : ((insB back (gti n.trans i)).any fun y => decide (y ∈ L)) = true ↔ RchT n back (zr8 n back) i := by
 rw [List.any_eq_true]
 constructor
 ·
  rintro ⟨p, hp, h⟩; exact ⟨p, hp, (hm p).1 (by simpa using h)⟩
 ·
  rintro ⟨p, hp, h⟩; exact ⟨p, hp, by simpa using (hm p).2 h⟩
set_option maxHeartbeats 4000000 in
theorem zfv (n : Net) : Pure P 16 [eN n] (eB (wfB n)) := by
 have hv := zv3 (P := P) n
 refine zcu (by rw [IsP.eq (P := P)]; exact Tryz.func16) rfl rfl rfl rfl rfl (by repeat' (first | exact Lo.s _ | exact zar | refine zaj ?_ ?_ | refine za1 ?_ | refine Lo.agg _ ?_ | refine Lo.sl _ ?_ | intro _)) (.s _) (by simp only [argF]; rfl) ?_
 refine zaf (zab (zad rfl rfl (zaa rfl) (zbv rfl rfl rfl rfl) ?_))
 refine zau (zbk (id := 0) rfl) (zau (zch (d := 1) rfl rfl rfl) ?_)
 refine zac rfl (zae (zaf (zaf ?_)))
 cases hval : zca n with
 | false =>
  rw [hval] at hv
  refine zab (zbr ta24 ti24 rfl (zad rfl rfl (zaa rfl) (zai rfl rfl (hv) (zag rfl zam)) (zad rfl rfl (zaa rfl) (zay rfl rfl) (zac rfl (zat rfl (zat rfl (zat rfl (zat rfl (zat rfl (zac rfl (zae (zah (za0 rfl (zaf (zab (zac rfl (zae (zah ?_))))))))))))))))))
  (refine zav ?_; repeat (first | refine za6 ?_ | refine za7 ?_))
  exact zbj (.inr rfl) rfl (congrArg eB (zdi (fun h => by rw [h.valid] at hval; cases hval)).symm)
 | true =>
  rw [hval] at hv
  have hends := zej hval
  have hpl := zbo hval
  have hplc := Plc.of hval
  refine zab (zbr ta24 ti24 rfl (zad rfl rfl (zaa rfl) (zai rfl rfl (hv) (zag rfl zam)) (zad rfl rfl (zaa rfl) (zay rfl rfl) (zac rfl (zbh zio rfl (zbl ta3 rfl (zbh zjt rfl (zbl ta3 rfl (zad rfl rfl (zal rfl rfl rfl) (zcc rfl rfl rfl) (zac rfl (zae (zah ?_))))))))))))
  refine zeg rfl (fun hne => ?_) (fun hne => ?_)
  ·
   refine zaf (zab (zac rfl (zae (zah ?_))))
   (refine zav ?_; repeat (first | refine za6 ?_ | refine za7 ?_))
   exact zbj (.inr rfl) rfl (congrArg eB (zdi (fun h => h.ne hne)).symm)
  ·
   have hf := zs8 (P := P) n n.source hval hends.1
   have hr := zuk (P := P) n hval
   have hb := zs8 (P := P) (revN n) n.sink (zo2 hval) hends.2
   have hfm := fun p => zm3 hval hends.1 p
   have hbm := fun p => (zm3 (zo2 hval) hends.2 p).trans z12
   generalize zjy n n.source = fr at *
   generalize zjy (revN n) n.sink = bk at *
   refine zao (zaf (zab (zbr ta24 ti24 rfl (zbh zio rfl (zbl ta3 rfl (zad rfl rfl (zaa rfl) (zai rfl rfl (hf) (zag rfl (zag rfl zam))) (zac rfl (zae (zaf ?_)))))))))
   refine zb6 hmix ?_
   refine zba (by kernel_rfl) ?_
   refine qx_w ta24 ti24 rfl (za9 rfl rfl (zaa rfl) (zai rfl rfl (hr) (zag rfl zam)) (qx_f zjt rfl (qx_l ta3 rfl (za9 rfl rfl (zaa rfl) (zai rfl rfl (hb) (zag rfl (zag rfl zam))) (qx_s rfl ?_)))))
   refine zcp ?_
   refine zaf (zaf (zab (zac rfl (zae (zah (zaq ?_))))))
   refine zcd (S := Nat) (fun k => [(1, .ref (eN n).cells), (3, eL eI fr), (4, eL eI bk), (5, eI k)]) (fun _ => []) (fun k => (k : Int) ≤ n.places ∧ ∀ j : Nat, j < k → (j : Int) ∈ fr ∧ (j : Int) ∈ bk) (fun k => n.places.toNat - k) 0 (zc3 [] (by decide) trivial ⟨.lo _ (by repeat' (first | exact Lo.s _ | exact zar | refine zaj ?_ ?_ | refine za1 ?_ | refine Lo.cells ?_ | refine Lo.agg _ ?_ | refine Lo.ref _ ?_ | refine Lo.tup _ ?_ | refine Lo.fn _ _ ?_ | refine Lo.sl _ ?_ | intro _)), .lo _ (za1 fun _ => .s _), .lo _ (za1 fun _ => .s _), .lo _ (.s _), trivial⟩) ⟨by omega, fun j hj => by omega⟩ (fun k hk => ?_)
   refine zaf (zaf (zab (zac rfl (zbh zkz rfl (zbl ta3 rfl (zad rfl rfl (zaa rfl) (zaz rfl rfl rfl) (zae (zah ?_))))))))
   refine zeg rfl (fun h => ?_) (fun h => ?_)
   ·
    have h1 := zmd (P := P) fr (k : Int)
    have h2 := zmd (P := P) bk (k : Int)
    have hq1 : (k : Int) ∈ fr ↔ Rch n false n.source k := hfm _
    have hq2 : (k : Int) ∈ bk ↔ Rch n true n.sink k := hbm _
    have hbad : ¬ ((k : Int) ∈ fr ∧ (k : Int) ∈ bk) → wfB n = false := fun hn => zdi (fun hw => hn ⟨hq1.2 (hw.places false k (by omega)), hq2.2 (hw.places true k (by omega))⟩)
    refine zao (zaf (zaq (zaf ?_)))
    by_cases hfk : (k : Int) ∈ fr
    ·
     rw [decide_eq_true hfk] at h1
     by_cases hbk : (k : Int) ∈ bk
     ·
      rw [decide_eq_true hbk] at h2
      refine zab (zac rfl (zac rfl (zad rfl rfl (zaa rfl) (zai rfl rfl (h1) (zag rfl (zag rfl zam))) (zad rfl rfl (zaa rfl) (zay rfl rfl) (zac rfl (zac rfl (zac rfl (zad rfl rfl (zal rfl rfl rfl) (zai rfl rfl (h2) (zag rfl (zag rfl zam))) (zad rfl rfl (zal rfl rfl rfl) (zay rfl rfl) (zac rfl (zae (zah (zax rfl (zao (zb3 (zah (zab (zac rfl (zad rfl rfl (zaa rfl) (za4 rfl rfl rfl (IntWalk.i64_in _ (by omega))) (zac rfl (zae (zah ?_))))))))))))))))))))))
      refine ⟨k + 1, ⟨by omega, fun j hj => ?_⟩, by omega, zbx _ ⟨rfl, rfl, rfl, rfl, trivial⟩⟩
      by_cases e : j = k
      ·
       subst e; exact ⟨hfk, hbk⟩
      ·
       exact hk.2 j (by omega)
     ·
      rw [decide_eq_false hbk] at h2
      refine zab (zac rfl (zac rfl (zad rfl rfl (zaa rfl) (zai rfl rfl (h1) (zag rfl (zag rfl zam))) (zad rfl rfl (zaa rfl) (zay rfl rfl) (zac rfl (zac rfl (zac rfl (zad rfl rfl (zal rfl rfl rfl) (zai rfl rfl (h2) (zag rfl (zag rfl zam))) (zad rfl rfl (zal rfl rfl rfl) (zay rfl rfl) (zac rfl (zae (zah (za0 rfl (zaf (zab (zac rfl (zae (zah ?_))))))))))))))))))
      (refine zav ?_; repeat (first | refine za6 ?_ | refine za7 ?_))
      exact zbj (.inr rfl) rfl (congrArg eB (hbad (fun h => hbk h.2)).symm)
    ·
     rw [decide_eq_false hfk] at h1
     refine zab (zac rfl (zac rfl (zad rfl rfl (zaa rfl) (zai rfl rfl (h1) (zag rfl (zag rfl zam))) (zad rfl rfl (zaa rfl) (zay rfl rfl) (zac rfl (zat rfl (zat rfl (zat rfl (zat rfl (zac rfl (zae (zah (za0 rfl (zaf (zab (zac rfl (zae (zah ?_))))))))))))))))))
     (refine zav ?_; repeat (first | refine za6 ?_ | refine za7 ?_))
     exact zbj (.inr rfl) rfl (congrArg eB (hbad (fun h => hfk h.1)).symm)
   ·
    have hpl1 : ∀ j : Nat, j < n.places.toNat → (j : Int) ∈ fr ∧ (j : Int) ∈ bk := fun j hj => hk.2 j (by omega)
    clear hk h
    (refine zb1 ?_; repeat (first | refine zcx ?_ | refine zbs ?_ | refine zbe rfl ?_ | refine zb3 ?_ | refine zah ?_ | refine zaf ?_ | refine zao ?_ | refine zaq ?_))
    refine zab (zac rfl (zae (zah (zaq ?_))))
    refine zcd (S := Nat) (fun k => [(1, .ref (eN n).cells), (3, eL eI fr), (4, eL eI bk), (6, eI k)]) (fun _ => []) (fun k => k ≤ n.trans.length ∧ ∀ j : Nat, j < k → (n.source ∉ (gti n.trans j).out ∧ n.sink ∉ (gti n.trans j).inn) ∧ RchT n false n.source j ∧ RchT n true n.sink j) (fun k => n.trans.length - k) 0 (zbx _ ⟨rfl, rfl, rfl, rfl, trivial⟩) ⟨by omega, fun j hj => by omega⟩ (fun i hi => ?_)
    refine zaf (zaf (zab (zac rfl (zbh zc7 rfl (zbl ta22 rfl (zad rfl rfl (zaa rfl) (zak rfl ts22 rfl) (zad rfl rfl (zaa rfl) (zaz rfl rfl rfl) (zae (zah ?_)))))))))
    refine zeg rfl (fun h => ?_) (fun h => ?_)
    ·
     have hlt : i < n.trans.length := by omega
     have h1 := zmd (P := P) (gti n.trans i).out n.source
     have h2 := zmd (P := P) (gti n.trans i).inn n.sink
     have h3 := zvz (P := P) (gti n.trans i).inn fr
     have h4 := zvz (P := P) (gti n.trans i).out bk
     have q3 : ((gti n.trans i).inn.any fun y => decide (y ∈ fr)) = true ↔ RchT n false n.source i := zqx (back := false) hfm i
     have q4 : ((gti n.trans i).out.any fun y => decide (y ∈ bk)) = true ↔ RchT n true n.sink i := zqx (back := true) hbm i
     have hbad : ¬ ((n.source ∉ (gti n.trans i).out ∧ n.sink ∉ (gti n.trans i).inn) ∧ RchT n false n.source i ∧ RchT n true n.sink i) → wfB n = false := fun hn => zdi (fun hw => hn ⟨hw.no i hlt, hw.trans false i hlt, hw.trans true i hlt⟩)
     generalize hz3 : ((gti n.trans i).inn.any fun y => decide (y ∈ fr)) = z3 at *
     generalize hz4 : ((gti n.trans i).out.any fun y => decide (y ∈ bk)) = z4 at *
     refine zao (zaf (zaq (zaf (zab (zbh zc7 rfl (zbl ta22 rfl (zac rfl (zad rfl rfl (zaa rfl) (zan rfl ts22 ti65 rfl rfl rfl (zbz hlt) rfl) (zbr ta65 ti65 rfl (zad rfl rfl (zaa rfl) (zbw rfl ti65 rfl rfl) (zcg rfl (zaa rfl) (za8 rfl ti65 rfl rfl rfl rfl rfl rfl (by decide) (by decide)) (zae (zaf ?_)))))))))))))
     by_cases c1 : n.source ∈ (gti n.trans i).out
     ·
      rw [decide_eq_true c1] at h1
      refine zab (zbh zfk rfl (zad rfl rfl (zaa rfl) (zap rfl ta48 rfl rfl rfl rfl rfl) (zbh zio rfl (zbl ta3 rfl (zad rfl rfl (zaa rfl) (zai rfl rfl (h1) (zag rfl (zag rfl zam))) (zac rfl (zat rfl (zat rfl (zat rfl (zat rfl (zat rfl (zac rfl (zac rfl (zat rfl (zat rfl (zat rfl (zat rfl (zat rfl (zac rfl (zac rfl (zat rfl (zat rfl (zat rfl (zat rfl (zat rfl (zac rfl (zae (zah (za0 rfl (zaf (zab (zac rfl (zae (zah ?_))))))))))))))))))))))))))))))))))
      (refine zav ?_; repeat (first | refine za6 ?_ | refine za7 ?_))
      exact zbj (.inr rfl) rfl (congrArg eB (hbad (fun h => h.1.1 c1)).symm)
     ·
      rw [decide_eq_false c1] at h1
      by_cases c2 : n.sink ∈ (gti n.trans i).inn
      ·
       rw [decide_eq_true c2] at h2
       refine zab (zbh zfk rfl (zad rfl rfl (zaa rfl) (zap rfl ta48 rfl rfl rfl rfl rfl) (zbh zio rfl (zbl ta3 rfl (zad rfl rfl (zaa rfl) (zai rfl rfl (h1) (zag rfl (zag rfl zam))) (zac rfl (zbh zfu rfl (zad rfl rfl (zal rfl rfl rfl) (zap rfl ta48 rfl rfl rfl rfl rfl) (zbh zjt rfl (zbl ta3 rfl (zad rfl rfl (zal rfl rfl rfl) (zai rfl rfl (h2) (zag rfl (zag rfl zam))) (zac rfl (zac rfl (zat rfl (zat rfl (zat rfl (zat rfl (zat rfl (zac rfl (zac rfl (zat rfl ?_)))))))))))))))))))))
       refine zat rfl (zat rfl (zat rfl (zat rfl (zac rfl (zae (zah (za0 rfl (zaf (zab (zac rfl (zae (zah ?_))))))))))))
       (refine zav ?_; repeat (first | refine za6 ?_ | refine za7 ?_))
       exact zbj (.inr rfl) rfl (congrArg eB (hbad (fun h => h.1.2 c2)).symm)
      ·
       rw [decide_eq_false c2] at h2
       cases z3 with
       | false =>
        refine zab (zbh zfk rfl (zad rfl rfl (zaa rfl) (zap rfl ta48 rfl rfl rfl rfl rfl) (zbh zio rfl (zbl ta3 rfl (zad rfl rfl (zaa rfl) (zai rfl rfl (h1) (zag rfl (zag rfl zam))) (zac rfl (zbh zfu rfl (zad rfl rfl (zal rfl rfl rfl) (zap rfl ta48 rfl rfl rfl rfl rfl) (zbh zjt rfl (zbl ta3 rfl (zad rfl rfl (zal rfl rfl rfl) (zai rfl rfl (h2) (zag rfl (zag rfl zam))) (zac rfl (zac rfl (zbh zfu rfl (zad rfl rfl (zal rfl rfl rfl) (zap rfl ta48 rfl rfl rfl rfl rfl) ?_)))))))))))))))
        refine zac rfl (zad rfl rfl (zal rfl rfl rfl) (zai rfl rfl (h3) (zag rfl (zag rfl zam))) (zad rfl rfl (zal rfl rfl rfl) (zay rfl rfl) (zac rfl (zac rfl (zat rfl (zat rfl (zat rfl (zat rfl (zat rfl (zac rfl (zae (zah (za0 rfl (zaf (zab (zac rfl (zae (zah ?_))))))))))))))))))
        (refine zav ?_; repeat (first | refine za6 ?_ | refine za7 ?_))
        exact zbj (.inr rfl) rfl (congrArg eB (hbad (fun h => by have := q3.2 h.2.1; cases this)).symm)
       | true =>
        cases z4 with
        | false =>
         refine zab (zbh zfk rfl (zad rfl rfl (zaa rfl) (zap rfl ta48 rfl rfl rfl rfl rfl) (zbh zio rfl (zbl ta3 rfl (zad rfl rfl (zaa rfl) (zai rfl rfl (h1) (zag rfl (zag rfl zam))) (zac rfl (zbh zfu rfl (zad rfl rfl (zal rfl rfl rfl) (zap rfl ta48 rfl rfl rfl rfl rfl) (zbh zjt rfl (zbl ta3 rfl (zad rfl rfl (zal rfl rfl rfl) (zai rfl rfl (h2) (zag rfl (zag rfl zam))) (zac rfl (zac rfl (zbh zfu rfl (zad rfl rfl (zal rfl rfl rfl) (zap rfl ta48 rfl rfl rfl rfl rfl) ?_)))))))))))))))
         refine zac rfl (zad rfl rfl (zal rfl rfl rfl) (zai rfl rfl (h3) (zag rfl (zag rfl zam))) (zad rfl rfl (zal rfl rfl rfl) (zay rfl rfl) (zac rfl (zac rfl (zbh zfk rfl (zad rfl rfl (zal rfl rfl rfl) (zap rfl ta48 rfl rfl rfl rfl rfl) (zac rfl (zad rfl rfl (zal rfl rfl rfl) (zai rfl rfl (h4) (zag rfl (zag rfl zam))) (zad rfl rfl (zal rfl rfl rfl) (zay rfl rfl) (zac rfl (zae (zah (za0 rfl (zaf (zab (zac rfl (zae (zah ?_))))))))))))))))))
         (refine zav ?_; repeat (first | refine za6 ?_ | refine za7 ?_))
         exact zbj (.inr rfl) rfl (congrArg eB (hbad (fun h => by have := q4.2 h.2.2; cases this)).symm)
        | true =>
         refine zab (zbh zfk rfl (zad rfl rfl (zaa rfl) (zap rfl ta48 rfl rfl rfl rfl rfl) (zbh zio rfl (zbl ta3 rfl (zad rfl rfl (zaa rfl) (zai rfl rfl (h1) (zag rfl (zag rfl zam))) (zac rfl (zbh zfu rfl (zad rfl rfl (zal rfl rfl rfl) (zap rfl ta48 rfl rfl rfl rfl rfl) (zbh zjt rfl (zbl ta3 rfl (zad rfl rfl (zal rfl rfl rfl) (zai rfl rfl (h2) (zag rfl (zag rfl zam))) (zac rfl (zac rfl (zbh zfu rfl (zad rfl rfl (zal rfl rfl rfl) (zap rfl ta48 rfl rfl rfl rfl rfl) ?_)))))))))))))))
         refine zac rfl (zad rfl rfl (zal rfl rfl rfl) (zai rfl rfl (h3) (zag rfl (zag rfl zam))) (zad rfl rfl (zal rfl rfl rfl) (zay rfl rfl) (zac rfl (zac rfl (zbh zfk rfl (zad rfl rfl (zal rfl rfl rfl) (zap rfl ta48 rfl rfl rfl rfl rfl) (zac rfl (zad rfl rfl (zal rfl rfl rfl) (zai rfl rfl (h4) (zag rfl (zag rfl zam))) (zad rfl rfl (zal rfl rfl rfl) (zay rfl rfl) (zac rfl (zae (zah (zax rfl (zao (zb3 (zah (zab (zac rfl (zad rfl rfl (zaa rfl) (za4 rfl rfl rfl (IntWalk.i64_in _ (by omega))) ?_)))))))))))))))))))
         refine zac rfl (zae (zah ?_))
         refine ⟨i + 1, ⟨by omega, fun j hj => ?_⟩, by omega, zc3 [] (by decide) trivial ⟨.lo _ (by repeat' (first | exact Lo.s _ | exact zar | refine zaj ?_ ?_ | refine za1 ?_ | refine Lo.cells ?_ | refine Lo.agg _ ?_ | refine Lo.ref _ ?_ | refine Lo.tup _ ?_ | refine Lo.fn _ _ ?_ | refine Lo.sl _ ?_ | intro _)), .lo _ (za1 fun _ => .s _), .lo _ (za1 fun _ => .s _), .lo _ (.s _), trivial⟩⟩
         by_cases e : j = i
         ·
          subst e; exact ⟨⟨c1, c2⟩, q3.1 rfl, q4.1 rfl⟩
         ·
          exact hi.2 j (by omega)
    ·
     (refine zb1 ?_; repeat (first | refine zcx ?_ | refine zbs ?_ | refine zbe rfl ?_ | refine zb3 ?_ | refine zah ?_ | refine zaf ?_ | refine zao ?_ | refine zaq ?_))
     refine zab (zac rfl (zae (zah ?_)))
     (refine zav ?_; repeat (first | refine za6 ?_ | refine za7 ?_))
     refine zbj (.inr rfl) rfl (congrArg eB (zka ⟨hval, hne, fun j hj => (hi.2 j (by omega)).1, fun b p hp => ?_, fun b j hj => ?_⟩).symm)
     ·
      cases b
      ·
       exact (hfm p).1 (hpl1 p hp).1
      ·
       exact (hbm p).1 (hpl1 p hp).2
     ·
      cases b
      ·
       exact (hi.2 j (by omega)).2.1
      ·
       exact (hi.2 j (by omega)).2.2
end Go.Proofs.YtohmldibkojkfaaGreatDoor.Aw
end
