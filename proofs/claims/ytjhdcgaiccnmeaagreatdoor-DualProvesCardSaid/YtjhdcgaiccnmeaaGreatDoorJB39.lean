import Derived.Test.YtjhdcgaiccnmeaaGreatDoorJB36
set_option linter.unusedSimpArgs false
set_option linter.unusedVariables false
set_option linter.unusedSectionVars false
section
namespace Go.Proofs.YtjhdcgaiccnmeaaGreatDoor.Aw
open Go.RowKit Dl
theorem zpm {n : Int} (h1 : -1073741824 ≤ n) (h2 : n ≤ 1073741824) : (Fr.of n).ok :=
 ⟨h1, h2, by show (1 : Int) ≤ 1; decide, by show (1 : Int) ≤ 1073741824; decide, by show Int.gcd n 1 = 1; exact Int.gcd_one⟩
theorem zxs {a b : Int} (ha : -1073741824 ≤ a ∧ a ≤ 1073741824) (hb : -1073741824 ≤ b ∧ b ≤ 1073741824) (hc : -1073741824 ≤ a + b ∧ a + b ≤ 1073741824) : addE (Fr.of a) (Fr.of b) = ⟨a + b, 1, 0⟩ := by
 unfold addE
 rw [Fr.okB_of (zpm ha.1 ha.2), Fr.okB_of (zpm hb.1 hb.2)]
 have e : fadd (Fr.of a) (Fr.of b) = mkF (Fr.of (a + b)).n (Fr.of (a + b)).d := by show mkF (a * 1 + b * 1) (1 * 1) = mkF (a + b) 1; rw [Int.mul_one, Int.mul_one, Int.mul_one]
 rw [e, zlh (zpm hc.1 hc.2)]; rfl
theorem mulE_z {b : Fr} (hb : b.okB = true) : mulE (Fr.of 0) b = ⟨0, 1, 0⟩ := by
 unfold mulE
 rw [Fr.okB_of (zpm (n := 0) (by omega) (by omega)), hb]
 have hd := (zym hb).2.1
 have e : fmul (Fr.of 0) b = mkF (Fr.of 0).n (Fr.of 0).d := by
  show mkF (0 * b.n) (1 * b.d) = mkF 0 1
  rw [Int.zero_mul, Int.one_mul, ← zpb b.d 0 1 (by omega), Int.mul_zero, Int.mul_one]
 rw [e, zlh (zpm (n := 0) (by omega) (by omega))]; rfl
theorem z0k : ∀ (a b : List Fr), (∀ x ∈ a, x = Fr.of 0) → b.all Fr.okB = true → dotG (Fr.of 0) a b = ⟨0, 1, 0⟩
 | [], b, _, _ => by cases b <;> rfl
 | a :: ta, [], _, _ => rfl
 | a :: ta, b :: tb, ha, hb => by
  rw [List.all_cons, Bool.and_eq_true] at hb
  have h0 : a = Fr.of 0 := ha a (by simp)
  subst h0
  unfold dotG
  rw [mulE_z hb.1]
  have h1 : addE (Fr.of 0) ⟨0, 1⟩ = ⟨0, 1, 0⟩ := zxs (a := 0) (b := 0) (by omega) (by omega) (by omega)
  show (if (0 : Int) ≠ 0 then _ else if (addE (Fr.of 0) ⟨0, 1⟩).e ≠ 0 then _ else dotG ⟨(addE (Fr.of 0) ⟨0, 1⟩).n, (addE (Fr.of 0) ⟨0, 1⟩).d⟩ ta tb) = _
  rw [h1, if_neg (by decide), if_neg (by decide)]
  exact z0k ta tb (fun x hx => ha x (by simp [hx])) hb.2
theorem z0m {a b : List Fr} (ha : ∀ x ∈ a, x = Fr.of 0) (hb : b.all Fr.okB = true) (hl : a.length = b.length) (h : a.length ≤ 1000) : dotE a b = ⟨0, 1, 0⟩ := by
 unfold dotE
 have h0 : a.all Fr.okB = true := List.all_eq_true.2 fun x hx => by rw [ha x hx]; exact zfu (by omega)
 rw [if_neg (by rw [h0, hb]; simp), if_neg (by omega), if_neg (by omega)]
 exact z0k a b ha hb
theorem zwg {a b : Int} (ha : -1073741824 ≤ a ∧ a ≤ 1073741824) (hb : -1073741824 ≤ b ∧ b ≤ 1073741824) : grB (Fr.of a) (Fr.of b) = decide (b < a) := by
 rw [zjq (zfu ha) (zfu hb)]
 refine decide_eq_decide.2 ?_
 have e : cmpN (Fr.of a) (Fr.of b) = if a < b then -1 else if a > b then 1 else 0 := by
  show (if a * 1 < b * 1 then (-1 : Int) else if a * 1 > b * 1 then 1 else 0) = _
  rw [Int.mul_one, Int.mul_one]
 rw [e]
 split
 ·
  omega
 ·
  split <;> omega
section
variable {n : Net} {w : List ByteArray} {c : Cst} {p : Prf}
theorem z0f (hc : vcB c = true) (hg : ∀ t, gE n p t = ⟨0, 1, 0⟩) : ∀ l, fst1 n c p c6 l = 0
 | [] => rfl
 | t :: l => by
  have hm := zsd hc t
  unfold fst1
  rw [hg t, if_neg (by decide), show grB (frE ⟨0, 1, 0⟩) (Fr.of (zii c t)) = decide (zii c t < 0) from zwg (a := 0) (by omega) (by omega), decide_eq_false (by omega), if_neg (by decide)]
  exact z0f hc hg l
theorem zwj (hg : ∀ t, gE n p t = ⟨0, 1, 0⟩) (act : ByteArray) : ∀ l, fst3 n p c6 (Fr.of 0) act l = 0
 | [] => rfl
 | t :: l => by
  unfold fst3
  split
  ·
   exact zwj hg act l
  ·
   have h1 : addE (frE (gE n p t)) (Fr.of 0) = ⟨0, 1, 0⟩ := by rw [hg t]; exact zxs (a := 0) (b := 0) (by omega) (by omega) (by omega)
   rw [h1, hg t, if_neg (by decide), if_neg (by decide), show grB (frE ⟨0, 1, 0⟩) (Fr.of 0) = decide ((0 : Int) < 0) from zwg (a := 0) (by omega) (by omega), decide_eq_false (by omega), if_neg (by decide)]
   exact zwj hg act l
theorem z0e (hc : vcB c = true) (hg : ∀ t, gE n p t = ⟨0, 1, 0⟩) (hz : ∀ k, k < p.duals.length → gti p.duals k = Fr.of 0) : ∀ (l : List ByteArray) (k : Nat), n.places.toNat + k + l.length ≤ p.duals.length → fst2 n c p c6 k l = 0
 | [], _, _ => rfl
 | a :: l, k, h => by
  have hb := zzx hc
  simp only [List.length_cons] at h
  unfold fst2
  rw [hz _ (by omega), zwg (a := 0) (b := c.log) (by omega) (by omega), decide_eq_false (by omega), if_neg (by decide), zwj hg, if_neg (by decide)]
  exact z0e hc hg hz l (k + 1) (by omega)
def PotOk (n : Net) (w : List ByteArray) (c : Cst) (p : Prf) (s : List Int) (k : Int) (m : Stp) : Prop :=
 ∃ q, potX n w p (zd2 n w s m).1 = ⟨q, 1, 0⟩ ∧ 0 ≤ q ∧ zd4 c m.kind + q ≤ 1073741824 ∧ k ≤ zd4 c m.kind + q
theorem zry (hc : vcB c = true) {s : List Int} {k : Int} (hk : 0 ≤ k ∧ k ≤ 1073741824) : ∀ ms, (∀ m ∈ ms, PotOk n w c p s k m) → thM n w c p c6 s k ms = none
 | [], _ => rfl
 | m :: ms, h => by
  obtain ⟨q, h1, h2, h3, h4⟩ := h m (by simp)
  have hb := zhz hc m.kind
  unfold thM
  rw [h1, show addE (Fr.of (zd4 c m.kind)) (frE ⟨q, 1, 0⟩) = ⟨zd4 c m.kind + q, 1, 0⟩ from zxs (a := zd4 c m.kind) (b := q) (by omega) (by omega) (by omega), if_neg (fun h => h rfl), if_neg (fun h => h rfl),
   show grB (Fr.of k) (frE ⟨zd4 c m.kind + q, 1, 0⟩) = decide (zd4 c m.kind + q < k) from zwg (a := k) (b := zd4 c m.kind + q) (by omega) (by omega), decide_eq_false (by omega), if_neg (by decide)]
  exact zry hc hk ms (fun m hm => h m (by simp [hm]))
theorem zzy (hc : vcB c = true) : ∀ l : List (List Int × Int), (∀ x ∈ l, linX n w p x.1 = ⟨0, 1, 0⟩ ∧ (0 ≤ x.2 ∧ x.2 ≤ 1073741824) ∧ (x.1 = (endE n w).1 → x.2 = 0) ∧ ∀ m ∈ zds n w x.1, PotOk n w c p x.1 x.2 m) → thS n w c p c6 l = ([], zStp, 10)
 | [], _ => rfl
 | (s, k) :: l, h => by
  obtain ⟨h1, h2, h3, h4⟩ := h (s, k) (by simp)
  unfold thS
  have hne : ¬ (grB (frE (linX n w p s)) (Fr.of k) = true ∨ (s = (endE n w).1 ∧ k ≠ 0)) := by
   rw [h1, show grB (frE ⟨0, 1, 0⟩) (Fr.of k) = decide (k < 0) from zwg (a := 0) (by omega) (by omega), decide_eq_false (by omega)]
   rintro (h | h)
   ·
    cases h
   ·
    exact h.2 (h3 h.1)
  rw [if_neg hne, h1, if_neg (by decide), zry hc h2 _ h4]
  exact zzy hc l (fun x hx => h x (by simp [hx]))
theorem zy2 {far : List Int} {k : Nat} (h : k < far.length) : gti (capD far) k = if gti far 0 < gti far k then gti far 0 else gti far k :=
 zfa (by unfold capD; rw [List.getElem?_map, zdh h]; rfl)
theorem zz8 {st : List (List Int)} {pots : List Int} {d : List Fr} (hnd : st.Nodup) {j : Nat} (hj : j < st.length) : potX n w ⟨st, pots, d⟩ (gti st j) = ⟨gti pots j, 1, 0⟩ := by
 have hf := zh2 hnd hj
 have hi : idx st (gti st j) = j := by unfold idx; rw [if_neg (by omega), hf]; rfl
 unfold potX
 rw [if_neg (by show ¬ zef st (gti st j) < 0; omega)]
 show (⟨gti pots (idx st (gti st j)), 1, 0⟩ : FE) = _
 rw [hi]
theorem zrep {k : Nat} : ∀ x ∈ List.replicate k (Fr.of 0), x = Fr.of 0 := fun x hx => List.eq_of_mem_replicate hx
structure PvOk (n : Net) (w : List ByteArray) (c : Cst) (k : Int) (p : Prf) : Prop where
 vd : VD n w p
 wr : zf6 n w c p c6 = ([], zStp, 10)
 pt : potX n w p (zd9 n w).1 = ⟨k, 1, 0⟩
theorem PvOk.check {k : Int} (h : PvOk n w c k p) (hc : vcB c = true) (cost : Int) : checkE n w c cost p = decide (cost ≤ k) := by
 unfold checkE
 rw [hc, zhi.2 h.vd, h.wr, h.pt]
 show (true && (true && (decide ((10 : Int) = 10) && (decide ((0 : Int) = 0) && decide (cost ≤ zhr ⟨k, 1⟩))))) = _
 have hf : zhr ⟨k, 1⟩ = k := by rw [zwm (a := ⟨k, 1⟩) (by show (1 : Int) ≤ 1; omega)]; exact Int.ediv_one k
 rw [hf]
 simp
theorem prv_ok {most : Int} {g : Gr} (hc : vcB c = true) (hs2 : (zd9 n w).2 = 0) (hmost : most ≤ 2000) (hB : BI (nxD n w c) (zd9 n w).1 most (okS n w) g) (hC : ∀ i, i < g.st.length → Dl.Clo (nxD n w c) g i (nxD n w c (gti g.st i)).length) (hf : ¬ zef g.st (endE n w).1 < 0) :
  PvOk n w c (gti (farD g (idx g.st (endE n w).1)) 0) ⟨g.st, capD (farD g (idx g.st (endE n w).1)), List.replicate (n.places.toNat + w.length) (Fr.of 0)⟩ ∧ gti (farD g (idx g.st (endE n w).1)) 0 = gti (relW (revL g.ed) (farI g.st.length)) (idx g.st (endE n w).1) := by
 obtain ⟨hvn, hww, hse, hee, hsk, hek⟩ := zf8 hs2
 obtain ⟨p1, p2, p3⟩ := zhb hf
 have hend : gti g.st (idx g.st (endE n w).1) = (endE n w).1 := zfa p1
 generalize idx g.st (endE n w).1 = last at p1 p2 p3 hend ⊢
 have hEO : EOk g.st.length g.ed := fun e he => ⟨(hB.eok e he).1, (hB.eok e he).2.1, (hB.eok e he).2.2.1⟩
 have hpos : 0 < g.st.length := (List.getElem?_eq_some_iff.1 hB.h0).1
 have hle := hB.le
 have hpl := zdy hvn
 have hwl : w.length ≤ 200 := by unfold zew at hww; simp only [Bool.and_eq_true, decide_eq_true_eq] at hww; exact hww.1
 obtain ⟨hF, _, hfix⟩ := zk5 hEO way_W _ _ (Nat.le_refl _) (zju (M := g.ed) (B := 1073741824) (by omega) p2)
 obtain ⟨d, hd1, hd2⟩ := hB.rch last p2
 have hway : Dl.Way g.ed last 0 d := hd2
 have hk := zoz hEO (by omega : (0 : Int) ≤ 1073741824) p2 hway
 have hflip := zyc (M := g.ed) (L := revL g.ed) (fun e => zkj) hEO (B := 1073741824) (B' := 4503599627370496) (by omega) (by omega) hpos p2 hway (by omega) (by omega)
 refine ⟨?_, hflip⟩
 have hfar : farD g last = relW g.ed ((List.replicate g.st.length 1073741824).set last 0) := rfl
 rw [← hfar] at hF hfix hk
 generalize farD g last = far at hF hfix hk ⊢
 have hlen := hF.len
 have hnn := fun k => gnn hF.nn k
 have hcl : (capD far).length = g.st.length := by unfold capD; rw [List.length_map, hlen]
 have hcap := fun k (hk : k < g.st.length) => zy2 (far := far) (k := k) (by omega)
 have hcb : ∀ k, k < g.st.length → 0 ≤ gti (capD far) k ∧ gti (capD far) k ≤ gti far 0 := fun k hk => by
  rw [hcap k hk]
  have := hnn k
  have := hnn 0
  split <;> omega
 have hV : VD n w ⟨g.st, capD far, List.replicate (n.places.toNat + w.length) (Fr.of 0)⟩ := by
  refine ⟨hvn, hww, by show g.st.length ≤ 2000; omega, hcl, by show ((List.replicate (n.places.toNat + w.length) (Fr.of 0)).length : Int) = _; rw [List.length_replicate]; omega, hB.ok, hB.nd, fun k hk => ?_, List.all_eq_true.2 fun x hx => by rw [zrep x hx]; exact zfu (by omega)⟩
  obtain ⟨j, hj, rfl⟩ := mem_gti' hk
  have h3 := hcb j (by rw [← hcl]; exact hj)
  show 0 ≤ gti (capD far) j ∧ gti (capD far) j ≤ 1073741824
  omega
 have hlin : ∀ s, okS n w s → linX n w ⟨g.st, capD far, List.replicate (n.places.toNat + w.length) (Fr.of 0)⟩ s = ⟨0, 1, 0⟩ := fun s hs => by
  have h1 := hs.len
  have he := hV.end_ok
  refine z0m zrep (zv6 hs.small he.small w) ?_ ?_
  ·
   unfold linL; rw [List.length_append, zfl, zh1, List.length_replicate]; omega
  ·
   show (List.replicate _ _).length ≤ 1000; rw [List.length_replicate]; omega
 have hgz : ∀ t, gE n ⟨g.st, capD far, List.replicate (n.places.toNat + w.length) (Fr.of 0)⟩ t = ⟨0, 1, 0⟩ := fun t => by
  refine z0m (fun x hx => zrep x (List.mem_of_mem_take hx)) (zsk t _) ?_ ?_
  ·
   rw [zgp, List.length_take, List.length_replicate]; omega
  ·
   rw [List.length_take, List.length_replicate]; omega
 have hdz : ∀ k, k < (List.replicate (n.places.toNat + w.length) (Fr.of 0)).length → gti (List.replicate (n.places.toNat + w.length) (Fr.of 0)) k = Fr.of 0 := fun k hk => zrep _ (gti_mem hk)
 refine ⟨hV, ?_, ?_⟩
 ·
  unfold zf6
  have hf0 : fstE n w c ⟨g.st, capD far, List.replicate (n.places.toNat + w.length) (Fr.of 0)⟩ c6 = 0 := by
   unfold fstE
   rw [z0f hc hgz, if_neg (by decide)]
   exact z0e hc hgz hdz w 0 (by show _ ≤ (List.replicate _ _).length; rw [List.length_replicate]; omega)
  rw [hf0, if_neg (by decide)]
  refine zzy hc _ fun x hx => ?_
  obtain ⟨s, k⟩ := x
  obtain ⟨i, hi⟩ := List.mem_iff_getElem?.1 hx
  rw [List.getElem?_zip_eq_some] at hi
  obtain ⟨hi1, hi2⟩ := hi
  replace hi1 : g.st[i]? = some s := hi1
  replace hi2 : (capD far)[i]? = some k := hi2
  have hil : i < g.st.length := (List.getElem?_eq_some_iff.1 hi1).1
  have hsi : gti g.st i = s := zfa hi1
  have hki : gti (capD far) i = k := zfa hi2
  have hok := hB.ok s (List.mem_of_getElem? hi1)
  have hb := hcb i hil
  rw [hki] at hb
  refine ⟨hlin s hok, by show 0 ≤ k ∧ _; omega, fun he => ?_, fun m hm => ?_⟩
  ·
   replace he : s = (endE n w).1 := he
   have h1 : i = last := by
    have e1 := zh2 hB.nd hil
    have e2 := zh2 hB.nd p2
    rw [hsi, he] at e1
    rw [hend] at e2
    omega
   subst h1
   show k = 0
   rw [← hki, hcap i hil, hF.tt]
   have := hnn 0
   split <;> omega
  ·
   obtain ⟨ha1, ha2, ha3⟩ := zgk hok hm
   have hpb := zhz hc m.kind
   obtain ⟨q, hq⟩ := List.getElem?_of_mem hm
   have hnx : (nxD n w c (gti g.st i))[q]? = some ((zd2 n w s m).1, zd4 c m.kind) := by
    rw [hsi]; unfold nxD; rw [List.getElem?_map, hq]; rfl
   obtain ⟨j, hj1, hj2⟩ := hC i hil q _ (List.getElem?_eq_some_iff.1 hnx).1 hnx
   replace hj1 : g.st[j]? = some (zd2 n w s m).1 := hj1
   have hjl : j < g.st.length := (List.getElem?_eq_some_iff.1 hj1).1
   have hfx := hfix _ hj2
   replace hfx : gti far i ≤ gti far j + zd4 c m.kind := hfx
   have hbj := hcb j hjl
   refine ⟨gti (capD far) j, ?_, hbj.1, by omega, ?_⟩
   ·
    have := zz8 (n := n) (w := w) (pots := capD far) (d := List.replicate (n.places.toNat + w.length) (Fr.of 0)) hB.nd hjl
    rw [zfa hj1] at this
    exact this
   ·
    show k ≤ _
    rw [← hki, hcap i hil, hcap j hjl]
    split <;> split <;> omega
 ·
  have h0 : gti g.st 0 = (zd9 n w).1 := zfa hB.h0
  rw [← h0, zz8 hB.nd hpos, hcap 0 hpos, if_neg (by omega)]
theorem zqs {most : Int} (hc : vcB c = true) (hs2 : (zd9 n w).2 = 0) (hm : 1 ≤ most ∧ most ≤ 2000) :
  ((zhp n w c most).2 ≠ 0 ∧ zfs n w c most = (0, zPf, (zhp n w c most).2)) ∨ ((zhp n w c most).2 = 0 ∧ ∃ p, zfs n w c most = ((zhp n w c most).1, p, 0) ∧ PvOk n w c (zhp n w c most).1 p ∧ (p.st.length : Int) ≤ most) := by
 obtain ⟨hvn, hww, hse, hee, hsk, hek⟩ := zf8 hs2
 have hp : zfs n w c most = match bfsD (nxD n w c) most (most.toNat + 1) 0 ⟨[(zd9 n w).1], []⟩ with
   | none => (0, zPf, 13)
   | some g => finD n w g := by
  unfold zfs
  rw [if_neg (by rintro (h | h); exact h hs2; rw [hc] at h; cases h), if_neg (by omega)]
  rfl
 rw [hp]
 unfold zhp
 have hI0 : BI (nxD n w c) (zd9 n w).1 most (okS n w) ⟨[(zd9 n w).1], []⟩ := .init hsk (by omega)
 have hbk := fun g' => z0q (zvu (n := n) (w := w) hc) (most.toNat + 1) 0 _ g' hI0 (Nat.zero_le _) (fun i' h => by omega) (by simp) (by omega)
 generalize bfsD (nxD n w c) most (most.toNat + 1) 0 ⟨[(zd9 n w).1], []⟩ = R at hbk ⊢
 cases R with
 | none => exact .inl ⟨(show (13 : Int) ≠ 0 by decide), rfl⟩
 | some g =>
  obtain ⟨hB, hC, _⟩ := hbk g rfl
  show ((zh9 n w g).2 ≠ 0 ∧ finD n w g = (0, zPf, (zh9 n w g).2)) ∨ ((zh9 n w g).2 = 0 ∧ ∃ p, finD n w g = ((zh9 n w g).1, p, 0) ∧ PvOk n w c (zh9 n w g).1 p ∧ (p.st.length : Int) ≤ most)
  unfold zh9 finD
  by_cases hf : zef g.st (endE n w).1 < 0
  ·
   rw [if_pos hf, if_pos hf]
   exact .inl ⟨(show (10 : Int) ≠ 0 by decide), rfl⟩
  ·
   rw [if_neg hf, if_neg hf]
   obtain ⟨h1, h2⟩ := prv_ok hc hs2 hm.2 hB hC hf
   refine .inr ⟨rfl, ⟨g.st, capD (farD g (idx g.st (endE n w).1)), List.replicate (n.places.toNat + w.length) (Fr.of 0)⟩, ?_, ?_, hB.le⟩
   ·
    rw [h2]
   ·
    rw [← h2]; exact h1
end
end Go.Proofs.YtjhdcgaiccnmeaaGreatDoor.Aw
end
