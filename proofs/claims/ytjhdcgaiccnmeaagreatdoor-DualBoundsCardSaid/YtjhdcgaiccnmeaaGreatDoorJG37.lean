import Derived.Test.YtjhdcgaiccnmeaaGreatDoorJG34
import Derived.Test.YtjhdcgaiccnmeaaGreatDoorJG12
set_option linter.unusedSimpArgs false
set_option linter.unusedVariables false
set_option linter.unusedSectionVars false
section
namespace Go.Proofs.YtjhdcgaiccnmeaaGreatDoor.Aw
open Go.RowKit Dl
theorem iof_ok {n : Int} (h1 : -1073741824 ≤ n) (h2 : n ≤ 1073741824) : (Fr.of n).ok :=
 ⟨h1, h2, by show (1 : Int) ≤ 1; decide, by show (1 : Int) ≤ 1073741824; decide, by show Int.gcd n 1 = 1; exact Int.gcd_one⟩
theorem addE_i {a b : Int} (ha : -1073741824 ≤ a ∧ a ≤ 1073741824) (hb : -1073741824 ≤ b ∧ b ≤ 1073741824) (hc : -1073741824 ≤ a + b ∧ a + b ≤ 1073741824) : addE (Fr.of a) (Fr.of b) = ⟨a + b, 1, 0⟩ := by
 unfold addE
 rw [Fr.okB_of (iof_ok ha.1 ha.2), Fr.okB_of (iof_ok hb.1 hb.2)]
 have e : fadd (Fr.of a) (Fr.of b) = mkF (Fr.of (a + b)).n (Fr.of (a + b)).d := by show mkF (a * 1 + b * 1) (1 * 1) = mkF (a + b) 1; rw [Int.mul_one, Int.mul_one, Int.mul_one]
 rw [e, mkF_of_ok (iof_ok hc.1 hc.2)]; rfl
theorem mulE_z {b : Fr} (hb : b.okB = true) : mulE (Fr.of 0) b = ⟨0, 1, 0⟩ := by
 unfold mulE
 rw [Fr.okB_of (iof_ok (n := 0) (by omega) (by omega)), hb]
 have hd := (okB_d hb).2.1
 have e : fmul (Fr.of 0) b = mkF (Fr.of 0).n (Fr.of 0).d := by
  show mkF (0 * b.n) (1 * b.d) = mkF 0 1
  rw [Int.zero_mul, Int.one_mul, ← mkF_scale b.d 0 1 (by omega), Int.mul_zero, Int.mul_one]
 rw [e, mkF_of_ok (iof_ok (n := 0) (by omega) (by omega))]; rfl
theorem dotG_z : ∀ (a b : List Fr), (∀ x ∈ a, x = Fr.of 0) → b.all Fr.okB = true → dotG (Fr.of 0) a b = ⟨0, 1, 0⟩
 | [], b, _, _ => by cases b <;> rfl
 | a :: ta, [], _, _ => rfl
 | a :: ta, b :: tb, ha, hb => by
  rw [List.all_cons, Bool.and_eq_true] at hb
  have h0 : a = Fr.of 0 := ha a (by simp)
  subst h0
  unfold dotG
  rw [mulE_z hb.1]
  have h1 : addE (Fr.of 0) ⟨0, 1⟩ = ⟨0, 1, 0⟩ := addE_i (a := 0) (b := 0) (by omega) (by omega) (by omega)
  show (if (0 : Int) ≠ 0 then _ else if (addE (Fr.of 0) ⟨0, 1⟩).e ≠ 0 then _ else dotG ⟨(addE (Fr.of 0) ⟨0, 1⟩).n, (addE (Fr.of 0) ⟨0, 1⟩).d⟩ ta tb) = _
  rw [h1, if_neg (by decide), if_neg (by decide)]
  exact dotG_z ta tb (fun x hx => ha x (by simp [hx])) hb.2
theorem dotE_z {a b : List Fr} (ha : ∀ x ∈ a, x = Fr.of 0) (hb : b.all Fr.okB = true) (hl : a.length = b.length) (h : a.length ≤ 1000) : dotE a b = ⟨0, 1, 0⟩ := by
 unfold dotE
 have h0 : a.all Fr.okB = true := List.all_eq_true.2 fun x hx => by rw [ha x hx]; exact of_okB (by omega)
 rw [if_neg (by rw [h0, hb]; simp), if_neg (by omega), if_neg (by omega)]
 exact dotG_z a b ha hb
theorem grB_i {a b : Int} (ha : -1073741824 ≤ a ∧ a ≤ 1073741824) (hb : -1073741824 ≤ b ∧ b ≤ 1073741824) : grB (Fr.of a) (Fr.of b) = decide (b < a) := by
 rw [grB_cmp (of_okB ha) (of_okB hb)]
 refine decide_eq_decide.2 ?_
 have e : cmpN (Fr.of a) (Fr.of b) = if a < b then -1 else if a > b then 1 else 0 := by
  show (if a * 1 < b * 1 then (-1 : Int) else if a * 1 > b * 1 then 1 else 0) = _
  rw [Int.mul_one, Int.mul_one]
 rw [e]
 split
 ·
  omega
 ·
  split <;> omega
section
variable {n : Net} {w : List ByteArray} {c : Cst} {p : Prf}
theorem fst1_z (hc : vcB c = true) (hg : ∀ t, gE n p t = ⟨0, 1, 0⟩) : ∀ l, fst1 n c p c6 l = 0
 | [] => rfl
 | t :: l => by
  have hm := mostE_bd hc t
  unfold fst1
  rw [hg t, if_neg (by decide), show grB (frE ⟨0, 1, 0⟩) (Fr.of (mostE c t)) = decide (mostE c t < 0) from grB_i (a := 0) (by omega) (by omega), decide_eq_false (by omega), if_neg (by decide)]
  exact fst1_z hc hg l
theorem fst3_z (hg : ∀ t, gE n p t = ⟨0, 1, 0⟩) (act : ByteArray) : ∀ l, fst3 n p c6 (Fr.of 0) act l = 0
 | [] => rfl
 | t :: l => by
  unfold fst3
  split
  ·
   exact fst3_z hg act l
  ·
   have h1 : addE (frE (gE n p t)) (Fr.of 0) = ⟨0, 1, 0⟩ := by rw [hg t]; exact addE_i (a := 0) (b := 0) (by omega) (by omega) (by omega)
   rw [h1, hg t, if_neg (by decide), if_neg (by decide), show grB (frE ⟨0, 1, 0⟩) (Fr.of 0) = decide ((0 : Int) < 0) from grB_i (a := 0) (by omega) (by omega), decide_eq_false (by omega), if_neg (by decide)]
   exact fst3_z hg act l
theorem fst2_z (hc : vcB c = true) (hg : ∀ t, gE n p t = ⟨0, 1, 0⟩) (hz : ∀ k, k < p.duals.length → gti p.duals k = Fr.of 0) : ∀ (l : List ByteArray) (k : Nat), n.places.toNat + k + l.length ≤ p.duals.length → fst2 n c p c6 k l = 0
 | [], _, _ => rfl
 | a :: l, k, h => by
  have hb := vcB_bd hc
  simp only [List.length_cons] at h
  unfold fst2
  rw [hz _ (by omega), grB_i (a := 0) (b := c.log) (by omega) (by omega), decide_eq_false (by omega), if_neg (by decide), fst3_z hg, if_neg (by decide)]
  exact fst2_z hc hg hz l (k + 1) (by omega)
def PotOk (n : Net) (w : List ByteArray) (c : Cst) (p : Prf) (s : List Int) (k : Int) (m : Stp) : Prop :=
 ∃ q, potX n w p (zb4 n w s m).1 = ⟨q, 1, 0⟩ ∧ 0 ≤ q ∧ zbm c m.kind + q ≤ 1073741824 ∧ k ≤ zbm c m.kind + q
theorem thM_none (hc : vcB c = true) {s : List Int} {k : Int} (hk : 0 ≤ k ∧ k ≤ 1073741824) : ∀ ms, (∀ m ∈ ms, PotOk n w c p s k m) → thM n w c p c6 s k ms = none
 | [], _ => rfl
 | m :: ms, h => by
  obtain ⟨q, h1, h2, h3, h4⟩ := h m (by simp)
  have hb := price_bd hc m.kind
  unfold thM
  rw [h1, show addE (Fr.of (zbm c m.kind)) (frE ⟨q, 1, 0⟩) = ⟨zbm c m.kind + q, 1, 0⟩ from addE_i (a := zbm c m.kind) (b := q) (by omega) (by omega) (by omega), if_neg (fun h => h rfl), if_neg (fun h => h rfl),
   show grB (Fr.of k) (frE ⟨zbm c m.kind + q, 1, 0⟩) = decide (zbm c m.kind + q < k) from grB_i (a := k) (b := zbm c m.kind + q) (by omega) (by omega), decide_eq_false (by omega), if_neg (by decide)]
  exact thM_none hc hk ms (fun m hm => h m (by simp [hm]))
theorem thS_ok (hc : vcB c = true) : ∀ l : List (List Int × Int), (∀ x ∈ l, linX n w p x.1 = ⟨0, 1, 0⟩ ∧ (0 ≤ x.2 ∧ x.2 ≤ 1073741824) ∧ (x.1 = (endE n w).1 → x.2 = 0) ∧ ∀ m ∈ movesL n w x.1, PotOk n w c p x.1 x.2 m) → thS n w c p c6 l = ([], zStp, 10)
 | [], _ => rfl
 | (s, k) :: l, h => by
  obtain ⟨h1, h2, h3, h4⟩ := h (s, k) (by simp)
  unfold thS
  have hne : ¬ (grB (frE (linX n w p s)) (Fr.of k) = true ∨ (s = (endE n w).1 ∧ k ≠ 0)) := by
   rw [h1, show grB (frE ⟨0, 1, 0⟩) (Fr.of k) = decide (k < 0) from grB_i (a := 0) (by omega) (by omega), decide_eq_false (by omega)]
   rintro (h | h)
   ·
    cases h
   ·
    exact h.2 (h3 h.1)
  rw [if_neg hne, h1, if_neg (by decide), thM_none hc h2 _ h4]
  exact thS_ok hc l (fun x hx => h x (by simp [hx]))
theorem gti_capD {far : List Int} {k : Nat} (h : k < far.length) : gti (capD far) k = if gti far 0 < gti far k then gti far 0 else gti far k :=
 zdm (by unfold capD; rw [List.getElem?_map, zbu h]; rfl)
theorem pot_at {st : List (List Int)} {pots : List Int} {d : List Fr} (hnd : st.Nodup) {j : Nat} (hj : j < st.length) : potX n w ⟨st, pots, d⟩ (gti st j) = ⟨gti pots j, 1, 0⟩ := by
 have hf := find_nodup hnd hj
 have hi : idx st (gti st j) = j := by unfold idx; rw [if_neg (by omega), hf]; rfl
 unfold potX
 rw [if_neg (by show ¬ zc2 st (gti st j) < 0; omega)]
 show (⟨gti pots (idx st (gti st j)), 1, 0⟩ : FE) = _
 rw [hi]
theorem zrep {k : Nat} : ∀ x ∈ List.replicate k (Fr.of 0), x = Fr.of 0 := fun x hx => List.eq_of_mem_replicate hx
structure PvOk (n : Net) (w : List ByteArray) (c : Cst) (k : Int) (p : Prf) : Prop where
 vd : VD n w p
 wr : wrongX n w c p c6 = ([], zStp, 10)
 pt : potX n w p (zb7 n w).1 = ⟨k, 1, 0⟩
theorem PvOk.check {k : Int} (h : PvOk n w c k p) (hc : vcB c = true) (cost : Int) : checkE n w c cost p = decide (cost ≤ k) := by
 unfold checkE
 rw [hc, vdB_iff.2 h.vd, h.wr, h.pt]
 show (true && (true && (decide ((10 : Int) = 10) && (decide ((0 : Int) = 0) && decide (cost ≤ floorN ⟨k, 1⟩))))) = _
 have hf : floorN ⟨k, 1⟩ = k := by rw [floorN_eq (a := ⟨k, 1⟩) (by show (1 : Int) ≤ 1; omega)]; exact Int.ediv_one k
 rw [hf]
 simp
theorem prv_ok {most : Int} {g : Gr} (hc : vcB c = true) (hs2 : (zb7 n w).2 = 0) (hmost : most ≤ 2000) (hB : BI (nxD n w c) (zb7 n w).1 most (okS n w) g) (hC : ∀ i, i < g.st.length → Dl.Clo (nxD n w c) g i (nxD n w c (gti g.st i)).length) (hf : ¬ zc2 g.st (endE n w).1 < 0) :
  PvOk n w c (gti (farD g (idx g.st (endE n w).1)) 0) ⟨g.st, capD (farD g (idx g.st (endE n w).1)), List.replicate (n.places.toNat + w.length) (Fr.of 0)⟩ ∧ gti (farD g (idx g.st (endE n w).1)) 0 = gti (relW (revL g.ed) (farI g.st.length)) (idx g.st (endE n w).1) := by
 obtain ⟨hvn, hww, hse, hee, hsk, hek⟩ := start_ok hs2
 obtain ⟨p1, p2, p3⟩ := idx_old hf
 have hend : gti g.st (idx g.st (endE n w).1) = (endE n w).1 := zdm p1
 generalize idx g.st (endE n w).1 = last at p1 p2 p3 hend ⊢
 have hEO : EOk g.st.length g.ed := fun e he => ⟨(hB.eok e he).1, (hB.eok e he).2.1, (hB.eok e he).2.2.1⟩
 have hpos : 0 < g.st.length := (List.getElem?_eq_some_iff.1 hB.h0).1
 have hle := hB.le
 have hpl := za8 hvn
 have hwl : w.length ≤ 200 := by unfold zdh at hww; simp only [Bool.and_eq_true, decide_eq_true_eq] at hww; exact hww.1
 obtain ⟨hF, _, hfix⟩ := relW_ok hEO way_W _ _ (Nat.le_refl _) (far0_ok (M := g.ed) (B := 1073741824) (by omega) p2)
 obtain ⟨d, hd1, hd2⟩ := hB.rch last p2
 have hway : Dl.Way g.ed last 0 d := hd2
 have hk := rel_le hEO (by omega : (0 : Int) ≤ 1073741824) p2 hway
 have hflip := rel_flip (M := g.ed) (L := revL g.ed) (fun e => mem_revL) hEO (B := 1073741824) (B' := 4503599627370496) (by omega) (by omega) hpos p2 hway (by omega) (by omega)
 refine ⟨?_, hflip⟩
 have hfar : farD g last = relW g.ed ((List.replicate g.st.length 1073741824).set last 0) := rfl
 rw [← hfar] at hF hfix hk
 generalize farD g last = far at hF hfix hk ⊢
 have hlen := hF.len
 have hnn := fun k => gnn hF.nn k
 have hcl : (capD far).length = g.st.length := by unfold capD; rw [List.length_map, hlen]
 have hcap := fun k (hk : k < g.st.length) => gti_capD (far := far) (k := k) (by omega)
 have hcb : ∀ k, k < g.st.length → 0 ≤ gti (capD far) k ∧ gti (capD far) k ≤ gti far 0 := fun k hk => by
  rw [hcap k hk]
  have := hnn k
  have := hnn 0
  split <;> omega
 have hV : VD n w ⟨g.st, capD far, List.replicate (n.places.toNat + w.length) (Fr.of 0)⟩ := by
  refine ⟨hvn, hww, by show g.st.length ≤ 2000; omega, hcl, by show ((List.replicate (n.places.toNat + w.length) (Fr.of 0)).length : Int) = _; rw [List.length_replicate]; omega, hB.ok, hB.nd, fun k hk => ?_, List.all_eq_true.2 fun x hx => by rw [zrep x hx]; exact of_okB (by omega)⟩
  obtain ⟨j, hj, rfl⟩ := mem_gti' hk
  have h3 := hcb j (by rw [← hcl]; exact hj)
  show 0 ≤ gti (capD far) j ∧ gti (capD far) j ≤ 1073741824
  omega
 have hlin : ∀ s, okS n w s → linX n w ⟨g.st, capD far, List.replicate (n.places.toNat + w.length) (Fr.of 0)⟩ s = ⟨0, 1, 0⟩ := fun s hs => by
  have h1 := hs.len
  have he := hV.end_ok
  refine dotE_z zrep (linL_ok hs.small he.small w) ?_ ?_
  ·
   unfold linL; rw [List.length_append, lin1_len, lin2_len, List.length_replicate]; omega
  ·
   show (List.replicate _ _).length ≤ 1000; rw [List.length_replicate]; omega
 have hgz : ∀ t, gE n ⟨g.st, capD far, List.replicate (n.places.toNat + w.length) (Fr.of 0)⟩ t = ⟨0, 1, 0⟩ := fun t => by
  refine dotE_z (fun x hx => zrep x (List.mem_of_mem_take hx)) (gainL_ok t _) ?_ ?_
  ·
   rw [gainL_len, List.length_take, List.length_replicate]; omega
  ·
   rw [List.length_take, List.length_replicate]; omega
 have hdz : ∀ k, k < (List.replicate (n.places.toNat + w.length) (Fr.of 0)).length → gti (List.replicate (n.places.toNat + w.length) (Fr.of 0)) k = Fr.of 0 := fun k hk => zrep _ (gti_mem hk)
 refine ⟨hV, ?_, ?_⟩
 ·
  unfold wrongX
  have hf0 : fstE n w c ⟨g.st, capD far, List.replicate (n.places.toNat + w.length) (Fr.of 0)⟩ c6 = 0 := by
   unfold fstE
   rw [fst1_z hc hgz, if_neg (by decide)]
   exact fst2_z hc hgz hdz w 0 (by show _ ≤ (List.replicate _ _).length; rw [List.length_replicate]; omega)
  rw [hf0, if_neg (by decide)]
  refine thS_ok hc _ fun x hx => ?_
  obtain ⟨s, k⟩ := x
  obtain ⟨i, hi⟩ := List.mem_iff_getElem?.1 hx
  rw [List.getElem?_zip_eq_some] at hi
  obtain ⟨hi1, hi2⟩ := hi
  replace hi1 : g.st[i]? = some s := hi1
  replace hi2 : (capD far)[i]? = some k := hi2
  have hil : i < g.st.length := (List.getElem?_eq_some_iff.1 hi1).1
  have hsi : gti g.st i = s := zdm hi1
  have hki : gti (capD far) i = k := zdm hi2
  have hok := hB.ok s (List.mem_of_getElem? hi1)
  have hb := hcb i hil
  rw [hki] at hb
  refine ⟨hlin s hok, by show 0 ≤ k ∧ _; omega, fun he => ?_, fun m hm => ?_⟩
  ·
   replace he : s = (endE n w).1 := he
   have h1 : i = last := by
    have e1 := find_nodup hB.nd hil
    have e2 := find_nodup hB.nd p2
    rw [hsi, he] at e1
    rw [hend] at e2
    omega
   subst h1
   show k = 0
   rw [← hki, hcap i hil, hF.tt]
   have := hnn 0
   split <;> omega
  ·
   obtain ⟨ha1, ha2, ha3⟩ := moves_mem hok hm
   have hpb := price_bd hc m.kind
   obtain ⟨q, hq⟩ := List.getElem?_of_mem hm
   have hnx : (nxD n w c (gti g.st i))[q]? = some ((zb4 n w s m).1, zbm c m.kind) := by
    rw [hsi]; unfold nxD; rw [List.getElem?_map, hq]; rfl
   obtain ⟨j, hj1, hj2⟩ := hC i hil q _ (List.getElem?_eq_some_iff.1 hnx).1 hnx
   replace hj1 : g.st[j]? = some (zb4 n w s m).1 := hj1
   have hjl : j < g.st.length := (List.getElem?_eq_some_iff.1 hj1).1
   have hfx := hfix _ hj2
   replace hfx : gti far i ≤ gti far j + zbm c m.kind := hfx
   have hbj := hcb j hjl
   refine ⟨gti (capD far) j, ?_, hbj.1, by omega, ?_⟩
   ·
    have := pot_at (n := n) (w := w) (pots := capD far) (d := List.replicate (n.places.toNat + w.length) (Fr.of 0)) hB.nd hjl
    rw [zdm hj1] at this
    exact this
   ·
    show k ≤ _
    rw [← hki, hcap i hil, hcap j hjl]
    split <;> split <;> omega
 ·
  have h0 : gti g.st 0 = (zb7 n w).1 := zdm hB.h0
  rw [← h0, pot_at hB.nd hpos, hcap 0 hpos, if_neg (by omega)]
end
end Go.Proofs.YtjhdcgaiccnmeaaGreatDoor.Aw
end
section
namespace Go.Proofs.YtjhdcgaiccnmeaaGreatDoor.Aw
open Go.RowKit Dl
theorem d_pos {a : Fr} (h : a.ok) : 0 < a.d := by have := h.2.2.1; omega
theorem mkF_val {n d : Int} (hd : 0 < d) {c : Fr} (h : mkF n d = some c) : 0 < c.d ∧ c.n * d = n * c.d := by
 unfold mkF at h
 split at h
 ·
  injection h with h
  subst h
  have hg : 0 < (Int.gcd n d : Int) := by have := Int.gcd_pos_iff.2 (Or.inr (show d ≠ 0 by omega) : n ≠ 0 ∨ d ≠ 0); omega
  obtain ⟨k, hk⟩ : (Int.gcd n d : Int) ∣ n := Int.gcd_dvd_left ..
  obtain ⟨m, hm⟩ : (Int.gcd n d : Int) ∣ d := Int.gcd_dvd_right ..
  have h1 := (nf_ok n d (by omega)).1
  refine ⟨by omega, ?_⟩
  unfold nf
  simp only [Int.sign_eq_one_of_pos hd, Int.one_mul, Int.natAbs_of_nonneg (show 0 ≤ d by omega)]
  generalize (Int.gcd n d : Int) = g at *
  rw [hk, hm, Int.mul_ediv_cancel_left _ (by omega), Int.mul_ediv_cancel_left _ (by omega)]
  grind
 ·
  cases h
def val (a : Fr) : Rat := (a.n : Rat) / (a.d : Rat)
theorem cast_ne {d : Int} (h : 0 < d) : (d : Rat) ≠ 0 := by exact_mod_cast (show d ≠ 0 by omega)
theorem val_mkF {n d : Int} (hd : 0 < d) {c : Fr} (h : mkF n d = some c) : val c = (n : Rat) / (d : Rat) := by
 obtain ⟨h1, h2⟩ := mkF_val hd h
 unfold val
 have e1 : (c.n : Rat) * (d : Rat) = (n : Rat) * (c.d : Rat) := by exact_mod_cast h2
 have e2 := cast_ne h1
 have e3 := cast_ne hd
 grind
theorem val_add {a b c : Fr} (ha : a.ok) (hb : b.ok) (h : fadd a b = some c) : val c = val a + val b := by
 rw [val_mkF (Int.mul_pos (d_pos ha) (d_pos hb)) h]
 unfold val
 have e1 := cast_ne (d_pos ha)
 have e2 := cast_ne (d_pos hb)
 push_cast
 grind
theorem val_mul {a b c : Fr} (ha : a.ok) (hb : b.ok) (h : fmul a b = some c) : val c = val a * val b := by
 rw [val_mkF (Int.mul_pos (d_pos ha) (d_pos hb)) h]
 unfold val
 have e1 := cast_ne (d_pos ha)
 have e2 := cast_ne (d_pos hb)
 push_cast
 grind
theorem val_le {a b : Fr} (ha : a.ok) (hb : b.ok) : val a ≤ val b ↔ a.n * b.d ≤ b.n * a.d := by
 have e1 : (0 : Rat) < (a.d : Rat) := Rat.intCast_pos.2 (d_pos ha)
 have e2 : (0 : Rat) < (b.d : Rat) := Rat.intCast_pos.2 (d_pos hb)
 have f1 := cast_ne (d_pos ha)
 have f2 := cast_ne (d_pos hb)
 have g1 : val a * ((a.d : Rat) * (b.d : Rat)) = (a.n : Rat) * (b.d : Rat) := by unfold val; grind
 have g2 : val b * ((a.d : Rat) * (b.d : Rat)) = (b.n : Rat) * (a.d : Rat) := by unfold val; grind
 have hp := Rat.mul_pos e1 e2
 constructor
 ·
  intro h
  have := Rat.mul_le_mul_of_nonneg_right h (Rat.le_of_lt hp)
  rw [g1, g2] at this
  exact_mod_cast this
 ·
  intro h
  refine Rat.le_of_mul_le_mul_right (c := (a.d : Rat) * (b.d : Rat)) ?_ hp
  rw [g1, g2]
  exact_mod_cast h
theorem cmpN_le {a b : Fr} (ha : a.ok) (hb : b.ok) : cmpN a b ≤ 0 ↔ val a ≤ val b := by
 rw [val_le ha hb]
 unfold cmpN
 split
 ·
  constructor <;> intro _ <;> omega
 ·
  split
  ·
   constructor <;> intro _ <;> omega
  ·
   constructor <;> intro _ <;> omega
def sumR (f : Nat → Rat) : Nat → Rat
 | 0 => 0
 | k + 1 => sumR f k + f k
theorem sumR_congr {f g : Nat → Rat} : ∀ {k : Nat}, (∀ i, i < k → f i = g i) → sumR f k = sumR g k
 | 0, _ => rfl
 | k + 1, h => by
  have h1 := sumR_congr (k := k) (fun i hi => h i (by omega))
  have h2 := h k (by omega)
  show sumR f k + f k = sumR g k + g k
  rw [h1, h2]
theorem sumR_add (f g : Nat → Rat) : ∀ k, sumR (fun i => f i + g i) k = sumR f k + sumR g k
 | 0 => by show (0 : Rat) = 0 + 0; grind
 | k + 1 => by
  show sumR (fun i => f i + g i) k + (f k + g k) = (sumR f k + f k) + (sumR g k + g k)
  rw [sumR_add f g k]
  grind
theorem sumR_zero : ∀ k, sumR (fun _ => 0) k = 0
 | 0 => rfl
 | k + 1 => by
  show sumR (fun _ => 0) k + 0 = 0
  rw [sumR_zero k]
  grind
theorem sumR_shift (f : Nat → Rat) : ∀ k, sumR f (k + 1) = f 0 + sumR (fun i => f (i + 1)) k
 | 0 => by show (0 : Rat) + f 0 = f 0 + 0; grind
 | k + 1 => by
  show sumR f (k + 1) + f (k + 1) = f 0 + (sumR (fun i => f (i + 1)) k + f (k + 1))
  rw [sumR_shift f k]
  grind
theorem fe_of {x : Option Fr} (h : (FE.of x).e = 0) : x = some ⟨(FE.of x).n, (FE.of x).d⟩ := by
 cases x with
 | none => simp [FE.of] at h
 | some a => rfl
theorem addE_val {a b : Fr} (h : (addE a b).e = 0) : a.ok ∧ b.ok ∧ val ⟨(addE a b).n, (addE a b).d⟩ = val a + val b := by
 unfold addE at *
 split at h
 ·
  rename_i hc
  rw [if_pos hc] at *
  simp only [Bool.and_eq_true, Fr.okB_iff] at hc
  exact ⟨hc.1, hc.2, val_add hc.1 hc.2 (fe_of h)⟩
 ·
  simp [FE.err] at h
theorem mulE_val {a b : Fr} (h : (mulE a b).e = 0) : a.ok ∧ b.ok ∧ val ⟨(mulE a b).n, (mulE a b).d⟩ = val a * val b := by
 unfold mulE at *
 split at h
 ·
  rename_i hc
  rw [if_pos hc] at *
  simp only [Bool.and_eq_true, Fr.okB_iff] at hc
  exact ⟨hc.1, hc.2, val_mul hc.1 hc.2 (fe_of h)⟩
 ·
  simp [FE.err] at h
theorem val_of (n : Int) : val (Fr.of n) = (n : Rat) := by
 unfold val Fr.of
 show (n : Rat) / ((1 : Int) : Rat) = n
 have : ((1 : Int) : Rat) = 1 := rfl
 rw [this]; grind
def dotR : List Fr → List Fr → Rat
 | x :: a, y :: b => val x * val y + dotR a b
 | _, _ => 0
theorem dotG_val : ∀ (a b : List Fr) (acc : Fr), (dotG acc a b).e = 0 → val ⟨(dotG acc a b).n, (dotG acc a b).d⟩ = val acc + dotR a b
 | [], b, acc, h => by
  rw [dotG] <;> first | (show val acc = val acc + dotR [] b; rw [dotR] <;> first | grind | (intro x y z w e; cases e)) | (intro x y z w e; cases e)
 | x :: a, [], acc, h => by
  rw [dotG] <;> first | (show val acc = val acc + dotR (x :: a) []; rw [dotR] <;> first | grind | (intro x y z w e e2; cases e2)) | (intro x y z w e e2; cases e2)
 | x :: a, y :: b, acc, h => by
  rw [dotG] at h ⊢
  split at h
  ·
   rename_i h1; exact absurd h h1
  ·
   rename_i h1
   rw [if_neg h1]
   split at h
   ·
    rename_i h2; exact absurd h h2
   ·
    rename_i h2
    rw [if_neg h2]
    rw [dotG_val a b _ h, (addE_val (Decidable.not_not.1 h2)).2.2, (mulE_val (Decidable.not_not.1 h1)).2.2, dotR]
    grind
theorem dotR_sum : ∀ (a b : List Fr), a.length = b.length → dotR a b = sumR (fun k => val (gti a k) * val (gti b k)) a.length
 | [], [], _ => by rw [dotR] <;> first | rfl | (intro x y z w e; cases e)
 | x :: a, y :: b, h => by
  rw [dotR, List.length_cons, sumR_shift, dotR_sum a b (by simpa using h)]
  rfl
theorem dotE_val {a b : List Fr} (h : (dotE a b).e = 0) : a.length = b.length ∧ val ⟨(dotE a b).n, (dotE a b).d⟩ = sumR (fun k => val (gti a k) * val (gti b k)) a.length := by
 unfold dotE at *
 split at h
 ·
  simp [FE.err] at h
 ·
  rename_i h1
  rw [if_neg h1]
  split at h
  ·
   simp [FE.err] at h
  ·
   rename_i h2
   rw [if_neg h2]
   split at h
   ·
    simp [FE.err] at h
   ·
    rename_i h3
    rw [if_neg h3]
    have hl := Decidable.not_not.1 h3
    refine ⟨hl, ?_⟩
    rw [dotG_val a b _ h, val_of, ← dotR_sum a b hl]
    show ((0 : Int) : Rat) + _ = _
    have : ((0 : Int) : Rat) = 0 := rfl
    rw [this]; grind
theorem fstE_06 {n : Net} {w : List ByteArray} {c : Cst} {p : Prf} : fstE n w c p c6 ≠ 10 := by
 have h1 : ∀ l, fst1 n c p c6 l ≠ 10 := fun l => by
  induction l with
  | nil => simp [fst1]
  | cons t l ih =>
   unfold fst1; split; · simp [c6]
   ·
    split; · decide
    ·
     exact ih
 have h3 : ∀ d act l, fst3 n p c6 d act l ≠ 10 := fun d act l => by
  induction l with
  | nil => simp [fst3]
  | cons t l ih =>
   unfold fst3
   split
   ·
    exact ih
   ·
    split
    ·
     simp [c6]
    ·
     split
     ·
      simp [c6]
     ·
      split
      ·
       decide
      ·
       exact ih
 have h2 : ∀ (l : List ByteArray) k, fst2 n c p c6 k l ≠ 10 := fun l => by
  induction l with
  | nil => intro k; simp [fst2]
  | cons a l ih =>
   intro k
   unfold fst2
   split
   ·
    decide
   ·
    split
    ·
     exact h3 _ _ _
    ·
     exact ih _
 unfold fstE
 split
 ·
  exact h1 _
 ·
  exact h2 _ _
structure Seen (n : Net) (w : List ByteArray) (c : Cst) (p : Prf) : Prop where
 f1 : ∀ t ∈ n.trans, (gE n p t).e = 0 ∧ grB (frE (gE n p t)) (Fr.of (mostE c t)) = false
 f2 : ∀ j, j < w.length → grB (gti p.duals (n.places.toNat + j)) (Fr.of c.log) = false ∧ ∀ t ∈ n.trans, t.label = gti w j → (addE (frE (gE n p t)) (gti p.duals (n.places.toNat + j))).e = 0 ∧ grB (frE (addE (frE (gE n p t)) (gti p.duals (n.places.toNat + j)))) (Fr.of 0) = false
 f3 : ∀ x ∈ p.st.zip p.pots, (linX n w p x.1).e = 0 ∧ grB (frE (linX n w p x.1)) (Fr.of x.2) = false ∧ (x.1 = (endE n w).1 → x.2 = 0) ∧ ∀ m ∈ movesL n w x.1, (potX n w p (zb4 n w x.1 m).1).e = 0 ∧ (addE (Fr.of (zbm c m.kind)) (frE (potX n w p (zb4 n w x.1 m).1))).e = 0 ∧ grB (Fr.of x.2) (frE (addE (Fr.of (zbm c m.kind)) (frE (potX n w p (zb4 n w x.1 m).1)))) = false
theorem seen_of {n : Net} {w : List ByteArray} {c : Cst} {p : Prf} (h : (wrongX n w c p c6).2.2 = 10) : Seen n w c p := by
 unfold wrongX at h
 split at h
 ·
  exact absurd h fstE_06
 ·
  rename_i hf
  have hf0 : fstE n w c p c6 = 0 := Decidable.not_not.1 hf
  have h1 : ∀ l, fst1 n c p c6 l = 0 → ∀ t ∈ l, (gE n p t).e = 0 ∧ grB (frE (gE n p t)) (Fr.of (mostE c t)) = false := fun l => by
   induction l with
   | nil => intro _ t ht; cases ht
   | cons t l ih =>
    intro h
    unfold fst1 at h
    split at h
    ·
     exact absurd h (by simp [c6])
    ·
     rename_i h1
     split at h
     ·
      exact absurd h (by decide)
     ·
      rename_i h2
      intro t' ht
      rcases List.mem_cons.1 ht with rfl | ht
      ·
       exact ⟨Decidable.not_not.1 h1, by simpa using h2⟩
      ·
       exact ih h t' ht
  have h3 : ∀ d act l, fst3 n p c6 d act l = 0 → ∀ t ∈ l, t.label = act → (addE (frE (gE n p t)) d).e = 0 ∧ grB (frE (addE (frE (gE n p t)) d)) (Fr.of 0) = false := fun d act l => by
   induction l with
   | nil => intro _ t ht; cases ht
   | cons t l ih =>
    intro h
    unfold fst3 at h
    split at h
    ·
     rename_i h0
     intro t' ht he
     rcases List.mem_cons.1 ht with rfl | ht
     ·
      exact absurd he h0
     ·
      exact ih h t' ht he
    ·
     split at h
     ·
      exact absurd h (by simp [c6])
     ·
      split at h
      ·
       exact absurd h (by simp [c6])
      ·
       rename_i h2
       split at h
       ·
        exact absurd h (by decide)
       ·
        rename_i h4
        intro t' ht he
        rcases List.mem_cons.1 ht with rfl | ht
        ·
         exact ⟨Decidable.not_not.1 h2, by simpa using h4⟩
        ·
         exact ih h t' ht he
  have h2 : ∀ (l : List ByteArray) k, fst2 n c p c6 k l = 0 → ∀ j, j < l.length → grB (gti p.duals (n.places.toNat + (k + j))) (Fr.of c.log) = false ∧ fst3 n p c6 (gti p.duals (n.places.toNat + (k + j))) (gti l j) n.trans = 0 := fun l => by
   induction l with
   | nil => intro k _ j hj; simp at hj
   | cons a l ih =>
    intro k h j hj
    unfold fst2 at h
    split at h
    ·
     exact absurd h (by decide)
    ·
     rename_i h5
     split at h
     ·
      rename_i h6; exact absurd h h6
     ·
      rename_i h6
      cases j with
      | zero => exact ⟨by simpa using h5, Decidable.not_not.1 h6⟩
      | succ j =>
       have := ih (k + 1) h j (by simpa using hj)
       rw [show k + 1 + j = k + (j + 1) by omega] at this
       exact this
  have hfa : fst1 n c p c6 n.trans = 0 ∧ fst2 n c p c6 0 w = 0 := by
   unfold fstE at hf0
   split at hf0
   ·
    rename_i h7; exact absurd hf0 h7
   ·
    rename_i h7; exact ⟨Decidable.not_not.1 h7, hf0⟩
  refine ⟨h1 _ hfa.1, fun j hj => ?_, ?_⟩
  ·
   have := h2 w 0 hfa.2 j hj
   rw [Nat.zero_add] at this
   exact ⟨this.1, fun t ht he => h3 _ _ _ this.2 t ht he⟩
  ·
   clear hf hf0 h1 h2 h3 hfa
   have hm : ∀ s k ms, thM n w c p c6 s k ms = none → ∀ m ∈ ms, (potX n w p (zb4 n w s m).1).e = 0 ∧ (addE (Fr.of (zbm c m.kind)) (frE (potX n w p (zb4 n w s m).1))).e = 0 ∧ grB (Fr.of k) (frE (addE (Fr.of (zbm c m.kind)) (frE (potX n w p (zb4 n w s m).1)))) = false := fun s k ms => by
    induction ms with
    | nil => intro _ m hm; cases hm
    | cons m ms ih =>
     intro h
     unfold thM at h
     split at h
     ·
      cases h
     ·
      rename_i g1
      split at h
      ·
       cases h
      ·
       rename_i g2
       split at h
       ·
        cases h
       ·
        rename_i g3
        intro m' hm'
        rcases List.mem_cons.1 hm' with rfl | hm'
        ·
         exact ⟨Decidable.not_not.1 g1, Decidable.not_not.1 g2, by simpa using g3⟩
        ·
         exact ih h m' hm'
   generalize p.st.zip p.pots = Z at h ⊢
   induction Z with
   | nil => intro x hx; cases hx
   | cons y Z ih =>
    obtain ⟨s, k⟩ := y
    unfold thS at h
    split at h
    ·
     exact absurd h (by simp [c6])
    ·
     rename_i g1
     split at h
     ·
      exact absurd (show (0 : Int) = 10 from h) (by decide)
     ·
      rename_i g2
      cases ht : thM n w c p c6 s k (movesL n w s) with
      | some r =>
       rw [ht] at h
       obtain ⟨m, e⟩ := r
       have he : e = 6 ∨ e = 0 := by
        clear h ih g1 g2
        generalize movesL n w s = ms at ht
        induction ms with
        | nil => cases ht
        | cons m ms ih =>
         unfold thM at ht
         split at ht
         ·
          cases ht; exact .inl rfl
         ·
          split at ht
          ·
           cases ht; exact .inl rfl
          ·
           split at ht
           ·
            cases ht; exact .inr rfl
           ·
            exact ih ht
       rcases he with rfl | rfl
       ·
        exact absurd (show (6 : Int) = 10 from h) (by decide)
       ·
        exact absurd (show (0 : Int) = 10 from h) (by decide)
      | none =>
       rw [ht] at h
       intro x hx
       rcases List.mem_cons.1 hx with rfl | hx
       ·
        refine ⟨Decidable.not_not.1 g1, ?_, fun he => ?_, hm s k _ ht⟩
        ·
         cases hg : grB (frE (linX n w p s)) (Fr.of k) with
         | false => rfl
         | true => exact absurd (.inl hg) g2
        ·
         exact Classical.byContradiction fun hk => g2 (.inr ⟨he, hk⟩)
       ·
        exact ih h x hx
def vD (p : Prf) (k : Nat) : Rat := val (gti p.duals k)
def ind (s : List Int) (j : Nat) : Int := if gti s 0 ≤ (j : Int) then 1 else 0
def linV (n : Net) (w : List ByteArray) (p : Prf) (s : List Int) : Rat :=
 sumR (fun k => vD p k * ((gti s (k + 1) - gti (endE n w).1 (k + 1) : Int) : Rat)) n.places.toNat + sumR (fun j => vD p (n.places.toNat + j) * ((ind s j : Int) : Rat)) w.length
def gainV (n : Net) (p : Prf) (t : Tr) : Rat := sumR (fun k => vD p k * ((oneR1 (decide ((k : Int) ∈ t.inn)) (decide ((k : Int) ∈ t.out)) : Int) : Rat)) n.places.toNat
theorem sumR_split (f : Nat → Rat) (a : Nat) : ∀ b, sumR f (a + b) = sumR f a + sumR (fun i => f (a + i)) b
 | 0 => by show sumR f a = sumR f a + 0; grind
 | b + 1 => by
  show sumR f (a + b) + f (a + b) = sumR f a + (sumR (fun i => f (a + i)) b + f (a + b))
  rw [sumR_split f a b]; grind
theorem gti_map_range {f : Nat → Fr} {m k : Nat} (h : k < m) : gti ((List.range m).map f) k = f k := zdm (by rw [List.getElem?_map, List.getElem?_range h]; rfl)
theorem lin_val {n : Net} {w : List ByteArray} {p : Prf} (hv : VD n w p) {s : List Int} (hs : okS n w s) (h : (linX n w p s).e = 0) : val (frE (linX n w p s)) = linV n w p s := by
 have h1 := dotE_val h
 have hl := hs.len
 have hd := hv.dl
 have hp := za8 hv.net
 have e0 : p.duals.length = n.places.toNat + w.length := by omega
 have hsn : s.length - 1 = n.places.toNat := by omega
 show val ⟨(linX n w p s).n, (linX n w p s).d⟩ = _
 rw [show val ⟨(linX n w p s).n, (linX n w p s).d⟩ = _ from h1.2, e0, sumR_split]
 unfold linV
 have g1 : ∀ k, k < n.places.toNat → gti (linL w s (endE n w).1) k = Fr.of (gti s (k + 1) - gti (endE n w).1 (k + 1)) := fun k hk => by
  unfold linL
  rw [gti_app0 (by rw [lin1_len]; omega), hsn]
  exact gti_map_range hk
 have g2 : ∀ j, j < w.length → gti (linL w s (endE n w).1) (n.places.toNat + j) = Fr.of (ind s j) := fun j hj => by
  unfold linL
  rw [hsn]
  have : gti (lin1 s (endE n w).1 n.places.toNat ++ lin2 s w.length) (n.places.toNat + j) = gti (lin2 s w.length) j := by
   unfold gti
   rw [List.getElem?_append_right (by rw [lin1_len]; omega), lin1_len, Nat.add_sub_cancel_left]
  rw [this]
  exact gti_map_range hj
 rw [sumR_congr (k := n.places.toNat) (g := fun k => vD p k * ((gti s (k + 1) - gti (endE n w).1 (k + 1) : Int) : Rat)) (fun k hk => by rw [g1 k hk, val_of]; rfl),
  sumR_congr (k := w.length) (g := fun j => vD p (n.places.toNat + j) * ((ind s j : Int) : Rat)) (fun j hj => by rw [g2 j hj, val_of]; rfl)]
theorem gain_val {n : Net} {w : List ByteArray} {p : Prf} (hv : VD n w p) {t : Tr} (h : (gE n p t).e = 0) : val (frE (gE n p t)) = gainV n p t := by
 have h1 := dotE_val h
 have hd := hv.dl
 have hp := za8 hv.net
 have e0 : (p.duals.take n.places.toNat).length = n.places.toNat := by rw [List.length_take]; omega
 rw [show val (frE (gE n p t)) = _ from h1.2, e0]
 unfold gainV
 refine sumR_congr (fun k hk => ?_)
 have g1 : gti (p.duals.take n.places.toNat) k = gti p.duals k := by unfold gti; rw [List.getElem?_take, if_pos hk]
 have g2 : gti (gainL t n.places.toNat) k = Fr.of (oneR1 (decide ((k : Int) ∈ t.inn)) (decide ((k : Int) ∈ t.out))) := gti_map_range hk
 rw [g1, g2, val_of]
 rfl
theorem grB_val {a b : Fr} (ha : a.okB = true) (hb : b.okB = true) (h : grB a b = false) : val a ≤ val b := by
 rw [grB_cmp ha hb] at h
 refine (cmpN_le ((Fr.okB_iff _).1 ha) ((Fr.okB_iff _).1 hb)).1 ?_
 have := of_decide_eq_false h
 omega
theorem decL_at {n : Int} : ∀ {ps m : List Int}, zch n ps = true → n ≤ m.length → ∀ i : Nat, gti (decL ps m) i = gti m i - b01 (decide ((i : Int) ∈ ps))
 | [], m, _, _, i => by simp [decL, b01]
 | p :: ps, m, h, hl, i => by
  obtain ⟨h0, h1, h2⟩ := placesB_head h
  have ht := placesB_tail h
  rw [decL, decL_at ht (by rw [List.length_set]; exact hl) i, gti_set]
  by_cases hi : p.toNat = i
  ·
   have hip : (i : Int) = p := by omega
   have hn : (i : Int) ∉ ps := fun hm => h2 _ hm (by omega)
   rw [if_pos ⟨hi, by omega⟩, decide_eq_false hn, decide_eq_true (by simp [hip]), hi]
   simp [b01]
  ·
   rw [if_neg (fun h => hi h.1)]
   have e : decide ((i : Int) ∈ p :: ps) = decide ((i : Int) ∈ ps) := decide_eq_decide.2 (by
    rw [List.mem_cons]
    exact ⟨fun h => h.resolve_left (fun e => hi (by omega)), .inr⟩)
   rw [e]
theorem incL_at {n : Int} : ∀ {ps m : List Int}, zch n ps = true → n ≤ m.length → ∀ i : Nat, gti (incL ps m) i = gti m i + b01 (decide ((i : Int) ∈ ps))
 | [], m, _, _, i => by simp [incL, b01]
 | p :: ps, m, h, hl, i => by
  obtain ⟨h0, h1, h2⟩ := placesB_head h
  have ht := placesB_tail h
  rw [incL, incL_at ht (by rw [List.length_set]; exact hl) i, gti_set]
  by_cases hi : p.toNat = i
  ·
   have hip : (i : Int) = p := by omega
   have hn : (i : Int) ∉ ps := fun hm => h2 _ hm (by omega)
   rw [if_pos ⟨hi, by omega⟩, decide_eq_false hn, decide_eq_true (by simp [hip]), hi]
   simp [b01]
  ·
   rw [if_neg (fun h => hi h.1)]
   have e : decide ((i : Int) ∈ p :: ps) = decide ((i : Int) ∈ ps) := decide_eq_decide.2 (by
    rw [List.mem_cons]
    exact ⟨fun h => h.resolve_left (fun e => hi (by omega)), .inr⟩)
   rw [e]
theorem lin_diff {n : Net} {w : List ByteArray} {p : Prf} {s s' : List Int} {g d : Nat → Int} (hg : ∀ k, k < n.places.toNat → gti s (k + 1) = gti s' (k + 1) + g k) (hd : ∀ j, j < w.length → ind s j = ind s' j + d j) :
  linV n w p s = linV n w p s' + sumR (fun k => vD p k * ((g k : Int) : Rat)) n.places.toNat + sumR (fun j => vD p (n.places.toNat + j) * ((d j : Int) : Rat)) w.length := by
 unfold linV
 rw [sumR_congr (k := n.places.toNat) (g := fun k => vD p k * ((gti s' (k + 1) - gti (endE n w).1 (k + 1) : Int) : Rat) + vD p k * ((g k : Int) : Rat)) (fun k hk => by
   rw [hg k hk]; push_cast; grind),
  sumR_congr (k := w.length) (g := fun j => vD p (n.places.toNat + j) * ((ind s' j : Int) : Rat) + vD p (n.places.toNat + j) * ((d j : Int) : Rat)) (fun j hj => by
   rw [hd j hj]; push_cast; grind), sumR_add, sumR_add]
 grind
theorem sum_one (f : Nat → Rat) (J : Nat) : ∀ W, sumR (fun j => f j * (((if j = J then 1 else 0 : Int)) : Rat)) W = if J < W then f J else 0
 | 0 => by rw [if_neg (by omega)]; rfl
 | W + 1 => by
  show sumR (fun j => f j * (((if j = J then 1 else 0 : Int)) : Rat)) W + f W * (((if W = J then 1 else 0 : Int)) : Rat) = _
  rw [sum_one f J W]
  by_cases h1 : W = J
  ·
   subst h1
   rw [if_neg (by omega), if_pos rfl, if_pos (by omega)]
   have : ((1 : Int) : Rat) = 1 := rfl
   rw [this]; grind
  ·
   rw [if_neg h1]
   have e : ((0 : Int) : Rat) = 0 := rfl
   by_cases h2 : J < W
   ·
    rw [if_pos h2, if_pos (by omega), e]; grind
   ·
    rw [if_neg h2, if_neg (by omega), e]; grind
structure CondV (n : Net) (w : List ByteArray) (c : Cst) (p : Prf) : Prop where
 a : ∀ t ∈ n.trans, gainV n p t ≤ ((mostE c t : Int) : Rat)
 b : ∀ j, j < w.length → vD p (n.places.toNat + j) ≤ ((c.log : Int) : Rat)
 cc : ∀ j, j < w.length → ∀ t ∈ n.trans, t.label = gti w j → gainV n p t + vD p (n.places.toNat + j) ≤ 0
theorem cond_of {n : Net} {w : List ByteArray} {c : Cst} {p : Prf} (hv : VD n w p) (hc : vcB c = true) (h : Seen n w c p) : CondV n w c p := by
 have hd := hv.dl
 have hp := za8 hv.net
 have hb := vcB_bd hc
 have hdo : ∀ j, j < w.length → (gti p.duals (n.places.toNat + j)).okB = true := fun j hj => List.all_eq_true.1 hv.dok _ (gti_mem (by omega))
 refine ⟨fun t ht => ?_, fun j hj => ?_, fun j hj t ht he => ?_⟩
 ·
  obtain ⟨h1, h2⟩ := h.f1 t ht
  have := grB_val ((hv.gE t).2 h1) (of_okB (by have := mostE_bd hc t; omega)) h2
  rwa [gain_val hv h1, val_of] at this
 ·
  have := grB_val (hdo j hj) (of_okB (by omega)) (h.f2 j hj).1
  rwa [val_of] at this
 ·
  obtain ⟨h1, _⟩ := h.f1 t ht
  obtain ⟨h2, h3⟩ := (h.f2 j hj).2 t ht he
  have hg := (hv.gE t).2 h1
  have := grB_val (addE_okB hg (hdo j hj) h2) (of_okB (by omega)) h3
  rw [show val (frE (addE (frE (gE n p t)) (gti p.duals (n.places.toNat + j)))) = _ from (addE_val h2).2.2, gain_val hv h1, val_of] at this
  exact this
theorem FireE_ofD {n : Net} {m : List Int} (h : zcu n m = true) (t : Int) : FireE n m t = fireE n m t := by rw [FireE, h]; rfl
theorem atB_dropD {w : List ByteArray} {p : Int} {a : ByteArray} (hp : 0 ≤ p) (h : atB w p a = true) : w.drop p.toNat = a :: w.drop (p + 1).toNat ∧ p + 1 ≤ w.length := by
 unfold atB at h
 simp only [Bool.and_eq_true, decide_eq_true_eq] at h
 have hlt : p.toNat < w.length := by omega
 rw [zda hlt, h.2, show (p + 1).toNat = p.toNat + 1 by omega]
 exact ⟨rfl, by omega⟩
theorem gti_drop1 (s : List Int) (k : Nat) : gti (s.drop 1) k = gti s (k + 1) := by unfold gti; rw [List.getElem?_drop, Nat.add_comm]
theorem gti_consS (x : Int) (l : List Int) (k : Nat) : gti (x :: l) (k + 1) = gti l k := by unfold gti; rw [List.getElem?_cons_succ]
theorem fire_val {n : Net} {m : List Int} {t : Int} (h : (fireE n m t).2 = 0) : (fireE n m t).1 = incL (gti n.trans t.toNat).out (decL (gti n.trans t.toNat).inn m) := by
 unfold fireE at h ⊢
 split at h
 ·
  cases h
 ·
  rename_i h1
  rw [if_neg h1]
  split at h
  ·
   rename_i h2
   rw [if_pos h2]
   split at h
   ·
    cases h
   ·
    rename_i h3; rw [if_neg h3]
  ·
   cases h
theorem ind_next {x : Int} (hx : 0 ≤ x) (l l' : List Int) (j : Nat) : ind (x :: l) j = ind ((x + 1) :: l') j + (if j = x.toNat then 1 else 0) := by
 unfold ind
 show (if x ≤ (j : Int) then (1 : Int) else 0) = (if x + 1 ≤ (j : Int) then 1 else 0) + _
 split <;> split <;> split <;> omega
theorem ind_head (s : List Int) (l : List Int) (j : Nat) : ind s j = ind (gti s 0 :: l) j := rfl
theorem sumR_z {f : Nat → Rat} {g : Nat → Int} {k : Nat} (h : ∀ i, i < k → g i = 0) : sumR (fun i => f i * ((g i : Int) : Rat)) k = 0 := by
 rw [sumR_congr (g := fun _ => 0) (fun i hi => by rw [h i hi]; have e : ((0 : Int) : Rat) = 0 := rfl; rw [e]; grind), sumR_zero]
theorem lin_step {n : Net} {w : List ByteArray} {c : Cst} {p : Prf} (hv : VD n w p) (hC : CondV n w c p) {s : List Int} {m : Stp} (hs : okS n w s) (hk : kindB m.kind = true) (h : (zb4 n w s m).2 = 0) :
  linV n w p s ≤ ((zbm c m.kind : Int) : Rat) + linV n w p (zb4 n w s m).1 := by
 rw [ApplyE_of hs hk] at h ⊢
 obtain ⟨h1, h2, h3, h4, h5⟩ := zc6.1 hs
 have hkb : 1 ≤ m.kind ∧ m.kind ≤ 4 := by unfold kindB at hk; simp at hk; exact hk
 have hsl := hs.len
 have hp := za8 hv.net
 have e00 : ((0 : Int) : Rat) = 0 := rfl
 unfold applyE at h ⊢
 by_cases c1 : m.kind = 2
 ·
  rw [if_pos c1] at h ⊢
  by_cases c2 : m.trans ≠ -1
  ·
   rw [if_pos c2] at h; simp at h
  rw [if_neg c2] at h ⊢
  by_cases c3 : nameB m.act = false
  ·
   rw [if_pos c3] at h; simp at h
  rw [if_neg c3] at h ⊢
  by_cases c4 : atB w (gti s 0) m.act = false
  ·
   rw [if_pos c4] at h; simp at h
  rw [if_neg c4] at h ⊢
  have ha := (atB_dropD h3 (by simpa using c4)).2
  rw [lin_diff (s' := (gti s 0 + 1) :: s.drop 1) (g := fun _ => 0) (d := fun j => if j = (gti s 0).toNat then 1 else 0) (fun k hk => by rw [gti_consS, gti_drop1]; omega) (fun j hj => by rw [ind_head s (s.drop 1) j, ind_next h3]),
   sumR_z (fun _ _ => rfl), sum_one, if_pos (by omega)]
  have hb := hC.b (gti s 0).toNat (by omega)
  have hpr : zbm c m.kind = c.log := by unfold zbm; rw [if_pos c1]
  rw [hpr]
  grind
 ·
  rw [if_neg c1] at h ⊢
  by_cases c2 : m.trans < 0 ∨ (n.trans.length : Int) ≤ m.trans
  ·
   rw [if_pos c2] at h; simp at h
  rw [if_neg c2] at h ⊢
  by_cases c3 : m.act ≠ (gti n.trans m.trans.toNat).label ∨ (gti n.trans m.trans.toNat).label.toList.isEmpty ≠ decide (m.kind = 4)
  ·
   rw [if_pos c3] at h; simp at h
  rw [if_neg c3] at h ⊢
  by_cases c4 : m.kind = 1 ∧ atB w (gti s 0) m.act = false
  ·
   rw [if_pos c4] at h; simp at h
  rw [if_neg c4] at h ⊢
  by_cases c5 : (FireE n (s.drop 1) m.trans).2 ≠ 0
  ·
   rw [if_pos c5] at h; exact absurd h c5
  rw [if_neg c5] at h ⊢
  rw [FireE_ofD h5] at c5 ⊢
  have htm : gti n.trans m.trans.toNat ∈ n.trans := gti_mem (by omega)
  have hfv := fire_val (Decidable.not_not.1 c5)
  obtain ⟨hl1, hl2, hl3⟩ := validB_tr hv.net htm
  have ca : m.act = (gti n.trans m.trans.toNat).label := Classical.byContradiction fun h => c3 (.inl h)
  have cb : (gti n.trans m.trans.toNat).label.toList.isEmpty = decide (m.kind = 4) := Classical.byContradiction fun h => c3 (.inr h)
  have hga := hC.a _ htm
  have hgc := fun j hj he => hC.cc j hj _ htm he
  generalize gti n.trans m.trans.toNat = t at *
  have hmk : ∀ k, k < n.places.toNat → gti s (k + 1) = gti (fireE n (s.drop 1) m.trans).1 k + oneR1 (decide ((k : Int) ∈ t.inn)) (decide ((k : Int) ∈ t.out)) := fun k hk => by
   have e1 : n.places ≤ ((s.drop 1).length : Nat) := by rw [List.length_drop]; omega
   rw [hfv, incL_at hl3 (by rw [decL_len]; exact e1), decL_at hl2 e1, gti_drop1]
   unfold oneR1 b01
   omega
  dsimp only
  by_cases hk1 : m.kind = 1
  ·
   rw [if_pos hk1]
   have hat : atB w (gti s 0) m.act = true := by cases h : atB w (gti s 0) m.act <;> simp_all
   have ha := atB_dropD h3 hat
   rw [lin_diff (s' := (gti s 0 + 1) :: (fireE n (s.drop 1) m.trans).1) (g := fun k => oneR1 (decide ((k : Int) ∈ t.inn)) (decide ((k : Int) ∈ t.out))) (d := fun j => if j = (gti s 0).toNat then 1 else 0) (fun k hk => by rw [gti_consS]; exact hmk k hk) (fun j hj => by rw [ind_head s (s.drop 1) j, ind_next h3]),
    sum_one, if_pos (by omega)]
   have hw : t.label = gti w (gti s 0).toNat := by
    unfold atB at hat
    simp only [Bool.and_eq_true, decide_eq_true_eq] at hat
    rw [← ca]; exact hat.2.symm
   have hg := hgc (gti s 0).toNat (by omega) hw
   have hpr : zbm c m.kind = 0 := by unfold zbm; rw [if_neg (by omega), if_neg (by omega), if_neg (by omega)]
   rw [hpr, e00]
   unfold gainV at hg
   grind
  ·
   rw [if_neg hk1]
   rw [lin_diff (s' := gti s 0 :: (fireE n (s.drop 1) m.trans).1) (g := fun k => oneR1 (decide ((k : Int) ∈ t.inn)) (decide ((k : Int) ∈ t.out))) (d := fun _ => 0) (fun k hk => by rw [gti_consS]; exact hmk k hk) (fun j hj => by rw [ind_head s (fireE n (s.drop 1) m.trans).1 j]; omega),
    sumR_z (f := fun j => vD p (n.places.toNat + j)) (fun _ _ => rfl)]
   have hpr : zbm c m.kind = mostE c t := by
    unfold zbm mostE
    rw [if_neg c1]
    by_cases h4 : m.kind = 4
    ·
     rw [decide_eq_true h4] at cb
     rw [if_neg (by omega), if_pos h4, if_pos (show t.label = { data := #[] } from empty_of cb)]
    ·
     rw [decide_eq_false h4] at cb
     rw [if_pos (by omega), if_neg (fun e => by
      have e2 : t.label = ByteArray.empty := e
      rw [e2] at cb; exact absurd cb (by decide +kernel))]
   rw [hpr]
   unfold gainV at hga
   grind
def potV (n : Net) (w : List ByteArray) (p : Prf) (s : List Int) : Rat := if zc2 p.st s < 0 then linV n w p s else ((gti p.pots (idx p.st s) : Int) : Rat)
theorem potX_eq (n : Net) (w : List ByteArray) (p : Prf) (s : List Int) : potX n w p s = if zc2 p.st s < 0 then linX n w p s else ⟨gti p.pots (idx p.st s), 1, 0⟩ := rfl
theorem pot_val {n : Net} {w : List ByteArray} {p : Prf} (hv : VD n w p) {s : List Int} (hs : okS n w s) (h : (potX n w p s).e = 0) : val (frE (potX n w p s)) = potV n w p s := by
 rw [potX_eq] at h ⊢
 unfold potV
 split
 ·
  rename_i hf
  rw [if_pos hf] at h
  exact lin_val hv hs h
 ·
  exact val_of _
theorem lin_pot {n : Net} {w : List ByteArray} {c : Cst} {p : Prf} (hv : VD n w p) (hS : Seen n w c p) {s : List Int} (hs : okS n w s) : linV n w p s ≤ potV n w p s := by
 unfold potV
 split
 ·
  exact Rat.le_refl
 ·
  rename_i hf
  have hz := idx_zip hv.pl hf
  obtain ⟨h1, h2, _⟩ := hS.f3 _ hz
  have hb := hv.pb _ (List.of_mem_zip hz).2
  have := grB_val ((hv.lin hs).2 h1) (of_okB (by omega)) h2
  rwa [lin_val hv hs h1, val_of] at this
theorem pot_step {n : Net} {w : List ByteArray} {c : Cst} {p : Prf} (hv : VD n w p) (hc : vcB c = true) (hS : Seen n w c p) {s : List Int} {m : Stp} (hs : okS n w s) (hk : kindB m.kind = true) (h : (zb4 n w s m).2 = 0) :
  potV n w p s ≤ ((zbm c m.kind : Int) : Rat) + potV n w p (zb4 n w s m).1 := by
 have hm : m ∈ movesL n w s := hasM_iff.1 (by rw [can_mem hs hk]; exact decide_eq_true h)
 obtain ⟨_, _, hs2⟩ := moves_mem hs hm
 by_cases hf : zc2 p.st s < 0
 ·
  have h1 : potV n w p s = linV n w p s := if_pos hf
  have h2 := lin_step hv (cond_of hv hc hS) hs hk h
  have h3 := lin_pot hv hS hs2
  rw [h1]
  grind
 ·
  have h1 : potV n w p s = ((gti p.pots (idx p.st s) : Int) : Rat) := if_neg hf
  have hz := idx_zip hv.pl hf
  have hb := hv.pb _ (List.of_mem_zip hz).2
  obtain ⟨_, _, _, h4⟩ := hS.f3 _ hz
  obtain ⟨g1, g2, g3⟩ := h4 m hm
  have hpb := price_bd hc m.kind
  have ha := addE_okB (of_okB (k := zbm c m.kind) (by omega)) ((hv.pot hs2).2 g1) g2
  have := grB_val (of_okB (by omega)) ha g3
  rw [val_of, show val (frE (addE (Fr.of (zbm c m.kind)) (frE (potX n w p (zb4 n w s m).1)))) = _ from (addE_val g2).2.2, val_of, pot_val hv hs2 g1] at this
  rw [h1]
  exact this
theorem pot_end {n : Net} {w : List ByteArray} {c : Cst} {p : Prf} (hv : VD n w p) (hS : Seen n w c p) : potV n w p (endE n w).1 = 0 := by
 have e00 : ((0 : Int) : Rat) = 0 := rfl
 by_cases hf : zc2 p.st (endE n w).1 < 0
 ·
  unfold potV
  rw [if_pos hf]
  have he := (start_ok (n := n) (w := w) (by unfold zb7; rw [hv.net, hv.word]; rfl)).2.2.2.1
  unfold linV
  rw [sumR_z (g := fun k => gti (endE n w).1 (k + 1) - gti (endE n w).1 (k + 1)) (fun i _ => by omega), sumR_z (f := fun j => vD p (n.places.toNat + j)) (g := fun j => ind (endE n w).1 j) (fun j hj => by
   rw [he]
   unfold ind
   exact if_neg (by show ¬ (w.length : Int) ≤ (j : Int); omega))]
  grind
 ·
  have hz := idx_zip hv.pl hf
  have h1 := (hS.f3 _ hz).2.2.1 rfl
  unfold potV
  rw [if_neg hf]
  replace h1 : gti p.pots (idx p.st (endE n w).1) = 0 := h1
  rw [h1, e00]
def sumC (c : Cst) : List Stp → Int
 | [] => 0
 | m :: l => zbm c m.kind + sumC c l
theorem sumC_app (c : Cst) : ∀ a b, sumC c (a ++ b) = sumC c a + sumC c b
 | [], b => by simp [sumC]
 | m :: a, b => by rw [List.cons_append, sumC, sumC, sumC_app c a b]; omega
theorem costAt_sum (c : Cst) (l : List Stp) : ∀ k, k ≤ l.length → costAt c l k = sumC c (l.take k)
 | 0, _ => rfl
 | k + 1, h => by
  rw [costAt, costAt_sum c l k (by omega), List.take_add_one, zbu (by omega), sumC_app]
  simp [sumC]
theorem pot_way {n : Net} {w : List ByteArray} {c : Cst} {p : Prf} (hv : VD n w p) (hc : vcB c = true) (hS : Seen n w c p) : ∀ {l : List Stp} {s e : List Int}, okS n w s → (∀ m ∈ l, kindB m.kind = true) → runA n w s l = some e → potV n w p s ≤ ((sumC c l : Int) : Rat) + potV n w p e
 | [], s, e, hs, hk, h => by
  cases h
  have e00 : ((0 : Int) : Rat) = 0 := rfl
  show _ ≤ ((0 : Int) : Rat) + _
  rw [e00]; grind
 | m :: l, s, e, hs, hk, h => by
  rw [runA] at h
  have hkm := hk m (by simp)
  rw [← ApplyE_of hs hkm] at h
  split at h
  ·
   rename_i h0
   have hs2 : okS n w (zb4 n w s m).1 := by rw [ApplyE_of hs hkm] at h0 ⊢; exact apply_state hs h0
   have h1 := pot_step hv hc hS hs hkm h0
   have h2 := pot_way hv hc hS hs2 (fun x hx => hk x (by simp [hx])) h
   show _ ≤ ((zbm c m.kind + sumC c l : Int) : Rat) + _
   rw [Rat.intCast_add]
   grind
  ·
   cases h
theorem bound_ok {n : Net} {w : List ByteArray} {c : Cst} {p : Prf} {cost k : Int} {l : List Stp} (h : checkE n w c cost p = true) (hl : checkB n w c l k = true) : cost ≤ k := by
 unfold checkE at h
 simp only [Bool.and_eq_true, decide_eq_true_eq] at h
 obtain ⟨hc, hvd, hw, he, hfl⟩ := h
 have hv := vdB_iff.1 hvd
 have hS := seen_of hw
 unfold checkB at hl
 simp only [Bool.and_eq_true, decide_eq_true_eq] at hl
 obtain ⟨⟨⟨⟨h1, h2⟩, h3, h4⟩, h5⟩, h6⟩ := hl
 have hst : zb7 n w = (startS n, 0) := by unfold zb7 startS; rw [h1, h2]; rfl
 have hso : okS n w (zb7 n w).1 := hv.start_ok'
 cases hr : runA n w (startS n) l with
 | none => rw [hr] at h6; cases h6
 | some e =>
  rw [hr] at h6
  have hee : e = (endE n w).1 := by
   have : e = endS n w := by simpa [endB] using h6
   rw [this]; unfold endE endS; rw [h1, h2]; rfl
  subst hee
  have hway := pot_way hv hc hS (s := (zb7 n w).1) hso (fun m hm => by
   obtain ⟨i, hi, rfl⟩ := List.mem_iff_getElem.1 hm
   have := fineB_kind h4 hi
   rwa [show gti l i = l[i] from zdm (List.getElem?_eq_getElem hi)] at this) (by rw [hst]; exact hr)
  rw [pot_end hv hS] at hway
  have hok := (hv.pot hso).2 he
  have hd := (okB_d hok).2.1
  have hpv := pot_val hv hso he
  have hfl2 := (floorN_le hd cost).1 hfl
  have hcv : ((cost : Int) : Rat) ≤ val (frE (potX n w p (zb7 n w).1)) := by
   have : val (Fr.of cost) ≤ val (frE (potX n w p (zb7 n w).1)) → ((cost : Int) : Rat) ≤ val (frE (potX n w p (zb7 n w).1)) := fun h => by rwa [val_of] at h
   have e1 : (0 : Rat) < ((frE (potX n w p (zb7 n w).1)).d : Rat) := Rat.intCast_pos.2 (by omega)
   have e2 := cast_ne (show 0 < (frE (potX n w p (zb7 n w).1)).d by omega)
   refine Rat.le_of_mul_le_mul_right (c := ((frE (potX n w p (zb7 n w).1)).d : Rat)) ?_ e1
   have e3 : val (frE (potX n w p (zb7 n w).1)) * ((frE (potX n w p (zb7 n w).1)).d : Rat) = ((frE (potX n w p (zb7 n w).1)).n : Rat) := by unfold val; grind
   rw [e3]
   exact_mod_cast hfl2
  rw [hpv] at hcv
  have hk : sumC c l = k := by rw [← h5, costAt_sum c l _ (Nat.le_refl _), List.take_length]
  rw [hk] at hway
  have : ((cost : Int) : Rat) ≤ ((k : Int) : Rat) := by grind
  exact_mod_cast this
theorem check_less {n : Net} {w : List ByteArray} {c : Cst} {p : Prf} {cost cost' : Int} (h : checkE n w c cost p = true) (hl : cost' ≤ cost) : checkE n w c cost' p = true := by
 unfold checkE at h ⊢
 simp only [Bool.and_eq_true, decide_eq_true_eq] at h ⊢
 exact ⟨h.1, h.2.1, h.2.2.1, h.2.2.2.1, Int.le_trans hl h.2.2.2.2⟩
end Go.Proofs.YtjhdcgaiccnmeaaGreatDoor.Aw
end
