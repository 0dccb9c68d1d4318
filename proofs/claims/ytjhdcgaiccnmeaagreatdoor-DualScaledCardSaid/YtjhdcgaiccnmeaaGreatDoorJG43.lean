import Derived.Test.YtjhdcgaiccnmeaaGreatDoorJG42
set_option linter.unusedSimpArgs false
set_option linter.unusedVariables false
set_option linter.unusedSectionVars false
section
namespace Go.Proofs.YtjhdcgaiccnmeaaGreatDoor.Aw
open Go.RowKit Dl
def scP (k : Int) (p : Prf) : Prf := ⟨p.st, p.pots.map (k * ·), p.duals.map fun a => Fr.of (k * a.n)⟩
def scC (k : Int) (c : Cst) : Cst := ⟨k * c.log, k * c.model, k * c.silent⟩
structure ScOk (n : Net) (w : List ByteArray) (c : Cst) (p : Prf) (k : Int) : Prop where
 k1 : 1 ≤ k ∧ k ≤ 5
 pl : n.places ≤ 8
 wl : w.length ≤ 6
 du : ∀ a ∈ p.duals, a.d = 1 ∧ -1000 ≤ a.n ∧ a.n ≤ 1000
 po : ∀ q ∈ p.pots, 0 ≤ q ∧ q ≤ 100000
 co : (0 ≤ c.log ∧ c.log ≤ 200) ∧ (0 ≤ c.model ∧ c.model ≤ 200) ∧ 0 ≤ c.silent ∧ c.silent ≤ 200
theorem sc_dot {k : Int} (hk : 1 ≤ k ∧ k ≤ 5) {D B : List Int} (hD : ∀ x ∈ D, x.natAbs ≤ 1000) (hB : ∀ y ∈ B, y.natAbs ≤ 255) (hl : D.length = B.length) (hn : D.length ≤ 14) :
  ∃ g : Int, dotE (D.map Fr.of) (B.map Fr.of) = ⟨g, 1, 0⟩ ∧ dotE ((D.map (k * ·)).map Fr.of) (B.map Fr.of) = ⟨k * g, 1, 0⟩ ∧ -3570000 ≤ g ∧ g ≤ 3570000 := by
 have h1 := dotE_i (X := 1000) (Y := 255) hD hB (by omega) (by omega) hl (by omega) (by omega)
 have h2 := dotE_i (X := 5000) (Y := 255) (a := D.map (k * ·)) (b := B) (fun x hx => by
  obtain ⟨y, hy, rfl⟩ := List.mem_map.1 hx
  exact mul_nb (x := k) (y := y) (X := 5) (Y := 1000) (by omega) (hD y hy)) hB (by omega) (by omega) (by rw [List.length_map]; exact hl) (by rw [List.length_map]; omega) (by rw [List.length_map]; omega)
 rw [dotI_mul] at h2
 have := h1.2
 exact ⟨dotI D B, h1.1, h2.1, by omega, by omega⟩
theorem gti_sm {l : List Int} (h : ∀ x ∈ l, 0 ≤ x ∧ x ≤ 255) (k : Nat) : 0 ≤ gti l k ∧ gti l k ≤ 255 := by
 by_cases hk : k < l.length
 ·
  exact h _ (gti_mem hk)
 ·
  unfold gti; rw [List.getElem?_eq_none (by omega)]; exact ⟨by decide, by decide⟩
def linI (w : List ByteArray) (s e : List Int) : List Int := ((List.range (s.length - 1)).map fun j => gti s (j + 1) - gti e (j + 1)) ++ (List.range w.length).map fun (j : Nat) => if gti s 0 ≤ (j : Int) then 1 else 0
theorem linL_i (w : List ByteArray) (s e : List Int) : linL w s e = (linI w s e).map Fr.of := by
 unfold linL lin1 lin2 linI; rw [List.map_append, List.map_map, List.map_map]; rfl
def gainI (t : Tr) (k : Nat) : List Int := (List.range k).map fun (q : Nat) => oneR1 (decide ((q : Int) ∈ t.inn)) (decide ((q : Int) ∈ t.out))
theorem gainL_i (t : Tr) (k : Nat) : gainL t k = (gainI t k).map Fr.of := by unfold gainL gainI; rw [List.map_map]; rfl
def dI (p : Prf) : List Int := p.duals.map (·.n)
theorem sc_mul {k a b : Int} (hk : 1 ≤ k) (h : a ≤ b) : k * a ≤ k * b := Int.mul_le_mul_of_nonneg_left h (by omega)
theorem sc_bd {k a : Int} {X : Nat} (hk : 1 ≤ k ∧ k ≤ 5) (h : a.natAbs ≤ X) : (k * a).natAbs ≤ 5 * X := mul_nb (by omega) h
section
variable {n : Net} {w : List ByteArray} {c : Cst} {p : Prf} {k : Int}
theorem ScOk.d1 (h : ScOk n w c p k) : p.duals = (dI p).map Fr.of := by
 unfold dI
 rw [List.map_map]
 conv => lhs; rw [← List.map_id p.duals]
 refine List.map_congr_left fun a ha => ?_
 have := (h.du a ha).1
 obtain ⟨x, y⟩ := a
 subst this
 rfl
theorem ScOk.d2 (h : ScOk n w c p k) : (scP k p).duals = ((dI p).map (k * ·)).map Fr.of := by
 unfold dI
 rw [List.map_map, List.map_map]
 rfl
theorem ScOk.db (h : ScOk n w c p k) : ∀ x ∈ dI p, x.natAbs ≤ 1000 := fun x hx => by
 obtain ⟨a, ha, rfl⟩ := List.mem_map.1 hx
 have := (h.du a ha).2
 omega
theorem dI_len (p : Prf) : (dI p).length = p.duals.length := List.length_map _
theorem ScOk.gain (h : ScOk n w c p k) (hv : VD n w p) (t : Tr) : ∃ g : Int, Dl.gE n p t = ⟨g, 1, 0⟩ ∧ Dl.gE n (scP k p) t = ⟨k * g, 1, 0⟩ ∧ -3570000 ≤ g ∧ g ≤ 3570000 := by
 have hp := za8 hv.net
 have hd := hv.dl
 have h8 := h.pl
 unfold Dl.gE
 rw [h.d2, h.d1, gainL_i, ← List.map_take, ← List.map_take, ← List.map_take]
 refine sc_dot h.k1 (fun x hx => h.db x (List.mem_of_mem_take hx)) (fun y hy => ?_) ?_ ?_
 ·
  obtain ⟨q, _, rfl⟩ := List.mem_map.1 hy
  unfold oneR1; split <;> split <;> decide
 ·
  unfold gainI
  rw [List.length_map, List.length_range, List.length_take, dI_len]; omega
 ·
  rw [List.length_take]; omega
theorem ScOk.lin (h : ScOk n w c p k) (hv : VD n w p) {s : List Int} (hs : okS n w s) : ∃ g : Int, linX n w p s = ⟨g, 1, 0⟩ ∧ linX n w (scP k p) s = ⟨k * g, 1, 0⟩ ∧ -3570000 ≤ g ∧ g ≤ 3570000 := by
 have he := hv.end_ok
 have h1 := hs.len
 have hp := za8 hv.net
 have hd := hv.dl
 have h8 := h.pl
 have h6 := h.wl
 unfold linX
 rw [h.d2, h.d1, linL_i]
 refine sc_dot h.k1 h.db (fun y hy => ?_) ?_ ?_
 ·
  unfold linI at hy
  rcases List.mem_append.1 hy with hy | hy
  ·
   obtain ⟨q, _, rfl⟩ := List.mem_map.1 hy
   have b1 := gti_sm hs.small (q + 1)
   have b2 := gti_sm he.small (q + 1)
   omega
  ·
   obtain ⟨q, _, rfl⟩ := List.mem_map.1 hy
   split <;> decide
 ·
  unfold linI
  rw [List.length_append, List.length_map, List.length_map, List.length_range, List.length_range, dI_len]; omega
 ·
  rw [dI_len]; omega
theorem gti_sc (k : Int) (l : List Int) (j : Nat) (hj : j < l.length) : gti (l.map (k * ·)) j = k * gti l j := zdm (by rw [List.getElem?_map, zbu hj]; rfl)
theorem ScOk.pot (h : ScOk n w c p k) (hv : VD n w p) {s : List Int} (hs : okS n w s) : ∃ g : Int, potX n w p s = ⟨g, 1, 0⟩ ∧ potX n w (scP k p) s = ⟨k * g, 1, 0⟩ ∧ -3570000 ≤ g ∧ g ≤ 3570000 := by
 rw [potX_eq, potX_eq]
 by_cases hf : zc2 p.st s < 0
 ·
  rw [if_pos hf, if_pos (show zc2 (scP k p).st s < 0 from hf)]
  exact h.lin hv hs
 ·
  rw [if_neg hf, if_neg (show ¬ zc2 (scP k p).st s < 0 from hf)]
  obtain ⟨p1, p2, p3⟩ := idx_old hf
  have hl : idx p.st s < p.pots.length := by rw [hv.pl]; exact p2
  have hb := h.po _ (gti_mem hl)
  refine ⟨gti p.pots (idx p.st s), rfl, ?_, by omega, by omega⟩
  show (⟨gti (p.pots.map (k * ·)) (idx p.st s), 1, 0⟩ : FE) = _
  rw [gti_sc k _ _ hl]
theorem ScOk.vd (h : ScOk n w c p k) (hv : VD n w p) : VD n w (scP k p) where
 net := hv.net
 word := hv.word
 few := hv.few
 pl := by show (p.pots.map (k * ·)).length = _; rw [List.length_map]; exact hv.pl
 dl := by show (((p.duals.map fun a => Fr.of (k * a.n)).length : Nat) : Int) = _; rw [List.length_map]; exact hv.dl
 ok := hv.ok
 nd := hv.nd
 pb := fun x hx => by
  obtain ⟨y, hy, rfl⟩ := List.mem_map.1 (show x ∈ p.pots.map (k * ·) from hx)
  have h1 := h.po y hy
  have h2 := sc_bd h.k1 (a := y) (X := 100000) (by omega)
  have h3 := sc_mul h.k1.1 h1.1
  show 0 ≤ k * y ∧ k * y ≤ 1073741824
  omega
 dok := List.all_eq_true.2 fun x hx => by
  obtain ⟨y, hy, rfl⟩ := List.mem_map.1 (show x ∈ p.duals.map fun a => Fr.of (k * a.n) from hx)
  have h1 := h.du y hy
  have h2 := sc_bd h.k1 (a := y.n) (X := 1000) (by omega)
  exact of_okB (by omega)
theorem ScOk.vc (h : ScOk n w c p k) : vcB (scC k c) = true := by
 obtain ⟨c1, c2, c3⟩ := h.co
 have a1 := sc_bd h.k1 (a := c.log) (X := 200) (by omega)
 have a2 := sc_bd h.k1 (a := c.model) (X := 200) (by omega)
 have a3 := sc_bd h.k1 (a := c.silent) (X := 200) (by omega)
 have b1 := sc_mul h.k1.1 c1.1
 have b2 := sc_mul h.k1.1 c2.1
 have b3 := sc_mul h.k1.1 c3.1
 show (inB (k * c.log) && (inB (k * c.model) && inB (k * c.silent))) = true
 unfold inB
 simp only [Bool.and_eq_true, decide_eq_true_eq]
 omega
theorem gr_sc (hk : 1 ≤ k ∧ k ≤ 5) {a b : Int} (ha : -4000000 ≤ a ∧ a ≤ 4000000) (hb : -4000000 ≤ b ∧ b ≤ 4000000) (h : grB (Fr.of a) (Fr.of b) = false) : grB (Fr.of (k * a)) (Fr.of (k * b)) = false := by
 have a1 := sc_bd hk (a := a) (X := 4000000) (by omega)
 have a2 := sc_bd hk (a := b) (X := 4000000) (by omega)
 rw [grB_i (by omega) (by omega)] at h ⊢
 have := sc_mul hk.1 (show a ≤ b by have := of_decide_eq_false h; omega)
 exact decide_eq_false (by omega)
theorem ScOk.seen (h : ScOk n w c p k) (hv : VD n w p) (hS : Seen n w c p) : Seen n w (scC k c) (scP k p) := by
 obtain ⟨c1, c2, c3⟩ := h.co
 have hp := za8 hv.net
 have hd := hv.dl
 have hdu : ∀ j, j < w.length → ∃ d : Int, gti p.duals (n.places.toNat + j) = Fr.of d ∧ gti (scP k p).duals (n.places.toNat + j) = Fr.of (k * d) ∧ -1000 ≤ d ∧ d ≤ 1000 := fun j hj => by
  have hl : n.places.toNat + j < p.duals.length := by omega
  have h1 := h.du _ (gti_mem hl)
  refine ⟨(gti p.duals (n.places.toNat + j)).n, ?_, zdm (by show (p.duals.map fun a => Fr.of (k * a.n))[_]? = _; rw [List.getElem?_map, zbu hl]; rfl), h1.2⟩
  generalize gti p.duals (n.places.toNat + j) = a at h1
  obtain ⟨x, y⟩ := a
  have := h1.1
  simp only at this
  subst this
  rfl
 refine ⟨fun t ht => ?_, fun j hj => ?_, fun x hx => ?_⟩
 ·
  obtain ⟨g, g1, g2, g3⟩ := h.gain hv t
  have h1 := (hS.f1 t ht).2
  rw [g1] at h1
  rw [g2]
  refine ⟨rfl, ?_⟩
  have hm : mostE (scC k c) t = k * mostE c t := by unfold mostE; split <;> rfl
  have hmb : 0 ≤ mostE c t ∧ mostE c t ≤ 200 := by unfold mostE; split <;> omega
  rw [hm]
  exact gr_sc h.k1 (a := g) (by omega) (by omega) h1
 ·
  obtain ⟨d, d1, d2, d3⟩ := hdu j hj
  obtain ⟨h1, h2⟩ := hS.f2 j hj
  rw [d1] at h1 h2
  rw [d2]
  refine ⟨gr_sc h.k1 (by omega) (by omega) h1, fun t ht hl => ?_⟩
  obtain ⟨g, g1, g2, g3⟩ := h.gain hv t
  obtain ⟨h3, h4⟩ := h2 t ht hl
  have a1 := sc_bd h.k1 (a := g) (X := 4000000) (by omega)
  have a2 := sc_bd h.k1 (a := d) (X := 4000000) (by omega)
  have a3 := sc_bd h.k1 (a := g + d) (X := 4000000) (by omega)
  rw [Int.mul_add] at a3
  rw [g1, show addE (frE ⟨g, 1, 0⟩) (Fr.of d) = ⟨g + d, 1, 0⟩ from addE_i (a := g) (by omega) (by omega) (by omega)] at h4
  rw [g2, show addE (frE ⟨k * g, 1, 0⟩) (Fr.of (k * d)) = ⟨k * g + k * d, 1, 0⟩ from addE_i (a := k * g) (by omega) (by omega) (by omega)]
  refine ⟨rfl, ?_⟩
  have h5 := gr_sc h.k1 (a := g + d) (b := 0) (by omega) (by omega) h4
  rw [Int.mul_add, Int.mul_zero] at h5
  exact h5
 ·
  obtain ⟨i, hi⟩ := List.mem_iff_getElem?.1 hx
  obtain ⟨s, kq⟩ := x
  obtain ⟨e1, e2⟩ := List.getElem?_zip_eq_some.1 hi
  replace e1 : p.st[i]? = some s := e1
  replace e2 : (p.pots.map (k * ·))[i]? = some kq := e2
  rw [List.getElem?_map] at e2
  obtain ⟨q, e3, e4⟩ := Option.map_eq_some_iff.1 e2
  subst e4
  have hmem : (s, q) ∈ p.st.zip p.pots := List.mem_of_getElem? (List.getElem?_zip_eq_some.2 ⟨e1, e3⟩)
  have hsm := List.mem_of_getElem? e1
  have hqm := List.mem_of_getElem? e3
  have hs := hv.ok s hsm
  have hq := h.po q hqm
  obtain ⟨h1, h2, h3, h4⟩ := hS.f3 _ hmem
  obtain ⟨g, g1, g2, g3⟩ := h.lin hv hs
  replace h2 : grB (frE (linX n w p s)) (Fr.of q) = false := h2
  show (linX n w (scP k p) s).e = 0 ∧ grB (frE (linX n w (scP k p) s)) (Fr.of (k * q)) = false ∧ (s = (endE n w).1 → k * q = 0) ∧ ∀ m ∈ movesL n w s, (potX n w (scP k p) (zb4 n w s m).1).e = 0 ∧ (addE (Fr.of (zbm (scC k c) m.kind)) (frE (potX n w (scP k p) (zb4 n w s m).1))).e = 0 ∧ grB (Fr.of (k * q)) (frE (addE (Fr.of (zbm (scC k c) m.kind)) (frE (potX n w (scP k p) (zb4 n w s m).1)))) = false
  rw [g1] at h2
  rw [g2]
  refine ⟨rfl, gr_sc h.k1 (a := g) (by omega) (by omega) h2, fun he => ?_, fun m hm => ?_⟩
  ·
   rw [show q = 0 from h3 he, Int.mul_zero]
  ·
   obtain ⟨_, _, hs2⟩ := moves_mem hs hm
   obtain ⟨_, _, h5⟩ := h4 m hm
   obtain ⟨r, r1, r2, r3⟩ := h.pot hv hs2
   replace h5 : grB (Fr.of q) (frE (addE (Fr.of (zbm c m.kind)) (frE (potX n w p (zb4 n w s m).1)))) = false := h5
   have hpr : zbm (scC k c) m.kind = k * zbm c m.kind := by
    unfold zbm
    split
    ·
     rfl
    ·
     split
     ·
      rfl
     ·
      split
      ·
       rfl
      ·
       rw [Int.mul_zero]
   have hpb : 0 ≤ zbm c m.kind ∧ zbm c m.kind ≤ 200 := by
    unfold zbm
    split
    ·
     omega
    ·
     split
     ·
      omega
     ·
      split <;> omega
   rw [hpr]
   generalize zbm c m.kind = pr at h5 hpb
   have a1 := sc_bd h.k1 (a := pr) (X := 4000000) (by omega)
   have a2 := sc_bd h.k1 (a := r) (X := 4000000) (by omega)
   have a3 := sc_bd h.k1 (a := pr + r) (X := 4000000) (by omega)
   rw [Int.mul_add] at a3
   rw [r1, show addE (Fr.of pr) (frE ⟨r, 1, 0⟩) = ⟨pr + r, 1, 0⟩ from addE_i (b := r) (by omega) (by omega) (by omega)] at h5
   rw [r2, show addE (Fr.of (k * pr)) (frE ⟨k * r, 1, 0⟩) = ⟨k * pr + k * r, 1, 0⟩ from addE_i (b := k * r) (by omega) (by omega) (by omega)]
   refine ⟨rfl, rfl, ?_⟩
   have h6 := gr_sc h.k1 (a := q) (b := pr + r) (by omega) (by omega) h5
   rw [Int.mul_add] at h6
   exact h6
theorem check_sc (h : ScOk n w c p k) {cost : Int} (hc : checkE n w c cost p = true) : checkE n w (scC k c) (k * cost) (scP k p) = true := by
 unfold checkE at hc ⊢
 simp only [Bool.and_eq_true, decide_eq_true_eq] at hc ⊢
 obtain ⟨hvc, hvd, hw, he, hfl⟩ := hc
 have hv := vdB_iff.1 hvd
 have hS := h.seen hv (seen_of hw)
 obtain ⟨g, g1, g2, g3⟩ := h.pot hv hv.start_ok'
 have hf : ∀ x : Int, floorN ⟨x, 1⟩ = x := fun x => by rw [floorN_eq (a := ⟨x, 1⟩) (by show (1 : Int) ≤ 1; omega)]; exact Int.ediv_one x
 refine ⟨h.vc, vdB_iff.2 (h.vd hv), by rw [wrong_of_seen hS], by rw [g2], ?_⟩
 rw [g1] at hfl
 rw [g2]
 show k * cost ≤ floorN ⟨k * g, 1⟩
 rw [hf]
 exact sc_mul h.k1.1 (by have : cost ≤ floorN ⟨g, 1⟩ := hfl; rwa [hf] at this)
end
end Go.Proofs.YtjhdcgaiccnmeaaGreatDoor.Aw
end
