/-
  petri.reached and petri.Workflow. Conditions: none.
-/
import Derived.Test.YtmhbfoaecebobaaBool
import Derived.Test.YtmhbfoaecebobaaMark
import Derived.Test.YtmhbfoaecebobaaCls
namespace Go.Proofs.Ytmhbfoaecebobaa
set_option linter.unusedSimpArgs false
set_option linter.unusedVariables false
open Go.RowKit

theorem cell_aft {w W : World} {b o : Nat} {x : Value} (hb : Below w.heap.size w W) (h : w.cell? ⟨b, o, none⟩ = some x) : W.cell? ⟨b, o, none⟩ = some x := (World.cell?_of_block (hb.block b (World.block_lt_of_cell? _ _ h))).trans h
theorem C3.aft3 {w W : World} {b o : Nat} {x y z : Value} (hb : Below w.heap.size w W) (h : C3 w b o x y z) : C3 W b o x y z := ⟨cell_aft hb h.1, cell_aft hb h.2.1, cell_aft hb h.2.2⟩
theorem ent_reached1 : Ent 100 := ent_of Try.func100 (by kernel_rfl) rfl
set_option maxHeartbeats 400000 in
theorem reached1_any (pl : List Bool) (p : Int) (gc gp lo hi n cap : Nat) (w : World) (hc : C1 w gc 0 (.slice (some ⟨gp, 0, none⟩) pl.length cap)) (hv : OwnO w lo hi (.slice (some ⟨gp, 0, none⟩) pl.length cap) pl) (h0 : 0 ≤ p) (h1 : p < pl.length) :
    Calls Try.prog 100 #[.int .i64 p, .pointer (some ⟨gc, 0, none⟩)] w fun e w' => e = .returned (.bool (gti pl p.toNat)) ∧ Below w.heap.size w w' := by
  obtain ⟨k, rfl⟩ : ∃ k : Nat, p = k := ⟨p.toNat, by omega⟩
  have hk := OwnO.at1 hv (k := k) (by omega)
  clear hv
  refine calls_cps fun R hR => ?_
  have HR := Lib.hid hR
  clear hR
  go_enter Try.func100, Try.ntmps100
  go_wp2_with fail
  exact HR.out _ _ ⟨by simp, Below.refl _ _⟩

theorem heap_new {w : World} {o : Obj} {g : Nat} (h : g = w.heap.size) : (w.alloc o).heap[g]? = some o := by
  subst h
  show (w.heap.push o)[w.heap.size]? = some o
  simp
theorem heap_old {w : World} {o : Obj} {g : Nat} {x : Option Obj} (h : g < w.heap.size) (hx : w.heap[g]? = x) : (w.alloc o).heap[g]? = x := by
  rw [← hx]
  show (w.heap.push o)[g]? = w.heap[g]?
  rw [Array.getElem?_push, if_neg (Nat.ne_of_lt h)]
theorem heap_drew (w : World) : w.drew.heap = w.heap := rfl
theorem own_heapO {W : World} {g n : Nat} (hn : n ≤ 1000000) (h : W.heap[g]? = some (.cells (madeCells #[.bool false] n) 4 (0, 0))) : OwnO W g (g + 1) (.slice (some ⟨g, 0, none⟩) n n) (List.replicate n false) := by
  have hl := made_rep (enc := encO) (z := .bool false) (size := 1) false rfl rfl (by decide) n
  rw [Nat.mul_one] at hl
  have e : (Value.bool false).cells = #[.bool false] := rfl
  rw [e] at hl
  refine ⟨⟨?_, .inr ⟨g, n, _, ?_, Nat.le_refl _, h, by simp, by unfold maxLen; omega, ?_, ?_⟩⟩, fun k hk => ?_⟩
  · simp
  · simp
  · rw [size_madeCells, Nat.mul_one]
  · rw [hl]
    exact List.take_of_length_le (by rw [flatMap_len (size := 1) (fun _ => rfl)]; exact Nat.le_refl _)
  · have : g = k := by simpa [Value.ownBlock] using hk
    omega

abbrev rchL (w0 : World) (n : Net) (vt : Value) (np nt gc gp gt : Nat) (pl tl : List Bool) : List Loc :=
  [Loc.c1 gc 0 (.slice (some ⟨gp, 0, none⟩) np np), Loc.owO gp (gp + 1) (.slice (some ⟨gp, 0, none⟩) np np) pl, Loc.owO gt (gt + 1) (.slice (some ⟨gt, 0, none⟩) nt nt) tl, Loc.k4 w0.heap.size (.int .i64 n.places) (vt) (.int .i64 n.source) (.int .i64 n.sink), Loc.bl w0.heap.size w0]
theorem rchL_p {w0 W : World} {n : Net} {vt : Value} {np nt gc gp gt : Nat} {pl tl : List Bool} (h : Mem (rchL w0 n vt np nt gc gp gt pl tl) W) (h1 : gc ≠ gp) (h3 : gp ≠ gt) (h5 : w0.heap.size < gp) (k : Nat) :
    Mem (rchL w0 n vt np nt gc gp gt (pl.set k true) tl) (W.setCell ⟨gp, k, none⟩ (.bool true)) := by
  have hr : Mem [Loc.c1 gc 0 (.slice (some ⟨gp, 0, none⟩) np np), Loc.owO gt (gt + 1) (.slice (some ⟨gt, 0, none⟩) nt nt) tl, Loc.k4 w0.heap.size (.int .i64 n.places) (vt) (.int .i64 n.source) (.int .i64 n.sink), Loc.bl w0.heap.size w0] (W.setCell ⟨gp, k, none⟩ (.bool true)) := Mem.set (g := gp) ⟨h.1, h.2.2.1, h.2.2.2.1, h.2.2.2.2⟩ (by (repeat' (first | exact True.intro | refine And.intro (fun k hk e => ?_) ?_)) <;> (first | exact e | ((try dsimp only [Loc.c1, Loc.c2, Loc.k1, Loc.k2, Loc.k3, Loc.k4, Loc.k6, Loc.fr, Loc.bl, Loc.own, Loc.sz, Loc.rd, Loc.rdI, Loc.rdS, Loc.rdM, Loc.rdT, Loc.ow, Loc.owI] at hk e) <;> omega)))
  exact ⟨hr.1, OwnO.set h.2.1 k true, hr.2.1, hr.2.2.1, hr.2.2.2⟩
theorem rchL_t {w0 W : World} {n : Net} {vt : Value} {np nt gc gp gt : Nat} {pl tl : List Bool} (h : Mem (rchL w0 n vt np nt gc gp gt pl tl) W) (h1 : gc ≠ gt) (h3 : gp ≠ gt) (h5 : w0.heap.size < gt) (k : Nat) :
    Mem (rchL w0 n vt np nt gc gp gt pl (tl.set k true)) (W.setCell ⟨gt, k, none⟩ (.bool true)) := by
  have hr : Mem [Loc.c1 gc 0 (.slice (some ⟨gp, 0, none⟩) np np), Loc.owO gp (gp + 1) (.slice (some ⟨gp, 0, none⟩) np np) pl, Loc.k4 w0.heap.size (.int .i64 n.places) (vt) (.int .i64 n.source) (.int .i64 n.sink), Loc.bl w0.heap.size w0] (W.setCell ⟨gt, k, none⟩ (.bool true)) := Mem.set (g := gt) ⟨h.1, h.2.1, h.2.2.2.1, h.2.2.2.2⟩ (by (repeat' (first | exact True.intro | refine And.intro (fun k hk e => ?_) ?_)) <;> (first | exact e | ((try dsimp only [Loc.c1, Loc.c2, Loc.k1, Loc.k2, Loc.k3, Loc.k4, Loc.k6, Loc.fr, Loc.bl, Loc.own, Loc.sz, Loc.rd, Loc.rdI, Loc.rdS, Loc.rdM, Loc.rdT, Loc.ow, Loc.owI] at hk e) <;> omega)))
  exact ⟨hr.1, hr.2.1, OwnO.set h.2.2.1 k true, hr.2.2.1, hr.2.2.2⟩
theorem cntF_rep (k : Nat) : cntF (List.replicate k false) = k := by simp [cntF]
theorem setB_zero (pl : List Bool) (l : List Int) : setB pl (l.take 0) = pl := by rw [List.take_zero, setB]
theorem setB_snoc (pl : List Bool) : ∀ (l : List Int) (q : Int), setB pl (l ++ [q]) = (setB pl l).set q.toNat true
  | l, q => by
    induction l generalizing pl with
    | nil => rfl
    | cons a l ih => rw [List.cons_append, setB, ih, setB]
theorem setB_take (pl : List Bool) (l : List Int) {k : Nat} (h : k < l.length) : setB pl (l.take (k + 1)) = (setB pl (l.take k)).set (gti l k).toNat true := by
  rw [List.take_add_one, gti_get h, Option.toList, setB_snoc]
theorem reached_mem {w W : World} {n : Net} {vt : Value} {np nt gc gp gt : Nat} {tt : TypeId} (hb : Below (w.heap.size + 1) (w.alloc (.cells #[.int .i64 n.places, vt, .int .i64 n.source, .int .i64 n.sink] 24)) W) (hp : np ≤ 1000) (ht : nt ≤ 1000)
    (h1 : W.heap[gc]? = some (.cells #[.slice (some ⟨gp, 0, none⟩) np np] tt (0, 0))) (h2 : W.heap[gp]? = some (.cells (madeCells #[.bool false] np) 4 (0, 0))) (h3 : W.heap[gt]? = some (.cells (madeCells #[.bool false] nt) 4 (0, 0))) :
    Mem [Loc.c1 gc 0 (.slice (some ⟨gp, 0, none⟩) np np), Loc.owO gp (gp + 1) (.slice (some ⟨gp, 0, none⟩) np np) (List.replicate np false), Loc.owO gt (gt + 1) (.slice (some ⟨gt, 0, none⟩) nt nt) (List.replicate nt false), Loc.k4 w.heap.size (.int .i64 n.places) (vt) (.int .i64 n.source) (.int .i64 n.sink), Loc.bl w.heap.size w] W := by
  refine ⟨?_, own_heapO (by omega) h2, own_heapO (by omega) h3, K4.aft (by simpa using hb) (K4.new w _ _ _ _ _), ⟨((Below.refl _ _).alloc (Nat.le_refl _) _).trans (hb.mono (by omega)), by have := hb.size; simp at this; omega⟩, True.intro⟩
  show W.cell? ⟨gc, 0, none⟩ = _
  unfold World.cell?
  simp [h1]
set_option maxRecDepth 100000 in
set_option maxHeartbeats 4000000 in
theorem reached_any (n : Net) (s : Int) (back : Bool) (vt : Value) (lo hi : Nat) (w : World) (hv : RdT w lo hi vt n.trans) (hval : validB n = true) (h0 : 0 ≤ s) (h1 : s < n.places) :
    Calls Try.prog 67 #[netV n vt, .int .i64 s, .bool back] w fun e w' => ∃ pl tl A c B d, e = .returned (.tuple #[.slice A pl.length c, .slice B tl.length d]) ∧ RdO w' 0 w'.heap.size (.slice A pl.length c) pl ∧ RdO w' 0 w'.heap.size (.slice B tl.length d) tl ∧ RF n back s pl tl ∧ Below w.heap.size w w' := by
  obtain ⟨A, ca, rfl, hc, hmm⟩ := hv.form
  have HV := Lib.hid hv
  have HVL := Lib.hid hval
  have hpl := validB_places hval
  have HP := Lib.hid (Plc.of hval)
  clear hv hval
  obtain ⟨np, hnp⟩ : ∃ k : Nat, n.places = k := ⟨n.places.toNat, by omega⟩
  obtain ⟨ks, rfl⟩ : ∃ k : Nat, s = k := ⟨s.toNat, by omega⟩
  have hks : ks < np := by omega
  have hmk := mk_bool hnp (by omega)
  have hmk2 := mk_bool (x := (n.trans.length : Int)) rfl (by omega)
  have HNP := Lib.hid hnp
  have hn40 : np ≤ 40 := by omega
  have ht60 : n.trans.length ≤ 60 := by omega
  have HI0 := Lib.hid (RI.init (n := n) (back := back) h0 h1)
  rw [hnp] at HI0
  clear hnp hpl h0 h1
  refine calls_cps fun R hR => ?_
  have HR := Lib.hid hR
  clear hR
  go_enter Try.func67, Try.ntmps67
  have M : Hid (Mem [Loc.k4 w.heap.size (.int .i64 n.places) (.slice A n.trans.length ca) (.int .i64 n.source) (.int .i64 n.sink), Loc.bl w.heap.size w] (w.alloc (.cells #[.int .i64 n.places, .slice A n.trans.length ca, .int .i64 n.source, .int .i64 n.sink] 24))) := Lib.hid ⟨K4.new w _ _ _ _ _, ⟨(Below.refl _ _).alloc (Nat.le_refl _) _, by simp⟩, True.intro⟩
  have hk4 := M.out.1
  go_upto_region 1 with fail
  go_cut [8, 9] (fun v8 v9 wx => ∃ gc gp gt : Nat, v8 = .pointer (some ⟨gc, 0, none⟩) ∧ v9 = .slice (some ⟨gt, 0, none⟩) n.trans.length n.trans.length ∧ gc ≠ gp ∧ gc ≠ gt ∧ gp ≠ gt ∧ w.heap.size < gc ∧ w.heap.size < gp ∧ w.heap.size < gt ∧ Hid (Mem [Loc.c1 gc 0 (.slice (some ⟨gp, 0, none⟩) np np), Loc.owO gp (gp + 1) (.slice (some ⟨gp, 0, none⟩) np np) (List.replicate np false), Loc.owO gt (gt + 1) (.slice (some ⟨gt, 0, none⟩) n.trans.length n.trans.length) (List.replicate n.trans.length false), Loc.k4 w.heap.size (.int .i64 n.places) (.slice A n.trans.length ca) (.int .i64 n.source) (.int .i64 n.sink), Loc.bl w.heap.size w] wx))
  case first =>
    go_region
    all_goals
      go_wp2_with fail
      go_meet
      first | (refine ⟨_, w.heap.size + 1, _, rfl, rfl, ?_, ?_, ?_, ?_, ?_, ?_, Lib.hid (reached_mem (tt := 109) (Below.drew (Below.alloc (Below.alloc (Below.alloc (Below.refl _ _) (by first | omega | (simp; done) | (simp; omega)) _) (by first | omega | (simp; done) | (simp; omega)) _) (by first | omega | (simp; done) | (simp; omega)) _)) (by omega) (by omega) ?_ ?_ ?_)⟩ <;> first | omega | (rw [heap_drew]; refine heap_new ?_; simp; done) | (rw [heap_drew]; refine heap_old ?_ (heap_new ?_) <;> simp <;> done) | (rw [heap_drew]; refine heap_old ?_ (heap_old ?_ (heap_new ?_)) <;> (first | (simp; done) | (simp; omega)))) | (refine ⟨_, w.heap.size + 1 + 1, _, rfl, rfl, ?_, ?_, ?_, ?_, ?_, ?_, Lib.hid (reached_mem (tt := 109) (Below.drew (Below.alloc (Below.alloc (Below.alloc (Below.refl _ _) (by first | omega | (simp; done) | (simp; omega)) _) (by first | omega | (simp; done) | (simp; omega)) _) (by first | omega | (simp; done) | (simp; omega)) _)) (by omega) (by omega) ?_ ?_ ?_)⟩ <;> first | omega | (rw [heap_drew]; refine heap_new ?_; simp; done) | (rw [heap_drew]; refine heap_old ?_ (heap_new ?_) <;> simp <;> done) | (rw [heap_drew]; refine heap_old ?_ (heap_old ?_ (heap_new ?_)) <;> (first | (simp; done) | (simp; omega)))) | (refine ⟨_, w.heap.size + 1 + 1 + 1, _, rfl, rfl, ?_, ?_, ?_, ?_, ?_, ?_, Lib.hid (reached_mem (tt := 109) (Below.drew (Below.alloc (Below.alloc (Below.alloc (Below.refl _ _) (by first | omega | (simp; done) | (simp; omega)) _) (by first | omega | (simp; done) | (simp; omega)) _) (by first | omega | (simp; done) | (simp; omega)) _)) (by omega) (by omega) ?_ ?_ ?_)⟩ <;> first | omega | (rw [heap_drew]; refine heap_new ?_; simp; done) | (rw [heap_drew]; refine heap_old ?_ (heap_new ?_) <;> simp <;> done) | (rw [heap_drew]; refine heap_old ?_ (heap_old ?_ (heap_new ?_)) <;> (first | (simp; done) | (simp; omega)))) | skip
  case rest =>
    clear hmk hmk2 hk4 M
    obtain ⟨gc, gp, gt, rfl, rfl, hd1, hd2, hd3, hd4, hd5, hd6, M0⟩ := hcut
    have M : Hid (Mem (rchL w n (.slice A n.trans.length ca) np n.trans.length gc gp gt (List.replicate np false) (List.replicate n.trans.length false)) wc) := M0
    clear M0
    have hcc := M.out.1
    have hat := OwnO.at1 M.out.2.1 (k := ks) (by simp; omega)
    have M1 := Lib.hid (rchL_p M.out hd1 hd3 hd5 ks)
    clear M
    have hk4 := M1.out.2.2.2.1
    go_wp2_with fail
    go_loopg [10, 11, 12, 13, 14, 16] (2 * n.trans.length + 1) (fun gk v10 _ _ _ _ _ wr => ∃ (pl tl : List Bool) (ch : Bool), v10 = .bool ch ∧ gk = 2 * cntF tl + ch.toNat ∧ Hid (RI n back ks pl tl) ∧ Hid (ch = false → ∀ i, i < n.trans.length → gti tl i = false → ∀ p ∈ insB back (gti n.trans i), gti pl p.toNat = false) ∧ Hid (Mem (rchL w n (.slice A n.trans.length ca) np n.trans.length gc gp gt pl tl) wr))
    case atStart => exact ⟨_, _, true, rfl, by rw [cntF_rep]; rfl, HI0, Lib.hid (fun h => by cases h), M1⟩
    case round =>
      clear M1 HI0 hat hcc hk4
      obtain ⟨pl0, tl0, ch, rfl, hgk, HI, HC, M⟩ := hrel
      have HGK := Lib.hid hgk
      clear hgk
      have hk4 := M.out.2.2.2.1
      cases ch with
      | false =>
        have hcc := M.out.1
        have hlp : pl0.length = np := by rw [HI.out.lenp, HNP.out]; simp
        have hlt0 : tl0.length = n.trans.length := HI.out.lent
        have HLP := Lib.hid hlp
        have HLT := Lib.hid hlt0
        clear hlp hlt0
        go_wp2_with fail
        refine HR.out _ _ ⟨pl0, tl0, some ⟨gp, 0, none⟩, np, some ⟨gt, 0, none⟩, n.trans.length, by rw [HLP.out, HLT.out]; rfl, ?_, ?_, HI.out.done HP.out (by omega) (by rw [HNP.out]; omega) (HC.out (by trivial)), M.out.2.2.2.2.1.1⟩
        · rw [HLP.out]
          exact M.out.2.1.rd.mono (Nat.zero_le _) (M.out.2.1.1.lt gp rfl).2
        · rw [HLT.out]
          exact M.out.2.2.1.rd.mono (Nat.zero_le _) (M.out.2.2.1.1.lt gt rfl).2
      | true =>
        clear HC
        go_wp2_with fail
        go_loopw [31, 10, 11, 12, 13, 14, 16] (fun v31 v10 _ _ _ _ _ wr => ∃ (i : Nat) (pl tl : List Bool) (ch : Bool), i ≤ n.trans.length ∧ v31 = .int .i64 i ∧ v10 = .bool ch ∧ Hid (RI n back ks pl tl) ∧ Hid (2 * cntF tl + ch.toNat < 2 * cntF tl0 + 1) ∧ Hid (ch = false → ∀ j, j < i → gti tl j = false → ∀ p ∈ insB back (gti n.trans j), gti pl p.toNat = false) ∧ Hid (Mem (rchL w n (.slice A n.trans.length ca) np n.trans.length gc gp gt pl tl) wr)) (fun v31 _ _ _ _ _ _ _ => n.trans.length - (intOf v31).toNat)
        case atStart => exact ⟨0, pl0, tl0, false, Nat.zero_le _, rfl, rfl, HI, Lib.hid (by simp), Lib.hid (fun _ j hj => absurd hj (by omega)), M⟩
        case round =>
          clear M hk4 HI
          obtain ⟨i, pl, tl, ch, hil, rfl, rfl, HI, HM, HC, M⟩ := hrel
          have hk4 := M.out.2.2.2.1
          by_cases hlt : i < n.trans.length
          · obtain ⟨b4, off4, vi, vo, rfl, _, _, hct0, hri, hro⟩ := RdT.at3 HV.out hlt
            have hct := C3.aft3 M.out.2.2.2.2.1.1 hct0
            clear hct0
            have hti := OwnO.at1 M.out.2.2.1 (k := i) (by rw [HI.out.lent]; exact hlt)
            obtain ⟨z, hz⟩ : ∃ z, gti tl i = z := ⟨_, rfl⟩
            have HZ := Lib.hid hz
            rw [hz] at hti
            clear hz
            obtain ⟨x, hx⟩ : ∃ x, gti n.trans i = x := ⟨_, rfl⟩
            have HX := Lib.hid hx
            rw [hx] at hct hri hro
            clear hx
            obtain ⟨Ai, ci, rfl, hci, hmi⟩ := hri.form
            obtain ⟨Ao, co, rfl, hco, hmo⟩ := hro.form
            have HRI := Lib.hid hri
            have HRO := Lib.hid hro
            clear hri hro
            have M2 := Lib.hid (Mem.cons (a := Loc.k3 wr.heap.size _ _ _) (K3.new wr (.string x.label) (.slice Ai x.inn.length ci) (.slice Ao x.out.length co) 46) (M.out.alloc (.cells #[.string x.label, .slice Ai x.inn.length ci, .slice Ao x.out.length co] 46)))
            have hkt := M2.out.1
            clear M
            go_wp2_with fail
            go_quiet (fail)
            go_upto_if 40 with fail
            go_cut [13, 14] (fun v13 v14 wx => ∃ (Ap : Option Addr) (cp : Nat) (Aq : Option Addr) (cq : Nat), v13 = .slice Ap (insB back x).length cp ∧ v14 = .slice Aq (outsB back x).length cq ∧ Hid (RdI w lo hi (.slice Ap (insB back x).length cp) (insB back x)) ∧ Hid (RdI w lo hi (.slice Aq (outsB back x).length cq) (outsB back x)) ∧ Hid (Mem (rchL w n (.slice (some ⟨b4, off4, none⟩) n.trans.length ca) np n.trans.length gc gp gt pl tl) wx))
            case first =>
              cases back
              · go_wp2_with fail
                go_meet
                exact ⟨Ai, ci, Ao, co, rfl, rfl, HRI, HRO, by first | exact Lib.hid M2.out.2 | exact Lib.hid (M2.out.2.below (below_drewN (Below.refl _ _) _))⟩
              · go_wp2_with fail
                go_meet
                exact ⟨Ao, co, Ai, ci, rfl, rfl, HRO, HRI, by first | exact Lib.hid M2.out.2 | exact Lib.hid (M2.out.2.below (below_drewN (Below.refl _ _) _))⟩
            case rest =>
              clear M2 hkt hct hti HRI HRO hci hmi hco hmo hk4
              obtain ⟨Ap, cp, Aq, cq, rfl, rfl, HRI, HRO, M⟩ := hcut
              have hti := OwnO.at1 M.out.2.2.1 (k := i) (by rw [HI.out.lent]; exact hlt)
              rw [HZ.out] at hti
              cases z with
              | true =>
                go_wp2_with fail
                exact ⟨⟨i + 1, pl, tl, ch, by omega, by go_num, rfl, HI, HM, Lib.hid (fun hf j hj hg => by
                  rcases Nat.lt_succ_iff_lt_or_eq.1 hj with h | rfl
                  · exact HC.out hf j h hg
                  · rw [HZ.out] at hg; cases hg), M⟩, by simp [intOf]; omega⟩
              | false =>
                obtain ⟨zz, hzz⟩ : ∃ zz, (insB back x).any (fun q => gti pl q.toNat) = zz := ⟨_, rfl⟩
                have HZZ := Lib.hid hzz
                clear hzz
                have HPB : Hid (∀ q ∈ insB back x, 0 ≤ q ∧ q < pl.length) := Lib.hid (by
                  intro q hq
                  have := HP.out i hlt back q (by rw [HX.out]; exact hq)
                  rw [HI.out.lenp]
                  omega)
                have HLP : Hid (pl.length = np) := Lib.hid (by rw [HI.out.lenp, HNP.out]; simp)
                cases zz with
                | false =>
                  go_wp2_with (go_at_call 95; refine (containsFI_any 100 ent_reached1 #[.pointer (some ⟨gc, 0, none⟩)] (fun q => gti pl q.toNat) (insB back x) lo hi _ _ (HRI.out.after M.out.2.2.2.2.1.1) (fun q hq W hW => reached1_any pl q gc gp gp (gp + 1) 0 np W (by rw [HLP.out]; exact (M.out.below hW).1) (by rw [HLP.out]; exact (M.out.below hW).2.1) (HPB.out q hq).1 (HPB.out q hq).2)).mono ?_; rintro e w5 ⟨rfl, hb⟩; rw [HZZ.out]; replace M := Lib.hid (M.out.below hb); clear hb)
                  exact ⟨⟨i + 1, pl, tl, ch, by omega, by go_num, rfl, HI, HM, Lib.hid (fun hf j hj hg => by
                    rcases Nat.lt_succ_iff_lt_or_eq.1 hj with h | rfl
                    · exact HC.out hf j h hg
                    · intro p hp
                      rw [HX.out] at hp
                      have := List.any_eq_false.1 HZZ.out p hp
                      simpa using this), M⟩, by simp [intOf]; omega⟩
                | true =>
                  obtain ⟨q0, hq0, hg0⟩ := List.any_eq_true.1 HZZ.out
                  have hom : (outsB back x).length ≤ 9223372036854775807 := by
                    obtain ⟨_, _, _, _, h⟩ := Rd.form HRO.out
                    exact h
                  have HI1 := Lib.hid (HI.out.add HP.out hlt (p := q0) (by rw [HX.out]; exact hq0) hg0)
                  rw [HX.out] at HI1
                  have HM1 : Hid (2 * cntF (tl.set i true) + true.toNat < 2 * cntF tl0 + 1) := Lib.hid (by
                    have h1 := cntF_set (l := tl) (i := i) (by rw [HI.out.lent]; exact hlt) HZ.out
                    have h2 := HM.out
                    simp only [Bool.toNat_true]
                    omega)
                  have HPO : Hid (∀ k, k < (outsB back x).length → 0 ≤ gti (outsB back x) k ∧ gti (outsB back x) k < np) := Lib.hid (by
                    intro k hk
                    have := HP.out.out hlt back (gti (outsB back x) k) (by rw [HX.out]; exact List.mem_of_getElem? (gti_get hk))
                    rw [HNP.out] at this
                    exact this)
                  clear hq0 hg0
                  go_wp2_with (go_at_call 95; refine (containsFI_any 100 ent_reached1 #[.pointer (some ⟨gc, 0, none⟩)] (fun q => gti pl q.toNat) (insB back x) lo hi _ _ (HRI.out.after M.out.2.2.2.2.1.1) (fun q hq W hW => reached1_any pl q gc gp gp (gp + 1) 0 np W (by rw [HLP.out]; exact (M.out.below hW).1) (by rw [HLP.out]; exact (M.out.below hW).2.1) (HPB.out q hq).1 (HPB.out q hq).2)).mono ?_; rintro e w5 ⟨rfl, hb⟩; rw [HZZ.out]; replace M := Lib.hid (M.out.below hb); clear hb; replace hti := OwnO.at1 M.out.2.2.1 (k := i) (by rw [HI.out.lent]; exact hlt); rw [HZ.out] at hti; replace M := Lib.hid (rchL_t M.out hd2 hd3 hd6 i))
                  go_loopw [58, 16] (fun v58 _ wr => ∃ j : Nat, j ≤ (outsB back x).length ∧ v58 = .int .i64 j ∧ Hid (Mem (rchL w n (.slice (some ⟨b4, off4, none⟩) n.trans.length ca) np n.trans.length gc gp gt (setB pl ((outsB back x).take j)) (tl.set i true)) wr)) (fun v58 _ _ => (outsB back x).length - (intOf v58).toNat)
                  case atStart => exact ⟨0, Nat.zero_le _, rfl, by rw [setB_zero]; exact M⟩
                  case round =>
                    clear M hti
                    obtain ⟨j, hj, rfl, M⟩ := hrel
                    by_cases hltj : j < (outsB back x).length
                    · have hob := HPO.out j hltj
                      obtain ⟨bq, oq, rfl, _, _, hcq⟩ := RdI.at1 (HRO.out.after M.out.2.2.2.2.1.1) hltj
                      have HST := Lib.hid (setB_take pl (outsB back x) hltj)
                      obtain ⟨kq, hkq⟩ : ∃ kq : Nat, gti (outsB back x) j = kq := ⟨(gti (outsB back x) j).toNat, by omega⟩
                      rw [hkq] at hcq hob HST
                      rw [Int.toNat_natCast] at HST
                      clear hkq
                      have hkq : kq < np := by omega
                      have hcc := M.out.1
                      have hat := OwnO.at1 M.out.2.1 (k := kq) (by rw [setB_len, HLP.out]; exact hkq)
                      have M6 := Lib.hid (rchL_p M.out hd1 hd3 hd5 kq)
                      rw [← HST.out] at M6
                      generalize gti (setB pl ((outsB back x).take j)) kq = zo at *
                      have HJ1 : Hid (j + 1 ≤ (outsB back x).length) := Lib.hid hltj
                      have hki : Value.int .i64 ((j : Int) + 1) = .int .i64 ((j + 1 : Nat) : Int) := by go_num
                      have HKI := Lib.hid hki
                      clear hki
                      go_wp2_with fail
                      exact ⟨⟨j + 1, HJ1.out, HKI.out, M6⟩, by have := HJ1.out; simp [intOf]; omega⟩
                    · obtain rfl : j = (outsB back x).length := by omega
                      rw [List.take_length] at M
                      go_wp2_with fail
                      exact ⟨⟨i + 1, setB pl (outsB back x), tl.set i true, true, by omega, by go_num, rfl, HI1, HM1, Lib.hid (fun hf => by cases hf), M⟩, by simp [intOf]; omega⟩
          · obtain rfl : i = n.trans.length := by omega
            go_wp2_with fail
            go_roundg (2 * cntF tl + ch.toNat)
            case measure => rw [HGK.out]; exact HM.out
            case rel => (first | exact ⟨pl, tl, ch, rfl, rfl, HI, HC, M⟩ | ((repeat apply Exists.intro); exact ⟨⟨pl, tl, ch, rfl, rfl, HI, HC, M⟩, rfl⟩))
end Go.Proofs.Ytmhbfoaecebobaa
