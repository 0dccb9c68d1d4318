import Derived.Test.YtjhdcgaiccnmeaaGreatDoorJB26
import Derived.Test.YtjhdcgaiccnmeaaGreatDoorJB21
set_option linter.unusedSimpArgs false
set_option linter.unusedVariables false
set_option linter.unusedSectionVars false
namespace Go.Proofs.YtjhdcgaiccnmeaaGreatDoor
namespace Aw
open Go Go.RowKit Go.Proofs
theorem znj {G : Cx} {σ : List Ob} (hr : Rel G σ) {D : Nat} {o o' : Obj} (hb : G.base ≤ D) (hD : G.w.heap[D]? = some o) (hs : zix o = true) (hs' : zix o' = true) :
  Rel { G with w := G.w.putObj D o' } σ ∧ ∀ v x, Rep G v x → Rep { G with w := G.w.putObj D o' } v x := by
 have hlt := (Array.getElem?_eq_some_iff.1 hD).1
 have hold : ∀ k, k ≠ D → (G.w.putObj D o').heap[k]? = G.w.heap[k]? := fun k hk => World.putObj_heap_other hk
 have hnew : (G.w.putObj D o').heap[D]? = some o' := World.putObj_heap_same hlt
 have hcell : ∀ b q, (G.w.putObj D o').cell? ⟨b, q, none⟩ = G.w.cell? ⟨b, q, none⟩ := fun b q => by
  by_cases e : b = D
  ·
   subst e
   cases o <;> simp [zix] at hs <;> cases o' <;> simp [zix] at hs' <;> simp [World.cell?, hnew, hD]
  ·
   exact World.cell?_of_block (hold b e)
 have hrows : zcc G.w (G.w.putObj D o') := fun b cur e f h => ⟨cur, by
  rw [hold b (fun e => by subst e; rw [hD] at h; cases h; cases hs)]; exact h, rfl⟩
 have hrep : ∀ v x, Rep G v x → Rep { G with w := G.w.putObj D o' } v x := fun v x h => h.low (zr5 hr.fresh h) (fun _ _ h => h) (fun b o _ => hcell b o) (fun _ _ _ h => h) (fun _ => hrows)
 have hsz : (G.w.putObj D o').heap.size = G.w.heap.size := by simp [World.putObj]
 refine ⟨⟨hr.below.trans ⟨rfl, rfl, rfl, Nat.le_of_eq hsz.symm, fun k hk => hold k (by omega)⟩, hr.le, fun b o h => by show b < _; rw [hsz]; exact hr.st b o h, fun id ob hob => ?_, hr.inj, hr.fresh⟩, hrep⟩
 refine (hr.obs id ob hob).of rfl rfl rfl (Nat.le_of_eq hsz.symm) (fun k sz cs f hm _ hx => ?_) (fun k Y hk hY _ => ⟨hold k (fun e => ?_), fun j hj => hj⟩)
 ·
  obtain ⟨cur, t, fr, g2, g3, g4, g5⟩ := hx
  refine ⟨cur, t, fr, by rw [hold k (fun e => by subst e; rw [hD] at g2; cases g2; cases hs)]; exact g2, g3, g4, fun q x hx => ⟨(g5 q x hx).1, (g5 q x hx).2.1, fun j c hc => ?_⟩⟩
  obtain ⟨v, h6, h7⟩ := (g5 q x hx).2.2 j c hc
  exact ⟨v, h6, hrep _ _ h7⟩
 ·
  subst e
  obtain ⟨es, cl, h⟩ := hY.map
  rw [hD] at h; cases h; cases hs
section
variable {P : Program}
theorem zv7 {fn : Func} {tmps : Array Value} {R : Ending → World → Prop} {σ : List Ob} : ∀ (Ds : List Nat) (G : Cx), Rel G σ → Ds.Nodup → (∀ D ∈ Ds, G.base ≤ D ∧ G.w.heap[D]? = some (.deferred (some []))) →
  (∀ G' : Cx, G'.base = G.base → G'.w0 = G.w0 → G'.St = G.St → Rel G' σ → (∀ v x, Rep G v x → Rep G' v x) → LeavesIn Fence.wide 3 P fn tmps R [] .returning G'.w) →
  LeavesInM Fence.wide 3 P fn tmps R (Ds.map fun D => { target := .collected D, args := #[] }) .returning G.w
 | [], G, hr, _, _, done => done G rfl rfl rfl hr fun _ _ h => h
 | D :: Ds, G, hr, hn, hD, done => by
  obtain ⟨h1, h2⟩ := hD D (by simp)
  obtain ⟨hr2, hrp⟩ := znj (o' := .deferred none) hr h1 h2 rfl rfl
  have hn' := List.nodup_cons.1 hn
  refine ⟨by simp, .inl ⟨D, _, rfl, run_takeDeferred h2, ?_⟩⟩
  refine zv7 Ds { G with w := G.w.putObj D (.deferred none) } hr2 hn'.2 (fun D' hD' => ?_) (fun G' e1 e2 e3 hr' hrp' => done G' e1 e2 e3 hr' fun v x h => hrp' v x (hrp v x h))
  obtain ⟨h3, h4⟩ := hD D' (by simp [hD'])
  exact ⟨h3, (World.putObj_heap_other (fun e => by subst e; exact hn'.1 hD')).trans h4⟩
theorem aw_fnM {f : FuncId} {fn : Func} {c : Code} {N : Nat} {args : List AV} {F0 : Frm} {rs : List ResultVar} {r : AV} (hf : P.funcs[f]? = some fn) (hname : (fn.name == "runtime.NumGoroutine") = false) (hb : fn.body = some c) (hN : fn.ntmps = N) (hres : fn.results.toList = rs) (hn : Nat.ble args.length N = true)
  (hl : ∀ x ∈ args, Lo 0 x) (hr : Lo 0 r) (hF0 : argF 0 args = F0) (h : MWp P N c F0 [] (zl7 P rs r)) : Pure P f args r := by
 subst hF0
 refine ⟨zfh hf hname hb, hr, fun G vargs hst hsz hrep => ?_⟩
 have hn := Nat.le_of_ble_eq_true hn
 refine (callsIn_wide (n := 3)).1 (callsIn_of_wp_marks hf hb trivial (wpIn_wide.2 ?_))
 let G0 : Cx := { base := G.w.heap.size, w0 := G.w, w := G.w, mu := fun _ => none, St := G.St }
 have hrel : Rel G0 [] := ⟨⟨Below.refl _ _, hst.tab, hst.tab.lt⟩, Nat.le_refl _, fun b o h => h.elim (hst.st b o) False.elim, by simp, by rintro i j b ⟨_, _, h⟩; simp at h, fun _ _ => rfl⟩
 have hfo : FOk G0 { tmps := vargs ++ Array.replicate (fn.ntmps - vargs.size) undef, defers := [] } (argF 0 args) := by
  intro d
  rw [zgd]
  simp only [Nat.zero_le, if_true, Nat.sub_zero]
  by_cases hd : d < args.length
  ·
   have h1 : (vargs ++ Array.replicate (fn.ntmps - vargs.size) undef).getD d undef = vargs[d]'(by omega) := by
    rw [Array.getD_eq_getD_getElem?, Array.getElem?_append_left (by omega)]
    simp [show d < vargs.size by omega]
   rw [h1]
   have h2 : args.getD d .any = args[d] := by simp [List.getD, hd]
   rw [h2]
   exact (hrep d _ _ (by simp [show d < vargs.size by omega]) (by simp [hd])).low (hl _ (List.getElem_mem hd)) (fun _ _ h => h) (fun _ _ _ => rfl) (fun id y h => by omega) (fun h => by omega)
  ·
   have h2 : args.getD d .any = .any := by simp [List.getD, hd]
   rw [h2]; exact .any _
 have hs8 : S8 N G0 { tmps := vargs ++ Array.replicate (fn.ntmps - vargs.size) undef, defers := [] } (argF 0 args) [] := ⟨hrel, hfo, .nil, by simp [hN]; omega⟩
 refine Code.wp_mono (fun e a w q => ?_) (h instMk G0 _ hs8)
 obtain ⟨M, G1, F', σ', rfl, h2, h3, he, xs, h4, h5⟩ := q
 rcases he with rfl | rfl
 all_goals
  show LeavesInM Fence.wide 3 P fn a.tmps _ a.defers .returning G1.w
  rw [h3.df.1]
  refine zv7 M.Ds G1 h3.rel h3.df.2.1 h3.df.2.2 fun G' e1 e2 e3 hrel' hrp => ?_
  have hf' : FOk G' a F' := fun d => hrp _ _ (h3.fr d)
  obtain ⟨v, h6, h7⟩ := zdk (fn := fn) hrel' hf' (by rw [hres]; exact h4)
  have hbase : G'.base = G.w.heap.size := e1.trans h2.base
  have hbel : Below G.w.heap.size G.w G'.w := by have := hrel'.below; rw [hbase, e2, h2.w0] at this; exact this.toBelow
  have hfin := zrc (B := G.w.heap.size) hrel' (by omega) h5 h7
  refine ⟨v, h6, v, G'.all G.w.heap.size, rfl, rfl, hbel, fun b o h => .inl (by rw [e3]; exact h2.st b o h), fun b o h => ?_, fun b o h => ?_, hfin⟩
  ·
   rcases h with h | h
   ·
    exact h2.stN b o (by rw [← e3]; exact h)
   ·
    exact .inr h.1
  ·
   rcases h with h | h
   ·
    exact hrel'.st b o (.inl h)
   ·
    exact h.2
end
end Aw
namespace Aw
open Go Go.RowKit Go.Proofs
def z2m (P : Program) (gf : FuncId) (lb : Array Value) (encs : Nat → Array Value) (len : Nat) (C : World → Prop) : Prop :=
 ∀ (l : Nat) (J : Nat → World → Prop) (W : World), (∀ k W, J k W → C W) →
  (∀ k W, k < len → J k W → YieldAt Fence.wide 1 P l (encs k) W fun e W' => e = .returned (.bool true) ∧ J (k + 1) W') → J 0 W →
  CallsIn Fence.wide 2 P gf (#[.func (.yield l) #[] #[]] ++ lb) W fun e W' => (∃ v, e = .returned v) ∧ J len W'
def RPost (I : List Ob → Prop) : Exit → Frm → List Ob → Prop
 | .normal, _, σ => I σ
 | _, _, _ => False
def znl (a : Act) (ps : Array Tmp) (xs : Array Value) : Act := { tmps := (ps.zip xs).foldl (fun t (p, v) => t.setIfInBounds p v) a.tmps, defers := [] }
section
variable {P : Program} {N : Nat} {F : Frm} {σ : List Ob} {Q : Exit → Frm → List Ob → Prop}
structure KeepN (n : Nat) (G G' : Cx) : Prop where
 step : G.Step G'
 mu : ∀ i y, i < n → G.mu i = some y → G'.mu i = some y
 rows : zcc G.w G'.w
theorem KeepN.fok {n : Nat} {G G' : Cx} {a : Act} (h : KeepN n G G') (hf : FOk G a F) (hlo : ∀ d, Lo n (F.get d)) : FOk G' a F := fun d =>
 (hf d).low (hlo d) h.step.st (fun b o hb => h.step.cell b o (.inl hb)) h.mu (fun _ => h.rows)
theorem KeepN.trans {n : Nat} {G H K : Cx} (h : KeepN n G H) (k : KeepN n H K) : KeepN n G K := ⟨h.step.trans k.step, fun i y hi x => k.mu i y hi (h.mu i y hi x), h.rows.trans k.rows⟩
theorem KeepN.of {n : Nat} {G G' : Cx} (e : G.Ext G') : KeepN n G G' := ⟨e.step, fun i y _ h => e.mu i y h, e.rows⟩
end
end Aw
namespace Aw
open Go Go.RowKit Go.Proofs
theorem znk {w : World} {D : Nat} {o o' : Obj} (hD : w.heap[D]? = some o) (hs : zix o = true) (hs' : zix o' = true) (b q : Nat) : (w.putObj D o').cell? ⟨b, q, none⟩ = w.cell? ⟨b, q, none⟩ := by
 by_cases e : b = D
 ·
  subst e
  have hnew : (w.putObj b o').heap[b]? = some o' := World.putObj_heap_same (Array.getElem?_eq_some_iff.1 hD).1
  cases o <;> simp [zix] at hs <;> cases o' <;> simp [zix] at hs' <;> simp [World.cell?, hnew, hD]
 ·
  exact World.cell?_of_block (World.putObj_heap_other e)
theorem zr7 {w : World} {D : Nat} {o : Obj} (o' : Obj) (hD : w.heap[D]? = some o) (hs : zix o = true) : zcc w (w.putObj D o') := fun b cur e f h => ⟨cur, by
 rw [World.putObj_heap_other (fun e => by subst e; rw [hD] at h; cases h; cases hs)]; exact h, rfl⟩
section
variable {P : Program} {N : Nat} {F : Frm} {σ : List Ob} {Q : Exit → Frm → List Ob → Prop}
theorem ztn {g : Operand} {ps : Array Tmp} {assign body : Code} {gf : FuncId} {caps : List AV} {encs : Nat → Array Value} {len : Nat} (Fk : Nat → Frm) (Inv : Nat → List Ob → Prop)
  (hg : F.eval g = .fn gf caps) (ent : ∀ args w, (callFunc gf args).run P w = .ok (.enter gf args) w)
  (ht : ∀ (G : Cx) (lb : Array Value), Rel G σ → lb.size = caps.length → (∀ (j : Nat) v c, lb[j]? = some v → caps[j]? = some c → Rep G v c) → z2m P gf lb encs len (fun W => ∀ b o, G.St b o → W.cell? ⟨b, o, none⟩ = G.w.cell? ⟨b, o, none⟩))
  (hps : ∀ k, (encs k).size = ps.size) (hlo : ∀ d, Lo σ.length (F.get d))
  (hF : ∀ k G a, k < len → FOk G a F → a.tmps.size = N → FOk G (znl a ps (encs k)) (Fk k) ∧ (znl a ps (encs k)).tmps.size = N)
  (h0 : Inv 0 σ)
  (round : ∀ k σ', k < len → σ'.length = σ.length → Inv k σ' → ∀ r n, RWp P N r n assign (Fk k) σ' (zeh (fun F1 σ1 => RWp P N r n body F1 σ1 (RPost fun σ2 => ∃ τ X, σ2 = τ ++ X ∧ τ.length = σ.length ∧ (∀ ob ∈ τ, ObLo σ.length ob) ∧ Inv (k + 1) τ)) (fun _ _ _ => False)))
  {G : Cx} {a : Act} {Qw : Exit → Act → World → Prop} (hrl : Rel G σ) (hfr : FOk G a F) (hnt : a.tmps.size = N)
  (fin : ∀ (G5 : Cx) (σ' : List Ob), G.Step G5 → Rel G5 σ' → FOk G5 a F → σ'.length = σ.length → Inv len σ' → G5.w.heap[G.w.heap.size]? = some (.deferred (some [])) → Qw .normal { a with defers := [{ target := .collected G.w.heap.size, args := #[] }] ++ a.defers } G5.w) :
  (Code.rangeFunc g ps assign body).wp P Qw a G.w := by
 have hge := zc4 hfr g
 rw [hg] at hge
 generalize hv : a.eval g = gv at hge
 cases hge with
 | fn _ vs _ hl hrep =>
 refine wpIn_wide.1 (wpIn_rangeFunc (F := Fence.wide) (n := 3) fun fn _ => ?_)
 have htn := ht G vs hrl hl hrep
 obtain ⟨rec, hrec⟩ : ∃ rec : LoopState → Option Code → Loop, rec = fun st pe => { state := st, pending := pe, fn, tmps := a.tmps, params := ps, assign, body, defers := G.w.heap.size } := ⟨_, rfl⟩
 obtain ⟨W1, hW1⟩ : ∃ W1, (G.w.alloc (.deferred (some []))).alloc (.loop (rec .ready none)) = W1 := ⟨_, rfl⟩
 have hbel : Below G.w.heap.size G.w W1 := by rw [← hW1]; exact ((Below.refl _ G.w).alloc (Nat.le_refl _) _).alloc (by simp) _
 have hsz : W1.heap.size = G.w.heap.size + 2 := by rw [← hW1]; simp
 have hL1 : W1.heap[G.w.heap.size + 1]? = some (.loop (rec .ready none)) := by
  rw [← hW1]; have := World.alloc_heap_new (G.w.alloc (.deferred (some []))) (.loop (rec .ready none)); rwa [World.size_alloc] at this
 have hK1 : W1.heap[G.w.heap.size]? = some (.deferred (some [])) := by
  rw [← hW1]; exact (Below.heap_alloc _ _ _ (by simp)).trans (World.alloc_heap_new G.w _)
 have hble : G.base ≤ G.w.heap.size := by have h1 := hrl.le; have h2 := hrl.below.size; omega
 obtain ⟨hext1, hrel1⟩ := zgr (G1 := { G with w := W1 }) hrl rfl hbel (fun _ _ h => h) (fun _ _ h => .inl h) (fun b o h => by have h1 : b < G.w.heap.size := hrl.st b o (.inl h); show b < W1.heap.size; omega)
 obtain ⟨G1, hG1⟩ : ∃ G1 : Cx, G1 = { G with w := W1 } := ⟨_, rfl⟩
 rw [← hG1] at hext1 hrel1
 have hw1 : G1.w = W1 := by rw [hG1]
 let J : Nat → World → Prop := fun k W => ∃ (G' : Cx) (σ' : List Ob), G'.w = W ∧ KeepN σ.length G1 G' ∧ Rel G' σ' ∧ σ'.length = σ.length ∧ Inv k σ' ∧ W.heap[G.w.heap.size + 1]? = some (.loop (rec .ready none)) ∧ W.heap[G.w.heap.size]? = some (.deferred (some []))
 refine ⟨G.w.heap.size + 1, [{ target := .collected G.w.heap.size, args := #[] }], W1, { target := .fn (.func gf) vs, args := #[.func (.yield (G.w.heap.size + 1)) #[] #[]] }, W1, gf, #[.func (.yield (G.w.heap.size + 1)) #[] #[]] ++ vs, W1, ?_, ?_, fun _ _ => trivial, ?_, fun h => by simp [Fence.wide] at h, ?_⟩
 ·
  rw [← hW1, hrec]; exact run_enterLoop_outer _ _ _ _ _
 ·
  simp only [resolve, hv]
  simp [go_sem]
 ·
  simp [invoke, go_sem, ent]
 refine CallsIn.mono (htn (G.w.heap.size + 1) J W1 ?_ ?_ ?_) ?_
 ·
  rintro k W ⟨G', σ', rfl, hk, -⟩ b o hb
  exact (hk.step.cell b o (.inl (hext1.st b o hb))).trans (hext1.cell b o (.inl hb))
 ·
  rintro k W hk ⟨G', σ', rfl, hkn, hr', hlen, hi, hl', hd'⟩
  have hy := run_yield (P := P) (args := encs k) hl' (by rw [hrec]; exact hps k)
  rw [hrec] at hy
  have hb' : G'.base = G.base := hkn.step.base.trans hext1.base
  obtain ⟨hf2, hn2⟩ := hF k G' a hk (hkn.fok (hfr.ext hext1) hlo) hnt
  refine ⟨fn, _, assign, body, hy, roundIn_of_wpIn trivial ?_⟩
  refine wpIn_mono (round k σ' hk hlen hi (G.w.heap.size + 1) 1 G' (znl a ps (encs k)) (@S8.mk instMk N G' _ _ σ' hr' hf2 .nil hn2)) (fun e a1 w1 q => ?_)
  obtain ⟨G2, F2, σ2, rfl, e2, s2, q2⟩ := q
  cases e with
  | normal =>
   have hl2 := e2.oth _ _ hl' rfl
   have hd2 := e2.oth _ _ hd' rfl
   have hlt := (Array.getElem?_eq_some_iff.1 hl2).1
   refine ⟨_, run_beginRound hl2 (by rw [hrec]), ?_⟩
   obtain ⟨hr3, hrp3⟩ := znj (o' := .loop { rec .ready none with state := .busy }) s2.rel (by rw [e2.base, hb']; omega) hl2 rfl rfl
   refine wpIn_mono (q2 { G2 with w := G2.w.putObj (G.w.heap.size + 1) (.loop { rec .ready none with state := .busy }) } a1 (@S8.mk instMk N _ a1 F2 σ2 hr3 (fun d => hrp3 _ _ (s2.fr d)) ⟨s2.df.1, s2.df.2.1, fun D h => by cases h⟩ s2.nt)) (fun e a3 w3 q => ?_)
   obtain ⟨G4, F4, σ4, rfl, e4, s4, q4⟩ := q
   cases e with
   | normal =>
    obtain ⟨τ, X, rfl, hτ, hlow, hiv⟩ := q4
    have hl4 := e4.oth (G.w.heap.size + 1) _ (World.putObj_heap_same hlt) rfl
    have hd4 := e4.oth (G.w.heap.size) _ ((World.putObj_heap_other (by omega)).trans hd2) rfl
    have hlt4 := (Array.getElem?_eq_some_iff.1 hl4).1
    obtain ⟨hr5, hrp5⟩ := znj (o' := .loop (rec .ready none)) s4.rel (by rw [e4.base]; show G2.base ≤ _; rw [e2.base, hb']; omega) hl4 rfl rfl
    have hcut := zrj (k := σ.length) hr5 (by simp [hτ]) (fun ob h => hlow ob (by rw [← hτ, List.take_left'] at h; exact h; rfl))
    rw [show (τ ++ X).take σ.length = τ from by rw [← hτ]; exact List.take_left' rfl] at hcut
    have hen := run_endRound (P := P) none hl4
    rw [hrec] at hen hcut
    refine ⟨_, _, hen, rfl, _, τ, rfl, hkn.trans ⟨⟨?_, ?_, ?_, ?_, ?_, ?_, ?_, ?_⟩, ?_, ?_⟩, hcut, hτ, hiv, ?_, ?_⟩
    ·
     exact e4.base.trans e2.base
    ·
     exact e4.w0.trans e2.w0
    ·
     exact fun b o h => e4.st b o (e2.st b o h)
    ·
     exact fun b o h => (znk hl4 rfl rfl b o).trans ((e4.cell b o (h.imp (e2.st b o) (fun h => by show G2.Pr b o; rw [e2.pr]; exact h))).trans ((znk hl2 rfl rfl b o).trans (e2.cell b o h)))
    ·
     intro b o h
     rcases e4.stN b o h with h | h
     ·
      exact e2.stN b o h
     ·
      exact .inr (by rw [← e2.base]; exact h)
    ·
     exact e4.pr.trans e2.pr
    ·
     intro b o h
     rcases e4.prN b o h with h | h
     ·
      exact e2.prN b o h
     ·
      exact .inr (by rw [← e2.pr]; exact h)
    ·
     intro i o ho hst
     by_cases e : i = G.w.heap.size + 1
     ·
      subst e
      rw [hl'] at ho; cases ho
      rw [hrec]
      exact World.putObj_heap_same hlt4
     ·
      exact (World.putObj_heap_other e).trans (e4.oth i o ((World.putObj_heap_other e).trans (e2.oth i o ho hst)) hst)
    ·
     intro i y hin hy
     show (if i < σ.length then _ else _) = _
     rw [if_pos hin]
     exact e4.mu i y (e2.mu i y hy)
    ·
     exact (e2.rows.trans (zr7 _ hl2 rfl)).trans (e4.rows.trans (zr7 _ hl4 rfl))
    ·
     rw [hrec]; exact World.putObj_heap_same hlt4
    ·
     exact (World.putObj_heap_other (by omega)).trans hd4
   | _ => exact q4.elim
  | _ => exact q2.elim
 ·
  exact ⟨G1, σ, hw1, ⟨.refl G1, fun _ _ _ h => h, zcc.refl _⟩, hrel1, rfl, h0, hL1, hK1⟩
 ·
  rintro e W2 ⟨⟨v, rfl⟩, G', σ', rfl, hkn, hr', hlen, hi, hl', hd'⟩
  have hb' : G'.base = G.base := hkn.step.base.trans hext1.base
  subst hrec
  have hen := run_endLoop (P := P) hl' (by simp)
  obtain ⟨hr5, hrp5⟩ := znj (o' := .loop { state := .exhausted, pending := none, fn, tmps := a.tmps, params := ps, assign, body, defers := G.w.heap.size }) hr' (by rw [hb']; omega) hl' rfl rfl
  refine ⟨none, _, hen, ?_⟩
  have hf' := hkn.fok (hfr.ext hext1) hlo
  refine fin { G' with w := G'.w.putObj (G.w.heap.size + 1) (.loop { state := .exhausted, pending := none, fn, tmps := a.tmps, params := ps, assign, body, defers := G.w.heap.size }) } σ' ?_ hr5 (fun d => hrp5 _ _ (hf' d)) hlen hi ((World.putObj_heap_other (by omega)).trans hd')
  have st := hext1.step.trans hkn.step
  exact ⟨st.base, st.w0, st.st, fun b o h => (znk hl' rfl rfl b o).trans (st.cell b o h), st.stN, st.pr, st.prN, fun i o ho hst => (World.putObj_heap_other (by have := (Array.getElem?_eq_some_iff.1 ho).1; omega)).trans (st.oth i o ho hst)⟩
theorem zyp {g : Operand} {ps : Array Tmp} {assign body : Code} {gf : FuncId} {caps : List AV} {encs : Nat → Array Value} {len : Nat} (Fk : Nat → Frm) (Inv : Nat → List Ob → Prop)
  (hg : F.eval g = .fn gf caps) (ent : ∀ args w, (callFunc gf args).run P w = .ok (.enter gf args) w)
  (ht : ∀ (G : Cx) (lb : Array Value), Rel G σ → lb.size = caps.length → (∀ (j : Nat) v c, lb[j]? = some v → caps[j]? = some c → Rep G v c) → z2m P gf lb encs len (fun W => ∀ b o, G.St b o → W.cell? ⟨b, o, none⟩ = G.w.cell? ⟨b, o, none⟩))
  (hps : ∀ k, (encs k).size = ps.size) (hlo : ∀ d, Lo σ.length (F.get d))
  (hF : ∀ k G a, k < len → FOk G a F → a.tmps.size = N → FOk G (znl a ps (encs k)) (Fk k) ∧ (znl a ps (encs k)).tmps.size = N)
  (h0 : Inv 0 σ)
  (round : ∀ k σ', k < len → σ'.length = σ.length → Inv k σ' → ∀ r n, RWp P N r n assign (Fk k) σ' (zeh (fun F1 σ1 => RWp P N r n body F1 σ1 (RPost fun σ2 => ∃ τ X, σ2 = τ ++ X ∧ τ.length = σ.length ∧ (∀ ob ∈ τ, ObLo σ.length ob) ∧ Inv (k + 1) τ)) (fun _ _ _ => False)))
  (after : ∀ σ', σ'.length = σ.length → Inv len σ' → Q .normal F σ') : MWp P N (.rangeFunc g ps assign body) F σ Q := fun M G a hs => by
 refine ztn Fk Inv hg ent ht hps hlo hF h0 round hs.rel hs.fr hs.nt (fun G5 σ' st hr hf hl hi hD => ?_)
 have hble : G.base ≤ G.w.heap.size := by have h1 := hs.rel.le; have h2 := hs.rel.below.size; omega
 refine ⟨⟨G.w.heap.size :: M.Ds⟩, G5, F, σ', rfl, st, @S8.mk ⟨G.w.heap.size :: M.Ds⟩ N G5 _ F σ' hr hf ⟨?_, ?_, ?_⟩ hs.nt, after σ' hl hi⟩
 ·
  show _ :: a.defers = _ :: _
  rw [hs.df.1]
 ·
  refine List.nodup_cons.2 ⟨fun h => ?_, hs.df.2.1⟩
  have := (Array.getElem?_eq_some_iff.1 (hs.df.2.2 _ h).2).1
  omega
 ·
  intro D hD'
  rcases List.mem_cons.1 hD' with rfl | h
  ·
   exact ⟨by rw [st.base]; exact hble, hD⟩
  ·
   exact (hs.df.step st).2.2 D h
end
end Aw
end Go.Proofs.YtjhdcgaiccnmeaaGreatDoor
