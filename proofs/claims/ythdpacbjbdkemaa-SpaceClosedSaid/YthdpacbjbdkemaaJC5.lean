/-
  Texts joined: EvD, AwW, AwX, SpB, AwL0, AwL, Ti, SlA, Ad, Eq, SpAd, SpC, AwM. Conditions: none.
-/
import Derived.Test.YthdpacbjbdkemaaJC4
import Derived.Test.YthdpacbjbdkemaaJC3
import Derived.Laws.BytesArg
import Derived.Maps.OwnSet
import Derived.Test.YthdpacbjbdkemaaJC1
import Derived.Test.YthdpacbjbdkemaaProg
section
namespace Go.Proofs.Ythdpacbjbdkemaa.Aw
set_option linter.unusedSimpArgs false
set_option linter.unusedVariables false
open Go.RowKit
section
variable {P : Program} {o : Oper} {F : Frm} {σ : List Ob} {s : Sto}
theorem evUn_ok {b : UnOp} {t : TypeId} {x : Operand} {v : Value} (ho : o.op = .unOp b t x) (h : evUn b (F.eval x) = some v) : Does P o F σ (.s v) σ := by
  generalize hx : F.eval x = u at h
  unfold evUn at h
  split at h
  · split at h
    · cases h; exact does_not ho hx
    · cases h
  · split at h
    · cases h; exact does_neg ho hx rfl
    · cases h
  · cases h
theorem evConv_ok {t t' : TypeId} {x : Operand} {v : Value} (ho : o.op = .convert t t' x) (h : evConv P t t' (F.eval x) = some v) : Does P o F σ (.s v) σ := by
  generalize hx : F.eval x = u at h
  unfold evConv at h
  split at h
  · split at h
    · rename_i k' hk
      cases hb : (P.underlying t).isSome with
      | false => rw [hb] at h; cases h
      | true => rw [hb] at h; cases h; exact does_conv ho hb hk hx rfl
    · cases h
  · cases h
theorem evFieldAddr_ok {t : TypeId} {x : Operand} {f : Nat} {v : AV} (ho : o.op = .fieldAddr t x f) (h : evFieldAddr P t f (F.eval x) = some v) : Does P o F σ v σ := by
  generalize hx : F.eval x = u at h
  unfold evFieldAddr at h
  split at h
  · rename_i off ft n hf
    cases hb : Nat.beq n 0 with
    | true => rw [hb] at h; cases h
    | false =>
      have hn : n ≠ 0 := by intro e; subst e; cases hb
      rw [hb, cond_false] at h
      split at h
      · cases h; exact does_fieldAddr_ptr ho hf hn hx
      · cases h; exact does_fieldAddr_ref ho hf hn hx
      · cases h
  · cases h
theorem evField_ok {t : TypeId} {x : Operand} {f : Nat} {v : AV} (ho : o.op = .field t x f) (h : evField P t f (F.eval x) = some v) : Does P o F σ v σ := by
  generalize hx : F.eval x = u at h
  unfold evField at h
  split at h
  · split at h
    · rename_i off ft n hf
      split at h
      · rename_i ha; exact does_field ho hf ha hx h
      · rename_i ha
        split at h
        · rename_i m z n' bt hi
          cases hb : Nat.beq m n' with
          | false => rw [hb] at h; cases h
          | true =>
            rw [hb] at h; cases h
            obtain rfl := Nat.eq_of_beq_eq_true hb
            exact does_fields ho hf ha hi hx
        · cases h
      · cases h
    · cases h
  · cases h
theorem evIndexStr_ok {t : TypeId} {x y : Operand} {v : Value} (ho : o.op = .index t x y) (h : evIndexStr P t (F.eval x) (F.eval y) = some v) : Does P o F σ (.s v) σ := by
  generalize hx : F.eval x = u at h
  generalize hy : F.eval y = w at h
  unfold evIndexStr at h
  split at h
  · cases hb : tyString P t with
    | false => rw [hb] at h; cases h
    | true =>
      rw [hb, cond_true] at h
      split at h
      · rename_i k u hu
        cases h
        exact does_index_str ho hb hx hy rfl hu
      · cases h
  · cases h
theorem evNil_ok {x : Operand} {v : AV} (ho : o.op = .nilCheck x) (h : evNil (F.eval x) = some v) : Does P o F σ v σ := by
  generalize hx : F.eval x = u at h
  unfold evNil at h
  split at h
  · cases h; exact does_nil_ptr ho hx
  · cases h; exact does_nil_ref ho hx
  · cases h; exact does_nil_fn ho hx
  · cases h
theorem evIndexAddr_ok {t : TypeId} {x y : Operand} {v : AV} (ho : o.op = .indexAddr t x y) (h : evIndexAddr P t (F.eval x) (F.eval y) = some v) : Does P o F σ v σ := by
  generalize hx : F.eval x = u at h
  generalize hy : F.eval y = w at h
  unfold evIndexAddr at h
  split at h
  · split at h
    · cases h
    · rename_i e ht
      split at h
      · rename_i z sz bt u hi hu
        cases hb : Nat.beq u.cells.length sz with
        | false => rw [hb] at h; cases h
        | true => rw [hb] at h; cases h; exact does_index_sl ho ht hi hx hy rfl hu (Nat.eq_of_beq_eq_true hb)
      · cases h
  · rename_i id sz m kd k
    split at h
    · cases h
    · rename_i e ht
      split at h
      · rename_i z sz' bt hi
        cases hb : (Nat.beq sz sz' && Nat.blt k m) with
        | false => rw [hb] at h; cases h
        | true =>
          rw [hb] at h; cases h
          simp only [Bool.and_eq_true] at hb
          obtain rfl := Nat.eq_of_beq_eq_true hb.1
          exact does_index_own ho ht hi hx hy rfl (by simpa [Nat.blt_eq] using hb.2)
      · cases h
  · rename_i id sz q m kd k
    split at h
    · cases h
    · rename_i e ht
      split at h
      · rename_i z sz' bt hi
        cases hb : (Nat.beq sz sz' && Nat.blt k m) with
        | false => rw [hb] at h; cases h
        | true =>
          rw [hb] at h; cases h
          simp only [Bool.and_eq_true] at hb
          obtain rfl := Nat.eq_of_beq_eq_true hb.1
          exact does_index_sub ho ht hi hx hy rfl (by simpa [Nat.blt_eq] using hb.2)
      · cases h
  · rename_i id s k j kd i
    split at h
    · cases h
    · rename_i m e ht
      split at h
      · rename_i z sz bt hi
        cases hb : Nat.blt i m with
        | false => rw [hb] at h; cases h
        | true => rw [hb] at h; cases h; exact does_index_aptr ho ht hi hx hy rfl (by simpa [Nat.blt_eq] using hb)
      · cases h
  · rename_i cs kd i
    split at h
    · cases h
    · rename_i m e ht
      split at h
      · rename_i z sz bt hi
        cases hb : Nat.blt i m with
        | false => rw [hb] at h; cases h
        | true => rw [hb] at h; cases h; exact does_index_aref ho ht hi hx hy rfl (by simpa [Nat.blt_eq] using hb)
      · cases h
  · cases h
theorem evExtract_ok {x : Operand} {i : Nat} {v : AV} (ho : o.op = .extract x i) (h : evExtract i (F.eval x) = some v) : Does P o F σ v σ := by
  generalize hx : F.eval x = u at h
  unfold evExtract at h
  split at h
  · exact does_extract ho hx h
  · cases h
theorem evLoad_ok {t : TypeId} {x : Operand} {r : ER} (ho : o.op = .load t x) (h : evLoad P t s (F.eval x) = some r) : OpOk P o F s r := by
  generalize hx : F.eval x = u at h
  unfold evLoad at h
  split at h
  · cases h
  · rename_i ha
    split at h
    · cases h; exact .free _ (fun σ => does_load_ref ho ha hx)
    · rename_i id sz k j
      split at h
      · cases h
      · rename_i l hl
        split at h
        · rename_i c hc
          cases h
          refine .look _ _ (fun σ2 h2 => ?_)
          unfold cellsAt at hl
          rw [Sto.get_abs, ← h2 id (by simp)] at hl
          obtain ⟨ob, cs, e1, g1, g2, g3, g4⟩ := cellsO_of hl
          exact does_load_ptr ho ha hx g1 g2 g3 (by rw [g4]; exact hc)
        · cases h
    · cases h
  · rename_i ha
    split at h
    · cases h
    · rename_i z n bt hi
      split at h
      · rename_i cs
        cases hb : Nat.ble n cs.length with
        | false => rw [hb] at h; cases h
        | true => rw [hb] at h; cases h; exact .free _ (fun σ => does_load_refs ho ha hi hx (Nat.le_of_ble_eq_true hb))
      · rename_i id sz k j
        split at h
        · cases h
        · rename_i l hl
          cases hb : Nat.ble (j + n) l.length with
          | false => rw [hb] at h; cases h
          | true =>
            rw [hb] at h; cases h
            refine .look _ _ (fun σ2 h2 => ?_)
            unfold cellsAt at hl
            rw [Sto.get_abs, ← h2 id (by simp)] at hl
            obtain ⟨ob, cs, e1, g1, g2, g3, g4⟩ := cellsO_of hl
            have := does_load_ptrs (P := P) (F := F) (σ := σ2) ho ha hi hx g1 g2 g3 (by rw [g4]; exact Nat.le_of_ble_eq_true hb)
            rwa [g4] at this
      · cases h
theorem set_other {σ : List Ob} {i id : Nat} {ob : Ob} (h : id ∉ [i]) : (σ.set i ob)[id]? = σ[id]? := by
  rw [List.getElem?_set_ne]; intro e; exact h (by simp [e])
theorem app_other {σ : List Ob} {id : Nat} {ob : Ob} (h : id ∉ [σ.length]) : (σ ++ [ob])[id]? = σ[id]? := by
  by_cases hl : id < σ.length
  · rw [List.getElem?_append_left hl]
  · have hne : id ≠ σ.length := by simpa using h
    rw [List.getElem?_eq_none (by simp; omega), List.getElem?_eq_none (by omega)]
theorem eff_set {x : AV} {id : Nat} {ob : Ob} (h : Does P o F s.abs x (s.abs.set id ob)) : OpOk P o F s (x, s.set id ob, .eff [id]) :=
  .eff _ _ _ (by rw [Sto.set_abs]; exact h) (fun i hi => by rw [Sto.set_abs]; exact set_other hi)
theorem eff_push {x : AV} {ob : Ob} (h : Does P o F s.abs x (s.abs ++ [ob])) : OpOk P o F s (x, s.push ob, .eff [s.len]) :=
  .eff _ _ _ (by rw [Sto.push_abs]; exact h) (fun i hi => by rw [Sto.push_abs]; exact app_other (by rw [Sto.abs_len]; exact hi))
theorem sto_at {id : Nat} {ob : Ob} (h : s.get id = some ob) : s.abs[id]? = some ob := (Sto.get_abs s id).symm.trans h
theorem evStore_ok {t : TypeId} {p y : Operand} {r : ER} (ho : o.op = .store t p y) (h : evStore P t s (F.eval p) (F.eval y) = some r) : OpOk P o F s r := by
  generalize hp : F.eval p = u at h
  unfold evStore at h
  split at h
  · rename_i id sz k j
    split at h
    · rename_i z n bt sz' cs hi hs
      split at h
      · rename_i e he
        generalize hb : (Nat.beq sz' sz && (F.eval y).cells.all AV.one && Nat.beq (F.eval y).cells.length n && Nat.blt 0 n && Nat.ble (j + n) sz) = b at h
        cases b with
        | false => cases h
        | true =>
          cases h
          simp only [Bool.and_eq_true] at hb
          obtain ⟨⟨⟨⟨h1, h2⟩, h3⟩, h4⟩, h5⟩ := hb
          obtain rfl := Nat.eq_of_beq_eq_true h1
          exact eff_set (does_store ho hi hp rfl (sto_at hs) he h2 (Nat.eq_of_beq_eq_true h3) (by simpa [Nat.blt_eq] using h4) (Nat.le_of_ble_eq_true h5))
      · cases h
    · cases h
  · cases h
theorem evAlloc_ok {e : TypeId} {r : ER} (ho : o.op = .alloc e) (h : evAlloc P e s = some r) : OpOk P o F s r := by
  unfold evAlloc at h
  split at h
  · rename_i z n bt hi
    generalize hb : ((ofValue z).cells.all AV.one && Nat.beq (ofValue z).cells.length n) = b at h
    cases b with
    | false => cases h
    | true =>
      cases h
      simp only [Bool.and_eq_true] at hb
      have h1 := does_alloc (P := P) (F := F) (σ := s.abs) ho hi hb.1 (Nat.eq_of_beq_eq_true hb.2)
      rw [Sto.abs_len] at h1
      exact eff_push h1
  · cases h
theorem evBox_ok {e : TypeId} {y : Operand} {r : ER} (ho : o.op = .box e y) (h : evBox s (F.eval y) = some r) : OpOk P o F s r := by
  unfold evBox at h
  generalize hb : (F.eval y).cells.all AV.one = b at h
  cases b with
  | false => cases h
  | true =>
    cases h
    have h1 := does_box (P := P) (F := F) (σ := s.abs) ho rfl hb rfl
    rw [Sto.abs_len] at h1
    exact eff_push h1
theorem evBuild_ok {t : TypeId} {parts : Array (Nat × Operand)} {v : AV} (ho : o.op = .build t parts) (h : evBuild P t (parts.toList.map fun (i, x) => (i, F.eval x)) = some v) : Does P o F σ v σ := by
  unfold evBuild at h
  split at h
  · rename_i z n bt pl hi hp
    generalize hb : (ofValue z).cells.all AV.one = b at h
    cases b with
    | false => cases h
    | true =>
      rw [cond_true] at h
      split at h
      · rename_i cs hf
        cases h
        exact does_build ho hi hp hb hf
      · cases h
  · rename_i z n bt hi hp
    split at h
    · cases h
    · rename_i m e ht
      split at h
      · cases h
      · rename_i ze sz be he
        generalize hb : (ofValue z).cells.all AV.one = b at h
        cases b with
        | false => cases h
        | true =>
          rw [cond_true] at h
          split at h
          · rename_i cs hf
            cases h
            exact does_build_arr ho hi ht he hb hf
          · cases h
  · cases h
theorem evLit_ok {t : TypeId} {len : Nat} {parts : Array (Nat × Operand)} {r : ER} (ho : o.op = .buildSlice t len parts) (h : evLit P t len (parts.toList.map fun (i, x) => (i, F.eval x)) s = some r) : OpOk P o F s r := by
  unfold evLit at h
  split at h
  · cases h
  · rename_i e ht
    split at h
    · rename_i z n bt hi
      cases hl : Nat.beq len 0 with
      | true =>
        rw [hl, cond_true] at h
        obtain rfl := Nat.eq_of_beq_eq_true hl
        generalize hb : (parts.toList.map fun (i, x) => (i, F.eval x)).isEmpty = b at h
        cases b with
        | false => cases h
        | true =>
          cases h
          have hp : parts = #[] := by
            rw [List.isEmpty_iff, List.map_eq_nil_iff] at hb
            exact Array.toList_eq_nil_iff.1 hb
          exact .free _ (fun σ => does_lit0 ho hp ht hi)
      | false =>
        rw [hl, cond_false] at h
        generalize hb : ((ofValue z).cells.all AV.one && Nat.beq (ofValue z).cells.length n && Nat.blt 0 n && Nat.ble (len * n) 16777216) = b at h
        cases b with
        | false => cases h
        | true =>
          rw [cond_true] at h
          simp only [Bool.and_eq_true] at hb
          obtain ⟨⟨⟨h1, h2⟩, h3⟩, h4⟩ := hb
          split at h
          · rename_i cs hf
            cases hc : Nat.beq cs.length (len * n) with
            | false => rw [hc] at h; cases h
            | true =>
              rw [hc] at h; cases h
              have hpos : 0 < len := by
                rcases Nat.eq_zero_or_pos len with e | e
                · subst e; cases hl
                · exact e
              have g1 := does_lit (P := P) (F := F) (σ := s.abs) ho ht hi h1 (Nat.eq_of_beq_eq_true h2) (by simpa [Nat.blt_eq] using h3) hpos (Nat.le_of_ble_eq_true h4) hf (Nat.eq_of_beq_eq_true hc)
              rw [Sto.abs_len] at g1
              exact eff_push g1
          · cases h
    · cases h
/-- a literal that is read only: finished at once -/
theorem does_litF {t e : TypeId} {len : Nat} {parts : Array (Nat × Operand)} {z : Value} {n bt : Nat} {cs : List AV} (ho : o.op = .buildSlice t len parts) (ht : tySlice P t = some e) (hi : tyInfo P e = some (some z, n, bt))
    (h1 : (ofValue z).cells.all AV.one = true) (hn : (ofValue z).cells.length = n) (h0 : 0 < n) (hlen : 0 < len) (hsm : len * n ≤ 16777216) (hf : fillA (fun i => some (i * n, n)) (zeroA z (len * n)) (parts.toList.map fun (i, x) => (i, F.eval x)) = some cs) (hcl : cs.length = len * n) : Does P o F σ (.sl (chunks n len cs)) σ :=
  does_new (x := .any) fun G ρ hr hop => by
    obtain ⟨i, h2, h3, h4, h5⟩ := info_of hi
    obtain ⟨vs, h6, h7⟩ := fill_rep (G := G) (place := fun i => some (i * n, n)) (parts.map fun (i, x) => (i, ρ x)).toList _ (madeCells z.cells (len * n)) _ cs (zeroA_rep G z (len * n) h1 (by omega)) (by simp) (parts_rep (fun y hy => hop y (by simpa [ho, Op.operands] using hy))) hf
    have hvs : vs.size = len * n := by rw [h7.size]; exact hcl
    have hpos : ¬ (len * n = 0) := by
      have := Nat.mul_pos hlen h0
      omega
    have h8 : (Instr.buildSlice t len (parts.map fun (i, x) => (i, ρ x))).run P G.w = .ok (.slice (some ⟨G.w.heap.size, 0, none⟩) len len) (G.w.alloc (.cells vs e)) := by
      have hsm' : ¬ (16777216 < len * n) := by omega
      have h6' : Instr.fill (fun i => some (i * n, n)) (Array.map (fun x => z.cells[x % z.cells.size]!) (Array.range (len * n))) (parts.map fun (i, x) => (i, ρ x)).toList = some vs := h6
      simp only [Array.toList_map] at h6'
      simp [Instr.buildSlice, run_underlying (slice_of ht), run_sizeOf hi, hsm', hpos, zeroValue, typeInfo, h2, h3, h6', newRow]
    have hrow := chunks_row h7 hcl
    let G1 : Cx := { G with w := G.w.alloc (.cells vs e), St := fun b o => G.St b o ∨ b = G.w.heap.size }
    have hbel : Below G.w.heap.size G.w (G.w.alloc (.cells vs e)) := (Below.refl _ _).alloc (Nat.le_refl _) _
    obtain ⟨g1, g2⟩ := after_call (G1 := G1) hr rfl hbel (fun _ _ h => .inl h) (fun b o h => h.imp (fun h => h) (fun h => by omega)) (fun b o h => by
      have hsz : (G.w.alloc (.cells vs e)).heap.size = G.w.heap.size + 1 := by simp
      show b < (G.w.alloc (.cells vs e)).heap.size
      rw [hsz]
      rcases h with h | h
      · have := hr.st b o h; omega
      · omega)
    refine ⟨.slice (some ⟨G.w.heap.size, 0, none⟩) len len, _, ?_, g1, g2, ?_⟩
    · simp only [execOp, ho, Sem.run_bind, h8, Result.andThen_ok, Sem.run_pure]; rfl
    · have hlen2 : (chunks n len cs).length = len := chunks_length n len cs
      have hcell : ∀ j v, vs[j]? = some v → (G.w.alloc (.cells vs e)).cell? ⟨G.w.heap.size, j, none⟩ = some v := fun j v hv => by
        rw [cell_of_row _ _ _ vs e (0, 0) (heap_alloc_new G.w _), hv]
      have := Rep.sl (G := { G with w := G.w.alloc (.cells vs e), St := G1.St }) G.w.heap.size 0 len n (chunks n len cs) (fun k j => vs.getD (k * n + j) undef) (by rw [hlen2]; exact Nat.le_refl _) (by rw [hlen2]; have : len ≤ len * n := Nat.le_mul_of_pos_right _ h0; unfold maxLen; omega)
        (fun k x hk => ⟨(hrow k x hk).1, (hrow k x hk).2.1⟩) (fun k x j c hk hc => by
          obtain ⟨u, h9, h10⟩ := (hrow k x hk).2.2 j c hc
          refine ⟨.inr rfl, ?_⟩
          rw [Nat.zero_add, hcell _ u h9, Array.getD_eq_getD_getElem?, h9]; rfl) (fun k x j c hk hc => by
          obtain ⟨u, h9, h10⟩ := (hrow k x hk).2.2 j c hc
          rw [Array.getD_eq_getD_getElem?, h9]
          exact h10.ext g1)
      rw [hlen2] at this
      exact this
theorem evLitF_ok {t : TypeId} {len : Nat} {parts : Array (Nat × Operand)} {r : ER} (ho : o.op = .buildSlice t len parts) (h : evLitF P t len (parts.toList.map fun (i, x) => (i, F.eval x)) s = some r) : OpOk P o F s r := by
  unfold evLitF at h
  split at h
  · cases h
  · rename_i e ht
    split at h
    · rename_i z n bt hi
      generalize hb : ((ofValue z).cells.all AV.one && Nat.beq (ofValue z).cells.length n && Nat.blt 0 n && Nat.blt 0 len && Nat.ble (len * n) 16777216) = b at h
      cases b with
      | false => cases h
      | true =>
        rw [cond_true] at h
        simp only [Bool.and_eq_true] at hb
        obtain ⟨⟨⟨⟨h1, h2⟩, h3⟩, h3'⟩, h4⟩ := hb
        split at h
        · rename_i cs hf
          cases hc : Nat.beq cs.length (len * n) with
          | false => rw [hc] at h; cases h
          | true =>
            rw [hc] at h; cases h
            exact .free _ (fun σ => does_litF ho ht hi h1 (Nat.eq_of_beq_eq_true h2) (by simpa [Nat.blt_eq] using h3) (by simpa [Nat.blt_eq] using h3') (Nat.le_of_ble_eq_true h4) hf (Nat.eq_of_beq_eq_true hc))
        · cases h
    · cases h
theorem evMake_ok {t : TypeId} {y y' : Operand} {r : ER} (ho : o.op = .makeSlice t y y') (h : evMake P t s (F.eval y) (F.eval y') = some r) : OpOk P o F s r := by
  generalize hx : F.eval y = u at h
  generalize hy : F.eval y' = w at h
  unfold evMake at h
  split at h
  · rename_i kl l kc c
    split at h
    · cases h
    · rename_i e ht
      split at h
      · rename_i z n bt hi
        generalize hb : ((ofValue z).cells.all AV.one && Nat.beq (ofValue z).cells.length n && Nat.blt 0 n && Nat.ble l c && Nat.ble (bt * c) 281474976710656 && Nat.ble c 9223372036854775807) = b at h
        cases b with
        | false => cases h
        | true =>
          cases h
          simp only [Bool.and_eq_true] at hb
          obtain ⟨⟨⟨⟨⟨h1, h2⟩, h3⟩, h4⟩, h5⟩, h6⟩ := hb
          have g1 := does_make (P := P) (F := F) (σ := s.abs) ho ht hi h1 (Nat.eq_of_beq_eq_true h2) (by simpa [Nat.blt_eq] using h3) hx hy rfl rfl (Nat.le_of_ble_eq_true h4) (Nat.le_of_ble_eq_true h5) (Nat.le_of_ble_eq_true h6)
          rw [Sto.abs_len] at g1
          exact eff_push g1
      · cases h
  · cases h
theorem evLen_ok {t : TypeId} {x : Operand} {v : Value} (ho : o.op = .call { callee := .builtin .len, args := #[x], argTypes := #[t] }) (h : evLen P t (F.eval x) = some v) : Does P o F σ (.s v) σ := by
  generalize hx : F.eval x = u at h
  have hsl : ∀ {w : Value}, (bif (tySlice P t).isSome then some w else none) = some v → w = v ∧ ∃ e, tySlice P t = some e := by
    intro w h
    cases ht : tySlice P t with
    | none => rw [ht] at h; cases h
    | some e => rw [ht] at h; cases h; exact ⟨rfl, e, rfl⟩
  unfold evLen at h
  split at h
  · obtain ⟨rfl, e, ht⟩ := hsl h; exact does_len_sl ho ht hx
  · obtain ⟨rfl, e, ht⟩ := hsl h; exact does_len_own ho ht hx
  · obtain ⟨rfl, e, ht⟩ := hsl h; exact does_len_sub ho ht hx
  · obtain ⟨rfl, e, ht⟩ := hsl h; exact does_len_emp ho ht hx
  · obtain ⟨rfl, e, ht⟩ := hsl h; exact does_len_s ho ht hx
  · cases hb : tyString P t with
    | false => rw [hb] at h; cases h
    | true => rw [hb] at h; cases h; exact does_len_str ho hb hx
  · cases h
theorem evAppend_ok {t : TypeId} {x y : Operand} {r : ER} (ho : o.op = .call { callee := .builtin .append, args := #[x, y], argTypes := #[t, t] }) (h : evAppend P t s (F.eval x) (F.eval y) = some r) : OpOk P o F s r := by
  generalize hx : F.eval x = u at h
  unfold evAppend at h
  split at h
  · cases h
  · rename_i e ht
    split at h
    · rename_i z sz bt hi
      generalize hb : (Nat.beq z.cells.size sz && Nat.blt 0 sz) = b at h
      cases b with
      | false => cases h
      | true =>
        rw [cond_true] at h
        simp only [Bool.and_eq_true] at hb
        obtain ⟨h1, h2⟩ := hb
        have h2 : 0 < sz := by simpa [Nat.blt_eq] using h2
        split at h
        · cases h
        · rename_i l hl
          have hsrc := srcOf_ok hl
          split at h
          · rename_i id sz' n
            split at h
            · rename_i sz2 cs hs
              generalize hb : (Nat.beq sz' sz && Nat.beq sz2 sz && Nat.beq n cs.length && Nat.ble (cs.length + l.length) maxLen && Nat.ble ((cs.length + l.length) * bt) 140737488355328) = b at h
              cases b with
              | false => cases h
              | true =>
                cases h
                simp only [Bool.and_eq_true] at hb
                obtain ⟨⟨⟨⟨g1, g2⟩, g3⟩, g4⟩, g5⟩ := hb
                obtain rfl := Nat.eq_of_beq_eq_true g1
                obtain rfl := Nat.eq_of_beq_eq_true g2
                have q1 := does_append (P := P) (F := F) (σ := s.abs) ho ht hi (Nat.eq_of_beq_eq_true h1) h2 hx (sto_at hs) (Nat.eq_of_beq_eq_true g3) rfl hsrc (Nat.le_of_ble_eq_true g4) (Nat.le_of_ble_eq_true g5)
                rw [Sto.abs_len] at q1
                refine .eff _ _ _ (by rw [Sto.push_abs, Sto.set_abs]; exact q1) (fun i hi2 => ?_)
                have hi3 : i ≠ id ∧ i ≠ s.len := by simpa using hi2
                rw [Sto.push_abs, Sto.set_abs, app_other (by rw [List.length_set, Sto.abs_len]; simpa using hi3.2), set_other (by simpa using hi3.1)]
            · cases h
          · generalize hb : (Nat.ble l.length maxLen && Nat.ble (l.length * bt) 140737488355328) = b at h
            cases b with
            | false => cases h
            | true =>
              cases h
              simp only [Bool.and_eq_true] at hb
              have q1 := does_append0 (P := P) (F := F) (σ := s.abs) ho ht hi (Nat.eq_of_beq_eq_true h1) h2 hx (.inl rfl) rfl hsrc (Nat.le_of_ble_eq_true hb.1) (Nat.le_of_ble_eq_true hb.2)
              rw [Sto.abs_len] at q1
              exact eff_push q1
          · generalize hb : (Nat.ble l.length maxLen && Nat.ble (l.length * bt) 140737488355328) = b at h
            cases b with
            | false => cases h
            | true =>
              cases h
              simp only [Bool.and_eq_true] at hb
              have q1 := does_append0 (P := P) (F := F) (σ := s.abs) ho ht hi (Nat.eq_of_beq_eq_true h1) h2 hx (.inr rfl) rfl hsrc (Nat.le_of_ble_eq_true hb.1) (Nat.le_of_ble_eq_true hb.2)
              rw [Sto.abs_len] at q1
              exact eff_push q1
          · cases h
    · cases h
/-- append to a row of which fewer elements are told -/
def evAppT (P : Program) (t : TypeId) (σ : Sto) (x y : AV) : Option ER := match evAppend P t σ x y with
  | some r => some r
  | none => match x with
    | .own id _ n => match σ.get id with
      | some (.row sz cs) => match evAppend P t (σ.set id (.row sz (cs.take n))) x y with
        | some (r, s1, .eff W) => bif W.contains id then some (r, s1, .eff W) else none
        | _ => none
      | _ => none
    | _ => none
theorem evAppT_ok {t : TypeId} {x y : Operand} {r : ER} (ho : o.op = .call { callee := .builtin .append, args := #[x, y], argTypes := #[t, t] }) (h : evAppT P t s (F.eval x) (F.eval y) = some r) : OpOk P o F s r := by
  unfold evAppT at h
  split at h
  · rename_i r' hr; cases h; exact evAppend_ok ho hr
  · split at h
    · rename_i id _ n hx
      split at h
      · rename_i sz cs hs
        split at h
        · rename_i r' s1 W he
          cases hb : W.contains id with
          | false => rw [hb] at h; cases h
          | true =>
            rw [hb, cond_true] at h
            cases h
            have hid : id ∈ W := by simpa using hb
            have hk := evAppend_ok (o := o) ho he
            have hD := hk.does
            rw [Sto.set_abs] at hD
            cases hk with
            | eff _ _ _ h1 hW =>
              refine .eff _ _ _ (does_trunc (sto_at hs) hD) (fun i hi => ?_)
              rw [hW i hi, Sto.set_abs]
              exact set_other (by intro e; exact hi (by rw [show i = id by simpa using e]; exact hid))
        · cases h
      · cases h
    · cases h
theorem evMinMax_ok {b : Builtin} {x y : Operand} {t t' : TypeId} {v : Value} (ho : o.op = .call { callee := .builtin b, args := #[x, y], argTypes := #[t, t'] }) (h : evMinMax b (F.eval x) (F.eval y) = some v) : Does P o F σ (.s v) σ := by
  generalize hx : F.eval x = u at h
  generalize hy : F.eval y = w at h
  unfold evMinMax at h
  split at h
  · split at h
    · cases h; exact does_max ho hx hy rfl
    · cases h; exact does_min ho hx hy rfl
    · cases h
  · cases h
theorem evCopy_ok {t : TypeId} {x y : Operand} {r : ER} (ho : o.op = .call { callee := .builtin .copy, args := #[x, y], argTypes := #[t, t] }) (h : evCopy P t s (F.eval x) (F.eval y) = some r) : OpOk P o F s r := by
  unfold evCopy at h
  split at h
  · cases h
  · rename_i e ht
    split at h
    · rename_i z sz bt hi
      generalize hb : Nat.blt 0 sz = b at h
      cases b with
      | false => cases h
      | true =>
        have hsz : 0 < sz := by simpa [Nat.blt_eq] using hb
        rw [cond_true] at h
        split at h
        · rename_i l id k n hl hd
          split at h
          · rename_i sz2 cs hs
            generalize hb : (Nat.beq sz2 sz && Nat.ble (k + n) cs.length) = b at h
            cases b with
            | false => cases h
            | true =>
              cases h
              simp only [Bool.and_eq_true] at hb
              obtain rfl := Nat.eq_of_beq_eq_true hb.1
              exact eff_set (does_copy ho ht hi hsz rfl (dstOf_ok hd) (sto_at hs) (Nat.le_of_ble_eq_true hb.2) rfl (srcOf_ok hl))
          · cases h
        · cases h
    · cases h
end
end Go.Proofs.Ythdpacbjbdkemaa.Aw
end
section
namespace Go.Proofs.Ythdpacbjbdkemaa.Aw
set_option linter.unusedSimpArgs false
set_option linter.unusedVariables false
open Go.RowKit
section
variable {P : Program} {N : Nat} {F : Frm} {σ : List Ob} {Q : Exit → Frm → List Ob → Prop} {ops : Array Oper} {o : Oper} {l : List Oper} {d : Nat}
theorem ops_opP {p : Prop} [Decidable p] (hd : o.dst = some d) (hN : Nat.blt d N = true) (hr : Runs ops F o true) (hD : Does P o F σ (.s (.bool (decide p))) σ) (k1 : p → AOps P N ops l ((d, .s (.bool true)) :: F) σ Q) (k2 : ¬ p → AOps P N ops l ((d, .s (.bool false)) :: F) σ Q) : AOps P N ops (o :: l) F σ Q := by
  by_cases h : p
  · exact ops_op hd hN hr (dec_t h hD) (k1 h)
  · exact ops_op hd hN hr (dec_f h hD) (k2 h)
theorem ops_opB {b : Bool} (hd : o.dst = some d) (hN : Nat.blt d N = true) (hr : Runs ops F o true) (hD : Does P o F σ (.s (.bool b)) σ) (k1 : b = true → AOps P N ops l ((d, .s (.bool true)) :: F) σ Q) (k2 : b = false → AOps P N ops l ((d, .s (.bool false)) :: F) σ Q) : AOps P N ops (o :: l) F σ Q := by
  cases b with
  | true => exact ops_op hd hN hr hD (k1 rfl)
  | false => exact ops_op hd hN hr hD (k2 rfl)
theorem qx_opP {K : Frm → Prop} {p : Prop} [Decidable p] (hd : o.dst = some d) (hN : Nat.blt d N = true) (hr : Runs ops F o true) (hD : Does P o F σ (.s (.bool (decide p))) σ) (k1 : p → QX P N ops σ l ((d, .s (.bool true)) :: F) K) (k2 : ¬ p → QX P N ops σ l ((d, .s (.bool false)) :: F) K) : QX P N ops σ (o :: l) F K := by
  by_cases h : p
  · exact qx_op hd hN hr (dec_t h hD) (k1 h)
  · exact qx_op hd hN hr (dec_f h hD) (k2 h)
theorem qx_opB {K : Frm → Prop} {b : Bool} (hd : o.dst = some d) (hN : Nat.blt d N = true) (hr : Runs ops F o true) (hD : Does P o F σ (.s (.bool b)) σ) (k1 : b = true → QX P N ops σ l ((d, .s (.bool true)) :: F) K) (k2 : b = false → QX P N ops σ l ((d, .s (.bool false)) :: F) K) : QX P N ops σ (o :: l) F K := by
  cases b with
  | true => exact qx_op hd hN hr hD (k1 rfl)
  | false => exact qx_op hd hN hr hD (k2 rfl)
end
end Go.Proofs.Ythdpacbjbdkemaa.Aw
end
section
namespace Go.Proofs.Ythdpacbjbdkemaa.Aw
set_option linter.unusedSimpArgs false
set_option linter.unusedVariables false
open Go.RowKit
section
variable {P : Program} {N : Nat} {l : List Oper} {F F' : Frm} {σ : List Ob} {out : List (Nat × AV)} {Q : Exit → Frm → List Ob → Prop}
theorem adraw_of (h : EDraw P N l F σ Q) : ADraw P N l F σ Q := fun G a hs =>
  wpAny_mono (fun e a w q => by obtain ⟨G', F', σ', h1, h2, h3, h4⟩ := q; exact ⟨G', F', σ', h1, h2.step, h3, h4⟩) _ _ _ _ (h G a hs)
def EX (P : Program) (N : Nat) (ops : Array Oper) (all : List Oper) (acc : List Kd) (l : List Oper) (F : Frm) (σ : List Ob) (K : Frm → List Ob → Prop) : Prop :=
  ∃ F' σ' out ks sts, ESteps P N ops l F σ F' σ' out ks sts ∧ eOk all N (acc.reverse ++ ks) = true ∧ K F' σ'
variable {ops : Array Oper} {all : List Oper} {acc : List Kd} {K : Frm → List Ob → Prop} {o : Oper} {d : Nat} {x : AV} {σ1 : List Ob}
theorem ex_nil (hk : eOk all N acc.reverse = true) (h : K F σ) : EX P N ops all acc [] F σ K := ⟨F, σ, [], [], [], .nil F σ, by simpa using hk, h⟩
theorem dOk_s (hd : o.dst = some d) (hN : Nat.blt d N = true) : dOk N o = true := by unfold dOk; rw [hd]; exact hN
theorem dOk_n (hd : o.dst = none) : dOk N o = true := by unfold dOk; rw [hd]
theorem ex_free (hd : o.dst = some d) (hN : Nat.blt d N = true) (hr : Runs ops F o true) (hD : ∀ σ, Does P o F σ x σ) (h : EX P N ops all (.free :: acc) l ((d, x) :: F) σ K) : EX P N ops all acc (o :: l) F σ K := by
  obtain ⟨F', σ', out, ks, sts, h1, h2, h3⟩ := h
  exact ⟨F', σ', _, _, _, .free o l F F' σ σ' x out ks sts (dOk_s hd hN) hr hD (by rw [ent_some hd]; exact h1), by simpa using h2, h3⟩
theorem ex_skip (hd : o.dst = some d) (hN : Nat.blt d N = true) (hr : Runs ops F o false) (h : EX P N ops all (.free :: acc) l ((d, .s undef) :: F) σ K) : EX P N ops all acc (o :: l) F σ K := by
  obtain ⟨F', σ', out, ks, sts, h1, h2, h3⟩ := h
  exact ⟨F', σ', _, _, _, .skip o l F F' σ σ' out ks sts (dOk_s hd hN) hr (by rw [ent_some hd]; exact h1), by simpa using h2, h3⟩
theorem ex_look {R : List Nat} (hd : o.dst = some d) (hN : Nat.blt d N = true) (hr : Runs ops F o true) (hD : ∀ σ2, (∀ id ∈ R, σ2[id]? = σ[id]?) → Does P o F σ2 x σ2) (h : EX P N ops all (.look R :: acc) l ((d, x) :: F) σ K) : EX P N ops all acc (o :: l) F σ K := by
  obtain ⟨F', σ', out, ks, sts, h1, h2, h3⟩ := h
  exact ⟨F', σ', _, _, _, .look o l F F' σ σ' x out ks sts R (dOk_s hd hN) hr hD (by rw [ent_some hd]; exact h1), by simpa using h2, h3⟩
theorem ex_eff {W : List Nat} (hd : o.dst = some d) (hN : Nat.blt d N = true) (hr : Runs ops F o true) (hD : Does P o F σ x σ1) (hW : ∀ id, id ∉ W → σ1[id]? = σ[id]?) (h : EX P N ops all (.eff W :: acc) l ((d, x) :: F) σ1 K) : EX P N ops all acc (o :: l) F σ K := by
  obtain ⟨F', σ', out, ks, sts, h1, h2, h3⟩ := h
  exact ⟨F', σ', _, _, _, .eff o l F F' σ σ1 σ' x out ks sts W (dOk_s hd hN) hr hD hW (by rw [ent_some hd]; exact h1), by simpa using h2, h3⟩
theorem ex_eff0 {W : List Nat} (hd : o.dst = none) (hr : Runs ops F o true) (hD : Does P o F σ x σ1) (hW : ∀ id, id ∉ W → σ1[id]? = σ[id]?) (h : EX P N ops all (.eff W :: acc) l ((N, .any) :: F) σ1 K) : EX P N ops all acc (o :: l) F σ K := by
  obtain ⟨F', σ', out, ks, sts, h1, h2, h3⟩ := h
  exact ⟨F', σ', _, _, _, .eff o l F F' σ σ1 σ' x out ks sts W (dOk_n hd) hr hD hW (by rw [ent_none hd]; exact h1), by simpa using h2, h3⟩
theorem adraw_ex (h : EX P N l.toArray l [] l F σ (fun F' σ' => Q .normal F' σ')) : ADraw P N l F σ Q := by
  obtain ⟨F', σ', out, ks, sts, h1, h2, h3⟩ := h
  exact adraw_of (edraw_steps h1 (by simpa using h2) h3)
theorem look_ptr {t : TypeId} {x : Operand} {id sz k j : Nat} {ob : Ob} {cs : List AV} {e c : AV} (ho : o.op = .load t x) (ha : tyAgg P t = some false) (hx : F.eval x = .ptr id sz k j) (hs : σ[id]? = some ob) (hb : rowOf ob = some (sz, cs)) (he : cs[k]? = some e) (hc : e.cells[j]? = some c) : ∀ σ2 : List Ob, (∀ i ∈ [id], σ2[i]? = σ[i]?) → Does P o F σ2 c σ2 :=
  fun σ2 h => does_load_ptr ho ha hx ((h id (by simp)).trans hs) hb he hc
theorem look_whole {t : TypeId} {x : Operand} {z : Option Value} {n bt : Nat} {id sz k : Nat} {ob : Ob} {cs : List AV} {e : AV} (ho : o.op = .load t x) (ha : tyAgg P t = some true) (hi : tyInfo P t = some (z, n, bt)) (hx : F.eval x = .ptr id sz k 0) (hs : σ[id]? = some ob) (hb : rowOf ob = some (sz, cs)) (he : cs[k]? = some e) (hn : e.cells.length = n) : ∀ σ2 : List Ob, (∀ i ∈ [id], σ2[i]? = σ[i]?) → Does P o F σ2 (.agg e.cells) σ2 :=
  fun σ2 h => does_load_whole ho ha hi hx ((h id (by simp)).trans hs) hb he hn
theorem look_ptrs {t : TypeId} {x : Operand} {z : Option Value} {n bt : Nat} {id sz k j : Nat} {ob : Ob} {cs : List AV} {e : AV} (ho : o.op = .load t x) (ha : tyAgg P t = some true) (hi : tyInfo P t = some (z, n, bt)) (hx : F.eval x = .ptr id sz k j) (hs : σ[id]? = some ob) (hb : rowOf ob = some (sz, cs)) (he : cs[k]? = some e) (hn : j + n ≤ e.cells.length) : ∀ σ2 : List Ob, (∀ i ∈ [id], σ2[i]? = σ[i]?) → Does P o F σ2 (.agg ((e.cells.drop j).take n)) σ2 :=
  fun σ2 h => does_load_ptrs ho ha hi hx ((h id (by simp)).trans hs) hb he hn
theorem app2_other {id i : Nat} {ob ob' : Ob} (h : id ∉ [i, σ.length]) : (σ.set i ob ++ [ob'])[id]? = σ[id]? := by
  have h2 : id ≠ i ∧ id ≠ σ.length := by simpa using h
  rw [app_other (by rw [List.length_set]; simpa using h2.2), set_other (by simpa using h2.1)]
end
end Go.Proofs.Ythdpacbjbdkemaa.Aw
end
section
namespace Go.Proofs.Ythdpacbjbdkemaa.Aw
set_option linter.unusedSimpArgs false
set_option linter.unusedVariables false
open Go Go.Proofs Go.RowKit Go.Maps Go.WideMaps
section
variable {P : Program} {o : Oper} {F : Frm} {σ : List Ob}
/-- a look-up that tells whether the key is there: for a row of look-ups that may stand at any store in which the map is the same -/
theorem look_mapC {t kt el : TypeId} {m x : Operand} {id : Nat} {X : MapX} {key z : Value} {kl zl rl : Lit} {n bt : Nat} {b : Bool} (ho : o.op = .lookup t m x true) (ht : tyMap P t = some (kt, el)) (K : Keyed P kt) (hm : F.eval m = .mp id) (hs : σ[id]? = some (.mp X)) (hX : X.P = P ∧ X.kt = kt ∧ X.el = el)
    (hx : F.eval x = .s key) (hkey : keyOf P kt key = some kl) (hi : tyInfo P el = some (some z, n, bt)) (hz : plainElem (H := Unit) P el z = some (.lit zl, [])) (hr : X.D.atKey kl (.lit zl) = .lit rl) (hb : Maps.has X.D kl = b) : ∀ σ2 : List Ob, (∀ i ∈ [id], σ2[i]? = σ[i]?) → Does P o F σ2 (.tup [.s (unLit rl), .s (.bool b)]) σ2 := fun σ2 hσ =>
  does_val fun G ρ hrel hop => by
    have g1 := hop m (by simp [ho, Op.operands])
    have g2 := hop x (by simp [ho, Op.operands])
    rw [hm] at g1
    rw [hx] at g2
    have e2 := rep_s g2
    generalize hu : ρ m = u at g1
    cases g1 with
    | mp _ c hmu =>
      obtain ⟨b0, h1, h2, h3, h4, h5⟩ := hrel.obs id _ ((hσ id (by simp)).trans hs)
      rw [hmu] at h1
      cases h1
      obtain ⟨XP, Xk, Xe, Xn, XD⟩ := X
      obtain ⟨rfl, rfl, rfl⟩ := hX
      obtain ⟨i, k1, k2, k3, k4⟩ := info_of hi
      have hzero : (zeroValue Xe).run XP G.w = .ok z G.w := by simp [zeroValue, typeInfo, k1, k2]
      obtain ⟨v, ps, hrun, hv⟩ := World.ownsMap.look_ok h2 K (map_of ht) hzero hz hkey
      have hr' : XD.atKey kl (.lit zl) = .lit rl := hr
      have hb' : Maps.has XD kl = b := hb
      rw [hr'] at hv
      rw [hb'] at hrun
      have := plain_unlit hv
      subst this
      refine ⟨.tuple #[unLit rl, .bool b], ?_, .tup _ _ rfl (fun j v c hv hc => ?_)⟩
      · simp [execOp, ho, hu, e2, hrun, Result.andThen]
      · match j, hv, hc with
        | 0, hv, hc => simp at hv hc; subst hv hc; exact .s _
        | 1, hv, hc => simp at hv hc; subst hv hc; exact .s _
        | j + 2, hv, hc => simp at hv
theorem does_lookupC {t kt el : TypeId} {m x : Operand} {id : Nat} {X : MapX} {key z : Value} {kl zl rl : Lit} {n bt : Nat} {b : Bool} (ho : o.op = .lookup t m x true) (ht : tyMap P t = some (kt, el)) (K : Keyed P kt) (hm : F.eval m = .mp id) (hs : σ[id]? = some (.mp X)) (hX : X.P = P ∧ X.kt = kt ∧ X.el = el)
    (hx : F.eval x = .s key) (hkey : keyOf P kt key = some kl) (hi : tyInfo P el = some (some z, n, bt)) (hz : plainElem (H := Unit) P el z = some (.lit zl, [])) (hr : X.D.atKey kl (.lit zl) = .lit rl) (hb : Maps.has X.D kl = b) : Does P o F σ (.tup [.s (unLit rl), .s (.bool b)]) σ :=
  look_mapC ho ht K hm hs hX hx hkey hi hz hr hb σ (fun _ _ => rfl)
/-! ## bytes -/
def eU (n : Int) : AV := .s (.int .u8 n)
def bytesS (xs : List Int) : ByteArray := ⟨(xs.map fun n => UInt8.ofNat n.toNat).toArray⟩
theorem does_bstr {t t' e : TypeId} {x : Operand} {y : AV} {xs : List Int} (ho : o.op = .convert t t' x) (ht : tySlice P t = some e) (he : tyInt P e = some .u8) (hd : tyString P t' = true) (hx : F.eval x = y) (hs : Src σ 1 y (xs.map eU)) : Does P o F σ (.s (.string (bytesS xs))) σ :=
  does_val fun G ρ hrel hop => by
    have g1 := hop x (by simp [ho, Op.operands])
    rw [hx] at g1
    obtain ⟨A, c, news, hv, hV⟩ := src_vals (by decide) hrel hs g1
    have hsl : P.underlying t = some (.slice e) := by
      unfold tySlice at ht
      split at ht
      · rename_i h1; cases ht; exact h1
      · cases ht
    have hi8 : P.underlying e = some (.int .u8) := by
      unfold tyInt at he
      split at he
      · rename_i h1; cases he; exact h1
      · cases he
    have hst := string_of hd
    have hnews : news = xs.map (Value.int .u8) := by
      refine List.ext_getElem? fun k => ?_
      have hl := hV.len
      rw [List.length_map, Nat.mul_one] at hl
      by_cases hk : k < xs.length
      · obtain ⟨q1, q2, q3⟩ := hV.rep k (eU xs[k]) (by simp [hk])
        obtain ⟨u, h1, h2⟩ := q3 0 (eU xs[k]) rfl
        rw [Nat.mul_one, Nat.add_zero] at h1
        rw [h1, rep_s h2]
        simp [hk]
      · rw [List.getElem?_eq_none (by omega), List.getElem?_eq_none (by simp; omega)]
    have hrun : (convert t t' (.slice A (xs.map eU).length c)).run P G.w = .ok (.string (bytesS xs)) G.w := by
      cases A with
      | none =>
        have h0 : xs = [] := List.map_eq_nil_iff.1 (hV.nil rfl)
        subst h0
        rw [run_convert_bytes_nil G.w t e hsl hi8 _ _ _ hst]
        rfl
      | some a =>
        have hl : (loadCells a xs.length).run P G.w = .ok (xs.map (Value.int .u8)).toArray G.w := by
          have := run_loadCells_list (P := P) G.w a (xs.map (Value.int .u8)) (fun j v hj => hV.at_ a rfl j v (by rw [hnews]; exact hj))
          rwa [List.length_map] at this
        rw [run_convert_bytes_string G.w t t' e _ _ _ hsl hi8 hst, List.length_map, run_bytesToString G.w a _ c xs hl, foldl_push_bytes]
        simp [bytesS, ByteArray.empty, ByteArray.emptyWithCapacity]
        rfl
    refine ⟨.string (bytesS xs), ?_, .s _⟩
    simp only [execOp, ho, hv, Sem.run_bind, hrun, Result.andThen_ok, Sem.run_pure]
end
end Go.Proofs.Ythdpacbjbdkemaa.Aw
end
section
namespace Go.Proofs.Ythdpacbjbdkemaa.Aw
set_option linter.unusedSimpArgs false
set_option linter.unusedVariables false
open Go.RowKit

/-- all new blocks are finished -/
def newCx (G : Cx) (w' : World) : Cx := { base := 0, w0 := G.w, w := w', mu := fun _ => none, St := fun b o => G.St b o ∨ (G.w.heap.size ≤ b ∧ b < w'.heap.size) }
theorem pure_mk {P : Program} {f : FuncId} {args : List AV} {r : AV} (he : Enters P f) (hl : Lo 0 r)
    (h : ∀ (G : Cx) (vargs : Array Value), (∀ b o, G.St b o → b < G.w.heap.size) → vargs.size = args.length → (∀ (j : Nat) v x, vargs[j]? = some v → args[j]? = some x → Rep G v x) →
      Calls P f vargs G.w fun e w' => ∃ v, e = .returned v ∧ Below G.w.heap.size G.w w' ∧ Rep (newCx G w') v r) : Pure P f args r :=
  ⟨he, hl, fun G vargs hst hsz hrep => (h G vargs hst hsz hrep).mono (by
    rintro e w' ⟨v, rfl, hb, hr⟩
    refine ⟨v, newCx G w', rfl, rfl, hb, fun b o h => .inl h, fun b o h => ?_, fun b o h => ?_, hr⟩
    · exact h.imp (fun h => h) (fun h => h.1)
    · rcases h with h | h
      · have := hst b o h; have := hb.size; show b < w'.heap.size; omega
      · exact h.2)⟩
/-- a slice of finished data, read cell by cell -/
theorem rd_rep {G : Cx} {α : Type} [Inhabited α] {size : Nat} {enc : α → List Value} {f : α → AV} (he : ∀ a, (enc a).length = size) (hf : ∀ a, (f a).cells.length = size) (h1 : ∀ a, ∀ c ∈ (f a).cells, c.one = true)
    {lo hi : Nat} {v : Value} {l : List α} (h : Rd size enc G.w lo hi v l) (hs : ∀ b o, lo ≤ b → b < hi → b < G.w.heap.size → G.St b o)
    (hr : ∀ a ∈ l, ∀ (j : Nat) u c, (enc a)[j]? = some u → (f a).cells[j]? = some c → Rep G u c) : Rep G v (eL f l) := by
  obtain ⟨A, c, rfl, hc, hm⟩ := h.form
  unfold eL
  rcases Nat.eq_zero_or_pos l.length with h0 | h0
  · have : l = [] := List.eq_nil_of_length_eq_zero h0
    subst this
    exact .slnil A c
  · obtain ⟨b, off, rfl, hlo, hhi, _⟩ := Rd.at_ h he (gti_get h0)
    have key : ∀ (k : Nat) a (j : Nat) u, l[k]? = some a → (enc a)[j]? = some u → G.w.cell? ⟨b, off + (k * size + j), none⟩ = some u := by
      intro k a j u hk hu
      obtain ⟨b2, off2, hA, _, _, h3⟩ := Rd.at_ h he hk
      cases hA
      exact h3 j u hu
    have hval : ∀ (k : Nat) e (j : Nat) c, (l.map f)[k]? = some e → e.cells[j]? = some c → ∃ a u, l[k]? = some a ∧ e = f a ∧ (enc a)[j]? = some u ∧ Rep G u c ∧ G.w.cell? ⟨b, off + k * size + j, none⟩ = some u := by
      intro k e j c hk hc
      rw [List.getElem?_map] at hk
      cases ha : l[k]? with
      | none => rw [ha] at hk; cases hk
      | some a =>
        rw [ha] at hk
        simp only [Option.map_some, Option.some.injEq] at hk
        subst hk
        have hj : j < (enc a).length := by rw [he, ← hf a]; exact (List.getElem?_eq_some_iff.1 hc).1
        refine ⟨a, (enc a)[j], rfl, rfl, List.getElem?_eq_getElem hj, hr a (List.mem_of_getElem? ha) j _ c (List.getElem?_eq_getElem hj) hc, ?_⟩
        rw [Nat.add_assoc]
        exact key k a j _ ha (List.getElem?_eq_getElem hj)
    have hlen : l.length = (l.map f).length := by simp
    rw [hlen]
    refine .sl b off c size (l.map f) (fun k j => (G.w.cell? ⟨b, off + k * size + j, none⟩).getD undef) (by simpa using hc) (by simpa [maxLen] using hm) (fun k e hk => ?_) (fun k e j c hk hc => ?_) (fun k e j c hk hc => ?_)
    · obtain ⟨a, _, rfl⟩ := List.mem_map.1 (List.mem_of_getElem? hk)
      exact ⟨hf a, h1 a⟩
    · obtain ⟨a, u, _, _, _, _, h6⟩ := hval k e j c hk hc
      exact ⟨hs b _ hlo hhi (World.block_lt_of_cell? _ _ h6), by rw [h6]; rfl⟩
    · obtain ⟨a, u, _, _, _, h5, h6⟩ := hval k e j c hk hc
      rw [h6]; exact h5
/-- finished data, read cell by cell -/
theorem rep_rd {G : Cx} {α : Type} [Inhabited α] {size : Nat} {enc : α → List Value} {f : α → AV} (hsz : 0 < size) (he : ∀ a, (enc a).length = size) (hf : ∀ a, (f a).cells.length = size)
    {v : Value} {l : List α} (h : Rep G v (eL f l)) (hs : ∀ b o, G.St b o → b < G.w.heap.size)
    (hr : ∀ a ∈ l, ∀ (j : Nat) u c v, (enc a)[j]? = some u → (f a).cells[j]? = some c → Rep G v c → v = u) : Rd size enc G.w 0 G.w.heap.size v l := by
  unfold eL at h
  generalize hL : l.map f = L at h
  cases h with
  | slnil A cap =>
    have : l = [] := by simpa using hL
    subst this
    exact ⟨by simp, A, cap, rfl, Nat.zero_le _, Nat.zero_le _, fun h => by simp at h⟩
  | sl b o cap sz _ val hc hm h1 h2 h =>
    subst hL
    simp only [List.length_map] at *
    have key : ∀ (k : Nat) a (j : Nat) u, l[k]? = some a → (enc a)[j]? = some u → G.w.cell? ⟨b, o + (k * size + j), none⟩ = some u := by
      intro k a j u hk hu
      have hk2 : (l.map f)[k]? = some (f a) := by rw [List.getElem?_map, hk]; rfl
      have hsz' : sz = size := by rw [← (h1 k _ hk2).1, hf]
      subst hsz'
      have hj : j < (f a).cells.length := by rw [hf, ← he a]; exact (List.getElem?_eq_some_iff.1 hu).1
      have hj2 := List.getElem?_eq_getElem hj
      have h3 := h2 k _ j _ hk2 hj2
      rw [Nat.add_assoc] at h3
      rw [h3.2, hr a (List.mem_of_getElem? hk) j u _ _ hu hj2 (h k _ j _ hk2 hj2)]
    refine ⟨flatMap_len he l, _, cap, rfl, hc, hm, fun hn => ⟨b, o, rfl, Nat.zero_le _, ?_, fun j u hu => ?_⟩⟩
    · have h0 := gti_get hn
      have hk2 : (l.map f)[0]? = some (f (gti l 0)) := by rw [List.getElem?_map, h0]; rfl
      have hj : 0 < (f (gti l 0)).cells.length := by rw [hf]; exact hsz
      exact hs _ _ (h2 0 _ 0 _ hk2 (List.getElem?_eq_getElem hj)).1
    · have hlt : j < l.length * size := by
        have := (List.getElem?_eq_some_iff.1 hu).1
        rwa [flatMap_len he] at this
      have hk : j / size < l.length := Nat.div_lt_of_lt_mul (by rw [Nat.mul_comm]; exact hlt)
      have hjm : j % size < (enc (gti l (j / size))).length := by rw [he]; exact Nat.mod_lt _ hsz
      have h5 := flatMap_get he l (j / size) (gti l (j / size)) (j % size) _ (gti_get hk) (List.getElem?_eq_getElem hjm)
      have h6 := key (j / size) _ (j % size) _ (gti_get hk) (List.getElem?_eq_getElem hjm)
      have h7 : j / size * size + j % size = j := by rw [Nat.mul_comm]; exact Nat.div_add_mod _ _
      rw [h7] at h5 h6
      rw [h5] at hu
      cases hu
      exact h6

theorem rdI_rep {G : Cx} {lo hi : Nat} {v : Value} {l : List Int} (h : RdI G.w lo hi v l) (hs : ∀ b o, lo ≤ b → b < hi → b < G.w.heap.size → G.St b o) : Rep G v (eL eI l) :=
  rd_rep (size := 1) (enc := encI) (f := eI) (by simp) (fun _ => rfl) (fun a c hc => by simp [eI, AV.cells] at hc; subst hc; rfl) h hs (fun a _ j u c hu hc => by
    cases j with
    | zero => simp [eI, AV.cells] at hu hc; subst hu hc; exact .s _
    | succ j => simp at hu)
theorem rep_rdI {G : Cx} {v : Value} {l : List Int} (h : Rep G v (eL eI l)) (hs : ∀ b o, G.St b o → b < G.w.heap.size) : RdI G.w 0 G.w.heap.size v l :=
  rep_rd (size := 1) (enc := encI) (f := eI) (by decide) (by simp) (fun _ => rfl) h hs (fun a _ j u c v hu hc hv => by
    cases j with
    | zero => simp [eI, AV.cells] at hu hc; subst hu hc; exact rep_s hv
    | succ j => simp at hu)
end Go.Proofs.Ythdpacbjbdkemaa.Aw
end
section
namespace Go.Proofs.Ythdpacbjbdkemaa.Aw
set_option linter.unusedSimpArgs false
set_option linter.unusedVariables false
open Go.RowKit

/-- transitions, nets -/
def eT (t : Tr) : AV := .agg [eS t.label, eL eI t.inn, eL eI t.out]
def eN (n : Net) : AV := .agg [eI n.places, eL eT n.trans, eI n.source, eI n.sink]
theorem rep_rdT {G : Cx} {v : Value} {l : List Tr} (h : Rep G v (eL eT l)) (hs : ∀ b o, G.St b o → b < G.w.heap.size) : RdT G.w 0 G.w.heap.size v l := by
  unfold eL at h
  generalize hL : l.map eT = L at h
  cases h with
  | slnil A cap =>
    have : l = [] := by simpa using hL
    subst this
    exact ⟨[], ⟨by simp, A, cap, rfl, Nat.zero_le _, Nat.zero_le _, fun h => by simp at h⟩, rfl, fun k hk => by simp at hk⟩
  | sl b o cap sz _ val hc hm h1 h2 h =>
    subst hL
    simp only [List.length_map] at *
    have hk2 : ∀ k, k < l.length → (l.map eT)[k]? = some (eT (gti l k)) := fun k hk => by rw [List.getElem?_map, gti_get hk]; rfl
    refine ⟨(List.range l.length).map fun k => ⟨(gti l k).label, val k 1, val k 2⟩, ?_, by simp, fun k hk => ?_⟩
    · have hlen : ((List.range l.length).map fun k => (⟨(gti l k).label, val k 1, val k 2⟩ : TrV)).length = l.length := by simp
      refine ⟨flatMap_len (by simp) _, _, cap, by rw [hlen], by simpa using hc, by simpa using hm, fun hn => ⟨b, o, rfl, Nat.zero_le _, ?_, fun j u hu => ?_⟩⟩
      · rw [hlen] at hn
        exact hs _ _ (h2 0 _ 0 _ (hk2 0 hn) rfl).1
      · have hlt : j < l.length * 3 := by
          have := (List.getElem?_eq_some_iff.1 hu).1
          rwa [flatMap_len (size := 3) (by simp), hlen] at this
        have hk : j / 3 < l.length := by omega
        have hg : ((List.range l.length).map fun k => (⟨(gti l k).label, val k 1, val k 2⟩ : TrV))[j / 3]? = some ⟨(gti l (j / 3)).label, val (j / 3) 1, val (j / 3) 2⟩ := by simp [hk]
        have hjm : j % 3 < 3 := Nat.mod_lt _ (by decide)
        have hsz : sz = 3 := by rw [← (h1 _ _ (hk2 _ hk)).1]; rfl
        subst hsz
        have h7 : j / 3 * 3 + j % 3 = j := by rw [Nat.mul_comm]; exact Nat.div_add_mod _ _
        have key : ∀ (i : Nat) u c, (encV ⟨(gti l (j / 3)).label, val (j / 3) 1, val (j / 3) 2⟩)[i]? = some u → (eT (gti l (j / 3))).cells[i]? = some c → j % 3 = i → G.w.cell? ⟨b, o + j, none⟩ = some (val (j / 3) i) := by
          intro i u c _ hc2 hi
          have h3 := (h2 (j / 3) _ i c (hk2 _ hk) hc2).2
          rw [← hi] at h3 ⊢
          rw [Nat.add_assoc, h7] at h3
          exact h3
        have hu2 : ∀ i u', j % 3 = i → (encV ⟨(gti l (j / 3)).label, val (j / 3) 1, val (j / 3) 2⟩)[i]? = some u' → u = u' := by
          intro i u' hi hu'
          have h5 := flatMap_get (size := 3) (enc := encV) (by simp) _ (j / 3) _ i u' hg hu'
          rw [← hi, h7, hu] at h5
          injection h5
        have h3 : j % 3 = 0 ∨ j % 3 = 1 ∨ j % 3 = 2 := by omega
        rcases h3 with h3 | h3 | h3
        · rw [hu2 0 _ h3 rfl, key 0 _ _ rfl rfl h3]
          have := h (j / 3) _ 0 _ (hk2 _ hk) rfl
          rw [rep_s this]
        · rw [hu2 1 _ h3 rfl, key 1 _ _ rfl rfl h3]
        · rw [hu2 2 _ h3 rfl, key 2 _ _ rfl rfl h3]
    · have hg : gti ((List.range l.length).map fun k => (⟨(gti l k).label, val k 1, val k 2⟩ : TrV)) k = ⟨(gti l k).label, val k 1, val k 2⟩ := by
        unfold gti; simp [hk]
      rw [hg]
      exact ⟨rfl, rep_rdI (h k _ 1 _ (hk2 k hk) rfl) hs, rep_rdI (h k _ 2 _ (hk2 k hk) rfl) hs⟩
theorem rep_net {G : Cx} {v : Value} {n : Net} (h : Rep G v (eN n)) (hs : ∀ b o, G.St b o → b < G.w.heap.size) : ∃ vt, v = netV n vt ∧ RdT G.w 0 G.w.heap.size vt n.trans := by
  unfold eN at h
  cases h with
  | agg vs _ hl h1 h =>
    obtain ⟨l⟩ := vs
    match l, hl with
    | [a, b, c, d], _ =>
      have ha := rep_s (h 0 a _ rfl rfl)
      have hc := rep_s (h 2 c _ rfl rfl)
      have hd := rep_s (h 3 d _ rfl rfl)
      subst ha hc hd
      exact ⟨b, rfl, rep_rdT (h 1 b _ rfl rfl) hs⟩
end Go.Proofs.Ythdpacbjbdkemaa.Aw
end
section
namespace Go.Proofs.Ythdpacbjbdkemaa.Aw
open Go Go.Proofs
/-- the program -/
class IsP (P : Program) : Prop where
  eq : P = Try.prog
instance : IsP Try.prog := ⟨rfl⟩
variable {P : Program} [IsP P]
theorem hmix : P.follows .mixedOrders = true := by rw [IsP.eq (P := P)]; kernel_rfl
theorem ti3 : tyInfo P 3 = some (some (.int .i64 0), 1, 8) := by rw [IsP.eq (P := P)]; kernel_rfl
theorem ta3 : tyAgg P 3 = some false := by rw [IsP.eq (P := P)]; kernel_rfl
theorem tu3 : (P.underlying 3).isSome = true := by rw [IsP.eq (P := P)]; kernel_rfl
theorem ti4 : tyInfo P 4 = some (some (.bool false), 1, 1) := by rw [IsP.eq (P := P)]; kernel_rfl
theorem ta4 : tyAgg P 4 = some false := by rw [IsP.eq (P := P)]; kernel_rfl
theorem ti5 : tyInfo P 5 = some (some (.int .u8 0), 1, 1) := by rw [IsP.eq (P := P)]; kernel_rfl
theorem tk5 : tyInt P 5 = some .u8 := by rw [IsP.eq (P := P)]; kernel_rfl
theorem ti9 : tyInfo P 9 = some (some (.string ⟨#[]⟩), 1, 16) := by rw [IsP.eq (P := P)]; kernel_rfl
theorem ta9 : tyAgg P 9 = some false := by rw [IsP.eq (P := P)]; kernel_rfl
theorem tg9 : tyString P 9 = true := by rw [IsP.eq (P := P)]; kernel_rfl
theorem ta22 : tyAgg P 22 = some false := by rw [IsP.eq (P := P)]; kernel_rfl
theorem ts22 : tySlice P 22 = some 59 := by rw [IsP.eq (P := P)]; kernel_rfl
theorem ti24 : tyInfo P 24 = some (some (.agg #[.int .i64 0, .slice none 0 0, .int .i64 0, .int .i64 0]), 4, 48) := by rw [IsP.eq (P := P)]; kernel_rfl
theorem ta24 : tyAgg P 24 = some true := by rw [IsP.eq (P := P)]; kernel_rfl
theorem tf24_0 : tyField P 24 0 = some (0, 3, some 1) := by rw [IsP.eq (P := P)]; kernel_rfl
theorem tf24_1 : tyField P 24 1 = some (1, 22, some 1) := by rw [IsP.eq (P := P)]; kernel_rfl
theorem tp24 : tyPlaces P 24 = some [(0, 1), (1, 1), (2, 1), (3, 1)] := by rw [IsP.eq (P := P)]; kernel_rfl
theorem ti25 : tyInfo P 25 = some (some (.slice none 0 0), 1, 24) := by rw [IsP.eq (P := P)]; kernel_rfl
theorem ta25 : tyAgg P 25 = some false := by rw [IsP.eq (P := P)]; kernel_rfl
theorem ts25 : tySlice P 25 = some 3 := by rw [IsP.eq (P := P)]; kernel_rfl
theorem ti26 : tyInfo P 26 = some (some (.slice none 0 0), 1, 24) := by rw [IsP.eq (P := P)]; kernel_rfl
theorem ta26 : tyAgg P 26 = some false := by rw [IsP.eq (P := P)]; kernel_rfl
theorem ts26 : tySlice P 26 = some 25 := by rw [IsP.eq (P := P)]; kernel_rfl
theorem ti27 : tyInfo P 27 = some (some (.slice none 0 0), 1, 24) := by rw [IsP.eq (P := P)]; kernel_rfl
theorem ta27 : tyAgg P 27 = some false := by rw [IsP.eq (P := P)]; kernel_rfl
theorem ts27 : tySlice P 27 = some 56 := by rw [IsP.eq (P := P)]; kernel_rfl
theorem ti29 : tyInfo P 29 = some (some (.agg #[.slice none 0 0, .slice none 0 0, .bool false]), 3, 56) := by rw [IsP.eq (P := P)]; kernel_rfl
theorem ta29 : tyAgg P 29 = some true := by rw [IsP.eq (P := P)]; kernel_rfl
theorem tf29_0 : tyField P 29 0 = some (0, 26, some 1) := by rw [IsP.eq (P := P)]; kernel_rfl
theorem tf29_1 : tyField P 29 1 = some (1, 27, some 1) := by rw [IsP.eq (P := P)]; kernel_rfl
theorem tf29_2 : tyField P 29 2 = some (2, 4, some 1) := by rw [IsP.eq (P := P)]; kernel_rfl
theorem tp29 : tyPlaces P 29 = some [(0, 1), (1, 1), (2, 1)] := by rw [IsP.eq (P := P)]; kernel_rfl
theorem ti56 : tyInfo P 56 = some (some (.agg #[.int .i64 0, .int .i64 0, .int .i64 0]), 3, 24) := by rw [IsP.eq (P := P)]; kernel_rfl
theorem ta56 : tyAgg P 56 = some true := by rw [IsP.eq (P := P)]; kernel_rfl
theorem tf56_0 : tyField P 56 0 = some (0, 3, some 1) := by rw [IsP.eq (P := P)]; kernel_rfl
theorem tf56_1 : tyField P 56 1 = some (1, 3, some 1) := by rw [IsP.eq (P := P)]; kernel_rfl
theorem tf56_2 : tyField P 56 2 = some (2, 3, some 1) := by rw [IsP.eq (P := P)]; kernel_rfl
theorem te56 : tyEqK P 56 = some [.i, .i, .i] := by rw [IsP.eq (P := P)]; kernel_rfl
theorem tp56 : tyPlaces P 56 = some [(0, 1), (1, 1), (2, 1)] := by rw [IsP.eq (P := P)]; kernel_rfl
theorem ti59 : tyInfo P 59 = some (some (.agg #[.string ⟨#[]⟩, .slice none 0 0, .slice none 0 0]), 3, 64) := by rw [IsP.eq (P := P)]; kernel_rfl
theorem ta59 : tyAgg P 59 = some true := by rw [IsP.eq (P := P)]; kernel_rfl
theorem tf59_0 : tyField P 59 0 = some (0, 9, some 1) := by rw [IsP.eq (P := P)]; kernel_rfl
theorem tf59_1 : tyField P 59 1 = some (1, 25, some 1) := by rw [IsP.eq (P := P)]; kernel_rfl
theorem tf59_2 : tyField P 59 2 = some (2, 25, some 1) := by rw [IsP.eq (P := P)]; kernel_rfl
theorem tp59 : tyPlaces P 59 = some [(0, 1), (1, 1), (2, 1)] := by rw [IsP.eq (P := P)]; kernel_rfl
theorem ts60 : tySlice P 60 = some 65 := by rw [IsP.eq (P := P)]; kernel_rfl
theorem ts65 : tySlice P 65 = some 9 := by rw [IsP.eq (P := P)]; kernel_rfl
theorem tm72 : tyMap P 72 = some (9, 3) := by rw [IsP.eq (P := P)]; kernel_rfl
theorem tn9 : P.underlying 9 = some .string := by rw [IsP.eq (P := P)]; kernel_rfl
theorem tn3 : P.underlying 3 = some (.int .i64) := by rw [IsP.eq (P := P)]; kernel_rfl
theorem tK9 : Go.Maps.Keyed P 9 := Go.Maps.string_keyed tn9
theorem ta80 : tyAgg P 80 = some false := by rw [IsP.eq (P := P)]; kernel_rfl
theorem ts80 : tySlice P 80 = some 27 := by rw [IsP.eq (P := P)]; kernel_rfl
theorem ts81 : tySlice P 81 = some 4 := by rw [IsP.eq (P := P)]; kernel_rfl
theorem ti99 : tyInfo P 99 = some (some (.agg #[.int .i64 0, .slice none 0 0, .int .i64 0, .int .i64 0, .slice none 0 0, .slice none 0 0, .bool false, .slice none 0 0, .int .i64 0]), 9, 136) := by rw [IsP.eq (P := P)]; kernel_rfl
theorem tf99_0 : tyField P 99 0 = some (0, 24, some 4) := by rw [IsP.eq (P := P)]; kernel_rfl
theorem tf99_1 : tyField P 99 1 = some (4, 29, some 3) := by rw [IsP.eq (P := P)]; kernel_rfl
theorem tf99_2 : tyField P 99 2 = some (7, 80, some 1) := by rw [IsP.eq (P := P)]; kernel_rfl
theorem tf99_3 : tyField P 99 3 = some (8, 3, some 1) := by rw [IsP.eq (P := P)]; kernel_rfl
theorem tp99 : tyPlaces P 99 = some [(0, 4), (4, 3), (7, 1), (8, 1)] := by rw [IsP.eq (P := P)]; kernel_rfl
theorem ts105 : tySlice P 105 = some 5 := by rw [IsP.eq (P := P)]; kernel_rfl
end Go.Proofs.Ythdpacbjbdkemaa.Aw
end
section
namespace Go.Proofs.Ythdpacbjbdkemaa.Aw
set_option linter.unusedSimpArgs false
set_option linter.unusedVariables false
open Go.RowKit Go.Proofs
variable {P : Program} [IsP P]
theorem indexFS_pf (f : FuncId) (caps : List AV) (p : ByteArray → Bool) (l : List ByteArray) (hlo : ∀ a : ByteArray, Lo 0 (eS a)) (hlc : Lo 0 (.fn f caps)) (hf : ∀ a ∈ l, Pure P f ([eS a] ++ caps) (eB (p a))) :
    Pure P 80 [eL eS l, .fn f caps] (eI (firstAt p l)) := by
  refine aw_fn (by rw [IsP.eq (P := P)]; exact Try.func80) rfl rfl rfl rfl rfl (lo_cons (lo_map hlo) (lo_cons hlc lo_nil)) (.s _) (by simp only [argF]; rfl) ?_
  refine aw_bdm (d := 0) rfl (fun hmx => ?_)
  unfold maxLen at hmx
  repeat (first | refine aw_seq ?_ | refine ath_n ?_ | refine aw_skip ?_ | refine abl_n ?_ | refine aw_block ?_)
  refine aw_region ?_
  refine ops_op rfl rfl (runs_none rfl) (mv_s (.inr rfl) rfl) ?_
  refine ops_nil ?_
  repeat (first | refine aw_seq ?_ | refine ath_n ?_ | refine aw_skip ?_ | refine abl_n ?_ | refine aw_block ?_)
  refine aw_region ?_
  first | refine ops_op rfl rfl (runs_none rfl) (mv_own (.inl rfl) rfl) ?_ | refine ops_op rfl rfl (runs_none rfl) (mv_sl (.inl rfl) rfl) ?_ | refine ops_op rfl rfl (runs_none rfl) (mv_s (.inl rfl) rfl) ?_ | refine ops_op rfl rfl (runs_none rfl) (mv_emp (.inl rfl) rfl) ?_
  first | refine ops_op rfl rfl (runs_none rfl) (does_len_map rfl ts65 rfl) ?_ | refine ops_op rfl rfl (runs_none rfl) (does_len_sl rfl ts65 rfl) ?_ | refine ops_op rfl rfl (runs_none rfl) (does_len_own rfl ts65 rfl) ?_ | refine ops_op rfl rfl (runs_none rfl) (does_len_s rfl ts65 rfl) ?_ | refine ops_op rfl rfl (runs_none rfl) (does_len_emp rfl ts65 rfl) ?_
  refine ops_op rfl rfl (runs_none rfl) (mv_s (.inl rfl) rfl) ?_
  refine ops_nil ?_
  repeat (first | refine aw_seq ?_ | refine ath_n ?_ | refine aw_skip ?_ | refine abl_n ?_ | refine aw_block ?_)
  refine aw_loops (S := Nat) (fun k => [(0, eL eS l), (1, .fn f caps), (7, eI l.length), (8, eI k)]) (fun _ => []) (fun k => k ≤ l.length ∧ ∀ j a, j < k → l[j]? = some a → p a = false) (fun k => l.length - k) 0 (wk_sub _ ⟨rfl, rfl, rfl, rfl, trivial⟩) ⟨by omega, fun j a hj => by omega⟩ (fun k hk => ?_)
  repeat (first | refine aw_seq ?_ | refine ath_n ?_ | refine aw_skip ?_ | refine abl_n ?_ | refine aw_block ?_)
  refine aw_region ?_
  refine ops_op rfl rfl (runs_none rfl) (does_lss rfl rfl rfl) ?_
  refine ops_nil ?_
  repeat (first | refine aw_seq ?_ | refine ath_n ?_ | refine aw_skip ?_ | refine abl_n ?_ | refine aw_block ?_)
  refine aw_if rfl (fun h => ?_) (fun h => ?_)
  · have hlt : k < l.length := by omega
    repeat (first | refine aw_seq ?_ | refine ath_n ?_ | refine aw_skip ?_ | refine abl_n ?_ | refine aw_block ?_)
    refine aw_region ?_
    refine ops_op rfl rfl (runs_none rfl) (mv_s (.inl rfl) rfl) ?_
    refine ops_op rfl rfl (runs_none rfl) (mv_s (.inr rfl) rfl) ?_
    refine ops_nil ?_
    repeat (first | refine aw_seq ?_ | refine ath_n ?_ | refine aw_skip ?_ | refine abl_n ?_ | refine aw_block ?_)
    have hp := hf (gti l k) (gti_mem hlt)
    refine aw_region ?_
    first | refine ops_op rfl rfl (runs_none rfl) (mv_fn (.inl rfl) rfl) ?_ | refine ops_op rfl rfl (runs_none rfl) (mv_s (.inl rfl) rfl) ?_
    first | refine ops_op rfl rfl (runs_none rfl) (mv_own (.inl rfl) rfl) ?_ | refine ops_op rfl rfl (runs_none rfl) (mv_sl (.inl rfl) rfl) ?_ | refine ops_op rfl rfl (runs_none rfl) (mv_s (.inl rfl) rfl) ?_ | refine ops_op rfl rfl (runs_none rfl) (mv_emp (.inl rfl) rfl) ?_
    refine ops_op rfl rfl (runs_none rfl) (mv_s (.inl rfl) rfl) ?_
    first | refine ops_op rfl rfl (runs_none rfl) (does_index_sl rfl ts65 ti9 rfl rfl rfl (ix_map (by omega)) rfl) ?_ | refine ops_op rfl rfl (runs_none rfl) (does_index_own rfl ts65 ti9 rfl rfl rfl (by omega)) ?_
    first | refine ops_op rfl rfl (runs_none rfl) (does_load_ref rfl ta9 rfl) ?_ | refine ops_op rfl rfl (runs_none rfl) (does_load_ptr rfl ta9 rfl rfl rfl rfl rfl) ?_
    refine ops_op rfl rfl (runs_none rfl) (does_call rfl rfl (hp) (evc_cons rfl evc_nil)) ?_
    refine ops_nil ?_
    repeat (first | refine aw_seq ?_ | refine ath_n ?_ | refine aw_skip ?_ | refine abl_n ?_ | refine aw_block ?_)
    refine aw_cond rfl (fun h => ?_) (fun h => ?_)
    · repeat (first | refine aw_seq ?_ | refine ath_n ?_ | refine aw_skip ?_ | refine abl_n ?_ | refine aw_block ?_)
      refine aw_region ?_
      refine ops_op rfl rfl (runs_none rfl) (mv_s (.inl rfl) rfl) ?_
      refine ops_op rfl rfl (runs_none rfl) (mv_s (.inr rfl) rfl) ?_
      refine ops_nil ?_
      repeat (first | refine aw_seq ?_ | refine ath_n ?_ | refine aw_skip ?_ | refine abl_n ?_ | refine aw_block ?_)
      (refine aw_ret ?_; repeat (first | refine ath_r ?_ | refine abl_r ?_))
      exact post1 (.inr rfl) rfl (congrArg eI (firstAt_some (gti_get hlt) h hk.2).symm)
    · repeat (first | refine aw_seq ?_ | refine ath_n ?_ | refine aw_skip ?_ | refine abl_n ?_ | refine aw_block ?_)
      refine aw_region ?_
      refine ops_op rfl rfl (runs_none rfl) (does_add rfl rfl rfl (IntWalk.i64_in _ (by omega))) ?_
      refine ops_op rfl rfl (runs_none rfl) (mv_s (.inl rfl) rfl) ?_
      refine ops_nil ?_
      repeat (first | refine aw_seq ?_ | refine ath_n ?_ | refine aw_skip ?_ | refine abl_n ?_ | refine aw_block ?_)
      refine ⟨k + 1, ⟨by omega, fun j a hj ha => ?_⟩, by omega, wk_sub _ ⟨rfl, rfl, rfl, rfl, trivial⟩⟩
      by_cases e : j = k
      · subst e
        rw [gti_get hlt] at ha
        cases ha
        exact h
      · exact hk.2 j a (by omega) ha
  · (refine aw_exit ?_; repeat (first | refine ath_x ?_ | refine abl_hit ?_ | refine abl_miss rfl ?_ | refine abl_n ?_ | refine ath_n ?_ | refine aw_seq ?_ | refine aw_skip ?_ | refine aw_block ?_))
    refine aw_region ?_
    refine ops_op rfl rfl (runs_none rfl) (mv_s (.inr rfl) rfl) ?_
    refine ops_nil ?_
    repeat (first | refine aw_seq ?_ | refine ath_n ?_ | refine aw_skip ?_ | refine abl_n ?_ | refine aw_block ?_)
    (refine aw_ret ?_; repeat (first | refine ath_r ?_ | refine abl_r ?_))
    exact post1 (.inr rfl) rfl (congrArg eI (firstAt_none (fun j a hj ha => hk.2 j a (by omega) ha)).symm)
theorem containsFS_pf (f : FuncId) (caps : List AV) (p : ByteArray → Bool) (l : List ByteArray) (hlo : ∀ a : ByteArray, Lo 0 (eS a)) (hlc : Lo 0 (.fn f caps)) (hf : ∀ a ∈ l, Pure P f ([eS a] ++ caps) (eB (p a))) :
    Pure P 61 [eL eS l, .fn f caps] (eB (l.any p)) := by
  refine aw_fn (by rw [IsP.eq (P := P)]; exact Try.func61) rfl rfl rfl rfl rfl (lo_cons (lo_map hlo) (lo_cons hlc lo_nil)) (.s _) (by simp only [argF]; rfl) ?_
  have hi := indexFS_pf f caps p l hlo hlc hf
  repeat (first | refine aw_seq ?_ | refine ath_n ?_ | refine aw_skip ?_ | refine abl_n ?_ | refine aw_block ?_)
  refine aw_region ?_
  refine ops_op rfl rfl (runs_none rfl) (mv_s (.inr rfl) rfl) ?_
  refine ops_nil ?_
  repeat (first | refine aw_seq ?_ | refine ath_n ?_ | refine aw_skip ?_ | refine abl_n ?_ | refine aw_block ?_)
  refine aw_region ?_
  first | refine ops_op rfl rfl (runs_none rfl) (mv_own (.inl rfl) rfl) ?_ | refine ops_op rfl rfl (runs_none rfl) (mv_sl (.inl rfl) rfl) ?_ | refine ops_op rfl rfl (runs_none rfl) (mv_s (.inl rfl) rfl) ?_ | refine ops_op rfl rfl (runs_none rfl) (mv_emp (.inl rfl) rfl) ?_
  first | refine ops_op rfl rfl (runs_none rfl) (mv_fn (.inl rfl) rfl) ?_ | refine ops_op rfl rfl (runs_none rfl) (mv_s (.inl rfl) rfl) ?_
  refine ops_op rfl rfl (runs_none rfl) (does_call rfl rfl (hi) (evc_cons rfl (evc_cons rfl evc_nil))) ?_
  refine ops_op rfl rfl (runs_none rfl) (does_geq rfl rfl rfl) ?_
  refine ops_op rfl rfl (runs_none rfl) (mv_s (.inr rfl) rfl) ?_
  refine ops_nil ?_
  repeat (first | refine aw_seq ?_ | refine ath_n ?_ | refine aw_skip ?_ | refine abl_n ?_ | refine aw_block ?_)
  (refine aw_ret ?_; repeat (first | refine ath_r ?_ | refine abl_r ?_))
  exact post1 (.inr rfl) rfl (congrArg eB (firstAt_any p l))
end Go.Proofs.Ythdpacbjbdkemaa.Aw
end
section
namespace Go.Proofs.Ythdpacbjbdkemaa.Aw
set_option linter.unusedSimpArgs false
set_option linter.unusedVariables false
open Go.RowKit Go.Proofs
variable {P : Program} [IsP P]

theorem newCx_st {G : Cx} {w' : World} {b o : Nat} (h1 : G.w.heap.size ≤ b) (h2 : b < w'.heap.size) : (newCx G w').St b o := .inr ⟨h1, h2⟩
theorem pure_prog {f : FuncId} {args : List AV} {r : AV} (h : Pure Try.prog f args r) : Pure P f args r := by rw [IsP.eq (P := P)]; exact h
theorem lo_I {k : Nat} {l : List Int} : Lo k (eL eI l) := lo_map fun _ => .s _

/-- the result of firing and its like -/
theorem retI_pure {f : FuncId} {args : List AV} {r : List Int × Int} (he : Ent f) (h : ∀ (G : Cx) (vargs : Array Value), (∀ b o, G.St b o → b < G.w.heap.size) → vargs.size = args.length → (∀ (j : Nat) v x, vargs[j]? = some v → args[j]? = some x → Rep G v x) → Calls Try.prog f vargs G.w (RetI G.w r)) : Pure P f args (.tup [eL eI r.1, eI r.2]) :=
  pure_prog (pure_mk he (.tup _ (lo_cons lo_I (lo_cons (.s _) lo_nil))) fun G vargs hst hsz hrep => (h G vargs hst hsz hrep).mono (by
    rintro e w' ⟨A, c, rfl, hr, hb⟩
    refine ⟨_, rfl, hb, .tup _ _ rfl (fun j v x hv hx => ?_)⟩
    match j, hv, hx with
    | 0, hv, hx => simp at hv hx; subst hv hx; exact rdI_rep (G := newCx G w') hr (fun b o h1 h2 _ => newCx_st h1 h2)
    | 1, hv, hx => simp at hv hx; subst hv hx; exact .s _
    | j + 2, hv, hx => simp at hv))
theorem retB_pure {f : FuncId} {args : List AV} {b : Bool} (he : Ent f) (h : ∀ (G : Cx) (vargs : Array Value), (∀ b o, G.St b o → b < G.w.heap.size) → vargs.size = args.length → (∀ (j : Nat) v x, vargs[j]? = some v → args[j]? = some x → Rep G v x) → Calls Try.prog f vargs G.w fun e w' => e = .returned (.bool b) ∧ Below G.w.heap.size G.w w') : Pure P f args (eB b) :=
  pure_prog (pure_mk he (.s _) fun G vargs hst hsz hrep => (h G vargs hst hsz hrep).mono (by
    rintro e w' ⟨rfl, hb⟩
    exact ⟨_, rfl, hb, .s _⟩))
/-- a net, a list, a number -/
theorem args3 {G : Cx} {vargs : Array Value} {n : Net} {m : List Int} {x : Value} (hst : ∀ b o, G.St b o → b < G.w.heap.size) (hsz : vargs.size = [eN n, eL eI m, .s x].length) (hrep : ∀ (j : Nat) v y, vargs[j]? = some v → [eN n, eL eI m, .s x][j]? = some y → Rep G v y) :
    ∃ vt v, vargs = #[netV n vt, v, x] ∧ RdT G.w 0 G.w.heap.size vt n.trans ∧ RdI G.w 0 G.w.heap.size v m := by
  obtain ⟨l⟩ := vargs
  match l, hsz with
  | [a, b, c], _ =>
    obtain ⟨vt, rfl, h1⟩ := rep_net (hrep 0 a _ rfl rfl) hst
    have h2 := rep_rdI (hrep 1 b _ rfl rfl) hst
    have h3 := rep_s (hrep 2 c _ rfl rfl)
    subst h3
    exact ⟨vt, b, rfl, h1, h2⟩
theorem args2 {G : Cx} {vargs : Array Value} {n : Net} {m : List Int} (hst : ∀ b o, G.St b o → b < G.w.heap.size) (hsz : vargs.size = [eN n, eL eI m].length) (hrep : ∀ (j : Nat) v y, vargs[j]? = some v → [eN n, eL eI m][j]? = some y → Rep G v y) :
    ∃ vt v, vargs = #[netV n vt, v] ∧ RdT G.w 0 G.w.heap.size vt n.trans ∧ RdI G.w 0 G.w.heap.size v m := by
  obtain ⟨l⟩ := vargs
  match l, hsz with
  | [a, b], _ =>
    obtain ⟨vt, rfl, h1⟩ := rep_net (hrep 0 a _ rfl rfl) hst
    exact ⟨vt, b, rfl, h1, rep_rdI (hrep 1 b _ rfl rfl) hst⟩
theorem args1 {G : Cx} {vargs : Array Value} {n : Net} (hst : ∀ b o, G.St b o → b < G.w.heap.size) (hsz : vargs.size = [eN n].length) (hrep : ∀ (j : Nat) v y, vargs[j]? = some v → [eN n][j]? = some y → Rep G v y) :
    ∃ vt, vargs = #[netV n vt] ∧ RdT G.w 0 G.w.heap.size vt n.trans := by
  obtain ⟨l⟩ := vargs
  match l, hsz with
  | [a], _ =>
    obtain ⟨vt, rfl, h1⟩ := rep_net (hrep 0 a _ rfl rfl) hst
    exact ⟨vt, rfl, h1⟩
end Go.Proofs.Ythdpacbjbdkemaa.Aw
end
section
namespace Go.Proofs.Ythdpacbjbdkemaa
set_option linter.unusedSimpArgs false
set_option linter.unusedVariables false
open Go.RowKit

/-- a list, returned: it lies in new memory -/
def RetL (w : World) (l : List Int) (e : Ending) (w' : World) : Prop :=
  ∃ A c, e = .returned (.slice A l.length c) ∧ RdI w' w.heap.size w'.heap.size (.slice A l.length c) l ∧ Below w.heap.size w w'
theorem RetL.mk {w w' : World} {l : List Int} {n k : Nat} {A : Option Addr} (hn : n = l.length) {lo hi : Nat} (hr : RdI w' lo hi (.slice A n k) l) (hlo : w.heap.size ≤ lo) (hhi : hi ≤ w'.heap.size) (hb : Below w.heap.size w w') : RetL w l (.returned (.slice A n k)) w' := by
  subst hn
  exact ⟨A, k, rfl, hr.mono hlo hhi, hb⟩

/-- two lists of one length, equal or not, element by element -/
def eqLs {α : Type} [DecidableEq α] : List α → List α → Bool
  | [], [] => true
  | x :: a, y :: b => if x = y then eqLs a b else false
  | _, _ => false
theorem eqLs_iff {α : Type} [DecidableEq α] : ∀ a b : List α, eqLs a b = decide (a = b)
  | [], [] => rfl
  | [], _ :: _ => by simp [eqLs]
  | _ :: _, [] => by simp [eqLs]
  | x :: a, y :: b => by
    rw [eqLs, eqLs_iff a b]
    by_cases h : x = y <;> simp [h]
theorem eqLs_len {α : Type} [DecidableEq α] {a b : List α} (h : a.length ≠ b.length) : decide (a = b) = false := by
  simp
  intro e
  exact h (by rw [e])

set_option maxHeartbeats 1000000 in
theorem equalI_any (a b : List Int) (lo hi lo2 hi2 : Nat) (v1 v2 : Value) (w : World) (h1 : RdI w lo hi v1 a) (h2 : RdI w lo2 hi2 v2 b) :
    Calls Try.prog 17 #[v1, v2] w fun e w' => e = .returned (.bool (decide (a = b))) ∧ Below w.heap.size w w' := by
  obtain ⟨A1, c1, rfl, hc1, hm1⟩ := h1.form
  obtain ⟨A2, c2, rfl, hc2, hm2⟩ := h2.form
  have H1 := Lib.hid h1
  have H2 := Lib.hid h2
  clear h1 h2
  refine calls_cps fun R hR => ?_
  have HR := Lib.hid hR
  clear hR
  go_enter Try.func17, Try.ntmps17
  by_cases hl : a.length = b.length
  · have hl' : (a.length : Int) = b.length := by omega
    have HL := Lib.hid hl
    clear hl
    go_wp2_with fail
    go_loopw [13, 5] (fun v13 _ wr => ∃ (k q : Nat), k ≤ a.length ∧ v13 = .int .i64 k ∧ wr = w.drewN q ∧ Hid (decide (a = b) = eqLs (a.drop k) (b.drop k))) (fun v13 _ _ => a.length - (intOf v13).toNat)
    case atStart => exact ⟨0, 0, by omega, rfl, rfl, Lib.hid (by rw [← eqLs_iff]; rfl)⟩
    case round =>
      obtain ⟨k, q, hk, rfl, rfl, HI⟩ := hrel
      by_cases hlt : k < a.length
      · have hkd : decide ((k : Int) < (a.length : Int)) = true := by simp; omega
        have hkb : (k : Int) < (a.length : Int) := by omega
        have hkc : (k : Int) < (b.length : Int) := by omega
        obtain ⟨b1, o1, rfl, _, _, f1⟩ := RdI.at1 H1.out hlt
        obtain ⟨b2, o2, rfl, _, _, f2⟩ := RdI.at1 H2.out (k := k) (by have := HL.out; omega)
        have HJ : Hid (decide (a = b) = if gti a k = gti b k then eqLs (a.drop (k + 1)) (b.drop (k + 1)) else false) := Lib.hid (by rw [HI.out, drop_gti hlt, drop_gti (l := b) (k := k) (by have := HL.out; omega), eqLs])
        generalize gti a k = x at *
        generalize gti b k = y at *
        go_wp2
        go_quiet (fail)
        go_wp2
        all_goals have hj := HJ.out
        · refine HR.out _ _ ⟨ret_bool ?_, below_drewN (below_drewN (Below.refl _ _) _) _⟩
          clear HJ HI; go_light; grind
        all_goals first
          | (refine ⟨⟨k + 1, q + nq, by omega, by go_num, by first | rfl | rw [World.drewN_drewN], Lib.hid (by clear HJ HI; go_light; grind)⟩, by simp [intOf]; omega⟩)
      · have hkd : decide ((k : Int) < (a.length : Int)) = false := by simp; omega
        have HE : Hid (decide (a = b) = true) := Lib.hid (by rw [HI.out, List.drop_eq_nil_of_le (by omega), List.drop_eq_nil_of_le (by have := HL.out; omega)]; rfl)
        clear HI
        go_wp2
        exact HR.out _ _ ⟨ret_bool HE.out.symm, below_drewN (Below.refl _ _) _⟩
  · have hl' : ¬ (a.length : Int) = b.length := by omega
    have HL := Lib.hid hl
    clear hl
    go_wp2_with fail
    exact HR.out _ _ ⟨ret_bool (eqLs_len HL.out).symm, Below.refl _ _⟩

end Go.Proofs.Ythdpacbjbdkemaa
end
section
namespace Go.Proofs.Ythdpacbjbdkemaa.Aw
set_option linter.unusedSimpArgs false
set_option linter.unusedVariables false
open Go.RowKit Go.Proofs
variable {P : Program} [IsP P]

/-- two lists of numbers -/
theorem argsII {G : Cx} {vargs : Array Value} {a b : List Int} (hst : ∀ b o, G.St b o → b < G.w.heap.size) (hsz : vargs.size = [eL eI a, eL eI b].length) (hrep : ∀ (j : Nat) v y, vargs[j]? = some v → [eL eI a, eL eI b][j]? = some y → Rep G v y) :
    ∃ x y, vargs = #[x, y] ∧ RdI G.w 0 G.w.heap.size x a ∧ RdI G.w 0 G.w.heap.size y b := by
  obtain ⟨q⟩ := vargs
  match q, hsz with
  | [x, y], _ => exact ⟨x, y, rfl, rep_rdI (hrep 0 x _ rfl rfl) hst, rep_rdI (hrep 1 y _ rfl rfl) hst⟩
theorem eqI_pf (a b : List Int) : Pure P 17 [eL eI a, eL eI b] (eB (decide (a = b))) :=
  retB_pure (ent_of Try.func17 rfl rfl) fun G vargs hst hsz hrep => by
    obtain ⟨x, y, rfl, h1, h2⟩ := argsII hst hsz hrep
    exact equalI_any a b _ _ _ _ x y G.w h1 h2
theorem Fire_pf (n : Net) (m : List Int) (t : Int) : Pure P 24 [eN n, eL eI m, eI t] (.tup [eL eI (FireE n m t).1, eI (FireE n m t).2]) :=
  retI_pure (ent_of Try.func24 rfl rfl) fun G vargs hst hsz hrep => by
    obtain ⟨vt, v, rfl, h1, h2⟩ := args3 hst hsz hrep
    exact Fire_any n m t vt v _ _ _ _ G.w h1 h2
theorem initial_pf (n : Net) : Pure P 75 [eN n] (.tup [eL eI (oneE n n.source).1, eI (oneE n n.source).2]) :=
  retI_pure (ent_of Try.func75 rfl rfl) fun G vargs hst hsz hrep => by
    obtain ⟨vt, rfl, h1⟩ := args1 hst hsz hrep
    exact initial_any n vt _ _ G.w h1
theorem final_pf (n : Net) : Pure P 76 [eN n] (.tup [eL eI (oneE n n.sink).1, eI (oneE n n.sink).2]) :=
  retI_pure (ent_of Try.func76 rfl rfl) fun G vargs hst hsz hrep => by
    obtain ⟨vt, rfl, h1⟩ := args1 hst hsz hrep
    exact final_any n vt _ _ G.w h1
theorem enabled_pf (n : Net) (m : List Int) : Pure P 23 [eN n, eL eI m] (.tup [eL eI (enabledE n m).1, eI (enabledE n m).2]) :=
  retI_pure (ent_of Try.func23 rfl rfl) fun G vargs hst hsz hrep => by
    obtain ⟨vt, v, rfl, h1, h2⟩ := args2 hst hsz hrep
    exact Enabled_any n m vt v _ _ _ _ G.w h1 h2
end Go.Proofs.Ythdpacbjbdkemaa.Aw
end
section
namespace Go.Proofs.Ythdpacbjbdkemaa.Aw
set_option linter.unusedSimpArgs false
set_option linter.unusedVariables false
set_option linter.unusedSectionVars false
open Go Go.RowKit Go.Proofs Go.Maps Go.WideMaps
variable {P : Program} [IsP P]

theorem take_snoc {α : Type} [Inhabited α] {l : List α} {k : Nat} (h : k < l.length) : l.take (k + 1) = l.take k ++ [gti l k] := by
  rw [List.take_add_one, gti_get h]; rfl
def keyS (m : List Int) : ByteArray := ⟨(keyL m).toArray⟩
theorem keyS_size (m : List Int) : (keyS m).size = 2 * m.length := by
  have := keyL_len m
  simp [keyS, ByteArray.size, this]
def xsL (m : List Int) : List Int := m.flatMap fun n => [n, 0]
theorem xsL_snoc (m : List Int) (n : Int) : xsL (m ++ [n]) = xsL m ++ [n, 0] := by simp [xsL]
theorem xsL_len (m : List Int) : (xsL m).length = 2 * m.length := by
  induction m with
  | nil => rfl
  | cons a m ih =>
    have : xsL (a :: m) = [a, 0] ++ xsL m := rfl
    rw [this, List.length_append, ih]
    simp; omega
theorem bytesS_xs (m : List Int) : bytesS (xsL m) = keyS m := by
  have : (xsL m).map (fun n => UInt8.ofNat n.toNat) = keyL m := by
    unfold xsL keyL
    rw [List.map_flatMap]
    rfl
  unfold bytesS keyS
  rw [this]
theorem wrap_u8 {n : Int} (h0 : 0 ≤ n) (h1 : n ≤ 255) : IntKind.u8.wrap n = n := IntWalk.u8_in n (by omega)
theorem shr8 {n : Int} (h0 : 0 ≤ n) (h1 : n ≤ 255) : n.fdiv (2 ^ min (8 : Int).toNat IntKind.i64.bits) = 0 := by
  have e : (2 : Int) ^ min (8 : Int).toNat IntKind.i64.bits = 256 := by decide
  rw [e]
  obtain ⟨k, rfl⟩ : ∃ k : Nat, n = k := ⟨n.toNat, by omega⟩
  have : (k : Int).fdiv 256 = ((k / 256 : Nat) : Int) := by
    rw [Int.fdiv_eq_ediv_of_nonneg _ (by omega)]; rfl
  rw [this, Nat.div_eq_of_lt (by omega)]; rfl
theorem lo_U (l : List Int) : ∀ e ∈ l.map eU, ∀ c ∈ e.cells, Lo 0 c := by
  intro e he c hc
  obtain ⟨x, _, rfl⟩ := List.mem_map.1 he
  simp [eU, AV.cells] at hc; subst hc; exact .s _
theorem key_pf (m : List Int) (hm : ∀ x ∈ m, 0 ≤ x ∧ x ≤ 255) (hl : m.length ≤ 40) : Pure P 33 [eL eI m] (eS (keyS m)) := by
  refine aw_fn (by rw [IsP.eq (P := P)]; exact Try.func33) rfl rfl rfl rfl rfl (by repeat' (first | exact Lo.s _ | exact Lo.emp | exact Lo.any | exact lo_nil | exact lo_nilE | refine lo_cons ?_ ?_ | refine lo_consE ?_ ?_ | refine lo_map ?_ | refine lo_mapE ?_ | refine Lo.cells ?_ | refine Lo.agg _ ?_ | refine Lo.ref _ ?_ | refine Lo.tup _ ?_ | refine Lo.fn _ _ ?_ | refine Lo.sl _ ?_ | intro _)) (by repeat' (first | exact Lo.s _ | exact Lo.emp | exact Lo.any | exact lo_nil | exact lo_nilE | refine lo_cons ?_ ?_ | refine lo_consE ?_ ?_ | refine lo_map ?_ | refine lo_mapE ?_ | refine Lo.cells ?_ | refine Lo.agg _ ?_ | refine Lo.ref _ ?_ | refine Lo.tup _ ?_ | refine Lo.fn _ _ ?_ | refine Lo.sl _ ?_ | intro _)) (by simp only [argF]; rfl) ?_
  repeat (first | refine aw_seq ?_ | refine ath_n ?_ | refine aw_skip ?_ | refine abl_n ?_ | refine aw_block ?_)
  refine aw_region ?_
  refine ops_op rfl rfl (runs_none rfl) (mv_s (.inr rfl) rfl) ?_
  refine ops_nil ?_
  repeat (first | refine aw_seq ?_ | refine ath_n ?_ | refine aw_skip ?_ | refine abl_n ?_ | refine aw_block ?_)
  refine aw_region ?_
  first | refine ops_op rfl rfl (runs_none rfl) (mv_own (.inl rfl) rfl) ?_ | refine ops_op rfl rfl (runs_none rfl) (mv_sl (.inl rfl) rfl) ?_ | refine ops_op rfl rfl (runs_none rfl) (mv_s (.inl rfl) rfl) ?_ | refine ops_op rfl rfl (runs_none rfl) (mv_emp (.inl rfl) rfl) ?_
  first | refine ops_op rfl rfl (runs_none rfl) (does_len_map rfl ts25 rfl) ?_ | refine ops_op rfl rfl (runs_none rfl) (does_len_sl rfl ts25 rfl) ?_ | refine ops_op rfl rfl (runs_none rfl) (does_len_own rfl ts25 rfl) ?_ | refine ops_op rfl rfl (runs_none rfl) (does_len_s rfl ts25 rfl) ?_ | refine ops_op rfl rfl (runs_none rfl) (does_len_emp rfl ts25 rfl) ?_
  refine ops_op rfl rfl (runs_none rfl) (does_mul rfl rfl rfl (IntWalk.i64_in _ (by omega))) ?_
  refine ops_op rfl rfl (runs_none rfl) (does_make (l := 0) (c := 2 * m.length) rfl ts105 ti5 rfl rfl (by decide) rfl rfl rfl (by simp) (by omega) (by omega) (by omega)) ?_
  first | refine ops_op rfl rfl (runs_none rfl) (mv_own (.inr rfl) rfl) ?_ | refine ops_op rfl rfl (runs_none rfl) (mv_sl (.inr rfl) rfl) ?_ | refine ops_op rfl rfl (runs_none rfl) (mv_s (.inr rfl) rfl) ?_ | refine ops_op rfl rfl (runs_none rfl) (mv_emp (.inr rfl) rfl) ?_
  refine ops_nil ?_
  repeat (first | refine aw_seq ?_ | refine ath_n ?_ | refine aw_skip ?_ | refine abl_n ?_ | refine aw_block ?_)
  refine aw_region ?_
  first | refine ops_op rfl rfl (runs_none rfl) (mv_own (.inl rfl) rfl) ?_ | refine ops_op rfl rfl (runs_none rfl) (mv_sl (.inl rfl) rfl) ?_ | refine ops_op rfl rfl (runs_none rfl) (mv_s (.inl rfl) rfl) ?_ | refine ops_op rfl rfl (runs_none rfl) (mv_emp (.inl rfl) rfl) ?_
  first | refine ops_op rfl rfl (runs_none rfl) (does_len_map rfl ts25 rfl) ?_ | refine ops_op rfl rfl (runs_none rfl) (does_len_sl rfl ts25 rfl) ?_ | refine ops_op rfl rfl (runs_none rfl) (does_len_own rfl ts25 rfl) ?_ | refine ops_op rfl rfl (runs_none rfl) (does_len_s rfl ts25 rfl) ?_ | refine ops_op rfl rfl (runs_none rfl) (does_len_emp rfl ts25 rfl) ?_
  refine ops_op rfl rfl (runs_none rfl) (mv_s (.inl rfl) rfl) ?_
  refine ops_nil ?_
  repeat (first | refine aw_seq ?_ | refine ath_n ?_ | refine aw_skip ?_ | refine abl_n ?_ | refine aw_block ?_)
  refine aw_loops (S := Nat) (fun k => [(10, eL eI m), (11, eI m.length), (12, eI k), (3, .own 0 1 (2 * k))]) (fun k => [.row 1 ((xsL (m.take k)).map eU)]) (fun k => k ≤ m.length) (fun k => m.length - k) 0 (wk_st [0] (by decide) ⟨⟨_, rfl, .rowE (lo_U _) rfl⟩, trivial⟩ ⟨.lo _ (by repeat' (first | exact Lo.s _ | exact Lo.emp | exact Lo.any | exact lo_nil | exact lo_nilE | refine lo_cons ?_ ?_ | refine lo_consE ?_ ?_ | refine lo_map ?_ | refine lo_mapE ?_ | refine Lo.cells ?_ | refine Lo.agg _ ?_ | refine Lo.ref _ ?_ | refine Lo.tup _ ?_ | refine Lo.fn _ _ ?_ | refine Lo.sl _ ?_ | intro _)), .lo _ (by repeat' (first | exact Lo.s _ | exact Lo.emp | exact Lo.any | exact lo_nil | exact lo_nilE | refine lo_cons ?_ ?_ | refine lo_consE ?_ ?_ | refine lo_map ?_ | refine lo_mapE ?_ | refine Lo.cells ?_ | refine Lo.agg _ ?_ | refine Lo.ref _ ?_ | refine Lo.tup _ ?_ | refine Lo.fn _ _ ?_ | refine Lo.sl _ ?_ | intro _)), .lo _ (by repeat' (first | exact Lo.s _ | exact Lo.emp | exact Lo.any | exact lo_nil | exact lo_nilE | refine lo_cons ?_ ?_ | refine lo_consE ?_ ?_ | refine lo_map ?_ | refine lo_mapE ?_ | refine Lo.cells ?_ | refine Lo.agg _ ?_ | refine Lo.ref _ ?_ | refine Lo.tup _ ?_ | refine Lo.fn _ _ ?_ | refine Lo.sl _ ?_ | intro _)), .own 0 0 1 _ _ rfl rfl, trivial⟩) (Nat.zero_le _) (fun k hk => ?_)
  repeat (first | refine aw_seq ?_ | refine ath_n ?_ | refine aw_skip ?_ | refine abl_n ?_ | refine aw_block ?_)
  all_goals refine aw_region ?_
  all_goals (first | refine ops_opP rfl rfl (runs_none rfl) (does_lss rfl rfl rfl) (fun h13 => ?_) (fun h13 => ?_) | refine ops_opB rfl rfl (runs_none rfl) (does_lss rfl rfl rfl) (fun h13 => ?_) (fun h13 => ?_))
  all_goals refine ops_nil ?_
  all_goals (repeat (first | refine aw_seq ?_ | refine ath_n ?_ | refine aw_skip ?_ | refine abl_n ?_ | refine aw_block ?_))
  all_goals (first | refine aw_true rfl ?_ | refine aw_false rfl ?_)
  all_goals (repeat (first | refine aw_seq ?_ | refine ath_n ?_ | refine aw_skip ?_ | refine abl_n ?_ | refine aw_block ?_))
  · have hlt : k < m.length := by omega
    obtain ⟨hx0, hx1⟩ := hm (gti m k) (gti_mem hlt)
    have hw1 := wrap_u8 hx0 hx1
    have hw2 := shr8 hx0 hx1
    have hxl2 : (xsL (m.take k)).length = 2 * k := by rw [xsL_len, List.length_take]; omega
    have hxl : ((xsL (m.take k)).map eU).length = 2 * k := by rw [List.length_map, hxl2]
    have hrow : (xsL (m.take (k + 1))).map eU = (xsL (m.take k)).map eU ++ [eU (gti m k), eU 0] := by
      rw [take_snoc hlt, xsL_snoc, List.map_append]; rfl
    refine aw_region ?_
    first | refine ops_op rfl rfl (runs_none rfl) (does_index_sl rfl ts25 ti3 rfl rfl rfl (ix_map (by omega)) rfl) ?_ | refine ops_op rfl rfl (runs_none rfl) (does_index_own rfl ts25 ti3 rfl rfl rfl (by omega)) ?_
    first | refine ops_op rfl rfl (runs_none rfl) (does_load_ref rfl ta3 rfl) ?_ | refine ops_op rfl rfl (runs_none rfl) (does_load_ptr rfl ta3 rfl rfl rfl rfl rfl) ?_
    refine ops_op rfl rfl (runs_none rfl) (mv_s (.inr rfl) rfl) ?_
    refine ops_nil ?_
    repeat (first | refine aw_seq ?_ | refine ath_n ?_ | refine aw_skip ?_ | refine abl_n ?_ | refine aw_block ?_)
    refine aw_region ?_
    first | refine ops_op rfl rfl (runs_none rfl) (mv_own (.inl rfl) rfl) ?_ | refine ops_op rfl rfl (runs_none rfl) (mv_sl (.inl rfl) rfl) ?_ | refine ops_op rfl rfl (runs_none rfl) (mv_s (.inl rfl) rfl) ?_ | refine ops_op rfl rfl (runs_none rfl) (mv_emp (.inl rfl) rfl) ?_
    refine ops_op rfl rfl (runs_none rfl) (mv_s (.inl rfl) rfl) ?_
    refine ops_op rfl rfl (runs_none rfl) (does_conv rfl tu3 tk5 rfl hw1) ?_
    refine ops_op rfl rfl (runs_none rfl) (mv_s (.inl rfl) rfl) ?_
    refine ops_op rfl rfl (runs_none rfl) (does_shift rfl rfl rfl (by decide) (.inl ⟨rfl, hw2⟩)) ?_
    refine ops_op rfl rfl (runs_none rfl) (does_conv rfl tu3 tk5 rfl rfl) ?_
    refine ops_op rfl rfl (runs_none rfl) (does_lit rfl ts105 ti5 rfl rfl (by decide) (by decide) (by decide) rfl rfl) ?_
    refine aops_weak (σ' := [.row 1 ((xsL (m.take k)).map eU), .row 1 [eU (gti m k), eU 0]]) (wk_sub [(10, eL eI m), (11, eI m.length), (12, eI k), (16, .own 0 1 (2 * k)), (22, .own 1 1 2)] ⟨rfl, rfl, rfl, rfl, rfl, trivial⟩) ?_
    first | refine ops_op rfl rfl (runs_none rfl) (does_append rfl ts105 ti5 rfl (by decide) rfl rfl (by first | rfl | (simp; done) | (simp; omega)) rfl (by first | exact .own _ _ _ rfl rfl _ (by first | rfl | simp) | exact .emp | exact .nil | exact .sl _ (by first | simp; done | intro e he; simp at he; obtain ⟨_, _, rfl⟩ := he; rfl)) (by first | omega | (simp; omega) | (unfold maxLen; simp; omega)) (by first | omega | (simp; omega) | (unfold maxLen; simp; omega))) ?_ | refine ops_op rfl rfl (runs_none rfl) (does_append0 rfl ts105 ti5 rfl (by decide) rfl (.inl rfl) rfl (by first | exact .own _ _ _ rfl rfl _ (by first | rfl | simp) | exact .emp | exact .nil | exact .sl _ (by first | simp; done | intro e he; simp at he; obtain ⟨_, _, rfl⟩ := he; rfl)) (by first | omega | (simp; omega) | (unfold maxLen; simp; omega)) (by first | omega | (simp; omega) | (unfold maxLen; simp; omega))) ?_ | refine ops_op rfl rfl (runs_none rfl) (does_append0 rfl ts105 ti5 rfl (by decide) rfl (.inr rfl) rfl (by first | exact .own _ _ _ rfl rfl _ (by first | rfl | simp) | exact .emp | exact .nil | exact .sl _ (by first | simp; done | intro e he; simp at he; obtain ⟨_, _, rfl⟩ := he; rfl)) (by first | omega | (simp; omega) | (unfold maxLen; simp; omega)) (by first | omega | (simp; omega) | (unfold maxLen; simp; omega))) ?_
    first | refine ops_op rfl rfl (runs_none rfl) (mv_own (.inr rfl) rfl) ?_ | refine ops_op rfl rfl (runs_none rfl) (mv_sl (.inr rfl) rfl) ?_ | refine ops_op rfl rfl (runs_none rfl) (mv_s (.inr rfl) rfl) ?_ | refine ops_op rfl rfl (runs_none rfl) (mv_emp (.inr rfl) rfl) ?_
    refine ops_nil ?_
    repeat (first | refine aw_seq ?_ | refine ath_n ?_ | refine aw_skip ?_ | refine abl_n ?_ | refine aw_block ?_)
    refine aw_region ?_
    refine ops_op rfl rfl (runs_none rfl) (does_add rfl rfl rfl (IntWalk.i64_in _ (by omega))) ?_
    refine ops_op rfl rfl (runs_none rfl) (mv_s (.inl rfl) rfl) ?_
    refine ops_nil ?_
    repeat (first | refine aw_seq ?_ | refine ath_n ?_ | refine aw_skip ?_ | refine abl_n ?_ | refine aw_block ?_)
    exact ⟨k + 1, by omega, by omega, wk_st [2] (by decide) ⟨⟨_, rfl, .rowE (lo_U _) hrow.symm⟩, trivial⟩ ⟨.lo _ (by repeat' (first | exact Lo.s _ | exact Lo.emp | exact Lo.any | exact lo_nil | exact lo_nilE | refine lo_cons ?_ ?_ | refine lo_consE ?_ ?_ | refine lo_map ?_ | refine lo_mapE ?_ | refine Lo.cells ?_ | refine Lo.agg _ ?_ | refine Lo.ref _ ?_ | refine Lo.tup _ ?_ | refine Lo.fn _ _ ?_ | refine Lo.sl _ ?_ | intro _)), .lo _ (by repeat' (first | exact Lo.s _ | exact Lo.emp | exact Lo.any | exact lo_nil | exact lo_nilE | refine lo_cons ?_ ?_ | refine lo_consE ?_ ?_ | refine lo_map ?_ | refine lo_mapE ?_ | refine Lo.cells ?_ | refine Lo.agg _ ?_ | refine Lo.ref _ ?_ | refine Lo.tup _ ?_ | refine Lo.fn _ _ ?_ | refine Lo.sl _ ?_ | intro _)), .lo _ (by repeat' (first | exact Lo.s _ | exact Lo.emp | exact Lo.any | exact lo_nil | exact lo_nilE | refine lo_cons ?_ ?_ | refine lo_consE ?_ ?_ | refine lo_map ?_ | refine lo_mapE ?_ | refine Lo.cells ?_ | refine Lo.agg _ ?_ | refine Lo.ref _ ?_ | refine Lo.tup _ ?_ | refine Lo.fn _ _ ?_ | refine Lo.sl _ ?_ | intro _)), .own 2 0 1 _ _ rfl (by simp [hxl]; omega), trivial⟩⟩
  · have e : k = m.length := by omega
    subst e
    rw [List.take_length]
    (refine aw_exit ?_; repeat (first | refine ath_x ?_ | refine abl_hit ?_ | refine abl_miss rfl ?_ | refine abl_n ?_ | refine ath_n ?_ | refine aw_seq ?_ | refine aw_skip ?_ | refine aw_block ?_))
    refine aw_region ?_
    first | refine ops_op rfl rfl (runs_none rfl) (mv_own (.inl rfl) rfl) ?_ | refine ops_op rfl rfl (runs_none rfl) (mv_sl (.inl rfl) rfl) ?_ | refine ops_op rfl rfl (runs_none rfl) (mv_s (.inl rfl) rfl) ?_ | refine ops_op rfl rfl (runs_none rfl) (mv_emp (.inl rfl) rfl) ?_
    refine ops_op rfl rfl (runs_none rfl) (does_bstr rfl ts105 tk5 tg9 rfl (.own _ _ _ rfl rfl _ (by rw [List.length_map, xsL_len]))) ?_
    refine ops_op rfl rfl (runs_none rfl) (mv_s (.inr rfl) rfl) ?_
    refine ops_nil ?_
    repeat (first | refine aw_seq ?_ | refine ath_n ?_ | refine aw_skip ?_ | refine abl_n ?_ | refine aw_block ?_)
    (refine aw_ret ?_; repeat (first | refine ath_r ?_ | refine abl_r ?_))
    exact post1 (.inr rfl) rfl (congrArg eS (bytesS_xs m))
theorem cloneI_pf (l : List Int) (h : l.length ≤ 50) (hn : 1 ≤ l.length) : Pure P 32 [eL eI l] (eL eI l) := by
  have hnn : NonNil (eL eI l) := by
    cases l with
    | nil => simp at hn
    | cons a t => exact .sl _ _
  refine aw_fn (by rw [IsP.eq (P := P)]; exact Try.func32) rfl rfl rfl rfl rfl (by repeat' (first | exact Lo.s _ | exact Lo.emp | exact Lo.any | exact lo_nil | exact lo_nilE | refine lo_cons ?_ ?_ | refine lo_consE ?_ ?_ | refine lo_map ?_ | refine lo_mapE ?_ | refine Lo.cells ?_ | refine Lo.agg _ ?_ | refine Lo.ref _ ?_ | refine Lo.tup _ ?_ | refine Lo.fn _ _ ?_ | refine Lo.sl _ ?_ | intro _)) (by repeat' (first | exact Lo.s _ | exact Lo.emp | exact Lo.any | exact lo_nil | exact lo_nilE | refine lo_cons ?_ ?_ | refine lo_consE ?_ ?_ | refine lo_map ?_ | refine lo_mapE ?_ | refine Lo.cells ?_ | refine Lo.agg _ ?_ | refine Lo.ref _ ?_ | refine Lo.tup _ ?_ | refine Lo.fn _ _ ?_ | refine Lo.sl _ ?_ | intro _)) (by simp only [argF]; rfl) ?_
  repeat (first | refine aw_seq ?_ | refine ath_n ?_ | refine aw_skip ?_ | refine abl_n ?_ | refine aw_block ?_)
  refine aw_region ?_
  first | refine ops_op rfl rfl (runs_none rfl) (mv_own (.inr rfl) rfl) ?_ | refine ops_op rfl rfl (runs_none rfl) (mv_sl (.inr rfl) rfl) ?_ | refine ops_op rfl rfl (runs_none rfl) (mv_s (.inr rfl) rfl) ?_ | refine ops_op rfl rfl (runs_none rfl) (mv_emp (.inr rfl) rfl) ?_
  refine ops_nil ?_
  repeat (first | refine aw_seq ?_ | refine ath_n ?_ | refine aw_skip ?_ | refine abl_n ?_ | refine aw_block ?_)
  refine aw_region ?_
  refine ops_op rfl rfl (runs_none rfl) (mv_sl (.inl rfl) rfl) ?_
  refine ops_op rfl rfl (runs_none rfl) (does_eqnil rfl ts25 rfl hnn rfl (.inl ⟨rfl, rfl⟩)) ?_
  refine ops_nil ?_
  repeat (first | refine aw_seq ?_ | refine ath_n ?_ | refine aw_skip ?_ | refine abl_n ?_ | refine aw_block ?_)
  refine aw_false rfl ?_
  repeat (first | refine aw_seq ?_ | refine ath_n ?_ | refine aw_skip ?_ | refine abl_n ?_ | refine aw_block ?_)
  refine aw_region ?_
  refine ops_op rfl rfl (runs_none rfl) (does_lit0 rfl rfl ts25 ti3) ?_
  first | refine ops_op rfl rfl (runs_none rfl) (mv_own (.inl rfl) rfl) ?_ | refine ops_op rfl rfl (runs_none rfl) (mv_sl (.inl rfl) rfl) ?_ | refine ops_op rfl rfl (runs_none rfl) (mv_s (.inl rfl) rfl) ?_ | refine ops_op rfl rfl (runs_none rfl) (mv_emp (.inl rfl) rfl) ?_
  first | refine ops_op rfl rfl (runs_none rfl) (does_append rfl ts25 ti3 rfl (by decide) rfl rfl (by first | rfl | (simp; done) | (simp; omega)) rfl (by first | exact .own _ _ _ rfl rfl _ (by first | rfl | simp) | exact .emp | exact .nil | exact .sl _ (by first | simp; done | intro e he; simp at he; obtain ⟨_, _, rfl⟩ := he; rfl)) (by first | omega | (simp; omega) | (unfold maxLen; simp; omega)) (by first | omega | (simp; omega) | (unfold maxLen; simp; omega))) ?_ | refine ops_op rfl rfl (runs_none rfl) (does_append0 rfl ts25 ti3 rfl (by decide) rfl (.inl rfl) rfl (by first | exact .own _ _ _ rfl rfl _ (by first | rfl | simp) | exact .emp | exact .nil | exact .sl _ (by first | simp; done | intro e he; simp at he; obtain ⟨_, _, rfl⟩ := he; rfl)) (by first | omega | (simp; omega) | (unfold maxLen; simp; omega)) (by first | omega | (simp; omega) | (unfold maxLen; simp; omega))) ?_ | refine ops_op rfl rfl (runs_none rfl) (does_append0 rfl ts25 ti3 rfl (by decide) rfl (.inr rfl) rfl (by first | exact .own _ _ _ rfl rfl _ (by first | rfl | simp) | exact .emp | exact .nil | exact .sl _ (by first | simp; done | intro e he; simp at he; obtain ⟨_, _, rfl⟩ := he; rfl)) (by first | omega | (simp; omega) | (unfold maxLen; simp; omega)) (by first | omega | (simp; omega) | (unfold maxLen; simp; omega))) ?_
  first | refine ops_op rfl rfl (runs_none rfl) (mv_own (.inr rfl) rfl) ?_ | refine ops_op rfl rfl (runs_none rfl) (mv_sl (.inr rfl) rfl) ?_ | refine ops_op rfl rfl (runs_none rfl) (mv_s (.inr rfl) rfl) ?_ | refine ops_op rfl rfl (runs_none rfl) (mv_emp (.inr rfl) rfl) ?_
  refine ops_nil ?_
  repeat (first | refine aw_seq ?_ | refine ath_n ?_ | refine aw_skip ?_ | refine abl_n ?_ | refine aw_block ?_)
  (refine aw_ret ?_; repeat (first | refine ath_r ?_ | refine abl_r ?_))
  exact post1f (.inr rfl) rfl (.own _ _ _ _ _ rfl rfl (by simp))
end Go.Proofs.Ythdpacbjbdkemaa.Aw
end
section
namespace Go.Proofs.Ythdpacbjbdkemaa.Aw
set_option linter.unusedSimpArgs false
set_option linter.unusedVariables false
open Go.RowKit
def RnL (ρ : List Nat) (l l' : List AV) : Prop := l.length = l'.length ∧ ∀ (j : Nat) x y, l[j]? = some x → l'[j]? = some y → Rn ρ x y
theorem RnL.nil {ρ : List Nat} : RnL ρ [] [] := ⟨rfl, by simp⟩
theorem RnL.cons {ρ : List Nat} {x y : AV} {l l' : List AV} (h : Rn ρ x y) (t : RnL ρ l l') : RnL ρ (x :: l) (y :: l') := by
  refine ⟨by simp [t.1], fun j a b ha hb => ?_⟩
  cases j with
  | zero => simp at ha hb; subst ha hb; exact h
  | succ j => exact t.2 j a b (by simpa using ha) (by simpa using hb)
/-- a struct of the call's own that names rows of the call's own -/
theorem obRn_agg {ρ : List Nat} {sz : Nat} {cs cs' : List AV} (h : RnL ρ cs cs') : ObRn ρ (.row sz [.agg cs]) (.row sz [.agg cs']) := .rowR sz _ _ (.agg cs cs' h.1 h.2) h.2 h.1
section
variable {N : Nat} {F F' : Frm} {σ σ' : List Ob}
/-- a row is read in another way -/
theorem reread_rel {G : Cx} {id sz : Nat} {cs cs' : List AV} (hr : Rel G σ) (hs : σ[id]? = some (.row sz cs)) (h0 : cs = [] → cs' = []) (h : ∀ b f, RowAt G b sz cs f → RowAt G b sz cs' f) : Rel G (σ.set id (.row sz cs')) := by
  have hid : id < σ.length := (List.getElem?_eq_some_iff.1 hs).1
  refine ⟨hr.below, hr.le, hr.st, fun i ob hob => ?_, fun i j b hi hj hm hm' => ?_, fun i hi => hr.fresh i (by simpa using hi)⟩
  · by_cases hi : id = i
    · subst hi
      rw [List.getElem?_set_self hid] at hob
      cases hob
      have h1 := hr.obs id _ hs
      simp only [ObOk] at h1 ⊢
      cases hx : G.mu id with
      | none => rw [hx] at h1; exact h1
      | some x =>
        rw [hx] at h1
        cases x with
        | none => exact h0 h1
        | some b => exact ⟨h b _ h1.1, h1.2⟩
    · rw [List.getElem?_set_ne hi] at hob; exact hr.obs i ob hob
  · have old : ∀ i, alive (σ.set id (.row sz cs')) i → alive σ i := by
      rintro i ⟨sz1, cs1, hi⟩
      by_cases h2 : id = i
      · subst h2; exact ⟨sz, cs, hs⟩
      · rw [List.getElem?_set_ne h2] at hi; exact ⟨sz1, cs1, hi⟩
    exact hr.inj i j b (old i hi) (old j hj) hm hm'
/-- nil in a struct of the call's own, as an empty row of the call's own -/
theorem wk_ownC {id sz sz2 : Nat} {e e' : AV} {pre post : List AV} (hs : σ[id]? = some (.row sz [e])) (h1 : e.cells = pre ++ .s (.slice none 0 0) :: post) (h2 : e'.cells = pre ++ .own σ.length sz2 0 :: post) :
    Weak N F σ F (σ.set id (.row sz [e']) ++ [.row sz2 []]) := fun G a h => by
  have he := nil_ext h.rel
  have hr := nil_rel h.rel sz2
  have hid : id < σ.length := (List.getElem?_eq_some_iff.1 hs).1
  refine ⟨G.new σ.length G.w none, rfl, he.step, ?_, h.fr.ext he, h.df, h.nt⟩
  have hset : σ.set id (Ob.row sz [e']) ++ [Ob.row sz2 []] = (σ ++ [Ob.row sz2 []]).set id (Ob.row sz [e']) := by rw [List.set_append_left _ _ hid]
  rw [hset]
  refine reread_rel hr (by rw [List.getElem?_append_left hid]; exact hs) (fun h => by cases h) ?_
  rintro b f ⟨cur, t, fr, g1, g2, g3, g4⟩
  refine ⟨cur, t, fr, g1, g2, g3, fun k y hy => ?_⟩
  cases k with
  | succ k => simp at hy
  | zero =>
    simp at hy
    subst hy
    obtain ⟨k1, k2, k3⟩ := g4 0 e rfl
    rw [h1] at k1 k2 k3
    rw [h2]
    refine ⟨by simpa using k1, fun c hc => ?_, fun j c hc => ?_⟩
    · simp only [List.mem_append, List.mem_cons] at hc
      rcases hc with hc | rfl | hc
      · exact k2 c (by simp [hc])
      · rfl
      · exact k2 c (by simp [hc])
    · by_cases hj : j = pre.length
      · subst hj
        simp at hc
        subst hc
        obtain ⟨v, h6, h7⟩ := k3 pre.length (.s (.slice none 0 0)) (by simp)
        refine ⟨v, h6, ?_⟩
        cases h7
        exact .own0 σ.length sz2 none (fun a ha => by cases ha) (by simp [Cx.new])
      · have e : (pre ++ AV.s (.slice none 0 0) :: post)[j]? = some c := by
          rw [← hc]
          by_cases hlt : j < pre.length
          · rw [List.getElem?_append_left hlt, List.getElem?_append_left hlt]
          · rw [List.getElem?_append_right (by omega), List.getElem?_append_right (by omega)]
            obtain ⟨i, hi⟩ : ∃ i, j - pre.length = i + 1 := ⟨j - pre.length - 1, by omega⟩
            rw [hi]; rfl
        exact k3 j c e
end
section
variable {P : Program} {o : Oper} {F : Frm} {σ : List Ob}
/-- a new row that is finished at once -/
theorem does_fin {sz n : Nat} {l : List AV} (h : Does P o F [] (.own 0 sz n) [.row sz l]) (hn : n = l.length) (hop0 : ∀ y ∈ o.op.operands, Lo 0 (F.eval y)) (hlo : Lo 0 (.sl l)) : Does P o F σ (.sl l) σ := by
  intro G a next Q hr hop hk
  obtain ⟨G0, hG0⟩ : ∃ G0 : Cx, G0 = { base := G.w.heap.size, w0 := G.w, w := G.w, mu := fun _ => none, St := G.St } := ⟨_, rfl⟩
  have hr0 : Rel G0 [] := by
    subst hG0
    exact ⟨Below.refl _ _, Nat.le_refl _, hr.st, fun id ob h => by simp at h, fun i j b hi _ _ _ => by obtain ⟨_, _, h⟩ := hi; simp at h, fun _ _ => rfl⟩
  have hw : G.w = G0.w := by subst hG0; rfl
  rw [hw]
  refine h G0 a next Q hr0 (fun y hy => (hop y hy).low (hop0 y hy) (by subst hG0; exact fun _ _ h => h) (by subst hG0; exact fun _ _ _ => rfl) (fun id y h => by omega) (fun h => by omega)) (fun v G1 he hr1 hrep => ?_)
  obtain ⟨he2, hr2⟩ := froz_ok hr1 (id := 0) (sz := sz) (cs := l) rfl
  have hrep2 := rep_fz hr2 (id := 0) (sz := sz) (cs := l) rfl hn (hrep.ext he2)
  have hb0 : G1.base = G.w.heap.size := by rw [he.base]; subst hG0; rfl
  have hw0 : (G1.froz 0).w0 = G.w := by show G1.w0 = _; rw [he.w0]; subst hG0; rfl
  have hbel : Below G.w.heap.size G.w (G1.froz 0).w := by have := hr2.below; rwa [show (G1.froz 0).base = G.w.heap.size from hb0, hw0] at this
  have hSt : G0.St = G.St := by subst hG0; rfl
  obtain ⟨h4, h5⟩ := after_call (G1 := G1.froz 0) hr rfl hbel (fun b o h => he2.st _ _ (he.st _ _ (by rw [hSt]; exact h))) (fun b o h => by
    rcases he2.stN b o h with h1 | h1
    · rcases he.stN b o h1 with h2 | h2
      · rw [hSt] at h2; exact .inl h2
      · right; have e : G0.base = G.w.heap.size := by subst hG0; rfl
        omega
    · right; omega) hr2.st
  exact hk v { G with w := (G1.froz 0).w, St := (G1.froz 0).St } h4 h5 (hrep2.low hlo (fun _ _ h => h) (fun _ _ _ => rfl) (fun id y h => by omega) (fun h => by omega))
theorem lit1_sF {t e : TypeId} {y : Operand} {z : Value} {bt : Nat} {v : Value} (ho : o.op = .buildSlice t 1 #[(0, y)]) (ht : tySlice P t = some e) (hi : tyInfo P e = some (some z, 1, bt))
    (h1 : (ofValue z).cells.all AV.one = true) (hn : (ofValue z).cells.length = 1) (hy : F.eval y = .s v) (hx : (AV.s v).one = true) : Does P o F σ (.sl [.s v]) σ :=
  does_fin (lit1_s ho ht hi h1 hn hy hx) rfl (fun u hu => by simp [ho, Op.operands] at hu; subst hu; rw [hy]; exact .s _) (.sl _ (lo_cons (.s _) lo_nil))
theorem lit1_slF {t e : TypeId} {y : Operand} {z : Value} {bt : Nat} {l : List AV} (ho : o.op = .buildSlice t 1 #[(0, y)]) (ht : tySlice P t = some e) (hi : tyInfo P e = some (some z, 1, bt))
    (h1 : (ofValue z).cells.all AV.one = true) (hn : (ofValue z).cells.length = 1) (hy : F.eval y = .sl l) (hx : (AV.sl l).one = true) (hl : Lo 0 (.sl l)) : Does P o F σ (.sl [.sl l]) σ :=
  does_fin (lit1_sl ho ht hi h1 hn hy hx) rfl (fun u hu => by simp [ho, Op.operands] at hu; subst hu; rw [hy]; exact hl) (.sl _ (lo_cons hl lo_nil))
theorem does_litAF {t e : TypeId} {y : Operand} {z : Value} {n bt : Nat} {cs : List AV} (ho : o.op = .buildSlice t 1 #[(0, y)]) (ht : tySlice P t = some e) (hi : tyInfo P e = some (some z, n, bt))
    (h1 : (ofValue z).cells.all AV.one = true) (hn : (ofValue z).cells.length = n) (h2 : 2 ≤ n) (hsm : n ≤ 16777216) (hy : F.eval y = .agg cs) (hx : cs.all AV.one = true) (hl : cs.length = n) (hlo : Lo 0 (.agg cs)) : Does P o F σ (.sl [.agg cs]) σ :=
  does_fin (does_litA ho ht hi h1 hn h2 hsm hy hx hl) rfl (fun u hu => by simp [ho, Op.operands] at hu; subst hu; rw [hy]; exact hlo) (.sl _ (lo_cons hlo lo_nil))
end
section
variable {P : Program} {F : Frm} {σ : List Ob}
end
end Go.Proofs.Ythdpacbjbdkemaa.Aw
end
