/-
  Texts joined: EvD, AwX. Conditions: none.
-/
import Derived.Test.YtcpnffjnagbkoaaJP7
import Derived.Test.YtcpnffjnagbkoaaJP5
section
namespace Go.Proofs.Ytcpnffjnagbkoaa.Aw
set_option linter.unusedSimpArgs false
set_option linter.unusedVariables false
open Go.RowKit
section
variable {P : Program} {o : Oper} {F : Frm} {σ : List Ob} {s : Sto}
theorem evUn_ok {b : UnOp} {t : TypeId} {x : Operand} {v : Value} (ho : o.op = .unOp b t x) (h : evUn b (F.eval x) = some v) : Does P o F σ (.s v) σ := by
  generalize hx : F.eval x = u at h
  unfold evUn at h
  split at h
  · split at h
    · cases h; exact does_not ho hx
    · cases h
  · split at h
    · cases h; exact does_neg ho hx rfl
    · cases h
  · cases h
theorem evConv_ok {t t' : TypeId} {x : Operand} {v : Value} (ho : o.op = .convert t t' x) (h : evConv P t t' (F.eval x) = some v) : Does P o F σ (.s v) σ := by
  generalize hx : F.eval x = u at h
  unfold evConv at h
  split at h
  · split at h
    · rename_i k' hk
      cases hb : (P.underlying t).isSome with
      | false => rw [hb] at h; cases h
      | true => rw [hb] at h; cases h; exact does_conv ho hb hk hx rfl
    · cases h
  · cases h
theorem evFieldAddr_ok {t : TypeId} {x : Operand} {f : Nat} {v : AV} (ho : o.op = .fieldAddr t x f) (h : evFieldAddr P t f (F.eval x) = some v) : Does P o F σ v σ := by
  generalize hx : F.eval x = u at h
  unfold evFieldAddr at h
  split at h
  · rename_i off ft n hf
    cases hb : Nat.beq n 0 with
    | true => rw [hb] at h; cases h
    | false =>
      have hn : n ≠ 0 := by intro e; subst e; cases hb
      rw [hb, cond_false] at h
      split at h
      · cases h; exact does_fieldAddr_ptr ho hf hn hx
      · cases h; exact does_fieldAddr_ref ho hf hn hx
      · cases h
  · cases h
theorem evField_ok {t : TypeId} {x : Operand} {f : Nat} {v : AV} (ho : o.op = .field t x f) (h : evField P t f (F.eval x) = some v) : Does P o F σ v σ := by
  generalize hx : F.eval x = u at h
  unfold evField at h
  split at h
  · split at h
    · rename_i off ft n hf
      split at h
      · rename_i ha; exact does_field ho hf ha hx h
      · rename_i ha
        split at h
        · rename_i m z n' bt hi
          cases hb : Nat.beq m n' with
          | false => rw [hb] at h; cases h
          | true =>
            rw [hb] at h; cases h
            obtain rfl := Nat.eq_of_beq_eq_true hb
            exact does_fields ho hf ha hi hx
        · cases h
      · cases h
    · cases h
  · cases h
theorem evIndexStr_ok {t : TypeId} {x y : Operand} {v : Value} (ho : o.op = .index t x y) (h : evIndexStr P t (F.eval x) (F.eval y) = some v) : Does P o F σ (.s v) σ := by
  generalize hx : F.eval x = u at h
  generalize hy : F.eval y = w at h
  unfold evIndexStr at h
  split at h
  · cases hb : tyString P t with
    | false => rw [hb] at h; cases h
    | true =>
      rw [hb, cond_true] at h
      split at h
      · rename_i k u hu
        cases h
        exact does_index_str ho hb hx hy rfl hu
      · cases h
  · cases h
theorem evNil_ok {x : Operand} {v : AV} (ho : o.op = .nilCheck x) (h : evNil (F.eval x) = some v) : Does P o F σ v σ := by
  generalize hx : F.eval x = u at h
  unfold evNil at h
  split at h
  · cases h; exact does_nil_ptr ho hx
  · cases h; exact does_nil_ref ho hx
  · cases h; exact does_nil_fn ho hx
  · cases h
theorem evIndexAddr_ok {t : TypeId} {x y : Operand} {v : AV} (ho : o.op = .indexAddr t x y) (h : evIndexAddr P t (F.eval x) (F.eval y) = some v) : Does P o F σ v σ := by
  generalize hx : F.eval x = u at h
  generalize hy : F.eval y = w at h
  unfold evIndexAddr at h
  split at h
  · split at h
    · cases h
    · rename_i e ht
      split at h
      · rename_i z sz bt u hi hu
        cases hb : Nat.beq u.cells.length sz with
        | false => rw [hb] at h; cases h
        | true => rw [hb] at h; cases h; exact does_index_sl ho ht hi hx hy rfl hu (Nat.eq_of_beq_eq_true hb)
      · cases h
  · rename_i id sz m kd k
    split at h
    · cases h
    · rename_i e ht
      split at h
      · rename_i z sz' bt hi
        cases hb : (Nat.beq sz sz' && Nat.blt k m) with
        | false => rw [hb] at h; cases h
        | true =>
          rw [hb] at h; cases h
          simp only [Bool.and_eq_true] at hb
          obtain rfl := Nat.eq_of_beq_eq_true hb.1
          exact does_index_own ho ht hi hx hy rfl (by simpa [Nat.blt_eq] using hb.2)
      · cases h
  · rename_i id sz q m kd k
    split at h
    · cases h
    · rename_i e ht
      split at h
      · rename_i z sz' bt hi
        cases hb : (Nat.beq sz sz' && Nat.blt k m) with
        | false => rw [hb] at h; cases h
        | true =>
          rw [hb] at h; cases h
          simp only [Bool.and_eq_true] at hb
          obtain rfl := Nat.eq_of_beq_eq_true hb.1
          exact does_index_sub ho ht hi hx hy rfl (by simpa [Nat.blt_eq] using hb.2)
      · cases h
  · rename_i id s k j kd i
    split at h
    · cases h
    · rename_i m e ht
      split at h
      · rename_i z sz bt hi
        cases hb : Nat.blt i m with
        | false => rw [hb] at h; cases h
        | true => rw [hb] at h; cases h; exact does_index_aptr ho ht hi hx hy rfl (by simpa [Nat.blt_eq] using hb)
      · cases h
  · rename_i cs kd i
    split at h
    · cases h
    · rename_i m e ht
      split at h
      · rename_i z sz bt hi
        cases hb : Nat.blt i m with
        | false => rw [hb] at h; cases h
        | true => rw [hb] at h; cases h; exact does_index_aref ho ht hi hx hy rfl (by simpa [Nat.blt_eq] using hb)
      · cases h
  · cases h
theorem evExtract_ok {x : Operand} {i : Nat} {v : AV} (ho : o.op = .extract x i) (h : evExtract i (F.eval x) = some v) : Does P o F σ v σ := by
  generalize hx : F.eval x = u at h
  unfold evExtract at h
  split at h
  · exact does_extract ho hx h
  · cases h
theorem evLoad_ok {t : TypeId} {x : Operand} {r : ER} (ho : o.op = .load t x) (h : evLoad P t s (F.eval x) = some r) : OpOk P o F s r := by
  generalize hx : F.eval x = u at h
  unfold evLoad at h
  split at h
  · cases h
  · rename_i ha
    split at h
    · cases h; exact .free _ (fun σ => does_load_ref ho ha hx)
    · rename_i id sz k j
      split at h
      · cases h
      · rename_i l hl
        split at h
        · rename_i c hc
          cases h
          refine .look _ _ (fun σ2 h2 => ?_)
          unfold cellsAt at hl
          rw [Sto.get_abs, ← h2 id (by simp)] at hl
          obtain ⟨ob, cs, e1, g1, g2, g3, g4⟩ := cellsO_of hl
          exact does_load_ptr ho ha hx g1 g2 g3 (by rw [g4]; exact hc)
        · cases h
    · cases h
  · rename_i ha
    split at h
    · cases h
    · rename_i z n bt hi
      split at h
      · rename_i cs
        cases hb : Nat.ble n cs.length with
        | false => rw [hb] at h; cases h
        | true => rw [hb] at h; cases h; exact .free _ (fun σ => does_load_refs ho ha hi hx (Nat.le_of_ble_eq_true hb))
      · rename_i id sz k j
        split at h
        · cases h
        · rename_i l hl
          cases hb : Nat.ble (j + n) l.length with
          | false => rw [hb] at h; cases h
          | true =>
            rw [hb] at h; cases h
            refine .look _ _ (fun σ2 h2 => ?_)
            unfold cellsAt at hl
            rw [Sto.get_abs, ← h2 id (by simp)] at hl
            obtain ⟨ob, cs, e1, g1, g2, g3, g4⟩ := cellsO_of hl
            have := does_load_ptrs (P := P) (F := F) (σ := σ2) ho ha hi hx g1 g2 g3 (by rw [g4]; exact Nat.le_of_ble_eq_true hb)
            rwa [g4] at this
      · cases h
theorem set_other {σ : List Ob} {i id : Nat} {ob : Ob} (h : id ∉ [i]) : (σ.set i ob)[id]? = σ[id]? := by
  rw [List.getElem?_set_ne]; intro e; exact h (by simp [e])
theorem app_other {σ : List Ob} {id : Nat} {ob : Ob} (h : id ∉ [σ.length]) : (σ ++ [ob])[id]? = σ[id]? := by
  by_cases hl : id < σ.length
  · rw [List.getElem?_append_left hl]
  · have hne : id ≠ σ.length := by simpa using h
    rw [List.getElem?_eq_none (by simp; omega), List.getElem?_eq_none (by omega)]
theorem eff_set {x : AV} {id : Nat} {ob : Ob} (h : Does P o F s.abs x (s.abs.set id ob)) : OpOk P o F s (x, s.set id ob, .eff [id]) :=
  .eff _ _ _ (by rw [Sto.set_abs]; exact h) (fun i hi => by rw [Sto.set_abs]; exact set_other hi)
theorem eff_push {x : AV} {ob : Ob} (h : Does P o F s.abs x (s.abs ++ [ob])) : OpOk P o F s (x, s.push ob, .eff [s.len]) :=
  .eff _ _ _ (by rw [Sto.push_abs]; exact h) (fun i hi => by rw [Sto.push_abs]; exact app_other (by rw [Sto.abs_len]; exact hi))
theorem sto_at {id : Nat} {ob : Ob} (h : s.get id = some ob) : s.abs[id]? = some ob := (Sto.get_abs s id).symm.trans h
theorem evStore_ok {t : TypeId} {p y : Operand} {r : ER} (ho : o.op = .store t p y) (h : evStore P t s (F.eval p) (F.eval y) = some r) : OpOk P o F s r := by
  generalize hp : F.eval p = u at h
  unfold evStore at h
  split at h
  · rename_i id sz k j
    split at h
    · rename_i z n bt sz' cs hi hs
      split at h
      · rename_i e he
        generalize hb : (Nat.beq sz' sz && (F.eval y).cells.all AV.one && Nat.beq (F.eval y).cells.length n && Nat.blt 0 n && Nat.ble (j + n) sz) = b at h
        cases b with
        | false => cases h
        | true =>
          cases h
          simp only [Bool.and_eq_true] at hb
          obtain ⟨⟨⟨⟨h1, h2⟩, h3⟩, h4⟩, h5⟩ := hb
          obtain rfl := Nat.eq_of_beq_eq_true h1
          exact eff_set (does_store ho hi hp rfl (sto_at hs) he h2 (Nat.eq_of_beq_eq_true h3) (by simpa [Nat.blt_eq] using h4) (Nat.le_of_ble_eq_true h5))
      · cases h
    · cases h
  · cases h
theorem evAlloc_ok {e : TypeId} {r : ER} (ho : o.op = .alloc e) (h : evAlloc P e s = some r) : OpOk P o F s r := by
  unfold evAlloc at h
  split at h
  · rename_i z n bt hi
    generalize hb : ((ofValue z).cells.all AV.one && Nat.beq (ofValue z).cells.length n) = b at h
    cases b with
    | false => cases h
    | true =>
      cases h
      simp only [Bool.and_eq_true] at hb
      have h1 := does_alloc (P := P) (F := F) (σ := s.abs) ho hi hb.1 (Nat.eq_of_beq_eq_true hb.2)
      rw [Sto.abs_len] at h1
      exact eff_push h1
  · cases h
theorem evBox_ok {e : TypeId} {y : Operand} {r : ER} (ho : o.op = .box e y) (h : evBox s (F.eval y) = some r) : OpOk P o F s r := by
  unfold evBox at h
  generalize hb : (F.eval y).cells.all AV.one = b at h
  cases b with
  | false => cases h
  | true =>
    cases h
    have h1 := does_box (P := P) (F := F) (σ := s.abs) ho rfl hb rfl
    rw [Sto.abs_len] at h1
    exact eff_push h1
theorem evBuild_ok {t : TypeId} {parts : Array (Nat × Operand)} {v : AV} (ho : o.op = .build t parts) (h : evBuild P t (parts.toList.map fun (i, x) => (i, F.eval x)) = some v) : Does P o F σ v σ := by
  unfold evBuild at h
  split at h
  · rename_i z n bt pl hi hp
    generalize hb : (ofValue z).cells.all AV.one = b at h
    cases b with
    | false => cases h
    | true =>
      rw [cond_true] at h
      split at h
      · rename_i cs hf
        cases h
        exact does_build ho hi hp hb hf
      · cases h
  · rename_i z n bt hi hp
    split at h
    · cases h
    · rename_i m e ht
      split at h
      · cases h
      · rename_i ze sz be he
        generalize hb : (ofValue z).cells.all AV.one = b at h
        cases b with
        | false => cases h
        | true =>
          rw [cond_true] at h
          split at h
          · rename_i cs hf
            cases h
            exact does_build_arr ho hi ht he hb hf
          · cases h
  · cases h
theorem evLit_ok {t : TypeId} {len : Nat} {parts : Array (Nat × Operand)} {r : ER} (ho : o.op = .buildSlice t len parts) (h : evLit P t len (parts.toList.map fun (i, x) => (i, F.eval x)) s = some r) : OpOk P o F s r := by
  unfold evLit at h
  split at h
  · cases h
  · rename_i e ht
    split at h
    · rename_i z n bt hi
      cases hl : Nat.beq len 0 with
      | true =>
        rw [hl, cond_true] at h
        obtain rfl := Nat.eq_of_beq_eq_true hl
        generalize hb : (parts.toList.map fun (i, x) => (i, F.eval x)).isEmpty = b at h
        cases b with
        | false => cases h
        | true =>
          cases h
          have hp : parts = #[] := by
            rw [List.isEmpty_iff, List.map_eq_nil_iff] at hb
            exact Array.toList_eq_nil_iff.1 hb
          exact .free _ (fun σ => does_lit0 ho hp ht hi)
      | false =>
        rw [hl, cond_false] at h
        generalize hb : ((ofValue z).cells.all AV.one && Nat.beq (ofValue z).cells.length n && Nat.blt 0 n && Nat.ble (len * n) 16777216) = b at h
        cases b with
        | false => cases h
        | true =>
          rw [cond_true] at h
          simp only [Bool.and_eq_true] at hb
          obtain ⟨⟨⟨h1, h2⟩, h3⟩, h4⟩ := hb
          split at h
          · rename_i cs hf
            cases hc : Nat.beq cs.length (len * n) with
            | false => rw [hc] at h; cases h
            | true =>
              rw [hc] at h; cases h
              have hpos : 0 < len := by
                rcases Nat.eq_zero_or_pos len with e | e
                · subst e; cases hl
                · exact e
              have g1 := does_lit (P := P) (F := F) (σ := s.abs) ho ht hi h1 (Nat.eq_of_beq_eq_true h2) (by simpa [Nat.blt_eq] using h3) hpos (Nat.le_of_ble_eq_true h4) hf (Nat.eq_of_beq_eq_true hc)
              rw [Sto.abs_len] at g1
              exact eff_push g1
          · cases h
    · cases h
/-- a literal that is read only: finished at once -/
theorem does_litF {t e : TypeId} {len : Nat} {parts : Array (Nat × Operand)} {z : Value} {n bt : Nat} {cs : List AV} (ho : o.op = .buildSlice t len parts) (ht : tySlice P t = some e) (hi : tyInfo P e = some (some z, n, bt))
    (h1 : (ofValue z).cells.all AV.one = true) (hn : (ofValue z).cells.length = n) (h0 : 0 < n) (hlen : 0 < len) (hsm : len * n ≤ 16777216) (hf : fillA (fun i => some (i * n, n)) (zeroA z (len * n)) (parts.toList.map fun (i, x) => (i, F.eval x)) = some cs) (hcl : cs.length = len * n) : Does P o F σ (.sl (chunks n len cs)) σ :=
  does_new (x := .any) fun G ρ hr hop => by
    obtain ⟨i, h2, h3, h4, h5⟩ := info_of hi
    obtain ⟨vs, h6, h7⟩ := fill_rep (G := G) (place := fun i => some (i * n, n)) (parts.map fun (i, x) => (i, ρ x)).toList _ (madeCells z.cells (len * n)) _ cs (zeroA_rep G z (len * n) h1 (by omega)) (by simp) (parts_rep (fun y hy => hop y (by simpa [ho, Op.operands] using hy))) hf
    have hvs : vs.size = len * n := by rw [h7.size]; exact hcl
    have hpos : ¬ (len * n = 0) := by
      have := Nat.mul_pos hlen h0
      omega
    have h8 : (Instr.buildSlice t len (parts.map fun (i, x) => (i, ρ x))).run P G.w = .ok (.slice (some ⟨G.w.heap.size, 0, none⟩) len len) (G.w.alloc (.cells vs e)) := by
      have hsm' : ¬ (16777216 < len * n) := by omega
      have h6' : Instr.fill (fun i => some (i * n, n)) (Array.map (fun x => z.cells[x % z.cells.size]!) (Array.range (len * n))) (parts.map fun (i, x) => (i, ρ x)).toList = some vs := h6
      simp only [Array.toList_map] at h6'
      simp [Instr.buildSlice, run_underlying (slice_of ht), run_sizeOf hi, hsm', hpos, zeroValue, typeInfo, h2, h3, h6', newRow]
    have hrow := chunks_row h7 hcl
    let G1 : Cx := { G with w := G.w.alloc (.cells vs e), St := fun b o => G.St b o ∨ b = G.w.heap.size }
    have hbel : Below G.w.heap.size G.w (G.w.alloc (.cells vs e)) := (Below.refl _ _).alloc (Nat.le_refl _) _
    obtain ⟨g1, g2⟩ := after_call (G1 := G1) hr rfl hbel (fun _ _ h => .inl h) (fun b o h => h.imp (fun h => h) (fun h => by omega)) (fun b o h => by
      have hsz : (G.w.alloc (.cells vs e)).heap.size = G.w.heap.size + 1 := by simp
      show b < (G.w.alloc (.cells vs e)).heap.size
      rw [hsz]
      rcases h with h | h
      · have := hr.st b o h; omega
      · omega)
    refine ⟨.slice (some ⟨G.w.heap.size, 0, none⟩) len len, _, ?_, g1, g2, ?_⟩
    · simp only [execOp, ho, Sem.run_bind, h8, Result.andThen_ok, Sem.run_pure]; rfl
    · have hlen2 : (chunks n len cs).length = len := chunks_length n len cs
      have hcell : ∀ j v, vs[j]? = some v → (G.w.alloc (.cells vs e)).cell? ⟨G.w.heap.size, j, none⟩ = some v := fun j v hv => by
        rw [cell_of_row _ _ _ vs e (0, 0) (heap_alloc_new G.w _), hv]
      have := Rep.sl (G := { G with w := G.w.alloc (.cells vs e), St := G1.St }) G.w.heap.size 0 len n (chunks n len cs) (fun k j => vs.getD (k * n + j) undef) (by rw [hlen2]; exact Nat.le_refl _) (by rw [hlen2]; have : len ≤ len * n := Nat.le_mul_of_pos_right _ h0; unfold maxLen; omega)
        (fun k x hk => ⟨(hrow k x hk).1, (hrow k x hk).2.1⟩) (fun k x j c hk hc => by
          obtain ⟨u, h9, h10⟩ := (hrow k x hk).2.2 j c hc
          refine ⟨.inr rfl, ?_⟩
          rw [Nat.zero_add, hcell _ u h9, Array.getD_eq_getD_getElem?, h9]; rfl) (fun k x j c hk hc => by
          obtain ⟨u, h9, h10⟩ := (hrow k x hk).2.2 j c hc
          rw [Array.getD_eq_getD_getElem?, h9]
          exact h10.ext g1)
      rw [hlen2] at this
      exact this
theorem evLitF_ok {t : TypeId} {len : Nat} {parts : Array (Nat × Operand)} {r : ER} (ho : o.op = .buildSlice t len parts) (h : evLitF P t len (parts.toList.map fun (i, x) => (i, F.eval x)) s = some r) : OpOk P o F s r := by
  unfold evLitF at h
  split at h
  · cases h
  · rename_i e ht
    split at h
    · rename_i z n bt hi
      generalize hb : ((ofValue z).cells.all AV.one && Nat.beq (ofValue z).cells.length n && Nat.blt 0 n && Nat.blt 0 len && Nat.ble (len * n) 16777216) = b at h
      cases b with
      | false => cases h
      | true =>
        rw [cond_true] at h
        simp only [Bool.and_eq_true] at hb
        obtain ⟨⟨⟨⟨h1, h2⟩, h3⟩, h3'⟩, h4⟩ := hb
        split at h
        · rename_i cs hf
          cases hc : Nat.beq cs.length (len * n) with
          | false => rw [hc] at h; cases h
          | true =>
            rw [hc] at h; cases h
            exact .free _ (fun σ => does_litF ho ht hi h1 (Nat.eq_of_beq_eq_true h2) (by simpa [Nat.blt_eq] using h3) (by simpa [Nat.blt_eq] using h3') (Nat.le_of_ble_eq_true h4) hf (Nat.eq_of_beq_eq_true hc))
        · cases h
    · cases h
theorem evMake_ok {t : TypeId} {y y' : Operand} {r : ER} (ho : o.op = .makeSlice t y y') (h : evMake P t s (F.eval y) (F.eval y') = some r) : OpOk P o F s r := by
  generalize hx : F.eval y = u at h
  generalize hy : F.eval y' = w at h
  unfold evMake at h
  split at h
  · rename_i kl l kc c
    split at h
    · cases h
    · rename_i e ht
      split at h
      · rename_i z n bt hi
        generalize hb : ((ofValue z).cells.all AV.one && Nat.beq (ofValue z).cells.length n && Nat.blt 0 n && Nat.ble l c && Nat.ble (bt * c) 281474976710656 && Nat.ble c 9223372036854775807) = b at h
        cases b with
        | false => cases h
        | true =>
          cases h
          simp only [Bool.and_eq_true] at hb
          obtain ⟨⟨⟨⟨⟨h1, h2⟩, h3⟩, h4⟩, h5⟩, h6⟩ := hb
          have g1 := does_make (P := P) (F := F) (σ := s.abs) ho ht hi h1 (Nat.eq_of_beq_eq_true h2) (by simpa [Nat.blt_eq] using h3) hx hy rfl rfl (Nat.le_of_ble_eq_true h4) (Nat.le_of_ble_eq_true h5) (Nat.le_of_ble_eq_true h6)
          rw [Sto.abs_len] at g1
          exact eff_push g1
      · cases h
  · cases h
theorem evLen_ok {t : TypeId} {x : Operand} {v : Value} (ho : o.op = .call { callee := .builtin .len, args := #[x], argTypes := #[t] }) (h : evLen P t (F.eval x) = some v) : Does P o F σ (.s v) σ := by
  generalize hx : F.eval x = u at h
  have hsl : ∀ {w : Value}, (bif (tySlice P t).isSome then some w else none) = some v → w = v ∧ ∃ e, tySlice P t = some e := by
    intro w h
    cases ht : tySlice P t with
    | none => rw [ht] at h; cases h
    | some e => rw [ht] at h; cases h; exact ⟨rfl, e, rfl⟩
  unfold evLen at h
  split at h
  · obtain ⟨rfl, e, ht⟩ := hsl h; exact does_len_sl ho ht hx
  · obtain ⟨rfl, e, ht⟩ := hsl h; exact does_len_own ho ht hx
  · obtain ⟨rfl, e, ht⟩ := hsl h; exact does_len_sub ho ht hx
  · obtain ⟨rfl, e, ht⟩ := hsl h; exact does_len_emp ho ht hx
  · obtain ⟨rfl, e, ht⟩ := hsl h; exact does_len_s ho ht hx
  · cases hb : tyString P t with
    | false => rw [hb] at h; cases h
    | true => rw [hb] at h; cases h; exact does_len_str ho hb hx
  · cases h
theorem evAppend_ok {t : TypeId} {x y : Operand} {r : ER} (ho : o.op = .call { callee := .builtin .append, args := #[x, y], argTypes := #[t, t] }) (h : evAppend P t s (F.eval x) (F.eval y) = some r) : OpOk P o F s r := by
  generalize hx : F.eval x = u at h
  unfold evAppend at h
  split at h
  · cases h
  · rename_i e ht
    split at h
    · rename_i z sz bt hi
      generalize hb : (Nat.beq z.cells.size sz && Nat.blt 0 sz) = b at h
      cases b with
      | false => cases h
      | true =>
        rw [cond_true] at h
        simp only [Bool.and_eq_true] at hb
        obtain ⟨h1, h2⟩ := hb
        have h2 : 0 < sz := by simpa [Nat.blt_eq] using h2
        split at h
        · cases h
        · rename_i l hl
          have hsrc := srcOf_ok hl
          split at h
          · rename_i id sz' n
            split at h
            · rename_i sz2 cs hs
              generalize hb : (Nat.beq sz' sz && Nat.beq sz2 sz && Nat.beq n cs.length && Nat.ble (cs.length + l.length) maxLen && Nat.ble ((cs.length + l.length) * bt) 140737488355328) = b at h
              cases b with
              | false => cases h
              | true =>
                cases h
                simp only [Bool.and_eq_true] at hb
                obtain ⟨⟨⟨⟨g1, g2⟩, g3⟩, g4⟩, g5⟩ := hb
                obtain rfl := Nat.eq_of_beq_eq_true g1
                obtain rfl := Nat.eq_of_beq_eq_true g2
                have q1 := does_append (P := P) (F := F) (σ := s.abs) ho ht hi (Nat.eq_of_beq_eq_true h1) h2 hx (sto_at hs) (Nat.eq_of_beq_eq_true g3) rfl hsrc (Nat.le_of_ble_eq_true g4) (Nat.le_of_ble_eq_true g5)
                rw [Sto.abs_len] at q1
                refine .eff _ _ _ (by rw [Sto.push_abs, Sto.set_abs]; exact q1) (fun i hi2 => ?_)
                have hi3 : i ≠ id ∧ i ≠ s.len := by simpa using hi2
                rw [Sto.push_abs, Sto.set_abs, app_other (by rw [List.length_set, Sto.abs_len]; simpa using hi3.2), set_other (by simpa using hi3.1)]
            · cases h
          · generalize hb : (Nat.ble l.length maxLen && Nat.ble (l.length * bt) 140737488355328) = b at h
            cases b with
            | false => cases h
            | true =>
              cases h
              simp only [Bool.and_eq_true] at hb
              have q1 := does_append0 (P := P) (F := F) (σ := s.abs) ho ht hi (Nat.eq_of_beq_eq_true h1) h2 hx (.inl rfl) rfl hsrc (Nat.le_of_ble_eq_true hb.1) (Nat.le_of_ble_eq_true hb.2)
              rw [Sto.abs_len] at q1
              exact eff_push q1
          · generalize hb : (Nat.ble l.length maxLen && Nat.ble (l.length * bt) 140737488355328) = b at h
            cases b with
            | false => cases h
            | true =>
              cases h
              simp only [Bool.and_eq_true] at hb
              have q1 := does_append0 (P := P) (F := F) (σ := s.abs) ho ht hi (Nat.eq_of_beq_eq_true h1) h2 hx (.inr rfl) rfl hsrc (Nat.le_of_ble_eq_true hb.1) (Nat.le_of_ble_eq_true hb.2)
              rw [Sto.abs_len] at q1
              exact eff_push q1
          · cases h
    · cases h
/-- append to a row of which fewer elements are told -/
def evAppT (P : Program) (t : TypeId) (σ : Sto) (x y : AV) : Option ER := match evAppend P t σ x y with
  | some r => some r
  | none => match x with
    | .own id _ n => match σ.get id with
      | some (.row sz cs) => match evAppend P t (σ.set id (.row sz (cs.take n))) x y with
        | some (r, s1, .eff W) => bif W.contains id then some (r, s1, .eff W) else none
        | _ => none
      | _ => none
    | _ => none
theorem evAppT_ok {t : TypeId} {x y : Operand} {r : ER} (ho : o.op = .call { callee := .builtin .append, args := #[x, y], argTypes := #[t, t] }) (h : evAppT P t s (F.eval x) (F.eval y) = some r) : OpOk P o F s r := by
  unfold evAppT at h
  split at h
  · rename_i r' hr; cases h; exact evAppend_ok ho hr
  · split at h
    · rename_i id _ n hx
      split at h
      · rename_i sz cs hs
        split at h
        · rename_i r' s1 W he
          cases hb : W.contains id with
          | false => rw [hb] at h; cases h
          | true =>
            rw [hb, cond_true] at h
            cases h
            have hid : id ∈ W := by simpa using hb
            have hk := evAppend_ok (o := o) ho he
            have hD := hk.does
            rw [Sto.set_abs] at hD
            cases hk with
            | eff _ _ _ h1 hW =>
              refine .eff _ _ _ (does_trunc (sto_at hs) hD) (fun i hi => ?_)
              rw [hW i hi, Sto.set_abs]
              exact set_other (by intro e; exact hi (by rw [show i = id by simpa using e]; exact hid))
        · cases h
      · cases h
    · cases h
theorem evMinMax_ok {b : Builtin} {x y : Operand} {t t' : TypeId} {v : Value} (ho : o.op = .call { callee := .builtin b, args := #[x, y], argTypes := #[t, t'] }) (h : evMinMax b (F.eval x) (F.eval y) = some v) : Does P o F σ (.s v) σ := by
  generalize hx : F.eval x = u at h
  generalize hy : F.eval y = w at h
  unfold evMinMax at h
  split at h
  · split at h
    · cases h; exact does_max ho hx hy rfl
    · cases h; exact does_min ho hx hy rfl
    · cases h
  · cases h
theorem evCopy_ok {t : TypeId} {x y : Operand} {r : ER} (ho : o.op = .call { callee := .builtin .copy, args := #[x, y], argTypes := #[t, t] }) (h : evCopy P t s (F.eval x) (F.eval y) = some r) : OpOk P o F s r := by
  unfold evCopy at h
  split at h
  · cases h
  · rename_i e ht
    split at h
    · rename_i z sz bt hi
      generalize hb : Nat.blt 0 sz = b at h
      cases b with
      | false => cases h
      | true =>
        have hsz : 0 < sz := by simpa [Nat.blt_eq] using hb
        rw [cond_true] at h
        split at h
        · rename_i l id k n hl hd
          split at h
          · rename_i sz2 cs hs
            generalize hb : (Nat.beq sz2 sz && Nat.ble (k + n) cs.length) = b at h
            cases b with
            | false => cases h
            | true =>
              cases h
              simp only [Bool.and_eq_true] at hb
              obtain rfl := Nat.eq_of_beq_eq_true hb.1
              exact eff_set (does_copy ho ht hi hsz rfl (dstOf_ok hd) (sto_at hs) (Nat.le_of_ble_eq_true hb.2) rfl (srcOf_ok hl))
          · cases h
        · cases h
    · cases h
end
end Go.Proofs.Ytcpnffjnagbkoaa.Aw
end
section
namespace Go.Proofs.Ytcpnffjnagbkoaa.Aw
set_option linter.unusedSimpArgs false
set_option linter.unusedVariables false
open Go.RowKit
section
variable {P : Program} {N : Nat} {l : List Oper} {F F' : Frm} {σ : List Ob} {out : List (Nat × AV)} {Q : Exit → Frm → List Ob → Prop}
theorem adraw_of (h : EDraw P N l F σ Q) : ADraw P N l F σ Q := fun G a hs =>
  wpAny_mono (fun e a w q => by obtain ⟨G', F', σ', h1, h2, h3, h4⟩ := q; exact ⟨G', F', σ', h1, h2.step, h3, h4⟩) _ _ _ _ (h G a hs)
def EX (P : Program) (N : Nat) (ops : Array Oper) (all : List Oper) (acc : List Kd) (l : List Oper) (F : Frm) (σ : List Ob) (K : Frm → List Ob → Prop) : Prop :=
  ∃ F' σ' out ks sts, ESteps P N ops l F σ F' σ' out ks sts ∧ eOk all N (acc.reverse ++ ks) = true ∧ K F' σ'
variable {ops : Array Oper} {all : List Oper} {acc : List Kd} {K : Frm → List Ob → Prop} {o : Oper} {d : Nat} {x : AV} {σ1 : List Ob}
theorem ex_nil (hk : eOk all N acc.reverse = true) (h : K F σ) : EX P N ops all acc [] F σ K := ⟨F, σ, [], [], [], .nil F σ, by simpa using hk, h⟩
theorem dOk_s (hd : o.dst = some d) (hN : Nat.blt d N = true) : dOk N o = true := by unfold dOk; rw [hd]; exact hN
theorem dOk_n (hd : o.dst = none) : dOk N o = true := by unfold dOk; rw [hd]
theorem ex_free (hd : o.dst = some d) (hN : Nat.blt d N = true) (hr : Runs ops F o true) (hD : ∀ σ, Does P o F σ x σ) (h : EX P N ops all (.free :: acc) l ((d, x) :: F) σ K) : EX P N ops all acc (o :: l) F σ K := by
  obtain ⟨F', σ', out, ks, sts, h1, h2, h3⟩ := h
  exact ⟨F', σ', _, _, _, .free o l F F' σ σ' x out ks sts (dOk_s hd hN) hr hD (by rw [ent_some hd]; exact h1), by simpa using h2, h3⟩
theorem ex_look {R : List Nat} (hd : o.dst = some d) (hN : Nat.blt d N = true) (hr : Runs ops F o true) (hD : ∀ σ2, (∀ id ∈ R, σ2[id]? = σ[id]?) → Does P o F σ2 x σ2) (h : EX P N ops all (.look R :: acc) l ((d, x) :: F) σ K) : EX P N ops all acc (o :: l) F σ K := by
  obtain ⟨F', σ', out, ks, sts, h1, h2, h3⟩ := h
  exact ⟨F', σ', _, _, _, .look o l F F' σ σ' x out ks sts R (dOk_s hd hN) hr hD (by rw [ent_some hd]; exact h1), by simpa using h2, h3⟩
theorem ex_eff {W : List Nat} (hd : o.dst = some d) (hN : Nat.blt d N = true) (hr : Runs ops F o true) (hD : Does P o F σ x σ1) (hW : ∀ id, id ∉ W → σ1[id]? = σ[id]?) (h : EX P N ops all (.eff W :: acc) l ((d, x) :: F) σ1 K) : EX P N ops all acc (o :: l) F σ K := by
  obtain ⟨F', σ', out, ks, sts, h1, h2, h3⟩ := h
  exact ⟨F', σ', _, _, _, .eff o l F F' σ σ1 σ' x out ks sts W (dOk_s hd hN) hr hD hW (by rw [ent_some hd]; exact h1), by simpa using h2, h3⟩
theorem ex_eff0 {W : List Nat} (hd : o.dst = none) (hr : Runs ops F o true) (hD : Does P o F σ x σ1) (hW : ∀ id, id ∉ W → σ1[id]? = σ[id]?) (h : EX P N ops all (.eff W :: acc) l ((N, .any) :: F) σ1 K) : EX P N ops all acc (o :: l) F σ K := by
  obtain ⟨F', σ', out, ks, sts, h1, h2, h3⟩ := h
  exact ⟨F', σ', _, _, _, .eff o l F F' σ σ1 σ' x out ks sts W (dOk_n hd) hr hD hW (by rw [ent_none hd]; exact h1), by simpa using h2, h3⟩
theorem adraw_ex (h : EX P N l.toArray l [] l F σ (fun F' σ' => Q .normal F' σ')) : ADraw P N l F σ Q := by
  obtain ⟨F', σ', out, ks, sts, h1, h2, h3⟩ := h
  exact adraw_of (edraw_steps h1 (by simpa using h2) h3)
theorem look_ptr {t : TypeId} {x : Operand} {id sz k j : Nat} {ob : Ob} {cs : List AV} {e c : AV} (ho : o.op = .load t x) (ha : tyAgg P t = some false) (hx : F.eval x = .ptr id sz k j) (hs : σ[id]? = some ob) (hb : rowOf ob = some (sz, cs)) (he : cs[k]? = some e) (hc : e.cells[j]? = some c) : ∀ σ2 : List Ob, (∀ i ∈ [id], σ2[i]? = σ[i]?) → Does P o F σ2 c σ2 :=
  fun σ2 h => does_load_ptr ho ha hx ((h id (by simp)).trans hs) hb he hc
theorem look_whole {t : TypeId} {x : Operand} {z : Option Value} {n bt : Nat} {id sz k : Nat} {ob : Ob} {cs : List AV} {e : AV} (ho : o.op = .load t x) (ha : tyAgg P t = some true) (hi : tyInfo P t = some (z, n, bt)) (hx : F.eval x = .ptr id sz k 0) (hs : σ[id]? = some ob) (hb : rowOf ob = some (sz, cs)) (he : cs[k]? = some e) (hn : e.cells.length = n) : ∀ σ2 : List Ob, (∀ i ∈ [id], σ2[i]? = σ[i]?) → Does P o F σ2 (.agg e.cells) σ2 :=
  fun σ2 h => does_load_whole ho ha hi hx ((h id (by simp)).trans hs) hb he hn
theorem look_ptrs {t : TypeId} {x : Operand} {z : Option Value} {n bt : Nat} {id sz k j : Nat} {ob : Ob} {cs : List AV} {e : AV} (ho : o.op = .load t x) (ha : tyAgg P t = some true) (hi : tyInfo P t = some (z, n, bt)) (hx : F.eval x = .ptr id sz k j) (hs : σ[id]? = some ob) (hb : rowOf ob = some (sz, cs)) (he : cs[k]? = some e) (hn : j + n ≤ e.cells.length) : ∀ σ2 : List Ob, (∀ i ∈ [id], σ2[i]? = σ[i]?) → Does P o F σ2 (.agg ((e.cells.drop j).take n)) σ2 :=
  fun σ2 h => does_load_ptrs ho ha hi hx ((h id (by simp)).trans hs) hb he hn
theorem app2_other {id i : Nat} {ob ob' : Ob} (h : id ∉ [i, σ.length]) : (σ.set i ob ++ [ob'])[id]? = σ[id]? := by
  have h2 : id ≠ i ∧ id ≠ σ.length := by simpa using h
  rw [app_other (by rw [List.length_set]; simpa using h2.2), set_other (by simpa using h2.1)]
/-- results: a struct in a variable, a slot -/
theorem post_ct {ad u : Nat} {ty : TypeId} {id sz k n bt : Nat} {z : Option Value} {ob : Ob} {cs : List AV} {e1 y r : AV} {e : Exit} (he : e = .normal ∨ e = .ret) (ha : tyAgg P ty = some true) (hi : tyInfo P ty = some (z, n, bt)) (hp : F.get ad = .ptr id sz k 0) (hs : σ[id]? = some ob) (ho : rowOf ob = some (sz, cs)) (hk : cs[k]? = some e1) (hn : e1.cells.length = n) (hu : F.get u = y) (hr : AV.tup [.agg e1.cells, y] = r) : APost P [.cell ad ty, .tmp u] r e F σ :=
  ⟨he, [.agg e1.cells, y], .cons _ _ _ _ (.cells ad ty id sz k n bt z ob cs e1 ha hi hp hs ho hk hn) (.cons _ _ _ _ (.tmp u y hu) .nil), hr ▸ .refl _⟩
end
end Go.Proofs.Ytcpnffjnagbkoaa.Aw
end
