/-
  Texts joined: EvD, AwX, ShA. Conditions: none.
-/
import Derived.Test.YtmoipmnhgdmkpaaGreatJC4
section
namespace Go.Proofs.YtmoipmnhgdmkpaaGreat.Aw
set_option linter.unusedSimpArgs false
set_option linter.unusedVariables false
open Go.RowKit
section
variable {P : Program} {o : Oper} {F : Frm} {σ : List Ob} {s : Sto}
theorem evUn_ok {b : UnOp} {t : TypeId} {x : Operand} {v : Value} (ho : o.op = .unOp b t x) (h : evUn b (F.eval x) = some v) : Does P o F σ (.s v) σ := by
  generalize hx : F.eval x = u at h
  unfold evUn at h
  split at h
  · split at h
    · cases h; exact zcj ho hx
    · cases h
  · split at h
    · cases h; exact does_neg ho hx rfl
    · cases h
  · cases h
theorem evConv_ok {t t' : TypeId} {x : Operand} {v : Value} (ho : o.op = .convert t t' x) (h : evConv P t t' (F.eval x) = some v) : Does P o F σ (.s v) σ := by
  generalize hx : F.eval x = u at h
  unfold evConv at h
  split at h
  · split at h
    · rename_i k' hk
      cases hb : (P.underlying t).isSome with
      | false => rw [hb] at h; cases h
      | true => rw [hb] at h; cases h; exact does_conv ho hb hk hx rfl
    · cases h
  · cases h
theorem evFieldAddr_ok {t : TypeId} {x : Operand} {f : Nat} {v : AV} (ho : o.op = .fieldAddr t x f) (h : evFieldAddr P t f (F.eval x) = some v) : Does P o F σ v σ := by
  generalize hx : F.eval x = u at h
  unfold evFieldAddr at h
  split at h
  · rename_i off ft n hf
    cases hb : Nat.beq n 0 with
    | true => rw [hb] at h; cases h
    | false =>
      have hn : n ≠ 0 := by intro e; subst e; cases hb
      rw [hb, cond_false] at h
      split at h
      · cases h; exact zal ho hf hn hx
      · cases h; exact zai ho hf hn hx
      · cases h
  · cases h
theorem evField_ok {t : TypeId} {x : Operand} {f : Nat} {v : AV} (ho : o.op = .field t x f) (h : evField P t f (F.eval x) = some v) : Does P o F σ v σ := by
  generalize hx : F.eval x = u at h
  unfold evField at h
  split at h
  · split at h
    · rename_i off ft n hf
      split at h
      · rename_i ha; exact does_field ho hf ha hx h
      · rename_i ha
        split at h
        · rename_i m z n' bt hi
          cases hb : Nat.beq m n' with
          | false => rw [hb] at h; cases h
          | true =>
            rw [hb] at h; cases h
            obtain rfl := Nat.eq_of_beq_eq_true hb
            exact does_fields ho hf ha hi hx
        · cases h
      · cases h
    · cases h
  · cases h
theorem evIndexStr_ok {t : TypeId} {x y : Operand} {v : Value} (ho : o.op = .index t x y) (h : evIndexStr P t (F.eval x) (F.eval y) = some v) : Does P o F σ (.s v) σ := by
  generalize hx : F.eval x = u at h
  generalize hy : F.eval y = w at h
  unfold evIndexStr at h
  split at h
  · cases hb : tyString P t with
    | false => rw [hb] at h; cases h
    | true =>
      rw [hb, cond_true] at h
      split at h
      · rename_i k u hu
        cases h
        exact does_index_str ho hb hx hy rfl hu
      · cases h
  · cases h
theorem evNil_ok {x : Operand} {v : AV} (ho : o.op = .nilCheck x) (h : evNil (F.eval x) = some v) : Does P o F σ v σ := by
  generalize hx : F.eval x = u at h
  unfold evNil at h
  split at h
  · cases h; exact does_nil_ptr ho hx
  · cases h; exact does_nil_ref ho hx
  · cases h; exact does_nil_fn ho hx
  · cases h
theorem evIndexAddr_ok {t : TypeId} {x y : Operand} {v : AV} (ho : o.op = .indexAddr t x y) (h : evIndexAddr P t (F.eval x) (F.eval y) = some v) : Does P o F σ v σ := by
  generalize hx : F.eval x = u at h
  generalize hy : F.eval y = w at h
  unfold evIndexAddr at h
  split at h
  · split at h
    · cases h
    · rename_i e ht
      split at h
      · rename_i z sz bt u hi hu
        cases hb : Nat.beq u.cells.length sz with
        | false => rw [hb] at h; cases h
        | true => rw [hb] at h; cases h; exact za1 ho ht hi hx hy rfl hu (Nat.eq_of_beq_eq_true hb)
      · cases h
  · rename_i id sz m kd k
    split at h
    · cases h
    · rename_i e ht
      split at h
      · rename_i z sz' bt hi
        cases hb : (Nat.beq sz sz' && Nat.blt k m) with
        | false => rw [hb] at h; cases h
        | true =>
          rw [hb] at h; cases h
          simp only [Bool.and_eq_true] at hb
          obtain rfl := Nat.eq_of_beq_eq_true hb.1
          exact zay ho ht hi hx hy rfl (by simpa [Nat.blt_eq] using hb.2)
      · cases h
  · rename_i id sz q m kd k
    split at h
    · cases h
    · rename_i e ht
      split at h
      · rename_i z sz' bt hi
        cases hb : (Nat.beq sz sz' && Nat.blt k m) with
        | false => rw [hb] at h; cases h
        | true =>
          rw [hb] at h; cases h
          simp only [Bool.and_eq_true] at hb
          obtain rfl := Nat.eq_of_beq_eq_true hb.1
          exact does_index_sub ho ht hi hx hy rfl (by simpa [Nat.blt_eq] using hb.2)
      · cases h
  · rename_i id s k j kd i
    split at h
    · cases h
    · rename_i m e ht
      split at h
      · rename_i z sz bt hi
        cases hb : Nat.blt i m with
        | false => rw [hb] at h; cases h
        | true => rw [hb] at h; cases h; exact does_index_aptr ho ht hi hx hy rfl (by simpa [Nat.blt_eq] using hb)
      · cases h
  · rename_i cs kd i
    split at h
    · cases h
    · rename_i m e ht
      split at h
      · rename_i z sz bt hi
        cases hb : Nat.blt i m with
        | false => rw [hb] at h; cases h
        | true => rw [hb] at h; cases h; exact does_index_aref ho ht hi hx hy rfl (by simpa [Nat.blt_eq] using hb)
      · cases h
  · cases h
theorem evExtract_ok {x : Operand} {i : Nat} {v : AV} (ho : o.op = .extract x i) (h : evExtract i (F.eval x) = some v) : Does P o F σ v σ := by
  generalize hx : F.eval x = u at h
  unfold evExtract at h
  split at h
  · exact zbf ho hx h
  · cases h
theorem evLoad_ok {t : TypeId} {x : Operand} {r : ER} (ho : o.op = .load t x) (h : evLoad P t s (F.eval x) = some r) : OpOk P o F s r := by
  generalize hx : F.eval x = u at h
  unfold evLoad at h
  split at h
  · cases h
  · rename_i ha
    split at h
    · cases h; exact .free _ (fun σ => zam ho ha hx)
    · rename_i id sz k j
      split at h
      · cases h
      · rename_i l hl
        split at h
        · rename_i c hc
          cases h
          refine .look _ _ (fun σ2 h2 => ?_)
          unfold cellsAt at hl
          rw [Sto.get_abs, ← h2 id (by simp)] at hl
          obtain ⟨ob, cs, e1, g1, g2, g3, g4⟩ := cellsO_of hl
          exact zap ho ha hx g1 g2 g3 (by rw [g4]; exact hc)
        · cases h
    · cases h
  · rename_i ha
    split at h
    · cases h
    · rename_i z n bt hi
      split at h
      · rename_i cs
        cases hb : Nat.ble n cs.length with
        | false => rw [hb] at h; cases h
        | true => rw [hb] at h; cases h; exact .free _ (fun σ => zaz ho ha hi hx (Nat.le_of_ble_eq_true hb))
      · rename_i id sz k j
        split at h
        · cases h
        · rename_i l hl
          cases hb : Nat.ble (j + n) l.length with
          | false => rw [hb] at h; cases h
          | true =>
            rw [hb] at h; cases h
            refine .look _ _ (fun σ2 h2 => ?_)
            unfold cellsAt at hl
            rw [Sto.get_abs, ← h2 id (by simp)] at hl
            obtain ⟨ob, cs, e1, g1, g2, g3, g4⟩ := cellsO_of hl
            have := zba (P := P) (F := F) (σ := σ2) ho ha hi hx g1 g2 g3 (by rw [g4]; exact Nat.le_of_ble_eq_true hb)
            rwa [g4] at this
      · cases h
theorem zcq {σ : List Ob} {i id : Nat} {ob : Ob} (h : id ∉ [i]) : (σ.set i ob)[id]? = σ[id]? := by
  rw [List.getElem?_set_ne]; intro e; exact h (by simp [e])
theorem zc7 {σ : List Ob} {id : Nat} {ob : Ob} (h : id ∉ [σ.length]) : (σ ++ [ob])[id]? = σ[id]? := by
  by_cases hl : id < σ.length
  · rw [List.getElem?_append_left hl]
  · have hne : id ≠ σ.length := by simpa using h
    rw [List.getElem?_eq_none (by simp; omega), List.getElem?_eq_none (by omega)]
theorem eff_set {x : AV} {id : Nat} {ob : Ob} (h : Does P o F s.abs x (s.abs.set id ob)) : OpOk P o F s (x, s.set id ob, .eff [id]) :=
  .eff _ _ _ (by rw [Sto.set_abs]; exact h) (fun i hi => by rw [Sto.set_abs]; exact zcq hi)
theorem eff_push {x : AV} {ob : Ob} (h : Does P o F s.abs x (s.abs ++ [ob])) : OpOk P o F s (x, s.push ob, .eff [s.len]) :=
  .eff _ _ _ (by rw [Sto.push_abs]; exact h) (fun i hi => by rw [Sto.push_abs]; exact zc7 (by rw [Sto.abs_len]; exact hi))
theorem sto_at {id : Nat} {ob : Ob} (h : s.get id = some ob) : s.abs[id]? = some ob := (Sto.get_abs s id).symm.trans h
theorem evStore_ok {t : TypeId} {p y : Operand} {r : ER} (ho : o.op = .store t p y) (h : evStore P t s (F.eval p) (F.eval y) = some r) : OpOk P o F s r := by
  generalize hp : F.eval p = u at h
  unfold evStore at h
  split at h
  · rename_i id sz k j
    split at h
    · rename_i z n bt sz' cs hi hs
      split at h
      · rename_i e he
        generalize hb : (Nat.beq sz' sz && (F.eval y).cells.all AV.one && Nat.beq (F.eval y).cells.length n && Nat.blt 0 n && Nat.ble (j + n) sz) = b at h
        cases b with
        | false => cases h
        | true =>
          cases h
          simp only [Bool.and_eq_true] at hb
          obtain ⟨⟨⟨⟨h1, h2⟩, h3⟩, h4⟩, h5⟩ := hb
          obtain rfl := Nat.eq_of_beq_eq_true h1
          exact eff_set (zbd ho hi hp rfl (sto_at hs) he h2 (Nat.eq_of_beq_eq_true h3) (by simpa [Nat.blt_eq] using h4) (Nat.le_of_ble_eq_true h5))
      · cases h
    · cases h
  · cases h
theorem evAlloc_ok {e : TypeId} {r : ER} (ho : o.op = .alloc e) (h : evAlloc P e s = some r) : OpOk P o F s r := by
  unfold evAlloc at h
  split at h
  · rename_i z n bt hi
    generalize hb : ((ofValue z).cells.all AV.one && Nat.beq (ofValue z).cells.length n) = b at h
    cases b with
    | false => cases h
    | true =>
      cases h
      simp only [Bool.and_eq_true] at hb
      have h1 := zbr (P := P) (F := F) (σ := s.abs) ho hi hb.1 (Nat.eq_of_beq_eq_true hb.2)
      rw [Sto.abs_len] at h1
      exact eff_push h1
  · cases h
theorem evBox_ok {e : TypeId} {y : Operand} {r : ER} (ho : o.op = .box e y) (h : evBox s (F.eval y) = some r) : OpOk P o F s r := by
  unfold evBox at h
  generalize hb : (F.eval y).cells.all AV.one = b at h
  cases b with
  | false => cases h
  | true =>
    cases h
    have h1 := zcv (P := P) (F := F) (σ := s.abs) ho rfl hb rfl
    rw [Sto.abs_len] at h1
    exact eff_push h1
theorem evBuild_ok {t : TypeId} {parts : Array (Nat × Operand)} {v : AV} (ho : o.op = .build t parts) (h : evBuild P t (parts.toList.map fun (i, x) => (i, F.eval x)) = some v) : Does P o F σ v σ := by
  unfold evBuild at h
  split at h
  · rename_i z n bt pl hi hp
    generalize hb : (ofValue z).cells.all AV.one = b at h
    cases b with
    | false => cases h
    | true =>
      rw [cond_true] at h
      split at h
      · rename_i cs hf
        cases h
        exact zb7 ho hi hp hb hf
      · cases h
  · rename_i z n bt hi hp
    split at h
    · cases h
    · rename_i m e ht
      split at h
      · cases h
      · rename_i ze sz be he
        generalize hb : (ofValue z).cells.all AV.one = b at h
        cases b with
        | false => cases h
        | true =>
          rw [cond_true] at h
          split at h
          · rename_i cs hf
            cases h
            exact does_build_arr ho hi ht he hb hf
          · cases h
  · cases h
theorem evLit_ok {t : TypeId} {len : Nat} {parts : Array (Nat × Operand)} {r : ER} (ho : o.op = .buildSlice t len parts) (h : evLit P t len (parts.toList.map fun (i, x) => (i, F.eval x)) s = some r) : OpOk P o F s r := by
  unfold evLit at h
  split at h
  · cases h
  · rename_i e ht
    split at h
    · rename_i z n bt hi
      cases hl : Nat.beq len 0 with
      | true =>
        rw [hl, cond_true] at h
        obtain rfl := Nat.eq_of_beq_eq_true hl
        generalize hb : (parts.toList.map fun (i, x) => (i, F.eval x)).isEmpty = b at h
        cases b with
        | false => cases h
        | true =>
          cases h
          have hp : parts = #[] := by
            rw [List.isEmpty_iff, List.map_eq_nil_iff] at hb
            exact Array.toList_eq_nil_iff.1 hb
          exact .free _ (fun σ => does_lit0 ho hp ht hi)
      | false =>
        rw [hl, cond_false] at h
        generalize hb : ((ofValue z).cells.all AV.one && Nat.beq (ofValue z).cells.length n && Nat.blt 0 n && Nat.ble (len * n) 16777216) = b at h
        cases b with
        | false => cases h
        | true =>
          rw [cond_true] at h
          simp only [Bool.and_eq_true] at hb
          obtain ⟨⟨⟨h1, h2⟩, h3⟩, h4⟩ := hb
          split at h
          · rename_i cs hf
            cases hc : Nat.beq cs.length (len * n) with
            | false => rw [hc] at h; cases h
            | true =>
              rw [hc] at h; cases h
              have hpos : 0 < len := by
                rcases Nat.eq_zero_or_pos len with e | e
                · subst e; cases hl
                · exact e
              have g1 := does_lit (P := P) (F := F) (σ := s.abs) ho ht hi h1 (Nat.eq_of_beq_eq_true h2) (by simpa [Nat.blt_eq] using h3) hpos (Nat.le_of_ble_eq_true h4) hf (Nat.eq_of_beq_eq_true hc)
              rw [Sto.abs_len] at g1
              exact eff_push g1
          · cases h
    · cases h
/-- a literal that is read only: finished at once -/
theorem does_litF {t e : TypeId} {len : Nat} {parts : Array (Nat × Operand)} {z : Value} {n bt : Nat} {cs : List AV} (ho : o.op = .buildSlice t len parts) (ht : zbu P t = some e) (hi : zb3 P e = some (some z, n, bt))
    (h1 : (ofValue z).cells.all AV.one = true) (hn : (ofValue z).cells.length = n) (h0 : 0 < n) (hlen : 0 < len) (hsm : len * n ≤ 16777216) (hf : fillA (fun i => some (i * n, n)) (zeroA z (len * n)) (parts.toList.map fun (i, x) => (i, F.eval x)) = some cs) (hcl : cs.length = len * n) : Does P o F σ (.sl (chunks n len cs)) σ :=
  does_new (x := .any) fun G ρ hr hop => by
    obtain ⟨i, h2, h3, h4, h5⟩ := info_of hi
    obtain ⟨vs, h6, h7⟩ := fill_rep (G := G) (place := fun i => some (i * n, n)) (parts.map fun (i, x) => (i, ρ x)).toList _ (madeCells z.cells (len * n)) _ cs (zeroA_rep G z (len * n) h1 (by omega)) (by simp) (parts_rep (fun y hy => hop y (by simpa [ho, Op.operands] using hy))) hf
    have hvs : vs.size = len * n := by rw [h7.size]; exact hcl
    have hpos : ¬ (len * n = 0) := by
      have := Nat.mul_pos hlen h0
      omega
    have h8 : (Instr.buildSlice t len (parts.map fun (i, x) => (i, ρ x))).run P G.w = .ok (.slice (some ⟨G.w.heap.size, 0, none⟩) len len) (G.w.alloc (.cells vs e)) := by
      have hsm' : ¬ (16777216 < len * n) := by omega
      have h6' : Instr.fill (fun i => some (i * n, n)) (Array.map (fun x => z.cells[x % z.cells.size]!) (Array.range (len * n))) (parts.map fun (i, x) => (i, ρ x)).toList = some vs := h6
      simp only [Array.toList_map] at h6'
      simp [Instr.buildSlice, run_underlying (zdi ht), zcg hi, hsm', hpos, zeroValue, typeInfo, h2, h3, h6', newRow]
    have hrow := chunks_row h7 hcl
    let G1 : Cx := { G with w := G.w.alloc (.cells vs e), St := fun b o => G.St b o ∨ b = G.w.heap.size }
    have hbel : Below G.w.heap.size G.w (G.w.alloc (.cells vs e)) := (Below.refl _ _).alloc (Nat.le_refl _) _
    obtain ⟨g1, g2⟩ := after_call (G1 := G1) hr rfl hbel (fun _ _ h => .inl h) (fun b o h => h.imp (fun h => h) (fun h => by omega)) (fun b o h => by
      have hsz : (G.w.alloc (.cells vs e)).heap.size = G.w.heap.size + 1 := by simp
      show b < (G.w.alloc (.cells vs e)).heap.size
      rw [hsz]
      rcases h with h | h
      · have := hr.st b o h; omega
      · omega)
    refine ⟨.slice (some ⟨G.w.heap.size, 0, none⟩) len len, _, ?_, g1, g2, ?_⟩
    · simp only [execOp, ho, Sem.run_bind, h8, Result.andThen_ok, Sem.run_pure]; rfl
    · have hlen2 : (chunks n len cs).length = len := chunks_length n len cs
      have hcell : ∀ j v, vs[j]? = some v → (G.w.alloc (.cells vs e)).cell? ⟨G.w.heap.size, j, none⟩ = some v := fun j v hv => by
        rw [cell_of_row _ _ _ vs e (0, 0) (heap_alloc_new G.w _), hv]
      have := Rep.sl (G := { G with w := G.w.alloc (.cells vs e), St := G1.St }) G.w.heap.size 0 len n (chunks n len cs) (fun k j => vs.getD (k * n + j) undef) (by rw [hlen2]; exact Nat.le_refl _) (by rw [hlen2]; have : len ≤ len * n := Nat.le_mul_of_pos_right _ h0; unfold maxLen; omega)
        (fun k x hk => ⟨(hrow k x hk).1, (hrow k x hk).2.1⟩) (fun k x j c hk hc => by
          obtain ⟨u, h9, h10⟩ := (hrow k x hk).2.2 j c hc
          refine ⟨.inr rfl, ?_⟩
          rw [Nat.zero_add, hcell _ u h9, Array.getD_eq_getD_getElem?, h9]; rfl) (fun k x j c hk hc => by
          obtain ⟨u, h9, h10⟩ := (hrow k x hk).2.2 j c hc
          rw [Array.getD_eq_getD_getElem?, h9]
          exact h10.ext g1)
      rw [hlen2] at this
      exact this
theorem evLitF_ok {t : TypeId} {len : Nat} {parts : Array (Nat × Operand)} {r : ER} (ho : o.op = .buildSlice t len parts) (h : evLitF P t len (parts.toList.map fun (i, x) => (i, F.eval x)) s = some r) : OpOk P o F s r := by
  unfold evLitF at h
  split at h
  · cases h
  · rename_i e ht
    split at h
    · rename_i z n bt hi
      generalize hb : ((ofValue z).cells.all AV.one && Nat.beq (ofValue z).cells.length n && Nat.blt 0 n && Nat.blt 0 len && Nat.ble (len * n) 16777216) = b at h
      cases b with
      | false => cases h
      | true =>
        rw [cond_true] at h
        simp only [Bool.and_eq_true] at hb
        obtain ⟨⟨⟨⟨h1, h2⟩, h3⟩, h3'⟩, h4⟩ := hb
        split at h
        · rename_i cs hf
          cases hc : Nat.beq cs.length (len * n) with
          | false => rw [hc] at h; cases h
          | true =>
            rw [hc] at h; cases h
            exact .free _ (fun σ => does_litF ho ht hi h1 (Nat.eq_of_beq_eq_true h2) (by simpa [Nat.blt_eq] using h3) (by simpa [Nat.blt_eq] using h3') (Nat.le_of_ble_eq_true h4) hf (Nat.eq_of_beq_eq_true hc))
        · cases h
    · cases h
theorem evMake_ok {t : TypeId} {y y' : Operand} {r : ER} (ho : o.op = .makeSlice t y y') (h : evMake P t s (F.eval y) (F.eval y') = some r) : OpOk P o F s r := by
  generalize hx : F.eval y = u at h
  generalize hy : F.eval y' = w at h
  unfold evMake at h
  split at h
  · rename_i kl l kc c
    split at h
    · cases h
    · rename_i e ht
      split at h
      · rename_i z n bt hi
        generalize hb : ((ofValue z).cells.all AV.one && Nat.beq (ofValue z).cells.length n && Nat.blt 0 n && Nat.ble l c && Nat.ble (bt * c) 281474976710656 && Nat.ble c 9223372036854775807) = b at h
        cases b with
        | false => cases h
        | true =>
          cases h
          simp only [Bool.and_eq_true] at hb
          obtain ⟨⟨⟨⟨⟨h1, h2⟩, h3⟩, h4⟩, h5⟩, h6⟩ := hb
          have g1 := does_make (P := P) (F := F) (σ := s.abs) ho ht hi h1 (Nat.eq_of_beq_eq_true h2) (by simpa [Nat.blt_eq] using h3) hx hy rfl rfl (Nat.le_of_ble_eq_true h4) (Nat.le_of_ble_eq_true h5) (Nat.le_of_ble_eq_true h6)
          rw [Sto.abs_len] at g1
          exact eff_push g1
      · cases h
  · cases h
theorem evLen_ok {t : TypeId} {x : Operand} {v : Value} (ho : o.op = .call { callee := .builtin .len, args := #[x], argTypes := #[t] }) (h : evLen P t (F.eval x) = some v) : Does P o F σ (.s v) σ := by
  generalize hx : F.eval x = u at h
  have hsl : ∀ {w : Value}, (bif (zbu P t).isSome then some w else none) = some v → w = v ∧ ∃ e, zbu P t = some e := by
    intro w h
    cases ht : zbu P t with
    | none => rw [ht] at h; cases h
    | some e => rw [ht] at h; cases h; exact ⟨rfl, e, rfl⟩
  unfold evLen at h
  split at h
  · obtain ⟨rfl, e, ht⟩ := hsl h; exact za8 ho ht hx
  · obtain ⟨rfl, e, ht⟩ := hsl h; exact za2 ho ht hx
  · obtain ⟨rfl, e, ht⟩ := hsl h; exact does_len_sub ho ht hx
  · obtain ⟨rfl, e, ht⟩ := hsl h; exact za3 ho ht hx
  · obtain ⟨rfl, e, ht⟩ := hsl h; exact zbc ho ht hx
  · cases hb : tyString P t with
    | false => rw [hb] at h; cases h
    | true => rw [hb] at h; cases h; exact does_len_str ho hb hx
  · cases h
theorem evAppend_ok {t : TypeId} {x y : Operand} {r : ER} (ho : o.op = .call { callee := .builtin .append, args := #[x, y], argTypes := #[t, t] }) (h : evAppend P t s (F.eval x) (F.eval y) = some r) : OpOk P o F s r := by
  generalize hx : F.eval x = u at h
  unfold evAppend at h
  split at h
  · cases h
  · rename_i e ht
    split at h
    · rename_i z sz bt hi
      generalize hb : (Nat.beq z.cells.size sz && Nat.blt 0 sz) = b at h
      cases b with
      | false => cases h
      | true =>
        rw [cond_true] at h
        simp only [Bool.and_eq_true] at hb
        obtain ⟨h1, h2⟩ := hb
        have h2 : 0 < sz := by simpa [Nat.blt_eq] using h2
        split at h
        · cases h
        · rename_i l hl
          have hsrc := srcOf_ok hl
          split at h
          · rename_i id sz' n
            split at h
            · rename_i sz2 cs hs
              generalize hb : (Nat.beq sz' sz && Nat.beq sz2 sz && Nat.beq n cs.length && Nat.ble (cs.length + l.length) maxLen && Nat.ble ((cs.length + l.length) * bt) 140737488355328) = b at h
              cases b with
              | false => cases h
              | true =>
                cases h
                simp only [Bool.and_eq_true] at hb
                obtain ⟨⟨⟨⟨g1, g2⟩, g3⟩, g4⟩, g5⟩ := hb
                obtain rfl := Nat.eq_of_beq_eq_true g1
                obtain rfl := Nat.eq_of_beq_eq_true g2
                have q1 := zcx (P := P) (F := F) (σ := s.abs) ho ht hi (Nat.eq_of_beq_eq_true h1) h2 hx (sto_at hs) (Nat.eq_of_beq_eq_true g3) rfl hsrc (Nat.le_of_ble_eq_true g4) (Nat.le_of_ble_eq_true g5)
                rw [Sto.abs_len] at q1
                refine .eff _ _ _ (by rw [Sto.push_abs, Sto.set_abs]; exact q1) (fun i hi2 => ?_)
                have hi3 : i ≠ id ∧ i ≠ s.len := by simpa using hi2
                rw [Sto.push_abs, Sto.set_abs, zc7 (by rw [List.length_set, Sto.abs_len]; simpa using hi3.2), zcq (by simpa using hi3.1)]
            · cases h
          · generalize hb : (Nat.ble l.length maxLen && Nat.ble (l.length * bt) 140737488355328) = b at h
            cases b with
            | false => cases h
            | true =>
              cases h
              simp only [Bool.and_eq_true] at hb
              have q1 := zb1 (P := P) (F := F) (σ := s.abs) ho ht hi (Nat.eq_of_beq_eq_true h1) h2 hx (.inl rfl) rfl hsrc (Nat.le_of_ble_eq_true hb.1) (Nat.le_of_ble_eq_true hb.2)
              rw [Sto.abs_len] at q1
              exact eff_push q1
          · generalize hb : (Nat.ble l.length maxLen && Nat.ble (l.length * bt) 140737488355328) = b at h
            cases b with
            | false => cases h
            | true =>
              cases h
              simp only [Bool.and_eq_true] at hb
              have q1 := zb1 (P := P) (F := F) (σ := s.abs) ho ht hi (Nat.eq_of_beq_eq_true h1) h2 hx (.inr rfl) rfl hsrc (Nat.le_of_ble_eq_true hb.1) (Nat.le_of_ble_eq_true hb.2)
              rw [Sto.abs_len] at q1
              exact eff_push q1
          · cases h
    · cases h
/-- append to a row of which fewer elements are told -/
def evAppT (P : Program) (t : TypeId) (σ : Sto) (x y : AV) : Option ER := match evAppend P t σ x y with
  | some r => some r
  | none => match x with
    | .own id _ n => match σ.get id with
      | some (.row sz cs) => match evAppend P t (σ.set id (.row sz (cs.take n))) x y with
        | some (r, s1, .eff W) => bif W.contains id then some (r, s1, .eff W) else none
        | _ => none
      | _ => none
    | _ => none
theorem evAppT_ok {t : TypeId} {x y : Operand} {r : ER} (ho : o.op = .call { callee := .builtin .append, args := #[x, y], argTypes := #[t, t] }) (h : evAppT P t s (F.eval x) (F.eval y) = some r) : OpOk P o F s r := by
  unfold evAppT at h
  split at h
  · rename_i r' hr; cases h; exact evAppend_ok ho hr
  · split at h
    · rename_i id _ n hx
      split at h
      · rename_i sz cs hs
        split at h
        · rename_i r' s1 W he
          cases hb : W.contains id with
          | false => rw [hb] at h; cases h
          | true =>
            rw [hb, cond_true] at h
            cases h
            have hid : id ∈ W := by simpa using hb
            have hk := evAppend_ok (o := o) ho he
            have hD := hk.does
            rw [Sto.set_abs] at hD
            cases hk with
            | eff _ _ _ h1 hW =>
              refine .eff _ _ _ (does_trunc (sto_at hs) hD) (fun i hi => ?_)
              rw [hW i hi, Sto.set_abs]
              exact zcq (by intro e; exact hi (by rw [show i = id by simpa using e]; exact hid))
        · cases h
      · cases h
    · cases h
theorem evMinMax_ok {b : Builtin} {x y : Operand} {t t' : TypeId} {v : Value} (ho : o.op = .call { callee := .builtin b, args := #[x, y], argTypes := #[t, t'] }) (h : evMinMax b (F.eval x) (F.eval y) = some v) : Does P o F σ (.s v) σ := by
  generalize hx : F.eval x = u at h
  generalize hy : F.eval y = w at h
  unfold evMinMax at h
  split at h
  · split at h
    · cases h; exact does_max ho hx hy rfl
    · cases h; exact does_min ho hx hy rfl
    · cases h
  · cases h
theorem evCopy_ok {t : TypeId} {x y : Operand} {r : ER} (ho : o.op = .call { callee := .builtin .copy, args := #[x, y], argTypes := #[t, t] }) (h : evCopy P t s (F.eval x) (F.eval y) = some r) : OpOk P o F s r := by
  unfold evCopy at h
  split at h
  · cases h
  · rename_i e ht
    split at h
    · rename_i z sz bt hi
      generalize hb : Nat.blt 0 sz = b at h
      cases b with
      | false => cases h
      | true =>
        have hsz : 0 < sz := by simpa [Nat.blt_eq] using hb
        rw [cond_true] at h
        split at h
        · rename_i l id k n hl hd
          split at h
          · rename_i sz2 cs hs
            generalize hb : (Nat.beq sz2 sz && Nat.ble (k + n) cs.length) = b at h
            cases b with
            | false => cases h
            | true =>
              cases h
              simp only [Bool.and_eq_true] at hb
              obtain rfl := Nat.eq_of_beq_eq_true hb.1
              exact eff_set (does_copy ho ht hi hsz rfl (dstOf_ok hd) (sto_at hs) (Nat.le_of_ble_eq_true hb.2) rfl (srcOf_ok hl))
          · cases h
        · cases h
    · cases h
end
end Go.Proofs.YtmoipmnhgdmkpaaGreat.Aw
end
section
namespace Go.Proofs.YtmoipmnhgdmkpaaGreat.Aw
set_option linter.unusedSimpArgs false
set_option linter.unusedVariables false
open Go.RowKit
section
variable {P : Program} {N : Nat} {l : List Oper} {F F' : Frm} {σ : List Ob} {out : List (Nat × AV)} {Q : Exit → Frm → List Ob → Prop}
theorem adraw_of (h : EDraw P N l F σ Q) : ADraw P N l F σ Q := fun G a hs =>
  wpAny_mono (fun e a w q => by obtain ⟨G', F', σ', h1, h2, h3, h4⟩ := q; exact ⟨G', F', σ', h1, h2.step, h3, h4⟩) _ _ _ _ (h G a hs)
def EX (P : Program) (N : Nat) (ops : Array Oper) (all : List Oper) (acc : List Kd) (l : List Oper) (F : Frm) (σ : List Ob) (K : Frm → List Ob → Prop) : Prop :=
  ∃ F' σ' out ks sts, ESteps P N ops l F σ F' σ' out ks sts ∧ eOk all N (acc.reverse ++ ks) = true ∧ K F' σ'
variable {ops : Array Oper} {all : List Oper} {acc : List Kd} {K : Frm → List Ob → Prop} {o : Oper} {d : Nat} {x : AV} {σ1 : List Ob}
theorem ex_nil (hk : eOk all N acc.reverse = true) (h : K F σ) : EX P N ops all acc [] F σ K := ⟨F, σ, [], [], [], .nil F σ, by simpa using hk, h⟩
theorem dOk_s (hd : o.dst = some d) (hN : Nat.blt d N = true) : dOk N o = true := by unfold dOk; rw [hd]; exact hN
theorem dOk_n (hd : o.dst = none) : dOk N o = true := by unfold dOk; rw [hd]
theorem zao (hd : o.dst = some d) (hN : Nat.blt d N = true) (hr : Runs ops F o true) (hD : ∀ σ, Does P o F σ x σ) (h : EX P N ops all (.free :: acc) l ((d, x) :: F) σ K) : EX P N ops all acc (o :: l) F σ K := by
  obtain ⟨F', σ', out, ks, sts, h1, h2, h3⟩ := h
  exact ⟨F', σ', _, _, _, .free o l F F' σ σ' x out ks sts (dOk_s hd hN) hr hD (by rw [zcs hd]; exact h1), by simpa using h2, h3⟩
theorem zbz {R : List Nat} (hd : o.dst = some d) (hN : Nat.blt d N = true) (hr : Runs ops F o true) (hD : ∀ σ2, (∀ id ∈ R, σ2[id]? = σ[id]?) → Does P o F σ2 x σ2) (h : EX P N ops all (.look R :: acc) l ((d, x) :: F) σ K) : EX P N ops all acc (o :: l) F σ K := by
  obtain ⟨F', σ', out, ks, sts, h1, h2, h3⟩ := h
  exact ⟨F', σ', _, _, _, .look o l F F' σ σ' x out ks sts R (dOk_s hd hN) hr hD (by rw [zcs hd]; exact h1), by simpa using h2, h3⟩
theorem ex_eff {W : List Nat} (hd : o.dst = some d) (hN : Nat.blt d N = true) (hr : Runs ops F o true) (hD : Does P o F σ x σ1) (hW : ∀ id, id ∉ W → σ1[id]? = σ[id]?) (h : EX P N ops all (.eff W :: acc) l ((d, x) :: F) σ1 K) : EX P N ops all acc (o :: l) F σ K := by
  obtain ⟨F', σ', out, ks, sts, h1, h2, h3⟩ := h
  exact ⟨F', σ', _, _, _, .eff o l F F' σ σ1 σ' x out ks sts W (dOk_s hd hN) hr hD hW (by rw [zcs hd]; exact h1), by simpa using h2, h3⟩
theorem ex_eff0 {W : List Nat} (hd : o.dst = none) (hr : Runs ops F o true) (hD : Does P o F σ x σ1) (hW : ∀ id, id ∉ W → σ1[id]? = σ[id]?) (h : EX P N ops all (.eff W :: acc) l ((N, .any) :: F) σ1 K) : EX P N ops all acc (o :: l) F σ K := by
  obtain ⟨F', σ', out, ks, sts, h1, h2, h3⟩ := h
  exact ⟨F', σ', _, _, _, .eff o l F F' σ σ1 σ' x out ks sts W (dOk_n hd) hr hD hW (by rw [ent_none hd]; exact h1), by simpa using h2, h3⟩
theorem zda (h : EX P N l.toArray l [] l F σ (fun F' σ' => Q .normal F' σ')) : ADraw P N l F σ Q := by
  obtain ⟨F', σ', out, ks, sts, h1, h2, h3⟩ := h
  exact adraw_of (edraw_steps h1 (by simpa using h2) h3)
theorem zc9 {t : TypeId} {x : Operand} {id sz k j : Nat} {ob : Ob} {cs : List AV} {e c : AV} (ho : o.op = .load t x) (ha : tyAgg P t = some false) (hx : F.eval x = .ptr id sz k j) (hs : σ[id]? = some ob) (hb : rowOf ob = some (sz, cs)) (he : cs[k]? = some e) (hc : e.cells[j]? = some c) : ∀ σ2 : List Ob, (∀ i ∈ [id], σ2[i]? = σ[i]?) → Does P o F σ2 c σ2 :=
  fun σ2 h => zap ho ha hx ((h id (by simp)).trans hs) hb he hc
theorem zce {t : TypeId} {x : Operand} {z : Option Value} {n bt : Nat} {id sz k : Nat} {ob : Ob} {cs : List AV} {e : AV} (ho : o.op = .load t x) (ha : tyAgg P t = some true) (hi : zb3 P t = some (z, n, bt)) (hx : F.eval x = .ptr id sz k 0) (hs : σ[id]? = some ob) (hb : rowOf ob = some (sz, cs)) (he : cs[k]? = some e) (hn : e.cells.length = n) : ∀ σ2 : List Ob, (∀ i ∈ [id], σ2[i]? = σ[i]?) → Does P o F σ2 (.agg e.cells) σ2 :=
  fun σ2 h => za9 ho ha hi hx ((h id (by simp)).trans hs) hb he hn
theorem zcn {t : TypeId} {x : Operand} {z : Option Value} {n bt : Nat} {id sz k j : Nat} {ob : Ob} {cs : List AV} {e : AV} (ho : o.op = .load t x) (ha : tyAgg P t = some true) (hi : zb3 P t = some (z, n, bt)) (hx : F.eval x = .ptr id sz k j) (hs : σ[id]? = some ob) (hb : rowOf ob = some (sz, cs)) (he : cs[k]? = some e) (hn : j + n ≤ e.cells.length) : ∀ σ2 : List Ob, (∀ i ∈ [id], σ2[i]? = σ[i]?) → Does P o F σ2 (.agg ((e.cells.drop j).take n)) σ2 :=
  fun σ2 h => zba ho ha hi hx ((h id (by simp)).trans hs) hb he hn
theorem app2_other {id i : Nat} {ob ob' : Ob} (h : id ∉ [i, σ.length]) : (σ.set i ob ++ [ob'])[id]? = σ[id]? := by
  have h2 : id ≠ i ∧ id ≠ σ.length := by simpa using h
  rw [zc7 (by rw [List.length_set]; simpa using h2.2), zcq (by simpa using h2.1)]
/-- results: a struct in a variable, a slot -/
theorem zc6 {ad u : Nat} {ty : TypeId} {id sz k n bt : Nat} {z : Option Value} {ob : Ob} {cs : List AV} {e1 y r : AV} {e : Exit} (he : e = .normal ∨ e = .ret) (ha : tyAgg P ty = some true) (hi : zb3 P ty = some (z, n, bt)) (hp : F.get ad = .ptr id sz k 0) (hs : σ[id]? = some ob) (ho : rowOf ob = some (sz, cs)) (hk : cs[k]? = some e1) (hn : e1.cells.length = n) (hu : F.get u = y) (hr : AV.tup [.agg e1.cells, y] = r) : APost P [.cell ad ty, .tmp u] r e F σ :=
  ⟨he, [.agg e1.cells, y], .cons _ _ _ _ (.cells ad ty id sz k n bt z ob cs e1 ha hi hp hs ho hk hn) (.cons _ _ _ _ (.tmp u y hu) .nil), hr ▸ .refl _⟩
end
end Go.Proofs.YtmoipmnhgdmkpaaGreat.Aw
end
section
namespace Go.Proofs.YtmoipmnhgdmkpaaGreat.Aw
set_option linter.unusedSimpArgs false
set_option linter.unusedVariables false
set_option linter.unusedSectionVars false
open Go.RowKit Go.Proofs
variable {P : Program} [IsP P]

theorem all_t {α : Type} [Inhabited α] {p : α → Bool} {l : List α} (h : ∀ j, j < l.length → p (gti l j) = true) : l.all p = true := by
  rw [List.all_eq_true]
  intro a ha
  obtain ⟨j, hj, rfl⟩ := List.mem_iff_getElem.1 ha
  have h2 := zdj hj
  rw [List.getElem?_eq_getElem hj] at h2
  rw [Option.some.inj h2]; exact h j hj
theorem all_f {α : Type} [Inhabited α] {p : α → Bool} {l : List α} {k : Nat} (hk : k < l.length) (h : p (gti l k) = false) : l.all p = false := by
  rw [List.all_eq_false]
  exact ⟨gti l k, gti_mem hk, by rw [h]; simp⟩
theorem rg_t {n : Nat} {p : Nat → Bool} (h : ∀ j, j < n → p j = true) : (List.range n).all p = true := by
  rw [List.all_eq_true]; intro j hj; exact h j (by simpa using hj)
theorem rg_f {n k : Nat} {p : Nat → Bool} (hk : k < n) (h : p k = false) : (List.range n).all p = false := by
  rw [List.all_eq_false]; exact ⟨k, by simpa using hk, by rw [h]; simp⟩
structure Sft where
  pd : List Int
  cost : Int
  most : Int
instance : Inhabited Sft := ⟨⟨[], 0, 0⟩⟩
def eSh (s : Sft) : AV := .agg [eL eI s.pd, eI s.cost, eI s.most]
theorem lo_Sh (s : Sft) : Lo 0 (eSh s) := .agg _ (zae (zak fun _ => .s _) (zae (.s _) (zae (.s _) zaj)))
theorem lo_Int (n : Int) : Lo 0 (eI n) := .s _
theorem indexFS_pf (f : FuncId) (caps : List AV) (p : Sft → Bool) (l : List Sft) (hlo : ∀ a : Sft, Lo 0 (eSh a)) (hlc : Lo 0 (.fn f caps)) (hf : ∀ a ∈ l, Pure P f ([eSh a] ++ caps) (eB (p a))) :
    Pure P 28 [eL eSh l, .fn f caps] (eI (firstAt p l)) := by
  refine zc4 (by rw [IsP.eq (P := P)]; exact Tryz.func28) rfl rfl rfl rfl rfl (zae (zak hlo) (zae hlc zaj)) (.s _) (by simp only [argF]; rfl) ?_
  refine zc5 (d := 0) rfl (fun hmx => ?_)
  unfold maxLen at hmx
  repeat (first | refine zag ?_ | refine zar ?_ | refine zad ?_ | refine zas ?_ | refine zac ?_)
  refine zaf ?_
  refine zab rfl rfl (zaa rfl) (mv_s (.inr rfl) rfl) ?_
  refine zan ?_
  repeat (first | refine zag ?_ | refine zar ?_ | refine zad ?_ | refine zas ?_ | refine zac ?_)
  refine zaf ?_
  first | refine zab rfl rfl (zaa rfl) (za6 (.inl rfl) rfl) ?_ | refine zab rfl rfl (zaa rfl) (zbg (.inl rfl) rfl) ?_ | refine zab rfl rfl (zaa rfl) (mv_s (.inl rfl) rfl) ?_ | refine zab rfl rfl (zaa rfl) (za7 (.inl rfl) rfl) ?_
  first | refine zab rfl rfl (zaa rfl) (za4 rfl ts23 rfl) ?_ | refine zab rfl rfl (zaa rfl) (za8 rfl ts23 rfl) ?_ | refine zab rfl rfl (zaa rfl) (za2 rfl ts23 rfl) ?_ | refine zab rfl rfl (zaa rfl) (zbc rfl ts23 rfl) ?_ | refine zab rfl rfl (zaa rfl) (za3 rfl ts23 rfl) ?_
  refine zab rfl rfl (zaa rfl) (mv_s (.inl rfl) rfl) ?_
  refine zan ?_
  repeat (first | refine zag ?_ | refine zar ?_ | refine zad ?_ | refine zas ?_ | refine zac ?_)
  refine zcc (S := Nat) (fun k => [(0, eL eSh l), (1, .fn f caps), (7, eI l.length), (8, eI k)]) (fun _ => []) (fun k => k ≤ l.length ∧ ∀ j a, j < k → l[j]? = some a → p a = false) (fun k => l.length - k) 0 (wk_sub _ ⟨rfl, rfl, rfl, rfl, trivial⟩) ⟨by omega, fun j a hj => by omega⟩ (fun k hk => ?_)
  repeat (first | refine zag ?_ | refine zar ?_ | refine zad ?_ | refine zas ?_ | refine zac ?_)
  refine zaf ?_
  refine zab rfl rfl (zaa rfl) (zbb rfl rfl rfl) ?_
  refine zan ?_
  repeat (first | refine zag ?_ | refine zar ?_ | refine zad ?_ | refine zas ?_ | refine zac ?_)
  refine aw_if rfl (fun h => ?_) (fun h => ?_)
  · have hlt : k < l.length := by omega
    repeat (first | refine zag ?_ | refine zar ?_ | refine zad ?_ | refine zas ?_ | refine zac ?_)
    refine zaf ?_
    refine zab rfl rfl (zaa rfl) (mv_s (.inl rfl) rfl) ?_
    refine zab rfl rfl (zaa rfl) (mv_s (.inr rfl) rfl) ?_
    refine zan ?_
    repeat (first | refine zag ?_ | refine zar ?_ | refine zad ?_ | refine zas ?_ | refine zac ?_)
    have hp := hf (gti l k) (gti_mem hlt)
    refine zaf ?_
    first | refine zab rfl rfl (zaa rfl) (mv_fn (.inl rfl) rfl) ?_ | refine zab rfl rfl (zaa rfl) (mv_s (.inl rfl) rfl) ?_
    first | refine zab rfl rfl (zaa rfl) (za6 (.inl rfl) rfl) ?_ | refine zab rfl rfl (zaa rfl) (zbg (.inl rfl) rfl) ?_ | refine zab rfl rfl (zaa rfl) (mv_s (.inl rfl) rfl) ?_ | refine zab rfl rfl (zaa rfl) (za7 (.inl rfl) rfl) ?_
    refine zab rfl rfl (zaa rfl) (mv_s (.inl rfl) rfl) ?_
    first | refine zab rfl rfl (zaa rfl) (za1 rfl ts23 ti36 rfl rfl rfl (zb5 (by omega)) rfl) ?_ | refine zab rfl rfl (zaa rfl) (zay rfl ts23 ti36 rfl rfl rfl (by omega)) ?_
    first | refine zab rfl rfl (zaa rfl) (za0 rfl ta36 ti36 rfl rfl) ?_ | refine zab rfl rfl (zaa rfl) (za9 rfl ta36 ti36 rfl rfl rfl rfl rfl) ?_ | refine zab rfl rfl (zaa rfl) (zaz rfl ta36 ti36 rfl (Nat.le_of_ble_eq_true rfl)) ?_ | refine zab rfl rfl (zaa rfl) (zba rfl ta36 ti36 rfl rfl rfl rfl (Nat.le_of_ble_eq_true rfl)) ?_
    refine zab rfl rfl (zaa rfl) (za5 rfl rfl (hp) (zau rfl zbj)) ?_
    refine zan ?_
    repeat (first | refine zag ?_ | refine zar ?_ | refine zad ?_ | refine zas ?_ | refine zac ?_)
    refine aw_cond rfl (fun h => ?_) (fun h => ?_)
    · repeat (first | refine zag ?_ | refine zar ?_ | refine zad ?_ | refine zas ?_ | refine zac ?_)
      refine zaf ?_
      refine zab rfl rfl (zaa rfl) (mv_s (.inl rfl) rfl) ?_
      refine zab rfl rfl (zaa rfl) (mv_s (.inr rfl) rfl) ?_
      refine zan ?_
      repeat (first | refine zag ?_ | refine zar ?_ | refine zad ?_ | refine zas ?_ | refine zac ?_)
      (refine zbs ?_; repeat (first | refine zb8 ?_ | refine zb9 ?_))
      exact zcm (.inr rfl) rfl (congrArg eI (firstAt_some (zdj hlt) h hk.2).symm)
    · repeat (first | refine zag ?_ | refine zar ?_ | refine zad ?_ | refine zas ?_ | refine zac ?_)
      refine zaf ?_
      refine zab rfl rfl (zaa rfl) (zb2 rfl rfl rfl (IntWalk.i64_in _ (by omega))) ?_
      refine zab rfl rfl (zaa rfl) (mv_s (.inl rfl) rfl) ?_
      refine zan ?_
      repeat (first | refine zag ?_ | refine zar ?_ | refine zad ?_ | refine zas ?_ | refine zac ?_)
      refine ⟨k + 1, ⟨by omega, fun j a hj ha => ?_⟩, by omega, wk_sub _ ⟨rfl, rfl, rfl, rfl, trivial⟩⟩
      by_cases e : j = k
      · subst e
        rw [zdj hlt] at ha
        cases ha
        exact h
      · exact hk.2 j a (by omega) ha
  · (refine zcl ?_; repeat (first | refine ath_x ?_ | refine zci ?_ | refine zcb rfl ?_ | refine zas ?_ | refine zar ?_ | refine zag ?_ | refine zad ?_ | refine zac ?_))
    refine zaf ?_
    refine zab rfl rfl (zaa rfl) (mv_s (.inr rfl) rfl) ?_
    refine zan ?_
    repeat (first | refine zag ?_ | refine zar ?_ | refine zad ?_ | refine zas ?_ | refine zac ?_)
    (refine zbs ?_; repeat (first | refine zb8 ?_ | refine zb9 ?_))
    exact zcm (.inr rfl) rfl (congrArg eI (firstAt_none (fun j a hj ha => hk.2 j a (by omega) ha)).symm)
theorem containsFS_pf (f : FuncId) (caps : List AV) (p : Sft → Bool) (l : List Sft) (hlo : ∀ a : Sft, Lo 0 (eSh a)) (hlc : Lo 0 (.fn f caps)) (hf : ∀ a ∈ l, Pure P f ([eSh a] ++ caps) (eB (p a))) :
    Pure P 11 [eL eSh l, .fn f caps] (eB (l.any p)) := by
  refine zc4 (by rw [IsP.eq (P := P)]; exact Tryz.func11) rfl rfl rfl rfl rfl (zae (zak hlo) (zae hlc zaj)) (.s _) (by simp only [argF]; rfl) ?_
  have hi := indexFS_pf f caps p l hlo hlc hf
  repeat (first | refine zag ?_ | refine zar ?_ | refine zad ?_ | refine zas ?_ | refine zac ?_)
  refine zaf ?_
  refine zab rfl rfl (zaa rfl) (mv_s (.inr rfl) rfl) ?_
  refine zan ?_
  repeat (first | refine zag ?_ | refine zar ?_ | refine zad ?_ | refine zas ?_ | refine zac ?_)
  refine zaf ?_
  first | refine zab rfl rfl (zaa rfl) (za6 (.inl rfl) rfl) ?_ | refine zab rfl rfl (zaa rfl) (zbg (.inl rfl) rfl) ?_ | refine zab rfl rfl (zaa rfl) (mv_s (.inl rfl) rfl) ?_ | refine zab rfl rfl (zaa rfl) (za7 (.inl rfl) rfl) ?_
  first | refine zab rfl rfl (zaa rfl) (mv_fn (.inl rfl) rfl) ?_ | refine zab rfl rfl (zaa rfl) (mv_s (.inl rfl) rfl) ?_
  refine zab rfl rfl (zaa rfl) (za5 rfl rfl (hi) (zau rfl (zau rfl zbj))) ?_
  refine zab rfl rfl (zaa rfl) (zcp rfl rfl rfl) ?_
  refine zab rfl rfl (zaa rfl) (mv_s (.inr rfl) rfl) ?_
  refine zan ?_
  repeat (first | refine zag ?_ | refine zar ?_ | refine zad ?_ | refine zas ?_ | refine zac ?_)
  (refine zbs ?_; repeat (first | refine zb8 ?_ | refine zb9 ?_))
  exact zcm (.inr rfl) rfl (congrArg eB (firstAt_any p l))
theorem indexFI_pf (f : FuncId) (caps : List AV) (p : Int → Bool) (l : List Int) (hlo : ∀ a : Int, Lo 0 (eI a)) (hlc : Lo 0 (.fn f caps)) (hf : ∀ a ∈ l, Pure P f ([eI a] ++ caps) (eB (p a))) :
    Pure P 42 [eL eI l, .fn f caps] (eI (firstAt p l)) := by
  refine zc4 (by rw [IsP.eq (P := P)]; exact Tryz.func42) rfl rfl rfl rfl rfl (zae (zak hlo) (zae hlc zaj)) (.s _) (by simp only [argF]; rfl) ?_
  refine zc5 (d := 0) rfl (fun hmx => ?_)
  unfold maxLen at hmx
  repeat (first | refine zag ?_ | refine zar ?_ | refine zad ?_ | refine zas ?_ | refine zac ?_)
  refine zaf ?_
  refine zab rfl rfl (zaa rfl) (mv_s (.inr rfl) rfl) ?_
  refine zan ?_
  repeat (first | refine zag ?_ | refine zar ?_ | refine zad ?_ | refine zas ?_ | refine zac ?_)
  refine zaf ?_
  first | refine zab rfl rfl (zaa rfl) (za6 (.inl rfl) rfl) ?_ | refine zab rfl rfl (zaa rfl) (zbg (.inl rfl) rfl) ?_ | refine zab rfl rfl (zaa rfl) (mv_s (.inl rfl) rfl) ?_ | refine zab rfl rfl (zaa rfl) (za7 (.inl rfl) rfl) ?_
  first | refine zab rfl rfl (zaa rfl) (za4 rfl ts22 rfl) ?_ | refine zab rfl rfl (zaa rfl) (za8 rfl ts22 rfl) ?_ | refine zab rfl rfl (zaa rfl) (za2 rfl ts22 rfl) ?_ | refine zab rfl rfl (zaa rfl) (zbc rfl ts22 rfl) ?_ | refine zab rfl rfl (zaa rfl) (za3 rfl ts22 rfl) ?_
  refine zab rfl rfl (zaa rfl) (mv_s (.inl rfl) rfl) ?_
  refine zan ?_
  repeat (first | refine zag ?_ | refine zar ?_ | refine zad ?_ | refine zas ?_ | refine zac ?_)
  refine zcc (S := Nat) (fun k => [(0, eL eI l), (1, .fn f caps), (7, eI l.length), (8, eI k)]) (fun _ => []) (fun k => k ≤ l.length ∧ ∀ j a, j < k → l[j]? = some a → p a = false) (fun k => l.length - k) 0 (wk_sub _ ⟨rfl, rfl, rfl, rfl, trivial⟩) ⟨by omega, fun j a hj => by omega⟩ (fun k hk => ?_)
  repeat (first | refine zag ?_ | refine zar ?_ | refine zad ?_ | refine zas ?_ | refine zac ?_)
  refine zaf ?_
  refine zab rfl rfl (zaa rfl) (zbb rfl rfl rfl) ?_
  refine zan ?_
  repeat (first | refine zag ?_ | refine zar ?_ | refine zad ?_ | refine zas ?_ | refine zac ?_)
  refine aw_if rfl (fun h => ?_) (fun h => ?_)
  · have hlt : k < l.length := by omega
    repeat (first | refine zag ?_ | refine zar ?_ | refine zad ?_ | refine zas ?_ | refine zac ?_)
    refine zaf ?_
    refine zab rfl rfl (zaa rfl) (mv_s (.inl rfl) rfl) ?_
    refine zab rfl rfl (zaa rfl) (mv_s (.inr rfl) rfl) ?_
    refine zan ?_
    repeat (first | refine zag ?_ | refine zar ?_ | refine zad ?_ | refine zas ?_ | refine zac ?_)
    have hp := hf (gti l k) (gti_mem hlt)
    refine zaf ?_
    first | refine zab rfl rfl (zaa rfl) (mv_fn (.inl rfl) rfl) ?_ | refine zab rfl rfl (zaa rfl) (mv_s (.inl rfl) rfl) ?_
    first | refine zab rfl rfl (zaa rfl) (za6 (.inl rfl) rfl) ?_ | refine zab rfl rfl (zaa rfl) (zbg (.inl rfl) rfl) ?_ | refine zab rfl rfl (zaa rfl) (mv_s (.inl rfl) rfl) ?_ | refine zab rfl rfl (zaa rfl) (za7 (.inl rfl) rfl) ?_
    refine zab rfl rfl (zaa rfl) (mv_s (.inl rfl) rfl) ?_
    first | refine zab rfl rfl (zaa rfl) (za1 rfl ts22 ti3 rfl rfl rfl (zb5 (by omega)) rfl) ?_ | refine zab rfl rfl (zaa rfl) (zay rfl ts22 ti3 rfl rfl rfl (by omega)) ?_
    first | refine zab rfl rfl (zaa rfl) (zam rfl ta3 rfl) ?_ | refine zab rfl rfl (zaa rfl) (zap rfl ta3 rfl rfl rfl rfl rfl) ?_
    refine zab rfl rfl (zaa rfl) (za5 rfl rfl (hp) (zau rfl zbj)) ?_
    refine zan ?_
    repeat (first | refine zag ?_ | refine zar ?_ | refine zad ?_ | refine zas ?_ | refine zac ?_)
    refine aw_cond rfl (fun h => ?_) (fun h => ?_)
    · repeat (first | refine zag ?_ | refine zar ?_ | refine zad ?_ | refine zas ?_ | refine zac ?_)
      refine zaf ?_
      refine zab rfl rfl (zaa rfl) (mv_s (.inl rfl) rfl) ?_
      refine zab rfl rfl (zaa rfl) (mv_s (.inr rfl) rfl) ?_
      refine zan ?_
      repeat (first | refine zag ?_ | refine zar ?_ | refine zad ?_ | refine zas ?_ | refine zac ?_)
      (refine zbs ?_; repeat (first | refine zb8 ?_ | refine zb9 ?_))
      exact zcm (.inr rfl) rfl (congrArg eI (firstAt_some (zdj hlt) h hk.2).symm)
    · repeat (first | refine zag ?_ | refine zar ?_ | refine zad ?_ | refine zas ?_ | refine zac ?_)
      refine zaf ?_
      refine zab rfl rfl (zaa rfl) (zb2 rfl rfl rfl (IntWalk.i64_in _ (by omega))) ?_
      refine zab rfl rfl (zaa rfl) (mv_s (.inl rfl) rfl) ?_
      refine zan ?_
      repeat (first | refine zag ?_ | refine zar ?_ | refine zad ?_ | refine zas ?_ | refine zac ?_)
      refine ⟨k + 1, ⟨by omega, fun j a hj ha => ?_⟩, by omega, wk_sub _ ⟨rfl, rfl, rfl, rfl, trivial⟩⟩
      by_cases e : j = k
      · subst e
        rw [zdj hlt] at ha
        cases ha
        exact h
      · exact hk.2 j a (by omega) ha
  · (refine zcl ?_; repeat (first | refine ath_x ?_ | refine zci ?_ | refine zcb rfl ?_ | refine zas ?_ | refine zar ?_ | refine zag ?_ | refine zad ?_ | refine zac ?_))
    refine zaf ?_
    refine zab rfl rfl (zaa rfl) (mv_s (.inr rfl) rfl) ?_
    refine zan ?_
    repeat (first | refine zag ?_ | refine zar ?_ | refine zad ?_ | refine zas ?_ | refine zac ?_)
    (refine zbs ?_; repeat (first | refine zb8 ?_ | refine zb9 ?_))
    exact zcm (.inr rfl) rfl (congrArg eI (firstAt_none (fun j a hj ha => hk.2 j a (by omega) ha)).symm)
theorem containsFI_pf (f : FuncId) (caps : List AV) (p : Int → Bool) (l : List Int) (hlo : ∀ a : Int, Lo 0 (eI a)) (hlc : Lo 0 (.fn f caps)) (hf : ∀ a ∈ l, Pure P f ([eI a] ++ caps) (eB (p a))) :
    Pure P 29 [eL eI l, .fn f caps] (eB (l.any p)) := by
  refine zc4 (by rw [IsP.eq (P := P)]; exact Tryz.func29) rfl rfl rfl rfl rfl (zae (zak hlo) (zae hlc zaj)) (.s _) (by simp only [argF]; rfl) ?_
  have hi := indexFI_pf f caps p l hlo hlc hf
  repeat (first | refine zag ?_ | refine zar ?_ | refine zad ?_ | refine zas ?_ | refine zac ?_)
  refine zaf ?_
  refine zab rfl rfl (zaa rfl) (mv_s (.inr rfl) rfl) ?_
  refine zan ?_
  repeat (first | refine zag ?_ | refine zar ?_ | refine zad ?_ | refine zas ?_ | refine zac ?_)
  refine zaf ?_
  first | refine zab rfl rfl (zaa rfl) (za6 (.inl rfl) rfl) ?_ | refine zab rfl rfl (zaa rfl) (zbg (.inl rfl) rfl) ?_ | refine zab rfl rfl (zaa rfl) (mv_s (.inl rfl) rfl) ?_ | refine zab rfl rfl (zaa rfl) (za7 (.inl rfl) rfl) ?_
  first | refine zab rfl rfl (zaa rfl) (mv_fn (.inl rfl) rfl) ?_ | refine zab rfl rfl (zaa rfl) (mv_s (.inl rfl) rfl) ?_
  refine zab rfl rfl (zaa rfl) (za5 rfl rfl (hi) (zau rfl (zau rfl zbj))) ?_
  refine zab rfl rfl (zaa rfl) (zcp rfl rfl rfl) ?_
  refine zab rfl rfl (zaa rfl) (mv_s (.inr rfl) rfl) ?_
  refine zan ?_
  repeat (first | refine zag ?_ | refine zar ?_ | refine zad ?_ | refine zas ?_ | refine zac ?_)
  (refine zbs ?_; repeat (first | refine zb8 ?_ | refine zb9 ?_))
  exact zcm (.inr rfl) rfl (congrArg eB (firstAt_any p l))
def bigS (s : Sft) : Bool := decide (30 < (s.pd.length : Int))
theorem few1_pf (s : Sft) : Pure P 12 [eSh s] (eB (bigS s)) := by
  refine zc4 (by rw [IsP.eq (P := P)]; exact Tryz.func12) rfl rfl rfl rfl rfl (by repeat' (first | exact Lo.s _ | exact zaj | refine zae ?_ ?_ | refine zak ?_ | refine Lo.cells ?_ | refine Lo.agg _ ?_ | refine Lo.ref _ ?_ | refine Lo.tup _ ?_ | refine Lo.fn _ _ ?_ | refine Lo.sl _ ?_ | intro _)) (by repeat' (first | exact Lo.s _ | exact zaj | refine zae ?_ ?_ | refine zak ?_ | refine Lo.cells ?_ | refine Lo.agg _ ?_ | refine Lo.ref _ ?_ | refine Lo.tup _ ?_ | refine Lo.fn _ _ ?_ | refine Lo.sl _ ?_ | intro _)) (by simp only [argF]; rfl) ?_
  repeat (first | refine zag ?_ | refine zar ?_ | refine zad ?_ | refine zas ?_ | refine zac ?_)
  refine zaf ?_
  refine zab rfl rfl (zaa rfl) (zcv rfl rfl rfl rfl) ?_
  refine zbq (zcd (id := 0) rfl) (zbq (zcy (d := 1) rfl rfl rfl) ?_)
  refine zab rfl rfl (zaa rfl) (mv_s (.inr rfl) rfl) ?_
  refine zan ?_
  repeat (first | refine zag ?_ | refine zar ?_ | refine zad ?_ | refine zas ?_ | refine zac ?_)
  refine zaf ?_
  first | refine zab rfl rfl (zaa rfl) (zal rfl zc0 (by decide) rfl) ?_ | refine zab rfl rfl (zaa rfl) (zai rfl zc0 (by decide) rfl) ?_
  first | refine zab rfl rfl (zaa rfl) (zam rfl ta22 rfl) ?_ | refine zab rfl rfl (zaa rfl) (zap rfl ta22 rfl rfl rfl rfl rfl) ?_
  first | refine zab rfl rfl (zaa rfl) (za4 rfl ts22 rfl) ?_ | refine zab rfl rfl (zaa rfl) (za8 rfl ts22 rfl) ?_ | refine zab rfl rfl (zaa rfl) (za2 rfl ts22 rfl) ?_ | refine zab rfl rfl (zaa rfl) (zbc rfl ts22 rfl) ?_ | refine zab rfl rfl (zaa rfl) (za3 rfl ts22 rfl) ?_
  refine zab rfl rfl (zaa rfl) (zbw rfl rfl rfl) ?_
  refine zab rfl rfl (zaa rfl) (mv_s (.inr rfl) rfl) ?_
  refine zan ?_
  repeat (first | refine zag ?_ | refine zar ?_ | refine zad ?_ | refine zas ?_ | refine zac ?_)
  (refine zbs ?_; repeat (first | refine zb8 ?_ | refine zb9 ?_))
  exact zcm (.inr rfl) rfl rfl
def fewB (d : List Int) (l : List Sft) : Bool := decide ((d.length : Int) ≤ 30) && (decide ((l.length : Int) ≤ 15) && !l.any bigS)
theorem few_pf (d : List Int) (l : List Sft) : Pure P 5 [eL eI d, eL eSh l] (eB (fewB d l)) := by
  have hc := containsFS_pf (P := P) 12 [] bigS l lo_Sh (.fn _ _ (by simp)) (fun a _ => few1_pf a)
  have hd : fewB d l = (decide ((d.length : Int) ≤ 30) && (decide ((l.length : Int) ≤ 15) && !l.any bigS)) := rfl
  generalize l.any bigS = z at hc hd
  generalize fewB d l = R at hd ⊢
  refine zc4 (by rw [IsP.eq (P := P)]; exact Tryz.func5) rfl rfl rfl rfl rfl (by repeat' (first | exact Lo.s _ | exact zaj | refine zae ?_ ?_ | refine zak ?_ | refine Lo.cells ?_ | refine Lo.agg _ ?_ | refine Lo.ref _ ?_ | refine Lo.tup _ ?_ | refine Lo.fn _ _ ?_ | refine Lo.sl _ ?_ | intro _)) (by repeat' (first | exact Lo.s _ | exact zaj | refine zae ?_ ?_ | refine zak ?_ | refine Lo.cells ?_ | refine Lo.agg _ ?_ | refine Lo.ref _ ?_ | refine Lo.tup _ ?_ | refine Lo.fn _ _ ?_ | refine Lo.sl _ ?_ | intro _)) (by simp only [argF]; rfl) ?_
  repeat (first | refine zag ?_ | refine zar ?_ | refine zad ?_ | refine zas ?_ | refine zac ?_)
  refine zaf ?_
  refine zab rfl rfl (zaa rfl) (mv_s (.inr rfl) rfl) ?_
  refine zan ?_
  repeat (first | refine zag ?_ | refine zar ?_ | refine zad ?_ | refine zas ?_ | refine zac ?_)
  all_goals refine zaf ?_
  all_goals (first | refine zab rfl rfl (zaa rfl) (za6 (.inl rfl) rfl) ?_ | refine zab rfl rfl (zaa rfl) (zbg (.inl rfl) rfl) ?_ | refine zab rfl rfl (zaa rfl) (mv_s (.inl rfl) rfl) ?_ | refine zab rfl rfl (zaa rfl) (za7 (.inl rfl) rfl) ?_)
  all_goals (first | refine zab rfl rfl (zaa rfl) (za4 rfl ts22 rfl) ?_ | refine zab rfl rfl (zaa rfl) (za8 rfl ts22 rfl) ?_ | refine zab rfl rfl (zaa rfl) (za2 rfl ts22 rfl) ?_ | refine zab rfl rfl (zaa rfl) (zbc rfl ts22 rfl) ?_ | refine zab rfl rfl (zaa rfl) (za3 rfl ts22 rfl) ?_)
  all_goals (first | refine zbh rfl rfl (zaa rfl) (does_leq rfl rfl rfl) (fun h7 => ?_) (fun h7 => ?_) | refine zbi rfl rfl (zaa rfl) (does_leq rfl rfl rfl) (fun h7 => ?_) (fun h7 => ?_))
  all_goals refine zab rfl rfl (zaa rfl) (mv_s (.inl rfl) rfl) ?_
  all_goals (first | refine zab rfl rfl (zah rfl rfl rfl) (za6 (.inl rfl) rfl) ?_ | refine zab rfl rfl (zah rfl rfl rfl) (zbg (.inl rfl) rfl) ?_ | refine zab rfl rfl (zah rfl rfl rfl) (mv_s (.inl rfl) rfl) ?_ | refine zab rfl rfl (zah rfl rfl rfl) (za7 (.inl rfl) rfl) ?_ | refine zaq rfl rfl (zb6 rfl rfl rfl) ?_ | refine zaq rfl rfl (zav rfl rfl rfl) ?_)
  all_goals (first | refine zab rfl rfl (zah rfl rfl rfl) (za4 rfl ts23 rfl) ?_ | refine zab rfl rfl (zah rfl rfl rfl) (za8 rfl ts23 rfl) ?_ | refine zab rfl rfl (zah rfl rfl rfl) (za2 rfl ts23 rfl) ?_ | refine zab rfl rfl (zah rfl rfl rfl) (zbc rfl ts23 rfl) ?_ | refine zab rfl rfl (zah rfl rfl rfl) (za3 rfl ts23 rfl) ?_ | refine zaq rfl rfl (zb6 rfl rfl rfl) ?_ | refine zaq rfl rfl (zav rfl rfl rfl) ?_)
  all_goals (first | refine zbh rfl rfl (zah rfl rfl rfl) (does_leq rfl rfl rfl) (fun h11 => ?_) (fun h11 => ?_) | refine zbi rfl rfl (zah rfl rfl rfl) (does_leq rfl rfl rfl) (fun h11 => ?_) (fun h11 => ?_) | refine zaq rfl rfl (zb6 rfl rfl rfl) ?_ | refine zaq rfl rfl (zav rfl rfl rfl) ?_)
  all_goals (first | refine zab rfl rfl (zaa rfl) (zbx rfl rfl rfl) ?_ | refine zab rfl rfl (zaa rfl) (zby rfl rfl rfl) ?_ | refine zab rfl rfl (zaa rfl) (zbk rfl rfl rfl) ?_ | refine zab rfl rfl (zaa rfl) (zbl rfl rfl rfl) ?_)
  all_goals refine zab rfl rfl (zaa rfl) (mv_s (.inl rfl) rfl) ?_
  all_goals (first | refine zab rfl rfl (zah rfl rfl rfl) (za6 (.inl rfl) rfl) ?_ | refine zab rfl rfl (zah rfl rfl rfl) (zbg (.inl rfl) rfl) ?_ | refine zab rfl rfl (zah rfl rfl rfl) (mv_s (.inl rfl) rfl) ?_ | refine zab rfl rfl (zah rfl rfl rfl) (za7 (.inl rfl) rfl) ?_ | refine zaq rfl rfl (zb6 rfl rfl rfl) ?_ | refine zaq rfl rfl (zav rfl rfl rfl) ?_)
  all_goals (first | refine zbh rfl rfl (zah rfl rfl rfl) (za5 rfl rfl (hc) (zau rfl (zau rfl zbj))) (fun h15 => ?_) (fun h15 => ?_) | refine zbi rfl rfl (zah rfl rfl rfl) (za5 rfl rfl (hc) (zau rfl (zau rfl zbj))) (fun h15 => ?_) (fun h15 => ?_) | refine zaq rfl rfl (zb6 rfl rfl rfl) ?_ | refine zaq rfl rfl (zav rfl rfl rfl) ?_)
  all_goals (first | refine zab rfl rfl (zah rfl rfl rfl) (zcf rfl rfl) ?_ | refine zab rfl rfl (zah rfl rfl rfl) (zcj rfl rfl) ?_ | refine zaq rfl rfl (zb6 rfl rfl rfl) ?_ | refine zaq rfl rfl (zav rfl rfl rfl) ?_)
  all_goals (first | refine zab rfl rfl (zaa rfl) (zbx rfl rfl rfl) ?_ | refine zab rfl rfl (zaa rfl) (zby rfl rfl rfl) ?_ | refine zab rfl rfl (zaa rfl) (zbk rfl rfl rfl) ?_ | refine zab rfl rfl (zaa rfl) (zbl rfl rfl rfl) ?_)
  all_goals refine zab rfl rfl (zaa rfl) (mv_s (.inr rfl) rfl) ?_
  all_goals refine zan ?_
  all_goals (repeat (first | refine zag ?_ | refine zar ?_ | refine zad ?_ | refine zas ?_ | refine zac ?_))
  all_goals (refine zbs ?_; repeat (first | refine zb8 ?_ | refine zb9 ?_))
  all_goals exact zcm (.inr rfl) rfl (congrArg eB (by
    rw [hd]
    first
    | (rw [decide_eq_false (show ¬ ((d.length : Int) ≤ 30) by omega)]; rfl)
    | (rw [decide_eq_true (show ((d.length : Int) ≤ 30) by omega), decide_eq_false (show ¬ ((l.length : Int) ≤ 15) by omega)]; rfl)
    | (rw [decide_eq_true (show ((d.length : Int) ≤ 30) by omega), decide_eq_true (show ((l.length : Int) ≤ 15) by omega), h15]; rfl)))
def needB (n : Int) : Bool := decide (0 ≤ n ∧ n ≤ 100)
theorem svalid1_pf (n : Int) : Pure P 30 [eI n] (eB (!needB n)) := by
  refine zc4 (by rw [IsP.eq (P := P)]; exact Tryz.func30) rfl rfl rfl rfl rfl (by repeat' (first | exact Lo.s _ | exact zaj | refine zae ?_ ?_ | refine zak ?_ | refine Lo.cells ?_ | refine Lo.agg _ ?_ | refine Lo.ref _ ?_ | refine Lo.tup _ ?_ | refine Lo.fn _ _ ?_ | refine Lo.sl _ ?_ | intro _)) (by repeat' (first | exact Lo.s _ | exact zaj | refine zae ?_ ?_ | refine zak ?_ | refine Lo.cells ?_ | refine Lo.agg _ ?_ | refine Lo.ref _ ?_ | refine Lo.tup _ ?_ | refine Lo.fn _ _ ?_ | refine Lo.sl _ ?_ | intro _)) (by simp only [argF]; rfl) ?_
  repeat (first | refine zag ?_ | refine zar ?_ | refine zad ?_ | refine zas ?_ | refine zac ?_)
  refine zaf ?_
  refine zab rfl rfl (zaa rfl) (mv_s (.inr rfl) rfl) ?_
  refine zan ?_
  repeat (first | refine zag ?_ | refine zar ?_ | refine zad ?_ | refine zas ?_ | refine zac ?_)
  all_goals refine zaf ?_
  all_goals refine zab rfl rfl (zaa rfl) (mv_s (.inl rfl) rfl) ?_
  all_goals (first | refine zbh rfl rfl (zaa rfl) (zbb rfl rfl rfl) (fun h4 => ?_) (fun h4 => ?_) | refine zbi rfl rfl (zaa rfl) (zbb rfl rfl rfl) (fun h4 => ?_) (fun h4 => ?_))
  all_goals refine zab rfl rfl (zaa rfl) (mv_s (.inl rfl) rfl) ?_
  all_goals (first | refine zab rfl rfl (zah rfl rfl rfl) (mv_s (.inl rfl) rfl) ?_ | refine zaq rfl rfl (zax rfl rfl rfl) ?_ | refine zaq rfl rfl (zav rfl rfl rfl) ?_)
  all_goals (first | refine zbh rfl rfl (zah rfl rfl rfl) (zbw rfl rfl rfl) (fun h7 => ?_) (fun h7 => ?_) | refine zbi rfl rfl (zah rfl rfl rfl) (zbw rfl rfl rfl) (fun h7 => ?_) (fun h7 => ?_) | refine zaq rfl rfl (zax rfl rfl rfl) ?_ | refine zaq rfl rfl (zav rfl rfl rfl) ?_)
  all_goals (first | refine zab rfl rfl (zaa rfl) (zbx rfl rfl rfl) ?_ | refine zab rfl rfl (zaa rfl) (zby rfl rfl rfl) ?_ | refine zab rfl rfl (zaa rfl) (zbk rfl rfl rfl) ?_ | refine zab rfl rfl (zaa rfl) (zbl rfl rfl rfl) ?_)
  all_goals refine zab rfl rfl (zaa rfl) (mv_s (.inr rfl) rfl) ?_
  all_goals refine zan ?_
  all_goals (repeat (first | refine zag ?_ | refine zar ?_ | refine zad ?_ | refine zas ?_ | refine zac ?_))
  all_goals (refine zbs ?_; repeat (first | refine zb8 ?_ | refine zb9 ?_))
  all_goals exact zcm (.inr rfl) rfl (congrArg eB (by
    unfold needB
    first
    | (rw [decide_eq_true (by omega)]; rfl)
    | (rw [decide_eq_false (by omega)]; rfl)))
/-- period k is one of n, and behind the period before it -/
def perB (n : Nat) (l : List Int) (k : Nat) : Bool := decide (0 ≤ gti l k ∧ gti l k < (n : Int) ∧ (0 < k → gti l (k - 1) < gti l k))
def headS (s : Sft) : Bool := decide (s.pd.length ≠ 0 ∧ 0 ≤ s.cost ∧ s.cost ≤ 1000 ∧ 0 ≤ s.most ∧ s.most ≤ 20)
def sftB (n : Nat) (s : Sft) : Bool := headS s && (List.range s.pd.length).all (perB n s.pd)
def headV (d : List Int) (l : List Sft) : Bool := decide (1 ≤ d.length ∧ d.length ≤ 24 ∧ l.length ≤ 12) && d.all needB
def zde (d : List Int) (l : List Sft) : Bool := headV d l && l.all (sftB d.length)
theorem headV_t {d : List Int} {l : List Sft} (h : 1 ≤ d.length ∧ d.length ≤ 24 ∧ l.length ≤ 12) (h2 : d.all needB = true) : headV d l = true := by
  unfold headV; rw [decide_eq_true h, h2]; rfl
theorem headV_f {d : List Int} {l : List Sft} (h : ¬ (1 ≤ d.length ∧ d.length ≤ 24 ∧ l.length ≤ 12)) : zde d l = false := by
  unfold zde headV; rw [decide_eq_false h]; rfl
theorem headV_f2 {d : List Int} {l : List Sft} (h : d.all needB = false) : zde d l = false := by
  unfold zde headV; rw [h, Bool.and_false]; rfl
theorem validS_f {d : List Int} {l : List Sft} {k : Nat} (hk : k < l.length) (h : sftB d.length (gti l k) = false) : zde d l = false := by
  unfold zde; rw [all_f hk h, Bool.and_false]
theorem validS_t {d : List Int} {l : List Sft} (h : headV d l = true) (h2 : ∀ j, j < l.length → sftB d.length (gti l j) = true) : zde d l = true := by
  unfold zde; rw [h, all_t h2]; rfl
theorem sftB_h {n : Nat} {s : Sft} (h : headS s = false) : sftB n s = false := by unfold sftB; rw [h]; rfl
theorem sftB_f {n k : Nat} {s : Sft} (hk : k < s.pd.length) (h : perB n s.pd k = false) : sftB n s = false := by unfold sftB; rw [rg_f hk h, Bool.and_false]
theorem sftB_t {n : Nat} {s : Sft} (h : headS s = true) (h2 : ∀ j, j < s.pd.length → perB n s.pd j = true) : sftB n s = true := by unfold sftB; rw [h, rg_t h2]; rfl
theorem zcz {d : List Int} {l : List Sft} (h : zde d l = true) : (1 ≤ d.length ∧ d.length ≤ 24 ∧ l.length ≤ 12) ∧ (∀ k, k < d.length → 0 ≤ gti d k ∧ gti d k ≤ 100) ∧ ∀ i, i < l.length → ((gti l i).pd.length ≠ 0 ∧ 0 ≤ (gti l i).cost ∧ (gti l i).cost ≤ 1000 ∧ 0 ≤ (gti l i).most ∧ (gti l i).most ≤ 20) ∧ ∀ k, k < (gti l i).pd.length → 0 ≤ gti (gti l i).pd k ∧ gti (gti l i).pd k < (d.length : Int) ∧ (0 < k → gti (gti l i).pd (k - 1) < gti (gti l i).pd k) := by
  unfold zde headV at h
  rw [Bool.and_eq_true, Bool.and_eq_true, decide_eq_true_eq] at h
  refine ⟨h.1.1, fun k hk => ?_, fun i hi => ?_⟩
  · have := List.all_eq_true.1 h.1.2 _ (gti_mem hk)
    unfold needB at this
    rwa [decide_eq_true_eq] at this
  · have h1 := List.all_eq_true.1 h.2 _ (gti_mem hi)
    unfold sftB headS at h1
    rw [Bool.and_eq_true, decide_eq_true_eq] at h1
    refine ⟨h1.1, fun k hk => ?_⟩
    have h2 := List.all_eq_true.1 h1.2 k (by simpa using hk)
    unfold perB at h2
    rwa [decide_eq_true_eq] at h2
set_option maxHeartbeats 1000000 in
theorem sValid_pf54 (d : List Int) (l : List Sft) : Pure P 13 [eL eI d, eL eSh l] (eB (zde d l)) := by
  have hc := containsFI_pf (P := P) 30 [] (fun n => !needB n) d lo_Int (.fn _ _ (by simp)) (fun a _ => svalid1_pf a)
  have hda : d.all needB = !(d.any fun n => !needB n) := by rw [List.all_eq_not_any_not]
  generalize (d.any fun n => !needB n) = z at hc hda
  refine zc4 (by rw [IsP.eq (P := P)]; exact Tryz.func13) rfl rfl rfl rfl rfl (by repeat' (first | exact Lo.s _ | exact zaj | refine zae ?_ ?_ | refine zak ?_ | refine Lo.cells ?_ | refine Lo.agg _ ?_ | refine Lo.ref _ ?_ | refine Lo.tup _ ?_ | refine Lo.fn _ _ ?_ | refine Lo.sl _ ?_ | intro _)) (by repeat' (first | exact Lo.s _ | exact zaj | refine zae ?_ ?_ | refine zak ?_ | refine Lo.cells ?_ | refine Lo.agg _ ?_ | refine Lo.ref _ ?_ | refine Lo.tup _ ?_ | refine Lo.fn _ _ ?_ | refine Lo.sl _ ?_ | intro _)) (by simp only [argF]; rfl) ?_
  repeat (first | refine zag ?_ | refine zar ?_ | refine zad ?_ | refine zas ?_ | refine zac ?_)
  refine zc5 (d := 0) rfl (fun hm1 => ?_)
  refine zc5 (d := 1) rfl (fun hm2 => ?_)
  unfold maxLen at hm1 hm2
  refine zaf ?_
  refine zab rfl rfl (zaa rfl) (mv_s (.inr rfl) rfl) ?_
  refine zan ?_
  repeat (first | refine zag ?_ | refine zar ?_ | refine zad ?_ | refine zas ?_ | refine zac ?_)
  all_goals refine zaf ?_
  all_goals (first | refine zab rfl rfl (zaa rfl) (za6 (.inl rfl) rfl) ?_ | refine zab rfl rfl (zaa rfl) (zbg (.inl rfl) rfl) ?_ | refine zab rfl rfl (zaa rfl) (mv_s (.inl rfl) rfl) ?_ | refine zab rfl rfl (zaa rfl) (za7 (.inl rfl) rfl) ?_)
  all_goals (first | refine zab rfl rfl (zaa rfl) (za4 rfl ts22 rfl) ?_ | refine zab rfl rfl (zaa rfl) (za8 rfl ts22 rfl) ?_ | refine zab rfl rfl (zaa rfl) (za2 rfl ts22 rfl) ?_ | refine zab rfl rfl (zaa rfl) (zbc rfl ts22 rfl) ?_ | refine zab rfl rfl (zaa rfl) (za3 rfl ts22 rfl) ?_)
  all_goals (first | refine zbh rfl rfl (zaa rfl) (zbb rfl rfl rfl) (fun h11 => ?_) (fun h11 => ?_) | refine zbi rfl rfl (zaa rfl) (zbb rfl rfl rfl) (fun h11 => ?_) (fun h11 => ?_))
  all_goals refine zab rfl rfl (zaa rfl) (mv_s (.inl rfl) rfl) ?_
  all_goals (first | refine zab rfl rfl (zah rfl rfl rfl) (za6 (.inl rfl) rfl) ?_ | refine zab rfl rfl (zah rfl rfl rfl) (zbg (.inl rfl) rfl) ?_ | refine zab rfl rfl (zah rfl rfl rfl) (mv_s (.inl rfl) rfl) ?_ | refine zab rfl rfl (zah rfl rfl rfl) (za7 (.inl rfl) rfl) ?_ | refine zaq rfl rfl (zax rfl rfl rfl) ?_ | refine zaq rfl rfl (zav rfl rfl rfl) ?_)
  all_goals (first | refine zab rfl rfl (zah rfl rfl rfl) (za4 rfl ts22 rfl) ?_ | refine zab rfl rfl (zah rfl rfl rfl) (za8 rfl ts22 rfl) ?_ | refine zab rfl rfl (zah rfl rfl rfl) (za2 rfl ts22 rfl) ?_ | refine zab rfl rfl (zah rfl rfl rfl) (zbc rfl ts22 rfl) ?_ | refine zab rfl rfl (zah rfl rfl rfl) (za3 rfl ts22 rfl) ?_ | refine zaq rfl rfl (zax rfl rfl rfl) ?_ | refine zaq rfl rfl (zav rfl rfl rfl) ?_)
  all_goals (first | refine zbh rfl rfl (zah rfl rfl rfl) (zbw rfl rfl rfl) (fun h15 => ?_) (fun h15 => ?_) | refine zbi rfl rfl (zah rfl rfl rfl) (zbw rfl rfl rfl) (fun h15 => ?_) (fun h15 => ?_) | refine zaq rfl rfl (zax rfl rfl rfl) ?_ | refine zaq rfl rfl (zav rfl rfl rfl) ?_)
  all_goals (first | refine zab rfl rfl (zaa rfl) (zbx rfl rfl rfl) ?_ | refine zab rfl rfl (zaa rfl) (zby rfl rfl rfl) ?_ | refine zab rfl rfl (zaa rfl) (zbk rfl rfl rfl) ?_ | refine zab rfl rfl (zaa rfl) (zbl rfl rfl rfl) ?_)
  all_goals refine zab rfl rfl (zaa rfl) (mv_s (.inl rfl) rfl) ?_
  all_goals (first | refine zab rfl rfl (zah rfl rfl rfl) (za6 (.inl rfl) rfl) ?_ | refine zab rfl rfl (zah rfl rfl rfl) (zbg (.inl rfl) rfl) ?_ | refine zab rfl rfl (zah rfl rfl rfl) (mv_s (.inl rfl) rfl) ?_ | refine zab rfl rfl (zah rfl rfl rfl) (za7 (.inl rfl) rfl) ?_ | refine zaq rfl rfl (zax rfl rfl rfl) ?_ | refine zaq rfl rfl (zav rfl rfl rfl) ?_)
  all_goals (first | refine zab rfl rfl (zah rfl rfl rfl) (za4 rfl ts23 rfl) ?_ | refine zab rfl rfl (zah rfl rfl rfl) (za8 rfl ts23 rfl) ?_ | refine zab rfl rfl (zah rfl rfl rfl) (za2 rfl ts23 rfl) ?_ | refine zab rfl rfl (zah rfl rfl rfl) (zbc rfl ts23 rfl) ?_ | refine zab rfl rfl (zah rfl rfl rfl) (za3 rfl ts23 rfl) ?_ | refine zaq rfl rfl (zax rfl rfl rfl) ?_ | refine zaq rfl rfl (zav rfl rfl rfl) ?_)
  all_goals (first | refine zbh rfl rfl (zah rfl rfl rfl) (zbw rfl rfl rfl) (fun h20 => ?_) (fun h20 => ?_) | refine zbi rfl rfl (zah rfl rfl rfl) (zbw rfl rfl rfl) (fun h20 => ?_) (fun h20 => ?_) | refine zaq rfl rfl (zax rfl rfl rfl) ?_ | refine zaq rfl rfl (zav rfl rfl rfl) ?_)
  all_goals (first | refine zab rfl rfl (zaa rfl) (zbx rfl rfl rfl) ?_ | refine zab rfl rfl (zaa rfl) (zby rfl rfl rfl) ?_ | refine zab rfl rfl (zaa rfl) (zbk rfl rfl rfl) ?_ | refine zab rfl rfl (zaa rfl) (zbl rfl rfl rfl) ?_)
  all_goals refine zab rfl rfl (zaa rfl) (mv_s (.inl rfl) rfl) ?_
  all_goals (first | refine zab rfl rfl (zah rfl rfl rfl) (za6 (.inl rfl) rfl) ?_ | refine zab rfl rfl (zah rfl rfl rfl) (zbg (.inl rfl) rfl) ?_ | refine zab rfl rfl (zah rfl rfl rfl) (mv_s (.inl rfl) rfl) ?_ | refine zab rfl rfl (zah rfl rfl rfl) (za7 (.inl rfl) rfl) ?_ | refine zaq rfl rfl (zax rfl rfl rfl) ?_ | refine zaq rfl rfl (zav rfl rfl rfl) ?_)
  all_goals (first | refine zbh rfl rfl (zah rfl rfl rfl) (za5 rfl rfl (hc) (zau rfl (zau rfl zbj))) (fun h24 => ?_) (fun h24 => ?_) | refine zbi rfl rfl (zah rfl rfl rfl) (za5 rfl rfl (hc) (zau rfl (zau rfl zbj))) (fun h24 => ?_) (fun h24 => ?_) | refine zaq rfl rfl (zax rfl rfl rfl) ?_ | refine zaq rfl rfl (zav rfl rfl rfl) ?_)
  all_goals (first | refine zab rfl rfl (zaa rfl) (zbx rfl rfl rfl) ?_ | refine zab rfl rfl (zaa rfl) (zby rfl rfl rfl) ?_ | refine zab rfl rfl (zaa rfl) (zbk rfl rfl rfl) ?_ | refine zab rfl rfl (zaa rfl) (zbl rfl rfl rfl) ?_)
  all_goals refine zan ?_
  all_goals (repeat (first | refine zag ?_ | refine zar ?_ | refine zad ?_ | refine zas ?_ | refine zac ?_))
  all_goals (first | refine zbp rfl ?_ | refine zbm rfl ?_)
  all_goals (repeat (first | refine zag ?_ | refine zar ?_ | refine zad ?_ | refine zas ?_ | refine zac ?_))
  all_goals first
    | skip
      refine zaf ?_
      refine zab rfl rfl (zaa rfl) (mv_s (.inr rfl) rfl) ?_
      refine zan ?_
      repeat (first | refine zag ?_ | refine zar ?_ | refine zad ?_ | refine zas ?_ | refine zac ?_)
      (refine zbs ?_; repeat (first | refine zb8 ?_ | refine zb9 ?_))
      exact zcm (.inr rfl) rfl (congrArg eB (by
        first
        | (rw [headV_f (by omega)])
        | (rw [headV_f2 (by rw [hda, h24]; rfl)])))
    | skip
  have hh : headV d l = true := headV_t (by omega) (by rw [hda, h24]; rfl)
  refine zaf ?_
  first | refine zab rfl rfl (zaa rfl) (za6 (.inl rfl) rfl) ?_ | refine zab rfl rfl (zaa rfl) (zbg (.inl rfl) rfl) ?_ | refine zab rfl rfl (zaa rfl) (mv_s (.inl rfl) rfl) ?_ | refine zab rfl rfl (zaa rfl) (za7 (.inl rfl) rfl) ?_
  first | refine zab rfl rfl (zaa rfl) (za4 rfl ts23 rfl) ?_ | refine zab rfl rfl (zaa rfl) (za8 rfl ts23 rfl) ?_ | refine zab rfl rfl (zaa rfl) (za2 rfl ts23 rfl) ?_ | refine zab rfl rfl (zaa rfl) (zbc rfl ts23 rfl) ?_ | refine zab rfl rfl (zaa rfl) (za3 rfl ts23 rfl) ?_
  refine zab rfl rfl (zaa rfl) (mv_s (.inl rfl) rfl) ?_
  refine zan ?_
  repeat (first | refine zag ?_ | refine zar ?_ | refine zad ?_ | refine zas ?_ | refine zac ?_)
  refine zcc (S := Nat) (fun k => [(0, eL eI d), (1, eL eSh l), (26, eL eSh l), (27, eI l.length), (28, eI k)]) (fun _ => []) (fun k => k ≤ l.length ∧ ∀ j, j < k → sftB d.length (gti l j) = true) (fun k => l.length - k) 0 (zck [] (by decide) trivial ⟨.lo _ (by repeat' (first | exact Lo.s _ | exact zaj | refine zae ?_ ?_ | refine zak ?_ | refine Lo.cells ?_ | refine Lo.agg _ ?_ | refine Lo.ref _ ?_ | refine Lo.tup _ ?_ | refine Lo.fn _ _ ?_ | refine Lo.sl _ ?_ | intro _)), .lo _ (by repeat' (first | exact Lo.s _ | exact zaj | refine zae ?_ ?_ | refine zak ?_ | refine Lo.cells ?_ | refine Lo.agg _ ?_ | refine Lo.ref _ ?_ | refine Lo.tup _ ?_ | refine Lo.fn _ _ ?_ | refine Lo.sl _ ?_ | intro _)), .lo _ (by repeat' (first | exact Lo.s _ | exact zaj | refine zae ?_ ?_ | refine zak ?_ | refine Lo.cells ?_ | refine Lo.agg _ ?_ | refine Lo.ref _ ?_ | refine Lo.tup _ ?_ | refine Lo.fn _ _ ?_ | refine Lo.sl _ ?_ | intro _)), .lo _ (by repeat' (first | exact Lo.s _ | exact zaj | refine zae ?_ ?_ | refine zak ?_ | refine Lo.cells ?_ | refine Lo.agg _ ?_ | refine Lo.ref _ ?_ | refine Lo.tup _ ?_ | refine Lo.fn _ _ ?_ | refine Lo.sl _ ?_ | intro _)), .lo _ (by repeat' (first | exact Lo.s _ | exact zaj | refine zae ?_ ?_ | refine zak ?_ | refine Lo.cells ?_ | refine Lo.agg _ ?_ | refine Lo.ref _ ?_ | refine Lo.tup _ ?_ | refine Lo.fn _ _ ?_ | refine Lo.sl _ ?_ | intro _)), trivial⟩) ⟨by omega, fun j hj => by omega⟩ (fun k hk => ?_)
  obtain ⟨hk, hall⟩ := hk
  repeat (first | refine zag ?_ | refine zar ?_ | refine zad ?_ | refine zas ?_ | refine zac ?_)
  all_goals refine zaf ?_
  all_goals (first | refine zbh rfl rfl (zaa rfl) (zbb rfl rfl rfl) (fun h29 => ?_) (fun h29 => ?_) | refine zbi rfl rfl (zaa rfl) (zbb rfl rfl rfl) (fun h29 => ?_) (fun h29 => ?_))
  all_goals refine zan ?_
  all_goals (repeat (first | refine zag ?_ | refine zar ?_ | refine zad ?_ | refine zas ?_ | refine zac ?_))
  all_goals (first | refine zbp rfl ?_ | refine zbm rfl ?_)
  all_goals (repeat (first | refine zag ?_ | refine zar ?_ | refine zad ?_ | refine zas ?_ | refine zac ?_))
  · have hlt : k < l.length := by omega
    obtain ⟨s, hs⟩ : ∃ s, gti l k = s := ⟨_, rfl⟩
    have hix : (l.map eSh)[k]? = some (eSh s) := by rw [← hs]; exact zb5 hlt
    refine zaf ?_
    first | refine zab rfl rfl (zaa rfl) (za1 rfl ts23 ti36 rfl rfl rfl hix rfl) ?_ | refine zab rfl rfl (zaa rfl) (zay rfl ts23 ti36 rfl rfl rfl hix) ?_
    first | refine zab rfl rfl (zaa rfl) (za0 rfl ta36 ti36 rfl rfl) ?_ | refine zab rfl rfl (zaa rfl) (za9 rfl ta36 ti36 rfl rfl rfl rfl rfl) ?_ | refine zab rfl rfl (zaa rfl) (zaz rfl ta36 ti36 rfl (Nat.le_of_ble_eq_true rfl)) ?_ | refine zab rfl rfl (zaa rfl) (zba rfl ta36 ti36 rfl rfl rfl rfl (Nat.le_of_ble_eq_true rfl)) ?_
    refine zab rfl rfl (zaa rfl) (zbr rfl ti36 rfl rfl) ?_
    refine zb0 rfl (zaa rfl) (zbd rfl ti36 rfl rfl rfl rfl rfl rfl (by decide) (by decide)) ?_
    refine zan ?_
    repeat (first | refine zag ?_ | refine zar ?_ | refine zad ?_ | refine zas ?_ | refine zac ?_)
    refine zca (zcd (id := 0) rfl) ?_
    refine zca (zcy (d := 6) rfl rfl rfl) ?_
    all_goals refine zaf ?_
    all_goals (first | refine zab rfl rfl (zaa rfl) (zal rfl zc0 (by decide) rfl) ?_ | refine zab rfl rfl (zaa rfl) (zai rfl zc0 (by decide) rfl) ?_)
    all_goals (first | refine zab rfl rfl (zaa rfl) (zam rfl ta22 rfl) ?_ | refine zab rfl rfl (zaa rfl) (zap rfl ta22 rfl rfl rfl rfl rfl) ?_)
    all_goals (first | refine zab rfl rfl (zaa rfl) (za4 rfl ts22 rfl) ?_ | refine zab rfl rfl (zaa rfl) (za8 rfl ts22 rfl) ?_ | refine zab rfl rfl (zaa rfl) (za2 rfl ts22 rfl) ?_ | refine zab rfl rfl (zaa rfl) (zbc rfl ts22 rfl) ?_ | refine zab rfl rfl (zaa rfl) (za3 rfl ts22 rfl) ?_)
    all_goals (first | refine zbh rfl rfl (zaa rfl) (zcr rfl rfl rfl) (fun h35 => ?_) (fun h35 => ?_) | refine zbi rfl rfl (zaa rfl) (zcr rfl rfl rfl) (fun h35 => ?_) (fun h35 => ?_))
    all_goals refine zab rfl rfl (zaa rfl) (mv_s (.inl rfl) rfl) ?_
    all_goals (first | refine zab rfl rfl (zah rfl rfl rfl) (zal rfl tf36_1 (by decide) rfl) ?_ | refine zab rfl rfl (zah rfl rfl rfl) (zai rfl tf36_1 (by decide) rfl) ?_ | refine zaq rfl rfl (zax rfl rfl rfl) ?_ | refine zaq rfl rfl (zav rfl rfl rfl) ?_)
    all_goals (first | refine zab rfl rfl (zah rfl rfl rfl) (zam rfl ta3 rfl) ?_ | refine zab rfl rfl (zah rfl rfl rfl) (zap rfl ta3 rfl rfl rfl rfl rfl) ?_ | refine zaq rfl rfl (zax rfl rfl rfl) ?_ | refine zaq rfl rfl (zav rfl rfl rfl) ?_)
    all_goals (first | refine zbh rfl rfl (zah rfl rfl rfl) (zbb rfl rfl rfl) (fun h39 => ?_) (fun h39 => ?_) | refine zbi rfl rfl (zah rfl rfl rfl) (zbb rfl rfl rfl) (fun h39 => ?_) (fun h39 => ?_) | refine zaq rfl rfl (zax rfl rfl rfl) ?_ | refine zaq rfl rfl (zav rfl rfl rfl) ?_)
    all_goals (first | refine zab rfl rfl (zaa rfl) (zbx rfl rfl rfl) ?_ | refine zab rfl rfl (zaa rfl) (zby rfl rfl rfl) ?_ | refine zab rfl rfl (zaa rfl) (zbk rfl rfl rfl) ?_ | refine zab rfl rfl (zaa rfl) (zbl rfl rfl rfl) ?_)
    all_goals refine zab rfl rfl (zaa rfl) (mv_s (.inl rfl) rfl) ?_
    all_goals (first | refine zab rfl rfl (zah rfl rfl rfl) (zal rfl tf36_1 (by decide) rfl) ?_ | refine zab rfl rfl (zah rfl rfl rfl) (zai rfl tf36_1 (by decide) rfl) ?_ | refine zaq rfl rfl (zax rfl rfl rfl) ?_ | refine zaq rfl rfl (zav rfl rfl rfl) ?_)
    all_goals (first | refine zab rfl rfl (zah rfl rfl rfl) (zam rfl ta3 rfl) ?_ | refine zab rfl rfl (zah rfl rfl rfl) (zap rfl ta3 rfl rfl rfl rfl rfl) ?_ | refine zaq rfl rfl (zax rfl rfl rfl) ?_ | refine zaq rfl rfl (zav rfl rfl rfl) ?_)
    all_goals (first | refine zbh rfl rfl (zah rfl rfl rfl) (zbw rfl rfl rfl) (fun h44 => ?_) (fun h44 => ?_) | refine zbi rfl rfl (zah rfl rfl rfl) (zbw rfl rfl rfl) (fun h44 => ?_) (fun h44 => ?_) | refine zaq rfl rfl (zax rfl rfl rfl) ?_ | refine zaq rfl rfl (zav rfl rfl rfl) ?_)
    all_goals (first | refine zab rfl rfl (zaa rfl) (zbx rfl rfl rfl) ?_ | refine zab rfl rfl (zaa rfl) (zby rfl rfl rfl) ?_ | refine zab rfl rfl (zaa rfl) (zbk rfl rfl rfl) ?_ | refine zab rfl rfl (zaa rfl) (zbl rfl rfl rfl) ?_)
    all_goals refine zab rfl rfl (zaa rfl) (mv_s (.inl rfl) rfl) ?_
    all_goals (first | refine zab rfl rfl (zah rfl rfl rfl) (zal rfl tf36_2 (by decide) rfl) ?_ | refine zab rfl rfl (zah rfl rfl rfl) (zai rfl tf36_2 (by decide) rfl) ?_ | refine zaq rfl rfl (zax rfl rfl rfl) ?_ | refine zaq rfl rfl (zav rfl rfl rfl) ?_)
    all_goals (first | refine zab rfl rfl (zah rfl rfl rfl) (zam rfl ta3 rfl) ?_ | refine zab rfl rfl (zah rfl rfl rfl) (zap rfl ta3 rfl rfl rfl rfl rfl) ?_ | refine zaq rfl rfl (zax rfl rfl rfl) ?_ | refine zaq rfl rfl (zav rfl rfl rfl) ?_)
    all_goals (first | refine zbh rfl rfl (zah rfl rfl rfl) (zbb rfl rfl rfl) (fun h49 => ?_) (fun h49 => ?_) | refine zbi rfl rfl (zah rfl rfl rfl) (zbb rfl rfl rfl) (fun h49 => ?_) (fun h49 => ?_) | refine zaq rfl rfl (zax rfl rfl rfl) ?_ | refine zaq rfl rfl (zav rfl rfl rfl) ?_)
    all_goals (first | refine zab rfl rfl (zaa rfl) (zbx rfl rfl rfl) ?_ | refine zab rfl rfl (zaa rfl) (zby rfl rfl rfl) ?_ | refine zab rfl rfl (zaa rfl) (zbk rfl rfl rfl) ?_ | refine zab rfl rfl (zaa rfl) (zbl rfl rfl rfl) ?_)
    all_goals refine zab rfl rfl (zaa rfl) (mv_s (.inl rfl) rfl) ?_
    all_goals (first | refine zab rfl rfl (zah rfl rfl rfl) (zal rfl tf36_2 (by decide) rfl) ?_ | refine zab rfl rfl (zah rfl rfl rfl) (zai rfl tf36_2 (by decide) rfl) ?_ | refine zaq rfl rfl (zax rfl rfl rfl) ?_ | refine zaq rfl rfl (zav rfl rfl rfl) ?_)
    all_goals (first | refine zab rfl rfl (zah rfl rfl rfl) (zam rfl ta3 rfl) ?_ | refine zab rfl rfl (zah rfl rfl rfl) (zap rfl ta3 rfl rfl rfl rfl rfl) ?_ | refine zaq rfl rfl (zax rfl rfl rfl) ?_ | refine zaq rfl rfl (zav rfl rfl rfl) ?_)
    all_goals (first | refine zbh rfl rfl (zah rfl rfl rfl) (zbw rfl rfl rfl) (fun h54 => ?_) (fun h54 => ?_) | refine zbi rfl rfl (zah rfl rfl rfl) (zbw rfl rfl rfl) (fun h54 => ?_) (fun h54 => ?_) | refine zaq rfl rfl (zax rfl rfl rfl) ?_ | refine zaq rfl rfl (zav rfl rfl rfl) ?_)
    all_goals (first | refine zab rfl rfl (zaa rfl) (zbx rfl rfl rfl) ?_ | refine zab rfl rfl (zaa rfl) (zby rfl rfl rfl) ?_ | refine zab rfl rfl (zaa rfl) (zbk rfl rfl rfl) ?_ | refine zab rfl rfl (zaa rfl) (zbl rfl rfl rfl) ?_)
    all_goals refine zan ?_
    all_goals (repeat (first | refine zag ?_ | refine zar ?_ | refine zad ?_ | refine zas ?_ | refine zac ?_))
    all_goals (first | refine zbp rfl ?_ | refine zbm rfl ?_)
    all_goals (repeat (first | refine zag ?_ | refine zar ?_ | refine zad ?_ | refine zas ?_ | refine zac ?_))
    all_goals first
      | skip
        refine zaf ?_
        refine zab rfl rfl (zaa rfl) (mv_s (.inr rfl) rfl) ?_
        refine zan ?_
        repeat (first | refine zag ?_ | refine zar ?_ | refine zad ?_ | refine zas ?_ | refine zac ?_)
        (refine zbs ?_; repeat (first | refine zb8 ?_ | refine zb9 ?_))
        exact zcm (.inr rfl) rfl (congrArg eB (validS_f hlt (by rw [hs]; exact sftB_h (decide_eq_false (by omega)))).symm)
      | skip
    have hhs : headS s = true := decide_eq_true (by omega)
    refine zaf ?_
    first | refine zab rfl rfl (zaa rfl) (zal rfl zc0 (by decide) rfl) ?_ | refine zab rfl rfl (zaa rfl) (zai rfl zc0 (by decide) rfl) ?_
    first | refine zab rfl rfl (zaa rfl) (zam rfl ta22 rfl) ?_ | refine zab rfl rfl (zaa rfl) (zap rfl ta22 rfl rfl rfl rfl rfl) ?_
    first | refine zab rfl rfl (zaa rfl) (za4 rfl ts22 rfl) ?_ | refine zab rfl rfl (zaa rfl) (za8 rfl ts22 rfl) ?_ | refine zab rfl rfl (zaa rfl) (za2 rfl ts22 rfl) ?_ | refine zab rfl rfl (zaa rfl) (zbc rfl ts22 rfl) ?_ | refine zab rfl rfl (zaa rfl) (za3 rfl ts22 rfl) ?_
    refine zab rfl rfl (zaa rfl) (mv_s (.inl rfl) rfl) ?_
    refine zan ?_
    repeat (first | refine zag ?_ | refine zar ?_ | refine zad ?_ | refine zas ?_ | refine zac ?_)
    refine zc5 (d := 57) rfl (fun hm3 => ?_)
    unfold maxLen at hm3
    refine zcc (S := Nat) (fun j => [(0, eL eI d), (1, eL eSh l), (26, eL eSh l), (27, eI l.length), (28, eI k), (6, .ref (eSh s).cells), (57, eL eI s.pd), (58, eI s.pd.length), (59, eI j)]) (fun _ => []) (fun j => j ≤ s.pd.length ∧ ∀ i, i < j → perB d.length s.pd i = true) (fun j => s.pd.length - j) 0 (zck [] (by decide) trivial ⟨.lo _ (by repeat' (first | exact Lo.s _ | exact zaj | refine zae ?_ ?_ | refine zak ?_ | refine Lo.cells ?_ | refine Lo.agg _ ?_ | refine Lo.ref _ ?_ | refine Lo.tup _ ?_ | refine Lo.fn _ _ ?_ | refine Lo.sl _ ?_ | intro _)), .lo _ (by repeat' (first | exact Lo.s _ | exact zaj | refine zae ?_ ?_ | refine zak ?_ | refine Lo.cells ?_ | refine Lo.agg _ ?_ | refine Lo.ref _ ?_ | refine Lo.tup _ ?_ | refine Lo.fn _ _ ?_ | refine Lo.sl _ ?_ | intro _)), .lo _ (by repeat' (first | exact Lo.s _ | exact zaj | refine zae ?_ ?_ | refine zak ?_ | refine Lo.cells ?_ | refine Lo.agg _ ?_ | refine Lo.ref _ ?_ | refine Lo.tup _ ?_ | refine Lo.fn _ _ ?_ | refine Lo.sl _ ?_ | intro _)), .lo _ (by repeat' (first | exact Lo.s _ | exact zaj | refine zae ?_ ?_ | refine zak ?_ | refine Lo.cells ?_ | refine Lo.agg _ ?_ | refine Lo.ref _ ?_ | refine Lo.tup _ ?_ | refine Lo.fn _ _ ?_ | refine Lo.sl _ ?_ | intro _)), .lo _ (by repeat' (first | exact Lo.s _ | exact zaj | refine zae ?_ ?_ | refine zak ?_ | refine Lo.cells ?_ | refine Lo.agg _ ?_ | refine Lo.ref _ ?_ | refine Lo.tup _ ?_ | refine Lo.fn _ _ ?_ | refine Lo.sl _ ?_ | intro _)), .lo _ (by repeat' (first | exact Lo.s _ | exact zaj | refine zae ?_ ?_ | refine zak ?_ | refine Lo.cells ?_ | refine Lo.agg _ ?_ | refine Lo.ref _ ?_ | refine Lo.tup _ ?_ | refine Lo.fn _ _ ?_ | refine Lo.sl _ ?_ | intro _)), .lo _ (by repeat' (first | exact Lo.s _ | exact zaj | refine zae ?_ ?_ | refine zak ?_ | refine Lo.cells ?_ | refine Lo.agg _ ?_ | refine Lo.ref _ ?_ | refine Lo.tup _ ?_ | refine Lo.fn _ _ ?_ | refine Lo.sl _ ?_ | intro _)), .lo _ (by repeat' (first | exact Lo.s _ | exact zaj | refine zae ?_ ?_ | refine zak ?_ | refine Lo.cells ?_ | refine Lo.agg _ ?_ | refine Lo.ref _ ?_ | refine Lo.tup _ ?_ | refine Lo.fn _ _ ?_ | refine Lo.sl _ ?_ | intro _)), .lo _ (by repeat' (first | exact Lo.s _ | exact zaj | refine zae ?_ ?_ | refine zak ?_ | refine Lo.cells ?_ | refine Lo.agg _ ?_ | refine Lo.ref _ ?_ | refine Lo.tup _ ?_ | refine Lo.fn _ _ ?_ | refine Lo.sl _ ?_ | intro _)), trivial⟩) ⟨by omega, fun j hj => by omega⟩ (fun j hj => ?_)
    obtain ⟨hj, hper⟩ := hj
    repeat (first | refine zag ?_ | refine zar ?_ | refine zad ?_ | refine zas ?_ | refine zac ?_)
    all_goals refine zaf ?_
    all_goals (first | refine zbh rfl rfl (zaa rfl) (zbb rfl rfl rfl) (fun h60 => ?_) (fun h60 => ?_) | refine zbi rfl rfl (zaa rfl) (zbb rfl rfl rfl) (fun h60 => ?_) (fun h60 => ?_))
    all_goals refine zan ?_
    all_goals (repeat (first | refine zag ?_ | refine zar ?_ | refine zad ?_ | refine zas ?_ | refine zac ?_))
    all_goals (first | refine zbp rfl ?_ | refine zbm rfl ?_)
    all_goals (repeat (first | refine zag ?_ | refine zar ?_ | refine zad ?_ | refine zas ?_ | refine zac ?_))
    · have hlt2 : j < s.pd.length := by omega
      refine zaf ?_
      refine zab rfl rfl (zaa rfl) (mv_s (.inl rfl) rfl) ?_
      first | refine zab rfl rfl (zaa rfl) (za1 rfl ts22 ti3 rfl rfl rfl (zb5 (by omega)) rfl) ?_ | refine zab rfl rfl (zaa rfl) (zay rfl ts22 ti3 rfl rfl rfl (by omega)) ?_
      first | refine zab rfl rfl (zaa rfl) (zam rfl ta3 rfl) ?_ | refine zab rfl rfl (zaa rfl) (zap rfl ta3 rfl rfl rfl rfl rfl) ?_
      refine zab rfl rfl (zaa rfl) (mv_s (.inr rfl) rfl) ?_
      refine zab rfl rfl (zaa rfl) (mv_s (.inr rfl) rfl) ?_
      refine zan ?_
      repeat (first | refine zag ?_ | refine zar ?_ | refine zad ?_ | refine zas ?_ | refine zac ?_)
      all_goals refine zaf ?_
      all_goals refine zab rfl rfl (zaa rfl) (mv_s (.inl rfl) rfl) ?_
      all_goals (first | refine zbh rfl rfl (zaa rfl) (zbb rfl rfl rfl) (fun h65 => ?_) (fun h65 => ?_) | refine zbi rfl rfl (zaa rfl) (zbb rfl rfl rfl) (fun h65 => ?_) (fun h65 => ?_))
      all_goals refine zab rfl rfl (zaa rfl) (mv_s (.inl rfl) rfl) ?_
      all_goals (first | refine zab rfl rfl (zah rfl rfl rfl) (mv_s (.inl rfl) rfl) ?_ | refine zaq rfl rfl (zax rfl rfl rfl) ?_ | refine zaq rfl rfl (zav rfl rfl rfl) ?_)
      all_goals (first | refine zab rfl rfl (zah rfl rfl rfl) (za6 (.inl rfl) rfl) ?_ | refine zab rfl rfl (zah rfl rfl rfl) (zbg (.inl rfl) rfl) ?_ | refine zab rfl rfl (zah rfl rfl rfl) (mv_s (.inl rfl) rfl) ?_ | refine zab rfl rfl (zah rfl rfl rfl) (za7 (.inl rfl) rfl) ?_ | refine zaq rfl rfl (zax rfl rfl rfl) ?_ | refine zaq rfl rfl (zav rfl rfl rfl) ?_)
      all_goals (first | refine zab rfl rfl (zah rfl rfl rfl) (za4 rfl ts22 rfl) ?_ | refine zab rfl rfl (zah rfl rfl rfl) (za8 rfl ts22 rfl) ?_ | refine zab rfl rfl (zah rfl rfl rfl) (za2 rfl ts22 rfl) ?_ | refine zab rfl rfl (zah rfl rfl rfl) (zbc rfl ts22 rfl) ?_ | refine zab rfl rfl (zah rfl rfl rfl) (za3 rfl ts22 rfl) ?_ | refine zaq rfl rfl (zax rfl rfl rfl) ?_ | refine zaq rfl rfl (zav rfl rfl rfl) ?_)
      all_goals (first | refine zbh rfl rfl (zah rfl rfl rfl) (zcp rfl rfl rfl) (fun h70 => ?_) (fun h70 => ?_) | refine zbi rfl rfl (zah rfl rfl rfl) (zcp rfl rfl rfl) (fun h70 => ?_) (fun h70 => ?_) | refine zaq rfl rfl (zax rfl rfl rfl) ?_ | refine zaq rfl rfl (zav rfl rfl rfl) ?_)
      all_goals (first | refine zab rfl rfl (zaa rfl) (zbx rfl rfl rfl) ?_ | refine zab rfl rfl (zaa rfl) (zby rfl rfl rfl) ?_ | refine zab rfl rfl (zaa rfl) (zbk rfl rfl rfl) ?_ | refine zab rfl rfl (zaa rfl) (zbl rfl rfl rfl) ?_)
      all_goals refine zab rfl rfl (zaa rfl) (mv_s (.inl rfl) rfl) ?_
      all_goals (first | refine zab rfl rfl (zah rfl rfl rfl) (mv_s (.inl rfl) rfl) ?_ | refine zaq rfl rfl (zax rfl rfl rfl) ?_ | refine zaq rfl rfl (zav rfl rfl rfl) ?_)
      all_goals (first | refine zbh rfl rfl (zah rfl rfl rfl) (zbw rfl rfl rfl) (fun h74 => ?_) (fun h74 => ?_) | refine zbi rfl rfl (zah rfl rfl rfl) (zbw rfl rfl rfl) (fun h74 => ?_) (fun h74 => ?_) | refine zaq rfl rfl (zax rfl rfl rfl) ?_ | refine zaq rfl rfl (zav rfl rfl rfl) ?_)
      all_goals (first | refine zab rfl rfl (zah rfl rfl rfl) (mv_s (.inl rfl) rfl) ?_ | refine zaq rfl rfl (zax rfl rfl rfl) ?_ | refine zaq rfl rfl (zav rfl rfl rfl) ?_)
      all_goals (first | refine zab rfl rfl (zah rfl rfl rfl) (zal rfl zc0 (by decide) rfl) ?_ | refine zab rfl rfl (zah rfl rfl rfl) (zai rfl zc0 (by decide) rfl) ?_ | refine zaq rfl rfl (zb6 rfl rfl rfl) ?_ | refine zaq rfl rfl (zav rfl rfl rfl) ?_)
      all_goals (first | refine zab rfl rfl (zah rfl rfl rfl) (zam rfl ta22 rfl) ?_ | refine zab rfl rfl (zah rfl rfl rfl) (zap rfl ta22 rfl rfl rfl rfl rfl) ?_ | refine zaq rfl rfl (zb6 rfl rfl rfl) ?_ | refine zaq rfl rfl (zav rfl rfl rfl) ?_)
      all_goals (first | refine zab rfl rfl (zah rfl rfl rfl) (mv_s (.inl rfl) rfl) ?_ | refine zaq rfl rfl (zb6 rfl rfl rfl) ?_ | refine zaq rfl rfl (zav rfl rfl rfl) ?_)
      all_goals (first | refine zab rfl rfl (zah rfl rfl rfl) (does_sub rfl rfl rfl (IntWalk.i64_in _ (by omega))) ?_ | refine zaq rfl rfl (zb6 rfl rfl rfl) ?_ | refine zaq rfl rfl (zav rfl rfl rfl) ?_)
      all_goals (first | refine zab rfl rfl (zah rfl rfl rfl) (za1 rfl ts22 ti3 rfl rfl (by omega) (zb5 (k := j - 1) (by omega)) rfl) ?_ | refine zab rfl rfl (zah rfl rfl rfl) (zay rfl ts22 ti3 rfl rfl (by omega) (zb5 (k := j - 1) (by omega))) ?_ | refine zaq rfl rfl (zb6 rfl rfl rfl) ?_ | refine zaq rfl rfl (zav rfl rfl rfl) ?_)
      all_goals (first | refine zab rfl rfl (zah rfl rfl rfl) (zam rfl ta3 rfl) ?_ | refine zab rfl rfl (zah rfl rfl rfl) (zap rfl ta3 rfl rfl rfl rfl rfl) ?_ | refine zaq rfl rfl (zb6 rfl rfl rfl) ?_ | refine zaq rfl rfl (zav rfl rfl rfl) ?_)
      all_goals (first | refine zab rfl rfl (zah rfl rfl rfl) (mv_s (.inl rfl) rfl) ?_ | refine zaq rfl rfl (zb6 rfl rfl rfl) ?_ | refine zaq rfl rfl (zav rfl rfl rfl) ?_)
      all_goals (first | refine zbh rfl rfl (zah rfl rfl rfl) (zcp rfl rfl rfl) (fun h83 => ?_) (fun h83 => ?_) | refine zbi rfl rfl (zah rfl rfl rfl) (zcp rfl rfl rfl) (fun h83 => ?_) (fun h83 => ?_) | refine zaq rfl rfl (zb6 rfl rfl rfl) ?_ | refine zaq rfl rfl (zav rfl rfl rfl) ?_)
      all_goals (first | refine zab rfl rfl (zah rfl rfl rfl) (zbx rfl rfl rfl) ?_ | refine zab rfl rfl (zah rfl rfl rfl) (zby rfl rfl rfl) ?_ | refine zab rfl rfl (zah rfl rfl rfl) (zbk rfl rfl rfl) ?_ | refine zab rfl rfl (zah rfl rfl rfl) (zbl rfl rfl rfl) ?_ | refine zaq rfl rfl (zax rfl rfl rfl) ?_ | refine zaq rfl rfl (zav rfl rfl rfl) ?_)
      all_goals (first | refine zab rfl rfl (zaa rfl) (zbx rfl rfl rfl) ?_ | refine zab rfl rfl (zaa rfl) (zby rfl rfl rfl) ?_ | refine zab rfl rfl (zaa rfl) (zbk rfl rfl rfl) ?_ | refine zab rfl rfl (zaa rfl) (zbl rfl rfl rfl) ?_)
      all_goals refine zan ?_
      all_goals (repeat (first | refine zag ?_ | refine zar ?_ | refine zad ?_ | refine zas ?_ | refine zac ?_))
      all_goals (first | refine zbp rfl ?_ | refine zbm rfl ?_)
      all_goals (repeat (first | refine zag ?_ | refine zar ?_ | refine zad ?_ | refine zas ?_ | refine zac ?_))
      all_goals first
        | skip
          refine zaf ?_
          refine zab rfl rfl (zaa rfl) (mv_s (.inr rfl) rfl) ?_
          refine zan ?_
          repeat (first | refine zag ?_ | refine zar ?_ | refine zad ?_ | refine zas ?_ | refine zac ?_)
          (refine zbs ?_; repeat (first | refine zb8 ?_ | refine zb9 ?_))
          exact zcm (.inr rfl) rfl (congrArg eB (validS_f hlt (by rw [hs]; exact sftB_f hlt2 (decide_eq_false (by omega)))).symm)
        | skip
          refine zaf ?_
          refine zab rfl rfl (zaa rfl) (zb2 rfl rfl rfl (IntWalk.i64_in _ (by omega))) ?_
          refine zab rfl rfl (zaa rfl) (mv_s (.inl rfl) rfl) ?_
          refine zan ?_
          repeat (first | refine zag ?_ | refine zar ?_ | refine zad ?_ | refine zas ?_ | refine zac ?_)
          refine ⟨j + 1, ⟨by omega, fun i hi => ?_⟩, by omega, zck [] (by decide) trivial ⟨.lo _ (by repeat' (first | exact Lo.s _ | exact zaj | refine zae ?_ ?_ | refine zak ?_ | refine Lo.cells ?_ | refine Lo.agg _ ?_ | refine Lo.ref _ ?_ | refine Lo.tup _ ?_ | refine Lo.fn _ _ ?_ | refine Lo.sl _ ?_ | intro _)), .lo _ (by repeat' (first | exact Lo.s _ | exact zaj | refine zae ?_ ?_ | refine zak ?_ | refine Lo.cells ?_ | refine Lo.agg _ ?_ | refine Lo.ref _ ?_ | refine Lo.tup _ ?_ | refine Lo.fn _ _ ?_ | refine Lo.sl _ ?_ | intro _)), .lo _ (by repeat' (first | exact Lo.s _ | exact zaj | refine zae ?_ ?_ | refine zak ?_ | refine Lo.cells ?_ | refine Lo.agg _ ?_ | refine Lo.ref _ ?_ | refine Lo.tup _ ?_ | refine Lo.fn _ _ ?_ | refine Lo.sl _ ?_ | intro _)), .lo _ (by repeat' (first | exact Lo.s _ | exact zaj | refine zae ?_ ?_ | refine zak ?_ | refine Lo.cells ?_ | refine Lo.agg _ ?_ | refine Lo.ref _ ?_ | refine Lo.tup _ ?_ | refine Lo.fn _ _ ?_ | refine Lo.sl _ ?_ | intro _)), .lo _ (by repeat' (first | exact Lo.s _ | exact zaj | refine zae ?_ ?_ | refine zak ?_ | refine Lo.cells ?_ | refine Lo.agg _ ?_ | refine Lo.ref _ ?_ | refine Lo.tup _ ?_ | refine Lo.fn _ _ ?_ | refine Lo.sl _ ?_ | intro _)), .lo _ (by repeat' (first | exact Lo.s _ | exact zaj | refine zae ?_ ?_ | refine zak ?_ | refine Lo.cells ?_ | refine Lo.agg _ ?_ | refine Lo.ref _ ?_ | refine Lo.tup _ ?_ | refine Lo.fn _ _ ?_ | refine Lo.sl _ ?_ | intro _)), .lo _ (by repeat' (first | exact Lo.s _ | exact zaj | refine zae ?_ ?_ | refine zak ?_ | refine Lo.cells ?_ | refine Lo.agg _ ?_ | refine Lo.ref _ ?_ | refine Lo.tup _ ?_ | refine Lo.fn _ _ ?_ | refine Lo.sl _ ?_ | intro _)), .lo _ (by repeat' (first | exact Lo.s _ | exact zaj | refine zae ?_ ?_ | refine zak ?_ | refine Lo.cells ?_ | refine Lo.agg _ ?_ | refine Lo.ref _ ?_ | refine Lo.tup _ ?_ | refine Lo.fn _ _ ?_ | refine Lo.sl _ ?_ | intro _)), .lo _ (by repeat' (first | exact Lo.s _ | exact zaj | refine zae ?_ ?_ | refine zak ?_ | refine Lo.cells ?_ | refine Lo.agg _ ?_ | refine Lo.ref _ ?_ | refine Lo.tup _ ?_ | refine Lo.fn _ _ ?_ | refine Lo.sl _ ?_ | intro _)), trivial⟩⟩
          by_cases e : i = j
          · subst e; exact decide_eq_true (by omega)
          · exact hper i (by omega)
    · (refine zcl ?_; repeat (first | refine ath_x ?_ | refine zci ?_ | refine zcb rfl ?_ | refine zas ?_ | refine zar ?_ | refine zag ?_ | refine zad ?_ | refine zac ?_))
      refine zaf ?_
      refine zab rfl rfl (zaa rfl) (zb2 rfl rfl rfl (IntWalk.i64_in _ (by omega))) ?_
      refine zab rfl rfl (zaa rfl) (mv_s (.inl rfl) rfl) ?_
      refine zan ?_
      repeat (first | refine zag ?_ | refine zar ?_ | refine zad ?_ | refine zas ?_ | refine zac ?_)
      refine ⟨k + 1, ⟨by omega, fun i hi => ?_⟩, by omega, zck [] (by decide) trivial ⟨.lo _ (by repeat' (first | exact Lo.s _ | exact zaj | refine zae ?_ ?_ | refine zak ?_ | refine Lo.cells ?_ | refine Lo.agg _ ?_ | refine Lo.ref _ ?_ | refine Lo.tup _ ?_ | refine Lo.fn _ _ ?_ | refine Lo.sl _ ?_ | intro _)), .lo _ (by repeat' (first | exact Lo.s _ | exact zaj | refine zae ?_ ?_ | refine zak ?_ | refine Lo.cells ?_ | refine Lo.agg _ ?_ | refine Lo.ref _ ?_ | refine Lo.tup _ ?_ | refine Lo.fn _ _ ?_ | refine Lo.sl _ ?_ | intro _)), .lo _ (by repeat' (first | exact Lo.s _ | exact zaj | refine zae ?_ ?_ | refine zak ?_ | refine Lo.cells ?_ | refine Lo.agg _ ?_ | refine Lo.ref _ ?_ | refine Lo.tup _ ?_ | refine Lo.fn _ _ ?_ | refine Lo.sl _ ?_ | intro _)), .lo _ (by repeat' (first | exact Lo.s _ | exact zaj | refine zae ?_ ?_ | refine zak ?_ | refine Lo.cells ?_ | refine Lo.agg _ ?_ | refine Lo.ref _ ?_ | refine Lo.tup _ ?_ | refine Lo.fn _ _ ?_ | refine Lo.sl _ ?_ | intro _)), .lo _ (by repeat' (first | exact Lo.s _ | exact zaj | refine zae ?_ ?_ | refine zak ?_ | refine Lo.cells ?_ | refine Lo.agg _ ?_ | refine Lo.ref _ ?_ | refine Lo.tup _ ?_ | refine Lo.fn _ _ ?_ | refine Lo.sl _ ?_ | intro _)), trivial⟩⟩
      by_cases e : i = k
      · subst e; rw [hs]; exact sftB_t hhs (fun i hi => hper i (by omega))
      · exact hall i (by omega)
  · (refine zcl ?_; repeat (first | refine ath_x ?_ | refine zci ?_ | refine zcb rfl ?_ | refine zas ?_ | refine zar ?_ | refine zag ?_ | refine zad ?_ | refine zac ?_))
    refine zaf ?_
    refine zab rfl rfl (zaa rfl) (mv_s (.inr rfl) rfl) ?_
    refine zan ?_
    repeat (first | refine zag ?_ | refine zar ?_ | refine zad ?_ | refine zas ?_ | refine zac ?_)
    (refine zbs ?_; repeat (first | refine zb8 ?_ | refine zb9 ?_))
    exact zcm (.inr rfl) rfl (congrArg eB (validS_t hh (fun j hj => hall j (by omega))).symm)
end Go.Proofs.YtmoipmnhgdmkpaaGreat.Aw
end
