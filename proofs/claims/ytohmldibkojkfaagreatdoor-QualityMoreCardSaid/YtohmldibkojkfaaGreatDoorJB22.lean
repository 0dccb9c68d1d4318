import Derived.Test.YtohmldibkojkfaaGreatDoorJB19
import Derived.Test.YtohmldibkojkfaaGreatDoorJB20
import Derived.Test.YtohmldibkojkfaaGreatDoorJB18
import Derived.Test.YtohmldibkojkfaaGreatDoorJB17
set_option linter.unusedSimpArgs false
set_option linter.unusedVariables false
set_option linter.unusedSectionVars false
section
namespace Go.Proofs.YtohmldibkojkfaaGreatDoor.Aw
open Go.RowKit
abbrev ER := AV × Sto × Kd
inductive OpOk (P : Program) (o : Oper) (F : Frm) (s : Sto) : ER → Prop
 | free (x : AV) (h : ∀ σ, Does P o F σ x σ) : OpOk P o F s (x, s, .free)
 | look (x : AV) (R : List Nat) (h : ∀ σ2, (∀ id ∈ R, σ2[id]? = s.abs[id]?) → Does P o F σ2 x σ2) : OpOk P o F s (x, s, .look R)
 | eff (x : AV) (s1 : Sto) (W : List Nat) (h : Does P o F s.abs x s1.abs) (hW : ∀ id, id ∉ W → s1.abs[id]? = s.abs[id]?) : OpOk P o F s (x, s1, .eff W)
theorem OpOk.does {P : Program} {o : Oper} {F : Frm} {s s' : Sto} {x : AV} {k : Kd} (h : OpOk P o F s (x, s', k)) : Does P o F s.abs x s'.abs := by
 cases h with
 | free _ h => exact h s.abs
 | look _ R h => exact h s.abs (fun _ _ => rfl)
 | eff _ _ _ h => exact h
section
variable {P : Program} {o : Oper} {F : Frm} {σ : List Ob}
end
end Go.Proofs.YtohmldibkojkfaaGreatDoor.Aw
end
section
namespace Go.Proofs.YtohmldibkojkfaaGreatDoor.Aw
open Go.RowKit
section
variable {P : Program} {o : Oper} {F : Frm} {σ : List Ob} {s : Sto}
theorem zc8 {σ : List Ob} {i id : Nat} {ob : Ob} (h : id ∉ [i]) : (σ.set i ob)[id]? = σ[id]? := by
 rw [List.getElem?_set_ne]; intro e; exact h (by simp [e])
theorem zqw {σ : List Ob} {id : Nat} {ob : Ob} (h : id ∉ [σ.length]) : (σ ++ [ob])[id]? = σ[id]? := by
 by_cases hl : id < σ.length
 ·
  rw [List.getElem?_append_left hl]
 ·
  have hne : id ≠ σ.length := by simpa using h
  rw [List.getElem?_eq_none (by simp; omega), List.getElem?_eq_none (by omega)]
theorem zl6 {t e : TypeId} {len : Nat} {parts : Array (Nat × Operand)} {z : Value} {n bt : Nat} {cs : List AV} (ho : o.op = .buildSlice t len parts) (ht : zb9 P t = some e) (hi : zby P e = some (some z, n, bt))
  (h1 : (ofValue z).cells.all AV.one = true) (hn : (ofValue z).cells.length = n) (h0 : 0 < n) (hlen : 0 < len) (hsm : len * n ≤ 16777216) (hf : zl1 (fun i => some (i * n, n)) (zg0 z (len * n)) (parts.toList.map fun (i, x) => (i, F.eval x)) = some cs) (hcl : cs.length = len * n) : Does P o F σ (.sl (zgf n len cs)) σ :=
 zf0 (x := .any) fun G ρ hr hop => by
  obtain ⟨i, h2, h3, h4, h5⟩ := zgt hi
  obtain ⟨vs, h6, h7⟩ := zkm (G := G) (place := fun i => some (i * n, n)) (parts.map fun (i, x) => (i, ρ x)).toList _ (madeCells z.cells (len * n)) _ cs (zox G z (len * n) h1 (by omega)) (by simp) (zlh (fun y hy => hop y (by simpa [ho, Op.operands] using hy))) hf
  have hvs : vs.size = len * n := by rw [h7.size]; exact hcl
  have hpos : ¬ (len * n = 0) := by
   have := Nat.mul_pos hlen h0
   omega
  have h8 : (Instr.buildSlice t len (parts.map fun (i, x) => (i, ρ x))).run P G.w = .ok (.slice (some ⟨G.w.heap.size, 0, none⟩) len len) (G.w.alloc (.cells vs e)) := by
   have hsm' : ¬ (16777216 < len * n) := by omega
   have h6' : Instr.fill (fun i => some (i * n, n)) (Array.map (fun x => z.cells[x % z.cells.size]!) (Array.range (len * n))) (parts.map fun (i, x) => (i, ρ x)).toList = some vs := h6
   simp only [Array.toList_map] at h6'
   simp [Instr.buildSlice, run_underlying (zd6 ht), zc2 hi, hsm', hpos, zeroValue, typeInfo, h2, h3, h6', newRow]
  have hrow := znp h7 hcl
  let G1 : Cx := { G with w := G.w.alloc (.cells vs e), St := fun b o => G.St b o ∨ b = G.w.heap.size }
  have hbel : Below G.w.heap.size G.w (G.w.alloc (.cells vs e)) := (Below.refl _ _).alloc (Nat.le_refl _) _
  obtain ⟨g1, g2⟩ := zgh (G1 := G1) hr rfl hbel (fun _ _ h => .inl h) (fun b o h => h.imp (fun h => h) (fun h => by omega)) (fun b o h => by
   have hsz : (G.w.alloc (.cells vs e)).heap.size = G.w.heap.size + 1 := by simp
   show b < (G.w.alloc (.cells vs e)).heap.size
   rw [hsz]
   rcases h with h | h
   ·
    have := hr.st b o (.inl h); omega
   ·
    omega)
  refine ⟨.slice (some ⟨G.w.heap.size, 0, none⟩) len len, _, ?_, g1, g2, ?_⟩
  ·
   simp only [execOp, ho, Sem.run_bind, h8, Result.andThen_ok, Sem.run_pure]; rfl
  ·
   have hlen2 : (zgf n len cs).length = len := zi9 n len cs
   have hcell : ∀ j v, vs[j]? = some v → (G.w.alloc (.cells vs e)).cell? ⟨G.w.heap.size, j, none⟩ = some v := fun j v hv => by
    rw [cell_of_row _ _ _ vs e (0, 0) (heap_alloc_new G.w _), hv]
   have := Rep.sl (G := { G with w := G.w.alloc (.cells vs e), St := G1.St }) G.w.heap.size 0 len n (zgf n len cs) (fun k j => vs.getD (k * n + j) undef) (by rw [hlen2]; exact Nat.le_refl _) (by rw [hlen2]; have : len ≤ len * n := Nat.le_mul_of_pos_right _ h0; unfold maxLen; omega)
    (fun k x hk => ⟨(hrow k x hk).1, (hrow k x hk).2.1⟩) (fun k x j c hk hc => by
     obtain ⟨u, h9, h10⟩ := (hrow k x hk).2.2 j c hc
     refine ⟨.inr rfl, ?_⟩
     rw [Nat.zero_add, hcell _ u h9, Array.getD_eq_getD_getElem?, h9]; rfl) (fun k x j c hk hc => by
     obtain ⟨u, h9, h10⟩ := (hrow k x hk).2.2 j c hc
     rw [Array.getD_eq_getD_getElem?, h9]
     exact h10.ext g1)
   rw [hlen2] at this
   exact this
end
section
variable {P : Program} {N : Nat} {F : Frm} {σ : List Ob} {Q : Exit → Frm → List Ob → Prop} {ops : Array Oper} {o : Oper} {l : List Oper} {d : Nat} {x : AV}
theorem zaw (h : stv (opv o.op F) N ops o F = some (d, x)) (k : EOps P N ops l ((d, x) :: F) σ Q) : EOps P N ops (o :: l) F σ Q := zbb (zce h).1 (zce h).2.1 (zce h).2.2.1 (zkg (zce h).2.2.2) k
theorem zxw {t f off n ft : Nat} (hf : zcf P t f = some (off, ft, some n)) (h : stv (fdv o.op t f off n F) N ops o F = some (d, x)) (k : EOps P N ops l ((d, x) :: F) σ Q) : EOps P N ops (o :: l) F σ Q := zbb (zce h).1 (zce h).2.1 (zce h).2.2.1 (zkn hf (zce h).2.2.2) k
theorem zhj (h : stz N ops o F = some d) (k : EOps P N ops l ((d, .s undef) :: F) σ Q) : EOps P N ops (o :: l) F σ Q := zxv (zip h).1 (zip h).2.1 (zip h).2.2 k
end
end Go.Proofs.YtohmldibkojkfaaGreatDoor.Aw
end
section
namespace Go.Proofs.YtohmldibkojkfaaGreatDoor.Aw
open Go.RowKit
def Chg (s s' : Sto) (W : List Nat) : Prop := ∀ id, id ∉ W → s'.abs[id]? = s.abs[id]?
theorem Chg.refl (s : Sto) : Chg s s [] := fun _ _ => rfl
theorem Chg.trans {a b c : Sto} {V W : List Nat} (h : Chg a b V) (k : Chg b c W) : Chg a c (V ++ W) := fun id hid => by
 simp only [List.mem_append, not_or] at hid
 exact (k id hid.2).trans (h id hid.1)
section
variable {P : Program} {o : Oper} {F : Frm} {σ : List Ob}
end
structure CallE (P : Program) (f : FuncId) (args : List AV) (σ : List Ob) (r : AV) (σ' : List Ob) : Prop where
 ent : zj8 P f
 call : ∀ (G : Cx) (vargs : Array Value), Rel G σ → vargs.size = args.length → (∀ (j : Nat) v x, vargs[j]? = some v → args[j]? = some x → Rep G v x) →
  Calls P f vargs G.w fun e w' => ∃ v G', e = .returned v ∧ G'.w = w' ∧ G.Ext G' ∧ Rel G' σ' ∧ Rep G' v r
section
variable {P : Program} {o : Oper} {F : Frm} {σ σ' : List Ob} {f : FuncId} {args : List AV} {r : AV}
theorem zde {fo : Operand} {ar : Array Operand} {ts : Array TypeId} {caps : List AV} (ho : o.op = .call { callee := .value fo, args := ar, argTypes := ts }) (hf : F.eval fo = .fn f caps) (hp : CallE P f args σ r σ') (ha : ar.toList.map F.eval ++ caps = args) : Does P o F σ r σ' := by
 intro G a next Q hr hop hn
 obtain ⟨cap, h1, h2, h3⟩ := zja ho hop hf
 rw [ha] at h2 h3
 unfold Oper.wp
 rw [zhw ho a.eval h1 hp.ent G.w, Oper.upon_enter]
 refine (hp.call G _ hr h2 h3).mono ?_
 rintro e w' ⟨v, G', rfl, rfl, he, hr', hv⟩
 exact hn v G' he hr' hv
theorem zdz {fn : Func} {c : Code} (hf : P.funcs[f]? = some fn) (hname : (fn.name == "runtime.NumGoroutine") = false) (hb : fn.body = some c) (hn : args.length ≤ fn.ntmps)
  (h : EWp P fn.ntmps c (argF 0 args) σ (fun e F' σ1 => (e = .normal ∨ e = .ret) ∧ σ1 = σ' ∧ ∃ xs, ResL P F' σ1 fn.results.toList xs ∧ zuq xs = r)) : CallE P f args σ r σ' := by
 refine ⟨zqd hf hname hb, fun G vargs hrel hsz hrep => ?_⟩
 refine calls_of_wp hf hb ?_
 have hfo : FOk G { tmps := vargs ++ Array.replicate (fn.ntmps - vargs.size) undef, defers := [] } (argF 0 args) := by
  intro d
  rw [zou]
  simp only [Nat.zero_le, if_true, Nat.sub_zero]
  by_cases hd : d < args.length
  ·
   have h1 : (vargs ++ Array.replicate (fn.ntmps - vargs.size) undef).getD d undef = vargs[d]'(by omega) := by
    rw [Array.getD_eq_getD_getElem?, Array.getElem?_append_left (by omega)]
    simp [show d < vargs.size by omega]
   rw [h1]
   have h2 : args.getD d .any = args[d] := by simp [List.getD, hd]
   rw [h2]
   exact hrep d _ _ (by simp [show d < vargs.size by omega]) (by simp [hd])
  ·
   have h2 : args.getD d .any = .any := by simp [List.getD, hd]
   rw [h2]; exact .any _
 have hs8 : S8 fn.ntmps G { tmps := vargs ++ Array.replicate (fn.ntmps - vargs.size) undef, defers := [] } (argF 0 args) σ := ⟨hrel, hfo, .nil, by simp; omega⟩
 refine Code.wp_mono (fun e a w q => ?_) (h G _ hs8)
 obtain ⟨G', F', σ1, rfl, h2, h3, he, rfl, xs, h4, rfl⟩ := q
 obtain ⟨v, h6, h7⟩ := zk8 (fn := fn) h3.rel h3.fr h4
 have post : ∃ v' G'', Ending.returned v = .returned v' ∧ G''.w = G'.w ∧ G.Ext G'' ∧ Rel G'' σ1 ∧ Rep G'' v' (zuq xs) := ⟨v, G', rfl, rfl, h2, h3.rel, h7⟩
 rcases he with rfl | rfl
 ·
  exact ⟨h3.df.1, v, h6, post⟩
 ·
  exact ⟨h3.df.1, v, h6, post⟩
def ObLo (k : Nat) : Ob → Prop
 | .row _ cs | .fz _ cs => ∀ c ∈ cs, Lo k c
 | _ => True
theorem zln {k : Nat} {x : AV} (h : ∀ c ∈ x.cells, Lo k c) : Lo k x := by
 by_cases hx : ∃ cs, x = .agg cs
 ·
  obtain ⟨cs, rfl⟩ := hx; exact .agg cs h
 ·
  have : x.cells = [x] := by cases x <;> first | rfl | (exact absurd ⟨_, rfl⟩ hx)
  exact h x (by rw [this]; simp)
theorem rep_lo {G : Cx} {k : Nat} (hk : ∀ id, k ≤ id → G.mu id = none) {v : Value} {x : AV} (h : Rep G v x) : Lo k x := by
 have key : ∀ id b, G.mu id = some b → id < k := fun id b hb => by
  rcases Nat.lt_or_ge id k with h | h
  ·
   exact h
  ·
   rw [hk id h] at hb; cases hb
 induction h with
 | any v => exact .any
 | s v => exact .s v
 | agg vs cs hl h1 _ ih =>
  refine .agg cs fun c hc => ?_
  obtain ⟨j, hj, rfl⟩ := List.mem_iff_getElem.1 hc
  exact ih j _ _ (Array.getElem?_eq_getElem (by omega)) (List.getElem?_eq_getElem hj)
 | emp A hA => exact .emp
 | slnil A cap => exact .sl [] (by simp)
 | sl b o cap sz l val hc hm h1 h2 _ ih =>
  refine .sl l fun e he => zln fun c hcc => ?_
  obtain ⟨i, hi, rfl⟩ := List.mem_iff_getElem.1 he
  obtain ⟨j, hj, rfl⟩ := List.mem_iff_getElem.1 hcc
  exact ih i _ j _ (List.getElem?_eq_getElem hi) (List.getElem?_eq_getElem hj)
 | ref b o cs val h1 h2 _ ih =>
  refine .ref cs fun c hc => ?_
  obtain ⟨j, hj, rfl⟩ := List.mem_iff_getElem.1 hc
  exact ih j _ (List.getElem?_eq_getElem hj)
 | own0 id sz A hA hm => exact .own _ _ _ (key _ _ hm)
 | own id sz n b cap hm hn hc hb => exact .own _ _ _ (key _ _ hm)
 | ptr id sz k j b hm => exact .ptr _ _ _ _ (key _ _ hm)
 | fn f vs cs hl _ ih =>
  refine .fn f cs fun c hc => ?_
  obtain ⟨j, hj, rfl⟩ := List.mem_iff_getElem.1 hc
  exact ih j _ _ (Array.getElem?_eq_getElem (by omega)) (List.getElem?_eq_getElem hj)
 | tup vs cs hl _ ih =>
  refine .tup cs fun c hc => ?_
  obtain ⟨j, hj, rfl⟩ := List.mem_iff_getElem.1 hc
  exact ih j _ _ (Array.getElem?_eq_getElem (by omega)) (List.getElem?_eq_getElem hj)
 | mp id b hm => exact .mp _ (key _ _ hm)
 | sub id sz o n b cap A hm hA _ => exact .sub _ _ _ _ (key _ _ hm)
 | ifc t v x _ ih => exact .ifc t x ih
 | opq v h => exact .opq
theorem rel_lo {G : Cx} (hr : Rel G σ) {id : Nat} {ob : Ob} (hs : σ[id]? = some ob) : ObLo σ.length ob := by
 have h1 := hr.obs id ob hs
 have row : ∀ b sz cs fr, ze7 G b sz cs fr → ∀ c ∈ cs, Lo σ.length c := by
  rintro b sz cs fr ⟨cur, t, q, h2, h3, h4, h5⟩ e he
  obtain ⟨i, hi, rfl⟩ := List.mem_iff_getElem.1 he
  obtain ⟨_, _, h6⟩ := h5 i _ (List.getElem?_eq_getElem hi)
  refine zln fun c hc => ?_
  obtain ⟨j, hj, rfl⟩ := List.mem_iff_getElem.1 hc
  obtain ⟨v, _, h7⟩ := h6 j _ (List.getElem?_eq_getElem hj)
  exact rep_lo hr.fresh h7
 cases ob with
 | row sz cs =>
  simp only [ObOk] at h1
  cases hx : G.mu id with
  | none => rw [hx] at h1; exact h1.elim
  | some x =>
   rw [hx] at h1
   cases x with
   | none => simp only at h1; subst h1; intro c hc; simp at hc
   | some b => exact row b sz cs _ h1.1
 | fz sz cs =>
  simp only [ObOk] at h1
  cases hx : G.mu id with
  | none => rw [hx] at h1; exact h1.elim
  | some x =>
   rw [hx] at h1
   cases x with
   | none => simp only at h1; subst h1; intro c hc; simp at hc
   | some b => exact row b sz cs _ h1.1
 | _ => trivial
def Cx.keep (G : Cx) (k m : Nat) : Cx := { G with mu := fun i => if i < k then G.mu i else if i = k then G.mu m else none }
theorem zzj {G : Cx} {k m : Nat} {ob0 : Ob} (hr : Rel G σ) (hk : k ≤ m) (hm : σ[m]? = some ob0) (hl : ∀ ob ∈ σ.take k, ObLo k ob) (hl0 : ObLo k ob0) : Rel (G.keep k m) (σ.take k ++ [ob0]) := by
 have hmlt : m < σ.length := (List.getElem?_eq_some_iff.1 hm).1
 have htk : (σ.take k).length = k := by rw [List.length_take]; omega
 have hlow : ∀ v x, Rep G v x → Lo k x → Rep (G.keep k m) v x := fun v x h hx => h.low hx (fun _ _ h => h) (fun _ _ _ => rfl) (fun id y hid hy => by simp [Cx.keep, hid, hy]) (fun _ => zc5.refl _)
 have hmu : ∀ i x, (G.keep k m).mu i = some x → i ≤ k ∧ G.mu (if i < k then i else m) = some x := fun i x h => by
  simp only [Cx.keep] at h
  split at h
  ·
   rename_i h1; exact ⟨by omega, by rw [if_pos h1]; exact h⟩
  ·
   rename_i h1
   split at h
   ·
    rename_i h2; exact ⟨by omega, by rw [if_neg h1]; exact h⟩
   ·
    cases h
 have horig : ∀ i ob, (σ.take k ++ [ob0])[i]? = some ob → i ≤ k ∧ σ[if i < k then i else m]? = some ob ∧ (G.keep k m).mu i = G.mu (if i < k then i else m) ∧ ObLo k ob := fun i ob h => by
  rcases Nat.lt_trichotomy i k with h1 | h1 | h1
  ·
   rw [List.getElem?_append_left (by omega), List.getElem?_take, if_pos h1] at h
   refine ⟨by omega, by rw [if_pos h1]; exact h, by simp [Cx.keep, h1], hl ob ?_⟩
   have : (σ.take k)[i]? = some ob := by rw [List.getElem?_take, if_pos h1]; exact h
   exact List.mem_of_getElem? this
  ·
   subst h1
   rw [List.getElem?_append_right (by omega), htk, Nat.sub_self] at h
   simp at h; subst h
   exact ⟨by omega, by rw [if_neg (by omega)]; exact hm, by simp [Cx.keep], hl0⟩
  ·
   rw [List.getElem?_eq_none (by simp; omega)] at h; cases h
 have hinj : ∀ i j, i ≤ k → j ≤ k → (if i < k then i else m) = (if j < k then j else m) → i = j := fun i j hi hj h => by
  split at h <;> split at h <;> omega
 refine ⟨hr.below, hr.le, hr.st, fun id ob hob => ?_, fun i j b hi hj hmi hmj => ?_, fun id hid => ?_⟩
 ·
  obtain ⟨hik, hs, e, hlo⟩ := horig id ob hob
  have h1 := hr.obs _ ob hs
  generalize (if id < k then id else m) = o at hs e h1
  have row : ∀ b sz cs fr, (∀ c ∈ cs, Lo k c) → ze7 G b sz cs fr → ze7 (G.keep k m) b sz cs fr := by
   rintro b sz cs fr hlo ⟨cur, t, q, h2, h3, h4, h5⟩
   refine ⟨cur, t, q, h2, h3, h4, fun i x hx => ⟨(h5 i x hx).1, (h5 i x hx).2.1, fun j c hc => ?_⟩⟩
   obtain ⟨v, h6, h7⟩ := (h5 i x hx).2.2 j c hc
   exact ⟨v, h6, hlow v c h7 ((hlo x (List.mem_of_getElem? hx)).cells c (List.mem_of_getElem? hc))⟩
  cases ob with
  | dead => exact fun b hb => h1 b (by rw [← e]; exact hb)
  | row sz cs =>
   simp only [ObOk] at h1 ⊢
   rw [e]
   cases hx : G.mu o with
   | none => rw [hx] at h1; exact h1
   | some x =>
    rw [hx] at h1
    cases x with
    | none => exact h1
    | some b => exact ⟨row b sz cs _ hlo h1.1, h1.2⟩
  | fz sz cs =>
   simp only [ObOk] at h1 ⊢
   rw [e]
   cases hx : G.mu o with
   | none => rw [hx] at h1; exact h1
   | some x =>
    rw [hx] at h1
    cases x with
    | none => exact h1
    | some b => exact ⟨row b sz cs _ hlo h1.1, h1.2⟩
  | mp X =>
   obtain ⟨b, g1, g2, g3, g4, g5⟩ := h1
   refine ⟨b, e.trans g1, g2, g3, g4, fun j hj => ?_⟩
   obtain ⟨hj1, hj2⟩ := hmu j _ hj
   obtain ⟨hi1, hi2⟩ := hmu id _ (e.trans g1)
   exact hinj j id hj1 hi1 ((g5 _ hj2).trans (g5 _ hi2).symm)
 ·
  have al : ∀ i, ze6 (σ.take k ++ [ob0]) i → i ≤ k ∧ ze6 σ (if i < k then i else m) := by
   rintro i ⟨sz, cs, h⟩
   obtain ⟨h1, h2, _⟩ := horig i _ h
   exact ⟨h1, sz, cs, h2⟩
  exact hinj i j (al i hi).1 (al j hj).1 (hr.inj _ _ b (al i hi).2 (al j hj).2 (hmu i _ hmi).2 (hmu j _ hmj).2)
 ·
  rw [List.length_append, htk] at hid
  simp only [List.length_singleton] at hid
  simp only [Cx.keep]
  rw [if_neg (by omega), if_neg (by omega)]
theorem CallE.keep {m sz n : Nat} {ob0 : Ob} (h : CallE P f args σ (.own m sz n) σ') (hk : σ.length ≤ m) (hm : σ'[m]? = some ob0) {W : List Nat} (hW : ∀ id, id ∉ W → σ'[id]? = σ[id]?) (hl : ∀ id ∈ W, id < σ.length → ∀ ob, σ'[id]? = some ob → ObLo σ.length ob) (hr : ObLo σ.length ob0) : CallE P f args σ (.own σ.length sz n) (σ'.take σ.length ++ [ob0]) :=
 ⟨h.ent, fun G vargs hrel hsz hrep => (h.call G vargs hrel hsz hrep).mono (by
  rintro e w' ⟨v, G', rfl, rfl, he, hr', hv⟩
  have hl' : ∀ ob ∈ σ'.take σ.length, ObLo σ.length ob := fun ob hob => by
   obtain ⟨id, hid, rfl⟩ := List.mem_iff_getElem.1 hob
   have hlt : id < σ.length := by rw [List.length_take] at hid; omega
   have hget : σ'[id]? = some (σ'.take σ.length)[id] := by
    have := List.getElem?_eq_getElem hid
    rw [List.getElem?_take, if_pos hlt] at this
    exact this
   by_cases hm : id ∈ W
   ·
    exact hl id hm hlt _ hget
   ·
    rw [hW id hm] at hget
    exact rel_lo hrel hget
  refine ⟨v, G'.keep σ.length m, rfl, rfl, ⟨he.base, he.w0, he.st, he.cell, fun id x hx => ?_, he.size, he.rows, he.stN, he.pr, he.prN, he.oth⟩, zzj hr' hk hm hl' hr, ?_⟩
  ·
   have hid : id < σ.length := by
    rcases Nat.lt_or_ge id σ.length with h1 | h1
    ·
     exact h1
    ·
     rw [hrel.fresh id h1] at hx; cases hx
   simp only [Cx.keep, if_pos hid]
   exact he.mu id x hx
  ·
   have e : (G'.keep σ.length m).mu σ.length = G'.mu m := by simp [Cx.keep]
   cases hv with
   | own0 _ _ A hA hm2 => exact .own0 _ _ A hA (e.trans hm2)
   | own _ _ _ b cap hm2 hn hc hb => exact .own _ _ _ b cap (e.trans hm2) hn hc hb)⟩
end
end Go.Proofs.YtohmldibkojkfaaGreatDoor.Aw
end
section
namespace Go.Proofs.YtohmldibkojkfaaGreatDoor.Aw
open Go.RowKit
variable [Mk]
section
variable {P : Program} {N : Nat} {l : List Oper} {F F' : Frm} {σ : List Ob} {out : List (Nat × AV)} {Q : Exit → Frm → List Ob → Prop}
theorem z0a (h : z0e P N l F σ Q) : zsq P N l F σ Q := fun G a hs =>
 zei (fun e a w q => by obtain ⟨G', F', σ', h1, h2, h3, h4⟩ := q; exact ⟨G', F', σ', h1, h2.step, h3, h4⟩) _ _ _ _ (h G a hs)
def EX (P : Program) (N : Nat) (ops : Array Oper) (all : List Oper) (acc : List Kd) (l : List Oper) (F : Frm) (σ : List Ob) (K : Frm → List Ob → Prop) : Prop :=
 ∃ F' σ' out ks sts, ESteps P N ops l F σ F' σ' out ks sts ∧ eOk all N (acc.reverse ++ ks) = true ∧ K F' σ'
variable {ops : Array Oper} {all : List Oper} {acc : List Kd} {K : Frm → List Ob → Prop} {o : Oper} {d : Nat} {x : AV} {σ1 : List Ob}
theorem zi3 (hk : eOk all N acc.reverse = true) (h : K F σ) : EX P N ops all acc [] F σ K := ⟨F, σ, [], [], [], .nil F σ, by simpa using hk, h⟩
theorem z24 (hd : o.dst = some d) (hN : Nat.blt d N = true) : dOk N o = true := by unfold dOk; rw [hd]; exact hN
theorem dOk_n (hd : o.dst = none) : dOk N o = true := by unfold dOk; rw [hd]
theorem zct (hd : o.dst = some d) (hN : Nat.blt d N = true) (hr : Runs ops F o true) (hD : ∀ σ, Does P o F σ x σ) (h : EX P N ops all (.free :: acc) l ((d, x) :: F) σ K) : EX P N ops all acc (o :: l) F σ K := by
 obtain ⟨F', σ', out, ks, sts, h1, h2, h3⟩ := h
 exact ⟨F', σ', _, _, _, .free o l F F' σ σ' x out ks sts (z24 hd hN) hr hD (by rw [zfx hd]; exact h1), by simpa using h2, h3⟩
theorem zc6 {R : List Nat} (hd : o.dst = some d) (hN : Nat.blt d N = true) (hr : Runs ops F o true) (hD : ∀ σ2, (∀ id ∈ R, σ2[id]? = σ[id]?) → Does P o F σ2 x σ2) (h : EX P N ops all (.look R :: acc) l ((d, x) :: F) σ K) : EX P N ops all acc (o :: l) F σ K := by
 obtain ⟨F', σ', out, ks, sts, h1, h2, h3⟩ := h
 exact ⟨F', σ', _, _, _, .look o l F F' σ σ' x out ks sts R (z24 hd hN) hr hD (by rw [zfx hd]; exact h1), by simpa using h2, h3⟩
theorem zl2 {W : List Nat} (hd : o.dst = some d) (hN : Nat.blt d N = true) (hr : Runs ops F o true) (hD : Does P o F σ x σ1) (hW : ∀ id, id ∉ W → σ1[id]? = σ[id]?) (h : EX P N ops all (.eff W :: acc) l ((d, x) :: F) σ1 K) : EX P N ops all acc (o :: l) F σ K := by
 obtain ⟨F', σ', out, ks, sts, h1, h2, h3⟩ := h
 exact ⟨F', σ', _, _, _, .eff o l F F' σ σ1 σ' x out ks sts W (z24 hd hN) hr hD hW (by rw [zfx hd]; exact h1), by simpa using h2, h3⟩
theorem zeo {W : List Nat} (hd : o.dst = none) (hr : Runs ops F o true) (hD : Does P o F σ x σ1) (hW : ∀ id, id ∉ W → σ1[id]? = σ[id]?) (h : EX P N ops all (.eff W :: acc) l ((N, .any) :: F) σ1 K) : EX P N ops all acc (o :: l) F σ K := by
 obtain ⟨F', σ', out, ks, sts, h1, h2, h3⟩ := h
 exact ⟨F', σ', _, _, _, .eff o l F F' σ σ1 σ' x out ks sts W (dOk_n hd) hr hD hW (by rw [zi4 hd]; exact h1), by simpa using h2, h3⟩
theorem z0b (h : EX P N l.toArray l [] l F σ (fun F' σ' => Q .normal F' σ')) : zsq P N l F σ Q := by
 obtain ⟨F', σ', out, ks, sts, h1, h2, h3⟩ := h
 exact z0a (zl4 h1 (by simpa using h2) h3)
theorem zdg {t : TypeId} {x : Operand} {id sz k j : Nat} {ob : Ob} {cs : List AV} {e c : AV} (ho : o.op = .load t x) (ha : zda P t = some false) (hx : F.eval x = .ptr id sz k j) (hs : σ[id]? = some ob) (hb : zfs ob = some (sz, cs)) (he : cs[k]? = some e) (hc : e.cells[j]? = some c) : ∀ σ2 : List Ob, (∀ i ∈ [id], σ2[i]? = σ[i]?) → Does P o F σ2 c σ2 :=
 fun σ2 h => zap ho ha hx ((h id (by simp)).trans hs) hb he hc
theorem zht {t : TypeId} {x : Operand} {z : Option Value} {n bt : Nat} {id sz k : Nat} {ob : Ob} {cs : List AV} {e : AV} (ho : o.op = .load t x) (ha : zda P t = some true) (hi : zby P t = some (z, n, bt)) (hx : F.eval x = .ptr id sz k 0) (hs : σ[id]? = some ob) (hb : zfs ob = some (sz, cs)) (he : cs[k]? = some e) (hn : e.cells.length = n) : ∀ σ2 : List Ob, (∀ i ∈ [id], σ2[i]? = σ[i]?) → Does P o F σ2 (.agg e.cells) σ2 :=
 fun σ2 h => zb2 ho ha hi hx ((h id (by simp)).trans hs) hb he hn
theorem zfi {id i : Nat} {ob ob' : Ob} (h : id ∉ [i, σ.length]) : (σ.set i ob ++ [ob'])[id]? = σ[id]? := by
 have h2 : id ≠ i ∧ id ≠ σ.length := by simpa using h
 rw [zqw (by rw [List.length_set]; simpa using h2.2), zc8 (by simpa using h2.1)]
theorem z16 {ad u : Nat} {ty : TypeId} {id sz k n bt : Nat} {z : Option Value} {ob : Ob} {cs : List AV} {e1 y r : AV} {e : Exit} (he : e = .normal ∨ e = .ret) (ha : zda P ty = some true) (hi : zby P ty = some (z, n, bt)) (hp : F.get ad = .ptr id sz k 0) (hs : σ[id]? = some ob) (ho : zfs ob = some (sz, cs)) (hk : cs[k]? = some e1) (hn : e1.cells.length = n) (hu : F.get u = y) (hr : AV.tup [.agg e1.cells, y] = r) : zmq P [.cell ad ty, .tmp u] r e F σ :=
 ⟨he, [.agg e1.cells, y], .cons _ _ _ _ (.cells ad ty id sz k n bt z ob cs e1 ha hi hp hs ho hk hn) (.cons _ _ _ _ (.tmp u y hu) .nil), hr ▸ .refl _⟩
end
section
variable {P : Program} {N : Nat} {F : Frm} {σ : List Ob} {ops : Array Oper} {o : Oper} {l all : List Oper} {d : Nat} {x : AV} {acc : List Kd} {K : Frm → List Ob → Prop}
theorem ex_s (h : stv (opv o.op F) N ops o F = some (d, x)) (k : EX P N ops all (.free :: acc) l ((d, x) :: F) σ K) : EX P N ops all acc (o :: l) F σ K := zct (zce h).1 (zce h).2.1 (zce h).2.2.1 (fun _ => zkg (zce h).2.2.2) k
theorem ex_f {t f off n ft : Nat} (hf : zcf P t f = some (off, ft, some n)) (h : stv (fdv o.op t f off n F) N ops o F = some (d, x)) (k : EX P N ops all (.free :: acc) l ((d, x) :: F) σ K) : EX P N ops all acc (o :: l) F σ K := zct (zce h).1 (zce h).2.1 (zce h).2.2.1 (fun _ => zkn hf (zce h).2.2.2) k
theorem ex_w {t n bt : Nat} {z : Option Value} (ha : zda P t = some true) (hi : zby P t = some (z, n, bt)) (h : stv (lwv o.op t n F) N ops o F = some (d, x)) (k : EX P N ops all (.free :: acc) l ((d, x) :: F) σ K) : EX P N ops all acc (o :: l) F σ K := zct (zce h).1 (zce h).2.1 (zce h).2.2.1 (fun _ => zn5 ha hi (zce h).2.2.2) k
end
end Go.Proofs.YtohmldibkojkfaaGreatDoor.Aw
end
section
namespace Go.Proofs.YtohmldibkojkfaaGreatDoor.Aw
open Go Go.RowKit Go.Proofs
variable [Mk]
def tyIf (P : Program) (t : TypeId) : Option Bool := (P.underlying t).map fun d => match d with | .interface _ => true | _ => false
section
variable {P : Program} {o : Oper} {F : Frm} {σ σ' : List Ob}
theorem zgd {t : TypeId} {y : Operand} {x : AV} (ho : o.op = .makeInterface t y) (ht : tyIf P t = some false) (hy : F.eval y = x) : Does P o F σ (.ifc t x) σ :=
 zcb fun G ρ hr hop => by
  have h1 := hop y (by simp [ho, Op.operands])
  rw [hy] at h1
  refine ⟨.iface t (ρ y), ?_, .ifc t _ _ h1⟩
  unfold tyIf at ht
  cases hd : P.underlying t with
  | none => rw [hd] at ht; cases ht
  | some d =>
   rw [hd] at ht
   simp only [Option.map_some, Option.some.injEq] at ht
   cases d <;> simp_all [execOp, Instr.makeInterface, run_underlying hd]
theorem zj5 {xt t : TypeId} {y : Operand} {x : AV} (ho : o.op = .typeAssert y xt t false) (ht : tyIf P t = some false) (hy : F.eval y = .ifc t x) : Does P o F σ x σ :=
 zcb fun G ρ hr hop => by
  have h1 := hop y (by simp [ho, Op.operands])
  rw [hy] at h1
  generalize hv : ρ y = v at h1
  cases h1 with
  | ifc _ u _ h =>
   refine ⟨u, ?_, h⟩
   unfold tyIf at ht
   cases hd : P.underlying t with
   | none => rw [hd] at ht; cases ht
   | some d =>
    rw [hd] at ht
    simp only [Option.map_some, Option.some.injEq] at ht
    cases d <;> simp_all [execOp, Instr.typeAssert, run_underlying hd]
structure MethP (P : Program) (t : TypeId) (name : String) (f : FuncId) : Prop where
 run : ∀ (a : Addr) (w : World), (method (P.types.size + Made.depth) t (.pointer (some a)) name).run P w = .ok (f, .pointer (some a)) w
structure MethV (P : Program) (t : TypeId) (name : String) (f : FuncId) (e : TypeId) : Prop where
 run : ∀ (a : Addr) (w : World), (method (P.types.size + Made.depth) t (.pointer (some a)) name).run P w = (do let v ← loadVar e a; pure (f, v) : Sem (FuncId × Value)).run P w
def zj9 (P : Program) (t : TypeId) (name : String) (f : FuncId) (σ : List Ob) (x rx : AV) : Prop :=
 ∀ (G : Cx) (v : Value), Rel G σ → Rep G v x → ∃ rv, (method (P.types.size + Made.depth) t v name).run P G.w = .ok (f, rv) G.w ∧ Rep G rv rx
theorem zwz {t : TypeId} {name : String} {f : FuncId} {id sz k j : Nat} (h : MethP P t name f) : zj9 P t name f σ (.ptr id sz k j) (.ptr id sz k j) := fun G v hr hv => by
 cases hv with
 | ptr _ _ _ _ b hm => exact ⟨_, h.run _ _, .ptr id sz k j b hm⟩
theorem zic {t e : TypeId} {name : String} {f : FuncId} {id sz k j : Nat} {ob : Ob} {cs : List AV} {y c : AV} (h : MethV P t name f e) (ha : zda P e = some false) (hs : σ[id]? = some ob) (hb : zfs ob = some (sz, cs)) (hy : cs[k]? = some y) (hc : y.cells[j]? = some c) : zj9 P t name f σ (.ptr id sz k j) c := fun G v hr hv => by
 cases hv with
 | ptr _ _ _ _ b hm =>
  obtain ⟨g, _, _, h2⟩ := zfc hr hs hb hm hy
  obtain ⟨h3, h4⟩ := h2 j c hc
  refine ⟨g j, ?_, h4⟩
  rw [h.run]
  have : (loadVar e ⟨b, k * sz + j, none⟩).run P G.w = .ok (g j) G.w := by simp [loadVar, zg7 ha, h3]
  simp [this]
theorem zxg {recv : Operand} {name : String} {ar : Array Operand} {ts : Array TypeId} {t : TypeId} {v rv : Value} {f : FuncId} (ho : o.op = .call { callee := .invoke recv name, args := ar, argTypes := ts }) (ρ : Operand → Value) (hv : ρ recv = .iface t v) (w : World)
  (hm : (method (P.types.size + Made.depth) t v name).run P w = .ok (f, rv) w) (he : zj8 P f) : (execOp ρ o).run P w = .ok (.enter f (#[rv] ++ ar.map ρ)) w := by
 have hx : (#[Value.iface t v] ++ ar.map ρ)[0]? = some (Value.iface t v) := by
  rw [Array.getElem?_append_left (by simp)]; rfl
 have hy : (#[Value.iface t v] ++ ar.map ρ).extract 1 (#[Value.iface t v] ++ ar.map ρ).size = ar.map ρ := by
  apply Array.ext'
  simp [List.take_of_length_le]
 simp only [execOp, ho, resolve, Sem.run_bind, Sem.run_pure, Result.andThen_ok, hv, invoke, hx, callMethod, hy]
 have hp : (program : Sem Program).run P w = .ok P w := rfl
 simp only [Sem.run_bind, hp, Result.andThen_ok, hm]
 exact he _ w
theorem zcq {recv : Operand} {name : String} {ar : Array Operand} {ts : Array TypeId} {t : TypeId} {x rx r : AV} {args : List AV} {f : FuncId} (ho : o.op = .call { callee := .invoke recv name, args := ar, argTypes := ts })
  (hf : F.eval recv = .ifc t x) (hm : zj9 P t name f σ x rx) (hp : CallE P f args σ r σ') (ha : rx :: ar.toList.map F.eval = args) : Does P o F σ r σ' := by
 intro G a next Q hr hop hn
 have h1 := hop recv (by simp [ho, Op.operands, Call.operands])
 rw [hf] at h1
 generalize hv : a.eval recv = v at h1
 cases h1 with
 | ifc _ u _ h =>
  obtain ⟨rv, h2, h3⟩ := hm G u hr h
  unfold Oper.wp
  rw [zxg ho a.eval hv G.w h2 hp.ent, Oper.upon_enter]
  refine (hp.call G _ hr (by rw [← ha]; simp; omega) (fun j v x hj hx => ?_)).mono ?_
  ·
   rw [← ha] at hx
   cases j with
   | zero =>
    rw [Array.getElem?_append_left (by simp)] at hj
    simp at hj hx; subst hj hx; exact h3
   | succ j =>
    have hj' : (ar.map a.eval)[j]? = some v := by
     rw [Array.getElem?_append_right (by simp)] at hj
     simpa using hj
    rw [List.getElem?_cons_succ] at hx
    by_cases hlt : j < ar.size
    ·
     simp [hlt] at hj' hx
     subst hj' hx
     exact hop ar[j] (by simp [ho, Op.operands, Call.operands])
    ·
     simp [hlt] at hj'
  ·
   rintro e w' ⟨v, G', rfl, rfl, he, hr', hv⟩
   exact hn v G' he hr' hv
end
end Go.Proofs.YtohmldibkojkfaaGreatDoor.Aw
end
section
namespace Go.Proofs.YtohmldibkojkfaaGreatDoor.Aw
open Go Go.RowKit Go.Proofs
section
variable {P : Program} {N : Nat} {F : Frm} {σ σ' : List Ob} {Q : Exit → Frm → List Ob → Prop}
theorem zvu {F' : Frm} (h : Sub F F') {G : Cx} {a : Act} (hf : FOk G a F) : FOk G a F' := by
 induction F' with
 | nil => intro d; exact .any _
 | cons p F' ih =>
  obtain ⟨d, y⟩ := p
  obtain ⟨h1, h2⟩ := h
  intro t
  simp only [Frm.get]
  cases e : Nat.beq d t with
  | true =>
   have := Nat.eq_of_beq_eq_true e
   subst this
   rw [cond_true, ← h1]
   exact hf d
  | false => exact ih h2 t
theorem z04 {c : Code} (F' : Frm) (h : ∀ (G : Cx) (a : Act), FOk G a F → FOk G a F') (k : EWp P N c F' σ Q) : EWp P N c F σ Q := fun G a hs => k G a ⟨hs.rel, h G a hs.fr, hs.df, hs.nt⟩
theorem zj3 {c : Code} (F' : Frm) (h : Sub F F') (k : EWp P N c F' σ Q) : EWp P N c F σ Q := z04 F' (fun _ _ => zvu h) k
theorem ew_st {c : Code} (h : σ = σ') (k : EWp P N c F σ' Q) : EWp P N c F σ Q := h ▸ k
theorem ztw {c : Code} {S : Type} (fr : S → Frm) (st : S → List Ob) (inv : S → Prop) (ms : S → Nat) (s0 : S) (hf : Sub F (fr s0)) (hs : σ = st s0) (h0 : inv s0)
  (round : ∀ s, inv s → EWp P N c (fr s) (st s) (zgi (fun F' σ' => ∃ s', inv s' ∧ ms s' < ms s ∧ Sub F' (fr s') ∧ σ' = st s') Q)) : EWp P N (.loop c) F σ Q := by
 refine ew_st hs (zj3 (fr s0) hf ?_)
 refine z2z (fun m F σ => ∃ s, inv s ∧ ms s = m ∧ (∀ (G : Cx) (a : Act), FOk G a F → FOk G a (fr s)) ∧ σ = st s) (ms s0) ⟨s0, h0, rfl, fun _ _ h => h, rfl⟩ (fun m F σ h => ?_)
 obtain ⟨s, h1, rfl, h3, rfl⟩ := h
 refine z04 (fr s) h3 (z2y (round s h1) (fun e F σ q => ?_))
 cases e with
 | normal => obtain ⟨s', g1, g2, g3, g4⟩ := q; exact ⟨ms s', g2, s', g1, rfl, fun _ _ => zvu g3, g4⟩
 | _ => exact q
end
def kdMay : Kd → Kd → Bool
 | .look _, .look _ => false
 | .free, _ => false
 | _, .free => false
 | _, _ => true
def zlr : Nat → List (Nat × Kd) → List Kd → List Nat → Bool
 | j, prev, k :: ks, m :: ms => (prev.all fun p => !(kdMay p.2 k) || m.testBit p.1) && zlr (j + 1) (match k with | .free => prev | _ => (j, k) :: prev) ks ms
 | _, _, [], _ => true
 | _, _, _ :: _, [] => false
theorem zzk {a b : Kd} (h : ze4 a b = true) : kdMay a b = true := by cases a <;> cases b <;> first | rfl | (simp [ze4] at h)
theorem zng : ∀ (ks : List Kd) (ms : List Nat) (j : Nat) (prev : List (Nat × Kd)), zlr j prev ks ms = true → zls j prev ks ms = true
 | [], ms, j, prev, h => by cases ms <;> rfl
 | k :: ks, [], j, prev, h => by simp [zlr] at h
 | k :: ks, m :: ms, j, prev, h => by
  simp only [zlr, Bool.and_eq_true] at h
  simp only [zls, Bool.and_eq_true]
  refine ⟨List.all_eq_true.2 fun p hp => ?_, zng ks ms _ _ h.2⟩
  have h1 := List.all_eq_true.1 h.1 p hp
  cases hc : ze4 p.2 k with
  | false => rfl
  | true =>
   rw [zzk hc] at h1
   simpa using h1
def eOkT (l : List Oper) (N : Nat) (ks : List Kd) : Bool := sOk l N && zlr 0 [] ks (zid l [])
theorem zr6 {P : Program} {N : Nat} {ops : Array Oper} {all : List Oper} {acc : List Kd} {F : Frm} {σ : List Ob} {K : Frm → List Ob → Prop} (hk : eOkT all N acc.reverse = true) (h : K F σ) : EX P N ops all acc [] F σ K :=
 zi3 (by
  unfold eOkT at hk
  unfold eOk
  simp only [Bool.and_eq_true] at hk ⊢
  exact ⟨hk.1, zng _ _ _ _ hk.2⟩) h
end Go.Proofs.YtohmldibkojkfaaGreatDoor.Aw
end
section
namespace Go.Proofs.YtohmldibkojkfaaGreatDoor.Aw
open Go.RowKit
inductive Nm (q : Nat → Prop) : AV → Prop
 | any : Nm q .any
 | s (v : Value) : Nm q (.s v)
 | agg (cs : List AV) (h : ∀ c ∈ cs, Nm q c) : Nm q (.agg cs)
 | emp : Nm q .emp
 | sl (l : List AV) (h : ∀ c ∈ l, Nm q c) : Nm q (.sl l)
 | ref (cs : List AV) (h : ∀ c ∈ cs, Nm q c) : Nm q (.ref cs)
 | own (id sz n : Nat) (h : q id) : Nm q (.own id sz n)
 | ptr (id sz i j : Nat) (h : q id) : Nm q (.ptr id sz i j)
 | fn (f : FuncId) (cs : List AV) (h : ∀ c ∈ cs, Nm q c) : Nm q (.fn f cs)
 | tup (l : List AV) (h : ∀ c ∈ l, Nm q c) : Nm q (.tup l)
 | mp (id : Nat) (h : q id) : Nm q (.mp id)
 | sub (id sz o n : Nat) (h : q id) : Nm q (.sub id sz o n)
 | ifc (t : TypeId) (x : AV) (h : Nm q x) : Nm q (.ifc t x)
 | opq : Nm q .opq
theorem Nm.cells {q : Nat → Prop} {x : AV} (h : Nm q x) : ∀ c ∈ x.cells, Nm q c := by
 cases h with
 | agg cs h => exact h
 | any => intro c hc; simp [AV.cells] at hc; subst hc; exact .any
 | s v => intro c hc; simp [AV.cells] at hc; subst hc; exact .s v
 | emp => intro c hc; simp [AV.cells] at hc; subst hc; exact .emp
 | sl l h => intro c hc; simp [AV.cells] at hc; subst hc; exact .sl l h
 | ref l h => intro c hc; simp [AV.cells] at hc; subst hc; exact .ref l h
 | own a b c h => intro c hc; simp [AV.cells] at hc; subst hc; exact .own _ _ _ h
 | ptr a b c d h => intro c hc; simp [AV.cells] at hc; subst hc; exact .ptr _ _ _ _ h
 | fn f l h => intro c hc; simp [AV.cells] at hc; subst hc; exact .fn f l h
 | tup l h => intro c hc; simp [AV.cells] at hc; subst hc; exact .tup l h
 | mp a h => intro c hc; simp [AV.cells] at hc; subst hc; exact .mp _ h
 | sub a b c d h => intro c hc; simp [AV.cells] at hc; subst hc; exact .sub _ _ _ _ h
 | ifc t x h => intro c hc; simp [AV.cells] at hc; subst hc; exact .ifc t x h
 | opq => intro c hc; simp [AV.cells] at hc; subst hc; exact .opq
def z1q (G G' : Cx) : Prop := G'.base = G.base ∧ G'.w0 = G.w0 ∧ G'.w = G.w ∧ G'.St = G.St ∧ G'.Pr = G.Pr
theorem Rep.nm {G G' : Cx} {q : Nat → Prop} {v : Value} {x : AV} (h : Rep G v x) (hx : Nm q x) (hs : z1q G G') (hmu : ∀ id y, q id → G.mu id = some y → G'.mu id = some y) : Rep G' v x := by
 obtain ⟨_, _, hw, hst, _⟩ := hs
 induction h with
 | any v => exact .any v
 | s v => exact .s v
 | agg vs cs hl h1 _ ih => cases hx with | agg _ hx => exact .agg vs cs hl h1 (fun j v c a b => ih j v c a b (hx c (List.mem_of_getElem? b)))
 | emp A hA => exact .emp A hA
 | slnil A cap => exact .slnil A cap
 | sl b o cap sz l val hcp hm h1 h2 _ ih => cases hx with | sl _ hx => exact .sl b o cap sz l val hcp hm h1 (fun k x j c hk hj => by rw [hst, hw]; exact h2 k x j c hk hj) (fun k x j c hk hj => ih k x j c hk hj ((hx x (List.mem_of_getElem? hk)).cells c (List.mem_of_getElem? hj)))
 | ref b o cs val h1 h2 _ ih => cases hx with | ref _ hx => exact .ref b o cs val h1 (fun j c hj => by rw [hst, hw]; exact h2 j c hj) (fun j c hj => ih j c hj (hx c (List.mem_of_getElem? hj)))
 | own0 id sz A hA hm => cases hx with | own _ _ _ hx => exact .own0 id sz A hA (hmu _ _ hx hm)
 | own id sz n b cap hm hn hcp hb => cases hx with | own _ _ _ hx => exact .own id sz n b cap (hmu _ _ hx hm) hn hcp (by rw [hw]; exact hb)
 | ptr id sz i j b hm => cases hx with | ptr _ _ _ _ hx => exact .ptr id sz i j b (hmu _ _ hx hm)
 | fn f vs cs hl _ ih => cases hx with | fn _ _ hx => exact .fn f vs cs hl (fun j v c a b => ih j v c a b (hx c (List.mem_of_getElem? b)))
 | tup vs l hl _ ih => cases hx with | tup _ hx => exact .tup vs l hl (fun j v c a b => ih j v c a b (hx c (List.mem_of_getElem? b)))
 | mp id b hm => cases hx with | mp _ hx => exact .mp id b (hmu _ _ hx hm)
 | sub id sz o n b cap A hm hA hc => cases hx with | sub _ _ _ _ hx => exact .sub id sz o n b cap A (hmu _ _ hx hm) hA (by rw [hw]; exact hc)
 | ifc t v x _ ih => cases hx with | ifc _ _ hx => exact .ifc t v x (ih hx)
 | opq v h => exact .opq v h
def ObNm (q : Nat → Prop) : Ob → Prop
 | .row _ cs | .fz _ cs => ∀ c ∈ cs, Nm q c
 | .mp _ => False
 | _ => True
def Hol (hs : List Nat) (G : Cx) : Prop := ∀ id ∈ hs, G.mu id = none
def z3p (P : Program) (o : Oper) (F : Frm) (σ : List Ob) (hs : List Nat) (x : AV) (σ' : List Ob) (hs' : List Nat) : Prop :=
 ∀ (G : Cx) (a : Act) (next : Act → World → Prop) (Q : Exit → Act → World → Prop), Rel G σ → Hol hs G → (∀ y ∈ o.op.operands, Rep G (a.eval y) (F.eval y)) →
  (∀ v G', G.Ext G' → Rel G' σ' → Hol hs' G' → Rep G' v x → next (a.put o.dst v) G'.w) → o.wp P a G.w next Q
section
variable {P : Program} {o : Oper} {F : Frm} {σ σ' : List Ob} {hs : List Nat} {x x' : AV}
theorem z3p.congr {F' : Frm} {ops : Array Oper} {hs' : List Nat} (h : z3p P o F σ hs x σ' hs') (he : ∀ t ∈ o.looksAt ops, F.get t = F'.get t) : z3p P o F' σ hs x σ' hs' := fun G a next Q hr hh hop hn =>
 h G a next Q hr hh (fun y hy => by rw [znm he y hy]; exact hop y hy) hn
theorem Hol.key {G : Cx} (hh : Hol hs G) : ∀ id b, G.mu id = some b → id ∉ hs := fun id b hb hid => by rw [hh id hid] at hb; cases hb
theorem Nm.mono {q q' : Nat → Prop} (hq : ∀ i, q i → q' i) {x : AV} (h : Nm q x) : Nm q' x := by
 induction h with
 | any => exact .any
 | s v => exact .s v
 | agg cs _ ih => exact .agg cs ih
 | emp => exact .emp
 | sl l _ ih => exact .sl l ih
 | ref l _ ih => exact .ref l ih
 | own a b c h => exact .own _ _ _ (hq _ h)
 | ptr a b c d h => exact .ptr _ _ _ _ (hq _ h)
 | fn f l _ ih => exact .fn f l ih
 | tup l _ ih => exact .tup l ih
 | mp a h => exact .mp _ (hq _ h)
 | sub a b c d h => exact .sub _ _ _ _ (hq _ h)
 | ifc t x _ ih => exact .ifc t x ih
 | opq => exact .opq
theorem ObNm.mono {q q' : Nat → Prop} (hq : ∀ i, q i → q' i) {ob : Ob} (h : ObNm q ob) : ObNm q' ob := by
 cases ob with
 | row n cs => exact fun c hc => (h c hc).mono hq
 | fz n cs => exact fun c hc => (h c hc).mono hq
 | mp X => exact h
 | dead => trivial
end
end Go.Proofs.YtohmldibkojkfaaGreatDoor.Aw
end
section
namespace Go.Proofs.YtohmldibkojkfaaGreatDoor.Aw
open Go.RowKit
section
variable {P : Program} {N : Nat} {l : List Oper} {F F' : Frm} {σ : List Ob} {out : List (Nat × AV)} {Q : Exit → Frm → List Ob → Prop}
end
end Go.Proofs.YtohmldibkojkfaaGreatDoor.Aw
end
section
namespace Go.Proofs.YtohmldibkojkfaaGreatDoor.Aw
open Go Go.RowKit
abbrev Orc := FuncId → List AV → Option AV
abbrev CallF := FuncId → List AV → Sto → Option (AV × Sto × List Nat)
section
variable {P : Program} {o : Oper} {F : Frm} {s : Sto}
end
section
variable {P : Program} {o : Oper} {F : Frm} {s : Sto} {orc : Orc} {call : CallF}
def kdW : Kd → List Nat
 | .eff W => W
 | _ => []
theorem OpOk.chg {s' : Sto} {x : AV} {k : Kd} (h : OpOk P o F s (x, s', k)) : Chg s s' (kdW k) := by
 cases h with
 | free => exact .refl _
 | look => exact .refl _
 | eff _ _ W _ hW => exact hW
theorem Chg.acc {a b c : Sto} {V W : List Nat} (h : Chg a b V) (k : Chg b c W) : Chg a c (W ++ V) := fun id hid => by
 simp only [List.mem_append, not_or] at hid
 exact (k id hid.1).trans (h id hid.2)
end
section
variable (P : Program) (N : Nat) (orc : Orc) (call : CallF)
end
section
variable {P : Program} {N : Nat} {orc : Orc} {call : CallF} {F F' : Frm} {s s' : Sto}
theorem S8.ent {σ : List Ob} {G : Cx} {a : Act} {o : Oper} {v : Value} {x : AV} (h : S8 N G a F σ) (hd : dOk N o = true) (hv : Rep G v x) : S8 N G (a.put o.dst v) (ent N o x :: F) σ := by
 cases hd2 : o.dst with
 | some d => rw [zfx hd2]; exact h.put (zt6 hd hd2) hv
 | none => rw [zi4 hd2]; exact ⟨h.rel, h.fr.more (.any _), h.df, h.nt⟩
def z1h (P : Program) (N : Nat) (ops : Array Oper) (o : Oper) (F : Frm) (s s1 : Sto) (k : Kd) (x : AV) : Prop := dOk N o = true ∧ ((Runs ops F o false ∧ x = .s undef ∧ s1 = s ∧ k = .free) ∨ (Runs ops F o true ∧ OpOk P o F s (x, s1, k)))
theorem z1h.chg {ops : Array Oper} {o : Oper} {s1 : Sto} {k : Kd} {x : AV} (h : z1h P N ops o F s s1 k x) : Chg s s1 (kdW k) := by
 rcases h.2 with ⟨_, _, rfl, rfl⟩ | ⟨_, h⟩
 ·
  exact .refl _
 ·
  exact h.chg
abbrev XR := Exit × FT × Sto × List Nat
def Is (r : XR) : Exit → Frm → List Ob → Prop := fun e F σ => e = r.1 ∧ FEq F r.2.1 ∧ σ = r.2.2.1.abs
end
abbrev RunF := Nat → FT → Sto → List Nat → Option XR
section
variable (P : Program) (orc : Orc) (call : CallF) (N : Nat)
end
theorem S8.get {N : Nat} {G : Cx} {a : Act} {F F' : Frm} {σ : List Ob} (h : S8 N G a F σ) (e : ∀ t, F'.get t = F.get t) : S8 N G a F' σ := ⟨h.rel, fun d => by rw [e]; exact h.fr d, h.df, h.nt⟩
section
variable {P : Program} {N : Nat} {orc : Orc} {call : CallF}
def RunOk (P : Program) (N : Nat) (c : Code) (run : RunF) : Prop := ∀ n F t s W r, FEq F t → run n t s W = some r → EWp P N c F s.abs (Is r) ∧ (∀ s0, Chg s0 s W → Chg s0 r.2.2.1 r.2.2.2) ∧ ∃ F', FEq F' r.2.1
theorem RunOk.wp {c : Code} {run : RunF} (h : RunOk P N c run) {n : Nat} {F : Frm} {t : FT} {s : Sto} {W : List Nat} {r : XR} (hF : FEq F t) (hr : run n t s W = some r) : EWp P N c F s.abs (Is r) := (h n F t s W r hF hr).1
end
section
variable (P : Program) (orc : Orc)
def below (k n : Nat) (W : List Nat) : List Nat := W.filter (fun i => Nat.blt i k) ++ (List.range (n - k)).map (k + ·)
end
section
variable {P : Program} {orc : Orc} {F : Frm} {s : Sto}
end
end Go.Proofs.YtohmldibkojkfaaGreatDoor.Aw
end
section
namespace Go.Proofs.YtohmldibkojkfaaGreatDoor.Aw
open Go.RowKit
inductive PK | lo | nm | psh
section
variable {P : Program} {N : Nat} {l : List Oper} {F : Frm} {σ : List Ob} {Q : Exit → Frm → List Ob → Prop}
variable {ops : Array Oper} {all : List Oper} {n0 k d : Nat} {ak : List PK} {ao : List (Nat × AV)} {ab : List Ob} {K : Frm → List Ob → Prop} {o : Oper}
end
end Go.Proofs.YtohmldibkojkfaaGreatDoor.Aw
end
section
namespace Go.Proofs.YtohmldibkojkfaaGreatDoor.Aw
open Go.RowKit
structure KE (G G' : Cx) : Prop where
 step : G.Step G'
 mu0 : ∀ y, G.mu 0 = some y → G'.mu 0 = some y
 rows : zc5 G.w G'.w
theorem KE.refl (G : Cx) : KE G G := ⟨.refl G, fun _ h => h, zc5.refl _⟩
theorem KE.trans {G H K : Cx} (h : KE G H) (k : KE H K) : KE G K := ⟨h.step.trans k.step, fun y x => k.mu0 y (h.mu0 y x), h.rows.trans k.rows⟩
theorem KE.of {G G' : Cx} (e : G.Ext G') : KE G G' := ⟨e.step, e.mu 0, e.rows⟩
section
variable {P : Program} {N : Nat} {F : Frm} {σ : List Ob} {Q : Exit → Frm → List Ob → Prop}
end
section
variable {P : Program} {N : Nat} {F : Frm} {σ σ' : List Ob} {Q : Exit → Frm → List Ob → Prop} {ops : Array Oper} {o : Oper} {l : List Oper} {x : AV}
end
def zq2 (N : Nat) (F : Frm) (σ : List Ob) (F' : Frm) (σ' : List Ob) : Prop := ∀ G a, S8 N G a F σ → ∃ G', G'.w = G.w ∧ KE G G' ∧ S8 N G' a F' σ'
theorem zq2.refl {N : Nat} {F : Frm} {σ : List Ob} : zq2 N F σ F σ := fun G a h => ⟨G, rfl, .refl G, h⟩
section
variable {P : Program} {N : Nat} {F F' : Frm} {σ σ' : List Ob} {Q : Exit → Frm → List Ob → Prop}
variable {ops : Array Oper} {o : Oper} {l : List Oper} {d : Nat}
section
variable {fo : Operand} {ar : Array Operand} {ts : Array TypeId} {f : FuncId} {x : AV} {e n : Int}
end
end
section
variable {P : Program} {N : Nat} {F : Frm} {σ : List Ob} {Q : Exit → Frm → List Ob → Prop} {ops : Array Oper} {o : Oper} {l : List Oper} {d : Nat} {x : AV}
end
end Go.Proofs.YtohmldibkojkfaaGreatDoor.Aw
end
section
namespace Go.Proofs.YtohmldibkojkfaaGreatDoor.Aw
open Go Go.RowKit Go.Proofs
section
variable {N : Nat} {F F' : Frm} {σ σ' : List Ob}
end
section
variable {N : Nat} {F : Frm} {σ : List Ob}
end
end Go.Proofs.YtohmldibkojkfaaGreatDoor.Aw
end
section
namespace Go.Proofs.YtohmldibkojkfaaGreatDoor.Aw
open Go Go.RowKit Go.Proofs
section
variable {N : Nat} {F F' : Frm} {σ σ' : List Ob}
theorem zq2.trans {F1 F2 : Frm} {σ1 σ2 : List Ob} (h : zq2 N F σ F1 σ1) (k : zq2 N F1 σ1 F2 σ2) : zq2 N F σ F2 σ2 := fun G a hs => by
 obtain ⟨G1, e1, s1, h1⟩ := h G a hs
 obtain ⟨G2, e2, s2, h2⟩ := k G1 a h1
 exact ⟨G2, e2.trans e1, s1.trans s2, h2⟩
theorem zlq {id sz i sz2 : Nat} {e e' : AV} {pre post cs2 : List AV} (hs : σ[id]? = some (.row sz [e])) (h1 : e.cells = pre ++ .own i sz2 cs2.length :: post) (hi : σ[i]? = some (.row sz2 cs2)) (hne : i ≠ id) (h2 : e'.cells = pre ++ .sl cs2 :: post) :
  zq2 N F σ F ((σ.set i (.fz sz2 cs2)).set id (.row sz [e'])) := fun G a h => by
 obtain ⟨he, hr⟩ := zr3 h.rel hi
 have hid : id < σ.length := (List.getElem?_eq_some_iff.1 hs).1
 have hil : i < σ.length := (List.getElem?_eq_some_iff.1 hi).1
 refine ⟨G.froz i, rfl, KE.of he, ?_, h.fr.ext he, h.df, h.nt⟩
 refine zf6 hr (by rw [List.getElem?_set_ne hne]; exact hs) (fun h => by cases h) ?_
 rintro b f ⟨cur, t, fr, g1, g2, g3, g4⟩
 refine ⟨cur, t, fr, g1, g2, g3, fun k y hy => ?_⟩
 cases k with
 | succ k => simp at hy
 | zero =>
  simp at hy
  subst hy
  obtain ⟨k1, k2, k3⟩ := g4 0 e rfl
  rw [h1] at k1 k2 k3
  rw [h2]
  refine ⟨by simpa using k1, fun c hc => ?_, fun j c hc => ?_⟩
  ·
   simp only [List.mem_append, List.mem_cons] at hc
   rcases hc with hc | rfl | hc
   ·
    exact k2 c (by simp [hc])
   ·
    rfl
   ·
    exact k2 c (by simp [hc])
  ·
   by_cases hj : j = pre.length
   ·
    subst hj
    simp at hc
    subst hc
    obtain ⟨v, h6, h7⟩ := k3 pre.length (.own i sz2 cs2.length) (by simp)
    exact ⟨v, h6, zv9 hr (List.getElem?_set_self hil) rfl h7⟩
   ·
    have e : (pre ++ AV.own i sz2 cs2.length :: post)[j]? = some c := by
     rw [← hc]
     by_cases hlt : j < pre.length
     ·
      rw [List.getElem?_append_left hlt, List.getElem?_append_left hlt]
     ·
      rw [List.getElem?_append_right (by omega), List.getElem?_append_right (by omega)]
      obtain ⟨i, hi⟩ : ∃ i, j - pre.length = i + 1 := ⟨j - pre.length - 1, by omega⟩
      rw [hi]; rfl
    exact k3 j c e
end
def mv (k i : Nat) : List Nat := (List.range k).set i k
section
variable {P : Program} {N : Nat} {F : Frm} {σ σ' : List Ob} {Q : Exit → Frm → List Ob → Prop} {ops : Array Oper} {o : Oper} {l : List Oper} {d : Nat} {fo : Operand} {ar : Array Operand} {ts : Array TypeId} {f : FuncId} {y : AV} {args caps : List AV}
end
end Go.Proofs.YtohmldibkojkfaaGreatDoor.Aw
end
