/-
  Texts joined: AwIt, AwM, EvE, EvL, Rw, Rx, AwMs, SpD, NtF. Conditions: none.
-/
import Derived.Test.YtanfaepjamkbjaaGreatJC4
import Derived.Test.YtanfaepjamkbjaaGreatJC6
import Derived.Laws.IdiomRangeMap
import Derived.Test.YtanfaepjamkbjaaGreatJC5
section
namespace Go.Proofs.YtanfaepjamkbjaaGreat.Aw
set_option linter.unusedSimpArgs false
set_option linter.unusedVariables false
set_option linter.unusedSectionVars false
open Go Go.Proofs Go.RowKit Go.Maps Go.WideMaps

/-- a block that nothing names -/
structure Other (G : Cx) (r : Nat) : Prop where
  le : G.base ≤ r
  st : ∀ o, ¬ G.St r o
  mu : ∀ id, G.mu id ≠ some (some r)
  nc : ∀ cur e f, G.w.heap[r]? ≠ some (.cells cur e f)
theorem other_ext {G : Cx} {σ : List Ob} (hr : Rel G σ) {r : Nat} (h : Other G r) {w' : World} (hos : w'.os = G.w.os) (ht : w'.tape = G.w.tape) (ho : w'.output = G.w.output) (hsz : G.w.heap.size ≤ w'.heap.size)
    (hb : ∀ k, k < G.w.heap.size → k ≠ r → w'.heap[k]? = G.w.heap[k]?) : G.Ext { G with w := w' } ∧ Rel { G with w := w' } σ := by
  have hext : G.Ext { G with w := w' } :=
    ⟨rfl, rfl, fun _ _ h => h, fun k o hk => World.cell?_of_block (hb k (hr.st k o hk) (fun e => h.st o (e ▸ hk))), fun _ _ h => h, hsz,
      fun k cur t f hk => ⟨cur, (hb k (Array.getElem?_eq_some_iff.1 hk).1 (fun e => by subst e; exact h.nc _ _ _ hk)).trans hk, rfl⟩, fun _ _ h => .inl h⟩
  have hble := h.le
  have hbw : G.base ≤ G.w.heap.size := by have h1 := hr.le; have h2 := hr.below.size; omega
  refine ⟨hext, hr.below.trans ⟨hos, ht, ho, hsz, fun k hk => hb k (by omega) (by omega)⟩, hr.le, fun k o hk => Nat.lt_of_lt_of_le (hr.st k o hk) hsz, fun i ob hob => ?_, hr.inj, hr.fresh⟩
  refine (hr.obs i ob hob).of rfl rfl rfl hsz (fun k sz cs f hm _ hx => ?_) (fun k Y hk hY _ => ⟨hb k hY.lt (fun e => h.mu i (e ▸ hk)), fun j hj => hj⟩)
  obtain ⟨cur, t, fr, g2, g3, g4, g5⟩ := hx
  refine ⟨cur, t, fr, (hb k (Array.getElem?_eq_some_iff.1 g2).1 (fun e => h.mu i (e ▸ hm))).trans g2, g3, g4, fun q x hx => ⟨(g5 q x hx).1, (g5 q x hx).2.1, fun j c hc => ?_⟩⟩
  obtain ⟨v, h6, h7⟩ := (g5 q x hx).2.2 j c hc
  exact ⟨v, h6, h7.ext hext⟩
theorem put_getD {a : Act} {d t : Nat} {v : Value} (h : d < a.tmps.size) : (a.put (some d) v).tmps.getD t undef = if t = d then v else a.tmps.getD t undef := by
  simp only [Act.put]
  by_cases e : t = d
  · subst e; simp [h]
  · rw [if_neg e]
    simp [Array.getD_eq_getD_getElem?, Array.getElem?_setIfInBounds, Ne.symm e]
theorem FOk.putA {G : Cx} {a : Act} {F : Frm} {d : Nat} {v : Value} (h : FOk G a F) (hd : d < a.tmps.size) (hF : F.get d = .any) : FOk G (a.put (some d) v) F := fun d' => by
  rw [put_getD hd]
  by_cases e : d' = d
  · subst e; rw [if_pos rfl, hF]; exact .any _
  · rw [if_neg e]; exact h d'
theorem FOk.head {G : Cx} {a : Act} {F : Frm} {d : Nat} {v : Value} {x y : AV} (h : FOk G a ((d, y) :: F)) (hd : d < a.tmps.size) (hv : Rep G v x) : FOk G (a.put (some d) v) ((d, x) :: F) := fun d' => by
  rw [put_getD hd]
  by_cases e : d' = d
  · subst e; rw [if_pos rfl]; simpa [Frm.get] using hv
  · rw [if_neg e]
    have := h d'
    have hb : Nat.beq d d' = false := by
      cases hq : Nat.beq d d' with
      | false => rfl
      | true => exact absurd (Nat.eq_of_beq_eq_true hq).symm e
    simp only [Frm.get, hb, cond_false] at this ⊢
    exact this
theorem raw_op {P : Program} {ops : Array Oper} {o : Oper} {l : List Oper} {Q : Exit → Act → World → Prop} {a : Act} {w w' : World} {v : Value} {d : Nat} (hg : o.guard = none) (hd : o.dst = some d) (h : (execOp a.eval o).run P w = .ok (.value v) w')
    (k : wpList P ops Q l (a.put (some d) v) w') : wpList P ops Q (o :: l) a w := by
  unfold wpList
  rw [if_pos (show Region.wanted o (yielded ops a.tmps) = true by unfold Region.wanted; rw [hg])]
  left
  unfold Oper.wp
  rw [h, ← hd] at *
  exact k

/-- the slots of the loop forgotten -/
def clrF (tot : Int) (F : Frm) : Frm := (24, .s (.int .i64 tot)) :: (26, .any) :: (146, .any) :: (147, .any) :: (148, .any) :: (149, .any) :: (150, .any) :: (151, .any) :: (152, .any) :: (153, .any) :: (154, .any) :: F
theorem fok_clr {G : Cx} {a : Act} {F : Frm} (h : FOk G a F) (h0 : F.get 24 = .s (.int .i64 0)) : FOk G a (clrF 0 F) := fun d => by
  have key : (clrF 0 F).get d = .any ∨ (clrF 0 F).get d = F.get d := by
    unfold clrF
    by_cases e : d = 24
    · subst e; right; rw [h0]; rfl
    · simp only [Frm.get]
      rw [show Nat.beq 24 d = false from by cases hq : Nat.beq 24 d with
        | false => rfl
        | true => exact absurd (Nat.eq_of_beq_eq_true hq).symm e]
      simp only [cond_false]
      cases Nat.beq 26 d <;> cases Nat.beq 146 d <;> cases Nat.beq 147 d <;> cases Nat.beq 148 d <;> cases Nat.beq 149 d <;> cases Nat.beq 150 d <;> cases Nat.beq 151 d <;> cases Nat.beq 152 d <;> cases Nat.beq 153 d <;> cases Nat.beq 154 d <;> simp
  rcases key with e | e
  · rw [e]; exact .any _
  · rw [e]; exact h d
theorem dval_rg {P : Program} {k el : TypeId} (hel : P.underlying el = some (.int .i64)) {x : MapEntry} {y : Lit × DataW Unit} (h : WideElems.rd P k (plainElem (H := Unit) P el) x = some y) : ∃ z, x.val = .int .i64 z ∧ dval y.2 = z := by
  unfold WideElems.rd at h
  cases hk : keyOf P k x.key with
  | none => rw [hk] at h; cases h
  | some l =>
    rw [hk] at h
    simp only [Option.bind_some] at h
    cases hv : plainElem (H := Unit) P el x.val with
    | none => rw [hv] at h; cases h
    | some r =>
      rw [hv] at h
      cases h
      unfold plainElem at hv
      rw [hel] at hv
      cases hx : x.val with
      | int q z =>
        rw [hx] at hv
        simp only at hv
        split at hv
        · rename_i hc
          cases hv
          obtain ⟨rfl, _⟩ := hc
          exact ⟨z, rfl, rfl⟩
        · cases hv
      | _ => rw [hx] at hv; simp at hv
theorem sum_rg {P : Program} {k el : TypeId} (hel : P.underlying el = some (.int .i64)) : ∀ es : List MapEntry, (∀ x ∈ es, ∃ y, WideElems.rd P k (plainElem (H := Unit) P el) x = some y) →
    dsumL (List.foldr DataW.insert [] (es.map (WideElems.rg P k (plainElem (H := Unit) P el)))) = (es.map fun e => valOf e.val).sum
  | [], h => rfl
  | x :: es, h => by
    obtain ⟨y, hy⟩ := h x (by simp)
    obtain ⟨z, h1, h2⟩ := dval_rg hel hy
    simp only [List.map_cons, List.foldr_cons, dsum_insert, List.sum_cons]
    rw [sum_rg hel es (fun x hx => h x (by simp [hx])), h1]
    have : (WideElems.rg P k (plainElem (H := Unit) P el) x).2 = y.2 := by unfold WideElems.rg; rw [hy]; rfl
    rw [this, h2]
    rfl
theorem seenSum_le (B : Int) : ∀ (es : List MapEntry) (seen : Array Nat), (∀ x ∈ es, 0 ≤ valOf x.val) → 0 ≤ seenSum es seen ∧ seenSum es seen ≤ (es.map fun e => valOf e.val).sum
  | [], seen, h => ⟨Int.le_refl _, Int.le_refl _⟩
  | x :: es, seen, h => by
    have h1 := h x (by simp)
    obtain ⟨i1, i2⟩ := seenSum_le B es seen (fun y hy => h y (by simp [hy]))
    simp only [seenSum, List.map_cons, List.sum_cons]
    split <;> constructor <;> omega
theorem mem_insert (p x : Lit × DataW Unit) : ∀ l, p ∈ DataW.insert x l ↔ p = x ∨ p ∈ l
  | [] => by simp [DataW.insert]
  | y :: l => by
    unfold DataW.insert
    split
    · simp
    · simp only [List.mem_cons, mem_insert p x l]
      constructor
      · rintro (h | h | h)
        · exact .inr (.inl h)
        · exact .inl h
        · exact .inr (.inr h)
      · rintro (h | h | h)
        · exact .inr (.inl h)
        · exact .inl h
        · exact .inr (.inr h)
theorem mem_fold {f : MapEntry → Lit × DataW Unit} {x : MapEntry} : ∀ es : List MapEntry, x ∈ es → f x ∈ List.foldr DataW.insert [] (es.map f)
  | [], h => by simp at h
  | y :: es, h => by
    simp only [List.map_cons, List.foldr_cons, mem_insert]
    rcases List.mem_cons.1 h with rfl | h
    · exact .inl rfl
    · exact .inr (mem_fold es h)
theorem put_size (b : Act) (d : Nat) (v : Value) : (b.put (some d) v).tmps.size = b.tmps.size := by simp [Act.put]
theorem st_put {N : Nat} {G : Cx} {b : Act} {F : Frm} (h : b.tmps.size = N ∧ b.defers = [] ∧ FOk G b F) {d : Nat} (v : Value) (hd : d < N) (hF : F.get d = .any) :
    (b.put (some d) v).tmps.size = N ∧ (b.put (some d) v).defers = [] ∧ FOk G (b.put (some d) v) F ∧ (b.put (some d) v).eval (.tmp d) = v ∧ ∀ t, t ≠ d → (b.put (some d) v).eval (.tmp t) = b.eval (.tmp t) :=
  ⟨by rw [put_size]; exact h.1, h.2.1, h.2.2.putA (by rw [h.1]; exact hd) hF, by
    show Array.getD _ _ _ = _
    rw [put_getD (by rw [h.1]; exact hd), if_pos rfl], fun t ht => by
    show Array.getD _ _ _ = _
    rw [put_getD (by rw [h.1]; exact hd), if_neg ht]; rfl⟩
theorem mapsum_end {N : Nat} {G : Cx} {b : Act} {F : Frm} {tot v : Int} {p : Value} (h : b.tmps.size = N ∧ b.defers = [] ∧ FOk G b (clrF tot F)) (hN : 24 < N) (hp : b.eval (.tmp 147) = p) :
    (b.put (some 24) (.int .i64 v)).tmps.size = N ∧ (b.put (some 24) (.int .i64 v)).defers = [] ∧ FOk G (b.put (some 24) (.int .i64 v)) (clrF v F) ∧ (b.put (some 24) (.int .i64 v)).tmps.getD 147 undef = p :=
  ⟨by rw [put_size]; exact h.1, h.2.1, FOk.head h.2.2 (by rw [h.1]; exact hN) (.s _), by
    rw [put_getD (by rw [h.1]; exact hN), if_neg (by decide)]; exact hp⟩
theorem seenSum_zero : ∀ es : List MapEntry, seenSum es #[] = 0
  | [] => rfl
  | x :: es => by simp [seenSum, seenSum_zero es]
set_option maxHeartbeats 2000000 in
theorem aw_mapsum {P : Program} {N : Nat} {F : Frm} {σ : List Ob} {Q : Exit → Frm → List Ob → Prop} {i1 i2 i3 i4 b1 b2 : Nat} {o1 o2 o3 o4 o5 o6 o7 o8 o9 o10 o11 : Oper} {t kt el tt tt' : TypeId} {id : Nat} {X : MapX} {S : Int}
    (h1 : o1.op = .move (.tmp 23) ∧ o1.dst = some 146 ∧ o1.guard = none) (h2 : o2.op = .range t (.tmp 146) ∧ o2.dst = some 147 ∧ o2.guard = none)
    (h3 : o3.op = .next (.tmp 147) false ∧ o3.dst = some 148 ∧ o3.guard = none) (h4 : o4.op = .extract (.tmp 148) 0 ∧ o4.dst = some 149 ∧ o4.guard = none)
    (h5 : o5.op = .entry (.tmp 147) ∧ o5.dst = some 150 ∧ o5.guard = none) (h6 : o6.op = .extract (.tmp 150) 1 ∧ o6.dst = some 151 ∧ o6.guard = none) (h7 : o7.op = .assign (.tmp 151) ∧ o7.dst = some 26 ∧ o7.guard = none)
    (h8 : o8.op = .move (.tmp 24) ∧ o8.dst = some 152 ∧ o8.guard = none) (h9 : o9.op = .move (.tmp 26) ∧ o9.dst = some 153 ∧ o9.guard = none)
    (h10 : o10.op = .binOp .add tt (.tmp 152) (.tmp 153) tt' ∧ o10.dst = some 154 ∧ o10.guard = none) (h11 : o11.op = .assign (.tmp 154) ∧ o11.dst = some 24 ∧ o11.guard = none)
    (hN : 154 < N) (hm : F.get 23 = .mp id) (hsX : σ[id]? = some (.mp X)) (hX : X.P = P ∧ X.kt = kt ∧ X.el = el) (ht : tyMap P t = some (kt, el)) (hel : P.underlying el = some (.int .i64))
    (h0 : F.get 24 = .s (.int .i64 0)) (hL : ∀ L, X.D = .map L → (∀ p ∈ L, 0 ≤ dval p.2) ∧ dsumL L = S) (hS : S ≤ 1000000) (k : Q .normal (clrF S F) σ) :
    AWp P N (.seq (.region i1 [o1, o2].toArray false) (.block b1 (.loop (.seq (.region i2 [o3, o4].toArray false) (.seq (.cond (.tmp 149) .skip (.exit b1)) (.block b2 (.seq (.region i3 [o5, o6, o7].toArray false) (.region i4 [o8, o9, o10, o11].toArray false)))))))) F σ Q := by
  intro G a hs
  have h23 := hs.fr 23
  rw [hm] at h23
  generalize hv23 : a.tmps.getD 23 undef = v23 at h23
  cases h23 with
  | mp _ bm hmu =>
  obtain ⟨XP, Xk, Xe, Xn, XD⟩ := X
  obtain ⟨rfl, rfl, rfl⟩ := hX
  obtain ⟨b0, hb0, hAt, hbb, hstb, huq⟩ := hs.rel.obs id _ hsX
  rw [hmu] at hb0
  cases hb0
  obtain ⟨es, clock, hheap, hfit, hsz, hD⟩ := hAt
  replace hheap : G.w.heap[bm]? = some (.map es clock) := hheap
  obtain ⟨hpos, hsum⟩ := hL _ hD
  rw [sum_rg hel es.toList hfit.reads] at hsum
  have hpos2 : ∀ x ∈ es.toList, 0 ≤ valOf x.val := fun x hx => by
    obtain ⟨y, hy⟩ := hfit.reads x hx
    obtain ⟨z, h1, h2⟩ := dval_rg hel hy
    have := hpos _ (mem_fold (f := WideElems.rg XP Xk (plainElem (H := Unit) XP Xe)) es.toList hx)
    rw [show WideElems.rg XP Xk (plainElem (H := Unit) XP Xe) x = y by unfold WideElems.rg; rw [hy]; rfl, h2] at this
    rw [h1]; exact this
  have hval : ∀ x ∈ es.toList, ∃ z, x.val = .int .i64 z := fun x hx => by
    obtain ⟨y, hy⟩ := hfit.reads x hx
    obtain ⟨z, h1, h2⟩ := dval_rg hel hy
    exact ⟨z, h1⟩
  have hsm := fun seen => seenSum_le 0 es.toList seen hpos2
  obtain ⟨hst1, hst2, _⟩ := hfit.stamped
  have hnt := hs.nt
  have hlt : bm < G.w.heap.size := (Array.getElem?_eq_some_iff.1 hheap).1
  have hoth : Other G G.w.heap.size := ⟨by have := hs.rel.le; have := hs.rel.below.size; omega, fun o ho => by have := hs.rel.st _ _ ho; omega, fun j hj => by
    by_cases hjl : j < σ.length
    · have := (hs.rel.obs j _ (List.getElem?_eq_getElem hjl)).lt hj; omega
    · have h9 := hs.rel.fresh j (by omega)
      rw [hj] at h9
      exact (nomatch h9), fun cur e f h => by have := (Array.getElem?_eq_some_iff.1 h).1; omega⟩
  obtain ⟨e1, r1⟩ := other_ext hs.rel hoth (w' := G.w.alloc (.mapIter (some bm) clock #[] clock)) rfl rfl rfl (by simp) (fun q hq _ => heap_alloc_old (r := q) G.w _ hq)
  refine wp_seq (wp_region_lit ?_)
  refine raw_op h1.2.2 h1.2.1 (v := .map (some bm)) (w' := G.w) (by simp [execOp, h1.1, Act.eval, hv23]) ?_
  have e146 : (a.put (some 146) (.map (some bm))).eval (.tmp 146) = .map (some bm) := by
    show Array.getD _ _ _ = _
    rw [put_getD (by rw [hnt]; omega), if_pos rfl]
  refine raw_op h2.2.2 h2.2.1 (v := .pointer (some ⟨G.w.heap.size, 0, none⟩)) (w' := G.w.alloc (.mapIter (some bm) clock #[] clock)) (by simp only [execOp, h2.1, e146, Sem.run_bind, run_range_map G.w t _ _ bm es clock (map_of ht) hheap, Result.andThen_ok, Sem.run_pure]) ?_
  show Code.wp XP (.block b1 _) _ _ _
  refine wp_block (wp_loop_ghost (fun n a w => ∃ (G' : Cx) (tot : Int) (seen : Array Nat), G'.w = w ∧ G.Step G' ∧ S8 N G' a (clrF tot F) σ ∧ a.tmps.getD 147 undef = .pointer (some ⟨G.w.heap.size, 0, none⟩) ∧ Other G' G.w.heap.size ∧
    w.heap[G.w.heap.size]? = some (.mapIter (some bm) clock seen clock) ∧ w.heap[bm]? = some (.map es clock) ∧ tot = seenSum es.toList seen ∧ n = (leftOf es seen).size) _ ⟨{ G with w := G.w.alloc (.mapIter (some bm) clock #[] clock) }, 0, #[], rfl, e1.step, ?_, ?_, ?_, ?_, ?_, (seenSum_zero _).symm, rfl⟩ ?_)
  · refine ⟨r1, ((fok_clr (hs.fr.ext e1) h0).putA (by rw [hnt]; omega) rfl).putA (by simp [Act.put, hnt]; omega) rfl, hs.df, by simp [Act.put, hnt]⟩
  · rw [put_getD (by simp [Act.put, hnt]; omega), if_pos rfl]
  · exact ⟨hoth.le, hoth.st, hoth.mu, fun cur e f h => by rw [show ({ G with w := G.w.alloc (.mapIter (some bm) clock #[] clock) } : Cx).w.heap[G.w.heap.size]? = some (.mapIter (some bm) clock #[] clock) from heap_alloc_new _ _] at h; cases h⟩
  · exact heap_alloc_new _ _
  · exact (heap_alloc_old (r := bm) G.w _ hlt).trans hheap
  rintro n a w ⟨G', tot, seen, rfl, hst', hS8, hp, hot, hit, hmap, rfl, rfl⟩
  have hnt' := hS8.nt
  refine wp_seq (wp_region_lit ?_)
  rcases run_next_at (P := XP) G'.w o3.type G.w.heap.size bm clock clock seen es clock hit hmap hst1 (Nat.le_refl _) with ⟨hend, hrun⟩ | ⟨e, he, w1, hw1, hrun⟩
  · refine raw_op h3.2.2 h3.2.1 (v := .tuple #[.bool false]) (w' := G'.w) (by simp only [execOp, h3.1, Act.eval, hp, Sem.run_bind, hrun, Result.andThen_ok, Sem.run_pure]) ?_
    have e148 : (a.put (some 148) (.tuple #[.bool false])).eval (.tmp 148) = .tuple #[.bool false] := by
      show Array.getD _ _ _ = _
      rw [put_getD (by rw [hnt']; omega), if_pos rfl]
    refine raw_op h4.2.2 h4.2.1 (v := .bool false) (w' := G'.w) (by simp [execOp, h4.1, e148, Instr.extract]) ?_
    show Code.wp XP _ _ _ _
    refine wp_seq (wp_cond_split (t := false) ?_ (fun h => by cases h) (fun _ => wp_exit ?_))
    · show Array.getD _ _ _ = _
      rw [put_getD (by simp [Act.put, hnt']; omega), if_pos rfl]
    · show Exit.inBlock b1 _ (.exit b1) _ _
      simp only [Exit.inBlock, if_true]
      refine ⟨G', clrF S F, σ, rfl, hst', ?_, k⟩
      have hq : seenSum es.toList seen = S := by rw [seenSum_all es seen hend, hsum]
      rw [hq] at hS8
      exact ⟨hS8.rel, (hS8.fr.putA (by rw [hnt']; omega) rfl).putA (by simp [Act.put, hnt']; omega) rfl, hS8.df, by simp [Act.put, hnt']⟩
  · have hmem : e ∈ es.toList ∧ seen.contains e.born = false := by
      have := Array.mem_toList_iff.1 he
      unfold leftOf at this
      rw [Array.mem_filter] at this
      exact ⟨Array.mem_toList_iff.2 this.1, by simpa using this.2⟩
    obtain ⟨z, hz⟩ := hval e hmem.1
    have hpush := seenSum_push seen e hmem.2 es.toList hst2 hmem.1
    have hzz : valOf e.val = z := by rw [hz]; rfl
    rw [hzz] at hpush
    have hs1 := hsm seen
    have hs2 := hsm (seen.push e.born)
    rw [hpush] at hs2
    have hz0 : 0 ≤ z := by rw [← hzz]; exact hpos2 e hmem.1
    rw [hsum] at hs1 hs2
    have hshrink := left_shrinks es seen e he
    generalize hW : ChangeMaps.setBlock w1 G.w.heap.size (.mapIter (some bm) clock (seen.push e.born) clock) = W2 at hrun
    have hrlt : G.w.heap.size < G'.w.heap.size := (Array.getElem?_eq_some_iff.1 hit).1
    have hne : bm ≠ G.w.heap.size := by omega
    have hh : W2.heap = G'.w.heap.setIfInBounds G.w.heap.size (.mapIter (some bm) clock (seen.push e.born) clock) ∧ W2.os = G'.w.os ∧ W2.tape = G'.w.tape ∧ W2.output = G'.w.output := by
      subst hW
      rcases hw1 with rfl | rfl <;> exact ⟨rfl, rfl, rfl, rfl⟩
    obtain ⟨hh1, hh2, hh3, hh4⟩ := hh
    have hold : ∀ q, q ≠ G.w.heap.size → W2.heap[q]? = G'.w.heap[q]? := fun q hq => by rw [hh1, Array.getElem?_setIfInBounds_ne (Ne.symm hq)]
    have hit2 : W2.heap[G.w.heap.size]? = some (.mapIter (some bm) clock (seen.push e.born) clock) := by rw [hh1, Array.getElem?_setIfInBounds_self_of_lt hrlt]
    have hmap2 : W2.heap[bm]? = some (.map es clock) := (hold bm hne).trans hmap
    obtain ⟨e2, r2⟩ := other_ext hS8.rel hot (w' := W2) hh2 hh3 hh4 (by rw [hh1]; simp) (fun q _ hq => hold q hq)
    have h24 : a.eval (.tmp 24) = .int .i64 (seenSum es.toList seen) := rep_s (hS8.fr 24)
    have h147 : a.eval (.tmp 147) = .pointer (some ⟨G.w.heap.size, 0, none⟩) := hp
    have hwrap : IntKind.i64.wrap (seenSum es.toList seen + z) = seenSum es.toList seen + z := IntWalk.i64_in _ (by omega)
    have hbin : (do eqGuard .add tt (.tmp 152) (.tmp 153) (.int .i64 (seenSum es.toList seen)) (.int .i64 z); binOp .add tt (.int .i64 (seenSum es.toList seen)) (.int .i64 z) : Sem Value).run XP W2 = .ok (.int .i64 (seenSum es.toList seen + z)) W2 := run_intBin W2 (by simp) (by simp [Op.intArith, hwrap])
    have hent := run_entry_at (P := XP) W2 G.w.heap.size bm clock seen es clock e hit2 hmap2 hmem.1 hst2
    have lt : ∀ d, d ≤ 154 → d < N := fun d hd => by omega
    have st0 : a.tmps.size = N ∧ a.defers = [] ∧ FOk { G' with w := W2 } a (clrF (seenSum es.toList seen) F) := ⟨hnt', hS8.df, hS8.fr.ext e2⟩
    have hfin := fun (b : Act) (hb : b.tmps.size = N ∧ b.defers = [] ∧ FOk { G' with w := W2 } b (clrF (seenSum es.toList seen) F)) (h147 : b.eval (.tmp 147) = .pointer (some ⟨G.w.heap.size, 0, none⟩)) => mapsum_end (v := seenSum es.toList seen + z) hb (lt 24 (by decide)) h147
    clear hsm hs1 hS8 hp hS hsum hpos2 hval hold hh1 hh2 hh3 hh4 hw1
    refine raw_op h3.2.2 h3.2.1 (v := .tuple #[.bool true, e.key, e.val]) (w' := W2) (by simp only [execOp, h3.1, h147, Sem.run_bind, hrun, Result.andThen_ok, Sem.run_pure]) ?_
    obtain ⟨s1, d1, f1, v1, n1⟩ := st_put st0 (d := 148) (.tuple #[.bool true, e.key, e.val]) (lt 148 (by decide)) rfl
    generalize a.put (some 148) (.tuple #[.bool true, e.key, e.val]) = a1 at s1 d1 f1 v1 n1 ⊢
    have st1 := And.intro s1 (And.intro d1 f1)
    have q1 := (n1 147 (by decide)).trans h147
    have u1 := (n1 24 (by decide)).trans h24
    refine raw_op h4.2.2 h4.2.1 (v := .bool true) (w' := W2) (by simp [execOp, h4.1, v1, Instr.extract]) ?_
    obtain ⟨s2, d2, f2, v2, n2⟩ := st_put st1 (d := 149) (.bool true) (lt 149 (by decide)) rfl
    generalize a1.put (some 149) (.bool true) = a2 at s2 d2 f2 v2 n2 ⊢
    have st2 := And.intro s2 (And.intro d2 f2)
    have q2 := (n2 147 (by decide)).trans q1
    have u2 := (n2 24 (by decide)).trans u1
    show Code.wp XP _ _ _ _
    refine wp_seq (wp_cond_split (t := true) v2 (fun _ => wp_skip ?_) (fun h => by cases h))
    show Code.wp XP (.block b2 _) _ _ _
    refine wp_block (wp_seq (wp_region_lit ?_))
    refine raw_op h5.2.2 h5.2.1 (v := .tuple #[e.key, e.val]) (w' := W2) (by simp only [execOp, h5.1, q2, Sem.run_bind, hent, Result.andThen_ok, Sem.run_pure]) ?_
    obtain ⟨s3, d3, f3, v3, n3⟩ := st_put st2 (d := 150) (.tuple #[e.key, e.val]) (lt 150 (by decide)) rfl
    generalize a2.put (some 150) (.tuple #[e.key, e.val]) = a3 at s3 d3 f3 v3 n3 ⊢
    have st3 := And.intro s3 (And.intro d3 f3)
    have q3 := (n3 147 (by decide)).trans q2
    have u3 := (n3 24 (by decide)).trans u2
    refine raw_op h6.2.2 h6.2.1 (v := .int .i64 z) (w' := W2) (by simp [execOp, h6.1, v3, Instr.extract, hz]) ?_
    obtain ⟨s4, d4, f4, v4, n4⟩ := st_put st3 (d := 151) (.int .i64 z) (lt 151 (by decide)) rfl
    generalize a3.put (some 151) (.int .i64 z) = a4 at s4 d4 f4 v4 n4 ⊢
    have st4 := And.intro s4 (And.intro d4 f4)
    have q4 := (n4 147 (by decide)).trans q3
    have u4 := (n4 24 (by decide)).trans u3
    refine raw_op h7.2.2 h7.2.1 (v := .int .i64 z) (w' := W2) (by simp [execOp, h7.1, v4]) ?_
    obtain ⟨s5, d5, f5, v5, n5⟩ := st_put st4 (d := 26) (.int .i64 z) (lt 26 (by decide)) rfl
    generalize a4.put (some 26) (.int .i64 z) = a5 at s5 d5 f5 v5 n5 ⊢
    have st5 := And.intro s5 (And.intro d5 f5)
    have q5 := (n5 147 (by decide)).trans q4
    have u5 := (n5 24 (by decide)).trans u4
    show Code.wp XP _ _ _ _
    refine wp_region_lit ?_
    refine raw_op h8.2.2 h8.2.1 (v := .int .i64 (seenSum es.toList seen)) (w' := W2) (by simp [execOp, h8.1, u5]) ?_
    obtain ⟨s6, d6, f6, v6, n6⟩ := st_put st5 (d := 152) (.int .i64 (seenSum es.toList seen)) (lt 152 (by decide)) rfl
    generalize a5.put (some 152) (.int .i64 (seenSum es.toList seen)) = a6 at s6 d6 f6 v6 n6 ⊢
    have st6 := And.intro s6 (And.intro d6 f6)
    have q6 := (n6 147 (by decide)).trans q5
    have u6 := (n6 24 (by decide)).trans u5
    refine raw_op h9.2.2 h9.2.1 (v := .int .i64 z) (w' := W2) (by simp [execOp, h9.1, (n6 26 (by decide)).trans v5]) ?_
    obtain ⟨s7, d7, f7, v7, n7⟩ := st_put st6 (d := 153) (.int .i64 z) (lt 153 (by decide)) rfl
    generalize a6.put (some 153) (.int .i64 z) = a7 at s7 d7 f7 v7 n7 ⊢
    have st7 := And.intro s7 (And.intro d7 f7)
    have q7 := (n7 147 (by decide)).trans q6
    have u7 := (n7 24 (by decide)).trans u6
    refine raw_op h10.2.2 h10.2.1 (v := .int .i64 (seenSum es.toList seen + z)) (w' := W2) (by simp only [execOp, h10.1, (n7 152 (by decide)).trans v6, v7, Sem.run_bind] at hbin ⊢; rw [hbin]; rfl) ?_
    obtain ⟨s8, d8, f8, v8, n8⟩ := st_put st7 (d := 154) (.int .i64 (seenSum es.toList seen + z)) (lt 154 (by decide)) rfl
    generalize a7.put (some 154) (.int .i64 (seenSum es.toList seen + z)) = a8 at s8 d8 f8 v8 n8 ⊢
    have st8 := And.intro s8 (And.intro d8 f8)
    have q8 := (n8 147 (by decide)).trans q7
    have u8 := (n8 24 (by decide)).trans u7
    refine raw_op h11.2.2 h11.2.1 (v := .int .i64 (seenSum es.toList seen + z)) (w' := W2) (by simp [execOp, h11.1, v8]) ?_
    obtain ⟨m1, m2, m3, m4⟩ := hfin a8 st8 q8
    exact ⟨_, hshrink, { G' with w := W2 }, seenSum es.toList seen + z, seen.push e.born, rfl, hst'.trans e2.step, ⟨r2, m3, m2, m1⟩, m4, ⟨hot.le, hot.st, hot.mu, fun cur q fr hq => by rw [hit2] at hq; cases hq⟩, hit2, hmap2, hpush.symm, rfl⟩
end Go.Proofs.YtanfaepjamkbjaaGreat.Aw
end
section
namespace Go.Proofs.YtanfaepjamkbjaaGreat.Aw
set_option linter.unusedSimpArgs false
set_option linter.unusedVariables false
open Go.RowKit
def RnL (ρ : List Nat) (l l' : List AV) : Prop := l.length = l'.length ∧ ∀ (j : Nat) x y, l[j]? = some x → l'[j]? = some y → Rn ρ x y
theorem RnL.nil {ρ : List Nat} : RnL ρ [] [] := ⟨rfl, by simp⟩
theorem RnL.cons {ρ : List Nat} {x y : AV} {l l' : List AV} (h : Rn ρ x y) (t : RnL ρ l l') : RnL ρ (x :: l) (y :: l') := by
  refine ⟨by simp [t.1], fun j a b ha hb => ?_⟩
  cases j with
  | zero => simp at ha hb; subst ha hb; exact h
  | succ j => exact t.2 j a b (by simpa using ha) (by simpa using hb)
/-- a struct of the call's own that names rows of the call's own -/
theorem obRn_agg {ρ : List Nat} {sz : Nat} {cs cs' : List AV} (h : RnL ρ cs cs') : ObRn ρ (.row sz [.agg cs]) (.row sz [.agg cs']) := .rowR sz _ _ (.agg cs cs' h.1 h.2) h.2 h.1
section
variable {N : Nat} {F F' : Frm} {σ σ' : List Ob}
/-- a row is read in another way -/
theorem reread_rel {G : Cx} {id sz : Nat} {cs cs' : List AV} (hr : Rel G σ) (hs : σ[id]? = some (.row sz cs)) (h0 : cs = [] → cs' = []) (h : ∀ b f, RowAt G b sz cs f → RowAt G b sz cs' f) : Rel G (σ.set id (.row sz cs')) := by
  have hid : id < σ.length := (List.getElem?_eq_some_iff.1 hs).1
  refine ⟨hr.below, hr.le, hr.st, fun i ob hob => ?_, fun i j b hi hj hm hm' => ?_, fun i hi => hr.fresh i (by simpa using hi)⟩
  · by_cases hi : id = i
    · subst hi
      rw [List.getElem?_set_self hid] at hob
      cases hob
      have h1 := hr.obs id _ hs
      simp only [ObOk] at h1 ⊢
      cases hx : G.mu id with
      | none => rw [hx] at h1; exact h1
      | some x =>
        rw [hx] at h1
        cases x with
        | none => exact h0 h1
        | some b => exact ⟨h b _ h1.1, h1.2⟩
    · rw [List.getElem?_set_ne hi] at hob; exact hr.obs i ob hob
  · have old : ∀ i, alive (σ.set id (.row sz cs')) i → alive σ i := by
      rintro i ⟨sz1, cs1, hi⟩
      by_cases h2 : id = i
      · subst h2; exact ⟨sz, cs, hs⟩
      · rw [List.getElem?_set_ne h2] at hi; exact ⟨sz1, cs1, hi⟩
    exact hr.inj i j b (old i hi) (old j hj) hm hm'
/-- nil in a struct of the call's own, as an empty row of the call's own -/
theorem wk_ownC {id sz sz2 : Nat} {e e' : AV} {pre post : List AV} (hs : σ[id]? = some (.row sz [e])) (h1 : e.cells = pre ++ .s (.slice none 0 0) :: post) (h2 : e'.cells = pre ++ .own σ.length sz2 0 :: post) :
    Weak N F σ F (σ.set id (.row sz [e']) ++ [.row sz2 []]) := fun G a h => by
  have he := nil_ext h.rel
  have hr := nil_rel h.rel sz2
  have hid : id < σ.length := (List.getElem?_eq_some_iff.1 hs).1
  refine ⟨G.new σ.length G.w none, rfl, he.step, ?_, h.fr.ext he, h.df, h.nt⟩
  have hset : σ.set id (Ob.row sz [e']) ++ [Ob.row sz2 []] = (σ ++ [Ob.row sz2 []]).set id (Ob.row sz [e']) := by rw [List.set_append_left _ _ hid]
  rw [hset]
  refine reread_rel hr (by rw [List.getElem?_append_left hid]; exact hs) (fun h => by cases h) ?_
  rintro b f ⟨cur, t, fr, g1, g2, g3, g4⟩
  refine ⟨cur, t, fr, g1, g2, g3, fun k y hy => ?_⟩
  cases k with
  | succ k => simp at hy
  | zero =>
    simp at hy
    subst hy
    obtain ⟨k1, k2, k3⟩ := g4 0 e rfl
    rw [h1] at k1 k2 k3
    rw [h2]
    refine ⟨by simpa using k1, fun c hc => ?_, fun j c hc => ?_⟩
    · simp only [List.mem_append, List.mem_cons] at hc
      rcases hc with hc | rfl | hc
      · exact k2 c (by simp [hc])
      · rfl
      · exact k2 c (by simp [hc])
    · by_cases hj : j = pre.length
      · subst hj
        simp at hc
        subst hc
        obtain ⟨v, h6, h7⟩ := k3 pre.length (.s (.slice none 0 0)) (by simp)
        refine ⟨v, h6, ?_⟩
        cases h7
        exact .own0 σ.length sz2 none (fun a ha => by cases ha) (by simp [Cx.new])
      · have e : (pre ++ AV.s (.slice none 0 0) :: post)[j]? = some c := by
          rw [← hc]
          by_cases hlt : j < pre.length
          · rw [List.getElem?_append_left hlt, List.getElem?_append_left hlt]
          · rw [List.getElem?_append_right (by omega), List.getElem?_append_right (by omega)]
            obtain ⟨i, hi⟩ : ∃ i, j - pre.length = i + 1 := ⟨j - pre.length - 1, by omega⟩
            rw [hi]; rfl
        exact k3 j c e
end
section
variable {P : Program} {o : Oper} {F : Frm} {σ : List Ob}
/-- a new row that is finished at once -/
theorem does_fin {sz n : Nat} {l : List AV} (h : Does P o F [] (.own 0 sz n) [.row sz l]) (hn : n = l.length) (hop0 : ∀ y ∈ o.op.operands, Lo 0 (F.eval y)) (hlo : Lo 0 (.sl l)) : Does P o F σ (.sl l) σ := by
  intro G a next Q hr hop hk
  obtain ⟨G0, hG0⟩ : ∃ G0 : Cx, G0 = { base := G.w.heap.size, w0 := G.w, w := G.w, mu := fun _ => none, St := G.St } := ⟨_, rfl⟩
  have hr0 : Rel G0 [] := by
    subst hG0
    exact ⟨Below.refl _ _, Nat.le_refl _, hr.st, fun id ob h => by simp at h, fun i j b hi _ _ _ => by obtain ⟨_, _, h⟩ := hi; simp at h, fun _ _ => rfl⟩
  have hw : G.w = G0.w := by subst hG0; rfl
  rw [hw]
  refine h G0 a next Q hr0 (fun y hy => (hop y hy).low (hop0 y hy) (by subst hG0; exact fun _ _ h => h) (by subst hG0; exact fun _ _ _ => rfl) (fun id y h => by omega) (fun h => by omega)) (fun v G1 he hr1 hrep => ?_)
  obtain ⟨he2, hr2⟩ := froz_ok hr1 (id := 0) (sz := sz) (cs := l) rfl
  have hrep2 := rep_fz hr2 (id := 0) (sz := sz) (cs := l) rfl hn (hrep.ext he2)
  have hb0 : G1.base = G.w.heap.size := by rw [he.base]; subst hG0; rfl
  have hw0 : (G1.froz 0).w0 = G.w := by show G1.w0 = _; rw [he.w0]; subst hG0; rfl
  have hbel : Below G.w.heap.size G.w (G1.froz 0).w := by have := hr2.below; rwa [show (G1.froz 0).base = G.w.heap.size from hb0, hw0] at this
  have hSt : G0.St = G.St := by subst hG0; rfl
  obtain ⟨h4, h5⟩ := after_call (G1 := G1.froz 0) hr rfl hbel (fun b o h => he2.st _ _ (he.st _ _ (by rw [hSt]; exact h))) (fun b o h => by
    rcases he2.stN b o h with h1 | h1
    · rcases he.stN b o h1 with h2 | h2
      · rw [hSt] at h2; exact .inl h2
      · right; have e : G0.base = G.w.heap.size := by subst hG0; rfl
        omega
    · right; omega) hr2.st
  exact hk v { G with w := (G1.froz 0).w, St := (G1.froz 0).St } h4 h5 (hrep2.low hlo (fun _ _ h => h) (fun _ _ _ => rfl) (fun id y h => by omega) (fun h => by omega))
theorem lit1_sF {t e : TypeId} {y : Operand} {z : Value} {bt : Nat} {v : Value} (ho : o.op = .buildSlice t 1 #[(0, y)]) (ht : tySlice P t = some e) (hi : tyInfo P e = some (some z, 1, bt))
    (h1 : (ofValue z).cells.all AV.one = true) (hn : (ofValue z).cells.length = 1) (hy : F.eval y = .s v) (hx : (AV.s v).one = true) : Does P o F σ (.sl [.s v]) σ :=
  does_fin (lit1_s ho ht hi h1 hn hy hx) rfl (fun u hu => by simp [ho, Op.operands] at hu; subst hu; rw [hy]; exact .s _) (.sl _ (lo_cons (.s _) lo_nil))
theorem lit1_slF {t e : TypeId} {y : Operand} {z : Value} {bt : Nat} {l : List AV} (ho : o.op = .buildSlice t 1 #[(0, y)]) (ht : tySlice P t = some e) (hi : tyInfo P e = some (some z, 1, bt))
    (h1 : (ofValue z).cells.all AV.one = true) (hn : (ofValue z).cells.length = 1) (hy : F.eval y = .sl l) (hx : (AV.sl l).one = true) (hl : Lo 0 (.sl l)) : Does P o F σ (.sl [.sl l]) σ :=
  does_fin (lit1_sl ho ht hi h1 hn hy hx) rfl (fun u hu => by simp [ho, Op.operands] at hu; subst hu; rw [hy]; exact hl) (.sl _ (lo_cons hl lo_nil))
theorem does_litAF {t e : TypeId} {y : Operand} {z : Value} {n bt : Nat} {cs : List AV} (ho : o.op = .buildSlice t 1 #[(0, y)]) (ht : tySlice P t = some e) (hi : tyInfo P e = some (some z, n, bt))
    (h1 : (ofValue z).cells.all AV.one = true) (hn : (ofValue z).cells.length = n) (h2 : 2 ≤ n) (hsm : n ≤ 16777216) (hy : F.eval y = .agg cs) (hx : cs.all AV.one = true) (hl : cs.length = n) (hlo : Lo 0 (.agg cs)) : Does P o F σ (.sl [.agg cs]) σ :=
  does_fin (does_litA ho ht hi h1 hn h2 hsm hy hx hl) rfl (fun u hu => by simp [ho, Op.operands] at hu; subst hu; rw [hy]; exact hlo) (.sl _ (lo_cons hlo lo_nil))
end
section
variable {P : Program} {F : Frm} {σ : List Ob}
end
end Go.Proofs.YtanfaepjamkbjaaGreat.Aw
end
section
namespace Go.Proofs.YtanfaepjamkbjaaGreat.Aw
set_option linter.unusedSimpArgs false
set_option linter.unusedVariables false
open Go.RowKit

/-! ## what is the same in two stores -/
def valEq : Value → Value → Bool
  | .bool a, .bool b => a == b
  | .int k m, .int k' n => decide (k = k') && decide (m = n)
  | .string a, .string b => decide (a = b)
  | .slice none 0 0, .slice none 0 0 => true
  | .pointer none, .pointer none => true
  | .nilFunc, .nilFunc => true
  | _, _ => false
theorem valEq_of {u v : Value} (h : valEq u v = true) : u = v := by
  unfold valEq at h
  split at h
  · simp at h; rw [h]
  · simp at h; rw [h.1, h.2]
  · simp at h; rw [h]
  · rfl
  · rfl
  · rfl
  · cases h
mutual
def avEq : AV → AV → Bool
  | .any, .any => true
  | .s u, .s v => valEq u v
  | .agg a, .agg b => avsEq a b
  | .sl a, .sl b => avsEq a b
  | .emp, .emp => true
  | .ref a, .ref b => avsEq a b
  | .own a b c, .own a' b' c' => Nat.beq a a' && Nat.beq b b' && Nat.beq c c'
  | .ptr a b c d, .ptr a' b' c' d' => Nat.beq a a' && Nat.beq b b' && Nat.beq c c' && Nat.beq d d'
  | .fn f a, .fn g b => Nat.beq f g && avsEq a b
  | .tup a, .tup b => avsEq a b
  | .mp a, .mp b => Nat.beq a b
  | .sub a b c d, .sub a' b' c' d' => Nat.beq a a' && Nat.beq b b' && Nat.beq c c' && Nat.beq d d'
  | _, _ => false
def avsEq : List AV → List AV → Bool
  | [], [] => true
  | x :: a, y :: b => avEq x y && avsEq a b
  | _, _ => false
end
mutual
theorem avEq_of : ∀ (x y : AV), avEq x y = true → x = y
  | .any, y, h => by cases y <;> simp [avEq] at h <;> rfl
  | .s u, y, h => by cases y <;> simp [avEq] at h; rw [valEq_of h]
  | .agg a, y, h => by cases y <;> simp [avEq] at h; rw [avsEq_of _ _ h]
  | .sl a, y, h => by cases y <;> simp [avEq] at h; rw [avsEq_of _ _ h]
  | .emp, y, h => by cases y <;> simp [avEq] at h <;> rfl
  | .ref a, y, h => by cases y <;> simp [avEq] at h; rw [avsEq_of _ _ h]
  | .own a b c, y, h => by cases y <;> simp [avEq] at h; obtain ⟨⟨rfl, rfl⟩, rfl⟩ := h; rfl
  | .ptr a b c d, y, h => by cases y <;> simp [avEq] at h; obtain ⟨⟨⟨rfl, rfl⟩, rfl⟩, rfl⟩ := h; rfl
  | .fn f a, y, h => by cases y <;> simp [avEq] at h; obtain ⟨rfl, h⟩ := h; rw [avsEq_of _ _ h]
  | .tup a, y, h => by cases y <;> simp [avEq] at h; rw [avsEq_of _ _ h]
  | .mp a, y, h => by cases y <;> simp [avEq] at h; rw [h]
  | .sub a b c d, y, h => by cases y <;> simp [avEq] at h; obtain ⟨⟨⟨rfl, rfl⟩, rfl⟩, rfl⟩ := h; rfl
theorem avsEq_of : ∀ (x y : List AV), avsEq x y = true → x = y
  | [], y, h => by cases y <;> simp [avsEq] at h <;> rfl
  | x :: a, y, h => by
    cases y with
    | nil => simp [avsEq] at h
    | cons y b => simp [avsEq] at h; rw [avEq_of _ _ h.1, avsEq_of _ _ h.2]
end
def obEq : Ob → Ob → Bool
  | .dead, .dead => true
  | .row n a, .row m b => Nat.beq n m && avsEq a b
  | .fz n a, .fz m b => Nat.beq n m && avsEq a b
  | _, _ => false
theorem obEq_of {x y : Ob} (h : obEq x y = true) : x = y := by
  cases x <;> cases y <;> simp [obEq] at h
  · rfl
  · rw [h.1, avsEq_of _ _ h.2]
  · rw [h.1, avsEq_of _ _ h.2]
def oEq : Option Ob → Option Ob → Bool
  | none, none => true
  | some x, some y => obEq x y
  | _, _ => false
theorem oEq_of {x y : Option Ob} (h : oEq x y = true) : x = y := by
  cases x <;> cases y <;> simp [oEq] at h
  · rfl
  · rw [obEq_of h]
/-- what has changed: nothing but this -/
def Chg (s s' : Sto) (W : List Nat) : Prop := ∀ id, id ∉ W → s'.abs[id]? = s.abs[id]?
theorem Chg.refl (s : Sto) : Chg s s [] := fun _ _ => rfl
theorem Chg.trans {a b c : Sto} {V W : List Nat} (h : Chg a b V) (k : Chg b c W) : Chg a c (V ++ W) := fun id hid => by
  simp only [List.mem_append, not_or] at hid
  exact (k id hid.2).trans (h id hid.1)
def eqOn (W : List Nat) (s s' : Sto) : Bool := Nat.beq s.len s'.len && W.all fun i => oEq (s.get i) (s'.get i)
theorem eqOn_of {s a b : Sto} {V W : List Nat} (ha : Chg s a V) (hb : Chg s b W) (h : eqOn (V ++ W) a b = true) : a.abs = b.abs := by
  unfold eqOn at h
  simp only [Bool.and_eq_true] at h
  apply List.ext_getElem?
  intro i
  by_cases hi : i ∈ V ++ W
  · have := oEq_of (List.all_eq_true.1 h.2 i hi)
    rwa [Sto.get_abs, Sto.get_abs] at this
  · simp only [List.mem_append, not_or] at hi
    rw [ha i hi.1, hb i hi.2]

/-! ## slices of slices -/
section
variable {P : Program} {o : Oper} {F : Frm} {σ : List Ob}
theorem does_slice_own {t e : TypeId} {x y : Operand} {z : Option Value} {n bt : Nat} {id sz m : Nat} {k : IntKind} {i : Int} {h : Nat} (ho : o.op = .slice t x none (some y) none) (ht : tySlice P t = some e) (hi : tyInfo P e = some (z, n, bt)) (hx : F.eval x = .own id sz m) (hy : F.eval y = .s (.int k i)) (hk : i = (h : Int)) (hl : h ≤ m) : Does P o F σ (.own id sz h) σ :=
  does_val fun G ρ hr hop => by
    have g1 := hop x (by simp [ho, Op.operands])
    have g2 := hop y (by simp [ho, Op.operands])
    rw [hx] at g1
    rw [hy] at g2
    have e2 := rep_s g2
    obtain ⟨q1, q2⟩ := elem_of ht
    subst hk
    generalize hv : ρ x = u at g1
    have key : ∀ A len cap, h ≤ cap → (Instr.sliceAt t (.slice A len cap) none (some (.int k (h : Int))) none).run P G.w = .ok (sliced A 0 h cap n) G.w := fun A len cap hc => by
      have h2 := run_slice_h (P := P) G.w t A len cap q2 k (h : Int) (by omega) (by omega)
      simp only [run_sliceAt_slice (P := P) G.w t _ _ _ _ q2, h2, q1, run_sizeOf hi, Result.andThen_ok, Int.toNat_natCast]
    cases g1 with
    | own0 _ _ A hA hm =>
      obtain rfl : h = 0 := by omega
      refine ⟨sliced A 0 0 0 n, by simp only [execOp, ho, Option.map_some, Option.map_none, hv, e2, Sem.run_bind, key A 0 0 (Nat.zero_le _), Result.andThen_ok, Sem.run_pure], ?_⟩
      simp only [sliced, if_true, Nat.sub_self]
      exact .own0 id sz A hA hm
    | own _ _ _ b cap hm hn hc hb =>
      refine ⟨sliced (some ⟨b, 0, none⟩) 0 h cap n, by simp only [execOp, ho, Option.map_some, Option.map_none, hv, e2, Sem.run_bind, key _ m cap (by omega), Result.andThen_ok, Sem.run_pure], ?_⟩
      have : sliced (some ⟨b, 0, none⟩) 0 h cap n = .slice (some ⟨b, 0, none⟩) h cap := by simp [sliced, Addr.add]
      rw [this]
      exact .own id sz h b cap hm (by omega) hc hb
theorem does_slice_lh {t e : TypeId} {x y y' : Operand} {z : Option Value} {n bt : Nat} {L : List AV} {k k' : IntKind} {i i' : Int} {l h : Nat} (ho : o.op = .slice t x (some y) (some y') none) (ht : tySlice P t = some e) (hi : tyInfo P e = some (z, n, bt)) (hx : F.eval x = .sl L) (hy : F.eval y = .s (.int k i)) (hy' : F.eval y' = .s (.int k' i')) (hk : i = (l : Int)) (hk' : i' = (h : Int)) (hlh : l ≤ h) (hl : h ≤ L.length) (hs : ∀ e ∈ L, e.cells.length = n) : Does P o F σ (.sl ((L.take h).drop l)) σ :=
  does_val fun G ρ hr hop => by
    have g1 := hop x (by simp [ho, Op.operands])
    have g2 := hop y (by simp [ho, Op.operands])
    have g3 := hop y' (by simp [ho, Op.operands])
    rw [hx] at g1
    rw [hy] at g2
    rw [hy'] at g3
    have e2 := rep_s g2
    have e3 := rep_s g3
    obtain ⟨q1, q2⟩ := elem_of ht
    obtain ⟨A, cap, hv, hcap⟩ : ∃ A cap, ρ x = .slice A L.length cap ∧ L.length ≤ cap := by
      generalize ρ x = u at g1
      cases g1 with
      | slnil A c => exact ⟨_, _, rfl, Nat.zero_le _⟩
      | sl b o c sz _ val hc hm h1 h2 h => exact ⟨_, _, rfl, hc⟩
    rw [hv] at g1
    have h1 := rep_sliced (s := n) g1 hlh hl hs
    refine ⟨_, ?_, h1⟩
    subst hk hk'
    have h2 := run_slice_lh (P := P) G.w t A L.length cap q2 k k' (l : Int) (h : Int) (by omega) (by omega) (by omega)
    simp only [execOp, ho, Option.map_some, Option.map_none, hv, e2, e3, Sem.run_bind, run_sliceAt_slice (P := P) G.w t _ _ _ _ q2, h2, q1, run_sizeOf hi, Result.andThen_ok, Sem.run_pure, Int.toNat_natCast]
/-- a row taken as finished ahead of an operation -/
theorem does_froz {d id sz n : Nat} {cs : List AV} {r : AV} {σ' : List Ob} (hx : F.get d = .own id sz n) (hs : σ[id]? = some (.row sz cs)) (hn : n = cs.length) (h : Does P o ((d, .sl cs) :: F) (σ.set id (.fz sz cs)) r σ') : Does P o F σ r σ' := by
  intro G a next Q hr hop hnx
  obtain ⟨he, hr2⟩ := froz_ok hr hs
  refine h (G.froz id) a next Q hr2 (fun y hy => ?_) (fun v G' e r' hv => hnx v G' (he.trans e) r' hv)
  have h1 := (hop y hy).ext he
  cases y with
  | tmp t =>
    by_cases ht : d = t
    · subst ht
      have h2 : Frm.eval ((d, .sl cs) :: F) (.tmp d) = .sl cs := get_here
      rw [h2]
      have h3 : F.eval (.tmp d) = .own id sz n := hx
      rw [h3] at h1
      exact rep_fz hr2 (by rw [List.getElem?_set_self (List.getElem?_eq_some_iff.1 hs).1]) hn h1
    · have h2 : Frm.eval ((d, .sl cs) :: F) (.tmp t) = F.eval (.tmp t) := by
        show Frm.get _ t = F.get t
        have : Nat.beq d t = false := by
          cases hb : Nat.beq d t with
          | false => rfl
          | true => exact absurd (Nat.eq_of_beq_eq_true hb) ht
        simp only [Frm.get, this, cond_false]
      rw [h2]; exact h1
  | _ => exact h1
end

/-! ## calls -/
structure CallE (P : Program) (f : FuncId) (args : List AV) (σ : List Ob) (r : AV) (σ' : List Ob) : Prop where
  ent : Enters P f
  call : ∀ (G : Cx) (vargs : Array Value), Rel G σ → vargs.size = args.length → (∀ (j : Nat) v x, vargs[j]? = some v → args[j]? = some x → Rep G v x) →
    Calls P f vargs G.w fun e w' => ∃ v G', e = .returned v ∧ G'.w = w' ∧ G.Ext G' ∧ Rel G' σ' ∧ Rep G' v r
section
variable {P : Program} {o : Oper} {F : Frm} {σ σ' : List Ob} {f : FuncId} {args : List AV} {r : AV}
theorem does_callE {fo : Operand} {ar : Array Operand} {ts : Array TypeId} {caps : List AV} (ho : o.op = .call { callee := .value fo, args := ar, argTypes := ts }) (hf : F.eval fo = .fn f caps) (hp : CallE P f args σ r σ') (ha : ar.toList.map F.eval ++ caps = args) : Does P o F σ r σ' := by
  intro G a next Q hr hop hn
  obtain ⟨cap, h1, h2, h3⟩ := call_args ho hop hf
  rw [ha] at h2 h3
  unfold Oper.wp
  rw [call_enter ho a.eval h1 hp.ent G.w, Oper.upon_enter]
  refine (hp.call G _ hr h2 h3).mono ?_
  rintro e w' ⟨v, G', rfl, rfl, he, hr', hv⟩
  exact hn v G' he hr' hv
theorem callE_fn {fn : Func} {c : Code} (hf : P.funcs[f]? = some fn) (hname : (fn.name == "runtime.NumGoroutine") = false) (hb : fn.body = some c) (hn : args.length ≤ fn.ntmps)
    (h : EWp P fn.ntmps c (argF 0 args) σ (fun e F' σ1 => (e = .normal ∨ e = .ret) ∧ σ1 = σ' ∧ ∃ xs, ResL P F' σ1 fn.results.toList xs ∧ oneOf xs = r)) : CallE P f args σ r σ' := by
  refine ⟨enters_of hf hname hb, fun G vargs hrel hsz hrep => ?_⟩
  refine calls_of_wp hf hb ?_
  have hfo : FOk G { tmps := vargs ++ Array.replicate (fn.ntmps - vargs.size) undef, defers := [] } (argF 0 args) := by
    intro d
    rw [argF_get]
    simp only [Nat.zero_le, if_true, Nat.sub_zero]
    by_cases hd : d < args.length
    · have h1 : (vargs ++ Array.replicate (fn.ntmps - vargs.size) undef).getD d undef = vargs[d]'(by omega) := by
        rw [Array.getD_eq_getD_getElem?, Array.getElem?_append_left (by omega)]
        simp [show d < vargs.size by omega]
      rw [h1]
      have h2 : args.getD d .any = args[d] := by simp [List.getD, hd]
      rw [h2]
      exact hrep d _ _ (by simp [show d < vargs.size by omega]) (by simp [hd])
    · have h2 : args.getD d .any = .any := by simp [List.getD, hd]
      rw [h2]; exact .any _
  have hs8 : S8 fn.ntmps G { tmps := vargs ++ Array.replicate (fn.ntmps - vargs.size) undef, defers := [] } (argF 0 args) σ := ⟨hrel, hfo, rfl, by simp; omega⟩
  refine Code.wp_mono (fun e a w q => ?_) (h G _ hs8)
  obtain ⟨G', F', σ1, rfl, h2, h3, he, rfl, xs, h4, rfl⟩ := q
  obtain ⟨v, h6, h7⟩ := results_run (fn := fn) h3.rel h3.fr h4
  have post : ∃ v' G'', Ending.returned v = .returned v' ∧ G''.w = G'.w ∧ G.Ext G'' ∧ Rel G'' σ1 ∧ Rep G'' v' (oneOf xs) := ⟨v, G', rfl, rfl, h2, h3.rel, h7⟩
  rcases he with rfl | rfl
  · exact ⟨h3.df, v, h6, post⟩
  · exact ⟨h3.df, v, h6, post⟩

/-! ## dropping names behind a call -/
mutual
def loB (k : Nat) : AV → Bool
  | .any | .s _ | .emp => true
  | .agg l | .sl l | .ref l | .fn _ l | .tup l => losB k l
  | .own id _ _ | .ptr id _ _ _ | .mp id | .sub id _ _ _ => Nat.blt id k
def losB (k : Nat) : List AV → Bool
  | [] => true
  | x :: l => loB k x && losB k l
end
mutual
theorem loB_of {k : Nat} : ∀ (x : AV), loB k x = true → Lo k x
  | .any, _ => .any
  | .s v, _ => .s v
  | .emp, _ => .emp
  | .agg l, h => .agg l (losB_of l (by simpa [loB] using h))
  | .sl l, h => .sl l (losB_of l (by simpa [loB] using h))
  | .ref l, h => .ref l (losB_of l (by simpa [loB] using h))
  | .fn f l, h => .fn f l (losB_of l (by simpa [loB] using h))
  | .tup l, h => .tup l (losB_of l (by simpa [loB] using h))
  | .own id a b, h => .own id a b (by simpa [loB, Nat.blt_eq] using h)
  | .ptr id a b c, h => .ptr id a b c (by simpa [loB, Nat.blt_eq] using h)
  | .mp id, h => .mp id (by simpa [loB, Nat.blt_eq] using h)
  | .sub id a b c, h => .sub id a b c (by simpa [loB, Nat.blt_eq] using h)
theorem losB_of {k : Nat} : ∀ (l : List AV), losB k l = true → ∀ c ∈ l, Lo k c
  | [], _ => by simp
  | x :: l, h => by
    simp only [losB, Bool.and_eq_true] at h
    have h1 := loB_of x h.1
    have h2 := losB_of l h.2
    intro c hc
    rcases List.mem_cons.1 hc with e | hc
    · rw [e]; exact h1
    · exact h2 c hc
end
def obLo (k : Nat) : Ob → Bool
  | .row _ cs | .fz _ cs => losB k cs
  | _ => true
def ObLo (k : Nat) : Ob → Prop
  | .row _ cs | .fz _ cs => ∀ c ∈ cs, Lo k c
  | _ => True
theorem obLo_of {k : Nat} {ob : Ob} (h : obLo k ob = true) : ObLo k ob := by
  cases ob with
  | row n cs => exact losB_of cs h
  | fz n cs => exact losB_of cs h
  | _ => trivial
theorem lo_of_cells {k : Nat} {x : AV} (h : ∀ c ∈ x.cells, Lo k c) : Lo k x := by
  by_cases hx : ∃ cs, x = .agg cs
  · obtain ⟨cs, rfl⟩ := hx; exact .agg cs h
  · have : x.cells = [x] := by cases x <;> first | rfl | (exact absurd ⟨_, rfl⟩ hx)
    exact h x (by rw [this]; simp)
/-- what stands for a value names nothing that is not there -/
theorem rep_lo {G : Cx} {k : Nat} (hk : ∀ id, k ≤ id → G.mu id = none) {v : Value} {x : AV} (h : Rep G v x) : Lo k x := by
  have key : ∀ id b, G.mu id = some b → id < k := fun id b hb => by
    rcases Nat.lt_or_ge id k with h | h
    · exact h
    · rw [hk id h] at hb; cases hb
  induction h with
  | any v => exact .any
  | s v => exact .s v
  | agg vs cs hl h1 _ ih =>
    refine .agg cs fun c hc => ?_
    obtain ⟨j, hj, rfl⟩ := List.mem_iff_getElem.1 hc
    exact ih j _ _ (Array.getElem?_eq_getElem (by omega)) (List.getElem?_eq_getElem hj)
  | emp A hA => exact .emp
  | slnil A cap => exact .sl [] (by simp)
  | sl b o cap sz l val hc hm h1 h2 _ ih =>
    refine .sl l fun e he => lo_of_cells fun c hcc => ?_
    obtain ⟨i, hi, rfl⟩ := List.mem_iff_getElem.1 he
    obtain ⟨j, hj, rfl⟩ := List.mem_iff_getElem.1 hcc
    exact ih i _ j _ (List.getElem?_eq_getElem hi) (List.getElem?_eq_getElem hj)
  | ref b o cs val h1 h2 _ ih =>
    refine .ref cs fun c hc => ?_
    obtain ⟨j, hj, rfl⟩ := List.mem_iff_getElem.1 hc
    exact ih j _ (List.getElem?_eq_getElem hj)
  | own0 id sz A hA hm => exact .own _ _ _ (key _ _ hm)
  | own id sz n b cap hm hn hc hb => exact .own _ _ _ (key _ _ hm)
  | ptr id sz k j b hm => exact .ptr _ _ _ _ (key _ _ hm)
  | fn f vs cs hl _ ih =>
    refine .fn f cs fun c hc => ?_
    obtain ⟨j, hj, rfl⟩ := List.mem_iff_getElem.1 hc
    exact ih j _ _ (Array.getElem?_eq_getElem (by omega)) (List.getElem?_eq_getElem hj)
  | tup vs cs hl _ ih =>
    refine .tup cs fun c hc => ?_
    obtain ⟨j, hj, rfl⟩ := List.mem_iff_getElem.1 hc
    exact ih j _ _ (Array.getElem?_eq_getElem (by omega)) (List.getElem?_eq_getElem hj)
  | mp id b hm => exact .mp _ (key _ _ hm)
  | sub id sz o n b cap A hm hA _ => exact .sub _ _ _ _ (key _ _ hm)
theorem rel_lo {G : Cx} (hr : Rel G σ) {id : Nat} {ob : Ob} (hs : σ[id]? = some ob) : ObLo σ.length ob := by
  have h1 := hr.obs id ob hs
  have row : ∀ b sz cs fr, RowAt G b sz cs fr → ∀ c ∈ cs, Lo σ.length c := by
    rintro b sz cs fr ⟨cur, t, q, h2, h3, h4, h5⟩ e he
    obtain ⟨i, hi, rfl⟩ := List.mem_iff_getElem.1 he
    obtain ⟨_, _, h6⟩ := h5 i _ (List.getElem?_eq_getElem hi)
    refine lo_of_cells fun c hc => ?_
    obtain ⟨j, hj, rfl⟩ := List.mem_iff_getElem.1 hc
    obtain ⟨v, _, h7⟩ := h6 j _ (List.getElem?_eq_getElem hj)
    exact rep_lo hr.fresh h7
  cases ob with
  | row sz cs =>
    simp only [ObOk] at h1
    cases hx : G.mu id with
    | none => rw [hx] at h1; exact h1.elim
    | some x =>
      rw [hx] at h1
      cases x with
      | none => simp only at h1; subst h1; intro c hc; simp at hc
      | some b => exact row b sz cs _ h1.1
  | fz sz cs =>
    simp only [ObOk] at h1
    cases hx : G.mu id with
    | none => rw [hx] at h1; exact h1.elim
    | some x =>
      rw [hx] at h1
      cases x with
      | none => simp only at h1; subst h1; intro c hc; simp at hc
      | some b => exact row b sz cs _ h1.1
  | _ => trivial
def Cx.cut (G : Cx) (k : Nat) : Cx := { G with mu := fun i => if i < k then G.mu i else none }
theorem cut_rel {G : Cx} {k : Nat} (hr : Rel G σ) (hk : k ≤ σ.length) (hl : ∀ ob ∈ σ.take k, ObLo k ob) : Rel (G.cut k) (σ.take k) := by
  have hlow : ∀ v x, Rep G v x → Lo k x → Rep (G.cut k) v x := fun v x h hx => h.low hx (fun _ _ h => h) (fun _ _ _ => rfl) (fun id y hid hy => by simp [Cx.cut, hid, hy]) (fun _ => RowsKept.refl _)
  have hmu : ∀ id b, (G.cut k).mu id = some b → G.mu id = some b := fun id b h => by
    simp only [Cx.cut] at h
    split at h
    · exact h
    · cases h
  refine ⟨hr.below, hr.le, hr.st, fun id ob hob => ?_, fun i j b hi hj hmi hmj => ?_, fun id hid => ?_⟩
  · have hmem := hl ob (List.mem_of_getElem? hob)
    rw [List.getElem?_take] at hob
    split at hob
    · rename_i hid
      have h1 := hr.obs id ob hob
      have e : (G.cut k).mu id = G.mu id := by simp [Cx.cut, hid]
      have row : ∀ b sz cs fr, (∀ c ∈ cs, Lo k c) → RowAt G b sz cs fr → RowAt (G.cut k) b sz cs fr := by
        rintro b sz cs fr hlo ⟨cur, t, q, h2, h3, h4, h5⟩
        refine ⟨cur, t, q, h2, h3, h4, fun i x hx => ⟨(h5 i x hx).1, (h5 i x hx).2.1, fun j c hc => ?_⟩⟩
        obtain ⟨v, h6, h7⟩ := (h5 i x hx).2.2 j c hc
        exact ⟨v, h6, hlow v c h7 ((hlo x (List.mem_of_getElem? hx)).cells c (List.mem_of_getElem? hc))⟩
      cases ob with
      | dead => exact fun b hb => h1 b (by rw [← e]; exact hb)
      | row sz cs =>
        have hlo : ∀ c ∈ cs, Lo k c := hmem
        simp only [ObOk] at h1 ⊢
        rw [e]
        cases hx : G.mu id with
        | none => rw [hx] at h1; exact h1
        | some x =>
          rw [hx] at h1
          cases x with
          | none => exact h1
          | some b => exact ⟨row b sz cs _ hlo h1.1, h1.2⟩
      | fz sz cs =>
        have hlo : ∀ c ∈ cs, Lo k c := hmem
        simp only [ObOk] at h1 ⊢
        rw [e]
        cases hx : G.mu id with
        | none => rw [hx] at h1; exact h1
        | some x =>
          rw [hx] at h1
          cases x with
          | none => exact h1
          | some b => exact ⟨row b sz cs _ hlo h1.1, h1.2⟩
      | mp X =>
        obtain ⟨b, g1, g2, g3, g4, g5⟩ := h1
        exact ⟨b, e.trans g1, g2, g3, g4, fun j hj => g5 j (hmu j _ hj)⟩
    · cases hob
  · have al : ∀ i, alive (σ.take k) i → alive σ i := by
      rintro i ⟨sz, cs, h⟩
      rw [List.getElem?_take] at h
      split at h
      · exact ⟨sz, cs, h⟩
      · cases h
    exact hr.inj i j b (al i hi) (al j hj) (hmu i _ hmi) (hmu j _ hmj)
  · rw [List.length_take, Nat.min_eq_left hk] at hid
    simp only [Cx.cut]
    rw [if_neg (by omega)]
theorem CallE.cut (h : CallE P f args σ r σ') (hk : σ.length ≤ σ'.length) {W : List Nat} (hW : ∀ id, id ∉ W → σ'[id]? = σ[id]?) (hl : ∀ id ∈ W, id < σ.length → ∀ ob, σ'[id]? = some ob → ObLo σ.length ob) (hr : Lo σ.length r) : CallE P f args σ r (σ'.take σ.length) :=
  ⟨h.ent, fun G vargs hrel hsz hrep => (h.call G vargs hrel hsz hrep).mono (by
    rintro e w' ⟨v, G', rfl, rfl, he, hr', hv⟩
    have hl' : ∀ ob ∈ σ'.take σ.length, ObLo σ.length ob := fun ob hob => by
      obtain ⟨id, hid, rfl⟩ := List.mem_iff_getElem.1 hob
      have hlt : id < σ.length := by rw [List.length_take] at hid; omega
      have hget : σ'[id]? = some (σ'.take σ.length)[id] := by
        have := List.getElem?_eq_getElem hid
        rw [List.getElem?_take, if_pos hlt] at this
        exact this
      by_cases hm : id ∈ W
      · exact hl id hm hlt _ hget
      · rw [hW id hm] at hget
        exact rel_lo hrel hget
    refine ⟨v, G'.cut σ.length, rfl, rfl, ⟨he.base, he.w0, he.st, he.cell, fun id x hx => ?_, he.size, he.rows, he.stN⟩, cut_rel hr' hk hl', ?_⟩
    · have hid : id < σ.length := by
        rcases Nat.lt_or_ge id σ.length with h1 | h1
        · exact h1
        · rw [hrel.fresh id h1] at hx; cases hx
      simp only [Cx.cut, if_pos hid]
      exact he.mu id x hx
    · exact hv.low hr (fun _ _ h => h) (fun _ _ _ => rfl) (fun id y hid hy => by simp [Cx.cut, hid, hy]) (fun _ => RowsKept.refl _))⟩
/-- all but the names below k, and one more, which gets the name k -/
def Cx.keep (G : Cx) (k m : Nat) : Cx := { G with mu := fun i => if i < k then G.mu i else if i = k then G.mu m else none }
theorem keep_rel {G : Cx} {k m : Nat} {ob0 : Ob} (hr : Rel G σ) (hk : k ≤ m) (hm : σ[m]? = some ob0) (hl : ∀ ob ∈ σ.take k, ObLo k ob) (hl0 : ObLo k ob0) : Rel (G.keep k m) (σ.take k ++ [ob0]) := by
  have hmlt : m < σ.length := (List.getElem?_eq_some_iff.1 hm).1
  have htk : (σ.take k).length = k := by rw [List.length_take]; omega
  have hlow : ∀ v x, Rep G v x → Lo k x → Rep (G.keep k m) v x := fun v x h hx => h.low hx (fun _ _ h => h) (fun _ _ _ => rfl) (fun id y hid hy => by simp [Cx.keep, hid, hy]) (fun _ => RowsKept.refl _)
  have hmu : ∀ i x, (G.keep k m).mu i = some x → i ≤ k ∧ G.mu (if i < k then i else m) = some x := fun i x h => by
    simp only [Cx.keep] at h
    split at h
    · rename_i h1; exact ⟨by omega, by rw [if_pos h1]; exact h⟩
    · rename_i h1
      split at h
      · rename_i h2; exact ⟨by omega, by rw [if_neg h1]; exact h⟩
      · cases h
  have horig : ∀ i ob, (σ.take k ++ [ob0])[i]? = some ob → i ≤ k ∧ σ[if i < k then i else m]? = some ob ∧ (G.keep k m).mu i = G.mu (if i < k then i else m) ∧ ObLo k ob := fun i ob h => by
    rcases Nat.lt_trichotomy i k with h1 | h1 | h1
    · rw [List.getElem?_append_left (by omega), List.getElem?_take, if_pos h1] at h
      refine ⟨by omega, by rw [if_pos h1]; exact h, by simp [Cx.keep, h1], hl ob ?_⟩
      have : (σ.take k)[i]? = some ob := by rw [List.getElem?_take, if_pos h1]; exact h
      exact List.mem_of_getElem? this
    · subst h1
      rw [List.getElem?_append_right (by omega), htk, Nat.sub_self] at h
      simp at h; subst h
      exact ⟨by omega, by rw [if_neg (by omega)]; exact hm, by simp [Cx.keep], hl0⟩
    · rw [List.getElem?_eq_none (by simp; omega)] at h; cases h
  have hinj : ∀ i j, i ≤ k → j ≤ k → (if i < k then i else m) = (if j < k then j else m) → i = j := fun i j hi hj h => by
    split at h <;> split at h <;> omega
  refine ⟨hr.below, hr.le, hr.st, fun id ob hob => ?_, fun i j b hi hj hmi hmj => ?_, fun id hid => ?_⟩
  · obtain ⟨hik, hs, e, hlo⟩ := horig id ob hob
    have h1 := hr.obs _ ob hs
    generalize (if id < k then id else m) = o at hs e h1
    have row : ∀ b sz cs fr, (∀ c ∈ cs, Lo k c) → RowAt G b sz cs fr → RowAt (G.keep k m) b sz cs fr := by
      rintro b sz cs fr hlo ⟨cur, t, q, h2, h3, h4, h5⟩
      refine ⟨cur, t, q, h2, h3, h4, fun i x hx => ⟨(h5 i x hx).1, (h5 i x hx).2.1, fun j c hc => ?_⟩⟩
      obtain ⟨v, h6, h7⟩ := (h5 i x hx).2.2 j c hc
      exact ⟨v, h6, hlow v c h7 ((hlo x (List.mem_of_getElem? hx)).cells c (List.mem_of_getElem? hc))⟩
    cases ob with
    | dead => exact fun b hb => h1 b (by rw [← e]; exact hb)
    | row sz cs =>
      simp only [ObOk] at h1 ⊢
      rw [e]
      cases hx : G.mu o with
      | none => rw [hx] at h1; exact h1
      | some x =>
        rw [hx] at h1
        cases x with
        | none => exact h1
        | some b => exact ⟨row b sz cs _ hlo h1.1, h1.2⟩
    | fz sz cs =>
      simp only [ObOk] at h1 ⊢
      rw [e]
      cases hx : G.mu o with
      | none => rw [hx] at h1; exact h1
      | some x =>
        rw [hx] at h1
        cases x with
        | none => exact h1
        | some b => exact ⟨row b sz cs _ hlo h1.1, h1.2⟩
    | mp X =>
      obtain ⟨b, g1, g2, g3, g4, g5⟩ := h1
      refine ⟨b, e.trans g1, g2, g3, g4, fun j hj => ?_⟩
      obtain ⟨hj1, hj2⟩ := hmu j _ hj
      obtain ⟨hi1, hi2⟩ := hmu id _ (e.trans g1)
      exact hinj j id hj1 hi1 ((g5 _ hj2).trans (g5 _ hi2).symm)
  · have al : ∀ i, alive (σ.take k ++ [ob0]) i → i ≤ k ∧ alive σ (if i < k then i else m) := by
      rintro i ⟨sz, cs, h⟩
      obtain ⟨h1, h2, _⟩ := horig i _ h
      exact ⟨h1, sz, cs, h2⟩
    exact hinj i j (al i hi).1 (al j hj).1 (hr.inj _ _ b (al i hi).2 (al j hj).2 (hmu i _ hmi).2 (hmu j _ hmj).2)
  · rw [List.length_append, htk] at hid
    simp only [List.length_singleton] at hid
    simp only [Cx.keep]
    rw [if_neg (by omega), if_neg (by omega)]
theorem CallE.keep {m sz n : Nat} {ob0 : Ob} (h : CallE P f args σ (.own m sz n) σ') (hk : σ.length ≤ m) (hm : σ'[m]? = some ob0) {W : List Nat} (hW : ∀ id, id ∉ W → σ'[id]? = σ[id]?) (hl : ∀ id ∈ W, id < σ.length → ∀ ob, σ'[id]? = some ob → ObLo σ.length ob) (hr : ObLo σ.length ob0) : CallE P f args σ (.own σ.length sz n) (σ'.take σ.length ++ [ob0]) :=
  ⟨h.ent, fun G vargs hrel hsz hrep => (h.call G vargs hrel hsz hrep).mono (by
    rintro e w' ⟨v, G', rfl, rfl, he, hr', hv⟩
    have hl' : ∀ ob ∈ σ'.take σ.length, ObLo σ.length ob := fun ob hob => by
      obtain ⟨id, hid, rfl⟩ := List.mem_iff_getElem.1 hob
      have hlt : id < σ.length := by rw [List.length_take] at hid; omega
      have hget : σ'[id]? = some (σ'.take σ.length)[id] := by
        have := List.getElem?_eq_getElem hid
        rw [List.getElem?_take, if_pos hlt] at this
        exact this
      by_cases hm : id ∈ W
      · exact hl id hm hlt _ hget
      · rw [hW id hm] at hget
        exact rel_lo hrel hget
    refine ⟨v, G'.keep σ.length m, rfl, rfl, ⟨he.base, he.w0, he.st, he.cell, fun id x hx => ?_, he.size, he.rows, he.stN⟩, keep_rel hr' hk hm hl' hr, ?_⟩
    · have hid : id < σ.length := by
        rcases Nat.lt_or_ge id σ.length with h1 | h1
        · exact h1
        · rw [hrel.fresh id h1] at hx; cases hx
      simp only [Cx.keep, if_pos hid]
      exact he.mu id x hx
    · have e : (G'.keep σ.length m).mu σ.length = G'.mu m := by simp [Cx.keep]
      cases hv with
      | own0 _ _ A hA hm2 => exact .own0 _ _ A hA (e.trans hm2)
      | own _ _ _ b cap hm2 hn hc hb => exact .own _ _ _ b cap (e.trans hm2) hn hc hb)⟩
end
end Go.Proofs.YtanfaepjamkbjaaGreat.Aw
end
section
namespace Go.Proofs.YtanfaepjamkbjaaGreat.Aw
set_option linter.unusedSimpArgs false
set_option linter.unusedVariables false
set_option linter.unusedSectionVars false
open Go.RowKit

structure KE (G G' : Cx) : Prop where
  step : G.Step G'
  mu0 : ∀ y, G.mu 0 = some y → G'.mu 0 = some y
  rows : RowsKept G.w G'.w
theorem KE.refl (G : Cx) : KE G G := ⟨.refl G, fun _ h => h, RowsKept.refl _⟩
theorem KE.trans {G H K : Cx} (h : KE G H) (k : KE H K) : KE G K := ⟨h.step.trans k.step, fun y x => k.mu0 y (h.mu0 y x), h.rows.trans k.rows⟩
theorem KE.of {G G' : Cx} (e : G.Ext G') : KE G G' := ⟨e.step, e.mu 0, e.rows⟩
section
variable {P : Program} {N : Nat} {F : Frm} {σ : List Ob} {Q : Exit → Frm → List Ob → Prop}

end

section
variable {P : Program} {N : Nat} {F : Frm} {σ σ' : List Ob} {Q : Exit → Frm → List Ob → Prop} {ops : Array Oper} {o : Oper} {l : List Oper} {x : AV}

end


def WeakK (N : Nat) (F : Frm) (σ : List Ob) (F' : Frm) (σ' : List Ob) : Prop := ∀ G a, S8 N G a F σ → ∃ G', G'.w = G.w ∧ KE G G' ∧ S8 N G' a F' σ'
theorem WeakK.refl {N : Nat} {F : Frm} {σ : List Ob} : WeakK N F σ F σ := fun G a h => ⟨G, rfl, .refl G, h⟩
section
variable {P : Program} {N : Nat} {F F' : Frm} {σ σ' : List Ob} {Q : Exit → Frm → List Ob → Prop}
variable {ops : Array Oper} {o : Oper} {l : List Oper} {d : Nat}
section
variable {fo : Operand} {ar : Array Operand} {ts : Array TypeId} {f : FuncId} {x : AV} {e n : Int}
end
end
end Go.Proofs.YtanfaepjamkbjaaGreat.Aw
end
section
namespace Go.Proofs.YtanfaepjamkbjaaGreat.Aw
set_option linter.unusedSimpArgs false
set_option linter.unusedVariables false
set_option linter.unusedSectionVars false
open Go Go.RowKit Go.Proofs

/-- an own thing under a new name, and things named in a row too -/
inductive ObR2 (ρ : List Nat) : Ob → Ob → Prop
  | of (ob ob' : Ob) (h : ObRn ρ ob ob') : ObR2 ρ ob ob'
  | rowN (sz : Nat) (cs cs' : List AV) (hl : cs.length = cs'.length) (h : ∀ (k : Nat) e e', cs[k]? = some e → cs'[k]? = some e' → e.cells.length = e'.cells.length ∧ ∀ (j : Nat) x y, e.cells[j]? = some x → e'.cells[j]? = some y → Rn ρ x y) : ObR2 ρ (.row sz cs) (.row sz cs')
def StR2 (σ : List Ob) (ρ : List Nat) (σ' : List Ob) : Prop := σ'.length = ρ.length ∧ ∀ (j i : Nat) ob', ρ[j]? = some i → σ'[j]? = some ob' → ∃ ob, σ[i]? = some ob ∧ ObR2 ρ ob ob'
theorem row_ren {G : Cx} {ρ : List Nat} {i j : Nat} {sz : Nat} {cs cs' : List AV} (hm : (G.ren ρ).mu j = G.mu i) (hl : cs.length = cs'.length)
    (h : ∀ (k : Nat) e e', cs[k]? = some e → cs'[k]? = some e' → e.cells.length = e'.cells.length ∧ ∀ (j : Nat) x y, e.cells[j]? = some x → e'.cells[j]? = some y → Rn ρ x y) (h3 : ObOk G i (.row sz cs)) : ObOk (G.ren ρ) j (.row sz cs') := by
  simp only [ObOk, hm] at h3 ⊢
  cases hx : G.mu i with
  | none => rw [hx] at h3; exact h3
  | some x =>
    rw [hx] at h3
    cases x with
    | none => exact List.length_eq_zero_iff.1 (by rw [← hl, h3]; rfl)
    | some b => exact ⟨ren_row h3.1 hl h, h3.2⟩
theorem ren_rel2 {G : Cx} {σ σ' : List Ob} {ρ : List Nat} (hr : Rel G σ) (hn : ρ.Nodup) (hs : StR2 σ ρ σ') : Rel (G.ren ρ) σ' := by
  obtain ⟨hlen, hst⟩ := hs
  -- what is not a row of rows is renamed as before
  let τ : List Ob := σ'.map fun ob => match ob with | .row sz cs => .dead | ob => ob
  have hτ : StRn σ ρ τ := by
    refine ⟨by simp [τ, hlen], fun j i ob' hj hob => ?_⟩
    simp only [τ, List.getElem?_map, Option.map_eq_some_iff] at hob
    obtain ⟨ob1, h1, h2⟩ := hob
    obtain ⟨ob, h3, h4⟩ := hst j i ob1 hj h1
    refine ⟨ob, h3, ?_⟩
    subst h2
    cases h4 with
    | of _ _ h =>
      cases h with
      | dead => exact .dead _
      | row sz cs h => exact .dead _
      | fz sz cs h => exact .fz _ _ h
      | rowR sz e e' h h1 hl => exact .dead _
      | mp X n hn => exact .mp X n hn
    | rowN sz cs cs' hl h => exact .dead _
  have hr1 := ren_rel hr hn hτ
  have hmu : ∀ j i, ρ[j]? = some i → (G.ren ρ).mu j = G.mu i := fun j i h => by simp [Cx.ren, h]
  refine ⟨hr1.below, hr1.le, hr1.st, fun j ob' hob => ?_, fun j j' b hj hj' hm hm' => ?_, fun j hj => hr1.fresh j (by simp [τ]; exact hj)⟩
  · have hj : j < ρ.length := by rw [← hlen]; exact (List.getElem?_eq_some_iff.1 hob).1
    have hρ := List.getElem?_eq_getElem hj
    obtain ⟨ob, h1, h2⟩ := hst j _ ob' hρ hob
    have keep : (∀ sz cs, ob' ≠ .row sz cs) → ObOk (G.ren ρ) j ob' := fun h => hr1.obs j ob' (by
      show (σ'.map _)[j]? = _
      rw [List.getElem?_map, hob]
      cases ob' with
      | row sz cs => exact absurd rfl (h sz cs)
      | dead => rfl
      | fz sz cs => rfl
      | mp X => rfl)
    cases h2 with
    | of _ _ h =>
      cases h with
      | row sz cs h =>
        refine row_ren (hmu j _ hρ) rfl (fun k e e' he he' => ?_) (hr.obs _ _ h1)
        rw [he] at he'; cases he'
        refine ⟨rfl, fun i x y hx hy => ?_⟩
        rw [hx] at hy; cases hy
        exact .lo _ (h e (List.mem_of_getElem? he) x (List.mem_of_getElem? hx))
      | rowR sz e e' h g1 hl =>
        refine row_ren (cs := [e]) (hmu j _ hρ) rfl (fun k x x' he he' => ?_) (hr.obs _ _ h1)
        cases k with
        | succ k => simp at he
        | zero => simp at he he'; subst he he'; exact ⟨hl, g1⟩
      | dead => exact keep (fun sz cs h => by cases h)
      | fz sz cs h => exact keep (fun sz cs h => by cases h)
      | mp X n hn => exact keep (fun sz cs h => by cases h)
    | rowN sz cs cs' hl h => exact row_ren (hmu j _ hρ) hl h (hr.obs _ _ h1)
  · obtain ⟨sz, cs, h1⟩ := hj
    obtain ⟨sz', cs', h1'⟩ := hj'
    have hlj : j < ρ.length := by rw [← hlen]; exact (List.getElem?_eq_some_iff.1 h1).1
    have hlj' : j' < ρ.length := by rw [← hlen]; exact (List.getElem?_eq_some_iff.1 h1').1
    have al : ∀ j sz cs (hlj : j < ρ.length), σ'[j]? = some (.row sz cs) → alive σ ρ[j] := by
      intro j sz cs hlj h1
      obtain ⟨ob, h2, h3⟩ := hst j _ _ (List.getElem?_eq_getElem hlj) h1
      cases h3 with
      | of _ _ h =>
        cases h with
        | row _ _ _ => exact ⟨sz, cs, h2⟩
        | rowR _ e _ _ _ _ => exact ⟨sz, [e], h2⟩
      | rowN _ cs0 _ _ _ => exact ⟨sz, cs0, h2⟩
    have e := hr.inj ρ[j] ρ[j'] b (al j sz cs hlj h1) (al j' sz' cs' hlj' h1') (by simpa [Cx.ren, hlj] using hm) (by simpa [Cx.ren, hlj'] using hm')
    exact (List.getElem_inj hn).1 e
section
variable {N : Nat} {F F' : Frm} {σ σ' : List Ob}
theorem wk_ren2 (ρ : List Nat) (hn : ρ.Nodup) (hs : StR2 σ ρ σ') (hf : FrRn F ρ F') : Weak N F σ F' σ' := fun G a h =>
  ⟨G.ren ρ, rfl, ⟨rfl, rfl, fun _ _ h => h, fun _ _ _ => rfl, fun _ _ h => .inl h⟩, ⟨ren_rel2 h.rel hn hs, frRn_ok h.fr F' hf, h.df, h.nt⟩⟩
end
section
variable {N : Nat} {F : Frm} {σ : List Ob}
end
end Go.Proofs.YtanfaepjamkbjaaGreat.Aw
end
section
namespace Go.Proofs.YtanfaepjamkbjaaGreat.Aw
set_option linter.unusedSimpArgs false
set_option linter.unusedVariables false
set_option linter.unusedSectionVars false
open Go Go.RowKit Go.Proofs
section
variable {N : Nat} {F F' : Frm} {σ σ' : List Ob}
theorem WeakK.trans {F1 F2 : Frm} {σ1 σ2 : List Ob} (h : WeakK N F σ F1 σ1) (k : WeakK N F1 σ1 F2 σ2) : WeakK N F σ F2 σ2 := fun G a hs => by
  obtain ⟨G1, e1, s1, h1⟩ := h G a hs
  obtain ⟨G2, e2, s2, h2⟩ := k G1 a h1
  exact ⟨G2, e2.trans e1, s1.trans s2, h2⟩
end
/-! ## one thing is made anew, behind all others, and takes the place of an old one -/
def mv (k i : Nat) : List Nat := (List.range k).set i k
theorem mv_ne {k i t : Nat} (h : t < k) (hne : t ≠ i) : (mv k i)[t]? = some t := by
  unfold mv
  rw [List.getElem?_set_ne (fun e => hne e.symm), List.getElem?_range h]
theorem mv_eq {k i : Nat} (h : i < k) : (mv k i)[i]? = some k := by
  unfold mv
  rw [List.getElem?_set_self (by simpa using h)]
theorem mv_nd (k i : Nat) : (mv k i).Nodup := by
  unfold mv
  refine List.nodup_iff_pairwise_ne.2 ?_
  rw [List.pairwise_iff_getElem]
  intro a b ha hb hlt
  simp only [List.length_set, List.length_range] at ha hb
  rw [List.getElem_set, List.getElem_set]
  split <;> split <;> first | omega | (simp only [List.getElem_range]; omega)
theorem stR2_mv {σ0 σ' : List Ob} {k i : Nat} {ob ob' : Ob} (h0 : σ0.length = k) (h1 : σ'.length = k) (hi : σ'[i]? = some ob') (ho : ObR2 (mv k i) ob ob')
    (h : ∀ (t : Nat) a b, t ≠ i → σ0[t]? = some a → σ'[t]? = some b → ObR2 (mv k i) a b) : StR2 (σ0 ++ [ob]) (mv k i) σ' := by
  have hik : i < k := by rw [← h1]; exact (List.getElem?_eq_some_iff.1 hi).1
  refine ⟨by simp [mv, h1], fun t u o ht hot => ?_⟩
  have htk : t < k := by rw [← h1]; exact (List.getElem?_eq_some_iff.1 hot).1
  by_cases e : t = i
  · subst e
    rw [mv_eq hik] at ht
    obtain rfl := Option.some.inj ht
    rw [hi] at hot
    obtain rfl := Option.some.inj hot
    exact ⟨ob, by rw [← h0]; simp, ho⟩
  · rw [mv_ne htk e] at ht
    obtain rfl := Option.some.inj ht
    obtain ⟨a, ha⟩ : ∃ a, σ0[t]? = some a := ⟨σ0[t]'(by omega), List.getElem?_eq_getElem (by omega)⟩
    exact ⟨a, by rw [List.getElem?_append_left (by omega)]; exact ha, h t a o e ha hot⟩
section
variable {P : Program} {N : Nat} {F : Frm} {σ σ' : List Ob} {Q : Exit → Frm → List Ob → Prop} {ops : Array Oper} {o : Oper} {l : List Oper} {d : Nat} {fo : Operand} {ar : Array Operand} {ts : Array TypeId} {f : FuncId} {y : AV} {args caps : List AV}
end
end Go.Proofs.YtanfaepjamkbjaaGreat.Aw
end
section
namespace Go.Proofs.YtanfaepjamkbjaaGreat.Aw
set_option linter.unusedSimpArgs false
set_option linter.unusedVariables false
set_option linter.unusedSectionVars false
open Go Go.Proofs Go.RowKit

def mpR (m n : Nat) : List AV := (List.range n).map fun j => AV.mp (m + j)
theorem mpR_len (m n : Nat) : (mpR m n).length = n := by simp [mpR]
theorem mpR_snoc (m n : Nat) : mpR m (n + 1) = mpR m n ++ [.mp (m + n)] := by simp [mpR, List.range_succ]
theorem mpR_get {m n j : Nat} (h : j < n) : (mpR m n)[j]? = some (.mp (m + j)) := by
  unfold mpR
  rw [List.getElem?_map, List.getElem?_range h]; rfl
/-- marks, maps in a row (the first n of them), the maps -/
def stoM (A : List Ob) (mk : List AV) (n : Nat) (Xs : List MapX) : List Ob := A ++ .row 1 mk :: .row 1 (mpR (A.length + 2) n) :: Xs.map .mp
theorem stoM_len (A : List Ob) (mk : List AV) (n : Nat) (Xs : List MapX) : (stoM A mk n Xs).length = A.length + 2 + Xs.length := by simp [stoM]; omega
theorem stoM_marks (A : List Ob) (mk : List AV) (n : Nat) (Xs : List MapX) : (stoM A mk n Xs)[A.length]? = some (.row 1 mk) := by simp [stoM]
theorem stoM_rows (A : List Ob) (mk : List AV) (n : Nat) (Xs : List MapX) : (stoM A mk n Xs)[A.length + 1]? = some (.row 1 (mpR (A.length + 2) n)) := by
  unfold stoM
  rw [List.getElem?_append_right (by omega), Nat.add_sub_cancel_left]; rfl
theorem stoM_map {A : List Ob} {mk : List AV} {n j : Nat} {Xs : List MapX} {X : MapX} (h : Xs[j]? = some X) : (stoM A mk n Xs)[A.length + 2 + j]? = some (.mp X) := by
  unfold stoM
  rw [Nat.add_assoc, List.getElem?_append_right (by omega), Nat.add_sub_cancel_left, Nat.add_comm 2 j]
  show (Xs.map Ob.mp)[j]? = _
  rw [List.getElem?_map, h]; rfl
theorem stoM_set {A : List Ob} {mk : List AV} {n j : Nat} {Xs : List MapX} (X : MapX) : (stoM A mk n Xs).set (A.length + 2 + j) (.mp X) = stoM A mk n (Xs.set j X) := by
  unfold stoM
  rw [Nat.add_assoc, List.set_append_right _ _ (by omega), Nat.add_sub_cancel_left, Nat.add_comm 2 j]
  simp [List.map_set]
theorem stoM_new (A : List Ob) (mk : List AV) (n : Nat) (Xs : List MapX) (X : MapX) : stoM A mk n Xs ++ [.mp X] = stoM A mk n (Xs ++ [X]) := by simp [stoM]
theorem maps_same {ρ : List Nat} {Xs : List MapX} {t : Nat} {a b : Ob} (ha : (Xs.map Ob.mp)[t]? = some a) (hb : (Xs.map Ob.mp)[t]? = some b) : ObR2 ρ a b := by
  rw [ha] at hb
  obtain rfl := Option.some.inj hb
  rw [List.getElem?_map] at ha
  cases hx : Xs[t]? with
  | none => rw [hx] at ha; cases ha
  | some X => rw [hx] at ha; cases ha; exact .of _ _ (.mp X X.n (Nat.le_refl _))
theorem mpR_mv {m n sz K v : Nat} (h : v < m) (hK : m + n ≤ K) : ObR2 (mv K v) (.row sz (mpR m n)) (.row sz (mpR m n)) := by
  refine .rowN _ _ _ rfl (fun t e e' he he' => ?_)
  rw [he] at he'
  obtain rfl := Option.some.inj he'
  have ht : t < n := by have := (List.getElem?_eq_some_iff.1 he).1; rwa [mpR_len] at this
  rw [mpR_get ht] at he
  obtain rfl := Option.some.inj he
  refine ⟨rfl, fun j x y hx hy => ?_⟩
  rw [hx] at hy
  obtain rfl := Option.some.inj hy
  cases j with
  | succ j => simp [AV.cells] at hx
  | zero => simp [AV.cells] at hx; subst hx; exact .mp _ _ (mv_ne (by omega) (by omega))
/-- the marks' row has moved -/
theorem stoM_mvMarks {A : List Ob} {mk' : List AV} {n K : Nat} {Xs : List MapX} (hK : K = A.length + 2 + Xs.length) (hn : n ≤ Xs.length) (hA : ∀ a ∈ A, ObR2 (mv K A.length) a a) (hlo : ∀ e ∈ mk', ∀ c ∈ e.cells, Lo 0 c) :
    StR2 ((A ++ .dead :: .row 1 (mpR (A.length + 2) n) :: Xs.map .mp) ++ [.row 1 mk']) (mv K A.length) (stoM A mk' n Xs) := by
  refine stR2_mv (i := A.length) (by simp [hK]; omega) (by rw [stoM_len, hK]) (ob' := .row 1 mk') (stoM_marks _ _ _ _) (.of _ _ (.row 1 mk' hlo)) (fun t a b ht ha hb => ?_)
  unfold stoM at hb
  by_cases h1 : t < A.length
  · rw [List.getElem?_append_left h1] at ha hb
    rw [ha] at hb
    obtain rfl := Option.some.inj hb
    exact hA a (List.mem_of_getElem? ha)
  · obtain ⟨s, rfl⟩ : ∃ s, t = A.length + s := ⟨t - A.length, by omega⟩
    rw [List.getElem?_append_right (by omega), Nat.add_sub_cancel_left] at ha hb
    match s, ht, ha, hb with
    | 0, ht, _, _ => exact absurd rfl ht
    | 1, _, ha, hb => simp at ha hb; subst ha hb; exact mpR_mv (by omega) (by omega)
    | s + 2, _, ha, hb => exact maps_same (t := s) (by simpa using ha) (by simpa using hb)
end Go.Proofs.YtanfaepjamkbjaaGreat.Aw
end
section
namespace Go.Proofs.YtanfaepjamkbjaaGreat.Aw
set_option linter.unusedSimpArgs false
set_option linter.unusedVariables false
set_option linter.unusedSectionVars false
open Go Go.RowKit Go.Proofs Go.Maps Go.WideMaps
variable {P : Program} [IsP P]

theorem lo_T (t : Tr) : Lo 0 (eT t) := .agg _ (lo_cons (.s _) (lo_cons lo_I (lo_cons lo_I lo_nil)))
theorem lo_N (n : Net) : Lo 0 (eN n) := .agg _ (lo_cons (.s _) (lo_cons (lo_map fun t => lo_T t) (lo_cons (.s _) (lo_cons (.s _) lo_nil))))
theorem rows_lo (l : List (List Int)) : ∀ e ∈ l.map (eL eI), ∀ c ∈ e.cells, Lo 0 c := by
  intro e he c hc
  obtain ⟨x, _, rfl⟩ := List.mem_map.1 he
  simp [eL, AV.cells] at hc; subst hc; exact lo_I
theorem post_cs {N : Nat} {F : Frm} {σ : List Ob} {ad u : Nat} {ty : TypeId} {id sz k n bt : Nat} {z : Option Value} {ob : Ob} {cs : List AV} {e1 r1 y r2 : AV} {e : Exit} (he : e = .normal ∨ e = .ret) (ha : tyAgg P ty = some true) (hi : tyInfo P ty = some (z, n, bt)) (hp : F.get ad = .ptr id sz k 0) (hs : σ[id]? = some ob) (ho : rowOf ob = some (sz, cs)) (hk : cs[k]? = some e1) (hn : e1.cells.length = n) (hu : F.get u = y) (hr1 : Fini σ (.agg e1.cells) r1) (hr2 : Fini σ y r2) : APost P [.cell ad ty, .tmp u] (.tup [r1, r2]) e F σ :=
  ⟨he, [.agg e1.cells, y], .cons _ _ _ _ (.cells ad ty id sz k n bt z ob cs e1 ha hi hp hs ho hk hn) (.cons _ _ _ _ (.tmp u y hu) .nil), .tup _ _ rfl (FiniL.cons hr1 (FiniL.cons hr2 FiniL.nil)).2⟩
def Small (m : List Int) : Prop := ∀ x ∈ m, 0 ≤ x ∧ x ≤ 255
theorem wf_len {k : Nat} (h : k ≤ 2000) : (Lit.int .i64 (k : Nat)).wf = true := by
  unfold Lit.wf
  rw [Bool.and_eq_true]
  exact ⟨decide_eq_true (by show (-9223372036854775808 : Int) ≤ _; omega), decide_eq_true (by show _ ≤ (9223372036854775807 : Int); omega)⟩
end Go.Proofs.YtanfaepjamkbjaaGreat.Aw
end
section
namespace Go.Proofs.YtanfaepjamkbjaaGreat.Aw
set_option linter.unusedSimpArgs false
set_option linter.unusedVariables false
set_option linter.unusedSectionVars false
open Go Go.RowKit Go.Proofs Go.Maps Go.WideMaps
variable {P : Program} [IsP P]

/-! ## what comes behind in the store is left out, or takes the first one's place -/
theorem rng_get {K i : Nat} (h : i < K) : (List.range K)[i]? = some i := List.getElem?_range h
theorem wk_lastR {N : Nat} {F F' : Frm} {σ0 X : List Ob} {K j : Nat} {ob ob' : Ob} (hK : σ0.length = K) (hj : K ≤ j) (hob : (σ0 ++ X)[j]? = some ob)
    (h0 : ∀ a ∈ σ0, ObR2 (List.range K ++ [j]) a a) (ho : ObR2 (List.range K ++ [j]) ob ob') (hf : FrRn F (List.range K ++ [j]) F') : Weak N F (σ0 ++ X) F' (σ0 ++ [ob']) := by
  refine wk_ren2 (List.range K ++ [j]) ?_ ⟨by simp [hK], fun t i o ht ho2 => ?_⟩ hf
  · rw [List.nodup_append]
    refine ⟨List.nodup_range, by simp, fun a ha b hb e => ?_⟩
    simp at ha hb; omega
  · by_cases htK : t < K
    · rw [List.getElem?_append_left (by simpa using htK), rng_get htK] at ht
      obtain rfl := Option.some.inj ht
      rw [List.getElem?_append_left (by omega)] at ho2 ⊢
      exact ⟨o, ho2, h0 o (List.mem_of_getElem? ho2)⟩
    · rw [List.getElem?_append_right (by simp; omega)] at ht
      rw [List.getElem?_append_right (by omega), hK] at ho2
      simp only [List.length_range] at ht
      have e : t - K = 0 := by
        cases h : t - K with
        | zero => rfl
        | succ q => rw [h] at ht; simp at ht
      rw [e] at ht ho2
      simp at ht ho2
      subst ht ho2
      exact ⟨ob, hob, ho⟩
theorem wk_dropR {N : Nat} {F F' : Frm} {σ0 X : List Ob} {K : Nat} (hK : σ0.length = K) (h0 : ∀ a ∈ σ0, ObR2 (List.range K) a a) (hf : FrRn F (List.range K) F') : Weak N F (σ0 ++ X) F' σ0 := by
  refine wk_ren2 (List.range K) List.nodup_range ⟨by simp [hK], fun t i o ht ho2 => ?_⟩ hf
  have htK : t < K := by rw [← hK]; exact (List.getElem?_eq_some_iff.1 ho2).1
  rw [rng_get htK] at ht
  obtain rfl := Option.some.inj ht
  rw [List.getElem?_append_left (by omega)]
  exact ⟨o, ho2, h0 o (List.mem_of_getElem? ho2)⟩
/-- a box at the end, written once: finished, and its name left out -/
theorem wk_boxD {N : Nat} {F F' : Frm} {σ0 : List Ob} {sz K d : Nat} {e0 e1 : AV} (hK : σ0.length = K) (hd : F.get d = .ptr σ0.length sz 0 0) (h0 : ∀ a ∈ σ0, ObR2 (List.range K) a a) (hf : FrRn ((d, .ref e1.cells) :: F) (List.range K) F') :
    Weak N F ((σ0 ++ [Ob.row sz [e0]]).set σ0.length (Ob.row sz [e1])) F' σ0 := by
  have e : (σ0 ++ [Ob.row sz [e0]]).set σ0.length (.row sz [e1]) = σ0 ++ [Ob.row sz [e1]] := by
    rw [List.set_append_right _ _ (Nat.le_refl _), Nat.sub_self]; rfl
  rw [e]
  have h1 := wk_froz (N := N) (F := F) (σ := σ0 ++ [Ob.row sz [e1]]) (id := σ0.length) (sz := sz) (cs := [e1]) (by simp)
  rw [show (σ0 ++ [Ob.row sz [e1]]).set σ0.length (Ob.fz sz [e1]) = σ0 ++ [Ob.fz sz [e1]] by rw [List.set_append_right _ _ (Nat.le_refl _), Nat.sub_self]; rfl] at h1
  exact h1.trans ((wk_ref (cs := [e1]) hd (by simp) rfl).trans (wk_dropR hK h0 hf))
/-- what stays as it is under new names that keep the first K -/
theorem mpR_keep {ρ : List Nat} {m n sz K : Nat} (hρ : ∀ i, i < K → ρ[i]? = some i) (hK : m + n ≤ K) : ObR2 ρ (.row sz (mpR m n)) (.row sz (mpR m n)) := by
  refine .rowN _ _ _ rfl (fun t e e' he he' => ?_)
  rw [he] at he'
  obtain rfl := Option.some.inj he'
  have ht : t < n := by have := (List.getElem?_eq_some_iff.1 he).1; rwa [mpR_len] at this
  rw [mpR_get ht] at he
  obtain rfl := Option.some.inj he
  refine ⟨rfl, fun j x y hx hy => ?_⟩
  rw [hx] at hy
  obtain rfl := Option.some.inj hy
  cases j with
  | succ j => simp [AV.cells] at hx
  | zero => simp [AV.cells] at hx; subst hx; exact .mp _ _ (hρ _ (by omega))
theorem mpR_keep2 {m n sz K v j : Nat} (h : v < m) (hK : m + n ≤ K) : ObR2 ((List.range K).set v j) (.row sz (mpR m n)) (.row sz (mpR m n)) := by
  refine .rowN _ _ _ rfl (fun t e e' he he' => ?_)
  rw [he] at he'
  obtain rfl := Option.some.inj he'
  have ht : t < n := by have := (List.getElem?_eq_some_iff.1 he).1; rwa [mpR_len] at this
  rw [mpR_get ht] at he
  obtain rfl := Option.some.inj he
  refine ⟨rfl, fun j x y hx hy => ?_⟩
  rw [hx] at hy
  obtain rfl := Option.some.inj hy
  cases j with
  | succ j => simp [AV.cells] at hx
  | zero => simp [AV.cells] at hx; subst hx; exact .mp _ _ (by rw [List.getElem?_set_ne (by omega), List.getElem?_range (by omega)])
theorem stoM_keep {ρ : List Nat} {A : List Ob} {mk : List AV} {n K : Nat} {Xs : List MapX} (hρ : ∀ i, i < K → ρ[i]? = some i) (hK : A.length + 2 + Xs.length ≤ K) (hn : n ≤ Xs.length) (hA : ∀ a ∈ A, ObR2 ρ a a) (hlo : ∀ e ∈ mk, ∀ c ∈ e.cells, Lo 0 c) :
    ∀ a ∈ stoM A mk n Xs, ObR2 ρ a a := by
  intro a ha
  unfold stoM at ha
  rcases List.mem_append.1 ha with ha | ha
  · exact hA a ha
  · rcases List.mem_cons.1 ha with rfl | ha
    · exact .of _ _ (.row 1 mk hlo)
    · rcases List.mem_cons.1 ha with rfl | ha
      · exact mpR_keep hρ (by omega)
      · obtain ⟨X, _, rfl⟩ := List.mem_map.1 ha
        exact .of _ _ (.mp X X.n (Nat.le_refl _))
/-- a thing behind all others takes the place of an old one -/
def mvTo (k i j : Nat) : List Nat := (List.range k).set i j
theorem mvTo_ne {k i j t : Nat} (h : t < k) (hne : t ≠ i) : (mvTo k i j)[t]? = some t := by
  unfold mvTo
  rw [List.getElem?_set_ne (fun e => hne e.symm), List.getElem?_range h]
theorem mvTo_eq {k i j : Nat} (h : i < k) : (mvTo k i j)[i]? = some j := by
  unfold mvTo
  rw [List.getElem?_set_self (by simpa using h)]
theorem mvTo_nd {k i j : Nat} (hj : k ≤ j) : (mvTo k i j).Nodup := by
  unfold mvTo
  refine List.nodup_iff_pairwise_ne.2 ?_
  rw [List.pairwise_iff_getElem]
  intro a b ha hb hlt
  simp only [List.length_set, List.length_range] at ha hb
  rw [List.getElem_set, List.getElem_set]
  split <;> split <;> first | omega | (simp only [List.getElem_range]; omega)
theorem stR2_to {σ0 X σ' : List Ob} {k i j : Nat} {ob ob' : Ob} (h0 : σ0.length = k) (h1 : σ'.length = k) (hi : σ'[i]? = some ob') (hob : (σ0 ++ X)[j]? = some ob) (ho : ObR2 (mvTo k i j) ob ob')
    (h : ∀ (t : Nat) a b, t ≠ i → σ0[t]? = some a → σ'[t]? = some b → ObR2 (mvTo k i j) a b) : StR2 (σ0 ++ X) (mvTo k i j) σ' := by
  have hik : i < k := by rw [← h1]; exact (List.getElem?_eq_some_iff.1 hi).1
  refine ⟨by simp [mvTo, h1], fun t u o ht hot => ?_⟩
  have htk : t < k := by rw [← h1]; exact (List.getElem?_eq_some_iff.1 hot).1
  by_cases e : t = i
  · subst e
    rw [mvTo_eq hik] at ht
    obtain rfl := Option.some.inj ht
    rw [hi] at hot
    obtain rfl := Option.some.inj hot
    exact ⟨ob, hob, ho⟩
  · rw [mvTo_ne htk e] at ht
    obtain rfl := Option.some.inj ht
    obtain ⟨a, ha⟩ : ∃ a, σ0[t]? = some a := ⟨σ0[t]'(by omega), List.getElem?_eq_getElem (by omega)⟩
    exact ⟨a, by rw [List.getElem?_append_left (by omega)]; exact ha, h t a o e ha hot⟩
/-- the row of maps has moved, with one map more; something lies between -/
theorem stoM_toRows {z Y : Ob} {mk : List AV} {n K : Nat} {Xs : List MapX} (hK : K = 3 + Xs.length) (hn : n < Xs.length) (hz : ∀ ρ, ObR2 ρ z z) (hlo : ∀ e ∈ mk, ∀ c ∈ e.cells, Lo 0 c) :
    StR2 ((stoM [z] mk n Xs ++ [Y]).set 2 .dead ++ [.row 1 (mpR 3 n ++ [.mp (3 + n)])]) (mvTo K 2 (K + 1)) (stoM [z] mk (n + 1) Xs) := by
  rw [← mpR_snoc]
  have e : (stoM [z] mk n Xs ++ [Y]).set 2 .dead ++ [.row 1 (mpR 3 (n + 1))] = (z :: .row 1 mk :: .dead :: Xs.map .mp) ++ [Y, .row 1 (mpR 3 (n + 1))] := by simp [stoM]
  rw [e]
  refine stR2_to (ob' := .row 1 (mpR 3 (n + 1))) (by simp [hK]; omega) (by rw [stoM_len, hK]; rfl) (stoM_rows _ _ _ _) (by rw [List.getElem?_append_right (by simp [hK]; omega)]; rw [show K + 1 - (z :: Ob.row 1 mk :: Ob.dead :: Xs.map Ob.mp).length = 1 by simp [hK]; omega]; rfl) (mpR_keep2 (by omega) (by omega)) (fun t a b ht ha hb => ?_)
  match t, ht, ha, hb with
  | 0, _, ha, hb => simp at ha; simp [stoM] at hb; subst ha hb; exact hz _
  | 1, _, ha, hb => simp at ha; simp [stoM] at hb; subst ha hb; exact .of _ _ (.row 1 mk hlo)
  | 2, ht, _, _ => exact absurd rfl ht
  | t + 3, _, ha, hb => exact maps_same (t := t) (by simpa using ha) (by simpa [stoM] using hb)
/-- two things more ahead of the marks: the maps' names go up by two -/
theorem stoM_ins {z o1 o2 o1' o2' : Ob} {mk : List AV} {n : Nat} {Xs : List MapX} {L : Nat} (hL : L = 3 + Xs.length) (hn : n ≤ Xs.length) (hz : ∀ ρ, ObR2 ρ z z)
    (h1 : ObR2 (0 :: L :: (L + 1) :: (List.range (2 + Xs.length)).map (· + 1)) o1 o1') (h2 : ∀ ρ, ObR2 ρ o2 o2') (hlo : ∀ e ∈ mk, ∀ c ∈ e.cells, Lo 0 c) :
    StR2 (stoM [z] mk n Xs ++ [o1, o2]) (0 :: L :: (L + 1) :: (List.range (2 + Xs.length)).map (· + 1)) (stoM [z, o1', o2'] mk n Xs) := by
  have hlen : (stoM [z] mk n Xs).length = L := by rw [stoM_len, hL]; rfl
  refine ⟨by rw [stoM_len]; simp; omega, fun t i o ht ho => ?_⟩
  match t, ht, ho with
  | 0, ht, ho =>
    simp at ht; subst ht
    simp [stoM] at ho; subst ho
    exact ⟨_, rfl, hz _⟩
  | 1, ht, ho =>
    simp at ht; subst ht
    simp [stoM] at ho; subst ho
    exact ⟨o1, by rw [List.getElem?_append_right (by omega), hlen, Nat.sub_self]; rfl, h1⟩
  | 2, ht, ho =>
    simp at ht; subst ht
    simp [stoM] at ho; subst ho
    exact ⟨o2, by rw [List.getElem?_append_right (by omega), hlen, Nat.add_sub_cancel_left]; rfl, h2 _⟩
  | t + 3, ht, ho =>
    simp only [List.getElem?_cons_succ, List.getElem?_map] at ht
    have htl : t < 2 + Xs.length := by
      refine Classical.byContradiction fun h => ?_
      rw [List.getElem?_eq_none (by simp; omega)] at ht
      cases ht
    rw [List.getElem?_range htl] at ht
    simp at ht
    subst ht
    have ho' : (stoM [z, o1', o2'] mk n Xs)[t + 3]? = (Ob.row 1 mk :: .row 1 (mpR 5 n) :: Xs.map .mp)[t]? := by
      show ((Ob.row 1 mk :: .row 1 (mpR 5 n) :: Xs.map Ob.mp) : List Ob)[t]? = _
      rfl
    rw [ho'] at ho
    have hs' : (stoM [z] mk n Xs ++ [o1, o2])[t + 1]? = (Ob.row 1 mk :: .row 1 (mpR 3 n) :: Xs.map .mp)[t]? := by
      rw [List.getElem?_append_left (by omega)]
      rfl
    rw [hs']
    match t, ho with
    | 0, ho => simp at ho; subst ho; exact ⟨_, rfl, .of _ _ (.row 1 mk hlo)⟩
    | 1, ho =>
      simp at ho; subst ho
      refine ⟨_, rfl, .rowN _ _ _ (by simp [mpR_len]) (fun q e e' he he' => ?_)⟩
      have hq : q < n := by have := (List.getElem?_eq_some_iff.1 he).1; rwa [mpR_len] at this
      rw [mpR_get hq] at he he'
      obtain rfl := Option.some.inj he
      obtain rfl := Option.some.inj he'
      refine ⟨rfl, fun j x y hx hy => ?_⟩
      cases j with
      | succ j => simp [AV.cells] at hx
      | zero =>
        simp [AV.cells] at hx hy
        subst hx hy
        refine .mp _ _ ?_
        have e5 : 5 + q = (q + 2) + 3 := by omega
        rw [e5]
        simp only [List.getElem?_cons_succ, List.getElem?_map]
        rw [List.getElem?_range (by omega)]
        simp
        omega
    | s + 2, ho =>
      simp only [List.getElem?_cons_succ] at ho ⊢
      exact ⟨o, ho, maps_same (t := s) ho ho⟩
/-! ## the second part: the rows that come out -/
abbrev rhoI (L n : Nat) : List Nat := 0 :: L :: (L + 1) :: (List.range (2 + n)).map (· + 1)
theorem rhoI_3 {L n t : Nat} (h : t < 2 + n) : (rhoI L n)[t + 3]? = some (t + 1) := by
  show ((List.range (2 + n)).map (· + 1))[t]? = _
  rw [List.getElem?_map, List.getElem?_range h]; rfl
theorem rhoI_nd {L n : Nat} (h : 2 + n < L) : (rhoI L n).Nodup := by
  have h1 : ((List.range (2 + n)).map (· + 1)).Nodup := List.Pairwise.map (R := (· ≠ ·)) (S := (· ≠ ·)) _ (fun a b h => by show a + 1 ≠ b + 1; omega) List.nodup_range
  unfold rhoI
  simp only [List.nodup_cons, List.mem_cons, List.mem_map, List.mem_range]
  refine ⟨?_, ?_, ?_, h1⟩
  · rintro (h | h | ⟨a, h2, h3⟩) <;> omega
  · rintro (h | ⟨a, h2, h3⟩) <;> omega
  · rintro ⟨a, h2, h3⟩; omega
theorem wk_outC {N : Nat} {F F' : Frm} {z : Ob} {e : AV} {mk : List AV} {n L : Nat} {Xs : List MapX} (he : e.cells = [.s (.slice none 0 0)]) (hL : L = 3 + Xs.length) (hn : n ≤ Xs.length) (hz : ∀ ρ, ObR2 ρ z z) (hlo : ∀ e ∈ mk, ∀ c ∈ e.cells, Lo 0 c) (hf : FrRn F (rhoI L Xs.length) F') :
    Weak N F (stoM [z] mk n Xs ++ [Ob.row 1 [e]]) F' (stoM [z, .row 1 [.agg [.own 2 1 0]], .row 1 []] mk n Xs) := by
  have hlen : (stoM [z] mk n Xs).length = L := by rw [stoM_len, hL]; rfl
  have h1 := wk_ownC (N := N) (F := F) (σ := stoM [z] mk n Xs ++ [Ob.row 1 [e]]) (id := L) (sz := 1) (sz2 := 1) (e := e) (e' := .agg [.own (L + 1) 1 0]) (pre := []) (post := []) (by rw [List.getElem?_append_right (by omega), hlen, Nat.sub_self]; rfl) he (by rw [List.length_append, hlen]; rfl)
  rw [show (stoM [z] mk n Xs ++ [Ob.row 1 [e]]).set L (Ob.row 1 [.agg [.own (L + 1) 1 0]]) ++ [Ob.row 1 []] = stoM [z] mk n Xs ++ [Ob.row 1 [.agg [.own (L + 1) 1 0]], Ob.row 1 []] by
    rw [List.set_append_right _ _ (by omega), hlen, Nat.sub_self]; simp] at h1
  refine h1.trans (wk_ren2 (rhoI L Xs.length) (rhoI_nd (by omega)) (stoM_ins hL hn hz ?_ (fun ρ => .of _ _ (.row 1 _ (by simp))) hlo) hf)
  refine .of _ _ (.rowR _ _ _ (.agg _ _ rfl ?_) ?_ rfl)
  all_goals
    intro j x y hx hy
    cases j with
    | succ j => simp [AV.cells] at hx
    | zero => simp [AV.cells] at hx hy; subst hx hy; exact .own _ _ _ _ _ rfl rfl
/-- an own row at the end: appended to, it takes its own place -/
theorem wk_lastA {N : Nat} {F F' : Frm} {σ0 : List Ob} {K : Nat} {r ob : Ob} (hK : σ0.length = K) (h0 : ∀ ρ, (∀ i, i < K → ρ[i]? = some i) → ∀ a ∈ σ0, ObR2 ρ a a) (ho : ∀ ρ, ObR2 ρ ob ob) (hf : FrRn F (List.range K ++ [K + 1]) F') :
    Weak N F ((σ0 ++ [r]).set K .dead ++ [ob]) F' (σ0 ++ [ob]) := by
  have e : (σ0 ++ [r]).set K .dead ++ [ob] = σ0 ++ [.dead, ob] := by
    rw [List.set_append_right _ _ (by omega), hK, Nat.sub_self]; simp
  rw [e]
  refine wk_lastR hK (Nat.le_succ K) (by rw [List.getElem?_append_right (by omega), hK, show K.succ - K = 1 by omega]; rfl) (h0 _ (fun i hi => ?_)) (ho _) hf
  rw [List.getElem?_append_left (by simpa using hi), rng_get hi]
/-- an own row at the end: finished, and its name left out -/
theorem wk_rowD {N : Nat} {F F' : Frm} {σ0 : List Ob} {sz K d : Nat} {cs : List AV} (hK : σ0.length = K) (hd : F.get d = .own K sz cs.length) (h0 : ∀ a ∈ σ0, ObR2 (List.range K) a a) (hf : FrRn ((d, .sl cs) :: F) (List.range K) F') :
    Weak N F (σ0 ++ [Ob.row sz cs]) F' σ0 := by
  subst hK
  have h1 := wk_froz (N := N) (F := F) (σ := σ0 ++ [Ob.row sz cs]) (id := σ0.length) (sz := sz) (cs := cs) (by simp)
  rw [show (σ0 ++ [Ob.row sz cs]).set σ0.length (Ob.fz sz cs) = σ0 ++ [Ob.fz sz cs] by rw [List.set_append_right _ _ (Nat.le_refl _), Nat.sub_self]; rfl] at h1
  exact h1.trans ((wk_sl hd (by simp) rfl).trans (wk_dropR rfl h0 hf))
/-- the row that comes out has moved, and the struct names it anew -/
theorem stoM_mvOut {z : Ob} {mk cs' : List AV} {n K : Nat} {Xs : List MapX} {e : AV} {q : Nat} (he : e.cells = [.own K 1 q]) (hK : K = 5 + Xs.length) (hn : n ≤ Xs.length) (hz : ∀ ρ, ObR2 ρ z z) (hlo : ∀ e ∈ mk, ∀ c ∈ e.cells, Lo 0 c) (hlo' : ∀ e ∈ cs', ∀ c ∈ e.cells, Lo 0 c) {o1 o2 : Ob} :
    StR2 (((stoM [z, o1, o2] mk n Xs).set 2 .dead ++ [Ob.row 1 cs']).set 1 (Ob.row 1 [e])) (mv K 2) (stoM [z, .row 1 [.agg [.own 2 1 q]], .row 1 cs'] mk n Xs) := by
  have e0 : ((stoM [z, o1, o2] mk n Xs).set 2 .dead ++ [Ob.row 1 cs']).set 1 (Ob.row 1 [e]) = (z :: .row 1 [e] :: .dead :: .row 1 mk :: .row 1 (mpR 5 n) :: Xs.map .mp) ++ [.row 1 cs'] := by simp [stoM]
  rw [e0]
  refine stR2_mv (ob' := .row 1 cs') (by simp [hK]; omega) (by rw [stoM_len, hK]; rfl) rfl (.of _ _ (.row 1 _ hlo')) (fun t a b ht ha hb => ?_)
  match t, ht, ha, hb with
  | 0, _, ha, hb => simp at ha; simp [stoM] at hb; subst ha hb; exact hz _
  | 1, _, ha, hb =>
    simp at ha; simp [stoM] at hb; subst ha hb
    refine .rowN _ _ _ rfl (fun t x x' hx hx' => ?_)
    cases t with
    | succ t => simp at hx
    | zero =>
      simp at hx hx'
      subst hx hx'
      refine ⟨by rw [he]; rfl, fun j u v hu hv => ?_⟩
      rw [he] at hu
      cases j with
      | succ j => simp at hu
      | zero => simp [AV.cells] at hu hv; subst hu hv; exact .own _ _ _ _ _ (mv_eq (by omega)) rfl
  | 2, ht, _, _ => exact absurd rfl ht
  | 3, _, ha, hb => simp at ha; simp [stoM] at hb; subst ha hb; exact .of _ _ (.row 1 mk hlo)
  | 4, _, ha, hb => simp at ha; simp [stoM] at hb; subst ha hb; exact mpR_mv (by omega) (by omega)
  | t + 5, _, ha, hb => exact maps_same (t := t) (by simpa using ha) (by simpa [stoM] using hb)
end Go.Proofs.YtanfaepjamkbjaaGreat.Aw
end
