/-
  Texts joined: AwL, AwP, AwO. Conditions: none.
-/
import Derived.Test.YtmhbfoaecebobaaJP6
import Derived.Laws.StructEq
section
namespace Go.Proofs.Ytmhbfoaecebobaa.Aw
set_option linter.unusedSimpArgs false
set_option linter.unusedVariables false
open Go.RowKit

/-- all new blocks are finished -/
def newCx (G : Cx) (w' : World) : Cx := { base := 0, w0 := G.w, w := w', mu := fun _ => none, St := fun b o => G.St b o ∨ (G.w.heap.size ≤ b ∧ b < w'.heap.size) }
theorem pure_mk {P : Program} {f : FuncId} {args : List AV} {r : AV} (he : Enters P f) (hl : Lo 0 r)
    (h : ∀ (G : Cx) (vargs : Array Value), (∀ b o, G.St b o → b < G.w.heap.size) → vargs.size = args.length → (∀ (j : Nat) v x, vargs[j]? = some v → args[j]? = some x → Rep G v x) →
      Calls P f vargs G.w fun e w' => ∃ v, e = .returned v ∧ Below G.w.heap.size G.w w' ∧ Rep (newCx G w') v r) : Pure P f args r :=
  ⟨he, hl, fun G vargs hst hsz hrep => (h G vargs hst hsz hrep).mono (by
    rintro e w' ⟨v, rfl, hb, hr⟩
    refine ⟨v, newCx G w', rfl, rfl, hb, fun b o h => .inl h, fun b o h => ?_, fun b o h => ?_, hr⟩
    · exact h.imp (fun h => h) (fun h => h.1)
    · rcases h with h | h
      · have := hst b o h; have := hb.size; show b < w'.heap.size; omega
      · exact h.2)⟩
theorem ent_enters {P : Program} {f : FuncId} (h : ∀ args w, (callFunc f args).run P w = .ok (.enter f args) w) : Enters P f := h

/-- a slice of finished data, read cell by cell -/
theorem rd_rep {G : Cx} {α : Type} [Inhabited α] {size : Nat} {enc : α → List Value} {f : α → AV} (he : ∀ a, (enc a).length = size) (hf : ∀ a, (f a).cells.length = size) (h1 : ∀ a, ∀ c ∈ (f a).cells, c.one = true)
    {lo hi : Nat} {v : Value} {l : List α} (h : Rd size enc G.w lo hi v l) (hs : ∀ b o, lo ≤ b → b < hi → b < G.w.heap.size → G.St b o)
    (hr : ∀ a ∈ l, ∀ (j : Nat) u c, (enc a)[j]? = some u → (f a).cells[j]? = some c → Rep G u c) : Rep G v (eL f l) := by
  obtain ⟨A, c, rfl, hc, hm⟩ := h.form
  unfold eL
  rcases Nat.eq_zero_or_pos l.length with h0 | h0
  · have : l = [] := List.eq_nil_of_length_eq_zero h0
    subst this
    exact .slnil A c
  · obtain ⟨b, off, rfl, hlo, hhi, _⟩ := Rd.at_ h he (gti_get h0)
    have key : ∀ (k : Nat) a (j : Nat) u, l[k]? = some a → (enc a)[j]? = some u → G.w.cell? ⟨b, off + (k * size + j), none⟩ = some u := by
      intro k a j u hk hu
      obtain ⟨b2, off2, hA, _, _, h3⟩ := Rd.at_ h he hk
      cases hA
      exact h3 j u hu
    have hval : ∀ (k : Nat) e (j : Nat) c, (l.map f)[k]? = some e → e.cells[j]? = some c → ∃ a u, l[k]? = some a ∧ e = f a ∧ (enc a)[j]? = some u ∧ Rep G u c ∧ G.w.cell? ⟨b, off + k * size + j, none⟩ = some u := by
      intro k e j c hk hc
      rw [List.getElem?_map] at hk
      cases ha : l[k]? with
      | none => rw [ha] at hk; cases hk
      | some a =>
        rw [ha] at hk
        simp only [Option.map_some, Option.some.injEq] at hk
        subst hk
        have hj : j < (enc a).length := by rw [he, ← hf a]; exact (List.getElem?_eq_some_iff.1 hc).1
        refine ⟨a, (enc a)[j], rfl, rfl, List.getElem?_eq_getElem hj, hr a (List.mem_of_getElem? ha) j _ c (List.getElem?_eq_getElem hj) hc, ?_⟩
        rw [Nat.add_assoc]
        exact key k a j _ ha (List.getElem?_eq_getElem hj)
    have hlen : l.length = (l.map f).length := by simp
    rw [hlen]
    refine .sl b off c size (l.map f) (fun k j => (G.w.cell? ⟨b, off + k * size + j, none⟩).getD undef) (by simpa using hc) (by simpa [maxLen] using hm) (fun k e hk => ?_) (fun k e j c hk hc => ?_) (fun k e j c hk hc => ?_)
    · obtain ⟨a, _, rfl⟩ := List.mem_map.1 (List.mem_of_getElem? hk)
      exact ⟨hf a, h1 a⟩
    · obtain ⟨a, u, _, _, _, _, h6⟩ := hval k e j c hk hc
      exact ⟨hs b _ hlo hhi (World.block_lt_of_cell? _ _ h6), by rw [h6]; rfl⟩
    · obtain ⟨a, u, _, _, _, h5, h6⟩ := hval k e j c hk hc
      rw [h6]; exact h5
/-- finished data, read cell by cell -/
theorem rep_rd {G : Cx} {α : Type} [Inhabited α] {size : Nat} {enc : α → List Value} {f : α → AV} (hsz : 0 < size) (he : ∀ a, (enc a).length = size) (hf : ∀ a, (f a).cells.length = size)
    {v : Value} {l : List α} (h : Rep G v (eL f l)) (hs : ∀ b o, G.St b o → b < G.w.heap.size)
    (hr : ∀ a ∈ l, ∀ (j : Nat) u c v, (enc a)[j]? = some u → (f a).cells[j]? = some c → Rep G v c → v = u) : Rd size enc G.w 0 G.w.heap.size v l := by
  unfold eL at h
  generalize hL : l.map f = L at h
  cases h with
  | slnil A cap =>
    have : l = [] := by simpa using hL
    subst this
    exact ⟨by simp, A, cap, rfl, Nat.zero_le _, Nat.zero_le _, fun h => by simp at h⟩
  | sl b o cap sz _ val hc hm h1 h2 h =>
    subst hL
    simp only [List.length_map] at *
    have key : ∀ (k : Nat) a (j : Nat) u, l[k]? = some a → (enc a)[j]? = some u → G.w.cell? ⟨b, o + (k * size + j), none⟩ = some u := by
      intro k a j u hk hu
      have hk2 : (l.map f)[k]? = some (f a) := by rw [List.getElem?_map, hk]; rfl
      have hsz' : sz = size := by rw [← (h1 k _ hk2).1, hf]
      subst hsz'
      have hj : j < (f a).cells.length := by rw [hf, ← he a]; exact (List.getElem?_eq_some_iff.1 hu).1
      have hj2 := List.getElem?_eq_getElem hj
      have h3 := h2 k _ j _ hk2 hj2
      rw [Nat.add_assoc] at h3
      rw [h3.2, hr a (List.mem_of_getElem? hk) j u _ _ hu hj2 (h k _ j _ hk2 hj2)]
    refine ⟨flatMap_len he l, _, cap, rfl, hc, hm, fun hn => ⟨b, o, rfl, Nat.zero_le _, ?_, fun j u hu => ?_⟩⟩
    · have h0 := gti_get hn
      have hk2 : (l.map f)[0]? = some (f (gti l 0)) := by rw [List.getElem?_map, h0]; rfl
      have hj : 0 < (f (gti l 0)).cells.length := by rw [hf]; exact hsz
      exact hs _ _ (h2 0 _ 0 _ hk2 (List.getElem?_eq_getElem hj)).1
    · have hlt : j < l.length * size := by
        have := (List.getElem?_eq_some_iff.1 hu).1
        rwa [flatMap_len he] at this
      have hk : j / size < l.length := Nat.div_lt_of_lt_mul (by rw [Nat.mul_comm]; exact hlt)
      have hjm : j % size < (enc (gti l (j / size))).length := by rw [he]; exact Nat.mod_lt _ hsz
      have h5 := flatMap_get he l (j / size) (gti l (j / size)) (j % size) _ (gti_get hk) (List.getElem?_eq_getElem hjm)
      have h6 := key (j / size) _ (j % size) _ (gti_get hk) (List.getElem?_eq_getElem hjm)
      have h7 : j / size * size + j % size = j := by rw [Nat.mul_comm]; exact Nat.div_add_mod _ _
      rw [h7] at h5 h6
      rw [h5] at hu
      cases hu
      exact h6

theorem rdI_rep {G : Cx} {lo hi : Nat} {v : Value} {l : List Int} (h : RdI G.w lo hi v l) (hs : ∀ b o, lo ≤ b → b < hi → b < G.w.heap.size → G.St b o) : Rep G v (eL eI l) :=
  rd_rep (size := 1) (enc := encI) (f := eI) (by simp) (fun _ => rfl) (fun a c hc => by simp [eI, AV.cells] at hc; subst hc; rfl) h hs (fun a _ j u c hu hc => by
    cases j with
    | zero => simp [eI, AV.cells] at hu hc; subst hu hc; exact .s _
    | succ j => simp at hu)
theorem rep_rdI {G : Cx} {v : Value} {l : List Int} (h : Rep G v (eL eI l)) (hs : ∀ b o, G.St b o → b < G.w.heap.size) : RdI G.w 0 G.w.heap.size v l :=
  rep_rd (size := 1) (enc := encI) (f := eI) (by decide) (by simp) (fun _ => rfl) h hs (fun a _ j u c v hu hc hv => by
    cases j with
    | zero => simp [eI, AV.cells] at hu hc; subst hu hc; exact rep_s hv
    | succ j => simp at hu)
theorem rdS_rep {G : Cx} {lo hi : Nat} {v : Value} {l : List ByteArray} (h : RdS G.w lo hi v l) (hs : ∀ b o, lo ≤ b → b < hi → b < G.w.heap.size → G.St b o) : Rep G v (eL eS l) :=
  rd_rep (size := 1) (enc := encS) (f := eS) (by simp) (fun _ => rfl) (fun a c hc => by simp [eS, AV.cells] at hc; subst hc; rfl) h hs (fun a _ j u c hu hc => by
    cases j with
    | zero => simp [eS, AV.cells] at hu hc; subst hu hc; exact .s _
    | succ j => simp at hu)
theorem rep_rdS {G : Cx} {v : Value} {l : List ByteArray} (h : Rep G v (eL eS l)) (hs : ∀ b o, G.St b o → b < G.w.heap.size) : RdS G.w 0 G.w.heap.size v l :=
  rep_rd (size := 1) (enc := encS) (f := eS) (by decide) (by simp) (fun _ => rfl) h hs (fun a _ j u c v hu hc hv => by
    cases j with
    | zero => simp [eS, AV.cells] at hu hc; subst hu hc; exact rep_s hv
    | succ j => simp at hu)

/-- transitions, nets -/
def eT (t : Tr) : AV := .agg [eS t.label, eL eI t.inn, eL eI t.out]
def eN (n : Net) : AV := .agg [eI n.places, eL eT n.trans, eI n.source, eI n.sink]
theorem rdT_rep {G : Cx} {lo hi : Nat} {v : Value} {l : List Tr} (h : RdT G.w lo hi v l) (hs : ∀ b o, lo ≤ b → b < hi → b < G.w.heap.size → G.St b o) : Rep G v (eL eT l) := by
  obtain ⟨vs, h1, h2, h3⟩ := h
  have hz1 : (vs.zip l).map Prod.fst = vs := by rw [List.map_fst_zip (by omega)]
  have hz2 : (vs.zip l).map Prod.snd = l := by rw [List.map_snd_zip (by omega)]
  have h4 : Rd 3 (fun p : TrV × Tr => encV p.1) G.w lo hi v (vs.zip l) := by
    have e1 : (vs.zip l).flatMap (fun p => encV p.1) = vs.flatMap encV := by
      conv => rhs; rw [← hz1]
      rw [List.flatMap_map]
    have e2 : (vs.zip l).length = vs.length := by simp; omega
    unfold RdV Rd at h1
    unfold Rd
    rw [e1, e2]
    exact h1
  have h5 := rd_rep (G := G) (size := 3) (enc := fun p : TrV × Tr => encV p.1) (f := fun p => eT p.2) (by simp) (fun _ => rfl) (fun a c hc => by simp [eT, AV.cells] at hc; rcases hc with rfl | rfl | rfl <;> rfl) h4 hs (fun p hp j u c hu hc => by
    obtain ⟨k, hk, rfl⟩ := List.mem_iff_getElem.1 hp
    simp only [List.length_zip] at hk
    have hk2 : k < l.length := by omega
    have ea : gti vs k = vs[k]'(by omega) := by unfold gti; rw [List.getElem?_eq_getElem]; rfl
    have eb : gti l k = l[k] := by unfold gti; rw [List.getElem?_eq_getElem]; rfl
    obtain ⟨g1, g2, g3⟩ := h3 k hk2
    rw [ea, eb] at g1 g2 g3
    simp only [List.getElem_zip] at hu hc
    match j, hu, hc with
    | 0, hu, hc => simp [eT, AV.cells] at hu hc; subst hu hc; rw [g1]; exact .s _
    | 1, hu, hc => simp [eT, AV.cells] at hu hc; subst hu hc; exact rdI_rep g2 hs
    | 2, hu, hc => simp [eT, AV.cells] at hu hc; subst hu hc; exact rdI_rep g3 hs
    | j + 3, hu, hc => simp at hu)
  have e3 : eL (fun p : TrV × Tr => eT p.2) (vs.zip l) = eL eT l := by
    unfold eL
    congr 1
    conv => rhs; rw [← hz2]
    rw [List.map_map]; rfl
  rwa [e3] at h5
theorem rep_rdT {G : Cx} {v : Value} {l : List Tr} (h : Rep G v (eL eT l)) (hs : ∀ b o, G.St b o → b < G.w.heap.size) : RdT G.w 0 G.w.heap.size v l := by
  unfold eL at h
  generalize hL : l.map eT = L at h
  cases h with
  | slnil A cap =>
    have : l = [] := by simpa using hL
    subst this
    exact ⟨[], ⟨by simp, A, cap, rfl, Nat.zero_le _, Nat.zero_le _, fun h => by simp at h⟩, rfl, fun k hk => by simp at hk⟩
  | sl b o cap sz _ val hc hm h1 h2 h =>
    subst hL
    simp only [List.length_map] at *
    have hk2 : ∀ k, k < l.length → (l.map eT)[k]? = some (eT (gti l k)) := fun k hk => by rw [List.getElem?_map, gti_get hk]; rfl
    refine ⟨(List.range l.length).map fun k => ⟨(gti l k).label, val k 1, val k 2⟩, ?_, by simp, fun k hk => ?_⟩
    · have hlen : ((List.range l.length).map fun k => (⟨(gti l k).label, val k 1, val k 2⟩ : TrV)).length = l.length := by simp
      refine ⟨flatMap_len (by simp) _, _, cap, by rw [hlen], by simpa using hc, by simpa using hm, fun hn => ⟨b, o, rfl, Nat.zero_le _, ?_, fun j u hu => ?_⟩⟩
      · rw [hlen] at hn
        exact hs _ _ (h2 0 _ 0 _ (hk2 0 hn) rfl).1
      · have hlt : j < l.length * 3 := by
          have := (List.getElem?_eq_some_iff.1 hu).1
          rwa [flatMap_len (size := 3) (by simp), hlen] at this
        have hk : j / 3 < l.length := by omega
        have hg : ((List.range l.length).map fun k => (⟨(gti l k).label, val k 1, val k 2⟩ : TrV))[j / 3]? = some ⟨(gti l (j / 3)).label, val (j / 3) 1, val (j / 3) 2⟩ := by simp [hk]
        have hjm : j % 3 < 3 := Nat.mod_lt _ (by decide)
        have hsz : sz = 3 := by rw [← (h1 _ _ (hk2 _ hk)).1]; rfl
        subst hsz
        have h7 : j / 3 * 3 + j % 3 = j := by rw [Nat.mul_comm]; exact Nat.div_add_mod _ _
        have key : ∀ (i : Nat) u c, (encV ⟨(gti l (j / 3)).label, val (j / 3) 1, val (j / 3) 2⟩)[i]? = some u → (eT (gti l (j / 3))).cells[i]? = some c → j % 3 = i → G.w.cell? ⟨b, o + j, none⟩ = some (val (j / 3) i) := by
          intro i u c _ hc2 hi
          have h3 := (h2 (j / 3) _ i c (hk2 _ hk) hc2).2
          rw [← hi] at h3 ⊢
          rw [Nat.add_assoc, h7] at h3
          exact h3
        have hu2 : ∀ i u', j % 3 = i → (encV ⟨(gti l (j / 3)).label, val (j / 3) 1, val (j / 3) 2⟩)[i]? = some u' → u = u' := by
          intro i u' hi hu'
          have h5 := flatMap_get (size := 3) (enc := encV) (by simp) _ (j / 3) _ i u' hg hu'
          rw [← hi, h7, hu] at h5
          injection h5
        have h3 : j % 3 = 0 ∨ j % 3 = 1 ∨ j % 3 = 2 := by omega
        rcases h3 with h3 | h3 | h3
        · rw [hu2 0 _ h3 rfl, key 0 _ _ rfl rfl h3]
          have := h (j / 3) _ 0 _ (hk2 _ hk) rfl
          rw [rep_s this]
        · rw [hu2 1 _ h3 rfl, key 1 _ _ rfl rfl h3]
        · rw [hu2 2 _ h3 rfl, key 2 _ _ rfl rfl h3]
    · have hg : gti ((List.range l.length).map fun k => (⟨(gti l k).label, val k 1, val k 2⟩ : TrV)) k = ⟨(gti l k).label, val k 1, val k 2⟩ := by
        unfold gti; simp [hk]
      rw [hg]
      exact ⟨rfl, rep_rdI (h k _ 1 _ (hk2 k hk) rfl) hs, rep_rdI (h k _ 2 _ (hk2 k hk) rfl) hs⟩
theorem rep_net {G : Cx} {v : Value} {n : Net} (h : Rep G v (eN n)) (hs : ∀ b o, G.St b o → b < G.w.heap.size) : ∃ vt, v = netV n vt ∧ RdT G.w 0 G.w.heap.size vt n.trans := by
  unfold eN at h
  cases h with
  | agg vs _ hl h1 h =>
    obtain ⟨l⟩ := vs
    match l, hl with
    | [a, b, c, d], _ =>
      have ha := rep_s (h 0 a _ rfl rfl)
      have hc := rep_s (h 2 c _ rfl rfl)
      have hd := rep_s (h 3 d _ rfl rfl)
      subst ha hc hd
      exact ⟨b, rfl, rep_rdT (h 1 b _ rfl rfl) hs⟩
end Go.Proofs.Ytmhbfoaecebobaa.Aw
end
section
namespace Go.Proofs.Ytmhbfoaecebobaa
set_option linter.unusedSimpArgs false
set_option linter.unusedVariables false
open Go.RowKit
section
variable {P : Program} {pre : List Oper} {last : Oper} {Q : Exit → Act → World → Prop} {S : World → Prop}
/-- the last operation waits for each of the others, perhaps by way of later ones; each of the others waits for earlier ones alone, and is guarded by none but these -/
def lastBT (pre : List Oper) (last : Oper) : Bool :=
  (List.range pre.length).all (fun i => (last.after.any fun e => Region.binds .any e && e.on == i) || (List.range pre.length).any (fun k => match pre[k]? with | none => false | some o => o.after.any fun e => Region.binds .any e && e.on == i)) &&
  (List.range pre.length).all (fun i => match pre[i]? with
    | none => true
    | some o => (o.after.all fun e => !Region.binds .any e || decide (e.on < i)) && (match o.guard with | none => true | some (j, _) => decide (j < pre.length))) &&
  last.guard.isNone && last.after.all (fun e => !Region.binds .any e || decide (e.on < pre.length))
structure LastT (pre : List Oper) (last : Oper) : Prop where
  waits : ∀ i, i < pre.length → (∃ e ∈ last.after, Region.binds .any e = true ∧ e.on = i) ∨ ∃ (k : Nat) (o : Oper), pre[k]? = some o ∧ ∃ e ∈ o.after, Region.binds .any e = true ∧ e.on = i
  early : ∀ (i : Nat) (o : Oper), pre[i]? = some o → ∀ e ∈ o.after, Region.binds .any e = true → e.on < i
  guards : ∀ (i : Nat) (o : Oper), pre[i]? = some o → ∀ (j : Nat) (b : Bool), o.guard = some (j, b) → j < pre.length
  free : last.guard = none
  on : ∀ e ∈ last.after, Region.binds .any e = true → e.on < pre.length
theorem lastT_of (h : lastBT pre last = true) : LastT pre last := by
  unfold lastBT at h
  simp only [Bool.and_eq_true, Bool.or_eq_true, List.all_eq_true, List.any_eq_true, List.mem_range, Array.any_eq_true', beq_iff_eq] at h
  obtain ⟨⟨⟨h1, h2⟩, h3⟩, h4⟩ := h
  refine ⟨fun i hi => ?_, fun i o ho e he hb => ?_, fun i o ho j b hj => ?_, by simpa using h3, fun e he hb => ?_⟩
  · rcases h1 i hi with ⟨e, he, hb, ho⟩ | ⟨k, hk, hm⟩
    · exact .inl ⟨e, he, hb, ho⟩
    · right
      rw [List.getElem?_eq_getElem hk] at hm
      simp only [Array.any_eq_true', Bool.and_eq_true, beq_iff_eq] at hm
      obtain ⟨e, he, hb, ho⟩ := hm
      exact ⟨k, pre[k], List.getElem?_eq_getElem hk, e, he, hb, ho⟩
  · have hi : i < pre.length := (List.getElem?_eq_some_iff.1 ho).1
    have := h2 i hi
    rw [ho] at this
    simp only [Bool.and_eq_true, Array.all_eq_true', Bool.or_eq_true, Bool.not_eq_true', decide_eq_true_eq] at this
    rcases this.1 e he with h | h
    · rw [hb] at h; cases h
    · exact h
  · have hi : i < pre.length := (List.getElem?_eq_some_iff.1 ho).1
    have := h2 i hi
    rw [ho] at this
    simp only [Bool.and_eq_true] at this
    have h5 := this.2
    rw [hj] at h5
    simpa using h5
  · simp only [Array.all_eq_true', Bool.or_eq_true, Bool.not_eq_true', decide_eq_true_eq] at h4
    rcases h4 e he with h | h
    · rw [hb] at h; cases h
    · exact h
/-- what has come up has come up after all that it waits for -/
def Clo (pre : List Oper) (L : Array Bool) : Prop := ∀ (k : Nat) (o : Oper), pre[k]? = some o → L.getD k false = true → ∀ e ∈ o.after, Region.binds .any e = true → L.getD e.on false = true
theorem Clo.none (n : Nat) : Clo pre (Array.replicate n false) := by
  intro k o _ h
  rw [Array.getD_eq_getD_getElem?, Array.getElem?_replicate] at h
  split at h <;> simp at h
theorem Clo.step {L : Array Bool} {i : Nat} (h : Clo pre L) (hL : L.size = pre.length) (hi : i ∈ Region.ready .any pre.toArray L) : Clo pre (L.setIfInBounds i true) := by
  intro k o hk hd e he hb
  have hmono : ∀ j, L.getD j false = true → (L.setIfInBounds i true).getD j false = true := by
    intro j hj
    rw [Array.getD_eq_getD_getElem?] at hj ⊢
    rw [Array.getElem?_setIfInBounds]
    split
    · rename_i e; subst e
      split
      · rfl
      · rename_i h3
        rw [Array.getElem?_eq_none (by omega)] at hj
        cases hj
    · exact hj
  apply hmono
  by_cases hik : i = k
  · subst hik
    obtain ⟨_, o2, ho2, hall⟩ := mem_ready.1 hi
    rw [List.getElem?_toArray, hk] at ho2
    cases ho2
    exact hall e he hb
  · refine h k o hk ?_ e he hb
    rw [Array.getD_eq_getD_getElem?] at hd ⊢
    rw [Array.getElem?_setIfInBounds, if_neg hik] at hd
    exact hd
theorem wanted_preT (ok : LastT pre last) {i : Nat} {o : Oper} (ho : pre[i]? = some o) (tmps : Array Value) : Region.wanted o (yielded (pre ++ [last]).toArray tmps) = Region.wanted o (yielded pre.toArray tmps) := by
  unfold Region.wanted
  cases hg : o.guard with
  | none => rfl
  | some jb =>
    obtain ⟨j, b⟩ := jb
    simp only
    rw [yielded_pre (ok.guards i o ho j b hg)]

theorem op_thenT (ok : LastT pre last) {i : Nat} (hi : i < pre.length) {K K' : Act → World → Prop} {a : Act} {w : World} (hK : ∀ a w, K a w → K' a w)
    (h : wpOp P pre.toArray (thenLast P pre last Q) i K a w) : wpOp P (pre ++ [last]).toArray Q i K' a w := by
  refine wpOp_mono hK ?_
  unfold wpOp at h ⊢
  rw [get_pre hi]
  obtain ⟨o, ho⟩ : ∃ o, pre[i]? = some o := ⟨_, List.getElem?_eq_getElem hi⟩
  simp only [List.getElem?_toArray, ho] at h ⊢
  rw [wanted_preT ok ho]
  split
  · rename_i hw
    rw [if_pos hw] at h
    rcases h with h | ⟨h1, h2⟩
    · exact .inl (upon_then h)
    · exact .inr ⟨h1, h2⟩
  · rename_i hw
    rw [if_neg hw] at h
    exact h

theorem last_anyT (ok : LastT pre last) : ∀ (fuel : Nat) (L : Array Bool) (a : Act) (w : World), L.size = pre.length → Clo pre L →
    wpAny P .any pre.toArray (thenLast P pre last Q) fuel L a w → wpAny P .any (pre ++ [last]).toArray Q (fuel + 1) (L.push false) a w := by
  -- who may come up: as before; the last one, once all have come up
  have hready : ∀ (L : Array Bool), L.size = pre.length → Clo pre L → ∀ i, i ∈ Region.ready .any (pre ++ [last]).toArray (L.push false) → (i < pre.length ∧ i ∈ Region.ready .any pre.toArray L) ∨ (i = pre.length ∧ ∀ j, j < pre.length → L.getD j false = true) := by
    intro L hL hC i hi
    obtain ⟨h1, o, ho, hall⟩ := mem_ready.1 hi
    have hlt : i < pre.length + 1 := by
      have := (Array.getElem?_eq_some_iff.1 ho).1
      simpa using this
    rcases Nat.lt_or_eq_of_le (Nat.le_of_lt_succ hlt) with h2 | h2
    · left
      refine ⟨h2, mem_ready.2 ⟨?_, o, by rw [get_pre h2] at ho; exact ho, fun e he hb => ?_⟩⟩
      · simpa [Array.getD_eq_getD_getElem?, Array.getElem?_push, hL, Nat.ne_of_lt h2] using h1
      · have hon := ok.early i o (by rw [get_pre h2] at ho; simpa using ho) e he hb
        have := hall e he hb
        simpa [Array.getD_eq_getD_getElem?, Array.getElem?_push, hL, Nat.ne_of_lt (Nat.lt_trans hon h2)] using this
    · right
      subst h2
      rw [get_last] at ho
      injection ho with ho
      subst ho
      refine ⟨rfl, fun j hj => ?_⟩
      have key : ∀ (m j : Nat), j < pre.length → pre.length - j ≤ m → L.getD j false = true := by
        intro m
        induction m with
        | zero => intro j hj hm; omega
        | succ m ihm =>
          intro j hj hm
          rcases ok.waits j hj with ⟨e, he, hb, rfl⟩ | ⟨k, o2, hk, e, he, hb, rfl⟩
          · have := hall e he hb
            simpa [Array.getD_eq_getD_getElem?, Array.getElem?_push, hL, Nat.ne_of_lt hj] using this
          · have hlt2 := ok.early k o2 hk e he hb
            have hk2 : k < pre.length := (List.getElem?_eq_some_iff.1 hk).1
            exact hC k o2 hk (ihm k hk2 (by omega)) e he hb
      exact key pre.length j hj (by omega)
  have hsome : ∀ (L : Array Bool), L.size = pre.length → Region.ready .any (pre ++ [last]).toArray (L.push false) ≠ [] := by
    intro L hL he
    -- the least that has not come up is ready
    have key : ∀ i, i ≤ pre.length → ∀ j, j < i → L.getD j false = true := by
      intro i
      induction i with
      | zero => intro _ j hj; omega
      | succ i ih =>
        intro hi j hj
        rcases Nat.lt_or_eq_of_le (Nat.le_of_lt_succ hj) with h1 | h1
        · exact ih (by omega) j h1
        · subst h1
          cases hc : L.getD j false with
          | true => rfl
          | false =>
            exfalso
            have hj' : j < pre.length := by omega
            obtain ⟨o, ho⟩ : ∃ o, pre[j]? = some o := ⟨_, List.getElem?_eq_getElem hj'⟩
            have hm : j ∈ Region.ready .any (pre ++ [last]).toArray (L.push false) := by
              refine mem_ready.2 ⟨?_, o, by rw [get_pre hj']; simpa using ho, fun e he hb => ?_⟩
              · have hlt : j < L.size := by omega
                simp [Array.getD_eq_getD_getElem?, hlt] at hc ⊢
                simp [Array.getElem?_push, Nat.ne_of_lt hlt, hlt, hc]
              · have hon := ok.early j o ho e he hb
                have := ih (by omega) e.on hon
                simpa [Array.getD_eq_getD_getElem?, Array.getElem?_push, hL, Nat.ne_of_lt (Nat.lt_trans hon hj')] using this
            rw [he] at hm
            cases hm
    have hm : pre.length ∈ Region.ready .any (pre ++ [last]).toArray (L.push false) := by
      refine mem_ready.2 ⟨?_, last, get_last, fun e he hb => ?_⟩
      · rw [Array.getD_eq_getD_getElem?, ← hL, Array.getElem?_push_size]; rfl
      · have hon := ok.on e he hb
        have := key pre.length (Nat.le_refl _) e.on hon
        simpa [Array.getD_eq_getD_getElem?, Array.getElem?_push, hL, Nat.ne_of_lt hon] using this
    rw [he] at hm
    cases hm
  -- the last one
  have hlast : ∀ (fuel : Nat) (L : Array Bool) (a : Act) (w : World), L.size = pre.length → (∀ j, j < pre.length → L.getD j false = true) → thenLast P pre last Q .normal a w →
      wpOp P (pre ++ [last]).toArray Q pre.length (wpAny P .any (pre ++ [last]).toArray Q fuel ((L.push false).setIfInBounds pre.length true)) a w := by
    intro fuel L a w hL hall h
    have hdone : Region.ready .any (pre ++ [last]).toArray ((L.push false).setIfInBounds pre.length true) = [] := by
      rw [List.eq_nil_iff_forall_not_mem]
      intro i hi
      obtain ⟨h1, o, ho, _⟩ := mem_ready.1 hi
      have hlt : i < pre.length + 1 := by
        have := (Array.getElem?_eq_some_iff.1 ho).1
        simpa using this
      rcases Nat.lt_or_eq_of_le (Nat.le_of_lt_succ hlt) with h2 | h2
      · have h3 := hall i h2
        have hlt' : i < L.size := by omega
        rw [Array.getD_eq_getD_getElem?, Array.getElem?_eq_getElem hlt'] at h3
        rw [Array.getD_eq_getD_getElem?, Array.getElem?_setIfInBounds, if_neg (by omega), Array.getElem?_push, if_neg (by omega), Array.getElem?_eq_getElem hlt'] at h1
        simp only [Option.getD_some] at h1 h3
        rw [h3] at h1
        cases h1
      · subst h2
        simp [Array.getD_eq_getD_getElem?, Array.getElem?_setIfInBounds, hL] at h1
    have hK : ∀ a w, Q .normal a w → wpAny P .any (pre ++ [last]).toArray Q fuel ((L.push false).setIfInBounds pre.length true) a w := by
      intro a w hq
      cases fuel with
      | zero => exact ⟨hdone, hq⟩
      | succ fuel => exact ⟨fun _ => hq, by rw [hdone]; simp⟩
    refine wpOp_mono hK ?_
    unfold wpOp
    rw [get_last]
    exact h
  intro fuel
  induction fuel with
  | zero =>
    intro L a w hL hC h
    refine ⟨fun he => absurd he (hsome L hL), fun i hi => ?_⟩
    rcases hready L hL hC i hi with ⟨_, h2⟩ | ⟨rfl, h2⟩
    · rw [h.1] at h2; cases h2
    · exact hlast 0 L a w hL h2 h.2
  | succ fuel ih =>
    intro L a w hL hC h
    refine ⟨fun he => absurd he (hsome L hL), fun i hi => ?_⟩
    rcases hready L hL hC i hi with ⟨h1, h2⟩ | ⟨rfl, h2⟩
    · refine op_thenT ok h1 (fun a' w' h' => ?_) (h.2 i h2)
      have := ih (L.setIfInBounds i true) a' w' (by simpa using hL) (hC.step hL h2) h'
      rwa [show (L.push false).setIfInBounds i true = (L.setIfInBounds i true).push false from by
        apply Array.ext_getElem?
        intro j
        simp only [Array.getElem?_setIfInBounds, Array.getElem?_push, Array.size_push, Array.size_setIfInBounds]
        by_cases h3 : i = j
        · subst h3
          rw [if_pos rfl, if_pos (by omega), if_neg (by omega), if_pos rfl, if_pos (by omega)]
        · rw [if_neg h3, if_neg h3]]
    · refine hlast (fuel + 1) L a w hL h2 (h.1 ?_)
      rw [List.eq_nil_iff_forall_not_mem]
      intro j hj
      obtain ⟨h3, o, ho, _⟩ := mem_ready.1 hj
      have hlt : j < pre.length := by
        have := (Array.getElem?_eq_some_iff.1 ho).1
        simpa using this
      have h4 := h2 j hlt
      have hlt' : j < L.size := by omega
      simp [Array.getD_eq_getD_getElem?, hlt'] at h3 h4
      rw [h4] at h3
      cases h3

end
end Go.Proofs.Ytmhbfoaecebobaa
namespace Go.Proofs.Ytmhbfoaecebobaa.Aw
open Go.RowKit
variable {P : Program} {N : Nat} {l : List Oper} {F : Frm} {σ : List Ob} {Q : Exit → Frm → List Ob → Prop}
theorem adraw_lastT {last : Oper} (hl : l.dropLast ++ [last] = l) (hk : lastBT l.dropLast last = true) (h : ADraw P N l.dropLast F σ (AThen (fun F σ => AOps P N l.toArray [last] F σ Q) Q)) : ADraw P N l F σ Q := fun G a hs => by
  have h1 := h G a hs
  have h2 := wpAny_mono (Q' := thenLast P l.dropLast last (lift N G Q)) (fun e a w q => by
    obtain ⟨G', F', σ', rfl, g2, g3, g4⟩ := q
    unfold thenLast
    rw [hl]
    cases e with
    | normal => exact wpList_mono (fun e a w q => lift_mono g2 (fun _ _ _ x => x) q) _ _ _ (g4 G' a g3)
    | _ => exact ⟨G', F', σ', rfl, g2, g3, g4⟩) _ _ _ _ h1
  have h3 := last_anyT (lastT_of hk) _ _ a G.w (by simp) (Clo.none _) h2
  rw [hl] at h3
  have h4 : l.length = l.dropLast.length + 1 := by rw [← hl]; simp
  rw [h4]
  rwa [show Array.replicate (l.dropLast.length + 1) false = (Array.replicate l.dropLast.length false).push false by simp [Array.replicate_succ]]
end Go.Proofs.Ytmhbfoaecebobaa.Aw
end
section
namespace Go.Proofs.Ytmhbfoaecebobaa.Aw
set_option linter.unusedSimpArgs false
set_option linter.unusedVariables false
open Go Go.Proofs Go.RowKit

/-- a function over finished data whose result has a property -/
structure PureE (P : Program) (f : FuncId) (args : List AV) (R : AV → Prop) : Prop where
  ent : Enters P f
  lo : ∀ r, R r → Lo 0 r
  call : ∀ (G : Cx) (vargs : Array Value), (∀ b o, G.St b o → b < G.w.heap.size) → vargs.size = args.length → (∀ (j : Nat) v x, vargs[j]? = some v → args[j]? = some x → Rep G v x) →
    Calls P f vargs G.w fun e w' => ∃ v G' r, R r ∧ e = .returned v ∧ G'.w = w' ∧ Below G.w.heap.size G.w w' ∧ (∀ b o, G.St b o → G'.St b o) ∧ (∀ b o, G'.St b o → G.St b o ∨ G.w.heap.size ≤ b) ∧ (∀ b o, G'.St b o → b < w'.heap.size) ∧ Rep G' v r
section
variable {P : Program} {N : Nat} {ops : Array Oper} {o : Oper} {l : List Oper} {F : Frm} {σ : List Ob} {Q : Exit → Frm → List Ob → Prop}
theorem ops_callE {d : Nat} {fo : Operand} {ar : Array Operand} {ts : Array TypeId} {f : FuncId} {caps args : List AV} {R : AV → Prop} (hd : o.dst = some d) (hN : Nat.blt d N = true) (hr : Runs ops F o true) (ho : o.op = .call { callee := .value fo, args := ar, argTypes := ts }) (hf : F.eval fo = .fn f caps) (hp : PureE P f args R)
    (ha : ar.toList.map F.eval ++ caps = args) (k : ∀ r, R r → AOps P N ops l ((d, r) :: F) σ Q) : AOps P N ops (o :: l) F σ Q := fun G a hs => by
  unfold wpList
  rw [if_pos (hr.wanted hs.fr)]
  left
  obtain ⟨cap, h1, h2, h3⟩ := call_args ho (fun y _ => rep_eval hs.fr y) hf
  rw [ha] at h2 h3
  unfold Oper.wp
  rw [call_enter ho a.eval h1 hp.ent G.w, Oper.upon_enter]
  refine (hp.call G _ hs.rel.st h2 h3).mono ?_
  rintro e w' ⟨v, G1, r, hR, rfl, hw, hbel, hs1, hs2, hs3, hrep⟩
  obtain ⟨h4, h5⟩ := after_call hs.rel hw hbel hs1 hs2 hs3
  subst hw
  have h6 : Rep { G with w := G1.w, St := G1.St } v r := hrep.low (hp.lo r hR) (fun _ _ h => h) (fun _ _ _ => rfl) (fun id y h => by omega) (fun h => by omega)
  rw [hd]
  exact wpList_mono (fun e' a w q => lift_mono h4.step (fun _ _ _ x => x) q) _ _ _ (k r hR { G with w := G1.w, St := G1.St } _ ((hs.step h4 h5).put (by simpa [Nat.blt_eq] using hN) h6))
end

/-- scalars' kinds, field by field -/
inductive SK where | i | b | s
def skOf : TypeDesc → Option SK
  | .int _ => some .i
  | .bool => some .b
  | .string => some .s
  | _ => none
def fsK (P : Program) : List Field → Nat → Option (List SK)
  | [], _ => some []
  | f :: fs, k => if f.name == "_" || f.offset != k then none else
    match (P.underlying f.type).bind skOf, fsK P fs (k + 1) with
    | some a, some l => some (a :: l)
    | _, _ => none
def tyEqK (P : Program) (t : TypeId) : Option (List SK) :=
  match P.underlying t with
  | some (.struct fs) => if P.eqGuardType P.depth t || P.stoodInHeld t then none else fsK P fs.toList 0
  | _ => none
def vK : SK → Value → Value → Bool
  | .i, .int k _, .int k' _ => decide (k = k')
  | .b, .bool _, .bool _ => true
  | .s, .string _, .string _ => true
  | _, _, _ => false
def vKs : List SK → List Value → List Value → Bool
  | [], [], [] => true
  | k :: ks, u :: us, v :: vs => vK k u v && vKs ks us vs
  | _, _, _ => false
def unS : AV → Value
  | .s v => v
  | _ => undef
def isS : AV → Bool
  | .s _ => true
  | _ => false
noncomputable def eqL (us vs : List Value) : Bool := @decide (us = vs) (Classical.propDecidable _)
theorem eqSc {P : Program} (w : World) (d : Nat) {t : TypeId} {T : TypeDesc} (hT : P.underlying t = some T) {a : SK} (ha : skOf T = some a) {u v : Value} (hv : vK a u v = true) : (Op.equalIn (d + 1) t u v).run P w = .ok (@decide (u = v) (Classical.propDecidable _)) w := by
  cases T with
  | int kk =>
    cases ha
    cases u with
    | int k1 a1 =>
      cases v with
      | int k2 a2 =>
        obtain rfl : k1 = k2 := by simpa [vK] using hv
        rw [run_equalIn_int w d t _ _ _ _ hT]
        by_cases h : a1 = a2
        · subst h; simp
        · have : ¬ (Value.int k1 a1 = Value.int k1 a2) := fun e => h (by injection e)
          simp [h]
      | _ => simp [vK] at hv
    | _ => simp [vK] at hv
  | bool =>
    cases ha
    cases u with
    | bool a1 =>
      cases v with
      | bool a2 =>
        rw [run_equalIn_bool w d t _ _ hT]
        cases a1 <;> cases a2 <;> simp
      | _ => simp [vK] at hv
    | _ => simp [vK] at hv
  | string =>
    cases ha
    cases u with
    | string a1 =>
      cases v with
      | string a2 =>
        rw [run_equalIn_string w d t _ _ hT]
        by_cases h : a1 = a2
        · subst h; simp
        · have h2 : (a1.toList == a2.toList) = false := by simpa [toList_inj] using h
          rw [h2]
          simp [h]
      | _ => simp [vK] at hv
    | _ => simp [vK] at hv
  | _ => simp [skOf] at ha
theorem eqF {P : Program} (w : World) (d : Nat) (xs ys : Array Value) : ∀ (fs : List Field) (k : Nat) (ks : List SK) (us vs : List Value), fsK P fs k = some ks → vKs ks us vs = true →
    (∀ j, j < us.length → xs[k + j]? = us[j]?) → (∀ j, j < vs.length → ys[k + j]? = vs[j]?) → (Op.eqFields (d + 1) xs ys fs).run P w = .ok (eqL us vs) w
  | [], k, ks, us, vs, h, hv, hx, hy => by
    simp only [fsK, Option.some.injEq] at h
    subst h
    cases us <;> cases vs <;> simp [vKs] at hv
    simp [Op.eqFields, eqL]
  | f :: fs, k, ks, us, vs, h, hv, hx, hy => by
    unfold fsK at h
    split at h
    · cases h
    · rename_i hn
      split at h
      · rename_i a l ha hl
        cases h
        match us, vs, hv with
        | u :: us, v :: vs, hv =>
          simp only [vKs, Bool.and_eq_true] at hv
          obtain ⟨hv1, hv2⟩ := hv
          simp only [Bool.or_eq_true, beq_iff_eq, bne_iff_ne, ne_eq, not_or, Decidable.not_not] at hn
          obtain ⟨hn1, hn2⟩ := hn
          have ih := eqF w d xs ys fs (k + 1) l us vs hl hv2 (fun j hj => by have := hx (j + 1) (by simpa using hj); rw [show k + 1 + j = k + (j + 1) by omega]; simpa using this) (fun j hj => by have := hy (j + 1) (by simpa using hj); rw [show k + 1 + j = k + (j + 1) by omega]; simpa using this)
          have hx0 := hx 0 (by simp)
          have hy0 := hy 0 (by simp)
          simp only [Nat.add_zero, List.getElem?_cons_zero] at hx0 hy0
          obtain ⟨T, hT, hTk⟩ : ∃ T, P.underlying f.type = some T ∧ skOf T = some a := by
            cases hT : P.underlying f.type with
            | none => rw [hT] at ha; cases ha
            | some T => rw [hT] at ha; exact ⟨T, rfl, ha⟩
          have hagg : ∀ cs off x, cs[off]? = some x → (part f.type cs off).run P w = .ok x w := by
            intro cs off x hc
            cases T <;> simp [skOf] at hTk <;> simp [part, isAgg, run_underlying hT, hc]
          have key : (Op.equalIn (d + 1) f.type u v).run P w = .ok (@decide (u = v) (Classical.propDecidable _)) w := eqSc w d hT hTk hv1
          unfold Op.eqFields
          rw [if_pos hn1, hn2]
          simp only [Sem.run_bind, hagg xs k u hx0, hagg ys k v hy0, Result.andThen_ok, key, Sem.run_ite]
          by_cases h : u = v
          · subst h
            rw [if_neg (by simp), ih]
            unfold eqL
            by_cases h2 : us = vs
            · simp [h2]
            · simp [h2]
          · rw [if_pos (by simp [h])]
            simp [eqL, h]
        | [], _, hv => simp [vKs] at hv
        | _ :: _, [], hv => simp [vKs] at hv
      · cases h
section
variable {P : Program} {o : Oper} {F : Frm} {σ : List Ob}
theorem agg_vals {G : Cx} {u : Value} {cs : List AV} (h : Rep G u (.agg cs)) (hc : cs.all isS = true) : ∃ xs : Array Value, u = .agg xs ∧ ∀ j, j < (cs.map unS).length → xs[j]? = (cs.map unS)[j]? := by
  cases h with
  | agg vs _ hl h1 hr =>
    refine ⟨vs, rfl, fun j hj => ?_⟩
    have hj2 : j < cs.length := by simpa using hj
    have hj3 : j < vs.size := by omega
    have h2 := hr j vs[j] cs[j] (Array.getElem?_eq_getElem hj3) (List.getElem?_eq_getElem hj2)
    have h3 : isS cs[j] = true := by rw [List.all_eq_true] at hc; exact hc _ (List.getElem_mem hj2)
    rw [List.getElem?_map, List.getElem?_eq_getElem hj2, Array.getElem?_eq_getElem hj3]
    generalize cs[j] = c at *
    cases c <;> simp [isS] at h3
    rw [rep_s h2]; rfl
theorem eqa_run {P : Program} {t : TypeId} {ks : List SK} {xs ys : Array Value} {us vs : List Value} (hk : tyEqK P t = some ks) (hv : vKs ks us vs = true) (hx : ∀ j, j < us.length → xs[j]? = us[j]?) (hy : ∀ j, j < vs.length → ys[j]? = vs[j]?) (x y : Operand) (b : BinOp) (w : World) :
    (eqGuard b t x y (.agg xs) (.agg ys)).run P w = .ok () w ∧ (Op.equalIn 10000 t (.agg xs) (.agg ys)).run P w = .ok (eqL us vs) w := by
  unfold tyEqK at hk
  split at hk
  · rename_i fs hu
    split at hk
    · cases hk
    · rename_i hg
      simp only [Bool.or_eq_true, not_or, Bool.not_eq_true] at hg
      have hfo : P.fieldsOf t = fs := by unfold Program.fieldsOf; rw [hu]
      refine ⟨run_eqGuard_agg w b t x y xs ys hg.1, ?_⟩
      have h1 := run_equalIn_struct (P := P) w 9999 t xs ys (by rw [hfo]; exact hu) hg.2
      rw [hfo] at h1
      rw [show (10000 : Nat) = 9999 + 1 from rfl, h1]
      exact eqF w 9998 xs ys fs.toList 0 ks us vs hk hv (fun j hj => by rw [Nat.zero_add]; exact hx j hj) (fun j hj => by rw [Nat.zero_add]; exact hy j hj)
  · cases hk
theorem does_eqa {t t' : TypeId} {x y : Operand} {cs ds : List AV} {ks : List SK} (ho : o.op = .binOp .eql t x y t') (hx : F.eval x = .agg cs) (hy : F.eval y = .agg ds) (hk : tyEqK P t = some ks) (hv : vKs ks (cs.map unS) (ds.map unS) = true) (hc : cs.all isS = true) (hd : ds.all isS = true) :
    Does P o F σ (.s (.bool (@decide (cs.map unS = ds.map unS) (Classical.propDecidable _)))) σ :=
  does_val fun G ρ hr hop => by
    have h1 := hop x (by simp [ho, Op.operands])
    have h2 := hop y (by simp [ho, Op.operands])
    rw [hx] at h1
    rw [hy] at h2
    obtain ⟨xs, e1, g1⟩ := agg_vals h1 hc
    obtain ⟨ys, e2, g2⟩ := agg_vals h2 hd
    obtain ⟨r1, r2⟩ := eqa_run hk hv g1 g2 x y .eql G.w
    refine ⟨_, ?_, .s _⟩
    simp only [execOp, ho, e1, e2, Sem.run_bind]
    rw [r1]
    simp only [Result.andThen_ok, run_eql_struct, r2]
    rfl
theorem does_nea {t t' : TypeId} {x y : Operand} {cs ds : List AV} {ks : List SK} (ho : o.op = .binOp .neq t x y t') (hx : F.eval x = .agg cs) (hy : F.eval y = .agg ds) (hk : tyEqK P t = some ks) (hv : vKs ks (cs.map unS) (ds.map unS) = true) (hc : cs.all isS = true) (hd : ds.all isS = true) :
    Does P o F σ (.s (.bool (@decide (cs.map unS ≠ ds.map unS) (Classical.propDecidable _)))) σ :=
  does_val fun G ρ hr hop => by
    have h1 := hop x (by simp [ho, Op.operands])
    have h2 := hop y (by simp [ho, Op.operands])
    rw [hx] at h1
    rw [hy] at h2
    obtain ⟨xs, e1, g1⟩ := agg_vals h1 hc
    obtain ⟨ys, e2, g2⟩ := agg_vals h2 hd
    obtain ⟨r1, r2⟩ := eqa_run hk hv g1 g2 x y .neq G.w
    refine ⟨.bool (!(eqL (cs.map unS) (ds.map unS))), ?_, ?_⟩
    · simp only [execOp, ho, e1, e2, Sem.run_bind]
      rw [r1]
      simp only [Result.andThen_ok, run_neq_struct, r2]
      rfl
    · have : (!(eqL (cs.map unS) (ds.map unS))) = @decide (cs.map unS ≠ ds.map unS) (Classical.propDecidable _) := by
        unfold eqL
        by_cases h : cs.map unS = ds.map unS <;> simp [h]
      rw [this]
      exact .s _
end
end Go.Proofs.Ytmhbfoaecebobaa.Aw
end
