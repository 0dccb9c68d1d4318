/-
  Texts joined: AwS, Ti, Places, Places2, Own, Valid, Valid2, Mark. Conditions: none.
-/
import Derived.Test.YtmhbfoaecebobaaJF4
import Derived.Test.YtmhbfoaecebobaaProg
import Derived.Test.YtmhbfoaecebobaaJF3
import Derived.Maps.AppendAt
import Derived.OwnWalk
import Derived.Deep.Light
section
namespace Go.Proofs.Ytmhbfoaecebobaa.Aw
set_option linter.unusedSimpArgs false
set_option linter.unusedVariables false
open Go Go.Proofs Go.RowKit

/-- a function over finished data that returns a row of its own -/
structure PureO (P : Program) (f : FuncId) (args : List AV) (sz : Nat) (cs : List AV) : Prop where
  ent : Enters P f
  call : ∀ (G : Cx) (vargs : Array Value), (∀ b o, G.St b o → b < G.w.heap.size) → vargs.size = args.length → (∀ (j : Nat) v x, vargs[j]? = some v → args[j]? = some x → Rep G v x) →
    Calls P f vargs G.w fun e w' => ∃ v, e = .returned v ∧ Below G.w.heap.size G.w w' ∧ ((v = .slice none 0 0 ∧ cs = []) ∨ ∃ (b cap : Nat) (cur : Array Value) (te : TypeId), v = .slice (some ⟨b, 0, none⟩) cs.length cap ∧ G.w.heap.size ≤ b ∧ w'.heap[b]? = some (.cells cur te (0, 0)) ∧ cur.size = cap * sz ∧ cs.length ≤ cap ∧ cap ≤ maxLen ∧
      ∀ (k : Nat) e, cs[k]? = some e → e.cells.length = sz ∧ ∀ (j : Nat) c, e.cells[j]? = some c → ∃ u, cur[k * sz + j]? = some u ∧ c = .s u ∧ u.oneCell' = true)
section
variable {P : Program} {o : Oper} {F : Frm} {σ : List Ob} {G : Cx}
/-- a block that nothing names becomes a row of the call's own -/
theorem adopt {b sz : Nat} {cs : List AV} {cur : Array Value} {te : TypeId} (hr : Rel G σ) (hb : G.w.heap[b]? = some (.cells cur te (0, 0))) (hbase : G.base ≤ b) (hst : ∀ o, ¬ G.St b o) (hmu : ∀ j, G.mu j ≠ some (some b)) (hn : cs.length * sz ≤ cur.size)
    (h : ∀ (k : Nat) x, cs[k]? = some x → x.cells.length = sz ∧ (∀ c ∈ x.cells, c.one = true) ∧ ∀ (j : Nat) c, x.cells[j]? = some c → ∃ v, cur[k * sz + j]? = some v ∧ Rep G v c) :
    G.Ext (G.new σ.length G.w (some b)) ∧ Rel (G.new σ.length G.w (some b)) (σ ++ [.row sz cs]) := by
  have hext : G.Ext (G.new σ.length G.w (some b)) := by
    refine ⟨rfl, rfl, fun _ _ h => h, fun _ _ _ => rfl, fun id x h => ?_, Nat.le_refl _, RowsKept.refl _, fun _ _ h => .inl h⟩
    have : id ≠ σ.length := by
      intro e2
      rw [e2, hr.fresh _ (Nat.le_refl _)] at h
      cases h
    simp [Cx.new, this, h]
  refine ⟨hext, hr.below, hr.le, hr.st, fun id ob hob => ?_, fun i j b' hi hj hmi hmj => ?_, fun id hid => ?_⟩
  · by_cases hid : id < σ.length
    · rw [List.getElem?_append_left hid] at hob
      have h1 := hr.obs id ob hob
      have hm : (G.new σ.length G.w (some b)).mu id = G.mu id := by simp [Cx.new, Nat.ne_of_lt hid]
      exact h1.of hm rfl rfl (Nat.le_refl _) (fun b sz cs f _ _ hx => hx.ext hext rfl) (fun b' X hb' hX _ => ⟨rfl, fun j hj => by
        by_cases e2 : j = σ.length
        · subst e2
          simp [Cx.new] at hj
          subst hj
          obtain ⟨es, cl, h5⟩ := hX.map
          rw [hb] at h5; cases h5
        · simpa [Cx.new, e2] using hj⟩)
    · have hid2 : id = σ.length := by
        have := (List.getElem?_eq_some_iff.1 hob).1
        simp at this; omega
      subst hid2
      simp at hob
      subst hob
      have hm3 : (G.new σ.length G.w (some b)).mu σ.length = some (some b) := by simp [Cx.new]
      simp only [ObOk, hm3]
      refine ⟨⟨cur, te, (0, 0), hb, rfl, hn, fun k x hx => ⟨(h k x hx).1, (h k x hx).2.1, fun j c hc => ?_⟩⟩, hbase, hst⟩
      obtain ⟨v, h6, h7⟩ := (h k x hx).2.2 j c hc
      exact ⟨v, h6, h7.ext hext⟩
  · have old : ∀ i b', alive (σ ++ [.row sz cs]) i → (G.new σ.length G.w (some b)).mu i = some (some b') → (i = σ.length ∧ b = b') ∨ (i < σ.length ∧ alive σ i ∧ G.mu i = some (some b')) := by
      rintro i b' ⟨sz1, cs1, hi⟩ hmi
      by_cases hlt : i < σ.length
      · right
        rw [List.getElem?_append_left hlt] at hi
        exact ⟨hlt, ⟨sz1, cs1, hi⟩, by simpa [Cx.new, Nat.ne_of_lt hlt] using hmi⟩
      · left
        have := (List.getElem?_eq_some_iff.1 hi).1
        simp at this
        have he : i = σ.length := by omega
        subst he
        simp [Cx.new] at hmi
        exact ⟨rfl, hmi⟩
    rcases old i b' hi hmi with ⟨rfl, h1⟩ | ⟨h1, h3, h4⟩ <;> rcases old j b' hj hmj with ⟨rfl, g1⟩ | ⟨g1, g3, g4⟩
    · rfl
    · exact absurd (h1 ▸ g4) (hmu j)
    · exact absurd (g1 ▸ h4) (hmu i)
    · exact hr.inj i j b' h3 g3 h4 g4
  · simp at hid
    have hne : id ≠ σ.length := by omega
    simp [Cx.new, hne, hr.fresh id (by omega)]
theorem does_callO {fo : Operand} {ar : Array Operand} {ts : Array TypeId} {f : FuncId} {caps args : List AV} {sz : Nat} {cs : List AV} (ho : o.op = .call { callee := .value fo, args := ar, argTypes := ts }) (hf : F.eval fo = .fn f caps) (hp : PureO P f args sz cs) (ha : ar.toList.map F.eval ++ caps = args) : Does P o F σ (.own σ.length sz cs.length) (σ ++ [.row sz cs]) := by
  intro G a next Q hr hop hn
  obtain ⟨cap, h1, h2, h3⟩ := call_args ho hop hf
  rw [ha] at h2 h3
  unfold Oper.wp
  rw [call_enter ho a.eval h1 hp.ent G.w, Oper.upon_enter]
  refine (hp.call G _ hr.st h2 h3).mono ?_
  rintro e w' ⟨v, rfl, hbel, hres⟩
  obtain ⟨h4, h5⟩ := after_call (G1 := { G with w := w' }) hr rfl hbel (fun _ _ h => h) (fun _ _ h => .inl h) (fun b o h => Nat.lt_of_lt_of_le (hr.st b o h) hbel.size)
  rcases hres with ⟨rfl, rfl⟩ | ⟨b, cp, cur, te, rfl, g1, g2, g3, g4, g5, g6⟩
  · have k1 := nil_ext h5
    have k2 := nil_rel h5 sz
    exact hn _ _ (h4.trans k1) k2 (.own0 σ.length sz none (fun a ha => by cases ha) (by simp [Cx.new]))
  · have hble : G.base ≤ G.w.heap.size := by have h1 := hr.le; have h2 := hr.below.size; omega
    have hnm : ∀ j, G.mu j ≠ some (some b) := fun j hj => by
      by_cases hlt : j < σ.length
      · have := (hr.obs j _ (List.getElem?_eq_getElem hlt)).lt hj
        omega
      · rw [hr.fresh j (by omega)] at hj; cases hj
    obtain ⟨k1, k2⟩ := adopt (cs := cs) (sz := sz) h5 g2 (Nat.le_trans hble g1) (fun o h => by have := hr.st b o h; omega) hnm (by rw [g3]; exact Nat.mul_le_mul_right _ g4) (fun k x hx => by
      obtain ⟨q1, q2⟩ := g6 k x hx
      refine ⟨q1, fun c hc => ?_, fun j c hc => ?_⟩
      · obtain ⟨j, hj, rfl⟩ := List.mem_iff_getElem.1 hc
        obtain ⟨u, _, e1, e2⟩ := q2 j _ (List.getElem?_eq_getElem hj)
        rw [e1]; exact e2
      · obtain ⟨u, e0, e1, e2⟩ := q2 j c hc
        subst e1
        exact ⟨u, e0, .s u⟩)
    exact hn _ _ (h4.trans k1) k2 (.own σ.length sz cs.length b cp (by simp [Cx.new]) g4 g5 ⟨cur, te, (0, 0), g2, g3⟩)
/-- a part of a finished slice -/
theorem rep_sliced {A : Option Addr} {cap l h s : Nat} {L : List AV} (hr : Rep G (.slice A L.length cap) (.sl L)) (hlh : l ≤ h) (hh : h ≤ L.length) (hs : ∀ e ∈ L, e.cells.length = s) : Rep G (sliced A l h cap s) (.sl ((L.take h).drop l)) := by
  have hlen : ((L.take h).drop l).length = h - l := by simp; omega
  generalize hn : L.length = n at hr
  cases hr with
  | slnil =>
    simp at hn hh
    obtain rfl : l = 0 := by omega
    subst hh
    simp only [sliced, List.take_nil, List.drop_nil]
    exact .slnil _ _
  | sl b o _ sz _ val hc hm h1 h2 h3 =>
    by_cases hml : cap = l
    · have e : h = l := by omega
      subst e
      have : (L.take h).drop h = [] := List.eq_nil_of_length_eq_zero (by rw [hlen]; omega)
      rw [this]
      simp only [sliced, Nat.sub_self]
      exact .slnil _ _
    · by_cases he : h = l
      · subst he
        have : (L.take h).drop h = [] := List.eq_nil_of_length_eq_zero (by rw [hlen]; omega)
        rw [this]
        simp only [sliced, Nat.sub_self]
        exact .slnil _ _
      · have hsz : s = sz := by
          have h0 : 0 < L.length := by omega
          rw [← (h1 0 _ (List.getElem?_eq_getElem h0)).1, hs _ (List.getElem_mem h0)]
        subst hsz
        have hget : ∀ (k : Nat) e, ((L.take h).drop l)[k]? = some e → L[k + l]? = some e := by
          intro k e hk
          rw [List.getElem?_drop, List.getElem?_take] at hk
          split at hk
          · rw [Nat.add_comm]; exact hk
          · cases hk
        have hidx : ∀ k j, o + l * s + k * s + j = o + (k + l) * s + j := fun k j => by rw [Nat.add_mul]; omega
        simp only [sliced, if_neg hml, Option.map_some]
        have := Rep.sl (G := G) b (o + l * s) (cap - l) s ((L.take h).drop l) (fun k j => val (k + l) j) (by rw [hlen]; omega) (by rw [hlen]; omega) (fun k e hk => h1 _ e (hget k e hk)) (fun k e j c hk hc => by rw [hidx]; exact h2 _ e j c (hget k e hk) hc) (fun k e j c hk hc => h3 _ e j c (hget k e hk) hc)
        rw [hlen] at this
        simp only [Addr.add]
        split
        · rename_i h0
          rw [h0, Nat.add_zero] at this
          exact this
        · exact this
theorem elem_of {P : Program} {t e : TypeId} (h : tySlice P t = some e) : P.elem t = e ∧ P.underlying t = some (.slice (P.elem t)) := by
  have h1 := slice_of h
  have : P.elem t = e := by simp [Program.elem, h1]
  exact ⟨this, by rw [this]; exact h1⟩
theorem does_slice_l {t e : TypeId} {x y : Operand} {z : Option Value} {n bt : Nat} {L : List AV} {k : IntKind} {i : Int} {l : Nat} (ho : o.op = .slice t x (some y) none none) (ht : tySlice P t = some e) (hi : tyInfo P e = some (z, n, bt)) (hx : F.eval x = .sl L) (hy : F.eval y = .s (.int k i)) (hk : i = (l : Int)) (hl : l ≤ L.length) (hs : ∀ e ∈ L, e.cells.length = n) : Does P o F σ (.sl (L.drop l)) σ :=
  does_val fun G ρ hr hop => by
    have g1 := hop x (by simp [ho, Op.operands])
    have g2 := hop y (by simp [ho, Op.operands])
    rw [hx] at g1
    rw [hy] at g2
    have e2 := rep_s g2
    obtain ⟨q1, q2⟩ := elem_of ht
    obtain ⟨A, cap, hv⟩ : ∃ A cap, ρ x = .slice A L.length cap := by
      generalize ρ x = u at g1
      cases g1 with
      | slnil A c => exact ⟨_, _, rfl⟩
      | sl b o c sz _ val hc hm h1 h2 h => exact ⟨_, _, rfl⟩
    rw [hv] at g1
    have h1 := rep_sliced (s := n) g1 hl (Nat.le_refl _) hs
    rw [List.take_length] at h1
    refine ⟨_, ?_, h1⟩
    subst hk
    have h2 := run_slice_l (P := P) G.w t A L.length cap q2 k (l : Int) (by omega) (by omega)
    simp only [execOp, ho, Option.map_some, Option.map_none, hv, e2, Sem.run_bind, run_sliceAt_slice (P := P) G.w t _ _ _ _ q2, h2, q1, run_sizeOf hi, Result.andThen_ok, Sem.run_pure, Int.toNat_natCast]
end
end Go.Proofs.Ytmhbfoaecebobaa.Aw
end
section
namespace Go.Proofs.Ytmhbfoaecebobaa.Aw
open Go Go.Proofs
/-- the program -/
class IsP (P : Program) : Prop where
  eq : P = Try.prog
instance : IsP Try.prog := ⟨rfl⟩
variable {P : Program} [IsP P]
theorem hmix : P.follows .mixedOrders = true := by rw [IsP.eq (P := P)]; kernel_rfl
theorem ti3 : tyInfo P 3 = some (some (.int .i64 0), 1, 8) := by rw [IsP.eq (P := P)]; kernel_rfl
theorem ta3 : tyAgg P 3 = some false := by rw [IsP.eq (P := P)]; kernel_rfl
theorem ti4 : tyInfo P 4 = some (some (.bool false), 1, 1) := by rw [IsP.eq (P := P)]; kernel_rfl
theorem ti9 : tyInfo P 9 = some (some (.string ⟨#[]⟩), 1, 16) := by rw [IsP.eq (P := P)]; kernel_rfl
theorem ta9 : tyAgg P 9 = some false := by rw [IsP.eq (P := P)]; kernel_rfl
theorem ti22 : tyInfo P 22 = some (some (.slice none 0 0), 1, 24) := by rw [IsP.eq (P := P)]; kernel_rfl
theorem ta22 : tyAgg P 22 = some false := by rw [IsP.eq (P := P)]; kernel_rfl
theorem ts22 : tySlice P 22 = some 46 := by rw [IsP.eq (P := P)]; kernel_rfl
theorem ti24 : tyInfo P 24 = some (some (.agg #[.int .i64 0, .slice none 0 0, .int .i64 0, .int .i64 0]), 4, 48) := by rw [IsP.eq (P := P)]; kernel_rfl
theorem ta24 : tyAgg P 24 = some true := by rw [IsP.eq (P := P)]; kernel_rfl
theorem tf24_0 : tyField P 24 0 = some (0, 3, some 1) := by rw [IsP.eq (P := P)]; kernel_rfl
theorem tf24_1 : tyField P 24 1 = some (1, 22, some 1) := by rw [IsP.eq (P := P)]; kernel_rfl
theorem tf24_2 : tyField P 24 2 = some (2, 3, some 1) := by rw [IsP.eq (P := P)]; kernel_rfl
theorem tf24_3 : tyField P 24 3 = some (3, 3, some 1) := by rw [IsP.eq (P := P)]; kernel_rfl
theorem tp24 : tyPlaces P 24 = some [(0, 1), (1, 1), (2, 1), (3, 1)] := by rw [IsP.eq (P := P)]; kernel_rfl
theorem ta25 : tyAgg P 25 = some false := by rw [IsP.eq (P := P)]; kernel_rfl
theorem ts25 : tySlice P 25 = some 9 := by rw [IsP.eq (P := P)]; kernel_rfl
theorem ti30 : tyInfo P 30 = some (some (.slice none 0 0), 1, 24) := by rw [IsP.eq (P := P)]; kernel_rfl
theorem ta30 : tyAgg P 30 = some false := by rw [IsP.eq (P := P)]; kernel_rfl
theorem ts30 : tySlice P 30 = some 3 := by rw [IsP.eq (P := P)]; kernel_rfl
theorem ti46 : tyInfo P 46 = some (some (.agg #[.string ⟨#[]⟩, .slice none 0 0, .slice none 0 0]), 3, 64) := by rw [IsP.eq (P := P)]; kernel_rfl
theorem ta46 : tyAgg P 46 = some true := by rw [IsP.eq (P := P)]; kernel_rfl
theorem tf46_0 : tyField P 46 0 = some (0, 9, some 1) := by rw [IsP.eq (P := P)]; kernel_rfl
theorem tf46_1 : tyField P 46 1 = some (1, 30, some 1) := by rw [IsP.eq (P := P)]; kernel_rfl
theorem tf46_2 : tyField P 46 2 = some (2, 30, some 1) := by rw [IsP.eq (P := P)]; kernel_rfl
theorem tp46 : tyPlaces P 46 = some [(0, 1), (1, 1), (2, 1)] := by rw [IsP.eq (P := P)]; kernel_rfl
theorem ti86 : tyInfo P 86 = some (some (.agg #[.int .i64 0, .slice none 0 0, .slice none 0 0]), 3, 56) := by rw [IsP.eq (P := P)]; kernel_rfl
theorem ta86 : tyAgg P 86 = some true := by rw [IsP.eq (P := P)]; kernel_rfl
theorem tf86_0 : tyField P 86 0 = some (0, 3, some 1) := by rw [IsP.eq (P := P)]; kernel_rfl
theorem tf86_1 : tyField P 86 1 = some (1, 30, some 1) := by rw [IsP.eq (P := P)]; kernel_rfl
theorem tf86_2 : tyField P 86 2 = some (2, 30, some 1) := by rw [IsP.eq (P := P)]; kernel_rfl
theorem tp86 : tyPlaces P 86 = some [(0, 1), (1, 1), (2, 1)] := by rw [IsP.eq (P := P)]; kernel_rfl
theorem ts88 : tySlice P 88 = some 86 := by rw [IsP.eq (P := P)]; kernel_rfl
theorem tm90 : tyMap P 90 = some (9, 4) := by rw [IsP.eq (P := P)]; kernel_rfl
theorem tn9 : P.underlying 9 = some .string := by rw [IsP.eq (P := P)]; kernel_rfl
theorem tn4 : P.underlying 4 = some .bool := by rw [IsP.eq (P := P)]; kernel_rfl
theorem tK9 : Go.Maps.Keyed P 9 := Go.Maps.string_keyed tn9
theorem ti94 : tyInfo P 94 = some (some (.agg #[.int .i64 0, .slice none 0 0, .slice none 0 0]), 3, 56) := by rw [IsP.eq (P := P)]; kernel_rfl
theorem tf94_0 : tyField P 94 0 = some (0, 3, some 1) := by rw [IsP.eq (P := P)]; kernel_rfl
theorem tf94_1 : tyField P 94 1 = some (1, 30, some 1) := by rw [IsP.eq (P := P)]; kernel_rfl
theorem tf94_2 : tyField P 94 2 = some (2, 30, some 1) := by rw [IsP.eq (P := P)]; kernel_rfl
theorem tp94 : tyPlaces P 94 = some [(0, 1), (1, 1), (2, 1)] := by rw [IsP.eq (P := P)]; kernel_rfl
theorem ts95 : tySlice P 95 = some 94 := by rw [IsP.eq (P := P)]; kernel_rfl
end Go.Proofs.Ytmhbfoaecebobaa.Aw
end
section
namespace Go.Proofs.Ytmhbfoaecebobaa
set_option linter.unusedSimpArgs false
set_option linter.unusedVariables false
open Go.RowKit

/-- element k is no place, or not behind the one before it -/
def badP (n : Int) (l : List Int) (k : Nat) : Prop := gti l k < 0 ∨ n ≤ gti l k ∨ (0 < k ∧ gti l k ≤ gti l (k - 1))
instance (n : Int) (l : List Int) (k : Nat) : Decidable (badP n l k) := by unfold badP; infer_instance
def placesB (n : Int) (l : List Int) : Bool := (List.range l.length).all fun k => !decide (badP n l k)
theorem placesB_false {n : Int} {l : List Int} {k : Nat} (h : k < l.length) (hb : badP n l k) : placesB n l = false := by
  unfold placesB
  rw [List.all_eq_false]
  exact ⟨k, by simp [h], by simp [hb]⟩
theorem placesB_true {n : Int} {l : List Int} (h : ∀ k, k < l.length → ¬ badP n l k) : placesB n l = true := by
  unfold placesB
  rw [List.all_eq_true]
  intro k hk
  simp [h k (by simpa using hk)]

set_option maxHeartbeats 2000000 in
theorem places_any (n : Net) (vt : Value) (l : List Int) (lo hi : Nat) (v : Value) (w : World) (hv : RdI w lo hi v l) :
    Calls Try.prog 89 #[netV n vt, v] w fun e w' => e = .returned (.bool (placesB n.places l)) ∧ Below w.heap.size w w' := by
  obtain ⟨A, c, rfl, hc, hm⟩ := hv.form
  have HV := Lib.hid (hv.after ((Below.refl _ w).alloc (Nat.le_refl _) (.cells #[.int .i64 n.places, vt, .int .i64 n.source, .int .i64 n.sink] 24)))
  have hk4 := K4.new w (.int .i64 n.places) vt (.int .i64 n.source) (.int .i64 n.sink) 24
  have HB := Lib.hid ((Below.refl w.heap.size w).alloc (Nat.le_refl _) (.cells #[.int .i64 n.places, vt, .int .i64 n.source, .int .i64 n.sink] 24))
  clear hv
  refine calls_cps fun R hR => ?_
  have HR := Lib.hid hR
  clear hR
  go_enter Try.func89, Try.ntmps89
  go_wp2
  generalize w.alloc (.cells #[.int .i64 n.places, vt, .int .i64 n.source, .int .i64 n.sink] 24) = W at *
  go_loopw [9, 5, 6] (fun v9 _ _ wr => ∃ k : Nat, k ≤ l.length ∧ v9 = .int .i64 k ∧ Hid (∀ j, j < k → ¬ badP n.places l j) ∧ wr = W) (fun v9 _ _ _ => l.length - (intOf v9).toNat)
  case atStart => exact ⟨0, by omega, rfl, Lib.hid (fun j h => by omega), rfl⟩
  case round =>
    obtain ⟨k, hk, rfl, HP, rfl⟩ := hrel
    by_cases hlt : k < l.length
    · have hkd : decide ((k : Int) < (l.length : Int)) = true := by simp; omega
      obtain ⟨b, off, rfl, _, _, hcell⟩ := RdI.at1 HV.out hlt
      have HF : badP n.places l k → Hid (placesB n.places l = false) := fun h => Lib.hid (placesB_false hlt h)
      have HG : ¬ badP n.places l k → Hid (∀ j, j < k + 1 → ¬ badP n.places l j) := fun h => Lib.hid (fun j hj => by
        by_cases hjk : j < k
        · exact HP.out j hjk
        · (obtain rfl : j = k := by omega)
          exact h)
      unfold badP at HF HG
      have HFF := Lib.hid HF
      have HGG := Lib.hid HG
      clear HF HG HP
      by_cases g1 : gti l k < 0
      · have HF := HFF.out (.inl g1)
        have b1 := decide_eq_true g1
        go_wp2
        exact HR.out _ _ ⟨(by first | (rw [HF.out]; done) | (rw [HF.out]; rfl)), HB.out⟩
      · have b1 := decide_eq_false g1
        by_cases g2 : n.places ≤ gti l k
        · have HF := HFF.out (.inr (.inl g2))
          have b2 := decide_eq_true g2
          go_wp2
          exact HR.out _ _ ⟨(by first | (rw [HF.out]; done) | (rw [HF.out]; rfl)), HB.out⟩
        · have b2 := decide_eq_false g2
          rcases Nat.eq_zero_or_pos k with rfl | hpos
          · have HP := HGG.out (by omega)
            have hcell0 : C1 wr b off (.int .i64 (gti l 0)) := hcell
            go_wp2
            go_roundw
            case rel => exact ⟨0 + 1, by omega, by go_num, HP, by trivial⟩
            case measure => simp [intOf]; omega
          · have b3 : decide ((0 : Int) < (k : Int)) = true := decide_eq_true (by omega)
            obtain ⟨j, rfl⟩ : ∃ j, k = j + 1 := ⟨k - 1, by omega⟩
            obtain ⟨_, _, e, _, _, hcell2⟩ := RdI.at1 HV.out (k := j) (by omega)
            injection e with e
            injection e with e1 e2
            subst e1 e2
            by_cases g3 : gti l (j + 1) ≤ gti l j
            · have HF := HFF.out (.inr (.inr ⟨hpos, g3⟩))
              have b4 := decide_eq_true g3
              go_wp2
              exact HR.out _ _ ⟨(by first | (rw [HF.out]; done) | (rw [HF.out]; rfl)), HB.out⟩
            · have b4 := decide_eq_false g3
              have HP := HGG.out (by simp only [Nat.add_sub_cancel]; omega)
              go_wp2
              go_roundw
              case rel => exact ⟨j + 1 + 1, by omega, by go_num, HP, by trivial⟩
              case measure => simp [intOf]; omega
    · have hkd : decide ((k : Int) < (l.length : Int)) = false := by simp; omega
      go_wp2
      have HF := placesB_true (fun j hj => HP.out j (by omega))
      exact HR.out _ _ ⟨(by first | (rw [HF]; done) | (rw [HF]; rfl)), HB.out⟩
end Go.Proofs.Ytmhbfoaecebobaa
end
section
namespace Go.Proofs.Ytmhbfoaecebobaa
set_option linter.unusedSimpArgs false
set_option linter.unusedVariables false
open Go.RowKit

set_option maxHeartbeats 2000000 in
theorem places2_any (n : Int) (l : List Int) (lo hi : Nat) (v : Value) (w : World) (hv : RdI w lo hi v l) :
    Calls Try.prog 88 #[.int .i64 n, v] w fun e w' => e = .returned (.bool (placesB n l)) ∧ Below w.heap.size w w' := by
  obtain ⟨A, c, rfl, hc, hm⟩ := hv.form
  have HV := Lib.hid hv
  clear hv
  refine calls_cps fun R hR => ?_
  have HR := Lib.hid hR
  clear hR
  go_enter Try.func88, Try.ntmps88
  go_wp2
  go_loopw [5] (fun v9 wr => ∃ k : Nat, k ≤ l.length ∧ v9 = .int .i64 k ∧ Hid (∀ j, j < k → ¬ badP n l j) ∧ ∃ m, wr = w.drewN m) (fun v9 _ => l.length - (intOf v9).toNat)
  case atStart => exact ⟨0, by omega, rfl, Lib.hid (fun j h => by omega), 0, rfl⟩
  case round =>
    obtain ⟨k, hk, rfl, HP, m, rfl⟩ := hrel
    by_cases hlt : k < l.length
    · have hkd : decide ((k : Int) < (l.length : Int)) = true := by simp; omega
      have hkb : (k : Int) < (l.length : Int) := by omega
      obtain ⟨b, off, rfl, _, _, hcell⟩ := RdI.at1 HV.out hlt
      have HF : badP n l k → Hid (placesB n l = false) := fun h => Lib.hid (placesB_false hlt h)
      have HG : ¬ badP n l k → Hid (∀ j, j < k + 1 → ¬ badP n l j) := fun h => Lib.hid (fun j hj => by
        by_cases hjk : j < k
        · exact HP.out j hjk
        · (obtain rfl : j = k := by omega)
          exact h)
      unfold badP at HF HG
      have HFF := Lib.hid HF
      have HGG := Lib.hid HG
      clear HF HG HP
      by_cases g1 : gti l k < 0
      · have HF := HFF.out (.inl g1)
        have b1 := decide_eq_true g1
        go_wp2
        go_quiet (fail)
        go_wp2
        exact HR.out _ _ ⟨(by first | (rw [HF.out]; done) | (rw [HF.out]; rfl)), by first | exact below_drewN (Below.refl _ _) _ | exact below_drewN (below_drewN (Below.refl _ _) _) _⟩
      · have b1 := decide_eq_false g1
        by_cases g2 : n ≤ gti l k
        · have HF := HFF.out (.inr (.inl g2))
          have b2 := decide_eq_true g2
          go_wp2
          go_quiet (fail)
          go_wp2
          exact HR.out _ _ ⟨(by first | (rw [HF.out]; done) | (rw [HF.out]; rfl)), by first | exact below_drewN (Below.refl _ _) _ | exact below_drewN (below_drewN (Below.refl _ _) _) _⟩
        · have b2 := decide_eq_false g2
          rcases Nat.eq_zero_or_pos k with rfl | hpos
          · have HP := HGG.out (by omega)
            have hcell0 : C1 w b off (.int .i64 (gti l 0)) := hcell
            go_wp2
            go_quiet (fail)
            go_wp2
            go_roundw
            case rel => exact ⟨0 + 1, by omega, by go_num, HP, m + nq, by first | rfl | rw [World.drewN_drewN]⟩
            case measure => simp [intOf]; omega
          · have b3 : decide ((0 : Int) < (k : Int)) = true := decide_eq_true (by omega)
            obtain ⟨j, rfl⟩ : ∃ j, k = j + 1 := ⟨k - 1, by omega⟩
            obtain ⟨_, _, e, _, _, hcell2⟩ := RdI.at1 HV.out (k := j) (by omega)
            injection e with e
            injection e with e1 e2
            subst e1 e2
            by_cases g3 : gti l (j + 1) ≤ gti l j
            · have HF := HFF.out (.inr (.inr ⟨hpos, g3⟩))
              have b4 := decide_eq_true g3
              go_wp2
              go_quiet (fail)
              go_wp2
              exact HR.out _ _ ⟨(by first | (rw [HF.out]; done) | (rw [HF.out]; rfl)), by first | exact below_drewN (Below.refl _ _) _ | exact below_drewN (below_drewN (Below.refl _ _) _) _⟩
            · have b4 := decide_eq_false g3
              have HP := HGG.out (by simp only [Nat.add_sub_cancel]; omega)
              go_wp2
              go_quiet (fail)
              go_wp2
              go_roundw
              case rel => exact ⟨j + 1 + 1, by omega, by go_num, HP, m + nq, by first | rfl | rw [World.drewN_drewN]⟩
              case measure => simp [intOf]; omega
    · have hkd : decide ((k : Int) < (l.length : Int)) = false := by simp; omega
      go_wp2
      have HF := placesB_true (fun j hj => HP.out j (by omega))
      exact HR.out _ _ ⟨(by first | (rw [HF]; done) | (rw [HF]; rfl)), by first | exact below_drewN (Below.refl _ _) _ | exact below_drewN (below_drewN (Below.refl _ _) _) _⟩
end Go.Proofs.Ytmhbfoaecebobaa
end
section
namespace Go.Proofs.Ytmhbfoaecebobaa
set_option linter.unusedSimpArgs false
set_option linter.unusedVariables false
open Go.RowKit

/-- what is known of a slice type: its elements' type, their cells and bytes, their zero -/
def TI (t e size bytes : Nat) (z : Value) : Prop := ∃ i, Try.prog.underlying t = some (.slice e) ∧ Try.prog.info? e = some i ∧ i.zero = some z ∧ i.size = size ∧ i.bytes = bytes ∧ z.cells.size = size ∧ 0 < size
theorem TI.mk {t e size bytes : Nat} {z : Value} (h1 : Try.prog.underlying t = some (.slice e)) (h2 : (Try.prog.info? e).map (fun i => (i.zero, i.size, i.bytes)) = some (some z, size, bytes)) (h3 : z.cells.size = size) (h4 : 0 < size) : TI t e size bytes z := by
  obtain ⟨i, hi, a, b, c⟩ := info_parts h2
  exact ⟨i, h1, hi, a, b, c, h3, h4⟩
theorem ti_int : TI 30 3 1 8 (.int .i64 0) := TI.mk Try.underlying30 (by kernel_rfl) rfl (by decide)

/-- a row of the call's own that reads as l: nil, or one block from lo on, below hi -/
def Own {α : Type} (e size : Nat) (enc : α → List Value) (w : World) (lo hi : Nat) (v : Value) (l : List α) : Prop :=
  w.ownsRow lo e size v l.length (l.flatMap enc) ∧ ∀ k, v.ownBlock = some k → k < hi
section
variable {α : Type} {e size : Nat} {enc : α → List Value} {w W : World} {lo hi : Nat} {v : Value} {l : List α}
theorem Own.nil (w : World) (lo hi : Nat) : Own e size enc w lo hi (.slice none 0 0) [] := ⟨⟨by simp, .inl ⟨rfl, rfl⟩⟩, fun k h => by cases h⟩
theorem Own.mono {lo' hi' : Nat} (h : Own e size enc w lo hi v l) (hl : lo' ≤ lo) (hh : hi ≤ hi') : Own e size enc w lo' hi' v l := ⟨own_lower h.1 hl, fun k hk => Nat.lt_of_lt_of_le (h.2 k hk) hh⟩
theorem Own.keep {D : Nat → Prop} (hc : Chg D w W) (hd : ∀ k, lo ≤ k ∧ k < hi → ¬ D k) (h : Own e size enc w lo hi v l) : Own e size enc W lo hi v l := by
  refine ⟨⟨h.1.1, ?_⟩, h.2⟩
  rcases h.1.2 with h2 | ⟨g, cap, cur, hv, hg, hh, r⟩
  · exact Or.inl h2
  · have hvg : v.ownBlock = some g := by rw [hv]; rfl
    exact Or.inr ⟨g, cap, cur, hv, hg, (hc.block g (Array.getElem?_eq_some_iff.1 hh).1 (hd g ⟨hg, h.2 g hvg⟩)).trans hh, r⟩
theorem Own.form (h : Own e size enc w lo hi v l) : ∃ A c, v = .slice A l.length c ∧ l.length ≤ c ∧ l.length ≤ 9223372036854775807 := by
  rcases h.1.2 with ⟨rfl, h2⟩ | ⟨g, cap, cur, hv, hg, hh, h1, h2, _⟩
  · exact ⟨none, 0, by rw [h2], by omega, by omega⟩
  · exact ⟨_, _, hv, h1, by unfold maxLen at h2; omega⟩
theorem Own.rd (h : Own e size enc w lo hi v l) : Rd size enc w lo hi v l := by
  rcases h.1.2 with ⟨rfl, h2⟩ | ⟨g, cap, cur, hv, hg, hh, h1, h2, h3, h4⟩
  · have : l = [] := List.eq_nil_of_length_eq_zero h2
    subst this
    exact Rd.nil w lo hi
  · refine ⟨h.1.1, _, _, hv, h1, Nat.le_trans h1 h2, fun _ => ⟨g, 0, rfl, hg, h.2 g (by rw [hv]; rfl), fun j u hu => ?_⟩⟩
    rw [cell_of_row w g (0 + j) cur e (0, 0) hh, Nat.zero_add]
    rw [← h4, List.getElem?_take] at hu
    split at hu
    · simpa using hu
    · cases hu
/-- the block of a row that is not empty -/
theorem Own.blk (h : Own e size enc w lo hi v l) (hn : 0 < l.length) : ∃ g cap, v = .slice (some ⟨g, 0, none⟩) l.length cap ∧ lo ≤ g ∧ g < hi ∧ g < w.heap.size := by
  rcases h.1.2 with ⟨rfl, h2⟩ | ⟨g, cap, cur, hv, hg, hh, h1, h2, h3, h4⟩
  · omega
  · exact ⟨g, cap, hv, hg, h.2 g (by rw [hv]; rfl), (Array.getElem?_eq_some_iff.1 hh).1⟩
theorem Own.cell {g n cap : Nat} (h : Own e size enc w lo hi (.slice (some ⟨g, 0, none⟩) n cap) l) (he : ∀ a, (enc a).length = size) {k : Nat} {a : α} (hk : l[k]? = some a) {j : Nat} {u : Value} (hu : (enc a)[j]? = some u) :
    w.cell? ⟨g, k * size + j, none⟩ = some u ∧ w.frozen? ⟨g, k * size + j, none⟩ = false := by
  rcases h.1.2 with ⟨h0, _⟩ | ⟨g', c', cur, hv, hb, hg, _, _, hs, ht⟩
  · cases h0
  · injection hv with hA _ _
    injection hA with hA
    injection hA with hA
    subst hA
    refine ⟨?_, by simp [World.frozen?, hg]⟩
    rw [cell_of_row w g _ cur e (0, 0) hg]
    have hf := flatMap_get he l k a j u hk hu
    rw [← ht, List.getElem?_take] at hf
    split at hf
    · simpa using hf
    · cases hf
/-- a store of an element of one cell -/
theorem Own.set1 {enc : α → List Value} {g n cap : Nat} (h : Own e 1 enc w lo hi (.slice (some ⟨g, 0, none⟩) n cap) l) {k : Nat} {a : α} {u : Value} (he : ∀ a, (enc a).length = 1) (hu : enc a = [u]) :
    Own e 1 enc (w.setCell ⟨g, k, none⟩ u) lo hi (.slice (some ⟨g, 0, none⟩) n cap) (l.set k a) := by
  refine ⟨?_, h.2⟩
  rcases h.1.2 with ⟨h0, _⟩ | ⟨g', c', cur, hv, hb, hg, h1, h2, hs, ht⟩
  · cases h0
  · injection hv with hA hn hc
    injection hA with hA
    injection hA with hA
    subst hA hc hn
    have hset : ∀ (l : List α) (k : Nat), (l.set k a).flatMap enc = (l.flatMap enc).set k u := by
      intro l
      induction l with
      | nil => intro k; simp
      | cons b l ih =>
        intro k
        obtain ⟨y, hy⟩ : ∃ y, enc b = [y] := List.length_eq_one_iff.1 (he b)
        cases k with
        | zero => simp [hu, hy]
        | succ k => simp [hy, ih k]
    refine ⟨by rw [flatMap_len he, List.length_set], .inr ⟨g, cap, cur.setIfInBounds k u, by rw [List.length_set], hb, ?_, by rw [List.length_set]; exact h1, h2, by simp [hs], ?_⟩⟩
    · simp [World.setCell, Array.getElem?_modify, hg]
    · rw [hset, ← ht, List.length_set]
      simp only [Array.toList_setIfInBounds]
      rw [List.take_set]
end
abbrev Loc.ow {α : Type} (e size : Nat) (enc : α → List Value) (lo hi : Nat) (v : Value) (l : List α) : Loc :=
  ⟨fun w => Own e size enc w lo hi v l, fun k => lo ≤ k ∧ k < hi, fun h hd hp => Own.keep h hd hp⟩
abbrev OwnI := Own 3 1 encI
abbrev Loc.owI (lo hi : Nat) (v : Value) (l : List Int) : Loc := Loc.ow 3 1 encI lo hi v l
abbrev Loc.rdI (lo hi : Nat) (v : Value) (l : List Int) : Loc := Loc.rd 1 encI lo hi v l
abbrev Loc.rdS (lo hi : Nat) (v : Value) (l : List ByteArray) : Loc := Loc.rd 1 encS lo hi v l
abbrev Loc.rdM (lo hi : Nat) (v : Value) (l : List Stp) : Loc := Loc.rd 3 encM lo hi v l
theorem OwnI.at1 {w : World} {lo hi g n cap : Nat} {l : List Int} (h : OwnI w lo hi (.slice (some ⟨g, 0, none⟩) n cap) l) {k : Nat} (hk : k < l.length) :
    w.cell? ⟨g, k, none⟩ = some (.int .i64 (gti l k)) ∧ w.frozen? ⟨g, k, none⟩ = false := by
  have := Own.cell h (fun _ => rfl) (gti_get hk) (j := 0) (u := .int .i64 (gti l k)) rfl
  simpa using this
theorem OwnI.set {w : World} {lo hi g n cap : Nat} {l : List Int} (h : OwnI w lo hi (.slice (some ⟨g, 0, none⟩) n cap) l) (k : Nat) (x : Int) :
    OwnI (w.setCell ⟨g, k, none⟩ (.int .i64 x)) lo hi (.slice (some ⟨g, 0, none⟩) n cap) (l.set k x) := Own.set1 h (fun _ => rfl) rfl

/-- a new literal of one element, read and owned -/
theorem Own.lit {α : Type} {size : Nat} {enc : α → List Value} (W : World) (t : TypeId) (lo : Nat) (l : List α) (cs : Array Value) (n : Nat) (hn : n = l.length) (hcs : cs.toList = l.flatMap enc) (hl : lo ≤ W.heap.size) (hm : n ≤ maxLen) (he : ∀ a, (enc a).length = size) :
    Own t size enc (W.alloc (.cells cs t)) lo (W.heap.size + 1) (.slice (some ⟨W.heap.size, 0, none⟩) n n) l := by
  subst hn
  have hsz : cs.size = l.length * size := by rw [← Array.length_toList, hcs, flatMap_len he]
  have h := own_lit W cs t lo size l.length hsz hm hl
  rw [hcs] at h
  exact ⟨h, fun k hk => by simp [Value.ownBlock] at hk; omega⟩
theorem Rd.lit {α : Type} {size : Nat} {enc : α → List Value} (W : World) (t : TypeId) (l : List α) (cs : Array Value) (n : Nat) (hn : n = l.length) (hcs : cs.toList = l.flatMap enc) (hm : n ≤ maxLen) (he : ∀ a, (enc a).length = size) :
    Rd size enc (W.alloc (.cells cs t)) 0 (W.heap.size + 1) (.slice (some ⟨W.heap.size, 0, none⟩) n n) l := (Own.lit W t 0 l cs n hn hcs (Nat.zero_le _) hm he).rd
theorem RdI.lit1 (W : World) (x : Int) (t : TypeId) : RdI (W.alloc (.cells #[.int .i64 x] t)) 0 (W.heap.size + 1) (.slice (some ⟨W.heap.size, 0, none⟩) 1 1) [x] := Rd.lit W t [x] _ 1 rfl rfl (by decide) (fun _ => rfl)

theorem add_off (b off j : Nat) : (⟨b, off, none⟩ : Addr).add j = ⟨b, off + j, none⟩ := by unfold Addr.add; split <;> simp_all
/-- the law of append, onto a row of the call's own, whatever the source -/
theorem run_app {α : Type} {t e size bytes : Nat} {z : Value} {enc : α → List Value} (ti : TI t e size bytes z) (he : ∀ a, (enc a).length = size) (h1 : ∀ a, ∀ u ∈ enc a, u.oneCell' = true) (w : World) (ty : TypeId) {lo hi lo' hi' : Nat} {v vx : Value} {l xs : List α} {rest : List Loc}
    (hM : Mem (Loc.ow e size enc lo hi v l :: rest) w) (hA : Apart (fun k => lo ≤ k ∧ k < hi) rest) (hx : Rd size enc w lo' hi' vx xs) (hlen : (l.length + xs.length) * bytes ≤ 140737488355328) (hlen2 : l.length + xs.length ≤ maxLen) (hlo : lo ≤ w.heap.size) :
    ∃ A c w', (Builtin.append_ #[t, t] ty #[v, vx]).run Try.prog w = .ok (.slice A (l.length + xs.length) c) w' ∧ Mem (Loc.ow e size enc lo w'.heap.size (.slice A (l.length + xs.length) c) (l ++ xs) :: rest) w' ∧ w.heap.size ≤ w'.heap.size ∧ Chg (fun k => lo ≤ k ∧ k < hi) w w' := by
  obtain ⟨i, ht, hi0, hz, hsize, hby, hzs, hsz⟩ := ti
  obtain ⟨ho, hr⟩ := hM
  obtain ⟨A, c, rfl, _, _⟩ := hx.form
  have fin : ∀ (v' : Value) (w' : World), w'.ownsRow lo e size v' (l.length + xs.length) (l.flatMap enc ++ xs.flatMap enc) → w.grownBy w' v.ownBlock → (v'.ownBlock = v.ownBlock ∨ v'.ownBlock = some w.heap.size) →
      ∃ A c, v' = .slice A (l.length + xs.length) c ∧ Mem (Loc.ow e size enc lo w'.heap.size (.slice A (l.length + xs.length) c) (l ++ xs) :: rest) w' ∧ w.heap.size ≤ w'.heap.size ∧ Chg (fun k => lo ≤ k ∧ k < hi) w w' := by
    intro v' w' h2 h3 h4
    have hown : Own e size enc w' lo w'.heap.size v' (l ++ xs) := by
      refine ⟨by rw [List.length_append, List.flatMap_append]; exact h2, fun k hk => (h2.lt k hk).2⟩
    obtain ⟨A', c', hv', _, _⟩ := hown.form
    rw [List.length_append] at hv'
    subst hv'
    have hch : Chg (fun k => lo ≤ k ∧ k < hi) w w' := ⟨h3.os, h3.tape, h3.output, h3.size, fun k hk hd => h3.block k hk (fun e => hd ⟨(ho.1.lt k e.symm).1, ho.2 k e.symm⟩)⟩
    exact ⟨A', c', rfl, ⟨hown, hr.chg hch hA⟩, h3.size, hch⟩
  rcases A with _ | ad
  · have hm : xs.length = 0 := by
      rcases Nat.eq_zero_or_pos xs.length with h0 | h0
      · exact h0
      · obtain ⟨b, off, h, _⟩ := RdC.cells hx h0
        cases h
    have hxs : xs = [] := List.eq_nil_of_length_eq_zero hm
    subst hxs
    have hrun : (Builtin.append_ #[t, t] ty #[v, .slice none ([] : List α).length c]).run Try.prog w = .ok v w := by
      rcases ho.1.2 with ⟨rfl, h0⟩ | ⟨g, cap, cur, rfl, _, _, hnc, _⟩
      · simp [Builtin.append_, run_underlying ht, sizeOf, typeInfo, hi0, Builtin.lenOf, Builtin.firstCells]
      · simp [Builtin.append_, run_underlying ht, sizeOf, typeInfo, hi0, Builtin.lenOf, Builtin.firstCells, hnc, storeCells]
    obtain ⟨A', c', hv, hM', h5, h6⟩ := fin v w (by simpa using ho.1) (World.grownBy.refl w _) (.inl rfl)
    exact ⟨A', c', w, hrun.trans (by rw [hv]), hM', h5, h6⟩
  · have hcells : ∀ j u, (xs.flatMap enc)[j]? = some u → w.cell? (ad.add j) = some u := by
      intro j u hu
      rcases Nat.eq_zero_or_pos xs.length with h0 | h0
      · have : xs = [] := List.eq_nil_of_length_eq_zero h0
        subst this
        simp at hu
      · obtain ⟨b, off, h, _, _, hc⟩ := RdC.cells hx h0
        rw [Option.some.inj h, add_off]
        exact hc j u hu
    obtain ⟨v', w', hrun, h2, h3, _, h5⟩ := run_append_own_at (P := Try.prog) w lo t ty e i z size bytes ht hi0 hz hsize hby hzs hsz v l.length (l.flatMap enc) ho.1 ad xs.length c (xs.flatMap enc) (flatMap_len he xs) hcells
      (fun u hu => by obtain ⟨a, _, ha⟩ := List.mem_flatMap.1 hu; exact h1 a u ha) hlen2 hlen hlo
    obtain ⟨A', c', hv, hM', h6, h7⟩ := fin v' w' h2 h3 h5
    exact ⟨A', c', w', hrun.trans (by rw [hv]), hM', h6, h7⟩

section
variable {α : Type} {t e size bytes : Nat} {z : Value} {enc : α → List Value}
theorem wp_app {o : Oper} {a : Act} {K : Act → World → Prop} {Q : Exit → Act → World → Prop} (s x : Operand) (ho : o.op = .call { callee := .builtin .append, args := #[s, x], argTypes := #[t, t] })
    (ti : TI t e size bytes z) (he : ∀ a, (enc a).length = size) (h1 : ∀ a, ∀ u ∈ enc a, u.oneCell' = true) {w : World} {lo hi lo' hi' : Nat} {v vx : Value} {l xs : List α} {rest : List Loc} (hs : a.eval s = v) (hvx : a.eval x = vx)
    (hM : Mem (Loc.ow e size enc lo hi v l :: rest) w) (hA : Apart (fun k => lo ≤ k ∧ k < hi) rest) (hx : Rd size enc w lo' hi' vx xs) (hlen : (l.length + xs.length) * bytes ≤ 140737488355328) (hlen2 : l.length + xs.length ≤ 9223372036854775807) (hlo : lo ≤ w.heap.size)
    (h : ∀ A c w', Mem (Loc.ow e size enc lo w'.heap.size (.slice A (l.length + xs.length) c) (l ++ xs) :: rest) w' → w.heap.size ≤ w'.heap.size → Chg (fun k => lo ≤ k ∧ k < hi) w w' → K (a.put o.dst (.slice A (l.length + xs.length) c)) w') : o.wp Try.prog a w K Q := by
  obtain ⟨A, c, w', hrun, h2, h3, h4⟩ := run_app ti he h1 w o.type hM hA hx hlen (by unfold maxLen; omega) hlo
  unfold Oper.wp execOp
  simp only [ho, resolve, invoke, builtin, Sem.run_bind, Sem.run_pure, Result.andThen_ok, List.map_toArray, List.map_cons, List.map_nil, hs, hvx, hrun]
  exact h A c w' h2 h3 h4
theorem wpList_app {ops : Array Oper} {restO : List Oper} {o : Oper} {a : Act} {Q : Exit → Act → World → Prop} (hgd : o.guard = none) (s x : Operand) (ho : o.op = .call { callee := .builtin .append, args := #[s, x], argTypes := #[t, t] })
    (ti : TI t e size bytes z) (he : ∀ a, (enc a).length = size) (h1 : ∀ a, ∀ u ∈ enc a, u.oneCell' = true) {w : World} {lo hi lo' hi' : Nat} {v vx : Value} {l xs : List α} {rest : List Loc} (hs : a.eval s = v) (hvx : a.eval x = vx)
    (hM : Mem (Loc.ow e size enc lo hi v l :: rest) w) (hA : Apart (fun k => lo ≤ k ∧ k < hi) rest) (hx : Rd size enc w lo' hi' vx xs) (hlen : (l.length + xs.length) * bytes ≤ 140737488355328) (hlen2 : l.length + xs.length ≤ 9223372036854775807) (hlo : lo ≤ w.heap.size)
    (h : ∀ A c w', Mem (Loc.ow e size enc lo w'.heap.size (.slice A (l.length + xs.length) c) (l ++ xs) :: rest) w' → w.heap.size ≤ w'.heap.size → Chg (fun k => lo ≤ k ∧ k < hi) w w' → wpList Try.prog ops Q restO (a.put o.dst (.slice A (l.length + xs.length) c)) w') : wpList Try.prog ops Q (o :: restO) a w :=
  wpList_plain hgd fun _ hK => wp_app s x ho ti he h1 hs hvx hM hA hx hlen hlen2 hlo fun A c w' h2 h3 h4 => hK _ _ (h A c w' h2 h3 h4)
end

/-- make([]T, n): the run, and the row -/
theorem run_mk {t e size bytes : Nat} {z : Value} (ti : TI t e size bytes z) (w : World) (n : Nat) (hn : bytes * n ≤ 140737488355328) (h63 : n ≤ 9223372036854775807) :
    (Instr.makeSlice t (.int .i64 (n : Int)) (.int .i64 (n : Int))).run Try.prog w = .ok (.slice (some ⟨w.heap.size, 0, none⟩) n n) (w.alloc (.cells (madeCells z.cells (n * size)) e)) := by
  obtain ⟨i, ht, hi0, hz, hsize, hby, hzs, hsz⟩ := ti
  have := run_make (P := Try.prog) w t e i z ht hi0 hz .i64 .i64 (n : Int) (n : Int) (by omega) (by omega) (by rw [hby]; omega) (by omega)
  rw [Int.toNat_natCast, hsize] at this
  exact this
theorem made_rep {α : Type} {size : Nat} {enc : α → List Value} {z : Value} (a : α) (hz : z.cells.toList = enc a) (hs : z.cells.size = size) (hpos : 0 < size) : ∀ n, (madeCells z.cells (n * size)).toList = (List.replicate n a).flatMap enc := by
  intro n
  apply List.ext_getElem?
  intro j
  have hlen : (enc a).length = size := by rw [← hz, Array.length_toList, hs]
  have hL : ((List.replicate n a).flatMap enc).length = n * size := by
    induction n with
    | zero => simp
    | succ n ih => rw [List.replicate_succ, List.flatMap_cons, List.length_append, ih, hlen, Nat.add_mul]; omega
  by_cases hj : j < n * size
  · have hq : j / size < n := (Nat.div_lt_iff_lt_mul hpos).2 hj
    have hmod : j % size < size := Nat.mod_lt _ hpos
    have e1 : (madeCells z.cells (n * size)).toList[j]? = some (z.cells[j % size]!) := by
      simp [madeCells, hj, hs]
    have e2 : (enc a)[j % size]? = some (z.cells[j % size]!) := by
      rw [← hz]
      simp [hs, hmod]
    have e3 : ((List.replicate n a).flatMap enc)[j]? = (enc a)[j % size]? := by
      clear e1 e2 hL
      induction n generalizing j with
      | zero => simp at hj
      | succ n ih =>
        rw [List.replicate_succ, List.flatMap_cons]
        by_cases hjs : j < size
        · rw [List.getElem?_append_left (by omega), Nat.mod_eq_of_lt hjs]
        · rw [List.getElem?_append_right (by omega), hlen]
          have hlt : j - size < n * size := by rw [Nat.add_mul] at hj; omega
          rw [ih (j - size) hlt ((Nat.div_lt_iff_lt_mul hpos).2 hlt) (Nat.mod_lt _ hpos)]
          rw [← Nat.mod_eq_sub_mod (by omega)]
    rw [e1, e3, e2]
  · rw [List.getElem?_eq_none (by simp [size_madeCells]; omega), List.getElem?_eq_none (by omega)]
theorem Own.made {α : Type} {t e size bytes : Nat} {z : Value} {enc : α → List Value} (ti : TI t e size bytes z) (W : World) (lo n : Nat) (a : α) (hz : z.cells.toList = enc a) (hl : lo ≤ W.heap.size) (hn : n ≤ 9223372036854775807) (he : ∀ a, (enc a).length = size) :
    Own e size enc (W.alloc (.cells (madeCells z.cells (n * size)) e)) lo (W.heap.size + 1) (.slice (some ⟨W.heap.size, 0, none⟩) n n) (List.replicate n a) := by
  obtain ⟨i, ht, hi0, hzz, hsize, hby, hzs, hsz⟩ := ti
  exact Own.lit W e lo _ _ n (by simp) (made_rep a hz hzs hsz n) hl (by unfold maxLen; omega) he

end Go.Proofs.Ytmhbfoaecebobaa
end
section
namespace Go.Proofs.Ytmhbfoaecebobaa
set_option linter.unusedSimpArgs false
set_option linter.unusedVariables false
open Go.RowKit

abbrev K3 (w : World) (g : Nat) (a b c : Value) : Prop := w.cell? ⟨g, 0, none⟩ = some a ∧ w.cell? ⟨g, 1, none⟩ = some b ∧ w.cell? ⟨g, 2, none⟩ = some c ∧ g < w.heap.size
theorem K3.of_block {W W' : World} {g : Nat} {a b c : Value} (h : K3 W g a b c) (he : W'.heap[g]? = W.heap[g]?) (hs : W.heap.size ≤ W'.heap.size) : K3 W' g a b c := by
  obtain ⟨h1, h2, h3, h7⟩ := h
  exact ⟨(World.cell?_of_block (w := W) he).trans h1, (World.cell?_of_block (w := W) he).trans h2, (World.cell?_of_block (w := W) he).trans h3, Nat.lt_of_lt_of_le h7 hs⟩
theorem K3.aft {W w1 : World} {g : Nat} {a b c : Value} (hb : Below W.heap.size W w1) (h : K3 W g a b c) : K3 w1 g a b c := K3.of_block h (hb.block g h.2.2.2) hb.size
theorem K3.new (W : World) (a b c : Value) (t : TypeId) : K3 (W.alloc (.cells #[a, b, c] t)) W.heap.size a b c := by simp [K3, go_sem]
abbrev Loc.k3 (g : Nat) (a b c : Value) : Loc := ⟨fun w => K3 w g a b c, fun k => k = g, fun h hd hp => K3.of_block hp (h.block g hp.2.2.2 (hd g rfl)) h.size⟩

def trB (n : Int) (t : Tr) : Bool := (t.label.toList.isEmpty || nameB t.label) && placesB n t.inn && placesB n t.out
def validL (n : Net) : List Tr → Bool
  | [] => placesB n.places [n.source] && placesB n.places [n.sink]
  | t :: ts => if trB n.places t then validL n ts else false
def validB (n : Net) : Bool := if n.places < 1 ∨ 40 < n.places ∨ 60 < n.trans.length then false else validL n n.trans
theorem drop_gti {α : Type} [Inhabited α] {l : List α} {k : Nat} (h : k < l.length) : l.drop k = gti l k :: l.drop (k + 1) := by
  rw [List.drop_eq_getElem_cons h]
  unfold gti
  rw [List.getElem?_eq_getElem h]
  rfl

theorem ret_bool {a b : Bool} (h : a = b) : Ending.returned (.bool a) = .returned (.bool b) := by rw [h]

set_option maxHeartbeats 2000000 in
theorem valid_any (n : Net) (vt : Value) (lo hi : Nat) (w : World) (hv : RdT w lo hi vt n.trans) :
    Calls Try.prog 54 #[netV n vt] w fun e w' => e = .returned (.bool (validB n)) ∧ Below w.heap.size w w' := by
  obtain ⟨A, c, rfl, hc, hm⟩ := hv.form
  have HV := Lib.hid hv
  clear hv
  refine calls_cps fun R hR => ?_
  have HR := Lib.hid hR
  clear hR
  go_enter Try.func54, Try.ntmps54
  have M : Mem [Loc.k4 w.heap.size (.int .i64 n.places) (.slice A n.trans.length c) (.int .i64 n.source) (.int .i64 n.sink), Loc.bl w.heap.size w] (w.alloc (.cells #[.int .i64 n.places, .slice A n.trans.length c, .int .i64 n.source, .int .i64 n.sink] 24)) := ⟨K4.new w _ _ _ _ _, ⟨(Below.refl _ _).alloc (Nat.le_refl _) _, by simp⟩, True.intro⟩
  have HM := Lib.hid M
  clear M
  go_wp2_with fail
  all_goals (try ((with_reducible refine HR.out _ _ ⟨?_, ?_⟩) <;> first | exact ret_bool (by grind [validB]) | exact HM.out.2.1.1))
  have HI : Hid (validB n = validL n n.trans) := Lib.hid (by grind [validB])
  generalize w.alloc (.cells #[.int .i64 n.places, .slice A n.trans.length c, .int .i64 n.source, .int .i64 n.sink] 24) = W at *
  go_loopw [22, 4] (fun v22 _ wr => ∃ k : Nat, k ≤ n.trans.length ∧ v22 = .int .i64 k ∧ Hid (validB n = validL n (n.trans.drop k)) ∧ Hid (Mem [Loc.k4 w.heap.size (.int .i64 n.places) (.slice A n.trans.length c) (.int .i64 n.source) (.int .i64 n.sink), Loc.bl w.heap.size w] wr)) (fun v22 _ _ => n.trans.length - (intOf v22).toNat)
  case atStart => exact ⟨0, by omega, rfl, HI, HM⟩
  case round =>
    clear HM HI
    obtain ⟨k, hk, rfl, HI, HM⟩ := hrel
    have hk4 := HM.out.1
    by_cases hlt : k < n.trans.length
    · obtain ⟨b, off, vi, vo, rfl, _, _, hcell, hri, hro⟩ := RdT.at3 (HV.out.after HM.out.2.1.1) hlt
      have HD := Lib.hid (drop_gti hlt)
      obtain ⟨Ai, ci, rfl, hci, hmi⟩ := hri.form
      obtain ⟨Ao, co, rfl, hco, hmo⟩ := hro.form
      generalize gti n.trans k = t at *
      obtain ⟨lab, tin, tout⟩ := t
      simp only at hri hro hcell hci hmi hco hmo
      have M : Mem [Loc.k4 w.heap.size (.int .i64 n.places) (.slice (some ⟨b, off, none⟩) n.trans.length c) (.int .i64 n.source) (.int .i64 n.sink), Loc.bl w.heap.size w, Loc.k3 wr.heap.size (.string lab) (.slice Ai tin.length ci) (.slice Ao tout.length co), Loc.rd 1 encI lo hi (.slice Ai tin.length ci) tin, Loc.rd 1 encI lo hi (.slice Ao tout.length co) tout] (wr.alloc (.cells #[.string lab, .slice Ai tin.length ci, .slice Ao tout.length co] 46)) := 
        ⟨K4.aft ((Below.refl _ _).alloc (Nat.le_refl _) _) hk4, ⟨(HM.out.2.1.1).alloc HM.out.2.1.2 _, by have := HM.out.2.1.2; simp; omega⟩, K3.new wr _ _ _ _, Rd.after hri ((Below.refl _ _).alloc (Nat.le_refl _) _), Rd.after hro ((Below.refl _ _).alloc (Nat.le_refl _) _), True.intro⟩
      clear hri hro
      replace M := Lib.hid M
      have hq4 := M.out.1
      have hq3 := M.out.2.2.1
      go_wp2_with (first
        | (go_at_call 56; refine (isName_any _ _).mono ?_; rintro e w1 ⟨rfl, hb1⟩; replace M := Lib.hid (M.out.below hb1); clear hb1; replace hq4 := M.out.1; replace hq3 := M.out.2.2.1)
        | (go_at_call 89; refine (places_any n _ _ lo hi _ _ (by first | exact M.out.2.2.2.1 | exact M.out.2.2.2.2.1)).mono ?_; rintro e w1 ⟨rfl, hb1⟩; replace M := Lib.hid (M.out.below hb1); clear hb1; replace hq4 := M.out.1; replace hq3 := M.out.2.2.1))
      all_goals (have HJ : validB n = if trB n.places ⟨lab, tin, tout⟩ then validL n (n.trans.drop (k + 1)) else false := by rw [HI.out, HD.out]; rfl)
      all_goals first
        | ((with_reducible refine HR.out _ _ ⟨?_, ?_⟩) <;> first | exact ret_bool (by go_light; grind [trB]) | exact M.out.2.1.1)
        | (refine ⟨⟨k + 1, by omega, by go_num, Lib.hid (by go_light; grind [trB]), Lib.hid ⟨M.out.1, M.out.2.1, True.intro⟩⟩, by simp [intOf]; omega⟩)
    · obtain rfl : k = n.trans.length := by omega
      have HE : Hid (validB n = (placesB n.places [n.source] && placesB n.places [n.sink])) := Lib.hid (by rw [HI.out]; simp [validL])
      clear HI
      have M := HM
      clear HM
      go_wp2_with (go_at_call 89; refine (places_any n _ _ 0 _ _ _ (RdI.lit1 _ _ _)).mono ?_; rintro e w1 ⟨rfl, hb1⟩; replace M := Lib.hid ((M.out.alloc _).below hb1); clear hb1; replace hk4 := M.out.1)
      all_goals ((with_reducible refine HR.out _ _ ⟨?_, ?_⟩) <;> first | exact ret_bool (by rw [HE.out]; go_light; grind) | exact M.out.2.1.1)
end Go.Proofs.Ytmhbfoaecebobaa
end
section
namespace Go.Proofs.Ytmhbfoaecebobaa
set_option linter.unusedSimpArgs false
set_option linter.unusedVariables false
open Go.RowKit

def valid2L (n : Net) : List Tr → Bool
  | [] => true
  | t :: ts => if trB n.places t then valid2L n ts else false
def valid2B (n : Net) : Bool := if n.places < 1 ∨ 40 < n.places ∨ 60 < n.trans.length ∨ n.source < 0 ∨ n.places ≤ n.source ∨ n.sink < 0 ∨ n.places ≤ n.sink then false else valid2L n n.trans
theorem placesB_one (n x : Int) : placesB n [x] = (decide (0 ≤ x) && decide (x < n)) := by
  simp [placesB, badP, gti, List.range_succ]
  grind
theorem validL_eq (n : Net) : ∀ l, validL n l = (valid2L n l && (placesB n.places [n.source] && placesB n.places [n.sink]))
  | [] => by simp [validL, valid2L]
  | t :: ts => by
    simp only [validL, valid2L]
    rw [validL_eq n ts]
    cases trB n.places t <;> simp
theorem valid2_eq (n : Net) : valid2B n = validB n := by
  unfold valid2B validB
  rw [validL_eq, placesB_one, placesB_one]
  grind

set_option maxHeartbeats 2000000 in
theorem rvalid_any (n : Net) (vt : Value) (lo hi : Nat) (w : World) (hv : RdT w lo hi vt n.trans) :
    Calls Try.prog 49 #[netV n vt] w fun e w' => e = .returned (.bool (validB n)) ∧ Below w.heap.size w w' := by
  rw [← valid2_eq]
  obtain ⟨A, c, rfl, hc, hm⟩ := hv.form
  have HV := Lib.hid hv
  clear hv
  refine calls_cps fun R hR => ?_
  have HR := Lib.hid hR
  clear hR
  go_enter Try.func49, Try.ntmps49
  have M : Hid (Mem [Loc.k4 w.heap.size (.int .i64 n.places) (.slice A n.trans.length c) (.int .i64 n.source) (.int .i64 n.sink), Loc.bl w.heap.size w] (w.alloc (.cells #[.int .i64 n.places, .slice A n.trans.length c, .int .i64 n.source, .int .i64 n.sink] 24))) := Lib.hid ⟨K4.new w _ _ _ _ _, ⟨(Below.refl _ _).alloc (Nat.le_refl _) _, by simp⟩, True.intro⟩
  have hk4 := M.out.1
  go_wp2_with fail
  all_goals (try ((with_reducible refine HR.out _ _ ⟨?_, ?_⟩) <;> first | exact ret_bool (by go_light; grind [valid2B]) | exact M.out.2.1.1))
  have HI : Hid (valid2B n = valid2L n n.trans) := Lib.hid (by go_light; grind [valid2B])
  generalize w.alloc (.cells #[.int .i64 n.places, .slice A n.trans.length c, .int .i64 n.source, .int .i64 n.sink] 24) = W at *
  go_loopw [3, 4] (fun v3 _ wr => ∃ k : Nat, k ≤ n.trans.length ∧ v3 = .int .i64 k ∧ Hid (valid2B n = valid2L n (n.trans.drop k)) ∧ Hid (Mem [Loc.k4 w.heap.size (.int .i64 n.places) (.slice A n.trans.length c) (.int .i64 n.source) (.int .i64 n.sink), Loc.bl w.heap.size w] wr)) (fun v3 _ _ => n.trans.length - (intOf v3).toNat)
  case atStart => exact ⟨0, by omega, rfl, HI, M⟩
  case round =>
    clear M HI
    obtain ⟨k, hk, rfl, HI, HM⟩ := hrel
    have hk4 := HM.out.1
    by_cases hlt : k < n.trans.length
    · obtain ⟨b, off, vi, vo, rfl, _, _, hcell, hri, hro⟩ := RdT.at3 (HV.out.after HM.out.2.1.1) hlt
      have HD := Lib.hid (drop_gti hlt)
      obtain ⟨Ai, ci, rfl, hci, hmi⟩ := hri.form
      obtain ⟨Ao, co, rfl, hco, hmo⟩ := hro.form
      generalize gti n.trans k = t at *
      obtain ⟨lab, tin, tout⟩ := t
      simp only at hri hro hcell hci hmi hco hmo
      have M : Mem [Loc.k4 w.heap.size (.int .i64 n.places) (.slice (some ⟨b, off, none⟩) n.trans.length c) (.int .i64 n.source) (.int .i64 n.sink), Loc.bl w.heap.size w, Loc.k3 wr.heap.size (.string lab) (.slice Ai tin.length ci) (.slice Ao tout.length co), Loc.rd 1 encI lo hi (.slice Ai tin.length ci) tin, Loc.rd 1 encI lo hi (.slice Ao tout.length co) tout] (wr.alloc (.cells #[.string lab, .slice Ai tin.length ci, .slice Ao tout.length co] 46)) := 
        ⟨K4.aft ((Below.refl _ _).alloc (Nat.le_refl _) _) hk4, ⟨(HM.out.2.1.1).alloc HM.out.2.1.2 _, by have := HM.out.2.1.2; simp; omega⟩, K3.new wr _ _ _ _, Rd.after hri ((Below.refl _ _).alloc (Nat.le_refl _) _), Rd.after hro ((Below.refl _ _).alloc (Nat.le_refl _) _), True.intro⟩
      clear hri hro
      replace M := Lib.hid M
      have hq4 := M.out.1
      have hq3 := M.out.2.2.1
      go_wp2_with (first
        | (go_at_call 87; refine (isName2_any _ _).mono ?_; rintro e w1 ⟨rfl, hb1⟩; replace M := Lib.hid (M.out.below hb1); clear hb1; replace hq4 := M.out.1; replace hq3 := M.out.2.2.1)
        | (go_at_call 88; refine (places2_any _ _ lo hi _ _ (by first | exact M.out.2.2.2.1 | exact M.out.2.2.2.2.1)).mono ?_; rintro e w1 ⟨rfl, hb1⟩; replace M := Lib.hid (M.out.below hb1); clear hb1; replace hq4 := M.out.1; replace hq3 := M.out.2.2.1))
      all_goals (have HJ : valid2B n = if trB n.places ⟨lab, tin, tout⟩ then valid2L n (n.trans.drop (k + 1)) else false := by rw [HI.out, HD.out]; rfl)
      all_goals first
        | ((with_reducible refine HR.out _ _ ⟨?_, ?_⟩) <;> first | exact ret_bool (by go_light; grind [trB]) | exact M.out.2.1.1)
        | (refine ⟨⟨k + 1, by omega, by go_num, Lib.hid (by go_light; grind [trB]), Lib.hid ⟨M.out.1, M.out.2.1, True.intro⟩⟩, by simp [intOf]; omega⟩)
    · obtain rfl : k = n.trans.length := by omega
      have HE : Hid (valid2B n = true) := Lib.hid (by rw [HI.out]; simp [valid2L])
      clear HI
      go_wp2_with fail
      all_goals ((with_reducible refine HR.out _ _ ⟨?_, ?_⟩) <;> first | exact ret_bool (by rw [HE.out]) | exact HM.out.2.1.1)

def all01 : List Int → Bool
  | [] => true
  | k :: l => if k < 0 ∨ 100 < k then false else all01 l
def mark2B (n : Net) (m : List Int) : Bool := if (m.length : Int) ≠ n.places then false else all01 m
set_option maxHeartbeats 2000000 in
theorem rmarking_any (n : Net) (vt : Value) (m : List Int) (v : Value) (lo hi : Nat) (w : World) (hv : RdI w lo hi v m) :
    Calls Try.prog 86 #[netV n vt, v] w fun e w' => e = .returned (.bool (mark2B n m)) ∧ Below w.heap.size w w' := by
  obtain ⟨A, c, rfl, hc, hm⟩ := hv.form
  have HV := Lib.hid hv
  clear hv
  refine calls_cps fun R hR => ?_
  have HR := Lib.hid hR
  clear hR
  go_enter Try.func86, Try.ntmps86
  have M : Hid (Mem [Loc.k4 w.heap.size (.int .i64 n.places) (vt) (.int .i64 n.source) (.int .i64 n.sink), Loc.bl w.heap.size w] (w.alloc (.cells #[.int .i64 n.places, vt, .int .i64 n.source, .int .i64 n.sink] 24))) := Lib.hid ⟨K4.new w _ _ _ _ _, ⟨(Below.refl _ _).alloc (Nat.le_refl _) _, by simp⟩, True.intro⟩
  have hk4 := M.out.1
  go_wp2_with fail
  all_goals (try ((with_reducible refine HR.out _ _ ⟨?_, ?_⟩) <;> first | exact ret_bool (by go_light; grind [mark2B]) | exact M.out.2.1.1))
  have HI : Hid (mark2B n m = all01 m) := Lib.hid (by go_light; grind [mark2B])
  generalize w.alloc (.cells #[.int .i64 n.places, vt, .int .i64 n.source, .int .i64 n.sink] 24) = W at *
  go_loop [5] (fun v3 => ∃ k : Nat, k ≤ m.length ∧ v3 = .int .i64 k ∧ Hid (mark2B n m = all01 (m.drop k))) (fun v3 => m.length - (intOf v3).toNat)
  case atStart => exact ⟨0, by omega, rfl, HI⟩
  case round =>
    clear HI
    obtain ⟨k, hk, rfl, HI⟩ := hrel
    by_cases hlt : k < m.length
    · obtain ⟨b, off, rfl, _, _, hcell⟩ := RdI.at1 (HV.out.after M.out.2.1.1) hlt
      have HD := Lib.hid (drop_gti hlt)
      generalize gti m k = x at *
      go_wp2_with fail
      all_goals (have HJ : mark2B n m = if x < 0 ∨ 100 < x then false else all01 (m.drop (k + 1)) := by rw [HI.out, HD.out]; rfl)
      all_goals first
        | ((with_reducible refine HR.out _ _ ⟨?_, ?_⟩) <;> first | exact ret_bool (by go_light; grind) | exact M.out.2.1.1)
        | (refine ⟨⟨k + 1, by omega, by go_num, Lib.hid (by go_light; grind)⟩, by simp [intOf]; omega⟩)
    · obtain rfl : k = m.length := by omega
      have HE : Hid (mark2B n m = true) := Lib.hid (by rw [HI.out]; simp [all01])
      clear HI
      go_wp2_with fail
      all_goals ((with_reducible refine HR.out _ _ ⟨?_, ?_⟩) <;> first | exact ret_bool (by rw [HE.out]) | exact M.out.2.1.1)
end Go.Proofs.Ytmhbfoaecebobaa
end
section
namespace Go.Proofs.Ytmhbfoaecebobaa
set_option linter.unusedSimpArgs false
set_option linter.unusedVariables false
open Go.RowKit

theorem oneI : ∀ a : Int, ∀ u ∈ encI a, u.oneCell' = true := by intro a u hu; simp at hu; subst hu; rfl
/-- a list and an error number, returned: the list lies in new memory -/
def RetI (w : World) (r : List Int × Int) (e : Ending) (w' : World) : Prop :=
  ∃ A c, e = .returned (.tuple #[.slice A r.1.length c, .int .i64 r.2]) ∧ RdI w' w.heap.size w'.heap.size (.slice A r.1.length c) r.1 ∧ Below w.heap.size w w'
theorem RetI.nil {w w' : World} {r : List Int × Int} {c : Int} (h : r = ([], c)) (hb : Below w.heap.size w w') : RetI w r (.returned (.tuple #[.slice none 0 0, .int .i64 c])) w' := by
  subst h
  exact ⟨none, 0, rfl, Rd.nil _ _ _, hb⟩
theorem RetI.mk {w w' : World} {r : List Int × Int} {l : List Int} {n k : Nat} {A : Option Addr} {c : Int} (h : r = (l, c)) (hn : n = l.length) {lo hi : Nat} (hr : RdI w' lo hi (.slice A n k) l) (hlo : w.heap.size ≤ lo) (hhi : hi ≤ w'.heap.size) (hb : Below w.heap.size w w') : RetI w r (.returned (.tuple #[.slice A n k, .int .i64 c])) w' := by
  subst h hn
  exact ⟨A, k, rfl, hr.mono hlo hhi, hb⟩

def oneL (k : Nat) (p : Int) : List Int := (List.replicate k 0).set p.toNat 1
def oneE (n : Net) (p : Int) : List Int × Int := if validB n then (oneL n.places.toNat p, 0) else ([], 1)
theorem validB_ends {n : Net} (h : validB n = true) : (0 ≤ n.source ∧ n.source < n.places) ∧ (0 ≤ n.sink ∧ n.sink < n.places) := by
  rw [← valid2_eq] at h
  unfold valid2B at h
  split at h
  · cases h
  · omega
theorem validB_places {n : Net} (h : validB n = true) : 1 ≤ n.places ∧ n.places ≤ 40 ∧ n.trans.length ≤ 60 := by
  unfold validB at h
  split at h
  · cases h
  · omega

theorem valid_is {n : Net} {b : Bool} (hb : validB n = b) (vt : Value) (lo hi : Nat) (w : World) (hv : RdT w lo hi vt n.trans) :
    Calls Try.prog 54 #[netV n vt] w fun e w' => e = .returned (.bool b) ∧ Below w.heap.size w w' := hb ▸ valid_any n vt lo hi w hv
theorem rvalid_is {n : Net} {b : Bool} (hb : validB n = b) (vt : Value) (lo hi : Nat) (w : World) (hv : RdT w lo hi vt n.trans) :
    Calls Try.prog 49 #[netV n vt] w fun e w' => e = .returned (.bool b) ∧ Below w.heap.size w w' := hb ▸ rvalid_any n vt lo hi w hv
theorem mk_int {x : Int} {k : Nat} (h : x = k) (hk : k ≤ 1000000) : ∀ w : World, (Instr.makeSlice 30 (.int .i64 x) (.int .i64 x)).run Try.prog w = .ok (.slice (some ⟨w.heap.size, 0, none⟩) k k) (w.alloc (.cells (madeCells #[.int .i64 0] k) 3)) := by
  intro w
  subst h
  have := run_mk ti_int w k (by omega) (by omega)
  rw [Nat.mul_one] at this
  exact this
theorem OwnI.made (W : World) (n : Nat) (hn : n ≤ 1000000) : OwnI (W.alloc (.cells (madeCells #[.int .i64 0] n) 3)) W.heap.size (W.heap.size + 1) (.slice (some ⟨W.heap.size, 0, none⟩) n n) (List.replicate n 0) := by
  have := Own.made (enc := encI) ti_int W W.heap.size n 0 rfl (Nat.le_refl _) (by omega) (fun _ => rfl)
  rw [Nat.mul_one] at this
  exact this

theorem set_new (W : World) (cs : Array Value) (t : TypeId) (k : Nat) (u : Value) : (W.alloc (.cells cs t)).setCell ⟨W.heap.size, k, none⟩ u = W.alloc (.cells (cs.setIfInBounds k u) t) := by
  simp [go_sem]
set_option maxHeartbeats 1000000 in
theorem one_any (n : Net) (p : Int) (vt : Value) (lo hi : Nat) (w : World) (hv : RdT w lo hi vt n.trans) (hp : validB n = true → 0 ≤ p ∧ p < n.places) :
    Calls Try.prog 70 #[netV n vt, .int .i64 p] w (RetI w (oneE n p)) := by
  obtain ⟨A, c, rfl, hc, hm⟩ := hv.form
  have HV := Lib.hid hv
  clear hv
  cases hvb : validB n
  · have HVB := Lib.hid hvb
    clear hvb hp
    refine calls_cps fun R hR => ?_
    have HR := Lib.hid hR
    clear hR
    go_enter Try.func70, Try.ntmps70
    have M : Hid (Mem [Loc.k4 w.heap.size (.int .i64 n.places) (.slice A n.trans.length c) (.int .i64 n.source) (.int .i64 n.sink), Loc.bl w.heap.size w] (w.alloc (.cells #[.int .i64 n.places, .slice A n.trans.length c, .int .i64 n.source, .int .i64 n.sink] 24))) := Lib.hid ⟨K4.new w _ _ _ _ _, ⟨(Below.refl _ _).alloc (Nat.le_refl _) _, by simp⟩, True.intro⟩
    have hk4 := M.out.1
    go_wp2_with (go_at_call 54; refine (valid_is HVB.out _ lo hi _ (HV.out.after M.out.2.1.1)).mono ?_; rintro e w1 ⟨rfl, hb1⟩; replace M := Lib.hid (M.out.below hb1); clear hb1; replace hk4 := M.out.1)
    exact HR.out _ _ (RetI.nil (by rw [oneE, HVB.out]; rfl) M.out.2.1.1)
  · have HVB := Lib.hid hvb
    have hpl := validB_places hvb
    have hpp := hp hvb
    clear hvb hp
    obtain ⟨np, hnp⟩ : ∃ k : Nat, n.places = k := ⟨n.places.toNat, by omega⟩
    obtain ⟨kp, rfl⟩ : ∃ k : Nat, p = k := ⟨p.toNat, by omega⟩
    have hlt : kp < np := by omega
    have hmk := mk_int hnp (by omega)
    have HNP := Lib.hid hnp
    have hn40 : np ≤ 40 := by omega
    clear hnp hpl hpp
    refine calls_cps fun R hR => ?_
    have HR := Lib.hid hR
    clear hR
    go_enter Try.func70, Try.ntmps70
    have M : Hid (Mem [Loc.k4 w.heap.size (.int .i64 n.places) (.slice A n.trans.length c) (.int .i64 n.source) (.int .i64 n.sink), Loc.bl w.heap.size w] (w.alloc (.cells #[.int .i64 n.places, .slice A n.trans.length c, .int .i64 n.source, .int .i64 n.sink] 24))) := Lib.hid ⟨K4.new w _ _ _ _ _, ⟨(Below.refl _ _).alloc (Nat.le_refl _) _, by simp⟩, True.intro⟩
    have hk4 := M.out.1
    go_wp2_with (first
      | (go_at_call 54; refine (valid_is HVB.out _ lo hi _ (HV.out.after M.out.2.1.1)).mono ?_; rintro e w1 ⟨rfl, hb1⟩; replace M := Lib.hid (M.out.below hb1); clear hb1; replace hk4 := M.out.1; have HO := Lib.hid (OwnI.made w1 np (by omega)); have hat := OwnI.at1 HO.out (k := kp) (by simp; omega)))
    refine HR.out _ _ (RetI.mk (l := oneL np kp) (by simp [oneE, HVB.out, HNP.out]) (by simp [oneL]) (Own.rd (set_new w1 _ _ kp _ ▸ OwnI.set HO.out kp 1)) M.out.2.1.2 (by simp) ?_)
    exact (M.out.2.1.1).alloc M.out.2.1.2 _

set_option maxHeartbeats 400000 in
theorem initial_any (n : Net) (vt : Value) (lo hi : Nat) (w : World) (hv : RdT w lo hi vt n.trans) :
    Calls Try.prog 29 #[netV n vt] w (RetI w (oneE n n.source)) := by
  have HV := Lib.hid hv
  have HP := Lib.hid (@validB_ends n)
  obtain ⟨A, c, rfl, hc, hm⟩ := hv.form
  clear hv
  refine calls_cps fun R hR => ?_
  have HR := Lib.hid hR
  clear hR
  go_enter Try.func29, Try.ntmps29
  have M : Hid (Mem [Loc.k4 w.heap.size (.int .i64 n.places) (.slice A n.trans.length c) (.int .i64 n.source) (.int .i64 n.sink), Loc.bl w.heap.size w] (w.alloc (.cells #[.int .i64 n.places, .slice A n.trans.length c, .int .i64 n.source, .int .i64 n.sink] 24))) := Lib.hid ⟨K4.new w _ _ _ _ _, ⟨(Below.refl _ _).alloc (Nat.le_refl _) _, by simp⟩, True.intro⟩
  have hk4 := M.out.1
  go_wp2_with (go_at_call 70; refine (one_any n _ _ lo hi _ (HV.out.after M.out.2.1.1) (fun h => (HP.out h).1)).mono ?_; rintro e w1 ⟨A1, c1, rfl, hr1, hb1⟩; have HR1 := Lib.hid hr1; replace M := Lib.hid (M.out.below hb1); clear hb1 hr1)
  exact HR.out _ _ ⟨_, _, rfl, (HR1.out.mono (by simp) (Nat.le_refl _)), M.out.2.1.1⟩

set_option maxHeartbeats 400000 in
theorem final_any (n : Net) (vt : Value) (lo hi : Nat) (w : World) (hv : RdT w lo hi vt n.trans) :
    Calls Try.prog 42 #[netV n vt] w (RetI w (oneE n n.sink)) := by
  have HV := Lib.hid hv
  have HP := Lib.hid (@validB_ends n)
  obtain ⟨A, c, rfl, hc, hm⟩ := hv.form
  clear hv
  refine calls_cps fun R hR => ?_
  have HR := Lib.hid hR
  clear hR
  go_enter Try.func42, Try.ntmps42
  have M : Hid (Mem [Loc.k4 w.heap.size (.int .i64 n.places) (.slice A n.trans.length c) (.int .i64 n.source) (.int .i64 n.sink), Loc.bl w.heap.size w] (w.alloc (.cells #[.int .i64 n.places, .slice A n.trans.length c, .int .i64 n.source, .int .i64 n.sink] 24))) := Lib.hid ⟨K4.new w _ _ _ _ _, ⟨(Below.refl _ _).alloc (Nat.le_refl _) _, by simp⟩, True.intro⟩
  have hk4 := M.out.1
  go_wp2_with (go_at_call 70; refine (one_any n _ _ lo hi _ (HV.out.after M.out.2.1.1) (fun h => (HP.out h).2)).mono ?_; rintro e w1 ⟨A1, c1, rfl, hr1, hb1⟩; have HR1 := Lib.hid hr1; replace M := Lib.hid (M.out.below hb1); clear hb1 hr1)
  exact HR.out _ _ ⟨_, _, rfl, (HR1.out.mono (by simp) (Nat.le_refl _)), M.out.2.1.1⟩

def markB (n : Net) (m : List Int) : Bool := validB n && mark2B n m
theorem all01_any : ∀ m : List Int, all01 m = !m.any fun k => decide (k < 0) || decide (100 < k)
  | [] => rfl
  | k :: l => by
    simp only [all01, List.any_cons]
    rw [all01_any l]
    grind
theorem ent_marking1 : Ent 96 := ent_of Try.func96 (by kernel_rfl) rfl
set_option maxHeartbeats 400000 in
theorem marking1_any (k : Int) (w : World) : Calls Try.prog 96 #[.int .i64 k] w fun e w' => e = .returned (.bool (decide (k < 0) || decide (100 < k))) ∧ Below w.heap.size w w' := by
  refine calls_cps fun R hR => ?_
  have HR := Lib.hid hR
  clear hR
  go_enter Try.func96, Try.ntmps96
  go_wp2_with fail
  all_goals (refine HR.out _ _ ⟨ret_bool ?_, Below.refl _ _⟩ <;> (go_light; grind))

set_option maxHeartbeats 1000000 in
theorem marking_any (n : Net) (m : List Int) (vt v : Value) (lo hi lo' hi' : Nat) (w : World) (hv : RdT w lo hi vt n.trans) (hm : RdI w lo' hi' v m) :
    Calls Try.prog 62 #[netV n vt, v] w fun e w' => e = .returned (.bool (markB n m)) ∧ Below w.heap.size w w' := by
  have HC := Lib.hid (fun (W : World) (hW : Below w.heap.size w W) => containsFI_any 96 ent_marking1 #[] (fun k => decide (k < 0) || decide (100 < k)) m lo' hi' v W (hm.after hW) (fun a _ W _ => marking1_any a W))
  obtain ⟨A, c, rfl, hc, hmm⟩ := hv.form
  obtain ⟨A2, c2, rfl, hc2, hmm2⟩ := hm.form
  have HV := Lib.hid hv
  clear hv hm
  refine calls_cps fun R hR => ?_
  have HR := Lib.hid hR
  clear hR
  go_enter Try.func62, Try.ntmps62
  have M : Hid (Mem [Loc.k4 w.heap.size (.int .i64 n.places) (.slice A n.trans.length c) (.int .i64 n.source) (.int .i64 n.sink), Loc.bl w.heap.size w] (w.alloc (.cells #[.int .i64 n.places, .slice A n.trans.length c, .int .i64 n.source, .int .i64 n.sink] 24))) := Lib.hid ⟨K4.new w _ _ _ _ _, ⟨(Below.refl _ _).alloc (Nat.le_refl _) _, by simp⟩, True.intro⟩
  have hk4 := M.out.1
  go_wp2_with (first
    | (go_at_call 54; refine (valid_any n _ lo hi _ (HV.out.after M.out.2.1.1)).mono ?_; rintro e w1 ⟨rfl, hb1⟩; replace M := Lib.hid (M.out.below hb1); clear hb1; replace hk4 := M.out.1)
    | (go_at_call 95; refine (HC.out _ M.out.2.1.1).mono ?_; rintro e w1 ⟨rfl, hb1⟩; replace M := Lib.hid (M.out.below hb1); clear hb1; replace hk4 := M.out.1))
  all_goals ((with_reducible refine HR.out _ _ ⟨?_, ?_⟩) <;> first | exact ret_bool (by go_light; simp only [markB, mark2B, all01_any]; grind) | exact M.out.2.1.1)
end Go.Proofs.Ytmhbfoaecebobaa
end
