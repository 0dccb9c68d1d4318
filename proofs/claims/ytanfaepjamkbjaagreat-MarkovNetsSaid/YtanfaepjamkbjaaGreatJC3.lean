/-
  Texts joined: AwC, AwD, AwE, AwF, AwG, AwH. Conditions: none.
-/
import Derived.Test.YtanfaepjamkbjaaGreatJC2
import Derived.IntWalk
import Derived.Lib.Strings
import Derived.Laws.MakeOwn
import Derived.Laws.CopyRow
section
namespace Go.Proofs.YtanfaepjamkbjaaGreat.Aw
set_option linter.unusedSimpArgs false
set_option linter.unusedVariables false
open Go.RowKit

def tyInfo (P : Program) (t : TypeId) : Option (Option Value × Nat × Nat) := (P.info? t).map fun i => (i.zero, i.size, i.bytes)
def tyAgg (P : Program) (t : TypeId) : Option Bool := (P.underlying t).map fun d => match d with | .struct _ => true | .array _ _ => true | _ => false
def tySlice (P : Program) (t : TypeId) : Option TypeId := match P.underlying t with | some (.slice e) => some e | _ => none
/-- a field's place, type and size -/
def tyField (P : Program) (t : TypeId) (f : Nat) : Option (Nat × TypeId × Option Nat) := match P.underlying t with
  | some (.struct fs) => (fs[f]?).map fun x => (x.offset, x.type, (P.info? x.type).map (·.size))
  | _ => none
theorem info_of {P : Program} {t : TypeId} {z : Option Value} {n b : Nat} (h : tyInfo P t = some (z, n, b)) : ∃ i, P.info? t = some i ∧ i.zero = z ∧ i.size = n ∧ i.bytes = b := by
  unfold tyInfo at h
  cases hi : P.info? t with
  | none => rw [hi] at h; cases h
  | some i => rw [hi] at h; simp only [Option.map_some, Option.some.injEq, Prod.mk.injEq] at h; exact ⟨i, rfl, h.1, h.2.1, h.2.2⟩
theorem slice_of {P : Program} {t e : TypeId} (h : tySlice P t = some e) : P.underlying t = some (.slice e) := by
  unfold tySlice at h
  split at h
  · rename_i e' h1; cases h; exact h1
  · cases h
theorem field_of {P : Program} {t : TypeId} {f off : Nat} {ft : TypeId} {n : Option Nat} (h : tyField P t f = some (off, ft, n)) :
    ∃ fs x, P.underlying t = some (.struct fs) ∧ fs[f]? = some x ∧ x.offset = off ∧ x.type = ft ∧ (P.info? ft).map (·.size) = n := by
  unfold tyField at h
  split at h
  · rename_i fs h1
    cases hx : fs[f]? with
    | none => rw [hx] at h; cases h
    | some x => rw [hx] at h; simp only [Option.map_some, Option.some.injEq, Prod.mk.injEq] at h; exact ⟨fs, x, h1, hx, h.1, h.2.1, by rw [← h.2.1]; exact h.2.2⟩
  · cases h
theorem run_sizeOf {P : Program} {t : TypeId} {z : Option Value} {n b : Nat} (h : tyInfo P t = some (z, n, b)) (w : World) : (sizeOf t).run P w = .ok n w := by
  obtain ⟨i, h1, _, h2, _⟩ := info_of h
  simp [sizeOf, typeInfo, h1, h2]
theorem run_isAgg {P : Program} {t : TypeId} {b : Bool} (h : tyAgg P t = some b) (w : World) : (isAgg t).run P w = .ok b w := by
  unfold tyAgg at h
  cases hd : P.underlying t with
  | none => rw [hd] at h; cases h
  | some d =>
    rw [hd] at h
    simp only [Option.map_some, Option.some.injEq] at h
    cases d <;> simp_all [isAgg, run_underlying hd]

theorem rep_s {G : Cx} {v u : Value} (h : Rep G v (.s u)) : v = u := by cases h; rfl

section
variable {P : Program} {o : Oper} {F : Frm} {σ : List Ob}

theorem does_val {x : AV} (h : ∀ (G : Cx) (ρ : Operand → Value), Rel G σ → (∀ y ∈ o.op.operands, Rep G (ρ y) (F.eval y)) → ∃ v, (execOp ρ o).run P G.w = .ok (.value v) G.w ∧ Rep G v x) : Does P o F σ x σ := by
  intro G a next Q hr ho hn
  obtain ⟨v, h1, h2⟩ := h G a.eval hr ho
  unfold Oper.wp
  rw [h1]
  exact hn v G (.refl G) hr h2

theorem does_move {y : Operand} {x : AV} (ho : o.op = .move y) (hx : F.eval y = x) : Does P o F σ x σ :=
  does_val fun G ρ hr hop => ⟨ρ y, by simp [execOp, ho], hx ▸ hop y (by simp [ho, Op.operands])⟩
theorem does_assign {y : Operand} {x : AV} (ho : o.op = .assign y) (hx : F.eval y = x) : Does P o F σ x σ :=
  does_val fun G ρ hr hop => ⟨ρ y, by simp [execOp, ho], hx ▸ hop y (by simp [ho, Op.operands])⟩
theorem does_pick {c x y : Operand} {b : Bool} (ho : o.op = .pick c x y) (hc : F.eval c = .s (.bool b)) : Does P o F σ (bif b then F.eval x else F.eval y) σ :=
  does_val fun G ρ hr hop => by
    have h1 := hop c (by simp [ho, Op.operands])
    rw [hc] at h1
    have h2 := rep_s h1
    refine ⟨if b then ρ x else ρ y, by simp [execOp, ho, h2, asBool], ?_⟩
    cases b
    · exact hop y (by simp [ho, Op.operands])
    · exact hop x (by simp [ho, Op.operands])

/-- a move of a value whose form is known -/
def Mv (o : Oper) (y : Operand) : Prop := o.op = .move y ∨ o.op = .assign y
theorem does_mv {y : Operand} {x : AV} (ho : Mv o y) (hx : F.eval y = x) : Does P o F σ x σ := by
  rcases ho with h | h
  · exact does_move h hx
  · exact does_assign h hx
section
variable {y : Operand} (ho : Mv o y)
include ho
theorem mv_s {v : Value} (hx : F.eval y = .s v) : Does P o F σ (.s v) σ := does_mv ho hx
theorem mv_sl {l : List AV} (hx : F.eval y = .sl l) : Does P o F σ (.sl l) σ := does_mv ho hx
theorem mv_tup {l : List AV} (hx : F.eval y = .tup l) : Does P o F σ (.tup l) σ := does_mv ho hx
theorem mv_emp (hx : F.eval y = .emp) : Does P o F σ .emp σ := does_mv ho hx
theorem mv_sub {a b c d : Nat} (hx : F.eval y = .sub a b c d) : Does P o F σ (.sub a b c d) σ := does_mv ho hx
theorem mv_own {a b c : Nat} (hx : F.eval y = .own a b c) : Does P o F σ (.own a b c) σ := does_mv ho hx
theorem mv_fn {f : FuncId} {l : List AV} (hx : F.eval y = .fn f l) : Does P o F σ (.fn f l) σ := does_mv ho hx
end
theorem get_here {d : Nat} {x : AV} {F : Frm} : Frm.get ((d, x) :: F) d = x := by simp [Frm.get]
theorem evc_nil {F : Frm} {caps : List AV} : List.map F.eval [] ++ caps = caps := rfl
theorem evc_cons {F : Frm} {y : Operand} {l : List Operand} {x : AV} {caps xs : List AV} (h : F.eval y = x) (t : l.map F.eval ++ caps = xs) : (y :: l).map F.eval ++ caps = x :: xs := by rw [List.map_cons, h, List.cons_append, t]
/-- a test or a sum of two finished values -/
theorem does_bin {b : BinOp} {t t' : TypeId} {x y : Operand} {u v r : Value} (ho : o.op = .binOp b t x y t') (hx : F.eval x = .s u) (hy : F.eval y = .s v)
    (h : ∀ w, (do eqGuard b t x y u v; binOp b t u v : Sem Value).run P w = .ok r w) : Does P o F σ (.s r) σ :=
  does_val fun G ρ hr hop => by
    have h1 := hop x (by simp [ho, Op.operands])
    have h2 := hop y (by simp [ho, Op.operands])
    rw [hx] at h1
    rw [hy] at h2
    refine ⟨r, ?_, .s r⟩
    have h3 := h G.w
    simp only [execOp, ho, rep_s h1, rep_s h2, Sem.run_bind] at h3 ⊢
    rw [h3]
    rfl

theorem run_intBin {b : BinOp} {t : TypeId} {x y : Operand} {k : IntKind} {m n : Int} {r : Value} (w : World) (hb : b ≠ .shl ∧ b ≠ .shr) (h : (match b with
    | .add | .sub | .mul => Op.intArith b k m n
    | .quo | .rem => Op.intDiv b k m n
    | .and | .or | .xor | .andNot => Op.intBits b k m n
    | _ => Op.intCmp b m n : Sem Value).run P w = .ok r w) : (do eqGuard b t x y (.int k m) (.int k n); binOp b t (.int k m) (.int k n) : Sem Value).run P w = .ok r w := by
  have h1 : (eqGuard b t x y (.int k m) (.int k n)).run P w = .ok () w := by
    unfold eqGuard
    cases b <;> rfl
  rw [Sem.run_bind, h1, Result.andThen_ok]
  unfold binOp
  cases b <;> first | exact absurd rfl hb.1 | exact absurd rfl hb.2 | simp_all
section
variable {t t' : TypeId} {x y : Operand} {k : IntKind} {m n c : Int}
theorem does_add (ho : o.op = .binOp .add t x y t') (hx : F.eval x = .s (.int k m)) (hy : F.eval y = .s (.int k n)) (hw : k.wrap (m + n) = c) : Does P o F σ (.s (.int k c)) σ :=
  does_bin ho hx hy fun w => run_intBin w (by simp) (by simp [Op.intArith, hw])
theorem does_sub (ho : o.op = .binOp .sub t x y t') (hx : F.eval x = .s (.int k m)) (hy : F.eval y = .s (.int k n)) (hw : k.wrap (m - n) = c) : Does P o F σ (.s (.int k c)) σ :=
  does_bin ho hx hy fun w => run_intBin w (by simp) (by simp [Op.intArith, hw])
theorem does_mul (ho : o.op = .binOp .mul t x y t') (hx : F.eval x = .s (.int k m)) (hy : F.eval y = .s (.int k n)) (hw : k.wrap (m * n) = c) : Does P o F σ (.s (.int k c)) σ :=
  does_bin ho hx hy fun w => run_intBin w (by simp) (by simp [Op.intArith, hw])
theorem does_quo (ho : o.op = .binOp .quo t x y t') (hx : F.eval x = .s (.int k m)) (hy : F.eval y = .s (.int k n)) (h0 : n ≠ 0) (hw : k.wrap (m.tdiv n) = c) : Does P o F σ (.s (.int k c)) σ :=
  does_bin ho hx hy fun w => run_intBin w (by simp) (by simp [Op.intDiv, hw, h0])
theorem does_rem (ho : o.op = .binOp .rem t x y t') (hx : F.eval x = .s (.int k m)) (hy : F.eval y = .s (.int k n)) (h0 : n ≠ 0) (hw : m.tmod n = c) : Does P o F σ (.s (.int k c)) σ :=
  does_bin ho hx hy fun w => run_intBin w (by simp) (by simp [Op.intDiv, hw, h0])
theorem does_lss (ho : o.op = .binOp .lss t x y t') (hx : F.eval x = .s (.int k m)) (hy : F.eval y = .s (.int k n)) : Does P o F σ (.s (.bool (decide (m < n)))) σ :=
  does_bin ho hx hy fun w => run_intBin w (by simp) (by simp [Op.intCmp])
theorem does_leq (ho : o.op = .binOp .leq t x y t') (hx : F.eval x = .s (.int k m)) (hy : F.eval y = .s (.int k n)) : Does P o F σ (.s (.bool (decide (m ≤ n)))) σ :=
  does_bin ho hx hy fun w => run_intBin w (by simp) (by simp [Op.intCmp])
theorem does_gtr (ho : o.op = .binOp .gtr t x y t') (hx : F.eval x = .s (.int k m)) (hy : F.eval y = .s (.int k n)) : Does P o F σ (.s (.bool (decide (n < m)))) σ :=
  does_bin ho hx hy fun w => run_intBin w (by simp) (by simp [Op.intCmp])
theorem does_geq (ho : o.op = .binOp .geq t x y t') (hx : F.eval x = .s (.int k m)) (hy : F.eval y = .s (.int k n)) : Does P o F σ (.s (.bool (decide (n ≤ m)))) σ :=
  does_bin ho hx hy fun w => run_intBin w (by simp) (by simp [Op.intCmp])
theorem does_eql (ho : o.op = .binOp .eql t x y t') (hx : F.eval x = .s (.int k m)) (hy : F.eval y = .s (.int k n)) : Does P o F σ (.s (.bool (decide (m = n)))) σ :=
  does_bin ho hx hy fun w => run_intBin w (by simp) (by
    by_cases h : m = n
    · simp [Op.intCmp, h]
    · have : (m == n) = false := by simpa using h
      simp [Op.intCmp, h, this])
theorem does_neq (ho : o.op = .binOp .neq t x y t') (hx : F.eval x = .s (.int k m)) (hy : F.eval y = .s (.int k n)) : Does P o F σ (.s (.bool (decide (m ≠ n)))) σ :=
  does_bin ho hx hy fun w => run_intBin w (by simp) (by
    by_cases h : m = n
    · simp [Op.intCmp, h]
    · have : (m != n) = true := by simpa using h
      simp [Op.intCmp, h, this])
end
theorem toList_inj {a b : ByteArray} : a.toList = b.toList ↔ a = b := by
  constructor
  · intro h
    rw [ByteArray.toList_eq, ByteArray.toList_eq] at h
    exact ByteArray.ext (Array.toList_inj.1 h)
  · intro h; rw [h]
theorem does_eqs {t t' : TypeId} {x y : Operand} {a b : ByteArray} (ho : o.op = .binOp .eql t x y t') (hx : F.eval x = .s (.string a)) (hy : F.eval y = .s (.string b)) : Does P o F σ (.s (.bool (decide (a = b)))) σ :=
  does_bin ho hx hy fun w => by
    by_cases h : a = b
    · simp [eqGuard, binOp, Op.stringOp, h]
    · have : (a.toList == b.toList) = false := by simpa [toList_inj] using h
      simp [eqGuard, binOp, Op.stringOp, h, this]
theorem does_nes {t t' : TypeId} {x y : Operand} {a b : ByteArray} (ho : o.op = .binOp .neq t x y t') (hx : F.eval x = .s (.string a)) (hy : F.eval y = .s (.string b)) : Does P o F σ (.s (.bool (decide (a ≠ b)))) σ :=
  does_bin ho hx hy fun w => by
    by_cases h : a = b
    · simp [eqGuard, binOp, Op.stringOp, h]
    · have : (a.toList == b.toList) = false := by simpa [toList_inj] using h
      simp [eqGuard, binOp, Op.stringOp, h, this]
theorem does_lts {t t' : TypeId} {x y : Operand} {a b : ByteArray} (ho : o.op = .binOp .lss t x y t') (hx : F.eval x = .s (.string a)) (hy : F.eval y = .s (.string b)) : Does P o F σ (.s (.bool (Op.bytesLess a.toList b.toList))) σ :=
  does_bin ho hx hy fun w => by simp [eqGuard, binOp, Op.stringOp]
theorem does_gts {t t' : TypeId} {x y : Operand} {a b : ByteArray} (ho : o.op = .binOp .gtr t x y t') (hx : F.eval x = .s (.string a)) (hy : F.eval y = .s (.string b)) : Does P o F σ (.s (.bool (!(Op.bytesLess a.toList b.toList || decide (a = b))))) σ :=
  does_bin ho hx hy fun w => by
    have : (a.toList == b.toList) = decide (a = b) := by rw [Bool.eq_iff_iff]; simp [toList_inj]
    simp [eqGuard, binOp, Op.stringOp, this]
theorem does_not {t : TypeId} {x : Operand} {b : Bool} (ho : o.op = .unOp .not t x) (hx : F.eval x = .s (.bool b)) : Does P o F σ (.s (.bool (!b))) σ :=
  does_val fun G ρ hr hop => by
    have h1 := hop x (by simp [ho, Op.operands])
    rw [hx] at h1
    exact ⟨_, by simp [execOp, ho, rep_s h1, Op.unary], .s _⟩
theorem does_notp {t : TypeId} {x : Operand} {p : Prop} [Decidable p] (ho : o.op = .unOp .not t x) (hx : F.eval x = .s (.bool (decide p))) : Does P o F σ (.s (.bool (decide (¬ p)))) σ := by
  rw [show decide (¬ p) = !decide p by simp]
  exact does_not ho hx
theorem does_neg {t : TypeId} {x : Operand} {k : IntKind} {n c : Int} (ho : o.op = .unOp .neg t x) (hx : F.eval x = .s (.int k n)) (hw : k.wrap (0 - n) = c) : Does P o F σ (.s (.int k c)) σ :=
  does_val fun G ρ hr hop => by
    have h1 := hop x (by simp [ho, Op.operands])
    rw [hx] at h1
    exact ⟨_, by simp only [execOp, ho, rep_s h1, Op.unary, Op.intArith, hw]; rfl, .s _⟩
def tyInt (P : Program) (t : TypeId) : Option IntKind := match P.underlying t with | some (.int k) => some k | _ => none
theorem does_conv {t t' : TypeId} {x : Operand} {k k' : IntKind} {n c : Int} (ho : o.op = .convert t t' x) (ht : (P.underlying t).isSome = true) (hk : tyInt P t' = some k') (hx : F.eval x = .s (.int k n)) (hw : k'.wrap n = c) : Does P o F σ (.s (.int k' c)) σ :=
  does_val fun G ρ hr hop => by
    have h1 := hop x (by simp [ho, Op.operands])
    rw [hx] at h1
    have h2 : P.underlying t' = some (.int k') := by
      unfold tyInt at hk
      split at hk
      · rename_i h3; cases hk; exact h3
      · cases hk
    obtain ⟨d, hd⟩ := Option.isSome_iff_exists.1 ht
    refine ⟨.int k' c, ?_, .s _⟩
    simp only [execOp, ho, rep_s h1, convert, Sem.run_bind, run_underlying hd, run_underlying h2, Result.andThen_ok, Conv.intToInt, hw, Sem.run_pure]
theorem does_extract {x : Operand} {i : Nat} {l : List AV} {y : AV} (ho : o.op = .extract x i) (hx : F.eval x = .tup l) (hy : l[i]? = some y) : Does P o F σ y σ :=
  does_val fun G ρ hr hop => by
    have h1 := hop x (by simp [ho, Op.operands])
    rw [hx] at h1
    generalize hv : ρ x = u at h1
    cases h1 with
    | tup vs _ hl h =>
      have hi : i < vs.size := by rw [hl]; exact (List.getElem?_eq_some_iff.1 hy).1
      exact ⟨vs[i], by simp [execOp, ho, hv, Instr.extract, hi], h i _ _ (by simp [hi]) hy⟩
theorem does_func {f : FuncId} {caps : Array Operand} {cs : List AV} (ho : o.op = .makeFunc (.func f) #[] caps) (hc : caps.toList.map F.eval = cs) : Does P o F σ (.fn f cs) σ :=
  does_val fun G ρ hr hop => by
    refine ⟨.func (.func f) #[] (caps.map ρ), by simp [execOp, ho, Instr.makeFunc], .fn f _ _ (by rw [← hc]; simp) (fun j v c hv hcj => ?_)⟩
    rw [← hc] at hcj
    simp only [Array.getElem?_map, List.getElem?_map, Array.getElem?_toList] at hv hcj
    cases hj : caps[j]? with
    | none => rw [hj] at hv; cases hv
    | some y =>
      rw [hj] at hv hcj
      simp only [Option.map_some, Option.some.injEq] at hv hcj
      subst hv hcj
      exact hop y (by simp only [ho, Op.operands]; simp; exact Array.mem_of_getElem? hj)
theorem does_nil_ptr {x : Operand} {id sz k j : Nat} (ho : o.op = .nilCheck x) (hx : F.eval x = .ptr id sz k j) : Does P o F σ (.ptr id sz k j) σ :=
  does_val fun G ρ hr hop => by
    have h1 := hop x (by simp [ho, Op.operands])
    rw [hx] at h1
    generalize hv : ρ x = u at h1
    cases h1 with
    | ptr _ _ _ _ b hm => exact ⟨_, by simp [execOp, ho, hv], .ptr id sz k j b hm⟩
theorem does_nil_fn {x : Operand} {f : FuncId} {cs : List AV} (ho : o.op = .nilCheck x) (hx : F.eval x = .fn f cs) : Does P o F σ (.fn f cs) σ :=
  does_val fun G ρ hr hop => by
    have h1 := hop x (by simp [ho, Op.operands])
    rw [hx] at h1
    generalize hv : ρ x = u at h1
    cases h1 with
    | fn _ vs _ hl h => exact ⟨_, by simp [execOp, ho, hv], .fn f vs cs hl h⟩

/-- places -/
theorem run_fieldAt {t : TypeId} {f off : Nat} {ft : TypeId} {n : Nat} (hf : tyField P t f = some (off, ft, some n)) (hn : n ≠ 0) (b i : Nat) (w : World) : (Instr.fieldAt t (.pointer (some ⟨b, i, none⟩)) f).run P w = .ok (.pointer (some ⟨b, i + off, none⟩)) w := by
  obtain ⟨fs, x, h1, h2, h3, h4, h5⟩ := field_of hf
  have h6 : (sizeOf x.type).run P w = .ok n w := by
    rw [h4]
    cases hi : P.info? ft with
    | none => rw [hi] at h5; cases h5
    | some i => rw [hi] at h5; simp only [Option.map_some, Option.some.injEq] at h5; simp [sizeOf, typeInfo, hi, h5]
  simp [Instr.fieldAt, run_underlying h1, h2, Instr.sureAddr, fieldPlace, h6, hn, h3, Addr.add_lit]
theorem does_fieldAddr_ptr {t : TypeId} {x : Operand} {f off : Nat} {ft : TypeId} {n id sz k j : Nat} (ho : o.op = .fieldAddr t x f) (hf : tyField P t f = some (off, ft, some n)) (hn : n ≠ 0) (hx : F.eval x = .ptr id sz k j) : Does P o F σ (.ptr id sz k (j + off)) σ :=
  does_val fun G ρ hr hop => by
    have h1 := hop x (by simp [ho, Op.operands])
    rw [hx] at h1
    generalize hv : ρ x = u at h1
    cases h1 with
    | ptr _ _ _ _ b hm =>
      refine ⟨.pointer (some ⟨b, k * sz + j + off, none⟩), by simp only [execOp, ho, hv, Sem.run_bind, run_fieldAt hf hn, Result.andThen_ok, Sem.run_pure], ?_⟩
      rw [Nat.add_assoc]
      exact .ptr id sz k (j + off) b hm
theorem does_fieldAddr_ref {t : TypeId} {x : Operand} {f off : Nat} {ft : TypeId} {n : Nat} {cs : List AV} (ho : o.op = .fieldAddr t x f) (hf : tyField P t f = some (off, ft, some n)) (hn : n ≠ 0) (hx : F.eval x = .ref cs) : Does P o F σ (.ref (cs.drop off)) σ :=
  does_val fun G ρ hr hop => by
    have h1 := hop x (by simp [ho, Op.operands])
    rw [hx] at h1
    generalize hv : ρ x = u at h1
    cases h1 with
    | ref b i _ val hone h2 h =>
      refine ⟨.pointer (some ⟨b, i + off, none⟩), by simp only [execOp, ho, hv, Sem.run_bind, run_fieldAt hf hn, Result.andThen_ok, Sem.run_pure], ?_⟩
      refine .ref b (i + off) _ (fun j => val (off + j)) (fun c hc => hone c (List.mem_of_mem_drop hc)) (fun j c hj => ?_) (fun j c hj => ?_)
      · rw [List.getElem?_drop] at hj
        rw [Nat.add_assoc]
        exact h2 _ c hj
      · rw [List.getElem?_drop] at hj
        exact h _ c hj
theorem run_indexAt {t e : TypeId} {z : Option Value} {sz bt : Nat} (ht : tySlice P t = some e) (he : tyInfo P e = some (z, sz, bt)) (b i m cap : Nat) (kd : IntKind) (n : Int) (h0 : 0 ≤ n) (h1 : n < m) (w : World) :
    (Instr.indexAt t (.slice (some ⟨b, i, none⟩) m cap) (.int kd n)).run P w = .ok (.pointer (some ⟨b, i + n.toNat * sz, none⟩)) w := by
  simp [Instr.indexAt, asIntOf, run_underlying (slice_of ht), h0, h1, run_sizeOf he, Addr.add_lit]
theorem does_index_sl {t e : TypeId} {x y : Operand} {z : Option Value} {sz bt : Nat} {l : List AV} {kd : IntKind} {n : Int} {k : Nat} {u : AV} (ho : o.op = .indexAddr t x y) (ht : tySlice P t = some e) (he : tyInfo P e = some (z, sz, bt))
    (hx : F.eval x = .sl l) (hy : F.eval y = .s (.int kd n)) (hk : n = (k : Int)) (hu : l[k]? = some u) (hsz : u.cells.length = sz) : Does P o F σ (.ref u.cells) σ :=
  does_val fun G ρ hr hop => by
    have h1 := hop x (by simp [ho, Op.operands])
    have h2 := hop y (by simp [ho, Op.operands])
    rw [hx] at h1
    rw [hy] at h2
    have hyv := rep_s h2
    subst hk
    have hlt := (List.getElem?_eq_some_iff.1 hu).1
    generalize hv : ρ x = v at h1
    cases h1 with
    | slnil => simp at hu
    | sl b i cap sz' _ val hc hmx hone h3 h =>
      obtain ⟨h4, h5⟩ := hone k u hu
      have hsz' : sz' = sz := h4.symm.trans hsz
      subst hsz'
      refine ⟨.pointer (some ⟨b, i + k * sz', none⟩), ?_, .ref b _ _ (val k) h5 (fun j c hj => h3 k u j c hu hj) (fun j c hj => h k u j c hu hj)⟩
      simp only [execOp, ho, hv, hyv, Sem.run_bind, run_indexAt ht he b i l.length cap kd (k : Int) (by omega) (by omega), Result.andThen_ok, Sem.run_pure, Int.toNat_natCast]
theorem does_index_own {t e : TypeId} {x y : Operand} {z : Option Value} {sz bt : Nat} {id m : Nat} {kd : IntKind} {n : Int} {k : Nat} (ho : o.op = .indexAddr t x y) (ht : tySlice P t = some e) (he : tyInfo P e = some (z, sz, bt))
    (hx : F.eval x = .own id sz m) (hy : F.eval y = .s (.int kd n)) (hk : n = (k : Int)) (hu : k < m) : Does P o F σ (.ptr id sz k 0) σ :=
  does_val fun G ρ hr hop => by
    have h1 := hop x (by simp [ho, Op.operands])
    have h2 := hop y (by simp [ho, Op.operands])
    rw [hx] at h1
    rw [hy] at h2
    have hyv := rep_s h2
    subst hk
    generalize hv : ρ x = v at h1
    cases h1 with
    | own0 => omega
    | own _ _ _ b cap hm hn hc hb =>
      refine ⟨.pointer (some ⟨b, k * sz + 0, none⟩), ?_, .ptr id sz k 0 b hm⟩
      simp only [execOp, ho, hv, hyv, Sem.run_bind, run_indexAt ht he b 0 m cap kd (k : Int) (by omega) (by omega), Result.andThen_ok, Sem.run_pure, Int.toNat_natCast, Nat.zero_add, Nat.add_zero]

/-- lengths -/
theorem run_len_slice {t e : TypeId} {x : Operand} (ht : tySlice P t = some e) (ho : o.op = .call { callee := .builtin .len, args := #[x], argTypes := #[t] }) (ρ : Operand → Value) (A : Option Addr) (n c : Nat) (hv : ρ x = .slice A n c) (w : World) :
    (execOp ρ o).run P w = .ok (.value (.int .i64 n)) w := by
  simp [execOp, ho, resolve, invoke, builtin, Builtin.len_, hv, run_underlying (slice_of ht), goInt]
theorem does_len_sl {t e : TypeId} {x : Operand} {l : List AV} (ho : o.op = .call { callee := .builtin .len, args := #[x], argTypes := #[t] }) (ht : tySlice P t = some e) (hx : F.eval x = .sl l) : Does P o F σ (.s (.int .i64 (l.length : Nat))) σ :=
  does_val fun G ρ hr hop => by
    have h1 := hop x (by simp [ho, Op.operands, Call.operands])
    rw [hx] at h1
    generalize hv : ρ x = v at h1
    cases h1 with
    | slnil => exact ⟨_, run_len_slice ht ho ρ _ _ _ hv _, .s _⟩
    | sl b i cap sz' _ val hc hmx hone h3 h => exact ⟨_, run_len_slice ht ho ρ _ _ _ hv _, .s _⟩
theorem does_len_own {t e : TypeId} {x : Operand} {id sz n : Nat} (ho : o.op = .call { callee := .builtin .len, args := #[x], argTypes := #[t] }) (ht : tySlice P t = some e) (hx : F.eval x = .own id sz n) : Does P o F σ (.s (.int .i64 (n : Nat))) σ :=
  does_val fun G ρ hr hop => by
    have h1 := hop x (by simp [ho, Op.operands, Call.operands])
    rw [hx] at h1
    generalize hv : ρ x = v at h1
    cases h1 with
    | own0 => exact ⟨_, run_len_slice ht ho ρ _ _ _ hv _, .s _⟩
    | own _ _ _ b cap hm hn hc hb => exact ⟨_, run_len_slice ht ho ρ _ _ _ hv _, .s _⟩
theorem does_len_s {t e : TypeId} {x : Operand} {A : Option Addr} {n c : Nat} (ho : o.op = .call { callee := .builtin .len, args := #[x], argTypes := #[t] }) (ht : tySlice P t = some e) (hx : F.eval x = .s (.slice A n c)) : Does P o F σ (.s (.int .i64 (n : Nat))) σ :=
  does_val fun G ρ hr hop => by
    have h1 := hop x (by simp [ho, Op.operands, Call.operands])
    rw [hx] at h1
    exact ⟨_, run_len_slice ht ho ρ _ _ _ (rep_s h1) _, .s _⟩
def tyString (P : Program) (t : TypeId) : Bool := match P.underlying t with | some .string => true | _ => false
theorem string_of {t : TypeId} (h : tyString P t = true) : P.underlying t = some .string := by
  unfold tyString at h
  split at h
  · assumption
  · cases h
theorem does_len_str {t : TypeId} {x : Operand} {b : ByteArray} (ho : o.op = .call { callee := .builtin .len, args := #[x], argTypes := #[t] }) (ht : tyString P t = true) (hx : F.eval x = .s (.string b)) : Does P o F σ (.s (.int .i64 (b.size : Nat))) σ :=
  does_val fun G ρ hr hop => by
    have h1 := hop x (by simp [ho, Op.operands, Call.operands])
    rw [hx] at h1
    exact ⟨_, by simp [execOp, ho, resolve, invoke, builtin, Builtin.len_, rep_s h1, run_underlying (string_of ht), goInt], .s _⟩
theorem does_index_str {t : TypeId} {x y : Operand} {b : ByteArray} {kd : IntKind} {n : Int} {k : Nat} {u : UInt8} (ho : o.op = .index t x y) (ht : tyString P t = true) (hx : F.eval x = .s (.string b)) (hy : F.eval y = .s (.int kd n)) (hk : n = (k : Int)) (hu : b[k]? = some u) : Does P o F σ (.s (.int .u8 (u.toNat : Nat))) σ :=
  does_val fun G ρ hr hop => by
    have h1 := hop x (by simp [ho, Op.operands])
    have h2 := hop y (by simp [ho, Op.operands])
    rw [hx] at h1
    rw [hy] at h2
    subst hk
    exact ⟨_, by simp [execOp, ho, Instr.index, rep_s h1, rep_s h2, asIntOf, run_underlying (string_of ht), hu], .s _⟩

/-- loads -/
theorem run_load_one {t : TypeId} (ha : tyAgg P t = some false) {b i : Nat} {v : Value} {w : World} (h : w.cell? ⟨b, i, none⟩ = some v) : (Instr.loadAt t (.pointer (some ⟨b, i, none⟩))).run P w = .ok v w := by
  simp [Instr.loadAt, Instr.sureAddr, loadVar, run_isAgg ha, h]
theorem run_load_agg {t : TypeId} {z : Option Value} {n bt : Nat} (ha : tyAgg P t = some true) (hi : tyInfo P t = some (z, n, bt)) {b i : Nat} {f : Nat → Value} {w : World} (h : ∀ j, j < n → w.cell? ⟨b, i + j, none⟩ = some (f j)) :
    (Instr.loadAt t (.pointer (some ⟨b, i, none⟩))).run P w = .ok (.agg ((List.range n).map f).toArray) w := by
  have h1 := run_loadCells (P := P) w ⟨b, i, none⟩ n f (fun j hj => by rw [Addr.add_lit]; exact h j hj)
  simp [Instr.loadAt, Instr.sureAddr, loadVar, run_isAgg ha, run_sizeOf hi, h1]
theorem does_load_ref {t : TypeId} {x : Operand} {c : AV} {cs : List AV} (ho : o.op = .load t x) (ha : tyAgg P t = some false) (hx : F.eval x = .ref (c :: cs)) : Does P o F σ c σ :=
  does_val fun G ρ hr hop => by
    have h1 := hop x (by simp [ho, Op.operands])
    rw [hx] at h1
    generalize hv : ρ x = v at h1
    cases h1 with
    | ref b i _ val hone h2 h =>
      have h3 : G.w.cell? ⟨b, i, none⟩ = some (val 0) := (h2 0 c rfl).2
      exact ⟨val 0, by simp only [execOp, ho, hv, Sem.run_bind, run_load_one ha h3, Result.andThen_ok, Sem.run_pure], h 0 c rfl⟩
theorem does_load_refs {t : TypeId} {x : Operand} {z : Option Value} {n bt : Nat} {cs : List AV} (ho : o.op = .load t x) (ha : tyAgg P t = some true) (hi : tyInfo P t = some (z, n, bt)) (hx : F.eval x = .ref cs) (hn : n ≤ cs.length) : Does P o F σ (.agg (cs.take n)) σ :=
  does_val fun G ρ hr hop => by
    have h1 := hop x (by simp [ho, Op.operands])
    rw [hx] at h1
    generalize hv : ρ x = v at h1
    cases h1 with
    | ref b i _ val hone h2 h =>
      have h3 := run_load_agg (P := P) ha hi (w := G.w) (b := b) (i := i) (f := val) (fun j hj => (h2 j _ (List.getElem?_eq_getElem (by omega))).2)
      refine ⟨.agg ((List.range n).map val).toArray, by simp only [execOp, ho, hv, Sem.run_bind, h3, Result.andThen_ok, Sem.run_pure], ?_⟩
      refine .agg _ _ (by simp; omega) (fun c hc => hone c (List.mem_of_mem_take hc)) (fun j v c hv hc => ?_)
      rw [List.getElem?_take] at hc
      split at hc
      · rename_i hj
        simp [hj] at hv
        subst hv
        exact h j c hc
      · cases hc
/-- cells of the call's own that can be read -/
def rowOf : Ob → Option (Nat × List AV)
  | .row sz cs => some (sz, cs)
  | .fz sz cs => some (sz, cs)
  | .dead => none
  | .mp _ => none
theorem row_read {G : Cx} {id sz k b : Nat} {ob : Ob} {cs : List AV} {e : AV} (hr : Rel G σ) (hs : σ[id]? = some ob) (ho : rowOf ob = some (sz, cs)) (hm : G.mu id = some (some b)) (he : cs[k]? = some e) :
    ∃ f : Nat → Value, e.cells.length = sz ∧ (∀ c ∈ e.cells, c.one = true) ∧ ∀ (j : Nat) c, e.cells[j]? = some c → G.w.cell? ⟨b, k * sz + j, none⟩ = some (f j) ∧ Rep G (f j) c := by
  have key : ∀ fr, RowAt G b sz cs fr → ∃ f : Nat → Value, e.cells.length = sz ∧ (∀ c ∈ e.cells, c.one = true) ∧ ∀ (j : Nat) c, e.cells[j]? = some c → G.w.cell? ⟨b, k * sz + j, none⟩ = some (f j) ∧ Rep G (f j) c := by
    rintro fr ⟨cur, t, f, h1, _, h2, h3⟩
    obtain ⟨h4, h5, h6⟩ := h3 k e he
    refine ⟨fun j => cur.getD (k * sz + j) undef, h4, h5, fun j c hc => ?_⟩
    obtain ⟨v, h7, h8⟩ := h6 j c hc
    have h9 : cur.getD (k * sz + j) undef = v := by rw [Array.getD_eq_getD_getElem?, h7]; rfl
    refine ⟨?_, by dsimp only; rw [h9]; exact h8⟩
    rw [cell_of_row _ b _ cur t f h1, h7]; dsimp only; rw [h9]
  have h1 := hr.obs id ob hs
  cases ob with
  | dead => cases ho
  | mp X => cases ho
  | row sz' cs' =>
    simp only [rowOf, Option.some.injEq, Prod.mk.injEq] at ho
    obtain ⟨rfl, rfl⟩ := ho
    simp only [ObOk, hm] at h1
    exact key _ h1.1
  | fz sz' cs' =>
    simp only [rowOf, Option.some.injEq, Prod.mk.injEq] at ho
    obtain ⟨rfl, rfl⟩ := ho
    simp only [ObOk, hm] at h1
    exact key _ h1.1
theorem does_load_ptr {t : TypeId} {x : Operand} {id sz k j : Nat} {ob : Ob} {cs : List AV} {e c : AV} (ho : o.op = .load t x) (ha : tyAgg P t = some false) (hx : F.eval x = .ptr id sz k j) (hs : σ[id]? = some ob) (hb : rowOf ob = some (sz, cs)) (he : cs[k]? = some e) (hc : e.cells[j]? = some c) : Does P o F σ c σ :=
  does_val fun G ρ hr hop => by
    have h1 := hop x (by simp [ho, Op.operands])
    rw [hx] at h1
    generalize hv : ρ x = v at h1
    cases h1 with
    | ptr _ _ _ _ b hm =>
      obtain ⟨f, _, _, h2⟩ := row_read hr hs hb hm he
      obtain ⟨h3, h4⟩ := h2 j c hc
      exact ⟨f j, by simp only [execOp, ho, hv, Sem.run_bind, run_load_one ha h3, Result.andThen_ok, Sem.run_pure], h4⟩
theorem does_load_ptrs {t : TypeId} {x : Operand} {z : Option Value} {n bt : Nat} {id sz k j : Nat} {ob : Ob} {cs : List AV} {e : AV} (ho : o.op = .load t x) (ha : tyAgg P t = some true) (hi : tyInfo P t = some (z, n, bt)) (hx : F.eval x = .ptr id sz k j) (hs : σ[id]? = some ob) (hb : rowOf ob = some (sz, cs)) (he : cs[k]? = some e) (hn : j + n ≤ e.cells.length) : Does P o F σ (.agg ((e.cells.drop j).take n)) σ :=
  does_val fun G ρ hr hop => by
    have h1 := hop x (by simp [ho, Op.operands])
    rw [hx] at h1
    generalize hv : ρ x = v at h1
    cases h1 with
    | ptr _ _ _ _ b hm =>
      obtain ⟨f, _, hone, h2⟩ := row_read hr hs hb hm he
      have h3 := run_load_agg (P := P) ha hi (w := G.w) (b := b) (i := k * sz + j) (f := fun i => f (j + i)) (fun i hi => by rw [Nat.add_assoc]; exact (h2 (j + i) _ (List.getElem?_eq_getElem (by omega))).1)
      refine ⟨.agg ((List.range n).map (fun i => f (j + i))).toArray, by simp only [execOp, ho, hv, Sem.run_bind, h3, Result.andThen_ok, Sem.run_pure], ?_⟩
      refine .agg _ _ (by simp; omega) (fun c hc => hone c (List.mem_of_mem_drop (List.mem_of_mem_take hc))) (fun i v c hv hc => ?_)
      rw [List.getElem?_take] at hc
      split at hc
      · rename_i hj
        simp [hj] at hv
        subst hv
        rw [List.getElem?_drop] at hc
        exact (h2 _ c hc).2
      · cases hc
theorem does_load_whole {t : TypeId} {x : Operand} {z : Option Value} {n bt : Nat} {id sz k : Nat} {ob : Ob} {cs : List AV} {e : AV} (ho : o.op = .load t x) (ha : tyAgg P t = some true) (hi : tyInfo P t = some (z, n, bt)) (hx : F.eval x = .ptr id sz k 0) (hs : σ[id]? = some ob) (hb : rowOf ob = some (sz, cs)) (he : cs[k]? = some e) (hn : e.cells.length = n) : Does P o F σ (.agg e.cells) σ := by
  have := does_load_ptrs (P := P) (F := F) (σ := σ) ho ha hi hx hs hb he (by omega)
  rwa [List.drop_zero, ← hn, List.take_length] at this
theorem does_field {t : TypeId} {x : Operand} {f off : Nat} {ft : TypeId} {n : Option Nat} {cs : List AV} {c : AV} (ho : o.op = .field t x f) (hf : tyField P t f = some (off, ft, n)) (ha : tyAgg P ft = some false) (hx : F.eval x = .agg cs) (hc : cs[off]? = some c) : Does P o F σ c σ :=
  does_val fun G ρ hr hop => by
    have h1 := hop x (by simp [ho, Op.operands])
    rw [hx] at h1
    generalize hv : ρ x = v at h1
    obtain ⟨fs, fl, h2, h3, h4, h5, h6⟩ := field_of hf
    cases h1 with
    | agg vs _ hl hone h =>
      have hi : off < vs.size := by rw [hl]; exact (List.getElem?_eq_some_iff.1 hc).1
      refine ⟨vs[off], ?_, h off _ _ (by simp [hi]) hc⟩
      simp [execOp, ho, hv, Instr.field, run_underlying h2, h3, asAgg, part, h5, run_isAgg ha, h4, hi]
theorem does_fields {t : TypeId} {x : Operand} {f off : Nat} {ft : TypeId} {n : Nat} {z : Option Value} {bt : Nat} {cs : List AV} (ho : o.op = .field t x f) (hf : tyField P t f = some (off, ft, some n)) (ha : tyAgg P ft = some true) (hi : tyInfo P ft = some (z, n, bt)) (hx : F.eval x = .agg cs) : Does P o F σ (.agg ((cs.drop off).take n)) σ :=
  does_val fun G ρ hr hop => by
    have h1 := hop x (by simp [ho, Op.operands])
    rw [hx] at h1
    generalize hv : ρ x = v at h1
    obtain ⟨fs, fl, h2, h3, h4, h5, h6⟩ := field_of hf
    cases h1 with
    | agg vs _ hl hone h =>
      refine ⟨.agg (vs.extract off (off + n)), ?_, .agg _ _ (by simp; omega) (fun c hc => hone c (List.mem_of_mem_drop (List.mem_of_mem_take hc))) (fun j v c hv hc => ?_)⟩
      · simp [execOp, ho, hv, Instr.field, run_underlying h2, h3, asAgg, part, h5, run_isAgg ha, h4, run_sizeOf hi]
      · rw [List.getElem?_take] at hc
        split at hc
        · rename_i hj
          rw [List.getElem?_drop] at hc
          rw [Array.getElem?_extract] at hv
          split at hv
          · exact h _ _ _ hv hc
          · cases hv
        · cases hc
end
end Go.Proofs.YtanfaepjamkbjaaGreat.Aw
end
section
namespace Go.Proofs.YtanfaepjamkbjaaGreat.Aw
set_option linter.unusedSimpArgs false
set_option linter.unusedVariables false
open Go.RowKit

/-- the cells of a value -/
theorem rep_cells {G : Cx} {v : Value} {x : AV} (h : Rep G v x) (h1 : ∀ c ∈ x.cells, c.one = true) : v.cells.size = x.cells.length ∧ ∀ (j : Nat) u c, v.cells[j]? = some u → x.cells[j]? = some c → Rep G u c ∧ u.oneCell' = true := by
  by_cases hx : ∃ cs, x = .agg cs
  · obtain ⟨cs, rfl⟩ := hx
    cases h with
    | agg vs _ hl hone h =>
      exact ⟨hl, fun j u c hu hc => ⟨h j u c hu hc, (h j u c hu hc).one (hone c (List.mem_of_getElem? hc))⟩⟩
  · have hxc : x.cells = [x] := by cases x <;> first | rfl | (exact absurd ⟨_, rfl⟩ hx)
    have hone : x.one = true := h1 x (by rw [hxc]; simp)
    have hvo := h.one hone
    have hv : v.cells = #[v] := by cases v <;> first | rfl | (simp [Value.oneCell'] at hvo)
    rw [hxc, hv]
    refine ⟨rfl, fun j u c hu hc => ?_⟩
    cases j with
    | zero => simp at hu hc; subst hu hc; exact ⟨h, hvo⟩
    | succ j => simp at hc

theorem below_setRow {B : Nat} {w0 w : World} (h : Below B w0 w) {b : Nat} (hb : B ≤ b) (cs : Array Value) : Below B w0 (w.setRow b cs) :=
  h.trans ⟨rfl, rfl, rfl, by simp [World.setRow], fun k hk => setRow_other w b k cs (by omega)⟩

theorem ObOk.of {G G' : Cx} {id : Nat} {ob : Ob} (h : ObOk G id ob) (hm : G'.mu id = G.mu id) (hb : G'.base = G.base) (hst : G'.St = G.St) (hsz : G.w.heap.size ≤ G'.w.heap.size) (hrow : ∀ b sz cs f, G.mu id = some (some b) → (ob = .row sz cs ∨ ob = .fz sz cs) → RowAt G b sz cs f → RowAt G' b sz cs f)
    (hmap : ∀ b X, G.mu id = some (some b) → X.At G.w b → ob = .mp X → G'.w.heap[b]? = G.w.heap[b]? ∧ ∀ j, G'.mu j = some (some b) → G.mu j = some (some b)) : ObOk G' id ob := by
  cases ob with
  | dead => exact fun b h1 => Nat.lt_of_lt_of_le (h b (by rw [← hm]; exact h1)) hsz
  | mp X =>
    obtain ⟨b, h1, h2, h3, h4, h5⟩ := h
    obtain ⟨g1, g2⟩ := hmap b X h1 h2 rfl
    exact ⟨b, hm.trans h1, h2.keep g1, by rw [hb]; exact h3, by rw [hst]; exact h4, fun j hj => h5 j (g2 j hj)⟩
  | row sz cs =>
    simp only [ObOk] at h ⊢
    rw [hm, hb, hst]
    cases hx : G.mu id with
    | none => rw [hx] at h; exact h
    | some x =>
      rw [hx] at h
      cases x with
      | none => exact h
      | some b => exact ⟨hrow b sz cs _ hx (.inl rfl) h.1, h.2⟩
  | fz sz cs =>
    simp only [ObOk] at h ⊢
    rw [hm, hst]
    cases hx : G.mu id with
    | none => rw [hx] at h; exact h
    | some x =>
      rw [hx] at h
      cases x with
      | none => exact h
      | some b => exact ⟨hrow b sz cs _ hx (.inr rfl) h.1, h.2⟩

section
variable {G : Cx} {σ : List Ob}

/-- a new row -/
def Cx.new (G : Cx) (id : Nat) (w : World) (b : Option Nat) : Cx := { G with w := w, mu := fun i => if i = id then some b else G.mu i }
theorem alloc_ext (hr : Rel G σ) (w : World) (hw : w.heap = G.w.heap) (cells : Array Value) (e : TypeId) : G.Ext (G.new σ.length (w.alloc (.cells cells e)) (some G.w.heap.size)) := by
  have hsz : w.heap.size = G.w.heap.size := by rw [hw]
  have hold : ∀ k, k < G.w.heap.size → (w.alloc (.cells cells e)).heap[k]? = G.w.heap[k]? := fun k hk => by rw [heap_alloc_old (r := k) w _ (by omega), hw]
  refine ⟨rfl, rfl, fun _ _ h => h, fun b o h => World.cell?_of_block (hold b (hr.st b o h)), fun id x h => ?_, by simp [Cx.new, hsz], fun b cur t f h => ⟨cur, ?_, rfl⟩, fun _ _ h => .inl h⟩
  · have : id ≠ σ.length := by
      intro e2
      rw [e2, hr.fresh _ (Nat.le_refl _)] at h
      cases h
    simp [Cx.new, this, h]
  · exact (hold b (Array.getElem?_eq_some_iff.1 h).1).trans h

theorem alloc_rel (hr : Rel G σ) (w : World) (hw : w.heap = G.w.heap) (hbw : Below G.base G.w0 w) (cells : Array Value) (e : TypeId) (sz : Nat) (cs : List AV) (hn : cs.length * sz ≤ cells.size)
    (h : ∀ (k : Nat) x, cs[k]? = some x → x.cells.length = sz ∧ (∀ c ∈ x.cells, c.one = true) ∧ ∀ (j : Nat) c, x.cells[j]? = some c → ∃ v, cells[k * sz + j]? = some v ∧ Rep G v c) :
    Rel (G.new σ.length (w.alloc (.cells cells e)) (some G.w.heap.size)) (σ ++ [.row sz cs]) := by
  have hext := alloc_ext hr w hw cells e
  have hsz : w.heap.size = G.w.heap.size := by rw [hw]
  have hble : G.base ≤ G.w.heap.size := by have h1 := hr.le; have h2 := hr.below.size; omega
  refine ⟨hbw.alloc (by omega) _, hr.le, fun b o hb => ?_, fun id ob hob => ?_, fun i j b hi hj hmi hmj => ?_, fun id hid => ?_⟩
  · have := hr.st b o hb
    simp only [Cx.new, World.size_alloc]; omega
  · by_cases hid : id < σ.length
    · rw [List.getElem?_append_left hid] at hob
      have h1 := hr.obs id ob hob
      have hne : id ≠ σ.length := by omega
      have hm : (G.new σ.length (w.alloc (.cells cells e)) (some G.w.heap.size)).mu id = G.mu id := by simp [Cx.new, hne]
      have key : ∀ b sz cs f, RowAt G b sz cs f → RowAt (G.new σ.length (w.alloc (.cells cells e)) (some G.w.heap.size)) b sz cs f := by
        rintro b sz cs f ⟨cur, t, fr, h2, h3, h4, h5⟩
        refine ⟨cur, t, fr, ?_, h3, h4, fun k x hx => ⟨(h5 k x hx).1, (h5 k x hx).2.1, fun j c hc => ?_⟩⟩
        · exact ((heap_alloc_old (r := b) w _ (by have := (Array.getElem?_eq_some_iff.1 h2).1; omega)).trans (by rw [hw])).trans h2
        · obtain ⟨v, h6, h7⟩ := (h5 k x hx).2.2 j c hc
          exact ⟨v, h6, h7.ext hext⟩
      exact h1.of hm rfl rfl (by simp [Cx.new, hsz]) (fun b sz cs f _ _ hx => key b sz cs f hx) (fun b X hb hX _ => ⟨(heap_alloc_old (r := b) w _ (by have := hX.lt; omega)).trans (by rw [hw]), fun j hj => by
        by_cases e2 : j = σ.length
        · subst e2
          have := hX.lt
          simp [Cx.new] at hj
          omega
        · simpa [Cx.new, e2] using hj⟩)
    · have hid2 : id = σ.length := by
        have := (List.getElem?_eq_some_iff.1 hob).1
        simp at this; omega
      subst hid2
      simp at hob
      subst hob
      simp only [ObOk, Cx.new, if_true]
      refine ⟨⟨cells, e, (0, 0), ?_, rfl, hn, fun k x hx => ⟨(h k x hx).1, (h k x hx).2.1, fun j c hc => ?_⟩⟩, hble, fun o ho => ?_⟩
      · show (w.alloc (.cells cells e)).heap[G.w.heap.size]? = _
        rw [← hsz]; exact heap_alloc_new w _
      · obtain ⟨v, h6, h7⟩ := (h k x hx).2.2 j c hc
        exact ⟨v, h6, h7.ext hext⟩
      · have := hr.st _ _ ho
        omega
  · -- of two rows in one block
    have old : ∀ i b, alive (σ ++ [.row sz cs]) i → (G.new σ.length (w.alloc (.cells cells e)) (some G.w.heap.size)).mu i = some (some b) → (i = σ.length ∧ b = G.w.heap.size) ∨ (i < σ.length ∧ alive σ i ∧ G.mu i = some (some b) ∧ b < G.w.heap.size) := by
      rintro i b ⟨sz1, cs1, hi⟩ hm
      by_cases hlt : i < σ.length
      · right
        rw [List.getElem?_append_left hlt] at hi
        have hm2 : G.mu i = some (some b) := by simpa [Cx.new, Nat.ne_of_lt hlt] using hm
        refine ⟨hlt, ⟨sz1, cs1, hi⟩, hm2, ?_⟩
        have h1 := hr.obs i _ hi
        simp only [ObOk, hm2] at h1
        obtain ⟨⟨cur, t, fr, h2, _⟩, _⟩ := h1
        exact (Array.getElem?_eq_some_iff.1 h2).1
      · left
        have := (List.getElem?_eq_some_iff.1 hi).1
        simp at this
        have he : i = σ.length := by omega
        subst he
        simp [Cx.new] at hm
        exact ⟨rfl, hm.symm⟩
    rcases old i b hi hmi with ⟨rfl, hb1⟩ | ⟨h1, h2, h3, h4⟩ <;> rcases old j b hj hmj with ⟨rfl, hb2⟩ | ⟨g1, g2, g3, g4⟩
    · rfl
    · omega
    · omega
    · exact hr.inj i j b h2 g2 h3 g3
  · simp at hid
    have hne : id ≠ σ.length := by omega
    simp [Cx.new, hne, hr.fresh id (by omega)]

/-- a row of nothing, without a block -/
theorem nil_ext (hr : Rel G σ) : G.Ext (G.new σ.length G.w none) := by
  refine ⟨rfl, rfl, fun _ _ h => h, fun _ _ _ => rfl, fun id x h => ?_, Nat.le_refl _, RowsKept.refl _, fun _ _ h => .inl h⟩
  have : id ≠ σ.length := by
    intro e2
    rw [e2, hr.fresh _ (Nat.le_refl _)] at h
    cases h
  simp [Cx.new, this, h]
theorem RowAt.ext {G' : Cx} (e : G.Ext G') (hw : G'.w = G.w) {b sz : Nat} {cs : List AV} {f : Nat × Nat → Prop} (h : RowAt G b sz cs f) : RowAt G' b sz cs f := by
  obtain ⟨cur, t, fr, h2, h3, h4, h5⟩ := h
  refine ⟨cur, t, fr, by rw [hw]; exact h2, h3, h4, fun k x hx => ⟨(h5 k x hx).1, (h5 k x hx).2.1, fun j c hc => ?_⟩⟩
  obtain ⟨v, h6, h7⟩ := (h5 k x hx).2.2 j c hc
  exact ⟨v, h6, h7.ext e⟩
theorem nil_rel (hr : Rel G σ) (sz : Nat) : Rel (G.new σ.length G.w none) (σ ++ [.row sz []]) := by
  have hext := nil_ext hr
  refine ⟨hr.below, hr.le, hr.st, fun id ob hob => ?_, fun i j b hi hj hmi hmj => ?_, fun id hid => ?_⟩
  · by_cases hid : id < σ.length
    · rw [List.getElem?_append_left hid] at hob
      have h1 := hr.obs id ob hob
      have hm : (G.new σ.length G.w none).mu id = G.mu id := by simp [Cx.new, Nat.ne_of_lt hid]
      exact h1.of hm rfl rfl (Nat.le_refl _) (fun b sz cs f _ _ hx => hx.ext hext rfl) (fun b X hb hX _ => ⟨rfl, fun j hj => by
        by_cases e2 : j = σ.length
        · subst e2; simp [Cx.new] at hj
        · simpa [Cx.new, e2] using hj⟩)
    · have hid2 : id = σ.length := by
        have := (List.getElem?_eq_some_iff.1 hob).1
        simp at this; omega
      subst hid2
      simp at hob
      subst hob
      simp [ObOk, Cx.new]
  · have old : ∀ i b, alive (σ ++ [.row sz []]) i → (G.new σ.length G.w none).mu i = some (some b) → alive σ i ∧ G.mu i = some (some b) := by
      rintro i b ⟨sz1, cs1, hi⟩ hm
      by_cases hlt : i < σ.length
      · rw [List.getElem?_append_left hlt] at hi
        exact ⟨⟨sz1, cs1, hi⟩, by simpa [Cx.new, Nat.ne_of_lt hlt] using hm⟩
      · have := (List.getElem?_eq_some_iff.1 hi).1
        simp at this
        have he : i = σ.length := by omega
        subst he
        simp [Cx.new] at hm
    exact hr.inj i j b (old i b hi hmi).1 (old j b hj hmj).1 (old i b hi hmi).2 (old j b hj hmj).2
  · simp at hid
    have hne : id ≠ σ.length := by omega
    simp [Cx.new, hne, hr.fresh id (by omega)]

/-- a row is written -/
theorem write_ext {id b sz : Nat} {cs : List AV} {cur cur' : Array Value} {e : TypeId} (hr : Rel G σ) (hs : σ[id]? = some (.row sz cs)) (hm : G.mu id = some (some b)) (hcur : G.w.heap[b]? = some (.cells cur e (0, 0))) (hsz : cur'.size = cur.size) :
    G.Ext { G with w := G.w.setRow b cur' } := by
  have h1 := hr.obs id _ hs
  simp only [ObOk, hm] at h1
  refine ⟨rfl, rfl, fun _ _ h => h, fun b' o h => ?_, fun _ _ h => h, by simp [World.setRow], fun b' c t f h => ?_, fun _ _ h => .inl h⟩
  · have hne : b' ≠ b := fun e => h1.2.2 o (e ▸ h)
    exact World.cell?_of_block (setRow_other _ b b' cur' hne)
  · by_cases hb : b' = b
    · subst hb
      rw [hcur] at h
      cases h
      exact ⟨cur', setRow_heap _ _ cur cur' _ _ hcur, hsz⟩
    · exact ⟨c, (setRow_other _ b b' cur' hb).trans h, rfl⟩
theorem write_rel {id b sz : Nat} {cs cs' : List AV} {cur cur' : Array Value} {e : TypeId} (hr : Rel G σ) (hs : σ[id]? = some (.row sz cs)) (hm : G.mu id = some (some b)) (hcur : G.w.heap[b]? = some (.cells cur e (0, 0))) (hsz : cur'.size = cur.size)
    (hn : cs'.length * sz ≤ cur'.size)
    (h : ∀ (k : Nat) x, cs'[k]? = some x → x.cells.length = sz ∧ (∀ c ∈ x.cells, c.one = true) ∧ ∀ (j : Nat) c, x.cells[j]? = some c → ∃ v, cur'[k * sz + j]? = some v ∧ Rep G v c) :
    Rel { G with w := G.w.setRow b cur' } (σ.set id (.row sz cs')) := by
  have hext := write_ext hr hs hm hcur hsz
  have h1 := hr.obs id _ hs
  simp only [ObOk, hm] at h1
  have hid : id < σ.length := (List.getElem?_eq_some_iff.1 hs).1
  refine ⟨below_setRow hr.below h1.2.1 cur', hr.le, fun b' o hb => by simpa [World.setRow] using hr.st b' o hb, fun i ob hob => ?_, fun i j b' hi hj hmi hmj => ?_, fun i hi => hr.fresh i (by simpa using hi)⟩
  · by_cases hi : id = i
    · subst hi
      rw [List.getElem?_set_self hid] at hob
      cases hob
      simp only [ObOk, hm]
      refine ⟨⟨cur', e, (0, 0), setRow_heap _ _ cur cur' _ _ hcur, rfl, hn, fun k x hx => ⟨(h k x hx).1, (h k x hx).2.1, fun j c hc => ?_⟩⟩, h1.2.1, h1.2.2⟩
      obtain ⟨v, h6, h7⟩ := (h k x hx).2.2 j c hc
      exact ⟨v, h6, h7.ext hext⟩
    · rw [List.getElem?_set_ne hi] at hob
      have h2 := hr.obs i ob hob
      have key : ∀ b' sz cs f, b' ≠ b → RowAt G b' sz cs f → RowAt { G with w := G.w.setRow b cur' } b' sz cs f := by
        rintro b' sz cs f hne ⟨cu, t, fr, h2, h3, h4, h5⟩
        refine ⟨cu, t, fr, (setRow_other _ b b' cur' hne).trans h2, h3, h4, fun k x hx => ⟨(h5 k x hx).1, (h5 k x hx).2.1, fun j c hc => ?_⟩⟩
        obtain ⟨v, h6, h7⟩ := (h5 k x hx).2.2 j c hc
        exact ⟨v, h6, h7.ext hext⟩
      refine h2.of rfl rfl rfl (by simp [World.setRow]) (fun b' sz2 cs2 f hb' hob2 hx => by
        by_cases e2 : b' = b
        · subst e2
          rcases hob2 with rfl | rfl
          · exact absurd (hr.inj id i b' ⟨sz, cs, hs⟩ ⟨sz2, cs2, hob⟩ hm hb') hi
          · -- a finished row in this block can have no cells
            simp only [ObOk, hb'] at h2
            obtain ⟨cu, t, fr, h3, h4, h5⟩ := hx
            have h3' := h3
            rw [hcur] at h3'
            cases h3'
            refine ⟨cur', e, (0, 0), setRow_heap _ _ cur cur' _ _ hcur, h4, by rw [hsz]; exact h5.1, fun k x hx => ⟨(h5.2 k x hx).1, (h5.2 k x hx).2.1, fun j c hc => ?_⟩⟩
            exact absurd (h2.2 k x j hx (List.getElem?_eq_some_iff.1 hc).1) (h1.2.2 _)
        · exact key b' _ _ _ e2 hx) (fun b' X hb' hX _ => ⟨setRow_other _ b b' cur' (fun e2 => by
        obtain ⟨es, cl, h3⟩ := hX.map
        rw [e2, hcur] at h3; cases h3), fun j hj => hj⟩)
  · have old : ∀ i, alive (σ.set id (.row sz cs')) i → alive σ i := by
      rintro i ⟨sz1, cs1, hi⟩
      by_cases h2 : id = i
      · subst h2; exact ⟨sz, cs, hs⟩
      · rw [List.getElem?_set_ne h2] at hi; exact ⟨sz1, cs1, hi⟩
    exact hr.inj i j b' (old i hi) (old j hj) hmi hmj
/-- a thing is dead -/
theorem kill_rel (hr : Rel G σ) (id : Nat) : Rel G (σ.set id .dead) := by
  refine ⟨hr.below, hr.le, hr.st, fun i ob hob => ?_, fun i j b hi hj hmi hmj => ?_, fun i hi => hr.fresh i (by simpa using hi)⟩
  · by_cases h : id = i
    · subst h
      have hid : id < σ.length := by simpa using (List.getElem?_eq_some_iff.1 hob).1
      rw [List.getElem?_set_self hid] at hob
      cases hob
      exact fun b hb => (hr.obs id _ (List.getElem?_eq_getElem hid)).lt hb
    · rw [List.getElem?_set_ne h] at hob; exact hr.obs i ob hob
  · have old : ∀ i, alive (σ.set id .dead) i → alive σ i := by
      rintro i ⟨sz1, cs1, hi⟩
      by_cases h2 : id = i
      · subst h2
        have hid : id < σ.length := by simpa using (List.getElem?_eq_some_iff.1 hi).1
        rw [List.getElem?_set_self hid] at hi
        cases hi
      · rw [List.getElem?_set_ne h2] at hi; exact ⟨sz1, cs1, hi⟩
    exact hr.inj i j b (old i hi) (old j hj) hmi hmj
/-- a row goes on under a new name -/
theorem rename_rel {id sz : Nat} {b : Option Nat} {cs : List AV} (hr : Rel G σ) (hs : σ[id]? = some (.row sz cs)) (hm : G.mu id = some b) : Rel (G.new σ.length G.w b) (σ.set id .dead ++ [.row sz cs]) ∧ G.Ext (G.new σ.length G.w b) := by
  have hext : G.Ext (G.new σ.length G.w b) := by
    refine ⟨rfl, rfl, fun _ _ h => h, fun _ _ _ => rfl, fun id x h => ?_, Nat.le_refl _, RowsKept.refl _, fun _ _ h => .inl h⟩
    have : id ≠ σ.length := by
      intro e2
      rw [e2, hr.fresh _ (Nat.le_refl _)] at h
      cases h
    simp [Cx.new, this, h]
  have hr2 := kill_rel hr id
  have hid : id < σ.length := (List.getElem?_eq_some_iff.1 hs).1
  refine ⟨⟨hr.below, hr.le, hr.st, fun i ob hob => ?_, fun i j b' hi hj hmi hmj => ?_, fun i hi => ?_⟩, hext⟩
  · by_cases hi : i < σ.length
    · rw [List.getElem?_append_left (by simpa using hi)] at hob
      have h1 := hr2.obs i ob hob
      have hm2 : (G.new σ.length G.w b).mu i = G.mu i := by simp [Cx.new, Nat.ne_of_lt hi]
      exact h1.of hm2 rfl rfl (Nat.le_refl _) (fun b sz cs f _ _ hx => hx.ext hext rfl) (fun b' X hb' hX _ => ⟨rfl, fun j hj => by
        by_cases e2 : j = σ.length
        · subst e2
          simp [Cx.new] at hj
          subst hj
          have h3 := hr.obs id _ hs
          simp only [ObOk, hm] at h3
          obtain ⟨⟨cu, te, fr, h4, _⟩, _⟩ := h3
          obtain ⟨es, cl, h5⟩ := hX.map
          rw [h4] at h5; cases h5
        · simpa [Cx.new, e2] using hj⟩)
    · have hi2 : i = σ.length := by
        have := (List.getElem?_eq_some_iff.1 hob).1
        simp at this; omega
      subst hi2
      rw [List.getElem?_append_right (by simp)] at hob
      simp at hob
      subst hob
      have h1 := hr.obs id _ hs
      simp only [ObOk, hm] at h1
      have hm3 : (G.new σ.length G.w b).mu σ.length = some b := by simp [Cx.new]
      simp only [ObOk, hm3]
      cases b with
      | none => exact h1
      | some b => exact ⟨h1.1.ext hext rfl, h1.2.1, h1.2.2⟩
  · have old : ∀ i b', alive (σ.set id .dead ++ [.row sz cs]) i → (G.new σ.length G.w b).mu i = some (some b') → (i = σ.length ∧ b = some b') ∨ (i < σ.length ∧ i ≠ id ∧ alive σ i ∧ G.mu i = some (some b')) := by
      rintro i b' ⟨sz1, cs1, hi⟩ hmi
      by_cases hlt : i < σ.length
      · right
        rw [List.getElem?_append_left (by simpa using hlt)] at hi
        by_cases h2 : id = i
        · subst h2; rw [List.getElem?_set_self hid] at hi; cases hi
        · rw [List.getElem?_set_ne h2] at hi
          exact ⟨hlt, Ne.symm h2, ⟨sz1, cs1, hi⟩, by simpa [Cx.new, Nat.ne_of_lt hlt] using hmi⟩
      · left
        have := (List.getElem?_eq_some_iff.1 hi).1
        simp at this
        have he : i = σ.length := by omega
        subst he
        simp [Cx.new] at hmi
        exact ⟨rfl, hmi⟩
    rcases old i b' hi hmi with ⟨rfl, h1⟩ | ⟨h1, h2, h3, h4⟩ <;> rcases old j b' hj hmj with ⟨rfl, g1⟩ | ⟨g1, g2, g3, g4⟩
    · rfl
    · exact absurd (hr.inj j id b' g3 ⟨sz, cs, hs⟩ g4 (by rw [hm, h1])) g2
    · exact absurd (hr.inj i id b' h3 ⟨sz, cs, hs⟩ h4 (by rw [hm, g1])) h2
    · exact hr.inj i j b' h3 g3 h4 g4
  · simp at hi
    have hne : i ≠ σ.length := by omega
    simp [Cx.new, hne, hr.fresh i (by omega)]
/-- a world that differs by draws alone -/
theorem drew_ext (G : Cx) : G.Ext { G with w := G.w.drew } := ⟨rfl, rfl, fun _ _ h => h, fun _ _ _ => rfl, fun _ _ h => h, Nat.le_refl _, RowsKept.refl _, fun _ _ h => .inl h⟩
theorem drew_rel (hr : Rel G σ) : Rel { G with w := G.w.drew } σ := by
  refine ⟨hr.below.drew, hr.le, hr.st, fun id ob h => ?_, hr.inj, hr.fresh⟩
  have h1 := hr.obs id ob h
  exact h1.of rfl rfl rfl (Nat.le_refl _) (fun b sz cs f _ _ hx => by
    obtain ⟨cur, t, fr, h2, h3, h4, h5⟩ := hx
    refine ⟨cur, t, fr, h2, h3, h4, fun k x hx => ⟨(h5 k x hx).1, (h5 k x hx).2.1, fun j c hc => ?_⟩⟩
    obtain ⟨v, h7, h8⟩ := (h5 k x hx).2.2 j c hc
    exact ⟨v, h7, h8.ext (drew_ext G)⟩) (fun b X _ _ _ => ⟨rfl, fun _ h => h⟩)
end
end Go.Proofs.YtanfaepjamkbjaaGreat.Aw
end
section
namespace Go.Proofs.YtanfaepjamkbjaaGreat.Aw
set_option linter.unusedSimpArgs false
set_option linter.unusedVariables false
open Go.RowKit

theorem row_one {G : Cx} {v : Value} {x : AV} {n : Nat} (h : Rep G v x) (h1 : x.cells.all AV.one = true) (hn : x.cells.length = n) : ∀ (k : Nat) y, [x][k]? = some y → y.cells.length = n ∧ (∀ c ∈ y.cells, c.one = true) ∧ ∀ (j : Nat) c, y.cells[j]? = some c → ∃ u, v.cells[k * n + j]? = some u ∧ Rep G u c := by
  have h2 := List.all_eq_true.1 h1
  obtain ⟨h3, h4⟩ := rep_cells h h2
  intro k y hy
  cases k with
  | succ k => simp at hy
  | zero =>
    simp at hy
    subst hy
    refine ⟨hn, h2, fun j c hc => ?_⟩
    have hj : j < v.cells.size := by rw [h3]; exact (List.getElem?_eq_some_iff.1 hc).1
    exact ⟨v.cells[j], by simp [hj], (h4 j _ c (by simp [hj]) hc).1⟩

section
variable {P : Program} {o : Oper} {F : Frm} {σ : List Ob}

theorem does_new {x r : AV} {σ' : List Ob} (h : ∀ (G : Cx) (ρ : Operand → Value), Rel G σ → (∀ y ∈ o.op.operands, Rep G (ρ y) (F.eval y)) → ∃ v G', (execOp ρ o).run P G.w = .ok (.value v) G'.w ∧ G.Ext G' ∧ Rel G' σ' ∧ Rep G' v r) : Does P o F σ r σ' := by
  intro G a next Q hr ho hn
  obtain ⟨v, G', h1, h2, h3, h4⟩ := h G a.eval hr ho
  unfold Oper.wp
  rw [h1]
  exact hn v G' h2 h3 h4
theorem does_eff {σ' : List Ob} (h : ∀ (G : Cx) (ρ : Operand → Value), Rel G σ → (∀ y ∈ o.op.operands, Rep G (ρ y) (F.eval y)) → ∃ G', (execOp ρ o).run P G.w = .ok .skip G'.w ∧ G.Ext G' ∧ Rel G' σ') : Does P o F σ .any σ' := by
  intro G a next Q hr ho hn
  obtain ⟨G', h1, h2, h3⟩ := h G a.eval hr ho
  unfold Oper.wp
  rw [h1]
  exact hn undef G' h2 h3 (.any _)

theorem does_box {e : TypeId} {y : Operand} {x : AV} {n : Nat} (ho : o.op = .box e y) (hy : F.eval y = x) (h1 : x.cells.all AV.one = true) (hn : x.cells.length = n) : Does P o F σ (.ptr σ.length n 0 0) (σ ++ [.row n [x]]) :=
  does_new (x := x) fun G ρ hr hop => by
    have h2 := hop y (by simp [ho, Op.operands])
    rw [hy] at h2
    have h3 := row_one h2 h1 hn
    obtain ⟨h4, _⟩ := rep_cells h2 (List.all_eq_true.1 h1)
    refine ⟨.pointer (some ⟨G.w.heap.size, 0, none⟩), _, ?_, alloc_ext hr G.w rfl (ρ y).cells e, alloc_rel hr G.w rfl hr.below (ρ y).cells e n [x] (by simp [h4, hn]) h3, ?_⟩
    · simp [execOp, ho, Instr.box, newVar, newRow, Cx.new]
    · have := Rep.ptr (G := G.new σ.length (G.w.alloc (.cells (ρ y).cells e)) (some G.w.heap.size)) σ.length n 0 0 G.w.heap.size (by simp [Cx.new])
      simpa using this
theorem does_alloc {e : TypeId} {z : Value} {n bt : Nat} (ho : o.op = .alloc e) (hi : tyInfo P e = some (some z, n, bt)) (h1 : (ofValue z).cells.all AV.one = true) (hn : (ofValue z).cells.length = n) : Does P o F σ (.ptr σ.length n 0 0) (σ ++ [.row n [ofValue z]]) :=
  does_new (x := .any) fun G ρ hr hop => by
    have h2 := rep_const G z
    have h3 := row_one h2 h1 hn
    obtain ⟨h4, _⟩ := rep_cells h2 (List.all_eq_true.1 h1)
    obtain ⟨i, h5, h6, h7, h8⟩ := info_of hi
    refine ⟨.pointer (some ⟨G.w.heap.size, 0, none⟩), _, ?_, alloc_ext hr G.w rfl z.cells e, alloc_rel hr G.w rfl hr.below z.cells e n [ofValue z] (by simp [h4, hn]) h3, ?_⟩
    · simp [execOp, ho, Instr.alloc, zeroValue, typeInfo, h5, h6, newVar, newRow, Cx.new]
    · have := Rep.ptr (G := G.new σ.length (G.w.alloc (.cells z.cells e)) (some G.w.heap.size)) σ.length n 0 0 G.w.heap.size (by simp [Cx.new])
      simpa using this

/-- cells put into an element -/
def putC (e : AV) (j : Nat) (xs : List AV) : AV := match e with
  | .agg cs => .agg (cs.take j ++ xs ++ cs.drop (j + xs.length))
  | _ => xs.headD .any
theorem putC_cells {e : AV} {j : Nat} {xs : List AV} (h1 : ∀ c ∈ xs, c.one = true) (hj : j + xs.length ≤ e.cells.length) (h0 : 0 < xs.length) : (putC e j xs).cells = e.cells.take j ++ xs ++ e.cells.drop (j + xs.length) := by
  by_cases hx : ∃ cs, e = .agg cs
  · obtain ⟨cs, rfl⟩ := hx; rfl
  · have hxc : e.cells = [e] := by cases e <;> first | rfl | (exact absurd ⟨_, rfl⟩ hx)
    rw [hxc] at hj ⊢
    simp at hj
    obtain ⟨y, rfl⟩ : ∃ y, xs = [y] := by
      match xs, hj, h0 with
      | [y], _, _ => exact ⟨y, rfl⟩
      | _ :: _ :: _, hj, _ => simp at hj; omega
    have hj0 : j = 0 := by simp at hj; omega
    subst hj0
    have hp : putC e 0 [y] = y := by cases e <;> first | rfl | (exact absurd ⟨_, rfl⟩ hx)
    rw [hp]
    have hy := h1 y (by simp)
    cases y <;> simp_all [AV.cells, AV.one]
theorem does_store {t : TypeId} {z : Option Value} {n bt : Nat} {p y : Operand} {id sz k j : Nat} {cs : List AV} {e x : AV} (ho : o.op = .store t p y) (hi : tyInfo P t = some (z, n, bt)) (hp : F.eval p = .ptr id sz k j) (hy : F.eval y = x)
    (hs : σ[id]? = some (.row sz cs)) (he : cs[k]? = some e) (h1 : x.cells.all AV.one = true) (hn : x.cells.length = n) (h0 : 0 < n) (hj : j + n ≤ sz) : Does P o F σ .any (σ.set id (.row sz (cs.set k (putC e j x.cells)))) :=
  does_eff fun G ρ hr hop => by
    have h2 := hop p (by simp [ho, Op.operands])
    have h3 := hop y (by simp [ho, Op.operands])
    rw [hp] at h2
    rw [hy] at h3
    have h1' := List.all_eq_true.1 h1
    obtain ⟨h4, h5⟩ := rep_cells h3 h1'
    generalize hv : ρ p = v at h2
    cases h2 with
    | ptr _ _ _ _ b hm =>
      have h6 := hr.obs id _ hs
      simp only [ObOk, hm] at h6
      obtain ⟨⟨cur, te, fr, h7, rfl, h8, h9⟩, h10, h11⟩ := h6
      have hk : k < cs.length := (List.getElem?_eq_some_iff.1 he).1
      have hfit : k * sz + j + 0 + (ρ y).cells.toList.length ≤ cur.size := by
        have : (k + 1) * sz ≤ cs.length * sz := Nat.mul_le_mul_right _ hk
        rw [Nat.add_mul] at this
        simp [h4, hn]
        omega
      have h12 := run_storeCells_at P b (k * sz + j) te (ρ y).cells.toList 0 cur G.w h7 hfit (fun u hu => by
        obtain ⟨i, hi2, rfl⟩ := List.mem_iff_getElem.1 hu
        simp at hi2
        exact (h5 i _ x.cells[i] (by simp [hi2]) (by simp)).2)
      simp only [Nat.add_zero] at h12 hfit
      have hlen : (ρ y).cells.toList.length = n := by simp [h4, hn]
      obtain ⟨hesz, heone, her⟩ := h9 k e he
      obtain ⟨nc, hnc⟩ : ∃ nc : Array Value, nc = (cur.toList.take (k * sz + j) ++ (ρ y).cells.toList ++ cur.toList.drop (k * sz + j + (ρ y).cells.toList.length)).toArray := ⟨_, rfl⟩
      have hncs : nc.size = cur.size := by
        rw [hnc]
        simp only [List.size_toArray, List.length_append, List.length_take, List.length_drop, Array.length_toList]
        simp only [Array.length_toList] at hfit
        omega
      refine ⟨{ G with w := G.w.setRow b nc }, ?_, write_ext hr hs hm h7 hncs, write_rel hr hs hm h7 hncs (by simp only [List.length_set]; omega) ?_⟩
      · have h13 : (Instr.storeAt t (.pointer (some ⟨b, k * sz + j, none⟩)) (ρ y)).run P G.w = .ok () (G.w.setRow b nc) := by
          rw [hnc]
          simp [Instr.storeAt, Instr.sureAddr, storeVar, run_sizeOf hi, h4, hn]
          simpa [h4, hn] using h12
        simp only [execOp, ho, hv, Sem.run_bind, h13, Result.andThen_ok, Sem.run_pure]
      · have hpc := putC_cells (e := e) (j := j) (xs := x.cells) h1' (by omega) (by omega)
        have hget : ∀ q, nc[q]? = if q < k * sz + j then cur[q]? else if q < k * sz + j + n then (ρ y).cells[q - (k * sz + j)]? else cur[q]? := by
          intro q
          have ha : (cur.toList.take (k * sz + j)).length = k * sz + j := by simp; simp at hfit; omega
          rw [hnc]
          simp only [List.getElem?_toArray]
          by_cases hq : q < k * sz + j
          · rw [if_pos hq, List.append_assoc, List.getElem?_append_left (by omega), List.getElem?_take, if_pos hq, Array.getElem?_toList]
          · rw [if_neg hq]
            by_cases hq2 : q < k * sz + j + n
            · rw [if_pos hq2, List.getElem?_append_left (by simp [hlen, h4, hn]; simp at ha; omega), List.getElem?_append_right (by omega), ha, Array.getElem?_toList]
            · rw [if_neg hq2, List.getElem?_append_right (by simp [hlen, h4, hn]; simp at ha; omega), List.getElem?_drop, Array.getElem?_toList]
              congr 1
              simp only [List.length_append, ha, hlen]
              omega
        intro q y' hq
        by_cases hqk : k = q
        · subst hqk
          rw [List.getElem?_set_self hk] at hq
          cases hq
          have hlc : (putC e j x.cells).cells.length = sz := by rw [hpc]; simp; omega
          refine ⟨hlc, fun c hc => ?_, fun i c hc => ?_⟩
          · rw [hpc] at hc
            simp only [List.mem_append] at hc
            rcases hc with (hc | hc) | hc
            · exact heone c (List.mem_of_mem_take hc)
            · exact h1' c hc
            · exact heone c (List.mem_of_mem_drop hc)
          · have hi' : i < sz := by have := (List.getElem?_eq_some_iff.1 hc).1; omega
            rw [hget]
            rw [hpc] at hc
            have ha : (e.cells.take j).length = j := by simp; omega
            by_cases hi1 : i < j
            · rw [if_pos (by omega)]
              rw [List.append_assoc, List.getElem?_append_left (by omega), List.getElem?_take, if_pos hi1] at hc
              exact her i c hc
            · rw [if_neg (by omega)]
              by_cases hi2 : i < j + n
              · rw [if_pos (by omega)]
                rw [List.getElem?_append_left (by simp only [List.length_append, ha]; omega), List.getElem?_append_right (by omega), ha] at hc
                have hlt : i - j < (ρ y).cells.size := by omega
                refine ⟨(ρ y).cells[i - j], ?_, (h5 (i - j) _ c (by simp [hlt]) hc).1⟩
                rw [show k * sz + i - (k * sz + j) = i - j by omega]
                simp [hlt]
              · rw [if_neg (by omega)]
                rw [List.getElem?_append_right (by simp only [List.length_append, ha]; omega), List.getElem?_drop] at hc
                have : j + x.cells.length + (i - (e.cells.take j ++ x.cells).length) = i := by simp only [List.length_append, ha]; omega
                rw [this] at hc
                exact her i c hc
        · rw [List.getElem?_set_ne hqk] at hq
          obtain ⟨g1, g2, g3⟩ := h9 q y' hq
          refine ⟨g1, g2, fun i c hc => ?_⟩
          obtain ⟨u, g4, g5⟩ := g3 i c hc
          refine ⟨u, ?_, g5⟩
          rw [hget]
          have hi' : i < sz := by have := (List.getElem?_eq_some_iff.1 hc).1; omega
          rcases Nat.lt_or_gt_of_ne hqk with h | h
          · have : (k + 1) * sz ≤ q * sz := Nat.mul_le_mul_right _ h
            rw [Nat.add_mul] at this
            rw [if_neg (by omega), if_neg (by omega)]
            exact g4
          · have : (q + 1) * sz ≤ k * sz := Nat.mul_le_mul_right _ h
            rw [Nat.add_mul] at this
            rw [if_pos (by omega)]
            exact g4
end
end Go.Proofs.YtanfaepjamkbjaaGreat.Aw
end
section
namespace Go.Proofs.YtanfaepjamkbjaaGreat.Aw
set_option linter.unusedSimpArgs false
set_option linter.unusedVariables false
open Go.RowKit

/-- values and what is known of them -/
structure RepL (G : Cx) (vs : Array Value) (cs : List AV) : Prop where
  size : vs.size = cs.length
  one : ∀ c ∈ cs, c.one = true
  rep : ∀ (j : Nat) v c, vs[j]? = some v → cs[j]? = some c → Rep G v c

def fillA (place : Nat → Option (Nat × Nat)) (cs : List AV) : List (Nat × AV) → Option (List AV)
  | [] => some cs
  | (i, x) :: rest => match place i with
    | none => none
    | some (off, size) => bif Nat.beq x.cells.length size && Nat.ble (off + x.cells.length) cs.length && x.cells.all AV.one then fillA place (cs.take off ++ x.cells ++ cs.drop (off + x.cells.length)) rest else none

theorem foldl_cells (off : Nat) : ∀ (vs : List Value) (k : Nat) (cells : Array Value), off + k + vs.length ≤ cells.size →
    ((vs.zipIdx k).foldl (fun cs p => cs.setIfInBounds (off + p.2) p.1) cells).toList = cells.toList.take (off + k) ++ vs ++ cells.toList.drop (off + k + vs.length)
  | [], k, cells, h => by simp
  | v :: vs, k, cells, h => by
    simp only [List.zipIdx_cons, List.foldl_cons]
    simp only [List.length_cons] at h
    rw [foldl_cells off vs (k + 1) _ (by simp; omega)]
    have := list_seg_step cells.toList (off + k) v vs (by simp; omega)
    simp only [Array.toList_setIfInBounds, List.length_cons, ← Nat.add_assoc] at this ⊢
    exact this

theorem fill_rep {G : Cx} {place : Nat → Option (Nat × Nat)} : ∀ (pv : List (Nat × Value)) (pa : List (Nat × AV)) (vs : Array Value) (cs cs' : List AV), RepL G vs cs → pv.length = pa.length →
    (∀ (i : Nat) p q, pv[i]? = some p → pa[i]? = some q → p.1 = q.1 ∧ Rep G p.2 q.2) → fillA place cs pa = some cs' → ∃ vs', Instr.fill place vs pv = some vs' ∧ RepL G vs' cs'
  | [], [], vs, cs, cs', h, _, _, hf => by simp [fillA] at hf; subst hf; exact ⟨vs, rfl, h⟩
  | [], _ :: _, _, _, _, _, hl, _, _ => by simp at hl
  | _ :: _, [], _, _, _, _, hl, _, _ => by simp at hl
  | (i, v) :: pv, (i', x) :: pa, vs, cs, cs', h, hl, hp, hf => by
    obtain ⟨h1, h2⟩ := hp 0 _ _ rfl rfl
    dsimp only at h1 h2
    subst h1
    unfold fillA at hf
    cases hpl : place i with
    | none => rw [hpl] at hf; cases hf
    | some q =>
      obtain ⟨off, size⟩ := q
      rw [hpl] at hf
      dsimp only at hf
      cases hc : (Nat.beq x.cells.length size && Nat.ble (off + x.cells.length) cs.length && x.cells.all AV.one) with
      | false => rw [hc] at hf; cases hf
      | true =>
        rw [hc] at hf
        simp only [cond_true] at hf
        rw [Bool.and_eq_true, Bool.and_eq_true] at hc
        obtain ⟨⟨h3, h4⟩, h5⟩ := hc
        replace h3 := Nat.eq_of_beq_eq_true h3
        replace h4 := Nat.le_of_ble_eq_true h4
        have h5' := List.all_eq_true.1 h5
        obtain ⟨h6, h7⟩ := rep_cells h2 h5'
        have hsz := h.size
        have hfold : (v.cells.zipIdx.foldl (fun cs (p : Value × Nat) => cs.setIfInBounds (off + p.2) p.1) vs).toList = vs.toList.take off ++ v.cells.toList ++ vs.toList.drop (off + x.cells.length) := by
          rw [← Array.foldl_toList, Array.toList_zipIdx]
          have := foldl_cells off v.cells.toList 0 vs (by simp; omega)
          simpa [h6] using this
        obtain ⟨nv, hnv⟩ : ∃ nv, nv = v.cells.zipIdx.foldl (fun cs (p : Value × Nat) => cs.setIfInBounds (off + p.2) p.1) vs := ⟨_, rfl⟩
        rw [← hnv] at hfold
        have hget : ∀ q, nv[q]? = (vs.toList.take off ++ v.cells.toList ++ vs.toList.drop (off + x.cells.length))[q]? := fun q => by rw [← Array.getElem?_toList, hfold]
        have hrl : RepL G nv (cs.take off ++ x.cells ++ cs.drop (off + x.cells.length)) := by
          refine ⟨?_, fun c hc => ?_, fun j u c hu hc => ?_⟩
          · rw [← Array.length_toList, hfold]
            simp only [List.length_append, List.length_take, List.length_drop, Array.length_toList]
            omega
          · simp only [List.mem_append] at hc
            rcases hc with (hc | hc) | hc
            · exact h.one c (List.mem_of_mem_take hc)
            · exact h5' c hc
            · exact h.one c (List.mem_of_mem_drop hc)
          · rw [hget] at hu
            have ha : (vs.toList.take off).length = off := by simp; omega
            have hb : (cs.take off).length = off := by simp; omega
            by_cases hj1 : j < off
            · rw [List.append_assoc, List.getElem?_append_left (by omega), List.getElem?_take, if_pos hj1, Array.getElem?_toList] at hu
              rw [List.append_assoc, List.getElem?_append_left (by omega), List.getElem?_take, if_pos hj1] at hc
              exact h.rep j u c hu hc
            · by_cases hj2 : j < off + x.cells.length
              · rw [List.getElem?_append_left (by simp only [List.length_append, ha, Array.length_toList]; omega), List.getElem?_append_right (by omega), ha, Array.getElem?_toList] at hu
                rw [List.getElem?_append_left (by simp only [List.length_append, hb]; omega), List.getElem?_append_right (by omega), hb] at hc
                exact (h7 _ u c hu hc).1
              · rw [List.getElem?_append_right (by simp only [List.length_append, ha, Array.length_toList]; omega), List.getElem?_drop, Array.getElem?_toList] at hu
                rw [List.getElem?_append_right (by simp only [List.length_append, hb]; omega), List.getElem?_drop] at hc
                simp only [List.length_append, ha, hb, Array.length_toList, h6] at hu hc
                exact h.rep _ u c hu hc
        obtain ⟨vs', h8, h9⟩ := fill_rep pv pa nv _ cs' hrl (by simpa using hl) (fun i p q h1 h2 => hp (i + 1) p q (by simpa using h1) (by simpa using h2)) hf
        refine ⟨vs', ?_, h9⟩
        unfold Instr.fill
        have h10 : ¬ (v.cells.size ≠ size ∨ off + v.cells.size > vs.size) := by omega
        simp only [hpl]
        rw [if_neg (by simpa using h10)]
        rw [← hnv]
        exact h8

/-- the places of a struct's fields -/
def tyPlaces (P : Program) (t : TypeId) : Option (List (Nat × Nat)) := match P.underlying t with
  | some (.struct fs) => fs.toList.mapM fun f => (P.info? f.type).map fun i => (f.offset, i.size)
  | _ => none

theorem repl_const (G : Cx) (z : Value) (h : (ofValue z).cells.all AV.one = true) : RepL G z.cells (ofValue z).cells := by
  have h1 := List.all_eq_true.1 h
  obtain ⟨h2, h3⟩ := rep_cells (rep_const G z) h1
  exact ⟨h2, h1, fun j v c hv hc => (h3 j v c hv hc).1⟩

section
variable {P : Program} {o : Oper} {F : Frm} {σ : List Ob}
theorem parts_rep {G : Cx} {ρ : Operand → Value} {parts : Array (Nat × Operand)} (h : ∀ y ∈ ((parts.toList.map (·.2)).toArray), Rep G (ρ y) (F.eval y)) :
    ∀ (i : Nat) p q, ((parts.map fun (i, x) => (i, ρ x)).toList)[i]? = some p → (parts.toList.map fun (i, x) => (i, F.eval x))[i]? = some q → p.1 = q.1 ∧ Rep G p.2 q.2 := by
  intro i p q hp hq
  simp only [Array.toList_map, List.getElem?_map, Array.getElem?_toList] at hp hq
  cases hi : parts[i]? with
  | none => rw [hi] at hp; cases hp
  | some r =>
    rw [hi] at hp hq
    simp only [Option.map_some, Option.some.injEq] at hp hq
    subst hp hq
    refine ⟨rfl, h r.2 ?_⟩
    have : r ∈ parts := Array.mem_of_getElem? hi
    simp only [List.mem_toArray, List.mem_map]
    exact ⟨r, by simpa using this, rfl⟩
theorem does_build {t : TypeId} {parts : Array (Nat × Operand)} {z : Value} {n bt : Nat} {pl : List (Nat × Nat)} {cs : List AV} (ho : o.op = .build t parts) (hi : tyInfo P t = some (some z, n, bt)) (hp : tyPlaces P t = some pl)
    (h1 : (ofValue z).cells.all AV.one = true) (hf : fillA (pl[·]?) (ofValue z).cells (parts.toList.map fun (i, x) => (i, F.eval x)) = some cs) : Does P o F σ (.agg cs) σ :=
  does_val fun G ρ hr hop => by
    obtain ⟨i, h2, h3, h4, h5⟩ := info_of hi
    obtain ⟨vs, h6, h7⟩ := fill_rep (G := G) (place := (pl[·]?)) (parts.map fun (i, x) => (i, ρ x)).toList _ z.cells _ cs (repl_const G z h1) (by simp) (parts_rep (fun y hy => hop y (by simpa [ho, Op.operands] using hy))) hf
    have h8 : P.built t (parts.map fun (i, x) => (i, ρ x)).toList = some vs := by
      unfold tyPlaces at hp
      unfold Program.built
      rw [h2]
      split at hp
      · rename_i fs hu
        simp only [hu, h3, hp]
        have : (fun (x : Nat) => pl.toArray[x]?) = (fun (x : Nat) => pl[x]?) := by funext x; simp
        rw [this]
        exact h6
      · cases hp
    exact ⟨.agg vs, by simp only [execOp, ho, Sem.run_bind, run_build G.w t _ vs h8, Result.andThen_ok, Sem.run_pure], .agg vs cs h7.size h7.one h7.rep⟩

/-- cells by elements -/
def chunk (sz : Nat) (cs : List AV) (k : Nat) : AV := bif Nat.beq sz 1 then cs.getD k .any else .agg ((cs.drop (k * sz)).take sz)
def chunks (sz n : Nat) (cs : List AV) : List AV := (List.range n).map (chunk sz cs)
theorem chunks_row {G : Cx} {vs : Array Value} {cs : List AV} {sz n : Nat} (h : RepL G vs cs) (hn : cs.length = n * sz) :
    ∀ (k : Nat) y, (chunks sz n cs)[k]? = some y → y.cells.length = sz ∧ (∀ c ∈ y.cells, c.one = true) ∧ ∀ (j : Nat) c, y.cells[j]? = some c → ∃ u, vs[k * sz + j]? = some u ∧ Rep G u c := by
  intro k y hy
  unfold chunks at hy
  rw [List.getElem?_map] at hy
  have hk : k < n := by
    by_cases hk : k < n
    · exact hk
    · rw [List.getElem?_eq_none (by simp; omega)] at hy; cases hy
  rw [List.getElem?_range hk] at hy
  simp only [Option.map_some, Option.some.injEq] at hy
  have hb : (k + 1) * sz ≤ n * sz := Nat.mul_le_mul_right _ hk
  rw [Nat.add_mul] at hb
  have hcell : ∀ (j : Nat) c, cs[k * sz + j]? = some c → ∃ u, vs[k * sz + j]? = some u ∧ Rep G u c := fun j c hc => by
    have hlt : k * sz + j < vs.size := by rw [h.size]; exact (List.getElem?_eq_some_iff.1 hc).1
    exact ⟨vs[k * sz + j], by simp [hlt], h.rep _ _ c (by simp [hlt]) hc⟩
  unfold chunk at hy
  cases hs : Nat.beq sz 1 with
  | true =>
    rw [hs] at hy
    have hs1 := Nat.eq_of_beq_eq_true hs
    subst hs1
    simp only [cond_true] at hy
    have hlt : k < cs.length := by omega
    have hg : cs.getD k .any = cs[k] := by simp [List.getD, hlt]
    rw [hg] at hy
    subst hy
    have ho := h.one cs[k] (List.getElem_mem hlt)
    have hc1 : (cs[k]).cells = [cs[k]] := by
      generalize cs[k] = c at ho
      cases c <;> simp_all [AV.cells, AV.one]
    rw [hc1]
    refine ⟨rfl, fun c hc => by simp at hc; subst hc; exact ho, fun j c hc => ?_⟩
    cases j with
    | succ j => simp at hc
    | zero =>
      simp at hc
      subst hc
      exact hcell 0 _ (by simp [hlt])
  | false =>
    rw [hs] at hy
    simp only [cond_false] at hy
    subst hy
    refine ⟨by simp [AV.cells]; omega, fun c hc => h.one c (List.mem_of_mem_drop (List.mem_of_mem_take hc)), fun j c hc => ?_⟩
    simp only [AV.cells, List.getElem?_take, List.getElem?_drop] at hc
    split at hc
    · exact hcell j c hc
    · cases hc
theorem chunks_length (sz n : Nat) (cs : List AV) : (chunks sz n cs).length = n := by simp [chunks]
/-- the zero cells of a row -/
def zeroA (z : Value) (n : Nat) : List AV := (List.range n).map fun i => (ofValue z).cells.getD (i % (ofValue z).cells.length) .any
theorem zeroA_rep (G : Cx) (z : Value) (n : Nat) (h : (ofValue z).cells.all AV.one = true) (hz : 0 < (ofValue z).cells.length) : RepL G (madeCells z.cells n) (zeroA z n) := by
  have h0 := repl_const G z h
  refine ⟨by simp [madeCells, zeroA], fun c hc => ?_, fun j v c hv hc => ?_⟩
  · obtain ⟨i, hi, rfl⟩ := List.mem_map.1 hc
    have hlt := Nat.mod_lt i hz
    rw [List.getD_eq_getElem?_getD, List.getElem?_eq_getElem hlt]
    exact h0.one _ (List.getElem_mem hlt)
  · have hj : j < n := by
      have := (List.getElem?_eq_some_iff.1 hc).1
      simpa [zeroA] using this
    simp [madeCells, hj] at hv
    simp [zeroA, hj] at hc
    subst hv hc
    have hlt := Nat.mod_lt j hz
    have hlt2 : j % z.cells.size < z.cells.size := by rw [h0.size]; exact hlt
    refine h0.rep (j % z.cells.size) _ _ ?_ ?_
    · simp [hlt2]
    · rw [h0.size]; simp [List.getD, hlt]
theorem does_lit {t e : TypeId} {len : Nat} {parts : Array (Nat × Operand)} {z : Value} {n bt : Nat} {cs : List AV} (ho : o.op = .buildSlice t len parts) (ht : tySlice P t = some e) (hi : tyInfo P e = some (some z, n, bt))
    (h1 : (ofValue z).cells.all AV.one = true) (hn : (ofValue z).cells.length = n) (h0 : 0 < n) (hlen : 0 < len) (hsm : len * n ≤ 16777216) (hf : fillA (fun i => some (i * n, n)) (zeroA z (len * n)) (parts.toList.map fun (i, x) => (i, F.eval x)) = some cs) (hcl : cs.length = len * n) : Does P o F σ (.own σ.length n len) (σ ++ [.row n (chunks n len cs)]) :=
  does_new (x := .any) fun G ρ hr hop => by
    obtain ⟨i, h2, h3, h4, h5⟩ := info_of hi
    obtain ⟨vs, h6, h7⟩ := fill_rep (G := G) (place := fun i => some (i * n, n)) (parts.map fun (i, x) => (i, ρ x)).toList _ (madeCells z.cells (len * n)) _ cs (zeroA_rep G z (len * n) h1 (by omega)) (by simp) (parts_rep (fun y hy => hop y (by simpa [ho, Op.operands] using hy))) hf
    have hvs : vs.size = len * n := by rw [h7.size]; exact hcl
    have hpos : ¬ (len * n = 0) := by
      have := Nat.mul_pos hlen h0
      omega
    have h8 : (Instr.buildSlice t len (parts.map fun (i, x) => (i, ρ x))).run P G.w = .ok (.slice (some ⟨G.w.heap.size, 0, none⟩) len len) (G.w.alloc (.cells vs e)) := by
      have hsm' : ¬ (16777216 < len * n) := by omega
      have h6' : Instr.fill (fun i => some (i * n, n)) (Array.map (fun x => z.cells[x % z.cells.size]!) (Array.range (len * n))) (parts.map fun (i, x) => (i, ρ x)).toList = some vs := h6
      simp only [Array.toList_map] at h6'
      simp [Instr.buildSlice, run_underlying (slice_of ht), run_sizeOf hi, hsm', hpos, zeroValue, typeInfo, h2, h3, h6', newRow]
    have hrow := chunks_row h7 hcl
    have h9 := alloc_rel hr G.w rfl hr.below vs e n (chunks n len cs) (by rw [chunks_length]; omega) hrow
    refine ⟨.slice (some ⟨G.w.heap.size, 0, none⟩) len len, _, ?_, alloc_ext hr G.w rfl vs e, h9, ?_⟩
    · simp only [execOp, ho, Sem.run_bind, h8, Result.andThen_ok, Sem.run_pure]; rfl
    · refine .own σ.length n len G.w.heap.size len (by simp [Cx.new]) (Nat.le_refl _) ?_ ⟨vs, e, (0, 0), ?_, hvs⟩
      · have : len ≤ len * n := Nat.le_mul_of_pos_right _ h0
        unfold maxLen; omega
      · show (G.w.alloc (.cells vs e)).heap[G.w.heap.size]? = _
        exact heap_alloc_new G.w _
theorem does_lit1 {t e : TypeId} {y : Operand} {z : Value} {bt : Nat} {x : AV} (ho : o.op = .buildSlice t 1 #[(0, y)]) (ht : tySlice P t = some e) (hi : tyInfo P e = some (some z, 1, bt))
    (h1 : (ofValue z).cells.all AV.one = true) (hn : (ofValue z).cells.length = 1) (hy : F.eval y = x) (hx : x.one = true) : Does P o F σ (.own σ.length 1 1) (σ ++ [.row 1 [x]]) := by
  have hxc : x.cells = [x] := by cases x <;> simp_all [AV.cells, AV.one]
  have hz : (zeroA z (1 * 1)).length = 1 := by simp [zeroA]
  have hf : fillA (fun i => some (i * 1, 1)) (zeroA z (1 * 1)) ((#[(0, y)] : Array (Nat × Operand)).toList.map fun (i, x) => (i, F.eval x)) = some [x] := by
    have h2 : (zeroA z (1 * 1)).drop 1 = [] := List.drop_eq_nil_of_le (by omega)
    simp only [List.map_cons, List.map_nil, hy, fillA, hxc, hz]
    simp [hx, h2]
    rfl
  have := does_lit (P := P) (F := F) (σ := σ) ho ht hi h1 hn (by decide) (by decide) (by decide) hf (by simp)
  have hc : chunks 1 1 [x] = [x] := by simp [chunks, chunk, List.range_succ]
  rwa [hc] at this
theorem lit1_s {t e : TypeId} {y : Operand} {z : Value} {bt : Nat} {v : Value} (ho : o.op = .buildSlice t 1 #[(0, y)]) (ht : tySlice P t = some e) (hi : tyInfo P e = some (some z, 1, bt))
    (h1 : (ofValue z).cells.all AV.one = true) (hn : (ofValue z).cells.length = 1) (hy : F.eval y = .s v) (hx : (AV.s v).one = true) : Does P o F σ (.own σ.length 1 1) (σ ++ [.row 1 [.s v]]) := does_lit1 ho ht hi h1 hn hy hx
theorem lit1_sl {t e : TypeId} {y : Operand} {z : Value} {bt : Nat} {l : List AV} (ho : o.op = .buildSlice t 1 #[(0, y)]) (ht : tySlice P t = some e) (hi : tyInfo P e = some (some z, 1, bt))
    (h1 : (ofValue z).cells.all AV.one = true) (hn : (ofValue z).cells.length = 1) (hy : F.eval y = .sl l) (hx : (AV.sl l).one = true) : Does P o F σ (.own σ.length 1 1) (σ ++ [.row 1 [.sl l]]) := does_lit1 ho ht hi h1 hn hy hx
theorem does_litA {t e : TypeId} {y : Operand} {z : Value} {n bt : Nat} {cs : List AV} (ho : o.op = .buildSlice t 1 #[(0, y)]) (ht : tySlice P t = some e) (hi : tyInfo P e = some (some z, n, bt))
    (h1 : (ofValue z).cells.all AV.one = true) (hn : (ofValue z).cells.length = n) (h2 : 2 ≤ n) (hsm : n ≤ 16777216) (hy : F.eval y = .agg cs) (hx : cs.all AV.one = true) (hl : cs.length = n) : Does P o F σ (.own σ.length n 1) (σ ++ [.row n [.agg cs]]) := by
  have hz : (zeroA z (1 * n)).length = n := by simp [zeroA]
  have hf : fillA (fun i => some (i * n, n)) (zeroA z (1 * n)) ((#[(0, y)] : Array (Nat × Operand)).toList.map fun (i, x) => (i, F.eval x)) = some cs := by
    have h3 : (zeroA z (1 * n)).drop n = [] := List.drop_eq_nil_of_le (by omega)
    have hc : (AV.agg cs).cells = cs := rfl
    have hb : (Nat.beq cs.length n && Nat.ble (0 * n + cs.length) (zeroA z (1 * n)).length && cs.all AV.one) = true := by
      rw [hx, hz, hl, Nat.zero_mul, Nat.zero_add]
      simp
    simp only [List.map_cons, List.map_nil, hy, fillA, hc, hb, cond_true]
    have hz2 : (zeroA z n).length = n := by simp [zeroA]
    have h3' : (zeroA z n).drop n = [] := List.drop_eq_nil_of_le (by omega)
    simp [hl, h3', hz2]
  have := does_lit (P := P) (F := F) (σ := σ) ho ht hi h1 hn (by omega) (by decide) (by omega) hf (by omega)
  have hc : chunks n 1 cs = [.agg cs] := by
    have hb : Nat.beq cs.length 1 = false := by
      cases h : Nat.beq cs.length 1 with
      | false => rfl
      | true => have := Nat.eq_of_beq_eq_true h; omega
    subst hl
    simp only [chunks, chunk, List.range_succ, List.range_zero, List.nil_append, List.map_cons, List.map_nil, hb, cond_false, Nat.zero_mul, List.drop_zero, List.take_length]
  rwa [hc] at this
theorem does_lit0 {t e : TypeId} {parts : Array (Nat × Operand)} {z : Option Value} {n bt : Nat} (ho : o.op = .buildSlice t 0 parts) (hp : parts = #[]) (ht : tySlice P t = some e) (hi : tyInfo P e = some (z, n, bt)) : Does P o F σ .emp σ :=
  does_new (x := .any) fun G ρ hr hop => by
    subst hp
    have h8 : (Instr.buildSlice t 0 #[]).run P G.w = .ok (.slice (some ⟨G.w.heap.size, 0, none⟩) 0 0) (G.w.alloc (.cells #[] e)) := by
      have h0 : ∀ f : Nat → Value, Array.map f (Array.range 0) = #[] := fun f => by simp [Array.range_zero']
      simp [Instr.buildSlice, run_underlying (slice_of ht), run_sizeOf hi, Instr.fill, newRow, h0]
    have hext := alloc_ext hr G.w rfl #[] e
    refine ⟨.slice (some ⟨G.w.heap.size, 0, none⟩) 0 0, { G with w := G.w.alloc (.cells #[] e) }, ?_, ?_, ?_, .emp _ (fun a ha => by cases ha; rfl)⟩
    · simp only [execOp, ho, Array.map_empty, Sem.run_bind, h8, Result.andThen_ok, Sem.run_pure]
    · exact ⟨rfl, rfl, fun _ _ h => h, hext.cell, fun _ _ h => h, hext.size, hext.rows, fun _ _ h => .inl h⟩
    · have hold : ∀ k, k < G.w.heap.size → (G.w.alloc (.cells #[] e)).heap[k]? = G.w.heap[k]? := fun k hk => heap_alloc_old (r := k) G.w _ hk
      have he : G.Ext { G with w := G.w.alloc (.cells #[] e) } := ⟨rfl, rfl, fun _ _ h => h, hext.cell, fun _ _ h => h, hext.size, hext.rows, fun _ _ h => .inl h⟩
      have hble : G.base ≤ G.w.heap.size := by have h1 := hr.le; have h2 := hr.below.size; omega
      refine ⟨hr.below.alloc hble _, hr.le, fun b o hb => by have := hr.st b o hb; simp only [World.size_alloc]; omega, fun id ob hob => ?_, hr.inj, hr.fresh⟩
      refine (hr.obs id ob hob).of rfl rfl rfl (by simp) (fun b sz cs f _ _ hx => ?_) (fun b X _ hX _ => ⟨hold b hX.lt, fun _ h => h⟩)
      obtain ⟨cur, t, fr, h2, h3, h4, h5⟩ := hx
      refine ⟨cur, t, fr, (hold b (Array.getElem?_eq_some_iff.1 h2).1).trans h2, h3, h4, fun k x hx => ⟨(h5 k x hx).1, (h5 k x hx).2.1, fun j c hc => ?_⟩⟩
      obtain ⟨v, h6, h7⟩ := (h5 k x hx).2.2 j c hc
      exact ⟨v, h6, h7.ext he⟩
theorem does_make {t e : TypeId} {y y' : Operand} {kl kc : IntKind} {l c : Nat} {i i' : Int} {z : Value} {n bt : Nat} (ho : o.op = .makeSlice t y y') (ht : tySlice P t = some e) (hi : tyInfo P e = some (some z, n, bt))
    (h1 : (ofValue z).cells.all AV.one = true) (hn : (ofValue z).cells.length = n) (h0 : 0 < n) (hy : F.eval y = .s (.int kl i)) (hy' : F.eval y' = .s (.int kc i')) (hil : i = (l : Int)) (hic : i' = (c : Int)) (hlc : l ≤ c) (hb : bt * c ≤ 281474976710656) (hm : c ≤ 9223372036854775807) :
    Does P o F σ (.own σ.length n l) (σ ++ [.row n (List.replicate l (ofValue z))]) :=
  does_new (x := .any) fun G ρ hr hop => by
    obtain ⟨inf, h2, h3, h4, h5⟩ := info_of hi
    have g1 := hop y (by simp [ho, Op.operands])
    have g2 := hop y' (by simp [ho, Op.operands])
    rw [hy] at g1
    rw [hy'] at g2
    have g3 := rep_s g1
    have g4 := rep_s g2
    subst hil hic
    have hb' : (inf.bytes : Int) * (c : Int) ≤ 281474976710656 := by
      rw [h5]
      have : ((bt * c : Nat) : Int) ≤ 281474976710656 := by omega
      rwa [Int.natCast_mul] at this
    have hr1 := run_make (P := P) G.w t e inf z (slice_of ht) h2 h3 kl kc (l : Int) (c : Int) (Int.natCast_nonneg l) (Int.ofNat_le.2 hlc) hb' (by omega)
    simp only [Int.toNat_natCast, h4] at hr1
    have h7 := repl_const G z h1
    have hrow : ∀ (k : Nat) x, (List.replicate l (ofValue z))[k]? = some x → x.cells.length = n ∧ (∀ c ∈ x.cells, c.one = true) ∧ ∀ (j : Nat) cc, x.cells[j]? = some cc → ∃ v, (madeCells z.cells (c * n))[k * n + j]? = some v ∧ Rep G v cc := by
      intro k x hx
      rw [List.getElem?_replicate] at hx
      split at hx
      · rename_i hk
        cases hx
        refine ⟨hn, h7.one, fun j cc hcc => ?_⟩
        have hj : j < n := by have := (List.getElem?_eq_some_iff.1 hcc).1; omega
        have hsz : z.cells.size = n := by rw [h7.size]; exact hn
        have hlt : k * n + j < c * n := by
          have : (k + 1) * n ≤ c * n := Nat.mul_le_mul_right _ (by omega)
          rw [Nat.add_mul] at this; omega
        have hmod : (k * n + j) % z.cells.size = j := by rw [hsz, Nat.mul_comm, Nat.mul_add_mod]; exact Nat.mod_eq_of_lt hj
        refine ⟨z.cells[j]'(by omega), ?_, h7.rep j _ cc (by simp [show j < z.cells.size by omega]) hcc⟩
        simp [madeCells, hlt, hmod, show j < z.cells.size by omega]
      · cases hx
    have h9 := alloc_rel hr G.w rfl hr.below (madeCells z.cells (c * n)) e n (List.replicate l (ofValue z)) (by simp [size_madeCells]; exact Nat.mul_le_mul_right _ hlc) hrow
    refine ⟨.slice (some ⟨G.w.heap.size, 0, none⟩) l c, _, ?_, alloc_ext hr G.w rfl _ e, h9, ?_⟩
    · simp only [execOp, ho, g3, g4, Sem.run_bind, hr1, Result.andThen_ok, Sem.run_pure]; rfl
    · refine .own σ.length n l G.w.heap.size c (by simp [Cx.new]) hlc (by unfold maxLen; exact hm) ⟨madeCells z.cells (c * n), e, (0, 0), ?_, size_madeCells _ _⟩
      show (G.w.alloc (.cells _ e)).heap[G.w.heap.size]? = _
      exact heap_alloc_new G.w _
end
end Go.Proofs.YtanfaepjamkbjaaGreat.Aw
end
section
namespace Go.Proofs.YtanfaepjamkbjaaGreat.Aw
set_option linter.unusedSimpArgs false
set_option linter.unusedVariables false
open Go.RowKit

/-- what a slice reads as -/
inductive Src (σ : List Ob) (sz : Nat) : AV → List AV → Prop
  | sl (l : List AV) (h : ∀ e ∈ l, e.cells.length = sz) : Src σ sz (.sl l) l
  | emp : Src σ sz .emp []
  | nil : Src σ sz (.s (.slice none 0 0)) []
  | own (id : Nat) (ob : Ob) (cs : List AV) (hs : σ[id]? = some ob) (ho : rowOf ob = some (sz, cs)) (n : Nat) (hn : n = cs.length) : Src σ sz (.own id sz n) cs
  | pre (id : Nat) (ob : Ob) (cs : List AV) (hs : σ[id]? = some ob) (ho : rowOf ob = some (sz, cs)) (n : Nat) (hn : n ≤ cs.length) : Src σ sz (.own id sz n) (cs.take n)
  | sub (id : Nat) (ob : Ob) (cs : List AV) (hs : σ[id]? = some ob) (ho : rowOf ob = some (sz, cs)) (i n : Nat) (hn : i + n ≤ cs.length) : Src σ sz (.sub id sz i n) ((cs.drop i).take n)

/-- the values behind it -/
structure Vals (G : Cx) (sz : Nat) (A : Option Addr) (l : List AV) (news : List Value) : Prop where
  len : news.length = l.length * sz
  one : ∀ u ∈ news, u.oneCell' = true
  rep : ∀ (k : Nat) e, l[k]? = some e → e.cells.length = sz ∧ (∀ c ∈ e.cells, c.one = true) ∧ ∀ (j : Nat) c, e.cells[j]? = some c → ∃ u, news[k * sz + j]? = some u ∧ Rep G u c
  at_ : ∀ a, A = some a → ∀ (j : Nat) u, news[j]? = some u → G.w.cell? (a.add j) = some u
  nil : A = none → l = []

theorem vals_of {G : Cx} {b o sz : Nat} {l : List AV} (hsz : 0 < sz) (h : ∀ (k : Nat) e, l[k]? = some e → e.cells.length = sz ∧ (∀ c ∈ e.cells, c.one = true) ∧ ∀ (j : Nat) c, e.cells[j]? = some c → ∃ u, G.w.cell? ⟨b, o + k * sz + j, none⟩ = some u ∧ Rep G u c) : ∃ news, Vals G sz (some ⟨b, o, none⟩) l news := by
  have key : ∀ i, i < l.length * sz → ∃ u, G.w.cell? ⟨b, o + i, none⟩ = some u ∧ u.oneCell' = true := by
    intro i hi
    have hk : i / sz < l.length := Nat.div_lt_of_lt_mul (by rw [Nat.mul_comm]; exact hi)
    obtain ⟨h1, h2, h3⟩ := h (i / sz) _ (List.getElem?_eq_getElem hk)
    have hj : i % sz < (l[i / sz]).cells.length := by rw [h1]; exact Nat.mod_lt _ hsz
    obtain ⟨u, h4, h5⟩ := h3 (i % sz) _ (List.getElem?_eq_getElem hj)
    refine ⟨u, ?_, h5.one (h2 _ (List.getElem_mem hj))⟩
    rw [Nat.add_assoc] at h4
    rwa [Nat.mul_comm, Nat.div_add_mod] at h4
  refine ⟨(List.range (l.length * sz)).map fun i => (G.w.cell? ⟨b, o + i, none⟩).getD undef, by simp, fun u hu => ?_, fun k e hk => ?_, fun a ha j u hu => ?_, fun hA => by cases hA⟩
  · obtain ⟨i, hi, rfl⟩ := List.mem_map.1 hu
    obtain ⟨v, h1, h2⟩ := key i (by simpa using hi)
    rw [h1]; exact h2
  · obtain ⟨h1, h2, h3⟩ := h k e hk
    refine ⟨h1, h2, fun j c hc => ?_⟩
    obtain ⟨u, h4, h5⟩ := h3 j c hc
    have hj : j < sz := by have := (List.getElem?_eq_some_iff.1 hc).1; omega
    have hk2 : k < l.length := (List.getElem?_eq_some_iff.1 hk).1
    have hlt : k * sz + j < l.length * sz := by
      have : (k + 1) * sz ≤ l.length * sz := Nat.mul_le_mul_right _ hk2
      rw [Nat.add_mul] at this; omega
    rw [Nat.add_assoc] at h4
    exact ⟨u, by simp [hlt, h4], h5⟩
  · cases ha
    have hlt : j < l.length * sz := by
      have := (List.getElem?_eq_some_iff.1 hu).1
      simpa using this
    obtain ⟨v, h1, h2⟩ := key j hlt
    simp [hlt, h1] at hu
    subst hu
    rw [Addr.add_lit]; exact h1
theorem vals_nil (G : Cx) (sz : Nat) (A : Option Addr) : Vals G sz A [] [] := ⟨by simp, by simp, by simp, by simp, fun _ => rfl⟩
theorem src_vals {G : Cx} {σ : List Ob} {sz : Nat} {x : AV} {l : List AV} {v : Value} (hsz : 0 < sz) (hr : Rel G σ) (h : Src σ sz x l) (hv : Rep G v x) : ∃ A c news, v = .slice A l.length c ∧ Vals G sz A l news := by
  have own : ∀ (id : Nat) (ob : Ob) (cs : List AV) (n : Nat), σ[id]? = some ob → rowOf ob = some (sz, cs) → n ≤ cs.length → Rep G v (.own id sz n) → ∃ A c news, v = .slice A (cs.take n).length c ∧ Vals G sz A (cs.take n) news := by
    intro id ob cs n hs ho hn hv
    cases hv with
    | own0 _ _ A hA hm => exact ⟨A, 0, [], by simp, by simpa using vals_nil G sz A⟩
    | own _ _ _ b cap hm hn2 hc hb =>
      have key : ∃ news, Vals G sz (some ⟨b, 0, none⟩) (cs.take n) news := vals_of hsz fun k e he => by
        rw [List.getElem?_take] at he
        split at he
        · obtain ⟨f, h1, h2, h3⟩ := row_read hr hs ho hm he
          refine ⟨h1, h2, fun j c hc => ⟨f j, ?_, (h3 j c hc).2⟩⟩
          rw [Nat.zero_add]
          exact (h3 j c hc).1
        · cases he
      obtain ⟨news, h1⟩ := key
      exact ⟨_, cap, news, by simp [Nat.min_eq_left hn], h1⟩
  cases h with
  | sl _ h =>
    cases hv with
    | slnil A cap => exact ⟨A, cap, [], rfl, vals_nil G sz A⟩
    | sl b i cap sz' _ val hc hmx h1 h2 h3 =>
      have key : ∃ news, Vals G sz (some ⟨b, i, none⟩) l news := vals_of hsz fun k e he => by
        obtain ⟨h4, h5⟩ := h1 k e he
        have h6 : sz' = sz := h4.symm.trans (h e (List.mem_of_getElem? he))
        subst h6
        exact ⟨h4, h5, fun j c hc => ⟨val k j, (h2 k e j c he hc).2, h3 k e j c he hc⟩⟩
      obtain ⟨news, h4⟩ := key
      exact ⟨_, cap, news, rfl, h4⟩
  | emp => cases hv with | emp A hA => exact ⟨A, 0, [], rfl, vals_nil G sz A⟩
  | nil => cases hv; exact ⟨none, 0, [], rfl, vals_nil G sz none⟩
  | own id ob _ hs ho n hn =>
    have := own id ob l n hs ho (by omega) hv
    rwa [hn, List.take_length] at this
  | pre id ob cs hs ho n hn => exact own id ob cs n hs ho hn hv
  | sub id ob cs hs ho i n hn =>
    cases hv with
    | sub _ _ _ _ b cap A hm hA _ =>
      have hlen : ((cs.drop i).take n).length = n := by rw [List.length_take, List.length_drop]; omega
      rcases Nat.eq_zero_or_pos n with rfl | hp
      · exact ⟨A, cap, [], by simp, by simpa using vals_nil G sz A⟩
      · have key : ∃ news, Vals G sz (some ⟨b, i * sz, none⟩) ((cs.drop i).take n) news := vals_of hsz fun k e he => by
          rw [List.getElem?_take] at he
          split at he
          · rw [List.getElem?_drop] at he
            obtain ⟨f, h1, h2, h3⟩ := row_read hr hs ho hm he
            refine ⟨h1, h2, fun j c hc => ⟨f j, ?_, (h3 j c hc).2⟩⟩
            rw [show i * sz + k * sz + j = (i + k) * sz + j by rw [Nat.add_mul]]
            exact (h3 j c hc).1
          · cases he
        obtain ⟨news, h1⟩ := key
        rw [hA hp]
        exact ⟨_, cap, news, by rw [hlen], h1⟩

section
variable {P : Program} {o : Oper} {F : Frm} {σ : List Ob}

theorem run_append_in {t ty e : TypeId} {z : Option Value} {sz bt : Nat} (ht : tySlice P t = some e) (hi : tyInfo P e = some (z, sz, bt)) (w : World) (g n cap : Nat) (cur : Array Value) (te : TypeId) (hg : w.heap[g]? = some (.cells cur te (0, 0)))
    (A : Option Addr) (m c : Nat) (news : List Value) (hl : news.length = m * sz) (hA : A = none → m = 0) (hnews : ∀ a, A = some a → ∀ (j : Nat) u, news[j]? = some u → w.cell? (a.add j) = some u) (h1 : ∀ u ∈ news, u.oneCell' = true)
    (hroom : n + m ≤ cap) (hfit : n * sz + news.length ≤ cur.size) :
    (Builtin.append_ #[t, t] ty #[.slice (some ⟨g, 0, none⟩) n cap, .slice A m c]).run P w = .ok (.slice (some ⟨g, 0, none⟩) (n + m) cap) (w.setRow g (cur.toList.take (n * sz) ++ news ++ cur.toList.drop (n * sz + news.length)).toArray) := by
  have hf : (Builtin.firstCells sz m (.slice A m c)).run P w = .ok news.toArray w := by
    cases A with
    | none =>
      have := hA rfl
      subst this
      have : news = [] := List.eq_nil_of_length_eq_zero (by simpa using hl)
      subst this
      simp [Builtin.firstCells]
    | some a => exact run_firstCells_some (P := P) w sz m a m c news hl (hnews a rfl)
  have hst := run_storeCells_at P g (n * sz) te news 0 cur w hg (by simpa using hfit) h1
  simp only [Nat.add_zero] at hst
  simp [Builtin.append_, run_underlying (slice_of ht), run_sizeOf hi, Builtin.lenOf, hroom, hf, Addr.add_lit, hst]

/-- a row that is added to, grown into a new block -/
theorem run_append_new {t ty e : TypeId} {z : Value} {sz bt : Nat} (ht : tySlice P t = some e) (hi : tyInfo P e = some (some z, sz, bt)) (w : World) (B : Option Addr) (n cap : Nat) (olds : List Value) (hlo : olds.length = n * sz) (hB : B = none → n = 0) (holds : ∀ b, B = some b → ∀ (j : Nat) u, olds[j]? = some u → w.cell? (b.add j) = some u)
    (A : Option Addr) (m c : Nat) (news : List Value) (hl : news.length = m * sz) (hA : A = none → m = 0) (hnews : ∀ a, A = some a → ∀ (j : Nat) u, news[j]? = some u → w.cell? (a.add j) = some u)
    (hroom : cap < n + m) (h63 : n + m ≤ 9223372036854775807) (hby : (n + m) * bt ≤ 140737488355328) :
    (Builtin.append_ #[t, t] ty #[.slice B n cap, .slice A m c]).run P w = .ok (.slice (some ⟨w.heap.size, 0, none⟩) (n + m) (grownCap w (n + m) cap e))
        (w.drew.alloc (.cells (olds.toArray ++ news.toArray ++ Builtin.zeroCells z.cells (grownCap w (n + m) cap e - (n + m))) e)) := by
  have hfirst : ∀ (A : Option Addr) (m c : Nat) (news : List Value), news.length = m * sz → (A = none → m = 0) → (∀ a, A = some a → ∀ (j : Nat) u, news[j]? = some u → w.cell? (a.add j) = some u) → (Builtin.firstCells sz m (.slice A m c)).run P w.drew = .ok news.toArray w.drew := by
    intro A m c news hl hA hnews
    cases A with
    | none =>
      have := hA rfl
      subst this
      have : news = [] := List.eq_nil_of_length_eq_zero (by simpa using hl)
      subst this
      simp [Builtin.firstCells]
    | some a => exact run_firstCells_some (P := P) w.drew sz m a m c news hl (by simpa using hnews a rfl)
  obtain ⟨i, h1, h2, h3, h4⟩ := info_of hi
  have hn : ¬ (n + m ≤ cap) := by omega
  have h63' : ¬ (9223372036854775807 < ((n : Int) + (m : Int))) := by omega
  have hfit := growslice_fits hroom hby
  have h48' : ¬ (281474976710656 < Builtin.nextslicecap (n + m) cap * i.bytes) := by rw [h4]; omega
  have hfo := hfirst B n cap olds hlo hB holds
  have hfn := hfirst A m c news hl hA hnews
  simp [Builtin.append_, run_underlying (slice_of ht), sizeOf, typeInfo, zeroValue, h1, h2, h3, Builtin.lenOf, hn, h63', h48', Question.forced, newRow, grownCap, hfo, hfn]
  congr 2
  apply Array.ext'
  simp

theorem does_append_any {t : TypeId} {e : TypeId} {s y : Operand} {z : Value} {sz bt : Nat} {x y' : AV} {σ1 : List Ob} {base l : List AV} (ho : o.op = .call { callee := .builtin .append, args := #[s, y], argTypes := #[t, t] })
    (ht : tySlice P t = some e) (hi : tyInfo P e = some (some z, sz, bt)) (hzs : z.cells.size = sz) (hsz : 0 < sz) (hx : F.eval s = x) (hy : F.eval y = y') (hsrc : Src σ sz y' l)
    (h63 : base.length + l.length ≤ maxLen) (hby : (base.length + l.length) * bt ≤ 140737488355328) (hlen1 : σ1.length = σ.length)
    (hb : ∀ (G : Cx) (v : Value), Rel G σ → Rep G v x → ∃ B cap olds, v = .slice B base.length cap ∧ Vals G sz B base olds ∧ Rel G σ1 ∧
      ((base = [] ∧ cap = 0 ∧ ∀ a, B = some a → a.spot = none) ∨ ∃ b id cs cur te, B = some ⟨b, 0, none⟩ ∧ G.mu id = some (some b) ∧ σ[id]? = some (.row sz cs) ∧ base = cs.take base.length ∧ base.length ≤ cs.length ∧ G.w.heap[b]? = some (.cells cur te (0, 0)) ∧ cur.size = cap * sz ∧ cap ≤ maxLen ∧ σ1 = σ.set id .dead)) :
    Does P o F σ (.own σ.length sz (base.length + l.length)) (σ1 ++ [.row sz (base ++ l)]) :=
  does_new (x := .any) fun G ρ hr hop => by
    have g1 := hop s (by simp [ho, Op.operands, Call.operands])
    have g2 := hop y (by simp [ho, Op.operands, Call.operands])
    rw [hx] at g1
    rw [hy] at g2
    obtain ⟨B, cap, olds, hv1, hvb, hr1, hcase⟩ := hb G (ρ s) hr g1
    obtain ⟨A, c, news, hv2, hvn⟩ := src_vals hsz hr hsrc g2
    have hsmall : base.length + l.length ≤ 9223372036854775807 := by simp only [maxLen] at h63; omega
    have hop2 : ∀ (v : Value) (w : World), (Builtin.append_ #[t, t] o.type #[.slice B base.length cap, .slice A l.length c]).run P G.w = .ok v w → (execOp ρ o).run P G.w = .ok (.value v) w := by
      intro v w h
      simp only [execOp, ho, resolve, invoke, builtin, Sem.run_bind, Sem.run_pure, Result.andThen_ok, List.map_toArray, List.map_cons, List.map_nil, hv1, hv2, h]
    have hAn : A = none → l.length = 0 := fun h => by rw [hvn.nil h]; rfl
    have hBn : B = none → base.length = 0 := fun h => by rw [hvb.nil h]; rfl
    -- what lies in the cells
    have hcells : ∀ (cells : Array Value), (∀ q, q < (base.length + l.length) * sz → cells[q]? = (olds ++ news)[q]?) → ∀ (k : Nat) x, (base ++ l)[k]? = some x → x.cells.length = sz ∧ (∀ c ∈ x.cells, c.one = true) ∧ ∀ (j : Nat) c, x.cells[j]? = some c → ∃ v, cells[k * sz + j]? = some v ∧ Rep G v c := by
      intro cells hcl k x hk
      have hkl : k < base.length + l.length := by have := (List.getElem?_eq_some_iff.1 hk).1; simpa using this
      have hpos : ∀ j, j < sz → k * sz + j < (base.length + l.length) * sz := fun j hj => by
        have : (k + 1) * sz ≤ (base.length + l.length) * sz := Nat.mul_le_mul_right _ hkl
        rw [Nat.add_mul] at this; omega
      by_cases hk1 : k < base.length
      · rw [List.getElem?_append_left hk1] at hk
        obtain ⟨h1, h2, h3⟩ := hvb.rep k x hk
        refine ⟨h1, h2, fun j c hc => ?_⟩
        have hj : j < sz := by have := (List.getElem?_eq_some_iff.1 hc).1; omega
        obtain ⟨u, h4, h5⟩ := h3 j c hc
        refine ⟨u, ?_, h5⟩
        rw [hcl _ (hpos j hj), List.getElem?_append_left (List.getElem?_eq_some_iff.1 h4).1]
        exact h4
      · rw [List.getElem?_append_right (by omega)] at hk
        obtain ⟨h1, h2, h3⟩ := hvn.rep _ x hk
        refine ⟨h1, h2, fun j c hc => ?_⟩
        have hj : j < sz := by have := (List.getElem?_eq_some_iff.1 hc).1; omega
        obtain ⟨u, h4, h5⟩ := h3 j c hc
        refine ⟨u, ?_, h5⟩
        have he : k * sz + j - olds.length = (k - base.length) * sz + j := by
          rw [hvb.len, Nat.sub_mul]
          have : base.length * sz ≤ k * sz := Nat.mul_le_mul_right _ (by omega)
          omega
        rw [hcl _ (hpos j hj), List.getElem?_append_right (by rw [hvb.len]; have : base.length * sz ≤ k * sz := Nat.mul_le_mul_right _ (by omega); omega), he]
        exact h4
    -- into a new block
    have grow : cap < base.length + l.length → ∃ v G', (execOp ρ o).run P G.w = .ok (.value v) G'.w ∧ G.Ext G' ∧ Rel G' (σ1 ++ [.row sz (base ++ l)]) ∧ Rep G' v (.own σ.length sz (base.length + l.length)) := by
      intro hc
      have hrun := run_append_new (P := P) ht hi (ty := o.type) G.w B base.length cap olds hvb.len hBn hvb.at_ A l.length c news hvn.len hAn hvn.at_ hc hsmall hby
      obtain ⟨cells, hcs⟩ : ∃ cells, cells = olds.toArray ++ news.toArray ++ Builtin.zeroCells z.cells (grownCap G.w (base.length + l.length) cap e - (base.length + l.length)) := ⟨_, rfl⟩
      rw [← hcs] at hrun
      have hge := grownCap_ge G.w (base.length + l.length) cap e
      have hcm : grownCap G.w (base.length + l.length) cap e ≤ maxLen := grownCap_le_maxLen G.w _ cap e h63
      have hsize : cells.size = grownCap G.w (base.length + l.length) cap e * sz := by
        rw [hcs]
        simp only [Array.size_append, List.size_toArray, size_zeroCells, hzs, hvb.len, hvn.len, ← Nat.add_mul]
        congr 1
        omega
      have hrow := hcells cells (fun q hq => by
        rw [hcs, ← Array.getElem?_toList]
        simp only [Array.toList_append, List.append_assoc]
        rw [← List.append_assoc, List.getElem?_append_left (by rw [List.length_append, hvb.len, hvn.len, ← Nat.add_mul]; exact hq)])
      have h9 := alloc_rel hr1 G.w.drew rfl hr1.below.drew cells e sz (base ++ l) (by rw [hsize, List.length_append]; exact Nat.mul_le_mul_right _ hge) hrow
      have h10 := alloc_ext hr1 G.w.drew rfl cells e
      rw [hlen1] at h9 h10
      refine ⟨_, _, hop2 _ _ hrun, h10, h9, ?_⟩
      refine .own σ.length sz _ G.w.heap.size _ (by simp [Cx.new]) hge hcm ⟨cells, e, (0, 0), ?_, hsize⟩
      show (G.w.drew.alloc (.cells cells e)).heap[G.w.heap.size]? = _
      exact heap_alloc_new G.w.drew _
    rcases hcase with ⟨hbn, hcap, hBs⟩ | ⟨b, id, cs, cur, te, rfl, hm, hs, hbase, hble, hcur, hcsz, hcm, hσ1⟩
    · by_cases hl0 : l.length = 0
      · -- nothing onto nothing
        have hln : l = [] := List.eq_nil_of_length_eq_zero hl0
        subst hbn
        subst hln
        have hno : news = [] := List.eq_nil_of_length_eq_zero (by simpa using hvn.len)
        subst hno
        have hrun : (Builtin.append_ #[t, t] o.type #[.slice B ([] : List AV).length cap, .slice A ([] : List AV).length c]).run P G.w = .ok (.slice B 0 cap) G.w := by
          have hf : (Builtin.firstCells sz 0 (.slice A 0 c)).run P G.w = .ok #[] G.w := by
            cases A with
            | none => simp [Builtin.firstCells]
            | some a => exact run_firstCells_some (P := P) G.w sz 0 a 0 c [] (by simp) (by simp)
          cases B with
          | none => simp [Builtin.append_, run_underlying (slice_of ht), run_sizeOf hi, Builtin.lenOf, hf]
          | some a => simp [Builtin.append_, run_underlying (slice_of ht), run_sizeOf hi, Builtin.lenOf, hf, storeCells]
        subst hcap
        have h9 := nil_rel hr1 sz
        have h10 := nil_ext hr1
        rw [hlen1] at h9 h10
        exact ⟨_, G.new σ.length G.w none, hop2 _ _ hrun, h10, h9, .own0 σ.length sz B hBs (by simp [Cx.new])⟩
      · exact grow (by omega)
    · by_cases hroom : base.length + l.length ≤ cap
      · have hfit : base.length * sz + news.length ≤ cur.size := by rw [hvn.len, hcsz, ← Nat.add_mul]; exact Nat.mul_le_mul_right _ hroom
        have hrun := run_append_in (P := P) ht hi (ty := o.type) G.w b base.length cap cur te hcur A l.length c news hvn.len hAn hvn.at_ hvn.one hroom hfit
        obtain ⟨nc, hnc⟩ : ∃ nc : Array Value, nc = (cur.toList.take (base.length * sz) ++ news ++ cur.toList.drop (base.length * sz + news.length)).toArray := ⟨_, rfl⟩
        rw [← hnc] at hrun
        have hncs : nc.size = cur.size := by
          rw [hnc]
          simp only [List.size_toArray, List.length_append, List.length_take, List.length_drop, Array.length_toList]
          omega
        have holds : cur.toList.take (base.length * sz) = olds := by
          apply List.ext_getElem?
          intro q
          rw [List.getElem?_take, Array.getElem?_toList]
          by_cases hq : q < base.length * sz
          · rw [if_pos hq]
            have h1 := hvb.at_ _ rfl q (olds[q]'(by rw [hvb.len]; exact hq)) (List.getElem?_eq_getElem _)
            rw [Addr.add_lit, Nat.zero_add, cell_of_row _ b q cur te (0, 0) hcur] at h1
            rw [h1, List.getElem?_eq_getElem (by rw [hvb.len]; exact hq)]
          · rw [if_neg hq, List.getElem?_eq_none (by rw [hvb.len]; omega)]
        have hrow := hcells nc (fun q hq => by
          rw [hnc, List.getElem?_toArray, holds, List.getElem?_append_left (by rw [List.length_append, hvb.len, hvn.len, ← Nat.add_mul]; exact hq)])
        have hw := write_rel (cs' := base ++ l) hr hs hm hcur hncs (by rw [hncs, hcsz, List.length_append]; exact Nat.mul_le_mul_right _ hroom) hrow
        have hwe := write_ext hr hs hm hcur hncs
        have hid : id < σ.length := (List.getElem?_eq_some_iff.1 hs).1
        have hm2 : ({ G with w := G.w.setRow b nc } : Cx).mu id = some (some b) := hm
        obtain ⟨h9, h10⟩ := rename_rel (id := id) (sz := sz) (cs := base ++ l) hw (by rw [List.getElem?_set_self hid]) hm2
        rw [List.set_set, ← hσ1, List.length_set] at h9
        rw [List.length_set] at h10
        refine ⟨_, _, hop2 _ _ hrun, hwe.trans h10, h9, ?_⟩
        refine .own σ.length sz _ b cap (by simp [Cx.new]) hroom hcm ⟨nc, te, (0, 0), ?_, by rw [hncs]; exact hcsz⟩
        exact setRow_heap _ _ cur nc _ _ hcur
      · exact grow (by omega)

theorem does_append {t e : TypeId} {s y : Operand} {z : Value} {sz bt id n : Nat} {y' : AV} {cs l : List AV} (ho : o.op = .call { callee := .builtin .append, args := #[s, y], argTypes := #[t, t] })
    (ht : tySlice P t = some e) (hi : tyInfo P e = some (some z, sz, bt)) (hzs : z.cells.size = sz) (hsz : 0 < sz) (hx : F.eval s = .own id sz n) (hs : σ[id]? = some (.row sz cs)) (hn : n = cs.length) (hy : F.eval y = y') (hsrc : Src σ sz y' l)
    (h63 : cs.length + l.length ≤ maxLen) (hby : (cs.length + l.length) * bt ≤ 140737488355328) :
    Does P o F σ (.own σ.length sz (cs.length + l.length)) (σ.set id .dead ++ [.row sz (cs ++ l)]) :=
  does_append_any ho ht hi hzs hsz hx hy hsrc h63 hby (by simp) fun G v hr hv => by
    have hk := kill_rel hr id
    cases hv with
    | own0 _ _ A hA hm =>
      have h1 := hr.obs id _ hs
      simp only [ObOk, hm] at h1
      subst h1
      exact ⟨A, 0, [], rfl, vals_nil G sz A, hk, .inl ⟨rfl, rfl, hA⟩⟩
    | own _ _ _ b cap hm hn2 hc hb =>
      subst hn
      have h1 := hr.obs id _ hs
      simp only [ObOk, hm] at h1
      obtain ⟨⟨cur, te, fr, h2, rfl, h3, h4⟩, h5, h6⟩ := h1
      obtain ⟨cur2, te2, fr2, h7, h8⟩ := hb
      rw [h2] at h7
      cases h7
      obtain ⟨A, c, olds, hv, hvals⟩ := src_vals (v := .slice (some ⟨b, 0, none⟩) cs.length cap) hsz hr (Src.own id _ cs hs rfl cs.length rfl) (.own id sz cs.length b cap hm hn2 hc ⟨cur, te, (0, 0), h2, h8⟩)
      cases hv
      exact ⟨_, cap, olds, rfl, hvals, hk, .inr ⟨b, id, cs, cur, te, rfl, hm, hs, by simp, Nat.le_refl _, h2, h8, hc, rfl⟩⟩
theorem does_append0 {t e : TypeId} {s y : Operand} {z : Value} {sz bt : Nat} {x y' : AV} {l : List AV} (ho : o.op = .call { callee := .builtin .append, args := #[s, y], argTypes := #[t, t] })
    (ht : tySlice P t = some e) (hi : tyInfo P e = some (some z, sz, bt)) (hzs : z.cells.size = sz) (hsz : 0 < sz) (hx : F.eval s = x) (hx2 : x = .emp ∨ x = .s (.slice none 0 0)) (hy : F.eval y = y') (hsrc : Src σ sz y' l)
    (h63 : l.length ≤ maxLen) (hby : l.length * bt ≤ 140737488355328) :
    Does P o F σ (.own σ.length sz l.length) (σ ++ [.row sz l]) := by
  have := does_append_any (P := P) (o := o) (F := F) (σ := σ) (base := []) (σ1 := σ) ho ht hi hzs hsz hx hy hsrc (by simpa using h63) (by simpa using hby) rfl fun G v hr hv => by
    rcases hx2 with rfl | rfl
    · cases hv with
      | emp A hA => exact ⟨A, 0, [], rfl, vals_nil G sz A, hr, .inl ⟨rfl, rfl, hA⟩⟩
    · cases hv
      exact ⟨none, 0, [], rfl, vals_nil G sz none, hr, .inl ⟨rfl, rfl, fun a ha => by cases ha⟩⟩
  simpa using this
end
end Go.Proofs.YtanfaepjamkbjaaGreat.Aw
end
section
namespace Go.Proofs.YtanfaepjamkbjaaGreat.Aw
set_option linter.unusedSimpArgs false
set_option linter.unusedVariables false
open Go.RowKit

/-- new names for the call's own things -/
inductive Rn (ρ : List Nat) : AV → AV → Prop
  | lo (x : AV) (h : Lo 0 x) : Rn ρ x x
  | own (id j sz n n' : Nat) (h : ρ[j]? = some id) (hn : n = n') : Rn ρ (.own id sz n) (.own j sz n')
  | ptr (id j sz k i : Nat) (h : ρ[j]? = some id) : Rn ρ (.ptr id sz k i) (.ptr j sz k i)
  | mp (id j : Nat) (h : ρ[j]? = some id) : Rn ρ (.mp id) (.mp j)
  | sub (id j sz q n q' n' : Nat) (h : ρ[j]? = some id) (hq : q = q') (hn : n = n') : Rn ρ (.sub id sz q n) (.sub j sz q' n')
  | agg (cs cs' : List AV) (hl : cs.length = cs'.length) (h : ∀ (j : Nat) x y, cs[j]? = some x → cs'[j]? = some y → Rn ρ x y) : Rn ρ (.agg cs) (.agg cs')
  | fn (f : FuncId) (cs cs' : List AV) (hl : cs.length = cs'.length) (h : ∀ (j : Nat) x y, cs[j]? = some x → cs'[j]? = some y → Rn ρ x y) : Rn ρ (.fn f cs) (.fn f cs')

def Cx.ren (G : Cx) (ρ : List Nat) : Cx := { G with mu := fun j => (ρ[j]?).bind G.mu }
theorem Rn.one {ρ : List Nat} {x y : AV} (h : Rn ρ x y) : y.one = x.one := by cases h <;> rfl
theorem Rn.rep {G : Cx} {ρ : List Nat} {v : Value} {x y : AV} (h : Rn ρ x y) : Rep G v x → Rep (G.ren ρ) v y := by
  induction h generalizing v with
  | lo x h => exact fun hv => hv.low h (fun _ _ h => h) (fun _ _ _ => rfl) (fun id y h => by omega) (fun h => by omega)
  | own id j sz n n' h hn =>
    subst hn
    intro hv
    cases hv with
    | own0 _ _ A hA hm => exact .own0 j sz A hA (by simp [Cx.ren, h, hm])
    | own _ _ _ b cap hm hn hc hb => exact .own j sz n b cap (by simp [Cx.ren, h, hm]) hn hc hb
  | ptr id j sz k i h =>
    intro hv
    cases hv with
    | ptr _ _ _ _ b hm => exact .ptr j sz k i b (by simp [Cx.ren, h, hm])
  | mp id j h =>
    intro hv
    cases hv with
    | mp _ b hm => exact .mp j b (by simp [Cx.ren, h, hm])
  | sub id j sz q n q' n' h hq hn =>
    subst hq hn
    intro hv
    cases hv with
    | sub _ _ _ _ b cap A hm hA hc => exact .sub j sz q n b cap A (by simp [Cx.ren, h, hm]) hA hc
  | agg cs cs' hl h ih =>
    intro hv
    cases hv with
    | agg vs _ hs h1 hr =>
      refine .agg vs cs' (hs.trans hl) (fun c hc => ?_) (fun j v y hv hy => ?_)
      · obtain ⟨j, hj, rfl⟩ := List.mem_iff_getElem.1 hc
        rw [(h j cs[j] cs'[j] (by simp) (by simp [hj])).one]
        exact h1 _ (List.getElem_mem _)
      · have hj : j < cs.length := by rw [hl]; exact (List.getElem?_eq_some_iff.1 hy).1
        exact ih j _ y (List.getElem?_eq_getElem hj) hy (hr j v _ hv (List.getElem?_eq_getElem hj))
  | fn f cs cs' hl h ih =>
    intro hv
    cases hv with
    | fn _ vs _ hs hr =>
      refine .fn f vs cs' (hs.trans hl) (fun j v y hv hy => ?_)
      have hj : j < cs.length := by rw [hl]; exact (List.getElem?_eq_some_iff.1 hy).1
      exact ih j _ y (List.getElem?_eq_getElem hj) hy (hr j v _ hv (List.getElem?_eq_getElem hj))

/-- an own thing under a new name: what it holds names nothing of the call's own, or the like under new names -/
inductive ObRn (ρ : List Nat) : Ob → Ob → Prop
  | dead (ob : Ob) : ObRn ρ ob .dead
  | row (sz : Nat) (cs : List AV) (h : ∀ e ∈ cs, ∀ c ∈ e.cells, Lo 0 c) : ObRn ρ (.row sz cs) (.row sz cs)
  | fz (sz : Nat) (cs : List AV) (h : ∀ e ∈ cs, ∀ c ∈ e.cells, Lo 0 c) : ObRn ρ (.fz sz cs) (.fz sz cs)
  | rowR (sz : Nat) (e e' : AV) (h : Rn ρ e e') (h1 : ∀ (j : Nat) x y, e.cells[j]? = some x → e'.cells[j]? = some y → Rn ρ x y) (hl : e.cells.length = e'.cells.length) : ObRn ρ (.row sz [e]) (.row sz [e'])
  | mp (X : MapX) (n : Nat) (hn : X.n ≤ n) : ObRn ρ (.mp X) (.mp { X with n := n })

theorem ren_row {G : Cx} {ρ : List Nat} {b sz : Nat} {cs cs' : List AV} {f : Nat × Nat → Prop} (h : RowAt G b sz cs f) (hl : cs.length = cs'.length)
    (hc : ∀ (k : Nat) e e', cs[k]? = some e → cs'[k]? = some e' → e.cells.length = e'.cells.length ∧ ∀ (j : Nat) x y, e.cells[j]? = some x → e'.cells[j]? = some y → Rn ρ x y) : RowAt (G.ren ρ) b sz cs' f := by
  obtain ⟨cur, t, fr, h1, h2, h3, h4⟩ := h
  refine ⟨cur, t, fr, h1, h2, by rw [← hl]; exact h3, fun k e' he' => ?_⟩
  have hk : k < cs.length := by rw [hl]; exact (List.getElem?_eq_some_iff.1 he').1
  obtain ⟨g1, g2, g3⟩ := h4 k _ (List.getElem?_eq_getElem hk)
  obtain ⟨k1, k2⟩ := hc k _ e' (List.getElem?_eq_getElem hk) he'
  refine ⟨by rw [← k1]; exact g1, fun c hcc => ?_, fun j y hy => ?_⟩
  · obtain ⟨j, hj, rfl⟩ := List.mem_iff_getElem.1 hcc
    rw [(k2 j _ _ (List.getElem?_eq_getElem (by omega)) (List.getElem?_eq_getElem hj)).one]
    exact g2 _ (List.getElem_mem _)
  · have hj : j < (cs[k]).cells.length := by rw [k1]; exact (List.getElem?_eq_some_iff.1 hy).1
    obtain ⟨v, g4, g5⟩ := g3 j _ (List.getElem?_eq_getElem hj)
    exact ⟨v, g4, (k2 j _ y (List.getElem?_eq_getElem hj) hy).rep g5⟩

theorem ObRn.rowE {ρ : List Nat} {sz : Nat} {cs cs' : List AV} (h : ∀ e ∈ cs', ∀ c ∈ e.cells, Lo 0 c) (hc : cs = cs') : ObRn ρ (.row sz cs) (.row sz cs') := by subst hc; exact .row sz cs h

/-- σ' is σ under the names ρ -/
def StRn (σ : List Ob) (ρ : List Nat) (σ' : List Ob) : Prop := σ'.length = ρ.length ∧ ∀ (j i : Nat) ob', ρ[j]? = some i → σ'[j]? = some ob' → ∃ ob, σ[i]? = some ob ∧ ObRn ρ ob ob'
def FrRn (F : Frm) (ρ : List Nat) : Frm → Prop
  | [] => True
  | (d, y) :: F' => Rn ρ (F.get d) y ∧ FrRn F ρ F'

theorem ren_rel {G : Cx} {σ σ' : List Ob} {ρ : List Nat} (hr : Rel G σ) (hn : ρ.Nodup) (hs : StRn σ ρ σ') : Rel (G.ren ρ) σ' := by
  obtain ⟨hlen, hst⟩ := hs
  refine ⟨hr.below, hr.le, hr.st, fun j ob' hob => ?_, fun j j' b hj hj' hm hm' => ?_, fun j hj => ?_⟩
  · have hj : j < ρ.length := by rw [← hlen]; exact (List.getElem?_eq_some_iff.1 hob).1
    obtain ⟨ob, h1, h2⟩ := hst j _ ob' (List.getElem?_eq_getElem hj) hob
    have h3 := hr.obs _ ob h1
    have hm : (G.ren ρ).mu j = G.mu ρ[j] := by simp [Cx.ren, hj]
    cases h2 with
    | dead => exact fun b hb => h3.lt (by rw [← hm]; exact hb)
    | mp X n hn2 =>
      obtain ⟨b, g1, g2, g3, g4, g5⟩ := h3
      refine ⟨b, hm.trans g1, World.ownsMap.mono g2 hn2, g3, g4, fun j' hj' => ?_⟩
      cases hρ : ρ[j']? with
      | none => simp [Cx.ren, hρ] at hj'
      | some i =>
        obtain ⟨hlt, hi⟩ := List.getElem?_eq_some_iff.1 hρ
        simp only [Cx.ren, hρ, Option.bind_some] at hj'
        have := g5 i hj'
        rw [← hi] at this
        exact (List.getElem_inj hn).1 this
    | row sz cs h =>
      simp only [ObOk, hm] at h3 ⊢
      cases hx : G.mu ρ[j] with
      | none => rw [hx] at h3; exact h3
      | some x =>
        rw [hx] at h3
        cases x with
        | none => exact h3
        | some b =>
          refine ⟨ren_row h3.1 rfl (fun k e e' he he' => ?_), h3.2⟩
          rw [he] at he'; cases he'
          refine ⟨rfl, fun i x y hx hy => ?_⟩
          rw [hx] at hy; cases hy
          exact .lo _ (h e (List.mem_of_getElem? he) x (List.mem_of_getElem? hx))
    | fz sz cs h =>
      simp only [ObOk, hm] at h3 ⊢
      cases hx : G.mu ρ[j] with
      | none => rw [hx] at h3; exact h3
      | some x =>
        rw [hx] at h3
        cases x with
        | none => exact h3
        | some b =>
          refine ⟨ren_row h3.1 rfl (fun k e e' he he' => ?_), h3.2⟩
          rw [he] at he'; cases he'
          refine ⟨rfl, fun i x y hx hy => ?_⟩
          rw [hx] at hy; cases hy
          exact .lo _ (h e (List.mem_of_getElem? he) x (List.mem_of_getElem? hx))
    | rowR sz e e' h g1 hl =>
      simp only [ObOk, hm] at h3 ⊢
      cases hx : G.mu ρ[j] with
      | none => rw [hx] at h3; exact h3
      | some x =>
        rw [hx] at h3
        cases x with
        | none => simp at h3
        | some b =>
          refine ⟨ren_row h3.1 rfl (fun k x x' he he' => ?_), h3.2⟩
          cases k with
          | succ k => simp at he
          | zero =>
            simp at he he'
            subst he he'
            exact ⟨hl, g1⟩
  · obtain ⟨sz, cs, h1⟩ := hj
    obtain ⟨sz', cs', h1'⟩ := hj'
    have hlj : j < ρ.length := by rw [← hlen]; exact (List.getElem?_eq_some_iff.1 h1).1
    have hlj' : j' < ρ.length := by rw [← hlen]; exact (List.getElem?_eq_some_iff.1 h1').1
    have al : ∀ j sz cs (hlj : j < ρ.length), σ'[j]? = some (.row sz cs) → alive σ ρ[j] := by
      intro j sz cs hlj h1
      obtain ⟨ob, h2, h3⟩ := hst j _ _ (List.getElem?_eq_getElem hlj) h1
      cases h3 with
      | row _ _ _ => exact ⟨sz, cs, h2⟩
      | rowR _ e _ _ _ _ => exact ⟨sz, [e], h2⟩
    have e := hr.inj ρ[j] ρ[j'] b (al j sz cs hlj h1) (al j' sz' cs' hlj' h1') (by simpa [Cx.ren, hlj] using hm) (by simpa [Cx.ren, hlj'] using hm')
    exact (List.getElem_inj hn).1 e
  · have : ρ[j]? = none := List.getElem?_eq_none (by omega)
    simp [Cx.ren, this]

section
variable {N : Nat} {F F' : Frm} {σ σ' : List Ob}
theorem frRn_ok {G : Cx} {a : Act} {ρ : List Nat} (hf : FOk G a F) : ∀ F', FrRn F ρ F' → FOk (G.ren ρ) a F'
  | [], _ => fun d => .any _
  | (d, y) :: F', h => fun t => by
    simp only [Frm.get]
    cases e : Nat.beq d t with
    | true =>
      have := Nat.eq_of_beq_eq_true e
      subst this
      exact h.1.rep (hf d)
    | false => exact frRn_ok hf F' h.2 t
theorem wk_ren (ρ : List Nat) (hn : ρ.Nodup) (hs : StRn σ ρ σ') (hf : FrRn F ρ F') : Weak N F σ F' σ' := fun G a h =>
  ⟨G.ren ρ, rfl, ⟨rfl, rfl, fun _ _ h => h, fun _ _ _ => rfl, fun _ _ h => .inl h⟩, ⟨ren_rel h.rel hn hs, frRn_ok h.fr F' hf, h.df, h.nt⟩⟩
/-- the same, name by name -/
def StL (ρ0 : List Nat) (σ : List Ob) : List Nat → List Ob → Prop
  | [], [] => True
  | i :: ρ, ob' :: σ' => (∃ ob, σ[i]? = some ob ∧ ObRn ρ0 ob ob') ∧ StL ρ0 σ ρ σ'
  | _, _ => False
theorem stRn_of {ρ0 : List Nat} : ∀ (ρ : List Nat) (σ' : List Ob), StL ρ0 σ ρ σ' → σ'.length = ρ.length ∧ ∀ (j i : Nat) ob', ρ[j]? = some i → σ'[j]? = some ob' → ∃ ob, σ[i]? = some ob ∧ ObRn ρ0 ob ob'
  | [], [], _ => ⟨rfl, fun j i ob' h => by simp at h⟩
  | [], _ :: _, h => h.elim
  | _ :: _, [], h => h.elim
  | i :: ρ, ob' :: σ', h => by
    obtain ⟨h1, h2⟩ := stRn_of ρ σ' h.2
    refine ⟨by simp [h1], fun j i' x hj hx => ?_⟩
    cases j with
    | zero => simp at hj hx; subst hj hx; exact h.1
    | succ j => exact h2 j i' x (by simpa using hj) (by simpa using hx)
theorem wk_st (ρ : List Nat) (hn : ρ.Nodup) (hs : StL ρ σ ρ σ') (hf : FrRn F ρ F') : Weak N F σ F' σ' := wk_ren ρ hn (stRn_of ρ σ' hs) hf
end
end Go.Proofs.YtanfaepjamkbjaaGreat.Aw
end
