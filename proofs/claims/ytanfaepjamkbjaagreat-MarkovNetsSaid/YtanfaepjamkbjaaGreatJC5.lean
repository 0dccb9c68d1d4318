/-
  Texts joined: EvT, AwV, EvC0, AwP, AwO, EvC, EvD, AwW, AwX, SpB, AwL0, AwL, Ti, SlA, Ad. Conditions: none.
-/
import Derived.Test.YtanfaepjamkbjaaGreatJC4
import Derived.Laws.Small
import Derived.Laws.StructEq
import Derived.Test.YtanfaepjamkbjaaGreatJC3
import Derived.Laws.BytesArg
import Derived.Maps.OwnSet
import Derived.Test.YtanfaepjamkbjaaGreatJC1
import Derived.Test.YtanfaepjamkbjaaGreatProg
import Derived.Test.YtanfaepjamkbjaaGreatJC2
section
namespace Go.Proofs.YtanfaepjamkbjaaGreat.Aw
set_option linter.unusedSimpArgs false
set_option linter.unusedVariables false

inductive Tri (α : Type) where
  | nil
  | node (v : Option α) (l r : Tri α)
namespace Tri
variable {α : Type}
def get : Tri α → Nat → Option α
  | .nil, _ => none
  | .node v l r, i => bif Nat.beq i 0 then v else bif Nat.beq (i % 2) 1 then get l (i / 2) else get r (i / 2 - 1)
def set : Nat → Tri α → Nat → α → Tri α
  | 0, t, _, _ => t
  | f + 1, .nil, i, x => bif Nat.beq i 0 then .node (some x) .nil .nil else bif Nat.beq (i % 2) 1 then .node none (set f .nil (i / 2) x) .nil else .node none .nil (set f .nil (i / 2 - 1) x)
  | f + 1, .node v l r, i, x => bif Nat.beq i 0 then .node (some x) l r else bif Nat.beq (i % 2) 1 then .node v (set f l (i / 2) x) r else .node v l (set f r (i / 2 - 1) x)
theorem beq_t {a b : Nat} (h : a = b) : Nat.beq a b = true := by subst h; simp
theorem beq_f {a b : Nat} (h : a ≠ b) : Nat.beq a b = false := by
  cases hb : Nat.beq a b with
  | false => rfl
  | true => exact absurd (Nat.eq_of_beq_eq_true hb) h
theorem get_set : ∀ (f : Nat) (t : Tri α) (i j : Nat) (x : α), i < f → get (set f t i x) j = if j = i then some x else get t j
  | 0, t, i, j, x, h => by omega
  | f + 1, .nil, i, j, x, h => by
    have key : ∀ k, get (.nil : Tri α) k = none := fun _ => rfl
    unfold set
    by_cases hi : i = 0
    · subst hi
      rw [beq_t rfl, cond_true]
      by_cases hj : j = 0
      · subst hj; simp [get]
      · simp only [get, beq_f hj, cond_false, if_neg hj]; cases Nat.beq (j % 2) 1 <;> rfl
    · rw [beq_f hi, cond_false]
      by_cases hp : i % 2 = 1
      · rw [beq_t hp, cond_true]
        by_cases hj : j = 0
        · subst hj; rw [if_neg (Ne.symm hi)]; rfl
        · simp only [get, beq_f hj, cond_false]
          by_cases hq : j % 2 = 1
          · rw [beq_t hq, cond_true, get_set f .nil (i / 2) (j / 2) x (by omega)]
            by_cases e : j = i
            · subst e; simp
            · rw [if_neg e, if_neg (by omega)]; rfl
          · rw [beq_f hq, cond_false, if_neg (by intro e; subst e; exact hq hp)]
      · rw [beq_f hp, cond_false]
        by_cases hj : j = 0
        · subst hj; rw [if_neg (Ne.symm hi)]; rfl
        · simp only [get, beq_f hj, cond_false]
          by_cases hq : j % 2 = 1
          · rw [beq_t hq, cond_true, if_neg (by intro e; subst e; exact hp hq)]
          · rw [beq_f hq, cond_false, get_set f .nil (i / 2 - 1) (j / 2 - 1) x (by omega)]
            by_cases e : j = i
            · subst e; simp
            · rw [if_neg e, if_neg (by omega)]; rfl
  | f + 1, .node v l r, i, j, x, h => by
    unfold set
    by_cases hi : i = 0
    · subst hi
      rw [beq_t rfl, cond_true]
      by_cases hj : j = 0
      · subst hj; simp [get]
      · simp only [get, beq_f hj, cond_false, if_neg hj]
    · rw [beq_f hi, cond_false]
      by_cases hp : i % 2 = 1
      · rw [beq_t hp, cond_true]
        by_cases hj : j = 0
        · subst hj; rw [if_neg (Ne.symm hi)]; rfl
        · simp only [get, beq_f hj, cond_false]
          by_cases hq : j % 2 = 1
          · rw [beq_t hq, cond_true, get_set f l (i / 2) (j / 2) x (by omega)]
            by_cases e : j = i
            · subst e; simp
            · rw [if_neg e, if_neg (by omega)]; rfl
          · rw [beq_f hq, cond_false, if_neg (by intro e; subst e; exact hq hp)]
            rfl
      · rw [beq_f hp, cond_false]
        by_cases hj : j = 0
        · subst hj; rw [if_neg (Ne.symm hi)]; rfl
        · simp only [get, beq_f hj, cond_false]
          by_cases hq : j % 2 = 1
          · rw [beq_t hq, cond_true, if_neg (by intro e; subst e; exact hp hq)]
            rfl
          · rw [beq_f hq, cond_false, get_set f r (i / 2 - 1) (j / 2 - 1) x (by omega)]
            by_cases e : j = i
            · subst e; simp
            · rw [if_neg e, if_neg (by omega)]; rfl
end Tri

/-- a store -/
structure Sto where
  len : Nat
  t : Tri Ob
namespace Sto
def at_ (s : Sto) (i : Nat) : Ob := match s.t.get i with | some x => x | none => .dead
def abs (s : Sto) : List Ob := (List.range s.len).map s.at_
def get (s : Sto) (i : Nat) : Option Ob := bif Nat.blt i s.len then some (s.at_ i) else none
def set (s : Sto) (i : Nat) (x : Ob) : Sto := ⟨s.len, s.t.set (i + 1) i x⟩
def push (s : Sto) (x : Ob) : Sto := ⟨s.len + 1, s.t.set (s.len + 1) s.len x⟩
def take (s : Sto) (k : Nat) : Sto := bif Nat.ble k s.len then ⟨k, s.t⟩ else s
def nil : Sto := ⟨0, .nil⟩
theorem abs_nil : nil.abs = [] := rfl
theorem abs_len (s : Sto) : s.abs.length = s.len := by simp [abs]
theorem get_abs (s : Sto) (i : Nat) : s.get i = s.abs[i]? := by
  unfold get abs
  cases h : Nat.blt i s.len with
  | true => have : i < s.len := by simpa [Nat.blt_eq] using h
            simp [this]
  | false =>
    have : ¬ i < s.len := by intro hh; rw [← Nat.blt_eq] at hh; rw [h] at hh; cases hh
    rw [List.getElem?_eq_none (by simp; omega)]; rfl
theorem at_set (s : Sto) (i j n : Nat) (x : Ob) : (⟨n, s.t.set (i + 1) i x⟩ : Sto).at_ j = if j = i then x else s.at_ j := by
  unfold at_
  simp only [Tri.get_set _ _ _ _ _ (Nat.lt_succ_self i)]
  split
  · rename_i y hy
    split at hy
    · rename_i e; cases hy; rw [if_pos e]
    · rename_i e; rw [if_neg e, hy]
  · rename_i hy
    split at hy
    · cases hy
    · rename_i e; rw [if_neg e, hy]
theorem set_abs (s : Sto) (i : Nat) (x : Ob) : (s.set i x).abs = s.abs.set i x := by
  apply List.ext_getElem?
  intro j
  rw [← get_abs]
  by_cases h : j < s.len
  · have h1 : (s.set i x).get j = some ((s.set i x).at_ j) := by
      unfold get
      have : Nat.blt j (s.set i x).len = true := by rw [Nat.blt_eq]; exact h
      rw [this]; rfl
    rw [h1]
    have h2 : (s.set i x).at_ j = if j = i then x else s.at_ j := at_set s i j s.len x
    rw [h2]
    by_cases e : j = i
    · subst e; rw [if_pos rfl, List.getElem?_set_self (by rw [abs_len]; exact h)]
    · rw [if_neg e, List.getElem?_set_ne (Ne.symm e)]
      simp [abs, h]
  · rw [get_abs, List.getElem?_eq_none (by rw [abs_len]; exact Nat.le_of_not_lt h), List.getElem?_eq_none (by rw [List.length_set, abs_len]; omega)]
theorem push_abs (s : Sto) (x : Ob) : (s.push x).abs = s.abs ++ [x] := by
  unfold push abs
  have h : ∀ j, (⟨s.len + 1, s.t.set (s.len + 1) s.len x⟩ : Sto).at_ j = if j = s.len then x else s.at_ j := fun j => at_set s s.len j (s.len + 1) x
  simp only [List.range_succ, List.map_append, List.map_cons, List.map_nil]
  rw [h s.len, if_pos rfl]
  congr 1
  refine List.map_congr_left fun j hj => ?_
  have : j < s.len := by simpa using hj
  rw [h j, if_neg (by omega)]
theorem take_abs (s : Sto) (k : Nat) : (s.take k).abs = s.abs.take k := by
  unfold take
  cases h : Nat.ble k s.len with
  | true =>
    have hk := Nat.le_of_ble_eq_true h
    apply List.ext_getElem?
    intro j
    rw [cond_true, List.getElem?_take]
    by_cases hj : j < k
    · rw [if_pos hj]
      have h1 : j < s.len := by omega
      have e : ∀ j, (⟨k, s.t⟩ : Sto).at_ j = s.at_ j := fun _ => rfl
      simp [abs, hj, h1, e]
    · rw [if_neg hj, List.getElem?_eq_none (by rw [abs_len]; exact Nat.le_of_not_lt hj)]
  | false =>
    have : ¬ k ≤ s.len := by intro hh; rw [Nat.ble_eq_true_of_le hh] at h; cases h
    rw [cond_false, List.take_of_length_le (by rw [abs_len]; omega)]
end Sto

/-- a frame -/
abbrev FT := Tri AV
def fget (t : FT) (d : Nat) : AV := match t.get d with | some x => x | none => .any
def fset (t : FT) (d : Nat) (x : AV) : FT := t.set (d + 1) d x
theorem fget_set (t : FT) (d e : Nat) (x : AV) : fget (fset t d x) e = if e = d then x else fget t e := by
  unfold fget fset
  rw [Tri.get_set _ _ _ _ _ (Nat.lt_succ_self d)]
  by_cases h : e = d
  · rw [if_pos h, if_pos h]
  · rw [if_neg h, if_neg h]
def fev (t : FT) : Operand → AV
  | .tmp d => fget t d
  | .const v => ofValue v
  | .global _ => .any
  | .func f => .fn f []
/-- the same as a list -/
def FEq (F : Frm) (t : FT) : Prop := ∀ d, F.get d = fget t d
theorem FEq.ev {F : Frm} {t : FT} (h : FEq F t) : F.eval = fev t := by
  funext y
  cases y with
  | tmp d => exact h d
  | _ => rfl
theorem FEq.put {F : Frm} {t : FT} (h : FEq F t) (d : Nat) (x : AV) : FEq ((d, x) :: F) (fset t d x) := fun e => by
  rw [fget_set]
  simp only [Frm.get]
  by_cases he : e = d
  · subst he; simp
  · rw [if_neg he, Tri.beq_f (Ne.symm he), cond_false]; exact h e
end Go.Proofs.YtanfaepjamkbjaaGreat.Aw
end
section
namespace Go.Proofs.YtanfaepjamkbjaaGreat.Aw
set_option linter.unusedSimpArgs false
set_option linter.unusedVariables false
open Go Go.RowKit
section
variable {P : Program} {o : Oper} {F : Frm} {σ : List Ob}

theorem does_max {x y : Operand} {t t' : TypeId} {k k' : IntKind} {m n c : Int} (ho : o.op = .call { callee := .builtin .max, args := #[x, y], argTypes := #[t, t'] }) (hx : F.eval x = .s (.int k m)) (hy : F.eval y = .s (.int k' n)) (hc : (if m < n then n else m) = c) : Does P o F σ (.s (.int k c)) σ :=
  does_val fun G ρ hr hop => by
    have h1 := hop x (by simp [ho, Op.operands, Call.operands])
    have h2 := hop y (by simp [ho, Op.operands, Call.operands])
    rw [hx] at h1
    rw [hy] at h2
    subst hc
    exact ⟨_, by simp [execOp, ho, resolve, invoke, builtin, rep_s h1, rep_s h2, run_max_int2], .s _⟩
theorem does_min {x y : Operand} {t t' : TypeId} {k k' : IntKind} {m n c : Int} (ho : o.op = .call { callee := .builtin .min, args := #[x, y], argTypes := #[t, t'] }) (hx : F.eval x = .s (.int k m)) (hy : F.eval y = .s (.int k' n)) (hc : (if n < m then n else m) = c) : Does P o F σ (.s (.int k c)) σ :=
  does_val fun G ρ hr hop => by
    have h1 := hop x (by simp [ho, Op.operands, Call.operands])
    have h2 := hop y (by simp [ho, Op.operands, Call.operands])
    rw [hx] at h1
    rw [hy] at h2
    subst hc
    exact ⟨_, by simp [execOp, ho, resolve, invoke, builtin, rep_s h1, rep_s h2, run_min_int2], .s _⟩

/-- bits -/
def bitsV (op : BinOp) (k : IntKind) (x y : Int) : Int := match op with
  | .and => k.wrap (BitVec.ofInt k.bits x &&& BitVec.ofInt k.bits y).toNat
  | .or => k.wrap (BitVec.ofInt k.bits x ||| BitVec.ofInt k.bits y).toNat
  | .xor => k.wrap (BitVec.ofInt k.bits x ^^^ BitVec.ofInt k.bits y).toNat
  | _ => k.wrap (BitVec.ofInt k.bits x &&& ~~~(BitVec.ofInt k.bits y)).toNat
theorem does_bits {b : BinOp} {t t' : TypeId} {x y : Operand} {k : IntKind} {m n c : Int} (ho : o.op = .binOp b t x y t') (hb : b = .and ∨ b = .or ∨ b = .xor ∨ b = .andNot) (hx : F.eval x = .s (.int k m)) (hy : F.eval y = .s (.int k n)) (hw : bitsV b k m n = c) : Does P o F σ (.s (.int k c)) σ :=
  does_bin ho hx hy fun w => run_intBin w (by rcases hb with rfl | rfl | rfl | rfl <;> simp) (by subst hw; rcases hb with rfl | rfl | rfl | rfl <;> simp [Op.intBits, bitsV])
theorem does_shift {b : BinOp} {t t' : TypeId} {x y : Operand} {k k' : IntKind} {m n c : Int} (ho : o.op = .binOp b t x y t') (hx : F.eval x = .s (.int k m)) (hy : F.eval y = .s (.int k' n)) (h0 : 0 ≤ n)
    (hw : (b = .shr ∧ m.fdiv (2 ^ min n.toNat k.bits) = c) ∨ (b = .shl ∧ k.wrap (m * 2 ^ min n.toNat k.bits) = c)) : Does P o F σ (.s (.int k c)) σ :=
  does_bin ho hx hy fun w => by
    have hn : ¬ (n < 0) := by omega
    have hg : (eqGuard b t x y (.int k m) (.int k' n)).run P w = .ok () w := by
      unfold eqGuard
      rcases hw with ⟨rfl, _⟩ | ⟨rfl, _⟩ <;> rfl
    rw [Sem.run_bind, hg, Result.andThen_ok]
    rcases hw with ⟨rfl, rfl⟩ | ⟨rfl, rfl⟩ <;> simp [binOp, Op.shift, hn]
theorem does_neqb {t t' : TypeId} {x y : Operand} {a b : Bool} (ht : P.underlying t = some .bool) (ho : o.op = .binOp .neq t x y t') (hx : F.eval x = .s (.bool a)) (hy : F.eval y = .s (.bool b)) : Does P o F σ (.s (.bool (!(a == b)))) σ :=
  does_bin ho hx hy fun w => by
    have h1 : ∀ d, (Op.equalIn (d + 1) t (.bool a) (.bool b)).run P w = .ok (a == b) w := fun d => by simp [Op.equalIn, run_underlying ht]
    have h2 : (Op.equal t (.bool a) (.bool b)).run P w = .ok (a == b) w := h1 9999
    have h3 : (binOp .neq t (.bool a) (.bool b) : Sem Value) = (do pure (.bool (!(← Op.equal t (.bool a) (.bool b))))) := rfl
    rw [Sem.run_bind, show (eqGuard .neq t x y (.bool a) (.bool b)).run P w = .ok () w from rfl, Result.andThen_ok, h3, Sem.run_bind, h2]
    rfl
/-- tests for nil -/
inductive NonNil : AV → Prop
  | own (id sz n : Nat) (h : 0 < n) : NonNil (.own id sz n)
  | sub (id sz k n : Nat) (h : 0 < n) : NonNil (.sub id sz k n)
  | sl (x : AV) (l : List AV) : NonNil (.sl (x :: l))
theorem nonNil_rep {G : Cx} {x : AV} {v : Value} (h : NonNil x) (hv : Rep G v x) : ∃ a n c, v = .slice (some a) n c := by
  cases h with
  | own id sz n h =>
    cases hv with
    | own0 => omega
    | own => exact ⟨_, _, _, rfl⟩
  | sub id sz k n h => cases hv with | sub _ _ _ _ b cap A hm hA _ => rw [hA h]; exact ⟨_, _, _, rfl⟩
  | sl x l => cases hv with | sl => exact ⟨_, _, _, rfl⟩
theorem run_nil_cmp {P : Program} {t e : TypeId} (ht : tySlice P t = some e) (x y : Operand) (A : Option Addr) (n c : Nat) (b : BinOp) (w : World) {r : Bool} (hr : (b = .eql ∧ r = A.isNone) ∨ (b = .neq ∧ r = !A.isNone)) : (do eqGuard b t x y (.slice A n c) (.slice none 0 0); binOp b t (.slice A n c) (.slice none 0 0) : Sem Value).run P w = .ok (.bool r) w := by
  have hg : (eqGuard b t x y (.slice A n c) (.slice none 0 0)).run P w = .ok () w := by
    unfold eqGuard
    rcases hr with ⟨rfl, _⟩ | ⟨rfl, _⟩ <;> rfl
  have he : (Op.equal t (.slice A n c) (.slice none 0 0)).run P w = .ok A.isNone w := by
    have key : ∀ d, (Op.equalIn (d + 1) t (.slice A n c) (.slice none 0 0)).run P w = .ok A.isNone w := fun d => by
      unfold Op.equalIn
      cases A <;> simp [run_underlying (slice_of ht)]
    exact key 9999
  rw [Sem.run_bind, hg, Result.andThen_ok]
  rcases hr with ⟨rfl, rfl⟩ | ⟨rfl, rfl⟩ <;> simp [binOp, he]
theorem does_eqnil {t t' e : TypeId} {x y : Operand} {u : AV} {b : BinOp} {r : Bool} (ho : o.op = .binOp b t x y t') (ht : tySlice P t = some e) (hx : F.eval x = u) (hu : NonNil u) (hy : F.eval y = .s (.slice none 0 0)) (hr : (b = .eql ∧ r = false) ∨ (b = .neq ∧ r = true)) : Does P o F σ (.s (.bool r)) σ :=
  does_val fun G ρ hrl hop => by
    have h1 := hop x (by simp [ho, Op.operands])
    have h2 := hop y (by simp [ho, Op.operands])
    rw [hx] at h1
    rw [hy] at h2
    obtain ⟨a, n, c, hv⟩ := nonNil_rep hu h1
    refine ⟨_, ?_, .s _⟩
    have h3 := run_nil_cmp (P := P) ht x y (some a) n c b G.w (r := r) (by simpa using hr)
    simp only [execOp, ho, hv, rep_s h2, Sem.run_bind] at h3 ⊢
    rw [h3]
    rfl
theorem does_eqnil0 {t t' e : TypeId} {x y : Operand} {b : BinOp} {r : Bool} (ho : o.op = .binOp b t x y t') (ht : tySlice P t = some e) (hx : F.eval x = .s (.slice none 0 0)) (hy : F.eval y = .s (.slice none 0 0)) (hr : (b = .eql ∧ r = true) ∨ (b = .neq ∧ r = false)) : Does P o F σ (.s (.bool r)) σ :=
  does_bin ho hx hy fun w => run_nil_cmp ht x y none 0 0 b w (by simpa using hr)
/-- a part of a row from an offset on -/
theorem does_slice_ol {t e : TypeId} {x y : Operand} {z : Option Value} {n bt : Nat} {id sz m : Nat} {k : IntKind} {i : Int} {l : Nat} (ho : o.op = .slice t x (some y) none none) (ht : tySlice P t = some e) (hi : tyInfo P e = some (z, n, bt)) (hn : n = sz) (hx : F.eval x = .own id sz m) (hm0 : 0 < m) (hy : F.eval y = .s (.int k i)) (hk : i = (l : Int)) (hl : l ≤ m) : Does P o F σ (.sub id sz l (m - l)) σ :=
  does_val fun G ρ hr hop => by
    have g1 := hop x (by simp [ho, Op.operands])
    have g2 := hop y (by simp [ho, Op.operands])
    rw [hx] at g1
    rw [hy] at g2
    have e2 := rep_s g2
    obtain ⟨q1, q2⟩ := elem_of ht
    subst hk hn
    generalize hv : ρ x = u at g1
    cases g1 with
    | own0 => omega
    | own _ _ _ b cap hm hn hc hb =>
      have h2 := run_slice_l (P := P) G.w t (some ⟨b, 0, none⟩) m cap q2 k (l : Int) (by omega) (by omega)
      refine ⟨sliced (some ⟨b, 0, none⟩) l m cap n, by simp only [execOp, ho, Option.map_some, Option.map_none, hv, e2, Sem.run_bind, run_sliceAt_slice (P := P) G.w t _ _ _ _ q2, h2, q1, run_sizeOf hi, Result.andThen_ok, Sem.run_pure, Int.toNat_natCast], ?_⟩
      refine .sub id n l (m - l) b (cap - l) _ hm (fun h0 => ?_) ⟨by omega, by omega, ?_⟩
      · have : ¬ (cap = l) := by omega
        simp [this, Addr.add_lit]
      · obtain ⟨cur, te, f, h3, h4⟩ := hb
        exact ⟨cur, te, f, h3, by rw [h4, show l + (cap - l) = cap by omega]; exact Nat.le_refl _⟩

/-- what is laid over a row -/
def laid (cs : List AV) (k : Nat) (l : List AV) : List AV := cs.take k ++ l ++ cs.drop (k + l.length)
theorem laid_nil (cs : List AV) (k : Nat) : laid cs k [] = cs := by simp [laid]
theorem laid_length {cs : List AV} {k : Nat} {l : List AV} (h : k + l.length ≤ cs.length) : (laid cs k l).length = cs.length := by simp [laid]; omega
theorem laid_get {cs : List AV} {k : Nat} {l : List AV} (h : k + l.length ≤ cs.length) (q : Nat) : (laid cs k l)[q]? = if q < k then cs[q]? else if q < k + l.length then l[q - k]? else cs[q]? := by
  have hk : (cs.take k).length = k := by simp; omega
  unfold laid
  by_cases h1 : q < k
  · rw [if_pos h1, List.append_assoc, List.getElem?_append_left (by omega), List.getElem?_take, if_pos h1]
  · rw [if_neg h1]
    by_cases h2 : q < k + l.length
    · rw [if_pos h2, List.getElem?_append_left (by simp only [List.length_append, hk]; omega), List.getElem?_append_right (by omega), hk]
    · rw [if_neg h2, List.getElem?_append_right (by simp only [List.length_append, hk]; omega), List.getElem?_drop]
      congr 1
      simp only [List.length_append, hk]; omega
/-- where a copy goes -/
inductive Dst (id sz k n : Nat) : AV → Prop
  | own (h : k = 0) : Dst id sz k n (.own id sz n)
  | sub : Dst id sz k n (.sub id sz k n)
theorem dst_rep {G : Cx} {id sz k n : Nat} {x : AV} {v : Value} (h : Dst id sz k n x) (hv : Rep G v x) : ∃ A cap, v = .slice A n cap ∧ (0 < n → ∃ b, G.mu id = some (some b) ∧ A = some ⟨b, k * sz, none⟩) := by
  cases h with
  | own h =>
    subst h
    cases hv with
    | own0 => exact ⟨_, _, rfl, fun h => absurd h (by omega)⟩
    | own _ _ _ b cap hm hn hc hb => exact ⟨_, _, rfl, fun _ => ⟨b, hm, by rw [Nat.zero_mul]⟩⟩
  | sub =>
    cases hv with
    | sub _ _ _ _ b cap A hm hA _ => exact ⟨_, _, rfl, fun h => ⟨b, hm, hA h⟩⟩
theorem run_copy_any {P : Program} {t ty e : TypeId} {z : Option Value} {sz bt : Nat} (ht : tySlice P t = some e) (hi : tyInfo P e = some (z, sz, bt)) (w : World) (B : Option Addr) (n dc : Nat)
    (A : Option Addr) (m c : Nat) (news : List Value) (hl : news.length = Nat.min m n * sz) (hA : A = none → Nat.min m n = 0) (hnews : ∀ a, A = some a → ∀ (j : Nat) u, news[j]? = some u → w.cell? (a.add j) = some u)
    {w' : World} (hw : ∀ a, B = some a → (storeCells a news).run P w = .ok () w') (hw0 : B = none → w' = w) :
    (Builtin.copy_ #[t, t] ty #[.slice B n dc, .slice A m c]).run P w = .ok (goInt (Nat.min m n)) w' := by
  have hf : (Builtin.firstCells sz (Nat.min m n) (.slice A m c)).run P w = .ok news.toArray w := by
    cases A with
    | none =>
      have := hA rfl
      rw [this, Nat.zero_mul] at hl
      have : news = [] := List.eq_nil_of_length_eq_zero hl
      subst this
      simp [Builtin.firstCells]
    | some a => exact run_firstCells_some (P := P) w sz _ a m c news hl (hnews a rfl)
  cases B with
  | none =>
    rw [hw0 rfl]
    simp [Builtin.copy_, run_underlying (slice_of ht), Builtin.lenOf, run_sizeOf hi, hf]
  | some a =>
    have h2 := hw a rfl
    simp [Builtin.copy_, run_underlying (slice_of ht), Builtin.lenOf, run_sizeOf hi, hf, h2]
theorem does_copy {t e : TypeId} {d s : Operand} {z : Option Value} {sz bt id k n : Nat} {x y' : AV} {cs l : List AV} (ho : o.op = .call { callee := .builtin .copy, args := #[d, s], argTypes := #[t, t] })
    (ht : tySlice P t = some e) (hi : tyInfo P e = some (z, sz, bt)) (hsz : 0 < sz) (hx : F.eval d = x) (hdst : Dst id sz k n x) (hs : σ[id]? = some (.row sz cs)) (hkn : k + n ≤ cs.length) (hy : F.eval s = y') (hsrc : Src σ sz y' l) :
    Does P o F σ (.s (.int .i64 (Nat.min l.length n : Nat))) (σ.set id (.row sz (laid cs k (l.take n)))) :=
  does_new (x := .any) fun G ρ hr hop => by
    have g1 := hop d (by simp [ho, Op.operands, Call.operands])
    have g2 := hop s (by simp [ho, Op.operands, Call.operands])
    rw [hx] at g1
    rw [hy] at g2
    obtain ⟨B, dc, hv, hB⟩ := dst_rep hdst g1
    obtain ⟨A, c, news, hv2, hvals⟩ := src_vals hsz hr hsrc g2
    have hnl : (news.take (Nat.min l.length n * sz)).length = Nat.min l.length n * sz := by
      rw [List.length_take, hvals.len]
      exact Nat.min_eq_left (Nat.mul_le_mul_right _ (Nat.min_le_left _ _))
    have hnews : ∀ a, A = some a → ∀ (j : Nat) u, (news.take (Nat.min l.length n * sz))[j]? = some u → G.w.cell? (a.add j) = some u := fun a ha j u hu => by
      rw [List.getElem?_take] at hu
      split at hu
      · exact hvals.at_ a ha j u hu
      · cases hu
    have hA0 : A = none → Nat.min l.length n = 0 := fun h => by rw [hvals.nil h]; exact Nat.zero_min n
    have hrun : ∀ w', (∀ a, B = some a → (storeCells a (news.take (Nat.min l.length n * sz))).run P G.w = .ok () w') → (B = none → w' = G.w) → (execOp ρ o).run P G.w = .ok (.value (.int .i64 (Nat.min l.length n : Nat))) w' := fun w' h1 h2 => by
      have := run_copy_any (P := P) (ty := o.type) ht hi G.w B n dc A l.length c _ hnl hA0 hnews h1 h2
      simp [execOp, ho, resolve, invoke, builtin, hv, hv2, this, goInt]
    by_cases h0 : Nat.min l.length n = 0
    · have ht0 : l.take n = [] := by
        apply List.eq_nil_of_length_eq_zero
        rw [List.length_take]; exact (Nat.min_comm _ _).trans h0
      have hn0 : news.take (Nat.min l.length n * sz) = [] := by rw [h0, Nat.zero_mul, List.take_zero]
      refine ⟨_, G, hrun G.w (fun a _ => by rw [hn0]; rfl) (fun _ => rfl), .refl G, ?_, by rw [h0]; exact .s _⟩
      rw [ht0, laid_nil]
      have : σ.set id (.row sz cs) = σ := by
        apply List.ext_getElem?
        intro i
        by_cases h : id = i
        · subst h; rw [List.getElem?_set_self (List.getElem?_eq_some_iff.1 hs).1, hs]
        · rw [List.getElem?_set_ne h]
      rw [this]; exact hr
    · have hn : 0 < n := by
        rcases Nat.eq_zero_or_pos n with h | h
        · subst h; simp at h0
        · exact h
      obtain ⟨b, hm, rfl⟩ := hB hn
      have h6 := hr.obs id _ hs
      simp only [ObOk, hm] at h6
      obtain ⟨⟨cur, te, fr, h7, rfl, h8, h9⟩, h10, h11⟩ := h6
      have hlt : (l.take n).length = Nat.min l.length n := by rw [List.length_take]; exact Nat.min_comm _ _
      obtain ⟨q, hq⟩ : ∃ q, Nat.min l.length n = q := ⟨_, rfl⟩
      have hqn : q ≤ n := by rw [← hq]; exact Nat.min_le_right _ _
      have hql : q ≤ l.length := by rw [← hq]; exact Nat.min_le_left _ _
      rw [hq] at hnl hrun hlt
      have hfit : k * sz + q * sz ≤ cur.size := by
        have : (k + q) * sz ≤ cs.length * sz := Nat.mul_le_mul_right _ (by omega)
        rw [Nat.add_mul] at this; omega
      have hst := run_storeCells_at P b (k * sz) te (news.take (q * sz)) 0 cur G.w h7 (by rw [hnl]; omega) (fun u hu => hvals.one u (List.mem_of_mem_take hu))
      simp only [Nat.add_zero, hnl] at hst
      obtain ⟨nc, hnc⟩ : ∃ nc : Array Value, nc = (cur.toList.take (k * sz) ++ news.take (q * sz) ++ cur.toList.drop (k * sz + q * sz)).toArray := ⟨_, rfl⟩
      rw [← hnc] at hst
      have hncs : nc.size = cur.size := by
        rw [hnc]
        simp only [List.size_toArray, List.length_append, List.length_drop, Array.length_toList, hnl]
        rw [List.length_take, Array.length_toList]
        omega
      have hlay : k + (l.take n).length ≤ cs.length := by rw [hlt]; omega
      refine ⟨_, { G with w := G.w.setRow b nc }, hrun _ (fun a ha => by cases ha; exact hst) (fun h => by cases h), write_ext hr hs hm h7 hncs, write_rel hr hs hm h7 hncs (by rw [laid_length hlay, hncs]; exact h8) ?_, by rw [hq]; exact .s _⟩
      have hget : ∀ i, nc[i]? = if i < k * sz then cur[i]? else if i < k * sz + q * sz then news[i - k * sz]? else cur[i]? := by
        intro i
        have ha : (cur.toList.take (k * sz)).length = k * sz := by rw [List.length_take, Array.length_toList]; omega
        rw [hnc]
        simp only [List.getElem?_toArray]
        by_cases hi1 : i < k * sz
        · rw [if_pos hi1, List.append_assoc, List.getElem?_append_left (by omega), List.getElem?_take, if_pos hi1, Array.getElem?_toList]
        · rw [if_neg hi1]
          by_cases hi2 : i < k * sz + q * sz
          · rw [if_pos hi2, List.getElem?_append_left (by simp only [List.length_append, ha, hnl]; omega), List.getElem?_append_right (by omega), ha, List.getElem?_take, if_pos (by omega)]
          · rw [if_neg hi2, List.getElem?_append_right (by simp only [List.length_append, ha, hnl]; omega), List.getElem?_drop, Array.getElem?_toList]
            congr 1
            simp only [List.length_append, ha, hnl]; omega
      intro i x' hx'
      rw [laid_get hlay, hlt] at hx'
      by_cases hi1 : i < k
      · rw [if_pos hi1] at hx'
        obtain ⟨a1, a2, a3⟩ := h9 i x' hx'
        refine ⟨a1, a2, fun j c hc => ?_⟩
        obtain ⟨v, b1, b2⟩ := a3 j c hc
        refine ⟨v, ?_, b2⟩
        have hj : j < sz := by have := (List.getElem?_eq_some_iff.1 hc).1; omega
        have : (i + 1) * sz ≤ k * sz := Nat.mul_le_mul_right _ hi1
        rw [Nat.add_mul] at this
        rw [hget, if_pos (by omega)]; exact b1
      · rw [if_neg hi1] at hx'
        by_cases hi2 : i < k + q
        · rw [if_pos hi2, List.getElem?_take, if_pos (by omega)] at hx'
          obtain ⟨a1, a2, a3⟩ := hvals.rep (i - k) x' hx'
          refine ⟨a1, a2, fun j c hc => ?_⟩
          obtain ⟨v, b1, b2⟩ := a3 j c hc
          refine ⟨v, ?_, b2⟩
          have hj : j < sz := by have := (List.getElem?_eq_some_iff.1 hc).1; omega
          have e1 : (i - k) * sz = i * sz - k * sz := Nat.sub_mul _ _ _
          have e2 : k * sz ≤ i * sz := Nat.mul_le_mul_right _ (by omega)
          have e3 : (i + 1) * sz ≤ (k + q) * sz := Nat.mul_le_mul_right _ hi2
          rw [Nat.add_mul, Nat.add_mul] at e3
          rw [hget, if_neg (by omega), if_pos (by omega)]
          rw [show i * sz + j - k * sz = (i - k) * sz + j by omega]; exact b1
        · rw [if_neg hi2] at hx'
          obtain ⟨a1, a2, a3⟩ := h9 i x' hx'
          refine ⟨a1, a2, fun j c hc => ?_⟩
          obtain ⟨v, b1, b2⟩ := a3 j c hc
          refine ⟨v, ?_, b2⟩
          have : (k + q) * sz ≤ i * sz := Nat.mul_le_mul_right _ (by omega)
          rw [Nat.add_mul] at this
          rw [hget, if_neg (by omega), if_neg (by omega)]; exact b1
end
end Go.Proofs.YtanfaepjamkbjaaGreat.Aw
end
section
namespace Go.Proofs.YtanfaepjamkbjaaGreat.Aw
set_option linter.unusedSimpArgs false
set_option linter.unusedVariables false
open Go.RowKit

def tyArr (P : Program) (t : TypeId) : Option (Nat × TypeId) := match P.underlying t with | some (.array n e) => some (n, e) | _ => none
theorem tyarr_of {P : Program} {t e : TypeId} {m : Nat} (h : tyArr P t = some (m, e)) : P.underlying t = some (.array m e) := by
  unfold tyArr at h
  split at h
  · rename_i n e' hu
    cases h; exact hu
  · cases h
section
variable {P : Program} {o : Oper} {F : Frm} {σ : List Ob}
theorem run_indexArr {t e : TypeId} {z : Option Value} {sz bt m : Nat} (ht : tyArr P t = some (m, e)) (he : tyInfo P e = some (z, sz, bt)) (b i : Nat) (kd : IntKind) (n : Int) (h0 : 0 ≤ n) (h1 : n < m) (w : World) :
    (Instr.indexAt t (.pointer (some ⟨b, i, none⟩)) (.int kd n)).run P w = .ok (.pointer (some ⟨b, i + n.toNat * sz, none⟩)) w := by
  simp [Instr.indexAt, asIntOf, run_underlying (tyarr_of ht), Instr.sureAddr, h0, h1, run_sizeOf he, Addr.add_lit]
theorem does_index_aptr {t e : TypeId} {x y : Operand} {z : Option Value} {sz bt m : Nat} {id s k j : Nat} {kd : IntKind} {n : Int} {i : Nat} (ho : o.op = .indexAddr t x y) (ht : tyArr P t = some (m, e)) (he : tyInfo P e = some (z, sz, bt))
    (hx : F.eval x = .ptr id s k j) (hy : F.eval y = .s (.int kd n)) (hk : n = (i : Int)) (hi : i < m) : Does P o F σ (.ptr id s k (j + i * sz)) σ :=
  does_val fun G ρ hr hop => by
    have h1 := hop x (by simp [ho, Op.operands])
    have h2 := hop y (by simp [ho, Op.operands])
    rw [hx] at h1
    rw [hy] at h2
    have hyv := rep_s h2
    subst hk
    generalize hv : ρ x = u at h1
    cases h1 with
    | ptr _ _ _ _ b hm =>
      refine ⟨.pointer (some ⟨b, k * s + j + i * sz, none⟩), ?_, ?_⟩
      · simp only [execOp, ho, hv, hyv, Sem.run_bind, run_indexArr ht he b _ kd (i : Int) (by omega) (by omega), Result.andThen_ok, Sem.run_pure, Int.toNat_natCast]
      · rw [Nat.add_assoc]
        exact .ptr id s k (j + i * sz) b hm
theorem does_index_aref {t e : TypeId} {x y : Operand} {z : Option Value} {sz bt m : Nat} {cs : List AV} {kd : IntKind} {n : Int} {i : Nat} (ho : o.op = .indexAddr t x y) (ht : tyArr P t = some (m, e)) (he : tyInfo P e = some (z, sz, bt))
    (hx : F.eval x = .ref cs) (hy : F.eval y = .s (.int kd n)) (hk : n = (i : Int)) (hi : i < m) : Does P o F σ (.ref (cs.drop (i * sz))) σ :=
  does_val fun G ρ hr hop => by
    have h1 := hop x (by simp [ho, Op.operands])
    have h2 := hop y (by simp [ho, Op.operands])
    rw [hx] at h1
    rw [hy] at h2
    have hyv := rep_s h2
    subst hk
    generalize hv : ρ x = u at h1
    cases h1 with
    | ref b q _ val hone h3 h =>
      refine ⟨.pointer (some ⟨b, q + i * sz, none⟩), by simp only [execOp, ho, hv, hyv, Sem.run_bind, run_indexArr ht he b _ kd (i : Int) (by omega) (by omega), Result.andThen_ok, Sem.run_pure, Int.toNat_natCast], ?_⟩
      refine .ref b (q + i * sz) _ (fun j => val (i * sz + j)) (fun c hc => hone c (List.mem_of_mem_drop hc)) (fun j c hj => ?_) (fun j c hj => ?_)
      · rw [List.getElem?_drop] at hj
        rw [Nat.add_assoc]
        exact h3 _ c hj
      · rw [List.getElem?_drop] at hj
        exact h _ c hj
theorem does_build_arr {t e : TypeId} {parts : Array (Nat × Operand)} {z : Value} {n bt m sz be : Nat} {ze : Option Value} {cs : List AV} (ho : o.op = .build t parts) (hi : tyInfo P t = some (some z, n, bt)) (ht : tyArr P t = some (m, e)) (he : tyInfo P e = some (ze, sz, be))
    (h1 : (ofValue z).cells.all AV.one = true) (hf : fillA (fun i => some (i * sz, sz)) (ofValue z).cells (parts.toList.map fun (i, x) => (i, F.eval x)) = some cs) : Does P o F σ (.agg cs) σ :=
  does_val fun G ρ hr hop => by
    obtain ⟨i, h2, h3, h4, h5⟩ := info_of hi
    obtain ⟨vs, h6, h7⟩ := fill_rep (G := G) (place := (fun i => some (i * sz, sz))) (parts.map fun (i, x) => (i, ρ x)).toList _ z.cells _ cs (repl_const G z h1) (by simp) (parts_rep (fun y hy => hop y (by simpa [ho, Op.operands] using hy))) hf
    have h8 : (Instr.build t (parts.map fun (i, x) => (i, ρ x))).run P G.w = .ok (.agg vs) G.w := by
      simp [Instr.build, zeroValue, typeInfo, h2, h3, run_underlying (tyarr_of ht), run_sizeOf he]
      simp at h6
      rw [h6]
      rfl
    exact ⟨.agg vs, by simp only [execOp, ho, Sem.run_bind, h8, Result.andThen_ok, Sem.run_pure], .agg vs cs h7.size h7.one h7.rep⟩
/-- fewer elements told of a row -/
theorem trunc_rel {G : Cx} {id sz n : Nat} {cs : List AV} (hr : Rel G σ) (hs : σ[id]? = some (.row sz cs)) : Rel G (σ.set id (.row sz (cs.take n))) := by
  have hlt := (List.getElem?_eq_some_iff.1 hs).1
  have al : ∀ i, alive (σ.set id (.row sz (cs.take n))) i → alive σ i := by
    rintro i ⟨sz', cs', h⟩
    by_cases hi : id = i
    · subst hi; exact ⟨sz, cs, hs⟩
    · rw [List.getElem?_set_ne hi] at h
      exact ⟨sz', cs', h⟩
  refine ⟨hr.below, hr.le, hr.st, fun i ob hob => ?_, fun i j b hi hj => hr.inj i j b (al i hi) (al j hj), fun i hi => hr.fresh i (by simpa using hi)⟩
  by_cases hi : id = i
  · subst hi
    rw [List.getElem?_set_self hlt] at hob
    cases hob
    have h1 := hr.obs id _ hs
    simp only [ObOk] at h1 ⊢
    cases hx : G.mu id with
    | none => rw [hx] at h1; exact h1
    | some x =>
      rw [hx] at h1
      cases x with
      | none => simp only at h1 ⊢; subst h1; simp
      | some b =>
        obtain ⟨⟨cur, e, fr, g1, g2, g3, g4⟩, h2⟩ := h1
        refine ⟨⟨cur, e, fr, g1, g2, ?_, fun k x hk => ?_⟩, h2⟩
        · exact Nat.le_trans (Nat.mul_le_mul_right _ (by rw [List.length_take]; omega)) g3
        · rw [List.getElem?_take] at hk
          split at hk
          · exact g4 k x hk
          · cases hk
  · rw [List.getElem?_set_ne hi] at hob
    exact hr.obs i ob hob
theorem does_trunc {id sz n : Nat} {cs : List AV} {x : AV} {σ' : List Ob} (hs : σ[id]? = some (.row sz cs)) (h : Does P o F (σ.set id (.row sz (cs.take n))) x σ') : Does P o F σ x σ' := fun G a next Q hr hop hn =>
  h G a next Q (trunc_rel hr hs) hop hn
theorem does_len_sub {t e : TypeId} {x : Operand} {id sz q n : Nat} (ho : o.op = .call { callee := .builtin .len, args := #[x], argTypes := #[t] }) (ht : tySlice P t = some e) (hx : F.eval x = .sub id sz q n) : Does P o F σ (.s (.int .i64 (n : Nat))) σ :=
  does_val fun G ρ hr hop => by
    have h1 := hop x (by simp [ho, Op.operands, Call.operands])
    rw [hx] at h1
    generalize hv : ρ x = v at h1
    cases h1 with
    | sub _ _ _ _ b cap A hm hA _ => exact ⟨_, run_len_slice ht ho ρ _ _ _ hv _, .s _⟩
theorem does_index_sub {t e : TypeId} {x y : Operand} {z : Option Value} {sz bt : Nat} {id q m : Nat} {kd : IntKind} {n : Int} {k : Nat} (ho : o.op = .indexAddr t x y) (ht : tySlice P t = some e) (he : tyInfo P e = some (z, sz, bt))
    (hx : F.eval x = .sub id sz q m) (hy : F.eval y = .s (.int kd n)) (hk : n = (k : Int)) (hu : k < m) : Does P o F σ (.ptr id sz (q + k) 0) σ :=
  does_val fun G ρ hr hop => by
    have h1 := hop x (by simp [ho, Op.operands])
    have h2 := hop y (by simp [ho, Op.operands])
    rw [hx] at h1
    rw [hy] at h2
    have hyv := rep_s h2
    subst hk
    generalize hv : ρ x = v at h1
    cases h1 with
    | sub _ _ _ _ b cap A hm hA _ =>
      have hA := hA (by omega)
      subst hA
      refine ⟨.pointer (some ⟨b, (q + k) * sz + 0, none⟩), ?_, .ptr id sz (q + k) 0 b hm⟩
      simp only [execOp, ho, hv, hyv, Sem.run_bind, run_indexAt ht he b _ m cap kd (k : Int) (by omega) (by omega), Result.andThen_ok, Sem.run_pure, Int.toNat_natCast, Nat.add_zero, Nat.add_mul]
end
end Go.Proofs.YtanfaepjamkbjaaGreat.Aw
end
section
namespace Go.Proofs.YtanfaepjamkbjaaGreat
set_option linter.unusedSimpArgs false
set_option linter.unusedVariables false
open Go.RowKit
section
variable {P : Program} {pre : List Oper} {last : Oper} {Q : Exit → Act → World → Prop} {S : World → Prop}
/-- the last operation waits for each of the others, perhaps by way of later ones; each of the others waits for earlier ones alone, and is guarded by none but these -/
def lastBT (pre : List Oper) (last : Oper) : Bool :=
  (List.range pre.length).all (fun i => (last.after.any fun e => Region.binds .any e && e.on == i) || (List.range pre.length).any (fun k => match pre[k]? with | none => false | some o => o.after.any fun e => Region.binds .any e && e.on == i)) &&
  (List.range pre.length).all (fun i => match pre[i]? with
    | none => true
    | some o => (o.after.all fun e => !Region.binds .any e || decide (e.on < i)) && (match o.guard with | none => true | some (j, _) => decide (j < pre.length))) &&
  last.guard.isNone && last.after.all (fun e => !Region.binds .any e || decide (e.on < pre.length))
structure LastT (pre : List Oper) (last : Oper) : Prop where
  waits : ∀ i, i < pre.length → (∃ e ∈ last.after, Region.binds .any e = true ∧ e.on = i) ∨ ∃ (k : Nat) (o : Oper), pre[k]? = some o ∧ ∃ e ∈ o.after, Region.binds .any e = true ∧ e.on = i
  early : ∀ (i : Nat) (o : Oper), pre[i]? = some o → ∀ e ∈ o.after, Region.binds .any e = true → e.on < i
  guards : ∀ (i : Nat) (o : Oper), pre[i]? = some o → ∀ (j : Nat) (b : Bool), o.guard = some (j, b) → j < pre.length
  free : last.guard = none
  on : ∀ e ∈ last.after, Region.binds .any e = true → e.on < pre.length
theorem lastT_of (h : lastBT pre last = true) : LastT pre last := by
  unfold lastBT at h
  simp only [Bool.and_eq_true, Bool.or_eq_true, List.all_eq_true, List.any_eq_true, List.mem_range, Array.any_eq_true', beq_iff_eq] at h
  obtain ⟨⟨⟨h1, h2⟩, h3⟩, h4⟩ := h
  refine ⟨fun i hi => ?_, fun i o ho e he hb => ?_, fun i o ho j b hj => ?_, by simpa using h3, fun e he hb => ?_⟩
  · rcases h1 i hi with ⟨e, he, hb, ho⟩ | ⟨k, hk, hm⟩
    · exact .inl ⟨e, he, hb, ho⟩
    · right
      rw [List.getElem?_eq_getElem hk] at hm
      simp only [Array.any_eq_true', Bool.and_eq_true, beq_iff_eq] at hm
      obtain ⟨e, he, hb, ho⟩ := hm
      exact ⟨k, pre[k], List.getElem?_eq_getElem hk, e, he, hb, ho⟩
  · have hi : i < pre.length := (List.getElem?_eq_some_iff.1 ho).1
    have := h2 i hi
    rw [ho] at this
    simp only [Bool.and_eq_true, Array.all_eq_true', Bool.or_eq_true, Bool.not_eq_true', decide_eq_true_eq] at this
    rcases this.1 e he with h | h
    · rw [hb] at h; cases h
    · exact h
  · have hi : i < pre.length := (List.getElem?_eq_some_iff.1 ho).1
    have := h2 i hi
    rw [ho] at this
    simp only [Bool.and_eq_true] at this
    have h5 := this.2
    rw [hj] at h5
    simpa using h5
  · simp only [Array.all_eq_true', Bool.or_eq_true, Bool.not_eq_true', decide_eq_true_eq] at h4
    rcases h4 e he with h | h
    · rw [hb] at h; cases h
    · exact h
/-- what has come up has come up after all that it waits for -/
def Clo (pre : List Oper) (L : Array Bool) : Prop := ∀ (k : Nat) (o : Oper), pre[k]? = some o → L.getD k false = true → ∀ e ∈ o.after, Region.binds .any e = true → L.getD e.on false = true
theorem Clo.none (n : Nat) : Clo pre (Array.replicate n false) := by
  intro k o _ h
  rw [Array.getD_eq_getD_getElem?, Array.getElem?_replicate] at h
  split at h <;> simp at h
theorem Clo.step {L : Array Bool} {i : Nat} (h : Clo pre L) (hL : L.size = pre.length) (hi : i ∈ Region.ready .any pre.toArray L) : Clo pre (L.setIfInBounds i true) := by
  intro k o hk hd e he hb
  have hmono : ∀ j, L.getD j false = true → (L.setIfInBounds i true).getD j false = true := by
    intro j hj
    rw [Array.getD_eq_getD_getElem?] at hj ⊢
    rw [Array.getElem?_setIfInBounds]
    split
    · rename_i e; subst e
      split
      · rfl
      · rename_i h3
        rw [Array.getElem?_eq_none (by omega)] at hj
        cases hj
    · exact hj
  apply hmono
  by_cases hik : i = k
  · subst hik
    obtain ⟨_, o2, ho2, hall⟩ := mem_ready.1 hi
    rw [List.getElem?_toArray, hk] at ho2
    cases ho2
    exact hall e he hb
  · refine h k o hk ?_ e he hb
    rw [Array.getD_eq_getD_getElem?] at hd ⊢
    rw [Array.getElem?_setIfInBounds, if_neg hik] at hd
    exact hd
theorem wanted_preT (ok : LastT pre last) {i : Nat} {o : Oper} (ho : pre[i]? = some o) (tmps : Array Value) : Region.wanted o (yielded (pre ++ [last]).toArray tmps) = Region.wanted o (yielded pre.toArray tmps) := by
  unfold Region.wanted
  cases hg : o.guard with
  | none => rfl
  | some jb =>
    obtain ⟨j, b⟩ := jb
    simp only
    rw [yielded_pre (ok.guards i o ho j b hg)]

theorem op_thenT (ok : LastT pre last) {i : Nat} (hi : i < pre.length) {K K' : Act → World → Prop} {a : Act} {w : World} (hK : ∀ a w, K a w → K' a w)
    (h : wpOp P pre.toArray (thenLast P pre last Q) i K a w) : wpOp P (pre ++ [last]).toArray Q i K' a w := by
  refine wpOp_mono hK ?_
  unfold wpOp at h ⊢
  rw [get_pre hi]
  obtain ⟨o, ho⟩ : ∃ o, pre[i]? = some o := ⟨_, List.getElem?_eq_getElem hi⟩
  simp only [List.getElem?_toArray, ho] at h ⊢
  rw [wanted_preT ok ho]
  split
  · rename_i hw
    rw [if_pos hw] at h
    rcases h with h | ⟨h1, h2⟩
    · exact .inl (upon_then h)
    · exact .inr ⟨h1, h2⟩
  · rename_i hw
    rw [if_neg hw] at h
    exact h

theorem last_anyT (ok : LastT pre last) : ∀ (fuel : Nat) (L : Array Bool) (a : Act) (w : World), L.size = pre.length → Clo pre L →
    wpAny P .any pre.toArray (thenLast P pre last Q) fuel L a w → wpAny P .any (pre ++ [last]).toArray Q (fuel + 1) (L.push false) a w := by
  -- who may come up: as before; the last one, once all have come up
  have hready : ∀ (L : Array Bool), L.size = pre.length → Clo pre L → ∀ i, i ∈ Region.ready .any (pre ++ [last]).toArray (L.push false) → (i < pre.length ∧ i ∈ Region.ready .any pre.toArray L) ∨ (i = pre.length ∧ ∀ j, j < pre.length → L.getD j false = true) := by
    intro L hL hC i hi
    obtain ⟨h1, o, ho, hall⟩ := mem_ready.1 hi
    have hlt : i < pre.length + 1 := by
      have := (Array.getElem?_eq_some_iff.1 ho).1
      simpa using this
    rcases Nat.lt_or_eq_of_le (Nat.le_of_lt_succ hlt) with h2 | h2
    · left
      refine ⟨h2, mem_ready.2 ⟨?_, o, by rw [get_pre h2] at ho; exact ho, fun e he hb => ?_⟩⟩
      · simpa [Array.getD_eq_getD_getElem?, Array.getElem?_push, hL, Nat.ne_of_lt h2] using h1
      · have hon := ok.early i o (by rw [get_pre h2] at ho; simpa using ho) e he hb
        have := hall e he hb
        simpa [Array.getD_eq_getD_getElem?, Array.getElem?_push, hL, Nat.ne_of_lt (Nat.lt_trans hon h2)] using this
    · right
      subst h2
      rw [get_last] at ho
      injection ho with ho
      subst ho
      refine ⟨rfl, fun j hj => ?_⟩
      have key : ∀ (m j : Nat), j < pre.length → pre.length - j ≤ m → L.getD j false = true := by
        intro m
        induction m with
        | zero => intro j hj hm; omega
        | succ m ihm =>
          intro j hj hm
          rcases ok.waits j hj with ⟨e, he, hb, rfl⟩ | ⟨k, o2, hk, e, he, hb, rfl⟩
          · have := hall e he hb
            simpa [Array.getD_eq_getD_getElem?, Array.getElem?_push, hL, Nat.ne_of_lt hj] using this
          · have hlt2 := ok.early k o2 hk e he hb
            have hk2 : k < pre.length := (List.getElem?_eq_some_iff.1 hk).1
            exact hC k o2 hk (ihm k hk2 (by omega)) e he hb
      exact key pre.length j hj (by omega)
  have hsome : ∀ (L : Array Bool), L.size = pre.length → Region.ready .any (pre ++ [last]).toArray (L.push false) ≠ [] := by
    intro L hL he
    -- the least that has not come up is ready
    have key : ∀ i, i ≤ pre.length → ∀ j, j < i → L.getD j false = true := by
      intro i
      induction i with
      | zero => intro _ j hj; omega
      | succ i ih =>
        intro hi j hj
        rcases Nat.lt_or_eq_of_le (Nat.le_of_lt_succ hj) with h1 | h1
        · exact ih (by omega) j h1
        · subst h1
          cases hc : L.getD j false with
          | true => rfl
          | false =>
            exfalso
            have hj' : j < pre.length := by omega
            obtain ⟨o, ho⟩ : ∃ o, pre[j]? = some o := ⟨_, List.getElem?_eq_getElem hj'⟩
            have hm : j ∈ Region.ready .any (pre ++ [last]).toArray (L.push false) := by
              refine mem_ready.2 ⟨?_, o, by rw [get_pre hj']; simpa using ho, fun e he hb => ?_⟩
              · have hlt : j < L.size := by omega
                simp [Array.getD_eq_getD_getElem?, hlt] at hc ⊢
                simp [Array.getElem?_push, Nat.ne_of_lt hlt, hlt, hc]
              · have hon := ok.early j o ho e he hb
                have := ih (by omega) e.on hon
                simpa [Array.getD_eq_getD_getElem?, Array.getElem?_push, hL, Nat.ne_of_lt (Nat.lt_trans hon hj')] using this
            rw [he] at hm
            cases hm
    have hm : pre.length ∈ Region.ready .any (pre ++ [last]).toArray (L.push false) := by
      refine mem_ready.2 ⟨?_, last, get_last, fun e he hb => ?_⟩
      · rw [Array.getD_eq_getD_getElem?, ← hL, Array.getElem?_push_size]; rfl
      · have hon := ok.on e he hb
        have := key pre.length (Nat.le_refl _) e.on hon
        simpa [Array.getD_eq_getD_getElem?, Array.getElem?_push, hL, Nat.ne_of_lt hon] using this
    rw [he] at hm
    cases hm
  -- the last one
  have hlast : ∀ (fuel : Nat) (L : Array Bool) (a : Act) (w : World), L.size = pre.length → (∀ j, j < pre.length → L.getD j false = true) → thenLast P pre last Q .normal a w →
      wpOp P (pre ++ [last]).toArray Q pre.length (wpAny P .any (pre ++ [last]).toArray Q fuel ((L.push false).setIfInBounds pre.length true)) a w := by
    intro fuel L a w hL hall h
    have hdone : Region.ready .any (pre ++ [last]).toArray ((L.push false).setIfInBounds pre.length true) = [] := by
      rw [List.eq_nil_iff_forall_not_mem]
      intro i hi
      obtain ⟨h1, o, ho, _⟩ := mem_ready.1 hi
      have hlt : i < pre.length + 1 := by
        have := (Array.getElem?_eq_some_iff.1 ho).1
        simpa using this
      rcases Nat.lt_or_eq_of_le (Nat.le_of_lt_succ hlt) with h2 | h2
      · have h3 := hall i h2
        have hlt' : i < L.size := by omega
        rw [Array.getD_eq_getD_getElem?, Array.getElem?_eq_getElem hlt'] at h3
        rw [Array.getD_eq_getD_getElem?, Array.getElem?_setIfInBounds, if_neg (by omega), Array.getElem?_push, if_neg (by omega), Array.getElem?_eq_getElem hlt'] at h1
        simp only [Option.getD_some] at h1 h3
        rw [h3] at h1
        cases h1
      · subst h2
        simp [Array.getD_eq_getD_getElem?, Array.getElem?_setIfInBounds, hL] at h1
    have hK : ∀ a w, Q .normal a w → wpAny P .any (pre ++ [last]).toArray Q fuel ((L.push false).setIfInBounds pre.length true) a w := by
      intro a w hq
      cases fuel with
      | zero => exact ⟨hdone, hq⟩
      | succ fuel => exact ⟨fun _ => hq, by rw [hdone]; simp⟩
    refine wpOp_mono hK ?_
    unfold wpOp
    rw [get_last]
    exact h
  intro fuel
  induction fuel with
  | zero =>
    intro L a w hL hC h
    refine ⟨fun he => absurd he (hsome L hL), fun i hi => ?_⟩
    rcases hready L hL hC i hi with ⟨_, h2⟩ | ⟨rfl, h2⟩
    · rw [h.1] at h2; cases h2
    · exact hlast 0 L a w hL h2 h.2
  | succ fuel ih =>
    intro L a w hL hC h
    refine ⟨fun he => absurd he (hsome L hL), fun i hi => ?_⟩
    rcases hready L hL hC i hi with ⟨h1, h2⟩ | ⟨rfl, h2⟩
    · refine op_thenT ok h1 (fun a' w' h' => ?_) (h.2 i h2)
      have := ih (L.setIfInBounds i true) a' w' (by simpa using hL) (hC.step hL h2) h'
      rwa [show (L.push false).setIfInBounds i true = (L.setIfInBounds i true).push false from by
        apply Array.ext_getElem?
        intro j
        simp only [Array.getElem?_setIfInBounds, Array.getElem?_push, Array.size_push, Array.size_setIfInBounds]
        by_cases h3 : i = j
        · subst h3
          rw [if_pos rfl, if_pos (by omega), if_neg (by omega), if_pos rfl, if_pos (by omega)]
        · rw [if_neg h3, if_neg h3]]
    · refine hlast (fuel + 1) L a w hL h2 (h.1 ?_)
      rw [List.eq_nil_iff_forall_not_mem]
      intro j hj
      obtain ⟨h3, o, ho, _⟩ := mem_ready.1 hj
      have hlt : j < pre.length := by
        have := (Array.getElem?_eq_some_iff.1 ho).1
        simpa using this
      have h4 := h2 j hlt
      have hlt' : j < L.size := by omega
      simp [Array.getD_eq_getD_getElem?, hlt'] at h3 h4
      rw [h4] at h3
      cases h3

end
end Go.Proofs.YtanfaepjamkbjaaGreat
namespace Go.Proofs.YtanfaepjamkbjaaGreat.Aw
open Go.RowKit
variable {P : Program} {N : Nat} {l : List Oper} {F : Frm} {σ : List Ob} {Q : Exit → Frm → List Ob → Prop}
theorem adraw_lastT {last : Oper} (hl : l.dropLast ++ [last] = l) (hk : lastBT l.dropLast last = true) (h : ADraw P N l.dropLast F σ (AThen (fun F σ => AOps P N l.toArray [last] F σ Q) Q)) : ADraw P N l F σ Q := fun G a hs => by
  have h1 := h G a hs
  have h2 := wpAny_mono (Q' := thenLast P l.dropLast last (lift N G Q)) (fun e a w q => by
    obtain ⟨G', F', σ', rfl, g2, g3, g4⟩ := q
    unfold thenLast
    rw [hl]
    cases e with
    | normal => exact wpList_mono (fun e a w q => lift_mono g2 (fun _ _ _ x => x) q) _ _ _ (g4 G' a g3)
    | _ => exact ⟨G', F', σ', rfl, g2, g3, g4⟩) _ _ _ _ h1
  have h3 := last_anyT (lastT_of hk) _ _ a G.w (by simp) (Clo.none _) h2
  rw [hl] at h3
  have h4 : l.length = l.dropLast.length + 1 := by rw [← hl]; simp
  rw [h4]
  rwa [show Array.replicate (l.dropLast.length + 1) false = (Array.replicate l.dropLast.length false).push false by simp [Array.replicate_succ]]
end Go.Proofs.YtanfaepjamkbjaaGreat.Aw
end
section
namespace Go.Proofs.YtanfaepjamkbjaaGreat.Aw
set_option linter.unusedSimpArgs false
set_option linter.unusedVariables false
open Go Go.Proofs Go.RowKit

section
variable {P : Program} {N : Nat} {ops : Array Oper} {o : Oper} {l : List Oper} {F : Frm} {σ : List Ob} {Q : Exit → Frm → List Ob → Prop}
end

/-- scalars' kinds, field by field -/
inductive SK where | i | b | s
def skOf : TypeDesc → Option SK
  | .int _ => some .i
  | .bool => some .b
  | .string => some .s
  | _ => none
def fsK (P : Program) : List Field → Nat → Option (List SK)
  | [], _ => some []
  | f :: fs, k => if f.name == "_" || f.offset != k then none else
    match (P.underlying f.type).bind skOf, fsK P fs (k + 1) with
    | some a, some l => some (a :: l)
    | _, _ => none
def tyEqK (P : Program) (t : TypeId) : Option (List SK) :=
  match P.underlying t with
  | some (.struct fs) => if P.eqGuardType P.depth t || P.stoodInHeld t then none else fsK P fs.toList 0
  | _ => none
def vK : SK → Value → Value → Bool
  | .i, .int k _, .int k' _ => decide (k = k')
  | .b, .bool _, .bool _ => true
  | .s, .string _, .string _ => true
  | _, _, _ => false
def vKs : List SK → List Value → List Value → Bool
  | [], [], [] => true
  | k :: ks, u :: us, v :: vs => vK k u v && vKs ks us vs
  | _, _, _ => false
def unS : AV → Value
  | .s v => v
  | _ => undef
def isS : AV → Bool
  | .s _ => true
  | _ => false
noncomputable def eqL (us vs : List Value) : Bool := @decide (us = vs) (Classical.propDecidable _)
theorem eqSc {P : Program} (w : World) (d : Nat) {t : TypeId} {T : TypeDesc} (hT : P.underlying t = some T) {a : SK} (ha : skOf T = some a) {u v : Value} (hv : vK a u v = true) : (Op.equalIn (d + 1) t u v).run P w = .ok (@decide (u = v) (Classical.propDecidable _)) w := by
  cases T with
  | int kk =>
    cases ha
    cases u with
    | int k1 a1 =>
      cases v with
      | int k2 a2 =>
        obtain rfl : k1 = k2 := by simpa [vK] using hv
        rw [run_equalIn_int w d t _ _ _ _ hT]
        by_cases h : a1 = a2
        · subst h; simp
        · have : ¬ (Value.int k1 a1 = Value.int k1 a2) := fun e => h (by injection e)
          simp [h]
      | _ => simp [vK] at hv
    | _ => simp [vK] at hv
  | bool =>
    cases ha
    cases u with
    | bool a1 =>
      cases v with
      | bool a2 =>
        rw [run_equalIn_bool w d t _ _ hT]
        cases a1 <;> cases a2 <;> simp
      | _ => simp [vK] at hv
    | _ => simp [vK] at hv
  | string =>
    cases ha
    cases u with
    | string a1 =>
      cases v with
      | string a2 =>
        rw [run_equalIn_string w d t _ _ hT]
        by_cases h : a1 = a2
        · subst h; simp
        · have h2 : (a1.toList == a2.toList) = false := by simpa [toList_inj] using h
          rw [h2]
          simp [h]
      | _ => simp [vK] at hv
    | _ => simp [vK] at hv
  | _ => simp [skOf] at ha
theorem eqF {P : Program} (w : World) (d : Nat) (xs ys : Array Value) : ∀ (fs : List Field) (k : Nat) (ks : List SK) (us vs : List Value), fsK P fs k = some ks → vKs ks us vs = true →
    (∀ j, j < us.length → xs[k + j]? = us[j]?) → (∀ j, j < vs.length → ys[k + j]? = vs[j]?) → (Op.eqFields (d + 1) xs ys fs).run P w = .ok (eqL us vs) w
  | [], k, ks, us, vs, h, hv, hx, hy => by
    simp only [fsK, Option.some.injEq] at h
    subst h
    cases us <;> cases vs <;> simp [vKs] at hv
    simp [Op.eqFields, eqL]
  | f :: fs, k, ks, us, vs, h, hv, hx, hy => by
    unfold fsK at h
    split at h
    · cases h
    · rename_i hn
      split at h
      · rename_i a l ha hl
        cases h
        match us, vs, hv with
        | u :: us, v :: vs, hv =>
          simp only [vKs, Bool.and_eq_true] at hv
          obtain ⟨hv1, hv2⟩ := hv
          simp only [Bool.or_eq_true, beq_iff_eq, bne_iff_ne, ne_eq, not_or, Decidable.not_not] at hn
          obtain ⟨hn1, hn2⟩ := hn
          have ih := eqF w d xs ys fs (k + 1) l us vs hl hv2 (fun j hj => by have := hx (j + 1) (by simpa using hj); rw [show k + 1 + j = k + (j + 1) by omega]; simpa using this) (fun j hj => by have := hy (j + 1) (by simpa using hj); rw [show k + 1 + j = k + (j + 1) by omega]; simpa using this)
          have hx0 := hx 0 (by simp)
          have hy0 := hy 0 (by simp)
          simp only [Nat.add_zero, List.getElem?_cons_zero] at hx0 hy0
          obtain ⟨T, hT, hTk⟩ : ∃ T, P.underlying f.type = some T ∧ skOf T = some a := by
            cases hT : P.underlying f.type with
            | none => rw [hT] at ha; cases ha
            | some T => rw [hT] at ha; exact ⟨T, rfl, ha⟩
          have hagg : ∀ cs off x, cs[off]? = some x → (part f.type cs off).run P w = .ok x w := by
            intro cs off x hc
            cases T <;> simp [skOf] at hTk <;> simp [part, isAgg, run_underlying hT, hc]
          have key : (Op.equalIn (d + 1) f.type u v).run P w = .ok (@decide (u = v) (Classical.propDecidable _)) w := eqSc w d hT hTk hv1
          unfold Op.eqFields
          rw [if_pos hn1, hn2]
          simp only [Sem.run_bind, hagg xs k u hx0, hagg ys k v hy0, Result.andThen_ok, key, Sem.run_ite]
          by_cases h : u = v
          · subst h
            rw [if_neg (by simp), ih]
            unfold eqL
            by_cases h2 : us = vs
            · simp [h2]
            · simp [h2]
          · rw [if_pos (by simp [h])]
            simp [eqL, h]
        | [], _, hv => simp [vKs] at hv
        | _ :: _, [], hv => simp [vKs] at hv
      · cases h
section
variable {P : Program} {o : Oper} {F : Frm} {σ : List Ob}
theorem agg_vals {G : Cx} {u : Value} {cs : List AV} (h : Rep G u (.agg cs)) (hc : cs.all isS = true) : ∃ xs : Array Value, u = .agg xs ∧ ∀ j, j < (cs.map unS).length → xs[j]? = (cs.map unS)[j]? := by
  cases h with
  | agg vs _ hl h1 hr =>
    refine ⟨vs, rfl, fun j hj => ?_⟩
    have hj2 : j < cs.length := by simpa using hj
    have hj3 : j < vs.size := by omega
    have h2 := hr j vs[j] cs[j] (Array.getElem?_eq_getElem hj3) (List.getElem?_eq_getElem hj2)
    have h3 : isS cs[j] = true := by rw [List.all_eq_true] at hc; exact hc _ (List.getElem_mem hj2)
    rw [List.getElem?_map, List.getElem?_eq_getElem hj2, Array.getElem?_eq_getElem hj3]
    generalize cs[j] = c at *
    cases c <;> simp [isS] at h3
    rw [rep_s h2]; rfl
theorem eqa_run {P : Program} {t : TypeId} {ks : List SK} {xs ys : Array Value} {us vs : List Value} (hk : tyEqK P t = some ks) (hv : vKs ks us vs = true) (hx : ∀ j, j < us.length → xs[j]? = us[j]?) (hy : ∀ j, j < vs.length → ys[j]? = vs[j]?) (x y : Operand) (b : BinOp) (w : World) :
    (eqGuard b t x y (.agg xs) (.agg ys)).run P w = .ok () w ∧ (Op.equalIn 10000 t (.agg xs) (.agg ys)).run P w = .ok (eqL us vs) w := by
  unfold tyEqK at hk
  split at hk
  · rename_i fs hu
    split at hk
    · cases hk
    · rename_i hg
      simp only [Bool.or_eq_true, not_or, Bool.not_eq_true] at hg
      have hfo : P.fieldsOf t = fs := by unfold Program.fieldsOf; rw [hu]
      refine ⟨run_eqGuard_agg w b t x y xs ys hg.1, ?_⟩
      have h1 := run_equalIn_struct (P := P) w 9999 t xs ys (by rw [hfo]; exact hu) hg.2
      rw [hfo] at h1
      rw [show (10000 : Nat) = 9999 + 1 from rfl, h1]
      exact eqF w 9998 xs ys fs.toList 0 ks us vs hk hv (fun j hj => by rw [Nat.zero_add]; exact hx j hj) (fun j hj => by rw [Nat.zero_add]; exact hy j hj)
  · cases hk
theorem does_eqa {t t' : TypeId} {x y : Operand} {cs ds : List AV} {ks : List SK} (ho : o.op = .binOp .eql t x y t') (hx : F.eval x = .agg cs) (hy : F.eval y = .agg ds) (hk : tyEqK P t = some ks) (hv : vKs ks (cs.map unS) (ds.map unS) = true) (hc : cs.all isS = true) (hd : ds.all isS = true) :
    Does P o F σ (.s (.bool (@decide (cs.map unS = ds.map unS) (Classical.propDecidable _)))) σ :=
  does_val fun G ρ hr hop => by
    have h1 := hop x (by simp [ho, Op.operands])
    have h2 := hop y (by simp [ho, Op.operands])
    rw [hx] at h1
    rw [hy] at h2
    obtain ⟨xs, e1, g1⟩ := agg_vals h1 hc
    obtain ⟨ys, e2, g2⟩ := agg_vals h2 hd
    obtain ⟨r1, r2⟩ := eqa_run hk hv g1 g2 x y .eql G.w
    refine ⟨_, ?_, .s _⟩
    simp only [execOp, ho, e1, e2, Sem.run_bind]
    rw [r1]
    simp only [Result.andThen_ok, run_eql_struct, r2]
    rfl
theorem does_nea {t t' : TypeId} {x y : Operand} {cs ds : List AV} {ks : List SK} (ho : o.op = .binOp .neq t x y t') (hx : F.eval x = .agg cs) (hy : F.eval y = .agg ds) (hk : tyEqK P t = some ks) (hv : vKs ks (cs.map unS) (ds.map unS) = true) (hc : cs.all isS = true) (hd : ds.all isS = true) :
    Does P o F σ (.s (.bool (@decide (cs.map unS ≠ ds.map unS) (Classical.propDecidable _)))) σ :=
  does_val fun G ρ hr hop => by
    have h1 := hop x (by simp [ho, Op.operands])
    have h2 := hop y (by simp [ho, Op.operands])
    rw [hx] at h1
    rw [hy] at h2
    obtain ⟨xs, e1, g1⟩ := agg_vals h1 hc
    obtain ⟨ys, e2, g2⟩ := agg_vals h2 hd
    obtain ⟨r1, r2⟩ := eqa_run hk hv g1 g2 x y .neq G.w
    refine ⟨.bool (!(eqL (cs.map unS) (ds.map unS))), ?_, ?_⟩
    · simp only [execOp, ho, e1, e2, Sem.run_bind]
      rw [r1]
      simp only [Result.andThen_ok, run_neq_struct, r2]
      rfl
    · have : (!(eqL (cs.map unS) (ds.map unS))) = @decide (cs.map unS ≠ ds.map unS) (Classical.propDecidable _) := by
        unfold eqL
        by_cases h : cs.map unS = ds.map unS <;> simp [h]
      rw [this]
      exact .s _
end
end Go.Proofs.YtanfaepjamkbjaaGreat.Aw
end
section
namespace Go.Proofs.YtanfaepjamkbjaaGreat.Aw
set_option linter.unusedSimpArgs false
set_option linter.unusedVariables false
open Go.RowKit

abbrev ER := AV × Sto × Kd
inductive OpOk (P : Program) (o : Oper) (F : Frm) (s : Sto) : ER → Prop
  | free (x : AV) (h : ∀ σ, Does P o F σ x σ) : OpOk P o F s (x, s, .free)
  | look (x : AV) (R : List Nat) (h : ∀ σ2, (∀ id ∈ R, σ2[id]? = s.abs[id]?) → Does P o F σ2 x σ2) : OpOk P o F s (x, s, .look R)
  | eff (x : AV) (s1 : Sto) (W : List Nat) (h : Does P o F s.abs x s1.abs) (hW : ∀ id, id ∉ W → s1.abs[id]? = s.abs[id]?) : OpOk P o F s (x, s1, .eff W)
theorem OpOk.does {P : Program} {o : Oper} {F : Frm} {s s' : Sto} {x : AV} {k : Kd} (h : OpOk P o F s (x, s', k)) : Does P o F s.abs x s'.abs := by
  cases h with
  | free _ h => exact h s.abs
  | look _ R h => exact h s.abs (fun _ _ => rfl)
  | eff _ _ _ h => exact h
def evBool (P : Program) (t : TypeId) : Bool := match P.underlying t with | some .bool => true | _ => false
theorem bool_of {P : Program} {t : TypeId} (h : evBool P t = true) : P.underlying t = some .bool := by
  unfold evBool at h
  split at h
  · assumption
  · cases h
theorem eqb_of {k k' : IntKind} (h : decide (k = k') = true) : k = k' := of_decide_eq_true h

/-! ## numbers and tests -/
def intBin (b : BinOp) (k : IntKind) (m n : Int) : Option Value := match b with
  | .add => some (.int k (k.wrap (m + n)))
  | .sub => some (.int k (k.wrap (m - n)))
  | .mul => some (.int k (k.wrap (m * n)))
  | .quo => bif decide (n = 0) then none else some (.int k (k.wrap (m.tdiv n)))
  | .rem => bif decide (n = 0) then none else some (.int k (m.tmod n))
  | .lss => some (.bool (decide (m < n)))
  | .leq => some (.bool (decide (m ≤ n)))
  | .gtr => some (.bool (decide (n < m)))
  | .geq => some (.bool (decide (n ≤ m)))
  | .eql => some (.bool (decide (m = n)))
  | .neq => some (.bool (decide (m ≠ n)))
  | .and => some (.int k (bitsV .and k m n))
  | .or => some (.int k (bitsV .or k m n))
  | .xor => some (.int k (bitsV .xor k m n))
  | .andNot => some (.int k (bitsV .andNot k m n))
  | _ => none
def strBin (b : BinOp) (a c : ByteArray) : Option Value := match b with
  | .eql => some (.bool (decide (a = c)))
  | .neq => some (.bool (decide (a ≠ c)))
  | .lss => some (.bool (Op.bytesLess a.toList c.toList))
  | .gtr => some (.bool (!(Op.bytesLess a.toList c.toList || decide (a = c))))
  | _ => none
def veq : List Value → List Value → Option Bool
  | [], [] => some true
  | .int _ m :: us, .int _ n :: vs => match veq us vs with | some b => some (decide (m = n) && b) | none => none
  | .bool m :: us, .bool n :: vs => match veq us vs with | some b => some ((m == n) && b) | none => none
  | .string m :: us, .string n :: vs => match veq us vs with | some b => some (decide (m = n) && b) | none => none
  | _, _ => none
theorem veq_of : ∀ {ks : List SK} {us vs : List Value} {b : Bool}, vKs ks us vs = true → veq us vs = some b → (b = true ↔ us = vs)
  | [], [], [], b, _, h => by simp [veq] at h; simp [← h]
  | [], [], _ :: _, b, hv, h => by simp [vKs] at hv
  | [], _ :: _, _, b, hv, h => by simp [vKs] at hv
  | _ :: _, [], _, b, hv, h => by simp [vKs] at hv
  | _ :: _, _ :: _, [], b, hv, h => by simp [vKs] at hv
  | k :: ks, u :: us, v :: vs, b, hv, h => by
    simp only [vKs, Bool.and_eq_true] at hv
    cases hr : veq us vs with
    | none => cases u <;> cases v <;> simp [veq, hr] at h
    | some c =>
      have ih := veq_of hv.2 hr
      have h1 := hv.1
      cases u <;> cases v <;> simp only [veq, hr, Option.some.injEq, reduceCtorEq] at h <;> subst h <;> cases k <;> simp_all [vK]
def binA (P : Program) (b : BinOp) (t : TypeId) (cs ds : List AV) : Option Value := match tyEqK P t with
  | none => none
  | some ks => bif vKs ks (cs.map unS) (ds.map unS) && cs.all isS && ds.all isS then
      match veq (cs.map unS) (ds.map unS), b with
      | some r, .eql => some (.bool r)
      | some r, .neq => some (.bool (!r))
      | _, _ => none
    else none
def nonNilB : AV → Bool
  | .own _ _ n => Nat.blt 0 n
  | .sub _ _ _ n => Nat.blt 0 n
  | .sl (_ :: _) => true
  | _ => false
theorem nonNilB_of {u : AV} (h : nonNilB u = true) : NonNil u := by
  unfold nonNilB at h
  split at h
  · exact .own _ _ _ (by simpa [Nat.blt_eq] using h)
  · exact .sub _ _ _ _ (by simpa [Nat.blt_eq] using h)
  · exact .sl _ _
  · cases h
def evBin (P : Program) (b : BinOp) (t : TypeId) : AV → AV → Option Value
  | .s (.int k m), .s (.int k' n) => match b with
    | .shr => bif decide (0 ≤ n) then some (.int k (m.fdiv (2 ^ min n.toNat k.bits))) else none
    | .shl => bif decide (0 ≤ n) then some (.int k (k.wrap (m * 2 ^ min n.toNat k.bits))) else none
    | _ => bif decide (k = k') then intBin b k m n else none
  | .s (.string a), .s (.string c) => strBin b a c
  | .s (.bool a), .s (.bool c) => match b with
    | .eql => bif evBool P t then some (.bool (a == c)) else none
    | .neq => bif evBool P t then some (.bool (!(a == c))) else none
    | _ => none
  | .agg cs, .agg ds => binA P b t cs ds
  | .s (.slice none 0 0), .s (.slice none 0 0) => bif (tySlice P t).isSome then match b with
      | .eql => some (.bool true)
      | .neq => some (.bool false)
      | _ => none
    else none
  | u, .s (.slice none 0 0) => bif (tySlice P t).isSome && nonNilB u then match b with
      | .eql => some (.bool false)
      | .neq => some (.bool true)
      | _ => none
    else none
  | _, _ => none
section
variable {P : Program} {o : Oper} {F : Frm} {σ : List Ob}
theorem intBin_ok {b : BinOp} {t t' : TypeId} {x y : Operand} {k : IntKind} {m n : Int} {v : Value} (ho : o.op = .binOp b t x y t') (hx : F.eval x = .s (.int k m)) (hy : F.eval y = .s (.int k n)) (h : intBin b k m n = some v) : Does P o F σ (.s v) σ := by
  unfold intBin at h
  split at h
  · cases h; exact does_add ho hx hy rfl
  · cases h; exact does_sub ho hx hy rfl
  · cases h; exact does_mul ho hx hy rfl
  · cases hn : decide (n = 0) with
    | true => rw [hn] at h; cases h
    | false => rw [hn] at h; cases h; exact does_quo ho hx hy (of_decide_eq_false hn) rfl
  · cases hn : decide (n = 0) with
    | true => rw [hn] at h; cases h
    | false => rw [hn] at h; cases h; exact does_rem ho hx hy (of_decide_eq_false hn) rfl
  · cases h; exact does_lss ho hx hy
  · cases h; exact does_leq ho hx hy
  · cases h; exact does_gtr ho hx hy
  · cases h; exact does_geq ho hx hy
  · cases h; exact does_eql ho hx hy
  · cases h; exact does_neq ho hx hy
  · cases h; exact does_bits ho (.inl rfl) hx hy rfl
  · cases h; exact does_bits ho (.inr (.inl rfl)) hx hy rfl
  · cases h; exact does_bits ho (.inr (.inr (.inl rfl))) hx hy rfl
  · cases h; exact does_bits ho (.inr (.inr (.inr rfl))) hx hy rfl
  · cases h
theorem strBin_ok {b : BinOp} {t t' : TypeId} {x y : Operand} {a c : ByteArray} {v : Value} (ho : o.op = .binOp b t x y t') (hx : F.eval x = .s (.string a)) (hy : F.eval y = .s (.string c)) (h : strBin b a c = some v) : Does P o F σ (.s v) σ := by
  unfold strBin at h
  split at h
  · cases h; exact does_eqs ho hx hy
  · cases h; exact does_nes ho hx hy
  · cases h; exact does_lts ho hx hy
  · cases h; exact does_gts ho hx hy
  · cases h
theorem binA_ok {b : BinOp} {t t' : TypeId} {x y : Operand} {cs ds : List AV} {v : Value} (ho : o.op = .binOp b t x y t') (hx : F.eval x = .agg cs) (hy : F.eval y = .agg ds) (h : binA P b t cs ds = some v) : Does P o F σ (.s v) σ := by
  unfold binA at h
  split at h
  · cases h
  · rename_i ks hk
    cases hc : (vKs ks (cs.map unS) (ds.map unS) && cs.all isS && ds.all isS) with
    | false => rw [hc] at h; cases h
    | true =>
      rw [hc, cond_true] at h
      simp only [Bool.and_eq_true] at hc
      obtain ⟨⟨h1, h2⟩, h3⟩ := hc
      split at h
      · rename_i r hr
        cases h
        have h4 := veq_of h1 hr
        have := does_eqa (P := P) (F := F) (σ := σ) ho hx hy hk h1 h2 h3
        have e : @decide (cs.map unS = ds.map unS) (Classical.propDecidable _) = r := by
          rw [Bool.eq_iff_iff, h4]; simp
        rwa [e] at this
      · rename_i r hr
        cases h
        have h4 := veq_of h1 hr
        have := does_nea (P := P) (F := F) (σ := σ) ho hx hy hk h1 h2 h3
        have e : @decide (cs.map unS ≠ ds.map unS) (Classical.propDecidable _) = !r := by
          rw [Bool.eq_iff_iff]
          cases r with
          | true => have := h4.1 rfl; simp [this]
          | false => simp; intro h5; have := h4.2 h5; cases this
        rwa [e] at this
      · cases h
theorem evBin_ok {b : BinOp} {t t' : TypeId} {x y : Operand} {v : Value} (ho : o.op = .binOp b t x y t') (h : evBin P b t (F.eval x) (F.eval y) = some v) : Does P o F σ (.s v) σ := by
  generalize hx : F.eval x = u at h
  generalize hy : F.eval y = w at h
  unfold evBin at h
  split at h
  · rename_i k m k' n
    split at h
    · cases hk : decide (0 ≤ n) with
      | false => rw [hk] at h; cases h
      | true => rw [hk] at h; cases h; exact does_shift ho hx hy (of_decide_eq_true hk) (.inl ⟨rfl, rfl⟩)
    · cases hk : decide (0 ≤ n) with
      | false => rw [hk] at h; cases h
      | true => rw [hk] at h; cases h; exact does_shift ho hx hy (of_decide_eq_true hk) (.inr ⟨rfl, rfl⟩)
    · cases hk : decide (k = k') with
      | false => rw [hk] at h; cases h
      | true =>
        rw [hk, cond_true] at h
        obtain rfl := eqb_of hk
        exact intBin_ok ho hx hy h
  · exact strBin_ok ho hx hy h
  · split at h
    · rename_i a c
      cases hk : evBool P t with
      | false => rw [hk] at h; cases h
      | true => rw [hk] at h; cases h; exact does_eqlb (bool_of hk) ho hx hy
    · rename_i a c
      cases hk : evBool P t with
      | false => rw [hk] at h; cases h
      | true => rw [hk] at h; cases h; exact does_neqb (bool_of hk) ho hx hy
    · cases h
  · exact binA_ok ho hx hy h
  · cases ht : tySlice P t with
    | none => rw [ht] at h; cases h
    | some e =>
      rw [ht, Option.isSome_some, cond_true] at h
      split at h
      · cases h; exact does_eqnil0 ho ht hx hy (.inl ⟨rfl, rfl⟩)
      · cases h; exact does_eqnil0 ho ht hx hy (.inr ⟨rfl, rfl⟩)
      · cases h
  · cases ht : tySlice P t with
    | none => rw [ht] at h; cases h
    | some e =>
      rw [ht, Option.isSome_some, Bool.true_and] at h
      generalize hb : nonNilB u = q at h
      cases q with
      | false => cases h
      | true =>
        rw [cond_true] at h
        split at h
        · cases h; exact does_eqnil ho ht hx (nonNilB_of hb) hy (.inl ⟨rfl, rfl⟩)
        · cases h; exact does_eqnil ho ht hx (nonNilB_of hb) hy (.inr ⟨rfl, rfl⟩)
        · cases h
  · cases h
end

/-! ## single operations -/
def evUn (b : UnOp) : AV → Option Value
  | .s (.bool c) => match b with | .not => some (.bool (!c)) | _ => none
  | .s (.int k n) => match b with | .neg => some (.int k (k.wrap (0 - n))) | _ => none
  | _ => none
def evConv (P : Program) (t t' : TypeId) : AV → Option Value
  | .s (.int k n) => match tyInt P t' with
    | some k' => bif (P.underlying t).isSome then some (.int k' (k'.wrap n)) else none
    | none => none
  | _ => none
def evFieldAddr (P : Program) (t : TypeId) (f : Nat) (x : AV) : Option AV := match tyField P t f with
  | some (off, _, some n) => bif Nat.beq n 0 then none else match x with
    | .ptr id sz k j => some (.ptr id sz k (j + off))
    | .ref cs => some (.ref (cs.drop off))
    | _ => none
  | _ => none
def evField (P : Program) (t : TypeId) (f : Nat) : AV → Option AV
  | .agg cs => match tyField P t f with
    | some (off, ft, n) => match tyAgg P ft with
      | some false => cs[off]?
      | some true => match n, tyInfo P ft with
        | some n, some (_, n', _) => bif Nat.beq n n' then some (.agg ((cs.drop off).take n)) else none
        | _, _ => none
      | none => none
    | none => none
  | _ => none
def evIndexStr (P : Program) (t : TypeId) : AV → AV → Option Value
  | .s (.string b), .s (.int _ (.ofNat k)) => bif tyString P t then match b[k]? with
      | some u => some (.int .u8 (u.toNat : Nat))
      | none => none
    else none
  | _, _ => none
def evNil : AV → Option AV
  | .ptr id sz k j => some (.ptr id sz k j)
  | .ref cs => some (.ref cs)
  | .fn f cs => some (.fn f cs)
  | _ => none
def evIndexAddr (P : Program) (t : TypeId) : AV → AV → Option AV
  | .sl l, .s (.int _ (.ofNat k)) => match tySlice P t with
    | none => none
    | some e => match tyInfo P e, l[k]? with
      | some (_, sz, _), some u => bif Nat.beq u.cells.length sz then some (.ref u.cells) else none
      | _, _ => none
  | .own id sz m, .s (.int _ (.ofNat k)) => match tySlice P t with
    | none => none
    | some e => match tyInfo P e with
      | some (_, sz', _) => bif Nat.beq sz sz' && Nat.blt k m then some (.ptr id sz k 0) else none
      | none => none
  | .sub id sz q m, .s (.int _ (.ofNat k)) => match tySlice P t with
    | none => none
    | some e => match tyInfo P e with
      | some (_, sz', _) => bif Nat.beq sz sz' && Nat.blt k m then some (.ptr id sz (q + k) 0) else none
      | none => none
  | .ptr id s k j, .s (.int _ (.ofNat i)) => match tyArr P t with
    | none => none
    | some (m, e) => match tyInfo P e with
      | some (_, sz, _) => bif Nat.blt i m then some (.ptr id s k (j + i * sz)) else none
      | none => none
  | .ref cs, .s (.int _ (.ofNat i)) => match tyArr P t with
    | none => none
    | some (m, e) => match tyInfo P e with
      | some (_, sz, _) => bif Nat.blt i m then some (.ref (cs.drop (i * sz))) else none
      | none => none
  | _, _ => none
def evExtract (i : Nat) : AV → Option AV
  | .tup l => l[i]?
  | _ => none
/-- what a pointer into the call's own leads to -/
def cellsO (sz k : Nat) : Option Ob → Option (List AV)
  | none => none
  | some ob => match rowOf ob with
    | none => none
    | some (sz', cs) => bif Nat.beq sz' sz then match cs[k]? with
        | some e => some e.cells
        | none => none
      else none
theorem cellsO_of {sz k : Nat} {l : List AV} {x : Option Ob} (h : cellsO sz k x = some l) : ∃ ob cs e, x = some ob ∧ rowOf ob = some (sz, cs) ∧ cs[k]? = some e ∧ e.cells = l := by
  unfold cellsO at h
  split at h
  · cases h
  · rename_i ob
    split at h
    · cases h
    · rename_i sz' cs hr
      cases hb : Nat.beq sz' sz with
      | false => rw [hb] at h; cases h
      | true =>
        rw [hb, cond_true] at h
        obtain rfl := Nat.eq_of_beq_eq_true hb
        split at h
        · rename_i e he
          cases h
          exact ⟨ob, cs, e, rfl, hr, he, rfl⟩
        · cases h
def cellsAt (s : Sto) (id sz k : Nat) : Option (List AV) := cellsO sz k (s.get id)
def evLoad (P : Program) (t : TypeId) (σ : Sto) (x : AV) : Option ER := match tyAgg P t with
  | none => none
  | some false => match x with
    | .ref (c :: _) => some (c, σ, .free)
    | .ptr id sz k j => match cellsAt σ id sz k with
      | none => none
      | some l => match l[j]? with
        | some c => some (c, σ, .look [id])
        | none => none
    | _ => none
  | some true => match tyInfo P t with
    | none => none
    | some (_, n, _) => match x with
      | .ref cs => bif Nat.ble n cs.length then some (.agg (cs.take n), σ, .free) else none
      | .ptr id sz k j => match cellsAt σ id sz k with
        | none => none
        | some l => bif Nat.ble (j + n) l.length then some (.agg ((l.drop j).take n), σ, .look [id]) else none
      | _ => none
def evStore (P : Program) (t : TypeId) (σ : Sto) (p x : AV) : Option ER := match p with
  | .ptr id sz k j => match tyInfo P t, σ.get id with
    | some (_, n, _), some (.row sz' cs) => match cs[k]? with
      | some e => bif Nat.beq sz' sz && x.cells.all AV.one && Nat.beq x.cells.length n && Nat.blt 0 n && Nat.ble (j + n) sz then some (.any, σ.set id (.row sz (cs.set k (putC e j x.cells))), .eff [id]) else none
      | none => none
    | _, _ => none
  | _ => none
def evAlloc (P : Program) (e : TypeId) (σ : Sto) : Option ER := match tyInfo P e with
  | some (some z, n, _) => bif (ofValue z).cells.all AV.one && Nat.beq (ofValue z).cells.length n then some (.ptr σ.len n 0 0, σ.push (.row n [ofValue z]), .eff [σ.len]) else none
  | _ => none
def evBox (σ : Sto) (x : AV) : Option ER := bif x.cells.all AV.one then some (.ptr σ.len x.cells.length 0 0, σ.push (.row x.cells.length [x]), .eff [σ.len]) else none
def evBuild (P : Program) (t : TypeId) (parts : List (Nat × AV)) : Option AV := match tyInfo P t, tyPlaces P t with
  | some (some z, _, _), some pl => bif (ofValue z).cells.all AV.one then match fillA (pl[·]?) (ofValue z).cells parts with
      | some cs => some (.agg cs)
      | none => none
    else none
  | some (some z, _, _), none => match tyArr P t with
    | none => none
    | some (_, e) => match tyInfo P e with
      | none => none
      | some (_, sz, _) => bif (ofValue z).cells.all AV.one then match fillA (fun i => some (i * sz, sz)) (ofValue z).cells parts with
          | some cs => some (.agg cs)
          | none => none
        else none
  | _, _ => none
def evLit (P : Program) (t : TypeId) (len : Nat) (parts : List (Nat × AV)) (σ : Sto) : Option ER := match tySlice P t with
  | none => none
  | some e => match tyInfo P e with
    | some (some z, n, _) => bif Nat.beq len 0 then bif parts.isEmpty then some (.emp, σ, .free) else none
      else bif (ofValue z).cells.all AV.one && Nat.beq (ofValue z).cells.length n && Nat.blt 0 n && Nat.ble (len * n) 16777216 then match fillA (fun i => some (i * n, n)) (zeroA z (len * n)) parts with
        | some cs => bif Nat.beq cs.length (len * n) then some (.own σ.len n len, σ.push (.row n (chunks n len cs)), .eff [σ.len]) else none
        | none => none
      else none
    | _ => none
def evLitF (P : Program) (t : TypeId) (len : Nat) (parts : List (Nat × AV)) (σ : Sto) : Option ER := match tySlice P t with
  | none => none
  | some e => match tyInfo P e with
    | some (some z, n, _) => bif (ofValue z).cells.all AV.one && Nat.beq (ofValue z).cells.length n && Nat.blt 0 n && Nat.blt 0 len && Nat.ble (len * n) 16777216 then match fillA (fun i => some (i * n, n)) (zeroA z (len * n)) parts with
        | some cs => bif Nat.beq cs.length (len * n) then some (.sl (chunks n len cs), σ, .free) else none
        | none => none
      else none
    | _ => none
def evMake (P : Program) (t : TypeId) (σ : Sto) : AV → AV → Option ER
  | .s (.int _ (.ofNat l)), .s (.int _ (.ofNat c)) => match tySlice P t with
    | none => none
    | some e => match tyInfo P e with
      | some (some z, n, bt) => bif (ofValue z).cells.all AV.one && Nat.beq (ofValue z).cells.length n && Nat.blt 0 n && Nat.ble l c && Nat.ble (bt * c) 281474976710656 && Nat.ble c 9223372036854775807 then some (.own σ.len n l, σ.push (.row n (List.replicate l (ofValue z))), .eff [σ.len]) else none
      | _ => none
  | _, _ => none
def evLen (P : Program) (t : TypeId) : AV → Option Value
  | .sl l => bif (tySlice P t).isSome then some (.int .i64 (l.length : Nat)) else none
  | .own _ _ n => bif (tySlice P t).isSome then some (.int .i64 (n : Nat)) else none
  | .sub _ _ _ n => bif (tySlice P t).isSome then some (.int .i64 (n : Nat)) else none
  | .emp => bif (tySlice P t).isSome then some (.int .i64 0) else none
  | .s (.slice _ n _) => bif (tySlice P t).isSome then some (.int .i64 (n : Nat)) else none
  | .s (.string b) => bif tyString P t then some (.int .i64 (b.size : Nat)) else none
  | _ => none
/-- what a slice reads as -/
def srcOf (σ : Sto) (sz : Nat) : AV → Option (List AV)
  | .sl l => bif l.all (fun e => Nat.beq e.cells.length sz) then some l else none
  | .emp => some []
  | .s (.slice none 0 0) => some []
  | .own id sz' n => match σ.get id with
    | none => none
    | some ob => match rowOf ob with
      | some (sz2, cs) => bif Nat.beq sz' sz && Nat.beq sz2 sz && Nat.ble n cs.length then some (cs.take n) else none
      | none => none
  | .sub id sz' i n => match σ.get id with
    | none => none
    | some ob => match rowOf ob with
      | some (sz2, cs) => bif Nat.beq sz' sz && Nat.beq sz2 sz && Nat.ble (i + n) cs.length then some ((cs.drop i).take n) else none
      | none => none
  | _ => none
theorem srcOf_ok {σ : Sto} {sz : Nat} {x : AV} {l : List AV} (h : srcOf σ sz x = some l) : Src σ.abs sz x l := by
  unfold srcOf at h
  split at h
  · rename_i l'
    cases hb : l'.all (fun e => Nat.beq e.cells.length sz) with
    | false => rw [hb] at h; cases h
    | true =>
      rw [hb] at h; cases h
      exact .sl l (fun e he => Nat.eq_of_beq_eq_true (List.all_eq_true.1 hb e he))
  · cases h; exact .emp
  · cases h; exact .nil
  · rename_i id sz' n
    split at h
    · cases h
    · rename_i ob hob
      split at h
      · rename_i sz2 cs hr
        cases hb : (Nat.beq sz' sz && Nat.beq sz2 sz && Nat.ble n cs.length) with
        | false => rw [hb] at h; cases h
        | true =>
          rw [hb] at h; cases h
          simp only [Bool.and_eq_true] at hb
          obtain ⟨⟨h1, h2⟩, h3⟩ := hb
          obtain rfl := Nat.eq_of_beq_eq_true h1
          obtain rfl := Nat.eq_of_beq_eq_true h2
          exact .pre id ob cs (by rw [← Sto.get_abs]; exact hob) hr n (Nat.le_of_ble_eq_true h3)
      · cases h
  · rename_i id sz' i n
    split at h
    · cases h
    · rename_i ob hob
      split at h
      · rename_i sz2 cs hr
        cases hb : (Nat.beq sz' sz && Nat.beq sz2 sz && Nat.ble (i + n) cs.length) with
        | false => rw [hb] at h; cases h
        | true =>
          rw [hb] at h; cases h
          simp only [Bool.and_eq_true] at hb
          obtain ⟨⟨h1, h2⟩, h3⟩ := hb
          obtain rfl := Nat.eq_of_beq_eq_true h1
          obtain rfl := Nat.eq_of_beq_eq_true h2
          exact .sub id ob cs (by rw [← Sto.get_abs]; exact hob) hr i n (Nat.le_of_ble_eq_true h3)
      · cases h
  · cases h
def evMinMax (b : Builtin) : AV → AV → Option Value
  | .s (.int k m), .s (.int _ n) => match b with
    | .max => some (.int k (if m < n then n else m))
    | .min => some (.int k (if n < m then n else m))
    | _ => none
  | _, _ => none
/-- where a copy goes: the row, the offset, how many -/
def dstOf (sz : Nat) : AV → Option (Nat × Nat × Nat)
  | .own id sz' n => bif Nat.beq sz' sz then some (id, 0, n) else none
  | .sub id sz' k n => bif Nat.beq sz' sz then some (id, k, n) else none
  | _ => none
theorem dstOf_ok {sz id k n : Nat} {x : AV} (h : dstOf sz x = some (id, k, n)) : Dst id sz k n x := by
  unfold dstOf at h
  split at h
  · rename_i i s m
    cases hb : Nat.beq s sz with
    | false => rw [hb] at h; cases h
    | true => rw [hb] at h; cases h; rw [Nat.eq_of_beq_eq_true hb]; exact .own rfl
  · rename_i i s j m
    cases hb : Nat.beq s sz with
    | false => rw [hb] at h; cases h
    | true => rw [hb] at h; cases h; rw [Nat.eq_of_beq_eq_true hb]; exact .sub
  · cases h
def evCopy (P : Program) (t : TypeId) (σ : Sto) (x y : AV) : Option ER := match tySlice P t with
  | none => none
  | some e => match tyInfo P e with
    | some (_, sz, _) => bif Nat.blt 0 sz then match srcOf σ sz y, dstOf sz x with
        | some l, some (id, k, n) => match σ.get id with
          | some (.row sz2 cs) => bif Nat.beq sz2 sz && Nat.ble (k + n) cs.length then some (.s (.int .i64 (Nat.min l.length n : Nat)), σ.set id (.row sz (laid cs k (l.take n))), .eff [id]) else none
          | _ => none
        | _, _ => none
      else none
    | none => none
def evAppend (P : Program) (t : TypeId) (σ : Sto) (x y : AV) : Option ER := match tySlice P t with
  | none => none
  | some e => match tyInfo P e with
    | some (some z, sz, bt) => bif Nat.beq z.cells.size sz && Nat.blt 0 sz then match srcOf σ sz y with
        | none => none
        | some l => match x with
          | .own id sz' n => match σ.get id with
            | some (.row sz2 cs) => bif Nat.beq sz' sz && Nat.beq sz2 sz && Nat.beq n cs.length && Nat.ble (cs.length + l.length) maxLen && Nat.ble ((cs.length + l.length) * bt) 140737488355328 then
                some (.own σ.len sz (cs.length + l.length), (σ.set id .dead).push (.row sz (cs ++ l)), .eff [id, σ.len]) else none
            | _ => none
          | .emp => bif Nat.ble l.length maxLen && Nat.ble (l.length * bt) 140737488355328 then some (.own σ.len sz l.length, σ.push (.row sz l), .eff [σ.len]) else none
          | .s (.slice none 0 0) => bif Nat.ble l.length maxLen && Nat.ble (l.length * bt) 140737488355328 then some (.own σ.len sz l.length, σ.push (.row sz l), .eff [σ.len]) else none
          | _ => none
      else none
    | _ => none
end Go.Proofs.YtanfaepjamkbjaaGreat.Aw
end
section
namespace Go.Proofs.YtanfaepjamkbjaaGreat.Aw
set_option linter.unusedSimpArgs false
set_option linter.unusedVariables false
open Go.RowKit
section
variable {P : Program} {o : Oper} {F : Frm} {σ : List Ob} {s : Sto}
theorem evUn_ok {b : UnOp} {t : TypeId} {x : Operand} {v : Value} (ho : o.op = .unOp b t x) (h : evUn b (F.eval x) = some v) : Does P o F σ (.s v) σ := by
  generalize hx : F.eval x = u at h
  unfold evUn at h
  split at h
  · split at h
    · cases h; exact does_not ho hx
    · cases h
  · split at h
    · cases h; exact does_neg ho hx rfl
    · cases h
  · cases h
theorem evConv_ok {t t' : TypeId} {x : Operand} {v : Value} (ho : o.op = .convert t t' x) (h : evConv P t t' (F.eval x) = some v) : Does P o F σ (.s v) σ := by
  generalize hx : F.eval x = u at h
  unfold evConv at h
  split at h
  · split at h
    · rename_i k' hk
      cases hb : (P.underlying t).isSome with
      | false => rw [hb] at h; cases h
      | true => rw [hb] at h; cases h; exact does_conv ho hb hk hx rfl
    · cases h
  · cases h
theorem evFieldAddr_ok {t : TypeId} {x : Operand} {f : Nat} {v : AV} (ho : o.op = .fieldAddr t x f) (h : evFieldAddr P t f (F.eval x) = some v) : Does P o F σ v σ := by
  generalize hx : F.eval x = u at h
  unfold evFieldAddr at h
  split at h
  · rename_i off ft n hf
    cases hb : Nat.beq n 0 with
    | true => rw [hb] at h; cases h
    | false =>
      have hn : n ≠ 0 := by intro e; subst e; cases hb
      rw [hb, cond_false] at h
      split at h
      · cases h; exact does_fieldAddr_ptr ho hf hn hx
      · cases h; exact does_fieldAddr_ref ho hf hn hx
      · cases h
  · cases h
theorem evField_ok {t : TypeId} {x : Operand} {f : Nat} {v : AV} (ho : o.op = .field t x f) (h : evField P t f (F.eval x) = some v) : Does P o F σ v σ := by
  generalize hx : F.eval x = u at h
  unfold evField at h
  split at h
  · split at h
    · rename_i off ft n hf
      split at h
      · rename_i ha; exact does_field ho hf ha hx h
      · rename_i ha
        split at h
        · rename_i m z n' bt hi
          cases hb : Nat.beq m n' with
          | false => rw [hb] at h; cases h
          | true =>
            rw [hb] at h; cases h
            obtain rfl := Nat.eq_of_beq_eq_true hb
            exact does_fields ho hf ha hi hx
        · cases h
      · cases h
    · cases h
  · cases h
theorem evIndexStr_ok {t : TypeId} {x y : Operand} {v : Value} (ho : o.op = .index t x y) (h : evIndexStr P t (F.eval x) (F.eval y) = some v) : Does P o F σ (.s v) σ := by
  generalize hx : F.eval x = u at h
  generalize hy : F.eval y = w at h
  unfold evIndexStr at h
  split at h
  · cases hb : tyString P t with
    | false => rw [hb] at h; cases h
    | true =>
      rw [hb, cond_true] at h
      split at h
      · rename_i k u hu
        cases h
        exact does_index_str ho hb hx hy rfl hu
      · cases h
  · cases h
theorem evNil_ok {x : Operand} {v : AV} (ho : o.op = .nilCheck x) (h : evNil (F.eval x) = some v) : Does P o F σ v σ := by
  generalize hx : F.eval x = u at h
  unfold evNil at h
  split at h
  · cases h; exact does_nil_ptr ho hx
  · cases h; exact does_nil_ref ho hx
  · cases h; exact does_nil_fn ho hx
  · cases h
theorem evIndexAddr_ok {t : TypeId} {x y : Operand} {v : AV} (ho : o.op = .indexAddr t x y) (h : evIndexAddr P t (F.eval x) (F.eval y) = some v) : Does P o F σ v σ := by
  generalize hx : F.eval x = u at h
  generalize hy : F.eval y = w at h
  unfold evIndexAddr at h
  split at h
  · split at h
    · cases h
    · rename_i e ht
      split at h
      · rename_i z sz bt u hi hu
        cases hb : Nat.beq u.cells.length sz with
        | false => rw [hb] at h; cases h
        | true => rw [hb] at h; cases h; exact does_index_sl ho ht hi hx hy rfl hu (Nat.eq_of_beq_eq_true hb)
      · cases h
  · rename_i id sz m kd k
    split at h
    · cases h
    · rename_i e ht
      split at h
      · rename_i z sz' bt hi
        cases hb : (Nat.beq sz sz' && Nat.blt k m) with
        | false => rw [hb] at h; cases h
        | true =>
          rw [hb] at h; cases h
          simp only [Bool.and_eq_true] at hb
          obtain rfl := Nat.eq_of_beq_eq_true hb.1
          exact does_index_own ho ht hi hx hy rfl (by simpa [Nat.blt_eq] using hb.2)
      · cases h
  · rename_i id sz q m kd k
    split at h
    · cases h
    · rename_i e ht
      split at h
      · rename_i z sz' bt hi
        cases hb : (Nat.beq sz sz' && Nat.blt k m) with
        | false => rw [hb] at h; cases h
        | true =>
          rw [hb] at h; cases h
          simp only [Bool.and_eq_true] at hb
          obtain rfl := Nat.eq_of_beq_eq_true hb.1
          exact does_index_sub ho ht hi hx hy rfl (by simpa [Nat.blt_eq] using hb.2)
      · cases h
  · rename_i id s k j kd i
    split at h
    · cases h
    · rename_i m e ht
      split at h
      · rename_i z sz bt hi
        cases hb : Nat.blt i m with
        | false => rw [hb] at h; cases h
        | true => rw [hb] at h; cases h; exact does_index_aptr ho ht hi hx hy rfl (by simpa [Nat.blt_eq] using hb)
      · cases h
  · rename_i cs kd i
    split at h
    · cases h
    · rename_i m e ht
      split at h
      · rename_i z sz bt hi
        cases hb : Nat.blt i m with
        | false => rw [hb] at h; cases h
        | true => rw [hb] at h; cases h; exact does_index_aref ho ht hi hx hy rfl (by simpa [Nat.blt_eq] using hb)
      · cases h
  · cases h
theorem evExtract_ok {x : Operand} {i : Nat} {v : AV} (ho : o.op = .extract x i) (h : evExtract i (F.eval x) = some v) : Does P o F σ v σ := by
  generalize hx : F.eval x = u at h
  unfold evExtract at h
  split at h
  · exact does_extract ho hx h
  · cases h
theorem evLoad_ok {t : TypeId} {x : Operand} {r : ER} (ho : o.op = .load t x) (h : evLoad P t s (F.eval x) = some r) : OpOk P o F s r := by
  generalize hx : F.eval x = u at h
  unfold evLoad at h
  split at h
  · cases h
  · rename_i ha
    split at h
    · cases h; exact .free _ (fun σ => does_load_ref ho ha hx)
    · rename_i id sz k j
      split at h
      · cases h
      · rename_i l hl
        split at h
        · rename_i c hc
          cases h
          refine .look _ _ (fun σ2 h2 => ?_)
          unfold cellsAt at hl
          rw [Sto.get_abs, ← h2 id (by simp)] at hl
          obtain ⟨ob, cs, e1, g1, g2, g3, g4⟩ := cellsO_of hl
          exact does_load_ptr ho ha hx g1 g2 g3 (by rw [g4]; exact hc)
        · cases h
    · cases h
  · rename_i ha
    split at h
    · cases h
    · rename_i z n bt hi
      split at h
      · rename_i cs
        cases hb : Nat.ble n cs.length with
        | false => rw [hb] at h; cases h
        | true => rw [hb] at h; cases h; exact .free _ (fun σ => does_load_refs ho ha hi hx (Nat.le_of_ble_eq_true hb))
      · rename_i id sz k j
        split at h
        · cases h
        · rename_i l hl
          cases hb : Nat.ble (j + n) l.length with
          | false => rw [hb] at h; cases h
          | true =>
            rw [hb] at h; cases h
            refine .look _ _ (fun σ2 h2 => ?_)
            unfold cellsAt at hl
            rw [Sto.get_abs, ← h2 id (by simp)] at hl
            obtain ⟨ob, cs, e1, g1, g2, g3, g4⟩ := cellsO_of hl
            have := does_load_ptrs (P := P) (F := F) (σ := σ2) ho ha hi hx g1 g2 g3 (by rw [g4]; exact Nat.le_of_ble_eq_true hb)
            rwa [g4] at this
      · cases h
theorem set_other {σ : List Ob} {i id : Nat} {ob : Ob} (h : id ∉ [i]) : (σ.set i ob)[id]? = σ[id]? := by
  rw [List.getElem?_set_ne]; intro e; exact h (by simp [e])
theorem app_other {σ : List Ob} {id : Nat} {ob : Ob} (h : id ∉ [σ.length]) : (σ ++ [ob])[id]? = σ[id]? := by
  by_cases hl : id < σ.length
  · rw [List.getElem?_append_left hl]
  · have hne : id ≠ σ.length := by simpa using h
    rw [List.getElem?_eq_none (by simp; omega), List.getElem?_eq_none (by omega)]
theorem eff_set {x : AV} {id : Nat} {ob : Ob} (h : Does P o F s.abs x (s.abs.set id ob)) : OpOk P o F s (x, s.set id ob, .eff [id]) :=
  .eff _ _ _ (by rw [Sto.set_abs]; exact h) (fun i hi => by rw [Sto.set_abs]; exact set_other hi)
theorem eff_push {x : AV} {ob : Ob} (h : Does P o F s.abs x (s.abs ++ [ob])) : OpOk P o F s (x, s.push ob, .eff [s.len]) :=
  .eff _ _ _ (by rw [Sto.push_abs]; exact h) (fun i hi => by rw [Sto.push_abs]; exact app_other (by rw [Sto.abs_len]; exact hi))
theorem sto_at {id : Nat} {ob : Ob} (h : s.get id = some ob) : s.abs[id]? = some ob := (Sto.get_abs s id).symm.trans h
theorem evStore_ok {t : TypeId} {p y : Operand} {r : ER} (ho : o.op = .store t p y) (h : evStore P t s (F.eval p) (F.eval y) = some r) : OpOk P o F s r := by
  generalize hp : F.eval p = u at h
  unfold evStore at h
  split at h
  · rename_i id sz k j
    split at h
    · rename_i z n bt sz' cs hi hs
      split at h
      · rename_i e he
        generalize hb : (Nat.beq sz' sz && (F.eval y).cells.all AV.one && Nat.beq (F.eval y).cells.length n && Nat.blt 0 n && Nat.ble (j + n) sz) = b at h
        cases b with
        | false => cases h
        | true =>
          cases h
          simp only [Bool.and_eq_true] at hb
          obtain ⟨⟨⟨⟨h1, h2⟩, h3⟩, h4⟩, h5⟩ := hb
          obtain rfl := Nat.eq_of_beq_eq_true h1
          exact eff_set (does_store ho hi hp rfl (sto_at hs) he h2 (Nat.eq_of_beq_eq_true h3) (by simpa [Nat.blt_eq] using h4) (Nat.le_of_ble_eq_true h5))
      · cases h
    · cases h
  · cases h
theorem evAlloc_ok {e : TypeId} {r : ER} (ho : o.op = .alloc e) (h : evAlloc P e s = some r) : OpOk P o F s r := by
  unfold evAlloc at h
  split at h
  · rename_i z n bt hi
    generalize hb : ((ofValue z).cells.all AV.one && Nat.beq (ofValue z).cells.length n) = b at h
    cases b with
    | false => cases h
    | true =>
      cases h
      simp only [Bool.and_eq_true] at hb
      have h1 := does_alloc (P := P) (F := F) (σ := s.abs) ho hi hb.1 (Nat.eq_of_beq_eq_true hb.2)
      rw [Sto.abs_len] at h1
      exact eff_push h1
  · cases h
theorem evBox_ok {e : TypeId} {y : Operand} {r : ER} (ho : o.op = .box e y) (h : evBox s (F.eval y) = some r) : OpOk P o F s r := by
  unfold evBox at h
  generalize hb : (F.eval y).cells.all AV.one = b at h
  cases b with
  | false => cases h
  | true =>
    cases h
    have h1 := does_box (P := P) (F := F) (σ := s.abs) ho rfl hb rfl
    rw [Sto.abs_len] at h1
    exact eff_push h1
theorem evBuild_ok {t : TypeId} {parts : Array (Nat × Operand)} {v : AV} (ho : o.op = .build t parts) (h : evBuild P t (parts.toList.map fun (i, x) => (i, F.eval x)) = some v) : Does P o F σ v σ := by
  unfold evBuild at h
  split at h
  · rename_i z n bt pl hi hp
    generalize hb : (ofValue z).cells.all AV.one = b at h
    cases b with
    | false => cases h
    | true =>
      rw [cond_true] at h
      split at h
      · rename_i cs hf
        cases h
        exact does_build ho hi hp hb hf
      · cases h
  · rename_i z n bt hi hp
    split at h
    · cases h
    · rename_i m e ht
      split at h
      · cases h
      · rename_i ze sz be he
        generalize hb : (ofValue z).cells.all AV.one = b at h
        cases b with
        | false => cases h
        | true =>
          rw [cond_true] at h
          split at h
          · rename_i cs hf
            cases h
            exact does_build_arr ho hi ht he hb hf
          · cases h
  · cases h
theorem evLit_ok {t : TypeId} {len : Nat} {parts : Array (Nat × Operand)} {r : ER} (ho : o.op = .buildSlice t len parts) (h : evLit P t len (parts.toList.map fun (i, x) => (i, F.eval x)) s = some r) : OpOk P o F s r := by
  unfold evLit at h
  split at h
  · cases h
  · rename_i e ht
    split at h
    · rename_i z n bt hi
      cases hl : Nat.beq len 0 with
      | true =>
        rw [hl, cond_true] at h
        obtain rfl := Nat.eq_of_beq_eq_true hl
        generalize hb : (parts.toList.map fun (i, x) => (i, F.eval x)).isEmpty = b at h
        cases b with
        | false => cases h
        | true =>
          cases h
          have hp : parts = #[] := by
            rw [List.isEmpty_iff, List.map_eq_nil_iff] at hb
            exact Array.toList_eq_nil_iff.1 hb
          exact .free _ (fun σ => does_lit0 ho hp ht hi)
      | false =>
        rw [hl, cond_false] at h
        generalize hb : ((ofValue z).cells.all AV.one && Nat.beq (ofValue z).cells.length n && Nat.blt 0 n && Nat.ble (len * n) 16777216) = b at h
        cases b with
        | false => cases h
        | true =>
          rw [cond_true] at h
          simp only [Bool.and_eq_true] at hb
          obtain ⟨⟨⟨h1, h2⟩, h3⟩, h4⟩ := hb
          split at h
          · rename_i cs hf
            cases hc : Nat.beq cs.length (len * n) with
            | false => rw [hc] at h; cases h
            | true =>
              rw [hc] at h; cases h
              have hpos : 0 < len := by
                rcases Nat.eq_zero_or_pos len with e | e
                · subst e; cases hl
                · exact e
              have g1 := does_lit (P := P) (F := F) (σ := s.abs) ho ht hi h1 (Nat.eq_of_beq_eq_true h2) (by simpa [Nat.blt_eq] using h3) hpos (Nat.le_of_ble_eq_true h4) hf (Nat.eq_of_beq_eq_true hc)
              rw [Sto.abs_len] at g1
              exact eff_push g1
          · cases h
    · cases h
/-- a literal that is read only: finished at once -/
theorem does_litF {t e : TypeId} {len : Nat} {parts : Array (Nat × Operand)} {z : Value} {n bt : Nat} {cs : List AV} (ho : o.op = .buildSlice t len parts) (ht : tySlice P t = some e) (hi : tyInfo P e = some (some z, n, bt))
    (h1 : (ofValue z).cells.all AV.one = true) (hn : (ofValue z).cells.length = n) (h0 : 0 < n) (hlen : 0 < len) (hsm : len * n ≤ 16777216) (hf : fillA (fun i => some (i * n, n)) (zeroA z (len * n)) (parts.toList.map fun (i, x) => (i, F.eval x)) = some cs) (hcl : cs.length = len * n) : Does P o F σ (.sl (chunks n len cs)) σ :=
  does_new (x := .any) fun G ρ hr hop => by
    obtain ⟨i, h2, h3, h4, h5⟩ := info_of hi
    obtain ⟨vs, h6, h7⟩ := fill_rep (G := G) (place := fun i => some (i * n, n)) (parts.map fun (i, x) => (i, ρ x)).toList _ (madeCells z.cells (len * n)) _ cs (zeroA_rep G z (len * n) h1 (by omega)) (by simp) (parts_rep (fun y hy => hop y (by simpa [ho, Op.operands] using hy))) hf
    have hvs : vs.size = len * n := by rw [h7.size]; exact hcl
    have hpos : ¬ (len * n = 0) := by
      have := Nat.mul_pos hlen h0
      omega
    have h8 : (Instr.buildSlice t len (parts.map fun (i, x) => (i, ρ x))).run P G.w = .ok (.slice (some ⟨G.w.heap.size, 0, none⟩) len len) (G.w.alloc (.cells vs e)) := by
      have hsm' : ¬ (16777216 < len * n) := by omega
      have h6' : Instr.fill (fun i => some (i * n, n)) (Array.map (fun x => z.cells[x % z.cells.size]!) (Array.range (len * n))) (parts.map fun (i, x) => (i, ρ x)).toList = some vs := h6
      simp only [Array.toList_map] at h6'
      simp [Instr.buildSlice, run_underlying (slice_of ht), run_sizeOf hi, hsm', hpos, zeroValue, typeInfo, h2, h3, h6', newRow]
    have hrow := chunks_row h7 hcl
    let G1 : Cx := { G with w := G.w.alloc (.cells vs e), St := fun b o => G.St b o ∨ b = G.w.heap.size }
    have hbel : Below G.w.heap.size G.w (G.w.alloc (.cells vs e)) := (Below.refl _ _).alloc (Nat.le_refl _) _
    obtain ⟨g1, g2⟩ := after_call (G1 := G1) hr rfl hbel (fun _ _ h => .inl h) (fun b o h => h.imp (fun h => h) (fun h => by omega)) (fun b o h => by
      have hsz : (G.w.alloc (.cells vs e)).heap.size = G.w.heap.size + 1 := by simp
      show b < (G.w.alloc (.cells vs e)).heap.size
      rw [hsz]
      rcases h with h | h
      · have := hr.st b o h; omega
      · omega)
    refine ⟨.slice (some ⟨G.w.heap.size, 0, none⟩) len len, _, ?_, g1, g2, ?_⟩
    · simp only [execOp, ho, Sem.run_bind, h8, Result.andThen_ok, Sem.run_pure]; rfl
    · have hlen2 : (chunks n len cs).length = len := chunks_length n len cs
      have hcell : ∀ j v, vs[j]? = some v → (G.w.alloc (.cells vs e)).cell? ⟨G.w.heap.size, j, none⟩ = some v := fun j v hv => by
        rw [cell_of_row _ _ _ vs e (0, 0) (heap_alloc_new G.w _), hv]
      have := Rep.sl (G := { G with w := G.w.alloc (.cells vs e), St := G1.St }) G.w.heap.size 0 len n (chunks n len cs) (fun k j => vs.getD (k * n + j) undef) (by rw [hlen2]; exact Nat.le_refl _) (by rw [hlen2]; have : len ≤ len * n := Nat.le_mul_of_pos_right _ h0; unfold maxLen; omega)
        (fun k x hk => ⟨(hrow k x hk).1, (hrow k x hk).2.1⟩) (fun k x j c hk hc => by
          obtain ⟨u, h9, h10⟩ := (hrow k x hk).2.2 j c hc
          refine ⟨.inr rfl, ?_⟩
          rw [Nat.zero_add, hcell _ u h9, Array.getD_eq_getD_getElem?, h9]; rfl) (fun k x j c hk hc => by
          obtain ⟨u, h9, h10⟩ := (hrow k x hk).2.2 j c hc
          rw [Array.getD_eq_getD_getElem?, h9]
          exact h10.ext g1)
      rw [hlen2] at this
      exact this
theorem evLitF_ok {t : TypeId} {len : Nat} {parts : Array (Nat × Operand)} {r : ER} (ho : o.op = .buildSlice t len parts) (h : evLitF P t len (parts.toList.map fun (i, x) => (i, F.eval x)) s = some r) : OpOk P o F s r := by
  unfold evLitF at h
  split at h
  · cases h
  · rename_i e ht
    split at h
    · rename_i z n bt hi
      generalize hb : ((ofValue z).cells.all AV.one && Nat.beq (ofValue z).cells.length n && Nat.blt 0 n && Nat.blt 0 len && Nat.ble (len * n) 16777216) = b at h
      cases b with
      | false => cases h
      | true =>
        rw [cond_true] at h
        simp only [Bool.and_eq_true] at hb
        obtain ⟨⟨⟨⟨h1, h2⟩, h3⟩, h3'⟩, h4⟩ := hb
        split at h
        · rename_i cs hf
          cases hc : Nat.beq cs.length (len * n) with
          | false => rw [hc] at h; cases h
          | true =>
            rw [hc] at h; cases h
            exact .free _ (fun σ => does_litF ho ht hi h1 (Nat.eq_of_beq_eq_true h2) (by simpa [Nat.blt_eq] using h3) (by simpa [Nat.blt_eq] using h3') (Nat.le_of_ble_eq_true h4) hf (Nat.eq_of_beq_eq_true hc))
        · cases h
    · cases h
theorem evMake_ok {t : TypeId} {y y' : Operand} {r : ER} (ho : o.op = .makeSlice t y y') (h : evMake P t s (F.eval y) (F.eval y') = some r) : OpOk P o F s r := by
  generalize hx : F.eval y = u at h
  generalize hy : F.eval y' = w at h
  unfold evMake at h
  split at h
  · rename_i kl l kc c
    split at h
    · cases h
    · rename_i e ht
      split at h
      · rename_i z n bt hi
        generalize hb : ((ofValue z).cells.all AV.one && Nat.beq (ofValue z).cells.length n && Nat.blt 0 n && Nat.ble l c && Nat.ble (bt * c) 281474976710656 && Nat.ble c 9223372036854775807) = b at h
        cases b with
        | false => cases h
        | true =>
          cases h
          simp only [Bool.and_eq_true] at hb
          obtain ⟨⟨⟨⟨⟨h1, h2⟩, h3⟩, h4⟩, h5⟩, h6⟩ := hb
          have g1 := does_make (P := P) (F := F) (σ := s.abs) ho ht hi h1 (Nat.eq_of_beq_eq_true h2) (by simpa [Nat.blt_eq] using h3) hx hy rfl rfl (Nat.le_of_ble_eq_true h4) (Nat.le_of_ble_eq_true h5) (Nat.le_of_ble_eq_true h6)
          rw [Sto.abs_len] at g1
          exact eff_push g1
      · cases h
  · cases h
theorem evLen_ok {t : TypeId} {x : Operand} {v : Value} (ho : o.op = .call { callee := .builtin .len, args := #[x], argTypes := #[t] }) (h : evLen P t (F.eval x) = some v) : Does P o F σ (.s v) σ := by
  generalize hx : F.eval x = u at h
  have hsl : ∀ {w : Value}, (bif (tySlice P t).isSome then some w else none) = some v → w = v ∧ ∃ e, tySlice P t = some e := by
    intro w h
    cases ht : tySlice P t with
    | none => rw [ht] at h; cases h
    | some e => rw [ht] at h; cases h; exact ⟨rfl, e, rfl⟩
  unfold evLen at h
  split at h
  · obtain ⟨rfl, e, ht⟩ := hsl h; exact does_len_sl ho ht hx
  · obtain ⟨rfl, e, ht⟩ := hsl h; exact does_len_own ho ht hx
  · obtain ⟨rfl, e, ht⟩ := hsl h; exact does_len_sub ho ht hx
  · obtain ⟨rfl, e, ht⟩ := hsl h; exact does_len_emp ho ht hx
  · obtain ⟨rfl, e, ht⟩ := hsl h; exact does_len_s ho ht hx
  · cases hb : tyString P t with
    | false => rw [hb] at h; cases h
    | true => rw [hb] at h; cases h; exact does_len_str ho hb hx
  · cases h
theorem evAppend_ok {t : TypeId} {x y : Operand} {r : ER} (ho : o.op = .call { callee := .builtin .append, args := #[x, y], argTypes := #[t, t] }) (h : evAppend P t s (F.eval x) (F.eval y) = some r) : OpOk P o F s r := by
  generalize hx : F.eval x = u at h
  unfold evAppend at h
  split at h
  · cases h
  · rename_i e ht
    split at h
    · rename_i z sz bt hi
      generalize hb : (Nat.beq z.cells.size sz && Nat.blt 0 sz) = b at h
      cases b with
      | false => cases h
      | true =>
        rw [cond_true] at h
        simp only [Bool.and_eq_true] at hb
        obtain ⟨h1, h2⟩ := hb
        have h2 : 0 < sz := by simpa [Nat.blt_eq] using h2
        split at h
        · cases h
        · rename_i l hl
          have hsrc := srcOf_ok hl
          split at h
          · rename_i id sz' n
            split at h
            · rename_i sz2 cs hs
              generalize hb : (Nat.beq sz' sz && Nat.beq sz2 sz && Nat.beq n cs.length && Nat.ble (cs.length + l.length) maxLen && Nat.ble ((cs.length + l.length) * bt) 140737488355328) = b at h
              cases b with
              | false => cases h
              | true =>
                cases h
                simp only [Bool.and_eq_true] at hb
                obtain ⟨⟨⟨⟨g1, g2⟩, g3⟩, g4⟩, g5⟩ := hb
                obtain rfl := Nat.eq_of_beq_eq_true g1
                obtain rfl := Nat.eq_of_beq_eq_true g2
                have q1 := does_append (P := P) (F := F) (σ := s.abs) ho ht hi (Nat.eq_of_beq_eq_true h1) h2 hx (sto_at hs) (Nat.eq_of_beq_eq_true g3) rfl hsrc (Nat.le_of_ble_eq_true g4) (Nat.le_of_ble_eq_true g5)
                rw [Sto.abs_len] at q1
                refine .eff _ _ _ (by rw [Sto.push_abs, Sto.set_abs]; exact q1) (fun i hi2 => ?_)
                have hi3 : i ≠ id ∧ i ≠ s.len := by simpa using hi2
                rw [Sto.push_abs, Sto.set_abs, app_other (by rw [List.length_set, Sto.abs_len]; simpa using hi3.2), set_other (by simpa using hi3.1)]
            · cases h
          · generalize hb : (Nat.ble l.length maxLen && Nat.ble (l.length * bt) 140737488355328) = b at h
            cases b with
            | false => cases h
            | true =>
              cases h
              simp only [Bool.and_eq_true] at hb
              have q1 := does_append0 (P := P) (F := F) (σ := s.abs) ho ht hi (Nat.eq_of_beq_eq_true h1) h2 hx (.inl rfl) rfl hsrc (Nat.le_of_ble_eq_true hb.1) (Nat.le_of_ble_eq_true hb.2)
              rw [Sto.abs_len] at q1
              exact eff_push q1
          · generalize hb : (Nat.ble l.length maxLen && Nat.ble (l.length * bt) 140737488355328) = b at h
            cases b with
            | false => cases h
            | true =>
              cases h
              simp only [Bool.and_eq_true] at hb
              have q1 := does_append0 (P := P) (F := F) (σ := s.abs) ho ht hi (Nat.eq_of_beq_eq_true h1) h2 hx (.inr rfl) rfl hsrc (Nat.le_of_ble_eq_true hb.1) (Nat.le_of_ble_eq_true hb.2)
              rw [Sto.abs_len] at q1
              exact eff_push q1
          · cases h
    · cases h
/-- append to a row of which fewer elements are told -/
def evAppT (P : Program) (t : TypeId) (σ : Sto) (x y : AV) : Option ER := match evAppend P t σ x y with
  | some r => some r
  | none => match x with
    | .own id _ n => match σ.get id with
      | some (.row sz cs) => match evAppend P t (σ.set id (.row sz (cs.take n))) x y with
        | some (r, s1, .eff W) => bif W.contains id then some (r, s1, .eff W) else none
        | _ => none
      | _ => none
    | _ => none
theorem evAppT_ok {t : TypeId} {x y : Operand} {r : ER} (ho : o.op = .call { callee := .builtin .append, args := #[x, y], argTypes := #[t, t] }) (h : evAppT P t s (F.eval x) (F.eval y) = some r) : OpOk P o F s r := by
  unfold evAppT at h
  split at h
  · rename_i r' hr; cases h; exact evAppend_ok ho hr
  · split at h
    · rename_i id _ n hx
      split at h
      · rename_i sz cs hs
        split at h
        · rename_i r' s1 W he
          cases hb : W.contains id with
          | false => rw [hb] at h; cases h
          | true =>
            rw [hb, cond_true] at h
            cases h
            have hid : id ∈ W := by simpa using hb
            have hk := evAppend_ok (o := o) ho he
            have hD := hk.does
            rw [Sto.set_abs] at hD
            cases hk with
            | eff _ _ _ h1 hW =>
              refine .eff _ _ _ (does_trunc (sto_at hs) hD) (fun i hi => ?_)
              rw [hW i hi, Sto.set_abs]
              exact set_other (by intro e; exact hi (by rw [show i = id by simpa using e]; exact hid))
        · cases h
      · cases h
    · cases h
theorem evMinMax_ok {b : Builtin} {x y : Operand} {t t' : TypeId} {v : Value} (ho : o.op = .call { callee := .builtin b, args := #[x, y], argTypes := #[t, t'] }) (h : evMinMax b (F.eval x) (F.eval y) = some v) : Does P o F σ (.s v) σ := by
  generalize hx : F.eval x = u at h
  generalize hy : F.eval y = w at h
  unfold evMinMax at h
  split at h
  · split at h
    · cases h; exact does_max ho hx hy rfl
    · cases h; exact does_min ho hx hy rfl
    · cases h
  · cases h
theorem evCopy_ok {t : TypeId} {x y : Operand} {r : ER} (ho : o.op = .call { callee := .builtin .copy, args := #[x, y], argTypes := #[t, t] }) (h : evCopy P t s (F.eval x) (F.eval y) = some r) : OpOk P o F s r := by
  unfold evCopy at h
  split at h
  · cases h
  · rename_i e ht
    split at h
    · rename_i z sz bt hi
      generalize hb : Nat.blt 0 sz = b at h
      cases b with
      | false => cases h
      | true =>
        have hsz : 0 < sz := by simpa [Nat.blt_eq] using hb
        rw [cond_true] at h
        split at h
        · rename_i l id k n hl hd
          split at h
          · rename_i sz2 cs hs
            generalize hb : (Nat.beq sz2 sz && Nat.ble (k + n) cs.length) = b at h
            cases b with
            | false => cases h
            | true =>
              cases h
              simp only [Bool.and_eq_true] at hb
              obtain rfl := Nat.eq_of_beq_eq_true hb.1
              exact eff_set (does_copy ho ht hi hsz rfl (dstOf_ok hd) (sto_at hs) (Nat.le_of_ble_eq_true hb.2) rfl (srcOf_ok hl))
          · cases h
        · cases h
    · cases h
end
end Go.Proofs.YtanfaepjamkbjaaGreat.Aw
end
section
namespace Go.Proofs.YtanfaepjamkbjaaGreat.Aw
set_option linter.unusedSimpArgs false
set_option linter.unusedVariables false
open Go.RowKit
section
variable {P : Program} {N : Nat} {F : Frm} {σ : List Ob} {Q : Exit → Frm → List Ob → Prop} {ops : Array Oper} {o : Oper} {l : List Oper} {d : Nat}
theorem ops_opP {p : Prop} [Decidable p] (hd : o.dst = some d) (hN : Nat.blt d N = true) (hr : Runs ops F o true) (hD : Does P o F σ (.s (.bool (decide p))) σ) (k1 : p → AOps P N ops l ((d, .s (.bool true)) :: F) σ Q) (k2 : ¬ p → AOps P N ops l ((d, .s (.bool false)) :: F) σ Q) : AOps P N ops (o :: l) F σ Q := by
  by_cases h : p
  · exact ops_op hd hN hr (dec_t h hD) (k1 h)
  · exact ops_op hd hN hr (dec_f h hD) (k2 h)
theorem ops_opB {b : Bool} (hd : o.dst = some d) (hN : Nat.blt d N = true) (hr : Runs ops F o true) (hD : Does P o F σ (.s (.bool b)) σ) (k1 : b = true → AOps P N ops l ((d, .s (.bool true)) :: F) σ Q) (k2 : b = false → AOps P N ops l ((d, .s (.bool false)) :: F) σ Q) : AOps P N ops (o :: l) F σ Q := by
  cases b with
  | true => exact ops_op hd hN hr hD (k1 rfl)
  | false => exact ops_op hd hN hr hD (k2 rfl)
theorem qx_opP {K : Frm → Prop} {p : Prop} [Decidable p] (hd : o.dst = some d) (hN : Nat.blt d N = true) (hr : Runs ops F o true) (hD : Does P o F σ (.s (.bool (decide p))) σ) (k1 : p → QX P N ops σ l ((d, .s (.bool true)) :: F) K) (k2 : ¬ p → QX P N ops σ l ((d, .s (.bool false)) :: F) K) : QX P N ops σ (o :: l) F K := by
  by_cases h : p
  · exact qx_op hd hN hr (dec_t h hD) (k1 h)
  · exact qx_op hd hN hr (dec_f h hD) (k2 h)
theorem qx_opB {K : Frm → Prop} {b : Bool} (hd : o.dst = some d) (hN : Nat.blt d N = true) (hr : Runs ops F o true) (hD : Does P o F σ (.s (.bool b)) σ) (k1 : b = true → QX P N ops σ l ((d, .s (.bool true)) :: F) K) (k2 : b = false → QX P N ops σ l ((d, .s (.bool false)) :: F) K) : QX P N ops σ (o :: l) F K := by
  cases b with
  | true => exact qx_op hd hN hr hD (k1 rfl)
  | false => exact qx_op hd hN hr hD (k2 rfl)
end
end Go.Proofs.YtanfaepjamkbjaaGreat.Aw
end
section
namespace Go.Proofs.YtanfaepjamkbjaaGreat.Aw
set_option linter.unusedSimpArgs false
set_option linter.unusedVariables false
open Go.RowKit
section
variable {P : Program} {N : Nat} {l : List Oper} {F F' : Frm} {σ : List Ob} {out : List (Nat × AV)} {Q : Exit → Frm → List Ob → Prop}
theorem adraw_of (h : EDraw P N l F σ Q) : ADraw P N l F σ Q := fun G a hs =>
  wpAny_mono (fun e a w q => by obtain ⟨G', F', σ', h1, h2, h3, h4⟩ := q; exact ⟨G', F', σ', h1, h2.step, h3, h4⟩) _ _ _ _ (h G a hs)
def EX (P : Program) (N : Nat) (ops : Array Oper) (all : List Oper) (acc : List Kd) (l : List Oper) (F : Frm) (σ : List Ob) (K : Frm → List Ob → Prop) : Prop :=
  ∃ F' σ' out ks sts, ESteps P N ops l F σ F' σ' out ks sts ∧ eOk all N (acc.reverse ++ ks) = true ∧ K F' σ'
variable {ops : Array Oper} {all : List Oper} {acc : List Kd} {K : Frm → List Ob → Prop} {o : Oper} {d : Nat} {x : AV} {σ1 : List Ob}
theorem ex_nil (hk : eOk all N acc.reverse = true) (h : K F σ) : EX P N ops all acc [] F σ K := ⟨F, σ, [], [], [], .nil F σ, by simpa using hk, h⟩
theorem dOk_s (hd : o.dst = some d) (hN : Nat.blt d N = true) : dOk N o = true := by unfold dOk; rw [hd]; exact hN
theorem dOk_n (hd : o.dst = none) : dOk N o = true := by unfold dOk; rw [hd]
theorem ex_free (hd : o.dst = some d) (hN : Nat.blt d N = true) (hr : Runs ops F o true) (hD : ∀ σ, Does P o F σ x σ) (h : EX P N ops all (.free :: acc) l ((d, x) :: F) σ K) : EX P N ops all acc (o :: l) F σ K := by
  obtain ⟨F', σ', out, ks, sts, h1, h2, h3⟩ := h
  exact ⟨F', σ', _, _, _, .free o l F F' σ σ' x out ks sts (dOk_s hd hN) hr hD (by rw [ent_some hd]; exact h1), by simpa using h2, h3⟩
theorem ex_look {R : List Nat} (hd : o.dst = some d) (hN : Nat.blt d N = true) (hr : Runs ops F o true) (hD : ∀ σ2, (∀ id ∈ R, σ2[id]? = σ[id]?) → Does P o F σ2 x σ2) (h : EX P N ops all (.look R :: acc) l ((d, x) :: F) σ K) : EX P N ops all acc (o :: l) F σ K := by
  obtain ⟨F', σ', out, ks, sts, h1, h2, h3⟩ := h
  exact ⟨F', σ', _, _, _, .look o l F F' σ σ' x out ks sts R (dOk_s hd hN) hr hD (by rw [ent_some hd]; exact h1), by simpa using h2, h3⟩
theorem ex_eff {W : List Nat} (hd : o.dst = some d) (hN : Nat.blt d N = true) (hr : Runs ops F o true) (hD : Does P o F σ x σ1) (hW : ∀ id, id ∉ W → σ1[id]? = σ[id]?) (h : EX P N ops all (.eff W :: acc) l ((d, x) :: F) σ1 K) : EX P N ops all acc (o :: l) F σ K := by
  obtain ⟨F', σ', out, ks, sts, h1, h2, h3⟩ := h
  exact ⟨F', σ', _, _, _, .eff o l F F' σ σ1 σ' x out ks sts W (dOk_s hd hN) hr hD hW (by rw [ent_some hd]; exact h1), by simpa using h2, h3⟩
theorem ex_eff0 {W : List Nat} (hd : o.dst = none) (hr : Runs ops F o true) (hD : Does P o F σ x σ1) (hW : ∀ id, id ∉ W → σ1[id]? = σ[id]?) (h : EX P N ops all (.eff W :: acc) l ((N, .any) :: F) σ1 K) : EX P N ops all acc (o :: l) F σ K := by
  obtain ⟨F', σ', out, ks, sts, h1, h2, h3⟩ := h
  exact ⟨F', σ', _, _, _, .eff o l F F' σ σ1 σ' x out ks sts W (dOk_n hd) hr hD hW (by rw [ent_none hd]; exact h1), by simpa using h2, h3⟩
theorem adraw_ex (h : EX P N l.toArray l [] l F σ (fun F' σ' => Q .normal F' σ')) : ADraw P N l F σ Q := by
  obtain ⟨F', σ', out, ks, sts, h1, h2, h3⟩ := h
  exact adraw_of (edraw_steps h1 (by simpa using h2) h3)
theorem look_ptr {t : TypeId} {x : Operand} {id sz k j : Nat} {ob : Ob} {cs : List AV} {e c : AV} (ho : o.op = .load t x) (ha : tyAgg P t = some false) (hx : F.eval x = .ptr id sz k j) (hs : σ[id]? = some ob) (hb : rowOf ob = some (sz, cs)) (he : cs[k]? = some e) (hc : e.cells[j]? = some c) : ∀ σ2 : List Ob, (∀ i ∈ [id], σ2[i]? = σ[i]?) → Does P o F σ2 c σ2 :=
  fun σ2 h => does_load_ptr ho ha hx ((h id (by simp)).trans hs) hb he hc
theorem look_whole {t : TypeId} {x : Operand} {z : Option Value} {n bt : Nat} {id sz k : Nat} {ob : Ob} {cs : List AV} {e : AV} (ho : o.op = .load t x) (ha : tyAgg P t = some true) (hi : tyInfo P t = some (z, n, bt)) (hx : F.eval x = .ptr id sz k 0) (hs : σ[id]? = some ob) (hb : rowOf ob = some (sz, cs)) (he : cs[k]? = some e) (hn : e.cells.length = n) : ∀ σ2 : List Ob, (∀ i ∈ [id], σ2[i]? = σ[i]?) → Does P o F σ2 (.agg e.cells) σ2 :=
  fun σ2 h => does_load_whole ho ha hi hx ((h id (by simp)).trans hs) hb he hn
theorem look_ptrs {t : TypeId} {x : Operand} {z : Option Value} {n bt : Nat} {id sz k j : Nat} {ob : Ob} {cs : List AV} {e : AV} (ho : o.op = .load t x) (ha : tyAgg P t = some true) (hi : tyInfo P t = some (z, n, bt)) (hx : F.eval x = .ptr id sz k j) (hs : σ[id]? = some ob) (hb : rowOf ob = some (sz, cs)) (he : cs[k]? = some e) (hn : j + n ≤ e.cells.length) : ∀ σ2 : List Ob, (∀ i ∈ [id], σ2[i]? = σ[i]?) → Does P o F σ2 (.agg ((e.cells.drop j).take n)) σ2 :=
  fun σ2 h => does_load_ptrs ho ha hi hx ((h id (by simp)).trans hs) hb he hn
/-- results: a struct in a variable, a slot -/
theorem post_ct {ad u : Nat} {ty : TypeId} {id sz k n bt : Nat} {z : Option Value} {ob : Ob} {cs : List AV} {e1 y r : AV} {e : Exit} (he : e = .normal ∨ e = .ret) (ha : tyAgg P ty = some true) (hi : tyInfo P ty = some (z, n, bt)) (hp : F.get ad = .ptr id sz k 0) (hs : σ[id]? = some ob) (ho : rowOf ob = some (sz, cs)) (hk : cs[k]? = some e1) (hn : e1.cells.length = n) (hu : F.get u = y) (hr : AV.tup [.agg e1.cells, y] = r) : APost P [.cell ad ty, .tmp u] r e F σ :=
  ⟨he, [.agg e1.cells, y], .cons _ _ _ _ (.cells ad ty id sz k n bt z ob cs e1 ha hi hp hs ho hk hn) (.cons _ _ _ _ (.tmp u y hu) .nil), hr ▸ .refl _⟩
end
end Go.Proofs.YtanfaepjamkbjaaGreat.Aw
end
section
namespace Go.Proofs.YtanfaepjamkbjaaGreat.Aw
set_option linter.unusedSimpArgs false
set_option linter.unusedVariables false
open Go Go.Proofs Go.RowKit Go.Maps Go.WideMaps
section
variable {P : Program} {o : Oper} {F : Frm} {σ : List Ob}
end
end Go.Proofs.YtanfaepjamkbjaaGreat.Aw
end
section
namespace Go.Proofs.YtanfaepjamkbjaaGreat.Aw
set_option linter.unusedSimpArgs false
set_option linter.unusedVariables false
open Go.RowKit

/-- all new blocks are finished -/
def newCx (G : Cx) (w' : World) : Cx := { base := 0, w0 := G.w, w := w', mu := fun _ => none, St := fun b o => G.St b o ∨ (G.w.heap.size ≤ b ∧ b < w'.heap.size) }
theorem pure_mk {P : Program} {f : FuncId} {args : List AV} {r : AV} (he : Enters P f) (hl : Lo 0 r)
    (h : ∀ (G : Cx) (vargs : Array Value), (∀ b o, G.St b o → b < G.w.heap.size) → vargs.size = args.length → (∀ (j : Nat) v x, vargs[j]? = some v → args[j]? = some x → Rep G v x) →
      Calls P f vargs G.w fun e w' => ∃ v, e = .returned v ∧ Below G.w.heap.size G.w w' ∧ Rep (newCx G w') v r) : Pure P f args r :=
  ⟨he, hl, fun G vargs hst hsz hrep => (h G vargs hst hsz hrep).mono (by
    rintro e w' ⟨v, rfl, hb, hr⟩
    refine ⟨v, newCx G w', rfl, rfl, hb, fun b o h => .inl h, fun b o h => ?_, fun b o h => ?_, hr⟩
    · exact h.imp (fun h => h) (fun h => h.1)
    · rcases h with h | h
      · have := hst b o h; have := hb.size; show b < w'.heap.size; omega
      · exact h.2)⟩
/-- a slice of finished data, read cell by cell -/
theorem rd_rep {G : Cx} {α : Type} [Inhabited α] {size : Nat} {enc : α → List Value} {f : α → AV} (he : ∀ a, (enc a).length = size) (hf : ∀ a, (f a).cells.length = size) (h1 : ∀ a, ∀ c ∈ (f a).cells, c.one = true)
    {lo hi : Nat} {v : Value} {l : List α} (h : Rd size enc G.w lo hi v l) (hs : ∀ b o, lo ≤ b → b < hi → b < G.w.heap.size → G.St b o)
    (hr : ∀ a ∈ l, ∀ (j : Nat) u c, (enc a)[j]? = some u → (f a).cells[j]? = some c → Rep G u c) : Rep G v (eL f l) := by
  obtain ⟨A, c, rfl, hc, hm⟩ := h.form
  unfold eL
  rcases Nat.eq_zero_or_pos l.length with h0 | h0
  · have : l = [] := List.eq_nil_of_length_eq_zero h0
    subst this
    exact .slnil A c
  · obtain ⟨b, off, rfl, hlo, hhi, _⟩ := Rd.at_ h he (gti_get h0)
    have key : ∀ (k : Nat) a (j : Nat) u, l[k]? = some a → (enc a)[j]? = some u → G.w.cell? ⟨b, off + (k * size + j), none⟩ = some u := by
      intro k a j u hk hu
      obtain ⟨b2, off2, hA, _, _, h3⟩ := Rd.at_ h he hk
      cases hA
      exact h3 j u hu
    have hval : ∀ (k : Nat) e (j : Nat) c, (l.map f)[k]? = some e → e.cells[j]? = some c → ∃ a u, l[k]? = some a ∧ e = f a ∧ (enc a)[j]? = some u ∧ Rep G u c ∧ G.w.cell? ⟨b, off + k * size + j, none⟩ = some u := by
      intro k e j c hk hc
      rw [List.getElem?_map] at hk
      cases ha : l[k]? with
      | none => rw [ha] at hk; cases hk
      | some a =>
        rw [ha] at hk
        simp only [Option.map_some, Option.some.injEq] at hk
        subst hk
        have hj : j < (enc a).length := by rw [he, ← hf a]; exact (List.getElem?_eq_some_iff.1 hc).1
        refine ⟨a, (enc a)[j], rfl, rfl, List.getElem?_eq_getElem hj, hr a (List.mem_of_getElem? ha) j _ c (List.getElem?_eq_getElem hj) hc, ?_⟩
        rw [Nat.add_assoc]
        exact key k a j _ ha (List.getElem?_eq_getElem hj)
    have hlen : l.length = (l.map f).length := by simp
    rw [hlen]
    refine .sl b off c size (l.map f) (fun k j => (G.w.cell? ⟨b, off + k * size + j, none⟩).getD undef) (by simpa using hc) (by simpa [maxLen] using hm) (fun k e hk => ?_) (fun k e j c hk hc => ?_) (fun k e j c hk hc => ?_)
    · obtain ⟨a, _, rfl⟩ := List.mem_map.1 (List.mem_of_getElem? hk)
      exact ⟨hf a, h1 a⟩
    · obtain ⟨a, u, _, _, _, _, h6⟩ := hval k e j c hk hc
      exact ⟨hs b _ hlo hhi (World.block_lt_of_cell? _ _ h6), by rw [h6]; rfl⟩
    · obtain ⟨a, u, _, _, _, h5, h6⟩ := hval k e j c hk hc
      rw [h6]; exact h5
/-- finished data, read cell by cell -/
theorem rep_rd {G : Cx} {α : Type} [Inhabited α] {size : Nat} {enc : α → List Value} {f : α → AV} (hsz : 0 < size) (he : ∀ a, (enc a).length = size) (hf : ∀ a, (f a).cells.length = size)
    {v : Value} {l : List α} (h : Rep G v (eL f l)) (hs : ∀ b o, G.St b o → b < G.w.heap.size)
    (hr : ∀ a ∈ l, ∀ (j : Nat) u c v, (enc a)[j]? = some u → (f a).cells[j]? = some c → Rep G v c → v = u) : Rd size enc G.w 0 G.w.heap.size v l := by
  unfold eL at h
  generalize hL : l.map f = L at h
  cases h with
  | slnil A cap =>
    have : l = [] := by simpa using hL
    subst this
    exact ⟨by simp, A, cap, rfl, Nat.zero_le _, Nat.zero_le _, fun h => by simp at h⟩
  | sl b o cap sz _ val hc hm h1 h2 h =>
    subst hL
    simp only [List.length_map] at *
    have key : ∀ (k : Nat) a (j : Nat) u, l[k]? = some a → (enc a)[j]? = some u → G.w.cell? ⟨b, o + (k * size + j), none⟩ = some u := by
      intro k a j u hk hu
      have hk2 : (l.map f)[k]? = some (f a) := by rw [List.getElem?_map, hk]; rfl
      have hsz' : sz = size := by rw [← (h1 k _ hk2).1, hf]
      subst hsz'
      have hj : j < (f a).cells.length := by rw [hf, ← he a]; exact (List.getElem?_eq_some_iff.1 hu).1
      have hj2 := List.getElem?_eq_getElem hj
      have h3 := h2 k _ j _ hk2 hj2
      rw [Nat.add_assoc] at h3
      rw [h3.2, hr a (List.mem_of_getElem? hk) j u _ _ hu hj2 (h k _ j _ hk2 hj2)]
    refine ⟨flatMap_len he l, _, cap, rfl, hc, hm, fun hn => ⟨b, o, rfl, Nat.zero_le _, ?_, fun j u hu => ?_⟩⟩
    · have h0 := gti_get hn
      have hk2 : (l.map f)[0]? = some (f (gti l 0)) := by rw [List.getElem?_map, h0]; rfl
      have hj : 0 < (f (gti l 0)).cells.length := by rw [hf]; exact hsz
      exact hs _ _ (h2 0 _ 0 _ hk2 (List.getElem?_eq_getElem hj)).1
    · have hlt : j < l.length * size := by
        have := (List.getElem?_eq_some_iff.1 hu).1
        rwa [flatMap_len he] at this
      have hk : j / size < l.length := Nat.div_lt_of_lt_mul (by rw [Nat.mul_comm]; exact hlt)
      have hjm : j % size < (enc (gti l (j / size))).length := by rw [he]; exact Nat.mod_lt _ hsz
      have h5 := flatMap_get he l (j / size) (gti l (j / size)) (j % size) _ (gti_get hk) (List.getElem?_eq_getElem hjm)
      have h6 := key (j / size) _ (j % size) _ (gti_get hk) (List.getElem?_eq_getElem hjm)
      have h7 : j / size * size + j % size = j := by rw [Nat.mul_comm]; exact Nat.div_add_mod _ _
      rw [h7] at h5 h6
      rw [h5] at hu
      cases hu
      exact h6

theorem rdI_rep {G : Cx} {lo hi : Nat} {v : Value} {l : List Int} (h : RdI G.w lo hi v l) (hs : ∀ b o, lo ≤ b → b < hi → b < G.w.heap.size → G.St b o) : Rep G v (eL eI l) :=
  rd_rep (size := 1) (enc := encI) (f := eI) (by simp) (fun _ => rfl) (fun a c hc => by simp [eI, AV.cells] at hc; subst hc; rfl) h hs (fun a _ j u c hu hc => by
    cases j with
    | zero => simp [eI, AV.cells] at hu hc; subst hu hc; exact .s _
    | succ j => simp at hu)
theorem rep_rdI {G : Cx} {v : Value} {l : List Int} (h : Rep G v (eL eI l)) (hs : ∀ b o, G.St b o → b < G.w.heap.size) : RdI G.w 0 G.w.heap.size v l :=
  rep_rd (size := 1) (enc := encI) (f := eI) (by decide) (by simp) (fun _ => rfl) h hs (fun a _ j u c v hu hc hv => by
    cases j with
    | zero => simp [eI, AV.cells] at hu hc; subst hu hc; exact rep_s hv
    | succ j => simp at hu)
end Go.Proofs.YtanfaepjamkbjaaGreat.Aw
end
section
namespace Go.Proofs.YtanfaepjamkbjaaGreat.Aw
set_option linter.unusedSimpArgs false
set_option linter.unusedVariables false
open Go.RowKit

/-- transitions, nets -/
def eT (t : Tr) : AV := .agg [eS t.label, eL eI t.inn, eL eI t.out]
def eN (n : Net) : AV := .agg [eI n.places, eL eT n.trans, eI n.source, eI n.sink]
theorem rep_rdT {G : Cx} {v : Value} {l : List Tr} (h : Rep G v (eL eT l)) (hs : ∀ b o, G.St b o → b < G.w.heap.size) : RdT G.w 0 G.w.heap.size v l := by
  unfold eL at h
  generalize hL : l.map eT = L at h
  cases h with
  | slnil A cap =>
    have : l = [] := by simpa using hL
    subst this
    exact ⟨[], ⟨by simp, A, cap, rfl, Nat.zero_le _, Nat.zero_le _, fun h => by simp at h⟩, rfl, fun k hk => by simp at hk⟩
  | sl b o cap sz _ val hc hm h1 h2 h =>
    subst hL
    simp only [List.length_map] at *
    have hk2 : ∀ k, k < l.length → (l.map eT)[k]? = some (eT (gti l k)) := fun k hk => by rw [List.getElem?_map, gti_get hk]; rfl
    refine ⟨(List.range l.length).map fun k => ⟨(gti l k).label, val k 1, val k 2⟩, ?_, by simp, fun k hk => ?_⟩
    · have hlen : ((List.range l.length).map fun k => (⟨(gti l k).label, val k 1, val k 2⟩ : TrV)).length = l.length := by simp
      refine ⟨flatMap_len (by simp) _, _, cap, by rw [hlen], by simpa using hc, by simpa using hm, fun hn => ⟨b, o, rfl, Nat.zero_le _, ?_, fun j u hu => ?_⟩⟩
      · rw [hlen] at hn
        exact hs _ _ (h2 0 _ 0 _ (hk2 0 hn) rfl).1
      · have hlt : j < l.length * 3 := by
          have := (List.getElem?_eq_some_iff.1 hu).1
          rwa [flatMap_len (size := 3) (by simp), hlen] at this
        have hk : j / 3 < l.length := by omega
        have hg : ((List.range l.length).map fun k => (⟨(gti l k).label, val k 1, val k 2⟩ : TrV))[j / 3]? = some ⟨(gti l (j / 3)).label, val (j / 3) 1, val (j / 3) 2⟩ := by simp [hk]
        have hjm : j % 3 < 3 := Nat.mod_lt _ (by decide)
        have hsz : sz = 3 := by rw [← (h1 _ _ (hk2 _ hk)).1]; rfl
        subst hsz
        have h7 : j / 3 * 3 + j % 3 = j := by rw [Nat.mul_comm]; exact Nat.div_add_mod _ _
        have key : ∀ (i : Nat) u c, (encV ⟨(gti l (j / 3)).label, val (j / 3) 1, val (j / 3) 2⟩)[i]? = some u → (eT (gti l (j / 3))).cells[i]? = some c → j % 3 = i → G.w.cell? ⟨b, o + j, none⟩ = some (val (j / 3) i) := by
          intro i u c _ hc2 hi
          have h3 := (h2 (j / 3) _ i c (hk2 _ hk) hc2).2
          rw [← hi] at h3 ⊢
          rw [Nat.add_assoc, h7] at h3
          exact h3
        have hu2 : ∀ i u', j % 3 = i → (encV ⟨(gti l (j / 3)).label, val (j / 3) 1, val (j / 3) 2⟩)[i]? = some u' → u = u' := by
          intro i u' hi hu'
          have h5 := flatMap_get (size := 3) (enc := encV) (by simp) _ (j / 3) _ i u' hg hu'
          rw [← hi, h7, hu] at h5
          injection h5
        have h3 : j % 3 = 0 ∨ j % 3 = 1 ∨ j % 3 = 2 := by omega
        rcases h3 with h3 | h3 | h3
        · rw [hu2 0 _ h3 rfl, key 0 _ _ rfl rfl h3]
          have := h (j / 3) _ 0 _ (hk2 _ hk) rfl
          rw [rep_s this]
        · rw [hu2 1 _ h3 rfl, key 1 _ _ rfl rfl h3]
        · rw [hu2 2 _ h3 rfl, key 2 _ _ rfl rfl h3]
    · have hg : gti ((List.range l.length).map fun k => (⟨(gti l k).label, val k 1, val k 2⟩ : TrV)) k = ⟨(gti l k).label, val k 1, val k 2⟩ := by
        unfold gti; simp [hk]
      rw [hg]
      exact ⟨rfl, rep_rdI (h k _ 1 _ (hk2 k hk) rfl) hs, rep_rdI (h k _ 2 _ (hk2 k hk) rfl) hs⟩
theorem rep_net {G : Cx} {v : Value} {n : Net} (h : Rep G v (eN n)) (hs : ∀ b o, G.St b o → b < G.w.heap.size) : ∃ vt, v = netV n vt ∧ RdT G.w 0 G.w.heap.size vt n.trans := by
  unfold eN at h
  cases h with
  | agg vs _ hl h1 h =>
    obtain ⟨l⟩ := vs
    match l, hl with
    | [a, b, c, d], _ =>
      have ha := rep_s (h 0 a _ rfl rfl)
      have hc := rep_s (h 2 c _ rfl rfl)
      have hd := rep_s (h 3 d _ rfl rfl)
      subst ha hc hd
      exact ⟨b, rfl, rep_rdT (h 1 b _ rfl rfl) hs⟩
end Go.Proofs.YtanfaepjamkbjaaGreat.Aw
end
section
namespace Go.Proofs.YtanfaepjamkbjaaGreat.Aw
open Go Go.Proofs
/-- the program -/
class IsP (P : Program) : Prop where
  eq : P = Tryz.prog
instance : IsP Tryz.prog := ⟨rfl⟩
variable {P : Program} [IsP P]
theorem hmix : P.follows .mixedOrders = true := by rw [IsP.eq (P := P)]; kernel_rfl
theorem ti3 : tyInfo P 3 = some (some (.int .i64 0), 1, 8) := by rw [IsP.eq (P := P)]; kernel_rfl
theorem ta3 : tyAgg P 3 = some false := by rw [IsP.eq (P := P)]; kernel_rfl
theorem ta9 : tyAgg P 9 = some false := by rw [IsP.eq (P := P)]; kernel_rfl
theorem tg9 : tyString P 9 = true := by rw [IsP.eq (P := P)]; kernel_rfl
theorem ta22 : tyAgg P 22 = some false := by rw [IsP.eq (P := P)]; kernel_rfl
theorem ts22 : tySlice P 22 = some 29 := by rw [IsP.eq (P := P)]; kernel_rfl
theorem ti24 : tyInfo P 24 = some (some (.agg #[.int .i64 0, .slice none 0 0, .int .i64 0, .int .i64 0]), 4, 48) := by rw [IsP.eq (P := P)]; kernel_rfl
theorem ta24 : tyAgg P 24 = some true := by rw [IsP.eq (P := P)]; kernel_rfl
theorem tf24_0 : tyField P 24 0 = some (0, 3, some 1) := by rw [IsP.eq (P := P)]; kernel_rfl
theorem tf24_1 : tyField P 24 1 = some (1, 22, some 1) := by rw [IsP.eq (P := P)]; kernel_rfl
theorem tf24_2 : tyField P 24 2 = some (2, 3, some 1) := by rw [IsP.eq (P := P)]; kernel_rfl
theorem ti25 : tyInfo P 25 = some (some (.slice none 0 0), 1, 24) := by rw [IsP.eq (P := P)]; kernel_rfl
theorem ta25 : tyAgg P 25 = some false := by rw [IsP.eq (P := P)]; kernel_rfl
theorem ts25 : tySlice P 25 = some 3 := by rw [IsP.eq (P := P)]; kernel_rfl
theorem ti29 : tyInfo P 29 = some (some (.agg #[.string ⟨#[]⟩, .slice none 0 0, .slice none 0 0]), 3, 64) := by rw [IsP.eq (P := P)]; kernel_rfl
theorem ta29 : tyAgg P 29 = some true := by rw [IsP.eq (P := P)]; kernel_rfl
theorem tf29_0 : tyField P 29 0 = some (0, 9, some 1) := by rw [IsP.eq (P := P)]; kernel_rfl
theorem tf29_1 : tyField P 29 1 = some (1, 25, some 1) := by rw [IsP.eq (P := P)]; kernel_rfl
theorem tf29_2 : tyField P 29 2 = some (2, 25, some 1) := by rw [IsP.eq (P := P)]; kernel_rfl
theorem ti31 : tyInfo P 31 = some (some (.slice none 0 0), 1, 24) := by rw [IsP.eq (P := P)]; kernel_rfl
theorem ta31 : tyAgg P 31 = some false := by rw [IsP.eq (P := P)]; kernel_rfl
theorem ts31 : tySlice P 31 = some 46 := by rw [IsP.eq (P := P)]; kernel_rfl
theorem ti33 : tyInfo P 33 = some (some (.agg #[.slice none 0 0]), 1, 24) := by rw [IsP.eq (P := P)]; kernel_rfl
theorem ta33 : tyAgg P 33 = some true := by rw [IsP.eq (P := P)]; kernel_rfl
theorem tf33_0 : tyField P 33 0 = some (0, 31, some 1) := by rw [IsP.eq (P := P)]; kernel_rfl
theorem tp33 : tyPlaces P 33 = some [(0, 1)] := by rw [IsP.eq (P := P)]; kernel_rfl
theorem ti44 : tyInfo P 44 = some (some (.agg #[.int .i64 0, .int .i64 0]), 2, 16) := by rw [IsP.eq (P := P)]; kernel_rfl
theorem ta44 : tyAgg P 44 = some true := by rw [IsP.eq (P := P)]; kernel_rfl
theorem tf44_0 : tyField P 44 0 = some (0, 3, some 1) := by rw [IsP.eq (P := P)]; kernel_rfl
theorem te44 : tyEqK P 44 = some [.i, .i] := by rw [IsP.eq (P := P)]; kernel_rfl
theorem tp44 : tyPlaces P 44 = some [(0, 1), (1, 1)] := by rw [IsP.eq (P := P)]; kernel_rfl
theorem ti46 : tyInfo P 46 = some (some (.slice none 0 0), 1, 24) := by rw [IsP.eq (P := P)]; kernel_rfl
theorem ta46 : tyAgg P 46 = some false := by rw [IsP.eq (P := P)]; kernel_rfl
theorem ts46 : tySlice P 46 = some 44 := by rw [IsP.eq (P := P)]; kernel_rfl
theorem ts56 : tySlice P 56 = some 25 := by rw [IsP.eq (P := P)]; kernel_rfl
theorem ts57 : tySlice P 57 = some 59 := by rw [IsP.eq (P := P)]; kernel_rfl
theorem ti59 : tyInfo P 59 = some (some (.map none), 1, 8) := by rw [IsP.eq (P := P)]; kernel_rfl
theorem ta59 : tyAgg P 59 = some false := by rw [IsP.eq (P := P)]; kernel_rfl
theorem tm59 : tyMap P 59 = some (3, 3) := by rw [IsP.eq (P := P)]; kernel_rfl
theorem tn3 : P.underlying 3 = some (.int .i64) := by rw [IsP.eq (P := P)]; kernel_rfl
theorem tK3 : Go.Maps.Keyed P 3 := Go.Maps.int_keyed tn3
end Go.Proofs.YtanfaepjamkbjaaGreat.Aw
end
section
namespace Go.Proofs.YtanfaepjamkbjaaGreat.Aw
set_option linter.unusedSimpArgs false
set_option linter.unusedVariables false
open Go.RowKit Go.Proofs
variable {P : Program} [IsP P]
end Go.Proofs.YtanfaepjamkbjaaGreat.Aw
end
section
namespace Go.Proofs.YtanfaepjamkbjaaGreat.Aw
set_option linter.unusedSimpArgs false
set_option linter.unusedVariables false
open Go.RowKit Go.Proofs
variable {P : Program} [IsP P]

theorem newCx_st {G : Cx} {w' : World} {b o : Nat} (h1 : G.w.heap.size ≤ b) (h2 : b < w'.heap.size) : (newCx G w').St b o := .inr ⟨h1, h2⟩
theorem pure_prog {f : FuncId} {args : List AV} {r : AV} (h : Pure Tryz.prog f args r) : Pure P f args r := by rw [IsP.eq (P := P)]; exact h
theorem lo_I {k : Nat} {l : List Int} : Lo k (eL eI l) := lo_map fun _ => .s _

/-- the result of firing and its like -/
theorem retI_pure {f : FuncId} {args : List AV} {r : List Int × Int} (he : Ent f) (h : ∀ (G : Cx) (vargs : Array Value), (∀ b o, G.St b o → b < G.w.heap.size) → vargs.size = args.length → (∀ (j : Nat) v x, vargs[j]? = some v → args[j]? = some x → Rep G v x) → Calls Tryz.prog f vargs G.w (RetI G.w r)) : Pure P f args (.tup [eL eI r.1, eI r.2]) :=
  pure_prog (pure_mk he (.tup _ (lo_cons lo_I (lo_cons (.s _) lo_nil))) fun G vargs hst hsz hrep => (h G vargs hst hsz hrep).mono (by
    rintro e w' ⟨A, c, rfl, hr, hb⟩
    refine ⟨_, rfl, hb, .tup _ _ rfl (fun j v x hv hx => ?_)⟩
    match j, hv, hx with
    | 0, hv, hx => simp at hv hx; subst hv hx; exact rdI_rep (G := newCx G w') hr (fun b o h1 h2 _ => newCx_st h1 h2)
    | 1, hv, hx => simp at hv hx; subst hv hx; exact .s _
    | j + 2, hv, hx => simp at hv))
theorem retB_pure {f : FuncId} {args : List AV} {b : Bool} (he : Ent f) (h : ∀ (G : Cx) (vargs : Array Value), (∀ b o, G.St b o → b < G.w.heap.size) → vargs.size = args.length → (∀ (j : Nat) v x, vargs[j]? = some v → args[j]? = some x → Rep G v x) → Calls Tryz.prog f vargs G.w fun e w' => e = .returned (.bool b) ∧ Below G.w.heap.size G.w w') : Pure P f args (eB b) :=
  pure_prog (pure_mk he (.s _) fun G vargs hst hsz hrep => (h G vargs hst hsz hrep).mono (by
    rintro e w' ⟨rfl, hb⟩
    exact ⟨_, rfl, hb, .s _⟩))
/-- a net, a list, a number -/
theorem args3 {G : Cx} {vargs : Array Value} {n : Net} {m : List Int} {x : Value} (hst : ∀ b o, G.St b o → b < G.w.heap.size) (hsz : vargs.size = [eN n, eL eI m, .s x].length) (hrep : ∀ (j : Nat) v y, vargs[j]? = some v → [eN n, eL eI m, .s x][j]? = some y → Rep G v y) :
    ∃ vt v, vargs = #[netV n vt, v, x] ∧ RdT G.w 0 G.w.heap.size vt n.trans ∧ RdI G.w 0 G.w.heap.size v m := by
  obtain ⟨l⟩ := vargs
  match l, hsz with
  | [a, b, c], _ =>
    obtain ⟨vt, rfl, h1⟩ := rep_net (hrep 0 a _ rfl rfl) hst
    have h2 := rep_rdI (hrep 1 b _ rfl rfl) hst
    have h3 := rep_s (hrep 2 c _ rfl rfl)
    subst h3
    exact ⟨vt, b, rfl, h1, h2⟩
theorem args2 {G : Cx} {vargs : Array Value} {n : Net} {m : List Int} (hst : ∀ b o, G.St b o → b < G.w.heap.size) (hsz : vargs.size = [eN n, eL eI m].length) (hrep : ∀ (j : Nat) v y, vargs[j]? = some v → [eN n, eL eI m][j]? = some y → Rep G v y) :
    ∃ vt v, vargs = #[netV n vt, v] ∧ RdT G.w 0 G.w.heap.size vt n.trans ∧ RdI G.w 0 G.w.heap.size v m := by
  obtain ⟨l⟩ := vargs
  match l, hsz with
  | [a, b], _ =>
    obtain ⟨vt, rfl, h1⟩ := rep_net (hrep 0 a _ rfl rfl) hst
    exact ⟨vt, b, rfl, h1, rep_rdI (hrep 1 b _ rfl rfl) hst⟩
theorem args1 {G : Cx} {vargs : Array Value} {n : Net} (hst : ∀ b o, G.St b o → b < G.w.heap.size) (hsz : vargs.size = [eN n].length) (hrep : ∀ (j : Nat) v y, vargs[j]? = some v → [eN n][j]? = some y → Rep G v y) :
    ∃ vt, vargs = #[netV n vt] ∧ RdT G.w 0 G.w.heap.size vt n.trans := by
  obtain ⟨l⟩ := vargs
  match l, hsz with
  | [a], _ =>
    obtain ⟨vt, rfl, h1⟩ := rep_net (hrep 0 a _ rfl rfl) hst
    exact ⟨vt, rfl, h1⟩
theorem rFire_pf (n : Net) (m : List Int) (t : Int) : Pure P 30 [eN n, eL eI m, eI t] (.tup [eL eI (FireE n m t).1, eI (FireE n m t).2]) :=
  retI_pure (ent_of Tryz.func30 rfl rfl) fun G vargs hst hsz hrep => by
    obtain ⟨vt, v, rfl, h1, h2⟩ := args3 hst hsz hrep
    exact rFire_any n m t vt v _ _ _ _ G.w h1 h2
theorem rvalid_pf (n : Net) : Pure P 11 [eN n] (eB (validB n)) :=
  retB_pure (ent_of Tryz.func11 rfl rfl) fun G vargs hst hsz hrep => by
    obtain ⟨vt, rfl, h1⟩ := args1 hst hsz hrep
    exact rvalid_any n vt _ _ G.w h1
end Go.Proofs.YtanfaepjamkbjaaGreat.Aw
end
