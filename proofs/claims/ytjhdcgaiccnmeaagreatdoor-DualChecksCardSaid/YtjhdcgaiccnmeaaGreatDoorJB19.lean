import Derived.Test.YtjhdcgaiccnmeaaGreatDoorJB18
import Derived.Laws.Small
set_option linter.unusedSimpArgs false
set_option linter.unusedVariables false
set_option linter.unusedSectionVars false
namespace Go.Proofs.YtjhdcgaiccnmeaaGreatDoor
namespace Aw
open Go Go.RowKit
section
variable {P : Program} {o : Oper} {F : Frm} {σ : List Ob}
def zxh (op : BinOp) (k : IntKind) (x y : Int) : Int := match op with
 | .and => k.wrap (BitVec.ofInt k.bits x &&& BitVec.ofInt k.bits y).toNat
 | .or => k.wrap (BitVec.ofInt k.bits x ||| BitVec.ofInt k.bits y).toNat
 | .xor => k.wrap (BitVec.ofInt k.bits x ^^^ BitVec.ofInt k.bits y).toNat
 | _ => k.wrap (BitVec.ofInt k.bits x &&& ~~~(BitVec.ofInt k.bits y)).toNat
theorem zl0 {b : BinOp} {t t' : TypeId} {x y : Operand} {k : IntKind} {m n c : Int} (ho : o.op = .binOp b t x y t') (hb : b = .and ∨ b = .or ∨ b = .xor ∨ b = .andNot) (hx : F.eval x = .s (.int k m)) (hy : F.eval y = .s (.int k n)) (hw : zxh b k m n = c) : Does P o F σ (.s (.int k c)) σ :=
 zet ho hx hy fun w => zdp w (by rcases hb with rfl | rfl | rfl | rfl <;> simp) (by subst hw; rcases hb with rfl | rfl | rfl | rfl <;> simp [Op.intBits, zxh])
theorem zgq {b : BinOp} {t t' : TypeId} {x y : Operand} {k k' : IntKind} {m n c : Int} (ho : o.op = .binOp b t x y t') (hx : F.eval x = .s (.int k m)) (hy : F.eval y = .s (.int k' n)) (h0 : 0 ≤ n)
  (hw : (b = .shr ∧ m.fdiv (2 ^ min n.toNat k.bits) = c) ∨ (b = .shl ∧ k.wrap (m * 2 ^ min n.toNat k.bits) = c)) : Does P o F σ (.s (.int k c)) σ :=
 zet ho hx hy fun w => by
  have hn : ¬ (n < 0) := by omega
  have hg : (eqGuard b t x y (.int k m) (.int k' n)).run P w = .ok () w := by
   unfold eqGuard
   rcases hw with ⟨rfl, _⟩ | ⟨rfl, _⟩ <;> rfl
  rw [Sem.run_bind, hg, Result.andThen_ok]
  rcases hw with ⟨rfl, rfl⟩ | ⟨rfl, rfl⟩ <;> simp [binOp, Op.shift, hn]
theorem zwx {t t' : TypeId} {x y : Operand} {a b : Bool} (ht : P.underlying t = some .bool) (ho : o.op = .binOp .neq t x y t') (hx : F.eval x = .s (.bool a)) (hy : F.eval y = .s (.bool b)) : Does P o F σ (.s (.bool (!(a == b)))) σ :=
 zet ho hx hy fun w => by
  have h1 : ∀ d, (Op.equalIn (d + 1) t (.bool a) (.bool b)).run P w = .ok (a == b) w := fun d => by simp [Op.equalIn, run_underlying ht]
  have h2 : (Op.equal t (.bool a) (.bool b)).run P w = .ok (a == b) w := h1 9999
  have h3 : (binOp .neq t (.bool a) (.bool b) : Sem Value) = (do pure (.bool (!(← Op.equal t (.bool a) (.bool b))))) := rfl
  rw [Sem.run_bind, show (eqGuard .neq t x y (.bool a) (.bool b)).run P w = .ok () w from rfl, Result.andThen_ok, h3, Sem.run_bind, h2]
  rfl
inductive NonNil : AV → Prop
 | own (id sz n : Nat) (h : 0 < n) : NonNil (.own id sz n)
 | sub (id sz k n : Nat) (h : 0 < n) : NonNil (.sub id sz k n)
 | sl (x : AV) (l : List AV) : NonNil (.sl (x :: l))
theorem ztu {G : Cx} {x : AV} {v : Value} (h : NonNil x) (hv : Rep G v x) : ∃ a n c, v = .slice (some a) n c := by
 cases h with
 | own id sz n h =>
  cases hv with
  | own0 => omega
  | own => exact ⟨_, _, _, rfl⟩
 | sub id sz k n h => cases hv with | sub _ _ _ _ b cap A hm hA _ => rw [hA h]; exact ⟨_, _, _, rfl⟩
 | sl x l => cases hv with | sl => exact ⟨_, _, _, rfl⟩
theorem zql {P : Program} {t e : TypeId} (ht : zcd P t = some e) (x y : Operand) (A : Option Addr) (n c : Nat) (b : BinOp) (w : World) {r : Bool} (hr : (b = .eql ∧ r = A.isNone) ∨ (b = .neq ∧ r = !A.isNone)) : (do eqGuard b t x y (.slice A n c) (.slice none 0 0); binOp b t (.slice A n c) (.slice none 0 0) : Sem Value).run P w = .ok (.bool r) w := by
 have hg : (eqGuard b t x y (.slice A n c) (.slice none 0 0)).run P w = .ok () w := by
  unfold eqGuard
  rcases hr with ⟨rfl, _⟩ | ⟨rfl, _⟩ <;> rfl
 have he : (Op.equal t (.slice A n c) (.slice none 0 0)).run P w = .ok A.isNone w := by
  have key : ∀ d, (Op.equalIn (d + 1) t (.slice A n c) (.slice none 0 0)).run P w = .ok A.isNone w := fun d => by
   unfold Op.equalIn
   cases A <;> simp [run_underlying (zdv ht)]
  exact key 9999
 rw [Sem.run_bind, hg, Result.andThen_ok]
 rcases hr with ⟨rfl, rfl⟩ | ⟨rfl, rfl⟩ <;> simp [binOp, he]
theorem zua {t t' e : TypeId} {x y : Operand} {u : AV} {b : BinOp} {r : Bool} (ho : o.op = .binOp b t x y t') (ht : zcd P t = some e) (hx : F.eval x = u) (hu : NonNil u) (hy : F.eval y = .s (.slice none 0 0)) (hr : (b = .eql ∧ r = false) ∨ (b = .neq ∧ r = true)) : Does P o F σ (.s (.bool r)) σ :=
 zch fun G ρ hrl hop => by
  have h1 := hop x (by simp [ho, Op.operands])
  have h2 := hop y (by simp [ho, Op.operands])
  rw [hx] at h1
  rw [hy] at h2
  obtain ⟨a, n, c, hv⟩ := ztu hu h1
  refine ⟨_, ?_, .s _⟩
  have h3 := zql (P := P) ht x y (some a) n c b G.w (r := r) (by simpa using hr)
  simp only [execOp, ho, hv, zb4 h2, Sem.run_bind] at h3 ⊢
  rw [h3]
  rfl
theorem zn3 {t e : TypeId} {x y : Operand} {z : Option Value} {n bt : Nat} {id sz m : Nat} {k : IntKind} {i : Int} {l : Nat} (ho : o.op = .slice t x (some y) none none) (ht : zcd P t = some e) (hi : zb5 P e = some (z, n, bt)) (hn : n = sz) (hx : F.eval x = .own id sz m) (hm0 : 0 < m) (hy : F.eval y = .s (.int k i)) (hk : i = (l : Int)) (hl : l ≤ m) : Does P o F σ (.sub id sz l (m - l)) σ :=
 zch fun G ρ hr hop => by
  have g1 := hop x (by simp [ho, Op.operands])
  have g2 := hop y (by simp [ho, Op.operands])
  rw [hx] at g1
  rw [hy] at g2
  have e2 := zb4 g2
  obtain ⟨q1, q2⟩ := zn1 ht
  subst hk hn
  generalize hv : ρ x = u at g1
  cases g1 with
  | own0 => omega
  | own _ _ _ b cap hm hn hc hb =>
   have h2 := run_slice_l (P := P) G.w t (some ⟨b, 0, none⟩) m cap q2 k (l : Int) (by omega) (by omega)
   refine ⟨sliced (some ⟨b, 0, none⟩) l m cap n, by simp only [execOp, ho, Option.map_some, Option.map_none, hv, e2, Sem.run_bind, run_sliceAt_slice (P := P) G.w t _ _ _ _ q2, h2, q1, zcw hi, Result.andThen_ok, Sem.run_pure, Int.toNat_natCast], ?_⟩
   refine .sub id n l (m - l) b (cap - l) _ hm (fun h0 => ?_) ⟨by omega, by omega, ?_⟩
   ·
    have : ¬ (cap = l) := by omega
    simp [this, Addr.add_lit]
   ·
    obtain ⟨cur, te, f, h3, h4⟩ := hb
    exact ⟨cur, te, f, h3, by rw [h4, show l + (cap - l) = cap by omega]; exact Nat.le_refl _⟩
def laid (cs : List AV) (k : Nat) (l : List AV) : List AV := cs.take k ++ l ++ cs.drop (k + l.length)
theorem zyy (cs : List AV) (k : Nat) : laid cs k [] = cs := by simp [laid]
theorem zq3 {cs : List AV} {k : Nat} {l : List AV} (h : k + l.length ≤ cs.length) : (laid cs k l).length = cs.length := by simp [laid]; omega
theorem zyz {cs : List AV} {k : Nat} {l : List AV} (h : k + l.length ≤ cs.length) (q : Nat) : (laid cs k l)[q]? = if q < k then cs[q]? else if q < k + l.length then l[q - k]? else cs[q]? := by
 have hk : (cs.take k).length = k := by simp; omega
 unfold laid
 by_cases h1 : q < k
 ·
  rw [if_pos h1, List.append_assoc, List.getElem?_append_left (by omega), List.getElem?_take, if_pos h1]
 ·
  rw [if_neg h1]
  by_cases h2 : q < k + l.length
  ·
   rw [if_pos h2, List.getElem?_append_left (by simp only [List.length_append, hk]; omega), List.getElem?_append_right (by omega), hk]
  ·
   rw [if_neg h2, List.getElem?_append_right (by simp only [List.length_append, hk]; omega), List.getElem?_drop]
   congr 1
   simp only [List.length_append, hk]; omega
inductive Dst (id sz k n : Nat) : AV → Prop
 | own (h : k = 0) : Dst id sz k n (.own id sz n)
 | sub : Dst id sz k n (.sub id sz k n)
theorem z16 {G : Cx} {id sz k n : Nat} {x : AV} {v : Value} (h : Dst id sz k n x) (hv : Rep G v x) : ∃ A cap, v = .slice A n cap ∧ (0 < n → ∃ b, G.mu id = some (some b) ∧ A = some ⟨b, k * sz, none⟩) := by
 cases h with
 | own h =>
  subst h
  cases hv with
  | own0 => exact ⟨_, _, rfl, fun h => absurd h (by omega)⟩
  | own _ _ _ b cap hm hn hc hb => exact ⟨_, _, rfl, fun _ => ⟨b, hm, by rw [Nat.zero_mul]⟩⟩
 | sub =>
  cases hv with
  | sub _ _ _ _ b cap A hm hA _ => exact ⟨_, _, rfl, fun h => ⟨b, hm, hA h⟩⟩
theorem zow {P : Program} {t ty e : TypeId} {z : Option Value} {sz bt : Nat} (ht : zcd P t = some e) (hi : zb5 P e = some (z, sz, bt)) (w : World) (B : Option Addr) (n dc : Nat)
  (A : Option Addr) (m c : Nat) (news : List Value) (hl : news.length = Nat.min m n * sz) (hA : A = none → Nat.min m n = 0) (hnews : ∀ a, A = some a → ∀ (j : Nat) u, news[j]? = some u → w.cell? (a.add j) = some u)
  {w' : World} (hw : ∀ a, B = some a → (storeCells a news).run P w = .ok () w') (hw0 : B = none → w' = w) :
  (Builtin.copy_ #[t, t] ty #[.slice B n dc, .slice A m c]).run P w = .ok (goInt (Nat.min m n)) w' := by
 have hf : (Builtin.firstCells sz (Nat.min m n) (.slice A m c)).run P w = .ok news.toArray w := by
  cases A with
  | none =>
   have := hA rfl
   rw [this, Nat.zero_mul] at hl
   have : news = [] := List.eq_nil_of_length_eq_zero hl
   subst this
   simp [Builtin.firstCells]
  | some a => exact run_firstCells_some (P := P) w sz _ a m c news hl (hnews a rfl)
 cases B with
 | none =>
  rw [hw0 rfl]
  simp [Builtin.copy_, run_underlying (zdv ht), Builtin.lenOf, zcw hi, hf]
 | some a =>
  have h2 := hw a rfl
  simp [Builtin.copy_, run_underlying (zdv ht), Builtin.lenOf, zcw hi, hf, h2]
theorem zp6 {t e : TypeId} {d s : Operand} {z : Option Value} {sz bt id k n : Nat} {x y' : AV} {cs l : List AV} (ho : o.op = .call { callee := .builtin .copy, args := #[d, s], argTypes := #[t, t] })
  (ht : zcd P t = some e) (hi : zb5 P e = some (z, sz, bt)) (hsz : 0 < sz) (hx : F.eval d = x) (hdst : Dst id sz k n x) (hs : σ[id]? = some (.row sz cs)) (hkn : k + n ≤ cs.length) (hy : F.eval s = y') (hsrc : Src σ sz y' l) :
  Does P o F σ (.s (.int .i64 (Nat.min l.length n : Nat))) (σ.set id (.row sz (laid cs k (l.take n)))) :=
 zgb (x := .any) fun G ρ hr hop => by
  have g1 := hop d (by simp [ho, Op.operands, Call.operands])
  have g2 := hop s (by simp [ho, Op.operands, Call.operands])
  rw [hx] at g1
  rw [hy] at g2
  obtain ⟨B, dc, hv, hB⟩ := z16 hdst g1
  obtain ⟨A, c, news, hv2, hvals⟩ := znd hsz hr hsrc g2
  have hnl : (news.take (Nat.min l.length n * sz)).length = Nat.min l.length n * sz := by
   rw [List.length_take, hvals.len]
   exact Nat.min_eq_left (Nat.mul_le_mul_right _ (Nat.min_le_left _ _))
  have hnews : ∀ a, A = some a → ∀ (j : Nat) u, (news.take (Nat.min l.length n * sz))[j]? = some u → G.w.cell? (a.add j) = some u := fun a ha j u hu => by
   rw [List.getElem?_take] at hu
   split at hu
   ·
    exact hvals.at_ a ha j u hu
   ·
    cases hu
  have hA0 : A = none → Nat.min l.length n = 0 := fun h => by rw [hvals.nil h]; exact Nat.zero_min n
  have hrun : ∀ w', (∀ a, B = some a → (storeCells a (news.take (Nat.min l.length n * sz))).run P G.w = .ok () w') → (B = none → w' = G.w) → (execOp ρ o).run P G.w = .ok (.value (.int .i64 (Nat.min l.length n : Nat))) w' := fun w' h1 h2 => by
   have := zow (P := P) (ty := o.type) ht hi G.w B n dc A l.length c _ hnl hA0 hnews h1 h2
   simp [execOp, ho, resolve, invoke, builtin, hv, hv2, this, goInt]
  by_cases h0 : Nat.min l.length n = 0
  ·
   have ht0 : l.take n = [] := by
    apply List.eq_nil_of_length_eq_zero
    rw [List.length_take]; exact (Nat.min_comm _ _).trans h0
   have hn0 : news.take (Nat.min l.length n * sz) = [] := by rw [h0, Nat.zero_mul, List.take_zero]
   refine ⟨_, G, hrun G.w (fun a _ => by rw [hn0]; rfl) (fun _ => rfl), .refl G, ?_, by rw [h0]; exact .s _⟩
   rw [ht0, zyy]
   have : σ.set id (.row sz cs) = σ := by
    apply List.ext_getElem?
    intro i
    by_cases h : id = i
    ·
     subst h; rw [List.getElem?_set_self (List.getElem?_eq_some_iff.1 hs).1, hs]
    ·
     rw [List.getElem?_set_ne h]
   rw [this]; exact hr
  ·
   have hn : 0 < n := by
    rcases Nat.eq_zero_or_pos n with h | h
    ·
     subst h; simp at h0
    ·
     exact h
   obtain ⟨b, hm, rfl⟩ := hB hn
   have h6 := hr.obs id _ hs
   simp only [ObOk, hm] at h6
   obtain ⟨⟨cur, te, fr, h7, rfl, h8, h9⟩, h10, h11⟩ := h6
   have hlt : (l.take n).length = Nat.min l.length n := by rw [List.length_take]; exact Nat.min_comm _ _
   obtain ⟨q, hq⟩ : ∃ q, Nat.min l.length n = q := ⟨_, rfl⟩
   have hqn : q ≤ n := by rw [← hq]; exact Nat.min_le_right _ _
   have hql : q ≤ l.length := by rw [← hq]; exact Nat.min_le_left _ _
   rw [hq] at hnl hrun hlt
   have hfit : k * sz + q * sz ≤ cur.size := by
    have : (k + q) * sz ≤ cs.length * sz := Nat.mul_le_mul_right _ (by omega)
    rw [Nat.add_mul] at this; omega
   have hst := run_storeCells_at P b (k * sz) te (news.take (q * sz)) 0 cur G.w h7 (by rw [hnl]; omega) (fun u hu => hvals.one u (List.mem_of_mem_take hu))
   simp only [Nat.add_zero, hnl] at hst
   obtain ⟨nc, hnc⟩ : ∃ nc : Array Value, nc = (cur.toList.take (k * sz) ++ news.take (q * sz) ++ cur.toList.drop (k * sz + q * sz)).toArray := ⟨_, rfl⟩
   rw [← hnc] at hst
   have hncs : nc.size = cur.size := by
    rw [hnc]
    simp only [List.size_toArray, List.length_append, List.length_drop, Array.length_toList, hnl]
    rw [List.length_take, Array.length_toList]
    omega
   have hlay : k + (l.take n).length ≤ cs.length := by rw [hlt]; omega
   refine ⟨_, { G with w := G.w.setRow b nc }, hrun _ (fun a ha => by cases ha; exact hst) (fun h => by cases h), zis hr hs hm h7 hncs, zks hr hs hm h7 hncs (by rw [zq3 hlay, hncs]; exact h8) ?_, by rw [hq]; exact .s _⟩
   have hget : ∀ i, nc[i]? = if i < k * sz then cur[i]? else if i < k * sz + q * sz then news[i - k * sz]? else cur[i]? := by
    intro i
    have ha : (cur.toList.take (k * sz)).length = k * sz := by rw [List.length_take, Array.length_toList]; omega
    rw [hnc]
    simp only [List.getElem?_toArray]
    by_cases hi1 : i < k * sz
    ·
     rw [if_pos hi1, List.append_assoc, List.getElem?_append_left (by omega), List.getElem?_take, if_pos hi1, Array.getElem?_toList]
    ·
     rw [if_neg hi1]
     by_cases hi2 : i < k * sz + q * sz
     ·
      rw [if_pos hi2, List.getElem?_append_left (by simp only [List.length_append, ha, hnl]; omega), List.getElem?_append_right (by omega), ha, List.getElem?_take, if_pos (by omega)]
     ·
      rw [if_neg hi2, List.getElem?_append_right (by simp only [List.length_append, ha, hnl]; omega), List.getElem?_drop, Array.getElem?_toList]
      congr 1
      simp only [List.length_append, ha, hnl]; omega
   intro i x' hx'
   rw [zyz hlay, hlt] at hx'
   by_cases hi1 : i < k
   ·
    rw [if_pos hi1] at hx'
    obtain ⟨a1, a2, a3⟩ := h9 i x' hx'
    refine ⟨a1, a2, fun j c hc => ?_⟩
    obtain ⟨v, b1, b2⟩ := a3 j c hc
    refine ⟨v, ?_, b2⟩
    have hj : j < sz := by have := (List.getElem?_eq_some_iff.1 hc).1; omega
    have : (i + 1) * sz ≤ k * sz := Nat.mul_le_mul_right _ hi1
    rw [Nat.add_mul] at this
    rw [hget, if_pos (by omega)]; exact b1
   ·
    rw [if_neg hi1] at hx'
    by_cases hi2 : i < k + q
    ·
     rw [if_pos hi2, List.getElem?_take, if_pos (by omega)] at hx'
     obtain ⟨a1, a2, a3⟩ := hvals.rep (i - k) x' hx'
     refine ⟨a1, a2, fun j c hc => ?_⟩
     obtain ⟨v, b1, b2⟩ := a3 j c hc
     refine ⟨v, ?_, b2⟩
     have hj : j < sz := by have := (List.getElem?_eq_some_iff.1 hc).1; omega
     have e1 : (i - k) * sz = i * sz - k * sz := Nat.sub_mul _ _ _
     have e2 : k * sz ≤ i * sz := Nat.mul_le_mul_right _ (by omega)
     have e3 : (i + 1) * sz ≤ (k + q) * sz := Nat.mul_le_mul_right _ hi2
     rw [Nat.add_mul, Nat.add_mul] at e3
     rw [hget, if_neg (by omega), if_pos (by omega)]
     rw [show i * sz + j - k * sz = (i - k) * sz + j by omega]; exact b1
    ·
     rw [if_neg hi2] at hx'
     obtain ⟨a1, a2, a3⟩ := h9 i x' hx'
     refine ⟨a1, a2, fun j c hc => ?_⟩
     obtain ⟨v, b1, b2⟩ := a3 j c hc
     refine ⟨v, ?_, b2⟩
     have : (k + q) * sz ≤ i * sz := Nat.mul_le_mul_right _ (by omega)
     rw [Nat.add_mul] at this
     rw [hget, if_neg (by omega), if_neg (by omega)]; exact b1
end
end Aw
namespace Aw
open Go.RowKit
def zti (P : Program) (t : TypeId) : Option (Nat × TypeId) := match P.underlying t with | some (.array n e) => some (n, e) | _ => none
theorem zrx {P : Program} {t e : TypeId} {m : Nat} (h : zti P t = some (m, e)) : P.underlying t = some (.array m e) := by
 unfold zti at h
 split at h
 ·
  rename_i n e' hu
  cases h; exact hu
 ·
  cases h
section
variable {P : Program} {o : Oper} {F : Frm} {σ : List Ob}
theorem zov {t e : TypeId} {z : Option Value} {sz bt m : Nat} (ht : zti P t = some (m, e)) (he : zb5 P e = some (z, sz, bt)) (b i : Nat) (kd : IntKind) (n : Int) (h0 : 0 ≤ n) (h1 : n < m) (w : World) :
  (Instr.indexAt t (.pointer (some ⟨b, i, none⟩)) (.int kd n)).run P w = .ok (.pointer (some ⟨b, i + n.toNat * sz, none⟩)) w := by
 simp [Instr.indexAt, asIntOf, run_underlying (zrx ht), Instr.sureAddr, h0, h1, zcw he, Addr.add_lit]
theorem zbf {t e : TypeId} {x y : Operand} {z : Option Value} {sz bt m : Nat} {cs : List AV} {kd : IntKind} {n : Int} {i : Nat} (ho : o.op = .indexAddr t x y) (ht : zti P t = some (m, e)) (he : zb5 P e = some (z, sz, bt))
  (hx : F.eval x = .ref cs) (hy : F.eval y = .s (.int kd n)) (hk : n = (i : Int)) (hi : i < m) : Does P o F σ (.ref (cs.drop (i * sz))) σ :=
 zch fun G ρ hr hop => by
  have h1 := hop x (by simp [ho, Op.operands])
  have h2 := hop y (by simp [ho, Op.operands])
  rw [hx] at h1
  rw [hy] at h2
  have hyv := zb4 h2
  subst hk
  generalize hv : ρ x = u at h1
  cases h1 with
  | ref b q _ val hone h3 h =>
   refine ⟨.pointer (some ⟨b, q + i * sz, none⟩), by simp only [execOp, ho, hv, hyv, Sem.run_bind, zov ht he b _ kd (i : Int) (by omega) (by omega), Result.andThen_ok, Sem.run_pure, Int.toNat_natCast], ?_⟩
   refine .ref b (q + i * sz) _ (fun j => val (i * sz + j)) (fun c hc => hone c (List.mem_of_mem_drop hc)) (fun j c hj => ?_) (fun j c hj => ?_)
   ·
    rw [List.getElem?_drop] at hj
    rw [Nat.add_assoc]
    exact h3 _ c hj
   ·
    rw [List.getElem?_drop] at hj
    exact h _ c hj
theorem zib {t e : TypeId} {parts : Array (Nat × Operand)} {z : Value} {n bt m sz be : Nat} {ze : Option Value} {cs : List AV} (ho : o.op = .build t parts) (hi : zb5 P t = some (some z, n, bt)) (ht : zti P t = some (m, e)) (he : zb5 P e = some (ze, sz, be))
  (h1 : (ofValue z).cells.all AV.one = true) (hf : zlw (fun i => some (i * sz, sz)) (ofValue z).cells (parts.toList.map fun (i, x) => (i, F.eval x)) = some cs) : Does P o F σ (.agg cs) σ :=
 zch fun G ρ hr hop => by
  obtain ⟨i, h2, h3, h4, h5⟩ := zha hi
  obtain ⟨vs, h6, h7⟩ := zkn (G := G) (place := (fun i => some (i * sz, sz))) (parts.map fun (i, x) => (i, ρ x)).toList _ z.cells _ cs (zhy G z h1) (by simp) (zld (fun y hy => hop y (by simpa [ho, Op.operands] using hy))) hf
  have h8 : (Instr.build t (parts.map fun (i, x) => (i, ρ x))).run P G.w = .ok (.agg vs) G.w := by
   simp [Instr.build, zeroValue, typeInfo, h2, h3, run_underlying (zrx ht), zcw he]
   simp at h6
   rw [h6]
   rfl
  exact ⟨.agg vs, by simp only [execOp, ho, Sem.run_bind, h8, Result.andThen_ok, Sem.run_pure], .agg vs cs h7.size h7.one h7.rep⟩
end
end Aw
end Go.Proofs.YtjhdcgaiccnmeaaGreatDoor
