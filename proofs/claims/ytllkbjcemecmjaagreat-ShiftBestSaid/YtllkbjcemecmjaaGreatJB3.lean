import Derived.Test.YtllkbjcemecmjaaGreatJB2
import Derived.Laws.Small
import Derived.Laws.StructEq
import Derived.Test.YtllkbjcemecmjaaGreatProg
import Derived.Test.YtllkbjcemecmjaaGreatJB1
set_option linter.unusedSimpArgs false
set_option linter.unusedVariables false
set_option linter.unusedSectionVars false
section
namespace Go.Proofs.YtllkbjcemecmjaaGreat.Aw
open Go Go.Proofs Go.RowKit
structure PureO (P : Program) (f : FuncId) (args : List AV) (sz : Nat) (cs : List AV) : Prop where
 ent : Enters P f
 call : ∀ (G : Cx) (vargs : Array Value), StT G.St G.w → vargs.size = args.length → (∀ (j : Nat) v x, vargs[j]? = some v → args[j]? = some x → Rep G v x) →
  Calls P f vargs G.w fun e w' => ∃ v, e = .returned v ∧ Below G.w.heap.size G.w w' ∧ ((v = .slice none 0 0 ∧ cs = []) ∨ ∃ (b cap : Nat) (cur : Array Value) (te : TypeId), v = .slice (some ⟨b, 0, none⟩) cs.length cap ∧ G.w.heap.size ≤ b ∧ w'.heap[b]? = some (.cells cur te (0, 0)) ∧ cur.size = cap * sz ∧ cs.length ≤ cap ∧ cap ≤ maxLen ∧
   ∀ (k : Nat) e, cs[k]? = some e → e.cells.length = sz ∧ ∀ (j : Nat) c, e.cells[j]? = some c → ∃ u, cur[k * sz + j]? = some u ∧ c = .s u ∧ u.oneCell' = true)
section
variable {P : Program} {o : Oper} {F : Frm} {σ : List Ob} {G : Cx}
theorem adopt {b sz : Nat} {cs : List AV} {cur : Array Value} {te : TypeId} (hr : Rel G σ) (hb : G.w.heap[b]? = some (.cells cur te (0, 0))) (hbase : G.base ≤ b) (hst : ∀ o, ¬ G.SP b o) (hmu : ∀ j, G.mu j ≠ some (some b)) (hn : cs.length * sz ≤ cur.size)
  (h : ∀ (k : Nat) x, cs[k]? = some x → x.cells.length = sz ∧ (∀ c ∈ x.cells, c.one = true) ∧ ∀ (j : Nat) c, x.cells[j]? = some c → ∃ v, cur[k * sz + j]? = some v ∧ Rep G v c) :
  G.Ext (G.new σ.length G.w (some b)) ∧ Rel (G.new σ.length G.w (some b)) (σ ++ [.row sz cs]) := by
 have hext : G.Ext (G.new σ.length G.w (some b)) := by
  refine ⟨rfl, rfl, fun _ _ h => h, fun _ _ _ => rfl, fun id x h => ?_, Nat.le_refl _, zcc.refl _, fun _ _ h => .inl h, rfl, fun _ _ h => .inl h⟩
  have : id ≠ σ.length := by
   intro e2
   rw [e2, hr.fresh _ (Nat.le_refl _)] at h
   cases h
  simp [Cx.new, this, h]
 refine ⟨hext, hr.below, hr.le, hr.st, fun id ob hob => ?_, fun i j b' hi hj hmi hmj => ?_, fun id hid => ?_⟩
 ·
  by_cases hid : id < σ.length
  ·
   rw [List.getElem?_append_left hid] at hob
   have h1 := hr.obs id ob hob
   have hm : (G.new σ.length G.w (some b)).mu id = G.mu id := by simp [Cx.new, Nat.ne_of_lt hid]
   exact h1.of hm rfl rfl (Nat.le_refl _) (fun b sz cs f _ _ hx => hx.ext hext rfl) (fun b' X hb' hX _ => ⟨rfl, fun j hj => by
    by_cases e2 : j = σ.length
    ·
     subst e2
     simp [Cx.new] at hj
     subst hj
     obtain ⟨es, cl, h5⟩ := hX.map
     rw [hb] at h5; cases h5
    ·
     simpa [Cx.new, e2] using hj⟩)
  ·
   have hid2 : id = σ.length := by
    have := (List.getElem?_eq_some_iff.1 hob).1
    simp at this; omega
   subst hid2
   simp at hob
   subst hob
   have hm3 : (G.new σ.length G.w (some b)).mu σ.length = some (some b) := by simp [Cx.new]
   simp only [ObOk, hm3]
   refine ⟨⟨cur, te, (0, 0), hb, rfl, hn, fun k x hx => ⟨(h k x hx).1, (h k x hx).2.1, fun j c hc => ?_⟩⟩, hbase, hst⟩
   obtain ⟨v, h6, h7⟩ := (h k x hx).2.2 j c hc
   exact ⟨v, h6, h7.ext hext⟩
 ·
  have old : ∀ i b', alive (σ ++ [.row sz cs]) i → (G.new σ.length G.w (some b)).mu i = some (some b') → (i = σ.length ∧ b = b') ∨ (i < σ.length ∧ alive σ i ∧ G.mu i = some (some b')) := by
   rintro i b' ⟨sz1, cs1, hi⟩ hmi
   by_cases hlt : i < σ.length
   ·
    right
    rw [List.getElem?_append_left hlt] at hi
    exact ⟨hlt, ⟨sz1, cs1, hi⟩, by simpa [Cx.new, Nat.ne_of_lt hlt] using hmi⟩
   ·
    left
    have := (List.getElem?_eq_some_iff.1 hi).1
    simp at this
    have he : i = σ.length := by omega
    subst he
    simp [Cx.new] at hmi
    exact ⟨rfl, hmi⟩
  rcases old i b' hi hmi with ⟨rfl, h1⟩ | ⟨h1, h3, h4⟩ <;> rcases old j b' hj hmj with ⟨rfl, g1⟩ | ⟨g1, g3, g4⟩
  ·
   rfl
  ·
   exact absurd (h1 ▸ g4) (hmu j)
  ·
   exact absurd (g1 ▸ h4) (hmu i)
  ·
   exact hr.inj i j b' h3 g3 h4 g4
 ·
  simp at hid
  have hne : id ≠ σ.length := by omega
  simp [Cx.new, hne, hr.fresh id xd]
theorem does_callO {fo : Operand} {ar : Array Operand} {ts : Array TypeId} {f : FuncId} {caps args : List AV} {sz : Nat} {cs : List AV} (ho : o.op = .call { callee := .value fo, args := ar, argTypes := ts }) (hf : F.eval fo = .fn f caps) (hp : PureO P f args sz cs) (ha : ar.toList.map F.eval ++ caps = args) : Does P o F σ (.own σ.length sz cs.length) (σ ++ [.row sz cs]) := by
 intro G a next Q hr hop hn
 obtain ⟨cap, h1, h2, h3⟩ := call_args ho hop hf
 rw [ha] at h2 h3
 unfold Oper.wp
 rw [call_enter ho a.eval h1 hp.ent G.w, Oper.upon_enter]
 refine (hp.call G _ ⟨fun b o h => hr.st b o (.inl h), hr.below.now⟩ h2 h3).mono ?_
 rintro e w' ⟨v, rfl, hbel, hres⟩
 obtain ⟨h4, h5⟩ := after_call (G1 := { G with w := w' }) hr rfl hbel (fun _ _ h => h) (fun _ _ h => .inl h) (fun b o h => Nat.lt_of_lt_of_le (hr.st b o (.inl h)) hbel.size)
 rcases hres with ⟨rfl, rfl⟩ | ⟨b, cp, cur, te, rfl, g1, g2, g3, g4, g5, g6⟩
 ·
  have k1 := nil_ext h5
  have k2 := nil_rel h5 sz
  exact hn _ _ (h4.trans k1) k2 (.own0 σ.length sz none (fun a ha => by cases ha) (by simp [Cx.new]))
 ·
  have hble : G.base ≤ G.w.heap.size := by have h1 := hr.le; have h2 := hr.below.size; omega
  have hnm : ∀ j, G.mu j ≠ some (some b) := fun j hj => by
   by_cases hlt : j < σ.length
   ·
    have := (hr.obs j _ (List.getElem?_eq_getElem hlt)).lt hj
    omega
   ·
    rw [hr.fresh j xd] at hj; cases hj
  obtain ⟨k1, k2⟩ := adopt (cs := cs) (sz := sz) h5 g2 (Nat.le_trans hble g1) (fun o h => by have := hr.st b o h; omega) hnm (by rw [g3]; exact Nat.mul_le_mul_right _ g4) (fun k x hx => by
   obtain ⟨q1, q2⟩ := g6 k x hx
   refine ⟨q1, fun c hc => ?_, fun j c hc => ?_⟩
   ·
    obtain ⟨j, hj, rfl⟩ := List.mem_iff_getElem.1 hc
    obtain ⟨u, _, e1, e2⟩ := q2 j _ (List.getElem?_eq_getElem hj)
    rw [e1]; exact e2
   ·
    obtain ⟨u, e0, e1, e2⟩ := q2 j c hc
    subst e1
    exact ⟨u, e0, .s u⟩)
  exact hn _ _ (h4.trans k1) k2 (.own σ.length sz cs.length b cp (by simp [Cx.new]) g4 g5 ⟨cur, te, (0, 0), g2, g3⟩)
theorem rep_sliced {A : Option Addr} {cap l h s : Nat} {L : List AV} (hr : Rep G (.slice A L.length cap) (.sl L)) (hlh : l ≤ h) (hh : h ≤ L.length) (hs : ∀ e ∈ L, e.cells.length = s) : Rep G (sliced A l h cap s) (.sl ((L.take h).drop l)) := by
 have hlen : ((L.take h).drop l).length = h - l := by simp; omega
 generalize hn : L.length = n at hr
 cases hr with
 | slnil =>
  simp at hn hh
  obtain rfl : l = 0 := by omega
  subst hh
  simp only [sliced, List.take_nil, List.drop_nil]
  exact .slnil _ _
 | sl b o _ sz _ val hc hm h1 h2 h3 =>
  by_cases hml : cap = l
  ·
   have e : h = l := by omega
   subst e
   have : (L.take h).drop h = [] := List.eq_nil_of_length_eq_zero (by rw [hlen]; omega)
   rw [this]
   simp only [sliced, Nat.sub_self]
   exact .slnil _ _
  ·
   by_cases he : h = l
   ·
    subst he
    have : (L.take h).drop h = [] := List.eq_nil_of_length_eq_zero (by rw [hlen]; omega)
    rw [this]
    simp only [sliced, Nat.sub_self]
    exact .slnil _ _
   ·
    have hsz : s = sz := by
     have h0 : 0 < L.length := by omega
     rw [← (h1 0 _ (List.getElem?_eq_getElem h0)).1, hs _ (List.getElem_mem h0)]
    subst hsz
    have hget : ∀ (k : Nat) e, ((L.take h).drop l)[k]? = some e → L[k + l]? = some e := by
     intro k e hk
     rw [List.getElem?_drop, List.getElem?_take] at hk
     split at hk
     ·
      rw [Nat.add_comm]; exact hk
     ·
      cases hk
    have hidx : ∀ k j, o + l * s + k * s + j = o + (k + l) * s + j := fun k j => by rw [Nat.add_mul]; omega
    simp only [sliced, if_neg hml, Option.map_some]
    have := Rep.sl (G := G) b (o + l * s) (cap - l) s ((L.take h).drop l) (fun k j => val (k + l) j) (by rw [hlen]; omega) (by rw [hlen]; omega) (fun k e hk => h1 _ e (hget k e hk)) (fun k e j c hk hc => by rw [hidx]; exact h2 _ e j c (hget k e hk) hc) (fun k e j c hk hc => h3 _ e j c (hget k e hk) hc)
    rw [hlen] at this
    simp only [Addr.add]
    split
    ·
     rename_i h0
     rw [h0, Nat.add_zero] at this
     exact this
    ·
     exact this
theorem elem_of {P : Program} {t e : TypeId} (h : zcd P t = some e) : P.elem t = e ∧ P.underlying t = some (.slice (P.elem t)) := by
 have h1 := zdv h
 have : P.elem t = e := by simp [Program.elem, h1]
 exact ⟨this, by rw [this]; exact h1⟩
theorem does_slice_l {t e : TypeId} {x y : Operand} {z : Option Value} {n bt : Nat} {L : List AV} {k : IntKind} {i : Int} {l : Nat} (ho : o.op = .slice t x (some y) none none) (ht : zcd P t = some e) (hi : zb5 P e = some (z, n, bt)) (hx : F.eval x = .sl L) (hy : F.eval y = .s (.int k i)) (hk : i = (l : Int)) (hl : l ≤ L.length) (hs : ∀ e ∈ L, e.cells.length = n) : Does P o F σ (.sl (L.drop l)) σ :=
 zch fun G ρ hr hop => by
  have g1 := hop x (by simp [ho, Op.operands])
  have g2 := hop y (by simp [ho, Op.operands])
  rw [hx] at g1
  rw [hy] at g2
  have e2 := rep_s g2
  obtain ⟨q1, q2⟩ := elem_of ht
  obtain ⟨A, cap, hv⟩ : ∃ A cap, ρ x = .slice A L.length cap := by
   generalize ρ x = u at g1
   cases g1 with
   | slnil A c => exact ⟨_, _, rfl⟩
   | sl b o c sz _ val hc hm h1 h2 h => exact ⟨_, _, rfl⟩
  rw [hv] at g1
  have h1 := rep_sliced (s := n) g1 hl (Nat.le_refl _) hs
  rw [List.take_length] at h1
  refine ⟨_, ?_, h1⟩
  subst hk
  have h2 := run_slice_l (P := P) G.w t A L.length cap q2 k (l : Int) xd xd
  simp only [execOp, ho, Option.map_some, Option.map_none, hv, e2, Sem.run_bind, run_sliceAt_slice (P := P) G.w t _ _ _ _ q2, h2, q1, zcw hi, Result.andThen_ok, Sem.run_pure, Int.toNat_natCast]
theorem does_slice_h {t e : TypeId} {x y : Operand} {z : Option Value} {n bt : Nat} {L : List AV} {k : IntKind} {i : Int} {h : Nat} (ho : o.op = .slice t x none (some y) none) (ht : zcd P t = some e) (hi : zb5 P e = some (z, n, bt)) (hx : F.eval x = .sl L) (hy : F.eval y = .s (.int k i)) (hk : i = (h : Int)) (hl : h ≤ L.length) (hs : ∀ e ∈ L, e.cells.length = n) : Does P o F σ (.sl (L.take h)) σ :=
 zch fun G ρ hr hop => by
  have g1 := hop x (by simp [ho, Op.operands])
  have g2 := hop y (by simp [ho, Op.operands])
  rw [hx] at g1
  rw [hy] at g2
  have e2 := rep_s g2
  obtain ⟨q1, q2⟩ := elem_of ht
  obtain ⟨A, cap, hv, hcap⟩ : ∃ A cap, ρ x = .slice A L.length cap ∧ L.length ≤ cap := by
   generalize ρ x = u at g1
   cases g1 with
   | slnil A c => exact ⟨_, _, rfl, Nat.zero_le _⟩
   | sl b o c sz _ val hc hm h1 h2 h => exact ⟨_, _, rfl, hc⟩
  rw [hv] at g1
  have h1 := rep_sliced (s := n) g1 (Nat.zero_le h) hl hs
  rw [List.drop_zero] at h1
  refine ⟨_, ?_, h1⟩
  subst hk
  have h2 := run_slice_h (P := P) G.w t A L.length cap q2 k (h : Int) xd xd
  simp only [execOp, ho, Option.map_some, Option.map_none, hv, e2, Sem.run_bind, run_sliceAt_slice (P := P) G.w t _ _ _ _ q2, h2, q1, zcw hi, Result.andThen_ok, Sem.run_pure, Int.toNat_natCast]
end
end Go.Proofs.YtllkbjcemecmjaaGreat.Aw
end
section
namespace Go.Proofs.YtllkbjcemecmjaaGreat.Aw
open Go Go.Proofs Go.RowKit
end Go.Proofs.YtllkbjcemecmjaaGreat.Aw
end
section
namespace Go.Proofs.YtllkbjcemecmjaaGreat.Aw
open Go Go.RowKit
section
variable {P : Program} {o : Oper} {F : Frm} {σ : List Ob}
theorem does_min {x y : Operand} {t t' : TypeId} {k k' : IntKind} {m n c : Int} (ho : o.op = .call { callee := .builtin .min, args := #[x, y], argTypes := #[t, t'] }) (hx : F.eval x = .s (.int k m)) (hy : F.eval y = .s (.int k' n)) (hc : (if n < m then n else m) = c) : Does P o F σ (.s (.int k c)) σ :=
 zch fun G ρ hr hop => by
  have h1 := hop x (by simp [ho, Op.operands, Call.operands])
  have h2 := hop y (by simp [ho, Op.operands, Call.operands])
  rw [hx] at h1
  rw [hy] at h2
  subst hc
  exact ⟨_, by simp [execOp, ho, resolve, invoke, builtin, rep_s h1, rep_s h2, run_min_int2], .s _⟩
def bitsV (op : BinOp) (k : IntKind) (x y : Int) : Int := match op with
 | .and => k.wrap (BitVec.ofInt k.bits x &&& BitVec.ofInt k.bits y).toNat
 | .or => k.wrap (BitVec.ofInt k.bits x ||| BitVec.ofInt k.bits y).toNat
 | .xor => k.wrap (BitVec.ofInt k.bits x ^^^ BitVec.ofInt k.bits y).toNat
 | _ => k.wrap (BitVec.ofInt k.bits x &&& ~~~(BitVec.ofInt k.bits y)).toNat
theorem does_bits {b : BinOp} {t t' : TypeId} {x y : Operand} {k : IntKind} {m n c : Int} (ho : o.op = .binOp b t x y t') (hb : b = .and ∨ b = .or ∨ b = .xor ∨ b = .andNot) (hx : F.eval x = .s (.int k m)) (hy : F.eval y = .s (.int k n)) (hw : bitsV b k m n = c) : Does P o F σ (.s (.int k c)) σ :=
 does_bin ho hx hy fun w => zdp w (by rcases hb with rfl | rfl | rfl | rfl <;> simp) (by subst hw; rcases hb with rfl | rfl | rfl | rfl <;> simp [Op.intBits, bitsV])
theorem does_shift {b : BinOp} {t t' : TypeId} {x y : Operand} {k k' : IntKind} {m n c : Int} (ho : o.op = .binOp b t x y t') (hx : F.eval x = .s (.int k m)) (hy : F.eval y = .s (.int k' n)) (h0 : 0 ≤ n)
  (hw : (b = .shr ∧ m.fdiv (2 ^ min n.toNat k.bits) = c) ∨ (b = .shl ∧ k.wrap (m * 2 ^ min n.toNat k.bits) = c)) : Does P o F σ (.s (.int k c)) σ :=
 does_bin ho hx hy fun w => by
  have hn : ¬ (n < 0) := by omega
  have hg : (eqGuard b t x y (.int k m) (.int k' n)).run P w = .ok () w := by
   unfold eqGuard
   rcases hw with ⟨rfl, _⟩ | ⟨rfl, _⟩ <;> rfl
  rw [Sem.run_bind, hg, Result.andThen_ok]
  rcases hw with ⟨rfl, rfl⟩ | ⟨rfl, rfl⟩ <;> simp [binOp, Op.shift, hn]
inductive NonNil : AV → Prop
 | own (id sz n : Nat) (h : 0 < n) : NonNil (.own id sz n)
 | sub (id sz k n : Nat) (h : 0 < n) : NonNil (.sub id sz k n)
 | sl (x : AV) (l : List AV) : NonNil (.sl (x :: l))
theorem nonNil_rep {G : Cx} {x : AV} {v : Value} (h : NonNil x) (hv : Rep G v x) : ∃ a n c, v = .slice (some a) n c := by
 cases h with
 | own id sz n h =>
  cases hv with
  | own0 => omega
  | own => exact ⟨_, _, _, rfl⟩
 | sub id sz k n h => cases hv with | sub _ _ _ _ b cap A hm hA _ => rw [hA h]; exact ⟨_, _, _, rfl⟩
 | sl x l => cases hv with | sl => exact ⟨_, _, _, rfl⟩
theorem run_nil_cmp {P : Program} {t e : TypeId} (ht : zcd P t = some e) (x y : Operand) (A : Option Addr) (n c : Nat) (b : BinOp) (w : World) {r : Bool} (hr : (b = .eql ∧ r = A.isNone) ∨ (b = .neq ∧ r = !A.isNone)) : (do eqGuard b t x y (.slice A n c) (.slice none 0 0); binOp b t (.slice A n c) (.slice none 0 0) : Sem Value).run P w = .ok (.bool r) w := by
 have hg : (eqGuard b t x y (.slice A n c) (.slice none 0 0)).run P w = .ok () w := by
  unfold eqGuard
  rcases hr with ⟨rfl, _⟩ | ⟨rfl, _⟩ <;> rfl
 have he : (Op.equal t (.slice A n c) (.slice none 0 0)).run P w = .ok A.isNone w := by
  have key : ∀ d, (Op.equalIn (d + 1) t (.slice A n c) (.slice none 0 0)).run P w = .ok A.isNone w := fun d => by
   unfold Op.equalIn
   cases A <;> simp [run_underlying (zdv ht)]
  exact key 9999
 rw [Sem.run_bind, hg, Result.andThen_ok]
 rcases hr with ⟨rfl, rfl⟩ | ⟨rfl, rfl⟩ <;> simp [binOp, he]
theorem does_eqnil {t t' e : TypeId} {x y : Operand} {u : AV} {b : BinOp} {r : Bool} (ho : o.op = .binOp b t x y t') (ht : zcd P t = some e) (hx : F.eval x = u) (hu : NonNil u) (hy : F.eval y = .s (.slice none 0 0)) (hr : (b = .eql ∧ r = false) ∨ (b = .neq ∧ r = true)) : Does P o F σ (.s (.bool r)) σ :=
 zch fun G ρ hrl hop => by
  have h1 := hop x (by simp [ho, Op.operands])
  have h2 := hop y (by simp [ho, Op.operands])
  rw [hx] at h1
  rw [hy] at h2
  obtain ⟨a, n, c, hv⟩ := nonNil_rep hu h1
  refine ⟨_, ?_, .s _⟩
  have h3 := run_nil_cmp (P := P) ht x y (some a) n c b G.w (r := r) (by simpa using hr)
  simp only [execOp, ho, hv, rep_s h2, Sem.run_bind] at h3 ⊢
  rw [h3]
  rfl
theorem does_eqnil0 {t t' e : TypeId} {x y : Operand} {b : BinOp} {r : Bool} (ho : o.op = .binOp b t x y t') (ht : zcd P t = some e) (hx : F.eval x = .s (.slice none 0 0)) (hy : F.eval y = .s (.slice none 0 0)) (hr : (b = .eql ∧ r = true) ∨ (b = .neq ∧ r = false)) : Does P o F σ (.s (.bool r)) σ :=
 does_bin ho hx hy fun w => run_nil_cmp ht x y none 0 0 b w (by simpa using hr)
theorem does_slice_ol {t e : TypeId} {x y : Operand} {z : Option Value} {n bt : Nat} {id sz m : Nat} {k : IntKind} {i : Int} {l : Nat} (ho : o.op = .slice t x (some y) none none) (ht : zcd P t = some e) (hi : zb5 P e = some (z, n, bt)) (hn : n = sz) (hx : F.eval x = .own id sz m) (hm0 : 0 < m) (hy : F.eval y = .s (.int k i)) (hk : i = (l : Int)) (hl : l ≤ m) : Does P o F σ (.sub id sz l (m - l)) σ :=
 zch fun G ρ hr hop => by
  have g1 := hop x (by simp [ho, Op.operands])
  have g2 := hop y (by simp [ho, Op.operands])
  rw [hx] at g1
  rw [hy] at g2
  have e2 := rep_s g2
  obtain ⟨q1, q2⟩ := elem_of ht
  subst hk hn
  generalize hv : ρ x = u at g1
  cases g1 with
  | own0 => omega
  | own _ _ _ b cap hm hn hc hb =>
   have h2 := run_slice_l (P := P) G.w t (some ⟨b, 0, none⟩) m cap q2 k (l : Int) xd xd
   refine ⟨sliced (some ⟨b, 0, none⟩) l m cap n, by simp only [execOp, ho, Option.map_some, Option.map_none, hv, e2, Sem.run_bind, run_sliceAt_slice (P := P) G.w t _ _ _ _ q2, h2, q1, zcw hi, Result.andThen_ok, Sem.run_pure, Int.toNat_natCast], ?_⟩
   refine .sub id n l (m - l) b (cap - l) _ hm (fun h0 => ?_) ⟨by omega, by omega, ?_⟩
   ·
    have : ¬ (cap = l) := by omega
    simp [this, Addr.add_lit]
   ·
    obtain ⟨cur, te, f, h3, h4⟩ := hb
    exact ⟨cur, te, f, h3, by rw [h4, show l + (cap - l) = cap by omega]; exact Nat.le_refl _⟩
def laid (cs : List AV) (k : Nat) (l : List AV) : List AV := cs.take k ++ l ++ cs.drop (k + l.length)
theorem laid_nil (cs : List AV) (k : Nat) : laid cs k [] = cs := by simp [laid]
theorem laid_length {cs : List AV} {k : Nat} {l : List AV} (h : k + l.length ≤ cs.length) : (laid cs k l).length = cs.length := by simp [laid]; omega
theorem laid_get {cs : List AV} {k : Nat} {l : List AV} (h : k + l.length ≤ cs.length) (q : Nat) : (laid cs k l)[q]? = if q < k then cs[q]? else if q < k + l.length then l[q - k]? else cs[q]? := by
 have hk : (cs.take k).length = k := by simp; omega
 unfold laid
 by_cases h1 : q < k
 ·
  rw [if_pos h1, List.append_assoc, List.getElem?_append_left xd, List.getElem?_take, if_pos h1]
 ·
  rw [if_neg h1]
  by_cases h2 : q < k + l.length
  ·
   rw [if_pos h2, List.getElem?_append_left (by simp only [List.length_append, hk]; omega), List.getElem?_append_right xd, hk]
  ·
   rw [if_neg h2, List.getElem?_append_right (by simp only [List.length_append, hk]; omega), List.getElem?_drop]
   congr 1
   simp only [List.length_append, hk]; omega
inductive Dst (id sz k n : Nat) : AV → Prop
 | own (h : k = 0) : Dst id sz k n (.own id sz n)
 | sub : Dst id sz k n (.sub id sz k n)
theorem dst_rep {G : Cx} {id sz k n : Nat} {x : AV} {v : Value} (h : Dst id sz k n x) (hv : Rep G v x) : ∃ A cap, v = .slice A n cap ∧ (0 < n → ∃ b, G.mu id = some (some b) ∧ A = some ⟨b, k * sz, none⟩) := by
 cases h with
 | own h =>
  subst h
  cases hv with
  | own0 => exact ⟨_, _, rfl, fun h => absurd h xd⟩
  | own _ _ _ b cap hm hn hc hb => exact ⟨_, _, rfl, fun _ => ⟨b, hm, by rw [Nat.zero_mul]⟩⟩
 | sub =>
  cases hv with
  | sub _ _ _ _ b cap A hm hA _ => exact ⟨_, _, rfl, fun h => ⟨b, hm, hA h⟩⟩
theorem run_copy_any {P : Program} {t ty e : TypeId} {z : Option Value} {sz bt : Nat} (ht : zcd P t = some e) (hi : zb5 P e = some (z, sz, bt)) (w : World) (B : Option Addr) (n dc : Nat)
  (A : Option Addr) (m c : Nat) (news : List Value) (hl : news.length = Nat.min m n * sz) (hA : A = none → Nat.min m n = 0) (hnews : ∀ a, A = some a → ∀ (j : Nat) u, news[j]? = some u → w.cell? (a.add j) = some u)
  {w' : World} (hw : ∀ a, B = some a → (storeCells a news).run P w = .ok () w') (hw0 : B = none → w' = w) :
  (Builtin.copy_ #[t, t] ty #[.slice B n dc, .slice A m c]).run P w = .ok (goInt (Nat.min m n)) w' := by
 have hf : (Builtin.firstCells sz (Nat.min m n) (.slice A m c)).run P w = .ok news.toArray w := by
  cases A with
  | none =>
   have := hA rfl
   rw [this, Nat.zero_mul] at hl
   have : news = [] := List.eq_nil_of_length_eq_zero hl
   subst this
   simp [Builtin.firstCells]
  | some a => exact run_firstCells_some (P := P) w sz _ a m c news hl (hnews a rfl)
 cases B with
 | none =>
  rw [hw0 rfl]
  simp [Builtin.copy_, run_underlying (zdv ht), Builtin.lenOf, zcw hi, hf]
 | some a =>
  have h2 := hw a rfl
  simp [Builtin.copy_, run_underlying (zdv ht), Builtin.lenOf, zcw hi, hf, h2]
theorem does_copy {t e : TypeId} {d s : Operand} {z : Option Value} {sz bt id k n : Nat} {x y' : AV} {cs l : List AV} (ho : o.op = .call { callee := .builtin .copy, args := #[d, s], argTypes := #[t, t] })
  (ht : zcd P t = some e) (hi : zb5 P e = some (z, sz, bt)) (hsz : 0 < sz) (hx : F.eval d = x) (hdst : Dst id sz k n x) (hs : σ[id]? = some (.row sz cs)) (hkn : k + n ≤ cs.length) (hy : F.eval s = y') (hsrc : Src σ sz y' l) :
  Does P o F σ (.s (.int .i64 (Nat.min l.length n : Nat))) (σ.set id (.row sz (laid cs k (l.take n)))) :=
 does_new (x := .any) fun G ρ hr hop => by
  have g1 := hop d (by simp [ho, Op.operands, Call.operands])
  have g2 := hop s (by simp [ho, Op.operands, Call.operands])
  rw [hx] at g1
  rw [hy] at g2
  obtain ⟨B, dc, hv, hB⟩ := dst_rep hdst g1
  obtain ⟨A, c, news, hv2, hvals⟩ := src_vals hsz hr hsrc g2
  have hnl : (news.take (Nat.min l.length n * sz)).length = Nat.min l.length n * sz := by
   rw [List.length_take, hvals.len]
   exact Nat.min_eq_left (Nat.mul_le_mul_right _ (Nat.min_le_left _ _))
  have hnews : ∀ a, A = some a → ∀ (j : Nat) u, (news.take (Nat.min l.length n * sz))[j]? = some u → G.w.cell? (a.add j) = some u := fun a ha j u hu => by
   rw [List.getElem?_take] at hu
   split at hu
   ·
    exact hvals.at_ a ha j u hu
   ·
    cases hu
  have hA0 : A = none → Nat.min l.length n = 0 := fun h => by rw [hvals.nil h]; exact Nat.zero_min n
  have hrun : ∀ w', (∀ a, B = some a → (storeCells a (news.take (Nat.min l.length n * sz))).run P G.w = .ok () w') → (B = none → w' = G.w) → (execOp ρ o).run P G.w = .ok (.value (.int .i64 (Nat.min l.length n : Nat))) w' := fun w' h1 h2 => by
   have := run_copy_any (P := P) (ty := o.type) ht hi G.w B n dc A l.length c _ hnl hA0 hnews h1 h2
   simp [execOp, ho, resolve, invoke, builtin, hv, hv2, this, goInt]
  by_cases h0 : Nat.min l.length n = 0
  ·
   have ht0 : l.take n = [] := by
    apply List.eq_nil_of_length_eq_zero
    rw [List.length_take]; exact (Nat.min_comm _ _).trans h0
   have hn0 : news.take (Nat.min l.length n * sz) = [] := by rw [h0, Nat.zero_mul, List.take_zero]
   refine ⟨_, G, hrun G.w (fun a _ => by rw [hn0]; rfl) (fun _ => rfl), .refl G, ?_, by rw [h0]; exact .s _⟩
   rw [ht0, laid_nil]
   have : σ.set id (.row sz cs) = σ := by
    apply List.ext_getElem?
    intro i
    by_cases h : id = i
    ·
     subst h; rw [List.getElem?_set_self (List.getElem?_eq_some_iff.1 hs).1, hs]
    ·
     rw [List.getElem?_set_ne h]
   rw [this]; exact hr
  ·
   have hn : 0 < n := by
    rcases Nat.eq_zero_or_pos n with h | h
    ·
     subst h; simp at h0
    ·
     exact h
   obtain ⟨b, hm, rfl⟩ := hB hn
   have h6 := hr.obs id _ hs
   simp only [ObOk, hm] at h6
   obtain ⟨⟨cur, te, fr, h7, rfl, h8, h9⟩, h10, h11⟩ := h6
   have hlt : (l.take n).length = Nat.min l.length n := by rw [List.length_take]; exact Nat.min_comm _ _
   obtain ⟨q, hq⟩ : ∃ q, Nat.min l.length n = q := ⟨_, rfl⟩
   have hqn : q ≤ n := by rw [← hq]; exact Nat.min_le_right _ _
   have hql : q ≤ l.length := by rw [← hq]; exact Nat.min_le_left _ _
   rw [hq] at hnl hrun hlt
   have hfit : k * sz + q * sz ≤ cur.size := by
    have : (k + q) * sz ≤ cs.length * sz := Nat.mul_le_mul_right _ xd
    rw [Nat.add_mul] at this; omega
   have hst := run_storeCells_at P b (k * sz) te (news.take (q * sz)) 0 cur G.w h7 (by rw [hnl]; omega) (fun u hu => hvals.one u (List.mem_of_mem_take hu))
   simp only [Nat.add_zero, hnl] at hst
   obtain ⟨nc, hnc⟩ : ∃ nc : Array Value, nc = (cur.toList.take (k * sz) ++ news.take (q * sz) ++ cur.toList.drop (k * sz + q * sz)).toArray := ⟨_, rfl⟩
   rw [← hnc] at hst
   have hncs : nc.size = cur.size := by
    rw [hnc]
    simp only [List.size_toArray, List.length_append, List.length_drop, Array.length_toList, hnl]
    rw [List.length_take, Array.length_toList]
    omega
   have hlay : k + (l.take n).length ≤ cs.length := by rw [hlt]; omega
   refine ⟨_, { G with w := G.w.setRow b nc }, hrun _ (fun a ha => by cases ha; exact hst) (fun h => by cases h), write_ext hr hs hm h7 hncs, write_rel hr hs hm h7 hncs (by rw [laid_length hlay, hncs]; exact h8) ?_, by rw [hq]; exact .s _⟩
   have hget : ∀ i, nc[i]? = if i < k * sz then cur[i]? else if i < k * sz + q * sz then news[i - k * sz]? else cur[i]? := by
    intro i
    have ha : (cur.toList.take (k * sz)).length = k * sz := by rw [List.length_take, Array.length_toList]; omega
    rw [hnc]
    simp only [List.getElem?_toArray]
    by_cases hi1 : i < k * sz
    ·
     rw [if_pos hi1, List.append_assoc, List.getElem?_append_left xd, List.getElem?_take, if_pos hi1, Array.getElem?_toList]
    ·
     rw [if_neg hi1]
     by_cases hi2 : i < k * sz + q * sz
     ·
      rw [if_pos hi2, List.getElem?_append_left (by simp only [List.length_append, ha, hnl]; omega), List.getElem?_append_right xd, ha, List.getElem?_take, if_pos xd]
     ·
      rw [if_neg hi2, List.getElem?_append_right (by simp only [List.length_append, ha, hnl]; omega), List.getElem?_drop, Array.getElem?_toList]
      congr 1
      simp only [List.length_append, ha, hnl]; omega
   intro i x' hx'
   rw [laid_get hlay, hlt] at hx'
   by_cases hi1 : i < k
   ·
    rw [if_pos hi1] at hx'
    obtain ⟨a1, a2, a3⟩ := h9 i x' hx'
    refine ⟨a1, a2, fun j c hc => ?_⟩
    obtain ⟨v, b1, b2⟩ := a3 j c hc
    refine ⟨v, ?_, b2⟩
    have hj : j < sz := by have := (List.getElem?_eq_some_iff.1 hc).1; omega
    have : (i + 1) * sz ≤ k * sz := Nat.mul_le_mul_right _ hi1
    rw [Nat.add_mul] at this
    rw [hget, if_pos xd]; exact b1
   ·
    rw [if_neg hi1] at hx'
    by_cases hi2 : i < k + q
    ·
     rw [if_pos hi2, List.getElem?_take, if_pos xd] at hx'
     obtain ⟨a1, a2, a3⟩ := hvals.rep (i - k) x' hx'
     refine ⟨a1, a2, fun j c hc => ?_⟩
     obtain ⟨v, b1, b2⟩ := a3 j c hc
     refine ⟨v, ?_, b2⟩
     have hj : j < sz := by have := (List.getElem?_eq_some_iff.1 hc).1; omega
     have e1 : (i - k) * sz = i * sz - k * sz := Nat.sub_mul _ _ _
     have e2 : k * sz ≤ i * sz := Nat.mul_le_mul_right _ xd
     have e3 : (i + 1) * sz ≤ (k + q) * sz := Nat.mul_le_mul_right _ hi2
     rw [Nat.add_mul, Nat.add_mul] at e3
     rw [hget, if_neg xd, if_pos xd]
     rw [show i * sz + j - k * sz = (i - k) * sz + j by omega]; exact b1
    ·
     rw [if_neg hi2] at hx'
     obtain ⟨a1, a2, a3⟩ := h9 i x' hx'
     refine ⟨a1, a2, fun j c hc => ?_⟩
     obtain ⟨v, b1, b2⟩ := a3 j c hc
     refine ⟨v, ?_, b2⟩
     have : (k + q) * sz ≤ i * sz := Nat.mul_le_mul_right _ xd
     rw [Nat.add_mul] at this
     rw [hget, if_neg xd, if_neg xd]; exact b1
end
end Go.Proofs.YtllkbjcemecmjaaGreat.Aw
end
section
namespace Go.Proofs.YtllkbjcemecmjaaGreat
open Go.RowKit
section
variable {P : Program} {pre : List Oper} {last : Oper} {Q : Exit → Act → World → Prop} {S : World → Prop}
def lastBT (pre : List Oper) (last : Oper) : Bool :=
 (List.range pre.length).all (fun i => (last.after.any fun e => Region.binds .any e && e.on == i) || (List.range pre.length).any (fun k => match pre[k]? with | none => false | some o => o.after.any fun e => Region.binds .any e && e.on == i)) &&
 (List.range pre.length).all (fun i => match pre[i]? with
  | none => true
  | some o => (o.after.all fun e => !Region.binds .any e || decide (e.on < i)) && (match o.guard with | none => true | some (j, _) => decide (j < pre.length))) &&
 last.guard.isNone && last.after.all (fun e => !Region.binds .any e || decide (e.on < pre.length))
structure LastT (pre : List Oper) (last : Oper) : Prop where
 waits : ∀ i, i < pre.length → (∃ e ∈ last.after, Region.binds .any e = true ∧ e.on = i) ∨ ∃ (k : Nat) (o : Oper), pre[k]? = some o ∧ ∃ e ∈ o.after, Region.binds .any e = true ∧ e.on = i
 early : ∀ (i : Nat) (o : Oper), pre[i]? = some o → ∀ e ∈ o.after, Region.binds .any e = true → e.on < i
 guards : ∀ (i : Nat) (o : Oper), pre[i]? = some o → ∀ (j : Nat) (b : Bool), o.guard = some (j, b) → j < pre.length
 free : last.guard = none
 on : ∀ e ∈ last.after, Region.binds .any e = true → e.on < pre.length
theorem lastT_of (h : lastBT pre last = true) : LastT pre last := by
 unfold lastBT at h
 simp only [Bool.and_eq_true, Bool.or_eq_true, List.all_eq_true, List.any_eq_true, List.mem_range, Array.any_eq_true', beq_iff_eq] at h
 obtain ⟨⟨⟨h1, h2⟩, h3⟩, h4⟩ := h
 refine ⟨fun i hi => ?_, fun i o ho e he hb => ?_, fun i o ho j b hj => ?_, by simpa using h3, fun e he hb => ?_⟩
 ·
  rcases h1 i hi with ⟨e, he, hb, ho⟩ | ⟨k, hk, hm⟩
  ·
   exact .inl ⟨e, he, hb, ho⟩
  ·
   right
   rw [List.getElem?_eq_getElem hk] at hm
   simp only [Array.any_eq_true', Bool.and_eq_true, beq_iff_eq] at hm
   obtain ⟨e, he, hb, ho⟩ := hm
   exact ⟨k, pre[k], List.getElem?_eq_getElem hk, e, he, hb, ho⟩
 ·
  have hi : i < pre.length := (List.getElem?_eq_some_iff.1 ho).1
  have := h2 i hi
  rw [ho] at this
  simp only [Bool.and_eq_true, Array.all_eq_true', Bool.or_eq_true, Bool.not_eq_true', decide_eq_true_eq] at this
  rcases this.1 e he with h | h
  ·
   rw [hb] at h; cases h
  ·
   exact h
 ·
  have hi : i < pre.length := (List.getElem?_eq_some_iff.1 ho).1
  have := h2 i hi
  rw [ho] at this
  simp only [Bool.and_eq_true] at this
  have h5 := this.2
  rw [hj] at h5
  simpa using h5
 ·
  simp only [Array.all_eq_true', Bool.or_eq_true, Bool.not_eq_true', decide_eq_true_eq] at h4
  rcases h4 e he with h | h
  ·
   rw [hb] at h; cases h
  ·
   exact h
def Clo (pre : List Oper) (L : Array Bool) : Prop := ∀ (k : Nat) (o : Oper), pre[k]? = some o → L.getD k false = true → ∀ e ∈ o.after, Region.binds .any e = true → L.getD e.on false = true
theorem Clo.none (n : Nat) : Clo pre (Array.replicate n false) := by
 intro k o _ h
 rw [Array.getD_eq_getD_getElem?, Array.getElem?_replicate] at h
 split at h <;> simp at h
theorem Clo.step {L : Array Bool} {i : Nat} (h : Clo pre L) (hL : L.size = pre.length) (hi : i ∈ Region.ready .any pre.toArray L) : Clo pre (L.setIfInBounds i true) := by
 intro k o hk hd e he hb
 have hmono : ∀ j, L.getD j false = true → (L.setIfInBounds i true).getD j false = true := by
  intro j hj
  rw [Array.getD_eq_getD_getElem?] at hj ⊢
  rw [Array.getElem?_setIfInBounds]
  split
  ·
   rename_i e; subst e
   split
   ·
    rfl
   ·
    rename_i h3
    rw [Array.getElem?_eq_none xd] at hj
    cases hj
  ·
   exact hj
 apply hmono
 by_cases hik : i = k
 ·
  subst hik
  obtain ⟨_, o2, ho2, hall⟩ := mem_ready.1 hi
  rw [List.getElem?_toArray, hk] at ho2
  cases ho2
  exact hall e he hb
 ·
  refine h k o hk ?_ e he hb
  rw [Array.getD_eq_getD_getElem?] at hd ⊢
  rw [Array.getElem?_setIfInBounds, if_neg hik] at hd
  exact hd
theorem wanted_preT (ok : LastT pre last) {i : Nat} {o : Oper} (ho : pre[i]? = some o) (tmps : Array Value) : Region.wanted o (yielded (pre ++ [last]).toArray tmps) = Region.wanted o (yielded pre.toArray tmps) := by
 unfold Region.wanted
 cases hg : o.guard with
 | none => rfl
 | some jb =>
  obtain ⟨j, b⟩ := jb
  simp only
  rw [yielded_pre (ok.guards i o ho j b hg)]
theorem op_thenT (ok : LastT pre last) {i : Nat} (hi : i < pre.length) {K K' : Act → World → Prop} {a : Act} {w : World} (hK : ∀ a w, K a w → K' a w)
  (h : wpOp P pre.toArray (thenLast P pre last Q) i K a w) : wpOp P (pre ++ [last]).toArray Q i K' a w := by
 refine wpOp_mono hK ?_
 unfold wpOp at h ⊢
 rw [get_pre hi]
 obtain ⟨o, ho⟩ : ∃ o, pre[i]? = some o := ⟨_, List.getElem?_eq_getElem hi⟩
 simp only [List.getElem?_toArray, ho] at h ⊢
 rw [wanted_preT ok ho]
 split
 ·
  rename_i hw
  rw [if_pos hw] at h
  rcases h with h | ⟨h1, h2⟩
  ·
   exact .inl (upon_then h)
  ·
   exact .inr ⟨h1, h2⟩
 ·
  rename_i hw
  rw [if_neg hw] at h
  exact h
theorem last_anyT (ok : LastT pre last) : ∀ (fuel : Nat) (L : Array Bool) (a : Act) (w : World), L.size = pre.length → Clo pre L →
  wpAny P .any pre.toArray (thenLast P pre last Q) fuel L a w → wpAny P .any (pre ++ [last]).toArray Q (fuel + 1) (L.push false) a w := by
 -- who may come up: as before; the last one, once all have come up
 have hready : ∀ (L : Array Bool), L.size = pre.length → Clo pre L → ∀ i, i ∈ Region.ready .any (pre ++ [last]).toArray (L.push false) → (i < pre.length ∧ i ∈ Region.ready .any pre.toArray L) ∨ (i = pre.length ∧ ∀ j, j < pre.length → L.getD j false = true) := by
  intro L hL hC i hi
  obtain ⟨h1, o, ho, hall⟩ := mem_ready.1 hi
  have hlt : i < pre.length + 1 := by
   have := (Array.getElem?_eq_some_iff.1 ho).1
   simpa using this
  rcases Nat.lt_or_eq_of_le (Nat.le_of_lt_succ hlt) with h2 | h2
  ·
   left
   refine ⟨h2, mem_ready.2 ⟨?_, o, by rw [get_pre h2] at ho; exact ho, fun e he hb => ?_⟩⟩
   ·
    simpa [Array.getD_eq_getD_getElem?, Array.getElem?_push, hL, Nat.ne_of_lt h2] using h1
   ·
    have hon := ok.early i o (by rw [get_pre h2] at ho; simpa using ho) e he hb
    have := hall e he hb
    simpa [Array.getD_eq_getD_getElem?, Array.getElem?_push, hL, Nat.ne_of_lt (Nat.lt_trans hon h2)] using this
  ·
   right
   subst h2
   rw [get_last] at ho
   injection ho with ho
   subst ho
   refine ⟨rfl, fun j hj => ?_⟩
   have key : ∀ (m j : Nat), j < pre.length → pre.length - j ≤ m → L.getD j false = true := by
    intro m
    induction m with
    | zero => intro j hj hm; omega
    | succ m ihm =>
     intro j hj hm
     rcases ok.waits j hj with ⟨e, he, hb, rfl⟩ | ⟨k, o2, hk, e, he, hb, rfl⟩
     ·
      have := hall e he hb
      simpa [Array.getD_eq_getD_getElem?, Array.getElem?_push, hL, Nat.ne_of_lt hj] using this
     ·
      have hlt2 := ok.early k o2 hk e he hb
      have hk2 : k < pre.length := (List.getElem?_eq_some_iff.1 hk).1
      exact hC k o2 hk (ihm k hk2 xd) e he hb
   exact key pre.length j hj xd
 have hsome : ∀ (L : Array Bool), L.size = pre.length → Region.ready .any (pre ++ [last]).toArray (L.push false) ≠ [] := by
  intro L hL he
  -- the least that has not come up is ready
  have key : ∀ i, i ≤ pre.length → ∀ j, j < i → L.getD j false = true := by
   intro i
   induction i with
   | zero => intro _ j hj; omega
   | succ i ih =>
    intro hi j hj
    rcases Nat.lt_or_eq_of_le (Nat.le_of_lt_succ hj) with h1 | h1
    ·
     exact ih xd j h1
    ·
     subst h1
     cases hc : L.getD j false with
     | true => rfl
     | false =>
      exfalso
      have hj' : j < pre.length := by omega
      obtain ⟨o, ho⟩ : ∃ o, pre[j]? = some o := ⟨_, List.getElem?_eq_getElem hj'⟩
      have hm : j ∈ Region.ready .any (pre ++ [last]).toArray (L.push false) := by
       refine mem_ready.2 ⟨?_, o, by rw [get_pre hj']; simpa using ho, fun e he hb => ?_⟩
       ·
        have hlt : j < L.size := by omega
        simp [Array.getD_eq_getD_getElem?, hlt] at hc ⊢
        simp [Array.getElem?_push, Nat.ne_of_lt hlt, hlt, hc]
       ·
        have hon := ok.early j o ho e he hb
        have := ih xd e.on hon
        simpa [Array.getD_eq_getD_getElem?, Array.getElem?_push, hL, Nat.ne_of_lt (Nat.lt_trans hon hj')] using this
      rw [he] at hm
      cases hm
  have hm : pre.length ∈ Region.ready .any (pre ++ [last]).toArray (L.push false) := by
   refine mem_ready.2 ⟨?_, last, get_last, fun e he hb => ?_⟩
   ·
    rw [Array.getD_eq_getD_getElem?, ← hL, Array.getElem?_push_size]; rfl
   ·
    have hon := ok.on e he hb
    have := key pre.length (Nat.le_refl _) e.on hon
    simpa [Array.getD_eq_getD_getElem?, Array.getElem?_push, hL, Nat.ne_of_lt hon] using this
  rw [he] at hm
  cases hm
 -- the last one
 have hlast : ∀ (fuel : Nat) (L : Array Bool) (a : Act) (w : World), L.size = pre.length → (∀ j, j < pre.length → L.getD j false = true) → thenLast P pre last Q .normal a w →
   wpOp P (pre ++ [last]).toArray Q pre.length (wpAny P .any (pre ++ [last]).toArray Q fuel ((L.push false).setIfInBounds pre.length true)) a w := by
  intro fuel L a w hL hall h
  have hdone : Region.ready .any (pre ++ [last]).toArray ((L.push false).setIfInBounds pre.length true) = [] := by
   rw [List.eq_nil_iff_forall_not_mem]
   intro i hi
   obtain ⟨h1, o, ho, _⟩ := mem_ready.1 hi
   have hlt : i < pre.length + 1 := by
    have := (Array.getElem?_eq_some_iff.1 ho).1
    simpa using this
   rcases Nat.lt_or_eq_of_le (Nat.le_of_lt_succ hlt) with h2 | h2
   ·
    have h3 := hall i h2
    have hlt' : i < L.size := by omega
    rw [Array.getD_eq_getD_getElem?, Array.getElem?_eq_getElem hlt'] at h3
    rw [Array.getD_eq_getD_getElem?, Array.getElem?_setIfInBounds, if_neg xd, Array.getElem?_push, if_neg xd, Array.getElem?_eq_getElem hlt'] at h1
    simp only [Option.getD_some] at h1 h3
    rw [h3] at h1
    cases h1
   ·
    subst h2
    simp [Array.getD_eq_getD_getElem?, Array.getElem?_setIfInBounds, hL] at h1
  have hK : ∀ a w, Q .normal a w → wpAny P .any (pre ++ [last]).toArray Q fuel ((L.push false).setIfInBounds pre.length true) a w := by
   intro a w hq
   cases fuel with
   | zero => exact ⟨hdone, hq⟩
   | succ fuel => exact ⟨fun _ => hq, by rw [hdone]; simp⟩
  refine wpOp_mono hK ?_
  unfold wpOp
  rw [get_last]
  exact h
 intro fuel
 induction fuel with
 | zero =>
  intro L a w hL hC h
  refine ⟨fun he => absurd he (hsome L hL), fun i hi => ?_⟩
  rcases hready L hL hC i hi with ⟨_, h2⟩ | ⟨rfl, h2⟩
  ·
   rw [h.1] at h2; cases h2
  ·
   exact hlast 0 L a w hL h2 h.2
 | succ fuel ih =>
  intro L a w hL hC h
  refine ⟨fun he => absurd he (hsome L hL), fun i hi => ?_⟩
  rcases hready L hL hC i hi with ⟨h1, h2⟩ | ⟨rfl, h2⟩
  ·
   refine op_thenT ok h1 (fun a' w' h' => ?_) (h.2 i h2)
   have := ih (L.setIfInBounds i true) a' w' (by simpa using hL) (hC.step hL h2) h'
   rwa [show (L.push false).setIfInBounds i true = (L.setIfInBounds i true).push false from by
    apply Array.ext_getElem?
    intro j
    simp only [Array.getElem?_setIfInBounds, Array.getElem?_push, Array.size_push, Array.size_setIfInBounds]
    by_cases h3 : i = j
    ·
     subst h3
     rw [if_pos rfl, if_pos xd, if_neg xd, if_pos rfl, if_pos xd]
    ·
     rw [if_neg h3, if_neg h3]]
  ·
   refine hlast (fuel + 1) L a w hL h2 (h.1 ?_)
   rw [List.eq_nil_iff_forall_not_mem]
   intro j hj
   obtain ⟨h3, o, ho, _⟩ := mem_ready.1 hj
   have hlt : j < pre.length := by
    have := (Array.getElem?_eq_some_iff.1 ho).1
    simpa using this
   have h4 := h2 j hlt
   have hlt' : j < L.size := by omega
   simp [Array.getD_eq_getD_getElem?, hlt'] at h3 h4
   rw [h4] at h3
   cases h3
end
end Go.Proofs.YtllkbjcemecmjaaGreat
namespace Go.Proofs.YtllkbjcemecmjaaGreat.Aw
open Go.RowKit
variable {P : Program} {N : Nat} {l : List Oper} {F : Frm} {σ : List Ob} {Q : Exit → Frm → List Ob → Prop}
theorem adraw_lastT {last : Oper} (hl : l.dropLast ++ [last] = l) (hk : lastBT l.dropLast last = true) (h : ADraw P N l.dropLast F σ (AThen (fun F σ => AOps P N l.toArray [last] F σ Q) Q)) : ADraw P N l F σ Q := fun G a hs => by
 have h1 := h G a hs
 have h2 := wpAny_mono (Q' := thenLast P l.dropLast last (lift N G Q)) (fun e a w q => by
  obtain ⟨G', F', σ', rfl, g2, g3, g4⟩ := q
  unfold thenLast
  rw [hl]
  cases e with
  | normal => exact zcm (fun e a w q => lift_mono g2 (fun _ _ _ x => x) q) _ _ _ (g4 G' a g3)
  | _ => exact ⟨G', F', σ', rfl, g2, g3, g4⟩) _ _ _ _ h1
 have h3 := last_anyT (lastT_of hk) _ _ a G.w xo (Clo.none _) h2
 rw [hl] at h3
 have h4 : l.length = l.dropLast.length + 1 := by rw [← hl]; simp
 rw [h4]
 rwa [show Array.replicate (l.dropLast.length + 1) false = (Array.replicate l.dropLast.length false).push false by simp [Array.replicate_succ]]
end Go.Proofs.YtllkbjcemecmjaaGreat.Aw
end
section
namespace Go.Proofs.YtllkbjcemecmjaaGreat.Aw
open Go Go.Proofs Go.RowKit
section
variable {P : Program} {N : Nat} {ops : Array Oper} {o : Oper} {l : List Oper} {F : Frm} {σ : List Ob} {Q : Exit → Frm → List Ob → Prop}
end
inductive SK where | i | b | s
def skOf : TypeDesc → Option SK
 | .int _ => some .i
 | .bool => some .b
 | .string => some .s
 | _ => none
def fsK (P : Program) : List Field → Nat → Option (List SK)
 | [], _ => some []
 | f :: fs, k => if f.name == "_" || f.offset != k then none else
  match (P.underlying f.type).bind skOf, fsK P fs (k + 1) with
  | some a, some l => some (a :: l)
  | _, _ => none
def tyEqK (P : Program) (t : TypeId) : Option (List SK) :=
 match P.underlying t with
 | some (.struct fs) => if P.eqGuardType P.depth t || P.stoodInHeld t then none else fsK P fs.toList 0
 | _ => none
def vK : SK → Value → Value → Bool
 | .i, .int k _, .int k' _ => decide (k = k')
 | .b, .bool _, .bool _ => true
 | .s, .string _, .string _ => true
 | _, _, _ => false
def vKs : List SK → List Value → List Value → Bool
 | [], [], [] => true
 | k :: ks, u :: us, v :: vs => vK k u v && vKs ks us vs
 | _, _, _ => false
def unS : AV → Value
 | .s v => v
 | _ => undef
def isS : AV → Bool
 | .s _ => true
 | _ => false
noncomputable def eqL (us vs : List Value) : Bool := @decide (us = vs) (Classical.propDecidable _)
theorem eqSc {P : Program} (w : World) (d : Nat) {t : TypeId} {T : TypeDesc} (hT : P.underlying t = some T) {a : SK} (ha : skOf T = some a) {u v : Value} (hv : vK a u v = true) : (Op.equalIn (d + 1) t u v).run P w = .ok (@decide (u = v) (Classical.propDecidable _)) w := by
 cases T with
 | int kk =>
  cases ha
  cases u with
  | int k1 a1 =>
   cases v with
   | int k2 a2 =>
    obtain rfl : k1 = k2 := by simpa [vK] using hv
    rw [run_equalIn_int w d t _ _ _ _ hT]
    by_cases h : a1 = a2
    ·
     subst h; simp
    ·
     have : ¬ (Value.int k1 a1 = Value.int k1 a2) := fun e => h (by injection e)
     simp [h]
   | _ => simp [vK] at hv
  | _ => simp [vK] at hv
 | bool =>
  cases ha
  cases u with
  | bool a1 =>
   cases v with
   | bool a2 =>
    rw [run_equalIn_bool w d t _ _ hT]
    cases a1 <;> cases a2 <;> simp
   | _ => simp [vK] at hv
  | _ => simp [vK] at hv
 | string =>
  cases ha
  cases u with
  | string a1 =>
   cases v with
   | string a2 =>
    rw [run_equalIn_string w d t _ _ hT]
    by_cases h : a1 = a2
    ·
     subst h; simp
    ·
     have h2 : (a1.toList == a2.toList) = false := by simpa [toList_inj] using h
     rw [h2]
     simp [h]
   | _ => simp [vK] at hv
  | _ => simp [vK] at hv
 | _ => simp [skOf] at ha
theorem eqF {P : Program} (w : World) (d : Nat) (xs ys : Array Value) : ∀ (fs : List Field) (k : Nat) (ks : List SK) (us vs : List Value), fsK P fs k = some ks → vKs ks us vs = true →
  (∀ j, j < us.length → xs[k + j]? = us[j]?) → (∀ j, j < vs.length → ys[k + j]? = vs[j]?) → (Op.eqFields (d + 1) xs ys fs).run P w = .ok (eqL us vs) w
 | [], k, ks, us, vs, h, hv, hx, hy => by
  simp only [fsK, Option.some.injEq] at h
  subst h
  cases us <;> cases vs <;> simp [vKs] at hv
  simp [Op.eqFields, eqL]
 | f :: fs, k, ks, us, vs, h, hv, hx, hy => by
  unfold fsK at h
  split at h
  ·
   cases h
  ·
   rename_i hn
   split at h
   ·
    rename_i a l ha hl
    cases h
    match us, vs, hv with
    | u :: us, v :: vs, hv =>
     simp only [vKs, Bool.and_eq_true] at hv
     obtain ⟨hv1, hv2⟩ := hv
     simp only [Bool.or_eq_true, beq_iff_eq, bne_iff_ne, ne_eq, not_or, Decidable.not_not] at hn
     obtain ⟨hn1, hn2⟩ := hn
     have ih := eqF w d xs ys fs (k + 1) l us vs hl hv2 (fun j hj => by have := hx (j + 1) (by simpa using hj); rw [show k + 1 + j = k + (j + 1) by omega]; simpa using this) (fun j hj => by have := hy (j + 1) (by simpa using hj); rw [show k + 1 + j = k + (j + 1) by omega]; simpa using this)
     have hx0 := hx 0 xo
     have hy0 := hy 0 xo
     simp only [Nat.add_zero, List.getElem?_cons_zero] at hx0 hy0
     obtain ⟨T, hT, hTk⟩ : ∃ T, P.underlying f.type = some T ∧ skOf T = some a := by
      cases hT : P.underlying f.type with
      | none => rw [hT] at ha; cases ha
      | some T => rw [hT] at ha; exact ⟨T, rfl, ha⟩
     have hagg : ∀ cs off x, cs[off]? = some x → (part f.type cs off).run P w = .ok x w := by
      intro cs off x hc
      cases T <;> simp [skOf] at hTk <;> simp [part, isAgg, run_underlying hT, hc]
     have key : (Op.equalIn (d + 1) f.type u v).run P w = .ok (@decide (u = v) (Classical.propDecidable _)) w := eqSc w d hT hTk hv1
     unfold Op.eqFields
     rw [if_pos hn1, hn2]
     simp only [Sem.run_bind, hagg xs k u hx0, hagg ys k v hy0, Result.andThen_ok, key, Sem.run_ite]
     by_cases h : u = v
     ·
      subst h
      rw [if_neg xo, ih]
      unfold eqL
      by_cases h2 : us = vs
      ·
       simp [h2]
      ·
       simp [h2]
     ·
      rw [if_pos (by simp [h])]
      simp [eqL, h]
    | [], _, hv => simp [vKs] at hv
    | _ :: _, [], hv => simp [vKs] at hv
   ·
    cases h
section
variable {P : Program} {o : Oper} {F : Frm} {σ : List Ob}
theorem agg_vals {G : Cx} {u : Value} {cs : List AV} (h : Rep G u (.agg cs)) (hc : cs.all isS = true) : ∃ xs : Array Value, u = .agg xs ∧ ∀ j, j < (cs.map unS).length → xs[j]? = (cs.map unS)[j]? := by
 cases h with
 | agg vs _ hl h1 hr =>
  refine ⟨vs, rfl, fun j hj => ?_⟩
  have hj2 : j < cs.length := by simpa using hj
  have hj3 : j < vs.size := by omega
  have h2 := hr j vs[j] cs[j] (Array.getElem?_eq_getElem hj3) (List.getElem?_eq_getElem hj2)
  have h3 : isS cs[j] = true := by rw [List.all_eq_true] at hc; exact hc _ (List.getElem_mem hj2)
  rw [List.getElem?_map, List.getElem?_eq_getElem hj2, Array.getElem?_eq_getElem hj3]
  generalize cs[j] = c at *
  cases c <;> simp [isS] at h3
  rw [rep_s h2]; rfl
theorem eqa_run {P : Program} {t : TypeId} {ks : List SK} {xs ys : Array Value} {us vs : List Value} (hk : tyEqK P t = some ks) (hv : vKs ks us vs = true) (hx : ∀ j, j < us.length → xs[j]? = us[j]?) (hy : ∀ j, j < vs.length → ys[j]? = vs[j]?) (x y : Operand) (b : BinOp) (w : World) :
  (eqGuard b t x y (.agg xs) (.agg ys)).run P w = .ok () w ∧ (Op.equalIn 10000 t (.agg xs) (.agg ys)).run P w = .ok (eqL us vs) w := by
 unfold tyEqK at hk
 split at hk
 ·
  rename_i fs hu
  split at hk
  ·
   cases hk
  ·
   rename_i hg
   simp only [Bool.or_eq_true, not_or, Bool.not_eq_true] at hg
   have hfo : P.fieldsOf t = fs := by unfold Program.fieldsOf; rw [hu]
   refine ⟨run_eqGuard_agg w b t x y xs ys hg.1, ?_⟩
   have h1 := run_equalIn_struct (P := P) w 9999 t xs ys (by rw [hfo]; exact hu) hg.2
   rw [hfo] at h1
   rw [show (10000 : Nat) = 9999 + 1 from rfl, h1]
   exact eqF w 9998 xs ys fs.toList 0 ks us vs hk hv (fun j hj => by rw [Nat.zero_add]; exact hx j hj) (fun j hj => by rw [Nat.zero_add]; exact hy j hj)
 ·
  cases hk
theorem does_eqa {t t' : TypeId} {x y : Operand} {cs ds : List AV} {ks : List SK} (ho : o.op = .binOp .eql t x y t') (hx : F.eval x = .agg cs) (hy : F.eval y = .agg ds) (hk : tyEqK P t = some ks) (hv : vKs ks (cs.map unS) (ds.map unS) = true) (hc : cs.all isS = true) (hd : ds.all isS = true) :
  Does P o F σ (.s (.bool (@decide (cs.map unS = ds.map unS) (Classical.propDecidable _)))) σ :=
 zch fun G ρ hr hop => by
  have h1 := hop x (by simp [ho, Op.operands])
  have h2 := hop y (by simp [ho, Op.operands])
  rw [hx] at h1
  rw [hy] at h2
  obtain ⟨xs, e1, g1⟩ := agg_vals h1 hc
  obtain ⟨ys, e2, g2⟩ := agg_vals h2 hd
  obtain ⟨r1, r2⟩ := eqa_run hk hv g1 g2 x y .eql G.w
  refine ⟨_, ?_, .s _⟩
  simp only [execOp, ho, e1, e2, Sem.run_bind]
  rw [r1]
  simp only [Result.andThen_ok, run_eql_struct, r2]
  rfl
theorem does_nea {t t' : TypeId} {x y : Operand} {cs ds : List AV} {ks : List SK} (ho : o.op = .binOp .neq t x y t') (hx : F.eval x = .agg cs) (hy : F.eval y = .agg ds) (hk : tyEqK P t = some ks) (hv : vKs ks (cs.map unS) (ds.map unS) = true) (hc : cs.all isS = true) (hd : ds.all isS = true) :
  Does P o F σ (.s (.bool (@decide (cs.map unS ≠ ds.map unS) (Classical.propDecidable _)))) σ :=
 zch fun G ρ hr hop => by
  have h1 := hop x (by simp [ho, Op.operands])
  have h2 := hop y (by simp [ho, Op.operands])
  rw [hx] at h1
  rw [hy] at h2
  obtain ⟨xs, e1, g1⟩ := agg_vals h1 hc
  obtain ⟨ys, e2, g2⟩ := agg_vals h2 hd
  obtain ⟨r1, r2⟩ := eqa_run hk hv g1 g2 x y .neq G.w
  refine ⟨.bool (!(eqL (cs.map unS) (ds.map unS))), ?_, ?_⟩
  ·
   simp only [execOp, ho, e1, e2, Sem.run_bind]
   rw [r1]
   simp only [Result.andThen_ok, run_neq_struct, r2]
   rfl
  ·
   have : (!(eqL (cs.map unS) (ds.map unS))) = @decide (cs.map unS ≠ ds.map unS) (Classical.propDecidable _) := by
    unfold eqL
    by_cases h : cs.map unS = ds.map unS <;> simp [h]
   rw [this]
   exact .s _
end
end Go.Proofs.YtllkbjcemecmjaaGreat.Aw
end
section
namespace Go.Proofs.YtllkbjcemecmjaaGreat.Aw
open Go Go.Proofs
class IsP (P : Program) : Prop where
 eq : P = Tryz.prog
instance : IsP Tryz.prog := ⟨rfl⟩
variable {P : Program} [IsP P]
theorem hmix : P.follows .mixedOrders = true := by rw [IsP.eq (P := P)]; kernel_rfl
theorem ti3 : zb5 P 3 = some (some (.int .i64 0), 1, 8) := by rw [IsP.eq (P := P)]; kernel_rfl
theorem ta3 : zc8 P 3 = some false := by rw [IsP.eq (P := P)]; kernel_rfl
theorem tu3 : (P.underlying 3).isSome = true := by rw [IsP.eq (P := P)]; kernel_rfl
theorem tk3 : tyInt P 3 = some .i64 := by rw [IsP.eq (P := P)]; kernel_rfl
theorem ti4 : zb5 P 4 = some (some (.bool false), 1, 1) := by rw [IsP.eq (P := P)]; kernel_rfl
theorem ta4 : zc8 P 4 = some false := by rw [IsP.eq (P := P)]; kernel_rfl
theorem ti22 : zb5 P 22 = some (some (.slice none 0 0), 1, 24) := by rw [IsP.eq (P := P)]; kernel_rfl
theorem ta22 : zc8 P 22 = some false := by rw [IsP.eq (P := P)]; kernel_rfl
theorem ts22 : zcd P 22 = some 3 := by rw [IsP.eq (P := P)]; kernel_rfl
theorem ta23 : zc8 P 23 = some false := by rw [IsP.eq (P := P)]; kernel_rfl
theorem ts23 : zcd P 23 = some 43 := by rw [IsP.eq (P := P)]; kernel_rfl
theorem ti28 : zb5 P 28 = some (some (.agg #[.slice none 0 0, .int .i64 0]), 2, 32) := by rw [IsP.eq (P := P)]; kernel_rfl
theorem ta28 : zc8 P 28 = some true := by rw [IsP.eq (P := P)]; kernel_rfl
theorem tf28_0 : zca P 28 0 = some (0, 22, some 1) := by rw [IsP.eq (P := P)]; kernel_rfl
theorem tf28_1 : zca P 28 1 = some (1, 3, some 1) := by rw [IsP.eq (P := P)]; kernel_rfl
theorem tp28 : tyPlaces P 28 = some [(0, 1), (1, 1)] := by rw [IsP.eq (P := P)]; kernel_rfl
theorem ta29 : zc8 P 29 = some false := by rw [IsP.eq (P := P)]; kernel_rfl
theorem ts29 : zcd P 29 = some 32 := by rw [IsP.eq (P := P)]; kernel_rfl
theorem ti30 : zb5 P 30 = some (some (.slice none 0 0), 1, 24) := by rw [IsP.eq (P := P)]; kernel_rfl
theorem ta30 : zc8 P 30 = some false := by rw [IsP.eq (P := P)]; kernel_rfl
theorem ts30 : zcd P 30 = some 45 := by rw [IsP.eq (P := P)]; kernel_rfl
theorem ti32 : zb5 P 32 = some (some (.agg #[.int .i64 0, .int .i64 0, .slice none 0 0, .slice none 0 0]), 4, 64) := by rw [IsP.eq (P := P)]; kernel_rfl
theorem ta32 : zc8 P 32 = some true := by rw [IsP.eq (P := P)]; kernel_rfl
theorem tf32_0 : zca P 32 0 = some (0, 3, some 1) := by rw [IsP.eq (P := P)]; kernel_rfl
theorem tf32_1 : zca P 32 1 = some (1, 3, some 1) := by rw [IsP.eq (P := P)]; kernel_rfl
theorem tf32_2 : zca P 32 2 = some (2, 29, some 1) := by rw [IsP.eq (P := P)]; kernel_rfl
theorem tf32_3 : zca P 32 3 = some (3, 30, some 1) := by rw [IsP.eq (P := P)]; kernel_rfl
theorem tp32 : tyPlaces P 32 = some [(0, 1), (1, 1), (2, 1), (3, 1)] := by rw [IsP.eq (P := P)]; kernel_rfl
theorem ti33 : zb5 P 33 = some (some (.int .i64 0), 1, 8) := by rw [IsP.eq (P := P)]; kernel_rfl
theorem ta33 : zc8 P 33 = some false := by rw [IsP.eq (P := P)]; kernel_rfl
theorem ti43 : zb5 P 43 = some (some (.agg #[.slice none 0 0, .int .i64 0, .int .i64 0]), 3, 40) := by rw [IsP.eq (P := P)]; kernel_rfl
theorem ta43 : zc8 P 43 = some true := by rw [IsP.eq (P := P)]; kernel_rfl
theorem tf43_0 : zca P 43 0 = some (0, 22, some 1) := by rw [IsP.eq (P := P)]; kernel_rfl
theorem tf43_1 : zca P 43 1 = some (1, 3, some 1) := by rw [IsP.eq (P := P)]; kernel_rfl
theorem tf43_2 : zca P 43 2 = some (2, 3, some 1) := by rw [IsP.eq (P := P)]; kernel_rfl
theorem tp43 : tyPlaces P 43 = some [(0, 1), (1, 1), (2, 1)] := by rw [IsP.eq (P := P)]; kernel_rfl
theorem ti45 : zb5 P 45 = some (some (.agg #[.int .i64 0, .int .i64 0]), 2, 16) := by rw [IsP.eq (P := P)]; kernel_rfl
theorem ta45 : zc8 P 45 = some true := by rw [IsP.eq (P := P)]; kernel_rfl
theorem tf45_0 : zca P 45 0 = some (0, 3, some 1) := by rw [IsP.eq (P := P)]; kernel_rfl
theorem tf45_1 : zca P 45 1 = some (1, 3, some 1) := by rw [IsP.eq (P := P)]; kernel_rfl
theorem te45 : tyEqK P 45 = some [.i, .i] := by rw [IsP.eq (P := P)]; kernel_rfl
theorem tp45 : tyPlaces P 45 = some [(0, 1), (1, 1)] := by rw [IsP.eq (P := P)]; kernel_rfl
theorem ti52 : zb5 P 52 = some (some (.agg #[.slice none 0 0, .slice none 0 0, .slice none 0 0, .int .i64 0]), 4, 80) := by rw [IsP.eq (P := P)]; kernel_rfl
theorem tf52_0 : zca P 52 0 = some (0, 22, some 1) := by rw [IsP.eq (P := P)]; kernel_rfl
theorem tf52_1 : zca P 52 1 = some (1, 23, some 1) := by rw [IsP.eq (P := P)]; kernel_rfl
theorem tf52_2 : zca P 52 2 = some (2, 22, some 1) := by rw [IsP.eq (P := P)]; kernel_rfl
theorem tf52_3 : zca P 52 3 = some (3, 3, some 1) := by rw [IsP.eq (P := P)]; kernel_rfl
theorem tp52 : tyPlaces P 52 = some [(0, 1), (1, 1), (2, 1), (3, 1)] := by rw [IsP.eq (P := P)]; kernel_rfl
theorem ti56 : zb5 P 56 = some (some (.agg #[.slice none 0 0, .slice none 0 0, .int .i64 0, .int .i64 0]), 4, 64) := by rw [IsP.eq (P := P)]; kernel_rfl
theorem tf56_0 : zca P 56 0 = some (0, 22, some 1) := by rw [IsP.eq (P := P)]; kernel_rfl
theorem tf56_1 : zca P 56 1 = some (1, 23, some 1) := by rw [IsP.eq (P := P)]; kernel_rfl
theorem tf56_2 : zca P 56 2 = some (2, 3, some 1) := by rw [IsP.eq (P := P)]; kernel_rfl
theorem tf56_3 : zca P 56 3 = some (3, 3, some 1) := by rw [IsP.eq (P := P)]; kernel_rfl
theorem tp56 : tyPlaces P 56 = some [(0, 1), (1, 1), (2, 1), (3, 1)] := by rw [IsP.eq (P := P)]; kernel_rfl
theorem ti60 : zb5 P 60 = some (some (.agg #[.slice none 0 0, .slice none 0 0]), 2, 48) := by rw [IsP.eq (P := P)]; kernel_rfl
theorem ta60 : zc8 P 60 = some true := by rw [IsP.eq (P := P)]; kernel_rfl
theorem tf60_0 : zca P 60 0 = some (0, 22, some 1) := by rw [IsP.eq (P := P)]; kernel_rfl
theorem tf60_1 : zca P 60 1 = some (1, 22, some 1) := by rw [IsP.eq (P := P)]; kernel_rfl
theorem tp60 : tyPlaces P 60 = some [(0, 1), (1, 1)] := by rw [IsP.eq (P := P)]; kernel_rfl
theorem ti86 : zb5 P 86 = some (some (.slice none 0 0), 1, 24) := by rw [IsP.eq (P := P)]; kernel_rfl
theorem ta86 : zc8 P 86 = some false := by rw [IsP.eq (P := P)]; kernel_rfl
theorem ts86 : zcd P 86 = some 30 := by rw [IsP.eq (P := P)]; kernel_rfl
theorem ti88 : zb5 P 88 = some (some (.agg #[.slice none 0 0, .slice none 0 0, .slice none 0 0, .slice none 0 0]), 4, 96) := by rw [IsP.eq (P := P)]; kernel_rfl
theorem ta88 : zc8 P 88 = some true := by rw [IsP.eq (P := P)]; kernel_rfl
theorem tf88_0 : zca P 88 0 = some (0, 30, some 1) := by rw [IsP.eq (P := P)]; kernel_rfl
theorem tf88_1 : zca P 88 1 = some (1, 86, some 1) := by rw [IsP.eq (P := P)]; kernel_rfl
theorem tf88_2 : zca P 88 2 = some (2, 22, some 1) := by rw [IsP.eq (P := P)]; kernel_rfl
theorem tf88_3 : zca P 88 3 = some (3, 30, some 1) := by rw [IsP.eq (P := P)]; kernel_rfl
theorem ti92 : zb5 P 92 = some (some (.agg #[.int .i64 0, .slice none 0 0, .slice none 0 0, .slice none 0 0, .int .i64 0, .int .i64 0]), 6, 96) := by rw [IsP.eq (P := P)]; kernel_rfl
theorem ta92 : zc8 P 92 = some true := by rw [IsP.eq (P := P)]; kernel_rfl
theorem tf92_0 : zca P 92 0 = some (0, 3, some 1) := by rw [IsP.eq (P := P)]; kernel_rfl
theorem tf92_1 : zca P 92 1 = some (1, 30, some 1) := by rw [IsP.eq (P := P)]; kernel_rfl
theorem tf92_2 : zca P 92 2 = some (2, 30, some 1) := by rw [IsP.eq (P := P)]; kernel_rfl
theorem tf92_3 : zca P 92 3 = some (3, 30, some 1) := by rw [IsP.eq (P := P)]; kernel_rfl
theorem tf92_4 : zca P 92 4 = some (4, 45, some 2) := by rw [IsP.eq (P := P)]; kernel_rfl
theorem tp92 : tyPlaces P 92 = some [(0, 1), (1, 1), (2, 1), (3, 1), (4, 2)] := by rw [IsP.eq (P := P)]; kernel_rfl
theorem tu106 : (P.underlying 106).isSome = true := by rw [IsP.eq (P := P)]; kernel_rfl
theorem tk106 : tyInt P 106 = some .u64 := by rw [IsP.eq (P := P)]; kernel_rfl
theorem ts131 : zcd P 131 = some 4 := by rw [IsP.eq (P := P)]; kernel_rfl
theorem ti138 : zb5 P 138 = some (some (.agg #[.slice none 0 0, .slice none 0 0, .slice none 0 0, .int .i64 0, .int .i64 0]), 5, 88) := by rw [IsP.eq (P := P)]; kernel_rfl
theorem zc6 : zca P 138 0 = some (0, 86, some 1) := by rw [IsP.eq (P := P)]; kernel_rfl
theorem tf138_1 : zca P 138 1 = some (1, 30, some 1) := by rw [IsP.eq (P := P)]; kernel_rfl
theorem zdl : zca P 138 2 = some (2, 22, some 1) := by rw [IsP.eq (P := P)]; kernel_rfl
theorem tf138_3 : zca P 138 3 = some (3, 3, some 1) := by rw [IsP.eq (P := P)]; kernel_rfl
theorem zdu : zca P 138 4 = some (4, 33, some 1) := by rw [IsP.eq (P := P)]; kernel_rfl
theorem tp138 : tyPlaces P 138 = some [(0, 1), (1, 1), (2, 1), (3, 1), (4, 1)] := by rw [IsP.eq (P := P)]; kernel_rfl
end Go.Proofs.YtllkbjcemecmjaaGreat.Aw
end
section
namespace Go.Proofs.YtllkbjcemecmjaaGreat
open Go.RowKit
theorem snoc_no {α : Type} {p : α → Bool} {l : List α} {k : Nat} {a : α} (h : ∀ j a, j < k → l[j]? = some a → p a = false) (ha : l[k]? = some a) (hp : p a = false) : ∀ j a, j < k + 1 → l[j]? = some a → p a = false := by
 intro j b hj hb
 rcases Nat.lt_or_eq_of_le (Nat.le_of_lt_succ hj) with h1 | rfl
 ·
  exact h j b h1 hb
 ·
  rw [ha] at hb; injection hb with hb; rw [← hb]; exact hp
end Go.Proofs.YtllkbjcemecmjaaGreat
end
section
namespace Go.Proofs.YtllkbjcemecmjaaGreat
structure Fr where
 n : Int
 d : Int
deriving DecidableEq
def Fr.of (k : Int) : Fr := ⟨k, 1⟩
def Fr.ok (a : Fr) : Prop := -1073741824 ≤ a.n ∧ a.n ≤ 1073741824 ∧ 1 ≤ a.d ∧ a.d ≤ 1073741824 ∧ Int.gcd a.n a.d = 1
instance (a : Fr) : Decidable a.ok := by unfold Fr.ok; infer_instance
def Fr.okB (a : Fr) : Bool := decide a.ok
theorem Fr.okB_iff (a : Fr) : a.okB = true ↔ a.ok := by simp [Fr.okB]
theorem Fr.okB_of {a : Fr} (h : a.ok) : a.okB = true := (Fr.okB_iff a).2 h
theorem Fr.okB_not {a : Fr} (h : ¬ a.ok) : a.okB = false := by simp [Fr.okB, h]
def nf (n d : Int) : Fr := ⟨Int.sign d * (n / (Int.gcd n d : Int)), (d.natAbs : Int) / (Int.gcd n d : Int)⟩
def Fr.fits (a : Fr) : Bool := decide (-1073741824 ≤ a.n ∧ a.n ≤ 1073741824 ∧ a.d ≤ 1073741824)
def mkF (n d : Int) : Option Fr := if (nf n d).fits then some (nf n d) else none
theorem gcd_step (p q : Int) : Int.gcd q (p % q) = Int.gcd p q := by
 rw [Int.gcd_comm p q]
 have h := Int.gcd_add_mul_right_right q (p % q) (p / q)
 rw [← h]
 have e : p % q + p / q * q = p := by have := Int.emod_add_mul_ediv p q; rw [Int.mul_comm]; exact this
 rw [e]
theorem nf_scale (k n d : Int) (hk : 0 < k) : nf (k * n) (k * d) = nf n d := by
 have hg : (Int.gcd (k * n) (k * d) : Int) = k * (Int.gcd n d : Int) := by
  rw [Int.gcd_mul_left]; rw [Int.natCast_mul]; rw [Int.natAbs_of_nonneg xd]
 have hs : Int.sign (k * d) = Int.sign d := by rw [Int.sign_mul, Int.sign_eq_one_of_pos hk, Int.one_mul]
 have ha : ((k * d).natAbs : Int) = k * (d.natAbs : Int) := by rw [Int.natAbs_mul, Int.natCast_mul, Int.natAbs_of_nonneg xd]
 unfold nf
 rw [hg, hs, ha, Int.mul_ediv_mul_of_pos _ _ hk, Int.mul_ediv_mul_of_pos _ _ hk]
theorem mkF_scale (k n d : Int) (hk : 0 < k) : mkF (k * n) (k * d) = mkF n d := by unfold mkF; rw [nf_scale k n d hk]
theorem nf_ok (n d : Int) (hd : d ≠ 0) : 1 ≤ (nf n d).d ∧ Int.gcd (nf n d).n (nf n d).d = 1 := by
 have hg : 0 < Int.gcd n d := Int.gcd_pos_iff.2 (Or.inr hd)
 have hdv : (Int.gcd n d : Int) ∣ (d.natAbs : Int) := by
  rw [Int.dvd_natAbs]; exact Int.gcd_dvd_right ..
 constructor
 ·
  unfold nf
  simp only
  obtain ⟨c, hc⟩ := hdv
  rw [hc, Int.mul_ediv_cancel_left _ xd]
  have : 0 < (d.natAbs : Int) := by omega
  rw [hc] at this
  have := Int.pos_of_mul_pos_right this xd
  omega
 ·
  unfold nf
  simp only
  have h1 : Int.gcd (n / (Int.gcd n d : Int)) (d / (Int.gcd n d : Int)) = 1 := Int.gcd_ediv_gcd_ediv_gcd xd
  have e : ((d.natAbs : Int) / (Int.gcd n d : Int)) = Int.sign d * (d / (Int.gcd n d : Int)) := by
   have e1 : (d.natAbs : Int) = d * Int.sign d := (Int.mul_sign_self d).symm
   rw [e1, Int.mul_comm d, Int.mul_ediv_assoc _ (Int.gcd_dvd_right ..)]
  rw [e, Int.gcd_mul_left, h1]
  rcases Int.lt_trichotomy d 0 with h | h | h
  ·
   rw [Int.sign_eq_neg_one_of_neg h]; rfl
  ·
   exact absurd h hd
  ·
   rw [Int.sign_eq_one_of_pos h]; rfl
theorem mkF_ok {n d : Int} (hd : d ≠ 0) {a : Fr} (h : mkF n d = some a) : a.ok := by
 unfold mkF at h
 split at h
 ·
  rename_i hf
  injection h with h
  subst h
  have := nf_ok n d hd
  simp only [Fr.fits, decide_eq_true_eq] at hf
  exact ⟨hf.1, hf.2.1, this.1, hf.2.2, this.2⟩
 ·
  cases h
theorem nf_of_ok {a : Fr} (h : a.ok) : nf a.n a.d = a := by
 obtain ⟨_, _, hd, _, hg⟩ := h
 unfold nf
 rw [hg, Int.sign_eq_one_of_pos xd, Int.natAbs_of_nonneg xd]
 simp
theorem mkF_of_ok {a : Fr} (h : a.ok) : mkF a.n a.d = some a := by
 unfold mkF
 rw [nf_of_ok h, if_pos]
 simp only [Fr.fits, decide_eq_true_eq]
 exact ⟨h.1, h.2.1, h.2.2.2.1⟩
structure FE where
 n : Int
 d : Int
 e : Int
def FE.of : Option Fr → FE
 | some a => ⟨a.n, a.d, 0⟩
 | none => ⟨0, 0, 6⟩
def FE.err (e : Int) : FE := ⟨0, 0, e⟩
def fadd (a b : Fr) : Option Fr := mkF (a.n * b.d + b.n * a.d) (a.d * b.d)
def fneg (a : Fr) : Fr := ⟨-a.n, a.d⟩
def fsub (a b : Fr) : Option Fr := fadd a (fneg b)
def fmul (a b : Fr) : Option Fr := mkF (a.n * b.n) (a.d * b.d)
def fdiv (a b : Fr) : Option Fr := mkF (a.n * b.d) (a.d * b.n)
theorem fneg_ok {a : Fr} (h : a.ok) : (fneg a).ok := by
 obtain ⟨h1, h2, h3, h4, h5⟩ := h
 exact ⟨by simp only [fneg]; omega, by simp only [fneg]; omega, h3, h4, by simpa [fneg] using h5⟩
theorem fadd_lcm (a b : Fr) (ha : a.ok) :
  mkF (a.n * (b.d / (Int.gcd a.d b.d : Int)) + b.n * (a.d / (Int.gcd a.d b.d : Int))) (a.d * (b.d / (Int.gcd a.d b.d : Int))) = fadd a b := by
 have h3 := ha.2.2.1
 have hg : 0 < (Int.gcd a.d b.d : Int) := by have := Int.gcd_pos_iff.2 (Or.inl (show a.d ≠ 0 by omega) : a.d ≠ 0 ∨ b.d ≠ 0); omega
 unfold fadd
 rw [← mkF_scale (Int.gcd a.d b.d : Int) (a.n * (b.d / (Int.gcd a.d b.d : Int)) + b.n * (a.d / (Int.gcd a.d b.d : Int))) _ xd]
 obtain ⟨x, hx⟩ : (Int.gcd a.d b.d : Int) ∣ a.d := Int.gcd_dvd_left ..
 obtain ⟨y, hy⟩ : (Int.gcd a.d b.d : Int) ∣ b.d := Int.gcd_dvd_right ..
 generalize (Int.gcd a.d b.d : Int) = g at *
 have ex : a.d / g = x := by rw [hx, Int.mul_ediv_cancel_left _ xd]
 have ey : b.d / g = y := by rw [hy, Int.mul_ediv_cancel_left _ xd]
 rw [ex, ey, hx, hy]
 congr 1 <;> grind
theorem nf_neg (n d : Int) : nf (-n) (-d) = nf n d := by
 unfold nf
 simp only [Int.gcd_neg, Int.neg_gcd, Int.sign_neg, Int.natAbs_neg]
 congr 1
 rw [Int.neg_ediv_of_dvd (Int.gcd_dvd_left ..), Int.neg_mul_neg]
theorem mkF_neg (n d : Int) : mkF (-n) (-d) = mkF n d := by unfold mkF; rw [nf_neg]
theorem mkF_pos (n d p x y : Int) (hp : 0 < p) (hg : (Int.gcd n d : Int) = p) (hn : n = p * x) (hd : d = p * y) (hy : 0 < y) :
  mkF n d = if -1073741824 ≤ x ∧ x ≤ 1073741824 ∧ y ≤ 1073741824 then some ⟨x, y⟩ else none := by
 have hd0 : 0 < d := by rw [hd]; exact Int.mul_pos hp hy
 have e : nf n d = ⟨x, y⟩ := by
  unfold nf
  rw [hg, Int.sign_eq_one_of_pos hd0, Int.natAbs_of_nonneg xd, Int.one_mul]
  congr 1
  ·
   rw [hn, Int.mul_ediv_cancel_left _ xd]
  ·
   rw [hd, Int.mul_ediv_cancel_left _ xd]
 unfold mkF Fr.fits
 rw [e]
 simp only [decide_eq_true_eq]
theorem mkF_negd (n d p x y : Int) (hp : 0 < p) (hg : (Int.gcd n d : Int) = p) (hn : n = p * x) (hd : d = p * y) (hy : y < 0) :
  mkF n d = if -1073741824 ≤ -x ∧ -x ≤ 1073741824 ∧ -y ≤ 1073741824 then some ⟨-x, -y⟩ else none := by
 rw [← mkF_neg]
 exact mkF_pos (-n) (-d) p (-x) (-y) hp (by rw [Int.gcd_neg, Int.neg_gcd]; exact hg) (by rw [hn, Int.mul_neg]) (by rw [hd, Int.mul_neg]) xd
theorem tdiv_exact (n p : Int) (hp : 0 < p) (h : p ∣ n) : ∃ x, n.tdiv p = x ∧ n = p * x ∧ (n.natAbs : Int) = p * (x.natAbs : Int) := by
 obtain ⟨x, rfl⟩ := h
 refine ⟨x, Int.mul_tdiv_cancel_left _ xd, rfl, ?_⟩
 rw [Int.natAbs_mul, Int.natCast_mul, Int.natAbs_of_nonneg (a := p) xd]
theorem natAbs_le_of_mul (n p x : Int) (hp : 0 < p) (h : (n.natAbs : Int) = p * (x.natAbs : Int)) : x.natAbs ≤ n.natAbs := by
 have : 1 * (x.natAbs : Int) ≤ p * (x.natAbs : Int) := Int.mul_le_mul_of_nonneg_right xd xd
 omega
theorem tmod_neg_neg (p q : Nat) : (-(p : Int)).tmod (-(q : Int)) = -((p % q : Nat) : Int) := by
 rw [Int.tmod_neg, Int.neg_tmod, ← Int.ofNat_tmod]
theorem sign_mul (x y : Int) : (if (decide (x < 0) != decide (y < 0)) then -((x.natAbs : Int) * (y.natAbs : Int)) else (x.natAbs : Int) * (y.natAbs : Int)) = x * y := by
 rcases Int.lt_or_le x 0 with hx | hx <;> rcases Int.lt_or_le y 0 with hy | hy
 ·
  rw [show (x.natAbs : Int) = -x by omega, show (y.natAbs : Int) = -y by omega]; simp [hx, hy, Int.neg_mul, Int.mul_neg]
 ·
  rw [show (x.natAbs : Int) = -x by omega, show (y.natAbs : Int) = y by omega]; simp [hx, Int.not_lt.2 hy, Int.neg_mul]
 ·
  rw [show (x.natAbs : Int) = x by omega, show (y.natAbs : Int) = -y by omega]; simp [hy, Int.not_lt.2 hx, Int.mul_neg]
 ·
  rw [show (x.natAbs : Int) = x by omega, show (y.natAbs : Int) = y by omega]; simp [Int.not_lt.2 hy, Int.not_lt.2 hx]
theorem fdiv_sign (a b : Fr) (n : Int) (hn : (if (decide (a.n < 0) != decide (b.n < 0)) then -((a.n.natAbs : Int) * b.d) else (a.n.natAbs : Int) * b.d) = n) : mkF n (a.d * (b.n.natAbs : Int)) = fdiv a b := by
 subst hn
 unfold fdiv
 rcases Int.lt_or_le b.n 0 with hy | hy
 ·
  rw [← mkF_neg (a.n * b.d)]
  rcases Int.lt_or_le a.n 0 with hx | hx
  ·
   rw [show (a.n.natAbs : Int) = -a.n by omega, show (b.n.natAbs : Int) = -b.n by omega]; simp [hx, hy, Int.neg_mul, Int.mul_neg]
  ·
   rw [show (a.n.natAbs : Int) = a.n by omega, show (b.n.natAbs : Int) = -b.n by omega]; simp [hy, Int.not_lt.2 hx, Int.mul_neg]
 ·
  rcases Int.lt_or_le a.n 0 with hx | hx
  ·
   rw [show (a.n.natAbs : Int) = -a.n by omega, show (b.n.natAbs : Int) = b.n by omega]; simp [hx, Int.not_lt.2 hy, Int.neg_mul]
  ·
   rw [show (a.n.natAbs : Int) = a.n by omega, show (b.n.natAbs : Int) = b.n by omega]; simp [Int.not_lt.2 hx, Int.not_lt.2 hy]
def cmpN (a b : Fr) : Int := if a.n * b.d < b.n * a.d then -1 else if a.n * b.d > b.n * a.d then 1 else 0
theorem mul_bd (a b : Int) (h1 : -1073741824 ≤ a) (h2 : a ≤ 1073741824) (h3 : 0 ≤ b) (h4 : b ≤ 1073741824) : -1152921504606846976 ≤ a * b ∧ a * b ≤ 1152921504606846976 := by
 have e1 : a * b ≤ 1073741824 * b := Int.mul_le_mul_of_nonneg_right h2 h3
 have e2 : -1073741824 * b ≤ a * b := Int.mul_le_mul_of_nonneg_right h1 h3
 omega
theorem mul_bd' (a b : Int) (h1 : -1073741824 ≤ a) (h2 : a ≤ 1073741824) (h3 : -1073741824 ≤ b) (h4 : b ≤ 1073741824) : -1152921504606846976 ≤ a * b ∧ a * b ≤ 1152921504606846976 := by
 rcases Int.le_total 0 b with h | h
 ·
  exact mul_bd a b h1 h2 h h4
 ·
  have := mul_bd a (-b) h1 h2 xd xd
  rw [Int.mul_neg] at this
  omega
theorem div_bd (b g : Int) (h1 : 1 ≤ b) (hg : 0 < g) (hd : g ∣ b) : 1 ≤ b / g ∧ b / g ≤ b := by
 obtain ⟨c, rfl⟩ := hd
 rw [Int.mul_ediv_cancel_left _ xd]
 have hc : 0 < c := Int.pos_of_mul_pos_right xd hg
 refine ⟨by omega, ?_⟩
 have : 1 * c ≤ g * c := Int.mul_le_mul_of_nonneg_right xd xd
 omega
def addE (a b : Fr) : FE := if a.okB && b.okB then FE.of (fadd a b) else FE.err 1
def subE (a b : Fr) : FE := if a.okB && b.okB then FE.of (fsub a b) else FE.err 1
def mulE (a b : Fr) : FE := if a.okB && b.okB then FE.of (fmul a b) else FE.err 1
def divE (a b : Fr) : FE := if a.okB && b.okB then (if b.n = 0 then FE.err 7 else FE.of (fdiv a b)) else FE.err 1
end Go.Proofs.YtllkbjcemecmjaaGreat
end
section
namespace Go.Proofs.YtllkbjcemecmjaaGreat
open Go.RowKit
set_option maxHeartbeats 400000 in
theorem gcd_any (a b : Int) (w : World) (ha : 0 ≤ a) (hb : 0 ≤ b) (ha' : a ≤ 9223372036854775807) (hb' : b ≤ 9223372036854775807) :
  Calls Tryz.prog 74 #[.int .i64 a, .int .i64 b] w fun e w' => e = .returned (.int .i64 (Int.gcd a b)) ∧ ∃ n, w' = w.drewN n := by
 go_enter Tryz.func74, Tryz.ntmps74
 go_wp2
 go_loopw [0, 1] (fun x y wr => ∃ p q : Int, 0 ≤ p ∧ 0 ≤ q ∧ p ≤ 9223372036854775807 ∧ q ≤ 9223372036854775807 ∧ x = .int .i64 p ∧ y = .int .i64 q ∧ Int.gcd p q = Int.gcd a b ∧ ∃ n, wr = w.drewN n) (fun _ y _ => (intOf y).toNat)
 case atStart => exact ⟨a, b, ha, hb, ha', hb', rfl, rfl, rfl, 0, rfl⟩
 case round =>
  obtain ⟨p, q, hp, hq, hp', hq', rfl, rfl, hg, n, rfl⟩ := hrel
  have HG := Lib.hid hg
  clear hg
  by_cases h0 : q = 0
  ·
   subst h0
   go_wp2
   go_ret
   refine ⟨?_, n, rfl⟩
   rw [← HG.out]
   simp [Int.natAbs_of_nonneg hp]
  ·
   have hne : (q != 0) = true := by simpa using h0
   have hne2 : (q == 0) = false := by simpa using h0
   go_wp2
   go_quiet (fail)
   go_wp2
   have h1 := Int.emod_nonneg p h0
   have h2 := Int.emod_lt_of_pos p (show 0 < q by omega)
   go_roundw
   case rel => exact ⟨q, p % q, hq, h1, hq', by omega, rfl, rfl, (gcd_step p q).trans HG.out, n + nq, by rw [World.drewN_drewN]⟩
   case measure => simp only [intOf]; omega
set_option maxHeartbeats 400000 in
theorem abs_any (a : Int) (w : World) (h1 : -4611686018427387904 ≤ a) (h2 : a ≤ 4611686018427387904) :
  Calls Tryz.prog 72 #[.int .i64 a] w fun e w' => e = .returned (.int .u64 (a.natAbs : Int)) ∧ w = w' := by
 by_cases h : a < 0
 ·
  go_enter Tryz.func72, Tryz.ntmps72
  go_wp2
  go_ret
  exact ⟨by simp [IntKind.wrap_u64]; omega, rfl⟩
 ·
  go_enter Tryz.func72, Tryz.ntmps72
  go_wp2
  go_ret
  exact ⟨by simp; omega, rfl⟩
theorem fit_nf (neg : Bool) (num den : Nat) (hd : 0 < den) : nf (if neg then -(num : Int) else num) den = ⟨if neg then -((num / Nat.gcd num den : Nat) : Int) else ((num / Nat.gcd num den : Nat) : Int), ((den / Nat.gcd num den : Nat) : Int)⟩ := by
 have hs : Int.sign (den : Int) = 1 := Int.sign_eq_one_of_pos xd
 cases neg
 ·
  simp [nf, hs, Int.gcd]
 ·
  simp only [nf, hs, Int.gcd, if_true, Int.natAbs_neg, Int.natAbs_natCast, Int.one_mul]
  congr 1
  exact Int.neg_ediv_of_dvd (by rw [Int.natCast_dvd_natCast]; exact Nat.gcd_dvd_left ..)
theorem mkF_fit (neg : Bool) (num den x y : Nat) (hd : 0 < den) (hx : num / Nat.gcd num den = x) (hy : den / Nat.gcd num den = y) :
  mkF (if neg then -(num : Int) else num) den = if x ≤ 1073741824 ∧ y ≤ 1073741824 then some ⟨if neg then -(x : Int) else x, y⟩ else none := by
 unfold mkF
 rw [fit_nf neg num den hd, hx, hy]
 by_cases h : x ≤ 1073741824 ∧ y ≤ 1073741824
 ·
  rw [if_pos h, if_pos]
  simp only [Fr.fits, decide_eq_true_eq]
  cases neg <;> simp <;> omega
 ·
  rw [if_neg h, if_neg]
  simp only [Fr.fits, decide_eq_true_eq]
  cases neg <;> simp <;> omega
set_option maxHeartbeats 1000000 in
theorem fit_any (neg : Bool) (num den : Nat) (w : World) (hd : 0 < den) (h1 : num ≤ 9223372036854775808) (h2 : den ≤ 9223372036854775808) :
  Calls Tryz.prog 71 #[.bool neg, .int .u64 num, .int .u64 den] w fun e w' => e = .returned (.tuple #[.agg #[.int .i64 (FE.of (mkF (if neg then -(num : Int) else num) den)).n, .int .i64 (FE.of (mkF (if neg then -(num : Int) else num) den)).d], .int .i64 (FE.of (mkF (if neg then -(num : Int) else num) den)).e]) ∧ Below w.heap.size w w' := by
 refine zc3 fun R hR => ?_
 have HR := Lib.hid hR
 clear hR
 go_enter Tryz.func71, Tryz.ntmps71
 go_wp2
 go_loopw [8, 9] (fun x y wr => ∃ p q : Nat, p ≤ 9223372036854775808 ∧ q ≤ 9223372036854775808 ∧ x = .int .u64 p ∧ y = .int .u64 q ∧ Nat.gcd p q = Nat.gcd num den ∧ ∃ n, wr = (w.alloc (.cells #[.int .i64 0, .int .i64 0] 45)).drewN n) (fun _ y _ => (intOf y).toNat)
 case atStart => exact ⟨num, den, h1, h2, rfl, rfl, rfl, 0, rfl⟩
 case round =>
  obtain ⟨p, q, hp', hq', rfl, rfl, hg, n, rfl⟩ := hrel
  by_cases h0 : q = 0
  ·
   subst h0
   simp only [Nat.gcd_zero_right] at hg
   have hp0 : 0 < p := by rw [hg]; exact Nat.gcd_pos_of_pos_right _ hd
   obtain ⟨x, hx⟩ : ∃ x, num / p = x := ⟨_, rfl⟩
   obtain ⟨y, hy⟩ : ∃ y, den / p = y := ⟨_, rfl⟩
   have hx1 : x ≤ 9223372036854775808 := by have := Nat.div_le_self num p; omega
   have hy1 : y ≤ 9223372036854775808 := by have := Nat.div_le_self den p; omega
   have HF := Lib.hid (mkF_fit neg num den x y hd (by rw [← hg]; exact hx) (by rw [← hg]; exact hy))
   have wx : IntKind.u64.wrap ((num : Int) / (p : Int)) = (x : Int) := by rw [IntKind.wrap_u64, ← Int.natCast_ediv, hx]; omega
   have wy : IntKind.u64.wrap ((den : Int) / (p : Int)) = (y : Int) := by rw [IntKind.wrap_u64, ← Int.natCast_ediv, hy]; omega
   have hne : (((p : Nat) : Int) == 0) = false := by simp; omega
   clear hg hx hy
   go_wp2
   go_quiet (fail)
   clear wx wy
   by_cases hbx : (1073741824 : Int) < x
   ·
    go_wp2
    refine bodyPost_ret (v := .tuple #[.agg #[.int .i64 0, .int .i64 0], .int .i64 6]) (by simp [results, Tryz.results71, go_sem]) rfl (HR.out _ _ ⟨?_, ?_⟩)
    ·
     rw [HF.out, if_neg xd]; rfl
    ·
     (repeat (first | exact Below.refl _ _ | assumption | refine Below.setCell ?_ (by first | omega | (simp; done) | (simp; omega)) _ | refine Below.alloc ?_ (by first | omega | (simp; done) | (simp; omega)) _ | refine Below.drew ?_ | refine below_drewN ?_ _))
   ·
    by_cases hby : (1073741824 : Int) < y
    ·
     have hbx' : decide ((1073741824 : Int) < x) = false := by simpa using hbx
     go_wp2
     refine bodyPost_ret (v := .tuple #[.agg #[.int .i64 0, .int .i64 0], .int .i64 6]) (by simp [results, Tryz.results71, go_sem]) rfl (HR.out _ _ ⟨?_, ?_⟩)
     ·
      rw [HF.out, if_neg xd]; rfl
     ·
      (repeat (first | exact Below.refl _ _ | assumption | refine Below.setCell ?_ (by first | omega | (simp; done) | (simp; omega)) _ | refine Below.alloc ?_ (by first | omega | (simp; done) | (simp; omega)) _ | refine Below.drew ?_ | refine below_drewN ?_ _))
    ·
     have hbx' : decide ((1073741824 : Int) < x) = false := by simpa using hbx
     have hby' : decide ((1073741824 : Int) < y) = false := by simpa using hby
     cases neg
     ·
      go_wp2
      refine bodyPost_ret (v := .tuple #[.agg #[.int .i64 x, .int .i64 y], .int .i64 0]) (by simp [results, Tryz.results71, go_sem]) rfl (HR.out _ _ ⟨?_, ?_⟩)
      ·
       rw [HF.out, if_pos xd]; rfl
      ·
       (repeat (first | exact Below.refl _ _ | assumption | refine Below.setCell ?_ (by first | omega | (simp; done) | (simp; omega)) _ | refine Below.alloc ?_ (by first | omega | (simp; done) | (simp; omega)) _ | refine Below.drew ?_ | refine below_drewN ?_ _))
     ·
      go_wp2
      refine bodyPost_ret (v := .tuple #[.agg #[.int .i64 (-x), .int .i64 y], .int .i64 0]) (by simp [results, Tryz.results71, go_sem]) rfl (HR.out _ _ ⟨?_, ?_⟩)
      ·
       rw [HF.out, if_pos xd]; rfl
      ·
       (repeat (first | exact Below.refl _ _ | assumption | refine Below.setCell ?_ (by first | omega | (simp; done) | (simp; omega)) _ | refine Below.alloc ?_ (by first | omega | (simp; done) | (simp; omega)) _ | refine Below.drew ?_ | refine below_drewN ?_ _))
  ·
   have HG := Lib.hid hg
   clear hg
   have hne : (((q : Nat) : Int) != 0) = true := by simp; omega
   have hne2 : (((q : Nat) : Int) == 0) = false := by simp; omega
   go_wp2
   go_quiet (fail)
   go_wp2
   have hlt : p % q < q := Nat.mod_lt _ xd
   go_roundw
   case rel => exact ⟨q, p % q, hq', by omega, rfl, by rw [Int.natCast_emod], by rw [← HG.out, Nat.gcd_comm q, ← Nat.gcd_rec, Nat.gcd_comm], n + nq, by rw [World.drewN_drewN]⟩
   case measure => simp only [intOf]; omega
end Go.Proofs.YtllkbjcemecmjaaGreat
end
section
namespace Go.Proofs.YtllkbjcemecmjaaGreat
open Go.RowKit
theorem okB_gcd (an ad : Int) (h1 : -1073741824 ≤ an) (h2 : an ≤ 1073741824) (h3 : 1 ≤ ad) (h4 : ad ≤ 1073741824) : ((Int.gcd an ad : Int) == 1) = (Fr.mk an ad).okB := by
 rw [Bool.eq_iff_iff, beq_iff_eq, Fr.okB_iff]
 unfold Fr.ok
 simp only
 omega
theorem okB_out (an ad : Int) (h : ¬ (-1073741824 ≤ an ∧ an ≤ 1073741824 ∧ 1 ≤ ad ∧ ad ≤ 1073741824)) : false = (Fr.mk an ad).okB := by
 rw [Fr.okB_not]
 unfold Fr.ok
 simp only
 omega
set_option maxHeartbeats 1000000 in
theorem fracValid_any (a : Fr) (w : World) :
  Calls Tryz.prog 52 #[.agg #[.int .i64 a.n, .int .i64 a.d]] w fun e w' => e = .returned (.bool a.okB) ∧ Below w.heap.size w w' := by
 obtain ⟨an, ad⟩ := a
 refine zc3 fun R hR => ?_
 have HR := Lib.hid hR
 clear hR
 go_enter Tryz.func52, Tryz.ntmps52
 go_wp2_with (go_at_call 74; refine (gcd_any _ _ _ xd xd xd xd).mono ?_; rintro e w' ⟨rfl, n, rfl⟩)
 all_goals refine HR.out _ _ ⟨congrArg _ (congrArg _ ?_), ?_⟩
 all_goals (first | (exact okB_gcd _ _ (by omega) (by omega) (by omega) (by omega)) | (exact okB_out _ _ (by omega)) | (repeat (first | exact Below.refl _ _ | assumption | refine Below.setCell ?_ (by first | omega | (simp; done) | (simp; omega)) _ | refine Below.alloc ?_ (by first | omega | (simp; done) | (simp; omega)) _ | refine Below.drew ?_ | refine below_drewN ?_ _)))
def RdB (w : World) (B : Nat) (v : Value) (l : List Fr) : Prop :=
 ∃ A c, v = .slice A l.length c ∧ l.length ≤ maxLen ∧ l.length ≤ c ∧ (0 < l.length → ∃ b off, A = some ⟨b, off, none⟩ ∧ b < B ∧
  ∀ i a, l[i]? = some a → w.cell? ⟨b, off + i * 2, none⟩ = some (.int .i64 a.n) ∧ w.cell? ⟨b, off + i * 2 + 1, none⟩ = some (.int .i64 a.d))
set_option maxHeartbeats 1000000 in
theorem indexFuncF_any (f : FuncId) (hent : Ent f) (cap : Array Value) (p : Fr → Bool) (l : List Fr) (v : Value) (w : World) (hv : RdB w w.heap.size v l)
  (hf : ∀ a ∈ l, ∀ W, Below w.heap.size w W → Calls Tryz.prog f (#[.agg #[.int .i64 a.n, .int .i64 a.d]] ++ cap) W fun e W' => e = .returned (.bool (p a)) ∧ Below W.heap.size W W') :
  Calls Tryz.prog 73 #[v, .func (.func f) #[] cap] w fun e w' => e = .returned (.int .i64 (zc2 p l)) ∧ Below w.heap.size w w' := by
 obtain ⟨A, c, rfl, hm, hc, hA⟩ := hv
 unfold maxLen at hm
 unfold Ent at hent
 have HF := Lib.hid hf
 clear hf
 have HA := Lib.hid hA
 clear hA
 refine zc3 fun R hR => ?_
 have HR := Lib.hid hR
 clear hR
 go_enter Tryz.func73, Tryz.ntmps73
 go_wp2
 go_loopw [8] (fun i wr => ∃ k : Nat, k ≤ l.length ∧ i = .int .i64 k ∧ (∀ j a, j < k → l[j]? = some a → p a = false) ∧ Below w.heap.size w wr) (fun i _ => l.length - (intOf i).toNat)
 case atStart => exact ⟨0, Nat.zero_le _, rfl, fun j a h => absurd h xd, Below.refl _ _⟩
 case round =>
  obtain ⟨k, hk, rfl, hno, hb⟩ := hrel
  have HNO := Lib.hid hno
  have HB := Lib.hid hb
  clear hno hb
  by_cases hlt : k < l.length
  ·
   obtain ⟨b, off, rfl, hbB, hcell⟩ := HA.out xd
   obtain ⟨a, ha⟩ : ∃ a, l[k]? = some a := ⟨_, List.getElem?_eq_getElem hlt⟩
   have hc1 : wr.cell? ⟨b, off + k * 2, none⟩ = some (.int .i64 a.n) := (HB.out.cell hbB).trans (hcell k a ha).1
   have hc2 : wr.cell? ⟨b, off + k * 2 + 1, none⟩ = some (.int .i64 a.d) := (HB.out.cell hbB).trans (hcell k a ha).2
   have HA2 := Lib.hid ha
   clear ha hcell
   go_wp2_with fail
   refine (HF.out a (List.mem_of_getElem? HA2.out) _ HB.out).mono ?_
   rintro e w1 ⟨rfl, hb1⟩
   have HB1 := Lib.hid hb1
   clear hb1
   cases hp : p a with
   | true =>
    have HP := Lib.hid hp
    clear hp
    go_wp2
    exact HR.out _ _ ⟨ret_int (firstAt_some HA2.out HP.out HNO.out).symm, HB.out.trans (HB1.out.mono HB.out.size)⟩
   | false =>
    have HP := Lib.hid hp
    clear hp
    go_wp2
    go_roundw
    case rel => exact ⟨k + 1, by omega, by go_num, snoc_no HNO.out HA2.out HP.out, HB.out.trans (HB1.out.mono HB.out.size)⟩
    case measure => simp [intOf]; omega
  ·
   go_wp2
   have hkl : k = l.length := by omega
   exact HR.out _ _ ⟨ret_int (firstAt_none (by rw [← hkl]; exact HNO.out)).symm, HB.out⟩
set_option maxHeartbeats 400000 in
theorem containsFuncF_any (f : FuncId) (hent : Ent f) (cap : Array Value) (p : Fr → Bool) (l : List Fr) (v : Value) (w : World) (hv : RdB w w.heap.size v l)
  (hf : ∀ a ∈ l, ∀ W, Below w.heap.size w W → Calls Tryz.prog f (#[.agg #[.int .i64 a.n, .int .i64 a.d]] ++ cap) W fun e W' => e = .returned (.bool (p a)) ∧ Below W.heap.size W W') :
  Calls Tryz.prog 50 #[v, .func (.func f) #[] cap] w fun e w' => e = .returned (.bool (l.any p)) ∧ Below w.heap.size w w' := by
 have HC := Lib.hid (indexFuncF_any f hent cap p l v w hv hf)
 clear hf hent hv
 refine zc3 fun R hR => ?_
 have HR := Lib.hid hR
 clear hR
 go_enter Tryz.func50, Tryz.ntmps50
 go_wp2_with fail
 refine HC.out.mono ?_
 rintro e w1 ⟨rfl, hb1⟩
 have HB1 := Lib.hid hb1
 clear hb1
 go_wp2
 exact HR.out _ _ ⟨congrArg (fun b => Ending.returned (.bool b)) (firstAt_any p l), HB1.out⟩
theorem ent_valid1 : Ent 100 := ent_of Tryz.func100 xi rfl
set_option maxHeartbeats 400000 in
theorem valid1_any (a : Fr) (w : World) :
  Calls Tryz.prog 100 #[.agg #[.int .i64 a.n, .int .i64 a.d]] w fun e w' => e = .returned (.bool (!a.okB)) ∧ Below w.heap.size w w' := by
 refine zc3 fun R hR => ?_
 have HR := Lib.hid hR
 clear hR
 go_enter Tryz.func100, Tryz.ntmps100
 go_wp2_with fail
 refine (fracValid_any a _).mono ?_
 rintro e w1 ⟨rfl, hb1⟩
 have HB1 := Lib.hid hb1
 clear hb1
 go_wp2
 exact HR.out _ _ ⟨rfl, ((Below.refl _ _).alloc (Nat.le_refl _) _).trans (HB1.out.mono xo)⟩
set_option maxHeartbeats 400000 in
theorem valid_any (l : List Fr) (v : Value) (w : World) (hv : RdB w w.heap.size v l) :
  Calls Tryz.prog 70 #[v] w fun e w' => e = .returned (.bool (l.all Fr.okB)) ∧ Below w.heap.size w w' := by
 have HC := Lib.hid (containsFuncF_any 100 ent_valid1 #[] (fun a => !a.okB) l v w hv (fun a _ W _ => valid1_any a W))
 clear hv
 refine zc3 fun R hR => ?_
 have HR := Lib.hid hR
 clear hR
 go_enter Tryz.func70, Tryz.ntmps70
 go_wp2_with fail
 refine HC.out.mono ?_
 rintro e w1 ⟨rfl, hb1⟩
 have HB1 := Lib.hid hb1
 clear hb1
 go_wp2
 refine HR.out _ _ ⟨congrArg (fun b => Ending.returned (.bool b)) ?_, HB1.out⟩
 simp [List.all_eq_not_any_not]
end Go.Proofs.YtllkbjcemecmjaaGreat
end
section
namespace Go.Proofs.YtllkbjcemecmjaaGreat
open Go.RowKit
theorem RdB_two {W : World} {n : Nat} {a b : Fr} (h0 : W.cell? ⟨n, 0, none⟩ = some (.int .i64 a.n)) (h1 : W.cell? ⟨n, 1, none⟩ = some (.int .i64 a.d)) (h2 : W.cell? ⟨n, 2, none⟩ = some (.int .i64 b.n)) (h3 : W.cell? ⟨n, 3, none⟩ = some (.int .i64 b.d)) (hn : n < W.heap.size) :
  RdB W W.heap.size (.slice (some ⟨n, 0, none⟩) 2 2) [a, b] := by
 refine ⟨_, 2, rfl, by simp [maxLen], by simp, fun _ => ⟨_, _, rfl, hn, ?_⟩⟩
 intro i c hc
 match i, hc with
 | 0, hc => simp at hc; subst hc; exact ⟨h0, h1⟩
 | 1, hc => simp at hc; subst hc; exact ⟨h2, h3⟩
 | i + 2, hc => simp at hc
theorem fit_int (neg : Bool) (num den n : Int) (w : World) (h0 : 0 ≤ num) (hd : 0 < den) (h1 : num ≤ 9223372036854775808) (h2 : den ≤ 9223372036854775808) (hn : (if neg then -num else num) = n) :
  Calls Tryz.prog 71 #[.bool neg, .int .u64 num, .int .u64 den] w fun e w' => e = .returned (.tuple #[.agg #[.int .i64 (FE.of (mkF n den)).n, .int .i64 (FE.of (mkF n den)).d], .int .i64 (FE.of (mkF n den)).e]) ∧ Below w.heap.size w w' := by
 obtain ⟨a, rfl⟩ := Int.eq_ofNat_of_zero_le h0
 obtain ⟨b, rfl⟩ := Int.eq_ofNat_of_zero_le (Int.le_of_lt hd)
 subst hn
 exact fit_any neg a b w xd xd xd
set_option maxHeartbeats 2000000 in
theorem add_any (a b : Fr) (w : World) :
  Calls Tryz.prog 77 #[.agg #[.int .i64 (a).n, .int .i64 (a).d], .agg #[.int .i64 (b).n, .int .i64 (b).d]] w fun e w' =>
   e = .returned (.tuple #[.agg #[.int .i64 (addE a b).n, .int .i64 (addE a b).d], .int .i64 (addE a b).e]) ∧ Below w.heap.size w w' := by
 refine zc3 fun R hR => ?_
 have HR := Lib.hid hR
 clear hR
 go_enter Tryz.func77, Tryz.ntmps77
 go_wp2_with fail
 refine (valid_any [a, b] _ _ (RdB_two (by simp [go_sem]) (by simp [go_sem]) (by simp [go_sem]) (by simp [go_sem]) xo)).mono ?_
 rintro e w1 ⟨rfl, hb1⟩
 obtain ⟨p1, p2, p3, p4, p5⟩ := B2.after (g := w.heap.size) (x := .int .i64 a.n) (y := .int .i64 a.d) hb1 (by simp [B2, go_sem]) xl
 obtain ⟨q1, q2, q3, q4, q5⟩ := B2.after (g := w.heap.size + 1) (x := .int .i64 b.n) (y := .int .i64 b.d) hb1 (by simp [B2, go_sem]) xl
 have K2 := B2.after (g := w.heap.size + 1 + 1) (x := .int .i64 0) (y := .int .i64 0) hb1 (by simp [B2, go_sem]) xl
 have HB : Hid (Below w.heap.size w w1) := Lib.hid (by refine Below.step ?_ hb1 (by first | omega | (simp; done) | (simp; omega)); (repeat (first | exact Below.refl _ _ | assumption | refine Below.setCell ?_ (by first | omega | (simp; done) | (simp; omega)) _ | refine Below.alloc ?_ (by first | omega | (simp; done) | (simp; omega)) _ | refine Below.drew ?_ | refine below_drewN ?_ _)))
 clear hb1
 cases hv : a.okB && b.okB with
 | false =>
  have hv' : [a, b].all Fr.okB = false := by simpa using hv
  have HV := Lib.hid hv
  clear hv
  obtain ⟨k1, k2, k3, k4, k5⟩ := K2
  go_wp2
  refine bodyPost_ret (v := .tuple #[.agg #[.int .i64 0, .int .i64 0], .int .i64 1]) (by simp [results, Tryz.results77, go_sem, k1, k2]) rfl (HR.out _ _ ⟨?_, ?_⟩)
  ·
   simp [addE, HV.out, FE.err]
  ·
   have := HB.out; (repeat (first | exact Below.refl _ _ | assumption | refine Below.setCell ?_ (by first | omega | (simp; done) | (simp; omega)) _ | refine Below.alloc ?_ (by first | omega | (simp; done) | (simp; omega)) _ | refine Below.drew ?_ | refine below_drewN ?_ _))
 | true =>
  have hv' : [a, b].all Fr.okB = true := by simpa using hv
  have HV := Lib.hid hv
  have hv2 : a.ok ∧ b.ok := by simpa [Fr.okB] using hv
  obtain ⟨hva, hvb⟩ := hv2
  have ⟨a1, a2, a3, a4, _⟩ := hva
  have ⟨b1, b2, b3, b4, _⟩ := hvb
  have HL := Lib.hid (fadd_lcm a b hva)
  have hg0 : 0 < (Int.gcd a.d b.d : Int) := by have := Int.gcd_pos_iff.2 (Or.inl (show a.d ≠ 0 by omega) : a.d ≠ 0 ∨ b.d ≠ 0); omega
  have hqa := div_bd a.d _ a3 hg0 (Int.gcd_dvd_left ..)
  have hqb := div_bd b.d _ b3 hg0 (Int.gcd_dvd_right ..)
  clear hv hva hvb
  go_wp2_with fail
  refine (gcd_any _ _ _ xd xd xd xd).mono ?_
  rintro e w2 ⟨rfl, n2, rfl⟩
  generalize (Int.gcd a.d b.d : Int) = g at *
  obtain ⟨qa, hqa'⟩ : ∃ q, a.d / g = q := ⟨_, rfl⟩
  obtain ⟨qb, hqb'⟩ : ∃ q, b.d / g = q := ⟨_, rfl⟩
  obtain ⟨x, hx⟩ : ∃ x, a.n * qb = x := ⟨_, rfl⟩
  obtain ⟨y, hy⟩ : ∃ y, b.n * qa = y := ⟨_, rfl⟩
  obtain ⟨z, hz'⟩ : ∃ z, a.d * qb = z := ⟨_, rfl⟩
  have HL2 : Hid (mkF (x + y) z = fadd a b) := Lib.hid (by rw [← hx, ← hy, ← hz', ← hqa', ← hqb']; exact HL.out)
  rw [hqa'] at hqa
  rw [hqb'] at hqb
  have bx := mul_bd a.n qb a1 a2 xd xd
  have bY := mul_bd b.n qa b1 b2 xd xd
  have bz := mul_bd a.d qb xd a4 xd xd
  have bz2 : 0 < a.d * qb := Int.mul_pos xd xd
  rw [hx] at bx
  rw [hy] at bY
  rw [hz'] at bz bz2
  have gz : (g == 0) = false := by simp; omega
  clear HL
  go_wp2
  go_quiet (fail)
  go_wp2
  go_quiet (fail)
  clear hx hy hz' hqa' hqb' gz hg0
  by_cases hx0 : x < 0 <;> by_cases hy0 : y < 0
  ·
   have hs : (decide (x < 0) == decide (y < 0)) = true := by simp [hx0, hy0]
   have wm : IntKind.u64.wrap ((x.natAbs : Int) + (y.natAbs : Int)) = -(x + y) := by rw [IntKind.wrap_u64]; omega
   all_goals
    go_wp2_with (first | (go_at_call 72; refine (abs_any _ _ (by omega) (by omega)).mono ?_; rintro e w' ⟨rfl, rfl⟩) | (go_at_call 71; refine (fit_int _ _ _ (x + y) _ (by omega) (by omega) (by omega) (by omega) (by first | (simp; done) | (simp; omega))).mono ?_; rintro e w3 ⟨rfl, hb3⟩; obtain ⟨k1, k2, k3, k4, k5⟩ := B2.after hb3 K2 (by have := K2.2.2.2.2; simp; omega); have HB3 := Lib.hid hb3; clear hb3))
    refine bodyPost_ret (v := .tuple #[.agg #[.int .i64 (FE.of (mkF (x + y) z)).n, .int .i64 (FE.of (mkF (x + y) z)).d], .int .i64 (FE.of (mkF (x + y) z)).e]) (by simp [results, Tryz.results77, go_sem, k1, k2]) rfl (HR.out _ _ ⟨?_, ?_⟩)
    ·
     rw [HL2.out]; simp [addE, HV.out]
    ·
     have := Below.step (below_drewN HB.out _) HB3.out (by simp; omega); (repeat (first | exact Below.refl _ _ | assumption | refine Below.setCell ?_ (by first | omega | (simp; done) | (simp; omega)) _ | refine Below.alloc ?_ (by first | omega | (simp; done) | (simp; omega)) _ | refine Below.drew ?_ | refine below_drewN ?_ _))
  ·
   have hs : (decide (x < 0) == decide (y < 0)) = false := by simp [hx0, hy0]
   by_cases hxy : x + y < 0
   all_goals
    go_wp2_with (first | (go_at_call 72; refine (abs_any _ _ (by omega) (by omega)).mono ?_; rintro e w' ⟨rfl, rfl⟩) | (go_at_call 71; refine (fit_int _ _ _ (x + y) _ (by omega) (by omega) (by omega) (by omega) (by first | (simp [hxy]; done) | (simp [hxy]; omega) | (simp; omega))).mono ?_; rintro e w3 ⟨rfl, hb3⟩; obtain ⟨k1, k2, k3, k4, k5⟩ := B2.after hb3 K2 (by have := K2.2.2.2.2; simp; omega); have HB3 := Lib.hid hb3; clear hb3))
    refine bodyPost_ret (v := .tuple #[.agg #[.int .i64 (FE.of (mkF (x + y) z)).n, .int .i64 (FE.of (mkF (x + y) z)).d], .int .i64 (FE.of (mkF (x + y) z)).e]) (by simp [results, Tryz.results77, go_sem, k1, k2]) rfl (HR.out _ _ ⟨?_, ?_⟩)
    ·
     rw [HL2.out]; simp [addE, HV.out]
    ·
     have := Below.step (below_drewN HB.out _) HB3.out (by simp; omega); (repeat (first | exact Below.refl _ _ | assumption | refine Below.setCell ?_ (by first | omega | (simp; done) | (simp; omega)) _ | refine Below.alloc ?_ (by first | omega | (simp; done) | (simp; omega)) _ | refine Below.drew ?_ | refine below_drewN ?_ _))
  ·
   have hs : (decide (x < 0) == decide (y < 0)) = false := by simp [hx0, hy0]
   by_cases hxy : x + y < 0
   all_goals
    go_wp2_with (first | (go_at_call 72; refine (abs_any _ _ (by omega) (by omega)).mono ?_; rintro e w' ⟨rfl, rfl⟩) | (go_at_call 71; refine (fit_int _ _ _ (x + y) _ (by omega) (by omega) (by omega) (by omega) (by first | (simp [hxy]; done) | (simp [hxy]; omega) | (simp; omega))).mono ?_; rintro e w3 ⟨rfl, hb3⟩; obtain ⟨k1, k2, k3, k4, k5⟩ := B2.after hb3 K2 (by have := K2.2.2.2.2; simp; omega); have HB3 := Lib.hid hb3; clear hb3))
    refine bodyPost_ret (v := .tuple #[.agg #[.int .i64 (FE.of (mkF (x + y) z)).n, .int .i64 (FE.of (mkF (x + y) z)).d], .int .i64 (FE.of (mkF (x + y) z)).e]) (by simp [results, Tryz.results77, go_sem, k1, k2]) rfl (HR.out _ _ ⟨?_, ?_⟩)
    ·
     rw [HL2.out]; simp [addE, HV.out]
    ·
     have := Below.step (below_drewN HB.out _) HB3.out (by simp; omega); (repeat (first | exact Below.refl _ _ | assumption | refine Below.setCell ?_ (by first | omega | (simp; done) | (simp; omega)) _ | refine Below.alloc ?_ (by first | omega | (simp; done) | (simp; omega)) _ | refine Below.drew ?_ | refine below_drewN ?_ _))
  ·
   have hs : (decide (x < 0) == decide (y < 0)) = true := by simp [hx0, hy0]
   have wm : IntKind.u64.wrap ((x.natAbs : Int) + (y.natAbs : Int)) = x + y := by rw [IntKind.wrap_u64]; omega
   all_goals
    go_wp2_with (first | (go_at_call 72; refine (abs_any _ _ (by omega) (by omega)).mono ?_; rintro e w' ⟨rfl, rfl⟩) | (go_at_call 71; refine (fit_int _ _ _ (x + y) _ (by omega) (by omega) (by omega) (by omega) (by first | (simp; done) | (simp; omega))).mono ?_; rintro e w3 ⟨rfl, hb3⟩; obtain ⟨k1, k2, k3, k4, k5⟩ := B2.after hb3 K2 (by have := K2.2.2.2.2; simp; omega); have HB3 := Lib.hid hb3; clear hb3))
    refine bodyPost_ret (v := .tuple #[.agg #[.int .i64 (FE.of (mkF (x + y) z)).n, .int .i64 (FE.of (mkF (x + y) z)).d], .int .i64 (FE.of (mkF (x + y) z)).e]) (by simp [results, Tryz.results77, go_sem, k1, k2]) rfl (HR.out _ _ ⟨?_, ?_⟩)
    ·
     rw [HL2.out]; simp [addE, HV.out]
    ·
     have := Below.step (below_drewN HB.out _) HB3.out (by simp; omega); (repeat (first | exact Below.refl _ _ | assumption | refine Below.setCell ?_ (by first | omega | (simp; done) | (simp; omega)) _ | refine Below.alloc ?_ (by first | omega | (simp; done) | (simp; omega)) _ | refine Below.drew ?_ | refine below_drewN ?_ _))
end Go.Proofs.YtllkbjcemecmjaaGreat
end
section
namespace Go.Proofs.YtllkbjcemecmjaaGreat
open Go.RowKit
set_option maxHeartbeats 2000000 in
theorem sub_any (a b : Fr) (w : World) :
  Calls Tryz.prog 76 #[.agg #[.int .i64 (a).n, .int .i64 (a).d], .agg #[.int .i64 (b).n, .int .i64 (b).d]] w fun e w' =>
   e = .returned (.tuple #[.agg #[.int .i64 (subE a b).n, .int .i64 (subE a b).d], .int .i64 (subE a b).e]) ∧ Below w.heap.size w w' := by
 refine zc3 fun R hR => ?_
 have HR := Lib.hid hR
 clear hR
 go_enter Tryz.func76, Tryz.ntmps76
 go_wp2_with fail
 refine (valid_any [a, b] _ _ (RdB_two (by simp [go_sem]) (by simp [go_sem]) (by simp [go_sem]) (by simp [go_sem]) xo)).mono ?_
 rintro e w1 ⟨rfl, hb1⟩
 obtain ⟨p1, p2, p3, p4, p5⟩ := B2.after (g := w.heap.size) (x := .int .i64 a.n) (y := .int .i64 a.d) hb1 (by simp [B2, go_sem]) xl
 obtain ⟨q1, q2, q3, q4, q5⟩ := B2.after (g := w.heap.size + 1) (x := .int .i64 b.n) (y := .int .i64 b.d) hb1 (by simp [B2, go_sem]) xl
 obtain ⟨k1, k2, k3, k4, k5⟩ := B2.after (g := w.heap.size + 1 + 1) (x := .int .i64 0) (y := .int .i64 0) hb1 (by simp [B2, go_sem]) xl
 have HB : Hid (Below w.heap.size w w1) := Lib.hid (by refine Below.step ?_ hb1 (by first | omega | (simp; done) | (simp; omega)); (repeat (first | exact Below.refl _ _ | assumption | refine Below.setCell ?_ (by first | omega | (simp; done) | (simp; omega)) _ | refine Below.alloc ?_ (by first | omega | (simp; done) | (simp; omega)) _ | refine Below.drew ?_ | refine below_drewN ?_ _)))
 clear hb1
 cases hv : a.okB && b.okB with
 | false =>
  have hv' : [a, b].all Fr.okB = false := by simpa using hv
  have HV := Lib.hid hv
  clear hv
  go_wp2
  refine bodyPost_ret (v := .tuple #[.agg #[.int .i64 0, .int .i64 0], .int .i64 1]) (by simp [results, Tryz.results76, go_sem, k1, k2]) rfl (HR.out _ _ ⟨?_, ?_⟩)
  ·
   simp [subE, HV.out, FE.err]
  ·
   have := HB.out; (repeat (first | exact Below.refl _ _ | assumption | refine Below.setCell ?_ (by first | omega | (simp; done) | (simp; omega)) _ | refine Below.alloc ?_ (by first | omega | (simp; done) | (simp; omega)) _ | refine Below.drew ?_ | refine below_drewN ?_ _))
 | true =>
  have hv' : [a, b].all Fr.okB = true := by simpa using hv
  have HV := Lib.hid hv
  have hv2 : a.ok ∧ b.ok := by simpa [Fr.okB] using hv
  obtain ⟨hva, hvb⟩ := hv2
  have ⟨a1, a2, a3, a4, _⟩ := hva
  have ⟨b1, b2, b3, b4, _⟩ := hvb
  clear hv
  have HS : Hid (addE a (fneg b) = subE a b) := Lib.hid (by simp [addE, subE, fsub, Fr.okB_of hva, Fr.okB_of hvb, Fr.okB_of (fneg_ok hvb)])
  clear hva hvb
  go_wp2_with fail
  refine (add_any a (fneg b) _).mono ?_
  rintro e w3 ⟨rfl, hb3⟩
  obtain ⟨g1, g2, g3, g4, g5⟩ := B2.after (g := w.heap.size + 1 + 1) (x := .int .i64 0) (y := .int .i64 0) hb3 (by simp [B2, go_sem, k1, k2, k3, k4, k5]) xl
  have HB3 : Hid (Below w.heap.size w w3) := Lib.hid (by refine Below.step ?_ hb3 (by simp; omega); have := HB.out; (repeat (first | exact Below.refl _ _ | assumption | refine Below.setCell ?_ (by first | omega | (simp; done) | (simp; omega)) _ | refine Below.alloc ?_ (by first | omega | (simp; done) | (simp; omega)) _ | refine Below.drew ?_ | refine below_drewN ?_ _)))
  clear hb3
  go_wp2
  refine bodyPost_ret (v := .tuple #[.agg #[.int .i64 (addE a (fneg b)).n, .int .i64 (addE a (fneg b)).d], .int .i64 (addE a (fneg b)).e]) (by simp [results, Tryz.results76, go_sem, g1, g2]) rfl (HR.out _ _ ⟨?_, ?_⟩)
  ·
   rw [HS.out]
  ·
   have := HB3.out; (repeat (first | exact Below.refl _ _ | assumption | refine Below.setCell ?_ (by first | omega | (simp; done) | (simp; omega)) _ | refine Below.alloc ?_ (by first | omega | (simp; done) | (simp; omega)) _ | refine Below.drew ?_ | refine below_drewN ?_ _))
set_option maxHeartbeats 4000000 in
theorem mul_any (a b : Fr) (w : World) :
  Calls Tryz.prog 49 #[.agg #[.int .i64 (a).n, .int .i64 (a).d], .agg #[.int .i64 (b).n, .int .i64 (b).d]] w fun e w' =>
   e = .returned (.tuple #[.agg #[.int .i64 (mulE a b).n, .int .i64 (mulE a b).d], .int .i64 (mulE a b).e]) ∧ Below w.heap.size w w' := by
 refine zc3 fun R hR => ?_
 have HR := Lib.hid hR
 clear hR
 go_enter Tryz.func49, Tryz.ntmps49
 go_wp2_with fail
 refine (valid_any [a, b] _ _ (RdB_two (by simp [go_sem]) (by simp [go_sem]) (by simp [go_sem]) (by simp [go_sem]) xo)).mono ?_
 rintro e w1 ⟨rfl, hb1⟩
 obtain ⟨p1, p2, p3, p4, p5⟩ := B2.after (g := w.heap.size) (x := .int .i64 a.n) (y := .int .i64 a.d) hb1 (by simp [B2, go_sem]) xl
 obtain ⟨q1, q2, q3, q4, q5⟩ := B2.after (g := w.heap.size + 1) (x := .int .i64 b.n) (y := .int .i64 b.d) hb1 (by simp [B2, go_sem]) xl
 obtain ⟨k1, k2, k3, k4, k5⟩ := B2.after (g := w.heap.size + 1 + 1) (x := .int .i64 0) (y := .int .i64 0) hb1 (by simp [B2, go_sem]) xl
 have HB : Hid (Below w.heap.size w w1) := Lib.hid (by refine Below.step ?_ hb1 (by first | omega | (simp; done) | (simp; omega)); (repeat (first | exact Below.refl _ _ | assumption | refine Below.setCell ?_ (by first | omega | (simp; done) | (simp; omega)) _ | refine Below.alloc ?_ (by first | omega | (simp; done) | (simp; omega)) _ | refine Below.drew ?_ | refine below_drewN ?_ _)))
 clear hb1
 cases hv : a.okB && b.okB with
 | false =>
  have hv' : [a, b].all Fr.okB = false := by simpa using hv
  have HV := Lib.hid hv
  clear hv
  go_wp2
  refine bodyPost_ret (v := .tuple #[.agg #[.int .i64 0, .int .i64 0], .int .i64 1]) (by simp [results, Tryz.results49, go_sem, k1, k2]) rfl (HR.out _ _ ⟨?_, ?_⟩)
  ·
   simp [mulE, HV.out, FE.err]
  ·
   have := HB.out; (repeat (first | exact Below.refl _ _ | assumption | refine Below.setCell ?_ (by first | omega | (simp; done) | (simp; omega)) _ | refine Below.alloc ?_ (by first | omega | (simp; done) | (simp; omega)) _ | refine Below.drew ?_ | refine below_drewN ?_ _))
 | true =>
  have hv' : [a, b].all Fr.okB = true := by simpa using hv
  have HV := Lib.hid hv
  have hv2 : a.ok ∧ b.ok := by simpa [Fr.okB] using hv
  obtain ⟨hva, hvb⟩ := hv2
  have ⟨a1, a2, a3, a4, _⟩ := hva
  have ⟨b1, b2, b3, b4, _⟩ := hvb
  clear hv
  have bm := mul_bd (a.n.natAbs : Int) (b.n.natAbs : Int) xd xd xd xd
  have bm0 : 0 ≤ (a.n.natAbs : Int) * (b.n.natAbs : Int) := Int.mul_nonneg xd xd
  have bz := mul_bd a.d b.d xd a4 xd b4
  have bz2 : 0 < a.d * b.d := Int.mul_pos xd xd
  have HM : Hid ((if (decide (a.n < 0) != decide (b.n < 0)) then -((a.n.natAbs : Int) * (b.n.natAbs : Int)) else (a.n.natAbs : Int) * (b.n.natAbs : Int)) = a.n * b.n) := Lib.hid (sign_mul a.n b.n)
  obtain ⟨m, hm⟩ : ∃ m, (a.n.natAbs : Int) * (b.n.natAbs : Int) = m := ⟨_, rfl⟩
  obtain ⟨z, hz⟩ : ∃ z, a.d * b.d = z := ⟨_, rfl⟩
  rw [hm] at bm bm0 HM
  rw [hz] at bz bz2
  have wm : IntKind.u64.wrap ((a.n.natAbs : Int) * (b.n.natAbs : Int)) = m := by rw [hm, IntKind.wrap_u64]; omega
  have wz : IntKind.u64.wrap (a.d * b.d) = z := by rw [hz, IntKind.wrap_u64]; omega
  have wa : IntKind.u64.wrap a.d = a.d := by rw [IntKind.wrap_u64]; omega
  have wb : IntKind.u64.wrap b.d = b.d := by rw [IntKind.wrap_u64]; omega
  have HZ := Lib.hid hz
  clear hm hz hva hvb
  go_wp2
  go_region_held3 (fun W => W.cell? ⟨w.heap.size, 0, none⟩ = some (.int .i64 a.n) ∧ W.cell? ⟨w.heap.size, 1, none⟩ = some (.int .i64 a.d) ∧ W.cell? ⟨w.heap.size + 1, 0, none⟩ = some (.int .i64 b.n) ∧ W.cell? ⟨w.heap.size + 1, 1, none⟩ = some (.int .i64 b.d)) (first | exact ⟨p1, p2, q1, q2⟩ | assumption | exact ⟨x1, x2, y1, y2⟩ | exact ⟨cell_set2 x1 (by omega), cell_set2 x2 (by omega), cell_set2 y1 (by omega), cell_set2 y2 (by omega)⟩)
   (first | (go_at_call 72; refine (abs_any _ _ (by omega) (by omega)).mono ?_; rintro e w' ⟨rfl, rfl⟩) | (go_at_call 71; refine (fit_int _ _ _ (a.n * b.n) _ (by omega) (by omega) (by omega) (by omega) HM.out).mono ?_; rintro e w3 ⟨rfl, hb3⟩; obtain ⟨x1, x2, x3, x4, x5⟩ := B2.after hb3 (g := w.heap.size) ⟨p1, p2, p3, p4, p5⟩ (by simp; omega); obtain ⟨y1, y2, y3, y4, y5⟩ := B2.after hb3 (g := w.heap.size + 1) ⟨q1, q2, q3, q4, q5⟩ (by simp; omega); obtain ⟨z1, z2, z3, z4, z5⟩ := B2.after hb3 (g := w.heap.size + 1 + 1) ⟨k1, k2, k3, k4, k5⟩ (by simp; omega); have HB3 := Lib.hid (Below.step HB.out.drew hb3 (by simp; omega)); clear hb3))
  go_wp2
  refine bodyPost_ret (v := .tuple #[.agg #[.int .i64 (FE.of (mkF (a.n * b.n) z)).n, .int .i64 (FE.of (mkF (a.n * b.n) z)).d], .int .i64 (FE.of (mkF (a.n * b.n) z)).e]) (by simp [results, Tryz.results49, go_sem, z1, z2]) rfl (HR.out _ _ ⟨?_, ?_⟩)
  ·
   simp [mulE, HV.out, fmul, HZ.out]
  ·
   have := HB3.out; (repeat (first | exact Below.refl _ _ | assumption | refine Below.setCell ?_ (by first | omega | (simp; done) | (simp; omega)) _ | refine Below.alloc ?_ (by first | omega | (simp; done) | (simp; omega)) _ | refine Below.drew ?_ | refine below_drewN ?_ _))
set_option maxHeartbeats 4000000 in
theorem div_any (a b : Fr) (w : World) :
  Calls Tryz.prog 106 #[.agg #[.int .i64 (a).n, .int .i64 (a).d], .agg #[.int .i64 (b).n, .int .i64 (b).d]] w fun e w' =>
   e = .returned (.tuple #[.agg #[.int .i64 (divE a b).n, .int .i64 (divE a b).d], .int .i64 (divE a b).e]) ∧ Below w.heap.size w w' := by
 refine zc3 fun R hR => ?_
 have HR := Lib.hid hR
 clear hR
 go_enter Tryz.func106, Tryz.ntmps106
 go_wp2_with fail
 refine (valid_any [a, b] _ _ (RdB_two (by simp [go_sem]) (by simp [go_sem]) (by simp [go_sem]) (by simp [go_sem]) xo)).mono ?_
 rintro e w1 ⟨rfl, hb1⟩
 obtain ⟨p1, p2, p3, p4, p5⟩ := B2.after (g := w.heap.size) (x := .int .i64 a.n) (y := .int .i64 a.d) hb1 (by simp [B2, go_sem]) xl
 obtain ⟨q1, q2, q3, q4, q5⟩ := B2.after (g := w.heap.size + 1) (x := .int .i64 b.n) (y := .int .i64 b.d) hb1 (by simp [B2, go_sem]) xl
 obtain ⟨k1, k2, k3, k4, k5⟩ := B2.after (g := w.heap.size + 1 + 1) (x := .int .i64 0) (y := .int .i64 0) hb1 (by simp [B2, go_sem]) xl
 have HB : Hid (Below w.heap.size w w1) := Lib.hid (by refine Below.step ?_ hb1 (by first | omega | (simp; done) | (simp; omega)); (repeat (first | exact Below.refl _ _ | assumption | refine Below.setCell ?_ (by first | omega | (simp; done) | (simp; omega)) _ | refine Below.alloc ?_ (by first | omega | (simp; done) | (simp; omega)) _ | refine Below.drew ?_ | refine below_drewN ?_ _)))
 clear hb1
 cases hv : a.okB && b.okB with
 | false =>
  have hv' : [a, b].all Fr.okB = false := by simpa using hv
  have HV := Lib.hid hv
  clear hv
  go_wp2
  refine bodyPost_ret (v := .tuple #[.agg #[.int .i64 0, .int .i64 0], .int .i64 1]) (by simp [results, Tryz.results106, go_sem, k1, k2]) rfl (HR.out _ _ ⟨?_, ?_⟩)
  ·
   simp [divE, HV.out, FE.err]
  ·
   have := HB.out; (repeat (first | exact Below.refl _ _ | assumption | refine Below.setCell ?_ (by first | omega | (simp; done) | (simp; omega)) _ | refine Below.alloc ?_ (by first | omega | (simp; done) | (simp; omega)) _ | refine Below.drew ?_ | refine below_drewN ?_ _))
 | true =>
  have hv' : [a, b].all Fr.okB = true := by simpa using hv
  have HV := Lib.hid hv
  have hv2 : a.ok ∧ b.ok := by simpa [Fr.okB] using hv
  obtain ⟨hva, hvb⟩ := hv2
  have ⟨a1, a2, a3, a4, _⟩ := hva
  have ⟨b1, b2, b3, b4, _⟩ := hvb
  clear hv
  by_cases hz0 : b.n = 0
  ·
   have hz1 : (b.n == 0) = true := by simpa using hz0
   have HZ0 := Lib.hid hz0
   clear hz0
   go_wp2
   refine bodyPost_ret (v := .tuple #[.agg #[.int .i64 0, .int .i64 0], .int .i64 7]) (by simp [results, Tryz.results106, go_sem, k1, k2]) rfl (HR.out _ _ ⟨?_, ?_⟩)
   ·
    simp [divE, HV.out, FE.err, HZ0.out]
   ·
    have := HB.out; (repeat (first | exact Below.refl _ _ | assumption | refine Below.setCell ?_ (by first | omega | (simp; done) | (simp; omega)) _ | refine Below.alloc ?_ (by first | omega | (simp; done) | (simp; omega)) _ | refine Below.drew ?_ | refine below_drewN ?_ _))
  have hz1 : (b.n == 0) = false := by simpa using hz0
  have bm := mul_bd (a.n.natAbs : Int) b.d xd xd xd xd
  have bm0 : 0 ≤ (a.n.natAbs : Int) * b.d := Int.mul_nonneg xd xd
  have bz := mul_bd a.d (b.n.natAbs : Int) xd a4 xd xd
  have bz2 : 0 < a.d * (b.n.natAbs : Int) := Int.mul_pos xd xd
  obtain ⟨nn, hnn⟩ : ∃ nn, (if (decide (a.n < 0) != decide (b.n < 0)) then -((a.n.natAbs : Int) * b.d) else (a.n.natAbs : Int) * b.d) = nn := ⟨_, rfl⟩
  have HD := Lib.hid (fdiv_sign a b nn hnn)
  have HM := Lib.hid hnn
  obtain ⟨m, hm⟩ : ∃ m, (a.n.natAbs : Int) * b.d = m := ⟨_, rfl⟩
  obtain ⟨z, hz⟩ : ∃ z, a.d * (b.n.natAbs : Int) = z := ⟨_, rfl⟩
  rw [hm] at bm bm0 HM
  rw [hz] at bz bz2 HD
  have wm : IntKind.u64.wrap ((a.n.natAbs : Int) * b.d) = m := by rw [hm, IntKind.wrap_u64]; omega
  have wz : IntKind.u64.wrap (a.d * (b.n.natAbs : Int)) = z := by rw [hz, IntKind.wrap_u64]; omega
  have wa : IntKind.u64.wrap a.d = a.d := by rw [IntKind.wrap_u64]; omega
  have wb : IntKind.u64.wrap b.d = b.d := by rw [IntKind.wrap_u64]; omega
  have HZ0 := Lib.hid hz0
  clear hm hz hva hvb hnn hz0
  go_wp2
  go_region_held3 (fun W => W.cell? ⟨w.heap.size, 0, none⟩ = some (.int .i64 a.n) ∧ W.cell? ⟨w.heap.size, 1, none⟩ = some (.int .i64 a.d) ∧ W.cell? ⟨w.heap.size + 1, 0, none⟩ = some (.int .i64 b.n) ∧ W.cell? ⟨w.heap.size + 1, 1, none⟩ = some (.int .i64 b.d)) (first | exact ⟨p1, p2, q1, q2⟩ | assumption | exact ⟨x1, x2, y1, y2⟩ | exact ⟨cell_set2 x1 (by omega), cell_set2 x2 (by omega), cell_set2 y1 (by omega), cell_set2 y2 (by omega)⟩)
   (first | (go_at_call 72; refine (abs_any _ _ (by omega) (by omega)).mono ?_; rintro e w' ⟨rfl, rfl⟩) | (go_at_call 71; refine (fit_int _ _ _ (nn) _ (by omega) (by omega) (by omega) (by omega) HM.out).mono ?_; rintro e w3 ⟨rfl, hb3⟩; obtain ⟨x1, x2, x3, x4, x5⟩ := B2.after hb3 (g := w.heap.size) ⟨p1, p2, p3, p4, p5⟩ (by simp; omega); obtain ⟨y1, y2, y3, y4, y5⟩ := B2.after hb3 (g := w.heap.size + 1) ⟨q1, q2, q3, q4, q5⟩ (by simp; omega); obtain ⟨z1, z2, z3, z4, z5⟩ := B2.after hb3 (g := w.heap.size + 1 + 1) ⟨k1, k2, k3, k4, k5⟩ (by simp; omega); have HB3 := Lib.hid (Below.step HB.out.drew hb3 (by simp; omega)); clear hb3))
  go_wp2
  refine bodyPost_ret (v := .tuple #[.agg #[.int .i64 (FE.of (mkF (nn) z)).n, .int .i64 (FE.of (mkF (nn) z)).d], .int .i64 (FE.of (mkF (nn) z)).e]) (by simp [results, Tryz.results106, go_sem, z1, z2]) rfl (HR.out _ _ ⟨?_, ?_⟩)
  ·
   simp [divE, HV.out, HD.out, HZ0.out]
  ·
   have := HB3.out; (repeat (first | exact Below.refl _ _ | assumption | refine Below.setCell ?_ (by first | omega | (simp; done) | (simp; omega)) _ | refine Below.alloc ?_ (by first | omega | (simp; done) | (simp; omega)) _ | refine Below.drew ?_ | refine below_drewN ?_ _))
set_option maxHeartbeats 4000000 in
theorem cmp_any (a b : Fr) (w : World) :
  Calls Tryz.prog 54 #[.agg #[.int .i64 (a).n, .int .i64 (a).d], .agg #[.int .i64 (b).n, .int .i64 (b).d]] w fun e w' =>
   e = .returned (.tuple #[.int .i64 (if a.okB && b.okB then cmpN a b else 0), .int .i64 (if a.okB && b.okB then 0 else 1)]) ∧ Below w.heap.size w w' := by
 refine zc3 fun R hR => ?_
 have HR := Lib.hid hR
 clear hR
 go_enter Tryz.func54, Tryz.ntmps54
 go_wp2_with fail
 refine (valid_any [a, b] _ _ (RdB_two (by simp [go_sem]) (by simp [go_sem]) (by simp [go_sem]) (by simp [go_sem]) xo)).mono ?_
 rintro e w1 ⟨rfl, hb1⟩
 obtain ⟨p1, p2, p3, p4, p5⟩ := B2.after (g := w.heap.size) (x := .int .i64 a.n) (y := .int .i64 a.d) hb1 (by simp [B2, go_sem]) xl
 obtain ⟨q1, q2, q3, q4, q5⟩ := B2.after (g := w.heap.size + 1) (x := .int .i64 b.n) (y := .int .i64 b.d) hb1 (by simp [B2, go_sem]) xl
 have HB : Hid (Below w.heap.size w w1) := Lib.hid (by refine Below.step ?_ hb1 (by first | omega | (simp; done) | (simp; omega)); (repeat (first | exact Below.refl _ _ | assumption | refine Below.setCell ?_ (by first | omega | (simp; done) | (simp; omega)) _ | refine Below.alloc ?_ (by first | omega | (simp; done) | (simp; omega)) _ | refine Below.drew ?_ | refine below_drewN ?_ _)))
 clear hb1
 cases hv : a.okB && b.okB with
 | false =>
  have hv' : [a, b].all Fr.okB = false := by simpa using hv
  have HV := Lib.hid hv
  clear hv
  go_wp2
  refine HR.out _ _ ⟨?_, HB.out⟩
  simp [HV.out]
 | true =>
  have hv' : [a, b].all Fr.okB = true := by simpa using hv
  have HV := Lib.hid hv
  have hv2 : a.ok ∧ b.ok := by simpa [Fr.okB] using hv
  obtain ⟨hva, hvb⟩ := hv2
  have ⟨a1, a2, a3, a4, _⟩ := hva
  have ⟨b1, b2, b3, b4, _⟩ := hvb
  clear hv
  have bx := mul_bd a.n b.d a1 a2 xd xd
  have bY := mul_bd b.n a.d b1 b2 xd xd
  have HC : Hid (cmpN a b = if a.n * b.d < b.n * a.d then -1 else if a.n * b.d > b.n * a.d then 1 else 0) := Lib.hid rfl
  obtain ⟨x, hx⟩ : ∃ x, a.n * b.d = x := ⟨_, rfl⟩
  obtain ⟨y, hy⟩ : ∃ y, b.n * a.d = y := ⟨_, rfl⟩
  rw [hx] at bx HC
  rw [hy] at bY HC
  clear hva hvb
  go_wp2
  go_quiet (fail)
  clear hx hy
  rcases Int.lt_trichotomy x y with h | h | h
  ·
   have HCV : Hid (cmpN a b = -1) := Lib.hid (by rw [HC.out, if_pos h])
   go_wp2
   exact HR.out _ _ ⟨by rw [HCV.out, HV.out]; rfl, below_drewN HB.out _⟩
  ·
   subst h
   have HCV : Hid (cmpN a b = 0) := Lib.hid (by rw [HC.out, if_neg xd, if_neg xd])
   go_wp2
   exact HR.out _ _ ⟨by rw [HCV.out, HV.out]; rfl, below_drewN HB.out _⟩
  ·
   have HCV : Hid (cmpN a b = 1) := Lib.hid (by rw [HC.out, if_neg xd, if_pos h])
   go_wp2
   exact HR.out _ _ ⟨by rw [HCV.out, HV.out]; rfl, below_drewN HB.out _⟩
end Go.Proofs.YtllkbjcemecmjaaGreat
end
section
namespace Go.Proofs.YtllkbjcemecmjaaGreat
open Go.RowKit
def makeE (n d : Int) : FE := if d = 0 then FE.err 7 else FE.of (mkF n d)
set_option maxHeartbeats 2000000 in
theorem make_any (n d : Int) (w : World) (hn : -4611686018427387904 ≤ n ∧ n ≤ 4611686018427387904) (hd : -4611686018427387904 ≤ d ∧ d ≤ 4611686018427387904) :
  Calls Tryz.prog 80 #[.int .i64 n, .int .i64 d] w fun e w' => e = .returned (.tuple #[.agg #[.int .i64 (makeE n d).n, .int .i64 (makeE n d).d], .int .i64 (makeE n d).e]) ∧ Below w.heap.size w w' := by
 refine zc3 fun R hR => ?_
 have HR := Lib.hid hR
 clear hR
 by_cases h0 : d = 0
 ·
  subst h0
  go_enter Tryz.func80, Tryz.ntmps80
  go_wp2
  refine bodyPost_ret (v := .tuple #[.agg #[.int .i64 0, .int .i64 0], .int .i64 7]) (by simp [results, Tryz.results80, go_sem]) rfl (HR.out _ _ ⟨?_, ?_⟩)
  ·
   simp [makeE, FE.err]
  ·
   (repeat (first | exact Below.refl _ _ | assumption | refine Below.setCell ?_ (by first | omega | (simp; done) | (simp; omega)) _ | refine Below.alloc ?_ (by first | omega | (simp; done) | (simp; omega)) _ | refine Below.drew ?_ | refine below_drewN ?_ _))
 ·
  have hd0 : (d == 0) = false := by simpa using h0
  by_cases sn : 0 < n <;> by_cases sd : 0 < d
  all_goals
   go_enter Tryz.func80, Tryz.ntmps80
   go_wp2
   go_loopw [6, 7] (fun x y wr => ∃ p q : Nat, p ≤ 4611686018427387904 ∧ q ≤ 4611686018427387904 ∧ x = .int .i64 (-p) ∧ y = .int .i64 (-q) ∧ Nat.gcd p q = Int.gcd n d ∧ ∃ k, wr = (w.alloc (.cells #[.int .i64 0, .int .i64 0] 45)).drewN k) (fun _ y _ => (intOf y).natAbs)
   case atStart => exact ⟨n.natAbs, d.natAbs, by omega, by omega, congrArg _ xd, congrArg _ xd, rfl, 0, rfl⟩
   case round =>
    obtain ⟨p, q, hp, hq, rfl, rfl, hg, k, rfl⟩ := hrel
    by_cases hq0 : q = 0
    ·
     subst hq0
     simp only [Nat.gcd_zero_right] at hg
     have hgp : 0 < Int.gcd n d := Int.gcd_pos_iff.2 (Or.inr h0)
     have hp0 : 0 < (p : Int) := by omega
     obtain ⟨x, hx, hnx, hxa⟩ := tdiv_exact n p hp0 (by rw [hg]; exact Int.gcd_dvd_left ..)
     obtain ⟨y, hy, hdy, hya⟩ := tdiv_exact d p hp0 (by rw [hg]; exact Int.gcd_dvd_right ..)
     have hx1 := natAbs_le_of_mul n p x hp0 hxa
     have hy1 := natAbs_le_of_mul d p y hp0 hya
     have hy0 : y ≠ 0 := by intro e; rw [e] at hdy; simp at hdy; exact h0 hdy
     have bx : -4611686018427387904 ≤ x ∧ x ≤ 4611686018427387904 := by omega
     have bY : -4611686018427387904 ≤ y ∧ y ≤ 4611686018427387904 := by omega
     have hpe : ((p : Int) == 0) = false := by simp; omega
     have hpe2 : (-(p : Int) == 0) = false := by simp; omega
     have hpe3 : ¬ p = 0 := by omega
     rcases Int.lt_or_lt_of_ne hy0 with hyn | hyp
     ·
      have HM := Lib.hid (mkF_negd n d p x y hp0 xd hnx hdy hyn)
      have HG := Lib.hid hg
      clear hg hnx hdy hxa hya hx1 hy1 hgp hy0
      by_cases hf : -1073741824 ≤ -x ∧ -x ≤ 1073741824 ∧ -y ≤ 1073741824
      ·
       obtain ⟨f1, f2, f3⟩ := hf
       have HM2 : Hid (mkF n d = some ⟨-x, -y⟩) := Lib.hid (by rw [HM.out, if_pos ⟨f1, f2, f3⟩])
       go_wp2
       refine bodyPost_ret (v := .tuple #[.agg #[.int .i64 (-x), .int .i64 (-y)], .int .i64 0]) (by simp [results, Tryz.results80, go_sem]) rfl (HR.out _ _ ⟨?_, ?_⟩)
       ·
        unfold makeE; rw [if_neg h0, HM2.out]; rfl
       ·
        (repeat (first | exact Below.refl _ _ | assumption | refine Below.setCell ?_ (by first | omega | (simp; done) | (simp; omega)) _ | refine Below.alloc ?_ (by first | omega | (simp; done) | (simp; omega)) _ | refine Below.drew ?_ | refine below_drewN ?_ _))
      ·
       have HM2 : Hid (mkF n d = none) := Lib.hid (by rw [HM.out, if_neg hf])
       go_wp2
       all_goals
        refine bodyPost_ret (v := .tuple #[.agg #[.int .i64 0, .int .i64 0], .int .i64 6]) (by simp [results, Tryz.results80, go_sem]) rfl (HR.out _ _ ⟨?_, ?_⟩)
        ·
         unfold makeE; rw [if_neg h0, HM2.out]; rfl
        ·
         (repeat (first | exact Below.refl _ _ | assumption | refine Below.setCell ?_ (by first | omega | (simp; done) | (simp; omega)) _ | refine Below.alloc ?_ (by first | omega | (simp; done) | (simp; omega)) _ | refine Below.drew ?_ | refine below_drewN ?_ _))
     ·
      have HM := Lib.hid (mkF_pos n d p x y hp0 xd hnx hdy hyp)
      have HG := Lib.hid hg
      clear hg hnx hdy hxa hya hx1 hy1 hgp hy0
      by_cases hf : -1073741824 ≤ x ∧ x ≤ 1073741824 ∧ y ≤ 1073741824
      ·
       obtain ⟨f1, f2, f3⟩ := hf
       have HM2 : Hid (mkF n d = some ⟨x, y⟩) := Lib.hid (by rw [HM.out, if_pos ⟨f1, f2, f3⟩])
       go_wp2
       refine bodyPost_ret (v := .tuple #[.agg #[.int .i64 (x), .int .i64 (y)], .int .i64 0]) (by simp [results, Tryz.results80, go_sem]) rfl (HR.out _ _ ⟨?_, ?_⟩)
       ·
        unfold makeE; rw [if_neg h0, HM2.out]; rfl
       ·
        (repeat (first | exact Below.refl _ _ | assumption | refine Below.setCell ?_ (by first | omega | (simp; done) | (simp; omega)) _ | refine Below.alloc ?_ (by first | omega | (simp; done) | (simp; omega)) _ | refine Below.drew ?_ | refine below_drewN ?_ _))
      ·
       have HM2 : Hid (mkF n d = none) := Lib.hid (by rw [HM.out, if_neg hf])
       go_wp2
       all_goals
        refine bodyPost_ret (v := .tuple #[.agg #[.int .i64 0, .int .i64 0], .int .i64 6]) (by simp [results, Tryz.results80, go_sem]) rfl (HR.out _ _ ⟨?_, ?_⟩)
        ·
         unfold makeE; rw [if_neg h0, HM2.out]; rfl
        ·
         (repeat (first | exact Below.refl _ _ | assumption | refine Below.setCell ?_ (by first | omega | (simp; done) | (simp; omega)) _ | refine Below.alloc ?_ (by first | omega | (simp; done) | (simp; omega)) _ | refine Below.drew ?_ | refine below_drewN ?_ _))
    ·
     have HG := Lib.hid hg
     clear hg
     have b1 : (-(q : Int) != 0) = true := by simp; omega
     have b2 : (-(q : Int) == 0) = false := by simp; omega
     have ht := tmod_neg_neg p q
     go_wp2
     go_quiet (fail)
     go_wp2
     have hlt : p % q < q := Nat.mod_lt _ xd
     go_roundw
     case rel => exact ⟨q, p % q, hq, by omega, rfl, by first | rfl | (congr 1; omega), by rw [← HG.out, Nat.gcd_comm q, ← Nat.gcd_rec, Nat.gcd_comm], k + nq, by rw [World.drewN_drewN]⟩
     case measure => simp only [intOf]; omega
end Go.Proofs.YtllkbjcemecmjaaGreat
end
