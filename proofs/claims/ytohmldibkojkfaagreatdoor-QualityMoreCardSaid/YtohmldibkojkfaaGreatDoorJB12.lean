import Derived.Test.YtohmldibkojkfaaGreatDoorJB7
import Derived.IntWalk
import Derived.Lib.Strings
set_option linter.unusedSimpArgs false
set_option linter.unusedVariables false
set_option linter.unusedSectionVars false
section
namespace Go.Proofs.YtohmldibkojkfaaGreatDoor.Aw
open Go.RowKit
def zby (P : Program) (t : TypeId) : Option (Option Value × Nat × Nat) := (P.info? t).map fun i => (i.zero, i.size, i.bytes)
def zda (P : Program) (t : TypeId) : Option Bool := (P.underlying t).map fun d => match d with | .struct _ => true | .array _ _ => true | _ => false
def zb9 (P : Program) (t : TypeId) : Option TypeId := match P.underlying t with | some (.slice e) => some e | _ => none
def zcf (P : Program) (t : TypeId) (f : Nat) : Option (Nat × TypeId × Option Nat) := match P.underlying t with
 | some (.struct fs) => (fs[f]?).map fun x => (x.offset, x.type, (P.info? x.type).map (·.size))
 | _ => none
theorem zgt {P : Program} {t : TypeId} {z : Option Value} {n b : Nat} (h : zby P t = some (z, n, b)) : ∃ i, P.info? t = some i ∧ i.zero = z ∧ i.size = n ∧ i.bytes = b := by
 unfold zby at h
 cases hi : P.info? t with
 | none => rw [hi] at h; cases h
 | some i => rw [hi] at h; simp only [Option.map_some, Option.some.injEq, Prod.mk.injEq] at h; exact ⟨i, rfl, h.1, h.2.1, h.2.2⟩
theorem zd6 {P : Program} {t e : TypeId} (h : zb9 P t = some e) : P.underlying t = some (.slice e) := by
 unfold zb9 at h
 split at h
 ·
  rename_i e' h1; cases h; exact h1
 ·
  cases h
theorem zzu {P : Program} {t : TypeId} {f off : Nat} {ft : TypeId} {n : Option Nat} (h : zcf P t f = some (off, ft, n)) :
  ∃ fs x, P.underlying t = some (.struct fs) ∧ fs[f]? = some x ∧ x.offset = off ∧ x.type = ft ∧ (P.info? ft).map (·.size) = n := by
 unfold zcf at h
 split at h
 ·
  rename_i fs h1
  cases hx : fs[f]? with
  | none => rw [hx] at h; cases h
  | some x => rw [hx] at h; simp only [Option.map_some, Option.some.injEq, Prod.mk.injEq] at h; exact ⟨fs, x, h1, hx, h.1, h.2.1, by rw [← h.2.1]; exact h.2.2⟩
 ·
  cases h
theorem zc2 {P : Program} {t : TypeId} {z : Option Value} {n b : Nat} (h : zby P t = some (z, n, b)) (w : World) : (sizeOf t).run P w = .ok n w := by
 obtain ⟨i, h1, _, h2, _⟩ := zgt h
 simp [sizeOf, typeInfo, h1, h2]
theorem zg7 {P : Program} {t : TypeId} {b : Bool} (h : zda P t = some b) (w : World) : (isAgg t).run P w = .ok b w := by
 unfold zda at h
 cases hd : P.underlying t with
 | none => rw [hd] at h; cases h
 | some d =>
  rw [hd] at h
  simp only [Option.map_some, Option.some.injEq] at h
  cases d <;> simp_all [isAgg, run_underlying hd]
theorem zdd {G : Cx} {v u : Value} (h : Rep G v (.s u)) : v = u := by cases h; rfl
section
variable {P : Program} {o : Oper} {F : Frm} {σ : List Ob}
theorem zcb {x : AV} (h : ∀ (G : Cx) (ρ : Operand → Value), Rel G σ → (∀ y ∈ o.op.operands, Rep G (ρ y) (F.eval y)) → ∃ v, (execOp ρ o).run P G.w = .ok (.value v) G.w ∧ Rep G v x) : Does P o F σ x σ := by
 intro G a next Q hr ho hn
 obtain ⟨v, h1, h2⟩ := h G a.eval hr ho
 unfold Oper.wp
 rw [h1]
 exact hn v G (.refl G) hr h2
theorem zx1 {y : Operand} {x : AV} (ho : o.op = .move y) (hx : F.eval y = x) : Does P o F σ x σ :=
 zcb fun G ρ hr hop => ⟨ρ y, by simp [execOp, ho], hx ▸ hop y (by simp [ho, Op.operands])⟩
theorem zsc {y : Operand} {x : AV} (ho : o.op = .assign y) (hx : F.eval y = x) : Does P o F σ x σ :=
 zcb fun G ρ hr hop => ⟨ρ y, by simp [execOp, ho], hx ▸ hop y (by simp [ho, Op.operands])⟩
theorem zqh {c x y : Operand} {b : Bool} (ho : o.op = .pick c x y) (hc : F.eval c = .s (.bool b)) : Does P o F σ (bif b then F.eval x else F.eval y) σ :=
 zcb fun G ρ hr hop => by
  have h1 := hop c (by simp [ho, Op.operands])
  rw [hc] at h1
  have h2 := zdd h1
  refine ⟨if b then ρ x else ρ y, by simp [execOp, ho, h2, asBool], ?_⟩
  cases b
  ·
   exact hop y (by simp [ho, Op.operands])
  ·
   exact hop x (by simp [ho, Op.operands])
def Mv (o : Oper) (y : Operand) : Prop := o.op = .move y ∨ o.op = .assign y
theorem zx0 {y : Operand} {x : AV} (ho : Mv o y) (hx : F.eval y = x) : Does P o F σ x σ := by
 rcases ho with h | h
 ·
  exact zx1 h hx
 ·
  exact zsc h hx
section
variable {y : Operand} (ho : Mv o y)
include ho
end
theorem zam {F : Frm} {caps : List AV} : List.map F.eval [] ++ caps = caps := rfl
theorem zag {F : Frm} {y : Operand} {l : List Operand} {x : AV} {caps xs : List AV} (h : F.eval y = x) (t : l.map F.eval ++ caps = xs) : (y :: l).map F.eval ++ caps = x :: xs := by rw [List.map_cons, h, List.cons_append, t]
theorem zdh {b : BinOp} {t t' : TypeId} {x y : Operand} {u v r : Value} (ho : o.op = .binOp b t x y t') (hx : F.eval x = .s u) (hy : F.eval y = .s v)
  (h : ∀ w, (do eqGuard b t x y u v; binOp b t u v : Sem Value).run P w = .ok r w) : Does P o F σ (.s r) σ :=
 zcb fun G ρ hr hop => by
  have h1 := hop x (by simp [ho, Op.operands])
  have h2 := hop y (by simp [ho, Op.operands])
  rw [hx] at h1
  rw [hy] at h2
  refine ⟨r, ?_, .s r⟩
  have h3 := h G.w
  simp only [execOp, ho, zdd h1, zdd h2, Sem.run_bind] at h3 ⊢
  rw [h3]
  rfl
theorem zdk {b : BinOp} {t : TypeId} {x y : Operand} {k : IntKind} {m n : Int} {r : Value} (w : World) (hb : b ≠ .shl ∧ b ≠ .shr) (h : (match b with
  | .add | .sub | .mul => Op.intArith b k m n
  | .quo | .rem => Op.intDiv b k m n
  | .and | .or | .xor | .andNot => Op.intBits b k m n
  | _ => Op.intCmp b m n : Sem Value).run P w = .ok r w) : (do eqGuard b t x y (.int k m) (.int k n); binOp b t (.int k m) (.int k n) : Sem Value).run P w = .ok r w := by
 have h1 : (eqGuard b t x y (.int k m) (.int k n)).run P w = .ok () w := by
  unfold eqGuard
  cases b <;> rfl
 rw [Sem.run_bind, h1, Result.andThen_ok]
 unfold binOp
 cases b <;> first | exact absurd rfl hb.1 | exact absurd rfl hb.2 | simp_all
section
variable {t t' : TypeId} {x y : Operand} {k : IntKind} {m n c : Int}
theorem za4 (ho : o.op = .binOp .add t x y t') (hx : F.eval x = .s (.int k m)) (hy : F.eval y = .s (.int k n)) (hw : k.wrap (m + n) = c) : Does P o F σ (.s (.int k c)) σ :=
 zdh ho hx hy fun w => zdk w (by simp) (by simp [Op.intArith, hw])
theorem zeu (ho : o.op = .binOp .sub t x y t') (hx : F.eval x = .s (.int k m)) (hy : F.eval y = .s (.int k n)) (hw : k.wrap (m - n) = c) : Does P o F σ (.s (.int k c)) σ :=
 zdh ho hx hy fun w => zdk w (by simp) (by simp [Op.intArith, hw])
theorem zkq (ho : o.op = .binOp .mul t x y t') (hx : F.eval x = .s (.int k m)) (hy : F.eval y = .s (.int k n)) (hw : k.wrap (m * n) = c) : Does P o F σ (.s (.int k c)) σ :=
 zdh ho hx hy fun w => zdk w (by simp) (by simp [Op.intArith, hw])
theorem zzy (ho : o.op = .binOp .quo t x y t') (hx : F.eval x = .s (.int k m)) (hy : F.eval y = .s (.int k n)) (h0 : n ≠ 0) (hw : k.wrap (m.tdiv n) = c) : Does P o F σ (.s (.int k c)) σ :=
 zdh ho hx hy fun w => zdk w (by simp) (by simp [Op.intDiv, hw, h0])
theorem zaz (ho : o.op = .binOp .lss t x y t') (hx : F.eval x = .s (.int k m)) (hy : F.eval y = .s (.int k n)) : Does P o F σ (.s (.bool (decide (m < n)))) σ :=
 zdh ho hx hy fun w => zdk w (by simp) (by simp [Op.intCmp])
theorem zev (ho : o.op = .binOp .leq t x y t') (hx : F.eval x = .s (.int k m)) (hy : F.eval y = .s (.int k n)) : Does P o F σ (.s (.bool (decide (m ≤ n)))) σ :=
 zdh ho hx hy fun w => zdk w (by simp) (by simp [Op.intCmp])
theorem za5 (ho : o.op = .binOp .gtr t x y t') (hx : F.eval x = .s (.int k m)) (hy : F.eval y = .s (.int k n)) : Does P o F σ (.s (.bool (decide (n < m)))) σ :=
 zdh ho hx hy fun w => zdk w (by simp) (by simp [Op.intCmp])
theorem zcr (ho : o.op = .binOp .geq t x y t') (hx : F.eval x = .s (.int k m)) (hy : F.eval y = .s (.int k n)) : Does P o F σ (.s (.bool (decide (n ≤ m)))) σ :=
 zdh ho hx hy fun w => zdk w (by simp) (by simp [Op.intCmp])
theorem zcc (ho : o.op = .binOp .eql t x y t') (hx : F.eval x = .s (.int k m)) (hy : F.eval y = .s (.int k n)) : Does P o F σ (.s (.bool (decide (m = n)))) σ :=
 zdh ho hx hy fun w => zdk w (by simp) (by
  by_cases h : m = n
  ·
   simp [Op.intCmp, h]
  ·
   have : (m == n) = false := by simpa using h
   simp [Op.intCmp, h, this])
theorem zbg (ho : o.op = .binOp .neq t x y t') (hx : F.eval x = .s (.int k m)) (hy : F.eval y = .s (.int k n)) : Does P o F σ (.s (.bool (decide (m ≠ n)))) σ :=
 zdh ho hx hy fun w => zdk w (by simp) (by
  by_cases h : m = n
  ·
   simp [Op.intCmp, h]
  ·
   have : (m != n) = true := by simpa using h
   simp [Op.intCmp, h, this])
end
theorem toList_inj {a b : ByteArray} : a.toList = b.toList ↔ a = b := by
 constructor
 ·
  intro h
  rw [ByteArray.toList_eq, ByteArray.toList_eq] at h
  exact ByteArray.ext (Array.toList_inj.1 h)
 ·
  intro h; rw [h]
theorem zgw {t t' : TypeId} {x y : Operand} {a b : ByteArray} (ho : o.op = .binOp .neq t x y t') (hx : F.eval x = .s (.string a)) (hy : F.eval y = .s (.string b)) : Does P o F σ (.s (.bool (decide (a ≠ b)))) σ :=
 zdh ho hx hy fun w => by
  by_cases h : a = b
  ·
   simp [eqGuard, binOp, Op.stringOp, h]
  ·
   have : (a.toList == b.toList) = false := by simpa [toList_inj] using h
   simp [eqGuard, binOp, Op.stringOp, h, this]
theorem zt1 {t t' : TypeId} {x y : Operand} {a b : ByteArray} (ho : o.op = .binOp .lss t x y t') (hx : F.eval x = .s (.string a)) (hy : F.eval y = .s (.string b)) : Does P o F σ (.s (.bool (Op.bytesLess a.toList b.toList))) σ :=
 zdh ho hx hy fun w => by simp [eqGuard, binOp, Op.stringOp]
theorem zt3 {t t' : TypeId} {x y : Operand} {a b : ByteArray} (ho : o.op = .binOp .gtr t x y t') (hx : F.eval x = .s (.string a)) (hy : F.eval y = .s (.string b)) : Does P o F σ (.s (.bool (!(Op.bytesLess a.toList b.toList || decide (a = b))))) σ :=
 zdh ho hx hy fun w => by
  have : (a.toList == b.toList) = decide (a = b) := by rw [Bool.eq_iff_iff]; simp [toList_inj]
  simp [eqGuard, binOp, Op.stringOp, this]
theorem zay {t : TypeId} {x : Operand} {b : Bool} (ho : o.op = .unOp .not t x) (hx : F.eval x = .s (.bool b)) : Does P o F σ (.s (.bool (!b))) σ :=
 zcb fun G ρ hr hop => by
  have h1 := hop x (by simp [ho, Op.operands])
  rw [hx] at h1
  exact ⟨_, by simp [execOp, ho, zdd h1, Op.unary], .s _⟩
theorem zqi {t : TypeId} {x : Operand} {p : Prop} [Decidable p] (ho : o.op = .unOp .not t x) (hx : F.eval x = .s (.bool (decide p))) : Does P o F σ (.s (.bool (decide (¬ p)))) σ := by
 rw [show decide (¬ p) = !decide p by simp]
 exact zay ho hx
def z1m (P : Program) (t : TypeId) : Option IntKind := match P.underlying t with | some (.int k) => some k | _ => none
theorem zl8 {t t' : TypeId} {x : Operand} {k k' : IntKind} {n c : Int} (ho : o.op = .convert t t' x) (ht : (P.underlying t).isSome = true) (hk : z1m P t' = some k') (hx : F.eval x = .s (.int k n)) (hw : k'.wrap n = c) : Does P o F σ (.s (.int k' c)) σ :=
 zcb fun G ρ hr hop => by
  have h1 := hop x (by simp [ho, Op.operands])
  rw [hx] at h1
  have h2 : P.underlying t' = some (.int k') := by
   unfold z1m at hk
   split at hk
   ·
    rename_i h3; cases hk; exact h3
   ·
    cases hk
  obtain ⟨d, hd⟩ := Option.isSome_iff_exists.1 ht
  refine ⟨.int k' c, ?_, .s _⟩
  simp only [execOp, ho, zdd h1, convert, Sem.run_bind, run_underlying hd, run_underlying h2, Result.andThen_ok, Conv.intToInt, hw, Sem.run_pure]
theorem zqo {x : Operand} {i : Nat} {l : List AV} {y : AV} (ho : o.op = .extract x i) (hx : F.eval x = .tup l) (hy : l[i]? = some y) : Does P o F σ y σ :=
 zcb fun G ρ hr hop => by
  have h1 := hop x (by simp [ho, Op.operands])
  rw [hx] at h1
  generalize hv : ρ x = u at h1
  cases h1 with
  | tup vs _ hl h =>
   have hi : i < vs.size := by rw [hl]; exact (List.getElem?_eq_some_iff.1 hy).1
   exact ⟨vs[i], by simp [execOp, ho, hv, Instr.extract, hi], h i _ _ (by simp [hi]) hy⟩
theorem zx3 {f : FuncId} {caps : Array Operand} {cs : List AV} (ho : o.op = .makeFunc (.func f) #[] caps) (hc : caps.toList.map F.eval = cs) : Does P o F σ (.fn f cs) σ :=
 zcb fun G ρ hr hop => by
  refine ⟨.func (.func f) #[] (caps.map ρ), by simp [execOp, ho, Instr.makeFunc], .fn f _ _ (by rw [← hc]; simp) (fun j v c hv hcj => ?_)⟩
  rw [← hc] at hcj
  simp only [Array.getElem?_map, List.getElem?_map, Array.getElem?_toList] at hv hcj
  cases hj : caps[j]? with
  | none => rw [hj] at hv; cases hv
  | some y =>
   rw [hj] at hv hcj
   simp only [Option.map_some, Option.some.injEq] at hv hcj
   subst hv hcj
   exact hop y (by simp only [ho, Op.operands]; simp; exact Array.mem_of_getElem? hj)
theorem zqk {x : Operand} {id sz k j : Nat} (ho : o.op = .nilCheck x) (hx : F.eval x = .ptr id sz k j) : Does P o F σ (.ptr id sz k j) σ :=
 zcb fun G ρ hr hop => by
  have h1 := hop x (by simp [ho, Op.operands])
  rw [hx] at h1
  generalize hv : ρ x = u at h1
  cases h1 with
  | ptr _ _ _ _ b hm => exact ⟨_, by simp [execOp, ho, hv], .ptr id sz k j b hm⟩
theorem zsb {x : Operand} {f : FuncId} {cs : List AV} (ho : o.op = .nilCheck x) (hx : F.eval x = .fn f cs) : Does P o F σ (.fn f cs) σ :=
 zcb fun G ρ hr hop => by
  have h1 := hop x (by simp [ho, Op.operands])
  rw [hx] at h1
  generalize hv : ρ x = u at h1
  cases h1 with
  | fn _ vs _ hl h => exact ⟨_, by simp [execOp, ho, hv], .fn f vs cs hl h⟩
theorem zk6 {t : TypeId} {f off : Nat} {ft : TypeId} {n : Nat} (hf : zcf P t f = some (off, ft, some n)) (hn : n ≠ 0) (b i : Nat) (w : World) : (Instr.fieldAt t (.pointer (some ⟨b, i, none⟩)) f).run P w = .ok (.pointer (some ⟨b, i + off, none⟩)) w := by
 obtain ⟨fs, x, h1, h2, h3, h4, h5⟩ := zzu hf
 have h6 : (sizeOf x.type).run P w = .ok n w := by
  rw [h4]
  cases hi : P.info? ft with
  | none => rw [hi] at h5; cases h5
  | some i => rw [hi] at h5; simp only [Option.map_some, Option.some.injEq] at h5; simp [sizeOf, typeInfo, hi, h5]
 simp [Instr.fieldAt, run_underlying h1, h2, Instr.sureAddr, fieldPlace, h6, hn, h3, Addr.add_lit]
theorem zcv {t : TypeId} {x : Operand} {f off : Nat} {ft : TypeId} {n id sz k j : Nat} (ho : o.op = .fieldAddr t x f) (hf : zcf P t f = some (off, ft, some n)) (hn : n ≠ 0) (hx : F.eval x = .ptr id sz k j) : Does P o F σ (.ptr id sz k (j + off)) σ :=
 zcb fun G ρ hr hop => by
  have h1 := hop x (by simp [ho, Op.operands])
  rw [hx] at h1
  generalize hv : ρ x = u at h1
  cases h1 with
  | ptr _ _ _ _ b hm =>
   refine ⟨.pointer (some ⟨b, k * sz + j + off, none⟩), by simp only [execOp, ho, hv, Sem.run_bind, zk6 hf hn, Result.andThen_ok, Sem.run_pure], ?_⟩
   rw [Nat.add_assoc]
   exact .ptr id sz k (j + off) b hm
theorem zi6 {t : TypeId} {x : Operand} {f off : Nat} {ft : TypeId} {n : Nat} {cs : List AV} (ho : o.op = .fieldAddr t x f) (hf : zcf P t f = some (off, ft, some n)) (hn : n ≠ 0) (hx : F.eval x = .ref cs) : Does P o F σ (.ref (cs.drop off)) σ :=
 zcb fun G ρ hr hop => by
  have h1 := hop x (by simp [ho, Op.operands])
  rw [hx] at h1
  generalize hv : ρ x = u at h1
  cases h1 with
  | ref b i _ val hone h2 h =>
   refine ⟨.pointer (some ⟨b, i + off, none⟩), by simp only [execOp, ho, hv, Sem.run_bind, zk6 hf hn, Result.andThen_ok, Sem.run_pure], ?_⟩
   refine .ref b (i + off) _ (fun j => val (off + j)) (fun c hc => hone c (List.mem_of_mem_drop hc)) (fun j c hj => ?_) (fun j c hj => ?_)
   ·
    rw [List.getElem?_drop] at hj
    rw [Nat.add_assoc]
    exact h2 _ c hj
   ·
    rw [List.getElem?_drop] at hj
    exact h _ c hj
theorem zk5 {t e : TypeId} {z : Option Value} {sz bt : Nat} (ht : zb9 P t = some e) (he : zby P e = some (z, sz, bt)) (b i m cap : Nat) (kd : IntKind) (n : Int) (h0 : 0 ≤ n) (h1 : n < m) (w : World) :
  (Instr.indexAt t (.slice (some ⟨b, i, none⟩) m cap) (.int kd n)).run P w = .ok (.pointer (some ⟨b, i + n.toNat * sz, none⟩)) w := by
 simp [Instr.indexAt, asIntOf, run_underlying (zd6 ht), h0, h1, zc2 he, Addr.add_lit]
theorem zan {t e : TypeId} {x y : Operand} {z : Option Value} {sz bt : Nat} {l : List AV} {kd : IntKind} {n : Int} {k : Nat} {u : AV} (ho : o.op = .indexAddr t x y) (ht : zb9 P t = some e) (he : zby P e = some (z, sz, bt))
  (hx : F.eval x = .sl l) (hy : F.eval y = .s (.int kd n)) (hk : n = (k : Int)) (hu : l[k]? = some u) (hsz : u.cells.length = sz) : Does P o F σ (.ref u.cells) σ :=
 zcb fun G ρ hr hop => by
  have h1 := hop x (by simp [ho, Op.operands])
  have h2 := hop y (by simp [ho, Op.operands])
  rw [hx] at h1
  rw [hy] at h2
  have hyv := zdd h2
  subst hk
  have hlt := (List.getElem?_eq_some_iff.1 hu).1
  generalize hv : ρ x = v at h1
  cases h1 with
  | slnil => simp at hu
  | sl b i cap sz' _ val hc hmx hone h3 h =>
   obtain ⟨h4, h5⟩ := hone k u hu
   have hsz' : sz' = sz := h4.symm.trans hsz
   subst hsz'
   refine ⟨.pointer (some ⟨b, i + k * sz', none⟩), ?_, .ref b _ _ (val k) h5 (fun j c hj => h3 k u j c hu hj) (fun j c hj => h k u j c hu hj)⟩
   simp only [execOp, ho, hv, hyv, Sem.run_bind, zk5 ht he b i l.length cap kd (k : Int) (by omega) (by omega), Result.andThen_ok, Sem.run_pure, Int.toNat_natCast]
theorem za2 {t e : TypeId} {x y : Operand} {z : Option Value} {sz bt : Nat} {id m : Nat} {kd : IntKind} {n : Int} {k : Nat} (ho : o.op = .indexAddr t x y) (ht : zb9 P t = some e) (he : zby P e = some (z, sz, bt))
  (hx : F.eval x = .own id sz m) (hy : F.eval y = .s (.int kd n)) (hk : n = (k : Int)) (hu : k < m) : Does P o F σ (.ptr id sz k 0) σ :=
 zcb fun G ρ hr hop => by
  have h1 := hop x (by simp [ho, Op.operands])
  have h2 := hop y (by simp [ho, Op.operands])
  rw [hx] at h1
  rw [hy] at h2
  have hyv := zdd h2
  subst hk
  generalize hv : ρ x = v at h1
  cases h1 with
  | own0 => omega
  | own _ _ _ b cap hm hn hc hb =>
   refine ⟨.pointer (some ⟨b, k * sz + 0, none⟩), ?_, .ptr id sz k 0 b hm⟩
   simp only [execOp, ho, hv, hyv, Sem.run_bind, zk5 ht he b 0 m cap kd (k : Int) (by omega) (by omega), Result.andThen_ok, Sem.run_pure, Int.toNat_natCast, Nat.zero_add, Nat.add_zero]
theorem zfb {t e : TypeId} {x : Operand} (ht : zb9 P t = some e) (ho : o.op = .call { callee := .builtin .len, args := #[x], argTypes := #[t] }) (ρ : Operand → Value) (A : Option Addr) (n c : Nat) (hv : ρ x = .slice A n c) (w : World) :
  (execOp ρ o).run P w = .ok (.value (.int .i64 n)) w := by
 simp [execOp, ho, resolve, invoke, builtin, Builtin.len_, hv, run_underlying (zd6 ht), goInt]
theorem zl7 {t e : TypeId} {x : Operand} {l : List AV} (ho : o.op = .call { callee := .builtin .len, args := #[x], argTypes := #[t] }) (ht : zb9 P t = some e) (hx : F.eval x = .sl l) : Does P o F σ (.s (.int .i64 (l.length : Nat))) σ :=
 zcb fun G ρ hr hop => by
  have h1 := hop x (by simp [ho, Op.operands, Call.operands])
  rw [hx] at h1
  generalize hv : ρ x = v at h1
  cases h1 with
  | slnil => exact ⟨_, zfb ht ho ρ _ _ _ hv _, .s _⟩
  | sl b i cap sz' _ val hc hmx hone h3 h => exact ⟨_, zfb ht ho ρ _ _ _ hv _, .s _⟩
theorem zb7 {t e : TypeId} {x : Operand} {id sz n : Nat} (ho : o.op = .call { callee := .builtin .len, args := #[x], argTypes := #[t] }) (ht : zb9 P t = some e) (hx : F.eval x = .own id sz n) : Does P o F σ (.s (.int .i64 (n : Nat))) σ :=
 zcb fun G ρ hr hop => by
  have h1 := hop x (by simp [ho, Op.operands, Call.operands])
  rw [hx] at h1
  generalize hv : ρ x = v at h1
  cases h1 with
  | own0 => exact ⟨_, zfb ht ho ρ _ _ _ hv _, .s _⟩
  | own _ _ _ b cap hm hn hc hb => exact ⟨_, zfb ht ho ρ _ _ _ hv _, .s _⟩
def zkb (P : Program) (t : TypeId) : Bool := match P.underlying t with | some .string => true | _ => false
theorem zvv {t : TypeId} (h : zkb P t = true) : P.underlying t = some .string := by
 unfold zkb at h
 split at h
 ·
  assumption
 ·
  cases h
theorem zqn {t : TypeId} {x : Operand} {b : ByteArray} (ho : o.op = .call { callee := .builtin .len, args := #[x], argTypes := #[t] }) (ht : zkb P t = true) (hx : F.eval x = .s (.string b)) : Does P o F σ (.s (.int .i64 (b.size : Nat))) σ :=
 zcb fun G ρ hr hop => by
  have h1 := hop x (by simp [ho, Op.operands, Call.operands])
  rw [hx] at h1
  exact ⟨_, by simp [execOp, ho, resolve, invoke, builtin, Builtin.len_, zdd h1, run_underlying (zvv ht), goInt], .s _⟩
theorem zju {t : TypeId} (ha : zda P t = some false) {b i : Nat} {v : Value} {w : World} (h : w.cell? ⟨b, i, none⟩ = some v) : (Instr.loadAt t (.pointer (some ⟨b, i, none⟩))).run P w = .ok v w := by
 simp [Instr.loadAt, Instr.sureAddr, loadVar, zg7 ha, h]
theorem zjv {t : TypeId} {z : Option Value} {n bt : Nat} (ha : zda P t = some true) (hi : zby P t = some (z, n, bt)) {b i : Nat} {f : Nat → Value} {w : World} (h : ∀ j, j < n → w.cell? ⟨b, i + j, none⟩ = some (f j)) :
  (Instr.loadAt t (.pointer (some ⟨b, i, none⟩))).run P w = .ok (.agg ((List.range n).map f).toArray) w := by
 have h1 := run_loadCells (P := P) w ⟨b, i, none⟩ n f (fun j hj => by rw [Addr.add_lit]; exact h j hj)
 simp [Instr.loadAt, Instr.sureAddr, loadVar, zg7 ha, zc2 hi, h1]
theorem zoj {t : TypeId} {x : Operand} {c : AV} {cs : List AV} (ho : o.op = .load t x) (ha : zda P t = some false) (hx : F.eval x = .ref (c :: cs)) : Does P o F σ c σ :=
 zcb fun G ρ hr hop => by
  have h1 := hop x (by simp [ho, Op.operands])
  rw [hx] at h1
  generalize hv : ρ x = v at h1
  cases h1 with
  | ref b i _ val hone h2 h =>
   have h3 : G.w.cell? ⟨b, i, none⟩ = some (val 0) := (h2 0 c rfl).2
   exact ⟨val 0, by simp only [execOp, ho, hv, Sem.run_bind, zju ha h3, Result.andThen_ok, Sem.run_pure], h 0 c rfl⟩
theorem zmk {t : TypeId} {x : Operand} {z : Option Value} {n bt : Nat} {cs : List AV} (ho : o.op = .load t x) (ha : zda P t = some true) (hi : zby P t = some (z, n, bt)) (hx : F.eval x = .ref cs) (hn : n ≤ cs.length) : Does P o F σ (.agg (cs.take n)) σ :=
 zcb fun G ρ hr hop => by
  have h1 := hop x (by simp [ho, Op.operands])
  rw [hx] at h1
  generalize hv : ρ x = v at h1
  cases h1 with
  | ref b i _ val hone h2 h =>
   have h3 := zjv (P := P) ha hi (w := G.w) (b := b) (i := i) (f := val) (fun j hj => (h2 j _ (List.getElem?_eq_getElem (by omega))).2)
   refine ⟨.agg ((List.range n).map val).toArray, by simp only [execOp, ho, hv, Sem.run_bind, h3, Result.andThen_ok, Sem.run_pure], ?_⟩
   refine .agg _ _ (by simp; omega) (fun c hc => hone c (List.mem_of_mem_take hc)) (fun j v c hv hc => ?_)
   rw [List.getElem?_take] at hc
   split at hc
   ·
    rename_i hj
    simp [hj] at hv
    subst hv
    exact h j c hc
   ·
    cases hc
def zfs : Ob → Option (Nat × List AV)
 | .row sz cs => some (sz, cs)
 | .fz sz cs => some (sz, cs)
 | .dead => none
 | .mp _ => none
theorem zfc {G : Cx} {id sz k b : Nat} {ob : Ob} {cs : List AV} {e : AV} (hr : Rel G σ) (hs : σ[id]? = some ob) (ho : zfs ob = some (sz, cs)) (hm : G.mu id = some (some b)) (he : cs[k]? = some e) :
  ∃ f : Nat → Value, e.cells.length = sz ∧ (∀ c ∈ e.cells, c.one = true) ∧ ∀ (j : Nat) c, e.cells[j]? = some c → G.w.cell? ⟨b, k * sz + j, none⟩ = some (f j) ∧ Rep G (f j) c := by
 have key : ∀ fr, ze7 G b sz cs fr → ∃ f : Nat → Value, e.cells.length = sz ∧ (∀ c ∈ e.cells, c.one = true) ∧ ∀ (j : Nat) c, e.cells[j]? = some c → G.w.cell? ⟨b, k * sz + j, none⟩ = some (f j) ∧ Rep G (f j) c := by
  rintro fr ⟨cur, t, f, h1, _, h2, h3⟩
  obtain ⟨h4, h5, h6⟩ := h3 k e he
  refine ⟨fun j => cur.getD (k * sz + j) undef, h4, h5, fun j c hc => ?_⟩
  obtain ⟨v, h7, h8⟩ := h6 j c hc
  have h9 : cur.getD (k * sz + j) undef = v := by rw [Array.getD_eq_getD_getElem?, h7]; rfl
  refine ⟨?_, by dsimp only; rw [h9]; exact h8⟩
  rw [cell_of_row _ b _ cur t f h1, h7]; dsimp only; rw [h9]
 have h1 := hr.obs id ob hs
 cases ob with
 | dead => cases ho
 | mp X => cases ho
 | row sz' cs' =>
  simp only [zfs, Option.some.injEq, Prod.mk.injEq] at ho
  obtain ⟨rfl, rfl⟩ := ho
  simp only [ObOk, hm] at h1
  exact key _ h1.1
 | fz sz' cs' =>
  simp only [zfs, Option.some.injEq, Prod.mk.injEq] at ho
  obtain ⟨rfl, rfl⟩ := ho
  simp only [ObOk, hm] at h1
  exact key _ h1.1
theorem zap {t : TypeId} {x : Operand} {id sz k j : Nat} {ob : Ob} {cs : List AV} {e c : AV} (ho : o.op = .load t x) (ha : zda P t = some false) (hx : F.eval x = .ptr id sz k j) (hs : σ[id]? = some ob) (hb : zfs ob = some (sz, cs)) (he : cs[k]? = some e) (hc : e.cells[j]? = some c) : Does P o F σ c σ :=
 zcb fun G ρ hr hop => by
  have h1 := hop x (by simp [ho, Op.operands])
  rw [hx] at h1
  generalize hv : ρ x = v at h1
  cases h1 with
  | ptr _ _ _ _ b hm =>
   obtain ⟨f, _, _, h2⟩ := zfc hr hs hb hm he
   obtain ⟨h3, h4⟩ := h2 j c hc
   exact ⟨f j, by simp only [execOp, ho, hv, Sem.run_bind, zju ha h3, Result.andThen_ok, Sem.run_pure], h4⟩
theorem zml {t : TypeId} {x : Operand} {z : Option Value} {n bt : Nat} {id sz k j : Nat} {ob : Ob} {cs : List AV} {e : AV} (ho : o.op = .load t x) (ha : zda P t = some true) (hi : zby P t = some (z, n, bt)) (hx : F.eval x = .ptr id sz k j) (hs : σ[id]? = some ob) (hb : zfs ob = some (sz, cs)) (he : cs[k]? = some e) (hn : j + n ≤ e.cells.length) : Does P o F σ (.agg ((e.cells.drop j).take n)) σ :=
 zcb fun G ρ hr hop => by
  have h1 := hop x (by simp [ho, Op.operands])
  rw [hx] at h1
  generalize hv : ρ x = v at h1
  cases h1 with
  | ptr _ _ _ _ b hm =>
   obtain ⟨f, _, hone, h2⟩ := zfc hr hs hb hm he
   have h3 := zjv (P := P) ha hi (w := G.w) (b := b) (i := k * sz + j) (f := fun i => f (j + i)) (fun i hi => by rw [Nat.add_assoc]; exact (h2 (j + i) _ (List.getElem?_eq_getElem (by omega))).1)
   refine ⟨.agg ((List.range n).map (fun i => f (j + i))).toArray, by simp only [execOp, ho, hv, Sem.run_bind, h3, Result.andThen_ok, Sem.run_pure], ?_⟩
   refine .agg _ _ (by simp; omega) (fun c hc => hone c (List.mem_of_mem_drop (List.mem_of_mem_take hc))) (fun i v c hv hc => ?_)
   rw [List.getElem?_take] at hc
   split at hc
   ·
    rename_i hj
    simp [hj] at hv
    subst hv
    rw [List.getElem?_drop] at hc
    exact (h2 _ c hc).2
   ·
    cases hc
theorem zb2 {t : TypeId} {x : Operand} {z : Option Value} {n bt : Nat} {id sz k : Nat} {ob : Ob} {cs : List AV} {e : AV} (ho : o.op = .load t x) (ha : zda P t = some true) (hi : zby P t = some (z, n, bt)) (hx : F.eval x = .ptr id sz k 0) (hs : σ[id]? = some ob) (hb : zfs ob = some (sz, cs)) (he : cs[k]? = some e) (hn : e.cells.length = n) : Does P o F σ (.agg e.cells) σ := by
 have := zml (P := P) (F := F) (σ := σ) ho ha hi hx hs hb he (by omega)
 rwa [List.drop_zero, ← hn, List.take_length] at this
end
end Go.Proofs.YtohmldibkojkfaaGreatDoor.Aw
end
section
namespace Go.Proofs.YtohmldibkojkfaaGreatDoor.Aw
open Go.RowKit
theorem zf7 {G : Cx} {v : Value} {x : AV} (h : Rep G v x) (h1 : ∀ c ∈ x.cells, c.one = true) : v.cells.size = x.cells.length ∧ ∀ (j : Nat) u c, v.cells[j]? = some u → x.cells[j]? = some c → Rep G u c ∧ u.oneCell' = true := by
 by_cases hx : ∃ cs, x = .agg cs
 ·
  obtain ⟨cs, rfl⟩ := hx
  cases h with
  | agg vs _ hl hone h =>
   exact ⟨hl, fun j u c hu hc => ⟨h j u c hu hc, (h j u c hu hc).one (hone c (List.mem_of_getElem? hc))⟩⟩
 ·
  have hxc : x.cells = [x] := by cases x <;> first | rfl | (exact absurd ⟨_, rfl⟩ hx)
  have hone : x.one = true := h1 x (by rw [hxc]; simp)
  have hvo := h.one hone
  have hv : v.cells = #[v] := by cases v <;> first | rfl | (simp [Value.oneCell'] at hvo)
  rw [hxc, hv]
  refine ⟨rfl, fun j u c hu hc => ?_⟩
  cases j with
  | zero => simp at hu hc; subst hu hc; exact ⟨h, hvo⟩
  | succ j => simp at hc
theorem zos {B : Nat} {w0 w : World} (h : Below B w0 w) {b : Nat} (hb : B ≤ b) (cs : Array Value) : Below B w0 (w.setRow b cs) :=
 h.trans ⟨rfl, rfl, rfl, by simp [World.setRow], fun k hk => setRow_other w b k cs (by omega)⟩
theorem zqv {B : Nat} {w0 w : World} (h : BelowT B w0 w) {b : Nat} (hb : B ≤ b) (cs : Array Value) : BelowT B w0 (w.setRow b cs) := ⟨zos h.toBelow hb cs, h.tab, h.tb⟩
theorem ObOk.of {G G' : Cx} {id : Nat} {ob : Ob} (h : ObOk G id ob) (hm : G'.mu id = G.mu id) (hb : G'.base = G.base) (hst : G'.St = G.St) (hsz : G.w.heap.size ≤ G'.w.heap.size) (hrow : ∀ b sz cs f, G.mu id = some (some b) → (ob = .row sz cs ∨ ob = .fz sz cs) → ze7 G b sz cs f → ze7 G' b sz cs f)
  (hmap : ∀ b X, G.mu id = some (some b) → X.At G.w b → ob = .mp X → G'.w.heap[b]? = G.w.heap[b]? ∧ ∀ j, G'.mu j = some (some b) → G.mu j = some (some b)) (hpr : G'.Pr = G.Pr := by rfl) : ObOk G' id ob := by
 have hsp : G'.SP = G.SP := by funext b o; simp only [Cx.SP, hst, hpr]
 cases ob with
 | dead => exact fun b h1 => Nat.lt_of_lt_of_le (h b (by rw [← hm]; exact h1)) hsz
 | mp X =>
  obtain ⟨b, h1, h2, h3, h4, h5⟩ := h
  obtain ⟨g1, g2⟩ := hmap b X h1 h2 rfl
  exact ⟨b, hm.trans h1, h2.keep g1, by rw [hb]; exact h3, by rw [hsp]; exact h4, fun j hj => h5 j (g2 j hj)⟩
 | row sz cs =>
  simp only [ObOk] at h ⊢
  rw [hm, hb, hsp]
  cases hx : G.mu id with
  | none => rw [hx] at h; exact h
  | some x =>
   rw [hx] at h
   cases x with
   | none => exact h
   | some b => exact ⟨hrow b sz cs _ hx (.inl rfl) h.1, h.2⟩
 | fz sz cs =>
  simp only [ObOk] at h ⊢
  rw [hm, hst]
  cases hx : G.mu id with
  | none => rw [hx] at h; exact h
  | some x =>
   rw [hx] at h
   cases x with
   | none => exact h
   | some b => exact ⟨hrow b sz cs _ hx (.inr rfl) h.1, h.2⟩
section
variable {G : Cx} {σ : List Ob}
def Cx.new (G : Cx) (id : Nat) (w : World) (b : Option Nat) : Cx := { G with w := w, mu := fun i => if i = id then some b else G.mu i }
theorem zfq (hr : Rel G σ) (w : World) (hw : w.heap = G.w.heap) (cells : Array Value) (e : TypeId) : G.Ext (G.new σ.length (w.alloc (.cells cells e)) (some G.w.heap.size)) := by
 have hsz : w.heap.size = G.w.heap.size := by rw [hw]
 have hold : ∀ k, k < G.w.heap.size → (w.alloc (.cells cells e)).heap[k]? = G.w.heap[k]? := fun k hk => by rw [heap_alloc_old (r := k) w _ (by omega), hw]
 refine ⟨rfl, rfl, fun _ _ h => h, fun b o h => World.cell?_of_block (hold b (hr.st b o h)), fun id x h => ?_, by simp [Cx.new, hsz], fun b cur t f h => ⟨cur, ?_, rfl⟩, fun _ _ h => .inl h, rfl, fun _ _ h => .inl h, fun k o h _ => (hold k (Array.getElem?_eq_some_iff.1 h).1).trans h⟩
 ·
  have : id ≠ σ.length := by
   intro e2
   rw [e2, hr.fresh _ (Nat.le_refl _)] at h
   cases h
  simp [Cx.new, this, h]
 ·
  exact (hold b (Array.getElem?_eq_some_iff.1 h).1).trans h
theorem zho (hr : Rel G σ) (w : World) (hw : w.heap = G.w.heap) (hbw : BelowT G.base G.w0 w) (cells : Array Value) (e : TypeId) (sz : Nat) (cs : List AV) (hn : cs.length * sz ≤ cells.size)
  (h : ∀ (k : Nat) x, cs[k]? = some x → x.cells.length = sz ∧ (∀ c ∈ x.cells, c.one = true) ∧ ∀ (j : Nat) c, x.cells[j]? = some c → ∃ v, cells[k * sz + j]? = some v ∧ Rep G v c) :
  Rel (G.new σ.length (w.alloc (.cells cells e)) (some G.w.heap.size)) (σ ++ [.row sz cs]) := by
 have hext := zfq hr w hw cells e
 have hsz : w.heap.size = G.w.heap.size := by rw [hw]
 have hble : G.base ≤ G.w.heap.size := by have h1 := hr.le; have h2 := hr.below.size; omega
 refine ⟨hbw.alloc (by omega) _, hr.le, fun b o hb => ?_, fun id ob hob => ?_, fun i j b hi hj hmi hmj => ?_, fun id hid => ?_⟩
 ·
  have := hr.st b o hb
  simp only [Cx.new, World.size_alloc]; omega
 ·
  by_cases hid : id < σ.length
  ·
   rw [List.getElem?_append_left hid] at hob
   have h1 := hr.obs id ob hob
   have hne : id ≠ σ.length := by omega
   have hm : (G.new σ.length (w.alloc (.cells cells e)) (some G.w.heap.size)).mu id = G.mu id := by simp [Cx.new, hne]
   have key : ∀ b sz cs f, ze7 G b sz cs f → ze7 (G.new σ.length (w.alloc (.cells cells e)) (some G.w.heap.size)) b sz cs f := by
    rintro b sz cs f ⟨cur, t, fr, h2, h3, h4, h5⟩
    refine ⟨cur, t, fr, ?_, h3, h4, fun k x hx => ⟨(h5 k x hx).1, (h5 k x hx).2.1, fun j c hc => ?_⟩⟩
    ·
     exact ((heap_alloc_old (r := b) w _ (by have := (Array.getElem?_eq_some_iff.1 h2).1; omega)).trans (by rw [hw])).trans h2
    ·
     obtain ⟨v, h6, h7⟩ := (h5 k x hx).2.2 j c hc
     exact ⟨v, h6, h7.ext hext⟩
   exact h1.of hm rfl rfl (by simp [Cx.new, hsz]) (fun b sz cs f _ _ hx => key b sz cs f hx) (fun b X hb hX _ => ⟨(heap_alloc_old (r := b) w _ (by have := hX.lt; omega)).trans (by rw [hw]), fun j hj => by
    by_cases e2 : j = σ.length
    ·
     subst e2
     have := hX.lt
     simp [Cx.new] at hj
     omega
    ·
     simpa [Cx.new, e2] using hj⟩)
  ·
   have hid2 : id = σ.length := by
    have := (List.getElem?_eq_some_iff.1 hob).1
    simp at this; omega
   subst hid2
   simp at hob
   subst hob
   simp only [ObOk, Cx.new, if_true]
   refine ⟨⟨cells, e, (0, 0), ?_, rfl, hn, fun k x hx => ⟨(h k x hx).1, (h k x hx).2.1, fun j c hc => ?_⟩⟩, hble, fun o ho => ?_⟩
   ·
    show (w.alloc (.cells cells e)).heap[G.w.heap.size]? = _
    rw [← hsz]; exact heap_alloc_new w _
   ·
    obtain ⟨v, h6, h7⟩ := (h k x hx).2.2 j c hc
    exact ⟨v, h6, h7.ext hext⟩
   ·
    have := hr.st _ _ ho
    omega
 ·
  -- of two rows in one block
  have old : ∀ i b, ze6 (σ ++ [.row sz cs]) i → (G.new σ.length (w.alloc (.cells cells e)) (some G.w.heap.size)).mu i = some (some b) → (i = σ.length ∧ b = G.w.heap.size) ∨ (i < σ.length ∧ ze6 σ i ∧ G.mu i = some (some b) ∧ b < G.w.heap.size) := by
   rintro i b ⟨sz1, cs1, hi⟩ hm
   by_cases hlt : i < σ.length
   ·
    right
    rw [List.getElem?_append_left hlt] at hi
    have hm2 : G.mu i = some (some b) := by simpa [Cx.new, Nat.ne_of_lt hlt] using hm
    refine ⟨hlt, ⟨sz1, cs1, hi⟩, hm2, ?_⟩
    have h1 := hr.obs i _ hi
    simp only [ObOk, hm2] at h1
    obtain ⟨⟨cur, t, fr, h2, _⟩, _⟩ := h1
    exact (Array.getElem?_eq_some_iff.1 h2).1
   ·
    left
    have := (List.getElem?_eq_some_iff.1 hi).1
    simp at this
    have he : i = σ.length := by omega
    subst he
    simp [Cx.new] at hm
    exact ⟨rfl, hm.symm⟩
  rcases old i b hi hmi with ⟨rfl, hb1⟩ | ⟨h1, h2, h3, h4⟩ <;> rcases old j b hj hmj with ⟨rfl, hb2⟩ | ⟨g1, g2, g3, g4⟩
  ·
   rfl
  ·
   omega
  ·
   omega
  ·
   exact hr.inj i j b h2 g2 h3 g3
 ·
  simp at hid
  have hne : id ≠ σ.length := by omega
  simp [Cx.new, hne, hr.fresh id (by omega)]
theorem zn2 (hr : Rel G σ) : G.Ext (G.new σ.length G.w none) := by
 refine ⟨rfl, rfl, fun _ _ h => h, fun _ _ _ => rfl, fun id x h => ?_, Nat.le_refl _, zc5.refl _, fun _ _ h => .inl h, rfl, fun _ _ h => .inl h, fun _ _ h _ => h⟩
 have : id ≠ σ.length := by
  intro e2
  rw [e2, hr.fresh _ (Nat.le_refl _)] at h
  cases h
 simp [Cx.new, this, h]
theorem ze7.ext {G' : Cx} (e : G.Ext G') (hw : G'.w = G.w) {b sz : Nat} {cs : List AV} {f : Nat × Nat → Prop} (h : ze7 G b sz cs f) : ze7 G' b sz cs f := by
 obtain ⟨cur, t, fr, h2, h3, h4, h5⟩ := h
 refine ⟨cur, t, fr, by rw [hw]; exact h2, h3, h4, fun k x hx => ⟨(h5 k x hx).1, (h5 k x hx).2.1, fun j c hc => ?_⟩⟩
 obtain ⟨v, h6, h7⟩ := (h5 k x hx).2.2 j c hc
 exact ⟨v, h6, h7.ext e⟩
theorem zrn (hr : Rel G σ) (sz : Nat) : Rel (G.new σ.length G.w none) (σ ++ [.row sz []]) := by
 have hext := zn2 hr
 refine ⟨hr.below, hr.le, hr.st, fun id ob hob => ?_, fun i j b hi hj hmi hmj => ?_, fun id hid => ?_⟩
 ·
  by_cases hid : id < σ.length
  ·
   rw [List.getElem?_append_left hid] at hob
   have h1 := hr.obs id ob hob
   have hm : (G.new σ.length G.w none).mu id = G.mu id := by simp [Cx.new, Nat.ne_of_lt hid]
   exact h1.of hm rfl rfl (Nat.le_refl _) (fun b sz cs f _ _ hx => hx.ext hext rfl) (fun b X hb hX _ => ⟨rfl, fun j hj => by
    by_cases e2 : j = σ.length
    ·
     subst e2; simp [Cx.new] at hj
    ·
     simpa [Cx.new, e2] using hj⟩)
  ·
   have hid2 : id = σ.length := by
    have := (List.getElem?_eq_some_iff.1 hob).1
    simp at this; omega
   subst hid2
   simp at hob
   subst hob
   simp [ObOk, Cx.new]
 ·
  have old : ∀ i b, ze6 (σ ++ [.row sz []]) i → (G.new σ.length G.w none).mu i = some (some b) → ze6 σ i ∧ G.mu i = some (some b) := by
   rintro i b ⟨sz1, cs1, hi⟩ hm
   by_cases hlt : i < σ.length
   ·
    rw [List.getElem?_append_left hlt] at hi
    exact ⟨⟨sz1, cs1, hi⟩, by simpa [Cx.new, Nat.ne_of_lt hlt] using hm⟩
   ·
    have := (List.getElem?_eq_some_iff.1 hi).1
    simp at this
    have he : i = σ.length := by omega
    subst he
    simp [Cx.new] at hm
  exact hr.inj i j b (old i b hi hmi).1 (old j b hj hmj).1 (old i b hi hmi).2 (old j b hj hmj).2
 ·
  simp at hid
  have hne : id ≠ σ.length := by omega
  simp [Cx.new, hne, hr.fresh id (by omega)]
theorem zku {id b sz : Nat} {cs : List AV} {cur cur' : Array Value} {e : TypeId} (hr : Rel G σ) (hs : σ[id]? = some (.row sz cs)) (hm : G.mu id = some (some b)) (hcur : G.w.heap[b]? = some (.cells cur e (0, 0))) (hsz : cur'.size = cur.size) :
  G.Ext { G with w := G.w.setRow b cur' } := by
 have h1 := hr.obs id _ hs
 simp only [ObOk, hm] at h1
 refine ⟨rfl, rfl, fun _ _ h => h, fun b' o h => ?_, fun _ _ h => h, by simp [World.setRow], fun b' c t f h => ?_, fun _ _ h => .inl h, rfl, fun _ _ h => .inl h, fun k o h hst => (setRow_other _ b k cur' (fun e => by subst e; rw [hcur] at h; cases h; cases hst)).trans h⟩
 ·
  have hne : b' ≠ b := fun e => h1.2.2 o (e ▸ h)
  exact World.cell?_of_block (setRow_other _ b b' cur' hne)
 ·
  by_cases hb : b' = b
  ·
   subst hb
   rw [hcur] at h
   cases h
   exact ⟨cur', setRow_heap _ _ cur cur' _ _ hcur, hsz⟩
  ·
   exact ⟨c, (setRow_other _ b b' cur' hb).trans h, rfl⟩
theorem zoz {id b sz : Nat} {cs cs' : List AV} {cur cur' : Array Value} {e : TypeId} (hr : Rel G σ) (hs : σ[id]? = some (.row sz cs)) (hm : G.mu id = some (some b)) (hcur : G.w.heap[b]? = some (.cells cur e (0, 0))) (hsz : cur'.size = cur.size)
  (hn : cs'.length * sz ≤ cur'.size)
  (h : ∀ (k : Nat) x, cs'[k]? = some x → x.cells.length = sz ∧ (∀ c ∈ x.cells, c.one = true) ∧ ∀ (j : Nat) c, x.cells[j]? = some c → ∃ v, cur'[k * sz + j]? = some v ∧ Rep G v c) :
  Rel { G with w := G.w.setRow b cur' } (σ.set id (.row sz cs')) := by
 have hext := zku hr hs hm hcur hsz
 have h1 := hr.obs id _ hs
 simp only [ObOk, hm] at h1
 have hid : id < σ.length := (List.getElem?_eq_some_iff.1 hs).1
 refine ⟨zqv hr.below h1.2.1 cur', hr.le, fun b' o hb => by simpa [World.setRow] using hr.st b' o hb, fun i ob hob => ?_, fun i j b' hi hj hmi hmj => ?_, fun i hi => hr.fresh i (by simpa using hi)⟩
 ·
  by_cases hi : id = i
  ·
   subst hi
   rw [List.getElem?_set_self hid] at hob
   cases hob
   simp only [ObOk, hm]
   refine ⟨⟨cur', e, (0, 0), setRow_heap _ _ cur cur' _ _ hcur, rfl, hn, fun k x hx => ⟨(h k x hx).1, (h k x hx).2.1, fun j c hc => ?_⟩⟩, h1.2.1, h1.2.2⟩
   obtain ⟨v, h6, h7⟩ := (h k x hx).2.2 j c hc
   exact ⟨v, h6, h7.ext hext⟩
  ·
   rw [List.getElem?_set_ne hi] at hob
   have h2 := hr.obs i ob hob
   have key : ∀ b' sz cs f, b' ≠ b → ze7 G b' sz cs f → ze7 { G with w := G.w.setRow b cur' } b' sz cs f := by
    rintro b' sz cs f hne ⟨cu, t, fr, h2, h3, h4, h5⟩
    refine ⟨cu, t, fr, (setRow_other _ b b' cur' hne).trans h2, h3, h4, fun k x hx => ⟨(h5 k x hx).1, (h5 k x hx).2.1, fun j c hc => ?_⟩⟩
    obtain ⟨v, h6, h7⟩ := (h5 k x hx).2.2 j c hc
    exact ⟨v, h6, h7.ext hext⟩
   refine h2.of rfl rfl rfl (by simp [World.setRow]) (fun b' sz2 cs2 f hb' hob2 hx => by
    by_cases e2 : b' = b
    ·
     subst e2
     rcases hob2 with rfl | rfl
     ·
      exact absurd (hr.inj id i b' ⟨sz, cs, hs⟩ ⟨sz2, cs2, hob⟩ hm hb') hi
     ·
      -- a finished row in this block can have no cells
      simp only [ObOk, hb'] at h2
      obtain ⟨cu, t, fr, h3, h4, h5⟩ := hx
      have h3' := h3
      rw [hcur] at h3'
      cases h3'
      refine ⟨cur', e, (0, 0), setRow_heap _ _ cur cur' _ _ hcur, h4, by rw [hsz]; exact h5.1, fun k x hx => ⟨(h5.2 k x hx).1, (h5.2 k x hx).2.1, fun j c hc => ?_⟩⟩
      exact absurd (Or.inl (h2.2 k x j hx (List.getElem?_eq_some_iff.1 hc).1)) (h1.2.2 _)
    ·
     exact key b' _ _ _ e2 hx) (fun b' X hb' hX _ => ⟨setRow_other _ b b' cur' (fun e2 => by
    obtain ⟨es, cl, h3⟩ := hX.map
    rw [e2, hcur] at h3; cases h3), fun j hj => hj⟩)
 ·
  have old : ∀ i, ze6 (σ.set id (.row sz cs')) i → ze6 σ i := by
   rintro i ⟨sz1, cs1, hi⟩
   by_cases h2 : id = i
   ·
    subst h2; exact ⟨sz, cs, hs⟩
   ·
    rw [List.getElem?_set_ne h2] at hi; exact ⟨sz1, cs1, hi⟩
  exact hr.inj i j b' (old i hi) (old j hj) hmi hmj
theorem ztk (hr : Rel G σ) (id : Nat) : Rel G (σ.set id .dead) := by
 refine ⟨hr.below, hr.le, hr.st, fun i ob hob => ?_, fun i j b hi hj hmi hmj => ?_, fun i hi => hr.fresh i (by simpa using hi)⟩
 ·
  by_cases h : id = i
  ·
   subst h
   have hid : id < σ.length := by simpa using (List.getElem?_eq_some_iff.1 hob).1
   rw [List.getElem?_set_self hid] at hob
   cases hob
   exact fun b hb => (hr.obs id _ (List.getElem?_eq_getElem hid)).lt hb
  ·
   rw [List.getElem?_set_ne h] at hob; exact hr.obs i ob hob
 ·
  have old : ∀ i, ze6 (σ.set id .dead) i → ze6 σ i := by
   rintro i ⟨sz1, cs1, hi⟩
   by_cases h2 : id = i
   ·
    subst h2
    have hid : id < σ.length := by simpa using (List.getElem?_eq_some_iff.1 hi).1
    rw [List.getElem?_set_self hid] at hi
    cases hi
   ·
    rw [List.getElem?_set_ne h2] at hi; exact ⟨sz1, cs1, hi⟩
  exact hr.inj i j b (old i hi) (old j hj) hmi hmj
theorem zul {id sz : Nat} {b : Option Nat} {cs : List AV} (hr : Rel G σ) (hs : σ[id]? = some (.row sz cs)) (hm : G.mu id = some b) : Rel (G.new σ.length G.w b) (σ.set id .dead ++ [.row sz cs]) ∧ G.Ext (G.new σ.length G.w b) := by
 have hext : G.Ext (G.new σ.length G.w b) := by
  refine ⟨rfl, rfl, fun _ _ h => h, fun _ _ _ => rfl, fun id x h => ?_, Nat.le_refl _, zc5.refl _, fun _ _ h => .inl h, rfl, fun _ _ h => .inl h, fun _ _ h _ => h⟩
  have : id ≠ σ.length := by
   intro e2
   rw [e2, hr.fresh _ (Nat.le_refl _)] at h
   cases h
  simp [Cx.new, this, h]
 have hr2 := ztk hr id
 have hid : id < σ.length := (List.getElem?_eq_some_iff.1 hs).1
 refine ⟨⟨hr.below, hr.le, hr.st, fun i ob hob => ?_, fun i j b' hi hj hmi hmj => ?_, fun i hi => ?_⟩, hext⟩
 ·
  by_cases hi : i < σ.length
  ·
   rw [List.getElem?_append_left (by simpa using hi)] at hob
   have h1 := hr2.obs i ob hob
   have hm2 : (G.new σ.length G.w b).mu i = G.mu i := by simp [Cx.new, Nat.ne_of_lt hi]
   exact h1.of hm2 rfl rfl (Nat.le_refl _) (fun b sz cs f _ _ hx => hx.ext hext rfl) (fun b' X hb' hX _ => ⟨rfl, fun j hj => by
    by_cases e2 : j = σ.length
    ·
     subst e2
     simp [Cx.new] at hj
     subst hj
     have h3 := hr.obs id _ hs
     simp only [ObOk, hm] at h3
     obtain ⟨⟨cu, te, fr, h4, _⟩, _⟩ := h3
     obtain ⟨es, cl, h5⟩ := hX.map
     rw [h4] at h5; cases h5
    ·
     simpa [Cx.new, e2] using hj⟩)
  ·
   have hi2 : i = σ.length := by
    have := (List.getElem?_eq_some_iff.1 hob).1
    simp at this; omega
   subst hi2
   rw [List.getElem?_append_right (by simp)] at hob
   simp at hob
   subst hob
   have h1 := hr.obs id _ hs
   simp only [ObOk, hm] at h1
   have hm3 : (G.new σ.length G.w b).mu σ.length = some b := by simp [Cx.new]
   simp only [ObOk, hm3]
   cases b with
   | none => exact h1
   | some b => exact ⟨h1.1.ext hext rfl, h1.2.1, h1.2.2⟩
 ·
  have old : ∀ i b', ze6 (σ.set id .dead ++ [.row sz cs]) i → (G.new σ.length G.w b).mu i = some (some b') → (i = σ.length ∧ b = some b') ∨ (i < σ.length ∧ i ≠ id ∧ ze6 σ i ∧ G.mu i = some (some b')) := by
   rintro i b' ⟨sz1, cs1, hi⟩ hmi
   by_cases hlt : i < σ.length
   ·
    right
    rw [List.getElem?_append_left (by simpa using hlt)] at hi
    by_cases h2 : id = i
    ·
     subst h2; rw [List.getElem?_set_self hid] at hi; cases hi
    ·
     rw [List.getElem?_set_ne h2] at hi
     exact ⟨hlt, Ne.symm h2, ⟨sz1, cs1, hi⟩, by simpa [Cx.new, Nat.ne_of_lt hlt] using hmi⟩
   ·
    left
    have := (List.getElem?_eq_some_iff.1 hi).1
    simp at this
    have he : i = σ.length := by omega
    subst he
    simp [Cx.new] at hmi
    exact ⟨rfl, hmi⟩
  rcases old i b' hi hmi with ⟨rfl, h1⟩ | ⟨h1, h2, h3, h4⟩ <;> rcases old j b' hj hmj with ⟨rfl, g1⟩ | ⟨g1, g2, g3, g4⟩
  ·
   rfl
  ·
   exact absurd (hr.inj j id b' g3 ⟨sz, cs, hs⟩ g4 (by rw [hm, h1])) g2
  ·
   exact absurd (hr.inj i id b' h3 ⟨sz, cs, hs⟩ h4 (by rw [hm, g1])) h2
  ·
   exact hr.inj i j b' h3 g3 h4 g4
 ·
  simp at hi
  have hne : i ≠ σ.length := by omega
  simp [Cx.new, hne, hr.fresh i (by omega)]
theorem zoh (G : Cx) : G.Ext { G with w := G.w.drew } := ⟨rfl, rfl, fun _ _ h => h, fun _ _ _ => rfl, fun _ _ h => h, Nat.le_refl _, zc5.refl _, fun _ _ h => .inl h, rfl, fun _ _ h => .inl h, fun _ _ h _ => h⟩
theorem ztz (hr : Rel G σ) : Rel { G with w := G.w.drew } σ := by
 refine ⟨hr.below.drew, hr.le, hr.st, fun id ob h => ?_, hr.inj, hr.fresh⟩
 have h1 := hr.obs id ob h
 exact h1.of rfl rfl rfl (Nat.le_refl _) (fun b sz cs f _ _ hx => by
  obtain ⟨cur, t, fr, h2, h3, h4, h5⟩ := hx
  refine ⟨cur, t, fr, h2, h3, h4, fun k x hx => ⟨(h5 k x hx).1, (h5 k x hx).2.1, fun j c hc => ?_⟩⟩
  obtain ⟨v, h7, h8⟩ := (h5 k x hx).2.2 j c hc
  exact ⟨v, h7, h8.ext (zoh G)⟩) (fun b X _ _ _ => ⟨rfl, fun _ h => h⟩)
end
end Go.Proofs.YtohmldibkojkfaaGreatDoor.Aw
end
