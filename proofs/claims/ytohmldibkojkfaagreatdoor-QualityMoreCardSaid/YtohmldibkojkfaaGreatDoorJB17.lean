import Derived.Test.YtohmldibkojkfaaGreatDoorJB16
import Derived.Test.YtohmldibkojkfaaGreatDoorJB5
set_option linter.unusedSimpArgs false
set_option linter.unusedVariables false
set_option linter.unusedSectionVars false
section
namespace Go.Proofs.YtohmldibkojkfaaGreatDoor.Aw
open Go.RowKit
variable [Mk]
section
variable {P : Program} {N : Nat} {F : Frm} {σ σ' : List Ob} {Q : Exit → Frm → List Ob → Prop} {next : Frm → List Ob → Prop}
theorem zah (h : next F σ) : zgi next Q .normal F σ := h
theorem zcx {id : Nat} (h : Q (.exit id) F σ) : zgi next Q (.exit id) F σ := h
theorem za6 (h : Q .ret F σ) : zgi next Q .ret F σ := h
theorem zb3 {id : Nat} (h : Q .normal F σ) : ABlk id Q .normal F σ := h
theorem za7 {id : Nat} (h : Q .ret F σ) : ABlk id Q .ret F σ := h
theorem zbs {id : Nat} (h : Q .normal F σ) : ABlk id Q (.exit id) F σ := by simp only [ABlk, if_true]; exact h
theorem zbe {id id' : Nat} (hne : Nat.beq id' id = false) (h : Q (.exit id') F σ) : ABlk id Q (.exit id') F σ := by
 have : id' ≠ id := fun e => by subst e; simp at hne
 simp only [ABlk, if_neg this]; exact h
theorem zal {ops : Array Oper} {o : Oper} {j t : Nat} {c : Bool} (h : o.guard = some (j, c)) (hd : (ops[j]?).bind (·.dst) = some t) (hc : F.get t = .s (.bool c)) : Runs ops F o true := by
 have := zpg (F := F) h hd hc
 simpa using this
theorem zcd {c : Code} {S : Type} (fr : S → Frm) (st : S → List Ob) (inv : S → Prop) (ms : S → Nat) (s0 : S) (hw : Weak N F σ (fr s0) (st s0)) (h0 : inv s0)
  (round : ∀ s, inv s → AWp P N c (fr s) (st s) (zgi (fun F' σ' => ∃ s', inv s' ∧ ms s' < ms s ∧ Weak N F' σ' (fr s') (st s')) Q)) : AWp P N (.loop c) F σ Q := by
 refine zbd hw (z3e (fun m F σ => ∃ s, inv s ∧ ms s = m ∧ Weak N F σ (fr s) (st s)) (ms s0) ⟨s0, h0, rfl, Weak.refl⟩ (fun m F σ h => ?_))
 obtain ⟨s, h1, rfl, h3⟩ := h
 refine zbd h3 (zot (round s h1) (fun e F σ q => ?_))
 cases e with
 | normal => obtain ⟨s', g1, g2, g3⟩ := q; exact ⟨ms s', g2, s', g1, rfl, g3⟩
 | _ => exact q
theorem aw_cut {c : Code} (mid : Frm → List Ob → Prop) (h : AWp P N c F σ (zgi (fun F' σ' => ∃ F'' σ'', mid F'' σ'' ∧ Weak N F' σ' F'' σ'') Q)) (k : ∀ F' σ', mid F' σ' → Q .normal F' σ') : AWp P N c F σ Q := fun G a hs =>
 Code.wp_mono (fun e a w q => by
  obtain ⟨G', F', σ', rfl, g2, g3, g4⟩ := q
  cases e with
  | normal =>
   obtain ⟨F'', σ'', hm, hw⟩ := g4
   obtain ⟨G2, e2, s2, h8⟩ := hw G' a g3
   exact ⟨G2, F'', σ'', e2, g2.trans s2, h8, k F'' σ'' hm⟩
  | _ => exact ⟨G', F', σ', rfl, g2, g3, g4⟩) (h G a hs)
theorem z1w {G : Cx} {v : Value} {l : List AV} (h : Rep G v (.sl l)) : l.length ≤ maxLen := by
 cases h with
 | slnil => exact Nat.zero_le _
 | sl b o cap sz _ val hc hm h1 h2 h => exact hm
theorem aw_bd {c : Code} {d : Nat} {L : List AV} (hd : F.get d = .sl L) (k : L.length ≤ maxLen → AWp P N c F σ Q) : AWp P N c F σ Q := fun G a hs => k (z1w (by rw [← hd]; exact hs.fr d)) G a hs
theorem zhn {α : Type} {f : α → AV} {l : List α} {c : Code} {d : Nat} (hd : F.get d = .sl (l.map f)) (k : l.length ≤ maxLen → AWp P N c F σ Q) : AWp P N c F σ Q := aw_bd hd (fun h => k (by simpa using h))
theorem zsi {c : Code} {S : Type} (fr : S → Frm) (st : S → List Ob) (inv : S → Prop) (h : AWp P N c F σ (zgi (fun F' σ' => ∃ s, inv s ∧ Weak N F' σ' (fr s) (st s)) Q)) (k : ∀ s, inv s → Q .normal (fr s) (st s)) : AWp P N c F σ Q :=
 aw_cut (fun F σ => ∃ s, inv s ∧ F = fr s ∧ σ = st s) (zot h (fun e F σ q => by
  cases e with
  | normal => obtain ⟨s, h1, h2⟩ := q; exact ⟨fr s, st s, ⟨s, h1, rfl, rfl⟩, h2⟩
  | _ => exact q)) (fun F' σ' h => by obtain ⟨s, h1, rfl, rfl⟩ := h; exact k s h1)
def Sub (F : Frm) : Frm → Prop
 | [] => True
 | (d, y) :: F' => F.get d = y ∧ Sub F F'
theorem zbx : ∀ F', Sub F F' → Weak N F σ F' σ := fun F' h G a hs => ⟨G, rfl, .refl G, hs.rel, by
 have key : ∀ F', Sub F F' → FOk G a F' := by
  intro F'
  induction F' with
  | nil => intro _ d; exact .any _
  | cons p F' ih =>
   obtain ⟨d, y⟩ := p
   intro h t
   simp only [Frm.get]
   cases e : Nat.beq d t with
   | true => have := Nat.eq_of_beq_eq_true e; subst this; rw [← h.1]; exact hs.fr d
   | false => exact ih h.2 t
 exact key F' h, hs.df, hs.nt⟩
theorem zbp {o : Oper} {p : Prop} [Decidable p] (h : p) (hd : Does P o F σ (.s (.bool (decide p))) σ') : Does P o F σ (.s (.bool true)) σ' := by rwa [decide_eq_true h] at hd
theorem zbi {o : Oper} {p : Prop} [Decidable p] (h : ¬ p) (hd : Does P o F σ (.s (.bool (decide p))) σ') : Does P o F σ (.s (.bool false)) σ' := by rwa [decide_eq_false h] at hd
theorem zjq {o : Oper} {x y : AV} (h : x = y) (hd : Does P o F σ x σ') : Does P o F σ y σ' := h ▸ hd
section
variable {o : Oper}
theorem zu6 {c x y : Operand} {u : AV} (ho : o.op = .pick c x y) (hc : F.eval c = .s (.bool true)) (hu : F.eval x = u) : Does P o F σ u σ := hu ▸ zqh ho hc
theorem zu7 {c x y : Operand} {u : AV} (ho : o.op = .pick c x y) (hc : F.eval c = .s (.bool false)) (hu : F.eval y = u) : Does P o F σ u σ := hu ▸ zqh ho hc
theorem zak {α : Type} {f : α → AV} {l : List α} {t e : TypeId} {x : Operand} (ho : o.op = .call { callee := .builtin .len, args := #[x], argTypes := #[t] }) (ht : zb9 P t = some e) (hx : F.eval x = .sl (l.map f)) : Does P o F σ (.s (.int .i64 (l.length : Nat))) σ := by
 have := zl7 (F := F) (σ := σ) ho ht hx
 rwa [List.length_map] at this
theorem zmj {t : TypeId} {x : Operand} {z : Option Value} {n bt : Nat} {cs : List AV} (ho : o.op = .load t x) (ha : zda P t = some true) (hi : zby P t = some (z, n, bt)) (hx : F.eval x = .ref cs) (hn : cs.length = n) : Does P o F σ (.agg cs) σ := by
 have := zmk (F := F) (σ := σ) ho ha hi hx (by omega)
 rwa [← hn, List.take_length] at this
theorem zqp {t t' : TypeId} {x y : Operand} {a b : Bool} (ht : P.underlying t = some .bool) (ho : o.op = .binOp .eql t x y t') (hx : F.eval x = .s (.bool a)) (hy : F.eval y = .s (.bool b)) : Does P o F σ (.s (.bool (a == b))) σ :=
 zdh ho hx hy fun w => by
  have h1 : ∀ d, (Op.equalIn (d + 1) t (.bool a) (.bool b)).run P w = .ok (a == b) w := fun d => by simp [Op.equalIn, run_underlying ht]
  have h2 : (Op.equal t (.bool a) (.bool b)).run P w = .ok (a == b) w := h1 9999
  have h3 : (binOp .eql t (.bool a) (.bool b) : Sem Value) = (do pure (.bool (← Op.equal t (.bool a) (.bool b)))) := rfl
  rw [Sem.run_bind, show (eqGuard .eql t x y (.bool a) (.bool b)).run P w = .ok () w from rfl, Result.andThen_ok, h3, Sem.run_bind, h2]
  rfl
theorem zqj {x : Operand} {cs : List AV} (ho : o.op = .nilCheck x) (hx : F.eval x = .ref cs) : Does P o F σ (.ref cs) σ :=
 zcb fun G ρ hr hop => by
  have h1 := hop x (by simp [ho, Op.operands])
  rw [hx] at h1
  generalize hv : ρ x = u at h1
  cases h1 with
  | ref b i _ val h1 h2 h => exact ⟨_, by simp [execOp, ho, hv], .ref b i cs val h1 h2 h⟩
end
theorem zbj {t : Nat} {x r : AV} {e : Exit} (he : e = .normal ∨ e = .ret) (h : F.get t = x) (hr : x = r) : zmq P [.tmp t] r e F σ := ⟨he, [x], .cons _ _ _ _ (.tmp t x h) .nil, by subst hr; exact .refl _⟩
theorem post1f {t : Nat} {x r : AV} {e : Exit} (he : e = .normal ∨ e = .ret) (h : F.get t = x) (hf : Fini σ x r) : zmq P [.tmp t] r e F σ := ⟨he, [x], .cons _ _ _ _ (.tmp t x h) .nil, hf⟩
theorem zhd {t u v : Nat} {x y z x' y' z' : AV} {e : Exit} (he : e = .normal ∨ e = .ret) (h : F.get t = x) (h' : F.get u = y) (h'' : F.get v = z) (hf : Fini σ x x') (hf' : Fini σ y y') (hf'' : Fini σ z z') : zmq P [.tmp t, .tmp u, .tmp v] (.tup [x', y', z']) e F σ :=
 ⟨he, [x, y, z], .cons _ _ _ _ (.tmp t x h) (.cons _ _ _ _ (.tmp u y h') (.cons _ _ _ _ (.tmp v z h'') .nil)), .tup _ _ rfl (zij.cons hf (zij.cons hf' (zij.cons hf'' zij.nil))).2⟩
end
theorem zbz {α : Type} [Inhabited α] {f : α → AV} {l : List α} {k : Nat} (h : k < l.length) : (l.map f)[k]? = some (f (gti l k)) := by
 rw [List.getElem?_map, zbn h]; rfl
theorem zar {k : Nat} : ∀ y ∈ ([] : List AV), Lo k y := by simp
theorem zaj {k : Nat} {x : AV} {l : List AV} (h : Lo k x) (t : ∀ y ∈ l, Lo k y) : ∀ y ∈ x :: l, Lo k y := by
 intro y hy
 rcases List.mem_cons.1 hy with rfl | hy
 ·
  exact h
 ·
  exact t y hy
theorem za1 {k : Nat} {α : Type} {f : α → AV} {l : List α} (h : ∀ a, Lo k (f a)) : Lo k (.sl (l.map f)) := .sl _ fun y hy => by
 obtain ⟨a, _, rfl⟩ := List.mem_map.1 hy
 exact h a
theorem zdl {k : Nat} {α : Type} {f : α → AV} {l : List α} (h : ∀ a, ∀ c ∈ (f a).cells, Lo k c) : ∀ e ∈ l.map f, ∀ c ∈ e.cells, Lo k c := fun y hy => by
 obtain ⟨a, _, rfl⟩ := List.mem_map.1 hy
 exact h a
theorem zd9 {k : Nat} : ∀ e ∈ ([] : List AV), ∀ c ∈ e.cells, Lo k c := by simp
theorem zdr {k : Nat} {x : AV} {l : List AV} (h : Lo k x) (t : ∀ e ∈ l, ∀ c ∈ e.cells, Lo k c) : ∀ e ∈ x :: l, ∀ c ∈ e.cells, Lo k c := by
 intro y hy
 rcases List.mem_cons.1 hy with rfl | hy
 ·
  exact h.cells
 ·
  exact t y hy
theorem zzp : ∀ c ∈ ([] : List AV), Flat c := by simp
theorem zxo {x : AV} {l : List AV} (h : Flat x) (t : ∀ c ∈ l, Flat c) : ∀ c ∈ x :: l, Flat c := by
 intro y hy
 rcases List.mem_cons.1 hy with rfl | hy
 ·
  exact h
 ·
  exact t y hy
def eI (n : Int) : AV := .s (.int .i64 n)
def eB (b : Bool) : AV := .s (.bool b)
def eS (s : ByteArray) : AV := .s (.string s)
def eL {α : Type} (f : α → AV) (l : List α) : AV := .sl (l.map f)
section
def zuv : AV → Option AV
 | .any => none
 | .s v => some (.s v)
 | .agg l => some (.agg l)
 | .sl l => some (.sl l)
 | .emp => some .emp
 | .ref l => some (.ref l)
 | .own a b c => some (.own a b c)
 | .ptr a b c d => some (.ptr a b c d)
 | .fn f l => some (.fn f l)
 | .tup l => some (.tup l)
 | .mp a => some (.mp a)
 | .sub a b c d => some (.sub a b c d)
 | .ifc t x => some (.ifc t x)
 | .opq => some .opq
theorem zkj {x y : AV} (h : zuv x = some y) : x = y := by cases x <;> simp [zuv] at h <;> exact h
def opv (op : Op) (F : Frm) : Option AV := match op with
 | .move y => zuv (F.eval y)
 | .assign y => zuv (F.eval y)
 | .nilCheck x => (match F.eval x with
  | .ptr a b c d => some (.ptr a b c d)
  | .ref cs => some (.ref cs)
  | .fn f cs => some (.fn f cs)
  | _ => none)
 | .extract x i => (match F.eval x with
  | .tup l => l[i]?
  | _ => none)
 | .pick c x y => (match F.eval c with
  | .s (.bool true) => zuv (F.eval x)
  | .s (.bool false) => zuv (F.eval y)
  | _ => none)
 | _ => none
def fdv (op : Op) (t f off n : Nat) (F : Frm) : Option AV := match op with
 | .fieldAddr t' x f' => bif Nat.beq t t' && (Nat.beq f f' && !Nat.beq n 0) then (match F.eval x with
  | .ptr id sz k j => some (.ptr id sz k (j + off))
  | .ref cs => some (.ref (cs.drop off))
  | _ => none) else none
 | _ => none
def ldv (op : Op) (t : Nat) (F : Frm) : Option AV := match op with
 | .load t' x => bif Nat.beq t t' then (match F.eval x with
  | .ref (c :: _) => some c
  | _ => none) else none
 | _ => none
def lwv (op : Op) (t n : Nat) (F : Frm) : Option AV := match op with
 | .load t' x => bif Nat.beq t t' then (match F.eval x with
  | .ref cs => bif Nat.beq cs.length n then some (.agg cs) else none
  | _ => none) else none
 | _ => none
def runB (ops : Array Oper) (F : Frm) (o : Oper) : Option Bool := match o.guard with
 | none => some true
 | some (j, c) => (match (ops[j]?).bind (·.dst) with
  | some t => (match F.get t with
   | .s (.bool b) => some (match b, c with
    | true, true => true
    | false, false => true
    | _, _ => false)
   | _ => none)
  | none => none)
def stv (v : Option AV) (N : Nat) (ops : Array Oper) (o : Oper) (F : Frm) : Option (Nat × AV) := match o.dst with
 | some d => bif Nat.blt d N then (match runB ops F o with
  | some true => (match v with
   | some x => some (d, x)
   | none => none)
  | _ => none) else none
 | none => none
def stz (N : Nat) (ops : Array Oper) (o : Oper) (F : Frm) : Option Nat := match o.dst with
 | some d => bif Nat.blt d N then (match runB ops F o with
  | some false => some d
  | _ => none) else none
 | none => none
theorem zv4 {ops : Array Oper} {F : Frm} {o : Oper} {r : Bool} (h : runB ops F o = some r) : Runs ops F o r := by
 unfold runB at h
 split at h
 ·
  rename_i hg; cases h; exact zaa hg
 ·
  rename_i j c hg
  split at h
  ·
   rename_i t ht
   split at h
   ·
    rename_i b hb
    have := zpg (F := F) hg ht hb
    cases b <;> cases c <;> (simp at h; subst h; simpa using this)
   ·
    cases h
  ·
   cases h
theorem zce {v : Option AV} {N : Nat} {ops : Array Oper} {o : Oper} {F : Frm} {d : Nat} {x : AV} (h : stv v N ops o F = some (d, x)) : o.dst = some d ∧ Nat.blt d N = true ∧ Runs ops F o true ∧ v = some x := by
 unfold stv at h
 split at h
 ·
  rename_i e he
  cases hb : Nat.blt e N with
  | false => rw [hb] at h; cases h
  | true =>
   rw [hb] at h
   simp only [cond_true] at h
   split at h
   ·
    rename_i hr
    split at h
    ·
     rename_i y hy
     cases h
     exact ⟨he, hb, zv4 hr, rfl⟩
    ·
     cases h
   ·
    cases h
 ·
  cases h
theorem zip {N : Nat} {ops : Array Oper} {o : Oper} {F : Frm} {d : Nat} (h : stz N ops o F = some d) : o.dst = some d ∧ Nat.blt d N = true ∧ Runs ops F o false := by
 unfold stz at h
 split at h
 ·
  rename_i e he
  cases hb : Nat.blt e N with
  | false => rw [hb] at h; cases h
  | true =>
   rw [hb] at h
   simp only [cond_true] at h
   split at h
   ·
    rename_i hr; cases h; exact ⟨he, hb, zv4 hr⟩
   ·
    cases h
 ·
  cases h
variable {P : Program} {F : Frm} {σ : List Ob} {o : Oper} {x : AV}
theorem zkg (h : opv o.op F = some x) : Does P o F σ x σ := by
 unfold opv at h
 split at h
 ·
  rename_i y ho; exact zx0 (.inl ho) (zkj h)
 ·
  rename_i y ho; exact zx0 (.inr ho) (zkj h)
 ·
  rename_i y ho
  split at h
  ·
   rename_i hx; cases h; exact zqk ho hx
  ·
   rename_i hx; cases h; exact zqj ho hx
  ·
   rename_i hx; cases h; exact zsb ho hx
  ·
   cases h
 ·
  rename_i y i ho
  split at h
  ·
   rename_i hx; exact zqo ho hx h
  ·
   cases h
 ·
  rename_i c y z ho
  split at h
  ·
   rename_i hc; exact zu6 ho hc (zkj h)
  ·
   rename_i hc; exact zu7 ho hc (zkj h)
  ·
   cases h
 ·
  cases h
theorem zkn {t f off n ft : Nat} (hf : zcf P t f = some (off, ft, some n)) (h : fdv o.op t f off n F = some x) : Does P o F σ x σ := by
 unfold fdv at h
 split at h
 ·
  rename_i t' y f' ho
  cases h1 : Nat.beq t t' && (Nat.beq f f' && !Nat.beq n 0) with
  | false => rw [h1] at h; cases h
  | true =>
   rw [h1] at h
   simp only [cond_true] at h
   simp only [Bool.and_eq_true, Bool.not_eq_true'] at h1
   obtain ⟨e1, e2, e3⟩ := h1
   have e1 := Nat.eq_of_beq_eq_true e1
   have e2 := Nat.eq_of_beq_eq_true e2
   subst e1 e2
   have hn : n ≠ 0 := fun e => by subst e; simp at e3
   split at h
   ·
    rename_i hx; cases h; exact zcv ho hf hn hx
   ·
    rename_i hx; cases h; exact zi6 ho hf hn hx
   ·
    cases h
 ·
  cases h
theorem zth {t : Nat} (ha : zda P t = some false) (h : ldv o.op t F = some x) : Does P o F σ x σ := by
 unfold ldv at h
 split at h
 ·
  rename_i t' y ho
  cases h1 : Nat.beq t t' with
  | false => rw [h1] at h; cases h
  | true =>
   rw [h1] at h
   simp only [cond_true] at h
   have e1 := Nat.eq_of_beq_eq_true h1
   subst e1
   split at h
   ·
    rename_i hx; cases h; exact zoj ho ha hx
   ·
    cases h
 ·
  cases h
theorem zn5 {t n bt : Nat} {z : Option Value} (ha : zda P t = some true) (hi : zby P t = some (z, n, bt)) (h : lwv o.op t n F = some x) : Does P o F σ x σ := by
 unfold lwv at h
 split at h
 ·
  rename_i t' y ho
  cases h1 : Nat.beq t t' with
  | false => rw [h1] at h; cases h
  | true =>
   rw [h1] at h
   simp only [cond_true] at h
   have e1 := Nat.eq_of_beq_eq_true h1
   subst e1
   split at h
   ·
    rename_i cs hx
    cases h2 : Nat.beq cs.length n with
    | false => rw [h2] at h; cases h
    | true => rw [h2] at h; cases h; exact zmj ho ha hi hx (Nat.eq_of_beq_eq_true h2)
   ·
    cases h
 ·
  cases h
end
section
variable {P : Program} {N : Nat} {F : Frm} {σ : List Ob} {Q : Exit → Frm → List Ob → Prop} {ops : Array Oper} {o : Oper} {l : List Oper} {d : Nat} {x : AV}
theorem zac (h : stv (opv o.op F) N ops o F = some (d, x)) (k : AOps P N ops l ((d, x) :: F) σ Q) : AOps P N ops (o :: l) F σ Q := zad (zce h).1 (zce h).2.1 (zce h).2.2.1 (zkg (zce h).2.2.2) k
theorem zbh {t f off n ft : Nat} (hf : zcf P t f = some (off, ft, some n)) (h : stv (fdv o.op t f off n F) N ops o F = some (d, x)) (k : AOps P N ops l ((d, x) :: F) σ Q) : AOps P N ops (o :: l) F σ Q := zad (zce h).1 (zce h).2.1 (zce h).2.2.1 (zkn hf (zce h).2.2.2) k
theorem zbl {t : Nat} (ha : zda P t = some false) (h : stv (ldv o.op t F) N ops o F = some (d, x)) (k : AOps P N ops l ((d, x) :: F) σ Q) : AOps P N ops (o :: l) F σ Q := zad (zce h).1 (zce h).2.1 (zce h).2.2.1 (zth ha (zce h).2.2.2) k
theorem zbr {t n bt : Nat} {z : Option Value} (ha : zda P t = some true) (hi : zby P t = some (z, n, bt)) (h : stv (lwv o.op t n F) N ops o F = some (d, x)) (k : AOps P N ops l ((d, x) :: F) σ Q) : AOps P N ops (o :: l) F σ Q := zad (zce h).1 (zce h).2.1 (zce h).2.2.1 (zn5 ha hi (zce h).2.2.2) k
theorem zat (h : stz N ops o F = some d) (k : AOps P N ops l ((d, .s undef) :: F) σ Q) : AOps P N ops (o :: l) F σ Q := zeq (zip h).1 (zip h).2.1 (zip h).2.2 k
end
section
variable {P : Program} {N : Nat} {F : Frm} {σ : List Ob} {ops : Array Oper} {o : Oper} {l : List Oper} {d : Nat} {x : AV} {K : Frm → Prop}
theorem qx_s (h : stv (opv o.op F) N ops o F = some (d, x)) (k : QX P N ops σ l ((d, x) :: F) K) : QX P N ops σ (o :: l) F K := za9 (zce h).1 (zce h).2.1 (zce h).2.2.1 (zkg (zce h).2.2.2) k
theorem qx_f {t f off n ft : Nat} (hf : zcf P t f = some (off, ft, some n)) (h : stv (fdv o.op t f off n F) N ops o F = some (d, x)) (k : QX P N ops σ l ((d, x) :: F) K) : QX P N ops σ (o :: l) F K := za9 (zce h).1 (zce h).2.1 (zce h).2.2.1 (zkn hf (zce h).2.2.2) k
theorem qx_l {t : Nat} (ha : zda P t = some false) (h : stv (ldv o.op t F) N ops o F = some (d, x)) (k : QX P N ops σ l ((d, x) :: F) K) : QX P N ops σ (o :: l) F K := za9 (zce h).1 (zce h).2.1 (zce h).2.2.1 (zth ha (zce h).2.2.2) k
theorem qx_w {t n bt : Nat} {z : Option Value} (ha : zda P t = some true) (hi : zby P t = some (z, n, bt)) (h : stv (lwv o.op t n F) N ops o F = some (d, x)) (k : QX P N ops σ l ((d, x) :: F) K) : QX P N ops σ (o :: l) F K := za9 (zce h).1 (zce h).2.1 (zce h).2.2.1 (zn5 ha hi (zce h).2.2.2) k
theorem qx_z (h : stz N ops o F = some d) (k : QX P N ops σ l ((d, .s undef) :: F) K) : QX P N ops σ (o :: l) F K := zb8 (zip h).1 (zip h).2.1 (zip h).2.2 k
end
theorem zyc {P : Program} {N : Nat} {F : Frm} {σ : List Ob} {Q : Exit → Frm → List Ob → Prop} {c c2 c3 : Code} (F1 : Frm) (σ1 : List Ob)
  (h : AWp P N c F σ (zgi (fun F σ => AWp P N c2 F σ (zgi (fun F' σ' => Weak N F' σ' F1 σ1) Q)) (zgi (fun F' σ' => Weak N F' σ' F1 σ1) Q)))
  (k : AWp P N c3 F1 σ1 Q) : AWp P N c F σ (zgi (fun F σ => AWp P N c2 F σ (zgi (fun F σ => AWp P N c3 F σ Q) Q)) (zgi (fun F σ => AWp P N c3 F σ Q) Q)) := by
 have w : ∀ e F σ, zgi (fun F' σ' => Weak N F' σ' F1 σ1) Q e F σ → zgi (fun F σ => AWp P N c3 F σ Q) Q e F σ := fun e F σ q => by
  cases e with
  | normal => exact zbd q k
  | _ => exact q
 refine zot h (fun e F σ q => ?_)
 cases e with
 | normal => exact zot q w
 | _ => first | exact w .ret F σ q | exact w (.exit _) F σ q | exact w (.goto _) F σ q | exact w (.panic _) F σ q | exact w .outgrown F σ q
end Go.Proofs.YtohmldibkojkfaaGreatDoor.Aw
end
section
namespace Go.Proofs.YtohmldibkojkfaaGreatDoor.Aw
open Go.RowKit
def zwt (G : Cx) (w' : World) : Cx := { base := 0, w0 := G.w, w := w', mu := fun _ => none, St := fun b o => G.St b o ∨ (G.w.heap.size ≤ b ∧ b < w'.heap.size) }
theorem zhb {P : Program} {f : FuncId} {args : List AV} {r : AV} (he : zj8 P f) (hl : Lo 0 r)
  (h : ∀ (G : Cx) (vargs : Array Value), StT G.St G.w → vargs.size = args.length → (∀ (j : Nat) v x, vargs[j]? = some v → args[j]? = some x → Rep G v x) →
   Calls P f vargs G.w fun e w' => ∃ v, e = .returned v ∧ Below G.w.heap.size G.w w' ∧ Rep (zwt G w') v r) : Pure P f args r :=
 ⟨he, hl, fun G vargs hst hsz hrep => (h G vargs hst hsz hrep).mono (by
  rintro e w' ⟨v, rfl, hb, hr⟩
  refine ⟨v, zwt G w', rfl, rfl, hb, fun b o h => .inl h, fun b o h => ?_, fun b o h => ?_, hr⟩
  ·
   exact h.imp (fun h => h) (fun h => h.1)
  ·
   rcases h with h | h
   ·
    have := hst b o h; have := hb.size; show b < w'.heap.size; omega
   ·
    exact h.2)⟩
theorem zu5 {P : Program} {f : FuncId} (h : ∀ args w, (callFunc f args).run P w = .ok (.enter f args) w) : zj8 P f := h
theorem z0t {G : Cx} {α : Type} [Inhabited α] {size : Nat} {enc : α → List Value} {f : α → AV} (he : ∀ a, (enc a).length = size) (hf : ∀ a, (f a).cells.length = size) (h1 : ∀ a, ∀ c ∈ (f a).cells, c.one = true)
  {lo hi : Nat} {v : Value} {l : List α} (h : Rd size enc G.w lo hi v l) (hs : ∀ b o, lo ≤ b → b < hi → b < G.w.heap.size → G.St b o)
  (hr : ∀ a ∈ l, ∀ (j : Nat) u c, (enc a)[j]? = some u → (f a).cells[j]? = some c → Rep G u c) : Rep G v (eL f l) := by
 obtain ⟨A, c, rfl, hc, hm⟩ := h.form
 unfold eL
 rcases Nat.eq_zero_or_pos l.length with h0 | h0
 ·
  have : l = [] := List.eq_nil_of_length_eq_zero h0
  subst this
  exact .slnil A c
 ·
  obtain ⟨b, off, rfl, hlo, hhi, _⟩ := Rd.at_ h he (zbn h0)
  have key : ∀ (k : Nat) a (j : Nat) u, l[k]? = some a → (enc a)[j]? = some u → G.w.cell? ⟨b, off + (k * size + j), none⟩ = some u := by
   intro k a j u hk hu
   obtain ⟨b2, off2, hA, _, _, h3⟩ := Rd.at_ h he hk
   cases hA
   exact h3 j u hu
  have hval : ∀ (k : Nat) e (j : Nat) c, (l.map f)[k]? = some e → e.cells[j]? = some c → ∃ a u, l[k]? = some a ∧ e = f a ∧ (enc a)[j]? = some u ∧ Rep G u c ∧ G.w.cell? ⟨b, off + k * size + j, none⟩ = some u := by
   intro k e j c hk hc
   rw [List.getElem?_map] at hk
   cases ha : l[k]? with
   | none => rw [ha] at hk; cases hk
   | some a =>
    rw [ha] at hk
    simp only [Option.map_some, Option.some.injEq] at hk
    subst hk
    have hj : j < (enc a).length := by rw [he, ← hf a]; exact (List.getElem?_eq_some_iff.1 hc).1
    refine ⟨a, (enc a)[j], rfl, rfl, List.getElem?_eq_getElem hj, hr a (List.mem_of_getElem? ha) j _ c (List.getElem?_eq_getElem hj) hc, ?_⟩
    rw [Nat.add_assoc]
    exact key k a j _ ha (List.getElem?_eq_getElem hj)
  have hlen : l.length = (l.map f).length := by simp
  rw [hlen]
  refine .sl b off c size (l.map f) (fun k j => (G.w.cell? ⟨b, off + k * size + j, none⟩).getD undef) (by simpa using hc) (by simpa [maxLen] using hm) (fun k e hk => ?_) (fun k e j c hk hc => ?_) (fun k e j c hk hc => ?_)
  ·
   obtain ⟨a, _, rfl⟩ := List.mem_map.1 (List.mem_of_getElem? hk)
   exact ⟨hf a, h1 a⟩
  ·
   obtain ⟨a, u, _, _, _, _, h6⟩ := hval k e j c hk hc
   exact ⟨hs b _ hlo hhi (World.block_lt_of_cell? _ _ h6), by rw [h6]; rfl⟩
  ·
   obtain ⟨a, u, _, _, _, h5, h6⟩ := hval k e j c hk hc
   rw [h6]; exact h5
theorem zv8 {G : Cx} {α : Type} [Inhabited α] {size : Nat} {enc : α → List Value} {f : α → AV} (hsz : 0 < size) (he : ∀ a, (enc a).length = size) (hf : ∀ a, (f a).cells.length = size)
  {v : Value} {l : List α} (h : Rep G v (eL f l)) (hs : ∀ b o, G.St b o → b < G.w.heap.size)
  (hr : ∀ a ∈ l, ∀ (j : Nat) u c v, (enc a)[j]? = some u → (f a).cells[j]? = some c → Rep G v c → v = u) : Rd size enc G.w 0 G.w.heap.size v l := by
 unfold eL at h
 generalize hL : l.map f = L at h
 cases h with
 | slnil A cap =>
  have : l = [] := by simpa using hL
  subst this
  exact ⟨by simp, A, cap, rfl, Nat.zero_le _, Nat.zero_le _, fun h => by simp at h⟩
 | sl b o cap sz _ val hc hm h1 h2 h =>
  subst hL
  simp only [List.length_map] at *
  have key : ∀ (k : Nat) a (j : Nat) u, l[k]? = some a → (enc a)[j]? = some u → G.w.cell? ⟨b, o + (k * size + j), none⟩ = some u := by
   intro k a j u hk hu
   have hk2 : (l.map f)[k]? = some (f a) := by rw [List.getElem?_map, hk]; rfl
   have hsz' : sz = size := by rw [← (h1 k _ hk2).1, hf]
   subst hsz'
   have hj : j < (f a).cells.length := by rw [hf, ← he a]; exact (List.getElem?_eq_some_iff.1 hu).1
   have hj2 := List.getElem?_eq_getElem hj
   have h3 := h2 k _ j _ hk2 hj2
   rw [Nat.add_assoc] at h3
   rw [h3.2, hr a (List.mem_of_getElem? hk) j u _ _ hu hj2 (h k _ j _ hk2 hj2)]
  refine ⟨zcw he l, _, cap, rfl, hc, hm, fun hn => ⟨b, o, rfl, Nat.zero_le _, ?_, fun j u hu => ?_⟩⟩
  ·
   have h0 := zbn hn
   have hk2 : (l.map f)[0]? = some (f (gti l 0)) := by rw [List.getElem?_map, h0]; rfl
   have hj : 0 < (f (gti l 0)).cells.length := by rw [hf]; exact hsz
   exact hs _ _ (h2 0 _ 0 _ hk2 (List.getElem?_eq_getElem hj)).1
  ·
   have hlt : j < l.length * size := by
    have := (List.getElem?_eq_some_iff.1 hu).1
    rwa [zcw he] at this
   have hk : j / size < l.length := Nat.div_lt_of_lt_mul (by rw [Nat.mul_comm]; exact hlt)
   have hjm : j % size < (enc (gti l (j / size))).length := by rw [he]; exact Nat.mod_lt _ hsz
   have h5 := zen he l (j / size) (gti l (j / size)) (j % size) _ (zbn hk) (List.getElem?_eq_getElem hjm)
   have h6 := key (j / size) _ (j % size) _ (zbn hk) (List.getElem?_eq_getElem hjm)
   have h7 : j / size * size + j % size = j := by rw [Nat.mul_comm]; exact Nat.div_add_mod _ _
   rw [h7] at h5 h6
   rw [h5] at hu
   cases hu
   exact h6
theorem z11 {G : Cx} {lo hi : Nat} {v : Value} {l : List Int} (h : RdI G.w lo hi v l) (hs : ∀ b o, lo ≤ b → b < hi → b < G.w.heap.size → G.St b o) : Rep G v (eL eI l) :=
 z0t (size := 1) (enc := encI) (f := eI) (by simp) (fun _ => rfl) (fun a c hc => by simp [eI, AV.cells] at hc; subst hc; rfl) h hs (fun a _ j u c hu hc => by
  cases j with
  | zero => simp [eI, AV.cells] at hu hc; subst hu hc; exact .s _
  | succ j => simp at hu)
theorem zg9 {G : Cx} {v : Value} {l : List Int} (h : Rep G v (eL eI l)) (hs : ∀ b o, G.St b o → b < G.w.heap.size) : RdI G.w 0 G.w.heap.size v l :=
 zv8 (size := 1) (enc := encI) (f := eI) (by decide) (by simp) (fun _ => rfl) h hs (fun a _ j u c v hu hc hv => by
  cases j with
  | zero => simp [eI, AV.cells] at hu hc; subst hu hc; exact zdd hv
  | succ j => simp at hu)
theorem zrf {G : Cx} {v : Value} {l : List ByteArray} (h : Rep G v (eL eS l)) (hs : ∀ b o, G.St b o → b < G.w.heap.size) : RdS G.w 0 G.w.heap.size v l :=
 zv8 (size := 1) (enc := encS) (f := eS) (by decide) (by simp) (fun _ => rfl) h hs (fun a _ j u c v hu hc hv => by
  cases j with
  | zero => simp [eS, AV.cells] at hu hc; subst hu hc; exact zdd hv
  | succ j => simp at hu)
end Go.Proofs.YtohmldibkojkfaaGreatDoor.Aw
end
section
namespace Go.Proofs.YtohmldibkojkfaaGreatDoor.Aw
open Go.RowKit
def eT (t : Tr) : AV := .agg [eS t.label, eL eI t.inn, eL eI t.out]
def eN (n : Net) : AV := .agg [eI n.places, eL eT n.trans, eI n.source, eI n.sink]
theorem z1t {G : Cx} {v : Value} {l : List Tr} (h : Rep G v (eL eT l)) (hs : ∀ b o, G.St b o → b < G.w.heap.size) : RdT G.w 0 G.w.heap.size v l := by
 unfold eL at h
 generalize hL : l.map eT = L at h
 cases h with
 | slnil A cap =>
  have : l = [] := by simpa using hL
  subst this
  exact ⟨[], ⟨by simp, A, cap, rfl, Nat.zero_le _, Nat.zero_le _, fun h => by simp at h⟩, rfl, fun k hk => by simp at hk⟩
 | sl b o cap sz _ val hc hm h1 h2 h =>
  subst hL
  simp only [List.length_map] at *
  have hk2 : ∀ k, k < l.length → (l.map eT)[k]? = some (eT (gti l k)) := fun k hk => by rw [List.getElem?_map, zbn hk]; rfl
  refine ⟨(List.range l.length).map fun k => ⟨(gti l k).label, val k 1, val k 2⟩, ?_, by simp, fun k hk => ?_⟩
  ·
   have hlen : ((List.range l.length).map fun k => (⟨(gti l k).label, val k 1, val k 2⟩ : TrV)).length = l.length := by simp
   refine ⟨zcw (by simp) _, _, cap, by rw [hlen], by simpa using hc, by simpa using hm, fun hn => ⟨b, o, rfl, Nat.zero_le _, ?_, fun j u hu => ?_⟩⟩
   ·
    rw [hlen] at hn
    exact hs _ _ (h2 0 _ 0 _ (hk2 0 hn) rfl).1
   ·
    have hlt : j < l.length * 3 := by
     have := (List.getElem?_eq_some_iff.1 hu).1
     rwa [zcw (size := 3) (by simp), hlen] at this
    have hk : j / 3 < l.length := by omega
    have hg : ((List.range l.length).map fun k => (⟨(gti l k).label, val k 1, val k 2⟩ : TrV))[j / 3]? = some ⟨(gti l (j / 3)).label, val (j / 3) 1, val (j / 3) 2⟩ := by simp [hk]
    have hjm : j % 3 < 3 := Nat.mod_lt _ (by decide)
    have hsz : sz = 3 := by rw [← (h1 _ _ (hk2 _ hk)).1]; rfl
    subst hsz
    have h7 : j / 3 * 3 + j % 3 = j := by rw [Nat.mul_comm]; exact Nat.div_add_mod _ _
    have key : ∀ (i : Nat) u c, (encV ⟨(gti l (j / 3)).label, val (j / 3) 1, val (j / 3) 2⟩)[i]? = some u → (eT (gti l (j / 3))).cells[i]? = some c → j % 3 = i → G.w.cell? ⟨b, o + j, none⟩ = some (val (j / 3) i) := by
     intro i u c _ hc2 hi
     have h3 := (h2 (j / 3) _ i c (hk2 _ hk) hc2).2
     rw [← hi] at h3 ⊢
     rw [Nat.add_assoc, h7] at h3
     exact h3
    have hu2 : ∀ i u', j % 3 = i → (encV ⟨(gti l (j / 3)).label, val (j / 3) 1, val (j / 3) 2⟩)[i]? = some u' → u = u' := by
     intro i u' hi hu'
     have h5 := zen (size := 3) (enc := encV) (by simp) _ (j / 3) _ i u' hg hu'
     rw [← hi, h7, hu] at h5
     injection h5
    have h3 : j % 3 = 0 ∨ j % 3 = 1 ∨ j % 3 = 2 := by omega
    rcases h3 with h3 | h3 | h3
    ·
     rw [hu2 0 _ h3 rfl, key 0 _ _ rfl rfl h3]
     have := h (j / 3) _ 0 _ (hk2 _ hk) rfl
     rw [zdd this]
    ·
     rw [hu2 1 _ h3 rfl, key 1 _ _ rfl rfl h3]
    ·
     rw [hu2 2 _ h3 rfl, key 2 _ _ rfl rfl h3]
  ·
   have hg : gti ((List.range l.length).map fun k => (⟨(gti l k).label, val k 1, val k 2⟩ : TrV)) k = ⟨(gti l k).label, val k 1, val k 2⟩ := by
    unfold gti; simp [hk]
   rw [hg]
   exact ⟨rfl, zg9 (h k _ 1 _ (hk2 k hk) rfl) hs, zg9 (h k _ 2 _ (hk2 k hk) rfl) hs⟩
theorem zk9 {G : Cx} {v : Value} {n : Net} (h : Rep G v (eN n)) (hs : ∀ b o, G.St b o → b < G.w.heap.size) : ∃ vt, v = netV n vt ∧ RdT G.w 0 G.w.heap.size vt n.trans := by
 unfold eN at h
 cases h with
 | agg vs _ hl h1 h =>
  obtain ⟨l⟩ := vs
  match l, hl with
  | [a, b, c, d], _ =>
   have ha := zdd (h 0 a _ rfl rfl)
   have hc := zdd (h 2 c _ rfl rfl)
   have hd := zdd (h 3 d _ rfl rfl)
   subst ha hc hd
   exact ⟨b, rfl, z1t (h 1 b _ rfl rfl) hs⟩
end Go.Proofs.YtohmldibkojkfaaGreatDoor.Aw
end
section
namespace Go.Proofs.YtohmldibkojkfaaGreatDoor
open Go.RowKit
section
variable {P : Program} {pre : List Oper} {last : Oper} {Q : Exit → Act → World → Prop} {S : World → Prop}
def zxb (pre : List Oper) (last : Oper) : Bool :=
 (List.range pre.length).all (fun i => (last.after.any fun e => Region.binds .any e && e.on == i) || (List.range pre.length).any (fun k => match pre[k]? with | none => false | some o => o.after.any fun e => Region.binds .any e && e.on == i)) &&
 (List.range pre.length).all (fun i => match pre[i]? with
  | none => true
  | some o => (o.after.all fun e => !Region.binds .any e || decide (e.on < i)) && (match o.guard with | none => true | some (j, _) => decide (j < pre.length))) &&
 last.guard.isNone && last.after.all (fun e => !Region.binds .any e || decide (e.on < pre.length))
structure LastT (pre : List Oper) (last : Oper) : Prop where
 waits : ∀ i, i < pre.length → (∃ e ∈ last.after, Region.binds .any e = true ∧ e.on = i) ∨ ∃ (k : Nat) (o : Oper), pre[k]? = some o ∧ ∃ e ∈ o.after, Region.binds .any e = true ∧ e.on = i
 early : ∀ (i : Nat) (o : Oper), pre[i]? = some o → ∀ e ∈ o.after, Region.binds .any e = true → e.on < i
 guards : ∀ (i : Nat) (o : Oper), pre[i]? = some o → ∀ (j : Nat) (b : Bool), o.guard = some (j, b) → j < pre.length
 free : last.guard = none
 on : ∀ e ∈ last.after, Region.binds .any e = true → e.on < pre.length
theorem zzi (h : zxb pre last = true) : LastT pre last := by
 unfold zxb at h
 simp only [Bool.and_eq_true, Bool.or_eq_true, List.all_eq_true, List.any_eq_true, List.mem_range, Array.any_eq_true', beq_iff_eq] at h
 obtain ⟨⟨⟨h1, h2⟩, h3⟩, h4⟩ := h
 refine ⟨fun i hi => ?_, fun i o ho e he hb => ?_, fun i o ho j b hj => ?_, by simpa using h3, fun e he hb => ?_⟩
 ·
  rcases h1 i hi with ⟨e, he, hb, ho⟩ | ⟨k, hk, hm⟩
  ·
   exact .inl ⟨e, he, hb, ho⟩
  ·
   right
   rw [List.getElem?_eq_getElem hk] at hm
   simp only [Array.any_eq_true', Bool.and_eq_true, beq_iff_eq] at hm
   obtain ⟨e, he, hb, ho⟩ := hm
   exact ⟨k, pre[k], List.getElem?_eq_getElem hk, e, he, hb, ho⟩
 ·
  have hi : i < pre.length := (List.getElem?_eq_some_iff.1 ho).1
  have := h2 i hi
  rw [ho] at this
  simp only [Bool.and_eq_true, Array.all_eq_true', Bool.or_eq_true, Bool.not_eq_true', decide_eq_true_eq] at this
  rcases this.1 e he with h | h
  ·
   rw [hb] at h; cases h
  ·
   exact h
 ·
  have hi : i < pre.length := (List.getElem?_eq_some_iff.1 ho).1
  have := h2 i hi
  rw [ho] at this
  simp only [Bool.and_eq_true] at this
  have h5 := this.2
  rw [hj] at h5
  simpa using h5
 ·
  simp only [Array.all_eq_true', Bool.or_eq_true, Bool.not_eq_true', decide_eq_true_eq] at h4
  rcases h4 e he with h | h
  ·
   rw [hb] at h; cases h
  ·
   exact h
def Clo (pre : List Oper) (L : Array Bool) : Prop := ∀ (k : Nat) (o : Oper), pre[k]? = some o → L.getD k false = true → ∀ e ∈ o.after, Region.binds .any e = true → L.getD e.on false = true
theorem Clo.none (n : Nat) : Clo pre (Array.replicate n false) := by
 intro k o _ h
 rw [Array.getD_eq_getD_getElem?, Array.getElem?_replicate] at h
 split at h <;> simp at h
theorem Clo.step {L : Array Bool} {i : Nat} (h : Clo pre L) (hL : L.size = pre.length) (hi : i ∈ Region.ready .any pre.toArray L) : Clo pre (L.setIfInBounds i true) := by
 intro k o hk hd e he hb
 have hmono : ∀ j, L.getD j false = true → (L.setIfInBounds i true).getD j false = true := by
  intro j hj
  rw [Array.getD_eq_getD_getElem?] at hj ⊢
  rw [Array.getElem?_setIfInBounds]
  split
  ·
   rename_i e; subst e
   split
   ·
    rfl
   ·
    rename_i h3
    rw [Array.getElem?_eq_none (by omega)] at hj
    cases hj
  ·
   exact hj
 apply hmono
 by_cases hik : i = k
 ·
  subst hik
  obtain ⟨_, o2, ho2, hall⟩ := mem_ready.1 hi
  rw [List.getElem?_toArray, hk] at ho2
  cases ho2
  exact hall e he hb
 ·
  refine h k o hk ?_ e he hb
  rw [Array.getD_eq_getD_getElem?] at hd ⊢
  rw [Array.getElem?_setIfInBounds, if_neg hik] at hd
  exact hd
theorem zq4 (ok : LastT pre last) {i : Nat} {o : Oper} (ho : pre[i]? = some o) (tmps : Array Value) : Region.wanted o (yielded (pre ++ [last]).toArray tmps) = Region.wanted o (yielded pre.toArray tmps) := by
 unfold Region.wanted
 cases hg : o.guard with
 | none => rfl
 | some jb =>
  obtain ⟨j, b⟩ := jb
  simp only
  rw [zq3 (ok.guards i o ho j b hg)]
theorem zy7 (ok : LastT pre last) {i : Nat} (hi : i < pre.length) {K K' : Act → World → Prop} {a : Act} {w : World} (hK : ∀ a w, K a w → K' a w)
  (h : wpOp P pre.toArray (zin P pre last Q) i K a w) : wpOp P (pre ++ [last]).toArray Q i K' a w := by
 refine wpOp_mono hK ?_
 unfold wpOp at h ⊢
 rw [zlw hi]
 obtain ⟨o, ho⟩ : ∃ o, pre[i]? = some o := ⟨_, List.getElem?_eq_getElem hi⟩
 simp only [List.getElem?_toArray, ho] at h ⊢
 rw [zq4 ok ho]
 split
 ·
  rename_i hw
  rw [if_pos hw] at h
  rcases h with h | ⟨h1, h2⟩
  ·
   exact .inl (zvi h)
  ·
   exact .inr ⟨h1, h2⟩
 ·
  rename_i hw
  rw [if_neg hw] at h
  exact h
theorem zxa (ok : LastT pre last) : ∀ (fuel : Nat) (L : Array Bool) (a : Act) (w : World), L.size = pre.length → Clo pre L →
  wpAny P .any pre.toArray (zin P pre last Q) fuel L a w → wpAny P .any (pre ++ [last]).toArray Q (fuel + 1) (L.push false) a w := by
 -- who may come up: as before; the last one, once all have come up
 have hready : ∀ (L : Array Bool), L.size = pre.length → Clo pre L → ∀ i, i ∈ Region.ready .any (pre ++ [last]).toArray (L.push false) → (i < pre.length ∧ i ∈ Region.ready .any pre.toArray L) ∨ (i = pre.length ∧ ∀ j, j < pre.length → L.getD j false = true) := by
  intro L hL hC i hi
  obtain ⟨h1, o, ho, hall⟩ := mem_ready.1 hi
  have hlt : i < pre.length + 1 := by
   have := (Array.getElem?_eq_some_iff.1 ho).1
   simpa using this
  rcases Nat.lt_or_eq_of_le (Nat.le_of_lt_succ hlt) with h2 | h2
  ·
   left
   refine ⟨h2, mem_ready.2 ⟨?_, o, by rw [zlw h2] at ho; exact ho, fun e he hb => ?_⟩⟩
   ·
    simpa [Array.getD_eq_getD_getElem?, Array.getElem?_push, hL, Nat.ne_of_lt h2] using h1
   ·
    have hon := ok.early i o (by rw [zlw h2] at ho; simpa using ho) e he hb
    have := hall e he hb
    simpa [Array.getD_eq_getD_getElem?, Array.getElem?_push, hL, Nat.ne_of_lt (Nat.lt_trans hon h2)] using this
  ·
   right
   subst h2
   rw [zod] at ho
   injection ho with ho
   subst ho
   refine ⟨rfl, fun j hj => ?_⟩
   have key : ∀ (m j : Nat), j < pre.length → pre.length - j ≤ m → L.getD j false = true := by
    intro m
    induction m with
    | zero => intro j hj hm; omega
    | succ m ihm =>
     intro j hj hm
     rcases ok.waits j hj with ⟨e, he, hb, rfl⟩ | ⟨k, o2, hk, e, he, hb, rfl⟩
     ·
      have := hall e he hb
      simpa [Array.getD_eq_getD_getElem?, Array.getElem?_push, hL, Nat.ne_of_lt hj] using this
     ·
      have hlt2 := ok.early k o2 hk e he hb
      have hk2 : k < pre.length := (List.getElem?_eq_some_iff.1 hk).1
      exact hC k o2 hk (ihm k hk2 (by omega)) e he hb
   exact key pre.length j hj (by omega)
 have hsome : ∀ (L : Array Bool), L.size = pre.length → Region.ready .any (pre ++ [last]).toArray (L.push false) ≠ [] := by
  intro L hL he
  -- the least that has not come up is ready
  have key : ∀ i, i ≤ pre.length → ∀ j, j < i → L.getD j false = true := by
   intro i
   induction i with
   | zero => intro _ j hj; omega
   | succ i ih =>
    intro hi j hj
    rcases Nat.lt_or_eq_of_le (Nat.le_of_lt_succ hj) with h1 | h1
    ·
     exact ih (by omega) j h1
    ·
     subst h1
     cases hc : L.getD j false with
     | true => rfl
     | false =>
      exfalso
      have hj' : j < pre.length := by omega
      obtain ⟨o, ho⟩ : ∃ o, pre[j]? = some o := ⟨_, List.getElem?_eq_getElem hj'⟩
      have hm : j ∈ Region.ready .any (pre ++ [last]).toArray (L.push false) := by
       refine mem_ready.2 ⟨?_, o, by rw [zlw hj']; simpa using ho, fun e he hb => ?_⟩
       ·
        have hlt : j < L.size := by omega
        simp [Array.getD_eq_getD_getElem?, hlt] at hc ⊢
        simp [Array.getElem?_push, Nat.ne_of_lt hlt, hlt, hc]
       ·
        have hon := ok.early j o ho e he hb
        have := ih (by omega) e.on hon
        simpa [Array.getD_eq_getD_getElem?, Array.getElem?_push, hL, Nat.ne_of_lt (Nat.lt_trans hon hj')] using this
      rw [he] at hm
      cases hm
  have hm : pre.length ∈ Region.ready .any (pre ++ [last]).toArray (L.push false) := by
   refine mem_ready.2 ⟨?_, last, zod, fun e he hb => ?_⟩
   ·
    rw [Array.getD_eq_getD_getElem?, ← hL, Array.getElem?_push_size]; rfl
   ·
    have hon := ok.on e he hb
    have := key pre.length (Nat.le_refl _) e.on hon
    simpa [Array.getD_eq_getD_getElem?, Array.getElem?_push, hL, Nat.ne_of_lt hon] using this
  rw [he] at hm
  cases hm
 -- the last one
 have hlast : ∀ (fuel : Nat) (L : Array Bool) (a : Act) (w : World), L.size = pre.length → (∀ j, j < pre.length → L.getD j false = true) → zin P pre last Q .normal a w →
   wpOp P (pre ++ [last]).toArray Q pre.length (wpAny P .any (pre ++ [last]).toArray Q fuel ((L.push false).setIfInBounds pre.length true)) a w := by
  intro fuel L a w hL hall h
  have hdone : Region.ready .any (pre ++ [last]).toArray ((L.push false).setIfInBounds pre.length true) = [] := by
   rw [List.eq_nil_iff_forall_not_mem]
   intro i hi
   obtain ⟨h1, o, ho, _⟩ := mem_ready.1 hi
   have hlt : i < pre.length + 1 := by
    have := (Array.getElem?_eq_some_iff.1 ho).1
    simpa using this
   rcases Nat.lt_or_eq_of_le (Nat.le_of_lt_succ hlt) with h2 | h2
   ·
    have h3 := hall i h2
    have hlt' : i < L.size := by omega
    rw [Array.getD_eq_getD_getElem?, Array.getElem?_eq_getElem hlt'] at h3
    rw [Array.getD_eq_getD_getElem?, Array.getElem?_setIfInBounds, if_neg (by omega), Array.getElem?_push, if_neg (by omega), Array.getElem?_eq_getElem hlt'] at h1
    simp only [Option.getD_some] at h1 h3
    rw [h3] at h1
    cases h1
   ·
    subst h2
    simp [Array.getD_eq_getD_getElem?, Array.getElem?_setIfInBounds, hL] at h1
  have hK : ∀ a w, Q .normal a w → wpAny P .any (pre ++ [last]).toArray Q fuel ((L.push false).setIfInBounds pre.length true) a w := by
   intro a w hq
   cases fuel with
   | zero => exact ⟨hdone, hq⟩
   | succ fuel => exact ⟨fun _ => hq, by rw [hdone]; simp⟩
  refine wpOp_mono hK ?_
  unfold wpOp
  rw [zod]
  exact h
 intro fuel
 induction fuel with
 | zero =>
  intro L a w hL hC h
  refine ⟨fun he => absurd he (hsome L hL), fun i hi => ?_⟩
  rcases hready L hL hC i hi with ⟨_, h2⟩ | ⟨rfl, h2⟩
  ·
   rw [h.1] at h2; cases h2
  ·
   exact hlast 0 L a w hL h2 h.2
 | succ fuel ih =>
  intro L a w hL hC h
  refine ⟨fun he => absurd he (hsome L hL), fun i hi => ?_⟩
  rcases hready L hL hC i hi with ⟨h1, h2⟩ | ⟨rfl, h2⟩
  ·
   refine zy7 ok h1 (fun a' w' h' => ?_) (h.2 i h2)
   have := ih (L.setIfInBounds i true) a' w' (by simpa using hL) (hC.step hL h2) h'
   rwa [show (L.push false).setIfInBounds i true = (L.setIfInBounds i true).push false from by
    apply Array.ext_getElem?
    intro j
    simp only [Array.getElem?_setIfInBounds, Array.getElem?_push, Array.size_push, Array.size_setIfInBounds]
    by_cases h3 : i = j
    ·
     subst h3
     rw [if_pos rfl, if_pos (by omega), if_neg (by omega), if_pos rfl, if_pos (by omega)]
    ·
     rw [if_neg h3, if_neg h3]]
  ·
   refine hlast (fuel + 1) L a w hL h2 (h.1 ?_)
   rw [List.eq_nil_iff_forall_not_mem]
   intro j hj
   obtain ⟨h3, o, ho, _⟩ := mem_ready.1 hj
   have hlt : j < pre.length := by
    have := (Array.getElem?_eq_some_iff.1 ho).1
    simpa using this
   have h4 := h2 j hlt
   have hlt' : j < L.size := by omega
   simp [Array.getD_eq_getD_getElem?, hlt'] at h3 h4
   rw [h4] at h3
   cases h3
end
end Go.Proofs.YtohmldibkojkfaaGreatDoor
namespace Go.Proofs.YtohmldibkojkfaaGreatDoor.Aw
open Go.RowKit
variable [Mk] {P : Program} {N : Nat} {l : List Oper} {F : Frm} {σ : List Ob} {Q : Exit → Frm → List Ob → Prop}
theorem zmc {last : Oper} (hl : l.dropLast ++ [last] = l) (hk : zxb l.dropLast last = true) (h : zsq P N l.dropLast F σ (zgi (fun F σ => AOps P N l.toArray [last] F σ Q) Q)) : zsq P N l F σ Q := fun G a hs => by
 have h1 := h G a hs
 have h2 := zei (Q' := zin P l.dropLast last (lift N G Q)) (fun e a w q => by
  obtain ⟨G', F', σ', rfl, g2, g3, g4⟩ := q
  unfold zin
  rw [hl]
  cases e with
  | normal => exact zdm (fun e a w q => ze0 g2 (fun _ _ _ x => x) q) _ _ _ (g4 G' a g3)
  | _ => exact ⟨G', F', σ', rfl, g2, g3, g4⟩) _ _ _ _ h1
 have h3 := zxa (zzi hk) _ _ a G.w (by simp) (Clo.none _) h2
 rw [hl] at h3
 have h4 : l.length = l.dropLast.length + 1 := by rw [← hl]; simp
 rw [h4]
 rwa [show Array.replicate (l.dropLast.length + 1) false = (Array.replicate l.dropLast.length false).push false by simp [Array.replicate_succ]]
end Go.Proofs.YtohmldibkojkfaaGreatDoor.Aw
end
section
namespace Go.Proofs.YtohmldibkojkfaaGreatDoor.Aw
open Go.RowKit
section
variable [Mk] {P : Program} {N : Nat} {F : Frm} {σ : List Ob} {Q : Exit → Frm → List Ob → Prop} {ops : Array Oper} {o : Oper} {l : List Oper} {d : Nat}
theorem zfo {p : Prop} [Decidable p] (hd : o.dst = some d) (hN : Nat.blt d N = true) (hr : Runs ops F o true) (hD : Does P o F σ (.s (.bool (decide p))) σ) (k1 : p → AOps P N ops l ((d, .s (.bool true)) :: F) σ Q) (k2 : ¬ p → AOps P N ops l ((d, .s (.bool false)) :: F) σ Q) : AOps P N ops (o :: l) F σ Q := by
 by_cases h : p
 ·
  exact zad hd hN hr (zbp h hD) (k1 h)
 ·
  exact zad hd hN hr (zbi h hD) (k2 h)
end
end Go.Proofs.YtohmldibkojkfaaGreatDoor.Aw
end
section
namespace Go.Proofs.YtohmldibkojkfaaGreatDoor.Aw
open Go.RowKit
variable [Mk]
def RnL (ρ : List Nat) (l l' : List AV) : Prop := l.length = l'.length ∧ ∀ (j : Nat) x y, l[j]? = some x → l'[j]? = some y → Rn ρ x y
theorem RnL.nil {ρ : List Nat} : RnL ρ [] [] := ⟨rfl, by simp⟩
theorem RnL.cons {ρ : List Nat} {x y : AV} {l l' : List AV} (h : Rn ρ x y) (t : RnL ρ l l') : RnL ρ (x :: l) (y :: l') := by
 refine ⟨by simp [t.1], fun j a b ha hb => ?_⟩
 cases j with
 | zero => simp at ha hb; subst ha hb; exact h
 | succ j => exact t.2 j a b (by simpa using ha) (by simpa using hb)
theorem zn1 {ρ : List Nat} {sz : Nat} {cs cs' : List AV} (h : RnL ρ cs cs') : ObRn ρ (.row sz [.agg cs]) (.row sz [.agg cs']) := .rowR sz _ _ (.agg cs cs' h.1 h.2) h.2 h.1
section
variable {N : Nat} {F F' : Frm} {σ σ' : List Ob}
theorem zf6 {G : Cx} {id sz : Nat} {cs cs' : List AV} (hr : Rel G σ) (hs : σ[id]? = some (.row sz cs)) (h0 : cs = [] → cs' = []) (h : ∀ b f, ze7 G b sz cs f → ze7 G b sz cs' f) : Rel G (σ.set id (.row sz cs')) := by
 have hid : id < σ.length := (List.getElem?_eq_some_iff.1 hs).1
 refine ⟨hr.below, hr.le, hr.st, fun i ob hob => ?_, fun i j b hi hj hm hm' => ?_, fun i hi => hr.fresh i (by simpa using hi)⟩
 ·
  by_cases hi : id = i
  ·
   subst hi
   rw [List.getElem?_set_self hid] at hob
   cases hob
   have h1 := hr.obs id _ hs
   simp only [ObOk] at h1 ⊢
   cases hx : G.mu id with
   | none => rw [hx] at h1; exact h1
   | some x =>
    rw [hx] at h1
    cases x with
    | none => exact h0 h1
    | some b => exact ⟨h b _ h1.1, h1.2⟩
  ·
   rw [List.getElem?_set_ne hi] at hob; exact hr.obs i ob hob
 ·
  have old : ∀ i, ze6 (σ.set id (.row sz cs')) i → ze6 σ i := by
   rintro i ⟨sz1, cs1, hi⟩
   by_cases h2 : id = i
   ·
    subst h2; exact ⟨sz, cs, hs⟩
   ·
    rw [List.getElem?_set_ne h2] at hi; exact ⟨sz1, cs1, hi⟩
  exact hr.inj i j b (old i hi) (old j hj) hm hm'
theorem zjc {id sz sz2 : Nat} {e e' : AV} {pre post : List AV} (hs : σ[id]? = some (.row sz [e])) (h1 : e.cells = pre ++ .s (.slice none 0 0) :: post) (h2 : e'.cells = pre ++ .own σ.length sz2 0 :: post) :
  Weak N F σ F (σ.set id (.row sz [e']) ++ [.row sz2 []]) := fun G a h => by
 have he := zn2 h.rel
 have hr := zrn h.rel sz2
 have hid : id < σ.length := (List.getElem?_eq_some_iff.1 hs).1
 refine ⟨G.new σ.length G.w none, rfl, he.step, ?_, h.fr.ext he, h.df, h.nt⟩
 have hset : σ.set id (Ob.row sz [e']) ++ [Ob.row sz2 []] = (σ ++ [Ob.row sz2 []]).set id (Ob.row sz [e']) := by rw [List.set_append_left _ _ hid]
 rw [hset]
 refine zf6 hr (by rw [List.getElem?_append_left hid]; exact hs) (fun h => by cases h) ?_
 rintro b f ⟨cur, t, fr, g1, g2, g3, g4⟩
 refine ⟨cur, t, fr, g1, g2, g3, fun k y hy => ?_⟩
 cases k with
 | succ k => simp at hy
 | zero =>
  simp at hy
  subst hy
  obtain ⟨k1, k2, k3⟩ := g4 0 e rfl
  rw [h1] at k1 k2 k3
  rw [h2]
  refine ⟨by simpa using k1, fun c hc => ?_, fun j c hc => ?_⟩
  ·
   simp only [List.mem_append, List.mem_cons] at hc
   rcases hc with hc | rfl | hc
   ·
    exact k2 c (by simp [hc])
   ·
    rfl
   ·
    exact k2 c (by simp [hc])
  ·
   by_cases hj : j = pre.length
   ·
    subst hj
    simp at hc
    subst hc
    obtain ⟨v, h6, h7⟩ := k3 pre.length (.s (.slice none 0 0)) (by simp)
    refine ⟨v, h6, ?_⟩
    cases h7
    exact .own0 σ.length sz2 none (fun a ha => by cases ha) (by simp [Cx.new])
   ·
    have e : (pre ++ AV.s (.slice none 0 0) :: post)[j]? = some c := by
     rw [← hc]
     by_cases hlt : j < pre.length
     ·
      rw [List.getElem?_append_left hlt, List.getElem?_append_left hlt]
     ·
      rw [List.getElem?_append_right (by omega), List.getElem?_append_right (by omega)]
      obtain ⟨i, hi⟩ : ∃ i, j - pre.length = i + 1 := ⟨j - pre.length - 1, by omega⟩
      rw [hi]; rfl
    exact k3 j c e
end
section
variable {P : Program} {o : Oper} {F : Frm} {σ : List Ob}
theorem zkr {sz n : Nat} {l : List AV} (h : Does P o F [] (.own 0 sz n) [.row sz l]) (hn : n = l.length) (hop0 : ∀ y ∈ o.op.operands, Lo 0 (F.eval y)) (hlo : Lo 0 (.sl l)) : Does P o F σ (.sl l) σ := by
 intro G a next Q hr hop hk
 obtain ⟨G0, hG0⟩ : ∃ G0 : Cx, G0 = { base := G.w.heap.size, w0 := G.w, w := G.w, mu := fun _ => none, St := G.St } := ⟨_, rfl⟩
 have hr0 : Rel G0 [] := by
  subst hG0
  exact ⟨⟨Below.refl _ _, hr.below.now, hr.below.now.lt⟩, Nat.le_refl _, fun b o h => h.elim (fun h => hr.st b o (.inl h)) False.elim, fun id ob h => by simp at h, fun i j b hi _ _ _ => by obtain ⟨_, _, h⟩ := hi; simp at h, fun _ _ => rfl⟩
 have hw : G.w = G0.w := by subst hG0; rfl
 rw [hw]
 refine h G0 a next Q hr0 (fun y hy => (hop y hy).low (hop0 y hy) (by subst hG0; exact fun _ _ h => h) (by subst hG0; exact fun _ _ _ => rfl) (fun id y h => by omega) (fun h => by omega)) (fun v G1 he hr1 hrep => ?_)
 obtain ⟨he2, hr2⟩ := zr3 hr1 (id := 0) (sz := sz) (cs := l) rfl
 have hrep2 := zv9 hr2 (id := 0) (sz := sz) (cs := l) rfl hn (hrep.ext he2)
 have hb0 : G1.base = G.w.heap.size := by rw [he.base]; subst hG0; rfl
 have hw0 : (G1.froz 0).w0 = G.w := by show G1.w0 = _; rw [he.w0]; subst hG0; rfl
 have hbel : Below G.w.heap.size G.w (G1.froz 0).w := by have := hr2.below; rw [show (G1.froz 0).base = G.w.heap.size from hb0, hw0] at this; exact this.toBelow
 have hSt : G0.St = G.St := by subst hG0; rfl
 obtain ⟨h4, h5⟩ := zgh (G1 := G1.froz 0) hr rfl hbel (fun b o h => he2.st _ _ (he.st _ _ (by rw [hSt]; exact h))) (fun b o h => by
  rcases he2.stN b o h with h1 | h1
  ·
   rcases he.stN b o h1 with h2 | h2
   ·
    rw [hSt] at h2; exact .inl h2
   ·
    right; have e : G0.base = G.w.heap.size := by subst hG0; rfl
    omega
  ·
   right; omega) (fun b o h => hr2.st b o (.inl h))
 exact hk v { G with w := (G1.froz 0).w, St := (G1.froz 0).St } h4 h5 (hrep2.low hlo (fun _ _ h => h) (fun _ _ _ => rfl) (fun id y h => by omega) (fun h => by omega))
theorem zi7 {t e : TypeId} {s y : Operand} {z : Value} {sz bt : Nat} {x y' : AV} {l : List AV} (ho : o.op = .call { callee := .builtin .append, args := #[s, y], argTypes := #[t, t] })
  (ht : zb9 P t = some e) (hi : zby P e = some (some z, sz, bt)) (hzs : z.cells.size = sz) (hsz : 0 < sz) (hx : F.eval s = x) (hx2 : x = .emp ∨ x = .s (.slice none 0 0)) (hy : F.eval y = y') (hsrc : Src [] sz y' l)
  (h63 : l.length ≤ maxLen) (hby : l.length * bt ≤ 140737488355328) (hly : Lo 0 y') (hl : Lo 0 (.sl l)) : Does P o F σ (.sl l) σ :=
 zkr (ze1 ho ht hi hzs hsz hx hx2 hy hsrc h63 hby) rfl (fun u hu => by
  simp [ho, Op.operands, Call.operands] at hu
  rcases hu with rfl | rfl
  ·
   rw [hx]; rcases hx2 with rfl | rfl
   ·
    exact .emp
   ·
    exact .s _
  ·
   rw [hy]; exact hly) hl
theorem zhg {t e : TypeId} {y : Operand} {z : Value} {bt : Nat} {v : Value} (ho : o.op = .buildSlice t 1 #[(0, y)]) (ht : zb9 P t = some e) (hi : zby P e = some (some z, 1, bt))
  (h1 : (ofValue z).cells.all AV.one = true) (hn : (ofValue z).cells.length = 1) (hy : F.eval y = .s v) (hx : (AV.s v).one = true) : Does P o F σ (.sl [.s v]) σ :=
 zkr (ziy ho ht hi h1 hn hy hx) rfl (fun u hu => by simp [ho, Op.operands] at hu; subst hu; rw [hy]; exact .s _) (.sl _ (zaj (.s _) zar))
theorem zzh {t e : TypeId} {y : Operand} {z : Value} {bt : Nat} {l : List AV} (ho : o.op = .buildSlice t 1 #[(0, y)]) (ht : zb9 P t = some e) (hi : zby P e = some (some z, 1, bt))
  (h1 : (ofValue z).cells.all AV.one = true) (hn : (ofValue z).cells.length = 1) (hy : F.eval y = .sl l) (hx : (AV.sl l).one = true) (hl : Lo 0 (.sl l)) : Does P o F σ (.sl [.sl l]) σ :=
 zkr (z2n ho ht hi h1 hn hy hx) rfl (fun u hu => by simp [ho, Op.operands] at hu; subst hu; rw [hy]; exact hl) (.sl _ (zaj hl zar))
theorem zd5 {t e : TypeId} {y : Operand} {z : Value} {n bt : Nat} {cs : List AV} (ho : o.op = .buildSlice t 1 #[(0, y)]) (ht : zb9 P t = some e) (hi : zby P e = some (some z, n, bt))
  (h1 : (ofValue z).cells.all AV.one = true) (hn : (ofValue z).cells.length = n) (h2 : 2 ≤ n) (hsm : n ≤ 16777216) (hy : F.eval y = .agg cs) (hx : cs.all AV.one = true) (hl : cs.length = n) (hlo : Lo 0 (.agg cs)) : Does P o F σ (.sl [.agg cs]) σ :=
 zkr (zef ho ht hi h1 hn h2 hsm hy hx hl) rfl (fun u hu => by simp [ho, Op.operands] at hu; subst hu; rw [hy]; exact hlo) (.sl _ (zaj hlo zar))
end
section
variable {P : Program} {F : Frm} {σ : List Ob}
theorem z17 {ad : Tmp} {ty : TypeId} {id sz k n bt : Nat} {z : Option Value} {ob : Ob} {cs cs1 cs2 : List AV} {e1 : AV} {e : Exit} (he : e = .normal ∨ e = .ret) (ha : zda P ty = some true) (hi : zby P ty = some (z, n, bt)) (hp : F.get ad = .ptr id sz k 0) (hs : σ[id]? = some ob) (ho : zfs ob = some (sz, cs)) (hk : cs[k]? = some e1) (hc : e1.cells = cs1) (hn : cs1.length = n) (hf : zij σ cs1 cs2) : zmq P [.cell ad ty] (.agg cs2) e F σ :=
 ⟨he, [_], .cons _ _ _ _ (.cells ad ty id sz k n bt z ob cs e1 ha hi hp hs ho hk (by rw [hc]; exact hn)) .nil, by rw [hc]; exact .agg _ _ hf.1 hf.2⟩
end
end Go.Proofs.YtohmldibkojkfaaGreatDoor.Aw
end
section
namespace Go.Proofs.YtohmldibkojkfaaGreatDoor.Aw
open Go.RowKit
variable [Mk]
def ge1 : Option Nat → Bool
 | some (_ + 1) => true
 | _ => false
def is2 : Option Nat → Bool
 | some 2 => true
 | _ => false
def gOk (l : List Oper) (ks : List Nat) : Bool :=
 qOk l && (let m := zid l []
  (List.range l.length).all fun j => (List.range j).all fun i => !(ge1 ks[i]? && ge1 ks[j]? && (is2 ks[i]? || is2 ks[j]?)) || (m.getD j 0).testBit i)
theorem gOk_of {l : List Oper} {ks : List Nat} (h : gOk l ks = true) : qOk l = true ∧ ∀ (i j a b : Nat), i < j → j < l.length → ks[i]? = some a → ks[j]? = some b → 1 ≤ a → 1 ≤ b → a = 2 ∨ b = 2 → ((zid l []).getD j 0).testBit i = true := by
 unfold gOk at h
 simp only [Bool.and_eq_true] at h
 refine ⟨h.1, fun i j a b hij hj ha hb h1 h2 h3 => ?_⟩
 have h4 := List.all_eq_true.1 (List.all_eq_true.1 h.2 j (by simpa using hj)) i (by simpa using hij)
 rw [ha, hb] at h4
 obtain ⟨a, rfl⟩ : ∃ k, a = k + 1 := ⟨a - 1, by omega⟩
 obtain ⟨b, rfl⟩ : ∃ k, b = k + 1 := ⟨b - 1, by omega⟩
 have h5 : (is2 (some (a + 1)) || is2 (some (b + 1))) = true := by
  rcases h3 with h | h
  ·
   have : a = 1 := by omega
   subst this; rfl
  ·
   have : b = 1 := by omega
   subst this; simp [is2]
 simpa [ge1, h5] using h4
inductive GSteps (P : Program) (N : Nat) (ops : Array Oper) : List Oper → Frm → List Ob → Frm → List Ob → List (Nat × AV) → List Nat → List (List Ob) → Prop
 | nil (F : Frm) (σ : List Ob) : GSteps P N ops [] F σ F σ [] [] []
 | free (o : Oper) (l : List Oper) (F F' : Frm) (σ σ' : List Ob) (x : AV) (out : List (Nat × AV)) (ks : List Nat) (sts : List (List Ob)) (d : Nat) (hd : o.dst = some d) (hN : Nat.blt d N = true) (hr : Runs ops F o true) (hD : ∀ σ, Does P o F σ x σ) (h : GSteps P N ops l ((d, x) :: F) σ F' σ' out ks sts) : GSteps P N ops (o :: l) F σ F' σ' ((d, x) :: out) (0 :: ks) (σ :: sts)
 | skip (o : Oper) (l : List Oper) (F F' : Frm) (σ σ' : List Ob) (out : List (Nat × AV)) (ks : List Nat) (sts : List (List Ob)) (d : Nat) (hd : o.dst = some d) (hN : Nat.blt d N = true) (hr : Runs ops F o false) (h : GSteps P N ops l ((d, .s undef) :: F) σ F' σ' out ks sts) : GSteps P N ops (o :: l) F σ F' σ' ((d, .s undef) :: out) (0 :: ks) (σ :: sts)
 | look (o : Oper) (l : List Oper) (F F' : Frm) (σ σ' : List Ob) (x : AV) (out : List (Nat × AV)) (ks : List Nat) (sts : List (List Ob)) (d : Nat) (hd : o.dst = some d) (hN : Nat.blt d N = true) (hr : Runs ops F o true) (hD : Does P o F σ x σ) (h : GSteps P N ops l ((d, x) :: F) σ F' σ' out ks sts) : GSteps P N ops (o :: l) F σ F' σ' ((d, x) :: out) (1 :: ks) (σ :: sts)
 | eff (o : Oper) (l : List Oper) (F F' : Frm) (σ σ1 σ' : List Ob) (x : AV) (out : List (Nat × AV)) (ks : List Nat) (sts : List (List Ob)) (d : Nat) (hd : o.dst = some d) (hN : Nat.blt d N = true) (hr : Runs ops F o true) (hD : Does P o F σ x σ1) (h : GSteps P N ops l ((d, x) :: F) σ1 F' σ' out ks sts) : GSteps P N ops (o :: l) F σ F' σ' ((d, x) :: out) (2 :: ks) (σ :: sts)
theorem zp6 {P : Program} {N : Nat} {ops : Array Oper} : ∀ {l : List Oper} {F F' : Frm} {σ σ' : List Ob} {out : List (Nat × AV)} {ks : List Nat} {sts : List (List Ob)}, GSteps P N ops l F σ F' σ' out ks sts → l.length = out.length ∧ F' = out.reverse ++ F ∧ ks.length = l.length ∧ sts.length = l.length ∧ (sts ++ [σ']).getD 0 [] = σ ∧
  ∀ (i : Nat) o, l[i]? = some o → ∃ d x, out[i]? = some (d, x) ∧ o.dst = some d ∧ d < N ∧
   ((ks[i]? = some 0 ∧ (sts ++ [σ']).getD (i + 1) [] = (sts ++ [σ']).getD i [] ∧ ((Runs ops ((out.take i).reverse ++ F) o true ∧ ∀ σ, Does P o ((out.take i).reverse ++ F) σ x σ) ∨ (Runs ops ((out.take i).reverse ++ F) o false ∧ x = .s undef))) ∨
    (ks[i]? = some 1 ∧ (sts ++ [σ']).getD (i + 1) [] = (sts ++ [σ']).getD i [] ∧ Runs ops ((out.take i).reverse ++ F) o true ∧ Does P o ((out.take i).reverse ++ F) ((sts ++ [σ']).getD i []) x ((sts ++ [σ']).getD i [])) ∨
    (ks[i]? = some 2 ∧ Runs ops ((out.take i).reverse ++ F) o true ∧ Does P o ((out.take i).reverse ++ F) ((sts ++ [σ']).getD i []) x ((sts ++ [σ']).getD (i + 1) []))) := by
 intro l F F' σ σ' out ks sts h
 induction h with
 | nil F σ => exact ⟨rfl, rfl, rfl, rfl, rfl, by simp⟩
 | free o l F F' σ σ' x out ks sts d hd hN hr hD h ih =>
  obtain ⟨h1, h2, h3, h4, h0, h5⟩ := ih
  refine ⟨by simp [h1], by simp [h2], by simp [h3], by simp [h4], rfl, fun i o' hi => ?_⟩
  cases i with
  | zero => simp at hi; subst hi; exact ⟨d, x, rfl, hd, by simpa [Nat.blt_eq] using hN, .inl ⟨rfl, h0, .inl ⟨by simpa using hr, by simpa using hD⟩⟩⟩
  | succ i =>
   obtain ⟨d', x', g1, g2, g3, g4⟩ := h5 i o' (by simpa using hi)
   exact ⟨d', x', by simpa using g1, g2, g3, by simpa using g4⟩
 | skip o l F F' σ σ' out ks sts d hd hN hr h ih =>
  obtain ⟨h1, h2, h3, h4, h0, h5⟩ := ih
  refine ⟨by simp [h1], by simp [h2], by simp [h3], by simp [h4], rfl, fun i o' hi => ?_⟩
  cases i with
  | zero => simp at hi; subst hi; exact ⟨d, .s undef, rfl, hd, by simpa [Nat.blt_eq] using hN, .inl ⟨rfl, h0, .inr ⟨by simpa using hr, rfl⟩⟩⟩
  | succ i =>
   obtain ⟨d', x', g1, g2, g3, g4⟩ := h5 i o' (by simpa using hi)
   exact ⟨d', x', by simpa using g1, g2, g3, by simpa using g4⟩
 | look o l F F' σ σ' x out ks sts d hd hN hr hD h ih =>
  obtain ⟨h1, h2, h3, h4, h0, h5⟩ := ih
  refine ⟨by simp [h1], by simp [h2], by simp [h3], by simp [h4], rfl, fun i o' hi => ?_⟩
  cases i with
  | zero => simp at hi; subst hi; exact ⟨d, x, rfl, hd, by simpa [Nat.blt_eq] using hN, .inr (.inl ⟨rfl, h0, by simpa using hr, by simpa using hD⟩)⟩
  | succ i =>
   obtain ⟨d', x', g1, g2, g3, g4⟩ := h5 i o' (by simpa using hi)
   exact ⟨d', x', by simpa using g1, g2, g3, by simpa using g4⟩
 | eff o l F F' σ σ1 σ' x out ks sts d hd hN hr hD h ih =>
  obtain ⟨h1, h2, h3, h4, h0, h5⟩ := ih
  refine ⟨by simp [h1], by simp [h2], by simp [h3], by simp [h4], rfl, fun i o' hi => ?_⟩
  cases i with
  | zero =>
   simp at hi; subst hi
   refine ⟨d, x, rfl, hd, by simpa [Nat.blt_eq] using hN, .inr (.inr ⟨rfl, by simpa using hr, ?_⟩)⟩
   have e : ((σ :: sts) ++ [σ']).getD (0 + 1) [] = σ1 := h0
   rw [e]
   simpa using hD
  | succ i =>
   obtain ⟨d', x', g1, g2, g3, g4⟩ := h5 i o' (by simpa using hi)
   exact ⟨d', x', by simpa using g1, g2, g3, by simpa using g4⟩
section
variable {P : Program} {N : Nat} {l : List Oper} {F F' : Frm} {σ : List Ob} {out : List (Nat × AV)} {Q : Exit → Frm → List Ob → Prop}
theorem z2r {σ' : List Ob} {ks : List Nat} {sts : List (List Ob)} (hq : gOk l ks = true) (hs : GSteps P N l.toArray l F σ F' σ' out ks sts) (hQ : Q .normal F' σ') (G0 : Cx) :
  ∀ (fuel : Nat) (L : Array Bool) (G : Cx) (a : Act) (m : Nat), G0.Step G → L.size = l.length → left L.toList = fuel → zh4 l (fun j => L.getD j false = true) → m ≤ l.length → (∀ j, ks[j]? = some 2 → (L.getD j false = true ↔ j < m)) → S8 N G a (fr (fun j => L.getD j false) 0 out F) ((sts ++ [σ']).getD m []) → wpAny P .any l.toArray (lift N G0 Q) fuel L a G.w := by
 obtain ⟨hlen, hF', hkl, hsl, _, hat⟩ := zp6 hs
 obtain ⟨hq, hq2⟩ := gOk_of hq
 unfold qOk at hq
 have hq' : ∀ j oj, l[j]? = some oj → (∀ e ∈ oj.after.toList, Region.binds .any e = true → e.on < j) ∧ ∀ i oi, i < j → l[i]? = some oi → zh0 l.toArray oi oj = true → ((zid l []).getD j 0).testBit i = true := by
  intro j oj hj
  have h1 := List.all_eq_true.1 hq j (by simpa using (List.getElem?_eq_some_iff.1 hj).1)
  rw [hj] at h1
  simp only [Bool.and_eq_true, List.all_eq_true] at h1
  refine ⟨fun e he hb => ?_, fun i oi hij hi hc => ?_⟩
  ·
   have := h1.1 e he
   rw [hb] at this
   simpa [Nat.blt_eq] using this
  ·
   have := h1.2 i (by simpa using hij)
   rw [hi] at this
   simpa [hc] using this
 have hsound : ∀ (D : Nat → Prop), zh4 l D → ∀ j i, ((zid l []).getD j 0).testBit i = true → D j → D i := fun D hD => zgr hD l [] (fun j o h => by simpa using h) (fun j i h => by simp at h)
 have hnone : ∀ (L : Array Bool), L.size = l.length → Region.ready .any l.toArray L = [] → ∀ j, j < l.length → L.getD j false = true := by
  intro L hL hr j
  induction j using Nat.strongRecOn with
  | _ j ih =>
   intro hj
   cases hc : L.getD j false with
   | true => rfl
   | false =>
    exfalso
    obtain ⟨o, ho⟩ : ∃ o, l[j]? = some o := ⟨_, List.getElem?_eq_getElem hj⟩
    have hm : j ∈ Region.ready .any l.toArray L := by
     refine mem_ready.2 ⟨?_, o, by simpa using ho, fun e he hb => ?_⟩
     ·
      have hlt : j < L.size := by omega
      simp [Array.getD_eq_getD_getElem?, hlt] at hc ⊢
      exact hc
     ·
      have hon := (hq' j o ho).1 e (by simpa using he) hb
      exact ih e.on hon (by omega)
    rw [hr] at hm
    cases hm
 -- states without an effect between them are the same
 have hsame : ∀ (k n : Nat), n + k ≤ l.length → (∀ j, n ≤ j → j < n + k → ks[j]? ≠ some 2) → (sts ++ [σ']).getD (n + k) [] = (sts ++ [σ']).getD n [] := by
  intro k n hnk h
  induction k with
  | zero => rfl
  | succ k ihk =>
   rw [← ihk (by omega) (fun j h1 h2 => h j h1 (by omega))]
   obtain ⟨d, x, _, _, _, hc⟩ := hat (n + k) _ (List.getElem?_eq_getElem (by omega))
   have h2 := h (n + k) (by omega) (by omega)
   rcases hc with ⟨g1, g2, _⟩ | ⟨g1, g2, _⟩ | ⟨g1, _⟩
   ·
    exact g2
   ·
    exact g2
   ·
    exact absurd g1 h2
 have hbetween : ∀ (m n : Nat), m ≤ l.length → n ≤ l.length → (∀ j, ks[j]? = some 2 → (j < m ↔ j < n)) → (sts ++ [σ']).getD m [] = (sts ++ [σ']).getD n [] := by
  intro m n hm hn h
  rcases Nat.le_total m n with h1 | h1
  ·
   obtain ⟨k, rfl⟩ := Nat.exists_eq_add_of_le h1
   exact (hsame k m hn (fun j h2 h3 h4 => by have := h j h4; omega)).symm
  ·
   obtain ⟨k, rfl⟩ := Nat.exists_eq_add_of_le h1
   exact hsame k n hm (fun j h2 h3 h4 => by have := h j h4; omega)
 -- when all have come up
 have hend : ∀ (L : Array Bool) (G : Cx) (a : Act) (m : Nat), G0.Step G → L.size = l.length → Region.ready .any l.toArray L = [] → m ≤ l.length → (∀ j, ks[j]? = some 2 → (L.getD j false = true ↔ j < m)) → S8 N G a (fr (fun j => L.getD j false) 0 out F) ((sts ++ [σ']).getD m []) → lift N G0 Q .normal a G.w := by
  intro L G a m hst hL hr hml hm h8
  have e1 : (sts ++ [σ']).getD m [] = σ' := by
   rw [hbetween m l.length hml (Nat.le_refl _) (fun j hj => by
    have hjl : j < l.length := by rw [← hkl]; exact (List.getElem?_eq_some_iff.1 hj).1
    have := (hm j hj).1 (hnone L hL hr j hjl)
    exact ⟨fun _ => hjl, fun _ => this⟩)]
   simp [List.getD, ← hsl]
  rw [e1] at h8
  refine ⟨G, F', σ', rfl, hst, ⟨h8.rel, fun t => ?_, h8.df, h8.nt⟩, hQ⟩
  have h1 := h8.fr t
  have h2 : (fr (fun j => L.getD j false) 0 out F).get t = (fr (fun j => decide (j < 0 + out.length)) 0 out F).get t := zee out 0 F F rfl (fun j p hp _ => by
   have hj : j < out.length := (List.getElem?_eq_some_iff.1 hp).1
   simp only [Nat.zero_add]
   rw [hnone L hL hr j (by omega)]
   simp [hj])
  rw [h2, zj1, List.take_length, ← hF'] at h1
  exact h1
 intro fuel
 induction fuel with
 | zero =>
  intro L G a m hst hL hlf hcl hml hm h8
  have hr : Region.ready .any l.toArray L = [] := by
   rw [List.eq_nil_iff_forall_not_mem]
   intro i hi
   obtain ⟨h1, o, ho, _⟩ := mem_ready.1 hi
   have hlt : i < L.size := by rw [hL]; simpa using (Array.getElem?_eq_some_iff.1 ho).1
   have : 0 < left L.toList := zn6 i (by simp [Array.getD_eq_getD_getElem?, hlt] at h1 ⊢; exact h1)
   omega
  exact ⟨hr, hend L G a m hst hL hr hml hm h8⟩
 | succ fuel ih =>
  intro L G a m hst hL hlf hcl hml hm h8
  refine ⟨fun hr => hend L G a m hst hL hr hml hm h8, fun i hi => ?_⟩
  obtain ⟨h1, o, ho, hall⟩ := mem_ready.1 hi
  have hli : l[i]? = some o := by simpa using ho
  have hlt : i < L.size := by rw [hL]; exact (List.getElem?_eq_some_iff.1 hli).1
  have hfalse : L.getD i false = false := by simp [Array.getD_eq_getD_getElem?, hlt] at h1 ⊢; exact h1
  obtain ⟨d, x, g1, g2, g3, g4⟩ := hat i o hli
  -- the others that touch its slots: those before it have come up, those behind it have not
  have hcl' : zh4 l (fun j => j = i ∨ L.getD j false = true) := by
   intro j oj hj hD e he hb
   rcases hD with rfl | hD
   ·
    rw [hli] at hj; cases hj
    exact .inr (hall e (by simpa using he) hb)
   ·
    exact .inr (hcl j oj hj hD e he hb)
  have hord : ∀ j oj, l[j]? = some oj → j ≠ i → (j < i → zh0 l.toArray oj o = true → L.getD j false = true) ∧ (i < j → zh0 l.toArray o oj = true → L.getD j false = false) := by
   intro j oj hj hne
   refine ⟨fun hji hc => ?_, fun hij hc => ?_⟩
   ·
    rcases hsound _ hcl' i j ((hq' i o hli).2 j oj hji hj hc) (.inl rfl) with h | h
    ·
     exact absurd h hne
    ·
     exact h
   ·
    cases hx : L.getD j false with
    | false => rfl
    | true =>
     have := hsound _ hcl j i ((hq' j oj hj).2 i o hij hli hc) hx
     rw [hfalse] at this
     cases this
  have hsel : ∀ t, t ∈ o.looksAt l.toArray → Frm.get ((out.take i).reverse ++ F) t = (fr (fun j => L.getD j false) 0 out F).get t := by
   intro t ht
   rw [← zj1 out 0 i F]
   refine (zee out 0 F F rfl (fun j p hp hpt => ?_)).symm
   simp only [Nat.zero_add]
   have hj : j < l.length := by rw [hlen]; exact (List.getElem?_eq_some_iff.1 hp).1
   obtain ⟨d', x', k1, k2, _⟩ := hat j _ (List.getElem?_eq_getElem hj)
   rw [k1] at hp
   cases hp
   dsimp only at hpt
   subst hpt
   by_cases hji : j = i
   ·
    subst hji; rw [hfalse]; simp
   ·
    rcases Nat.lt_or_gt_of_ne hji with h | h
    ·
     rw [(hord j _ (List.getElem?_eq_getElem hj) hji).1 h (zfg.1 k2 ht)]; simp [h]
    ·
     rw [(hord j _ (List.getElem?_eq_getElem hj) hji).2 h (zfg.2.2 k2 ht)]; simp; omega
  -- what is known behind it
  have hnext : ∀ (m' : Nat), m' ≤ l.length → (∀ j, ks[j]? = some 2 → ((L.setIfInBounds i true).getD j false = true ↔ j < m')) → ∀ (G' : Cx) (v : Value), G.Ext G' → Rel G' ((sts ++ [σ']).getD m' []) → Rep G' v x → wpAny P .any l.toArray (lift N G0 Q) fuel (L.setIfInBounds i true) (a.put (some d) v) G'.w := by
   intro m' hm'l hm' G' v he hr' hv
   refine ih _ G' _ m' (hst.trans he.step) (by simpa using hL) ?_ ?_ hm'l hm' ⟨hr', fun t => ?_, h8.df.step he.step, by simp [Act.put, h8.nt]⟩
   ·
    have := ziz L.toList i (by simp [Array.getD_eq_getD_getElem?, hlt] at hfalse ⊢; exact hfalse)
    rw [Array.toList_setIfInBounds]; omega
   ·
    intro j oj hj hD e he2 hb
    have key : ∀ k, (L.setIfInBounds i true).getD k false = true ↔ (k = i ∨ L.getD k false = true) := fun k => by
     by_cases hk : i = k
     ·
      subst hk; simp [Array.getD_eq_getD_getElem?, hlt]
     ·
      simp [Array.getD_eq_getD_getElem?, Array.getElem?_setIfInBounds, hk, Ne.symm hk]
    rw [key] at hD ⊢
    exact hcl' j oj hj hD e he2 hb
   ·
    have hselL : ∀ k, k ≠ i → (L.setIfInBounds i true).getD k false = L.getD k false := fun k hk => by
     simp [Array.getD_eq_getD_getElem?, Array.getElem?_setIfInBounds, Ne.symm hk]
    by_cases htd : t = d
    ·
     subst htd
     have h2 : (fr (fun j => (L.setIfInBounds i true).getD j false) 0 out F).get t = x := zoe out 0 F i g1 (by simp [Array.getD_eq_getD_getElem?, hlt]) (fun j p hp hij hc hpt => by
      simp only [Nat.zero_add] at hc
      rw [hselL j (by omega)] at hc
      have hj : j < l.length := by rw [hlen]; exact (List.getElem?_eq_some_iff.1 hp).1
      obtain ⟨d', x', k1, k2, _⟩ := hat j _ (List.getElem?_eq_getElem hj)
      rw [k1] at hp
      cases hp
      dsimp only at hpt
      subst hpt
      have := (hord j _ (List.getElem?_eq_getElem hj) (by omega)).2 hij (zfg.2.1 g2 k2)
      rw [this] at hc
      cases hc)
     rw [h2]
     have : t < a.tmps.size := by rw [h8.nt]; exact g3
     simpa [Act.put, Array.getD_eq_getD_getElem?, this] using hv
    ·
     have h2 : (fr (fun j => (L.setIfInBounds i true).getD j false) 0 out F).get t = (fr (fun j => L.getD j false) 0 out F).get t := zee out 0 F F rfl (fun j p hp hpt => by
      simp only [Nat.zero_add]
      refine hselL j (fun e => ?_)
      subst e
      rw [g1] at hp
      cases hp
      exact htd hpt.symm)
     rw [h2]
     have := (h8.fr t).ext he
     simpa [Act.put, Array.getD_eq_getD_getElem?, Array.getElem?_setIfInBounds, Ne.symm htd] using this
  have hset : ∀ j, j ≠ i → ((L.setIfInBounds i true).getD j false = true ↔ L.getD j false = true) := fun j hj => by
   simp [Array.getD_eq_getD_getElem?, Array.getElem?_setIfInBounds, Ne.symm hj]
  have hseti : (L.setIfInBounds i true).getD i false = true := by simp [Array.getD_eq_getD_getElem?, hlt]
  have hil : i < l.length := (List.getElem?_eq_some_iff.1 hli).1
  have hkeep : ks[i]? ≠ some 2 → ∀ j, ks[j]? = some 2 → ((L.setIfInBounds i true).getD j false = true ↔ j < m) := fun hne j hj => by
   have : j ≠ i := fun e => hne (e ▸ hj)
   rw [hset j this]; exact hm j hj
  have heff : ∀ b, ks[i]? = some b → 1 ≤ b → ∀ j, ks[j]? = some 2 → (j < m ↔ j < i) := fun b hb h1b j hj => by
   have hjl : j < l.length := by rw [← hkl]; exact (List.getElem?_eq_some_iff.1 hj).1
   rw [← hm j hj]
   rcases Nat.lt_trichotomy j i with h | h | h
   ·
    have h3 := hq2 j i 2 b h hil hj hb (by omega) h1b (.inl rfl)
    rcases hsound _ hcl' i j h3 (.inl rfl) with h4 | h4
    ·
     omega
    ·
     simp [h, h4]
   ·
    subst h; rw [hfalse]; simp
   ·
    have h3 := hq2 i j b 2 h hjl hb hj h1b (by omega) (.inr rfl)
    constructor
    ·
     intro h4
     have := hsound _ hcl j i h3 h4
     rw [hfalse] at this; cases this
    ·
     intro h4; omega
  unfold wpOp
  simp only [ho]
  rcases g4 with ⟨k0, ks0, ⟨k1, k2⟩ | ⟨k1, rfl⟩⟩ | ⟨k0, ks0, k1, k2⟩ | ⟨k0, k1, k2⟩
  ·
   rw [if_pos ((k1.congr hsel).wanted h8.fr)]
   left
   refine ((k2 _).congr hsel) G a _ _ h8.rel (fun y _ => zdy h8.fr y) (fun v G' he hr' hv => ?_)
   rw [g2]
   exact hnext m hml (hkeep (by rw [k0]; simp)) G' v he hr' hv
  ·
   rw [if_neg (by rw [(k1.congr hsel).wanted h8.fr]; simp)]
   rw [g2]
   exact hnext m hml (hkeep (by rw [k0]; simp)) G undef (.refl G) h8.rel (.s _)
  ·
   rw [if_pos ((k1.congr hsel).wanted h8.fr)]
   left
   have e1 := hbetween m i hml (Nat.le_of_lt hil) (heff 1 k0 (by omega))
   have h8r := h8.rel
   rw [e1] at h8r
   refine (k2.congr hsel) G a _ _ h8r (fun y _ => zdy h8.fr y) (fun v G' he hr' hv => ?_)
   rw [g2]
   rw [← e1] at hr'
   exact hnext m hml (hkeep (by rw [k0]; simp)) G' v he hr' hv
  ·
   rw [if_pos ((k1.congr hsel).wanted h8.fr)]
   left
   have hef := heff 2 k0 (by omega)
   have e1 := hbetween m i hml (Nat.le_of_lt hil) hef
   have h8r := h8.rel
   rw [e1] at h8r
   refine (k2.congr hsel) G a _ _ h8r (fun y _ => zdy h8.fr y) (fun v G' he hr' hv => ?_)
   rw [g2]
   refine hnext (i + 1) hil (fun j hj => ?_) G' v he hr' hv
   by_cases hji : j = i
   ·
    subst hji; rw [hseti]; simp
   ·
    rw [hset j hji, hm j hj, hef j hj]; omega
def GX (P : Program) (N : Nat) (ops : Array Oper) (all : List Oper) (acc : List Nat) (l : List Oper) (F : Frm) (σ : List Ob) (K : Frm → List Ob → Prop) : Prop :=
 ∃ F' σ' out ks sts, GSteps P N ops l F σ F' σ' out ks sts ∧ gOk all (acc.reverse ++ ks) = true ∧ K F' σ'
variable {ops : Array Oper} {all : List Oper} {acc : List Nat} {K : Frm → List Ob → Prop}
theorem gx_nil (hk : gOk all acc.reverse = true) (h : K F σ) : GX P N ops all acc [] F σ K := ⟨F, σ, [], [], [], .nil F σ, by simpa using hk, h⟩
theorem zfp {o : Oper} {d : Nat} {x : AV} (hd : o.dst = some d) (hN : Nat.blt d N = true) (hr : Runs ops F o true) (hD : ∀ σ, Does P o F σ x σ) (h : GX P N ops all (0 :: acc) l ((d, x) :: F) σ K) : GX P N ops all acc (o :: l) F σ K := by
 obtain ⟨F', σ', out, ks, sts, h1, h2, h3⟩ := h
 exact ⟨F', σ', _, _, _, .free o l F F' σ σ' x out ks sts d hd hN hr hD h1, by simpa using h2, h3⟩
theorem zob {o : Oper} {d : Nat} {x : AV} (hd : o.dst = some d) (hN : Nat.blt d N = true) (hr : Runs ops F o true) (hD : Does P o F σ x σ) (h : GX P N ops all (1 :: acc) l ((d, x) :: F) σ K) : GX P N ops all acc (o :: l) F σ K := by
 obtain ⟨F', σ', out, ks, sts, h1, h2, h3⟩ := h
 exact ⟨F', σ', _, _, _, .look o l F F' σ σ' x out ks sts d hd hN hr hD h1, by simpa using h2, h3⟩
theorem gx_eff {o : Oper} {d : Nat} {x : AV} {σ1 : List Ob} (hd : o.dst = some d) (hN : Nat.blt d N = true) (hr : Runs ops F o true) (hD : Does P o F σ x σ1) (h : GX P N ops all (2 :: acc) l ((d, x) :: F) σ1 K) : GX P N ops all acc (o :: l) F σ K := by
 obtain ⟨F', σ', out, ks, sts, h1, h2, h3⟩ := h
 exact ⟨F', σ', _, _, _, .eff o l F F' σ σ1 σ' x out ks sts d hd hN hr hD h1, by simpa using h2, h3⟩
theorem zyg (h : GX P N l.toArray l [] l F σ (fun F' σ' => Q .normal F' σ')) : zsq P N l F σ Q := fun G a hs => by
 obtain ⟨F', σ', out, ks, sts, h1, h2, h4⟩ := h
 have hno : ∀ j, (Array.replicate l.length false).getD j false = false := fun j => by
  simp only [Array.getD_eq_getD_getElem?, Array.getElem?_replicate]
  split <;> rfl
 have h3 : ∀ (out : List (Nat × AV)) (k : Nat) (F : Frm), fr (fun j => (Array.replicate l.length false).getD j false) k out F = F := by
  intro out
  induction out with
  | nil => intro k F; rfl
  | cons p out ih =>
   intro k F
   have := hno k
   simp only [fr, this, cond_false]
   exact ih _ _
 refine z2r (by simpa using h2) h1 h4 G l.length _ G a 0 (.refl G) (by simp) (by simp [zki]) ?_ (Nat.zero_le _) ?_ ?_
 ·
  intro j o hj hD
  rw [hno] at hD
  cases hD
 ·
  intro j hj
  rw [hno]; simp
 ·
  rw [h3, (zp6 h1).2.2.2.2.1]; exact hs
end
end Go.Proofs.YtohmldibkojkfaaGreatDoor.Aw
end
section
namespace Go.Proofs.YtohmldibkojkfaaGreatDoor.Aw
open Go.RowKit
variable [Mk]
section
variable {P : Program} {N : Nat} {l : List Oper} {F F1 : Frm} {σ σ1 : List Ob} {Q : Exit → Frm → List Ob → Prop}
theorem zqq {P : Program} {o : Oper} {F : Frm} {σ σ' : List Ob} {p : Prop} {inst : Decidable p} (h : p) (hd : Does P o F σ (.s (.bool (@decide p inst))) σ') : Does P o F σ (.s (.bool true)) σ' := by rwa [decide_eq_true h] at hd
theorem dec_fi {P : Program} {o : Oper} {F : Frm} {σ σ' : List Ob} {p : Prop} {inst : Decidable p} (h : ¬ p) (hd : Does P o F σ (.s (.bool (@decide p inst))) σ') : Does P o F σ (.s (.bool false)) σ' := by rwa [decide_eq_false h] at hd
end
end Go.Proofs.YtohmldibkojkfaaGreatDoor.Aw
end
section
namespace Go.Proofs.YtohmldibkojkfaaGreatDoor.Aw
open Go Go.Proofs Go.RowKit
theorem zvd {N : Nat} {F : Frm} {σ : List Ob} {id sz : Nat} {e e' : AV} {pre post : List AV} (hs : σ[id]? = some (.row sz [e])) (h1 : e.cells = pre ++ .s (.slice none 0 0) :: post) (h2 : e'.cells = pre ++ .sl [] :: post) :
  Weak N F σ F (σ.set id (.row sz [e'])) := fun G a h => by
 refine ⟨G, rfl, .refl G, ?_, h.fr, h.df, h.nt⟩
 refine zf6 h.rel hs (fun h => by cases h) ?_
 rintro b f ⟨cur, t, fr, g1, g2, g3, g4⟩
 refine ⟨cur, t, fr, g1, g2, g3, fun k y hy => ?_⟩
 cases k with
 | succ k => simp at hy
 | zero =>
  simp at hy
  subst hy
  obtain ⟨k1, k2, k3⟩ := g4 0 e rfl
  rw [h1] at k1 k2 k3
  rw [h2]
  refine ⟨by simpa using k1, fun c hc => ?_, fun j c hc => ?_⟩
  ·
   simp only [List.mem_append, List.mem_cons] at hc
   rcases hc with hc | rfl | hc
   ·
    exact k2 c (by simp [hc])
   ·
    rfl
   ·
    exact k2 c (by simp [hc])
  ·
   by_cases hj : j = pre.length
   ·
    subst hj
    simp at hc
    subst hc
    obtain ⟨v, h6, h7⟩ := k3 pre.length (.s (.slice none 0 0)) (by simp)
    exact ⟨v, h6, znw h7⟩
   ·
    have e : (pre ++ AV.s (.slice none 0 0) :: post)[j]? = some c := by
     rw [← hc]
     by_cases hlt : j < pre.length
     ·
      rw [List.getElem?_append_left hlt, List.getElem?_append_left hlt]
     ·
      rw [List.getElem?_append_right (by omega), List.getElem?_append_right (by omega)]
      obtain ⟨i, hi⟩ : ∃ i, j - pre.length = i + 1 := ⟨j - pre.length - 1, by omega⟩
      rw [hi]; rfl
    exact k3 j c e
end Go.Proofs.YtohmldibkojkfaaGreatDoor.Aw
end
