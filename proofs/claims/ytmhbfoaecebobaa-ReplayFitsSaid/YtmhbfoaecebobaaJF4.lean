/-
  Texts joined: AwK, Find, Name, Pred, Net, AwL, AwP, AwO, AwR. Conditions: none.
-/
import Derived.Test.YtmhbfoaecebobaaJF3
import Derived.Laws.StructEq
import Derived.StringKeys
import Derived.Maps.Keyed
import Derived.Carry
section
namespace Go.Proofs.Ytmhbfoaecebobaa.Aw
set_option linter.unusedSimpArgs false
set_option linter.unusedVariables false
open Go.RowKit

section
variable {P : Program} {N : Nat} {F : Frm} {σ σ' : List Ob} {Q : Exit → Frm → List Ob → Prop} {next : Frm → List Ob → Prop}
theorem ath_n (h : next F σ) : AThen next Q .normal F σ := h
theorem ath_x {id : Nat} (h : Q (.exit id) F σ) : AThen next Q (.exit id) F σ := h
theorem ath_r (h : Q .ret F σ) : AThen next Q .ret F σ := h
theorem abl_n {id : Nat} (h : Q .normal F σ) : ABlk id Q .normal F σ := h
theorem abl_r {id : Nat} (h : Q .ret F σ) : ABlk id Q .ret F σ := h
theorem abl_hit {id : Nat} (h : Q .normal F σ) : ABlk id Q (.exit id) F σ := by simp only [ABlk, if_true]; exact h
theorem abl_miss {id id' : Nat} (hne : Nat.beq id' id = false) (h : Q (.exit id') F σ) : ABlk id Q (.exit id') F σ := by
  have : id' ≠ id := fun e => by subst e; simp at hne
  simp only [ABlk, if_neg this]; exact h
theorem runs_y {ops : Array Oper} {o : Oper} {j t : Nat} {c : Bool} (h : o.guard = some (j, c)) (hd : (ops[j]?).bind (·.dst) = some t) (hc : F.get t = .s (.bool c)) : Runs ops F o true := by
  have := runs_some (F := F) h hd hc
  simpa using this
theorem runs_nt {ops : Array Oper} {o : Oper} {j t : Nat} (h : o.guard = some (j, true)) (hd : (ops[j]?).bind (·.dst) = some t) (hc : F.get t = .s (.bool false)) : Runs ops F o false := by
  have := runs_some (F := F) h hd hc
  simpa using this
theorem runs_nf {ops : Array Oper} {o : Oper} {j t : Nat} (h : o.guard = some (j, false)) (hd : (ops[j]?).bind (·.dst) = some t) (hc : F.get t = .s (.bool true)) : Runs ops F o false := by
  have := runs_some (F := F) h hd hc
  simpa using this

/-- a loop with a state of its own -/
theorem aw_loops {c : Code} {S : Type} (fr : S → Frm) (st : S → List Ob) (inv : S → Prop) (ms : S → Nat) (s0 : S) (hw : Weak N F σ (fr s0) (st s0)) (h0 : inv s0)
    (round : ∀ s, inv s → AWp P N c (fr s) (st s) (AThen (fun F' σ' => ∃ s', inv s' ∧ ms s' < ms s ∧ Weak N F' σ' (fr s') (st s')) Q)) : AWp P N (.loop c) F σ Q := by
  refine aw_weak hw (aw_loop (fun m F σ => ∃ s, inv s ∧ ms s = m ∧ Weak N F σ (fr s) (st s)) (ms s0) ⟨s0, h0, rfl, Weak.refl⟩ (fun m F σ h => ?_))
  obtain ⟨s, h1, rfl, h3⟩ := h
  refine aw_weak h3 (aw_mono (round s h1) (fun e F σ q => ?_))
  cases e with
  | normal => obtain ⟨s', g1, g2, g3⟩ := q; exact ⟨ms s', g2, s', g1, rfl, g3⟩
  | _ => exact q
/-- ways that meet again -/
theorem aw_cut {c : Code} (mid : Frm → List Ob → Prop) (h : AWp P N c F σ (AThen (fun F' σ' => ∃ F'' σ'', mid F'' σ'' ∧ Weak N F' σ' F'' σ'') Q)) (k : ∀ F' σ', mid F' σ' → Q .normal F' σ') : AWp P N c F σ Q := fun G a hs =>
  Code.wp_mono (fun e a w q => by
    obtain ⟨G', F', σ', rfl, g2, g3, g4⟩ := q
    cases e with
    | normal =>
      obtain ⟨F'', σ'', hm, hw⟩ := g4
      obtain ⟨G2, e2, s2, h8⟩ := hw G' a g3
      exact ⟨G2, F'', σ'', e2, g2.trans s2, h8, k F'' σ'' hm⟩
    | _ => exact ⟨G', F', σ', rfl, g2, g3, g4⟩) (h G a hs)
/-- a slice is not too long -/
theorem rep_len {G : Cx} {v : Value} {l : List AV} (h : Rep G v (.sl l)) : l.length ≤ maxLen := by
  cases h with
  | slnil => exact Nat.zero_le _
  | sl b o cap sz _ val hc hm h1 h2 h => exact hm
theorem aw_bd {c : Code} {d : Nat} {L : List AV} (hd : F.get d = .sl L) (k : L.length ≤ maxLen → AWp P N c F σ Q) : AWp P N c F σ Q := fun G a hs => k (rep_len (by rw [← hd]; exact hs.fr d)) G a hs
theorem aw_bdm {α : Type} {f : α → AV} {l : List α} {c : Code} {d : Nat} (hd : F.get d = .sl (l.map f)) (k : l.length ≤ maxLen → AWp P N c F σ Q) : AWp P N c F σ Q := aw_bd hd (fun h => k (by simpa using h))
/-- the same with a state of its own -/
theorem aw_cuts {c : Code} {S : Type} (fr : S → Frm) (st : S → List Ob) (inv : S → Prop) (h : AWp P N c F σ (AThen (fun F' σ' => ∃ s, inv s ∧ Weak N F' σ' (fr s) (st s)) Q)) (k : ∀ s, inv s → Q .normal (fr s) (st s)) : AWp P N c F σ Q :=
  aw_cut (fun F σ => ∃ s, inv s ∧ F = fr s ∧ σ = st s) (aw_mono h (fun e F σ q => by
    cases e with
    | normal => obtain ⟨s, h1, h2⟩ := q; exact ⟨fr s, st s, ⟨s, h1, rfl, rfl⟩, h2⟩
    | _ => exact q)) (fun F' σ' h => by obtain ⟨s, h1, rfl, rfl⟩ := h; exact k s h1)

/-- knowing less: slots are forgotten, rows behind the first few too -/
def Sub (F : Frm) : Frm → Prop
  | [] => True
  | (d, y) :: F' => F.get d = y ∧ Sub F F'
theorem wk_sub : ∀ F', Sub F F' → Weak N F σ F' σ := fun F' h G a hs => ⟨G, rfl, .refl G, hs.rel, by
  have key : ∀ F', Sub F F' → FOk G a F' := by
    intro F'
    induction F' with
    | nil => intro _ d; exact .any _
    | cons p F' ih =>
      obtain ⟨d, y⟩ := p
      intro h t
      simp only [Frm.get]
      cases e : Nat.beq d t with
      | true => have := Nat.eq_of_beq_eq_true e; subst this; rw [← h.1]; exact hs.fr d
      | false => exact ih h.2 t
  exact key F' h, hs.df, hs.nt⟩

theorem dec_t {o : Oper} {p : Prop} [Decidable p] (h : p) (hd : Does P o F σ (.s (.bool (decide p))) σ') : Does P o F σ (.s (.bool true)) σ' := by rwa [decide_eq_true h] at hd
theorem dec_f {o : Oper} {p : Prop} [Decidable p] (h : ¬ p) (hd : Does P o F σ (.s (.bool (decide p))) σ') : Does P o F σ (.s (.bool false)) σ' := by rwa [decide_eq_false h] at hd
section
variable {o : Oper}
theorem does_pickT {c x y : Operand} {u : AV} (ho : o.op = .pick c x y) (hc : F.eval c = .s (.bool true)) (hu : F.eval x = u) : Does P o F σ u σ := hu ▸ does_pick ho hc
theorem pickT_s {c x y : Operand} {v : Value} (ho : o.op = .pick c x y) (hc : F.eval c = .s (.bool true)) (hu : F.eval x = .s v) : Does P o F σ (.s v) σ := does_pickT ho hc hu
theorem does_pickF {c x y : Operand} {u : AV} (ho : o.op = .pick c x y) (hc : F.eval c = .s (.bool false)) (hu : F.eval y = u) : Does P o F σ u σ := hu ▸ does_pick ho hc
theorem pickF_s {c x y : Operand} {v : Value} (ho : o.op = .pick c x y) (hc : F.eval c = .s (.bool false)) (hu : F.eval y = .s v) : Does P o F σ (.s v) σ := does_pickF ho hc hu
theorem does_len_map {α : Type} {f : α → AV} {l : List α} {t e : TypeId} {x : Operand} (ho : o.op = .call { callee := .builtin .len, args := #[x], argTypes := #[t] }) (ht : tySlice P t = some e) (hx : F.eval x = .sl (l.map f)) : Does P o F σ (.s (.int .i64 (l.length : Nat))) σ := by
  have := does_len_sl (F := F) (σ := σ) ho ht hx
  rwa [List.length_map] at this
theorem does_len_emp {t e : TypeId} {x : Operand} (ho : o.op = .call { callee := .builtin .len, args := #[x], argTypes := #[t] }) (ht : tySlice P t = some e) (hx : F.eval x = .emp) : Does P o F σ (.s (.int .i64 0)) σ :=
  does_val fun G ρ hr hop => by
    have h1 := hop x (by simp [ho, Op.operands, Call.operands])
    rw [hx] at h1
    generalize hv : ρ x = v at h1
    cases h1 with
    | emp A hA => exact ⟨_, run_len_slice ht ho ρ _ _ _ hv _, .s _⟩
theorem does_load_refw {t : TypeId} {x : Operand} {z : Option Value} {n bt : Nat} {cs : List AV} (ho : o.op = .load t x) (ha : tyAgg P t = some true) (hi : tyInfo P t = some (z, n, bt)) (hx : F.eval x = .ref cs) (hn : cs.length = n) : Does P o F σ (.agg cs) σ := by
  have := does_load_refs (F := F) (σ := σ) ho ha hi hx (by omega)
  rwa [← hn, List.take_length] at this
theorem does_eqlb {t t' : TypeId} {x y : Operand} {a b : Bool} (ht : P.underlying t = some .bool) (ho : o.op = .binOp .eql t x y t') (hx : F.eval x = .s (.bool a)) (hy : F.eval y = .s (.bool b)) : Does P o F σ (.s (.bool (a == b))) σ :=
  does_bin ho hx hy fun w => by
    have h1 : ∀ d, (Op.equalIn (d + 1) t (.bool a) (.bool b)).run P w = .ok (a == b) w := fun d => by simp [Op.equalIn, run_underlying ht]
    have h2 : (Op.equal t (.bool a) (.bool b)).run P w = .ok (a == b) w := h1 9999
    have h3 : (binOp .eql t (.bool a) (.bool b) : Sem Value) = (do pure (.bool (← Op.equal t (.bool a) (.bool b)))) := rfl
    rw [Sem.run_bind, show (eqGuard .eql t x y (.bool a) (.bool b)).run P w = .ok () w from rfl, Result.andThen_ok, h3, Sem.run_bind, h2]
    rfl
end
/-- one result, in a slot -/
theorem post1 {t : Nat} {x r : AV} {e : Exit} (he : e = .normal ∨ e = .ret) (h : F.get t = x) (hr : x = r) : APost P [.tmp t] r e F σ := ⟨he, [x], .cons _ _ _ _ (.tmp t x h) .nil, by subst hr; exact .refl _⟩
theorem post1f {t : Nat} {x r : AV} {e : Exit} (he : e = .normal ∨ e = .ret) (h : F.get t = x) (hf : Fini σ x r) : APost P [.tmp t] r e F σ := ⟨he, [x], .cons _ _ _ _ (.tmp t x h) .nil, hf⟩
theorem post3 {t u v : Nat} {x y z x' y' z' : AV} {e : Exit} (he : e = .normal ∨ e = .ret) (h : F.get t = x) (h' : F.get u = y) (h'' : F.get v = z) (hf : Fini σ x x') (hf' : Fini σ y y') (hf'' : Fini σ z z') : APost P [.tmp t, .tmp u, .tmp v] (.tup [x', y', z']) e F σ :=
  ⟨he, [x, y, z], .cons _ _ _ _ (.tmp t x h) (.cons _ _ _ _ (.tmp u y h') (.cons _ _ _ _ (.tmp v z h'') .nil)), .tup _ _ rfl (FiniL.cons hf (FiniL.cons hf' (FiniL.cons hf'' FiniL.nil))).2⟩

end
/-- an element of a list of data -/
theorem ix_map {α : Type} [Inhabited α] {f : α → AV} {l : List α} {k : Nat} (h : k < l.length) : (l.map f)[k]? = some (f (gti l k)) := by
  rw [List.getElem?_map, gti_get h]; rfl
theorem lo_nil {k : Nat} : ∀ y ∈ ([] : List AV), Lo k y := by simp
theorem lo_cons {k : Nat} {x : AV} {l : List AV} (h : Lo k x) (t : ∀ y ∈ l, Lo k y) : ∀ y ∈ x :: l, Lo k y := by
  intro y hy
  rcases List.mem_cons.1 hy with rfl | hy
  · exact h
  · exact t y hy
theorem lo_map {k : Nat} {α : Type} {f : α → AV} {l : List α} (h : ∀ a, Lo k (f a)) : Lo k (.sl (l.map f)) := .sl _ fun y hy => by
  obtain ⟨a, _, rfl⟩ := List.mem_map.1 hy
  exact h a
theorem lo_mapE {k : Nat} {α : Type} {f : α → AV} {l : List α} (h : ∀ a, ∀ c ∈ (f a).cells, Lo k c) : ∀ e ∈ l.map f, ∀ c ∈ e.cells, Lo k c := fun y hy => by
  obtain ⟨a, _, rfl⟩ := List.mem_map.1 hy
  exact h a
theorem lo_nilE {k : Nat} : ∀ e ∈ ([] : List AV), ∀ c ∈ e.cells, Lo k c := by simp
theorem lo_consE {k : Nat} {x : AV} {l : List AV} (h : Lo k x) (t : ∀ e ∈ l, ∀ c ∈ e.cells, Lo k c) : ∀ e ∈ x :: l, ∀ c ∈ e.cells, Lo k c := by
  intro y hy
  rcases List.mem_cons.1 hy with rfl | hy
  · exact h.cells
  · exact t y hy
theorem flat_nil : ∀ c ∈ ([] : List AV), Flat c := by simp
theorem flat_cons {x : AV} {l : List AV} (h : Flat x) (t : ∀ c ∈ l, Flat c) : ∀ c ∈ x :: l, Flat c := by
  intro y hy
  rcases List.mem_cons.1 hy with rfl | hy
  · exact h
  · exact t y hy

/-- data -/
def eI (n : Int) : AV := .s (.int .i64 n)
def eB (b : Bool) : AV := .s (.bool b)
def eS (s : ByteArray) : AV := .s (.string s)
def eL {α : Type} (f : α → AV) (l : List α) : AV := .sl (l.map f)
end Go.Proofs.Ytmhbfoaecebobaa.Aw
end
section
namespace Go.Proofs.Ytmhbfoaecebobaa
set_option linter.unusedSimpArgs false
set_option linter.unusedVariables false
open Go.RowKit

theorem snoc_no {α : Type} {p : α → Bool} {l : List α} {k : Nat} {a : α} (h : ∀ j a, j < k → l[j]? = some a → p a = false) (ha : l[k]? = some a) (hp : p a = false) : ∀ j a, j < k + 1 → l[j]? = some a → p a = false := by
  intro j b hj hb
  rcases Nat.lt_or_eq_of_le (Nat.le_of_lt_succ hj) with h1 | rfl
  · exact h j b h1 hb
  · rw [ha] at hb; injection hb with hb; rw [← hb]; exact hp

set_option maxHeartbeats 1000000 in
theorem indexFI_any (f : FuncId) (hent : Ent f) (cap : Array Value) (p : Int → Bool) (l : List Int) (lo hi : Nat) (v : Value) (w : World) (hv : RdI w lo hi v l)
    (hf : ∀ a ∈ l, ∀ W, Below w.heap.size w W → Calls Try.prog f (#[.int .i64 a] ++ cap) W fun e W' => e = .returned (.bool (p a)) ∧ Below W.heap.size W W') :
    Calls Try.prog 110 #[v, .func (.func f) #[] cap] w fun e w' => e = .returned (.int .i64 (firstAt p l)) ∧ Below w.heap.size w w' := by
  obtain ⟨A, c, rfl, hc, hm⟩ := hv.form
  unfold Ent at hent
  have HF := Lib.hid hf
  clear hf
  have HA := Lib.hid hv
  clear hv
  refine calls_cps fun R hR => ?_
  have HR := Lib.hid hR
  clear hR
  go_enter Try.func110, Try.ntmps110
  go_wp2
  go_loopw [8] (fun i wr => ∃ k : Nat, k ≤ l.length ∧ i = .int .i64 k ∧ (∀ j a, j < k → l[j]? = some a → p a = false) ∧ Below w.heap.size w wr) (fun i _ => l.length - (intOf i).toNat)
  case atStart => exact ⟨0, Nat.zero_le _, rfl, fun j a h => absurd h (by omega), Below.refl _ _⟩
  case round =>
    obtain ⟨k, hk, rfl, hno, hb⟩ := hrel
    have HNO := Lib.hid hno
    have HB := Lib.hid hb
    clear hno hb
    by_cases hlt : k < l.length
    · obtain ⟨b, off, rfl, _, _, hcell⟩ := RdI.at1 (HA.out.after HB.out) hlt
      have HA2 := Lib.hid (gti_get hlt)
      generalize gti l k = a at *
      go_wp2_with fail
      refine (HF.out a (List.mem_of_getElem? HA2.out) _ HB.out).mono ?_
      rintro e w1 ⟨rfl, hb1⟩
      have HB1 := Lib.hid hb1
      clear hb1
      cases hp : p a with
      | true =>
        have HP := Lib.hid hp
        clear hp
        go_wp2
        exact HR.out _ _ ⟨ret_int (firstAt_some HA2.out HP.out HNO.out).symm, HB.out.trans (HB1.out.mono HB.out.size)⟩
      | false =>
        have HP := Lib.hid hp
        clear hp
        go_wp2
        go_roundw
        case rel => exact ⟨k + 1, by omega, by go_num, snoc_no HNO.out HA2.out HP.out, HB.out.trans (HB1.out.mono HB.out.size)⟩
        case measure => simp [intOf]; omega
    · go_wp2
      have hkl : k = l.length := by omega
      exact HR.out _ _ ⟨ret_int (firstAt_none (by rw [← hkl]; exact HNO.out)).symm, HB.out⟩

set_option maxHeartbeats 400000 in
theorem containsFI_any (f : FuncId) (hent : Ent f) (cap : Array Value) (p : Int → Bool) (l : List Int) (lo hi : Nat) (v : Value) (w : World) (hv : RdI w lo hi v l)
    (hf : ∀ a ∈ l, ∀ W, Below w.heap.size w W → Calls Try.prog f (#[.int .i64 a] ++ cap) W fun e W' => e = .returned (.bool (p a)) ∧ Below W.heap.size W W') :
    Calls Try.prog 95 #[v, .func (.func f) #[] cap] w fun e w' => e = .returned (.bool (l.any p)) ∧ Below w.heap.size w w' := by
  have HC := Lib.hid (indexFI_any f hent cap p l lo hi v w hv hf)
  clear hf hent hv
  refine calls_cps fun R hR => ?_
  have HR := Lib.hid hR
  clear hR
  go_enter Try.func95, Try.ntmps95
  go_wp2_with fail
  refine HC.out.mono ?_
  rintro e w1 ⟨rfl, hb1⟩
  have HB1 := Lib.hid hb1
  clear hb1
  go_wp2
  exact HR.out _ _ ⟨congrArg (fun b => Ending.returned (.bool b)) (firstAt_any p l), HB1.out⟩

set_option maxHeartbeats 1000000 in
theorem indexFS_any (f : FuncId) (hent : Ent f) (cap : Array Value) (p : ByteArray → Bool) (l : List ByteArray) (lo hi : Nat) (v : Value) (w : World) (hv : RdS w lo hi v l)
    (hf : ∀ a ∈ l, ∀ W, Below w.heap.size w W → Calls Try.prog f (#[.string a] ++ cap) W fun e W' => e = .returned (.bool (p a)) ∧ Below W.heap.size W W') :
    Calls Try.prog 64 #[v, .func (.func f) #[] cap] w fun e w' => e = .returned (.int .i64 (firstAt p l)) ∧ Below w.heap.size w w' := by
  obtain ⟨A, c, rfl, hc, hm⟩ := hv.form
  unfold Ent at hent
  have HF := Lib.hid hf
  clear hf
  have HA := Lib.hid hv
  clear hv
  refine calls_cps fun R hR => ?_
  have HR := Lib.hid hR
  clear hR
  go_enter Try.func64, Try.ntmps64
  go_wp2
  go_loopw [8] (fun i wr => ∃ k : Nat, k ≤ l.length ∧ i = .int .i64 k ∧ (∀ j a, j < k → l[j]? = some a → p a = false) ∧ Below w.heap.size w wr) (fun i _ => l.length - (intOf i).toNat)
  case atStart => exact ⟨0, Nat.zero_le _, rfl, fun j a h => absurd h (by omega), Below.refl _ _⟩
  case round =>
    obtain ⟨k, hk, rfl, hno, hb⟩ := hrel
    have HNO := Lib.hid hno
    have HB := Lib.hid hb
    clear hno hb
    by_cases hlt : k < l.length
    · obtain ⟨b, off, rfl, _, _, hcell⟩ := RdS.at1 (HA.out.after HB.out) hlt
      have HA2 := Lib.hid (gti_get hlt)
      generalize gti l k = a at *
      go_wp2_with fail
      refine (HF.out a (List.mem_of_getElem? HA2.out) _ HB.out).mono ?_
      rintro e w1 ⟨rfl, hb1⟩
      have HB1 := Lib.hid hb1
      clear hb1
      cases hp : p a with
      | true =>
        have HP := Lib.hid hp
        clear hp
        go_wp2
        exact HR.out _ _ ⟨ret_int (firstAt_some HA2.out HP.out HNO.out).symm, HB.out.trans (HB1.out.mono HB.out.size)⟩
      | false =>
        have HP := Lib.hid hp
        clear hp
        go_wp2
        go_roundw
        case rel => exact ⟨k + 1, by omega, by go_num, snoc_no HNO.out HA2.out HP.out, HB.out.trans (HB1.out.mono HB.out.size)⟩
        case measure => simp [intOf]; omega
    · go_wp2
      have hkl : k = l.length := by omega
      exact HR.out _ _ ⟨ret_int (firstAt_none (by rw [← hkl]; exact HNO.out)).symm, HB.out⟩

set_option maxHeartbeats 400000 in
theorem containsFS_any (f : FuncId) (hent : Ent f) (cap : Array Value) (p : ByteArray → Bool) (l : List ByteArray) (lo hi : Nat) (v : Value) (w : World) (hv : RdS w lo hi v l)
    (hf : ∀ a ∈ l, ∀ W, Below w.heap.size w W → Calls Try.prog f (#[.string a] ++ cap) W fun e W' => e = .returned (.bool (p a)) ∧ Below W.heap.size W W') :
    Calls Try.prog 23 #[v, .func (.func f) #[] cap] w fun e w' => e = .returned (.bool (l.any p)) ∧ Below w.heap.size w w' := by
  have HC := Lib.hid (indexFS_any f hent cap p l lo hi v w hv hf)
  clear hf hent hv
  refine calls_cps fun R hR => ?_
  have HR := Lib.hid hR
  clear hR
  go_enter Try.func23, Try.ntmps23
  go_wp2_with fail
  refine HC.out.mono ?_
  rintro e w1 ⟨rfl, hb1⟩
  have HB1 := Lib.hid hb1
  clear hb1
  go_wp2
  exact HR.out _ _ ⟨congrArg (fun b => Ending.returned (.bool b)) (firstAt_any p l), HB1.out⟩

set_option maxHeartbeats 1000000 in
theorem indexFV_any (f : FuncId) (hent : Ent f) (cap : Array Value) (p : TrV → Bool) (l : List TrV) (lo hi : Nat) (v : Value) (w : World) (hv : RdV w lo hi v l)
    (hf : ∀ a ∈ l, ∀ W, Below w.heap.size w W → Calls Try.prog f (#[.agg #[.string a.label, a.vi, a.vo]] ++ cap) W fun e W' => e = .returned (.bool (p a)) ∧ Below W.heap.size W W') :
    Calls Try.prog 65 #[v, .func (.func f) #[] cap] w fun e w' => e = .returned (.int .i64 (firstAt p l)) ∧ Below w.heap.size w w' := by
  obtain ⟨A, c, rfl, hc, hm⟩ := hv.form
  unfold Ent at hent
  have HF := Lib.hid hf
  clear hf
  have HA := Lib.hid hv
  clear hv
  refine calls_cps fun R hR => ?_
  have HR := Lib.hid hR
  clear hR
  go_enter Try.func65, Try.ntmps65
  go_wp2
  go_loopw [8] (fun i wr => ∃ k : Nat, k ≤ l.length ∧ i = .int .i64 k ∧ (∀ j a, j < k → l[j]? = some a → p a = false) ∧ Below w.heap.size w wr) (fun i _ => l.length - (intOf i).toNat)
  case atStart => exact ⟨0, Nat.zero_le _, rfl, fun j a h => absurd h (by omega), Below.refl _ _⟩
  case round =>
    obtain ⟨k, hk, rfl, hno, hb⟩ := hrel
    have HNO := Lib.hid hno
    have HB := Lib.hid hb
    clear hno hb
    by_cases hlt : k < l.length
    · obtain ⟨b, off, rfl, _, _, hcell⟩ := RdV.at3 (HA.out.after HB.out) hlt
      have HA2 := Lib.hid (gti_get hlt)
      generalize gti l k = a at *
      go_wp2_with fail
      refine (HF.out a (List.mem_of_getElem? HA2.out) _ HB.out).mono ?_
      rintro e w1 ⟨rfl, hb1⟩
      have HB1 := Lib.hid hb1
      clear hb1
      cases hp : p a with
      | true =>
        have HP := Lib.hid hp
        clear hp
        go_wp2
        exact HR.out _ _ ⟨ret_int (firstAt_some HA2.out HP.out HNO.out).symm, HB.out.trans (HB1.out.mono HB.out.size)⟩
      | false =>
        have HP := Lib.hid hp
        clear hp
        go_wp2
        go_roundw
        case rel => exact ⟨k + 1, by omega, by go_num, snoc_no HNO.out HA2.out HP.out, HB.out.trans (HB1.out.mono HB.out.size)⟩
        case measure => simp [intOf]; omega
    · go_wp2
      have hkl : k = l.length := by omega
      exact HR.out _ _ ⟨ret_int (firstAt_none (by rw [← hkl]; exact HNO.out)).symm, HB.out⟩

set_option maxHeartbeats 400000 in
theorem containsFV_any (f : FuncId) (hent : Ent f) (cap : Array Value) (p : TrV → Bool) (l : List TrV) (lo hi : Nat) (v : Value) (w : World) (hv : RdV w lo hi v l)
    (hf : ∀ a ∈ l, ∀ W, Below w.heap.size w W → Calls Try.prog f (#[.agg #[.string a.label, a.vi, a.vo]] ++ cap) W fun e W' => e = .returned (.bool (p a)) ∧ Below W.heap.size W W') :
    Calls Try.prog 25 #[v, .func (.func f) #[] cap] w fun e w' => e = .returned (.bool (l.any p)) ∧ Below w.heap.size w w' := by
  have HC := Lib.hid (indexFV_any f hent cap p l lo hi v w hv hf)
  clear hf hent hv
  refine calls_cps fun R hR => ?_
  have HR := Lib.hid hR
  clear hR
  go_enter Try.func25, Try.ntmps25
  go_wp2_with fail
  refine HC.out.mono ?_
  rintro e w1 ⟨rfl, hb1⟩
  have HB1 := Lib.hid hb1
  clear hb1
  go_wp2
  exact HR.out _ _ ⟨congrArg (fun b => Ending.returned (.bool b)) (firstAt_any p l), HB1.out⟩

end Go.Proofs.Ytmhbfoaecebobaa
end
section
namespace Go.Proofs.Ytmhbfoaecebobaa
set_option linter.unusedSimpArgs false
set_option linter.unusedVariables false
open Go.RowKit

def letB (c : Int) : Bool := decide (65 ≤ c) && decide (c ≤ 90) || decide (97 ≤ c) && decide (c ≤ 122)
def partB (c : Int) : Bool := letB c || decide (48 ≤ c) && decide (c ≤ 57) || decide (c = 95) || decide (c = 45) || decide (c = 46)

set_option maxHeartbeats 2000000 in
theorem letter_any (c : Int) (w : World) : Calls Try.prog 90 #[.int .u8 c] w fun e w' => e = .returned (.bool (letB c)) ∧ Below w.heap.size w w' := by
  refine calls_cps fun R hR => ?_
  have HR := Lib.hid hR
  clear hR
  go_enter Try.func90, Try.ntmps90
  by_cases h1 : (65 : Int) ≤ c <;> by_cases h2 : c ≤ 90 <;> by_cases h3 : (97 : Int) ≤ c <;> by_cases h4 : c ≤ 122 <;> first
    | (exfalso; omega)
    | (have d1 := Lib.hid h1; have d2 := Lib.hid h2; have d3 := Lib.hid h3; have d4 := Lib.hid h4
       go_wp2
       refine HR.out _ _ ⟨?_, ?_⟩
       · simp [letB, h1, h2, h3, h4]
       · (repeat (first | exact Below.refl _ _ | assumption | refine Below.setCell ?_ (by first | omega | (simp; done) | (simp; omega)) _ | refine Below.alloc ?_ (by first | omega | (simp; done) | (simp; omega)) _ | refine Below.drew ?_ | refine below_drewN ?_ _)))

set_option maxHeartbeats 2000000 in
theorem letter2_any (c : Int) (w : World) : Calls Try.prog 105 #[.int .u8 c] w fun e w' => e = .returned (.bool (letB c)) ∧ Below w.heap.size w w' := by
  refine calls_cps fun R hR => ?_
  have HR := Lib.hid hR
  clear hR
  go_enter Try.func105, Try.ntmps105
  by_cases h1 : (65 : Int) ≤ c <;> by_cases h2 : c ≤ 90 <;> by_cases h3 : (97 : Int) ≤ c <;> by_cases h4 : c ≤ 122 <;> first
    | (exfalso; omega)
    | (have d1 := Lib.hid h1; have d2 := Lib.hid h2; have d3 := Lib.hid h3; have d4 := Lib.hid h4
       go_wp2
       refine HR.out _ _ ⟨?_, ?_⟩
       · simp [letB, h1, h2, h3, h4]
       · (repeat (first | exact Below.refl _ _ | assumption | refine Below.setCell ?_ (by first | omega | (simp; done) | (simp; omega)) _ | refine Below.alloc ?_ (by first | omega | (simp; done) | (simp; omega)) _ | refine Below.drew ?_ | refine below_drewN ?_ _)))

set_option maxHeartbeats 2000000 in
theorem part_any (c : Int) (w : World) : Calls Try.prog 91 #[.int .u8 c] w fun e w' => e = .returned (.bool (partB c)) ∧ Below w.heap.size w w' := by
  refine calls_cps fun R hR => ?_
  have HR := Lib.hid hR
  clear hR
  go_enter Try.func91, Try.ntmps91
  go_wp2_with fail
  refine (letter_any _ _).mono ?_
  rintro e w1 ⟨rfl, hb⟩
  have HB := Lib.hid hb
  clear hb
  cases hl : letB c
  · have HL := Lib.hid hl
    by_cases h1 : (48 : Int) ≤ c <;> by_cases h2 : c ≤ 57 <;> by_cases h3 : c = 95 <;> by_cases h4 : c = 45 <;> by_cases h5 : c = 46 <;> first
      | (exfalso; omega)
      | (go_wp2
         refine HR.out _ _ ⟨congrArg Ending.returned (congrArg Value.bool ?_), HB.out⟩
         rw [Bool.eq_iff_iff]
         simp [partB, hl]
         try omega)
  · go_wp2
    refine HR.out _ _ ⟨?_, HB.out⟩
    simp [partB, hl]

/-- byte k of a string, as a number -/
def byt (s : ByteArray) (k : Nat) : Int := if h : k < s.size then (s[k].toNat : Int) else 0
theorem byt_lt {s : ByteArray} {k : Nat} (h : k < s.size) : (s[k].toNat : Int) = byt s k := by unfold byt; rw [dif_pos h]
def nameB (s : ByteArray) : Bool := decide (1 ≤ s.size) && decide (s.size ≤ 40) && letB (byt s 0) && (List.range s.size).all fun k => partB (byt s k)
theorem nameB_false {s : ByteArray} (h : s.size < 1 ∨ 40 < s.size ∨ letB (byt s 0) = false ∨ ∃ k, k < s.size ∧ partB (byt s k) = false) : nameB s = false := by
  unfold nameB
  rcases h with h | h | h | ⟨k, h1, h2⟩
  · have : decide (1 ≤ s.size) = false := decide_eq_false (by omega)
    simp [this]
  · have : decide (s.size ≤ 40) = false := decide_eq_false (by omega)
    simp [this]
  · simp [h]
  · have : (List.range s.size).all (fun k => partB (byt s k)) = false := by
      rw [List.all_eq_false]
      exact ⟨k, by simp [h1], by simp [h2]⟩
    simp [this]
theorem nameB_true {s : ByteArray} (h1 : ¬ s.size < 1) (h2 : ¬ 40 < s.size) (h3 : letB (byt s 0) = true) (h4 : ∀ k, k < s.size → partB (byt s k) = true) : nameB s = true := by
  unfold nameB
  have e1 : decide (1 ≤ s.size) = true := decide_eq_true (by omega)
  have e2 : decide (s.size ≤ 40) = true := decide_eq_true (by omega)
  have : (List.range s.size).all (fun k => partB (byt s k)) = true := by
    rw [List.all_eq_true]
    intro k hk
    exact h4 k (by simpa using hk)
  rw [e1, e2, h3, this]
  rfl

set_option maxHeartbeats 2000000 in
theorem isName_any (s : ByteArray) (w : World) : Calls Try.prog 56 #[.string s] w fun e w' => e = .returned (.bool (nameB s)) ∧ Below w.heap.size w w' := by
  refine calls_cps fun R hR => ?_
  have HR := Lib.hid hR
  clear hR
  go_enter Try.func56, Try.ntmps56
  by_cases h1 : s.size < 1
  · have HF := Lib.hid (nameB_false (.inl h1))
    go_wp2
    refine HR.out _ _ ⟨by rw [HF.out], Below.refl _ _⟩
  · by_cases h2 : 40 < s.size
    · have HF := Lib.hid (nameB_false (.inr (.inl h2)))
      go_wp2
      refine HR.out _ _ ⟨by rw [HF.out], Below.refl _ _⟩
    · have d1 : decide ((s.size : Int) < 1) = false := decide_eq_false (by omega)
      have d2 : decide ((40 : Int) < (s.size : Int)) = false := decide_eq_false (by omega)
      have H1 := Lib.hid h1
      have H2 := Lib.hid h2
      have hpos : 0 < s.size := by omega
      have hb0 := byt_lt hpos
      go_wp2_with fail
      refine (letter_any _ _).mono ?_
      rintro e w1 ⟨rfl, hb⟩
      cases hl : letB (byt s 0)
      · have HF := Lib.hid (nameB_false (.inr (.inr (.inl hl))))
        go_wp2
        refine HR.out _ _ ⟨(by first | (rw [HF.out]; done) | (rw [HF.out]; rfl)), hb⟩
      · have HL := Lib.hid hl
        have HB := Lib.hid hb
        clear hb hl
        clear hb0 d1 d2
        go_wp2
        go_loopw [20, 3] (fun v20 v3 wr => ∃ (k : Nat), k ≤ s.size ∧ v20 = .int .i64 k ∧ Hid (∀ j, j < k → partB (byt s j) = true) ∧ Below w.heap.size w wr) (fun v20 _ _ => s.size - (intOf v20).toNat)
        case atStart => exact ⟨0, by omega, rfl, Lib.hid (fun j hj => by omega), HB.out⟩
        case round =>
          obtain ⟨k, hk, rfl, HP, hbr⟩ := hrel
          have HBR := Lib.hid hbr
          clear hbr
          by_cases hlt : k < s.size
          · have hkd : decide ((k : Int) < (s.size : Int)) = true := by simp; omega
            have hbk := byt_lt hlt
            go_wp2_with fail
            refine (part_any _ _).mono ?_
            rintro e w2 ⟨rfl, hb2⟩
            have HB2 := Lib.hid (Ext.trans HBR.out hb2)
            clear hb2
            cases hp : partB (byt s k)
            · have HF := Lib.hid (nameB_false (.inr (.inr (.inr ⟨k, hlt, hp⟩))))
              go_wp2
              refine HR.out _ _ ⟨(by first | (rw [HF.out]; done) | (rw [HF.out]; rfl)), HB2.out⟩
            · have HPk := Lib.hid hp
              clear hp
              go_wp2
              go_roundw
              case rel =>
                refine ⟨k + 1, by omega, by go_num, Lib.hid (fun j hj => ?_), HB2.out⟩
                by_cases hjk : j < k
                · exact HP.out j hjk
                · obtain rfl : j = k := by omega
                  exact HPk.out
              case measure => simp [intOf]; omega
          · have hkd : decide ((k : Int) < (s.size : Int)) = false := by simp; omega
            go_wp2
            refine HR.out _ _ ⟨?_, HBR.out⟩
            have HF := nameB_true H1.out H2.out HL.out (fun j hj => HP.out j (by omega))
            exact (by first | (rw [HF]; done) | (rw [HF]; rfl))

theorem partB_of_let {c : Int} (h : letB c = true) : partB c = true := by simp [partB, h]

set_option maxHeartbeats 4000000 in
theorem isName2_any (s : ByteArray) (w : World) : Calls Try.prog 87 #[.string s] w fun e w' => e = .returned (.bool (nameB s)) ∧ Below w.heap.size w w' := by
  refine calls_cps fun R hR => ?_
  have HR := Lib.hid hR
  clear hR
  go_enter Try.func87, Try.ntmps87
  by_cases h1 : s.size < 1
  · have HF := Lib.hid (nameB_false (.inl h1))
    go_wp2
    refine HR.out _ _ ⟨(by first | (rw [HF.out]; done) | (rw [HF.out]; rfl)), Below.refl _ _⟩
  · by_cases h2 : 40 < s.size
    · have HF := Lib.hid (nameB_false (.inr (.inl h2)))
      go_wp2
      refine HR.out _ _ ⟨(by first | (rw [HF.out]; done) | (rw [HF.out]; rfl)), Below.refl _ _⟩
    · have d1 : decide ((s.size : Int) < 1) = false := decide_eq_false (by omega)
      have d2 : decide ((40 : Int) < (s.size : Int)) = false := decide_eq_false (by omega)
      have H1 := Lib.hid h1
      have H2 := Lib.hid h2
      have hpos : 0 < s.size := by omega
      have hb0 := byt_lt hpos
      go_wp2_with fail
      refine (letter2_any _ _).mono ?_
      rintro e w1 ⟨rfl, hb⟩
      cases hl : letB (byt s 0)
      · have HF := Lib.hid (nameB_false (.inr (.inr (.inl hl))))
        go_wp2
        refine HR.out _ _ ⟨(by first | (rw [HF.out]; done) | (rw [HF.out]; rfl)), hb⟩
      · have HL := Lib.hid hl
        have HB := Lib.hid hb
        clear hb hl
        clear hb0 d1 d2
        go_wp2
        go_loopw [3] (fun v3 wr => ∃ (k : Nat), 1 ≤ k ∧ k ≤ s.size ∧ v3 = .int .i64 k ∧ Hid (∀ j, j < k → partB (byt s j) = true) ∧ Below w.heap.size w wr) (fun v3 _ => s.size - (intOf v3).toNat)
        case atStart => exact ⟨1, by omega, by omega, rfl, Lib.hid (fun j hj => by (obtain rfl : j = 0 := by omega); exact partB_of_let HL.out), HB.out⟩
        case round =>
          obtain ⟨k, hk1, hk, rfl, HP, hbr⟩ := hrel
          have HBR := Lib.hid hbr
          clear hbr
          by_cases hlt : k < s.size
          · have hkd : decide ((k : Int) < (s.size : Int)) = true := by simp; omega
            have hbk := byt_lt hlt
            go_wp2_with fail
            refine (letter2_any _ _).mono ?_
            rintro e w2 ⟨rfl, hb2⟩
            have HB2 := Lib.hid (Ext.trans HBR.out hb2)
            clear hb2
            cases hl : letB (byt s k)
            · have HK := Lib.hid hl
              clear hl
              have HX : partB (byt s k) = true ↔ ((48 ≤ byt s k ∧ byt s k ≤ 57) ∨ byt s k = 95 ∨ byt s k = 45 ∨ byt s k = 46) := by simp [partB, HK.out, or_assoc]
              have HXX := Lib.hid HX
              clear HX
              have HG : partB (byt s k) = true → Hid (∀ j, j < k + 1 → partB (byt s j) = true) := fun h => Lib.hid (fun j hj => by
                by_cases hjk : j < k
                · exact HP.out j hjk
                · (obtain rfl : j = k := by omega)
                  exact h)
              have HF : partB (byt s k) = false → Hid (nameB s = false) := fun hp => Lib.hid (nameB_false (.inr (.inr (.inr ⟨k, hlt, hp⟩))))
              have HGG := Lib.hid HG
              have HFF := Lib.hid HF
              clear HG HF HP
              generalize byt s k = c at *
              by_cases g1 : (48 : Int) ≤ c <;> by_cases g2 : c ≤ 57 <;> by_cases g3 : c = 95 <;> by_cases g4 : c = 45 <;> by_cases g5 : c = 46 <;> first
                | (exfalso; omega)
                | (have HP := HGG.out (HXX.out.2 (by omega))
                   (try subst c)
                   clear HXX HFF HGG
                   go_wp2
                   go_roundw
                   case rel => exact ⟨k + 1, by omega, by omega, by go_num, HP, HB2.out⟩
                   case measure => (simp [intOf]; omega))
                | (have HP := HFF.out (by rw [← Bool.not_eq_true]; intro h; have := HXX.out.1 h; omega)
                   have b1 : (c == 95) = false := beq_false_of_ne g3
                   have b2 : (c == 45) = false := beq_false_of_ne g4
                   have b3 : (c == 46) = false := beq_false_of_ne g5
                   have b4 : (decide (48 ≤ c) && decide (c ≤ 57)) = false := by simp; omega
                   first | have b5 := decide_eq_false g1 | have b5 := decide_eq_true g1
                   first | have b6 := decide_eq_false g2 | have b6 := decide_eq_true g2
                   clear g1 g2
                   go_wp2 <;> first
                     | exact HR.out _ _ ⟨(by first | (rw [HP.out]; done) | (rw [HP.out]; rfl)), HB2.out⟩
                     | (exfalso; clear HXX HGG HFF HP HK HB2 HBR HL HB H1 H2; simp_all; done))
            · have HPk := Lib.hid (partB_of_let hl)
              clear hl
              go_wp2
              go_roundw
              case rel =>
                refine ⟨k + 1, by omega, by omega, by go_num, Lib.hid (fun j hj => ?_), HB2.out⟩
                by_cases hjk : j < k
                · exact HP.out j hjk
                · obtain rfl : j = k := by omega
                  exact HPk.out
              case measure => simp [intOf]; omega
          · have hkd : decide ((k : Int) < (s.size : Int)) = false := by simp; omega
            go_wp2
            refine HR.out _ _ ⟨?_, HBR.out⟩
            have HF := nameB_true H1.out H2.out HL.out (fun j hj => HP.out j (by omega))
            exact (by first | (rw [HF]; done) | (rw [HF]; rfl))
end Go.Proofs.Ytmhbfoaecebobaa
end
section
namespace Go.Proofs.Ytmhbfoaecebobaa
set_option linter.unusedSimpArgs false
set_option linter.unusedVariables false
open Go.RowKit

def lenOfV : Value → Nat
  | .slice _ n _ => n
  | _ => 0
end Go.Proofs.Ytmhbfoaecebobaa
end
section
namespace Go.Proofs.Ytmhbfoaecebobaa
set_option linter.unusedSimpArgs false
set_option linter.unusedVariables false
open Go.RowKit

structure Tr where
  label : ByteArray
  inn : List Int
  out : List Int
  deriving Inhabited
structure Net where
  places : Int
  trans : List Tr
  source : Int
  sink : Int

/-- a slice that reads as a list of transitions -/
def RdT (w : World) (lo hi : Nat) (v : Value) (ts : List Tr) : Prop :=
  ∃ vs : List TrV, RdV w lo hi v vs ∧ vs.length = ts.length ∧ ∀ k, k < ts.length → (gti vs k).label = (gti ts k).label ∧ RdI w lo hi (gti vs k).vi (gti ts k).inn ∧ RdI w lo hi (gti vs k).vo (gti ts k).out
section
variable {w W : World} {lo hi : Nat} {v : Value} {l : List Tr}
theorem RdT.of_blocks (h : RdT w lo hi v l) (hk : ∀ b, lo ≤ b → b < hi → b < w.heap.size → W.heap[b]? = w.heap[b]?) : RdT W lo hi v l := by
  obtain ⟨vs, h1, h2, h3⟩ := h
  exact ⟨vs, h1.of_blocks hk, h2, fun k hk' => ⟨(h3 k hk').1, (h3 k hk').2.1.of_blocks hk, (h3 k hk').2.2.of_blocks hk⟩⟩
theorem RdT.after (h : RdT w lo hi v l) (hb : Below w.heap.size w W) : RdT W lo hi v l := h.of_blocks fun b _ _ hb' => hb.block b hb'
theorem RdT.mono {lo' hi' : Nat} (h : RdT w lo hi v l) (hl : lo' ≤ lo) (hh : hi ≤ hi') : RdT w lo' hi' v l := by
  obtain ⟨vs, h1, h2, h3⟩ := h
  exact ⟨vs, h1.mono hl hh, h2, fun k hk' => ⟨(h3 k hk').1, (h3 k hk').2.1.mono hl hh, (h3 k hk').2.2.mono hl hh⟩⟩
theorem RdT.form (h : RdT w lo hi v l) : ∃ A c, v = .slice A l.length c ∧ l.length ≤ c ∧ l.length ≤ 9223372036854775807 := by
  obtain ⟨vs, h1, h2, h3⟩ := h
  rw [← h2]
  exact h1.form
theorem RdT.at3 {A : Option Addr} {c : Nat} (h : RdT w lo hi (.slice A l.length c) l) {k : Nat} (hk : k < l.length) :
    ∃ b off vi vo, A = some ⟨b, off, none⟩ ∧ lo ≤ b ∧ b < hi ∧ C3 w b (off + k * 3) (.string (gti l k).label) vi vo ∧ RdI w lo hi vi (gti l k).inn ∧ RdI w lo hi vo (gti l k).out := by
  obtain ⟨vs, h1, h2, h3⟩ := h
  rw [← h2] at h1
  obtain ⟨b, off, hA, hl, hh, hc⟩ := RdV.at3 (k := k) h1 (by omega)
  rw [(h3 k hk).1] at hc
  exact ⟨b, off, _, _, hA, hl, hh, hc, (h3 k hk).2⟩
end
abbrev Loc.rdT (lo hi : Nat) (v : Value) (l : List Tr) : Loc :=
  ⟨fun w => RdT w lo hi v l, fun k => lo ≤ k ∧ k < hi, fun h hd hp => RdT.of_blocks hp (fun b h1 h2 h3 => h.block b h3 (hd b ⟨h1, h2⟩))⟩
abbrev K4 (w : World) (g : Nat) (a b c d : Value) : Prop := w.cell? ⟨g, 0, none⟩ = some a ∧ w.cell? ⟨g, 1, none⟩ = some b ∧ w.cell? ⟨g, 2, none⟩ = some c ∧ w.cell? ⟨g, 3, none⟩ = some d ∧ g < w.heap.size
theorem K4.of_block {W W' : World} {g : Nat} {a b c d : Value} (h : K4 W g a b c d) (he : W'.heap[g]? = W.heap[g]?) (hs : W.heap.size ≤ W'.heap.size) : K4 W' g a b c d := by
  obtain ⟨h1, h2, h3, h4, h7⟩ := h
  exact ⟨(World.cell?_of_block (w := W) he).trans h1, (World.cell?_of_block (w := W) he).trans h2, (World.cell?_of_block (w := W) he).trans h3, (World.cell?_of_block (w := W) he).trans h4, Nat.lt_of_lt_of_le h7 hs⟩
theorem K4.aft {W w1 : World} {g : Nat} {a b c d : Value} (hb : Below W.heap.size W w1) (h : K4 W g a b c d) : K4 w1 g a b c d := K4.of_block h (hb.block g h.2.2.2.2) hb.size
theorem K4.new (W : World) (a b c d : Value) (t : TypeId) : K4 (W.alloc (.cells #[a, b, c, d] t)) W.heap.size a b c d := by simp [K4, go_sem]
abbrev Loc.k4 (g : Nat) (a b c d : Value) : Loc := ⟨fun w => K4 w g a b c d, fun k => k = g, fun h hd hp => K4.of_block hp (h.block g hp.2.2.2.2 (hd g rfl)) h.size⟩

/-- a net, as an argument: n's transitions lie in blocks from lo on, below hi -/
abbrev netV (n : Net) (vt : Value) : Value := .agg #[.int .i64 n.places, vt, .int .i64 n.source, .int .i64 n.sink]

end Go.Proofs.Ytmhbfoaecebobaa
end
section
namespace Go.Proofs.Ytmhbfoaecebobaa.Aw
set_option linter.unusedSimpArgs false
set_option linter.unusedVariables false
open Go.RowKit

/-- all new blocks are finished -/
def newCx (G : Cx) (w' : World) : Cx := { base := 0, w0 := G.w, w := w', mu := fun _ => none, St := fun b o => G.St b o ∨ (G.w.heap.size ≤ b ∧ b < w'.heap.size) }
theorem pure_mk {P : Program} {f : FuncId} {args : List AV} {r : AV} (he : Enters P f) (hl : Lo 0 r)
    (h : ∀ (G : Cx) (vargs : Array Value), (∀ b o, G.St b o → b < G.w.heap.size) → vargs.size = args.length → (∀ (j : Nat) v x, vargs[j]? = some v → args[j]? = some x → Rep G v x) →
      Calls P f vargs G.w fun e w' => ∃ v, e = .returned v ∧ Below G.w.heap.size G.w w' ∧ Rep (newCx G w') v r) : Pure P f args r :=
  ⟨he, hl, fun G vargs hst hsz hrep => (h G vargs hst hsz hrep).mono (by
    rintro e w' ⟨v, rfl, hb, hr⟩
    refine ⟨v, newCx G w', rfl, rfl, hb, fun b o h => .inl h, fun b o h => ?_, fun b o h => ?_, hr⟩
    · exact h.imp (fun h => h) (fun h => h.1)
    · rcases h with h | h
      · have := hst b o h; have := hb.size; show b < w'.heap.size; omega
      · exact h.2)⟩
theorem ent_enters {P : Program} {f : FuncId} (h : ∀ args w, (callFunc f args).run P w = .ok (.enter f args) w) : Enters P f := h

/-- a slice of finished data, read cell by cell -/
theorem rd_rep {G : Cx} {α : Type} [Inhabited α] {size : Nat} {enc : α → List Value} {f : α → AV} (he : ∀ a, (enc a).length = size) (hf : ∀ a, (f a).cells.length = size) (h1 : ∀ a, ∀ c ∈ (f a).cells, c.one = true)
    {lo hi : Nat} {v : Value} {l : List α} (h : Rd size enc G.w lo hi v l) (hs : ∀ b o, lo ≤ b → b < hi → b < G.w.heap.size → G.St b o)
    (hr : ∀ a ∈ l, ∀ (j : Nat) u c, (enc a)[j]? = some u → (f a).cells[j]? = some c → Rep G u c) : Rep G v (eL f l) := by
  obtain ⟨A, c, rfl, hc, hm⟩ := h.form
  unfold eL
  rcases Nat.eq_zero_or_pos l.length with h0 | h0
  · have : l = [] := List.eq_nil_of_length_eq_zero h0
    subst this
    exact .slnil A c
  · obtain ⟨b, off, rfl, hlo, hhi, _⟩ := Rd.at_ h he (gti_get h0)
    have key : ∀ (k : Nat) a (j : Nat) u, l[k]? = some a → (enc a)[j]? = some u → G.w.cell? ⟨b, off + (k * size + j), none⟩ = some u := by
      intro k a j u hk hu
      obtain ⟨b2, off2, hA, _, _, h3⟩ := Rd.at_ h he hk
      cases hA
      exact h3 j u hu
    have hval : ∀ (k : Nat) e (j : Nat) c, (l.map f)[k]? = some e → e.cells[j]? = some c → ∃ a u, l[k]? = some a ∧ e = f a ∧ (enc a)[j]? = some u ∧ Rep G u c ∧ G.w.cell? ⟨b, off + k * size + j, none⟩ = some u := by
      intro k e j c hk hc
      rw [List.getElem?_map] at hk
      cases ha : l[k]? with
      | none => rw [ha] at hk; cases hk
      | some a =>
        rw [ha] at hk
        simp only [Option.map_some, Option.some.injEq] at hk
        subst hk
        have hj : j < (enc a).length := by rw [he, ← hf a]; exact (List.getElem?_eq_some_iff.1 hc).1
        refine ⟨a, (enc a)[j], rfl, rfl, List.getElem?_eq_getElem hj, hr a (List.mem_of_getElem? ha) j _ c (List.getElem?_eq_getElem hj) hc, ?_⟩
        rw [Nat.add_assoc]
        exact key k a j _ ha (List.getElem?_eq_getElem hj)
    have hlen : l.length = (l.map f).length := by simp
    rw [hlen]
    refine .sl b off c size (l.map f) (fun k j => (G.w.cell? ⟨b, off + k * size + j, none⟩).getD undef) (by simpa using hc) (by simpa [maxLen] using hm) (fun k e hk => ?_) (fun k e j c hk hc => ?_) (fun k e j c hk hc => ?_)
    · obtain ⟨a, _, rfl⟩ := List.mem_map.1 (List.mem_of_getElem? hk)
      exact ⟨hf a, h1 a⟩
    · obtain ⟨a, u, _, _, _, _, h6⟩ := hval k e j c hk hc
      exact ⟨hs b _ hlo hhi (World.block_lt_of_cell? _ _ h6), by rw [h6]; rfl⟩
    · obtain ⟨a, u, _, _, _, h5, h6⟩ := hval k e j c hk hc
      rw [h6]; exact h5
/-- finished data, read cell by cell -/
theorem rep_rd {G : Cx} {α : Type} [Inhabited α] {size : Nat} {enc : α → List Value} {f : α → AV} (hsz : 0 < size) (he : ∀ a, (enc a).length = size) (hf : ∀ a, (f a).cells.length = size)
    {v : Value} {l : List α} (h : Rep G v (eL f l)) (hs : ∀ b o, G.St b o → b < G.w.heap.size)
    (hr : ∀ a ∈ l, ∀ (j : Nat) u c v, (enc a)[j]? = some u → (f a).cells[j]? = some c → Rep G v c → v = u) : Rd size enc G.w 0 G.w.heap.size v l := by
  unfold eL at h
  generalize hL : l.map f = L at h
  cases h with
  | slnil A cap =>
    have : l = [] := by simpa using hL
    subst this
    exact ⟨by simp, A, cap, rfl, Nat.zero_le _, Nat.zero_le _, fun h => by simp at h⟩
  | sl b o cap sz _ val hc hm h1 h2 h =>
    subst hL
    simp only [List.length_map] at *
    have key : ∀ (k : Nat) a (j : Nat) u, l[k]? = some a → (enc a)[j]? = some u → G.w.cell? ⟨b, o + (k * size + j), none⟩ = some u := by
      intro k a j u hk hu
      have hk2 : (l.map f)[k]? = some (f a) := by rw [List.getElem?_map, hk]; rfl
      have hsz' : sz = size := by rw [← (h1 k _ hk2).1, hf]
      subst hsz'
      have hj : j < (f a).cells.length := by rw [hf, ← he a]; exact (List.getElem?_eq_some_iff.1 hu).1
      have hj2 := List.getElem?_eq_getElem hj
      have h3 := h2 k _ j _ hk2 hj2
      rw [Nat.add_assoc] at h3
      rw [h3.2, hr a (List.mem_of_getElem? hk) j u _ _ hu hj2 (h k _ j _ hk2 hj2)]
    refine ⟨flatMap_len he l, _, cap, rfl, hc, hm, fun hn => ⟨b, o, rfl, Nat.zero_le _, ?_, fun j u hu => ?_⟩⟩
    · have h0 := gti_get hn
      have hk2 : (l.map f)[0]? = some (f (gti l 0)) := by rw [List.getElem?_map, h0]; rfl
      have hj : 0 < (f (gti l 0)).cells.length := by rw [hf]; exact hsz
      exact hs _ _ (h2 0 _ 0 _ hk2 (List.getElem?_eq_getElem hj)).1
    · have hlt : j < l.length * size := by
        have := (List.getElem?_eq_some_iff.1 hu).1
        rwa [flatMap_len he] at this
      have hk : j / size < l.length := Nat.div_lt_of_lt_mul (by rw [Nat.mul_comm]; exact hlt)
      have hjm : j % size < (enc (gti l (j / size))).length := by rw [he]; exact Nat.mod_lt _ hsz
      have h5 := flatMap_get he l (j / size) (gti l (j / size)) (j % size) _ (gti_get hk) (List.getElem?_eq_getElem hjm)
      have h6 := key (j / size) _ (j % size) _ (gti_get hk) (List.getElem?_eq_getElem hjm)
      have h7 : j / size * size + j % size = j := by rw [Nat.mul_comm]; exact Nat.div_add_mod _ _
      rw [h7] at h5 h6
      rw [h5] at hu
      cases hu
      exact h6

theorem rdI_rep {G : Cx} {lo hi : Nat} {v : Value} {l : List Int} (h : RdI G.w lo hi v l) (hs : ∀ b o, lo ≤ b → b < hi → b < G.w.heap.size → G.St b o) : Rep G v (eL eI l) :=
  rd_rep (size := 1) (enc := encI) (f := eI) (by simp) (fun _ => rfl) (fun a c hc => by simp [eI, AV.cells] at hc; subst hc; rfl) h hs (fun a _ j u c hu hc => by
    cases j with
    | zero => simp [eI, AV.cells] at hu hc; subst hu hc; exact .s _
    | succ j => simp at hu)
theorem rep_rdI {G : Cx} {v : Value} {l : List Int} (h : Rep G v (eL eI l)) (hs : ∀ b o, G.St b o → b < G.w.heap.size) : RdI G.w 0 G.w.heap.size v l :=
  rep_rd (size := 1) (enc := encI) (f := eI) (by decide) (by simp) (fun _ => rfl) h hs (fun a _ j u c v hu hc hv => by
    cases j with
    | zero => simp [eI, AV.cells] at hu hc; subst hu hc; exact rep_s hv
    | succ j => simp at hu)
theorem rdS_rep {G : Cx} {lo hi : Nat} {v : Value} {l : List ByteArray} (h : RdS G.w lo hi v l) (hs : ∀ b o, lo ≤ b → b < hi → b < G.w.heap.size → G.St b o) : Rep G v (eL eS l) :=
  rd_rep (size := 1) (enc := encS) (f := eS) (by simp) (fun _ => rfl) (fun a c hc => by simp [eS, AV.cells] at hc; subst hc; rfl) h hs (fun a _ j u c hu hc => by
    cases j with
    | zero => simp [eS, AV.cells] at hu hc; subst hu hc; exact .s _
    | succ j => simp at hu)
theorem rep_rdS {G : Cx} {v : Value} {l : List ByteArray} (h : Rep G v (eL eS l)) (hs : ∀ b o, G.St b o → b < G.w.heap.size) : RdS G.w 0 G.w.heap.size v l :=
  rep_rd (size := 1) (enc := encS) (f := eS) (by decide) (by simp) (fun _ => rfl) h hs (fun a _ j u c v hu hc hv => by
    cases j with
    | zero => simp [eS, AV.cells] at hu hc; subst hu hc; exact rep_s hv
    | succ j => simp at hu)

/-- transitions, nets -/
def eT (t : Tr) : AV := .agg [eS t.label, eL eI t.inn, eL eI t.out]
def eN (n : Net) : AV := .agg [eI n.places, eL eT n.trans, eI n.source, eI n.sink]
theorem rdT_rep {G : Cx} {lo hi : Nat} {v : Value} {l : List Tr} (h : RdT G.w lo hi v l) (hs : ∀ b o, lo ≤ b → b < hi → b < G.w.heap.size → G.St b o) : Rep G v (eL eT l) := by
  obtain ⟨vs, h1, h2, h3⟩ := h
  have hz1 : (vs.zip l).map Prod.fst = vs := by rw [List.map_fst_zip (by omega)]
  have hz2 : (vs.zip l).map Prod.snd = l := by rw [List.map_snd_zip (by omega)]
  have h4 : Rd 3 (fun p : TrV × Tr => encV p.1) G.w lo hi v (vs.zip l) := by
    have e1 : (vs.zip l).flatMap (fun p => encV p.1) = vs.flatMap encV := by
      conv => rhs; rw [← hz1]
      rw [List.flatMap_map]
    have e2 : (vs.zip l).length = vs.length := by simp; omega
    unfold RdV Rd at h1
    unfold Rd
    rw [e1, e2]
    exact h1
  have h5 := rd_rep (G := G) (size := 3) (enc := fun p : TrV × Tr => encV p.1) (f := fun p => eT p.2) (by simp) (fun _ => rfl) (fun a c hc => by simp [eT, AV.cells] at hc; rcases hc with rfl | rfl | rfl <;> rfl) h4 hs (fun p hp j u c hu hc => by
    obtain ⟨k, hk, rfl⟩ := List.mem_iff_getElem.1 hp
    simp only [List.length_zip] at hk
    have hk2 : k < l.length := by omega
    have ea : gti vs k = vs[k]'(by omega) := by unfold gti; rw [List.getElem?_eq_getElem]; rfl
    have eb : gti l k = l[k] := by unfold gti; rw [List.getElem?_eq_getElem]; rfl
    obtain ⟨g1, g2, g3⟩ := h3 k hk2
    rw [ea, eb] at g1 g2 g3
    simp only [List.getElem_zip] at hu hc
    match j, hu, hc with
    | 0, hu, hc => simp [eT, AV.cells] at hu hc; subst hu hc; rw [g1]; exact .s _
    | 1, hu, hc => simp [eT, AV.cells] at hu hc; subst hu hc; exact rdI_rep g2 hs
    | 2, hu, hc => simp [eT, AV.cells] at hu hc; subst hu hc; exact rdI_rep g3 hs
    | j + 3, hu, hc => simp at hu)
  have e3 : eL (fun p : TrV × Tr => eT p.2) (vs.zip l) = eL eT l := by
    unfold eL
    congr 1
    conv => rhs; rw [← hz2]
    rw [List.map_map]; rfl
  rwa [e3] at h5
theorem rep_rdT {G : Cx} {v : Value} {l : List Tr} (h : Rep G v (eL eT l)) (hs : ∀ b o, G.St b o → b < G.w.heap.size) : RdT G.w 0 G.w.heap.size v l := by
  unfold eL at h
  generalize hL : l.map eT = L at h
  cases h with
  | slnil A cap =>
    have : l = [] := by simpa using hL
    subst this
    exact ⟨[], ⟨by simp, A, cap, rfl, Nat.zero_le _, Nat.zero_le _, fun h => by simp at h⟩, rfl, fun k hk => by simp at hk⟩
  | sl b o cap sz _ val hc hm h1 h2 h =>
    subst hL
    simp only [List.length_map] at *
    have hk2 : ∀ k, k < l.length → (l.map eT)[k]? = some (eT (gti l k)) := fun k hk => by rw [List.getElem?_map, gti_get hk]; rfl
    refine ⟨(List.range l.length).map fun k => ⟨(gti l k).label, val k 1, val k 2⟩, ?_, by simp, fun k hk => ?_⟩
    · have hlen : ((List.range l.length).map fun k => (⟨(gti l k).label, val k 1, val k 2⟩ : TrV)).length = l.length := by simp
      refine ⟨flatMap_len (by simp) _, _, cap, by rw [hlen], by simpa using hc, by simpa using hm, fun hn => ⟨b, o, rfl, Nat.zero_le _, ?_, fun j u hu => ?_⟩⟩
      · rw [hlen] at hn
        exact hs _ _ (h2 0 _ 0 _ (hk2 0 hn) rfl).1
      · have hlt : j < l.length * 3 := by
          have := (List.getElem?_eq_some_iff.1 hu).1
          rwa [flatMap_len (size := 3) (by simp), hlen] at this
        have hk : j / 3 < l.length := by omega
        have hg : ((List.range l.length).map fun k => (⟨(gti l k).label, val k 1, val k 2⟩ : TrV))[j / 3]? = some ⟨(gti l (j / 3)).label, val (j / 3) 1, val (j / 3) 2⟩ := by simp [hk]
        have hjm : j % 3 < 3 := Nat.mod_lt _ (by decide)
        have hsz : sz = 3 := by rw [← (h1 _ _ (hk2 _ hk)).1]; rfl
        subst hsz
        have h7 : j / 3 * 3 + j % 3 = j := by rw [Nat.mul_comm]; exact Nat.div_add_mod _ _
        have key : ∀ (i : Nat) u c, (encV ⟨(gti l (j / 3)).label, val (j / 3) 1, val (j / 3) 2⟩)[i]? = some u → (eT (gti l (j / 3))).cells[i]? = some c → j % 3 = i → G.w.cell? ⟨b, o + j, none⟩ = some (val (j / 3) i) := by
          intro i u c _ hc2 hi
          have h3 := (h2 (j / 3) _ i c (hk2 _ hk) hc2).2
          rw [← hi] at h3 ⊢
          rw [Nat.add_assoc, h7] at h3
          exact h3
        have hu2 : ∀ i u', j % 3 = i → (encV ⟨(gti l (j / 3)).label, val (j / 3) 1, val (j / 3) 2⟩)[i]? = some u' → u = u' := by
          intro i u' hi hu'
          have h5 := flatMap_get (size := 3) (enc := encV) (by simp) _ (j / 3) _ i u' hg hu'
          rw [← hi, h7, hu] at h5
          injection h5
        have h3 : j % 3 = 0 ∨ j % 3 = 1 ∨ j % 3 = 2 := by omega
        rcases h3 with h3 | h3 | h3
        · rw [hu2 0 _ h3 rfl, key 0 _ _ rfl rfl h3]
          have := h (j / 3) _ 0 _ (hk2 _ hk) rfl
          rw [rep_s this]
        · rw [hu2 1 _ h3 rfl, key 1 _ _ rfl rfl h3]
        · rw [hu2 2 _ h3 rfl, key 2 _ _ rfl rfl h3]
    · have hg : gti ((List.range l.length).map fun k => (⟨(gti l k).label, val k 1, val k 2⟩ : TrV)) k = ⟨(gti l k).label, val k 1, val k 2⟩ := by
        unfold gti; simp [hk]
      rw [hg]
      exact ⟨rfl, rep_rdI (h k _ 1 _ (hk2 k hk) rfl) hs, rep_rdI (h k _ 2 _ (hk2 k hk) rfl) hs⟩
theorem rep_net {G : Cx} {v : Value} {n : Net} (h : Rep G v (eN n)) (hs : ∀ b o, G.St b o → b < G.w.heap.size) : ∃ vt, v = netV n vt ∧ RdT G.w 0 G.w.heap.size vt n.trans := by
  unfold eN at h
  cases h with
  | agg vs _ hl h1 h =>
    obtain ⟨l⟩ := vs
    match l, hl with
    | [a, b, c, d], _ =>
      have ha := rep_s (h 0 a _ rfl rfl)
      have hc := rep_s (h 2 c _ rfl rfl)
      have hd := rep_s (h 3 d _ rfl rfl)
      subst ha hc hd
      exact ⟨b, rfl, rep_rdT (h 1 b _ rfl rfl) hs⟩
end Go.Proofs.Ytmhbfoaecebobaa.Aw
end
section
namespace Go.Proofs.Ytmhbfoaecebobaa
set_option linter.unusedSimpArgs false
set_option linter.unusedVariables false
open Go.RowKit
section
variable {P : Program} {pre : List Oper} {last : Oper} {Q : Exit → Act → World → Prop} {S : World → Prop}
/-- the last operation waits for each of the others, perhaps by way of later ones; each of the others waits for earlier ones alone, and is guarded by none but these -/
def lastBT (pre : List Oper) (last : Oper) : Bool :=
  (List.range pre.length).all (fun i => (last.after.any fun e => Region.binds .any e && e.on == i) || (List.range pre.length).any (fun k => match pre[k]? with | none => false | some o => o.after.any fun e => Region.binds .any e && e.on == i)) &&
  (List.range pre.length).all (fun i => match pre[i]? with
    | none => true
    | some o => (o.after.all fun e => !Region.binds .any e || decide (e.on < i)) && (match o.guard with | none => true | some (j, _) => decide (j < pre.length))) &&
  last.guard.isNone && last.after.all (fun e => !Region.binds .any e || decide (e.on < pre.length))
structure LastT (pre : List Oper) (last : Oper) : Prop where
  waits : ∀ i, i < pre.length → (∃ e ∈ last.after, Region.binds .any e = true ∧ e.on = i) ∨ ∃ (k : Nat) (o : Oper), pre[k]? = some o ∧ ∃ e ∈ o.after, Region.binds .any e = true ∧ e.on = i
  early : ∀ (i : Nat) (o : Oper), pre[i]? = some o → ∀ e ∈ o.after, Region.binds .any e = true → e.on < i
  guards : ∀ (i : Nat) (o : Oper), pre[i]? = some o → ∀ (j : Nat) (b : Bool), o.guard = some (j, b) → j < pre.length
  free : last.guard = none
  on : ∀ e ∈ last.after, Region.binds .any e = true → e.on < pre.length
theorem lastT_of (h : lastBT pre last = true) : LastT pre last := by
  unfold lastBT at h
  simp only [Bool.and_eq_true, Bool.or_eq_true, List.all_eq_true, List.any_eq_true, List.mem_range, Array.any_eq_true', beq_iff_eq] at h
  obtain ⟨⟨⟨h1, h2⟩, h3⟩, h4⟩ := h
  refine ⟨fun i hi => ?_, fun i o ho e he hb => ?_, fun i o ho j b hj => ?_, by simpa using h3, fun e he hb => ?_⟩
  · rcases h1 i hi with ⟨e, he, hb, ho⟩ | ⟨k, hk, hm⟩
    · exact .inl ⟨e, he, hb, ho⟩
    · right
      rw [List.getElem?_eq_getElem hk] at hm
      simp only [Array.any_eq_true', Bool.and_eq_true, beq_iff_eq] at hm
      obtain ⟨e, he, hb, ho⟩ := hm
      exact ⟨k, pre[k], List.getElem?_eq_getElem hk, e, he, hb, ho⟩
  · have hi : i < pre.length := (List.getElem?_eq_some_iff.1 ho).1
    have := h2 i hi
    rw [ho] at this
    simp only [Bool.and_eq_true, Array.all_eq_true', Bool.or_eq_true, Bool.not_eq_true', decide_eq_true_eq] at this
    rcases this.1 e he with h | h
    · rw [hb] at h; cases h
    · exact h
  · have hi : i < pre.length := (List.getElem?_eq_some_iff.1 ho).1
    have := h2 i hi
    rw [ho] at this
    simp only [Bool.and_eq_true] at this
    have h5 := this.2
    rw [hj] at h5
    simpa using h5
  · simp only [Array.all_eq_true', Bool.or_eq_true, Bool.not_eq_true', decide_eq_true_eq] at h4
    rcases h4 e he with h | h
    · rw [hb] at h; cases h
    · exact h
/-- what has come up has come up after all that it waits for -/
def Clo (pre : List Oper) (L : Array Bool) : Prop := ∀ (k : Nat) (o : Oper), pre[k]? = some o → L.getD k false = true → ∀ e ∈ o.after, Region.binds .any e = true → L.getD e.on false = true
theorem Clo.none (n : Nat) : Clo pre (Array.replicate n false) := by
  intro k o _ h
  rw [Array.getD_eq_getD_getElem?, Array.getElem?_replicate] at h
  split at h <;> simp at h
theorem Clo.step {L : Array Bool} {i : Nat} (h : Clo pre L) (hL : L.size = pre.length) (hi : i ∈ Region.ready .any pre.toArray L) : Clo pre (L.setIfInBounds i true) := by
  intro k o hk hd e he hb
  have hmono : ∀ j, L.getD j false = true → (L.setIfInBounds i true).getD j false = true := by
    intro j hj
    rw [Array.getD_eq_getD_getElem?] at hj ⊢
    rw [Array.getElem?_setIfInBounds]
    split
    · rename_i e; subst e
      split
      · rfl
      · rename_i h3
        rw [Array.getElem?_eq_none (by omega)] at hj
        cases hj
    · exact hj
  apply hmono
  by_cases hik : i = k
  · subst hik
    obtain ⟨_, o2, ho2, hall⟩ := mem_ready.1 hi
    rw [List.getElem?_toArray, hk] at ho2
    cases ho2
    exact hall e he hb
  · refine h k o hk ?_ e he hb
    rw [Array.getD_eq_getD_getElem?] at hd ⊢
    rw [Array.getElem?_setIfInBounds, if_neg hik] at hd
    exact hd
theorem wanted_preT (ok : LastT pre last) {i : Nat} {o : Oper} (ho : pre[i]? = some o) (tmps : Array Value) : Region.wanted o (yielded (pre ++ [last]).toArray tmps) = Region.wanted o (yielded pre.toArray tmps) := by
  unfold Region.wanted
  cases hg : o.guard with
  | none => rfl
  | some jb =>
    obtain ⟨j, b⟩ := jb
    simp only
    rw [yielded_pre (ok.guards i o ho j b hg)]

theorem op_thenT (ok : LastT pre last) {i : Nat} (hi : i < pre.length) {K K' : Act → World → Prop} {a : Act} {w : World} (hK : ∀ a w, K a w → K' a w)
    (h : wpOp P pre.toArray (thenLast P pre last Q) i K a w) : wpOp P (pre ++ [last]).toArray Q i K' a w := by
  refine wpOp_mono hK ?_
  unfold wpOp at h ⊢
  rw [get_pre hi]
  obtain ⟨o, ho⟩ : ∃ o, pre[i]? = some o := ⟨_, List.getElem?_eq_getElem hi⟩
  simp only [List.getElem?_toArray, ho] at h ⊢
  rw [wanted_preT ok ho]
  split
  · rename_i hw
    rw [if_pos hw] at h
    rcases h with h | ⟨h1, h2⟩
    · exact .inl (upon_then h)
    · exact .inr ⟨h1, h2⟩
  · rename_i hw
    rw [if_neg hw] at h
    exact h

theorem last_anyT (ok : LastT pre last) : ∀ (fuel : Nat) (L : Array Bool) (a : Act) (w : World), L.size = pre.length → Clo pre L →
    wpAny P .any pre.toArray (thenLast P pre last Q) fuel L a w → wpAny P .any (pre ++ [last]).toArray Q (fuel + 1) (L.push false) a w := by
  -- who may come up: as before; the last one, once all have come up
  have hready : ∀ (L : Array Bool), L.size = pre.length → Clo pre L → ∀ i, i ∈ Region.ready .any (pre ++ [last]).toArray (L.push false) → (i < pre.length ∧ i ∈ Region.ready .any pre.toArray L) ∨ (i = pre.length ∧ ∀ j, j < pre.length → L.getD j false = true) := by
    intro L hL hC i hi
    obtain ⟨h1, o, ho, hall⟩ := mem_ready.1 hi
    have hlt : i < pre.length + 1 := by
      have := (Array.getElem?_eq_some_iff.1 ho).1
      simpa using this
    rcases Nat.lt_or_eq_of_le (Nat.le_of_lt_succ hlt) with h2 | h2
    · left
      refine ⟨h2, mem_ready.2 ⟨?_, o, by rw [get_pre h2] at ho; exact ho, fun e he hb => ?_⟩⟩
      · simpa [Array.getD_eq_getD_getElem?, Array.getElem?_push, hL, Nat.ne_of_lt h2] using h1
      · have hon := ok.early i o (by rw [get_pre h2] at ho; simpa using ho) e he hb
        have := hall e he hb
        simpa [Array.getD_eq_getD_getElem?, Array.getElem?_push, hL, Nat.ne_of_lt (Nat.lt_trans hon h2)] using this
    · right
      subst h2
      rw [get_last] at ho
      injection ho with ho
      subst ho
      refine ⟨rfl, fun j hj => ?_⟩
      have key : ∀ (m j : Nat), j < pre.length → pre.length - j ≤ m → L.getD j false = true := by
        intro m
        induction m with
        | zero => intro j hj hm; omega
        | succ m ihm =>
          intro j hj hm
          rcases ok.waits j hj with ⟨e, he, hb, rfl⟩ | ⟨k, o2, hk, e, he, hb, rfl⟩
          · have := hall e he hb
            simpa [Array.getD_eq_getD_getElem?, Array.getElem?_push, hL, Nat.ne_of_lt hj] using this
          · have hlt2 := ok.early k o2 hk e he hb
            have hk2 : k < pre.length := (List.getElem?_eq_some_iff.1 hk).1
            exact hC k o2 hk (ihm k hk2 (by omega)) e he hb
      exact key pre.length j hj (by omega)
  have hsome : ∀ (L : Array Bool), L.size = pre.length → Region.ready .any (pre ++ [last]).toArray (L.push false) ≠ [] := by
    intro L hL he
    -- the least that has not come up is ready
    have key : ∀ i, i ≤ pre.length → ∀ j, j < i → L.getD j false = true := by
      intro i
      induction i with
      | zero => intro _ j hj; omega
      | succ i ih =>
        intro hi j hj
        rcases Nat.lt_or_eq_of_le (Nat.le_of_lt_succ hj) with h1 | h1
        · exact ih (by omega) j h1
        · subst h1
          cases hc : L.getD j false with
          | true => rfl
          | false =>
            exfalso
            have hj' : j < pre.length := by omega
            obtain ⟨o, ho⟩ : ∃ o, pre[j]? = some o := ⟨_, List.getElem?_eq_getElem hj'⟩
            have hm : j ∈ Region.ready .any (pre ++ [last]).toArray (L.push false) := by
              refine mem_ready.2 ⟨?_, o, by rw [get_pre hj']; simpa using ho, fun e he hb => ?_⟩
              · have hlt : j < L.size := by omega
                simp [Array.getD_eq_getD_getElem?, hlt] at hc ⊢
                simp [Array.getElem?_push, Nat.ne_of_lt hlt, hlt, hc]
              · have hon := ok.early j o ho e he hb
                have := ih (by omega) e.on hon
                simpa [Array.getD_eq_getD_getElem?, Array.getElem?_push, hL, Nat.ne_of_lt (Nat.lt_trans hon hj')] using this
            rw [he] at hm
            cases hm
    have hm : pre.length ∈ Region.ready .any (pre ++ [last]).toArray (L.push false) := by
      refine mem_ready.2 ⟨?_, last, get_last, fun e he hb => ?_⟩
      · rw [Array.getD_eq_getD_getElem?, ← hL, Array.getElem?_push_size]; rfl
      · have hon := ok.on e he hb
        have := key pre.length (Nat.le_refl _) e.on hon
        simpa [Array.getD_eq_getD_getElem?, Array.getElem?_push, hL, Nat.ne_of_lt hon] using this
    rw [he] at hm
    cases hm
  -- the last one
  have hlast : ∀ (fuel : Nat) (L : Array Bool) (a : Act) (w : World), L.size = pre.length → (∀ j, j < pre.length → L.getD j false = true) → thenLast P pre last Q .normal a w →
      wpOp P (pre ++ [last]).toArray Q pre.length (wpAny P .any (pre ++ [last]).toArray Q fuel ((L.push false).setIfInBounds pre.length true)) a w := by
    intro fuel L a w hL hall h
    have hdone : Region.ready .any (pre ++ [last]).toArray ((L.push false).setIfInBounds pre.length true) = [] := by
      rw [List.eq_nil_iff_forall_not_mem]
      intro i hi
      obtain ⟨h1, o, ho, _⟩ := mem_ready.1 hi
      have hlt : i < pre.length + 1 := by
        have := (Array.getElem?_eq_some_iff.1 ho).1
        simpa using this
      rcases Nat.lt_or_eq_of_le (Nat.le_of_lt_succ hlt) with h2 | h2
      · have h3 := hall i h2
        have hlt' : i < L.size := by omega
        rw [Array.getD_eq_getD_getElem?, Array.getElem?_eq_getElem hlt'] at h3
        rw [Array.getD_eq_getD_getElem?, Array.getElem?_setIfInBounds, if_neg (by omega), Array.getElem?_push, if_neg (by omega), Array.getElem?_eq_getElem hlt'] at h1
        simp only [Option.getD_some] at h1 h3
        rw [h3] at h1
        cases h1
      · subst h2
        simp [Array.getD_eq_getD_getElem?, Array.getElem?_setIfInBounds, hL] at h1
    have hK : ∀ a w, Q .normal a w → wpAny P .any (pre ++ [last]).toArray Q fuel ((L.push false).setIfInBounds pre.length true) a w := by
      intro a w hq
      cases fuel with
      | zero => exact ⟨hdone, hq⟩
      | succ fuel => exact ⟨fun _ => hq, by rw [hdone]; simp⟩
    refine wpOp_mono hK ?_
    unfold wpOp
    rw [get_last]
    exact h
  intro fuel
  induction fuel with
  | zero =>
    intro L a w hL hC h
    refine ⟨fun he => absurd he (hsome L hL), fun i hi => ?_⟩
    rcases hready L hL hC i hi with ⟨_, h2⟩ | ⟨rfl, h2⟩
    · rw [h.1] at h2; cases h2
    · exact hlast 0 L a w hL h2 h.2
  | succ fuel ih =>
    intro L a w hL hC h
    refine ⟨fun he => absurd he (hsome L hL), fun i hi => ?_⟩
    rcases hready L hL hC i hi with ⟨h1, h2⟩ | ⟨rfl, h2⟩
    · refine op_thenT ok h1 (fun a' w' h' => ?_) (h.2 i h2)
      have := ih (L.setIfInBounds i true) a' w' (by simpa using hL) (hC.step hL h2) h'
      rwa [show (L.push false).setIfInBounds i true = (L.setIfInBounds i true).push false from by
        apply Array.ext_getElem?
        intro j
        simp only [Array.getElem?_setIfInBounds, Array.getElem?_push, Array.size_push, Array.size_setIfInBounds]
        by_cases h3 : i = j
        · subst h3
          rw [if_pos rfl, if_pos (by omega), if_neg (by omega), if_pos rfl, if_pos (by omega)]
        · rw [if_neg h3, if_neg h3]]
    · refine hlast (fuel + 1) L a w hL h2 (h.1 ?_)
      rw [List.eq_nil_iff_forall_not_mem]
      intro j hj
      obtain ⟨h3, o, ho, _⟩ := mem_ready.1 hj
      have hlt : j < pre.length := by
        have := (Array.getElem?_eq_some_iff.1 ho).1
        simpa using this
      have h4 := h2 j hlt
      have hlt' : j < L.size := by omega
      simp [Array.getD_eq_getD_getElem?, hlt'] at h3 h4
      rw [h4] at h3
      cases h3

end
end Go.Proofs.Ytmhbfoaecebobaa
namespace Go.Proofs.Ytmhbfoaecebobaa.Aw
open Go.RowKit
variable {P : Program} {N : Nat} {l : List Oper} {F : Frm} {σ : List Ob} {Q : Exit → Frm → List Ob → Prop}
theorem adraw_lastT {last : Oper} (hl : l.dropLast ++ [last] = l) (hk : lastBT l.dropLast last = true) (h : ADraw P N l.dropLast F σ (AThen (fun F σ => AOps P N l.toArray [last] F σ Q) Q)) : ADraw P N l F σ Q := fun G a hs => by
  have h1 := h G a hs
  have h2 := wpAny_mono (Q' := thenLast P l.dropLast last (lift N G Q)) (fun e a w q => by
    obtain ⟨G', F', σ', rfl, g2, g3, g4⟩ := q
    unfold thenLast
    rw [hl]
    cases e with
    | normal => exact wpList_mono (fun e a w q => lift_mono g2 (fun _ _ _ x => x) q) _ _ _ (g4 G' a g3)
    | _ => exact ⟨G', F', σ', rfl, g2, g3, g4⟩) _ _ _ _ h1
  have h3 := last_anyT (lastT_of hk) _ _ a G.w (by simp) (Clo.none _) h2
  rw [hl] at h3
  have h4 : l.length = l.dropLast.length + 1 := by rw [← hl]; simp
  rw [h4]
  rwa [show Array.replicate (l.dropLast.length + 1) false = (Array.replicate l.dropLast.length false).push false by simp [Array.replicate_succ]]
end Go.Proofs.Ytmhbfoaecebobaa.Aw
end
section
namespace Go.Proofs.Ytmhbfoaecebobaa.Aw
set_option linter.unusedSimpArgs false
set_option linter.unusedVariables false
open Go Go.Proofs Go.RowKit

/-- a function over finished data whose result has a property -/
structure PureE (P : Program) (f : FuncId) (args : List AV) (R : AV → Prop) : Prop where
  ent : Enters P f
  lo : ∀ r, R r → Lo 0 r
  call : ∀ (G : Cx) (vargs : Array Value), (∀ b o, G.St b o → b < G.w.heap.size) → vargs.size = args.length → (∀ (j : Nat) v x, vargs[j]? = some v → args[j]? = some x → Rep G v x) →
    Calls P f vargs G.w fun e w' => ∃ v G' r, R r ∧ e = .returned v ∧ G'.w = w' ∧ Below G.w.heap.size G.w w' ∧ (∀ b o, G.St b o → G'.St b o) ∧ (∀ b o, G'.St b o → G.St b o ∨ G.w.heap.size ≤ b) ∧ (∀ b o, G'.St b o → b < w'.heap.size) ∧ Rep G' v r
section
variable {P : Program} {N : Nat} {ops : Array Oper} {o : Oper} {l : List Oper} {F : Frm} {σ : List Ob} {Q : Exit → Frm → List Ob → Prop}
theorem ops_callE {d : Nat} {fo : Operand} {ar : Array Operand} {ts : Array TypeId} {f : FuncId} {caps args : List AV} {R : AV → Prop} (hd : o.dst = some d) (hN : Nat.blt d N = true) (hr : Runs ops F o true) (ho : o.op = .call { callee := .value fo, args := ar, argTypes := ts }) (hf : F.eval fo = .fn f caps) (hp : PureE P f args R)
    (ha : ar.toList.map F.eval ++ caps = args) (k : ∀ r, R r → AOps P N ops l ((d, r) :: F) σ Q) : AOps P N ops (o :: l) F σ Q := fun G a hs => by
  unfold wpList
  rw [if_pos (hr.wanted hs.fr)]
  left
  obtain ⟨cap, h1, h2, h3⟩ := call_args ho (fun y _ => rep_eval hs.fr y) hf
  rw [ha] at h2 h3
  unfold Oper.wp
  rw [call_enter ho a.eval h1 hp.ent G.w, Oper.upon_enter]
  refine (hp.call G _ hs.rel.st h2 h3).mono ?_
  rintro e w' ⟨v, G1, r, hR, rfl, hw, hbel, hs1, hs2, hs3, hrep⟩
  obtain ⟨h4, h5⟩ := after_call hs.rel hw hbel hs1 hs2 hs3
  subst hw
  have h6 : Rep { G with w := G1.w, St := G1.St } v r := hrep.low (hp.lo r hR) (fun _ _ h => h) (fun _ _ _ => rfl) (fun id y h => by omega) (fun h => by omega)
  rw [hd]
  exact wpList_mono (fun e' a w q => lift_mono h4.step (fun _ _ _ x => x) q) _ _ _ (k r hR { G with w := G1.w, St := G1.St } _ ((hs.step h4 h5).put (by simpa [Nat.blt_eq] using hN) h6))
end

section
variable {P : Program} {o : Oper} {F : Frm} {σ : List Ob}
end
end Go.Proofs.Ytmhbfoaecebobaa.Aw
end
section
namespace Go.Proofs.Ytmhbfoaecebobaa.Aw
set_option linter.unusedSimpArgs false
set_option linter.unusedVariables false
open Go Go.Proofs Go.RowKit Go.Maps Go.WideMaps

def tyMap (P : Program) (t : TypeId) : Option (TypeId × TypeId) := match P.underlying t with | some (.map k e) => some (k, e) | _ => none
theorem map_of {P : Program} {t k e : TypeId} (h : tyMap P t = some (k, e)) : P.underlying t = some (.map k e) := by
  unfold tyMap at h
  split at h
  · rename_i h1; cases h; exact h1
  · cases h
def unLit : Lit → Value
  | .int q a => .int q a
  | .bool b => .bool b
  | .string l => .string ⟨l.toArray⟩
  | _ => undef
theorem plain_unlit {P : Program} {e : TypeId} {v : Value} {l : Lit} {ps : List MemPlace} (h : plainElem (H := Unit) P e v = some (.lit l, ps)) : v = unLit l := by
  unfold plainElem at h
  split at h
  · simp at h; obtain ⟨rfl, _⟩ := h; rfl
  · split at h
    · rename_i hq
      simp at h; obtain ⟨rfl, _⟩ := h
      rw [hq.1]; rfl
    · cases h
  · split at h
    · simp at h; obtain ⟨rfl, _⟩ := h
      simp [unLit]
    · cases h
  · cases h
section
variable {P : Program} {o : Oper} {F : Frm} {σ : List Ob} {G : Cx}
theorem map_new (hr : Rel G σ) (Q : Program) (kt el : TypeId) : G.Ext (G.new σ.length (G.w.alloc (.map #[] 0)) (some G.w.heap.size)) ∧ Rel (G.new σ.length (G.w.alloc (.map #[] 0)) (some G.w.heap.size)) (σ ++ [.mp ⟨Q, kt, el, 0, .map []⟩]) := by
  have hold : ∀ k, k < G.w.heap.size → (G.w.alloc (.map #[] 0)).heap[k]? = G.w.heap[k]? := fun k hk => heap_alloc_old (r := k) G.w _ hk
  have hext : G.Ext (G.new σ.length (G.w.alloc (.map #[] 0)) (some G.w.heap.size)) := by
    refine ⟨rfl, rfl, fun _ _ h => h, fun b o h => World.cell?_of_block (hold b (hr.st b o h)), fun id x h => ?_, by simp [Cx.new], fun b cur t f h => ⟨cur, ?_, rfl⟩, fun _ _ h => .inl h⟩
    · have : id ≠ σ.length := by
        intro e2
        rw [e2, hr.fresh _ (Nat.le_refl _)] at h
        cases h
      simp [Cx.new, this, h]
    · exact (hold b (Array.getElem?_eq_some_iff.1 h).1).trans h
  have hble : G.base ≤ G.w.heap.size := by have h1 := hr.le; have h2 := hr.below.size; omega
  refine ⟨hext, hr.below.alloc hble _, hr.le, fun b o hb => ?_, fun id ob hob => ?_, fun i j b hi hj hmi hmj => ?_, fun id hid => ?_⟩
  · have := hr.st b o hb
    simp only [Cx.new, World.size_alloc]; omega
  · by_cases hid : id < σ.length
    · rw [List.getElem?_append_left hid] at hob
      have h1 := hr.obs id ob hob
      have hne : id ≠ σ.length := by omega
      have hm : (G.new σ.length (G.w.alloc (.map #[] 0)) (some G.w.heap.size)).mu id = G.mu id := by simp [Cx.new, hne]
      refine h1.of hm rfl rfl (by simp [Cx.new]) (fun b sz cs f _ _ hx => ?_) (fun b X hb hX _ => ⟨hold b hX.lt, fun j hj => ?_⟩)
      · obtain ⟨cur, t, fr, h2, h3, h4, h5⟩ := hx
        refine ⟨cur, t, fr, (hold b (Array.getElem?_eq_some_iff.1 h2).1).trans h2, h3, h4, fun k x hx => ⟨(h5 k x hx).1, (h5 k x hx).2.1, fun j c hc => ?_⟩⟩
        obtain ⟨v, h6, h7⟩ := (h5 k x hx).2.2 j c hc
        exact ⟨v, h6, h7.ext hext⟩
      · by_cases e2 : j = σ.length
        · subst e2
          have := hX.lt
          simp [Cx.new] at hj
          omega
        · simpa [Cx.new, e2] using hj
    · have hid2 : id = σ.length := by
        have := (List.getElem?_eq_some_iff.1 hob).1
        simp at this; omega
      subst hid2
      simp at hob
      subst hob
      refine ⟨G.w.heap.size, by simp [Cx.new], World.ownsMap_made _ _ _ _, hble, fun o ho => ?_, fun j hj => ?_⟩
      · have := hr.st _ _ ho
        omega
      · by_cases e2 : j = σ.length
        · exact e2
        · exfalso
          have hj2 : G.mu j = some (some G.w.heap.size) := by simpa [Cx.new, e2] using hj
          -- a name of a block that is not there yet
          by_cases hlt : j < σ.length
          · obtain ⟨ob, hob⟩ : ∃ ob, σ[j]? = some ob := ⟨_, List.getElem?_eq_getElem hlt⟩
            have := (hr.obs j ob hob).lt hj2
            omega
          · rw [hr.fresh j (by omega)] at hj2; cases hj2
  · have old : ∀ i b, alive (σ ++ [.mp ⟨Q, kt, el, 0, .map []⟩]) i → (G.new σ.length (G.w.alloc (.map #[] 0)) (some G.w.heap.size)).mu i = some (some b) → alive σ i ∧ G.mu i = some (some b) := by
      rintro i b ⟨sz1, cs1, hi⟩ hm
      by_cases hlt : i < σ.length
      · rw [List.getElem?_append_left hlt] at hi
        exact ⟨⟨sz1, cs1, hi⟩, by simpa [Cx.new, Nat.ne_of_lt hlt] using hm⟩
      · have := (List.getElem?_eq_some_iff.1 hi).1
        simp at this
        have he : i = σ.length := by omega
        subst he
        simp at hi
    exact hr.inj i j b (old i b hi hmi).1 (old j b hj hmj).1 (old i b hi hmi).2 (old j b hj hmj).2
  · simp at hid
    have hne : id ≠ σ.length := by omega
    simp [Cx.new, hne, hr.fresh id (by omega)]
theorem map_put {id b : Nat} {X X' : MapX} {w' : World} (hr : Rel G σ) (hs : σ[id]? = some (.mp X)) (hm : G.mu id = some (some b)) (hg : G.w.grownBy w' (some b)) (hX : X'.At w' b) : G.Ext { G with w := w' } ∧ Rel { G with w := w' } (σ.set id (.mp X')) := by
  have hid : id < σ.length := (List.getElem?_eq_some_iff.1 hs).1
  obtain ⟨b0, h1, h2, h3, h4, h5⟩ := hr.obs id _ hs
  rw [hm] at h1
  cases h1
  obtain ⟨es, cl, hmap⟩ := h2.map
  have hold : ∀ k, k < G.w.heap.size → k ≠ b → w'.heap[k]? = G.w.heap[k]? := fun k hk hne => hg.block k hk (fun e => hne (by injection e))
  have hcells : ∀ (k : Nat) (cur : Array Value) (t : TypeId) (f : Nat × Nat), G.w.heap[k]? = some (.cells cur t f) → w'.heap[k]? = some (.cells cur t f) := fun k cur t f h => by
    rw [hold k (Array.getElem?_eq_some_iff.1 h).1 (fun e => by subst e; rw [hmap] at h; cases h)]
    exact h
  have hext : G.Ext { G with w := w' } := by
    refine ⟨rfl, rfl, fun _ _ h => h, fun k o h => World.cell?_of_block (hold k (hr.st k o h) (fun e => h4 o (e ▸ h))), fun _ _ h => h, hg.size, fun k cur t f h => ⟨cur, hcells k cur t f h, rfl⟩, fun _ _ h => .inl h⟩
  have hble : G.base ≤ G.w.heap.size := by have h1 := hr.le; have h2 := hr.below.size; omega
  refine ⟨hext, hr.below.trans ⟨hg.os, hg.tape, hg.output, hg.size, fun k hk => hold k (by omega) (by omega)⟩, hr.le, fun k o h => Nat.lt_of_lt_of_le (hr.st k o h) hg.size, fun i ob hob => ?_, fun i j k hi hj hmi hmj => ?_, fun i hi => hr.fresh i (by simpa using hi)⟩
  · by_cases hi : id = i
    · subst hi
      rw [List.getElem?_set_self hid] at hob
      cases hob
      exact ⟨b, hm, hX, h3, h4, h5⟩
    · rw [List.getElem?_set_ne hi] at hob
      refine (hr.obs i ob hob).of rfl rfl rfl hg.size (fun k sz cs f _ _ hx => ?_) (fun k Y hk hY _ => ⟨hold k hY.lt (fun e => ?_), fun j hj => hj⟩)
      · obtain ⟨cur, t, fr, g2, g3, g4, g5⟩ := hx
        refine ⟨cur, t, fr, hcells k cur t fr g2, g3, g4, fun q x hx => ⟨(g5 q x hx).1, (g5 q x hx).2.1, fun j c hc => ?_⟩⟩
        obtain ⟨v, h6, h7⟩ := (g5 q x hx).2.2 j c hc
        exact ⟨v, h6, h7.ext hext⟩
      · subst e
        exact hi (h5 i hk).symm
  · have old : ∀ i, alive (σ.set id (.mp X')) i → alive σ i := by
      rintro i ⟨sz1, cs1, hi⟩
      by_cases h2 : id = i
      · subst h2; rw [List.getElem?_set_self hid] at hi; cases hi
      · rw [List.getElem?_set_ne h2] at hi; exact ⟨sz1, cs1, hi⟩
    exact hr.inj i j k (old i hi) (old j hj) hmi hmj
theorem does_mkmap {t kt el : TypeId} (ho : o.op = .makeMap t none) (ht : tyMap P t = some (kt, el)) : Does P o F σ (.mp σ.length) (σ ++ [.mp ⟨P, kt, el, 0, .map []⟩]) :=
  does_new (x := .any) fun G ρ hr hop => by
    obtain ⟨h1, h2⟩ := map_new hr P kt el
    refine ⟨.map (some G.w.heap.size), _, ?_, h1, h2, .mp _ _ (by simp [Cx.new])⟩
    simp only [execOp, ho, Option.map_none, Sem.run_bind, run_makeMap, Result.andThen_ok, Sem.run_pure, Cx.new]
theorem does_mapput {t kt el : TypeId} {m x y : Operand} {id : Nat} {X : MapX} {key val : Value} {kl dl : Lit} (ho : o.op = .mapUpdate t m x y ∨ o.op = .insert t m x y) (ht : tyMap P t = some (kt, el)) (K : Keyed P kt) (hm : F.eval m = .mp id) (hs : σ[id]? = some (.mp X)) (hX : X.P = P ∧ X.kt = kt ∧ X.el = el) (hn : X.n < maxLen)
    (hx : F.eval x = .s key) (hy : F.eval y = .s val) (hkey : keyOf P kt key = some kl) (hv : plainElem (H := Unit) P el val = some (.lit dl, [])) : Does P o F σ .any (σ.set id (.mp { X with n := X.n + 1, D := X.D.put kl (.lit dl) })) :=
  does_eff fun G ρ hr hop => by
    have g1 := hop m (by rcases ho with ho | ho <;> simp [ho, Op.operands])
    have g2 := hop x (by rcases ho with ho | ho <;> simp [ho, Op.operands])
    have g3 := hop y (by rcases ho with ho | ho <;> simp [ho, Op.operands])
    rw [hm] at g1
    rw [hx] at g2
    rw [hy] at g3
    have e2 := rep_s g2
    have e3 := rep_s g3
    generalize hu : ρ m = u at g1
    cases g1 with
    | mp _ b hmu =>
      obtain ⟨b0, h1, h2, h3, h4, h5⟩ := hr.obs id _ hs
      rw [hmu] at h1
      cases h1
      obtain ⟨XP, Xk, Xe, Xn, XD⟩ := X
      obtain ⟨rfl, rfl, rfl⟩ := hX
      obtain ⟨w', hrun, k1, k2⟩ := World.ownsMap.update h2 K (map_of ht) hn hkey hv
      obtain ⟨q1, q2⟩ := map_put (X' := ⟨XP, Xk, Xe, Xn + 1, XD.put kl (.lit dl)⟩) hr hs hmu k2 k1
      refine ⟨{ G with w := w' }, ?_, q1, q2⟩
      rcases ho with ho | ho <;> simp [execOp, ho, hu, e2, e3, hrun, Result.andThen]
theorem does_lookup {t kt el : TypeId} {m x : Operand} {id : Nat} {X : MapX} {key z : Value} {kl zl rl : Lit} {n bt : Nat} (ho : o.op = .lookup t m x false) (ht : tyMap P t = some (kt, el)) (K : Keyed P kt) (hm : F.eval m = .mp id) (hs : σ[id]? = some (.mp X)) (hX : X.P = P ∧ X.kt = kt ∧ X.el = el)
    (hx : F.eval x = .s key) (hkey : keyOf P kt key = some kl) (hi : tyInfo P el = some (some z, n, bt)) (hz : plainElem (H := Unit) P el z = some (.lit zl, [])) (hr : X.D.atKey kl (.lit zl) = .lit rl) : Does P o F σ (.s (unLit rl)) σ :=
  does_val fun G ρ hrel hop => by
    have g1 := hop m (by simp [ho, Op.operands])
    have g2 := hop x (by simp [ho, Op.operands])
    rw [hm] at g1
    rw [hx] at g2
    have e2 := rep_s g2
    generalize hu : ρ m = u at g1
    cases g1 with
    | mp _ b hmu =>
      obtain ⟨b0, h1, h2, h3, h4, h5⟩ := hrel.obs id _ hs
      rw [hmu] at h1
      cases h1
      obtain ⟨XP, Xk, Xe, Xn, XD⟩ := X
      obtain ⟨rfl, rfl, rfl⟩ := hX
      obtain ⟨i, k1, k2, k3, k4⟩ := info_of hi
      have hzero : (zeroValue Xe).run XP G.w = .ok z G.w := by simp [zeroValue, typeInfo, k1, k2]
      obtain ⟨v, ps, hrun, hv⟩ := World.ownsMap.lookup h2 K (map_of ht) hzero hz hkey
      have hr' : XD.atKey kl (.lit zl) = .lit rl := hr
      rw [hr'] at hv
      have := plain_unlit hv
      subst this
      refine ⟨_, ?_, .s _⟩
      simp [execOp, ho, hu, e2, hrun, Result.andThen]
end
end Go.Proofs.Ytmhbfoaecebobaa.Aw
end
