/-
  Texts joined: EvF, EvG, SpO, SpI, SpM, SpE, SpF, SpG, SpH. Conditions: none.
-/
import Derived.Test.YthdpacbjbdkemaaJC6
import Derived.Test.YthdpacbjbdkemaaJC1
section
namespace Go.Proofs.Ythdpacbjbdkemaa.Aw
set_option linter.unusedSimpArgs false
set_option linter.unusedVariables false
open Go Go.RowKit

/-- what is known of functions that are not walked: of values without memory they return values without memory -/
abbrev Orc := FuncId → List AV → Option AV
def OrcOk (P : Program) (orc : Orc) : Prop := ∀ f args r, orc f args = some r → Pure P f args r
abbrev CallF := FuncId → List AV → Sto → Option (AV × Sto × List Nat)
def CallOk (P : Program) (call : CallF) : Prop := ∀ f args s r s' W, call f args s = some (r, s', W) → CallE P f args s.abs r s'.abs ∧ Chg s s' W

def evSlice (P : Program) (t : TypeId) (ev : Operand → AV) (σ : Sto) (x : Operand) (l h : Option Operand) : Option ER := match tySlice P t with
  | none => none
  | some e => match tyInfo P e with
    | none => none
    | some (_, n, _) => match ev x, l, h with
      | .own id sz m, none, some y => match ev y with
        | .s (.int _ (.ofNat k)) => bif Nat.ble k m then some (.own id sz k, σ, .free) else none
        | _ => none
      | .sl L, none, some y => match ev y with
        | .s (.int _ (.ofNat k)) => bif Nat.ble k L.length && L.all (fun e => Nat.beq e.cells.length n) then some (.sl (L.take k), σ, .free) else none
        | _ => none
      | .sl L, some y, none => match ev y with
        | .s (.int _ (.ofNat k)) => bif Nat.ble k L.length && L.all (fun e => Nat.beq e.cells.length n) then some (.sl (L.drop k), σ, .free) else none
        | _ => none
      | .sl L, some y, some y' => match ev y, ev y' with
        | .s (.int _ (.ofNat k)), .s (.int _ (.ofNat k')) => bif Nat.ble k k' && Nat.ble k' L.length && L.all (fun e => Nat.beq e.cells.length n) then some (.sl ((L.take k').drop k), σ, .free) else none
        | _, _ => none
      | .own id sz m, some y, none => match ev y with
        | .s (.int _ (.ofNat k)) => bif Nat.beq n sz && Nat.blt 0 m && Nat.ble k m then some (.sub id sz k (m - k), σ, .free) else none
        | _ => none
      | _, _, _ => none
/-- a slice with both ends: the row is taken as finished first -/
def ovr (ev : Operand → AV) (d : Nat) (x : AV) : Operand → AV
  | .tmp t => bif Nat.beq d t then x else ev (.tmp t)
  | y => ev y
def evSliceF (P : Program) (t : TypeId) (ev : Operand → AV) (σ : Sto) (x : Operand) (l h : Option Operand) : Option ER := match x, l with
  | .tmp d, some _ => bif h.isNone then evSlice P t ev σ x l h else match ev (.tmp d) with
    | .own id sz n => match σ.get id with
      | some (.row sz' cs) => bif Nat.beq sz' sz && Nat.beq n cs.length then match evSlice P t (ovr ev d (.sl cs)) (σ.set id (.fz sz cs)) x l h with
          | some (r, σ', .free) => some (r, σ', .eff [id])
          | _ => none
        else none
      | _ => none
    | _ => evSlice P t ev σ x l h
  | _, _ => evSlice P t ev σ x l h
section
variable {P : Program} {o : Oper} {F : Frm} {s : Sto}
theorem all_len {L : List AV} {n : Nat} (h : L.all (fun e => Nat.beq e.cells.length n) = true) : ∀ e ∈ L, e.cells.length = n := fun e he => Nat.eq_of_beq_eq_true (List.all_eq_true.1 h e he)
theorem evSlice_ok {t : TypeId} {x : Operand} {l h : Option Operand} {r : ER} (ho : o.op = .slice t x l h none) (hh : evSlice P t F.eval s x l h = some r) : OpOk P o F s r := by
  unfold evSlice at hh
  split at hh
  · cases hh
  · rename_i e ht
    split at hh
    · cases hh
    · rename_i z n bt hi
      split at hh
      · rename_i id sz m y hx
        split at hh
        · rename_i kd k hy
          cases hb : Nat.ble k m with
          | false => rw [hb] at hh; cases hh
          | true => rw [hb] at hh; cases hh; exact .free _ (fun σ => does_slice_own ho ht hi hx hy rfl (Nat.le_of_ble_eq_true hb))
        · cases hh
      · rename_i L y hx
        split at hh
        · rename_i kd k hy
          generalize hb : (Nat.ble k L.length && L.all (fun e => Nat.beq e.cells.length n)) = b at hh
          cases b with
          | false => cases hh
          | true =>
            cases hh
            simp only [Bool.and_eq_true] at hb
            exact .free _ (fun σ => does_slice_h ho ht hi hx hy rfl (Nat.le_of_ble_eq_true hb.1) (all_len hb.2))
        · cases hh
      · rename_i L y hx
        split at hh
        · rename_i kd k hy
          generalize hb : (Nat.ble k L.length && L.all (fun e => Nat.beq e.cells.length n)) = b at hh
          cases b with
          | false => cases hh
          | true =>
            cases hh
            simp only [Bool.and_eq_true] at hb
            exact .free _ (fun σ => does_slice_l ho ht hi hx hy rfl (Nat.le_of_ble_eq_true hb.1) (all_len hb.2))
        · cases hh
      · rename_i L y y' hx
        split at hh
        · rename_i kd k kd' k' hy hy'
          generalize hb : (Nat.ble k k' && Nat.ble k' L.length && L.all (fun e => Nat.beq e.cells.length n)) = b at hh
          cases b with
          | false => cases hh
          | true =>
            cases hh
            simp only [Bool.and_eq_true] at hb
            exact .free _ (fun σ => does_slice_lh ho ht hi hx hy hy' rfl rfl (Nat.le_of_ble_eq_true hb.1.1) (Nat.le_of_ble_eq_true hb.1.2) (all_len hb.2))
        · cases hh
      · rename_i id sz m y hx
        split at hh
        · rename_i kd k hy
          generalize hb : (Nat.beq n sz && Nat.blt 0 m && Nat.ble k m) = b at hh
          cases b with
          | false => cases hh
          | true =>
            cases hh
            simp only [Bool.and_eq_true] at hb
            exact .free _ (fun σ => does_slice_ol ho ht hi (Nat.eq_of_beq_eq_true hb.1.1) hx (by simpa [Nat.blt_eq] using hb.1.2) hy rfl (Nat.le_of_ble_eq_true hb.2))
        · cases hh
      · cases hh
theorem evSliceF_ok {t : TypeId} {x : Operand} {l h : Option Operand} {r : ER} (ho : o.op = .slice t x l h none) (hh : evSliceF P t F.eval s x l h = some r) : OpOk P o F s r := by
  unfold evSliceF at hh
  split at hh
  · rename_i d y
    cases hn : h.isNone with
    | true => rw [hn, cond_true] at hh; exact evSlice_ok ho hh
    | false =>
    rw [hn, cond_false] at hh
    split at hh
    · rename_i id sz n hx
      split at hh
      · rename_i sz' cs hs
        generalize hb : (Nat.beq sz' sz && Nat.beq n cs.length) = b at hh
        cases b with
        | false => cases hh
        | true =>
          simp only [Bool.and_eq_true] at hb
          obtain rfl := Nat.eq_of_beq_eq_true hb.1
          rw [cond_true] at hh
          split at hh
          · rename_i r' σ' he
            cases hh
            have hov : ovr F.eval d (.sl cs) = Frm.eval ((d, .sl cs) :: F) := by
              funext y
              cases y with
              | tmp t =>
                simp only [ovr, Frm.eval, Frm.get]
              | _ => rfl
            rw [hov] at he
            have h1 := evSlice_ok ho he
            have h2 : σ' = s.set id (.fz sz' cs) := by cases h1; rfl
            have h3 := h1.does
            rw [Sto.set_abs] at h3
            refine .eff _ _ _ (does_froz hx (sto_at hs) (Nat.eq_of_beq_eq_true hb.2) h3) (fun i hi => ?_)
            rw [h2, Sto.set_abs]
            exact set_other hi
          · cases hh
      · cases hh
    · exact evSlice_ok ho hh
  · exact evSlice_ok ho hh
end

def fr1 (r : Option AV) (σ : Sto) : Option ER := match r with | some x => some (x, σ, .free) | none => none
def frV (r : Option Value) (σ : Sto) : Option ER := match r with | some x => some (.s x, σ, .free) | none => none
/-- a call: of what is known, or walked in place -/
def evValue (orc : Orc) (call : CallF) (ev : Operand → AV) (s : Sto) (fo : Operand) (ar : Array Operand) : Option ER := match ev fo with
  | .fn f caps => match orc f (ar.toList.map ev ++ caps) with
    | some r => some (r, s, .free)
    | none => match call f (ar.toList.map ev ++ caps) s with
      | some (r, s', W) => some (r, s', .eff W)
      | none => none
  | _ => none
/-- whether a literal is the second argument of an append in the same region -/
def isArg (ops : Array Oper) (o : Oper) : Bool := match o.dst with
  | none => false
  | some d => ops.toList.any fun o' => match o'.op with
    | .call c => match c.callee, c.args.toList with
      | .builtin .append, [_, .tmp t] => Nat.beq t d
      | _, _ => false
    | _ => false
/-- an operation, made ready -/
structure Ins where
  run : FT → Sto → Option ER
def mkIns (P : Program) (orc : Orc) (call : CallF) (fin : Bool) : Op → Ins
  | .move y => ⟨fun t s => some (fev t y, s, .free)⟩
  | .assign y => ⟨fun t s => some (fev t y, s, .free)⟩
  | .pick c x y => ⟨fun t s => match fev t c with
    | .s (.bool b) => some (bif b then fev t x else fev t y, s, .free)
    | _ => none⟩
  | .binOp b k x y _ => ⟨fun t s => frV (evBin P b k (fev t x) (fev t y)) s⟩
  | .unOp b _ x => ⟨fun t s => frV (evUn b (fev t x)) s⟩
  | .convert k k' x => ⟨fun t s => frV (evConv P k k' (fev t x)) s⟩
  | .fieldAddr k x f => ⟨fun t s => fr1 (evFieldAddr P k f (fev t x)) s⟩
  | .field k x f => ⟨fun t s => fr1 (evField P k f (fev t x)) s⟩
  | .index k x y => ⟨fun t s => frV (evIndexStr P k (fev t x) (fev t y)) s⟩
  | .nilCheck x => ⟨fun t s => fr1 (evNil (fev t x)) s⟩
  | .indexAddr k x y => ⟨fun t s => fr1 (evIndexAddr P k (fev t x) (fev t y)) s⟩
  | .extract x i => ⟨fun t s => fr1 (evExtract i (fev t x)) s⟩
  | .load k x => ⟨fun t s => evLoad P k s (fev t x)⟩
  | .store k p y => ⟨fun t s => evStore P k s (fev t p) (fev t y)⟩
  | .alloc e => ⟨fun _ s => evAlloc P e s⟩
  | .box _ y => ⟨fun t s => evBox s (fev t y)⟩
  | .build k parts => ⟨fun t s => fr1 (evBuild P k (parts.toList.map fun (i, x) => (i, fev t x))) s⟩
  | .buildSlice k len parts => match fin with
    | true => ⟨fun t s => evLitF P k len (parts.toList.map fun (i, x) => (i, fev t x)) s⟩
    | false => ⟨fun t s => evLit P k len (parts.toList.map fun (i, x) => (i, fev t x)) s⟩
  | .makeSlice k y y' => ⟨fun t s => evMake P k s (fev t y) (fev t y')⟩
  | .makeFunc (.func f) fi caps => bif fi.toList.isEmpty then ⟨fun t s => some (.fn f (caps.toList.map (fev t)), s, .free)⟩ else ⟨fun _ _ => none⟩
  | .slice k x l h none => ⟨fun t s => evSliceF P k (fev t) s x l h⟩
  | .call c => match c.callee, c.args.toList, c.argTypes.toList with
    | .builtin .len, [x], [k] => ⟨fun t s => frV (evLen P k (fev t x)) s⟩
    | .builtin .append, [x, y], [k, k'] => bif Nat.beq k k' then ⟨fun t s => evAppT P k s (fev t x) (fev t y)⟩ else ⟨fun _ _ => none⟩
    | .builtin .copy, [x, y], [k, k'] => bif Nat.beq k k' then ⟨fun t s => evCopy P k s (fev t x) (fev t y)⟩ else ⟨fun _ _ => none⟩
    | .builtin .max, [x, y], [_, _] => ⟨fun t s => frV (evMinMax .max (fev t x) (fev t y)) s⟩
    | .builtin .min, [x, y], [_, _] => ⟨fun t s => frV (evMinMax .min (fev t x) (fev t y)) s⟩
    | .value fo, _, _ => ⟨fun t s => evValue orc call (fev t) s fo c.args⟩
    | _, _, _ => ⟨fun _ _ => none⟩
  | _ => ⟨fun _ _ => none⟩
section
variable {P : Program} {o : Oper} {F : Frm} {s : Sto} {orc : Orc} {call : CallF}
theorem fr1_ok {r : Option AV} {e : ER} (h : fr1 r s = some e) (k : ∀ x, r = some x → ∀ σ, Does P o F σ x σ) : OpOk P o F s e := by
  unfold fr1 at h
  split at h
  · rename_i x; cases h; exact .free _ (k x rfl)
  · cases h
theorem frV_ok {r : Option Value} {e : ER} (h : frV r s = some e) (k : ∀ x, r = some x → ∀ σ, Does P o F σ (.s x) σ) : OpOk P o F s e := by
  unfold frV at h
  split at h
  · rename_i x; cases h; exact .free _ (k x rfl)
  · cases h
theorem arr_of {α : Type} {a : Array α} {l : List α} (h : a.toList = l) : a = l.toArray := by rw [← h]
theorem mkIns_ok (ho : OrcOk P orc) (hc : CallOk P call) {op : Op} {fin : Bool} (e : o.op = op) {t : FT} (hF : FEq F t) {r : ER} (h : (mkIns P orc call fin op).run t s = some r) : OpOk P o F s r := by
  have hv := hF.ev
  cases op <;> simp only [mkIns, reduceCtorEq, ← hv] at h
  case move y => cases h; exact .free _ (fun σ => does_move e rfl)
  case assign y => cases h; exact .free _ (fun σ => does_assign e rfl)
  case pick c x y =>
    split at h
    · rename_i b hb; cases h; exact .free _ (fun σ => does_pick e hb)
    · cases h
  case binOp => exact frV_ok h (fun v hv σ => evBin_ok e hv)
  case unOp => exact frV_ok h (fun v hv σ => evUn_ok e hv)
  case convert => exact frV_ok h (fun v hv σ => evConv_ok e hv)
  case fieldAddr => exact fr1_ok h (fun v hv σ => evFieldAddr_ok e hv)
  case field => exact fr1_ok h (fun v hv σ => evField_ok e hv)
  case index => exact frV_ok h (fun v hv σ => evIndexStr_ok e hv)
  case nilCheck => exact fr1_ok h (fun v hv σ => evNil_ok e hv)
  case indexAddr => exact fr1_ok h (fun v hv σ => evIndexAddr_ok e hv)
  case extract => exact fr1_ok h (fun v hv σ => evExtract_ok e hv)
  case load => exact evLoad_ok e h
  case store => exact evStore_ok e h
  case alloc => exact evAlloc_ok e h
  case box => exact evBox_ok e h
  case build => exact fr1_ok h (fun v hv σ => evBuild_ok e hv)
  case buildSlice =>
    cases fin with
    | true => simp only [← hv] at h; exact evLitF_ok e h
    | false => simp only [← hv] at h; exact evLit_ok e h
  case makeSlice => exact evMake_ok e h
  case makeFunc fn fi caps =>
    cases fn <;> simp only [mkIns, reduceCtorEq, ← hv] at h
    rename_i f
    cases hb : fi.toList.isEmpty with
    | false => rw [hb] at h; cases h
    | true =>
      rw [hb] at h; simp only [cond_true, ← hv] at h; cases h
      have : fi = #[] := arr_of (List.isEmpty_iff.1 hb)
      subst this
      exact .free _ (fun σ => does_func e rfl)
  case slice k x l hh m =>
    cases m with
    | none => simp only [mkIns, ← hv] at h; exact evSliceF_ok e h
    | some m => simp [mkIns] at h
  case call c =>
    obtain ⟨cal, ar, ts⟩ := c
    split at h
    · rename_i x k h1 h2 h3
      dsimp only at h1 h2 h3
      subst h1
      obtain rfl := arr_of h2
      obtain rfl := arr_of h3
      simp only [← hv] at h
      exact frV_ok h (fun v hv σ => evLen_ok e hv)
    · rename_i x y k k' h1 h2 h3
      dsimp only at h1 h2 h3
      subst h1
      obtain rfl := arr_of h2
      obtain rfl := arr_of h3
      cases hb : Nat.beq k k' with
      | false => rw [hb] at h; cases h
      | true =>
        rw [hb] at h
        obtain rfl := Nat.eq_of_beq_eq_true hb
        simp only [cond_true, ← hv] at h
        exact evAppT_ok e h
    · rename_i x y k k' h1 h2 h3
      dsimp only at h1 h2 h3
      subst h1
      obtain rfl := arr_of h2
      obtain rfl := arr_of h3
      cases hb : Nat.beq k k' with
      | false => rw [hb] at h; cases h
      | true =>
        rw [hb] at h
        obtain rfl := Nat.eq_of_beq_eq_true hb
        simp only [cond_true, ← hv] at h
        exact evCopy_ok e h
    · rename_i x y k k' h1 h2 h3
      dsimp only at h1 h2 h3
      subst h1
      obtain rfl := arr_of h2
      obtain rfl := arr_of h3
      simp only [← hv] at h
      exact frV_ok h (fun v hv σ => evMinMax_ok e hv)
    · rename_i x y k k' h1 h2 h3
      dsimp only at h1 h2 h3
      subst h1
      obtain rfl := arr_of h2
      obtain rfl := arr_of h3
      simp only [← hv] at h
      exact frV_ok h (fun v hv σ => evMinMax_ok e hv)
    · rename_i fo h1
      dsimp only at h1 h
      subst h1
      simp only [← hv] at h
      unfold evValue at h
      split at h
      · rename_i f caps hf
        split at h
        · rename_i r' hr; cases h; exact .free _ (fun σ => does_call e hf (ho _ _ _ hr) rfl)
        · split at h
          · rename_i r' s' W hr
            cases h
            obtain ⟨g1, g2⟩ := hc _ _ _ _ _ _ hr
            exact .eff _ _ _ (does_callE e hf g1 rfl) g2
          · cases h
      · cases h
    · cases h
def kdW : Kd → List Nat
  | .eff W => W
  | _ => []
theorem OpOk.chg {s' : Sto} {x : AV} {k : Kd} (h : OpOk P o F s (x, s', k)) : Chg s s' (kdW k) := by
  cases h with
  | free => exact .refl _
  | look => exact .refl _
  | eff _ _ W _ hW => exact hW
theorem Chg.acc {a b c : Sto} {V W : List Nat} (h : Chg a b V) (k : Chg b c W) : Chg a c (W ++ V) := fun id hid => by
  simp only [List.mem_append, not_or] at hid
  exact (k id hid.1).trans (h id hid.2)
end

/-! ## regions -/
def isUndef : Value → Bool
  | .tuple vs => vs.toList.isEmpty
  | _ => false
theorem isUndef_of {v : Value} (h : isUndef v = true) : v = undef := by
  unfold isUndef at h
  split at h
  · rw [arr_of (List.isEmpty_iff.1 h)]; rfl
  · cases h
structure GrI where
  run : FT → Option Bool
def mkG (ops : Array Oper) (o : Oper) : GrI := match o.guard with
  | none => ⟨fun _ => some true⟩
  | some (j, want) => match (ops[j]?).bind (·.dst) with
    | none => ⟨fun _ => none⟩
    | some d => ⟨fun t => match fget t d with
      | .s (.bool c) => some (c == want)
      | .s v => bif isUndef v then some false else none
      | _ => none⟩
theorem mkG_ok {ops : Array Oper} {F : Frm} {t : FT} {o : Oper} {b : Bool} (hF : FEq F t) (h : (mkG ops o).run t = some b) : Runs ops F o b := by
  unfold mkG at h
  split at h
  · rename_i hg; cases h; exact runs_none hg
  · rename_i j want hg
    split at h
    · cases h
    · rename_i d hd
      dsimp only at h
      rw [← hF d] at h
      split at h
      · rename_i c hc; cases h; exact runs_some hg hd hc
      · rename_i v _ hv
        cases hu : isUndef v with
        | false => rw [hu] at h; cases h
        | true => rw [hu] at h; cases h; exact runs_nu hg hd (by rw [hv, isUndef_of hu])
      · cases h
/-- one operation of a region: the frame, the store, what it did, its value -/
structure StI where
  run : FT → Sto → Option (FT × Sto × Kd × AV)
structure PutI where
  put : FT → AV → FT
def mkPut (N : Nat) (o : Oper) : PutI := match o.dst with
  | some d => ⟨fun t x => fset t d x⟩
  | none => ⟨fun t _ => fset t N .any⟩
theorem mkPut_ok {N : Nat} {o : Oper} {F : Frm} {t : FT} (h : FEq F t) (x : AV) : FEq (ent N o x :: F) ((mkPut N o).put t x) := by
  cases hd : o.dst with
  | some d => rw [ent_some hd]; unfold mkPut; rw [hd]; exact h.put d x
  | none => rw [ent_none hd]; unfold mkPut; rw [hd]; exact h.put N .any
structure RgI where
  run : FT → Sto → List Nat → Option (FT × Sto × List Nat)
structure DrI where
  run : FT → Sto → Option (FT × Sto × List Kd × List FT × List AV)
section
variable (P : Program) (N : Nat) (orc : Orc) (call : CallF)
def mkStep (ops : Array Oper) (o : Oper) : StI := match dOk N o, o.guard with
  | false, _ => ⟨fun _ _ => none⟩
  | true, none => ⟨fun t s => match (mkIns P orc call (isArg ops o) o.op).run t s with
    | some (x, s1, k) => some ((mkPut N o).put t x, s1, k, x)
    | none => none⟩
  | true, some _ => ⟨fun t s => match (mkG ops o).run t with
    | none => none
    | some false => some ((mkPut N o).put t (.s undef), s, .free, .s undef)
    | some true => match (mkIns P orc call (isArg ops o) o.op).run t s with
      | some (x, s1, k) => some ((mkPut N o).put t x, s1, k, x)
      | none => none⟩
def mkOps (ops : Array Oper) : List Oper → RgI
  | [] => ⟨fun t s W => some (t, s, W)⟩
  | o :: l => ⟨fun t s W => match (mkStep P N orc call ops o).run t s with
    | some (t1, s1, k, _) => (mkOps ops l).run t1 s1 (kdW k ++ W)
    | none => none⟩
def mkDraws (ops : Array Oper) : List Oper → DrI
  | [] => ⟨fun t s => some (t, s, [], [], [])⟩
  | o :: l => ⟨fun t s => match (mkStep P N orc call ops o).run t s with
    | some (t1, s1, k, x) => match (mkDraws ops l).run t1 s1 with
      | some (t2, s2, ks, ts, xs) => some (t2, s2, k :: ks, t :: ts, x :: xs)
      | none => none
    | none => none⟩
/-- the operations that change the store; those that look at it or change it -/
def effIdx (ks : List Kd) : List Nat := (List.range ks.length).filter fun i => match ks[i]? with | some (.eff _) => true | _ => false
def busyIdx (ks : List Kd) : List Nat := (List.range ks.length).filter fun i => match ks[i]? with | some .free => false | _ => true
def stepT (l : List Oper) (ts : List FT) (j : Nat) : Sto × List Nat → Sto × List Nat
  | (sa, Wa) => match l[j]?, ts[j]? with
    | some o, some t => match (mkIns P orc call (isArg l.toArray o) o.op).run t sa with
      | some (_, s1, k) => (s1, kdW k ++ Wa)
      | none => (sa, Wa)
    | _, _ => (sa, Wa)
def runT (l : List Oper) (ts : List FT) : List Nat → Sto × List Nat → Sto × List Nat
  | [], a => a
  | j :: D, a => runT l ts D (stepT P orc call l ts j a)
def chkT (l : List Oper) (ts : List FT) (xs : List AV) (s : Sto) (E D : List Nat) (i : Nat) : Bool := match l[i]?, ts[i]?, xs[i]? with
  | some o, some t, some x0 => match runT P orc call l ts D (s, []), runT P orc call l ts (insE E D i) (s, []) with
    | (sD, WD), (sI, WI) => match (mkIns P orc call (isArg l.toArray o) o.op).run t sD with
      | some (x, s1, k) => avEq (ent N o x).2 (ent N o x0).2 && eqOn ((kdW k ++ WD) ++ WI) s1 sI
      | none => false
  | _, _, _ => false
def selfB (m : List Nat) : Bool := (List.range m.length).all fun i => !((m.getD i 0).testBit i)
/-- all orders of the operations that look at the store or change it come to the same -/
def treeB (l : List Oper) (ts : List FT) (xs : List AV) (s : Sto) (ks : List Kd) : Bool :=
  sOk l N && selfB (masks l []) && (effIdx ks).all (fun j => Nat.blt j l.length) && (subs (effIdx ks)).all fun D => !(closedB (masks l []) (effIdx ks) D) || (busyIdx ks).all fun i => !(readyB (masks l []) (effIdx ks) D i) || chkT P N orc call l ts xs s (effIdx ks) D i
/-- an operation that makes one object: its name in the text's order (names from n on are new) -/
def pushId (n : Nat) : Kd → AV → Option Nat
  | .eff [id], .ptr id' _ _ _ => bif Nat.beq id id' && Nat.ble n id then some id else none
  | .eff [id], .own id' _ _ => bif Nat.beq id id' && Nat.ble n id then some id else none
  | _, _ => none
def pushN : Nat → Sto → Sto
  | 0, s => s
  | k + 1, s => pushN k (s.push .dead)
def stepH (l : List Oper) (ts : List FT) (ps : List (Option Nat)) (j : Nat) : Sto × List Nat → Sto × List Nat
  | (sa, Wa) => match l[j]?, ts[j]?, ps[j]? with
    | some o, some t, some p => match (mkIns P orc call (isArg l.toArray o) o.op).run t sa with
      | some (_, s2, k) => match p with
        | none => (s2, kdW k ++ Wa)
        | some id => match s2.get sa.len with
          | some ob => (sa.set id ob, id :: Wa)
          | none => (sa, Wa)
      | none => (sa, Wa)
    | _, _, _ => (sa, Wa)
def runH (l : List Oper) (ts : List FT) (ps : List (Option Nat)) : List Nat → Sto × List Nat → Sto × List Nat
  | [], a => a
  | j :: D, a => runH l ts ps D (stepH P orc call l ts ps j a)
def holesOf (ps : List (Option Nat)) (n K : Nat) (D : List Nat) : List Nat := ((List.range K).map (n + ·)).filter fun id => !(D.any fun j => match ps[j]? with | some (some id') => Nat.beq id id' | _ => false)
def natsEq : List Nat → List Nat → Bool
  | [], [] => true
  | a :: l, b :: m => Nat.beq a b && natsEq l m
  | _, _ => false
def isEff1 (k : Kd) (n : Nat) : Bool := match k with | .eff [m] => Nat.beq m n | _ => false
def isDead : Option Ob → Bool
  | some .dead => true
  | _ => false
def chkH (l : List Oper) (ts : List FT) (xs : List AV) (ps : List (Option Nat)) (s : Sto) (n K : Nat) (E D : List Nat) (i : Nat) : Bool := match l[i]?, ts[i]?, xs[i]?, ps[i]? with
  | some o, some t, some x0, some p => match runH P orc call l ts ps D (s, []), runH P orc call l ts ps (insE E D i) (s, []) with
    | (sD, WD), (sI, WI) => match (mkIns P orc call (isArg l.toArray o) o.op).run t sD with
      | some (x, s1, k) => (holesOf ps n K D).all (fun id => isDead (sD.get id)) && match p with
        | none => avEq (ent N o x).2 (ent N o x0).2 && nmB (fun id => !((holesOf ps n K D).contains id)) x
            && (kdW k).all (fun id => !((holesOf ps n K D).contains id) && match s1.get id with | some ob => obNmB (fun id => !((holesOf ps n K D).contains id)) ob | none => true)
            && eqOn ((kdW k ++ WD) ++ WI) s1 sI && natsEq (holesOf ps n K (insE E D i)) (holesOf ps n K D)
        | some id => match s1.get sD.len with
          | some ob => isEff1 k sD.len && Nat.beq s1.len (sD.len + 1) && rnB sD.len id x x0 && (holesOf ps n K D).contains id && Nat.blt id sD.len
              && obNmB (fun j => !((holesOf ps n K D).contains j) && Nat.blt j sD.len) ob && eqOn ((id :: WD) ++ WI) (sD.set id ob) sI && natsEq (holesOf ps n K (insE E D i)) ((holesOf ps n K D).filter fun j => !Nat.beq j id)
          | none => false
      | none => false
  | _, _, _, _ => false
def noMp (s : Sto) : Bool := (List.range s.len).all fun id => match s.get id with | some ob => !isMp ob | none => true
/-- all orders of the operations come to the same, with each object under its name in the text's order -/
def holeB (l : List Oper) (ts : List FT) (xs : List AV) (s : Sto) (ks : List Kd) (K : Nat) : Bool :=
  sOk l N && selfB (masks l []) && (effIdx ks).all (fun j => Nat.blt j l.length) && l.all (fun o => o.guard.isNone) && (subs (effIdx ks)).all fun D => !(closedB (masks l []) (effIdx ks) D) || noMp (runH P orc call l ts ((ks.zip xs).map fun p => pushId s.len p.1 p.2) D (pushN K s, [])).1 && (List.range l.length).all fun i => !(readyB (masks l []) (effIdx ks) D i) || chkH P N orc call l ts xs ((ks.zip xs).map fun p => pushId s.len p.1 p.2) (pushN K s) s.len K (effIdx ks) D i
def mkDraw (l : List Oper) : RgI := ⟨fun t s W => match (mkDraws P N orc call l.toArray l).run t s with
  | some (t', s', ks, ts, xs) => bif eOk l N ks then some (t', s', (ks.map kdW).flatten ++ W) else bif treeB P N orc call l ts xs s ks then (match runT P orc call l ts (effIdx ks) (s, []) with | (sE, WE) => some (t', sE, WE ++ W))
      else bif holeB P N orc call l ts xs s ks (s'.len - s.len) then (match runH P orc call l ts ((ks.zip xs).map fun p => pushId s.len p.1 p.2) (effIdx ks) (pushN (s'.len - s.len) s, []) with | (sE, WE) => some (t', sE, (WE ++ (List.range (s'.len - s.len)).map (s.len + ·)) ++ W)) else none
  | none => none⟩
end
section
variable {P : Program} {N : Nat} {orc : Orc} {call : CallF} {F F' : Frm} {s s' : Sto}
theorem S8.ent {σ : List Ob} {G : Cx} {a : Act} {o : Oper} {v : Value} {x : AV} (h : S8 N G a F σ) (hd : dOk N o = true) (hv : Rep G v x) : S8 N G (a.put o.dst v) (ent N o x :: F) σ := by
  cases hd2 : o.dst with
  | some d => rw [ent_some hd2]; exact h.put (dOk_lt hd hd2) hv
  | none => rw [ent_none hd2]; exact ⟨h.rel, h.fr.more (.any _), h.df, h.nt⟩
/-- one operation -/
def StepAt (P : Program) (N : Nat) (ops : Array Oper) (o : Oper) (F : Frm) (s s1 : Sto) (k : Kd) (x : AV) : Prop := dOk N o = true ∧ ((Runs ops F o false ∧ x = .s undef ∧ s1 = s ∧ k = .free) ∨ (Runs ops F o true ∧ OpOk P o F s (x, s1, k)))
theorem StepAt.chg {ops : Array Oper} {o : Oper} {s1 : Sto} {k : Kd} {x : AV} (h : StepAt P N ops o F s s1 k x) : Chg s s1 (kdW k) := by
  rcases h.2 with ⟨_, _, rfl, rfl⟩ | ⟨_, h⟩
  · exact .refl _
  · exact h.chg
theorem mkStep_ok (ho : OrcOk P orc) (hc : CallOk P call) {ops : Array Oper} {o : Oper} {t t1 : FT} {s1 : Sto} {k : Kd} {x : AV} (hF : FEq F t) (h : (mkStep P N orc call ops o).run t s = some (t1, s1, k, x)) : StepAt P N ops o F s s1 k x ∧ t1 = (mkPut N o).put t x := by
  unfold mkStep at h
  split at h
  · cases h
  · rename_i hd hg
    dsimp only at h
    split at h
    · rename_i x' s' k' hx
      cases h
      exact ⟨⟨hd, .inr ⟨runs_none hg, mkIns_ok ho hc rfl hF hx⟩⟩, rfl⟩
    · cases h
  · rename_i hd hg
    dsimp only at h
    split at h
    · cases h
    · rename_i hr
      cases h
      exact ⟨⟨hd, .inl ⟨mkG_ok hF hr, rfl, rfl, rfl⟩⟩, rfl⟩
    · rename_i hr
      split at h
      · rename_i x' s' k' hx
        cases h
        exact ⟨⟨hd, .inr ⟨mkG_ok hF hr, mkIns_ok ho hc rfl hF hx⟩⟩, rfl⟩
      · cases h
/-- how a piece of code ends -/
abbrev XR := Exit × FT × Sto × List Nat
def Is (r : XR) : Exit → Frm → List Ob → Prop := fun e F σ => e = r.1 ∧ FEq F r.2.1 ∧ σ = r.2.2.1.abs
theorem mkOps_ok (ho : OrcOk P orc) (hc : CallOk P call) {ops : Array Oper} : ∀ (l : List Oper) (F : Frm) (t : FT) (s : Sto) (W : List Nat) (t' : FT) (s' : Sto) (W' : List Nat), FEq F t → (mkOps P N orc call ops l).run t s W = some (t', s', W') →
    EOps P N ops l F s.abs (Is (.normal, t', s', W')) ∧ (∀ s0, Chg s0 s W → Chg s0 s' W') ∧ ∃ F', FEq F' t'
  | [], F, t, s, W, t', s', W', hF, h => by cases h; exact ⟨eops_nil ⟨rfl, hF, rfl⟩, fun _ h => h, F, hF⟩
  | o :: l, F, t, s, W, t', s', W', hF, h => by
    unfold mkOps at h
    dsimp only at h
    split at h
    · rename_i t1 s1 k x hx
      obtain ⟨hst, rfl⟩ := mkStep_ok ho hc hF hx
      obtain ⟨ih1, ih2, ih3⟩ := mkOps_ok ho hc l _ _ _ _ _ _ _ (mkPut_ok hF x) h
      refine ⟨?_, fun s0 h0 => ih2 s0 (h0.acc hst.chg), ih3⟩
      obtain ⟨hd, ⟨hr, rfl, rfl, rfl⟩ | ⟨hr, hop⟩⟩ := hst
      · intro G a hs
        unfold wpList
        rw [if_neg (by rw [hr.wanted hs.fr]; simp)]
        exact ih1 G _ (hs.ent hd (.s _))
      · intro G a hs
        unfold wpList
        rw [if_pos (hr.wanted hs.fr)]
        left
        refine hop.does G a _ _ hs.rel (fun y _ => rep_eval hs.fr y) (fun v G' e r hv => ?_)
        exact wpList_mono (fun e' a w q => liftE_mono e (fun _ _ _ x => x) q) _ _ _ (ih1 G' _ ((hs.step e r).ent hd hv))
    · cases h
theorem mkDraws_ok (ho : OrcOk P orc) (hc : CallOk P call) {ops : Array Oper} : ∀ (l : List Oper) (F : Frm) (t : FT) (s : Sto) (t' : FT) (s' : Sto) (ks : List Kd) (ts : List FT) (xs : List AV), FEq F t → (mkDraws P N orc call ops l).run t s = some (t', s', ks, ts, xs) →
    ∃ F' out sts, ESteps P N ops l F s.abs F' s'.abs out ks sts ∧ FEq F' t' ∧ Chg s s' (ks.map kdW).flatten ∧ ∀ (j : Nat) o, l[j]? = some o → ∃ tj xj, ts[j]? = some tj ∧ xs[j]? = some xj ∧ FEq ((out.take j).reverse ++ F) tj ∧ out[j]? = some (ent N o xj)
  | [], F, t, s, t', s', ks, ts, xs, hF, h => by cases h; exact ⟨F, [], [], .nil F _, hF, .refl _, by simp⟩
  | o :: l, F, t, s, t', s', ks, ts, xs, hF, h => by
    unfold mkDraws at h
    dsimp only at h
    split at h
    · rename_i t1 s1 k x hx
      obtain ⟨hst, rfl⟩ := mkStep_ok ho hc hF hx
      split at h
      · rename_i t2 s2 ks2 ts2 xs2 he
        cases h
        obtain ⟨F', out, sts, ih1, ih2, ih3, ih4⟩ := mkDraws_ok ho hc l _ _ _ _ _ _ _ _ (mkPut_ok hF x) he
        have hat : ∀ (j : Nat) o', (o :: l)[j]? = some o' → ∃ tj xj, (t :: ts2)[j]? = some tj ∧ (x :: xs2)[j]? = some xj ∧ FEq (((ent N o x :: out).take j).reverse ++ F) tj ∧ (ent N o x :: out)[j]? = some (ent N o' xj) := fun j o' hj => by
          cases j with
          | zero => simp at hj; subst hj; exact ⟨t, x, rfl, rfl, by simpa using hF, rfl⟩
          | succ j =>
            obtain ⟨tj, xj, g1, g2, g3, g4⟩ := ih4 j o' (by simpa using hj)
            exact ⟨tj, xj, by simpa using g1, by simpa using g2, by simpa using g3, by simpa using g4⟩
        have hch : Chg s s' ((k :: ks2).map kdW).flatten := hst.chg.trans ih3
        obtain ⟨hd, ⟨hr, rfl, rfl, rfl⟩ | ⟨hr, hop⟩⟩ := hst
        · exact ⟨F', _, _, .skip o l F _ _ _ out _ sts hd hr ih1, ih2, hch, hat⟩
        · cases hop with
          | free _ h1 => exact ⟨F', _, _, .free o l F _ _ _ x out _ sts hd hr h1 ih1, ih2, hch, hat⟩
          | look _ R h1 => exact ⟨F', _, _, .look o l F _ _ _ x out _ sts R hd hr h1 ih1, ih2, hch, hat⟩
          | eff _ _ W h1 h2 => exact ⟨F', _, _, .eff o l F _ _ _ _ x out _ sts W hd hr h1 h2 ih1, ih2, hch, hat⟩
      · cases h
    · cases h
theorem pushN_abs : ∀ (k : Nat) (s : Sto), (pushN k s).abs = s.abs ++ List.replicate k .dead
  | 0, s => by simp [pushN]
  | k + 1, s => by
    rw [pushN, pushN_abs k, Sto.push_abs, List.append_assoc]
    rfl
theorem natsEq_of : ∀ (l m : List Nat), natsEq l m = true → l = m
  | [], [], _ => rfl
  | [], _ :: _, h => by cases h
  | _ :: _, [], h => by cases h
  | a :: l, b :: m, h => by
    simp only [natsEq, Bool.and_eq_true] at h
    rw [Nat.eq_of_beq_eq_true h.1, natsEq_of l m h.2]
theorem runH_chg (ho : OrcOk P orc) (hc : CallOk P call) {l : List Oper} {ts : List FT} {ps : List (Option Nat)} {Fi : Nat → Frm} (htx : ∀ i o, l[i]? = some o → ∃ ti, ts[i]? = some ti ∧ FEq (Fi i) ti) {s : Sto} :
    ∀ (D : List Nat) (a : Sto × List Nat), Chg s a.1 a.2 → Chg s (runH P orc call l ts ps D a).1 (runH P orc call l ts ps D a).2 := by
  intro D
  induction D with
  | nil => intro a ha; exact ha
  | cons j D ih =>
    intro a ha
    refine ih _ ?_
    obtain ⟨sa, Wa⟩ := a
    have key : ∀ a', stepH P orc call l ts ps j (sa, Wa) = a' → Chg s a'.1 a'.2 := by
      intro a' e
      unfold stepH at e
      dsimp only at e
      split at e
      · rename_i o tj p ho' htj hp
        split at e
        · rename_i x s2 k hx
          obtain ⟨tj', g1, g3⟩ := htx j o ho'
          rw [htj] at g1
          cases g1
          split at e
          · subst e
            exact Chg.acc ha (mkIns_ok ho hc (o := o) rfl g3 hx).chg
          · rename_i id
            split at e
            · rename_i ob hob
              subst e
              have hk : Chg sa (sa.set id ob) [id] := fun i hi => by rw [Sto.set_abs]; exact set_other hi
              exact Chg.acc (W := [id]) ha hk
            · subst e; exact ha
        · subst e; exact ha
      · subst e; exact ha
    exact key _ rfl
theorem hole_ok (ho : OrcOk P orc) (hc : CallOk P call) {l : List Oper} {ts : List FT} {xs : List AV} {ks : List Kd} {K : Nat} {s : Sto} {F F' : Frm} {out : List (Nat × AV)} {Q : Exit → Frm → List Ob → Prop}
    (hB : holeB P N orc call l ts xs s ks K = true) (hlen : l.length = out.length) (hF' : F' = out.reverse ++ F)
    (htx : ∀ i o, l[i]? = some o → dOk N o = true ∧ ∃ ti xi, ts[i]? = some ti ∧ xs[i]? = some xi ∧ FEq ((out.take i).reverse ++ F) ti ∧ out[i]? = some (ent N o xi))
    (hQ : Q .normal F' (runH P orc call l ts ((ks.zip xs).map fun p => pushId s.len p.1 p.2) (effIdx ks) (pushN K s, [])).1.abs) : EDraw P N l F s.abs Q := by
  unfold holeB at hB
  generalize hps : ((ks.zip xs).map fun p => pushId s.len p.1 p.2) = ps at hB hQ
  simp only [Bool.and_eq_true] at hB
  obtain ⟨⟨⟨⟨hso, hself⟩, hEl⟩, hg⟩, hall⟩ := hB
  have hrun : ∀ D : List Nat, Chg (pushN K s) (runH P orc call l ts ps D (pushN K s, [])).1 (runH P orc call l ts ps D (pushN K s, [])).2 := fun D =>
    runH_chg ho hc (Fi := fun i => (out.take i).reverse ++ F) (fun i o hi => by
      obtain ⟨_, ti, _, g1, _, g3, _⟩ := htx i o hi
      exact ⟨ti, g1, g3⟩) D _ (.refl _)
  refine edraw_hole (E := effIdx ks) (T := fun D => (runH P orc call l ts ps D (pushN K s, [])).1.abs) (H := holesOf ps s.len K) (out := out) hso (fun i hi => ?_) (fun j hj => ?_) hlen hF' K (pushN_abs K s) (fun id hid => ?_) rfl (fun i o hi => ?_) hQ
  · by_cases hlt : i < (masks l []).length
    · have := List.all_eq_true.1 hself i (by simpa using hlt)
      rw [hi] at this; cases this
    · rw [List.getD_eq_getElem?_getD, List.getElem?_eq_none (by omega)] at hi
      simp at hi
  · have := List.all_eq_true.1 hEl j hj
    simpa [Nat.blt_eq] using this
  · unfold holesOf at hid
    obtain ⟨h1, _⟩ := List.mem_filter.1 hid
    obtain ⟨k, _, rfl⟩ := List.mem_map.1 h1
    rw [Sto.abs_len]; omega
  · obtain ⟨hd, ti, xi, g1, g2, g3, g4⟩ := htx i o hi
    have hgn : o.guard = none := by
      have := List.all_eq_true.1 hg o (List.mem_of_getElem? hi)
      simpa using this
    refine ⟨hd, _, g4, ⟨xi, rfl⟩, .inr ⟨runs_none hgn, fun q h1 h2 => ?_⟩⟩
    dsimp only
    have h3 := List.all_eq_true.1 hall _ (subs_filter q (effIdx ks))
    rw [h1, Bool.not_true, Bool.false_or, Bool.and_eq_true] at h3
    have hnm := h3.1
    have h4 := List.all_eq_true.1 h3.2 i (by simpa using (List.getElem?_eq_some_iff.1 hi).1)
    rw [h2, Bool.not_true, Bool.false_or] at h4
    have hr1 := hrun ((effIdx ks).filter q)
    have hr2 := hrun (insE (effIdx ks) ((effIdx ks).filter q) i)
    unfold chkH at h4
    rw [hi, g1, g2] at h4
    generalize runH P orc call l ts ps ((effIdx ks).filter q) (pushN K s, []) = rD at *
    generalize runH P orc call l ts ps (insE (effIdx ks) ((effIdx ks).filter q) i) (pushN K s, []) = rI at *
    generalize holesOf ps s.len K ((effIdx ks).filter q) = hs at *
    generalize holesOf ps s.len K (insE (effIdx ks) ((effIdx ks).filter q) i) = hs' at *
    obtain ⟨sD, WD⟩ := rD
    obtain ⟨sI, WI⟩ := rI
    dsimp only at h4 hnm hr1 hr2 ⊢
    have hmp : ∀ (id : Nat) (ob : Ob), sD.abs[id]? = some ob → isMp ob = false := fun id ob hob => by
      unfold noMp at hnm
      have hl : id < sD.len := by rw [← Sto.abs_len]; exact (List.getElem?_eq_some_iff.1 hob).1
      have := List.all_eq_true.1 hnm id (by simpa using hl)
      rw [Sto.get_abs, hob] at this
      simpa using this
    split at h4
    · rename_i o' t' x0' p e1 e2 e3 hp
      cases e1; cases e2; cases e3
      split at h4
      · rename_i x s1 k hx
        have hop := mkIns_ok ho hc (o := o) rfl g3 hx
        have hD := hop.does
        simp only [Bool.and_eq_true] at h4
        obtain ⟨hdead, h4⟩ := h4
        have hsd : ∀ id ∈ hs, sD.abs[id]? = some .dead := fun id hid => by
          have := List.all_eq_true.1 hdead id hid
          rw [Sto.get_abs] at this
          unfold isDead at this
          split at this
          · assumption
          · cases this
        split at h4
        · simp only [Bool.and_eq_true] at h4
          obtain ⟨⟨⟨⟨q1, q2⟩, q3⟩, q4⟩, q5⟩ := h4
          have e2 := eqOn_of (hr1.acc hop.chg) hr2 q4
          have e3 := natsEq_of _ _ q5
          have e4 := avEq_of _ _ q1
          refine ⟨x, ?_, ?_⟩
          · cases hdst : o.dst with
            | none => rw [ent_none hdst, ent_none hdst]
            | some d => rw [ent_some hdst] at e4 ⊢; rw [ent_some hdst] at e4 ⊢; rw [show x = xi from e4]
          · rw [e3, ← e2]
            have hq : ∀ i, (!(hs.contains i)) = true → i ∉ hs := fun i h => by simpa using h
            refine doesH_keep2 hD ((nmB_of _ q2).mono hq) (kdW k) hop.chg hsd (fun id hid => ?_) (fun id hid ob hob => ?_) hmp
            · have := List.all_eq_true.1 q3 id hid
              simp only [Bool.and_eq_true] at this
              exact hq id this.1
            · have := List.all_eq_true.1 q3 id hid
              simp only [Bool.and_eq_true] at this
              have h6 := this.2
              rw [Sto.get_abs, hob] at h6
              exact (obNmB_of h6).mono hq
        · rename_i id
          split at h4
          · rename_i ob hob
            simp only [Bool.and_eq_true] at h4
            obtain ⟨⟨⟨⟨⟨⟨⟨q1, q2⟩, q3⟩, q4⟩, q5⟩, q6⟩, q7⟩, q8⟩ := h4
            have hk : Chg sD (sD.set id ob) [id] := fun i hi => by rw [Sto.set_abs]; exact set_other hi
            have e2 := eqOn_of (Chg.acc (W := [id]) hr1 hk) hr2 q7
            have e3 := natsEq_of _ _ q8
            have hk1 : kdW k = [sD.len] := by
              unfold isEff1 at q1
              split at q1
              · rename_i m; rw [Nat.eq_of_beq_eq_true q1]; rfl
              · cases q1
            have hc1 := hop.chg
            rw [hk1] at hc1
            have hl1 : s1.abs.length = sD.abs.length + 1 := by rw [Sto.abs_len, Sto.abs_len]; exact Nat.eq_of_beq_eq_true q2
            have e5 : s1.abs = sD.abs ++ [ob] := by
              refine List.ext_getElem? fun i => ?_
              rcases Nat.lt_trichotomy i sD.abs.length with h | h | h
              · rw [List.getElem?_append_left h]
                exact hc1 i (by rw [← Sto.abs_len]; simp; omega)
              · subst h
                rw [Sto.abs_len, ← Sto.get_abs, hob, ← Sto.abs_len]; simp
              · rw [List.getElem?_eq_none (by omega), List.getElem?_eq_none (by simp; omega)]
            rw [e5] at hD
            refine ⟨xi, rfl, ?_⟩
            rw [e3, ← e2, Sto.set_abs]
            refine doesH_push2 hD (by simpa using q4) (by rw [Sto.abs_len]; simpa [Nat.blt_eq] using q5) hsd (by rw [Sto.abs_len]; exact rnB_of q3) ((obNmB_of q6).mono fun i h => ?_) hmp
            simp only [Bool.and_eq_true] at h
            exact ⟨by simpa using h.1, by rw [Sto.abs_len]; simpa [Nat.blt_eq] using h.2⟩
          · cases h4
      · cases h4
    · cases h4
theorem mkDraw_ok (ho : OrcOk P orc) (hc : CallOk P call) {l : List Oper} {t t' : FT} {W W' : List Nat} (hF : FEq F t) (h : (mkDraw P N orc call l).run t s W = some (t', s', W')) : EDraw P N l F s.abs (Is (.normal, t', s', W')) ∧ (∀ s0, Chg s0 s W → Chg s0 s' W') ∧ ∃ F', FEq F' t' := by
  unfold mkDraw at h
  dsimp only at h
  split at h
  · rename_i t1 s1 ks ts xs he
    obtain ⟨F1, out, sts, hs, hF1, hch, htx⟩ := mkDraws_ok ho hc l _ _ _ _ _ _ _ _ hF he
    cases hb : eOk l N ks with
    | true =>
      rw [hb] at h; cases h
      exact ⟨edraw_steps hs hb ⟨rfl, hF1, rfl⟩, fun s0 h0 => h0.acc hch, F1, hF1⟩
    | false =>
      rw [hb, cond_false] at h
      generalize ht : treeB P N orc call l ts xs s ks = b at h
      cases b with
      | false =>
        rw [cond_false] at h
        generalize hh : holeB P N orc call l ts xs s ks (s1.len - s.len) = b2 at h
        cases b2 with
        | false => cases h
        | true =>
          rw [cond_true] at h
          obtain ⟨hlen, hF', hkl, hsl, _, hat⟩ := esteps_at hs
          generalize hK : s1.len - s.len = K at h hh
          have hdat : ∀ i o, l[i]? = some o → dOk N o = true ∧ ∃ ti xi, ts[i]? = some ti ∧ xs[i]? = some xi ∧ FEq ((out.take i).reverse ++ F) ti ∧ out[i]? = some (ent N o xi) := fun i o hi => by
            obtain ⟨x, _, g2, _⟩ := hat i o hi
            exact ⟨g2, htx i o hi⟩
          have hc2 : Chg s (pushN K s) ((List.range K).map (s.len + ·)) := fun id hid => by
            rw [pushN_abs]
            by_cases hl : id < s.abs.length
            · rw [List.getElem?_append_left hl]
            · rw [List.getElem?_eq_none (by simp; rw [Sto.abs_len] at hl ⊢; rcases Nat.lt_or_ge id (s.len + K) with h1 | h1; exact absurd (List.mem_map.2 ⟨id - s.len, by simp; omega, by omega⟩) hid; exact h1), List.getElem?_eq_none (by omega)]
          have hc3 := runH_chg ho hc (ps := (ks.zip xs).map fun p => pushId s.len p.1 p.2) (Fi := fun i => (out.take i).reverse ++ F) (fun i o hi => by
            obtain ⟨_, ti, _, g1, _, g3, _⟩ := hdat i o hi
            exact ⟨ti, g1, g3⟩) (effIdx ks) (pushN K s, []) (Chg.refl _)
          have hq := fun Q => hole_ok ho hc (Q := Q) hh hlen hF' hdat
          generalize runH P orc call l ts ((ks.zip xs).map fun p => pushId s.len p.1 p.2) (effIdx ks) (pushN K s, []) = r at h hc3 hq
          obtain ⟨sE, WE⟩ := r
          dsimp only at h hc3 hq
          cases h
          exact ⟨hq _ ⟨rfl, hF1, rfl⟩, fun s0 h0 => h0.acc (Chg.acc hc2 hc3), F1, hF1⟩
      | true =>
        rw [cond_true] at h
        obtain ⟨hlen, hF', hkl, hsl, _, hat⟩ := esteps_at hs
        unfold treeB at ht
        simp only [Bool.and_eq_true] at ht
        obtain ⟨⟨⟨hso, hself⟩, hEl⟩, hall⟩ := ht
        have hmE : ∀ i, i ∈ effIdx ks ↔ ∃ W, ks[i]? = some (.eff W) := fun i => by
          unfold effIdx
          simp only [List.mem_filter, List.mem_range]
          constructor
          · rintro ⟨h1, h2⟩
            split at h2
            · rename_i W hW; exact ⟨W, hW⟩
            · cases h2
          · rintro ⟨W, hW⟩
            exact ⟨(List.getElem?_eq_some_iff.1 hW).1, by rw [hW]⟩
        have hmB : ∀ i k, ks[i]? = some k → k ≠ .free → i ∈ busyIdx ks := fun i k hk hne => by
          unfold busyIdx
          simp only [List.mem_filter, List.mem_range]
          refine ⟨(List.getElem?_eq_some_iff.1 hk).1, ?_⟩
          rw [hk]
          cases k with
          | free => exact absurd rfl hne
          | _ => rfl
        -- what the runs of some operations change
        have hrun : ∀ D : List Nat, Chg s (runT P orc call l ts D (s, [])).1 (runT P orc call l ts D (s, [])).2 := by
          have gen : ∀ (D : List Nat) (a : Sto × List Nat), Chg s a.1 a.2 → Chg s (runT P orc call l ts D a).1 (runT P orc call l ts D a).2 := by
            intro D
            induction D with
            | nil => intro a ha; exact ha
            | cons j D ih =>
              intro a ha
              refine ih _ ?_
              obtain ⟨sa, Wa⟩ := a
              have key : ∀ a', stepT P orc call l ts j (sa, Wa) = a' → Chg s a'.1 a'.2 := by
                intro a' e
                unfold stepT at e
                dsimp only at e
                split at e
                · rename_i o tj ho' htj
                  split at e
                  · rename_i x s2 k hx
                    obtain ⟨tj', xj, g1, _, g3, _⟩ := htx j o ho'
                    rw [htj] at g1
                    cases g1
                    subst e
                    exact Chg.acc ha (mkIns_ok ho hc (o := o) rfl g3 hx).chg
                  · subst e; exact ha
                · subst e; exact ha
              exact key _ rfl
          exact fun D => gen D (s, []) (.refl s)
        have hchk : ∀ i o, l[i]? = some o → i ∈ busyIdx ks → ∀ q : Nat → Bool, closedB (masks l []) (effIdx ks) ((effIdx ks).filter q) = true → readyB (masks l []) (effIdx ks) ((effIdx ks).filter q) i = true → ∃ x, out[i]? = some (ent N o x) ∧ Does P o ((out.take i).reverse ++ F) (runT P orc call l ts ((effIdx ks).filter q) (s, [])).1.abs x (runT P orc call l ts (insE (effIdx ks) ((effIdx ks).filter q) i) (s, [])).1.abs := by
          intro i o hi hB q h1 h2
          have h3 := List.all_eq_true.1 hall _ (subs_filter q (effIdx ks))
          rw [h1, Bool.not_true, Bool.false_or] at h3
          have h4 := List.all_eq_true.1 h3 i hB
          rw [h2, Bool.not_true, Bool.false_or] at h4
          obtain ⟨ti, xi, g1, g2, g3, g4⟩ := htx i o hi
          unfold chkT at h4
          rw [hi, g1, g2] at h4
          dsimp only at h4
          split at h4
          · rename_i x s2 k hx
            simp only [Bool.and_eq_true] at h4
            have hop := mkIns_ok ho hc (o := o) rfl g3 hx
            have hD := hop.does
            have e2 := eqOn_of ((hrun _).acc hop.chg) (hrun _) h4.2
            rw [e2] at hD
            refine ⟨x, ?_, hD⟩
            rw [g4]
            congr 1
            have e3 := avEq_of _ _ h4.1
            cases hdst : o.dst with
            | none => rw [ent_none hdst, ent_none hdst]
            | some d => rw [ent_some hdst] at e3 ⊢; rw [ent_some hdst] at e3 ⊢; rw [show x = xi from e3]
          · cases h4
        have e1 : t1 = t' := by injection h with h; injection h with h1 h2
        have e2 : (runT P orc call l ts (effIdx ks) (s, [])).1 = s' := by injection h with h; injection h with h1 h2; injection h2 with h3 h4
        have e3 : (runT P orc call l ts (effIdx ks) (s, [])).2 ++ W = W' := by injection h with h; injection h with h1 h2; injection h2 with h3 h4
        subst e1 e2 e3
        refine ⟨edraw_tree (E := effIdx ks) (T := fun D => (runT P orc call l ts D (s, [])).1.abs) (out := out) hso (fun i hi => ?_) (fun j hj => ?_) hlen hF' rfl rfl (fun i o hi => ?_) ⟨rfl, hF1, rfl⟩, fun s0 h0 => h0.acc (hrun _), F1, hF1⟩
        · by_cases hlt : i < (masks l []).length
          · have := List.all_eq_true.1 hself i (by simpa using hlt)
            rw [hi] at this; cases this
          · rw [List.getD_eq_getElem?_getD, List.getElem?_eq_none (by omega)] at hi
            simp at hi
        · have := List.all_eq_true.1 hEl j hj
          simpa [Nat.blt_eq] using this
        · obtain ⟨x, g1, g2, g3⟩ := hat i o hi
          refine ⟨g2, _, g1, ⟨x, rfl⟩, ?_⟩
          rcases g3 with ⟨k0, _, h5⟩ | ⟨R, k0, _, h5, _⟩ | ⟨W, k0, h5, _⟩
          · left
            refine ⟨fun hE => ?_, ?_⟩
            · obtain ⟨W, hW⟩ := (hmE i).1 hE
              rw [k0] at hW; cases hW
            · rcases h5 with ⟨h6, h7⟩ | ⟨h6, rfl⟩
              · exact .inl ⟨h6, x, rfl, h7⟩
              · exact .inr ⟨h6, rfl⟩
          · right
            refine ⟨h5, fun q h1 h2 => ?_⟩
            obtain ⟨x', h6, h7⟩ := hchk i o hi (hmB i _ k0 (by simp)) q h1 h2
            rw [g1] at h6
            exact ⟨x', Option.some.inj h6, h7⟩
          · right
            refine ⟨h5, fun q h1 h2 => ?_⟩
            obtain ⟨x', h6, h7⟩ := hchk i o hi (hmB i _ k0 (by simp)) q h1 h2
            rw [g1] at h6
            exact ⟨x', Option.some.inj h6, h7⟩
  · cases h
end

/-! ## code -/
abbrev RunF := Nat → FT → Sto → List Nat → Option XR
structure CoI where
  run : RunF
def loopR (run : RunF) : RunF
  | 0, _, _, _ => none
  | n + 1, t, s, W => match run n t s W with
    | some (.normal, t1, s1, W1) => loopR run n t1 s1 W1
    | r => r
section
variable (P : Program) (orc : Orc) (call : CallF) (N : Nat)
def mkCode : Code → CoI
  | .skip => ⟨fun _ t s W => some (.normal, t, s, W)⟩
  | .region _ ops draw => match draw with
    | true => ⟨fun _ t s W => match (mkDraw P N orc call ops.toList).run t s W with
      | some (t', s', W') => some (.normal, t', s', W')
      | none => none⟩
    | false => ⟨fun _ t s W => match (mkOps P N orc call ops ops.toList).run t s W with
      | some (t', s', W') => some (.normal, t', s', W')
      | none => none⟩
  | .seq a b => ⟨fun n t s W => match (mkCode a).run n t s W with
    | some (.normal, t1, s1, W1) => (mkCode b).run n t1 s1 W1
    | r => r⟩
  | .cond x a b => ⟨fun n t s W => match fev t x with
    | .s (.bool true) => (mkCode a).run n t s W
    | .s (.bool false) => (mkCode b).run n t s W
    | _ => none⟩
  | .block id b => ⟨fun n t s W => match (mkCode b).run n t s W with
    | some (.exit i, t1, s1, W1) => bif Nat.beq i id then some (.normal, t1, s1, W1) else some (.exit i, t1, s1, W1)
    | r => r⟩
  | .loop b => ⟨loopR (mkCode b).run⟩
  | .exit id => ⟨fun _ t s W => some (.exit id, t, s, W)⟩
  | .ret => ⟨fun _ t s W => some (.ret, t, s, W)⟩
  | _ => ⟨fun _ _ _ _ => none⟩
end
theorem S8.get {N : Nat} {G : Cx} {a : Act} {F F' : Frm} {σ : List Ob} (h : S8 N G a F σ) (e : ∀ t, F'.get t = F.get t) : S8 N G a F' σ := ⟨h.rel, fun d => by rw [e]; exact h.fr d, h.df, h.nt⟩
section
variable {P : Program} {N : Nat} {orc : Orc} {call : CallF}
/-- a run is right -/
def RunOk (P : Program) (N : Nat) (c : Code) (run : RunF) : Prop := ∀ n F t s W r, FEq F t → run n t s W = some r → EWp P N c F s.abs (Is r) ∧ (∀ s0, Chg s0 s W → Chg s0 r.2.2.1 r.2.2.2) ∧ ∃ F', FEq F' r.2.1
theorem RunOk.wp {c : Code} {run : RunF} (h : RunOk P N c run) {n : Nat} {F : Frm} {t : FT} {s : Sto} {W : List Nat} {r : XR} (hF : FEq F t) (hr : run n t s W = some r) : EWp P N c F s.abs (Is r) := (h n F t s W r hF hr).1
theorem loopR_ok {b : Code} {run : RunF} (h : RunOk P N b run) : RunOk P N (.loop b) (loopR run) := by
  have chg : ∀ n t s W r F, FEq F t → loopR run n t s W = some r → (∀ s0, Chg s0 s W → Chg s0 r.2.2.1 r.2.2.2) ∧ ∃ F', FEq F' r.2.1 := by
    intro n
    induction n with
    | zero => intro t s W r F hF hr; cases hr
    | succ n ih =>
      intro t s W r F hF hr
      unfold loopR at hr
      split at hr
      · rename_i t1 s1 W1 he
        obtain ⟨_, h1, F1, hF1⟩ := h n F t s W _ hF he
        obtain ⟨h2, h3⟩ := ih t1 s1 W1 r F1 hF1 hr
        exact ⟨fun s0 h0 => h2 s0 (h1 s0 h0), h3⟩
      · obtain ⟨_, h1, h2⟩ := h n F t s W _ hF hr
        exact ⟨h1, h2⟩
  intro n F t s W r hF hr
  refine ⟨?_, chg n t s W r F hF hr⟩
  refine ew_loop (fun k F1 σ1 => ∃ t1 s1 W1, FEq F1 t1 ∧ σ1 = s1.abs ∧ loopR run k t1 s1 W1 = some r) n ⟨t, s, W, hF, rfl, hr⟩ ?_
  rintro k F1 σ1 ⟨t1, s1, W1, hF1, rfl, hk⟩
  cases k with
  | zero => cases hk
  | succ k =>
    unfold loopR at hk
    split at hk
    · rename_i t2 s2 W2 he
      refine ew_mono (h.wp hF1 he) ?_
      rintro e F3 σ3 ⟨rfl, hF3, rfl⟩
      exact ⟨k, Nat.lt_succ_self _, t2, s2, W2, hF3, rfl, hk⟩
    · rename_i x hx
      refine ew_mono (h.wp hF1 hk) ?_
      rintro e F3 σ3 ⟨rfl, hF3, rfl⟩
      obtain ⟨e, t4, s4, W4⟩ := r
      cases e
      case normal => exact absurd hk (hx _ _ _)
      all_goals exact ⟨rfl, hF3, rfl⟩
theorem mkCode_ok (hm : P.follows .mixedOrders = true) (ho : OrcOk P orc) (hc : CallOk P call) : ∀ c : Code, RunOk P N c (mkCode P orc call N c).run
  | .skip => fun n F t s W r hF h => by
    unfold mkCode at h; cases h; exact ⟨ew_skip ⟨rfl, hF, rfl⟩, fun _ h => h, F, hF⟩
  | .region id ops draw => fun n F t s W r hF h => by
    have hops : ops = ops.toList.toArray := rfl
    unfold mkCode at h
    cases draw with
    | true =>
      dsimp only at h
      split at h
      · rename_i t' s' W' he
        cases h
        obtain ⟨h1, h2, h3⟩ := mkDraw_ok ho hc hF he
        rw [hops]
        exact ⟨ew_draw hm h1, h2, h3⟩
      · cases h
    | false =>
      dsimp only at h
      split at h
      · rename_i t' s' W' he
        cases h
        obtain ⟨h1, h2, h3⟩ := mkOps_ok ho hc ops.toList F t s W _ _ _ hF he
        rw [hops]
        exact ⟨ew_region h1, h2, h3⟩
      · cases h
  | .seq a b => fun n F t s W r hF h => by
    have iha := mkCode_ok hm ho hc a
    have ihb := mkCode_ok hm ho hc b
    unfold mkCode at h
    dsimp only at h
    split at h
    · rename_i t1 s1 W1 he
      obtain ⟨h1, h2, F1, hF1⟩ := iha n F t s W _ hF he
      obtain ⟨_, h4, h5⟩ := ihb n F1 t1 s1 W1 _ hF1 h
      refine ⟨ew_seq (ew_mono h1 ?_), fun s0 h0 => h4 s0 (h2 s0 h0), h5⟩
      rintro e F2 σ2 ⟨rfl, hF2, rfl⟩
      exact ihb.wp hF2 h
    · rename_i x hx
      obtain ⟨h1, h2, h3⟩ := iha n F t s W _ hF h
      refine ⟨ew_seq (ew_mono h1 ?_), h2, h3⟩
      rintro e F2 σ2 ⟨rfl, hF2, rfl⟩
      obtain ⟨e, t4, s4, W4⟩ := r
      cases e
      case normal => exact absurd h (hx _ _ _)
      all_goals exact ⟨rfl, hF2, rfl⟩
  | .cond x a b => fun n F t s W r hF h => by
    have iha := mkCode_ok hm ho hc a
    have ihb := mkCode_ok hm ho hc b
    unfold mkCode at h
    dsimp only at h
    rw [← hF.ev] at h
    split at h
    · rename_i hx; obtain ⟨h1, h2⟩ := iha n F t s W _ hF h; exact ⟨ew_true hx h1, h2⟩
    · rename_i hx; obtain ⟨h1, h2⟩ := ihb n F t s W _ hF h; exact ⟨ew_false hx h1, h2⟩
    · cases h
  | .block id b => fun n F t s W r hF h => by
    have ihb := mkCode_ok hm ho hc b
    unfold mkCode at h
    dsimp only at h
    split at h
    · rename_i i t1 s1 W1 he
      obtain ⟨h1, h2, F1, hF1⟩ := ihb n F t s W _ hF he
      have hr : r = (if i = id then (.normal, t1, s1, W1) else (.exit i, t1, s1, W1)) := by
        by_cases e : i = id
        · rw [if_pos e, Tri.beq_t e] at *; cases h; rfl
        · rw [if_neg e]; rw [Tri.beq_f e] at h; cases h; rfl
      refine ⟨ew_block (ew_mono h1 ?_), ?_, ?_⟩
      · rintro e F2 σ2 ⟨rfl, hF2, rfl⟩
        simp only [ABlk]
        by_cases e : i = id
        · rw [if_pos e]; rw [hr, if_pos e]; exact ⟨rfl, hF2, rfl⟩
        · rw [if_neg e]; rw [hr, if_neg e]; exact ⟨rfl, hF2, rfl⟩
      · intro s0 h0
        have := h2 s0 h0
        rw [hr]; split <;> exact this
      · rw [hr]; split <;> exact ⟨F1, hF1⟩
    · rename_i x hx
      obtain ⟨h1, h2, h3⟩ := ihb n F t s W _ hF h
      refine ⟨ew_block (ew_mono h1 ?_), h2, h3⟩
      rintro e F2 σ2 ⟨rfl, hF2, rfl⟩
      obtain ⟨e, t4, s4, W4⟩ := r
      cases e
      case exit => exact absurd h (hx _ _ _ _)
      all_goals exact ⟨rfl, hF2, rfl⟩
  | .loop b => by
    have ihb := mkCode_ok hm ho hc b
    unfold mkCode
    exact loopR_ok ihb
  | .exit id => fun n F t s W r hF h => by
    unfold mkCode at h; cases h; exact ⟨ew_exit ⟨rfl, hF, rfl⟩, fun _ h => h, F, hF⟩
  | .ret => fun n F t s W r hF h => by
    unfold mkCode at h; cases h; exact ⟨ew_ret ⟨rfl, hF, rfl⟩, fun _ h => h, F, hF⟩
  | .rangeFunc .. => fun n F t s W r hF h => by unfold mkCode at h; cases h
  | .scope _ => fun n F t s W r hF h => by unfold mkCode at h; cases h
  | .label _ => fun n F t s W r hF h => by unfold mkCode at h; cases h
  | .goto _ => fun n F t s W r hF h => by unfold mkCode at h; cases h
  | .refuse _ => fun n F t s W r hF h => by unfold mkCode at h; cases h
end

/-! ## functions -/
def argT : Nat → List AV → FT
  | _, [] => .nil
  | k, x :: l => fset (argT (k + 1) l) k x
theorem argT_ok : ∀ (l : List AV) (k : Nat), FEq (argF k l) (argT k l)
  | [], k => fun d => rfl
  | x :: l, k => (argT_ok l (k + 1)).put k x
section
variable (P : Program) (orc : Orc)
def evRes (t : FT) (s : Sto) : ResultVar → Option AV
  | .tmp d => some (fget t d)
  | .cell a k => match tyAgg P k, fget t a with
    | some false, .ptr id sz i j => match cellsAt s id sz i with
      | some l => l[j]?
      | none => none
    | some true, .ptr id sz i 0 => match tyInfo P k, cellsAt s id sz i with
      | some (_, n, _), some l => bif Nat.beq l.length n then some (.agg l) else none
      | _, _ => none
    | _, _ => none
def evResL (t : FT) (s : Sto) : List ResultVar → Option (List AV)
  | [] => some []
  | r :: rs => match evRes P t s r, evResL t s rs with
    | some x, some xs => some (x :: xs)
    | _, _ => none
/-- what of a list lies below k, with what lies from k to n -/
def below (k n : Nat) (W : List Nat) : List Nat := W.filter (fun i => Nat.blt i k) ++ (List.range (n - k)).map (k + ·)
def cutOr (k : Nat) (r : AV) (s' : Sto) (W : List Nat) : AV × Sto × List Nat :=
  bif Nat.ble k s'.len && loB k r && W.all (fun i => !(Nat.blt i k) || obLo k (s'.at_ i)) then (r, s'.take k, W.filter (fun i => Nat.blt i k)) else (r, s', W)
/-- a result that is one new row: all else that is new is forgotten -/
def keepOr (k : Nat) (r : AV) (s' : Sto) (W : List Nat) : AV × Sto × List Nat := match r with
  | .own m sz n => match s'.get m with
    | some ob => bif Nat.ble k m && obLo k ob && W.all (fun i => !(Nat.blt i k) || obLo k (s'.at_ i)) then (.own k sz n, (s'.take k).push ob, k :: W.filter (fun i => Nat.blt i k)) else cutOr k r s' W
    | none => cutOr k r s' W
  | _ => cutOr k r s' W
def retOf (k : Nat) (rs : List ResultVar) (t : FT) (s' : Sto) (W : List Nat) : Option (AV × Sto × List Nat) := match evResL P t s' rs with
  | some xs => some (keepOr k (oneOf xs) s' W)
  | none => none
def evCall : Nat → CallF
  | 0 => fun _ _ _ => none
  | n + 1 => fun f args s => match P.funcs[f]? with
    | none => none
    | some fn => match fn.body with
      | none => none
      | some c => bif (fn.name == "runtime.NumGoroutine") || !(Nat.ble args.length fn.ntmps) then none else match (mkCode P orc (evCall n) fn.ntmps c).run n (argT 0 args) s [] with
        | some (.normal, t, s', W) => retOf P s.len fn.results.toList t s' W
        | some (.ret, t, s', W) => retOf P s.len fn.results.toList t s' W
        | _ => none
end
section
variable {P : Program} {orc : Orc} {F : Frm} {s : Sto}
theorem evRes_ok {t : FT} (hF : FEq F t) {r : ResultVar} {x : AV} (h : evRes P t s r = some x) : ResA P F s.abs r x := by
  unfold evRes at h
  split at h
  · cases h; exact .tmp _ _ (hF _)
  · split at h
    · rename_i ha hp
      split at h
      · rename_i l hl
        unfold cellsAt at hl
        rw [Sto.get_abs] at hl
        obtain ⟨ob, cs, e, g1, g2, g3, g4⟩ := cellsO_of hl
        exact .cell _ _ _ _ _ _ ob cs e x ha ((hF _).trans hp) g1 g2 g3 (by rw [g4]; exact h)
      · cases h
    · rename_i ha hp
      split at h
      · rename_i z n bt l hi hl
        cases hb : Nat.beq l.length n with
        | false => rw [hb] at h; cases h
        | true =>
          rw [hb] at h; cases h
          unfold cellsAt at hl
          rw [Sto.get_abs] at hl
          obtain ⟨ob, cs, e, g1, g2, g3, g4⟩ := cellsO_of hl
          subst g4
          exact .cells _ _ _ _ _ n bt z ob cs e ha hi ((hF _).trans hp) g1 g2 g3 (Nat.eq_of_beq_eq_true hb)
      · cases h
    · cases h
theorem evResL_ok {t : FT} (hF : FEq F t) : ∀ {rs : List ResultVar} {xs : List AV}, evResL P t s rs = some xs → ResL P F s.abs rs xs
  | [], xs, h => by cases h; exact .nil
  | r :: rs, xs, h => by
    unfold evResL at h
    split at h
    · rename_i x xs' h1 h2; cases h; exact .cons _ _ _ _ (evRes_ok hF h1) (evResL_ok hF h2)
    · cases h
theorem cutOr_ok {f : FuncId} {args : List AV} {r r1 : AV} {s' s1 : Sto} {W W1 : List Nat} (h : CallE P f args s.abs r s'.abs) (hW : Chg s s' W) (e : cutOr s.len r s' W = (r1, s1, W1)) : CallE P f args s.abs r1 s1.abs ∧ Chg s s1 W1 := by
  unfold cutOr at e
  generalize hb : (Nat.ble s.len s'.len && loB s.len r && W.all (fun i => !(Nat.blt i s.len) || obLo s.len (s'.at_ i))) = b at e
  cases b with
  | false => cases e; exact ⟨h, hW⟩
  | true =>
    simp only [Bool.and_eq_true] at hb
    have hk := Nat.le_of_ble_eq_true hb.1.1
    injection e with e1 e2
    injection e2 with e2 e3
    subst e1 e2 e3
    have hlen : s.abs.length = s.len := Sto.abs_len s
    constructor
    · rw [Sto.take_abs, ← hlen]
      refine h.cut (W := W) (by rw [Sto.abs_len, Sto.abs_len]; exact hk) hW (fun id hid hlt ob hob => ?_) (by rw [hlen]; exact loB_of _ hb.1.2)
      rw [hlen] at hlt ⊢
      have h1 := List.all_eq_true.1 hb.2 id hid
      have h2 : Nat.blt id s.len = true := by rw [Nat.blt_eq]; exact hlt
      rw [h2, Bool.not_true, Bool.false_or] at h1
      have h3 : s'.get id = some (s'.at_ id) := by
        unfold Sto.get
        have : Nat.blt id s'.len = true := by rw [Nat.blt_eq]; omega
        rw [this]; rfl
      rw [← Sto.get_abs, h3] at hob
      cases hob
      exact obLo_of h1
    · intro id hid
      rw [Sto.take_abs, List.getElem?_take]
      split
      · rename_i hlt
        refine hW id (fun hm => hid ?_)
        refine List.mem_filter.2 ⟨hm, ?_⟩
        rw [Nat.blt_eq]; exact hlt
      · rename_i hge
        rw [List.getElem?_eq_none (by rw [hlen]; omega)]
theorem keepOr_ok {f : FuncId} {args : List AV} {r r1 : AV} {s' s1 : Sto} {W W1 : List Nat} (h : CallE P f args s.abs r s'.abs) (hW : Chg s s' W) (e : keepOr s.len r s' W = (r1, s1, W1)) : CallE P f args s.abs r1 s1.abs ∧ Chg s s1 W1 := by
  unfold keepOr at e
  split at e
  · rename_i m sz n
    split at e
    · rename_i ob hob
      generalize hb : (Nat.ble s.len m && obLo s.len ob && W.all (fun i => !(Nat.blt i s.len) || obLo s.len (s'.at_ i))) = b at e
      cases b with
      | false => exact cutOr_ok h hW e
      | true =>
        simp only [Bool.and_eq_true] at hb
        have hk := Nat.le_of_ble_eq_true hb.1.1
        injection e with e1 e2
        injection e2 with e2 e3
        subst e1 e2 e3
        have hlen : s.abs.length = s.len := Sto.abs_len s
        rw [Sto.get_abs] at hob
        have hmlt : m < s'.len := by rw [← Sto.abs_len]; exact (List.getElem?_eq_some_iff.1 hob).1
        constructor
        · rw [Sto.push_abs, Sto.take_abs, ← hlen]
          refine h.keep (W := W) (by rw [hlen]; exact hk) hob hW (fun id hid hlt ob1 hob1 => ?_) (by rw [hlen]; exact obLo_of hb.1.2)
          rw [hlen] at hlt ⊢
          have h1 := List.all_eq_true.1 hb.2 id hid
          have h2 : Nat.blt id s.len = true := by rw [Nat.blt_eq]; exact hlt
          rw [h2, Bool.not_true, Bool.false_or] at h1
          have h3 : s'.get id = some (s'.at_ id) := by
            unfold Sto.get
            have : Nat.blt id s'.len = true := by rw [Nat.blt_eq]; omega
            rw [this]; rfl
          rw [← Sto.get_abs, h3] at hob1
          cases hob1
          exact obLo_of h1
        · intro id hid
          have htk : (s'.abs.take s.len).length = s.len := by rw [List.length_take, Sto.abs_len]; omega
          rw [Sto.push_abs, Sto.take_abs]
          have hne : id ≠ s.len := fun e => hid (by rw [e]; exact List.mem_cons_self)
          rcases Nat.lt_or_ge id s.len with hlt | hge
          · rw [List.getElem?_append_left (by omega), List.getElem?_take, if_pos hlt]
            refine hW id (fun hm => hid (List.mem_cons_of_mem _ ?_))
            refine List.mem_filter.2 ⟨hm, ?_⟩
            rw [Nat.blt_eq]; exact hlt
          · rw [List.getElem?_eq_none (by rw [List.length_append, htk]; simp; omega), List.getElem?_eq_none (by rw [hlen]; omega)]
    · exact cutOr_ok h hW e
  · exact cutOr_ok h hW e
theorem evCall_ok (hm : P.follows .mixedOrders = true) (ho : OrcOk P orc) : ∀ n, CallOk P (evCall P orc n)
  | 0 => fun f args s r s' W h => by cases h
  | n + 1 => fun f args s r s' W h => by
    have ih := evCall_ok hm ho n
    unfold evCall at h
    split at h
    · cases h
    · rename_i fn hf
      split at h
      · cases h
      · rename_i c hb
        generalize hg : ((fn.name == "runtime.NumGoroutine") || !(Nat.ble args.length fn.ntmps)) = g at h
        cases g with
        | true => cases h
        | false =>
          rw [cond_false] at h
          simp only [Bool.or_eq_false_iff, Bool.not_eq_false'] at hg
          have hcode := mkCode_ok (N := fn.ntmps) hm ho ih c
          have main : ∀ e t s1 W1, (e = .normal ∨ e = .ret) → (mkCode P orc (evCall P orc n) fn.ntmps c).run n (argT 0 args) s [] = some (e, t, s1, W1) → retOf P s.len fn.results.toList t s1 W1 = some (r, s', W) → CallE P f args s.abs r s'.abs ∧ Chg s s' W := by
            intro e t s1 W1 he hrun hret
            obtain ⟨h1, h2, _⟩ := hcode n (argF 0 args) (argT 0 args) s [] _ (argT_ok args 0) hrun
            unfold retOf at hret
            split at hret
            · rename_i xs hx
              have hret := Option.some.inj hret
              refine keepOr_ok (callE_fn hf hg.1 hb (Nat.le_of_ble_eq_true hg.2) (ew_mono h1 ?_)) (h2 s (.refl s)) hret
              rintro e F2 σ2 ⟨rfl, hF2, rfl⟩
              exact ⟨he, rfl, xs, evResL_ok hF2 hx, rfl⟩
            · cases hret
          split at h
          · rename_i t s1 W1 he; exact main _ _ _ _ (.inl rfl) he h
          · rename_i t s1 W1 he; exact main _ _ _ _ (.inr rfl) he h
          · cases h
end
end Go.Proofs.Ythdpacbjbdkemaa.Aw
end
section
namespace Go.Proofs.Ythdpacbjbdkemaa.Aw
set_option linter.unusedSimpArgs false
set_option linter.unusedVariables false
open Go Go.RowKit

end Go.Proofs.Ythdpacbjbdkemaa.Aw
end
section
namespace Go.Proofs.Ythdpacbjbdkemaa.Aw
set_option linter.unusedSimpArgs false
set_option linter.unusedVariables false
set_option linter.unusedSectionVars false
open Go Go.RowKit Go.Proofs
variable {P : Program} [IsP P]

def unIs : List AV → Option (List Int)
  | [] => some []
  | .s (.int .i64 n) :: l => match unIs l with
    | some r => some (n :: r)
    | none => none
  | _ :: _ => none
theorem unIs_of : ∀ {l : List AV} {r : List Int}, unIs l = some r → l = r.map eI
  | [], r, h => by cases h; rfl
  | x :: l, r, h => by
    unfold unIs at h
    split at h
    · rename_i e; cases e
    · rename_i n l' e
      cases e
      split at h
      · rename_i r' hr
        cases h
        rw [unIs_of hr]; rfl
      · cases h
    · cases h
def unT : AV → Option Tr
  | .agg [.s (.string b), .sl i, .sl o] => match unIs i, unIs o with
    | some i, some o => some ⟨b, i, o⟩
    | _, _ => none
  | _ => none
theorem unT_of {x : AV} {t : Tr} (h : unT x = some t) : x = eT t := by
  unfold unT at h
  split at h
  · split at h
    · rename_i i o h1 h2
      cases h
      rw [unIs_of h1, unIs_of h2]; rfl
    · cases h
  · cases h
def unTs : List AV → Option (List Tr)
  | [] => some []
  | x :: l => match unT x, unTs l with
    | some s, some r => some (s :: r)
    | _, _ => none
theorem unTs_of : ∀ {l : List AV} {r : List Tr}, unTs l = some r → l = r.map eT
  | [], r, h => by cases h; rfl
  | x :: l, r, h => by
    unfold unTs at h
    split at h
    · rename_i s r' h1 h2
      cases h
      rw [unT_of h1, unTs_of h2]; rfl
    · cases h
def unN : AV → Option Net
  | .agg [.s (.int .i64 p), .sl l, .s (.int .i64 a), .s (.int .i64 b)] => match unTs l with
    | some l => some ⟨p, l, a, b⟩
    | none => none
  | _ => none
theorem unN_of {x : AV} {n : Net} (h : unN x = some n) : x = eN n := by
  unfold unN at h
  split at h
  · split at h
    · rename_i l hl
      cases h
      rw [unTs_of hl]; rfl
    · cases h
  · cases h
def orcOne (f : Nat) (n : Net) : Option AV :=
  bif Nat.beq f 75 then some (.tup [eL eI (oneE n n.source).1, eI (oneE n n.source).2]) else
  bif Nat.beq f 76 then some (.tup [eL eI (oneE n n.sink).1, eI (oneE n n.sink).2]) else none
def orcSp : Orc := fun f args => match args with
  | [x] => match unN x with
    | some n => orcOne f n
    | none => none
  | [x, .sl m, .s (.int .i64 most)] => bif Nat.beq f 10 then match unN x, unIs m with
      | some n, some m => some (.tup [eSpc (explE n m most).1, eI (explE n m most).2])
      | _, _ => none
    else none
  | _ => none
theorem orcSp_ok : OrcOk P orcSp := by
  intro f args r h
  unfold orcSp at h
  split at h
  · rename_i x
    split at h
    · rename_i n hn
      unfold orcOne at h
      rw [unN_of hn]
      cases hb : Nat.beq f 75 with
      | true => rw [hb] at h; cases h; rw [Nat.eq_of_beq_eq_true hb]; exact initial_pf n
      | false =>
        rw [hb, cond_false] at h
        cases hb : Nat.beq f 76 with
        | true => rw [hb] at h; cases h; rw [Nat.eq_of_beq_eq_true hb]; exact final_pf n
        | false => rw [hb] at h; cases h
    · cases h
  · rename_i x m most
    cases hb : Nat.beq f 10 with
    | true =>
      rw [hb, cond_true] at h
      split at h
      · rename_i n m' h1 h2
        cases h
        rw [Nat.eq_of_beq_eq_true hb, unN_of h1, unIs_of h2]
        exact explore_pf n m' most
      · cases h
    | false => rw [hb] at h; cases h
  · cases h
def bA : ByteArray := ⟨#[97]⟩
def bB : ByteArray := ⟨#[98]⟩
def exN : Net := ⟨3, [⟨bA, [0], [1]⟩, ⟨⟨#[]⟩, [1], [0]⟩, ⟨bB, [1], [2]⟩], 0, 2⟩


end Go.Proofs.Ythdpacbjbdkemaa.Aw
end
section
namespace Go.Proofs.Ythdpacbjbdkemaa
set_option linter.unusedSimpArgs false
set_option linter.unusedVariables false
open Go.RowKit

theorem nodup_sub {α : Type} [BEq α] [LawfulBEq α] : ∀ {l m : List α}, l.Nodup → l ⊆ m → l.length ≤ m.length
  | [], m, _, _ => Nat.zero_le _
  | a :: l, m, h, hs => by
    rw [List.nodup_cons] at h
    have ha : a ∈ m := hs (List.mem_cons_self ..)
    have h1 : l ⊆ m.erase a := fun x hx => by
      have hne : x ≠ a := fun e => h.1 (e ▸ hx)
      exact (List.mem_erase_of_ne hne).2 (hs (List.mem_cons_of_mem _ hx))
    have h2 := nodup_sub h.2 h1
    rw [List.length_erase_of_mem ha] at h2
    have := List.length_pos_of_mem ha
    simp only [List.length_cons]
    omega
theorem nodup_len {L : List Int} {m : Int} (h : L.Nodup) (hr : ∀ p ∈ L, 0 ≤ p ∧ p < m) : (L.length : Int) ≤ m ∨ L = [] := by
  by_cases h0 : L = []
  · exact .inr h0
  · left
    have hm : 0 ≤ m := by
      obtain ⟨x, hx⟩ := List.exists_mem_of_ne_nil L h0
      have := hr x hx; omega
    have h1 : (L.map Int.toNat).Nodup := by
      rw [List.nodup_iff_pairwise_ne] at h ⊢
      rw [List.pairwise_map]
      refine List.Pairwise.imp_of_mem ?_ h
      intro a b ha hb hab e
      have := hr a ha; have := hr b hb
      omega
    have h2 : (L.map Int.toNat) ⊆ List.range m.toNat := by
      intro x hx
      obtain ⟨a, ha, rfl⟩ := List.mem_map.1 hx
      have := hr a ha
      rw [List.mem_range]
      omega
    have h3 := nodup_sub h1 h2
    rw [List.length_map, List.length_range] at h3
    omega
theorem gtiS {α : Type} [Inhabited α] {l : List α} {i j : Nat} {x : α} (hi : i < l.length) : gti (l.set i x) j = if i = j then x else gti l j := by
  unfold gti
  by_cases h : i = j
  · subst h; rw [List.getElem?_set_self hi, if_pos rfl]; rfl
  · rw [List.getElem?_set_ne h, if_neg h]
theorem gtiL {α : Type} [Inhabited α] {L t : List α} {j : Nat} (h : j < L.length) : gti (L ++ t) j = gti L j := by unfold gti; rw [List.getElem?_append_left h]
theorem gtiZ {α : Type} [Inhabited α] {L : List α} {x : α} : gti (L ++ [x]) L.length = x := by unfold gti; simp
abbrev QB := List Int × List Int
def bstep (mv : List Mvx) (v : Int) (s : QB) (k : Nat) : QB := if (gti mv k).fr = v ∧ (gti mv k).tt ≠ 0 ∧ gti s.2 (gti mv k).tt.toNat < 0 then (s.1 ++ [(gti mv k).tt], s.2.set (gti mv k).tt.toNat (k : Int)) else s
def brow (mv : List Mvx) (v : Int) (s : QB) (l : List Nat) : QB := l.foldl (bstep mv v) s
def bfs (mv : List Mvx) : Nat → Nat → QB → QB
  | 0, _, s => s
  | f + 1, i, s => if i < s.1.length then bfs mv f (i + 1) (brow mv (gti s.1 i) s (List.range mv.length)) else s
/-- the moves that leave a state -/
def ixs (mv : List Mvx) (v : Int) (n : Nat) : List Nat := (List.range n).filter (fun k => decide ((gti mv k).fr = v))
theorem brow_ixs (mv : List Mvx) (v : Int) : ∀ (n : Nat) (s : QB), brow mv v s (List.range n) = brow mv v s (ixs mv v n)
  | 0, s => rfl
  | n + 1, s => by
    unfold ixs
    rw [List.range_succ, List.filter_append]
    unfold brow
    rw [List.foldl_append, List.foldl_append]
    have := brow_ixs mv v n s
    unfold brow ixs at this
    rw [this]
    by_cases h : (gti mv n).fr = v
    · simp [h]
    · simp [h, bstep]
def outsL (mv : List Mvx) (v : Int) (n : Nat) : List Mvx := (ixs mv v n).map (gti mv)
theorem outsL_succ (mv : List Mvx) (v : Int) (n : Nat) : outsL mv v (n + 1) = outsL mv v n ++ if (gti mv n).fr = v then [gti mv n] else [] := by
  unfold outsL ixs
  rw [List.range_succ, List.filter_append, List.map_append]
  by_cases h : (gti mv n).fr = v
  · simp [h]
  · simp [h]
theorem ixs_len (mv : List Mvx) (v : Int) (n : Nat) : (ixs mv v n).length ≤ n := by
  unfold ixs
  exact Nat.le_trans (List.length_filter_le _ _) (by simp)
theorem outsL_len (mv : List Mvx) (v : Int) (n : Nat) : (outsL mv v n).length ≤ n := by
  unfold outsL; rw [List.length_map]; exact ixs_len mv v n
theorem ixs_mem {mv : List Mvx} {v : Int} {n k : Nat} (h : k ∈ ixs mv v n) : k < n ∧ (gti mv k).fr = v := by
  unfold ixs at h
  rw [List.mem_filter, List.mem_range] at h
  exact ⟨h.1, of_decide_eq_true h.2⟩
/-- what holds while the states are met -/
structure BI (mv : List Mvx) (n : Nat) (s : QB) : Prop where
  bl : s.2.length = n
  h0 : s.1[0]? = some 0
  rng : ∀ x ∈ s.1, 0 ≤ x ∧ x < (n : Int)
  nd : s.1.Nodup
  iff : ∀ v : Nat, v < n → (0 ≤ gti s.2 v ↔ (v : Int) ∈ s.1 ∧ v ≠ 0)
  par : ∀ p : Nat, 1 ≤ p → p < s.1.length → ∃ k : Nat, k < mv.length ∧ gti s.2 (gti s.1 p).toNat = k ∧ (gti mv k).tt = gti s.1 p ∧ ∃ p', p' < p ∧ gti s.1 p' = (gti mv k).fr
theorem BI.len {mv : List Mvx} {n : Nat} {s : QB} (h : BI mv n s) : 1 ≤ s.1.length ∧ s.1.length ≤ n := by
  have h1 := (List.getElem?_eq_some_iff.1 h.h0).1
  rcases nodup_len h.nd h.rng with h2 | h2
  · omega
  · rw [h2] at h1; simp at h1
theorem BI.at_ {mv : List Mvx} {n : Nat} {s : QB} (h : BI mv n s) {p : Nat} (hp : p < s.1.length) : 0 ≤ gti s.1 p ∧ gti s.1 p < (n : Int) := h.rng _ (gti_mem hp)
theorem BI.at0 {mv : List Mvx} {n : Nat} {s : QB} (h : BI mv n s) : gti s.1 0 = 0 := by unfold gti; rw [h.h0]; rfl
/-- what is met stays met -/
def BExt (s s' : QB) : Prop := (∃ t, s'.1 = s.1 ++ t) ∧ ∀ v, 0 ≤ gti s.2 v → gti s'.2 v = gti s.2 v
theorem BExt.refl (s : QB) : BExt s s := ⟨⟨[], by simp⟩, fun _ _ => rfl⟩
theorem BExt.trans {a b c : QB} (h : BExt a b) (k : BExt b c) : BExt a c := by
  obtain ⟨⟨t, h1⟩, h2⟩ := h
  obtain ⟨⟨u, k1⟩, k2⟩ := k
  exact ⟨⟨t ++ u, by rw [k1, h1, List.append_assoc]⟩, fun v hv => by rw [k2 v (by rw [h2 v hv]; exact hv), h2 v hv]⟩
theorem BI.step {mv : List Mvx} {n : Nat} {s : QB} (h : BI mv n s) {i k : Nat} (hi : i < s.1.length) (hk : k < mv.length) (hr : 0 ≤ (gti mv k).tt ∧ (gti mv k).tt < (n : Int)) : BI mv n (bstep mv (gti s.1 i) s k) ∧ BExt s (bstep mv (gti s.1 i) s k) := by
  unfold bstep
  split
  case isFalse => exact ⟨h, .refl _⟩
  rename_i hc
  obtain ⟨c1, c2, c3⟩ := hc
  generalize hm : gti mv k = m at c1 c2 c3 hr
  have htn : m.tt.toNat < n := by omega
  have hnot : m.tt ∉ s.1 := fun hm => by
    have := (h.iff m.tt.toNat htn).2 ⟨by rw [Int.toNat_of_nonneg hr.1]; exact hm, by omega⟩
    omega
  have hset : ∀ v, gti (s.2.set m.tt.toNat (k : Int)) v = if m.tt.toNat = v then (k : Int) else gti s.2 v := fun v => gtiS (by rw [h.bl]; exact htn)
  refine ⟨⟨by simp [h.bl], by rw [List.getElem?_append_left (List.getElem?_eq_some_iff.1 h.h0).1]; exact h.h0, ?_, ?_, ?_, ?_⟩, ⟨[m.tt], rfl⟩, fun v hv => ?_⟩
  · intro x hx
    rcases List.mem_append.1 hx with hx | hx
    · exact h.rng x hx
    · simp at hx; subst hx; exact hr
  · refine List.nodup_append.2 ⟨h.nd, by simp, fun a ha b hb e => ?_⟩
    simp at hb
    subst hb e
    exact hnot ha
  · intro v hv
    rw [hset]
    by_cases e : m.tt.toNat = v
    · subst e
      rw [if_pos rfl]
      refine ⟨fun _ => ⟨?_, by omega⟩, fun _ => by omega⟩
      rw [Int.toNat_of_nonneg hr.1]
      simp
    · rw [if_neg e, h.iff v hv]
      simp only [List.mem_append, List.mem_singleton]
      constructor
      · rintro ⟨g1, g2⟩; exact ⟨.inl g1, g2⟩
      · rintro ⟨g1 | g1, g2⟩
        · exact ⟨g1, g2⟩
        · omega
  · intro p hp1 hp2
    simp only [List.length_append, List.length_singleton] at hp2
    by_cases hp : p < s.1.length
    · obtain ⟨k', g1, g2, g3, p', g4, g5⟩ := h.par p hp1 hp
      have hne : ¬ m.tt.toNat = (gti s.1 p).toNat := fun e => hnot (by
        have := h.at_ hp
        have e2 : m.tt = gti s.1 p := by omega
        rw [e2]; exact gti_mem hp)
      refine ⟨k', g1, ?_, ?_, p', g4, ?_⟩
      · rw [gtiL hp, hset, if_neg hne, g2]
      · rw [gtiL hp, g3]
      · rw [gtiL (by omega), g5]
    · have e : p = s.1.length := by omega
      subst e
      refine ⟨k, hk, ?_, ?_, i, hi, ?_⟩
      · rw [gtiZ, hset, if_pos rfl]
      · rw [gtiZ, hm]
      · rw [gtiL hi, hm]; exact c1.symm
  · show gti (s.2.set m.tt.toNat (k : Int)) v = _
    rw [hset]
    by_cases e : m.tt.toNat = v
    · subst e; omega
    · rw [if_neg e]
theorem BExt.gti {s s' : QB} (h : BExt s s') {i : Nat} (hi : i < s.1.length) : gti s'.1 i = gti s.1 i ∧ i < s'.1.length := by
  obtain ⟨⟨t, h1⟩, _⟩ := h
  rw [h1]
  exact ⟨gtiL hi, by simp; omega⟩
theorem BI.row {mv : List Mvx} {n : Nat} (hmv : ∀ k, k < mv.length → 0 ≤ (gti mv k).tt ∧ (gti mv k).tt < (n : Int)) : ∀ (l : List Nat) {s : QB} (h : BI mv n s) {i : Nat} (hi : i < s.1.length) (hl : ∀ k ∈ l, k < mv.length), BI mv n (brow mv (gti s.1 i) s l) ∧ BExt s (brow mv (gti s.1 i) s l)
  | [], s, h, i, hi, _ => ⟨h, .refl _⟩
  | k :: l, s, h, i, hi, hl => by
    have hk := hl k List.mem_cons_self
    obtain ⟨h1, h2⟩ := h.step hi hk (hmv k hk)
    have h3 := h2.gti hi
    have := BI.row hmv l h1 h3.2 (fun k hk => hl k (List.mem_cons_of_mem _ hk))
    rw [h3.1] at this
    exact ⟨this.1, h2.trans this.2⟩
theorem BI.bfs {mv : List Mvx} {n : Nat} (hmv : ∀ k, k < mv.length → 0 ≤ (gti mv k).tt ∧ (gti mv k).tt < (n : Int)) : ∀ (f i : Nat) {s : QB} (h : BI mv n s), BI mv n (bfs mv f i s) ∧ BExt s (bfs mv f i s)
  | 0, i, s, h => ⟨h, .refl _⟩
  | f + 1, i, s, h => by
    unfold Go.Proofs.Ythdpacbjbdkemaa.bfs
    split
    · rename_i hi
      obtain ⟨h1, h2⟩ := h.row hmv _ hi (fun k hk => List.mem_range.1 hk)
      have := BI.bfs hmv f (i + 1) h1
      exact ⟨this.1, h2.trans this.2⟩
    · exact ⟨h, .refl _⟩
def bs0 (n : Nat) : QB := ([0], List.replicate n (-1))
theorem BI.init {mv : List Mvx} {n : Nat} (hn : 1 ≤ n) : BI mv n (bs0 n) := by
  refine ⟨by simp [bs0], rfl, fun x hx => by simp [bs0] at hx; omega, by simp [bs0], fun v hv => ?_, fun p h1 h2 => by simp [bs0] at h2; omega⟩
  have : gti (List.replicate n (-1 : Int)) v = -1 := by unfold gti; simp [hv]
  simp only [bs0, this]
  simp
/-! ## the way back -/
def backP (mv : List Mvx) (B : List Int) : Nat → Int → List Int
  | 0, _ => []
  | f + 1, tg => if tg = 0 then [] else (gti mv (gti B tg.toNat).toNat).sym :: backP mv B f (gti mv (gti B tg.toNat).toNat).fr
theorem backP_len (mv : List Mvx) (B : List Int) : ∀ (f : Nat) (tg : Int), (backP mv B f tg).length ≤ f
  | 0, tg => Nat.le_refl _
  | f + 1, tg => by
    unfold backP
    split
    · simp
    · simp only [List.length_cons]
      have := backP_len mv B f (gti mv (gti B tg.toNat).toNat).fr
      omega
/-- one step back -/
theorem BI.back {mv : List Mvx} {n : Nat} {s : QB} (h : BI mv n s) {p : Nat} (hp : p < s.1.length) (h0 : gti s.1 p ≠ 0) : ∃ k : Nat, k < mv.length ∧ gti s.2 (gti s.1 p).toNat = k ∧ ∃ p', p' < p ∧ gti s.1 p' = (gti mv k).fr := by
  have h1 : 1 ≤ p := by
    rcases Nat.eq_zero_or_pos p with rfl | h1
    · exact absurd h.at0 h0
    · exact h1
  obtain ⟨k, g1, g2, g3, g4⟩ := h.par p h1 hp
  exact ⟨k, g1, g2, g4⟩
/-- the way back is the same in all that is met later -/
theorem BI.backP {mv : List Mvx} {n : Nat} {s : QB} (h : BI mv n s) {s' : QB} (he : BExt s s') : ∀ (f f' p : Nat), p < s.1.length → p < f → p < f' → backP mv s'.2 f' (gti s.1 p) = backP mv s.2 f (gti s.1 p)
  | 0, f', p, _, hf, _ => by omega
  | f + 1, 0, p, _, _, hf => by omega
  | f + 1, f' + 1, p, hp, hf, hf' => by
    unfold Go.Proofs.Ythdpacbjbdkemaa.backP
    by_cases h0 : gti s.1 p = 0
    · rw [if_pos h0, if_pos h0]
    · rw [if_neg h0, if_neg h0]
      obtain ⟨k, g1, g2, p', g3, g4⟩ := h.back hp h0
      rw [he.2 _ (by omega), g2, Int.toNat_natCast, ← g4, BI.backP h he f f' p' (by omega) (by omega) (by omega)]
def formedB (s : Spc) : Bool := decide (1 ≤ s.st.length ∧ s.st.length ≤ 2000 ∧ s.mv.length ≤ 20000) && s.mv.all fun m => decide (0 ≤ m.fr ∧ m.fr < s.st.length ∧ 0 ≤ m.tt ∧ m.tt < s.st.length)
theorem formedB_iff {s : Spc} (h : formedB s = true) : (1 ≤ s.st.length ∧ s.st.length ≤ 2000 ∧ s.mv.length ≤ 20000) ∧ ∀ k, k < s.mv.length → 0 ≤ (gti s.mv k).fr ∧ (gti s.mv k).fr < s.st.length ∧ 0 ≤ (gti s.mv k).tt ∧ (gti s.mv k).tt < s.st.length := by
  unfold formedB at h
  rw [Bool.and_eq_true, decide_eq_true_eq, List.all_eq_true] at h
  exact ⟨h.1, fun k hk => of_decide_eq_true (h.2 _ (gti_mem hk))⟩
def bend (s : Spc) : QB := bfs s.mv s.st.length 0 (bs0 s.st.length)
def pathE (s : Spc) (tg : Int) : List Int × Int := if formedB s = true then (if tg < 0 ∨ (s.st.length : Int) ≤ tg then ([], 2) else if tg ≠ 0 ∧ gti (bend s).2 tg.toNat < 0 then ([], 10) else ((backP s.mv (bend s).2 s.st.length tg).reverse, 0)) else ([], 1)
theorem bfs_end {mv : List Mvx} {f i : Nat} {s : QB} (h : s.1.length ≤ i) : bfs mv f i s = s := by
  cases f with
  | zero => rfl
  | succ f => unfold bfs; rw [if_neg (by omega)]
theorem mem_pos {s : List Int} {x : Int} (h : x ∈ s) : ∃ p, p < s.length ∧ gti s p = x := by
  obtain ⟨p, h1, h2⟩ := mem_gti' h
  exact ⟨p, h1, h2⟩
/-- whether the state was met: its position -/
theorem BI.met {mv : List Mvx} {n : Nat} {s : QB} (h : BI mv n s) {tg : Int} (h0 : 0 ≤ tg) (hn : tg < n) (hm : tg = 0 ∨ 0 ≤ gti s.2 tg.toNat) : ∃ p, p < s.1.length ∧ gti s.1 p = tg := by
  rcases hm with rfl | hm
  · exact ⟨0, h.len.1, h.at0⟩
  · have := ((h.iff tg.toNat (by omega)).1 hm).1
    rw [Int.toNat_of_nonneg h0] at this
    exact mem_pos this
/-! ## the program's lists -/
def metL (B : List Int) : List Bool := (List.range B.length).map fun v => decide (v = 0 ∨ 0 ≤ gti B v)
def byL (mv : List Mvx) (B : List Int) : List Mvx := B.map fun k => if 0 ≤ k then gti mv k.toNat else ⟨0, 0, 0⟩
theorem metL_len (B : List Int) : (metL B).length = B.length := by simp [metL]
theorem metL_get {B : List Int} {v : Nat} (h : v < B.length) : (metL B)[v]? = some (decide (v = 0 ∨ 0 ≤ gti B v)) := by simp [metL, h]
theorem byL_get {mv : List Mvx} {B : List Int} {v : Nat} (h : v < B.length) : (byL mv B)[v]? = some (if 0 ≤ gti B v then gti mv (gti B v).toNat else ⟨0, 0, 0⟩) := by
  unfold byL
  rw [List.getElem?_map, gti_get h]; rfl
theorem metL_set {B : List Int} {t k : Nat} (h : t < B.length) : metL (B.set t (k : Int)) = (metL B).set t true := by
  refine List.ext_getElem? fun v => ?_
  by_cases hv : v < B.length
  · rw [metL_get (by simpa using hv), gtiS h]
    by_cases e : t = v
    · subst e
      rw [if_pos rfl, List.getElem?_set_self (by rw [metL_len]; exact h)]
      congr 1
      exact decide_eq_true (.inr (by omega))
    · rw [if_neg e, List.getElem?_set_ne e, metL_get hv]
  · rw [List.getElem?_eq_none (by rw [metL_len, List.length_set]; omega), List.getElem?_eq_none (by rw [List.length_set, metL_len]; omega)]
theorem byL_set {mv : List Mvx} {B : List Int} {t k : Nat} : byL mv (B.set t (k : Int)) = (byL mv B).set t (gti mv k) := by
  unfold byL
  rw [List.map_set]
  simp
end Go.Proofs.Ythdpacbjbdkemaa
end
section
namespace Go.Proofs.Ythdpacbjbdkemaa
set_option linter.unusedSimpArgs false
set_option linter.unusedVariables false
open Go.RowKit

def noB : ByteArray := ⟨#[]⟩
def labM (n : Net) (m : Mvx) : ByteArray := (gti n.trans m.sym.toNat).label
abbrev QS := List Int × List Bool
def cstep (n : Net) (mv : List Mvx) (s : QS) (k : Nat) : QS := if labM n (gti mv k) = noB ∧ gti s.2 (gti mv k).tt.toNat = false then (s.1 ++ [(gti mv k).tt], s.2.set (gti mv k).tt.toNat true) else s
def crow (n : Net) (mv : List Mvx) (s : QS) (l : List Nat) : QS := l.foldl (cstep n mv) s
def cfs (n : Net) (mv : List Mvx) : Nat → Nat → QS → QS
  | 0, _, s => s
  | f + 1, i, s => if i < s.1.length then cfs n mv f (i + 1) (crow n mv s (ixs mv (gti s.1 i) mv.length)) else s
def setQ (set : List Bool) (k : Nat) : List Int := ((List.range k).filter fun v => gti set v).map fun v : Nat => (v : Int)
theorem setQ_succ (set : List Bool) (k : Nat) : setQ set (k + 1) = setQ set k ++ if gti set k = true then [(k : Int)] else [] := by
  unfold setQ
  rw [List.range_succ, List.filter_append, List.map_append]
  by_cases h : gti set k = true
  · simp [h]
  · simp [h]
theorem setQ_len (set : List Bool) (k : Nat) : (setQ set k).length ≤ k := by
  unfold setQ
  rw [List.length_map]
  exact Nat.le_trans (List.length_filter_le _ _) (by simp)
def closeE (n : Net) (mv : List Mvx) (set : List Bool) : List Bool := (cfs n mv set.length 0 (setQ set set.length, set)).2
structure CI (N : Nat) (s : QS) : Prop where
  bl : s.2.length = N
  rng : ∀ x ∈ s.1, 0 ≤ x ∧ x < (N : Int)
  nd : s.1.Nodup
  iff : ∀ v : Nat, v < N → (gti s.2 v = true ↔ (v : Int) ∈ s.1)
theorem CI.len {N : Nat} {s : QS} (h : CI N s) : s.1.length ≤ N := by
  rcases nodup_len h.nd h.rng with h2 | h2
  · omega
  · rw [h2]; simp
theorem CI.at_ {N : Nat} {s : QS} (h : CI N s) {p : Nat} (hp : p < s.1.length) : 0 ≤ gti s.1 p ∧ gti s.1 p < (N : Int) := h.rng _ (gti_mem hp)
theorem CI.init (set : List Bool) : CI set.length (setQ set set.length, set) := by
  refine ⟨rfl, fun x hx => ?_, ?_, fun v hv => ?_⟩
  · simp only [setQ, List.mem_map, List.mem_filter, List.mem_range] at hx
    obtain ⟨v, ⟨h1, _⟩, rfl⟩ := hx
    omega
  · unfold setQ
    have h1 : ((List.range set.length).filter fun v => gti set v).Nodup := List.Pairwise.filter _ List.nodup_range
    rw [List.nodup_iff_pairwise_ne, List.pairwise_map]
    refine List.Pairwise.imp ?_ (List.nodup_iff_pairwise_ne.1 h1)
    intro a b hab e
    exact hab (by omega)
  · simp only [setQ, List.mem_map, List.mem_filter, List.mem_range]
    constructor
    · intro h; exact ⟨v, ⟨hv, h⟩, rfl⟩
    · rintro ⟨u, ⟨_, h⟩, e⟩
      have : u = v := by omega
      rwa [this] at h
theorem CI.step {N : Nat} {s : QS} (h : CI N s) {n : Net} {mv : List Mvx} {k : Nat} (hr : 0 ≤ (gti mv k).tt ∧ (gti mv k).tt < (N : Int)) : CI N (cstep n mv s k) ∧ ∃ t, (cstep n mv s k).1 = s.1 ++ t := by
  unfold cstep
  split
  case isFalse => exact ⟨h, [], by simp⟩
  rename_i hc
  obtain ⟨c1, c2⟩ := hc
  generalize hm : gti mv k = m at c1 c2 hr
  have htn : m.tt.toNat < N := by omega
  have hnot : m.tt ∉ s.1 := fun hm => by
    have := (h.iff m.tt.toNat htn).2 (by rw [Int.toNat_of_nonneg hr.1]; exact hm)
    rw [c2] at this; cases this
  refine ⟨⟨by simp [h.bl], ?_, ?_, ?_⟩, [m.tt], rfl⟩
  · intro x hx
    rcases List.mem_append.1 hx with hx | hx
    · exact h.rng x hx
    · simp at hx; subst hx; exact hr
  · refine List.nodup_append.2 ⟨h.nd, by simp, fun a ha b hb e => ?_⟩
    simp at hb
    subst hb e
    exact hnot ha
  · intro v hv
    show gti (s.2.set m.tt.toNat true) v = true ↔ _
    rw [gtiS (by rw [h.bl]; exact htn)]
    by_cases e : m.tt.toNat = v
    · subst e
      rw [if_pos rfl, Int.toNat_of_nonneg hr.1]
      simp
    · rw [if_neg e, h.iff v hv]
      simp only [List.mem_append, List.mem_singleton]
      constructor
      · intro g; exact .inl g
      · rintro (g | g)
        · exact g
        · omega
/-- the moves of a space are moves of the net between its states -/
def MvOk (n : Net) (s : Spc) : Prop := ∀ k, k < s.mv.length → 0 ≤ (gti s.mv k).fr ∧ (gti s.mv k).fr < s.st.length ∧ 0 ≤ (gti s.mv k).tt ∧ (gti s.mv k).tt < s.st.length ∧ 0 ≤ (gti s.mv k).sym ∧ (gti s.mv k).sym < n.trans.length
def startE (n : Net) (s : Spc) : List Bool := closeE n s.mv ((List.replicate s.st.length false).set 0 true)
/-- the states to which an activity leads -/
def hitE (n : Net) (mv : List Mvx) (act : ByteArray) (l : List Nat) (nx : List Bool) : List Bool := l.foldl (fun nx k => if labM n (gti mv k) = act then nx.set (gti mv k).tt.toNat true else nx) nx
def nextE (n : Net) (mv : List Mvx) (act : ByteArray) (set : List Bool) : Nat → List Bool
  | 0 => List.replicate set.length false
  | v + 1 => if gti set v = true then hitE n mv act (ixs mv v mv.length) (nextE n mv act set v) else nextE n mv act set v
def stepE (n : Net) (mv : List Mvx) (act : ByteArray) (set : List Bool) : List Bool := closeE n mv (nextE n mv act set set.length)
theorem hitE_len (n : Net) (mv : List Mvx) (act : ByteArray) : ∀ (l : List Nat) (nx : List Bool), (hitE n mv act l nx).length = nx.length
  | [], nx => rfl
  | k :: l, nx => by
    unfold hitE
    rw [List.foldl_cons]
    have := hitE_len n mv act l (if labM n (gti mv k) = act then nx.set (gti mv k).tt.toNat true else nx)
    unfold hitE at this
    rw [this]
    split <;> simp
theorem nextE_len (n : Net) (mv : List Mvx) (act : ByteArray) (set : List Bool) : ∀ k, (nextE n mv act set k).length = set.length
  | 0 => by simp [nextE]
  | k + 1 => by
    unfold nextE
    split
    · rw [hitE_len, nextE_len n mv act set k]
    · exact nextE_len n mv act set k
theorem crow_CI {N : Nat} {n : Net} {mv : List Mvx} (hmv : ∀ k, k < mv.length → 0 ≤ (gti mv k).tt ∧ (gti mv k).tt < (N : Int)) : ∀ (l : List Nat) {s : QS}, CI N s → (∀ k ∈ l, k < mv.length) → CI N (crow n mv s l)
  | [], s, h, _ => h
  | k :: l, s, h, hl => crow_CI hmv l (h.step (hmv k (hl k List.mem_cons_self))).1 (fun k hk => hl k (List.mem_cons_of_mem _ hk))
theorem cfs_CI {N : Nat} {n : Net} {mv : List Mvx} (hmv : ∀ k, k < mv.length → 0 ≤ (gti mv k).tt ∧ (gti mv k).tt < (N : Int)) : ∀ (f i : Nat) {s : QS}, CI N s → CI N (cfs n mv f i s)
  | 0, i, s, h => h
  | f + 1, i, s, h => by
    unfold cfs
    split
    · exact cfs_CI hmv f (i + 1) (crow_CI hmv _ h (fun k hk => (ixs_mem hk).1))
    · exact h
theorem closeE_len {N : Nat} {n : Net} {mv : List Mvx} (hmv : ∀ k, k < mv.length → 0 ≤ (gti mv k).tt ∧ (gti mv k).tt < (N : Int)) {set : List Bool} (h : set.length = N) : (closeE n mv set).length = N := by
  subst h
  exact (cfs_CI hmv _ _ (CI.init set)).bl
theorem cfs_end {n : Net} {mv : List Mvx} {f i : Nat} {s : QS} (h : s.1.length ≤ i) : cfs n mv f i s = s := by
  cases f with
  | zero => rfl
  | succ f => unfold cfs; rw [if_neg (by omega)]
end Go.Proofs.Ythdpacbjbdkemaa
end
section
namespace Go.Proofs.Ythdpacbjbdkemaa.Aw
set_option linter.unusedSimpArgs false
set_option linter.unusedVariables false
set_option linter.unusedSectionVars false
open Go Go.RowKit Go.Proofs
variable {P : Program} [IsP P]

theorem eq_of_gti {a b : List Int} (hl : a.length = b.length) (h : ∀ j, j < a.length → gti a j = gti b j) : a = b := by
  refine List.ext_getElem? fun j => ?_
  by_cases hj : j < a.length
  · rw [gti_get hj, gti_get (by omega), h j hj]
  · rw [List.getElem?_eq_none (by omega), List.getElem?_eq_none (by omega)]
theorem sameM_pf (a b : List Int) : Pure P 38 [eL eI a, eL eI b] (eB (decide (a = b))) := by
  refine aw_fn (by rw [IsP.eq (P := P)]; exact Try.func38) rfl rfl rfl rfl rfl (by repeat' (first | exact Lo.s _ | exact Lo.emp | exact Lo.any | exact lo_nil | exact lo_nilE | refine lo_cons ?_ ?_ | refine lo_consE ?_ ?_ | refine lo_map ?_ | refine lo_mapE ?_ | refine Lo.cells ?_ | refine Lo.agg _ ?_ | refine Lo.ref _ ?_ | refine Lo.tup _ ?_ | refine Lo.fn _ _ ?_ | refine Lo.sl _ ?_ | intro _)) (by repeat' (first | exact Lo.s _ | exact Lo.emp | exact Lo.any | exact lo_nil | exact lo_nilE | refine lo_cons ?_ ?_ | refine lo_consE ?_ ?_ | refine lo_map ?_ | refine lo_mapE ?_ | refine Lo.cells ?_ | refine Lo.agg _ ?_ | refine Lo.ref _ ?_ | refine Lo.tup _ ?_ | refine Lo.fn _ _ ?_ | refine Lo.sl _ ?_ | intro _)) (by simp only [argF]; rfl) ?_
  repeat (first | refine aw_seq ?_ | refine ath_n ?_ | refine aw_skip ?_ | refine abl_n ?_ | refine aw_block ?_)
  refine aw_bdm (d := 0) rfl (fun hmx => ?_)
  unfold maxLen at hmx
  refine aw_region ?_
  refine ops_op rfl rfl (runs_none rfl) (mv_s (.inr rfl) rfl) ?_
  refine ops_nil ?_
  repeat (first | refine aw_seq ?_ | refine ath_n ?_ | refine aw_skip ?_ | refine abl_n ?_ | refine aw_block ?_)
  all_goals refine aw_region ?_
  all_goals (first | refine ops_op rfl rfl (runs_none rfl) (mv_own (.inl rfl) rfl) ?_ | refine ops_op rfl rfl (runs_none rfl) (mv_sl (.inl rfl) rfl) ?_ | refine ops_op rfl rfl (runs_none rfl) (mv_s (.inl rfl) rfl) ?_ | refine ops_op rfl rfl (runs_none rfl) (mv_emp (.inl rfl) rfl) ?_)
  all_goals (first | refine ops_op rfl rfl (runs_none rfl) (does_len_map rfl ts25 rfl) ?_ | refine ops_op rfl rfl (runs_none rfl) (does_len_sl rfl ts25 rfl) ?_ | refine ops_op rfl rfl (runs_none rfl) (does_len_own rfl ts25 rfl) ?_ | refine ops_op rfl rfl (runs_none rfl) (does_len_s rfl ts25 rfl) ?_ | refine ops_op rfl rfl (runs_none rfl) (does_len_emp rfl ts25 rfl) ?_)
  all_goals (first | refine ops_op rfl rfl (runs_none rfl) (mv_own (.inl rfl) rfl) ?_ | refine ops_op rfl rfl (runs_none rfl) (mv_sl (.inl rfl) rfl) ?_ | refine ops_op rfl rfl (runs_none rfl) (mv_s (.inl rfl) rfl) ?_ | refine ops_op rfl rfl (runs_none rfl) (mv_emp (.inl rfl) rfl) ?_)
  all_goals (first | refine ops_op rfl rfl (runs_none rfl) (does_len_map rfl ts25 rfl) ?_ | refine ops_op rfl rfl (runs_none rfl) (does_len_sl rfl ts25 rfl) ?_ | refine ops_op rfl rfl (runs_none rfl) (does_len_own rfl ts25 rfl) ?_ | refine ops_op rfl rfl (runs_none rfl) (does_len_s rfl ts25 rfl) ?_ | refine ops_op rfl rfl (runs_none rfl) (does_len_emp rfl ts25 rfl) ?_)
  all_goals (first | refine ops_opP rfl rfl (runs_none rfl) (does_neq rfl rfl rfl) (fun h10 => ?_) (fun h10 => ?_) | refine ops_opB rfl rfl (runs_none rfl) (does_neq rfl rfl rfl) (fun h10 => ?_) (fun h10 => ?_))
  all_goals refine ops_nil ?_
  all_goals (repeat (first | refine aw_seq ?_ | refine ath_n ?_ | refine aw_skip ?_ | refine abl_n ?_ | refine aw_block ?_))
  all_goals (first | refine aw_true rfl ?_ | refine aw_false rfl ?_)
  all_goals (repeat (first | refine aw_seq ?_ | refine ath_n ?_ | refine aw_skip ?_ | refine abl_n ?_ | refine aw_block ?_))
  · skip
    refine aw_region ?_
    refine ops_op rfl rfl (runs_none rfl) (mv_s (.inr rfl) rfl) ?_
    refine ops_nil ?_
    repeat (first | refine aw_seq ?_ | refine ath_n ?_ | refine aw_skip ?_ | refine abl_n ?_ | refine aw_block ?_)
    (refine aw_ret ?_; repeat (first | refine ath_r ?_ | refine abl_r ?_))
    exact post1 (.inr rfl) rfl (congrArg eB (decide_eq_false (fun e => by subst e; exact h10 rfl)).symm)
  have hl : a.length = b.length := by omega
  refine aw_region ?_
  refine ops_op rfl rfl (runs_none rfl) (mv_s (.inr rfl) rfl) ?_
  refine ops_nil ?_
  repeat (first | refine aw_seq ?_ | refine ath_n ?_ | refine aw_skip ?_ | refine abl_n ?_ | refine aw_block ?_)
  refine aw_loops (S := Nat) (fun k => [(0, eL eI a), (1, eL eI b), (5, eI k)]) (fun _ => []) (fun k => k ≤ a.length ∧ ∀ j, j < k → gti a j = gti b j) (fun k => a.length - k) 0 (wk_sub _ ⟨rfl, rfl, rfl, trivial⟩) ⟨Nat.zero_le _, fun j hj => by omega⟩ (fun k hk => ?_)
  obtain ⟨hk, hall⟩ := hk
  repeat (first | refine aw_seq ?_ | refine ath_n ?_ | refine aw_skip ?_ | refine abl_n ?_ | refine aw_block ?_)
  all_goals refine aw_region ?_
  all_goals refine ops_op rfl rfl (runs_none rfl) (mv_s (.inl rfl) rfl) ?_
  all_goals (first | refine ops_op rfl rfl (runs_none rfl) (mv_own (.inl rfl) rfl) ?_ | refine ops_op rfl rfl (runs_none rfl) (mv_sl (.inl rfl) rfl) ?_ | refine ops_op rfl rfl (runs_none rfl) (mv_s (.inl rfl) rfl) ?_ | refine ops_op rfl rfl (runs_none rfl) (mv_emp (.inl rfl) rfl) ?_)
  all_goals (first | refine ops_op rfl rfl (runs_none rfl) (does_len_map rfl ts25 rfl) ?_ | refine ops_op rfl rfl (runs_none rfl) (does_len_sl rfl ts25 rfl) ?_ | refine ops_op rfl rfl (runs_none rfl) (does_len_own rfl ts25 rfl) ?_ | refine ops_op rfl rfl (runs_none rfl) (does_len_s rfl ts25 rfl) ?_ | refine ops_op rfl rfl (runs_none rfl) (does_len_emp rfl ts25 rfl) ?_)
  all_goals (first | refine ops_opP rfl rfl (runs_none rfl) (does_lss rfl rfl rfl) (fun h14 => ?_) (fun h14 => ?_) | refine ops_opB rfl rfl (runs_none rfl) (does_lss rfl rfl rfl) (fun h14 => ?_) (fun h14 => ?_))
  all_goals refine ops_nil ?_
  all_goals (repeat (first | refine aw_seq ?_ | refine ath_n ?_ | refine aw_skip ?_ | refine abl_n ?_ | refine aw_block ?_))
  all_goals (first | refine aw_true rfl ?_ | refine aw_false rfl ?_)
  all_goals (repeat (first | refine aw_seq ?_ | refine ath_n ?_ | refine aw_skip ?_ | refine abl_n ?_ | refine aw_block ?_))
  · have hlt : k < a.length := by omega
    all_goals refine aw_draw hmix ?_
    all_goals refine adraw_quiet (by kernel_rfl) ?_
    all_goals (first | refine qx_op rfl rfl (runs_none rfl) (mv_own (.inl rfl) rfl) ?_ | refine qx_op rfl rfl (runs_none rfl) (mv_sl (.inl rfl) rfl) ?_ | refine qx_op rfl rfl (runs_none rfl) (mv_s (.inl rfl) rfl) ?_ | refine qx_op rfl rfl (runs_none rfl) (mv_emp (.inl rfl) rfl) ?_)
    all_goals refine qx_op rfl rfl (runs_none rfl) (mv_s (.inl rfl) rfl) ?_
    all_goals (first | refine qx_op rfl rfl (runs_none rfl) (does_index_sl rfl ts25 ti3 rfl rfl rfl (ix_map (by omega)) rfl) ?_ | refine qx_op rfl rfl (runs_none rfl) (does_index_own rfl ts25 ti3 rfl rfl rfl (by omega)) ?_)
    all_goals (first | refine qx_op rfl rfl (runs_none rfl) (does_load_ref rfl ta3 rfl) ?_ | refine qx_op rfl rfl (runs_none rfl) (does_load_ptr rfl ta3 rfl rfl rfl rfl rfl) ?_)
    all_goals (first | refine qx_op rfl rfl (runs_none rfl) (mv_own (.inl rfl) rfl) ?_ | refine qx_op rfl rfl (runs_none rfl) (mv_sl (.inl rfl) rfl) ?_ | refine qx_op rfl rfl (runs_none rfl) (mv_s (.inl rfl) rfl) ?_ | refine qx_op rfl rfl (runs_none rfl) (mv_emp (.inl rfl) rfl) ?_)
    all_goals refine qx_op rfl rfl (runs_none rfl) (mv_s (.inl rfl) rfl) ?_
    all_goals (first | refine qx_op rfl rfl (runs_none rfl) (does_index_sl rfl ts25 ti3 rfl rfl rfl (ix_map (by omega)) rfl) ?_ | refine qx_op rfl rfl (runs_none rfl) (does_index_own rfl ts25 ti3 rfl rfl rfl (by omega)) ?_)
    all_goals (first | refine qx_op rfl rfl (runs_none rfl) (does_load_ref rfl ta3 rfl) ?_ | refine qx_op rfl rfl (runs_none rfl) (does_load_ptr rfl ta3 rfl rfl rfl rfl rfl) ?_)
    all_goals (first | refine qx_opP rfl rfl (runs_none rfl) (does_neq rfl rfl rfl) (fun h25 => ?_) (fun h25 => ?_) | refine qx_opB rfl rfl (runs_none rfl) (does_neq rfl rfl rfl) (fun h25 => ?_) (fun h25 => ?_))
    all_goals refine qx_nil ?_
    all_goals (repeat (first | refine aw_seq ?_ | refine ath_n ?_ | refine aw_skip ?_ | refine abl_n ?_ | refine aw_block ?_))
    all_goals (first | refine aw_true rfl ?_ | refine aw_false rfl ?_)
    all_goals (repeat (first | refine aw_seq ?_ | refine ath_n ?_ | refine aw_skip ?_ | refine abl_n ?_ | refine aw_block ?_))
    · skip
      refine aw_region ?_
      refine ops_op rfl rfl (runs_none rfl) (mv_s (.inr rfl) rfl) ?_
      refine ops_nil ?_
      repeat (first | refine aw_seq ?_ | refine ath_n ?_ | refine aw_skip ?_ | refine abl_n ?_ | refine aw_block ?_)
      (refine aw_ret ?_; repeat (first | refine ath_r ?_ | refine abl_r ?_))
      exact post1 (.inr rfl) rfl (congrArg eB (decide_eq_false (fun e => by subst e; exact h25 rfl)).symm)
    · skip
      refine aw_region ?_
      refine ops_op rfl rfl (runs_none rfl) (mv_s (.inl rfl) rfl) ?_
      refine ops_op rfl rfl (runs_none rfl) (does_add rfl rfl rfl (IntWalk.i64_in _ (by omega))) ?_
      refine ops_op rfl rfl (runs_none rfl) (mv_s (.inr rfl) rfl) ?_
      refine ops_nil ?_
      repeat (first | refine aw_seq ?_ | refine ath_n ?_ | refine aw_skip ?_ | refine abl_n ?_ | refine aw_block ?_)
      refine ⟨k + 1, ⟨by omega, fun j hj => ?_⟩, by omega, wk_sub _ ⟨rfl, rfl, rfl, trivial⟩⟩
      by_cases e : j = k
      · subst e; exact Classical.byContradiction fun h => h25 h
      · exact hall j (by omega)
  · have e : k = a.length := by omega
    subst e
    (refine aw_exit ?_; repeat (first | refine ath_x ?_ | refine abl_hit ?_ | refine abl_miss rfl ?_ | refine abl_n ?_ | refine ath_n ?_ | refine aw_seq ?_ | refine aw_skip ?_ | refine aw_block ?_))
    refine aw_region ?_
    refine ops_op rfl rfl (runs_none rfl) (mv_s (.inr rfl) rfl) ?_
    refine ops_nil ?_
    repeat (first | refine aw_seq ?_ | refine ath_n ?_ | refine aw_skip ?_ | refine abl_n ?_ | refine aw_block ?_)
    (refine aw_ret ?_; repeat (first | refine ath_r ?_ | refine abl_r ?_))
    exact post1 (.inr rfl) rfl (congrArg eB (decide_eq_true (eq_of_gti hl hall)).symm)
theorem rowI_lo (l : List Int) : ∀ e ∈ l.map eI, ∀ c ∈ e.cells, Lo 0 c := by
  intro e he c hc
  obtain ⟨x, _, rfl⟩ := List.mem_map.1 he
  simp [eI, AV.cells] at hc; subst hc; exact .s _
end Go.Proofs.Ythdpacbjbdkemaa.Aw
end
section
namespace Go.Proofs.Ythdpacbjbdkemaa.Aw
set_option linter.unusedSimpArgs false
set_option linter.unusedVariables false
set_option linter.unusedSectionVars false
open Go Go.RowKit Go.Proofs
variable {P : Program} [IsP P]

end Go.Proofs.Ythdpacbjbdkemaa.Aw
end
section
namespace Go.Proofs.Ythdpacbjbdkemaa.Aw
set_option linter.unusedSimpArgs false
set_option linter.unusedVariables false
set_option linter.unusedSectionVars false
open Go Go.RowKit Go.Proofs
variable {P : Program} [IsP P]

instance : DecidableEq Mvx := fun a b => decidable_of_iff (a.fr = b.fr ∧ a.tt = b.tt ∧ a.sym = b.sym) ⟨fun h => by cases a; cases b; simp_all, fun h => by subst h; exact ⟨rfl, rfl, rfl⟩⟩
theorem cl_t {p : Prop} (h : @decide p (Classical.propDecidable p) = true) : p := @of_decide_eq_true p (Classical.propDecidable p) h
theorem cl_f {p : Prop} (h : @decide p (Classical.propDecidable p) = false) : ¬ p := @of_decide_eq_false p (Classical.propDecidable p) h
theorem mv_iff {a b : Mvx} : [Value.int .i64 a.fr, Value.int .i64 a.tt, Value.int .i64 a.sym] = [Value.int .i64 b.fr, Value.int .i64 b.tt, Value.int .i64 b.sym] ↔ a = b := by
  cases a; cases b; simp
theorem mv_neT {a b : Mvx} (h : @decide ([Value.int .i64 a.fr, Value.int .i64 a.tt, Value.int .i64 a.sym] ≠ [Value.int .i64 b.fr, Value.int .i64 b.tt, Value.int .i64 b.sym]) (Classical.propDecidable _) = true) : a ≠ b := fun g => cl_t h (mv_iff.2 g)
theorem mv_neF {a b : Mvx} (h : @decide ([Value.int .i64 a.fr, Value.int .i64 a.tt, Value.int .i64 a.sym] ≠ [Value.int .i64 b.fr, Value.int .i64 b.tt, Value.int .i64 b.sym]) (Classical.propDecidable _) = false) : a = b := mv_iff.1 (Classical.not_not.1 (cl_f h))
theorem ext_gti {α : Type} [Inhabited α] {a b : List α} (hl : a.length = b.length) (h : ∀ j, j < a.length → gti a j = gti b j) : a = b := by
  refine List.ext_getElem? fun j => ?_
  by_cases hj : j < a.length
  · rw [gti_get hj, gti_get (by omega), h j hj]
  · rw [List.getElem?_eq_none (by omega), List.getElem?_eq_none (by omega)]
def sameSp (a b : Spc) : Bool := decide (a.full = b.full) && (decide (a.mv = b.mv) && decide (a.st = b.st))
theorem sameSp_iff {a b : Spc} : sameSp a b = true ↔ a = b := by
  unfold sameSp
  simp only [Bool.and_eq_true, decide_eq_true_eq]
  cases a; cases b; simp only [Spc.mk.injEq]
  exact ⟨fun ⟨h1, h2, h3⟩ => ⟨h3, h2, h1⟩, fun ⟨h1, h2, h3⟩ => ⟨h3, h2, h1⟩⟩
theorem same_no {a b : Spc} (h : a ≠ b) : sameSp a b = false := by
  cases e : sameSp a b with
  | false => rfl
  | true => exact absurd (sameSp_iff.1 e) h
set_option maxHeartbeats 2000000 in
theorem rSame_pf (a b : Spc) : Pure P 12 [eSpc a, eSpc b] (eB (sameSp a b)) := by
  have hla : Lo 0 (.ref (eSpc a).cells) := .ref _ (lo_Spc a).cells
  have hlb : Lo 0 (.ref (eSpc b).cells) := .ref _ (lo_Spc b).cells
  refine aw_fn (by rw [IsP.eq (P := P)]; exact Try.func12) rfl rfl rfl rfl rfl (lo_cons (lo_Spc a) (lo_cons (lo_Spc b) lo_nil)) (.s _) (by simp only [argF]; rfl) ?_
  repeat (first | refine aw_seq ?_ | refine ath_n ?_ | refine aw_skip ?_ | refine abl_n ?_ | refine aw_block ?_)
  refine aw_region ?_
  refine ops_op rfl rfl (runs_none rfl) (does_box rfl rfl rfl rfl) ?_
  refine aops_weak (wk_froz (id := 0) rfl) (aops_weak (wk_ref (d := 2) rfl rfl rfl) ?_)
  refine ops_op rfl rfl (runs_none rfl) (does_box rfl rfl rfl rfl) ?_
  refine aops_weak (wk_froz (id := 1) rfl) (aops_weak (wk_ref (d := 3) rfl rfl rfl) ?_)
  refine ops_op rfl rfl (runs_none rfl) (mv_s (.inr rfl) rfl) ?_
  refine ops_nil ?_
  repeat (first | refine aw_seq ?_ | refine ath_n ?_ | refine aw_skip ?_ | refine abl_n ?_ | refine aw_block ?_)
  all_goals refine aw_region ?_
  all_goals (first | refine ops_op rfl rfl (runs_none rfl) (does_fieldAddr_ptr rfl tf29_2 (by decide) rfl) ?_ | refine ops_op rfl rfl (runs_none rfl) (does_fieldAddr_ref rfl tf29_2 (by decide) rfl) ?_)
  all_goals (first | refine ops_op rfl rfl (runs_none rfl) (does_load_ref rfl ta4 rfl) ?_ | refine ops_op rfl rfl (runs_none rfl) (does_load_ptr rfl ta4 rfl rfl rfl rfl rfl) ?_)
  all_goals (first | refine ops_op rfl rfl (runs_none rfl) (does_fieldAddr_ptr rfl tf29_2 (by decide) rfl) ?_ | refine ops_op rfl rfl (runs_none rfl) (does_fieldAddr_ref rfl tf29_2 (by decide) rfl) ?_)
  all_goals (first | refine ops_op rfl rfl (runs_none rfl) (does_load_ref rfl ta4 rfl) ?_ | refine ops_op rfl rfl (runs_none rfl) (does_load_ptr rfl ta4 rfl rfl rfl rfl rfl) ?_)
  all_goals (first | refine ops_opP rfl rfl (runs_none rfl) (does_neqb (by rw [IsP.eq (P := P)]; kernel_rfl) rfl rfl rfl) (fun h11 => ?_) (fun h11 => ?_) | refine ops_opB rfl rfl (runs_none rfl) (does_neqb (by rw [IsP.eq (P := P)]; kernel_rfl) rfl rfl rfl) (fun h11 => ?_) (fun h11 => ?_))
  all_goals refine ops_op rfl rfl (runs_none rfl) (mv_s (.inl rfl) rfl) ?_
  all_goals (first | refine ops_op rfl rfl (runs_y rfl rfl rfl) (does_fieldAddr_ptr rfl tf29_0 (by decide) rfl) ?_ | refine ops_op rfl rfl (runs_y rfl rfl rfl) (does_fieldAddr_ref rfl tf29_0 (by decide) rfl) ?_ | refine ops_skip rfl rfl (runs_nf rfl rfl rfl) ?_ | refine ops_skip rfl rfl (runs_nu rfl rfl rfl) ?_)
  all_goals (first | refine ops_op rfl rfl (runs_y rfl rfl rfl) (does_load_ref rfl ta26 rfl) ?_ | refine ops_op rfl rfl (runs_y rfl rfl rfl) (does_load_ptr rfl ta26 rfl rfl rfl rfl rfl) ?_ | refine ops_skip rfl rfl (runs_nf rfl rfl rfl) ?_ | refine ops_skip rfl rfl (runs_nu rfl rfl rfl) ?_)
  all_goals (first | refine ops_op rfl rfl (runs_y rfl rfl rfl) (does_len_map rfl ts26 rfl) ?_ | refine ops_op rfl rfl (runs_y rfl rfl rfl) (does_len_sl rfl ts26 rfl) ?_ | refine ops_op rfl rfl (runs_y rfl rfl rfl) (does_len_own rfl ts26 rfl) ?_ | refine ops_op rfl rfl (runs_y rfl rfl rfl) (does_len_s rfl ts26 rfl) ?_ | refine ops_op rfl rfl (runs_y rfl rfl rfl) (does_len_emp rfl ts26 rfl) ?_ | refine ops_skip rfl rfl (runs_nf rfl rfl rfl) ?_ | refine ops_skip rfl rfl (runs_nu rfl rfl rfl) ?_)
  all_goals (first | refine ops_op rfl rfl (runs_y rfl rfl rfl) (does_fieldAddr_ptr rfl tf29_0 (by decide) rfl) ?_ | refine ops_op rfl rfl (runs_y rfl rfl rfl) (does_fieldAddr_ref rfl tf29_0 (by decide) rfl) ?_ | refine ops_skip rfl rfl (runs_nf rfl rfl rfl) ?_ | refine ops_skip rfl rfl (runs_nu rfl rfl rfl) ?_)
  all_goals (first | refine ops_op rfl rfl (runs_y rfl rfl rfl) (does_load_ref rfl ta26 rfl) ?_ | refine ops_op rfl rfl (runs_y rfl rfl rfl) (does_load_ptr rfl ta26 rfl rfl rfl rfl rfl) ?_ | refine ops_skip rfl rfl (runs_nf rfl rfl rfl) ?_ | refine ops_skip rfl rfl (runs_nu rfl rfl rfl) ?_)
  all_goals (first | refine ops_op rfl rfl (runs_y rfl rfl rfl) (does_len_map rfl ts26 rfl) ?_ | refine ops_op rfl rfl (runs_y rfl rfl rfl) (does_len_sl rfl ts26 rfl) ?_ | refine ops_op rfl rfl (runs_y rfl rfl rfl) (does_len_own rfl ts26 rfl) ?_ | refine ops_op rfl rfl (runs_y rfl rfl rfl) (does_len_s rfl ts26 rfl) ?_ | refine ops_op rfl rfl (runs_y rfl rfl rfl) (does_len_emp rfl ts26 rfl) ?_ | refine ops_skip rfl rfl (runs_nf rfl rfl rfl) ?_ | refine ops_skip rfl rfl (runs_nu rfl rfl rfl) ?_)
  all_goals (first | refine ops_opP rfl rfl (runs_y rfl rfl rfl) (does_neq rfl rfl rfl) (fun h19 => ?_) (fun h19 => ?_) | refine ops_opB rfl rfl (runs_y rfl rfl rfl) (does_neq rfl rfl rfl) (fun h19 => ?_) (fun h19 => ?_) | refine ops_skip rfl rfl (runs_nf rfl rfl rfl) ?_ | refine ops_skip rfl rfl (runs_nu rfl rfl rfl) ?_)
  all_goals (first | refine ops_op rfl rfl (runs_none rfl) (pickT_s rfl rfl rfl) ?_ | refine ops_op rfl rfl (runs_none rfl) (pickF_s rfl rfl rfl) ?_ | refine ops_op rfl rfl (runs_none rfl) (does_pickT rfl rfl rfl) ?_ | refine ops_op rfl rfl (runs_none rfl) (does_pickF rfl rfl rfl) ?_)
  all_goals refine ops_op rfl rfl (runs_none rfl) (mv_s (.inl rfl) rfl) ?_
  all_goals (first | refine ops_op rfl rfl (runs_y rfl rfl rfl) (does_fieldAddr_ptr rfl tf29_1 (by decide) rfl) ?_ | refine ops_op rfl rfl (runs_y rfl rfl rfl) (does_fieldAddr_ref rfl tf29_1 (by decide) rfl) ?_ | refine ops_skip rfl rfl (runs_nf rfl rfl rfl) ?_ | refine ops_skip rfl rfl (runs_nu rfl rfl rfl) ?_)
  all_goals (first | refine ops_op rfl rfl (runs_y rfl rfl rfl) (does_load_ref rfl ta27 rfl) ?_ | refine ops_op rfl rfl (runs_y rfl rfl rfl) (does_load_ptr rfl ta27 rfl rfl rfl rfl rfl) ?_ | refine ops_skip rfl rfl (runs_nf rfl rfl rfl) ?_ | refine ops_skip rfl rfl (runs_nu rfl rfl rfl) ?_)
  all_goals (first | refine ops_op rfl rfl (runs_y rfl rfl rfl) (does_len_map rfl ts27 rfl) ?_ | refine ops_op rfl rfl (runs_y rfl rfl rfl) (does_len_sl rfl ts27 rfl) ?_ | refine ops_op rfl rfl (runs_y rfl rfl rfl) (does_len_own rfl ts27 rfl) ?_ | refine ops_op rfl rfl (runs_y rfl rfl rfl) (does_len_s rfl ts27 rfl) ?_ | refine ops_op rfl rfl (runs_y rfl rfl rfl) (does_len_emp rfl ts27 rfl) ?_ | refine ops_skip rfl rfl (runs_nf rfl rfl rfl) ?_ | refine ops_skip rfl rfl (runs_nu rfl rfl rfl) ?_)
  all_goals (first | refine ops_op rfl rfl (runs_y rfl rfl rfl) (does_fieldAddr_ptr rfl tf29_1 (by decide) rfl) ?_ | refine ops_op rfl rfl (runs_y rfl rfl rfl) (does_fieldAddr_ref rfl tf29_1 (by decide) rfl) ?_ | refine ops_skip rfl rfl (runs_nf rfl rfl rfl) ?_ | refine ops_skip rfl rfl (runs_nu rfl rfl rfl) ?_)
  all_goals (first | refine ops_op rfl rfl (runs_y rfl rfl rfl) (does_load_ref rfl ta27 rfl) ?_ | refine ops_op rfl rfl (runs_y rfl rfl rfl) (does_load_ptr rfl ta27 rfl rfl rfl rfl rfl) ?_ | refine ops_skip rfl rfl (runs_nf rfl rfl rfl) ?_ | refine ops_skip rfl rfl (runs_nu rfl rfl rfl) ?_)
  all_goals (first | refine ops_op rfl rfl (runs_y rfl rfl rfl) (does_len_map rfl ts27 rfl) ?_ | refine ops_op rfl rfl (runs_y rfl rfl rfl) (does_len_sl rfl ts27 rfl) ?_ | refine ops_op rfl rfl (runs_y rfl rfl rfl) (does_len_own rfl ts27 rfl) ?_ | refine ops_op rfl rfl (runs_y rfl rfl rfl) (does_len_s rfl ts27 rfl) ?_ | refine ops_op rfl rfl (runs_y rfl rfl rfl) (does_len_emp rfl ts27 rfl) ?_ | refine ops_skip rfl rfl (runs_nf rfl rfl rfl) ?_ | refine ops_skip rfl rfl (runs_nu rfl rfl rfl) ?_)
  all_goals (first | refine ops_opP rfl rfl (runs_y rfl rfl rfl) (does_neq rfl rfl rfl) (fun h28 => ?_) (fun h28 => ?_) | refine ops_opB rfl rfl (runs_y rfl rfl rfl) (does_neq rfl rfl rfl) (fun h28 => ?_) (fun h28 => ?_) | refine ops_skip rfl rfl (runs_nf rfl rfl rfl) ?_ | refine ops_skip rfl rfl (runs_nu rfl rfl rfl) ?_)
  all_goals (first | refine ops_op rfl rfl (runs_none rfl) (pickT_s rfl rfl rfl) ?_ | refine ops_op rfl rfl (runs_none rfl) (pickF_s rfl rfl rfl) ?_ | refine ops_op rfl rfl (runs_none rfl) (does_pickT rfl rfl rfl) ?_ | refine ops_op rfl rfl (runs_none rfl) (does_pickF rfl rfl rfl) ?_)
  all_goals refine ops_nil ?_
  all_goals (repeat (first | refine aw_seq ?_ | refine ath_n ?_ | refine aw_skip ?_ | refine abl_n ?_ | refine aw_block ?_))
  all_goals (first | refine aw_true rfl ?_ | refine aw_false rfl ?_)
  all_goals (repeat (first | refine aw_seq ?_ | refine ath_n ?_ | refine aw_skip ?_ | refine abl_n ?_ | refine aw_block ?_))
  rotate_right 1
  all_goals first
    | skip
      refine aw_region ?_
      refine ops_op rfl rfl (runs_none rfl) (mv_s (.inr rfl) rfl) ?_
      refine ops_nil ?_
      repeat (first | refine aw_seq ?_ | refine ath_n ?_ | refine aw_skip ?_ | refine abl_n ?_ | refine aw_block ?_)
      (refine aw_ret ?_; repeat (first | refine ath_r ?_ | refine abl_r ?_))
      exact post1 (.inr rfl) rfl (congrArg eB (same_no (fun e => by subst e; simp at *)).symm)
    | skip
  have hfu : a.full = b.full := by
    cases ha : a.full <;> cases hb : b.full <;> simp_all
  have hl1 : a.st.length = b.st.length := by omega
  have hl2 : a.mv.length = b.mv.length := by omega
  clear h11 h19 h28
  refine aw_region ?_
  refine ops_op rfl rfl (runs_none rfl) (mv_s (.inr rfl) rfl) ?_
  refine ops_nil ?_
  repeat (first | refine aw_seq ?_ | refine ath_n ?_ | refine aw_skip ?_ | refine abl_n ?_ | refine aw_block ?_)
  refine aw_loops (S := Nat) (fun k => [(2, .ref (eSpc a).cells), (3, .ref (eSpc b).cells), (5, eI k)]) (fun _ => []) (fun k => k ≤ a.st.length ∧ ∀ j, j < k → gti a.st j = gti b.st j) (fun k => a.st.length - k) 0 (wk_st [] (by decide) trivial ⟨.lo _ hla, .lo _ hlb, .lo _ (by repeat' (first | exact Lo.s _ | exact Lo.emp | exact Lo.any | exact lo_nil | exact lo_nilE | refine lo_cons ?_ ?_ | refine lo_consE ?_ ?_ | refine lo_map ?_ | refine lo_mapE ?_ | refine Lo.cells ?_ | refine Lo.agg _ ?_ | refine Lo.ref _ ?_ | refine Lo.tup _ ?_ | refine Lo.fn _ _ ?_ | refine Lo.sl _ ?_ | intro _)), trivial⟩) ⟨Nat.zero_le _, fun j hj => by omega⟩ (fun k hk => ?_)
  obtain ⟨hk, hall⟩ := hk
  repeat (first | refine aw_seq ?_ | refine ath_n ?_ | refine aw_skip ?_ | refine abl_n ?_ | refine aw_block ?_)
  refine aw_region ?_
  refine ops_op rfl rfl (runs_none rfl) (mv_s (.inl rfl) rfl) ?_
  first | refine ops_op rfl rfl (runs_none rfl) (does_fieldAddr_ptr rfl tf29_0 (by decide) rfl) ?_ | refine ops_op rfl rfl (runs_none rfl) (does_fieldAddr_ref rfl tf29_0 (by decide) rfl) ?_
  first | refine ops_op rfl rfl (runs_none rfl) (does_load_ref rfl ta26 rfl) ?_ | refine ops_op rfl rfl (runs_none rfl) (does_load_ptr rfl ta26 rfl rfl rfl rfl rfl) ?_
  first | refine ops_op rfl rfl (runs_none rfl) (does_len_map rfl ts26 rfl) ?_ | refine ops_op rfl rfl (runs_none rfl) (does_len_sl rfl ts26 rfl) ?_ | refine ops_op rfl rfl (runs_none rfl) (does_len_own rfl ts26 rfl) ?_ | refine ops_op rfl rfl (runs_none rfl) (does_len_s rfl ts26 rfl) ?_ | refine ops_op rfl rfl (runs_none rfl) (does_len_emp rfl ts26 rfl) ?_
  refine ops_op rfl rfl (runs_none rfl) (does_lss rfl rfl rfl) ?_
  refine ops_nil ?_
  repeat (first | refine aw_seq ?_ | refine ath_n ?_ | refine aw_skip ?_ | refine abl_n ?_ | refine aw_block ?_)
  refine aw_bdm (d := 32) rfl (fun hmx => ?_)
  unfold maxLen at hmx
  refine aw_if rfl (fun h => ?_) (fun h => ?_)
  · have hlt : k < a.st.length := by omega
    have hixa : (a.st.map (eL eI))[k]? = some (eL eI (gti a.st k)) := ix_map hlt
    have hixb : (b.st.map (eL eI))[k]? = some (eL eI (gti b.st k)) := ix_map (by omega)
    have hq := sameM_pf (P := P) (gti a.st k) (gti b.st k)
    repeat (first | refine aw_seq ?_ | refine ath_n ?_ | refine aw_skip ?_ | refine abl_n ?_ | refine aw_block ?_)
    all_goals refine aw_draw hmix ?_
    all_goals refine adraw_quiet (by kernel_rfl) ?_
    all_goals (first | refine qx_op rfl rfl (runs_none rfl) (does_fieldAddr_ptr rfl tf29_0 (by decide) rfl) ?_ | refine qx_op rfl rfl (runs_none rfl) (does_fieldAddr_ref rfl tf29_0 (by decide) rfl) ?_)
    all_goals (first | refine qx_op rfl rfl (runs_none rfl) (does_load_ref rfl ta26 rfl) ?_ | refine qx_op rfl rfl (runs_none rfl) (does_load_ptr rfl ta26 rfl rfl rfl rfl rfl) ?_)
    all_goals refine qx_op rfl rfl (runs_none rfl) (mv_s (.inl rfl) rfl) ?_
    all_goals (first | refine qx_op rfl rfl (runs_none rfl) (does_index_sl rfl ts26 ti25 rfl rfl rfl hixa rfl) ?_ | refine qx_op rfl rfl (runs_none rfl) (does_index_own rfl ts26 ti25 rfl rfl rfl hixa) ?_)
    all_goals (first | refine qx_op rfl rfl (runs_none rfl) (does_load_ref rfl ta25 rfl) ?_ | refine qx_op rfl rfl (runs_none rfl) (does_load_ptr rfl ta25 rfl rfl rfl rfl rfl) ?_)
    all_goals (first | refine qx_op rfl rfl (runs_none rfl) (does_fieldAddr_ptr rfl tf29_0 (by decide) rfl) ?_ | refine qx_op rfl rfl (runs_none rfl) (does_fieldAddr_ref rfl tf29_0 (by decide) rfl) ?_)
    all_goals (first | refine qx_op rfl rfl (runs_none rfl) (does_load_ref rfl ta26 rfl) ?_ | refine qx_op rfl rfl (runs_none rfl) (does_load_ptr rfl ta26 rfl rfl rfl rfl rfl) ?_)
    all_goals refine qx_op rfl rfl (runs_none rfl) (mv_s (.inl rfl) rfl) ?_
    all_goals (first | refine qx_op rfl rfl (runs_none rfl) (does_index_sl rfl ts26 ti25 rfl rfl rfl hixb rfl) ?_ | refine qx_op rfl rfl (runs_none rfl) (does_index_own rfl ts26 ti25 rfl rfl rfl hixb) ?_)
    all_goals (first | refine qx_op rfl rfl (runs_none rfl) (does_load_ref rfl ta25 rfl) ?_ | refine qx_op rfl rfl (runs_none rfl) (does_load_ptr rfl ta25 rfl rfl rfl rfl rfl) ?_)
    all_goals (first | refine qx_opP rfl rfl (runs_none rfl) (does_call rfl rfl (hq) (evc_cons rfl (evc_cons rfl evc_nil))) (fun h47 => ?_) (fun h47 => ?_) | refine qx_opB rfl rfl (runs_none rfl) (does_call rfl rfl (hq) (evc_cons rfl (evc_cons rfl evc_nil))) (fun h47 => ?_) (fun h47 => ?_))
    all_goals (first | refine qx_op rfl rfl (runs_none rfl) (does_notp rfl rfl) ?_ | refine qx_op rfl rfl (runs_none rfl) (does_not rfl rfl) ?_)
    all_goals refine qx_nil ?_
    all_goals (repeat (first | refine aw_seq ?_ | refine ath_n ?_ | refine aw_skip ?_ | refine abl_n ?_ | refine aw_block ?_))
    all_goals (first | refine aw_true rfl ?_ | refine aw_false rfl ?_)
    all_goals (repeat (first | refine aw_seq ?_ | refine ath_n ?_ | refine aw_skip ?_ | refine abl_n ?_ | refine aw_block ?_))
    · skip
      refine aw_region ?_
      refine ops_op rfl rfl (runs_none rfl) (mv_s (.inl rfl) rfl) ?_
      refine ops_op rfl rfl (runs_none rfl) (does_add rfl rfl rfl (IntWalk.i64_in _ (by omega))) ?_
      refine ops_op rfl rfl (runs_none rfl) (mv_s (.inr rfl) rfl) ?_
      refine ops_nil ?_
      repeat (first | refine aw_seq ?_ | refine ath_n ?_ | refine aw_skip ?_ | refine abl_n ?_ | refine aw_block ?_)
      refine ⟨k + 1, ⟨by omega, fun j hj => ?_⟩, by omega, wk_sub _ ⟨rfl, rfl, rfl, trivial⟩⟩
      by_cases e : j = k
      · subst e; exact h47
      · exact hall j (by omega)
    · skip
      refine aw_region ?_
      refine ops_op rfl rfl (runs_none rfl) (mv_s (.inr rfl) rfl) ?_
      refine ops_nil ?_
      repeat (first | refine aw_seq ?_ | refine ath_n ?_ | refine aw_skip ?_ | refine abl_n ?_ | refine aw_block ?_)
      (refine aw_ret ?_; repeat (first | refine ath_r ?_ | refine abl_r ?_))
      exact post1 (.inr rfl) rfl (congrArg eB (same_no (fun e => by subst e; exact h47 rfl)).symm)
  have e : k = a.st.length := by omega
  subst e
  have hst := ext_gti hl1 hall
  repeat (first | refine aw_seq ?_ | refine ath_n ?_ | refine aw_skip ?_ | refine abl_n ?_ | refine aw_block ?_)
  (refine aw_exit ?_; repeat (first | refine ath_x ?_ | refine abl_hit ?_ | refine abl_miss rfl ?_ | refine abl_n ?_ | refine ath_n ?_ | refine aw_seq ?_ | refine aw_skip ?_ | refine aw_block ?_))
  refine aw_region ?_
  refine ops_op rfl rfl (runs_none rfl) (mv_s (.inr rfl) rfl) ?_
  refine ops_nil ?_
  repeat (first | refine aw_seq ?_ | refine ath_n ?_ | refine aw_skip ?_ | refine abl_n ?_ | refine aw_block ?_)
  refine aw_loops (S := Nat) (fun k => [(2, .ref (eSpc a).cells), (3, .ref (eSpc b).cells), (6, eI k)]) (fun _ => []) (fun k => k ≤ a.mv.length ∧ ∀ j, j < k → gti a.mv j = gti b.mv j) (fun k => a.mv.length - k) 0 (wk_st [] (by decide) trivial ⟨.lo _ hla, .lo _ hlb, .lo _ (by repeat' (first | exact Lo.s _ | exact Lo.emp | exact Lo.any | exact lo_nil | exact lo_nilE | refine lo_cons ?_ ?_ | refine lo_consE ?_ ?_ | refine lo_map ?_ | refine lo_mapE ?_ | refine Lo.cells ?_ | refine Lo.agg _ ?_ | refine Lo.ref _ ?_ | refine Lo.tup _ ?_ | refine Lo.fn _ _ ?_ | refine Lo.sl _ ?_ | intro _)), trivial⟩) ⟨Nat.zero_le _, fun j hj => by omega⟩ (fun k hk => ?_)
  obtain ⟨hk, hall⟩ := hk
  repeat (first | refine aw_seq ?_ | refine ath_n ?_ | refine aw_skip ?_ | refine abl_n ?_ | refine aw_block ?_)
  refine aw_region ?_
  refine ops_op rfl rfl (runs_none rfl) (mv_s (.inl rfl) rfl) ?_
  first | refine ops_op rfl rfl (runs_none rfl) (does_fieldAddr_ptr rfl tf29_1 (by decide) rfl) ?_ | refine ops_op rfl rfl (runs_none rfl) (does_fieldAddr_ref rfl tf29_1 (by decide) rfl) ?_
  first | refine ops_op rfl rfl (runs_none rfl) (does_load_ref rfl ta27 rfl) ?_ | refine ops_op rfl rfl (runs_none rfl) (does_load_ptr rfl ta27 rfl rfl rfl rfl rfl) ?_
  first | refine ops_op rfl rfl (runs_none rfl) (does_len_map rfl ts27 rfl) ?_ | refine ops_op rfl rfl (runs_none rfl) (does_len_sl rfl ts27 rfl) ?_ | refine ops_op rfl rfl (runs_none rfl) (does_len_own rfl ts27 rfl) ?_ | refine ops_op rfl rfl (runs_none rfl) (does_len_s rfl ts27 rfl) ?_ | refine ops_op rfl rfl (runs_none rfl) (does_len_emp rfl ts27 rfl) ?_
  refine ops_op rfl rfl (runs_none rfl) (does_lss rfl rfl rfl) ?_
  refine ops_nil ?_
  repeat (first | refine aw_seq ?_ | refine ath_n ?_ | refine aw_skip ?_ | refine abl_n ?_ | refine aw_block ?_)
  refine aw_bdm (d := 51) rfl (fun hmx => ?_)
  unfold maxLen at hmx
  refine aw_if rfl (fun h => ?_) (fun h => ?_)
  · have hlt : k < a.mv.length := by omega
    have hixa : (a.mv.map eMv)[k]? = some (eMv (gti a.mv k)) := ix_map hlt
    have hixb : (b.mv.map eMv)[k]? = some (eMv (gti b.mv k)) := ix_map (by omega)
    repeat (first | refine aw_seq ?_ | refine ath_n ?_ | refine aw_skip ?_ | refine abl_n ?_ | refine aw_block ?_)
    all_goals refine aw_draw hmix ?_
    all_goals refine adraw_quiet (by kernel_rfl) ?_
    all_goals (first | refine qx_op rfl rfl (runs_none rfl) (does_fieldAddr_ptr rfl tf29_1 (by decide) rfl) ?_ | refine qx_op rfl rfl (runs_none rfl) (does_fieldAddr_ref rfl tf29_1 (by decide) rfl) ?_)
    all_goals (first | refine qx_op rfl rfl (runs_none rfl) (does_load_ref rfl ta27 rfl) ?_ | refine qx_op rfl rfl (runs_none rfl) (does_load_ptr rfl ta27 rfl rfl rfl rfl rfl) ?_)
    all_goals refine qx_op rfl rfl (runs_none rfl) (mv_s (.inl rfl) rfl) ?_
    all_goals (first | refine qx_op rfl rfl (runs_none rfl) (does_index_sl rfl ts27 ti56 rfl rfl rfl hixa rfl) ?_ | refine qx_op rfl rfl (runs_none rfl) (does_index_own rfl ts27 ti56 rfl rfl rfl hixa) ?_)
    all_goals (first | refine qx_op rfl rfl (runs_none rfl) (does_load_refw rfl ta56 ti56 rfl rfl) ?_ | refine qx_op rfl rfl (runs_none rfl) (does_load_whole rfl ta56 ti56 rfl rfl rfl rfl rfl) ?_ | refine qx_op rfl rfl (runs_none rfl) (does_load_refs rfl ta56 ti56 rfl (Nat.le_of_ble_eq_true rfl)) ?_ | refine qx_op rfl rfl (runs_none rfl) (does_load_ptrs rfl ta56 ti56 rfl rfl rfl rfl (Nat.le_of_ble_eq_true rfl)) ?_)
    all_goals (first | refine qx_op rfl rfl (runs_none rfl) (does_fieldAddr_ptr rfl tf29_1 (by decide) rfl) ?_ | refine qx_op rfl rfl (runs_none rfl) (does_fieldAddr_ref rfl tf29_1 (by decide) rfl) ?_)
    all_goals (first | refine qx_op rfl rfl (runs_none rfl) (does_load_ref rfl ta27 rfl) ?_ | refine qx_op rfl rfl (runs_none rfl) (does_load_ptr rfl ta27 rfl rfl rfl rfl rfl) ?_)
    all_goals refine qx_op rfl rfl (runs_none rfl) (mv_s (.inl rfl) rfl) ?_
    all_goals (first | refine qx_op rfl rfl (runs_none rfl) (does_index_sl rfl ts27 ti56 rfl rfl rfl hixb rfl) ?_ | refine qx_op rfl rfl (runs_none rfl) (does_index_own rfl ts27 ti56 rfl rfl rfl hixb) ?_)
    all_goals (first | refine qx_op rfl rfl (runs_none rfl) (does_load_refw rfl ta56 ti56 rfl rfl) ?_ | refine qx_op rfl rfl (runs_none rfl) (does_load_whole rfl ta56 ti56 rfl rfl rfl rfl rfl) ?_ | refine qx_op rfl rfl (runs_none rfl) (does_load_refs rfl ta56 ti56 rfl (Nat.le_of_ble_eq_true rfl)) ?_ | refine qx_op rfl rfl (runs_none rfl) (does_load_ptrs rfl ta56 ti56 rfl rfl rfl rfl (Nat.le_of_ble_eq_true rfl)) ?_)
    all_goals (first | refine qx_opP rfl rfl (runs_none rfl) (does_nea rfl rfl rfl te56 rfl rfl rfl) (fun h66 => ?_) (fun h66 => ?_) | refine qx_opB rfl rfl (runs_none rfl) (does_nea rfl rfl rfl te56 rfl rfl rfl) (fun h66 => ?_) (fun h66 => ?_))
    all_goals refine qx_nil ?_
    all_goals (repeat (first | refine aw_seq ?_ | refine ath_n ?_ | refine aw_skip ?_ | refine abl_n ?_ | refine aw_block ?_))
    all_goals (first | refine aw_true rfl ?_ | refine aw_false rfl ?_)
    all_goals (repeat (first | refine aw_seq ?_ | refine ath_n ?_ | refine aw_skip ?_ | refine abl_n ?_ | refine aw_block ?_))
    · skip
      refine aw_region ?_
      refine ops_op rfl rfl (runs_none rfl) (mv_s (.inr rfl) rfl) ?_
      refine ops_nil ?_
      repeat (first | refine aw_seq ?_ | refine ath_n ?_ | refine aw_skip ?_ | refine abl_n ?_ | refine aw_block ?_)
      (refine aw_ret ?_; repeat (first | refine ath_r ?_ | refine abl_r ?_))
      exact post1 (.inr rfl) rfl (congrArg eB (same_no (fun e => by subst e; exact mv_neT h66 rfl)).symm)
    · skip
      refine aw_region ?_
      refine ops_op rfl rfl (runs_none rfl) (mv_s (.inl rfl) rfl) ?_
      refine ops_op rfl rfl (runs_none rfl) (does_add rfl rfl rfl (IntWalk.i64_in _ (by omega))) ?_
      refine ops_op rfl rfl (runs_none rfl) (mv_s (.inr rfl) rfl) ?_
      refine ops_nil ?_
      repeat (first | refine aw_seq ?_ | refine ath_n ?_ | refine aw_skip ?_ | refine abl_n ?_ | refine aw_block ?_)
      refine ⟨k + 1, ⟨by omega, fun j hj => ?_⟩, by omega, wk_sub _ ⟨rfl, rfl, rfl, trivial⟩⟩
      by_cases e : j = k
      · subst e; exact mv_neF h66
      · exact hall j (by omega)
  have e : k = a.mv.length := by omega
  subst e
  have hmv := ext_gti hl2 hall
  repeat (first | refine aw_seq ?_ | refine ath_n ?_ | refine aw_skip ?_ | refine abl_n ?_ | refine aw_block ?_)
  (refine aw_exit ?_; repeat (first | refine ath_x ?_ | refine abl_hit ?_ | refine abl_miss rfl ?_ | refine abl_n ?_ | refine ath_n ?_ | refine aw_seq ?_ | refine aw_skip ?_ | refine aw_block ?_))
  refine aw_region ?_
  refine ops_op rfl rfl (runs_none rfl) (mv_s (.inr rfl) rfl) ?_
  refine ops_nil ?_
  repeat (first | refine aw_seq ?_ | refine ath_n ?_ | refine aw_skip ?_ | refine abl_n ?_ | refine aw_block ?_)
  (refine aw_ret ?_; repeat (first | refine ath_r ?_ | refine abl_r ?_))
  exact post1 (.inr rfl) rfl (congrArg eB (sameSp_iff.2 (by cases a; cases b; simp_all)).symm)
end Go.Proofs.Ythdpacbjbdkemaa.Aw
end
section
namespace Go.Proofs.Ythdpacbjbdkemaa.Aw
set_option linter.unusedSimpArgs false
set_option linter.unusedVariables false
set_option linter.unusedSectionVars false
open Go Go.RowKit Go.Proofs
variable {P : Program} [IsP P]

theorem rowS_SI {n : Net} {most : Int} {i : Nat} {x : List Int} (hx : markB n x = true) : ∀ (on : List Int) (s s' : Spc), SI n most s → rowS n most i x on s = some s' → SI n most s' ∧ s.st.length ≤ s'.st.length
  | [], s, s', hs, h => by simp only [rowS, Option.some.injEq] at h; subst h; exact ⟨hs, Nat.le_refl _⟩
  | t :: ts, s, s', hs, h => by
    simp only [rowS] at h
    cases e : stepS most i s (FireE n x t) t with
    | none => rw [e] at h; cases h
    | some s1 =>
      rw [e] at h
      obtain ⟨g1, g2⟩ := rowS_SI hx ts s1 s' (hs.step hx e) h
      refine ⟨g1, Nat.le_trans ?_ g2⟩
      unfold stepS at e
      split at e
      · cases e; exact Nat.le_refl _
      · split at e
        · cases e
        · cases e
          dsimp only
          split
          · simp
          · exact Nat.le_refl _
theorem expS_SI {n : Net} {most : Int} : ∀ (f i : Nat) (s s' : Spc), SI n most s → expS n most f i s = some s' → SI n most s'
  | 0, i, s, s', hs, h => by simp only [expS, Option.some.injEq] at h; subst h; exact hs
  | f + 1, i, s, s', hs, h => by
    unfold expS at h
    split at h
    · rename_i hi
      cases e : rowS n most i (gti s.st i) (enabledL (gti s.st i) 0 n.trans) s with
      | none => rw [e] at h; cases h
      | some s1 =>
        rw [e] at h
        exact expS_SI f (i + 1) s1 s' (rowS_SI (hs.gti hi) _ s s1 hs e).1 h
    · simp only [Option.some.injEq] at h; subst h; exact hs
theorem explE_SI {n : Net} {m : List Int} {most : Int} (h : (explE n m most).2 = 0) : markB n m = true ∧ most ≤ 2000 ∧ SI n most (explE n m most).1 := by
  unfold explE at h ⊢
  split at h
  · rename_i h1
    rw [if_pos h1]
    split at h
    · simp at h
    · rename_i h2
      rw [if_neg h2]
      cases e : expS n most (most.toNat + 1) 0 ⟨[m], [], true⟩ with
      | none => rw [e] at h; simp [explR] at h
      | some s => exact ⟨h1, by omega, expS_SI _ _ _ _ (SI.init h1 (by omega)) e⟩
  · simp at h
def eLE (r : List Int × Int) : AV := .tup [eL eI r.1, eI r.2]
theorem post_le {N : Nat} {F : Frm} {σ : List Ob} {t u : Nat} {r : List Int × Int} {x : AV} {l : List Int} {m : Int} {e : Exit} (he : e = .normal ∨ e = .ret) (h : F.get t = x) (h' : F.get u = eI m) (hf : Fini σ x (eL eI l)) (hr : r = (l, m)) : APost P [.tmp t, .tmp u] (eLE r) e F σ := by
  subst hr
  exact post2 he h h' hf (.refl _)
end Go.Proofs.Ythdpacbjbdkemaa.Aw
end
