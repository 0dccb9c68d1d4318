import Derived.Test.YtjhdcgaiccnmeaaGreatDoorJB18
import Derived.Test.YtjhdcgaiccnmeaaGreatDoorJB19
import Derived.Test.YtjhdcgaiccnmeaaGreatDoorJB17
import Derived.Test.YtjhdcgaiccnmeaaGreatDoorJB16
import Derived.Test.YtjhdcgaiccnmeaaGreatDoorJB20
set_option linter.unusedSimpArgs false
set_option linter.unusedVariables false
set_option linter.unusedSectionVars false
namespace Go.Proofs.YtjhdcgaiccnmeaaGreatDoor
namespace Aw
open Go.RowKit
abbrev ER := AV × Sto × Kd
inductive OpOk (P : Program) (o : Oper) (F : Frm) (s : Sto) : ER → Prop
 | free (x : AV) (h : ∀ σ, Does P o F σ x σ) : OpOk P o F s (x, s, .free)
 | look (x : AV) (R : List Nat) (h : ∀ σ2, (∀ id ∈ R, σ2[id]? = s.abs[id]?) → Does P o F σ2 x σ2) : OpOk P o F s (x, s, .look R)
 | eff (x : AV) (s1 : Sto) (W : List Nat) (h : Does P o F s.abs x s1.abs) (hW : ∀ id, id ∉ W → s1.abs[id]? = s.abs[id]?) : OpOk P o F s (x, s1, .eff W)
theorem OpOk.does {P : Program} {o : Oper} {F : Frm} {s s' : Sto} {x : AV} {k : Kd} (h : OpOk P o F s (x, s', k)) : Does P o F s.abs x s'.abs := by
 cases h with
 | free _ h => exact h s.abs
 | look _ R h => exact h s.abs (fun _ _ => rfl)
 | eff _ _ _ h => exact h
section
variable {P : Program} {o : Oper} {F : Frm} {σ : List Ob}
end
end Aw
namespace Aw
open Go.RowKit
section
variable {P : Program} {o : Oper} {F : Frm} {σ : List Ob} {s : Sto}
theorem zbw {σ : List Ob} {i id : Nat} {ob : Ob} (h : id ∉ [i]) : (σ.set i ob)[id]? = σ[id]? := by
 rw [List.getElem?_set_ne]; intro e; exact h (by simp [e])
theorem zdo {σ : List Ob} {id : Nat} {ob : Ob} (h : id ∉ [σ.length]) : (σ ++ [ob])[id]? = σ[id]? := by
 by_cases hl : id < σ.length
 ·
  rw [List.getElem?_append_left hl]
 ·
  have hne : id ≠ σ.length := by simpa using h
  rw [List.getElem?_eq_none (by simp; omega), List.getElem?_eq_none (by omega)]
end
section
variable {P : Program} {N : Nat} {F : Frm} {σ : List Ob} {Q : Exit → Frm → List Ob → Prop} {ops : Array Oper} {o : Oper} {l : List Oper} {d : Nat} {x : AV}
end
end Aw
namespace Aw
open Go.RowKit
def Chg (s s' : Sto) (W : List Nat) : Prop := ∀ id, id ∉ W → s'.abs[id]? = s.abs[id]?
theorem Chg.refl (s : Sto) : Chg s s [] := fun _ _ => rfl
theorem Chg.trans {a b c : Sto} {V W : List Nat} (h : Chg a b V) (k : Chg b c W) : Chg a c (V ++ W) := fun id hid => by
 simp only [List.mem_append, not_or] at hid
 exact (k id hid.2).trans (h id hid.1)
section
variable {P : Program} {o : Oper} {F : Frm} {σ : List Ob}
theorem zmc {t e : TypeId} {x y : Operand} {z : Option Value} {n bt : Nat} {id sz m : Nat} {k : IntKind} {i : Int} {h : Nat} (ho : o.op = .slice t x none (some y) none) (ht : zcd P t = some e) (hi : zb5 P e = some (z, n, bt)) (hx : F.eval x = .own id sz m) (hy : F.eval y = .s (.int k i)) (hk : i = (h : Int)) (hl : h ≤ m) : Does P o F σ (.own id sz h) σ :=
 zch fun G ρ hr hop => by
  have g1 := hop x (by simp [ho, Op.operands])
  have g2 := hop y (by simp [ho, Op.operands])
  rw [hx] at g1
  rw [hy] at g2
  have e2 := zb4 g2
  obtain ⟨q1, q2⟩ := zn1 ht
  subst hk
  generalize hv : ρ x = u at g1
  have key : ∀ A len cap, h ≤ cap → (Instr.sliceAt t (.slice A len cap) none (some (.int k (h : Int))) none).run P G.w = .ok (sliced A 0 h cap n) G.w := fun A len cap hc => by
   have h2 := run_slice_h (P := P) G.w t A len cap q2 k (h : Int) (by omega) (by omega)
   simp only [run_sliceAt_slice (P := P) G.w t _ _ _ _ q2, h2, q1, zcw hi, Result.andThen_ok, Int.toNat_natCast]
  cases g1 with
  | own0 _ _ A hA hm =>
   obtain rfl : h = 0 := by omega
   refine ⟨sliced A 0 0 0 n, by simp only [execOp, ho, Option.map_some, Option.map_none, hv, e2, Sem.run_bind, key A 0 0 (Nat.zero_le _), Result.andThen_ok, Sem.run_pure], ?_⟩
   simp only [sliced, if_true, Nat.sub_self]
   exact .own0 id sz A hA hm
  | own _ _ _ b cap hm hn hc hb =>
   refine ⟨sliced (some ⟨b, 0, none⟩) 0 h cap n, by simp only [execOp, ho, Option.map_some, Option.map_none, hv, e2, Sem.run_bind, key _ m cap (by omega), Result.andThen_ok, Sem.run_pure], ?_⟩
   have : sliced (some ⟨b, 0, none⟩) 0 h cap n = .slice (some ⟨b, 0, none⟩) h cap := by simp [sliced, Addr.add]
   rw [this]
   exact .own id sz h b cap hm (by omega) hc hb
end
structure CallE (P : Program) (f : FuncId) (args : List AV) (σ : List Ob) (r : AV) (σ' : List Ob) : Prop where
 ent : zm7 P f
 call : ∀ (G : Cx) (vargs : Array Value), Rel G σ → vargs.size = args.length → (∀ (j : Nat) v x, vargs[j]? = some v → args[j]? = some x → Rep G v x) →
  Calls P f vargs G.w fun e w' => ∃ v G', e = .returned v ∧ G'.w = w' ∧ G.Ext G' ∧ Rel G' σ' ∧ Rep G' v r
section
variable {P : Program} {o : Oper} {F : Frm} {σ σ' : List Ob} {f : FuncId} {args : List AV} {r : AV}
theorem zbs {fo : Operand} {ar : Array Operand} {ts : Array TypeId} {caps : List AV} (ho : o.op = .call { callee := .value fo, args := ar, argTypes := ts }) (hf : F.eval fo = .fn f caps) (hp : CallE P f args σ r σ') (ha : ar.toList.map F.eval ++ caps = args) : Does P o F σ r σ' := by
 intro G a next Q hr hop hn
 obtain ⟨cap, h1, h2, h3⟩ := zjd ho hop hf
 rw [ha] at h2 h3
 unfold Oper.wp
 rw [zh4 ho a.eval h1 hp.ent G.w, Oper.upon_enter]
 refine (hp.call G _ hr h2 h3).mono ?_
 rintro e w' ⟨v, G', rfl, rfl, he, hr', hv⟩
 exact hn v G' he hr' hv
theorem callE_fn {fn : Func} {c : Code} (hf : P.funcs[f]? = some fn) (hname : (fn.name == "runtime.NumGoroutine") = false) (hb : fn.body = some c) (hn : args.length ≤ fn.ntmps)
  (h : EWp P fn.ntmps c (argF 0 args) σ (fun e F' σ1 => (e = .normal ∨ e = .ret) ∧ σ1 = σ' ∧ ∃ xs, ResL P F' σ1 fn.results.toList xs ∧ zkb xs = r)) : CallE P f args σ r σ' := by
 refine ⟨zfh hf hname hb, fun G vargs hrel hsz hrep => ?_⟩
 refine calls_of_wp hf hb ?_
 have hfo : FOk G { tmps := vargs ++ Array.replicate (fn.ntmps - vargs.size) undef, defers := [] } (argF 0 args) := by
  intro d
  rw [zgd]
  simp only [Nat.zero_le, if_true, Nat.sub_zero]
  by_cases hd : d < args.length
  ·
   have h1 : (vargs ++ Array.replicate (fn.ntmps - vargs.size) undef).getD d undef = vargs[d]'(by omega) := by
    rw [Array.getD_eq_getD_getElem?, Array.getElem?_append_left (by omega)]
    simp [show d < vargs.size by omega]
   rw [h1]
   have h2 : args.getD d .any = args[d] := by simp [List.getD, hd]
   rw [h2]
   exact hrep d _ _ (by simp [show d < vargs.size by omega]) (by simp [hd])
  ·
   have h2 : args.getD d .any = .any := by simp [List.getD, hd]
   rw [h2]; exact .any _
 have hs8 : S8 fn.ntmps G { tmps := vargs ++ Array.replicate (fn.ntmps - vargs.size) undef, defers := [] } (argF 0 args) σ := ⟨hrel, hfo, .nil, by simp; omega⟩
 refine Code.wp_mono (fun e a w q => ?_) (h G _ hs8)
 obtain ⟨G', F', σ1, rfl, h2, h3, he, rfl, xs, h4, rfl⟩ := q
 obtain ⟨v, h6, h7⟩ := zdk (fn := fn) h3.rel h3.fr h4
 have post : ∃ v' G'', Ending.returned v = .returned v' ∧ G''.w = G'.w ∧ G.Ext G'' ∧ Rel G'' σ1 ∧ Rep G'' v' (zkb xs) := ⟨v, G', rfl, rfl, h2, h3.rel, h7⟩
 rcases he with rfl | rfl
 ·
  exact ⟨h3.df.1, v, h6, post⟩
 ·
  exact ⟨h3.df.1, v, h6, post⟩
def ObLo (k : Nat) : Ob → Prop
 | .row _ cs | .fz _ cs => ∀ c ∈ cs, Lo k c
 | _ => True
theorem zlk {k : Nat} {x : AV} (h : ∀ c ∈ x.cells, Lo k c) : Lo k x := by
 by_cases hx : ∃ cs, x = .agg cs
 ·
  obtain ⟨cs, rfl⟩ := hx; exact .agg cs h
 ·
  have : x.cells = [x] := by cases x <;> first | rfl | (exact absurd ⟨_, rfl⟩ hx)
  exact h x (by rw [this]; simp)
theorem zr5 {G : Cx} {k : Nat} (hk : ∀ id, k ≤ id → G.mu id = none) {v : Value} {x : AV} (h : Rep G v x) : Lo k x := by
 have key : ∀ id b, G.mu id = some b → id < k := fun id b hb => by
  rcases Nat.lt_or_ge id k with h | h
  ·
   exact h
  ·
   rw [hk id h] at hb; cases hb
 induction h with
 | any v => exact .any
 | s v => exact .s v
 | agg vs cs hl h1 _ ih =>
  refine .agg cs fun c hc => ?_
  obtain ⟨j, hj, rfl⟩ := List.mem_iff_getElem.1 hc
  exact ih j _ _ (Array.getElem?_eq_getElem (by omega)) (List.getElem?_eq_getElem hj)
 | emp A hA => exact .emp
 | slnil A cap => exact .sl [] (by simp)
 | sl b o cap sz l val hc hm h1 h2 _ ih =>
  refine .sl l fun e he => zlk fun c hcc => ?_
  obtain ⟨i, hi, rfl⟩ := List.mem_iff_getElem.1 he
  obtain ⟨j, hj, rfl⟩ := List.mem_iff_getElem.1 hcc
  exact ih i _ j _ (List.getElem?_eq_getElem hi) (List.getElem?_eq_getElem hj)
 | ref b o cs val h1 h2 _ ih =>
  refine .ref cs fun c hc => ?_
  obtain ⟨j, hj, rfl⟩ := List.mem_iff_getElem.1 hc
  exact ih j _ (List.getElem?_eq_getElem hj)
 | own0 id sz A hA hm => exact .own _ _ _ (key _ _ hm)
 | own id sz n b cap hm hn hc hb => exact .own _ _ _ (key _ _ hm)
 | ptr id sz k j b hm => exact .ptr _ _ _ _ (key _ _ hm)
 | fn f vs cs hl _ ih =>
  refine .fn f cs fun c hc => ?_
  obtain ⟨j, hj, rfl⟩ := List.mem_iff_getElem.1 hc
  exact ih j _ _ (Array.getElem?_eq_getElem (by omega)) (List.getElem?_eq_getElem hj)
 | tup vs cs hl _ ih =>
  refine .tup cs fun c hc => ?_
  obtain ⟨j, hj, rfl⟩ := List.mem_iff_getElem.1 hc
  exact ih j _ _ (Array.getElem?_eq_getElem (by omega)) (List.getElem?_eq_getElem hj)
 | mp id b hm => exact .mp _ (key _ _ hm)
 | sub id sz o n b cap A hm hA _ => exact .sub _ _ _ _ (key _ _ hm)
theorem zr6 {G : Cx} (hr : Rel G σ) {id : Nat} {ob : Ob} (hs : σ[id]? = some ob) : ObLo σ.length ob := by
 have h1 := hr.obs id ob hs
 have row : ∀ b sz cs fr, zdl G b sz cs fr → ∀ c ∈ cs, Lo σ.length c := by
  rintro b sz cs fr ⟨cur, t, q, h2, h3, h4, h5⟩ e he
  obtain ⟨i, hi, rfl⟩ := List.mem_iff_getElem.1 he
  obtain ⟨_, _, h6⟩ := h5 i _ (List.getElem?_eq_getElem hi)
  refine zlk fun c hc => ?_
  obtain ⟨j, hj, rfl⟩ := List.mem_iff_getElem.1 hc
  obtain ⟨v, _, h7⟩ := h6 j _ (List.getElem?_eq_getElem hj)
  exact zr5 hr.fresh h7
 cases ob with
 | row sz cs =>
  simp only [ObOk] at h1
  cases hx : G.mu id with
  | none => rw [hx] at h1; exact h1.elim
  | some x =>
   rw [hx] at h1
   cases x with
   | none => simp only at h1; subst h1; intro c hc; simp at hc
   | some b => exact row b sz cs _ h1.1
 | fz sz cs =>
  simp only [ObOk] at h1
  cases hx : G.mu id with
  | none => rw [hx] at h1; exact h1.elim
  | some x =>
   rw [hx] at h1
   cases x with
   | none => simp only at h1; subst h1; intro c hc; simp at hc
   | some b => exact row b sz cs _ h1.1
 | _ => trivial
def Cx.cut (G : Cx) (k : Nat) : Cx := { G with mu := fun i => if i < k then G.mu i else none }
theorem zrj {G : Cx} {k : Nat} (hr : Rel G σ) (hk : k ≤ σ.length) (hl : ∀ ob ∈ σ.take k, ObLo k ob) : Rel (G.cut k) (σ.take k) := by
 have hlow : ∀ v x, Rep G v x → Lo k x → Rep (G.cut k) v x := fun v x h hx => h.low hx (fun _ _ h => h) (fun _ _ _ => rfl) (fun id y hid hy => by simp [Cx.cut, hid, hy]) (fun _ => zcc.refl _)
 have hmu : ∀ id b, (G.cut k).mu id = some b → G.mu id = some b := fun id b h => by
  simp only [Cx.cut] at h
  split at h
  ·
   exact h
  ·
   cases h
 refine ⟨hr.below, hr.le, hr.st, fun id ob hob => ?_, fun i j b hi hj hmi hmj => ?_, fun id hid => ?_⟩
 ·
  have hmem := hl ob (List.mem_of_getElem? hob)
  rw [List.getElem?_take] at hob
  split at hob
  ·
   rename_i hid
   have h1 := hr.obs id ob hob
   have e : (G.cut k).mu id = G.mu id := by simp [Cx.cut, hid]
   have row : ∀ b sz cs fr, (∀ c ∈ cs, Lo k c) → zdl G b sz cs fr → zdl (G.cut k) b sz cs fr := by
    rintro b sz cs fr hlo ⟨cur, t, q, h2, h3, h4, h5⟩
    refine ⟨cur, t, q, h2, h3, h4, fun i x hx => ⟨(h5 i x hx).1, (h5 i x hx).2.1, fun j c hc => ?_⟩⟩
    obtain ⟨v, h6, h7⟩ := (h5 i x hx).2.2 j c hc
    exact ⟨v, h6, hlow v c h7 ((hlo x (List.mem_of_getElem? hx)).cells c (List.mem_of_getElem? hc))⟩
   cases ob with
   | dead => exact fun b hb => h1 b (by rw [← e]; exact hb)
   | row sz cs =>
    have hlo : ∀ c ∈ cs, Lo k c := hmem
    simp only [ObOk] at h1 ⊢
    rw [e]
    cases hx : G.mu id with
    | none => rw [hx] at h1; exact h1
    | some x =>
     rw [hx] at h1
     cases x with
     | none => exact h1
     | some b => exact ⟨row b sz cs _ hlo h1.1, h1.2⟩
   | fz sz cs =>
    have hlo : ∀ c ∈ cs, Lo k c := hmem
    simp only [ObOk] at h1 ⊢
    rw [e]
    cases hx : G.mu id with
    | none => rw [hx] at h1; exact h1
    | some x =>
     rw [hx] at h1
     cases x with
     | none => exact h1
     | some b => exact ⟨row b sz cs _ hlo h1.1, h1.2⟩
   | mp X =>
    obtain ⟨b, g1, g2, g3, g4, g5⟩ := h1
    exact ⟨b, e.trans g1, g2, g3, g4, fun j hj => g5 j (hmu j _ hj)⟩
  ·
   cases hob
 ·
  have al : ∀ i, zdd (σ.take k) i → zdd σ i := by
   rintro i ⟨sz, cs, h⟩
   rw [List.getElem?_take] at h
   split at h
   ·
    exact ⟨sz, cs, h⟩
   ·
    cases h
  exact hr.inj i j b (al i hi) (al j hj) (hmu i _ hmi) (hmu j _ hmj)
 ·
  rw [List.length_take, Nat.min_eq_left hk] at hid
  simp only [Cx.cut]
  rw [if_neg (by omega)]
theorem CallE.cut (h : CallE P f args σ r σ') (hk : σ.length ≤ σ'.length) {W : List Nat} (hW : ∀ id, id ∉ W → σ'[id]? = σ[id]?) (hl : ∀ id ∈ W, id < σ.length → ∀ ob, σ'[id]? = some ob → ObLo σ.length ob) (hr : Lo σ.length r) : CallE P f args σ r (σ'.take σ.length) :=
 ⟨h.ent, fun G vargs hrel hsz hrep => (h.call G vargs hrel hsz hrep).mono (by
  rintro e w' ⟨v, G', rfl, rfl, he, hr', hv⟩
  have hl' : ∀ ob ∈ σ'.take σ.length, ObLo σ.length ob := fun ob hob => by
   obtain ⟨id, hid, rfl⟩ := List.mem_iff_getElem.1 hob
   have hlt : id < σ.length := by rw [List.length_take] at hid; omega
   have hget : σ'[id]? = some (σ'.take σ.length)[id] := by
    have := List.getElem?_eq_getElem hid
    rw [List.getElem?_take, if_pos hlt] at this
    exact this
   by_cases hm : id ∈ W
   ·
    exact hl id hm hlt _ hget
   ·
    rw [hW id hm] at hget
    exact zr6 hrel hget
  refine ⟨v, G'.cut σ.length, rfl, rfl, ⟨he.base, he.w0, he.st, he.cell, fun id x hx => ?_, he.size, he.rows, he.stN, he.pr, he.prN, he.oth⟩, zrj hr' hk hl', ?_⟩
  ·
   have hid : id < σ.length := by
    rcases Nat.lt_or_ge id σ.length with h1 | h1
    ·
     exact h1
    ·
     rw [hrel.fresh id h1] at hx; cases hx
   simp only [Cx.cut, if_pos hid]
   exact he.mu id x hx
  ·
   exact hv.low hr (fun _ _ h => h) (fun _ _ _ => rfl) (fun id y hid hy => by simp [Cx.cut, hid, hy]) (fun _ => zcc.refl _))⟩
def Cx.keep (G : Cx) (k m : Nat) : Cx := { G with mu := fun i => if i < k then G.mu i else if i = k then G.mu m else none }
theorem zy0 {G : Cx} {k m : Nat} {ob0 : Ob} (hr : Rel G σ) (hk : k ≤ m) (hm : σ[m]? = some ob0) (hl : ∀ ob ∈ σ.take k, ObLo k ob) (hl0 : ObLo k ob0) : Rel (G.keep k m) (σ.take k ++ [ob0]) := by
 have hmlt : m < σ.length := (List.getElem?_eq_some_iff.1 hm).1
 have htk : (σ.take k).length = k := by rw [List.length_take]; omega
 have hlow : ∀ v x, Rep G v x → Lo k x → Rep (G.keep k m) v x := fun v x h hx => h.low hx (fun _ _ h => h) (fun _ _ _ => rfl) (fun id y hid hy => by simp [Cx.keep, hid, hy]) (fun _ => zcc.refl _)
 have hmu : ∀ i x, (G.keep k m).mu i = some x → i ≤ k ∧ G.mu (if i < k then i else m) = some x := fun i x h => by
  simp only [Cx.keep] at h
  split at h
  ·
   rename_i h1; exact ⟨by omega, by rw [if_pos h1]; exact h⟩
  ·
   rename_i h1
   split at h
   ·
    rename_i h2; exact ⟨by omega, by rw [if_neg h1]; exact h⟩
   ·
    cases h
 have horig : ∀ i ob, (σ.take k ++ [ob0])[i]? = some ob → i ≤ k ∧ σ[if i < k then i else m]? = some ob ∧ (G.keep k m).mu i = G.mu (if i < k then i else m) ∧ ObLo k ob := fun i ob h => by
  rcases Nat.lt_trichotomy i k with h1 | h1 | h1
  ·
   rw [List.getElem?_append_left (by omega), List.getElem?_take, if_pos h1] at h
   refine ⟨by omega, by rw [if_pos h1]; exact h, by simp [Cx.keep, h1], hl ob ?_⟩
   have : (σ.take k)[i]? = some ob := by rw [List.getElem?_take, if_pos h1]; exact h
   exact List.mem_of_getElem? this
  ·
   subst h1
   rw [List.getElem?_append_right (by omega), htk, Nat.sub_self] at h
   simp at h; subst h
   exact ⟨by omega, by rw [if_neg (by omega)]; exact hm, by simp [Cx.keep], hl0⟩
  ·
   rw [List.getElem?_eq_none (by simp; omega)] at h; cases h
 have hinj : ∀ i j, i ≤ k → j ≤ k → (if i < k then i else m) = (if j < k then j else m) → i = j := fun i j hi hj h => by
  split at h <;> split at h <;> omega
 refine ⟨hr.below, hr.le, hr.st, fun id ob hob => ?_, fun i j b hi hj hmi hmj => ?_, fun id hid => ?_⟩
 ·
  obtain ⟨hik, hs, e, hlo⟩ := horig id ob hob
  have h1 := hr.obs _ ob hs
  generalize (if id < k then id else m) = o at hs e h1
  have row : ∀ b sz cs fr, (∀ c ∈ cs, Lo k c) → zdl G b sz cs fr → zdl (G.keep k m) b sz cs fr := by
   rintro b sz cs fr hlo ⟨cur, t, q, h2, h3, h4, h5⟩
   refine ⟨cur, t, q, h2, h3, h4, fun i x hx => ⟨(h5 i x hx).1, (h5 i x hx).2.1, fun j c hc => ?_⟩⟩
   obtain ⟨v, h6, h7⟩ := (h5 i x hx).2.2 j c hc
   exact ⟨v, h6, hlow v c h7 ((hlo x (List.mem_of_getElem? hx)).cells c (List.mem_of_getElem? hc))⟩
  cases ob with
  | dead => exact fun b hb => h1 b (by rw [← e]; exact hb)
  | row sz cs =>
   simp only [ObOk] at h1 ⊢
   rw [e]
   cases hx : G.mu o with
   | none => rw [hx] at h1; exact h1
   | some x =>
    rw [hx] at h1
    cases x with
    | none => exact h1
    | some b => exact ⟨row b sz cs _ hlo h1.1, h1.2⟩
  | fz sz cs =>
   simp only [ObOk] at h1 ⊢
   rw [e]
   cases hx : G.mu o with
   | none => rw [hx] at h1; exact h1
   | some x =>
    rw [hx] at h1
    cases x with
    | none => exact h1
    | some b => exact ⟨row b sz cs _ hlo h1.1, h1.2⟩
  | mp X =>
   obtain ⟨b, g1, g2, g3, g4, g5⟩ := h1
   refine ⟨b, e.trans g1, g2, g3, g4, fun j hj => ?_⟩
   obtain ⟨hj1, hj2⟩ := hmu j _ hj
   obtain ⟨hi1, hi2⟩ := hmu id _ (e.trans g1)
   exact hinj j id hj1 hi1 ((g5 _ hj2).trans (g5 _ hi2).symm)
 ·
  have al : ∀ i, zdd (σ.take k ++ [ob0]) i → i ≤ k ∧ zdd σ (if i < k then i else m) := by
   rintro i ⟨sz, cs, h⟩
   obtain ⟨h1, h2, _⟩ := horig i _ h
   exact ⟨h1, sz, cs, h2⟩
  exact hinj i j (al i hi).1 (al j hj).1 (hr.inj _ _ b (al i hi).2 (al j hj).2 (hmu i _ hmi).2 (hmu j _ hmj).2)
 ·
  rw [List.length_append, htk] at hid
  simp only [List.length_singleton] at hid
  simp only [Cx.keep]
  rw [if_neg (by omega), if_neg (by omega)]
theorem CallE.keep {m sz n : Nat} {ob0 : Ob} (h : CallE P f args σ (.own m sz n) σ') (hk : σ.length ≤ m) (hm : σ'[m]? = some ob0) {W : List Nat} (hW : ∀ id, id ∉ W → σ'[id]? = σ[id]?) (hl : ∀ id ∈ W, id < σ.length → ∀ ob, σ'[id]? = some ob → ObLo σ.length ob) (hr : ObLo σ.length ob0) : CallE P f args σ (.own σ.length sz n) (σ'.take σ.length ++ [ob0]) :=
 ⟨h.ent, fun G vargs hrel hsz hrep => (h.call G vargs hrel hsz hrep).mono (by
  rintro e w' ⟨v, G', rfl, rfl, he, hr', hv⟩
  have hl' : ∀ ob ∈ σ'.take σ.length, ObLo σ.length ob := fun ob hob => by
   obtain ⟨id, hid, rfl⟩ := List.mem_iff_getElem.1 hob
   have hlt : id < σ.length := by rw [List.length_take] at hid; omega
   have hget : σ'[id]? = some (σ'.take σ.length)[id] := by
    have := List.getElem?_eq_getElem hid
    rw [List.getElem?_take, if_pos hlt] at this
    exact this
   by_cases hm : id ∈ W
   ·
    exact hl id hm hlt _ hget
   ·
    rw [hW id hm] at hget
    exact zr6 hrel hget
  refine ⟨v, G'.keep σ.length m, rfl, rfl, ⟨he.base, he.w0, he.st, he.cell, fun id x hx => ?_, he.size, he.rows, he.stN, he.pr, he.prN, he.oth⟩, zy0 hr' hk hm hl' hr, ?_⟩
  ·
   have hid : id < σ.length := by
    rcases Nat.lt_or_ge id σ.length with h1 | h1
    ·
     exact h1
    ·
     rw [hrel.fresh id h1] at hx; cases hx
   simp only [Cx.keep, if_pos hid]
   exact he.mu id x hx
  ·
   have e : (G'.keep σ.length m).mu σ.length = G'.mu m := by simp [Cx.keep]
   cases hv with
   | own0 _ _ A hA hm2 => exact .own0 _ _ A hA (e.trans hm2)
   | own _ _ _ b cap hm2 hn hc hb => exact .own _ _ _ b cap (e.trans hm2) hn hc hb)⟩
end
end Aw
namespace Aw
open Go.RowKit
variable [Mk]
section
variable {P : Program} {N : Nat} {l : List Oper} {F F' : Frm} {σ : List Ob} {out : List (Nat × AV)} {Q : Exit → Frm → List Ob → Prop}
theorem zzu (h : zjz P N l F σ Q) : zrt P N l F σ Q := fun G a hs =>
 zdm (fun e a w q => by obtain ⟨G', F', σ', h1, h2, h3, h4⟩ := q; exact ⟨G', F', σ', h1, h2.step, h3, h4⟩) _ _ _ _ (h G a hs)
def EX (P : Program) (N : Nat) (ops : Array Oper) (all : List Oper) (acc : List Kd) (l : List Oper) (F : Frm) (σ : List Ob) (K : Frm → List Ob → Prop) : Prop :=
 ∃ F' σ' out ks sts, ESteps P N ops l F σ F' σ' out ks sts ∧ eOk all N (acc.reverse ++ ks) = true ∧ K F' σ'
variable {ops : Array Oper} {all : List Oper} {acc : List Kd} {K : Frm → List Ob → Prop} {o : Oper} {d : Nat} {x : AV} {σ1 : List Ob}
theorem zcf (hk : eOk all N acc.reverse = true) (h : K F σ) : EX P N ops all acc [] F σ K := ⟨F, σ, [], [], [], .nil F σ, by simpa using hk, h⟩
theorem z18 (hd : o.dst = some d) (hN : Nat.blt d N = true) : dOk N o = true := by unfold dOk; rw [hd]; exact hN
theorem dOk_n (hd : o.dst = none) : dOk N o = true := by unfold dOk; rw [hd]
theorem zay (hd : o.dst = some d) (hN : Nat.blt d N = true) (hr : Runs ops F o true) (hD : ∀ σ, Does P o F σ x σ) (h : EX P N ops all (.free :: acc) l ((d, x) :: F) σ K) : EX P N ops all acc (o :: l) F σ K := by
 obtain ⟨F', σ', out, ks, sts, h1, h2, h3⟩ := h
 exact ⟨F', σ', _, _, _, .free o l F F' σ σ' x out ks sts (z18 hd hN) hr hD (by rw [zc0 hd]; exact h1), by simpa using h2, h3⟩
theorem zbv {R : List Nat} (hd : o.dst = some d) (hN : Nat.blt d N = true) (hr : Runs ops F o true) (hD : ∀ σ2, (∀ id ∈ R, σ2[id]? = σ[id]?) → Does P o F σ2 x σ2) (h : EX P N ops all (.look R :: acc) l ((d, x) :: F) σ K) : EX P N ops all acc (o :: l) F σ K := by
 obtain ⟨F', σ', out, ks, sts, h1, h2, h3⟩ := h
 exact ⟨F', σ', _, _, _, .look o l F F' σ σ' x out ks sts R (z18 hd hN) hr hD (by rw [zc0 hd]; exact h1), by simpa using h2, h3⟩
theorem zc9 {W : List Nat} (hd : o.dst = some d) (hN : Nat.blt d N = true) (hr : Runs ops F o true) (hD : Does P o F σ x σ1) (hW : ∀ id, id ∉ W → σ1[id]? = σ[id]?) (h : EX P N ops all (.eff W :: acc) l ((d, x) :: F) σ1 K) : EX P N ops all acc (o :: l) F σ K := by
 obtain ⟨F', σ', out, ks, sts, h1, h2, h3⟩ := h
 exact ⟨F', σ', _, _, _, .eff o l F F' σ σ1 σ' x out ks sts W (z18 hd hN) hr hD hW (by rw [zc0 hd]; exact h1), by simpa using h2, h3⟩
theorem zci {W : List Nat} (hd : o.dst = none) (hr : Runs ops F o true) (hD : Does P o F σ x σ1) (hW : ∀ id, id ∉ W → σ1[id]? = σ[id]?) (h : EX P N ops all (.eff W :: acc) l ((N, .any) :: F) σ1 K) : EX P N ops all acc (o :: l) F σ K := by
 obtain ⟨F', σ', out, ks, sts, h1, h2, h3⟩ := h
 exact ⟨F', σ', _, _, _, .eff o l F F' σ σ1 σ' x out ks sts W (dOk_n hd) hr hD hW (by rw [zko hd]; exact h1), by simpa using h2, h3⟩
theorem zc1 (h : EX P N l.toArray l [] l F σ (fun F' σ' => Q .normal F' σ')) : zrt P N l F σ Q := by
 obtain ⟨F', σ', out, ks, sts, h1, h2, h3⟩ := h
 exact zzu (ze8 h1 (by simpa using h2) h3)
theorem zbr {t : TypeId} {x : Operand} {id sz k j : Nat} {ob : Ob} {cs : List AV} {e c : AV} (ho : o.op = .load t x) (ha : zc8 P t = some false) (hx : F.eval x = .ptr id sz k j) (hs : σ[id]? = some ob) (hb : ze7 ob = some (sz, cs)) (he : cs[k]? = some e) (hc : e.cells[j]? = some c) : ∀ σ2 : List Ob, (∀ i ∈ [id], σ2[i]? = σ[i]?) → Does P o F σ2 c σ2 :=
 fun σ2 h => zaq ho ha hx ((h id (by simp)).trans hs) hb he hc
theorem zdq {t : TypeId} {x : Operand} {z : Option Value} {n bt : Nat} {id sz k : Nat} {ob : Ob} {cs : List AV} {e : AV} (ho : o.op = .load t x) (ha : zc8 P t = some true) (hi : zb5 P t = some (z, n, bt)) (hx : F.eval x = .ptr id sz k 0) (hs : σ[id]? = some ob) (hb : ze7 ob = some (sz, cs)) (he : cs[k]? = some e) (hn : e.cells.length = n) : ∀ σ2 : List Ob, (∀ i ∈ [id], σ2[i]? = σ[i]?) → Does P o F σ2 (.agg e.cells) σ2 :=
 fun σ2 h => za8 ho ha hi hx ((h id (by simp)).trans hs) hb he hn
theorem zpe {t : TypeId} {x : Operand} {z : Option Value} {n bt : Nat} {id sz k j : Nat} {ob : Ob} {cs : List AV} {e : AV} (ho : o.op = .load t x) (ha : zc8 P t = some true) (hi : zb5 P t = some (z, n, bt)) (hx : F.eval x = .ptr id sz k j) (hs : σ[id]? = some ob) (hb : ze7 ob = some (sz, cs)) (he : cs[k]? = some e) (hn : j + n ≤ e.cells.length) : ∀ σ2 : List Ob, (∀ i ∈ [id], σ2[i]? = σ[i]?) → Does P o F σ2 (.agg ((e.cells.drop j).take n)) σ2 :=
 fun σ2 h => zia ho ha hi hx ((h id (by simp)).trans hs) hb he hn
theorem zct {id i : Nat} {ob ob' : Ob} (h : id ∉ [i, σ.length]) : (σ.set i ob ++ [ob'])[id]? = σ[id]? := by
 have h2 : id ≠ i ∧ id ≠ σ.length := by simpa using h
 rw [zdo (by rw [List.length_set]; simpa using h2.2), zbw (by simpa using h2.1)]
theorem zdf {ad u : Nat} {ty : TypeId} {id sz k n bt : Nat} {z : Option Value} {ob : Ob} {cs : List AV} {e1 y r : AV} {e : Exit} (he : e = .normal ∨ e = .ret) (ha : zc8 P ty = some true) (hi : zb5 P ty = some (z, n, bt)) (hp : F.get ad = .ptr id sz k 0) (hs : σ[id]? = some ob) (ho : ze7 ob = some (sz, cs)) (hk : cs[k]? = some e1) (hn : e1.cells.length = n) (hu : F.get u = y) (hr : AV.tup [.agg e1.cells, y] = r) : zl7 P [.cell ad ty, .tmp u] r e F σ :=
 ⟨he, [.agg e1.cells, y], .cons _ _ _ _ (.cells ad ty id sz k n bt z ob cs e1 ha hi hp hs ho hk hn) (.cons _ _ _ _ (.tmp u y hu) .nil), hr ▸ .refl _⟩
end
section
variable {P : Program} {N : Nat} {F : Frm} {σ : List Ob} {ops : Array Oper} {o : Oper} {l all : List Oper} {d : Nat} {x : AV} {acc : List Kd} {K : Frm → List Ob → Prop}
theorem ex_s (h : stv (opv o.op F) N ops o F = some (d, x)) (k : EX P N ops all (.free :: acc) l ((d, x) :: F) σ K) : EX P N ops all acc (o :: l) F σ K := zay (zbo h).1 (zbo h).2.1 (zbo h).2.2.1 (fun _ => zg0 (zbo h).2.2.2) k
theorem ex_f {t f off n ft : Nat} (hf : zca P t f = some (off, ft, some n)) (h : stv (fdv o.op t f off n F) N ops o F = some (d, x)) (k : EX P N ops all (.free :: acc) l ((d, x) :: F) σ K) : EX P N ops all acc (o :: l) F σ K := zay (zbo h).1 (zbo h).2.1 (zbo h).2.2.1 (fun _ => zhc hf (zbo h).2.2.2) k
theorem ex_l {t : Nat} (ha : zc8 P t = some false) (h : stv (ldv o.op t F) N ops o F = some (d, x)) (k : EX P N ops all (.free :: acc) l ((d, x) :: F) σ K) : EX P N ops all acc (o :: l) F σ K := zay (zbo h).1 (zbo h).2.1 (zbo h).2.2.1 (fun _ => zg7 ha (zbo h).2.2.2) k
theorem ex_w {t n bt : Nat} {z : Option Value} (ha : zc8 P t = some true) (hi : zb5 P t = some (z, n, bt)) (h : stv (lwv o.op t n F) N ops o F = some (d, x)) (k : EX P N ops all (.free :: acc) l ((d, x) :: F) σ K) : EX P N ops all acc (o :: l) F σ K := zay (zbo h).1 (zbo h).2.1 (zbo h).2.2.1 (fun _ => zg6 ha hi (zbo h).2.2.2) k
end
end Aw
namespace Aw
open Go.RowKit
structure KE (G G' : Cx) : Prop where
 step : G.Step G'
 mu0 : ∀ y, G.mu 0 = some y → G'.mu 0 = some y
 rows : zcc G.w G'.w
theorem KE.refl (G : Cx) : KE G G := ⟨.refl G, fun _ h => h, zcc.refl _⟩
theorem KE.trans {G H K : Cx} (h : KE G H) (k : KE H K) : KE G K := ⟨h.step.trans k.step, fun y x => k.mu0 y (h.mu0 y x), h.rows.trans k.rows⟩
theorem KE.of {G G' : Cx} (e : G.Ext G') : KE G G' := ⟨e.step, e.mu 0, e.rows⟩
def liftK (N : Nat) (G : Cx) (Q : Exit → Frm → List Ob → Prop) : Exit → Act → World → Prop :=
 fun e a' w' => ∃ G' F' σ', G'.w = w' ∧ KE G G' ∧ S8 N G' a' F' σ' ∧ Q e F' σ'
theorem liftK_mono {N : Nat} {G G1 : Cx} (h : KE G G1) {Q Q' : Exit → Frm → List Ob → Prop} (hq : ∀ e F σ, Q e F σ → Q' e F σ) {e : Exit} {a : Act} {w : World} (x : liftK N G1 Q e a w) : liftK N G Q' e a w := by
 obtain ⟨G', F', σ', h1, h2, h3, h4⟩ := x
 exact ⟨G', F', σ', h1, h.trans h2, h3, hq _ _ _ h4⟩
def KWp (P : Program) (N : Nat) (c : Code) (F : Frm) (σ : List Ob) (Q : Exit → Frm → List Ob → Prop) : Prop :=
 ∀ G a, S8 N G a F σ → c.wp P (liftK N G Q) a G.w
def KOps (P : Program) (N : Nat) (ops : Array Oper) (l : List Oper) (F : Frm) (σ : List Ob) (Q : Exit → Frm → List Ob → Prop) : Prop :=
 ∀ G a, S8 N G a F σ → wpList P ops (liftK N G Q) l a G.w
section
variable {P : Program} {N : Nat} {F : Frm} {σ : List Ob} {Q : Exit → Frm → List Ob → Prop}
theorem kw_seq {x y : Code} (h : KWp P N x F σ (zeh (fun F σ => KWp P N y F σ Q) Q)) : KWp P N (.seq x y) F σ Q := fun G a hs => by
 refine wp_seq (Code.wp_mono (fun e a1 w1 q => ?_) (h G a hs))
 obtain ⟨G', F', σ', rfl, h2, h3, h4⟩ := q
 cases e with
 | normal => exact Code.wp_mono (fun e a w q => liftK_mono h2 (fun _ _ _ x => x) q) (h4 G' a1 h3)
 | _ => exact ⟨G', F', σ', rfl, h2, h3, h4⟩
theorem kw_skip (h : Q .normal F σ) : KWp P N .skip F σ Q := fun G a hs => wp_skip ⟨G, F, σ, rfl, .refl G, hs, h⟩
theorem kw_exit {id : Nat} (h : Q (.exit id) F σ) : KWp P N (.exit id) F σ Q := fun G a hs => wp_exit ⟨G, F, σ, rfl, .refl G, hs, h⟩
theorem kw_ret (h : Q .ret F σ) : KWp P N .ret F σ Q := fun G a hs => wp_ret ⟨G, F, σ, rfl, .refl G, hs, h⟩
theorem kw_block {id : Nat} {c : Code} (h : KWp P N c F σ (ABlk id Q)) : KWp P N (.block id c) F σ Q := fun G a hs => by
 refine wp_block (Code.wp_mono (fun e a1 w1 q => ?_) (h G a hs))
 obtain ⟨G', F', σ', rfl, h2, h3, h4⟩ := q
 cases e with
 | exit id' =>
  simp only [ABlk] at h4
  simp only [Exit.inBlock]
  split
  ·
   rename_i e; rw [if_pos e] at h4; exact ⟨G', F', σ', rfl, h2, h3, h4⟩
  ·
   rename_i e; rw [if_neg e] at h4; exact ⟨G', F', σ', rfl, h2, h3, h4⟩
 | _ => exact ⟨G', F', σ', rfl, h2, h3, h4⟩
theorem kw_cond {c : Operand} {x y : Code} {b : Bool} (hc : F.eval c = .s (.bool b)) (ht : b = true → KWp P N x F σ Q) (hf : b = false → KWp P N y F σ Q) : KWp P N (.cond c x y) F σ Q := fun G a hs =>
 wp_cond_split (zgx hs.fr hc) (fun e => ht e G a hs) (fun e => hf e G a hs)
theorem kw_true {c : Operand} {x y : Code} (hc : F.eval c = .s (.bool true)) (ht : KWp P N x F σ Q) : KWp P N (.cond c x y) F σ Q := kw_cond hc (fun _ => ht) (fun e => by cases e)
theorem kw_false {c : Operand} {x y : Code} (hc : F.eval c = .s (.bool false)) (ht : KWp P N y F σ Q) : KWp P N (.cond c x y) F σ Q := kw_cond hc (fun e => by cases e) (fun _ => ht)
theorem kw_loop {c : Code} (I : Nat → Frm → List Ob → Prop) (m : Nat) (h0 : I m F σ)
  (round : ∀ m F σ, I m F σ → KWp P N c F σ (zeh (fun F' σ' => ∃ m', m' < m ∧ I m' F' σ') Q)) : KWp P N (.loop c) F σ Q := fun G a hs => by
 refine wp_loop_ghost (fun n a w => ∃ G' F' σ', G'.w = w ∧ KE G G' ∧ S8 N G' a F' σ' ∧ I n F' σ') m ⟨G, F, σ, rfl, .refl G, hs, h0⟩ ?_
 rintro n a w ⟨G', F', σ', rfl, h2, h3, h4⟩
 refine Code.wp_mono (fun e a1 w1 q => ?_) (round n F' σ' h4 G' a h3)
 obtain ⟨G2, F2, σ2, rfl, h5, h6, h7⟩ := q
 cases e with
 | normal => obtain ⟨m', hm, hi⟩ := h7; exact ⟨m', hm, ⟨G2, F2, σ2, rfl, h2.trans h5, h6, hi⟩⟩
 | _ => exact ⟨G2, F2, σ2, rfl, h2.trans h5, h6, h7⟩
theorem kw_region {id : Nat} {l : List Oper} (h : KOps P N l.toArray l F σ Q) : KWp P N (.region id l.toArray false) F σ Q := fun G a hs => wp_region_lit (h G a hs)
theorem kw_mono {c : Code} {Q' : Exit → Frm → List Ob → Prop} (h : KWp P N c F σ Q) (hq : ∀ e F σ, Q e F σ → Q' e F σ) : KWp P N c F σ Q' := fun G a hs =>
 Code.wp_mono (fun e a w q => liftK_mono (.refl G) hq q) (h G a hs)
end
section
variable {P : Program} {N : Nat} {F : Frm} {σ σ' : List Ob} {Q : Exit → Frm → List Ob → Prop} {ops : Array Oper} {o : Oper} {l : List Oper} {x : AV}
theorem kops_nil (h : Q .normal F σ) : KOps P N ops [] F σ Q := fun G a hs => ⟨G, F, σ, rfl, .refl G, hs, h⟩
theorem kops_op {d : Nat} (hd : o.dst = some d) (hN : Nat.blt d N = true) (hr : Runs ops F o true) (hD : Does P o F σ x σ') (k : KOps P N ops l ((d, x) :: F) σ' Q) : KOps P N ops (o :: l) F σ Q := fun G a hs => by
 unfold wpList
 rw [if_pos (hr.wanted hs.fr)]
 left
 refine hD G a _ _ hs.rel (fun y _ => zc4 hs.fr y) (fun v G' e r hv => ?_)
 rw [hd]
 exact zcm (fun e' a w q => liftK_mono (KE.of e) (fun _ _ _ x => x) q) _ _ _ (k G' _ ((hs.step e r).put (by simpa [Nat.blt_eq] using hN) hv))
theorem kops_eff (hd : o.dst = none) (hr : Runs ops F o true) (hD : Does P o F σ x σ') (k : KOps P N ops l F σ' Q) : KOps P N ops (o :: l) F σ Q := fun G a hs => by
 unfold wpList
 rw [if_pos (hr.wanted hs.fr)]
 left
 refine hD G a _ _ hs.rel (fun y _ => zc4 hs.fr y) (fun v G' e r hv => ?_)
 rw [hd]
 exact zcm (fun e' a w q => liftK_mono (KE.of e) (fun _ _ _ x => x) q) _ _ _ (k G' _ (hs.step e r))
theorem kops_skip {d : Nat} (hd : o.dst = some d) (hN : Nat.blt d N = true) (hr : Runs ops F o false) (k : KOps P N ops l ((d, .s undef) :: F) σ Q) : KOps P N ops (o :: l) F σ Q := fun G a hs => by
 unfold wpList
 rw [if_neg (by rw [hr.wanted hs.fr]; simp)]
 rw [hd]
 exact k G _ (hs.put (by simpa [Nat.blt_eq] using hN) (.s _))
end
def WeakK (N : Nat) (F : Frm) (σ : List Ob) (F' : Frm) (σ' : List Ob) : Prop := ∀ G a, S8 N G a F σ → ∃ G', G'.w = G.w ∧ KE G G' ∧ S8 N G' a F' σ'
theorem WeakK.refl {N : Nat} {F : Frm} {σ : List Ob} : WeakK N F σ F σ := fun G a h => ⟨G, rfl, .refl G, h⟩
section
variable {P : Program} {N : Nat} {F F' : Frm} {σ σ' : List Ob} {Q : Exit → Frm → List Ob → Prop}
theorem kw_weak {c : Code} (w : WeakK N F σ F' σ') (h : KWp P N c F' σ' Q) : KWp P N c F σ Q := fun G a hs => by
 obtain ⟨G1, e1, s1, h1⟩ := w G a hs
 rw [← e1]
 exact Code.wp_mono (fun e a w q => liftK_mono s1 (fun _ _ _ x => x) q) (h G1 a h1)
theorem kwk_st (ρ : List Nat) (h0 : ρ[0]? = some 0) (hn : ρ.Nodup) (hs : StL ρ σ ρ σ') (hf : FrRn F ρ F') : WeakK N F σ F' σ' := fun G a h =>
 ⟨G.ren ρ, rfl, ⟨⟨rfl, rfl, fun _ _ h => h, fun _ _ _ => rfl, fun _ _ h => .inl h, rfl, fun _ _ h => .inl h, fun _ _ h _ => h⟩, fun y hy => by simp [Cx.ren, h0, hy], zcc.refl _⟩, ⟨zk3 h.rel hn (zjh ρ σ' hs), zjt h.fr F' hf, h.df, h.nt⟩⟩
theorem kw_loops {c : Code} {S : Type} (fr : S → Frm) (st : S → List Ob) (inv : S → Prop) (ms : S → Nat) (s0 : S) (hw : WeakK N F σ (fr s0) (st s0)) (h0 : inv s0)
  (round : ∀ s, inv s → KWp P N c (fr s) (st s) (zeh (fun F' σ' => ∃ s', inv s' ∧ ms s' < ms s ∧ WeakK N F' σ' (fr s') (st s')) Q)) : KWp P N (.loop c) F σ Q := by
 refine kw_weak hw (kw_loop (fun m F σ => ∃ s, inv s ∧ ms s = m ∧ WeakK N F σ (fr s) (st s)) (ms s0) ⟨s0, h0, rfl, WeakK.refl⟩ (fun m F σ h => ?_))
 obtain ⟨s, h1, rfl, h3⟩ := h
 refine kw_weak h3 (kw_mono (round s h1) (fun e F σ q => ?_))
 cases e with
 | normal => obtain ⟨s', g1, g2, g3⟩ := q; exact ⟨ms s', g2, s', g1, rfl, g3⟩
 | _ => exact q
variable {ops : Array Oper} {o : Oper} {l : List Oper} {d : Nat}
theorem kops_opP {p : Prop} [Decidable p] (hd : o.dst = some d) (hN : Nat.blt d N = true) (hr : Runs ops F o true) (hD : Does P o F σ (.s (.bool (decide p))) σ) (k1 : p → KOps P N ops l ((d, .s (.bool true)) :: F) σ Q) (k2 : ¬ p → KOps P N ops l ((d, .s (.bool false)) :: F) σ Q) : KOps P N ops (o :: l) F σ Q := by
 by_cases h : p
 ·
  exact kops_op hd hN hr (zdc h hD) (k1 h)
 ·
  exact kops_op hd hN hr (zeg h hD) (k2 h)
section
variable {fo : Operand} {ar : Array Operand} {ts : Array TypeId} {f : FuncId} {x : AV} {e n : Int}
end
end
section
variable {P : Program} {N : Nat} {F : Frm} {σ : List Ob} {Q : Exit → Frm → List Ob → Prop} {ops : Array Oper} {o : Oper} {l : List Oper} {d : Nat} {x : AV}
theorem kops_s (h : stv (opv o.op F) N ops o F = some (d, x)) (k : KOps P N ops l ((d, x) :: F) σ Q) : KOps P N ops (o :: l) F σ Q := kops_op (zbo h).1 (zbo h).2.1 (zbo h).2.2.1 (zg0 (zbo h).2.2.2) k
theorem kops_f {t f off n ft : Nat} (hf : zca P t f = some (off, ft, some n)) (h : stv (fdv o.op t f off n F) N ops o F = some (d, x)) (k : KOps P N ops l ((d, x) :: F) σ Q) : KOps P N ops (o :: l) F σ Q := kops_op (zbo h).1 (zbo h).2.1 (zbo h).2.2.1 (zhc hf (zbo h).2.2.2) k
theorem kops_l {t : Nat} (ha : zc8 P t = some false) (h : stv (ldv o.op t F) N ops o F = some (d, x)) (k : KOps P N ops l ((d, x) :: F) σ Q) : KOps P N ops (o :: l) F σ Q := kops_op (zbo h).1 (zbo h).2.1 (zbo h).2.2.1 (zg7 ha (zbo h).2.2.2) k
theorem kops_w {t n bt : Nat} {z : Option Value} (ha : zc8 P t = some true) (hi : zb5 P t = some (z, n, bt)) (h : stv (lwv o.op t n F) N ops o F = some (d, x)) (k : KOps P N ops l ((d, x) :: F) σ Q) : KOps P N ops (o :: l) F σ Q := kops_op (zbo h).1 (zbo h).2.1 (zbo h).2.2.1 (zg6 ha hi (zbo h).2.2.2) k
theorem kops_z (h : stz N ops o F = some d) (k : KOps P N ops l ((d, .s undef) :: F) σ Q) : KOps P N ops (o :: l) F σ Q := kops_skip (ze5 h).1 (ze5 h).2.1 (ze5 h).2.2 k
end
end Aw
namespace Aw
open Go Go.RowKit Go.Proofs
section
variable {N : Nat} {F F' : Frm} {σ σ' : List Ob}
end
section
variable {N : Nat} {F : Frm} {σ : List Ob}
end
end Aw
namespace Aw
open Go Go.RowKit Go.Proofs
section
variable {N : Nat} {F F' : Frm} {σ σ' : List Ob}
theorem WeakK.trans {F1 F2 : Frm} {σ1 σ2 : List Ob} (h : WeakK N F σ F1 σ1) (k : WeakK N F1 σ1 F2 σ2) : WeakK N F σ F2 σ2 := fun G a hs => by
 obtain ⟨G1, e1, s1, h1⟩ := h G a hs
 obtain ⟨G2, e2, s2, h2⟩ := k G1 a h1
 exact ⟨G2, e2.trans e1, s1.trans s2, h2⟩
theorem kwk_froz {id sz : Nat} {cs : List AV} (hs : σ[id]? = some (.row sz cs)) : WeakK N F σ F (σ.set id (.fz sz cs)) := fun G a h => by
 obtain ⟨h1, h2⟩ := zjs h.rel hs
 exact ⟨G.froz id, rfl, KE.of h1, h.step h1 h2⟩
theorem kwk_ref {d id sz k : Nat} {cs : List AV} {e : AV} (hd : F.get d = .ptr id sz k 0) (hs : σ[id]? = some (.fz sz cs)) (he : cs[k]? = some e) : WeakK N F σ ((d, .ref e.cells) :: F) σ := fun G a h =>
 ⟨G, rfl, .refl G, h.rel, h.fr.more (zk1 h.rel hs he (by rw [← hd]; exact h.fr d)), h.df, h.nt⟩
end
def mv (k i : Nat) : List Nat := (List.range k).set i k
section
variable {P : Program} {N : Nat} {F : Frm} {σ σ' : List Ob} {Q : Exit → Frm → List Ob → Prop} {ops : Array Oper} {o : Oper} {l : List Oper} {d : Nat} {fo : Operand} {ar : Array Operand} {ts : Array TypeId} {f : FuncId} {y : AV} {args caps : List AV}
end
end Aw
namespace Aw
open Go Go.RowKit Go.Proofs
section
variable {P : Program} {o : Oper} {F : Frm} {σ : List Ob}
end
section
variable {P : Program} {N : Nat} {F : Frm} {σ σ' : List Ob} {Q : Exit → Frm → List Ob → Prop} {ops : Array Oper} {o : Oper} {l : List Oper} {x : AV}
variable {d : Nat} {fo : Operand} {ar : Array Operand} {ts : Array TypeId} {f : FuncId} {y : AV} {args caps : List AV}
end
theorem kwk_sub {N : Nat} {F : Frm} {σ : List Ob} : ∀ {F'}, Sub F F' → WeakK N F σ F' σ := fun {F'} h G a hs => by
 refine ⟨G, rfl, .refl G, hs.rel, ?_, hs.df, hs.nt⟩
 have key : ∀ F', Sub F F' → FOk G a F' := by
  intro F'
  induction F' with
  | nil => intro _ d; exact .any _
  | cons p F' ih =>
   obtain ⟨d, y⟩ := p
   intro h t
   simp only [Frm.get]
   cases e : Nat.beq d t with
   | true => have := Nat.eq_of_beq_eq_true e; subst this; rw [← h.1]; exact hs.fr d
   | false => exact ih h.2 t
 exact key F' h
theorem kw_of {P : Program} {N : Nat} {F : Frm} {σ : List Ob} {Q : Exit → Frm → List Ob → Prop} {c : Code} (h : EWp P N c F σ Q) : KWp P N c F σ Q := fun G a hs =>
 Code.wp_mono (fun e a w q => by obtain ⟨G', F', σ', h1, h2, h3, h4⟩ := q; exact ⟨G', F', σ', h1, KE.of h2, h3, h4⟩) (h G a hs)
theorem kw_draw {P : Program} {N : Nat} {l : List Oper} {F : Frm} {σ : List Ob} {Q : Exit → Frm → List Ob → Prop} {id : Nat} (hm : P.follows .mixedOrders = true) (h : zjz P N l F σ Q) : KWp P N (.region id l.toArray true) F σ Q := kw_of (znz hm h)
theorem kdraw_ex {P : Program} {N : Nat} {l : List Oper} {F : Frm} {σ : List Ob} {Q : Exit → Frm → List Ob → Prop} (h : EX P N l.toArray l [] l F σ (fun F' σ' => Q .normal F' σ')) : zjz P N l F σ Q := by
 obtain ⟨F', σ', out, ks, sts, h1, h2, h3⟩ := h
 exact ze8 h1 (by simpa using h2) h3
end Aw
namespace Aw.K1
open Go Go.RowKit Go.Proofs
structure KE (G G' : Cx) : Prop where
 step : G.Step G'
 mu0 : ∀ i y, i < 1 → G.mu i = some y → G'.mu i = some y
 rows : zcc G.w G'.w
 size : G.w.heap.size ≤ G'.w.heap.size
theorem KE.refl (G : Cx) : KE G G := ⟨.refl G, fun _ _ _ h => h, zcc.refl _, Nat.le_refl _⟩
theorem KE.trans {G H K : Cx} (h : KE G H) (k : KE H K) : KE G K := ⟨h.step.trans k.step, fun i y hi x => k.mu0 i y hi (h.mu0 i y hi x), h.rows.trans k.rows, Nat.le_trans h.size k.size⟩
theorem KE.of {G G' : Cx} (e : G.Ext G') : KE G G' := ⟨e.step, fun i y _ h => e.mu i y h, e.rows, e.size⟩
def liftK (N : Nat) (G : Cx) (Q : Exit → Frm → List Ob → Prop) : Exit → Act → World → Prop :=
 fun e a' w' => ∃ G' F' σ', G'.w = w' ∧ KE G G' ∧ S8 N G' a' F' σ' ∧ Q e F' σ'
theorem liftK_mono {N : Nat} {G G1 : Cx} (h : KE G G1) {Q Q' : Exit → Frm → List Ob → Prop} (hq : ∀ e F σ, Q e F σ → Q' e F σ) {e : Exit} {a : Act} {w : World} (x : liftK N G1 Q e a w) : liftK N G Q' e a w := by
 obtain ⟨G', F', σ', h1, h2, h3, h4⟩ := x
 exact ⟨G', F', σ', h1, h.trans h2, h3, hq _ _ _ h4⟩
def KWp (P : Program) (N : Nat) (c : Code) (F : Frm) (σ : List Ob) (Q : Exit → Frm → List Ob → Prop) : Prop :=
 ∀ G a, S8 N G a F σ → c.wp P (liftK N G Q) a G.w
def KOps (P : Program) (N : Nat) (ops : Array Oper) (l : List Oper) (F : Frm) (σ : List Ob) (Q : Exit → Frm → List Ob → Prop) : Prop :=
 ∀ G a, S8 N G a F σ → wpList P ops (liftK N G Q) l a G.w
section
variable {P : Program} {N : Nat} {F : Frm} {σ : List Ob} {Q : Exit → Frm → List Ob → Prop}
theorem kw_seq {x y : Code} (h : KWp P N x F σ (zeh (fun F σ => KWp P N y F σ Q) Q)) : KWp P N (.seq x y) F σ Q := fun G a hs => by
 refine wp_seq (Code.wp_mono (fun e a1 w1 q => ?_) (h G a hs))
 obtain ⟨G', F', σ', rfl, h2, h3, h4⟩ := q
 cases e with
 | normal => exact Code.wp_mono (fun e a w q => liftK_mono h2 (fun _ _ _ x => x) q) (h4 G' a1 h3)
 | _ => exact ⟨G', F', σ', rfl, h2, h3, h4⟩
theorem kw_skip (h : Q .normal F σ) : KWp P N .skip F σ Q := fun G a hs => wp_skip ⟨G, F, σ, rfl, .refl G, hs, h⟩
theorem kw_exit {id : Nat} (h : Q (.exit id) F σ) : KWp P N (.exit id) F σ Q := fun G a hs => wp_exit ⟨G, F, σ, rfl, .refl G, hs, h⟩
theorem kw_ret (h : Q .ret F σ) : KWp P N .ret F σ Q := fun G a hs => wp_ret ⟨G, F, σ, rfl, .refl G, hs, h⟩
theorem kw_block {id : Nat} {c : Code} (h : KWp P N c F σ (ABlk id Q)) : KWp P N (.block id c) F σ Q := fun G a hs => by
 refine wp_block (Code.wp_mono (fun e a1 w1 q => ?_) (h G a hs))
 obtain ⟨G', F', σ', rfl, h2, h3, h4⟩ := q
 cases e with
 | exit id' =>
  simp only [ABlk] at h4
  simp only [Exit.inBlock]
  split
  ·
   rename_i e; rw [if_pos e] at h4; exact ⟨G', F', σ', rfl, h2, h3, h4⟩
  ·
   rename_i e; rw [if_neg e] at h4; exact ⟨G', F', σ', rfl, h2, h3, h4⟩
 | _ => exact ⟨G', F', σ', rfl, h2, h3, h4⟩
theorem kw_cond {c : Operand} {x y : Code} {b : Bool} (hc : F.eval c = .s (.bool b)) (ht : b = true → KWp P N x F σ Q) (hf : b = false → KWp P N y F σ Q) : KWp P N (.cond c x y) F σ Q := fun G a hs =>
 wp_cond_split (zgx hs.fr hc) (fun e => ht e G a hs) (fun e => hf e G a hs)
theorem kw_true {c : Operand} {x y : Code} (hc : F.eval c = .s (.bool true)) (ht : KWp P N x F σ Q) : KWp P N (.cond c x y) F σ Q := kw_cond hc (fun _ => ht) (fun e => by cases e)
theorem kw_false {c : Operand} {x y : Code} (hc : F.eval c = .s (.bool false)) (ht : KWp P N y F σ Q) : KWp P N (.cond c x y) F σ Q := kw_cond hc (fun e => by cases e) (fun _ => ht)
theorem kw_loop {c : Code} (I : Nat → Frm → List Ob → Prop) (m : Nat) (h0 : I m F σ)
  (round : ∀ m F σ, I m F σ → KWp P N c F σ (zeh (fun F' σ' => ∃ m', m' < m ∧ I m' F' σ') Q)) : KWp P N (.loop c) F σ Q := fun G a hs => by
 refine wp_loop_ghost (fun n a w => ∃ G' F' σ', G'.w = w ∧ KE G G' ∧ S8 N G' a F' σ' ∧ I n F' σ') m ⟨G, F, σ, rfl, .refl G, hs, h0⟩ ?_
 rintro n a w ⟨G', F', σ', rfl, h2, h3, h4⟩
 refine Code.wp_mono (fun e a1 w1 q => ?_) (round n F' σ' h4 G' a h3)
 obtain ⟨G2, F2, σ2, rfl, h5, h6, h7⟩ := q
 cases e with
 | normal => obtain ⟨m', hm, hi⟩ := h7; exact ⟨m', hm, ⟨G2, F2, σ2, rfl, h2.trans h5, h6, hi⟩⟩
 | _ => exact ⟨G2, F2, σ2, rfl, h2.trans h5, h6, h7⟩
theorem kw_region {id : Nat} {l : List Oper} (h : KOps P N l.toArray l F σ Q) : KWp P N (.region id l.toArray false) F σ Q := fun G a hs => wp_region_lit (h G a hs)
theorem kw_mono {c : Code} {Q' : Exit → Frm → List Ob → Prop} (h : KWp P N c F σ Q) (hq : ∀ e F σ, Q e F σ → Q' e F σ) : KWp P N c F σ Q' := fun G a hs =>
 Code.wp_mono (fun e a w q => liftK_mono (.refl G) hq q) (h G a hs)
end
section
variable {P : Program} {N : Nat} {F : Frm} {σ σ' : List Ob} {Q : Exit → Frm → List Ob → Prop} {ops : Array Oper} {o : Oper} {l : List Oper} {x : AV}
theorem kops_nil (h : Q .normal F σ) : KOps P N ops [] F σ Q := fun G a hs => ⟨G, F, σ, rfl, .refl G, hs, h⟩
theorem kops_op {d : Nat} (hd : o.dst = some d) (hN : Nat.blt d N = true) (hr : Runs ops F o true) (hD : Does P o F σ x σ') (k : KOps P N ops l ((d, x) :: F) σ' Q) : KOps P N ops (o :: l) F σ Q := fun G a hs => by
 unfold wpList
 rw [if_pos (hr.wanted hs.fr)]
 left
 refine hD G a _ _ hs.rel (fun y _ => zc4 hs.fr y) (fun v G' e r hv => ?_)
 rw [hd]
 exact zcm (fun e' a w q => liftK_mono (KE.of e) (fun _ _ _ x => x) q) _ _ _ (k G' _ ((hs.step e r).put (by simpa [Nat.blt_eq] using hN) hv))
theorem kops_eff (hd : o.dst = none) (hr : Runs ops F o true) (hD : Does P o F σ x σ') (k : KOps P N ops l F σ' Q) : KOps P N ops (o :: l) F σ Q := fun G a hs => by
 unfold wpList
 rw [if_pos (hr.wanted hs.fr)]
 left
 refine hD G a _ _ hs.rel (fun y _ => zc4 hs.fr y) (fun v G' e r hv => ?_)
 rw [hd]
 exact zcm (fun e' a w q => liftK_mono (KE.of e) (fun _ _ _ x => x) q) _ _ _ (k G' _ (hs.step e r))
theorem kops_skip {d : Nat} (hd : o.dst = some d) (hN : Nat.blt d N = true) (hr : Runs ops F o false) (k : KOps P N ops l ((d, .s undef) :: F) σ Q) : KOps P N ops (o :: l) F σ Q := fun G a hs => by
 unfold wpList
 rw [if_neg (by rw [hr.wanted hs.fr]; simp)]
 rw [hd]
 exact k G _ (hs.put (by simpa [Nat.blt_eq] using hN) (.s _))
end
def WeakK (N : Nat) (F : Frm) (σ : List Ob) (F' : Frm) (σ' : List Ob) : Prop := ∀ G a, S8 N G a F σ → ∃ G', G'.w = G.w ∧ KE G G' ∧ S8 N G' a F' σ'
theorem WeakK.refl {N : Nat} {F : Frm} {σ : List Ob} : WeakK N F σ F σ := fun G a h => ⟨G, rfl, .refl G, h⟩
section
variable {P : Program} {N : Nat} {F F' : Frm} {σ σ' : List Ob} {Q : Exit → Frm → List Ob → Prop}
theorem kw_weak {c : Code} (w : WeakK N F σ F' σ') (h : KWp P N c F' σ' Q) : KWp P N c F σ Q := fun G a hs => by
 obtain ⟨G1, e1, s1, h1⟩ := w G a hs
 rw [← e1]
 exact Code.wp_mono (fun e a w q => liftK_mono s1 (fun _ _ _ x => x) q) (h G1 a h1)
theorem kw_loops {c : Code} {S : Type} (fr : S → Frm) (st : S → List Ob) (inv : S → Prop) (ms : S → Nat) (s0 : S) (hw : WeakK N F σ (fr s0) (st s0)) (h0 : inv s0)
  (round : ∀ s, inv s → KWp P N c (fr s) (st s) (zeh (fun F' σ' => ∃ s', inv s' ∧ ms s' < ms s ∧ WeakK N F' σ' (fr s') (st s')) Q)) : KWp P N (.loop c) F σ Q := by
 refine kw_weak hw (kw_loop (fun m F σ => ∃ s, inv s ∧ ms s = m ∧ WeakK N F σ (fr s) (st s)) (ms s0) ⟨s0, h0, rfl, WeakK.refl⟩ (fun m F σ h => ?_))
 obtain ⟨s, h1, rfl, h3⟩ := h
 refine kw_weak h3 (kw_mono (round s h1) (fun e F σ q => ?_))
 cases e with
 | normal => obtain ⟨s', g1, g2, g3⟩ := q; exact ⟨ms s', g2, s', g1, rfl, g3⟩
 | _ => exact q
variable {ops : Array Oper} {o : Oper} {l : List Oper} {d : Nat}
theorem kops_opP {p : Prop} [Decidable p] (hd : o.dst = some d) (hN : Nat.blt d N = true) (hr : Runs ops F o true) (hD : Does P o F σ (.s (.bool (decide p))) σ) (k1 : p → KOps P N ops l ((d, .s (.bool true)) :: F) σ Q) (k2 : ¬ p → KOps P N ops l ((d, .s (.bool false)) :: F) σ Q) : KOps P N ops (o :: l) F σ Q := by
 by_cases h : p
 ·
  exact kops_op hd hN hr (zdc h hD) (k1 h)
 ·
  exact kops_op hd hN hr (zeg h hD) (k2 h)
end
section
variable {N : Nat} {F F' : Frm} {σ σ' : List Ob}
theorem WeakK.trans {F1 F2 : Frm} {σ1 σ2 : List Ob} (h : WeakK N F σ F1 σ1) (k : WeakK N F1 σ1 F2 σ2) : WeakK N F σ F2 σ2 := fun G a hs => by
 obtain ⟨G1, e1, s1, h1⟩ := h G a hs
 obtain ⟨G2, e2, s2, h2⟩ := k G1 a h1
 exact ⟨G2, e2.trans e1, s1.trans s2, h2⟩
theorem kwk_froz {id sz : Nat} {cs : List AV} (hs : σ[id]? = some (.row sz cs)) : WeakK N F σ F (σ.set id (.fz sz cs)) := fun G a h => by
 obtain ⟨h1, h2⟩ := zjs h.rel hs
 exact ⟨G.froz id, rfl, KE.of h1, h.step h1 h2⟩
theorem kwk_ref {d id sz k : Nat} {cs : List AV} {e : AV} (hd : F.get d = .ptr id sz k 0) (hs : σ[id]? = some (.fz sz cs)) (he : cs[k]? = some e) : WeakK N F σ ((d, .ref e.cells) :: F) σ := fun G a h =>
 ⟨G, rfl, .refl G, h.rel, h.fr.more (zk1 h.rel hs he (by rw [← hd]; exact h.fr d)), h.df, h.nt⟩
theorem kwk_st (ρ : List Nat) (h0 : ρ[0]? = some 0) (hn : ρ.Nodup) (hs : StL ρ σ ρ σ') (hf : FrRn F ρ F') : WeakK N F σ F' σ' := fun G a h =>
 ⟨G.ren ρ, rfl, ⟨⟨rfl, rfl, fun _ _ h => h, fun _ _ _ => rfl, fun _ _ h => .inl h, rfl, fun _ _ h => .inl h, fun _ _ h _ => h⟩, fun i y hi hy => by
  match i, hi with
  | 0, _ => simp [Cx.ren, h0, hy], zcc.refl _, Nat.le_refl _⟩, ⟨zk3 h.rel hn (zjh ρ σ' hs), zjt h.fr F' hf, h.df, h.nt⟩⟩
end
section
variable {P : Program} {σ σ' : List Ob} {f : FuncId} {y : AV} {args : List AV}
theorem callE_fn {fn : Func} {c : Code} (hl : σ.length ≤ 1) (hf : P.funcs[f]? = some fn) (hname : (fn.name == "runtime.NumGoroutine") = false) (hb : fn.body = some c) (hn : args.length ≤ fn.ntmps)
  (h : KWp P fn.ntmps c (argF 0 args) σ (fun e F σ1 => (e = .normal ∨ e = .ret) ∧ σ1 = σ' ∧ ∃ xs, ResL P F σ1 fn.results.toList xs ∧ zkb xs = y)) : CallE P f args σ y σ' := by
 refine ⟨zfh hf hname hb, fun G vargs hrel hsz hrep => ?_⟩
 refine calls_of_wp hf hb ?_
 have hfo : FOk G { tmps := vargs ++ Array.replicate (fn.ntmps - vargs.size) undef, defers := [] } (argF 0 args) := by
  intro d
  rw [zgd]
  simp only [Nat.zero_le, if_true, Nat.sub_zero]
  by_cases hd : d < args.length
  ·
   have h1 : (vargs ++ Array.replicate (fn.ntmps - vargs.size) undef).getD d undef = vargs[d]'(by omega) := by
    rw [Array.getD_eq_getD_getElem?, Array.getElem?_append_left (by omega)]
    simp [show d < vargs.size by omega]
   rw [h1]
   have h2 : args.getD d .any = args[d] := by rw [List.getD_eq_getElem?_getD, List.getElem?_eq_getElem hd]; rfl
   rw [h2]
   exact hrep d _ _ (by simp [show d < vargs.size by omega]) (by simp [hd])
  ·
   have h2 : args.getD d .any = .any := by
    rw [List.getD_eq_getElem?_getD, List.getElem?_eq_none (by omega)]; rfl
   rw [h2]; exact .any _
 have hs8 : S8 fn.ntmps G { tmps := vargs ++ Array.replicate (fn.ntmps - vargs.size) undef, defers := [] } (argF 0 args) σ := ⟨hrel, hfo, .nil, by simp; omega⟩
 refine Code.wp_mono (fun e a w q => ?_) (h G _ hs8)
 obtain ⟨G', F', σ1, rfl, h2, h3, he, rfl, xs, hrl, hy⟩ := q
 obtain ⟨v, h6, h7⟩ := zdk (fn := fn) h3.rel h3.fr hrl
 rw [hy] at h7
 have hext : G.Ext G' := ⟨h2.step.base, h2.step.w0, h2.step.st, h2.step.cell, fun id x hx => by
  by_cases hid : id < 1
  ·
   exact h2.mu0 id x hid hx
  ·
   rw [hrel.fresh id (by omega)] at hx; exact absurd hx (by simp), h2.size, h2.rows, h2.step.stN, h2.step.pr, h2.step.prN, h2.step.oth⟩
 have post : ∃ (v' : Value) (G'' : Cx), Ending.returned v = .returned v' ∧ G''.w = G'.w ∧ G.Ext G'' ∧ Rel G'' σ1 ∧ Rep G'' v' y := ⟨v, G', rfl, rfl, hext, h3.rel, h7⟩
 rcases he with rfl | rfl
 ·
  exact ⟨h3.df.1, _, h6, post⟩
 ·
  exact ⟨h3.df.1, _, h6, post⟩
theorem callE_fn1 {fn : Func} {c : Code} {t : Nat} (hl : σ.length ≤ 1) (hf : P.funcs[f]? = some fn) (hname : (fn.name == "runtime.NumGoroutine") = false) (hb : fn.body = some c) (hn : args.length ≤ fn.ntmps) (hres : fn.results.toList = [.tmp t])
  (h : KWp P fn.ntmps c (argF 0 args) σ (fun e F σ1 => (e = .normal ∨ e = .ret) ∧ F.get t = y ∧ σ1 = σ')) : CallE P f args σ y σ' :=
 callE_fn hl hf hname hb hn (kw_mono h (fun e F σ1 ⟨h1, h2, h3⟩ => ⟨h1, h3, [y], by rw [hres]; exact .cons _ _ _ _ (.tmp t y h2) .nil, rfl⟩))
end
theorem kwk_sub {N : Nat} {F : Frm} {σ : List Ob} : ∀ {F'}, Sub F F' → WeakK N F σ F' σ := fun {F'} h G a hs => by
 refine ⟨G, rfl, .refl G, hs.rel, ?_, hs.df, hs.nt⟩
 have key : ∀ F', Sub F F' → FOk G a F' := by
  intro F'
  induction F' with
  | nil => intro _ d; exact .any _
  | cons p F' ih =>
   obtain ⟨d, y⟩ := p
   intro h t
   simp only [Frm.get]
   cases e : Nat.beq d t with
   | true => have := Nat.eq_of_beq_eq_true e; subst this; rw [← h.1]; exact hs.fr d
   | false => exact ih h.2 t
 exact key F' h
theorem kw_of {P : Program} {N : Nat} {F : Frm} {σ : List Ob} {Q : Exit → Frm → List Ob → Prop} {c : Code} (h : EWp P N c F σ Q) : KWp P N c F σ Q := fun G a hs =>
 Code.wp_mono (fun e a w q => by obtain ⟨G', F', σ', h1, h2, h3, h4⟩ := q; exact ⟨G', F', σ', h1, KE.of h2, h3, h4⟩) (h G a hs)
theorem kw_draw {P : Program} {N : Nat} {l : List Oper} {F : Frm} {σ : List Ob} {Q : Exit → Frm → List Ob → Prop} {id : Nat} (hm : P.follows .mixedOrders = true) (h : zjz P N l F σ Q) : KWp P N (.region id l.toArray true) F σ Q := kw_of (znz hm h)
theorem kdraw_ex {P : Program} {N : Nat} {l : List Oper} {F : Frm} {σ : List Ob} {Q : Exit → Frm → List Ob → Prop} (h : EX P N l.toArray l [] l F σ (fun F' σ' => Q .normal F' σ')) : zjz P N l F σ Q := by
 obtain ⟨F', σ', out, ks, sts, h1, h2, h3⟩ := h
 exact ze8 h1 (by simpa using h2) h3
section
variable {P : Program} {N : Nat} {F : Frm} {σ : List Ob} {Q : Exit → Frm → List Ob → Prop} {ops : Array Oper} {o : Oper} {l : List Oper} {d : Nat} {x : AV}
theorem kops_s (h : stv (opv o.op F) N ops o F = some (d, x)) (k : KOps P N ops l ((d, x) :: F) σ Q) : KOps P N ops (o :: l) F σ Q := kops_op (zbo h).1 (zbo h).2.1 (zbo h).2.2.1 (zg0 (zbo h).2.2.2) k
theorem kops_f {t f off n ft : Nat} (hf : zca P t f = some (off, ft, some n)) (h : stv (fdv o.op t f off n F) N ops o F = some (d, x)) (k : KOps P N ops l ((d, x) :: F) σ Q) : KOps P N ops (o :: l) F σ Q := kops_op (zbo h).1 (zbo h).2.1 (zbo h).2.2.1 (zhc hf (zbo h).2.2.2) k
theorem kops_l {t : Nat} (ha : zc8 P t = some false) (h : stv (ldv o.op t F) N ops o F = some (d, x)) (k : KOps P N ops l ((d, x) :: F) σ Q) : KOps P N ops (o :: l) F σ Q := kops_op (zbo h).1 (zbo h).2.1 (zbo h).2.2.1 (zg7 ha (zbo h).2.2.2) k
theorem kops_w {t n bt : Nat} {z : Option Value} (ha : zc8 P t = some true) (hi : zb5 P t = some (z, n, bt)) (h : stv (lwv o.op t n F) N ops o F = some (d, x)) (k : KOps P N ops l ((d, x) :: F) σ Q) : KOps P N ops (o :: l) F σ Q := kops_op (zbo h).1 (zbo h).2.1 (zbo h).2.2.1 (zg6 ha hi (zbo h).2.2.2) k
theorem kops_z (h : stz N ops o F = some d) (k : KOps P N ops l ((d, .s undef) :: F) σ Q) : KOps P N ops (o :: l) F σ Q := kops_skip (ze5 h).1 (ze5 h).2.1 (ze5 h).2.2 k
end
theorem kw_join {P : Program} {N : Nat} {F : Frm} {σ : List Ob} {Q : Exit → Frm → List Ob → Prop} {c c2 c3 : Code} (F1 : Frm) (σ1 : List Ob)
  (h : KWp P N c F σ (zeh (fun F σ => KWp P N c2 F σ (zeh (fun F' σ' => WeakK N F' σ' F1 σ1) Q)) (zeh (fun F' σ' => WeakK N F' σ' F1 σ1) Q)))
  (k : KWp P N c3 F1 σ1 Q) : KWp P N c F σ (zeh (fun F σ => KWp P N c2 F σ (zeh (fun F σ => KWp P N c3 F σ Q) Q)) (zeh (fun F σ => KWp P N c3 F σ Q) Q)) := by
 have w : ∀ e F σ, zeh (fun F' σ' => WeakK N F' σ' F1 σ1) Q e F σ → zeh (fun F σ => KWp P N c3 F σ Q) Q e F σ := fun e F σ q => by
  cases e with
  | normal => exact kw_weak q k
  | _ => exact q
 refine kw_mono h (fun e F σ q => ?_)
 cases e with
 | normal => exact kw_mono q w
 | _ => first | exact w .ret F σ q | exact w (.exit _) F σ q | exact w (.goto _) F σ q | exact w (.panic _) F σ q | exact w .outgrown F σ q
end Aw.K1
namespace Aw
open Go Go.RowKit Go.Proofs
theorem zyh {P : Program} {f : FuncId} {args : List AV} {m sz n : Nat} {σ' : List Ob} {cs : List AV} (hc : CallE P f args [] (.own m sz n) σ') (hm : σ'[m]? = some (.row sz cs)) (hn : n = cs.length) (hpos : 0 < n)
  (hcs : ∀ e ∈ cs, ∀ c ∈ e.cells, ∃ u, c = .s u) (hlo : ∀ a ∈ args, Lo 0 a) : PureO P f args sz cs := by
 refine ⟨hc.ent, fun G vargs hst hsz hrep => ?_⟩
 let G0 : Cx := { base := G.w.heap.size, w0 := G.w, w := G.w, mu := fun _ => none, St := G.St }
 have hrel : Rel G0 [] := ⟨⟨Below.refl _ _, hst.tab, hst.tab.lt⟩, Nat.le_refl _, fun b o h => h.elim (hst.st b o) False.elim, by simp, by rintro i j b ⟨_, _, h⟩; simp at h, fun _ _ => rfl⟩
 refine (hc.call G0 vargs hrel hsz (fun j v x h1 h2 => (hrep j v x h1 h2).low (hlo x (List.mem_of_getElem? h2)) (fun _ _ h => h) (fun _ _ _ => rfl) (fun id y hid => by omega) (fun h => by omega))).mono ?_
 rintro e w' ⟨v, G', rfl, rfl, he, hr', hv⟩
 refine ⟨v, rfl, ?_, .inr ?_⟩
 ·
  have h1 := hr'.below.toBelow
  rw [he.base, he.w0] at h1
  exact h1
 ·
  cases hv with
  | own0 id sz A hA hm => omega
  | own id sz n b cap hmu hle hcap hb =>
   have h1 := hr'.obs m _ hm
   simp only [ObOk, hmu] at h1
   obtain ⟨⟨cur, te, fr, g1, g2, g3, g4⟩, g5, g6⟩ := h1
   obtain ⟨cur2, e2, f2, k1, k2⟩ := hb
   rw [g1] at k1
   obtain ⟨rfl, rfl, rfl⟩ : cur = cur2 ∧ te = e2 ∧ fr = f2 := by cases k1; exact ⟨rfl, rfl, rfl⟩
   rw [g2] at g1
   rw [he.base] at g5
   subst hn
   refine ⟨b, cap, cur, te, rfl, g5, g1, k2, hle, hcap, fun k e hk => ?_⟩
   obtain ⟨q1, q2, q3⟩ := g4 k e hk
   refine ⟨q1, fun j c hj => ?_⟩
   obtain ⟨u, hu⟩ := hcs e (List.mem_of_getElem? hk) c (List.mem_of_getElem? hj)
   subst hu
   obtain ⟨v2, q4, q5⟩ := q3 j _ hj
   cases q5
   exact ⟨_, q4, rfl, q2 _ (List.mem_of_getElem? hj)⟩
variable {P : Program} [IsP P]
def eW (n : Int) : AV := .s (.int .u64 n)
theorem lo32 (n : Nat) (h : n < 2001) : zxh .and .u64 (n : Int) 4294967295 = n := by
 have e1 : (BitVec.ofInt 64 (n : Int)).toNat = n := by rw [BitVec.ofInt_natCast, BitVec.toNat_ofNat, Nat.mod_eq_of_lt (by omega)]
 have e2 : (BitVec.ofInt 64 4294967295).toNat = 2 ^ 32 - 1 := by decide
 show IntKind.u64.wrap (((BitVec.ofInt 64 (n : Int) &&& BitVec.ofInt 64 4294967295).toNat : Nat) : Int) = n
 rw [BitVec.toNat_and, e1, e2, Nat.and_two_pow_sub_one_eq_mod, Nat.mod_eq_of_lt (by omega)]
 exact IntWalk.u64_in _ (by omega)
theorem hi32 (n : Nat) (h : n < 2001) : (n : Int).fdiv (2 ^ min (32 : Int).toNat IntKind.u64.bits) = 0 := by
 have e : (2 : Int) ^ min (32 : Int).toNat IntKind.u64.bits = 4294967296 := by decide
 rw [e]
 have : (n : Int).fdiv 4294967296 = ((n / 4294967296 : Nat) : Int) := by
  rw [Int.fdiv_eq_ediv_of_nonneg _ (by omega)]; rfl
 rw [this, Nat.div_eq_of_lt (by omega)]; rfl
theorem zyr (n : Nat) (h : n < 2001) : Pure P 145 [eW 1, eW n] (.tup [eW 0, eW n]) := by
 have h1 : zxh .and .u64 1 4294967295 = 1 := by decide
 have h2 : (1 : Int).fdiv (2 ^ min (32 : Int).toNat IntKind.u64.bits) = 0 := by decide
 have h3 := lo32 n h
 have h4 := hi32 n h
 have h5 : IntKind.u64.wrap (1 * (n : Int)) = n := by rw [Int.one_mul]; exact IntWalk.u64_in _ (by omega)
 have h6 : IntKind.u64.wrap (0 * (n : Int)) = 0 := by rw [Int.zero_mul]; decide
 have h7 : IntKind.u64.wrap (0 + 0) = 0 := by decide
 have h8 : zxh .and .u64 0 4294967295 = 0 := by decide
 have h9 : (0 : Int).fdiv (2 ^ min (32 : Int).toNat IntKind.u64.bits) = 0 := by decide
 have h10 : IntKind.u64.wrap (1 * 0) = 0 := by decide
 have h11 : IntKind.u64.wrap (0 * 0) = 0 := by decide
 refine zcl (by rw [IsP.eq (P := P)]; exact Tryz.func145) rfl rfl rfl rfl rfl (zah (.s _) (zah (.s _) zak)) (.tup _ (zah (.s _) (zah (.s _) zak))) (by simp only [argF]; rfl) ?_
 refine zag (zab (zac rfl (zac rfl (zad (zag (zab (zac rfl (zaf rfl rfl (zaa rfl) (zl0 rfl (.inl rfl) rfl rfl h1) (zac rfl (zad (zag (zab (zac rfl (zaf rfl rfl (zaa rfl) (zgq rfl rfl rfl (by decide) (.inl ⟨rfl, h2⟩)) (zac rfl (zad (zag (zab (zac rfl (zaf rfl rfl (zaa rfl) (zl0 rfl (.inl rfl) rfl rfl h3) (zac rfl (zad (zag (zab (zac rfl (zaf rfl rfl (zaa rfl) (zgq rfl rfl rfl (by decide) (.inl ⟨rfl, h4⟩)) (zac rfl (zad (zag ?_)))))))))))))))))))))))))))))
 refine zab (zac rfl (zac rfl (zaf rfl rfl (zaa rfl) (zja rfl rfl rfl h5) (zac rfl (zad (zag (zab (zac rfl (zac rfl (zaf rfl rfl (zaa rfl) (zja rfl rfl rfl h6) (zac rfl (zaf rfl rfl (zaa rfl) (zgq rfl rfl rfl (by decide) (.inl ⟨rfl, h4⟩)) (zaf rfl rfl (zaa rfl) (zax rfl rfl rfl h7) (zac rfl (zad (zag (zab (zac rfl (zaf rfl rfl (zaa rfl) (zl0 rfl (.inl rfl) rfl rfl h8) (zac rfl (zad (zag (zab (zac rfl (zaf rfl rfl (zaa rfl) (zgq rfl rfl rfl (by decide) (.inl ⟨rfl, h9⟩)) ?_)))))))))))))))))))))))))
 refine zac rfl (zad (zag (zab (zac rfl (zac rfl (zac rfl (zaf rfl rfl (zaa rfl) (zja rfl rfl rfl h10) (zaf rfl rfl (zaa rfl) (zax rfl rfl rfl h7) (zac rfl (zad (zag (zab (zac rfl (zac rfl (zaf rfl rfl (zaa rfl) (zja rfl rfl rfl h11) (zac rfl (zaf rfl rfl (zaa rfl) (zax rfl rfl rfl h7) (zac rfl (zaf rfl rfl (zaa rfl) (zgq rfl rfl rfl (by decide) (.inl ⟨rfl, h9⟩)) (zaf rfl rfl (zaa rfl) (zax rfl rfl rfl h7) (zac rfl (zad (zag (zab (zac rfl ?_)))))))))))))))))))))))))
 refine zac rfl (zaf rfl rfl (zaa rfl) (zja rfl rfl rfl h5) (zac rfl (zad (zai ?_))))
 (refine za7 ?_; repeat (first | refine zbc ?_ | refine zbe ?_))
 exact zqt (.inr rfl) rfl rfl (.refl _) (.refl _)
theorem mul_pf (n : Nat) (h : n < 2001) : Pure P 119 [eW 1, eW n] (.tup [eW 0, eW n]) := by
 have hm := zyr (P := P) n h
 refine zcl (by rw [IsP.eq (P := P)]; exact Tryz.func119) rfl rfl rfl rfl rfl (zah (.s _) (zah (.s _) zak)) (.tup _ (zah (.s _) (zah (.s _) zak))) (by simp only [argF]; rfl) ?_
 refine zag (zab (zac rfl (zac rfl (zad (zag (zau rfl (zar (zag (zab (zac rfl (zac rfl (zaf rfl rfl (zaa rfl) (zam rfl rfl (hm) (zae rfl (zae rfl zap))) (zac rfl (zac rfl (zac rfl (zac rfl (zac rfl (zad (zag (zab (zac rfl (zac rfl (zac rfl (zac rfl (zad (zai ?_))))))))))))))))))))))))))
 (refine za7 ?_; repeat (first | refine zbc ?_ | refine zbe ?_))
 exact zqt (.inr rfl) rfl rfl (.refl _) (.refl _)
def repR (a : Int) (n m : Nat) : List AV := List.replicate m (eI a) ++ List.replicate (n - m) (eI 0)
theorem zyb {a : Int} {n m : Nat} (h : m ≤ n) : (repR a n m).length = n := by simp [repR]; omega
theorem zu6 {a : Int} {n m : Nat} (h : m ≤ n) : laid (repR a n m) m (((repR a n m).take m).take (n - m)) = repR a n (m + min m (n - m)) := by
 have e1 : (repR a n m).take m = List.replicate m (eI a) := by unfold repR; rw [List.take_append_of_le_length (by simp), List.take_of_length_le (by simp)]
 unfold laid
 rw [e1, List.take_replicate]
 have e2 : (repR a n m).drop (m + (List.replicate (min (n - m) m) (eI a)).length) = List.replicate (n - (m + min m (n - m))) (eI 0) := by
  unfold repR
  rw [List.length_replicate, List.drop_append, List.length_replicate, List.drop_of_length_le (by simp), List.nil_append, List.drop_replicate]
  congr 1; omega
 rw [e2, List.replicate_append_replicate]
 unfold repR
 congr 2; omega
theorem zv4 (a : Int) (n m : Nat) : ∀ e ∈ repR a n m, ∀ c ∈ e.cells, Lo 0 c := fun e he => by
 unfold repR at he
 rcases List.mem_append.1 he with he | he
 ·
  rw [List.eq_of_mem_replicate he]; exact (by intro c hc; simp [eI, AV.cells] at hc; subst hc; exact .s _)
 ·
  rw [List.eq_of_mem_replicate he]; exact (by intro c hc; simp [eI, AV.cells] at hc; subst hc; exact .s _)
namespace K1
set_option maxHeartbeats 2000000 in
theorem repI_call (a : Int) (n : Nat) (h : 1 ≤ n ∧ n ≤ 2000) : CallE P 72 [eL eI [a], eI n] [] (.own 0 1 n) [.row 1 (List.replicate n (eI a))] := by
 have hm := mul_pf (P := P) n (by omega)
 have hl1 : IntKind.u64.wrap ((([a] : List Int).length : Nat) : Int) = 1 := by show IntKind.u64.wrap 1 = 1; decide
 have hmin : (List.map eI [a]).length.min n = 1 := by show min 1 n = 1; omega
 refine callE_fn1 (by simp) (by rw [IsP.eq (P := P)]; exact Tryz.func72) rfl rfl (Nat.le_of_ble_eq_true rfl) rfl ?_
 simp only [argF]
 refine kw_seq (kw_region (kops_s rfl (kops_nil (kw_seq (kw_seq (kw_region (kops_s rfl (kops_op rfl rfl (zaa rfl) (zeg (by omega) (za2 rfl rfl rfl)) (kops_nil (zai (kw_false rfl (kw_skip (kw_seq (kw_region (kops_s rfl (kops_op rfl rfl (zaa rfl) (zao rfl ts29 rfl) (kops_op rfl rfl (zaa rfl) (zlz rfl tu3 tk164 rfl hl1) (kops_s rfl (kops_op rfl rfl (zaa rfl) (zlz rfl tu3 tk164 rfl (IntWalk.u64_in _ (by omega))) (kops_op rfl rfl (zaa rfl) (zam rfl rfl (hm) (zae rfl (zae rfl zap))) (kops_s rfl (kops_s rfl ?_))))))))))))))))))))))
 refine kops_s rfl (kops_s rfl (kops_s rfl (kops_nil (kw_seq (kw_seq (kw_region (kops_s rfl (kops_op rfl rfl (zaa rfl) (zeg (by decide) (zb0 rfl rfl rfl)) (kops_s rfl (kops_s rfl (kops_op rfl rfl (zat rfl rfl rfl) (zeg (by omega) (zb0 rfl rfl rfl)) (kops_s rfl (kops_nil (zai (kw_false rfl (kw_skip (kw_seq (kw_region (kops_s rfl (kops_op rfl rfl (zaa rfl) (zlz rfl tu164 tk3 rfl (IntWalk.i64_in _ (by omega))) (kops_op rfl rfl (zaa rfl) (zw0 rfl ts29 ti3 rfl rfl (by decide) rfl rfl rfl rfl (by omega) (by omega) (by omega)) (kops_s rfl ?_))))))))))))))))))))))
 refine kops_nil (kw_seq (kw_region (kops_s rfl (kops_s rfl ?_))))
 refine kops_op rfl rfl (zaa rfl) (zp6 (k := 0) (n := n) rfl ts29 ti3 (by decide) rfl (.own rfl) rfl (by simp) rfl (.sl _ (by intro e he; simp at he; subst he; rfl))) ?_
 refine kops_s rfl (kops_nil (kw_seq (kw_block ?_)))
 rw [hmin]
 have hst : laid (List.replicate n (eI 0)) 0 ([eI a].take n) = repR a n 1 := by
  obtain ⟨k, rfl⟩ : ∃ k, n = k + 1 := ⟨n - 1, by omega⟩
  simp [laid, repR, List.replicate_succ]
 refine kw_loops (S := Nat) (fun m => [(7, .own 0 1 n), (8, eI m)]) (fun m => [.row 1 (repR a n m)]) (fun m => 1 ≤ m ∧ m ≤ n) (fun m => n - m) 1
  (kwk_st [0] rfl (by decide) ⟨⟨_, rfl, .rowE (zv4 _ _ _) hst⟩, trivial⟩ ⟨.own 0 0 1 _ _ rfl rfl, .lo _ (.s _), trivial⟩) ⟨by omega, by omega⟩ (fun m hm => ?_)
 have hrl := zyb (a := a) hm.2
 have hst2 := zu6 (a := a) hm.2
 refine kw_seq (kw_seq (kw_region (kops_s rfl (kops_s rfl (kops_op rfl rfl (zaa rfl) (zc7 rfl ts29 rfl) ?_)))))
 refine kops_opP rfl rfl (zaa rfl) (za2 rfl rfl rfl) (fun h37 => ?_) (fun h37 => ?_)
 all_goals refine kops_nil (zai ?_)
 all_goals (first | refine kw_true rfl ?_ | refine kw_false rfl ?_)
 all_goals (repeat (first | refine zai ?_ | refine kw_skip ?_ | refine kw_block ?_))
 ·
  have hmin2 : ((repR a n m).take m).length.min (n - m) = min m (n - m) := by
   rw [List.length_take, hrl, Nat.min_eq_left hm.2]
  have hw : IntKind.i64.wrap ((m : Int) + ((((repR a n m).take m).length.min (n - m) : Nat) : Int)) = ((m + min m (n - m) : Nat) : Int) := by
   rw [hmin2, IntWalk.i64_in _ (by omega)]; rfl
  refine kw_draw hmix ?_
  refine kdraw_ex ?_
  refine ex_s rfl (ex_s rfl (ex_s rfl (zay rfl rfl (zaa rfl) (fun _ => (zn3 rfl ts29 ti3 rfl rfl (by omega) rfl rfl (by omega))) (ex_s rfl (ex_s rfl (zay rfl rfl (zaa rfl) (fun _ => (zmc rfl ts29 ti3 rfl rfl rfl (by omega))) ?_))))))
  refine zc9 (W := [0]) rfl rfl (zaa rfl) (zp6 (k := m) (n := n - m) rfl ts29 ti3 (by decide) rfl .sub rfl (by rw [hrl]; omega) rfl (.pre 0 _ _ rfl rfl m (by rw [hrl]; omega))) (fun _ h => zbw h) ?_
  refine zay rfl rfl (zaa rfl) (fun _ => (zax rfl rfl rfl hw)) (ex_s rfl ?_)
  refine zcf (by kernel_rfl) ?_
  refine zbl (zai ?_)
  exact ⟨m + min m (n - m), ⟨by omega, by omega⟩, by omega, kwk_st [0] rfl (by decide) ⟨⟨_, rfl, .rowE (zv4 _ _ _) hst2⟩, trivial⟩ ⟨.own 0 0 1 _ _ rfl rfl, .lo _ (.s _), trivial⟩⟩
 ·
  have ei : m = n := by omega
  subst ei
  (refine kw_exit ?_; repeat (first | refine zcr ?_ | refine zbt ?_ | refine zbk rfl ?_ | refine zbl ?_ | refine zai ?_ | refine kw_seq ?_ | refine kw_skip ?_ | refine kw_block ?_))
  refine kw_region (kops_s rfl (kops_s rfl (kops_nil (zai ?_))))
  (refine kw_ret ?_; repeat (first | refine zbc ?_ | refine zbe ?_))
  exact ⟨.inr rfl, rfl, by simp [repR]⟩
end K1
theorem z04 {a : Int} {n : Nat} (h : 1 ≤ n ∧ n ≤ 2000) : PureO P 72 [eL eI [a], eI n] 1 (List.replicate n (eI a)) :=
 zyh (K1.repI_call a n h) rfl (by simp) (by omega) (fun e he c hc => by rw [List.eq_of_mem_replicate he] at hc; simp [eI, AV.cells] at hc; exact ⟨_, hc⟩) (zah (zan fun _ => .s _) (zah (.s _) zak))
end Aw
namespace Aw.K0
open Go Go.RowKit Go.Proofs
structure KE (G G' : Cx) : Prop where
 step : G.Step G'
 mu0 : ∀ i y, i < 0 → G.mu i = some y → G'.mu i = some y
 rows : zcc G.w G'.w
 size : G.w.heap.size ≤ G'.w.heap.size
theorem KE.refl (G : Cx) : KE G G := ⟨.refl G, fun _ _ _ h => h, zcc.refl _, Nat.le_refl _⟩
theorem KE.trans {G H K : Cx} (h : KE G H) (k : KE H K) : KE G K := ⟨h.step.trans k.step, fun i y hi x => k.mu0 i y hi (h.mu0 i y hi x), h.rows.trans k.rows, Nat.le_trans h.size k.size⟩
theorem KE.of {G G' : Cx} (e : G.Ext G') : KE G G' := ⟨e.step, fun i y _ h => e.mu i y h, e.rows, e.size⟩
def liftK (N : Nat) (G : Cx) (Q : Exit → Frm → List Ob → Prop) : Exit → Act → World → Prop :=
 fun e a' w' => ∃ G' F' σ', G'.w = w' ∧ KE G G' ∧ S8 N G' a' F' σ' ∧ Q e F' σ'
theorem liftK_mono {N : Nat} {G G1 : Cx} (h : KE G G1) {Q Q' : Exit → Frm → List Ob → Prop} (hq : ∀ e F σ, Q e F σ → Q' e F σ) {e : Exit} {a : Act} {w : World} (x : liftK N G1 Q e a w) : liftK N G Q' e a w := by
 obtain ⟨G', F', σ', h1, h2, h3, h4⟩ := x
 exact ⟨G', F', σ', h1, h.trans h2, h3, hq _ _ _ h4⟩
def KWp (P : Program) (N : Nat) (c : Code) (F : Frm) (σ : List Ob) (Q : Exit → Frm → List Ob → Prop) : Prop :=
 ∀ G a, S8 N G a F σ → c.wp P (liftK N G Q) a G.w
def KOps (P : Program) (N : Nat) (ops : Array Oper) (l : List Oper) (F : Frm) (σ : List Ob) (Q : Exit → Frm → List Ob → Prop) : Prop :=
 ∀ G a, S8 N G a F σ → wpList P ops (liftK N G Q) l a G.w
section
variable {P : Program} {N : Nat} {F : Frm} {σ : List Ob} {Q : Exit → Frm → List Ob → Prop}
theorem kw_seq {x y : Code} (h : KWp P N x F σ (zeh (fun F σ => KWp P N y F σ Q) Q)) : KWp P N (.seq x y) F σ Q := fun G a hs => by
 refine wp_seq (Code.wp_mono (fun e a1 w1 q => ?_) (h G a hs))
 obtain ⟨G', F', σ', rfl, h2, h3, h4⟩ := q
 cases e with
 | normal => exact Code.wp_mono (fun e a w q => liftK_mono h2 (fun _ _ _ x => x) q) (h4 G' a1 h3)
 | _ => exact ⟨G', F', σ', rfl, h2, h3, h4⟩
theorem kw_skip (h : Q .normal F σ) : KWp P N .skip F σ Q := fun G a hs => wp_skip ⟨G, F, σ, rfl, .refl G, hs, h⟩
theorem kw_exit {id : Nat} (h : Q (.exit id) F σ) : KWp P N (.exit id) F σ Q := fun G a hs => wp_exit ⟨G, F, σ, rfl, .refl G, hs, h⟩
theorem kw_ret (h : Q .ret F σ) : KWp P N .ret F σ Q := fun G a hs => wp_ret ⟨G, F, σ, rfl, .refl G, hs, h⟩
theorem kw_block {id : Nat} {c : Code} (h : KWp P N c F σ (ABlk id Q)) : KWp P N (.block id c) F σ Q := fun G a hs => by
 refine wp_block (Code.wp_mono (fun e a1 w1 q => ?_) (h G a hs))
 obtain ⟨G', F', σ', rfl, h2, h3, h4⟩ := q
 cases e with
 | exit id' =>
  simp only [ABlk] at h4
  simp only [Exit.inBlock]
  split
  ·
   rename_i e; rw [if_pos e] at h4; exact ⟨G', F', σ', rfl, h2, h3, h4⟩
  ·
   rename_i e; rw [if_neg e] at h4; exact ⟨G', F', σ', rfl, h2, h3, h4⟩
 | _ => exact ⟨G', F', σ', rfl, h2, h3, h4⟩
theorem kw_cond {c : Operand} {x y : Code} {b : Bool} (hc : F.eval c = .s (.bool b)) (ht : b = true → KWp P N x F σ Q) (hf : b = false → KWp P N y F σ Q) : KWp P N (.cond c x y) F σ Q := fun G a hs =>
 wp_cond_split (zgx hs.fr hc) (fun e => ht e G a hs) (fun e => hf e G a hs)
theorem kw_true {c : Operand} {x y : Code} (hc : F.eval c = .s (.bool true)) (ht : KWp P N x F σ Q) : KWp P N (.cond c x y) F σ Q := kw_cond hc (fun _ => ht) (fun e => by cases e)
theorem kw_false {c : Operand} {x y : Code} (hc : F.eval c = .s (.bool false)) (ht : KWp P N y F σ Q) : KWp P N (.cond c x y) F σ Q := kw_cond hc (fun e => by cases e) (fun _ => ht)
theorem kw_loop {c : Code} (I : Nat → Frm → List Ob → Prop) (m : Nat) (h0 : I m F σ)
  (round : ∀ m F σ, I m F σ → KWp P N c F σ (zeh (fun F' σ' => ∃ m', m' < m ∧ I m' F' σ') Q)) : KWp P N (.loop c) F σ Q := fun G a hs => by
 refine wp_loop_ghost (fun n a w => ∃ G' F' σ', G'.w = w ∧ KE G G' ∧ S8 N G' a F' σ' ∧ I n F' σ') m ⟨G, F, σ, rfl, .refl G, hs, h0⟩ ?_
 rintro n a w ⟨G', F', σ', rfl, h2, h3, h4⟩
 refine Code.wp_mono (fun e a1 w1 q => ?_) (round n F' σ' h4 G' a h3)
 obtain ⟨G2, F2, σ2, rfl, h5, h6, h7⟩ := q
 cases e with
 | normal => obtain ⟨m', hm, hi⟩ := h7; exact ⟨m', hm, ⟨G2, F2, σ2, rfl, h2.trans h5, h6, hi⟩⟩
 | _ => exact ⟨G2, F2, σ2, rfl, h2.trans h5, h6, h7⟩
theorem kw_region {id : Nat} {l : List Oper} (h : KOps P N l.toArray l F σ Q) : KWp P N (.region id l.toArray false) F σ Q := fun G a hs => wp_region_lit (h G a hs)
theorem kw_mono {c : Code} {Q' : Exit → Frm → List Ob → Prop} (h : KWp P N c F σ Q) (hq : ∀ e F σ, Q e F σ → Q' e F σ) : KWp P N c F σ Q' := fun G a hs =>
 Code.wp_mono (fun e a w q => liftK_mono (.refl G) hq q) (h G a hs)
end
section
variable {P : Program} {N : Nat} {F : Frm} {σ σ' : List Ob} {Q : Exit → Frm → List Ob → Prop} {ops : Array Oper} {o : Oper} {l : List Oper} {x : AV}
theorem kops_nil (h : Q .normal F σ) : KOps P N ops [] F σ Q := fun G a hs => ⟨G, F, σ, rfl, .refl G, hs, h⟩
theorem kops_op {d : Nat} (hd : o.dst = some d) (hN : Nat.blt d N = true) (hr : Runs ops F o true) (hD : Does P o F σ x σ') (k : KOps P N ops l ((d, x) :: F) σ' Q) : KOps P N ops (o :: l) F σ Q := fun G a hs => by
 unfold wpList
 rw [if_pos (hr.wanted hs.fr)]
 left
 refine hD G a _ _ hs.rel (fun y _ => zc4 hs.fr y) (fun v G' e r hv => ?_)
 rw [hd]
 exact zcm (fun e' a w q => liftK_mono (KE.of e) (fun _ _ _ x => x) q) _ _ _ (k G' _ ((hs.step e r).put (by simpa [Nat.blt_eq] using hN) hv))
theorem kops_eff (hd : o.dst = none) (hr : Runs ops F o true) (hD : Does P o F σ x σ') (k : KOps P N ops l F σ' Q) : KOps P N ops (o :: l) F σ Q := fun G a hs => by
 unfold wpList
 rw [if_pos (hr.wanted hs.fr)]
 left
 refine hD G a _ _ hs.rel (fun y _ => zc4 hs.fr y) (fun v G' e r hv => ?_)
 rw [hd]
 exact zcm (fun e' a w q => liftK_mono (KE.of e) (fun _ _ _ x => x) q) _ _ _ (k G' _ (hs.step e r))
theorem kops_skip {d : Nat} (hd : o.dst = some d) (hN : Nat.blt d N = true) (hr : Runs ops F o false) (k : KOps P N ops l ((d, .s undef) :: F) σ Q) : KOps P N ops (o :: l) F σ Q := fun G a hs => by
 unfold wpList
 rw [if_neg (by rw [hr.wanted hs.fr]; simp)]
 rw [hd]
 exact k G _ (hs.put (by simpa [Nat.blt_eq] using hN) (.s _))
end
def WeakK (N : Nat) (F : Frm) (σ : List Ob) (F' : Frm) (σ' : List Ob) : Prop := ∀ G a, S8 N G a F σ → ∃ G', G'.w = G.w ∧ KE G G' ∧ S8 N G' a F' σ'
theorem WeakK.refl {N : Nat} {F : Frm} {σ : List Ob} : WeakK N F σ F σ := fun G a h => ⟨G, rfl, .refl G, h⟩
section
variable {P : Program} {N : Nat} {F F' : Frm} {σ σ' : List Ob} {Q : Exit → Frm → List Ob → Prop}
theorem kw_weak {c : Code} (w : WeakK N F σ F' σ') (h : KWp P N c F' σ' Q) : KWp P N c F σ Q := fun G a hs => by
 obtain ⟨G1, e1, s1, h1⟩ := w G a hs
 rw [← e1]
 exact Code.wp_mono (fun e a w q => liftK_mono s1 (fun _ _ _ x => x) q) (h G1 a h1)
theorem kw_loops {c : Code} {S : Type} (fr : S → Frm) (st : S → List Ob) (inv : S → Prop) (ms : S → Nat) (s0 : S) (hw : WeakK N F σ (fr s0) (st s0)) (h0 : inv s0)
  (round : ∀ s, inv s → KWp P N c (fr s) (st s) (zeh (fun F' σ' => ∃ s', inv s' ∧ ms s' < ms s ∧ WeakK N F' σ' (fr s') (st s')) Q)) : KWp P N (.loop c) F σ Q := by
 refine kw_weak hw (kw_loop (fun m F σ => ∃ s, inv s ∧ ms s = m ∧ WeakK N F σ (fr s) (st s)) (ms s0) ⟨s0, h0, rfl, WeakK.refl⟩ (fun m F σ h => ?_))
 obtain ⟨s, h1, rfl, h3⟩ := h
 refine kw_weak h3 (kw_mono (round s h1) (fun e F σ q => ?_))
 cases e with
 | normal => obtain ⟨s', g1, g2, g3⟩ := q; exact ⟨ms s', g2, s', g1, rfl, g3⟩
 | _ => exact q
variable {ops : Array Oper} {o : Oper} {l : List Oper} {d : Nat}
theorem kops_opP {p : Prop} [Decidable p] (hd : o.dst = some d) (hN : Nat.blt d N = true) (hr : Runs ops F o true) (hD : Does P o F σ (.s (.bool (decide p))) σ) (k1 : p → KOps P N ops l ((d, .s (.bool true)) :: F) σ Q) (k2 : ¬ p → KOps P N ops l ((d, .s (.bool false)) :: F) σ Q) : KOps P N ops (o :: l) F σ Q := by
 by_cases h : p
 ·
  exact kops_op hd hN hr (zdc h hD) (k1 h)
 ·
  exact kops_op hd hN hr (zeg h hD) (k2 h)
end
section
variable {N : Nat} {F F' : Frm} {σ σ' : List Ob}
theorem WeakK.trans {F1 F2 : Frm} {σ1 σ2 : List Ob} (h : WeakK N F σ F1 σ1) (k : WeakK N F1 σ1 F2 σ2) : WeakK N F σ F2 σ2 := fun G a hs => by
 obtain ⟨G1, e1, s1, h1⟩ := h G a hs
 obtain ⟨G2, e2, s2, h2⟩ := k G1 a h1
 exact ⟨G2, e2.trans e1, s1.trans s2, h2⟩
theorem kwk_froz {id sz : Nat} {cs : List AV} (hs : σ[id]? = some (.row sz cs)) : WeakK N F σ F (σ.set id (.fz sz cs)) := fun G a h => by
 obtain ⟨h1, h2⟩ := zjs h.rel hs
 exact ⟨G.froz id, rfl, KE.of h1, h.step h1 h2⟩
theorem kwk_ref {d id sz k : Nat} {cs : List AV} {e : AV} (hd : F.get d = .ptr id sz k 0) (hs : σ[id]? = some (.fz sz cs)) (he : cs[k]? = some e) : WeakK N F σ ((d, .ref e.cells) :: F) σ := fun G a h =>
 ⟨G, rfl, .refl G, h.rel, h.fr.more (zk1 h.rel hs he (by rw [← hd]; exact h.fr d)), h.df, h.nt⟩
theorem kwk_st (ρ : List Nat) (hn : ρ.Nodup) (hs : StL ρ σ ρ σ') (hf : FrRn F ρ F') : WeakK N F σ F' σ' := fun G a h =>
 ⟨G.ren ρ, rfl, ⟨⟨rfl, rfl, fun _ _ h => h, fun _ _ _ => rfl, fun _ _ h => .inl h, rfl, fun _ _ h => .inl h, fun _ _ h _ => h⟩, fun i y hi hy => by
  exact absurd hi (Nat.not_lt_zero _), zcc.refl _, Nat.le_refl _⟩, ⟨zk3 h.rel hn (zjh ρ σ' hs), zjt h.fr F' hf, h.df, h.nt⟩⟩
end
section
variable {P : Program} {σ σ' : List Ob} {f : FuncId} {y : AV} {args : List AV}
theorem callE_fn {fn : Func} {c : Code} (hl : σ = []) (hf : P.funcs[f]? = some fn) (hname : (fn.name == "runtime.NumGoroutine") = false) (hb : fn.body = some c) (hn : args.length ≤ fn.ntmps)
  (h : KWp P fn.ntmps c (argF 0 args) σ (fun e F σ1 => (e = .normal ∨ e = .ret) ∧ σ1 = σ' ∧ ∃ xs, ResL P F σ1 fn.results.toList xs ∧ zkb xs = y)) : CallE P f args σ y σ' := by
 refine ⟨zfh hf hname hb, fun G vargs hrel hsz hrep => ?_⟩
 refine calls_of_wp hf hb ?_
 have hfo : FOk G { tmps := vargs ++ Array.replicate (fn.ntmps - vargs.size) undef, defers := [] } (argF 0 args) := by
  intro d
  rw [zgd]
  simp only [Nat.zero_le, if_true, Nat.sub_zero]
  by_cases hd : d < args.length
  ·
   have h1 : (vargs ++ Array.replicate (fn.ntmps - vargs.size) undef).getD d undef = vargs[d]'(by omega) := by
    rw [Array.getD_eq_getD_getElem?, Array.getElem?_append_left (by omega)]
    simp [show d < vargs.size by omega]
   rw [h1]
   have h2 : args.getD d .any = args[d] := by rw [List.getD_eq_getElem?_getD, List.getElem?_eq_getElem hd]; rfl
   rw [h2]
   exact hrep d _ _ (by simp [show d < vargs.size by omega]) (by simp [hd])
  ·
   have h2 : args.getD d .any = .any := by
    rw [List.getD_eq_getElem?_getD, List.getElem?_eq_none (by omega)]; rfl
   rw [h2]; exact .any _
 have hs8 : S8 fn.ntmps G { tmps := vargs ++ Array.replicate (fn.ntmps - vargs.size) undef, defers := [] } (argF 0 args) σ := ⟨hrel, hfo, .nil, by simp; omega⟩
 refine Code.wp_mono (fun e a w q => ?_) (h G _ hs8)
 obtain ⟨G', F', σ1, rfl, h2, h3, he, rfl, xs, hrl, hy⟩ := q
 obtain ⟨v, h6, h7⟩ := zdk (fn := fn) h3.rel h3.fr hrl
 rw [hy] at h7
 have hext : G.Ext G' := ⟨h2.step.base, h2.step.w0, h2.step.st, h2.step.cell, fun id x hx => by
  rw [hrel.fresh id (by rw [hl]; exact Nat.zero_le _)] at hx; exact absurd hx (by simp), h2.size, h2.rows, h2.step.stN, h2.step.pr, h2.step.prN, h2.step.oth⟩
 have post : ∃ (v' : Value) (G'' : Cx), Ending.returned v = .returned v' ∧ G''.w = G'.w ∧ G.Ext G'' ∧ Rel G'' σ1 ∧ Rep G'' v' y := ⟨v, G', rfl, rfl, hext, h3.rel, h7⟩
 rcases he with rfl | rfl
 ·
  exact ⟨h3.df.1, _, h6, post⟩
 ·
  exact ⟨h3.df.1, _, h6, post⟩
theorem callE_fn1 {fn : Func} {c : Code} {t : Nat} (hl : σ = []) (hf : P.funcs[f]? = some fn) (hname : (fn.name == "runtime.NumGoroutine") = false) (hb : fn.body = some c) (hn : args.length ≤ fn.ntmps) (hres : fn.results.toList = [.tmp t])
  (h : KWp P fn.ntmps c (argF 0 args) σ (fun e F σ1 => (e = .normal ∨ e = .ret) ∧ F.get t = y ∧ σ1 = σ')) : CallE P f args σ y σ' :=
 callE_fn hl hf hname hb hn (kw_mono h (fun e F σ1 ⟨h1, h2, h3⟩ => ⟨h1, h3, [y], by rw [hres]; exact .cons _ _ _ _ (.tmp t y h2) .nil, rfl⟩))
end
theorem kwk_sub {N : Nat} {F : Frm} {σ : List Ob} : ∀ {F'}, Sub F F' → WeakK N F σ F' σ := fun {F'} h G a hs => by
 refine ⟨G, rfl, .refl G, hs.rel, ?_, hs.df, hs.nt⟩
 have key : ∀ F', Sub F F' → FOk G a F' := by
  intro F'
  induction F' with
  | nil => intro _ d; exact .any _
  | cons p F' ih =>
   obtain ⟨d, y⟩ := p
   intro h t
   simp only [Frm.get]
   cases e : Nat.beq d t with
   | true => have := Nat.eq_of_beq_eq_true e; subst this; rw [← h.1]; exact hs.fr d
   | false => exact ih h.2 t
 exact key F' h
theorem kw_of {P : Program} {N : Nat} {F : Frm} {σ : List Ob} {Q : Exit → Frm → List Ob → Prop} {c : Code} (h : EWp P N c F σ Q) : KWp P N c F σ Q := fun G a hs =>
 Code.wp_mono (fun e a w q => by obtain ⟨G', F', σ', h1, h2, h3, h4⟩ := q; exact ⟨G', F', σ', h1, KE.of h2, h3, h4⟩) (h G a hs)
theorem kw_draw {P : Program} {N : Nat} {l : List Oper} {F : Frm} {σ : List Ob} {Q : Exit → Frm → List Ob → Prop} {id : Nat} (hm : P.follows .mixedOrders = true) (h : zjz P N l F σ Q) : KWp P N (.region id l.toArray true) F σ Q := kw_of (znz hm h)
theorem kdraw_ex {P : Program} {N : Nat} {l : List Oper} {F : Frm} {σ : List Ob} {Q : Exit → Frm → List Ob → Prop} (h : EX P N l.toArray l [] l F σ (fun F' σ' => Q .normal F' σ')) : zjz P N l F σ Q := by
 obtain ⟨F', σ', out, ks, sts, h1, h2, h3⟩ := h
 exact ze8 h1 (by simpa using h2) h3
section
variable {P : Program} {N : Nat} {F : Frm} {σ : List Ob} {Q : Exit → Frm → List Ob → Prop} {ops : Array Oper} {o : Oper} {l : List Oper} {d : Nat} {x : AV}
theorem kops_s (h : stv (opv o.op F) N ops o F = some (d, x)) (k : KOps P N ops l ((d, x) :: F) σ Q) : KOps P N ops (o :: l) F σ Q := kops_op (zbo h).1 (zbo h).2.1 (zbo h).2.2.1 (zg0 (zbo h).2.2.2) k
theorem kops_f {t f off n ft : Nat} (hf : zca P t f = some (off, ft, some n)) (h : stv (fdv o.op t f off n F) N ops o F = some (d, x)) (k : KOps P N ops l ((d, x) :: F) σ Q) : KOps P N ops (o :: l) F σ Q := kops_op (zbo h).1 (zbo h).2.1 (zbo h).2.2.1 (zhc hf (zbo h).2.2.2) k
theorem kops_l {t : Nat} (ha : zc8 P t = some false) (h : stv (ldv o.op t F) N ops o F = some (d, x)) (k : KOps P N ops l ((d, x) :: F) σ Q) : KOps P N ops (o :: l) F σ Q := kops_op (zbo h).1 (zbo h).2.1 (zbo h).2.2.1 (zg7 ha (zbo h).2.2.2) k
theorem kops_w {t n bt : Nat} {z : Option Value} (ha : zc8 P t = some true) (hi : zb5 P t = some (z, n, bt)) (h : stv (lwv o.op t n F) N ops o F = some (d, x)) (k : KOps P N ops l ((d, x) :: F) σ Q) : KOps P N ops (o :: l) F σ Q := kops_op (zbo h).1 (zbo h).2.1 (zbo h).2.2.1 (zg6 ha hi (zbo h).2.2.2) k
theorem kops_z (h : stz N ops o F = some d) (k : KOps P N ops l ((d, .s undef) :: F) σ Q) : KOps P N ops (o :: l) F σ Q := kops_skip (ze5 h).1 (ze5 h).2.1 (ze5 h).2.2 k
end
end Aw.K0
namespace Aw.K2
open Go Go.RowKit Go.Proofs
structure KE (G G' : Cx) : Prop where
 step : G.Step G'
 mu0 : ∀ i y, i < 2 → G.mu i = some y → G'.mu i = some y
 rows : zcc G.w G'.w
 size : G.w.heap.size ≤ G'.w.heap.size
theorem KE.refl (G : Cx) : KE G G := ⟨.refl G, fun _ _ _ h => h, zcc.refl _, Nat.le_refl _⟩
theorem KE.trans {G H K : Cx} (h : KE G H) (k : KE H K) : KE G K := ⟨h.step.trans k.step, fun i y hi x => k.mu0 i y hi (h.mu0 i y hi x), h.rows.trans k.rows, Nat.le_trans h.size k.size⟩
theorem KE.of {G G' : Cx} (e : G.Ext G') : KE G G' := ⟨e.step, fun i y _ h => e.mu i y h, e.rows, e.size⟩
def liftK (N : Nat) (G : Cx) (Q : Exit → Frm → List Ob → Prop) : Exit → Act → World → Prop :=
 fun e a' w' => ∃ G' F' σ', G'.w = w' ∧ KE G G' ∧ S8 N G' a' F' σ' ∧ Q e F' σ'
theorem liftK_mono {N : Nat} {G G1 : Cx} (h : KE G G1) {Q Q' : Exit → Frm → List Ob → Prop} (hq : ∀ e F σ, Q e F σ → Q' e F σ) {e : Exit} {a : Act} {w : World} (x : liftK N G1 Q e a w) : liftK N G Q' e a w := by
 obtain ⟨G', F', σ', h1, h2, h3, h4⟩ := x
 exact ⟨G', F', σ', h1, h.trans h2, h3, hq _ _ _ h4⟩
def KWp (P : Program) (N : Nat) (c : Code) (F : Frm) (σ : List Ob) (Q : Exit → Frm → List Ob → Prop) : Prop :=
 ∀ G a, S8 N G a F σ → c.wp P (liftK N G Q) a G.w
def KOps (P : Program) (N : Nat) (ops : Array Oper) (l : List Oper) (F : Frm) (σ : List Ob) (Q : Exit → Frm → List Ob → Prop) : Prop :=
 ∀ G a, S8 N G a F σ → wpList P ops (liftK N G Q) l a G.w
section
variable {P : Program} {N : Nat} {F : Frm} {σ : List Ob} {Q : Exit → Frm → List Ob → Prop}
theorem kw_seq {x y : Code} (h : KWp P N x F σ (zeh (fun F σ => KWp P N y F σ Q) Q)) : KWp P N (.seq x y) F σ Q := fun G a hs => by
 refine wp_seq (Code.wp_mono (fun e a1 w1 q => ?_) (h G a hs))
 obtain ⟨G', F', σ', rfl, h2, h3, h4⟩ := q
 cases e with
 | normal => exact Code.wp_mono (fun e a w q => liftK_mono h2 (fun _ _ _ x => x) q) (h4 G' a1 h3)
 | _ => exact ⟨G', F', σ', rfl, h2, h3, h4⟩
theorem kw_skip (h : Q .normal F σ) : KWp P N .skip F σ Q := fun G a hs => wp_skip ⟨G, F, σ, rfl, .refl G, hs, h⟩
theorem kw_exit {id : Nat} (h : Q (.exit id) F σ) : KWp P N (.exit id) F σ Q := fun G a hs => wp_exit ⟨G, F, σ, rfl, .refl G, hs, h⟩
theorem kw_ret (h : Q .ret F σ) : KWp P N .ret F σ Q := fun G a hs => wp_ret ⟨G, F, σ, rfl, .refl G, hs, h⟩
theorem kw_block {id : Nat} {c : Code} (h : KWp P N c F σ (ABlk id Q)) : KWp P N (.block id c) F σ Q := fun G a hs => by
 refine wp_block (Code.wp_mono (fun e a1 w1 q => ?_) (h G a hs))
 obtain ⟨G', F', σ', rfl, h2, h3, h4⟩ := q
 cases e with
 | exit id' =>
  simp only [ABlk] at h4
  simp only [Exit.inBlock]
  split
  ·
   rename_i e; rw [if_pos e] at h4; exact ⟨G', F', σ', rfl, h2, h3, h4⟩
  ·
   rename_i e; rw [if_neg e] at h4; exact ⟨G', F', σ', rfl, h2, h3, h4⟩
 | _ => exact ⟨G', F', σ', rfl, h2, h3, h4⟩
theorem kw_cond {c : Operand} {x y : Code} {b : Bool} (hc : F.eval c = .s (.bool b)) (ht : b = true → KWp P N x F σ Q) (hf : b = false → KWp P N y F σ Q) : KWp P N (.cond c x y) F σ Q := fun G a hs =>
 wp_cond_split (zgx hs.fr hc) (fun e => ht e G a hs) (fun e => hf e G a hs)
theorem kw_true {c : Operand} {x y : Code} (hc : F.eval c = .s (.bool true)) (ht : KWp P N x F σ Q) : KWp P N (.cond c x y) F σ Q := kw_cond hc (fun _ => ht) (fun e => by cases e)
theorem kw_false {c : Operand} {x y : Code} (hc : F.eval c = .s (.bool false)) (ht : KWp P N y F σ Q) : KWp P N (.cond c x y) F σ Q := kw_cond hc (fun e => by cases e) (fun _ => ht)
theorem kw_loop {c : Code} (I : Nat → Frm → List Ob → Prop) (m : Nat) (h0 : I m F σ)
  (round : ∀ m F σ, I m F σ → KWp P N c F σ (zeh (fun F' σ' => ∃ m', m' < m ∧ I m' F' σ') Q)) : KWp P N (.loop c) F σ Q := fun G a hs => by
 refine wp_loop_ghost (fun n a w => ∃ G' F' σ', G'.w = w ∧ KE G G' ∧ S8 N G' a F' σ' ∧ I n F' σ') m ⟨G, F, σ, rfl, .refl G, hs, h0⟩ ?_
 rintro n a w ⟨G', F', σ', rfl, h2, h3, h4⟩
 refine Code.wp_mono (fun e a1 w1 q => ?_) (round n F' σ' h4 G' a h3)
 obtain ⟨G2, F2, σ2, rfl, h5, h6, h7⟩ := q
 cases e with
 | normal => obtain ⟨m', hm, hi⟩ := h7; exact ⟨m', hm, ⟨G2, F2, σ2, rfl, h2.trans h5, h6, hi⟩⟩
 | _ => exact ⟨G2, F2, σ2, rfl, h2.trans h5, h6, h7⟩
theorem kw_region {id : Nat} {l : List Oper} (h : KOps P N l.toArray l F σ Q) : KWp P N (.region id l.toArray false) F σ Q := fun G a hs => wp_region_lit (h G a hs)
theorem kw_mono {c : Code} {Q' : Exit → Frm → List Ob → Prop} (h : KWp P N c F σ Q) (hq : ∀ e F σ, Q e F σ → Q' e F σ) : KWp P N c F σ Q' := fun G a hs =>
 Code.wp_mono (fun e a w q => liftK_mono (.refl G) hq q) (h G a hs)
end
section
variable {P : Program} {N : Nat} {F : Frm} {σ σ' : List Ob} {Q : Exit → Frm → List Ob → Prop} {ops : Array Oper} {o : Oper} {l : List Oper} {x : AV}
theorem kops_nil (h : Q .normal F σ) : KOps P N ops [] F σ Q := fun G a hs => ⟨G, F, σ, rfl, .refl G, hs, h⟩
theorem kops_op {d : Nat} (hd : o.dst = some d) (hN : Nat.blt d N = true) (hr : Runs ops F o true) (hD : Does P o F σ x σ') (k : KOps P N ops l ((d, x) :: F) σ' Q) : KOps P N ops (o :: l) F σ Q := fun G a hs => by
 unfold wpList
 rw [if_pos (hr.wanted hs.fr)]
 left
 refine hD G a _ _ hs.rel (fun y _ => zc4 hs.fr y) (fun v G' e r hv => ?_)
 rw [hd]
 exact zcm (fun e' a w q => liftK_mono (KE.of e) (fun _ _ _ x => x) q) _ _ _ (k G' _ ((hs.step e r).put (by simpa [Nat.blt_eq] using hN) hv))
theorem kops_eff (hd : o.dst = none) (hr : Runs ops F o true) (hD : Does P o F σ x σ') (k : KOps P N ops l F σ' Q) : KOps P N ops (o :: l) F σ Q := fun G a hs => by
 unfold wpList
 rw [if_pos (hr.wanted hs.fr)]
 left
 refine hD G a _ _ hs.rel (fun y _ => zc4 hs.fr y) (fun v G' e r hv => ?_)
 rw [hd]
 exact zcm (fun e' a w q => liftK_mono (KE.of e) (fun _ _ _ x => x) q) _ _ _ (k G' _ (hs.step e r))
theorem kops_skip {d : Nat} (hd : o.dst = some d) (hN : Nat.blt d N = true) (hr : Runs ops F o false) (k : KOps P N ops l ((d, .s undef) :: F) σ Q) : KOps P N ops (o :: l) F σ Q := fun G a hs => by
 unfold wpList
 rw [if_neg (by rw [hr.wanted hs.fr]; simp)]
 rw [hd]
 exact k G _ (hs.put (by simpa [Nat.blt_eq] using hN) (.s _))
end
def WeakK (N : Nat) (F : Frm) (σ : List Ob) (F' : Frm) (σ' : List Ob) : Prop := ∀ G a, S8 N G a F σ → ∃ G', G'.w = G.w ∧ KE G G' ∧ S8 N G' a F' σ'
theorem WeakK.refl {N : Nat} {F : Frm} {σ : List Ob} : WeakK N F σ F σ := fun G a h => ⟨G, rfl, .refl G, h⟩
section
variable {P : Program} {N : Nat} {F F' : Frm} {σ σ' : List Ob} {Q : Exit → Frm → List Ob → Prop}
theorem kw_weak {c : Code} (w : WeakK N F σ F' σ') (h : KWp P N c F' σ' Q) : KWp P N c F σ Q := fun G a hs => by
 obtain ⟨G1, e1, s1, h1⟩ := w G a hs
 rw [← e1]
 exact Code.wp_mono (fun e a w q => liftK_mono s1 (fun _ _ _ x => x) q) (h G1 a h1)
theorem kw_loops {c : Code} {S : Type} (fr : S → Frm) (st : S → List Ob) (inv : S → Prop) (ms : S → Nat) (s0 : S) (hw : WeakK N F σ (fr s0) (st s0)) (h0 : inv s0)
  (round : ∀ s, inv s → KWp P N c (fr s) (st s) (zeh (fun F' σ' => ∃ s', inv s' ∧ ms s' < ms s ∧ WeakK N F' σ' (fr s') (st s')) Q)) : KWp P N (.loop c) F σ Q := by
 refine kw_weak hw (kw_loop (fun m F σ => ∃ s, inv s ∧ ms s = m ∧ WeakK N F σ (fr s) (st s)) (ms s0) ⟨s0, h0, rfl, WeakK.refl⟩ (fun m F σ h => ?_))
 obtain ⟨s, h1, rfl, h3⟩ := h
 refine kw_weak h3 (kw_mono (round s h1) (fun e F σ q => ?_))
 cases e with
 | normal => obtain ⟨s', g1, g2, g3⟩ := q; exact ⟨ms s', g2, s', g1, rfl, g3⟩
 | _ => exact q
variable {ops : Array Oper} {o : Oper} {l : List Oper} {d : Nat}
theorem kops_opP {p : Prop} [Decidable p] (hd : o.dst = some d) (hN : Nat.blt d N = true) (hr : Runs ops F o true) (hD : Does P o F σ (.s (.bool (decide p))) σ) (k1 : p → KOps P N ops l ((d, .s (.bool true)) :: F) σ Q) (k2 : ¬ p → KOps P N ops l ((d, .s (.bool false)) :: F) σ Q) : KOps P N ops (o :: l) F σ Q := by
 by_cases h : p
 ·
  exact kops_op hd hN hr (zdc h hD) (k1 h)
 ·
  exact kops_op hd hN hr (zeg h hD) (k2 h)
end
section
variable {N : Nat} {F F' : Frm} {σ σ' : List Ob}
theorem WeakK.trans {F1 F2 : Frm} {σ1 σ2 : List Ob} (h : WeakK N F σ F1 σ1) (k : WeakK N F1 σ1 F2 σ2) : WeakK N F σ F2 σ2 := fun G a hs => by
 obtain ⟨G1, e1, s1, h1⟩ := h G a hs
 obtain ⟨G2, e2, s2, h2⟩ := k G1 a h1
 exact ⟨G2, e2.trans e1, s1.trans s2, h2⟩
theorem kwk_froz {id sz : Nat} {cs : List AV} (hs : σ[id]? = some (.row sz cs)) : WeakK N F σ F (σ.set id (.fz sz cs)) := fun G a h => by
 obtain ⟨h1, h2⟩ := zjs h.rel hs
 exact ⟨G.froz id, rfl, KE.of h1, h.step h1 h2⟩
theorem kwk_ref {d id sz k : Nat} {cs : List AV} {e : AV} (hd : F.get d = .ptr id sz k 0) (hs : σ[id]? = some (.fz sz cs)) (he : cs[k]? = some e) : WeakK N F σ ((d, .ref e.cells) :: F) σ := fun G a h =>
 ⟨G, rfl, .refl G, h.rel, h.fr.more (zk1 h.rel hs he (by rw [← hd]; exact h.fr d)), h.df, h.nt⟩
theorem kwk_st (ρ : List Nat) (h0 : ρ[0]? = some 0) (h1 : ρ[1]? = some 1) (hn : ρ.Nodup) (hs : StL ρ σ ρ σ') (hf : FrRn F ρ F') : WeakK N F σ F' σ' := fun G a h =>
 ⟨G.ren ρ, rfl, ⟨⟨rfl, rfl, fun _ _ h => h, fun _ _ _ => rfl, fun _ _ h => .inl h, rfl, fun _ _ h => .inl h, fun _ _ h _ => h⟩, fun i y hi hy => by
  match i, hi with
  | 0, _ => simp [Cx.ren, h0, hy]
  | 1, _ => simp [Cx.ren, h1, hy], zcc.refl _, Nat.le_refl _⟩, ⟨zk3 h.rel hn (zjh ρ σ' hs), zjt h.fr F' hf, h.df, h.nt⟩⟩
end
section
variable {P : Program} {σ σ' : List Ob} {f : FuncId} {y : AV} {args : List AV}
theorem callE_fn {fn : Func} {c : Code} (hl : σ.length ≤ 2) (hf : P.funcs[f]? = some fn) (hname : (fn.name == "runtime.NumGoroutine") = false) (hb : fn.body = some c) (hn : args.length ≤ fn.ntmps)
  (h : KWp P fn.ntmps c (argF 0 args) σ (fun e F σ1 => (e = .normal ∨ e = .ret) ∧ σ1 = σ' ∧ ∃ xs, ResL P F σ1 fn.results.toList xs ∧ zkb xs = y)) : CallE P f args σ y σ' := by
 refine ⟨zfh hf hname hb, fun G vargs hrel hsz hrep => ?_⟩
 refine calls_of_wp hf hb ?_
 have hfo : FOk G { tmps := vargs ++ Array.replicate (fn.ntmps - vargs.size) undef, defers := [] } (argF 0 args) := by
  intro d
  rw [zgd]
  simp only [Nat.zero_le, if_true, Nat.sub_zero]
  by_cases hd : d < args.length
  ·
   have h1 : (vargs ++ Array.replicate (fn.ntmps - vargs.size) undef).getD d undef = vargs[d]'(by omega) := by
    rw [Array.getD_eq_getD_getElem?, Array.getElem?_append_left (by omega)]
    simp [show d < vargs.size by omega]
   rw [h1]
   have h2 : args.getD d .any = args[d] := by rw [List.getD_eq_getElem?_getD, List.getElem?_eq_getElem hd]; rfl
   rw [h2]
   exact hrep d _ _ (by simp [show d < vargs.size by omega]) (by simp [hd])
  ·
   have h2 : args.getD d .any = .any := by
    rw [List.getD_eq_getElem?_getD, List.getElem?_eq_none (by omega)]; rfl
   rw [h2]; exact .any _
 have hs8 : S8 fn.ntmps G { tmps := vargs ++ Array.replicate (fn.ntmps - vargs.size) undef, defers := [] } (argF 0 args) σ := ⟨hrel, hfo, .nil, by simp; omega⟩
 refine Code.wp_mono (fun e a w q => ?_) (h G _ hs8)
 obtain ⟨G', F', σ1, rfl, h2, h3, he, rfl, xs, hrl, hy⟩ := q
 obtain ⟨v, h6, h7⟩ := zdk (fn := fn) h3.rel h3.fr hrl
 rw [hy] at h7
 have hext : G.Ext G' := ⟨h2.step.base, h2.step.w0, h2.step.st, h2.step.cell, fun id x hx => by
  by_cases hid : id < 2
  ·
   exact h2.mu0 id x hid hx
  ·
   rw [hrel.fresh id (by omega)] at hx; exact absurd hx (by simp), h2.size, h2.rows, h2.step.stN, h2.step.pr, h2.step.prN, h2.step.oth⟩
 have post : ∃ (v' : Value) (G'' : Cx), Ending.returned v = .returned v' ∧ G''.w = G'.w ∧ G.Ext G'' ∧ Rel G'' σ1 ∧ Rep G'' v' y := ⟨v, G', rfl, rfl, hext, h3.rel, h7⟩
 rcases he with rfl | rfl
 ·
  exact ⟨h3.df.1, _, h6, post⟩
 ·
  exact ⟨h3.df.1, _, h6, post⟩
theorem callE_fn1 {fn : Func} {c : Code} {t : Nat} (hl : σ.length ≤ 2) (hf : P.funcs[f]? = some fn) (hname : (fn.name == "runtime.NumGoroutine") = false) (hb : fn.body = some c) (hn : args.length ≤ fn.ntmps) (hres : fn.results.toList = [.tmp t])
  (h : KWp P fn.ntmps c (argF 0 args) σ (fun e F σ1 => (e = .normal ∨ e = .ret) ∧ F.get t = y ∧ σ1 = σ')) : CallE P f args σ y σ' :=
 callE_fn hl hf hname hb hn (kw_mono h (fun e F σ1 ⟨h1, h2, h3⟩ => ⟨h1, h3, [y], by rw [hres]; exact .cons _ _ _ _ (.tmp t y h2) .nil, rfl⟩))
end
theorem kwk_sub {N : Nat} {F : Frm} {σ : List Ob} : ∀ {F'}, Sub F F' → WeakK N F σ F' σ := fun {F'} h G a hs => by
 refine ⟨G, rfl, .refl G, hs.rel, ?_, hs.df, hs.nt⟩
 have key : ∀ F', Sub F F' → FOk G a F' := by
  intro F'
  induction F' with
  | nil => intro _ d; exact .any _
  | cons p F' ih =>
   obtain ⟨d, y⟩ := p
   intro h t
   simp only [Frm.get]
   cases e : Nat.beq d t with
   | true => have := Nat.eq_of_beq_eq_true e; subst this; rw [← h.1]; exact hs.fr d
   | false => exact ih h.2 t
 exact key F' h
theorem kw_of {P : Program} {N : Nat} {F : Frm} {σ : List Ob} {Q : Exit → Frm → List Ob → Prop} {c : Code} (h : EWp P N c F σ Q) : KWp P N c F σ Q := fun G a hs =>
 Code.wp_mono (fun e a w q => by obtain ⟨G', F', σ', h1, h2, h3, h4⟩ := q; exact ⟨G', F', σ', h1, KE.of h2, h3, h4⟩) (h G a hs)
theorem kw_draw {P : Program} {N : Nat} {l : List Oper} {F : Frm} {σ : List Ob} {Q : Exit → Frm → List Ob → Prop} {id : Nat} (hm : P.follows .mixedOrders = true) (h : zjz P N l F σ Q) : KWp P N (.region id l.toArray true) F σ Q := kw_of (znz hm h)
theorem kdraw_ex {P : Program} {N : Nat} {l : List Oper} {F : Frm} {σ : List Ob} {Q : Exit → Frm → List Ob → Prop} (h : EX P N l.toArray l [] l F σ (fun F' σ' => Q .normal F' σ')) : zjz P N l F σ Q := by
 obtain ⟨F', σ', out, ks, sts, h1, h2, h3⟩ := h
 exact ze8 h1 (by simpa using h2) h3
section
variable {P : Program} {N : Nat} {F : Frm} {σ : List Ob} {Q : Exit → Frm → List Ob → Prop} {ops : Array Oper} {o : Oper} {l : List Oper} {d : Nat} {x : AV}
theorem kops_s (h : stv (opv o.op F) N ops o F = some (d, x)) (k : KOps P N ops l ((d, x) :: F) σ Q) : KOps P N ops (o :: l) F σ Q := kops_op (zbo h).1 (zbo h).2.1 (zbo h).2.2.1 (zg0 (zbo h).2.2.2) k
theorem kops_f {t f off n ft : Nat} (hf : zca P t f = some (off, ft, some n)) (h : stv (fdv o.op t f off n F) N ops o F = some (d, x)) (k : KOps P N ops l ((d, x) :: F) σ Q) : KOps P N ops (o :: l) F σ Q := kops_op (zbo h).1 (zbo h).2.1 (zbo h).2.2.1 (zhc hf (zbo h).2.2.2) k
theorem kops_l {t : Nat} (ha : zc8 P t = some false) (h : stv (ldv o.op t F) N ops o F = some (d, x)) (k : KOps P N ops l ((d, x) :: F) σ Q) : KOps P N ops (o :: l) F σ Q := kops_op (zbo h).1 (zbo h).2.1 (zbo h).2.2.1 (zg7 ha (zbo h).2.2.2) k
theorem kops_w {t n bt : Nat} {z : Option Value} (ha : zc8 P t = some true) (hi : zb5 P t = some (z, n, bt)) (h : stv (lwv o.op t n F) N ops o F = some (d, x)) (k : KOps P N ops l ((d, x) :: F) σ Q) : KOps P N ops (o :: l) F σ Q := kops_op (zbo h).1 (zbo h).2.1 (zbo h).2.2.1 (zg6 ha hi (zbo h).2.2.2) k
theorem kops_z (h : stz N ops o F = some d) (k : KOps P N ops l ((d, .s undef) :: F) σ Q) : KOps P N ops (o :: l) F σ Q := kops_skip (ze5 h).1 (ze5 h).2.1 (ze5 h).2.2 k
end
end Aw.K2
namespace Aw
open Go Go.RowKit Go.Proofs
def NoMp : Ob → Prop
 | .mp _ => False
 | _ => True
section
variable {P : Program} {σ σ' X : List Ob} {f : FuncId} {args : List AV} {r : AV}
def zox (G : Cx) (τ : List Ob) (k b : Nat) : Prop := ∃ i, k ≤ i ∧ zdd τ i ∧ G.mu i = some (some b)
def Cx.front (G : Cx) (τ : List Ob) (k : Nat) : Cx := { G with mu := fun i => if i < k then G.mu i else none, Pr := fun b o => G.Pr b o ∨ zox G τ k b }
theorem zfd {G G' : Cx} {k b sz : Nat} {cs : List AV} {f : Nat × Nat → Prop} (low : ∀ {v x}, Rep G v x → Lo k x → Rep G' v x) (hw : G'.w = G.w) (hlo : ∀ e ∈ cs, ∀ c ∈ e.cells, Lo k c) : zdl G b sz cs f → zdl G' b sz cs f := fun ⟨cur, t, fr, g1, g2, g3, g4⟩ =>
 ⟨cur, t, fr, by rw [hw]; exact g1, g2, g3, fun i e he => ⟨(g4 i e he).1, (g4 i e he).2.1, fun j c hc => by
  obtain ⟨v, h6, h7⟩ := (g4 i e he).2.2 j c hc
  exact ⟨v, h6, low h7 (hlo e (List.mem_of_getElem? he) c (List.mem_of_getElem? hc))⟩⟩⟩
theorem zwk {G : Cx} (hr : Rel G (σ ++ X)) (hm : ∀ ob ∈ σ, NoMp ob) (ho : ∀ ob ∈ σ, ObLo σ.length ob) : Rel (G.front (σ ++ X) σ.length) σ := by
 have hmu : ∀ i, i < σ.length → (G.front (σ ++ X) σ.length).mu i = G.mu i := fun i hi => if_pos hi
 have low : ∀ {v x}, Rep G v x → Lo σ.length x → Rep (G.front (σ ++ X) σ.length) v x := fun hv hx => hv.low hx (fun _ _ h => h) (fun _ _ _ => rfl) (fun id y hid hy => by rw [hmu id hid]; exact hy) (fun _ => zcc.refl _)
 have hget : ∀ id ob, σ[id]? = some ob → (σ ++ X)[id]? = some ob := fun id ob h => by rw [List.getElem?_append_left (List.getElem?_eq_some_iff.1 h).1]; exact h
 refine ⟨hr.below, hr.le, fun b o h => ?_, fun id ob hob => ?_, fun i j b hi hj hm1 hm2 => ?_, fun id hid => if_neg (by omega)⟩
 ·
  rcases h with h | h | ⟨i, h1, ⟨sz, cs, h2⟩, h3⟩
  ·
   exact hr.st b o (.inl h)
  ·
   exact hr.st b o (.inr h)
  ·
   exact (hr.obs i _ h2).lt h3
 ·
  have hid := (List.getElem?_eq_some_iff.1 hob).1
  have h1 := hr.obs id ob (hget id ob hob)
  have hlo := ho ob (List.mem_of_getElem? hob)
  have hnm := hm ob (List.mem_of_getElem? hob)
  cases ob with
  | dead => intro b hb; rw [hmu id hid] at hb; exact h1 b hb
  | row sz cs =>
   simp only [ObOk, hmu id hid] at h1 ⊢
   cases hx : G.mu id with
   | none => rw [hx] at h1; exact h1
   | some x =>
    rw [hx] at h1
    cases x with
    | none => exact h1
    | some b =>
     refine ⟨zfd low rfl (fun e he c hc => (hlo e he).cells c hc) h1.1, h1.2.1, fun o h => ?_⟩
     rcases h with h | h | ⟨i, g1, g2, g3⟩
     ·
      exact h1.2.2 o (.inl h)
     ·
      exact h1.2.2 o (.inr h)
     ·
      have := hr.inj i id b g2 ⟨sz, cs, hget id _ hob⟩ g3 hx
      omega
  | fz sz cs =>
   simp only [ObOk, hmu id hid] at h1 ⊢
   cases hx : G.mu id with
   | none => rw [hx] at h1; exact h1
   | some x =>
    rw [hx] at h1
    cases x with
    | none => exact h1
    | some b => exact ⟨zfd low rfl (fun e he c hc => (hlo e he).cells c hc) h1.1, h1.2⟩
  | mp X => exact hnm.elim
 ·
  obtain ⟨sz, cs, h1⟩ := hi
  obtain ⟨sz', cs', h1'⟩ := hj
  rw [hmu i (List.getElem?_eq_some_iff.1 h1).1] at hm1
  rw [hmu j (List.getElem?_eq_some_iff.1 h1').1] at hm2
  exact hr.inj i j b ⟨sz, cs, hget i _ h1⟩ ⟨sz', cs', hget j _ h1'⟩ hm1 hm2
theorem CallE.frame (h : CallE P f args σ r σ') (hl : σ'.length = σ.length) (hX : ∀ ob ∈ X, NoMp ob) (hm : ∀ ob ∈ σ, NoMp ob) (hm' : ∀ ob ∈ σ', NoMp ob) (ha : ∀ x ∈ args, Lo σ.length x) (ho : ∀ ob ∈ σ, ObLo σ.length ob) : CallE P f args (σ ++ X) r (σ' ++ X) := by
 refine ⟨h.ent, fun G vargs hr hsz hrep => ?_⟩
 have hmu : ∀ i, i < σ.length → (G.front (σ ++ X) σ.length).mu i = G.mu i := fun i hi => if_pos hi
 have low : ∀ {v x}, Rep G v x → Lo σ.length x → Rep (G.front (σ ++ X) σ.length) v x := fun hv hx => hv.low hx (fun _ _ h => h) (fun _ _ _ => rfl) (fun id y hid hy => by rw [hmu id hid]; exact hy) (fun _ => zcc.refl _)
 refine (h.call (G.front (σ ++ X) σ.length) vargs (zwk hr hm ho) hsz (fun j v x h1 h2 => low (hrep j v x h1 h2) (ha x (List.mem_of_getElem? h2)))).mono ?_
 rintro e w' ⟨v, G', rfl, rfl, he, hr', hv⟩
 let G2 : Cx := { G' with mu := fun i => if i < σ.length then G'.mu i else G.mu i, Pr := G.Pr }
 have hmu2 : ∀ i, i < σ.length → G2.mu i = G'.mu i := fun i hi => if_pos hi
 have hmu3 : ∀ i, σ.length ≤ i → G2.mu i = G.mu i := fun i hi => if_neg (by omega)
 have low2 : ∀ {v x}, Rep G' v x → Lo σ.length x → Rep G2 v x := fun hv hx => hv.low hx (fun _ _ h => h) (fun _ _ _ => rfl) (fun id y hid hy => by rw [hmu2 id hid]; exact hy) (fun _ => zcc.refl _)
 have hpr : ∀ b o, G.Pr b o → G'.Pr b o := fun b o h => by rw [he.pr]; exact .inl h
 have hsp : ∀ b o, G2.SP b o → G'.SP b o := fun b o h => h.imp id (hpr b o)
 have hext : G.Ext G2 := ⟨he.base, he.w0, he.st, fun b o h => he.cell b o (h.imp id .inl), fun id x hx => by
   by_cases hid : id < σ.length
   ·
    rw [hmu2 id hid]; exact he.mu id x (by rw [hmu id hid]; exact hx)
   ·
    rw [hmu3 id (by omega)]; exact hx, he.size, he.rows, he.stN, rfl, fun b o h => (he.prN b o h).imp id (fun h1 h2 => h1 (.inl h2)), he.oth⟩
 have hlo' : ∀ id ob, σ'[id]? = some ob → ObLo σ.length ob := fun id ob hob => by rw [← hl]; exact zr6 hr' hob
 have hprot : ∀ b, zox G (σ ++ X) σ.length b → ∀ o, G'.Pr b o := fun b hb o => by rw [he.pr]; exact .inr hb
 refine ⟨v, G2, rfl, rfl, hext, ⟨hr'.below, hr'.le, fun b o h => hr'.st b o (hsp b o h), fun id ob hob => ?_, fun i j b hi hj h1 h2 => ?_, fun id hid => ?_⟩, low2 hv (by rw [← hl]; exact zr5 hr'.fresh hv)⟩
 ·
  by_cases hid : id < σ.length
  ·
   rw [List.getElem?_append_left (by omega)] at hob
   have h1 := hr'.obs id ob hob
   have hlo := hlo' id ob hob
   have hnm := hm' ob (List.mem_of_getElem? hob)
   cases ob with
   | dead => intro b hb; rw [hmu2 id hid] at hb; exact h1 b hb
   | row sz cs =>
    simp only [ObOk, hmu2 id hid] at h1 ⊢
    cases hx : G'.mu id with
    | none => rw [hx] at h1; exact h1
    | some x =>
     rw [hx] at h1
     cases x with
     | none => exact h1
     | some b => exact ⟨zfd low2 rfl (fun e he c hc => (hlo e he).cells c hc) h1.1, h1.2.1, fun o h => h1.2.2 o (hsp b o h)⟩
   | fz sz cs =>
    simp only [ObOk, hmu2 id hid] at h1 ⊢
    cases hx : G'.mu id with
    | none => rw [hx] at h1; exact h1
    | some x =>
     rw [hx] at h1
     cases x with
     | none => exact h1
     | some b => exact ⟨zfd low2 rfl (fun e he c hc => (hlo e he).cells c hc) h1.1, h1.2⟩
   | mp X => exact hnm.elim
  ·
   rw [List.getElem?_append_right (by omega), hl] at hob
   have hobX : (σ ++ X)[id]? = some ob := by rw [List.getElem?_append_right (by omega)]; exact hob
   have h1 := hr.obs id ob hobX
   have hnm := hX ob (List.mem_of_getElem? hob)
   have keepRow : ∀ {b sz : Nat} {cs : List AV} {fq : Nat × Nat → Prop}, zdl G b sz cs fq → (∀ (k : Nat) e (j : Nat), cs[k]? = some e → j < e.cells.length → (G.front (σ ++ X) σ.length).SP b (k * sz + j)) → zdl G2 b sz cs fq := fun ⟨cur, t, fr, g1, g2, g3, g4⟩ hk => by
    obtain ⟨cur', k1, k2⟩ := he.rows _ _ _ _ g1
    refine ⟨cur', t, fr, k1, g2, by rw [k2]; exact g3, fun k e hke => ⟨(g4 k e hke).1, (g4 k e hke).2.1, fun j c hc => ?_⟩⟩
    obtain ⟨u, q1, q2⟩ := (g4 k e hke).2.2 j c hc
    have hcell := he.cell _ _ (hk k e j hke (List.getElem?_eq_some_iff.1 hc).1)
    simp only [World.cell?, k1] at hcell
    have e1 : (G.front (σ ++ X) σ.length).w.heap[_]? = _ := g1
    simp only [e1] at hcell
    refine ⟨u, ?_, q2.ext hext⟩
    simpa [q1] using hcell
   cases ob with
   | dead => intro b hb; rw [hmu3 id (by omega)] at hb; exact Nat.lt_of_lt_of_le (h1 b hb) he.size
   | row sz cs =>
    simp only [ObOk, hmu3 id (by omega)] at h1 ⊢
    cases hx : G.mu id with
    | none => rw [hx] at h1; exact h1
    | some x =>
     rw [hx] at h1
     cases x with
     | none => exact h1
     | some b =>
      have hrow : zox G (σ ++ X) σ.length b := ⟨id, by omega, ⟨sz, cs, hobX⟩, hx⟩
      refine ⟨keepRow h1.1 (fun k e j _ _ => .inr (.inr hrow)), ?_, fun o h => ?_⟩
      ·
       show G'.base ≤ b
       rw [he.base]; exact h1.2.1
      ·
       rcases h with h | h
       ·
        rcases he.prN b o h with h2 | h2
        ·
         exact h1.2.2 o (.inl h2)
        ·
         exact h2 (.inr hrow)
       ·
        exact h1.2.2 o (.inr h)
   | fz sz cs =>
    simp only [ObOk, hmu3 id (by omega)] at h1 ⊢
    cases hx : G.mu id with
    | none => rw [hx] at h1; exact h1
    | some x =>
     rw [hx] at h1
     cases x with
     | none => exact h1
     | some b => exact ⟨keepRow h1.1 (fun k e j hk hj => .inl (h1.2 k e j hk hj)), fun k e j hk hj => he.st _ _ (h1.2 k e j hk hj)⟩
   | mp X => exact hnm.elim
 ·
  have cross : ∀ i j, i < σ.length → σ.length ≤ j → zdd (σ' ++ X) i → zdd (σ' ++ X) j → G2.mu i = some (some b) → G2.mu j = some (some b) → False := fun i j hi hj ⟨sz, cs, a1⟩ ⟨sz', cs', a2⟩ m1 m2 => by
   rw [List.getElem?_append_left (by omega)] at a1
   rw [List.getElem?_append_right (by omega), hl] at a2
   rw [hmu2 i hi] at m1
   rw [hmu3 j hj] at m2
   have h3 := hr'.obs i _ a1
   simp only [ObOk, m1] at h3
   exact h3.2.2 0 (.inr (hprot b ⟨j, hj, ⟨sz', cs', by rw [List.getElem?_append_right (by omega)]; exact a2⟩, m2⟩ 0))
  rcases Nat.lt_or_ge i σ.length with hi' | hi' <;> rcases Nat.lt_or_ge j σ.length with hj' | hj'
  ·
   obtain ⟨sz, cs, a1⟩ := hi
   obtain ⟨sz', cs', a2⟩ := hj
   rw [List.getElem?_append_left (by omega)] at a1 a2
   rw [hmu2 i hi'] at h1
   rw [hmu2 j hj'] at h2
   exact hr'.inj i j b ⟨sz, cs, a1⟩ ⟨sz', cs', a2⟩ h1 h2
  ·
   exact (cross i j hi' hj' hi hj h1 h2).elim
  ·
   exact (cross j i hj' hi' hj hi h2 h1).elim
  ·
   obtain ⟨sz, cs, a1⟩ := hi
   obtain ⟨sz', cs', a2⟩ := hj
   rw [List.getElem?_append_right (by omega), hl] at a1 a2
   rw [hmu3 i hi'] at h1
   rw [hmu3 j hj'] at h2
   refine hr.inj i j b ⟨sz, cs, ?_⟩ ⟨sz', cs', ?_⟩ h1 h2
   ·
    rw [List.getElem?_append_right (by omega)]; exact a1
   ·
    rw [List.getElem?_append_right (by omega)]; exact a2
 ·
  rw [List.length_append, hl] at hid
  rw [hmu3 id (by omega)]
  exact hr.fresh id (by rw [List.length_append]; exact hid)
end
end Aw
namespace Aw
open Go Go.RowKit Go.Proofs
section
variable {P : Program} {σ σ' X : List Ob} {f : FuncId} {args : List AV} {r : AV}
theorem zt3 {G : Cx} (hr : Rel G (σ ++ X)) (ho : ∀ ob ∈ σ, ObLo σ.length ob) : Rel (G.front (σ ++ X) σ.length) σ := by
 have hmu : ∀ i, i < σ.length → (G.front (σ ++ X) σ.length).mu i = G.mu i := fun i hi => if_pos hi
 have low : ∀ {v x}, Rep G v x → Lo σ.length x → Rep (G.front (σ ++ X) σ.length) v x := fun hv hx => hv.low hx (fun _ _ h => h) (fun _ _ _ => rfl) (fun id y hid hy => by rw [hmu id hid]; exact hy) (fun _ => zcc.refl _)
 have hget : ∀ id ob, σ[id]? = some ob → (σ ++ X)[id]? = some ob := fun id ob h => by rw [List.getElem?_append_left (List.getElem?_eq_some_iff.1 h).1]; exact h
 refine ⟨hr.below, hr.le, fun b o h => ?_, fun id ob hob => ?_, fun i j b hi hj hm1 hm2 => ?_, fun id hid => if_neg (by omega)⟩
 ·
  rcases h with h | h | ⟨i, h1, ⟨sz, cs, h2⟩, h3⟩
  ·
   exact hr.st b o (.inl h)
  ·
   exact hr.st b o (.inr h)
  ·
   exact (hr.obs i _ h2).lt h3
 ·
  have hid := (List.getElem?_eq_some_iff.1 hob).1
  have h1 := hr.obs id ob (hget id ob hob)
  have hlo := ho ob (List.mem_of_getElem? hob)
  cases ob with
  | dead => intro b hb; rw [hmu id hid] at hb; exact h1 b hb
  | row sz cs =>
   simp only [ObOk, hmu id hid] at h1 ⊢
   cases hx : G.mu id with
   | none => rw [hx] at h1; exact h1
   | some x =>
    rw [hx] at h1
    cases x with
    | none => exact h1
    | some b =>
     refine ⟨zfd low rfl (fun e he c hc => (hlo e he).cells c hc) h1.1, h1.2.1, fun o h => ?_⟩
     rcases h with h | h | ⟨i, g1, g2, g3⟩
     ·
      exact h1.2.2 o (.inl h)
     ·
      exact h1.2.2 o (.inr h)
     ·
      have := hr.inj i id b g2 ⟨sz, cs, hget id _ hob⟩ g3 hx
      omega
  | fz sz cs =>
   simp only [ObOk, hmu id hid] at h1 ⊢
   cases hx : G.mu id with
   | none => rw [hx] at h1; exact h1
   | some x =>
    rw [hx] at h1
    cases x with
    | none => exact h1
    | some b => exact ⟨zfd low rfl (fun e he c hc => (hlo e he).cells c hc) h1.1, h1.2⟩
  | mp Y =>
   obtain ⟨b, g1, g2, g3, g4, g5⟩ := h1
   refine ⟨b, by rw [hmu id hid]; exact g1, g2, g3, fun o h => ?_, fun j hj => ?_⟩
   ·
    rcases h with h | h | ⟨i, q1, q2, q3⟩
    ·
     exact g4 o (.inl h)
    ·
     exact g4 o (.inr h)
    ·
     have := g5 i q3
     omega
   ·
    by_cases hjk : j < σ.length
    ·
     rw [hmu j hjk] at hj; exact g5 j hj
    ·
     have : (G.front (σ ++ X) σ.length).mu j = none := if_neg (by omega)
     rw [this] at hj; cases hj
 ·
  obtain ⟨sz, cs, h1⟩ := hi
  obtain ⟨sz', cs', h1'⟩ := hj
  rw [hmu i (List.getElem?_eq_some_iff.1 h1).1] at hm1
  rw [hmu j (List.getElem?_eq_some_iff.1 h1').1] at hm2
  exact hr.inj i j b ⟨sz, cs, hget i _ h1⟩ ⟨sz', cs', hget j _ h1'⟩ hm1 hm2
theorem CallE.frameM (h : CallE P f args σ r σ') (hl : σ'.length = σ.length) (hX : ∀ ob ∈ X, NoMp ob) (hm' : ∀ (id : Nat) (Y : MapX), σ'[id]? = some (Ob.mp Y) → ∃ Y', σ[id]? = some (Ob.mp Y')) (ha : ∀ x ∈ args, Lo σ.length x) (ho : ∀ ob ∈ σ, ObLo σ.length ob) : CallE P f args (σ ++ X) r (σ' ++ X) := by
 refine ⟨h.ent, fun G vargs hr hsz hrep => ?_⟩
 have hmu : ∀ i, i < σ.length → (G.front (σ ++ X) σ.length).mu i = G.mu i := fun i hi => if_pos hi
 have low : ∀ {v x}, Rep G v x → Lo σ.length x → Rep (G.front (σ ++ X) σ.length) v x := fun hv hx => hv.low hx (fun _ _ h => h) (fun _ _ _ => rfl) (fun id y hid hy => by rw [hmu id hid]; exact hy) (fun _ => zcc.refl _)
 refine (h.call (G.front (σ ++ X) σ.length) vargs (zt3 hr ho) hsz (fun j v x h1 h2 => low (hrep j v x h1 h2) (ha x (List.mem_of_getElem? h2)))).mono ?_
 rintro e w' ⟨v, G', rfl, rfl, he, hr', hv⟩
 let G2 : Cx := { G' with mu := fun i => if i < σ.length then G'.mu i else G.mu i, Pr := G.Pr }
 have hmu2 : ∀ i, i < σ.length → G2.mu i = G'.mu i := fun i hi => if_pos hi
 have hmu3 : ∀ i, σ.length ≤ i → G2.mu i = G.mu i := fun i hi => if_neg (by omega)
 have low2 : ∀ {v x}, Rep G' v x → Lo σ.length x → Rep G2 v x := fun hv hx => hv.low hx (fun _ _ h => h) (fun _ _ _ => rfl) (fun id y hid hy => by rw [hmu2 id hid]; exact hy) (fun _ => zcc.refl _)
 have hpr : ∀ b o, G.Pr b o → G'.Pr b o := fun b o h => by rw [he.pr]; exact .inl h
 have hsp : ∀ b o, G2.SP b o → G'.SP b o := fun b o h => h.imp id (hpr b o)
 have hext : G.Ext G2 := ⟨he.base, he.w0, he.st, fun b o h => he.cell b o (h.imp id .inl), fun id x hx => by
   by_cases hid : id < σ.length
   ·
    rw [hmu2 id hid]; exact he.mu id x (by rw [hmu id hid]; exact hx)
   ·
    rw [hmu3 id (by omega)]; exact hx, he.size, he.rows, he.stN, rfl, fun b o h => (he.prN b o h).imp id (fun h1 h2 => h1 (.inl h2)), he.oth⟩
 have hlo' : ∀ id ob, σ'[id]? = some ob → ObLo σ.length ob := fun id ob hob => by rw [← hl]; exact zr6 hr' hob
 have hprot : ∀ b, zox G (σ ++ X) σ.length b → ∀ o, G'.Pr b o := fun b hb o => by rw [he.pr]; exact .inr hb
 refine ⟨v, G2, rfl, rfl, hext, ⟨hr'.below, hr'.le, fun b o h => hr'.st b o (hsp b o h), fun id ob hob => ?_, fun i j b hi hj h1 h2 => ?_, fun id hid => ?_⟩, low2 hv (by rw [← hl]; exact zr5 hr'.fresh hv)⟩
 ·
  by_cases hid : id < σ.length
  ·
   rw [List.getElem?_append_left (by omega)] at hob
   have h1 := hr'.obs id ob hob
   have hlo := hlo' id ob hob
   cases ob with
   | dead => intro b hb; rw [hmu2 id hid] at hb; exact h1 b hb
   | row sz cs =>
    simp only [ObOk, hmu2 id hid] at h1 ⊢
    cases hx : G'.mu id with
    | none => rw [hx] at h1; exact h1
    | some x =>
     rw [hx] at h1
     cases x with
     | none => exact h1
     | some b => exact ⟨zfd low2 rfl (fun e he c hc => (hlo e he).cells c hc) h1.1, h1.2.1, fun o h => h1.2.2 o (hsp b o h)⟩
   | fz sz cs =>
    simp only [ObOk, hmu2 id hid] at h1 ⊢
    cases hx : G'.mu id with
    | none => rw [hx] at h1; exact h1
    | some x =>
     rw [hx] at h1
     cases x with
     | none => exact h1
     | some b => exact ⟨zfd low2 rfl (fun e he c hc => (hlo e he).cells c hc) h1.1, h1.2⟩
   | mp Y =>
    obtain ⟨Y', hY⟩ := hm' id Y hob
    obtain ⟨b0, q1, q2, q3, q4, q5⟩ := hr.obs id _ (show (σ ++ X)[id]? = some (.mp Y') by rw [List.getElem?_append_left hid]; exact hY)
    obtain ⟨b, g1, g2, g3, g4, g5⟩ := h1
    have hb : b = b0 := by
     have := he.mu id _ (by rw [hmu id hid]; exact q1)
     rw [g1] at this
     exact Option.some.inj (Option.some.inj this)
    subst hb
    refine ⟨b, by rw [hmu2 id hid]; exact g1, g2, g3, fun o h => g4 o (hsp b o h), fun j hj => ?_⟩
    by_cases hjk : j < σ.length
    ·
     rw [hmu2 j hjk] at hj; exact g5 j hj
    ·
     rw [hmu3 j (by omega)] at hj; exact q5 j hj
  ·
   rw [List.getElem?_append_right (by omega), hl] at hob
   have hobX : (σ ++ X)[id]? = some ob := by rw [List.getElem?_append_right (by omega)]; exact hob
   have h1 := hr.obs id ob hobX
   have hnm := hX ob (List.mem_of_getElem? hob)
   have keepRow : ∀ {b sz : Nat} {cs : List AV} {fq : Nat × Nat → Prop}, zdl G b sz cs fq → (∀ (k : Nat) e (j : Nat), cs[k]? = some e → j < e.cells.length → (G.front (σ ++ X) σ.length).SP b (k * sz + j)) → zdl G2 b sz cs fq := fun ⟨cur, t, fr, g1, g2, g3, g4⟩ hk => by
    obtain ⟨cur', k1, k2⟩ := he.rows _ _ _ _ g1
    refine ⟨cur', t, fr, k1, g2, by rw [k2]; exact g3, fun k e hke => ⟨(g4 k e hke).1, (g4 k e hke).2.1, fun j c hc => ?_⟩⟩
    obtain ⟨u, q1, q2⟩ := (g4 k e hke).2.2 j c hc
    have hcell := he.cell _ _ (hk k e j hke (List.getElem?_eq_some_iff.1 hc).1)
    simp only [World.cell?, k1] at hcell
    have e1 : (G.front (σ ++ X) σ.length).w.heap[_]? = _ := g1
    simp only [e1] at hcell
    refine ⟨u, ?_, q2.ext hext⟩
    simpa [q1] using hcell
   cases ob with
   | dead => intro b hb; rw [hmu3 id (by omega)] at hb; exact Nat.lt_of_lt_of_le (h1 b hb) he.size
   | row sz cs =>
    simp only [ObOk, hmu3 id (by omega)] at h1 ⊢
    cases hx : G.mu id with
    | none => rw [hx] at h1; exact h1
    | some x =>
     rw [hx] at h1
     cases x with
     | none => exact h1
     | some b =>
      have hrow : zox G (σ ++ X) σ.length b := ⟨id, by omega, ⟨sz, cs, hobX⟩, hx⟩
      refine ⟨keepRow h1.1 (fun k e j _ _ => .inr (.inr hrow)), ?_, fun o h => ?_⟩
      ·
       show G'.base ≤ b
       rw [he.base]; exact h1.2.1
      ·
       rcases h with h | h
       ·
        rcases he.prN b o h with h2 | h2
        ·
         exact h1.2.2 o (.inl h2)
        ·
         exact h2 (.inr hrow)
       ·
        exact h1.2.2 o (.inr h)
   | fz sz cs =>
    simp only [ObOk, hmu3 id (by omega)] at h1 ⊢
    cases hx : G.mu id with
    | none => rw [hx] at h1; exact h1
    | some x =>
     rw [hx] at h1
     cases x with
     | none => exact h1
     | some b => exact ⟨keepRow h1.1 (fun k e j hk hj => .inl (h1.2 k e j hk hj)), fun k e j hk hj => he.st _ _ (h1.2 k e j hk hj)⟩
   | mp X => exact hnm.elim
 ·
  have cross : ∀ i j, i < σ.length → σ.length ≤ j → zdd (σ' ++ X) i → zdd (σ' ++ X) j → G2.mu i = some (some b) → G2.mu j = some (some b) → False := fun i j hi hj ⟨sz, cs, a1⟩ ⟨sz', cs', a2⟩ m1 m2 => by
   rw [List.getElem?_append_left (by omega)] at a1
   rw [List.getElem?_append_right (by omega), hl] at a2
   rw [hmu2 i hi] at m1
   rw [hmu3 j hj] at m2
   have h3 := hr'.obs i _ a1
   simp only [ObOk, m1] at h3
   exact h3.2.2 0 (.inr (hprot b ⟨j, hj, ⟨sz', cs', by rw [List.getElem?_append_right (by omega)]; exact a2⟩, m2⟩ 0))
  rcases Nat.lt_or_ge i σ.length with hi' | hi' <;> rcases Nat.lt_or_ge j σ.length with hj' | hj'
  ·
   obtain ⟨sz, cs, a1⟩ := hi
   obtain ⟨sz', cs', a2⟩ := hj
   rw [List.getElem?_append_left (by omega)] at a1 a2
   rw [hmu2 i hi'] at h1
   rw [hmu2 j hj'] at h2
   exact hr'.inj i j b ⟨sz, cs, a1⟩ ⟨sz', cs', a2⟩ h1 h2
  ·
   exact (cross i j hi' hj' hi hj h1 h2).elim
  ·
   exact (cross j i hj' hi' hj hi h2 h1).elim
  ·
   obtain ⟨sz, cs, a1⟩ := hi
   obtain ⟨sz', cs', a2⟩ := hj
   rw [List.getElem?_append_right (by omega), hl] at a1 a2
   rw [hmu3 i hi'] at h1
   rw [hmu3 j hj'] at h2
   refine hr.inj i j b ⟨sz, cs, ?_⟩ ⟨sz', cs', ?_⟩ h1 h2
   ·
    rw [List.getElem?_append_right (by omega)]; exact a1
   ·
    rw [List.getElem?_append_right (by omega)]; exact a2
 ·
  rw [List.length_append, hl] at hid
  rw [hmu3 id (by omega)]
  exact hr.fresh id (by rw [List.length_append]; exact hid)
end
end Aw
end Go.Proofs.YtjhdcgaiccnmeaaGreatDoor
