import Derived.Test.YtjhdcgaiccnmeaaGreatDoorJB29
import Derived.Test.YtjhdcgaiccnmeaaGreatDoorJB28
import Derived.Test.YtjhdcgaiccnmeaaGreatDoorJB13
import Derived.Test.YtjhdcgaiccnmeaaGreatDoorJB33
import Derived.Test.YtjhdcgaiccnmeaaGreatDoorJB21
import Derived.Test.YtjhdcgaiccnmeaaGreatDoorJB32
import Derived.Test.YtjhdcgaiccnmeaaGreatDoorJB23
import Derived.Test.YtjhdcgaiccnmeaaGreatDoorJB16
import Derived.Test.YtjhdcgaiccnmeaaGreatDoorJB27
set_option linter.unusedSimpArgs false
set_option linter.unusedVariables false
set_option linter.unusedSectionVars false
namespace Go.Proofs.YtjhdcgaiccnmeaaGreatDoor
namespace Aw
open Go Go.RowKit Go.Proofs Go.Maps Go.WideMaps Dl
variable {P : Program} [IsP P]
def keyZ (m : List Int) : ByteArray := ⟨(keyD m).toArray⟩
theorem zwa {m : List Int} (h : ∀ x ∈ m, 0 ≤ x ∧ x ≤ 255) : (keyZ m).size ≤ 4 * m.length := zsi h
theorem z19 (m : List Int) (hm : ∀ x ∈ m, 0 ≤ x ∧ x ≤ 255) (hl : m.length ≤ 1000) (hne : m ≠ []) : Pure P 68 [eL eI m] (eS (keyZ m)) :=
 zcs (zfr (zej Tryz.func68 rfl rfl) (.s _) fun G vargs hst hsz hrep => by
  obtain ⟨x, rfl, h1⟩ := argsI hst hsz hrep
  refine (z1r m _ _ x G.w h1 hm hl hne hst.tab hst.tab.lt).mono ?_
  rintro e w' ⟨rfl, hb⟩
  exact ⟨_, rfl, hb, .s _⟩)
theorem zio {n : Net} {w : List ByteArray} {s : List Int} (h : okS n w s) : Pure P 68 [eL eI s] (eS (keyZ s)) := z19 s h.small (by have := h.len; omega) h.ne
theorem zil {n : Net} {w : List ByteArray} {s : List Int} (h : okS n w s) : (keyZ s).size ≤ maxLen := by have := zwa h.small; have := h.len; unfold maxLen; omega
def ePf (p : Prf) : AV := .agg [eL (eL eI) p.st, eL eI p.pots, eL eF p.duals]
def eKP (r : Int × Prf × Int) : AV := .tup [eI r.1, ePf r.2.1, eI r.2.2]
def zPA : AV := .agg [.s (.slice none 0 0), .s (.slice none 0 0), .s (.slice none 0 0)]
theorem zgm {k : Nat} (l : List (List Int)) : Lo k (eL (eL eI) l) := zan fun _ => lo_I
theorem zfe {k : Nat} (a : Fr) : Lo k (eF a) := .agg _ (zah (.s _) (zah (.s _) zak))
theorem zij {k : Nat} (p : Prf) : Lo k (ePf p) := .agg _ (zah (zgm _) (zah lo_I (zah (zan fun a => zfe a) zak)))
theorem lo_T {k : Nat} (t : Tr) : Lo k (eT t) := .agg _ (zah (.s _) (zah lo_I (zah lo_I zak)))
theorem lo_N {k : Nat} (n : Net) : Lo k (eN n) := .agg _ (zah (.s _) (zah (zan fun t => lo_T t) (zah (.s _) (zah (.s _) zak))))
theorem lo_W {k : Nat} (w : List ByteArray) : Lo k (eL eS w) := zan fun _ => .s _
theorem zpf {k : Nat} (e : Edg) : Lo k (eEd e) := .agg _ (by intro c hc; simp [eI] at hc; rcases hc with rfl | rfl | rfl <;> exact .s _)
theorem zj0 : ∀ e ∈ [zPA], ∀ c ∈ e.cells, Lo 0 c := by
 intro e he c hc
 simp at he; subst he
 simp [zPA, AV.cells] at hc; subst hc; exact .s _
theorem zde (l : List (List Int)) : ∀ e ∈ l.map (eL eI), ∀ c ∈ e.cells, Lo 0 c := by
 intro e he c hc
 obtain ⟨x, _, rfl⟩ := List.mem_map.1 he
 simp [eL, AV.cells] at hc; subst hc; exact lo_I
theorem zsq (l : List Edg) : ∀ e ∈ l.map eEd, ∀ c ∈ e.cells, Lo 0 c := by
 intro e he c hc
 obtain ⟨x, _, rfl⟩ := List.mem_map.1 he
 simp [eEd, AV.cells, eI] at hc; rcases hc with rfl | rfl | rfl <;> exact .s _
theorem zf0 (l : List Int) : ∀ e ∈ l.map eI, ∀ c ∈ e.cells, Lo 0 c := by
 intro e he c hc
 obtain ⟨x, _, rfl⟩ := List.mem_map.1 he
 simp [eI, AV.cells] at hc; subst hc; exact .s _
theorem zdt (l : List Fr) : ∀ e ∈ l.map eF, ∀ c ∈ e.cells, Lo 0 c := by
 intro e he c hc
 obtain ⟨x, _, rfl⟩ := List.mem_map.1 he
 exact (zfe x).cells c hc
theorem zr9 {F : Frm} {σ : List Ob} {t ad u : Nat} {ty : TypeId} {id sz k n bt : Nat} {z : Option Value} {ob : Ob} {cs : List AV} {e1 x r0 r1 y r2 : AV} {e : Exit} (he : e = .normal ∨ e = .ret) (ht : F.get t = x) (ha : zc8 P ty = some true) (hi : zb5 P ty = some (z, n, bt)) (hp : F.get ad = .ptr id sz k 0) (hs : σ[id]? = some ob) (ho : ze7 ob = some (sz, cs)) (hk : cs[k]? = some e1) (hn : e1.cells.length = n) (hu : F.get u = y) (hr0 : Fini σ x r0) (hr1 : Fini σ (.agg e1.cells) r1) (hr2 : Fini σ y r2) : zl7 P [.tmp t, .cell ad ty, .tmp u] (.tup [r0, r1, r2]) e F σ :=
 ⟨he, [x, .agg e1.cells, y], .cons _ _ _ _ (.tmp t x ht) (.cons _ _ _ _ (.cells ad ty id sz k n bt z ob cs e1 ha hi hp hs ho hk hn) (.cons _ _ _ _ (.tmp u y hu) .nil)), .tup _ _ rfl (zbd.cons hr0 (zbd.cons hr1 (zbd.cons hr2 zbd.nil))).2⟩
theorem zkh {F : Frm} {σ : List Ob} {t ad u : Nat} {ty : TypeId} {id sz n bt : Nat} {z : Option Value} {ob : Ob} {cs : List AV} {r : Int × Prf × Int} {k m : Int} {e : Exit} (he : e = .normal ∨ e = .ret) (ht : F.get t = eI k) (ha : zc8 P ty = some true) (hi : zb5 P ty = some (z, n, bt)) (hp : F.get ad = .ptr id sz 0 0) (hs : σ[id]? = some ob) (ho : ze7 ob = some (sz, cs)) (hk : cs[0]? = some zPA) (hn : zPA.cells.length = n) (hu : F.get u = eI m) (hr : r = (k, zPf, m)) : zl7 P [.tmp t, .cell ad ty, .tmp u] (eKP r) e F σ := by
 subst hr
 exact zr9 he ht ha hi hp hs ho hk hn hu (.refl _) (.agg _ _ rfl (zbd.cons .nil (zbd.cons .nil (zbd.cons .nil zbd.nil))).2) (.refl _)
def atD (S : List (List Int)) : DataW Unit := S.zipIdx.foldl (fun D p => D.put (.string (keyD p.1)) (.lit (.int .i64 (p.2 : Nat)))) (.map [])
theorem zkq (S : List (List Int)) (m : List Int) : atD (S ++ [m]) = (atD S).put (.string (keyD m)) (.lit (.int .i64 (S.length : Nat))) := by
 unfold atD
 rw [List.zipIdx_append, List.foldl_append]
 simp
theorem zxm : ∀ (k : Nat) (S : List (List Int)), S.length = k → IsMap (atD S)
 | 0, S, h => by rw [List.eq_nil_of_length_eq_zero h]; exact isMap_empty
 | k + 1, S, h => by
  have hne : S ≠ [] := fun e => by rw [e] at h; simp at h
  rw [← List.dropLast_concat_getLast hne, zkq]
  exact (zxm k S.dropLast (by simp [h])).put _ _
def Small (m : List Int) : Prop := ∀ x ∈ m, 0 ≤ x ∧ x ≤ 255
theorem zln {a b : List Int} (ha : Small a) (hb : Small b) (h : a ≠ b) : Lit.string (keyD a) ≠ Lit.string (keyD b) := fun e => h (zsj (fun x hx => (ha x hx).1) (fun x hx => (hb x hx).1) (by injection e))
theorem zxl {x : List Int} (hx : Small x) : ∀ (k : Nat) (S : List (List Int)), S.length = k → (∀ y ∈ S, Small y) → x ∉ S → Maps.has (atD S) (.string (keyD x)) = false
 | 0, S, h, _, _ => by rw [List.eq_nil_of_length_eq_zero h]; rfl
 | k + 1, S, h, hs, hn => by
  have hne : S ≠ [] := fun e => by rw [e] at h; simp at h
  have e := List.dropLast_concat_getLast hne
  have hl : S.getLast hne ∈ S := List.getLast_mem hne
  rw [← e, zkq, has_put_other (zln hx (hs _ hl) (fun e => hn (e ▸ hl)))]
  exact zxl hx k S.dropLast (by simp [h]) (fun y hy => hs y (List.dropLast_subset _ hy)) (fun hm => hn (List.dropLast_subset _ hm))
theorem zrm {x : List Int} (hx : Small x) : ∀ (k : Nat) (S : List (List Int)), S.length = k → (∀ y ∈ S, Small y) → S.Nodup → x ∈ S → Maps.has (atD S) (.string (keyD x)) = true ∧ ∀ z, (atD S).atKey (.string (keyD x)) z = .lit (.int .i64 (zef S x))
 | 0, S, h, _, _, hm => by rw [List.eq_nil_of_length_eq_zero h] at hm; simp at hm
 | k + 1, S, h, hs, hnd, hm => by
  have hne : S ≠ [] := fun e => by rw [e] at h; simp at h
  have e := List.dropLast_concat_getLast hne
  have hl : S.getLast hne ∈ S := List.getLast_mem hne
  generalize S.getLast hne = y at e hl
  generalize hS : S.dropLast = T at e
  have hTl : T.length = k := by rw [← hS]; simp [h]
  subst e
  have hiM := zxm k T hTl
  rw [zkq]
  by_cases he : x = y
  ·
   subst he
   have hnT : x ∉ T := fun hT => by
    have := List.nodup_append.1 hnd
    exact this.2.2 x hT x (by simp) rfl
   refine ⟨has_put_same hiM (show WideAt.IsKeyLit (.string _) from trivial) _, fun z => ?_⟩
   rw [atKey_put_same hiM (show WideAt.IsKeyLit (.string _) from trivial), zlt hnT]
  ·
   have hmT : x ∈ T := by
    rcases List.mem_append.1 hm with h1 | h1
    ·
     exact h1
    ·
     simp at h1; exact absurd h1 he
   obtain ⟨h1, h2⟩ := zrm hx k T hTl (fun z hz => hs z (List.mem_append_left _ hz)) (List.nodup_append.1 hnd).1 hmT
   have hk := zln hx (hs y hl) he
   refine ⟨by rw [has_put_other hk]; exact h1, fun z => ?_⟩
   rw [atKey_put_other hk, h2, zmb hmT]
def atX (P : Program) (S : List (List Int)) : MapX := ⟨P, 9, 3, S.length, atD S⟩
theorem zzs (P : Program) (S : List (List Int)) (m : List Int) : atX P (S ++ [m]) = { atX P S with n := (atX P S).n + 1, D := (atX P S).D.put (.string (keyD m)) (.lit (.int .i64 (S.length : Nat))) } := by
 unfold atX
 rw [zkq]
 simp
theorem zh5 {ρ : List Nat} {X Y : MapX} (h : X = Y) : ObRn ρ (.mp X) (.mp Y) := by subst h; exact .mp X X.n (Nat.le_refl _)
theorem wf_len {k : Nat} (h : k ≤ 2000) : (Lit.int .i64 (k : Nat)).wf = true := by
 unfold Lit.wf
 rw [Bool.and_eq_true]
 exact ⟨decide_eq_true (by show (-9223372036854775808 : Int) ≤ _; omega), decide_eq_true (by show _ ≤ (9223372036854775807 : Int); omega)⟩
end Aw
namespace Aw
open Go Go.RowKit Go.Proofs Go.Maps Go.WideMaps Dl
variable {P : Program} [IsP P]
theorem post_c {F : Frm} {σ : List Ob} {ad : Nat} {ty : TypeId} {id sz k n bt : Nat} {z : Option Value} {ob : Ob} {cs : List AV} {e1 r : AV} {e : Exit} (he : e = .normal ∨ e = .ret) (ha : zc8 P ty = some true) (hi : zb5 P ty = some (z, n, bt)) (hp : F.get ad = .ptr id sz k 0) (hs : σ[id]? = some ob) (ho : ze7 ob = some (sz, cs)) (hk : cs[k]? = some e1) (hn : e1.cells.length = n) (hr : Fini σ (.agg e1.cells) r) : zl7 P [.cell ad ty] r e F σ :=
 ⟨he, [.agg e1.cells], .cons _ _ _ _ (.cells ad ty id sz k n bt z ob cs e1 ha hi hp hs ho hk hn) .nil, hr⟩
theorem zer (n : Int) : Pure P 74 [eI n] (eF (Fr.of n)) := by
 refine zcl (by rw [IsP.eq (P := P)]; exact Tryz.func74) rfl rfl rfl rfl rfl (zah (.s _) zak) (.agg _ (zah (.s _) (zah (.s _) zak))) (by simp only [argF]; rfl) ?_
 refine zag (zab (zaf rfl rfl (zaa rfl) (za1 rfl ti56 rfl rfl) (zad (zag (zab (zac rfl (zaf rfl rfl (zaa rfl) (za9 rfl ti56 tp56 rfl rfl) (zba rfl (zaa rfl) (zaj rfl ti56 rfl rfl rfl rfl rfl rfl (by decide) (by decide)) (zad (zai ?_))))))))))
 (refine za7 ?_; repeat (first | refine zbc ?_ | refine zbe ?_))
 exact post_c (.inr rfl) ta56 ti56 rfl rfl rfl rfl rfl (.refl _)
theorem zsl {k : Nat} : ∀ {F : Frm}, (∀ p ∈ F, Lo k p.2) → ∀ d, Lo k (F.get d)
 | [], _, d => .any
 | (t, x) :: F, h, d => by
  simp only [Frm.get]
  cases Nat.beq t d with
  | true => exact h (t, x) (by simp)
  | false => exact zsl (fun p hp => h p (by simp [hp])) d
theorem zy8 {k : Nat} : ∀ p ∈ ([] : Frm), Lo k p.2 := by simp
theorem zfg {k d : Nat} {x : AV} {F : Frm} (h : Lo k x) (t : ∀ p ∈ F, Lo k p.2) : ∀ p ∈ (d, x) :: F, Lo k p.2 := fun p hp => by
 rcases List.mem_cons.1 hp with rfl | hp
 ·
  exact h
 ·
  exact t p hp
theorem rep_3i {G : Cx} (a b c : Int) : Rep G (.agg #[.int .i64 a, .int .i64 b, .int .i64 c]) (.agg [eI a, eI b, eI c]) :=
 .agg _ _ rfl (fun x hx => by simp [eI] at hx; rcases hx with rfl | rfl | rfl <;> rfl) (fun j v x hv hx => by
  match j, hv, hx with
  | 0, hv, hx => simp at hv hx; subst hv hx; exact .s _
  | 1, hv, hx => simp at hv hx; subst hv hx; exact .s _
  | 2, hv, hx => simp at hv hx; subst hv hx; exact .s _
  | j + 3, hv, hx => simp at hv)
theorem zi3 {ρ : List Nat} {sz i j s n m : Nat} (h : Rn ρ (.own i s n) (.own j s m)) : ObRn ρ (.row sz [.own i s n]) (.row sz [.own j s m]) :=
 .rowR sz _ _ h (fun k x y hx hy => by
  match k, hx, hy with
  | 0, hx, hy => simp [AV.cells] at hx hy; subst hx hy; exact h
  | k + 1, hx, hy => simp [AV.cells] at hx) rfl
def stF (g : Gr) (far : List Int) (ch : Bool) : List Ob := [.row 3 [zPA], .row 1 (g.st.map (eL eI)), .row 1 (far.map eI), .row 1 [.own 2 1 g.st.length], .row 1 [eB ch]]
def stU (g : Gr) (far : List Int) (k : Nat) : List Ob := [.row 3 [zPA], .row 1 (g.st.map (eL eI)), .row 1 (far.map eI), .row 1 [.own 2 1 g.st.length], .row 3 [.agg [.own 1 1 g.st.length, .own 2 1 g.st.length, .own 5 2 k]], .row 2 (List.replicate k (eF (Fr.of 0)))]
theorem zz2 {g : Gr} {far : List Int} {ch : Bool} {k : Nat} (hk : 2 < k) : ∀ ob ∈ stF g far ch, ObLo k ob := by
 intro ob hob
 simp only [stF, List.mem_cons, List.not_mem_nil, or_false] at hob
 rcases hob with rfl | rfl | rfl | rfl | rfl
 ·
  intro x hx; simp at hx; subst hx; exact .agg _ (by intro y hy; simp at hy; subst hy; exact .s _)
 ·
  intro x hx
  obtain ⟨y, _, rfl⟩ := List.mem_map.1 hx
  exact lo_I
 ·
  intro x hx
  obtain ⟨y, _, rfl⟩ := List.mem_map.1 hx
  exact .s _
 ·
  intro x hx; simp at hx; subst hx; exact .own _ _ _ hk
 ·
  intro x hx; simp at hx; subst hx; exact .s _
def bkK (M : List Edg) (k : Nat) (far : List Int) : List Int × Bool := (M.drop (M.length - k)).foldr bk (far, false)
theorem zzp (M : List Edg) (far : List Int) : bkK M 0 far = (far, false) := by unfold bkK; rw [Nat.sub_zero, List.drop_length]; rfl
theorem z2f (M : List Edg) (far : List Int) : bkK M M.length far = bkR M far := by unfold bkK bkR; rw [Nat.sub_self, List.drop_zero]
theorem zzq {M : List Edg} {k : Nat} (h : k < M.length) (far : List Int) : bkK M (k + 1) far = bk (gti M (M.length - 1 - k)) (bkK M k far) := by
 unfold bkK
 have e : M.length - (k + 1) = M.length - 1 - k := by omega
 rw [e, zea (show M.length - 1 - k < M.length by omega), show M.length - 1 - k + 1 = M.length - k by omega]
 rfl
theorem bkK_ok {n : Nat} {M : List Edg} {B : Int} {t : Nat} {far : List Int} (hE : EOk n M) (h : Dl.FOk n M B t (Dl.Way M t) far) (k : Nat) : Dl.FOk n M B t (Dl.Way M t) (bkK M k far).1 := by
 have h1 : EOk n (M.drop (M.length - k)) := fun e he => hE e (List.drop_subset _ _ he)
 exact (zl4 (W := Dl.Way M t) (M := M) (B := B) (t := t) (M.drop (M.length - k)) h1 (fun e he d hd => .cons e d (List.drop_subset _ _ he) hd) far h).1
def capM (R : List Int) (m : Nat) : List Int := ((R.take m).map fun x => if gti R 0 < x then gti R 0 else x) ++ R.drop m
theorem zqa (R : List Int) : capM R 0 = R := by simp [capM]
theorem zs2 (R : List Int) : capM R R.length = capD R := by simp [capM, capD]
theorem zs1 (R : List Int) (m : Nat) : (capM R m).length = R.length := by
 simp [capM]; omega
theorem z2c (R : List Int) {m j : Nat} (h : m ≤ j) : gti (capM R m) j = gti R j := by
 by_cases hm : m ≤ R.length
 ·
  unfold capM gti
  rw [List.getElem?_append_right (by simp; omega)]
  simp only [List.length_map, List.length_take, List.getElem?_drop]
  rw [show m + (j - min m R.length) = j by omega]
 ·
  unfold capM gti
  rw [List.drop_of_length_le (by omega), List.append_nil, List.take_of_length_le (by omega), List.getElem?_eq_none (by simp; omega), List.getElem?_eq_none (by omega)]
theorem zm6 (R : List Int) (m : Nat) (h : 0 < R.length) : gti (capM R m) 0 = gti R 0 := by
 by_cases hm : m = 0
 ·
  subst hm; rw [zqa]
 ·
  match R, h with
  | a :: t, _ =>
   obtain ⟨k, rfl⟩ : ∃ k, m = k + 1 := ⟨m - 1, by omega⟩
   have e : gti (a :: t) 0 = a := rfl
   simp only [capM, List.take_succ_cons, List.map_cons, List.cons_append, e]
   show (if a < a then a else a) = a
   split <;> rfl
theorem zxc {R : List Int} {m : Nat} (h : m < R.length) : capM R (m + 1) = if gti R 0 < gti R m then (capM R m).set m (gti R 0) else capM R m := by
 have e1 : capM R (m + 1) = ((R.take m).map fun x => if gti R 0 < x then gti R 0 else x) ++ ((if gti R 0 < gti R m then gti R 0 else gti R m) :: R.drop (m + 1)) := by
  unfold capM
  rw [List.take_add_one, zdh h]
  simp
 have e2 : capM R m = ((R.take m).map fun x => if gti R 0 < x then gti R 0 else x) ++ (gti R m :: R.drop (m + 1)) := by
  unfold capM; rw [zea h]
 rw [e1, e2]
 split
 ·
  have hl : ((R.take m).map fun x => if gti R 0 < x then gti R 0 else x).length = m := by simp; omega
  rw [List.set_append_right _ _ (by rw [hl]; exact Nat.le_refl _), hl, Nat.sub_self]
  rfl
 ·
  rfl
end Aw
namespace Aw
open Go Go.RowKit Go.Proofs Dl
variable {P : Program} [IsP P]
theorem zwc (l : List Int) (x : Int) : Pure P 149 [eL eI l, eI x] (eI (zc2 (fun y => decide (x = y)) l)) := by
 refine zcl (by rw [IsP.eq (P := P)]; exact Tryz.func149) rfl rfl rfl rfl rfl (by repeat' (first | exact Lo.s _ | exact zak | refine zah ?_ ?_ | refine zan ?_ | refine Lo.agg _ ?_ | refine Lo.sl _ ?_ | intro _)) (.s _) (by simp only [argF]; rfl) ?_
 refine zag ?_
 refine zda (d := 0) rfl (fun hmx => ?_)
 unfold maxLen at hmx
 refine zab (zac rfl (zad (zag (zag (zab (zac rfl (zaf rfl rfl (zaa rfl) (zao rfl ts29 rfl) (zac rfl (zad (zai (zas ?_)))))))))))
 refine zb1 (S := Nat) (fun k => [(0, eL eI l), (1, eI x), (7, eI l.length), (8, eI k)]) (fun _ => []) (fun k => k ≤ l.length ∧ ∀ j a, j < k → l[j]? = some a → decide (x = a) = false) (fun k => l.length - k) 0 (zel _ ⟨rfl, rfl, rfl, rfl, trivial⟩) ⟨Nat.zero_le _, fun j a hj => by omega⟩ (fun k hk => ?_)
 obtain ⟨hk, hno⟩ := hk
 refine zag (zab ?_)
 refine za3 rfl rfl (zaa rfl) (za2 rfl rfl rfl) (fun h9 => ?_) (fun h9 => ?_)
 all_goals refine zad (zag ?_)
 all_goals (first | refine za5 rfl ?_ | refine zau rfl ?_)
 all_goals (repeat (first | refine zag ?_ | refine zar ?_ | refine zas ?_))
 ·
  have hlt : k < l.length := by omega
  have hgk := zdh hlt
  refine zab (zac rfl (zac rfl (zad (zag (zab (zac rfl (zac rfl (zac rfl (zaf rfl rfl (zaa rfl) (zal rfl ts29 ti3 rfl rfl rfl (zbb hlt) rfl) (zbu ta3 rfl ?_))))))))))
  refine za3 rfl rfl (zaa rfl) (zbn rfl rfl rfl) (fun h16 => ?_) (fun h16 => ?_)
  all_goals refine zad (zai ?_)
  all_goals (first | refine za5 rfl ?_ | refine zau rfl ?_)
  all_goals (repeat (first | refine zag ?_ | refine zai ?_ | refine zar ?_ | refine zbl ?_))
  ·
   refine zab (zac rfl (zac rfl (zad (zai ?_))))
   (refine za7 ?_; repeat (first | refine zbc ?_ | refine zbe ?_))
   exact zb6 (.inr rfl) rfl (congrArg eI (zei hgk (decide_eq_true h16) hno).symm)
  ·
   refine zab (zaf rfl rfl (zaa rfl) (zax rfl rfl rfl (IntWalk.i64_in _ (by omega))) (zac rfl (zad (zai ?_))))
   refine ⟨k + 1, ⟨by omega, fun j a hj ha => ?_⟩, by omega, zel _ ⟨rfl, rfl, rfl, rfl, trivial⟩⟩
   by_cases e : j = k
   ·
    subst e
    rw [hgk] at ha
    cases ha
    exact decide_eq_false h16
   ·
    exact hno j a (by omega) ha
 ·
  have e : k = l.length := by omega
  subst e
  (refine zb9 ?_; repeat (first | refine zcr ?_ | refine zbt ?_ | refine zbk rfl ?_ | refine zbl ?_ | refine zai ?_ | refine zag ?_ | refine zar ?_ | refine zas ?_))
  refine zab (zac rfl (zad (zai ?_)))
  (refine za7 ?_; repeat (first | refine zbc ?_ | refine zbe ?_))
  exact zb6 (.inr rfl) rfl (congrArg eI (zeo hno).symm)
theorem zs0 (l : List Int) (x : Int) : Pure P 129 [eL eI l, eI x] (eB (decide (x ∈ l))) := by
 have hi := zwc (P := P) l x
 have h0 : decide (zc2 (fun y => decide (x = y)) l ≥ 0) = decide (x ∈ l) := by
  have := zeq (fun y => decide (x = y)) l
  rw [show (decide (zc2 (fun y => decide (x = y)) l ≥ 0)) = l.any (fun y => decide (x = y)) from this]
  rw [Bool.eq_iff_iff, List.any_eq_true]
  simp
 refine zcl (by rw [IsP.eq (P := P)]; exact Tryz.func129) rfl rfl rfl rfl rfl (by repeat' (first | exact Lo.s _ | exact zak | refine zah ?_ ?_ | refine zan ?_ | refine Lo.agg _ ?_ | refine Lo.sl _ ?_ | intro _)) (.s _) (by simp only [argF]; rfl) ?_
 refine zag (zab (zac rfl (zad (zag (zab (zac rfl (zac rfl (zaf rfl rfl (zaa rfl) (zam rfl rfl (hi) (zae rfl (zae rfl zap))) (zaf rfl rfl (zaa rfl) (zcp rfl rfl rfl) (zac rfl (zad (zai ?_))))))))))))
 (refine za7 ?_; repeat (first | refine zbc ?_ | refine zbe ?_))
 exact zb6 (.inr rfl) rfl (congrArg eB h0)
theorem zl5 (a b : Fr) : Pure P 99 [eF a, eF b] (eB (decide ((cmpE a b).1 ≤ 0))) := by
 have hc := z10 (P := P) a b
 refine zcl (by rw [IsP.eq (P := P)]; exact Tryz.func99) rfl rfl rfl rfl rfl (by repeat' (first | exact Lo.s _ | exact zak | refine zah ?_ ?_ | refine zan ?_ | refine Lo.agg _ ?_ | refine Lo.sl _ ?_ | intro _)) (.s _) (by simp only [argF]; rfl) ?_
 refine zag (zab (zaf rfl rfl (zaa rfl) (zb3 rfl rfl rfl rfl) ?_))
 refine za6 (zbm (id := 0) rfl) (za6 (zcb (d := 2) rfl rfl rfl) ?_)
 refine zaf rfl rfl (zaa rfl) (zb3 rfl rfl rfl rfl) ?_
 refine za6 (zbm (id := 1) rfl) (za6 (zcb (d := 3) rfl rfl rfl) ?_)
 refine zac rfl (zad (zag (zab (zcx ta56 ti56 rfl (zcx ta56 ti56 rfl (zaf rfl rfl (zaa rfl) (zam rfl rfl (hc) (zae rfl (zae rfl zap))) (zac rfl (zac rfl (zac rfl (zac rfl (zac rfl (zad (zag (zab (zac rfl (zaf rfl rfl (zaa rfl) (zdz rfl rfl rfl) (zac rfl (zad (zai ?_)))))))))))))))))))
 (refine za7 ?_; repeat (first | refine zbc ?_ | refine zbe ?_))
 exact zb6 (.inr rfl) rfl rfl
def ckC (n : Net) (w : List ByteArray) (p : Prf) (e : List Int) : List AV := [eI n.places, eL eT n.trans, eI n.source, eI n.sink, eL eS w, eL (eL eI) p.st, eL eI p.pots, eL eF p.duals, eL eI e]
def ckR (n : Net) (w : List ByteArray) (p : Prf) (e : List Int) (x : AV) : AV := .ref (ckC n w p e ++ [x])
theorem z1n {k : Nat} (n : Net) (w : List ByteArray) (p : Prf) (e : List Int) (v : Value) : Lo k (ckR n w p e (.s v)) :=
 .ref _ (zah (.s _) (zah (zan fun t => lo_T t) (zah (.s _) (zah (.s _) (zah (lo_W w) (zah (zgm _) (zah lo_I (zah (zan fun a => zfe a) (zah lo_I (zah (.s _) zak))))))))))
def lin1 (s e : List Int) (k : Nat) : List Fr := (List.range k).map fun j => Fr.of (gti s (j + 1) - gti e (j + 1))
def lin2 (s : List Int) (k : Nat) : List Fr := (List.range k).map fun (j : Nat) => Fr.of (if gti s 0 ≤ (j : Int) then 1 else 0)
def linL (w : List ByteArray) (s e : List Int) : List Fr := lin1 s e (s.length - 1) ++ lin2 s w.length
theorem zpi (s e : List Int) (k : Nat) : lin1 s e (k + 1) = lin1 s e k ++ [Fr.of (gti s (k + 1) - gti e (k + 1))] := by simp [lin1, List.range_succ]
theorem zph (s : List Int) (k : Nat) : lin2 s (k + 1) = lin2 s k ++ [Fr.of (if gti s 0 ≤ (k : Int) then 1 else 0)] := by simp [lin2, List.range_succ]
theorem zfl (s e : List Int) (k : Nat) : (lin1 s e k).length = k := by simp [lin1]
theorem zh1 (s : List Int) (k : Nat) : (lin2 s k).length = k := by simp [lin2]
def ztt (x y : Bool) : Int := (if x then 1 else 0) - (if y then 1 else 0)
def zhg (t : Tr) (k : Nat) : List Fr := (List.range k).map fun (q : Nat) => Fr.of (ztt (decide ((q : Int) ∈ t.inn)) (decide ((q : Int) ∈ t.out)))
theorem zm2 (t : Tr) (k : Nat) : zhg t (k + 1) = zhg t k ++ [Fr.of (ztt (decide ((k : Int) ∈ t.inn)) (decide ((k : Int) ∈ t.out)))] := by simp [zhg, List.range_succ]
theorem zgp (t : Tr) (k : Nat) : (zhg t k).length = k := by simp [zhg]
def zFA : AV := .agg [eI 0, eI 0]
theorem zfc : ∀ e ∈ [zFA], ∀ c ∈ e.cells, Lo 0 c := by
 intro e he c hc
 simp at he; subst he
 simp [zFA, AV.cells] at hc; subst hc; exact .s _
theorem zjj {F : Frm} {σ : List Ob} {ad u : Nat} {ty : TypeId} {id sz k n bt : Nat} {z : Option Value} {ob : Ob} {cs : List AV} {x : FE} {e : Exit} (he : e = .normal ∨ e = .ret) (ha : zc8 P ty = some true) (hi : zb5 P ty = some (z, n, bt)) (hp : F.get ad = .ptr id sz k 0) (hs : σ[id]? = some ob) (ho : ze7 ob = some (sz, cs)) (hk : cs[k]? = some (.agg [eI x.n, eI x.d])) (hn : 2 = n) (hu : F.get u = eI x.e) : zl7 P [.cell ad ty, .tmp u] (eFE x) e F σ :=
 ⟨he, [.agg [eI x.n, eI x.d], eI x.e], .cons _ _ _ _ (.cells ad ty id sz k n bt z ob cs (.agg [eI x.n, eI x.d]) ha hi hp hs ho hk hn) (.cons _ _ _ _ (.tmp u _ hu) .nil), .refl _⟩
theorem zpg (n : Net) (w : List ByteArray) (p : Prf) (e s : List Int) (v : Value) (hs : 1 ≤ s.length ∧ s.length ≤ 41) (he : e.length = s.length) (hw : w.length ≤ 200) (hsm : ∀ x ∈ s, 0 ≤ x ∧ x ≤ 255) (hem : ∀ x ∈ e, 0 ≤ x ∧ x ≤ 255) :
  Pure P 101 [ckR n w p e (.s v), eL eI s] (eFE (dotE p.duals (linL w s e))) := by
 have hd := zws (P := P) p.duals (linL w s e)
 have hw1 := zer (P := P) 1
 have hw0 := zer (P := P) 0
 have hdl : (s.drop 1).length = s.length - 1 := by simp
 have hlk : Lo 0 (ckR n w p e (.s v)) := z1n n w p e v
 refine zcl (by rw [IsP.eq (P := P)]; exact Tryz.func101) rfl rfl rfl rfl rfl (zah hlk (zah lo_I zak)) (.tup _ (zah (.agg _ (zah (.s _) (zah (.s _) zak))) (zah (.s _) zak))) (by simp only [argF]; rfl) ?_
 refine zag (zab (zaf rfl rfl (zaa rfl) (za1 rfl ti56 rfl rfl) (zac rfl (zad (zag (zab (zac rfl (zad (zag (zag (zab (zac rfl ?_))))))))))))
 refine zaf rfl rfl (zaa rfl) (zp1 rfl ts29 ti3 rfl rfl rfl (by simp; omega) (by intro e he; simp at he; obtain ⟨_, _, rfl⟩ := he; rfl)) ?_
 refine zaf rfl rfl (zaa rfl) (zly rfl ts29 rfl) (zac rfl (zad (zai (zas ?_))))
 refine zbg (zkv (d := 6) (x := .s (.slice none 0 0)) 2 rfl (.inr rfl)) ?_
 have hdm : ((s.map eI).drop 1).length = s.length - 1 := by simp
 refine zb1 (S := Nat) (fun k => [(0, ckR n w p e (.s v)), (1, eL eI s), (4, .ptr 0 2 0 0), (6, .own 1 2 k), (11, .sl ((s.map eI).drop 1)), (12, eI ((s.map eI).drop 1).length), (13, eI k)]) (fun k => [.row 2 [zFA], .row 2 ((lin1 s e k).map eF)]) (fun k => k ≤ s.length - 1) (fun k => s.length - k) 0
  (zb8 [0, 1] (by decide) ⟨⟨_, rfl, .rowE zfc rfl⟩, ⟨_, rfl, .rowE (zdt _) rfl⟩, trivial⟩ ⟨.lo _ hlk, .lo _ lo_I, .ptr 0 0 2 0 0 rfl, .own 1 1 2 _ _ rfl rfl, .lo _ (.sl _ (fun c hc => by obtain ⟨y, _, rfl⟩ := List.mem_map.1 (List.mem_of_mem_drop hc); exact .s _)), .lo _ (.s _), .lo _ (.s _), trivial⟩) (Nat.zero_le _) (fun k hk => ?_)
 replace hk : k ≤ s.length - 1 := hk
 have hll : ((lin1 s e k).map eF).length = k := by rw [List.length_map, zfl]
 have hl2 := zfl s e k
 refine zag (zab ?_)
 refine za3 rfl rfl (zaa rfl) (za2 rfl rfl rfl) (fun h14 => ?_) (fun h14 => ?_)
 all_goals refine zad (zag ?_)
 all_goals (first | refine za5 rfl ?_ | refine zau rfl ?_)
 all_goals (repeat (first | refine zag ?_ | refine zar ?_ | refine zas ?_))
 ·
  have hkt : k < s.length - 1 := by omega
  have hi1 : ((s.map eI).drop 1)[k]? = some (eI (gti s (k + 1))) := by rw [List.getElem?_drop, Nat.add_comm, zbb (by omega)]
  have hi2 : (e.map eI)[k + 1]? = some (eI (gti e (k + 1))) := zbb (by omega)
  have b1 := hsm _ (gti_mem (l := s) (k := k + 1) (by omega))
  have b2 := hem _ (gti_mem (l := e) (k := k + 1) (by omega))
  have hwk := zer (P := P) (gti s (k + 1) - gti e (k + 1))
  refine zab (zac rfl (zaf rfl rfl (zaa rfl) (zal rfl ts29 ti3 rfl rfl rfl hi1 rfl) (zbu ta3 rfl (zac rfl (zac rfl (zad (zai (zab (zac rfl (zac rfl (zac rfl (zac rfl (zbz zjg rfl (zbu ta29 rfl (zac rfl (zaf rfl rfl (zaa rfl) (zax rfl rfl rfl (IntWalk.i64_in _ (by omega))) (zaf rfl rfl (zaa rfl) (zal rfl ts29 ti3 rfl rfl (k := k + 1) (by omega) hi2 rfl) (zbu ta3 rfl (zaf rfl rfl (zaa rfl) (zdx rfl rfl rfl (IntWalk.i64_in _ (by omega))) (zaf rfl rfl (zaa rfl) (zam rfl rfl (hwk) (zae rfl zap)) ?_))))))))))))))))))))
  refine zaf rfl rfl (zaa rfl) (zco rfl ts30 ti56 rfl rfl (by decide) (by decide) rfl rfl rfl (.agg _ (zah (.s _) (zah (.s _) zak)))) ?_
  refine zaf rfl rfl (zaa rfl) (zbq rfl ts30 ti56 rfl (by decide) rfl rfl hll.symm rfl (by first | exact .own _ _ _ rfl rfl _ (by first | rfl | simp) | exact .emp | exact .nil | exact .sl _ (by first | simp; done | intro e he; simp at he; obtain ⟨_, _, rfl⟩ := he; rfl)) (by first | omega | (simp; omega) | (unfold maxLen; simp; omega)) (by first | omega | (simp; omega) | (unfold maxLen; simp; omega))) ?_
  refine zac rfl (zad (zbl (zai (zab (zaf rfl rfl (zaa rfl) (zax rfl rfl rfl (IntWalk.i64_in _ (by omega))) (zac rfl (zad (zai ?_))))))))
  have hrow : (lin1 s e (k + 1)).map eF = (lin1 s e k).map eF ++ [eF (Fr.of (gti s (k + 1) - gti e (k + 1)))] := by rw [zpi, List.map_append]; rfl
  exact ⟨k + 1, by omega, by omega, zb8 [0, 2] (by decide) ⟨⟨_, rfl, .rowE zfc rfl⟩, ⟨_, rfl, .rowE (zdt _) hrow.symm⟩, trivial⟩ ⟨.lo _ hlk, .lo _ lo_I, .ptr 0 0 2 0 0 rfl, .own 2 1 2 _ _ rfl (by rw [hll]; rfl), .lo _ (.sl _ (fun c hc => by obtain ⟨y, _, rfl⟩ := List.mem_map.1 (List.mem_of_mem_drop hc); exact .s _)), .lo _ (.s _), .lo _ (.s _), trivial⟩⟩
 have hke : k = s.length - 1 := by omega
 subst hke
 (refine zb9 ?_; repeat (first | refine zcr ?_ | refine zbt ?_ | refine zbk rfl ?_ | refine zbl ?_ | refine zai ?_ | refine zag ?_ | refine zar ?_ | refine zas ?_))
 refine zab (zac rfl (zac rfl (zbz znb rfl (zbu ta25 rfl (zaf rfl rfl (zaa rfl) (zao rfl ts25 rfl) (zac rfl (zad (zai (zas ?_)))))))))
 refine zb1 (S := Nat) (fun m => [(0, ckR n w p e (.s v)), (1, eL eI s), (4, .ptr 0 2 0 0), (6, .own 1 2 (s.length - 1 + m)), (37, eI w.length), (38, eI m)]) (fun m => [.row 2 [zFA], .row 2 ((lin1 s e (s.length - 1) ++ lin2 s m).map eF)]) (fun m => m ≤ w.length) (fun m => w.length - m) 0
  (zb8 [0, 1] (by decide) ⟨⟨_, rfl, .rowE zfc rfl⟩, ⟨_, rfl, .rowE (zdt _) (by simp [lin2])⟩, trivial⟩ ⟨.lo _ hlk, .lo _ lo_I, .ptr 0 0 2 0 0 rfl, .own 1 1 2 _ _ rfl rfl, .lo _ (.s _), .lo _ (.s _), trivial⟩) (Nat.zero_le _) (fun m hm => ?_)
 clear hll hk
 replace hm : m ≤ w.length := hm
 have hll : ((lin1 s e (s.length - 1) ++ lin2 s m).map eF).length = s.length - 1 + m := by rw [List.length_map, List.length_append, zfl, zh1]
 have hl2 := zfl s e (s.length - 1)
 have hl3 := zh1 s m
 have hs0 : (s.map eI)[0]? = some (eI (gti s 0)) := zbb (by omega)
 refine zag (zab ?_)
 refine za3 rfl rfl (zaa rfl) (za2 rfl rfl rfl) (fun h39 => ?_) (fun h39 => ?_)
 all_goals refine zad (zag ?_)
 all_goals (first | refine za5 rfl ?_ | refine zau rfl ?_)
 all_goals (repeat (first | refine zag ?_ | refine zar ?_ | refine zas ?_))
 ·
  have hmt : m < w.length := by omega
  refine zab (zac rfl (zac rfl (zad (zag ?_))))
  have hrow : ∀ z, (if gti s 0 ≤ (m : Int) then (1 : Int) else 0) = z → (lin1 s e (s.length - 1) ++ lin2 s (m + 1)).map eF = (lin1 s e (s.length - 1) ++ lin2 s m).map eF ++ [eF (Fr.of z)] := fun z hz => by rw [zph, hz]; simp
  refine zab (zac rfl (zac rfl (zaf rfl rfl (zaa rfl) (zal rfl ts29 ti3 rfl rfl (k := 0) rfl hs0 rfl) (zbu ta3 rfl ?_))))
  refine za3 rfl rfl (zaa rfl) (zcp rfl rfl rfl) (fun h45 => ?_) (fun h45 => ?_)
  all_goals refine zad (zai ?_)
  all_goals (first | refine za5 rfl ?_ | refine zau rfl ?_)
  ·
   refine zab (zac rfl (zaf rfl rfl (zaa rfl) (zam rfl rfl (hw1) (zae rfl zap)) (zaf rfl rfl (zaa rfl) (zco rfl ts30 ti56 rfl rfl (by decide) (by decide) rfl rfl rfl (.agg _ (zah (.s _) (zah (.s _) zak)))) ?_)))
   refine zaf rfl rfl (zaa rfl) (zbq rfl ts30 ti56 rfl (by decide) rfl rfl hll.symm rfl (by first | exact .own _ _ _ rfl rfl _ (by first | rfl | simp) | exact .emp | exact .nil | exact .sl _ (by first | simp; done | intro e he; simp at he; obtain ⟨_, _, rfl⟩ := he; rfl)) (by first | omega | (simp; omega) | (unfold maxLen; simp; omega)) (by first | omega | (simp; omega) | (unfold maxLen; simp; omega))) ?_
   refine zac rfl (zad (zbl (zai (zab (zaf rfl rfl (zaa rfl) (zax rfl rfl rfl (IntWalk.i64_in _ (by omega))) (zac rfl (zad (zai ?_))))))))
   exact ⟨m + 1, by omega, by omega, zb8 [0, 2] (by decide) ⟨⟨_, rfl, .rowE zfc rfl⟩, ⟨_, rfl, .rowE (zdt _) (hrow 1 (if_pos h45)).symm⟩, trivial⟩ ⟨.lo _ hlk, .lo _ lo_I, .ptr 0 0 2 0 0 rfl, .own 2 1 2 _ _ rfl (by rw [hll]; rfl), .lo _ (.s _), .lo _ (.s _), trivial⟩⟩
  ·
   refine zab (zac rfl (zaf rfl rfl (zaa rfl) (zam rfl rfl (hw0) (zae rfl zap)) (zaf rfl rfl (zaa rfl) (zco rfl ts30 ti56 rfl rfl (by decide) (by decide) rfl rfl rfl (.agg _ (zah (.s _) (zah (.s _) zak)))) ?_)))
   refine zaf rfl rfl (zaa rfl) (zbq rfl ts30 ti56 rfl (by decide) rfl rfl hll.symm rfl (by first | exact .own _ _ _ rfl rfl _ (by first | rfl | simp) | exact .emp | exact .nil | exact .sl _ (by first | simp; done | intro e he; simp at he; obtain ⟨_, _, rfl⟩ := he; rfl)) (by first | omega | (simp; omega) | (unfold maxLen; simp; omega)) (by first | omega | (simp; omega) | (unfold maxLen; simp; omega))) ?_
   refine zac rfl (zad (zbl (zai (zab (zaf rfl rfl (zaa rfl) (zax rfl rfl rfl (IntWalk.i64_in _ (by omega))) (zac rfl (zad (zai ?_))))))))
   exact ⟨m + 1, by omega, by omega, zb8 [0, 2] (by decide) ⟨⟨_, rfl, .rowE zfc rfl⟩, ⟨_, rfl, .rowE (zdt _) (hrow 0 (if_neg h45)).symm⟩, trivial⟩ ⟨.lo _ hlk, .lo _ lo_I, .ptr 0 0 2 0 0 rfl, .own 2 1 2 _ _ rfl (by rw [hll]; rfl), .lo _ (.s _), .lo _ (.s _), trivial⟩⟩
 have hme : m = w.length := by omega
 subst hme
 (refine zb9 ?_; repeat (first | refine zcr ?_ | refine zbt ?_ | refine zbk rfl ?_ | refine zbl ?_ | refine zai ?_ | refine zag ?_ | refine zar ?_ | refine zas ?_))
 refine zbg (zbm (id := 1) rfl) ?_
 refine zbg (zoh (d := 6) rfl rfl (by rw [hll])) ?_
 refine zab (zac rfl (zac rfl (zbz zkx rfl (zbz zdu rfl (zbu ta30 rfl (zac rfl (zaf rfl rfl (zaa rfl) (zam rfl rfl (hd) (zae rfl (zae rfl zap))) (zac rfl (zac rfl (zba rfl (zaa rfl) (zaj rfl ti56 rfl rfl rfl rfl rfl rfl (by decide) (by decide)) (zac rfl (zad (zai ?_)))))))))))))
 (refine za7 ?_; repeat (first | refine zbc ?_ | refine zbe ?_))
 exact zjj (.inr rfl) ta56 ti56 rfl rfl rfl rfl rfl rfl
theorem z1v (n : Net) (w : List ByteArray) (p : Prf) (e : List Int) (t : Tr) (v : Value) (hp : 0 ≤ n.places ∧ n.places ≤ 40) (hd0 : n.places.toNat ≤ p.duals.length) :
  Pure P 98 [ckR n w p e (.s v), eT t] (eFE (dotE (p.duals.take n.places.toNat) (zhg t n.places.toNat))) := by
 have hd := zws (P := P) (p.duals.take n.places.toNat) (zhg t n.places.toNat)
 have hlk : Lo 0 (ckR n w p e (.s v)) := z1n n w p e v
 have hlt : Lo 0 (.ref (eT t).cells) := .ref _ (lo_T t).cells
 obtain ⟨np, hnp⟩ : ∃ np : Nat, n.places = np := ⟨n.places.toNat, by omega⟩
 have hnt : n.places.toNat = np := by omega
 rw [hnt] at hd hd0
 rw [hnt]
 refine zcl (by rw [IsP.eq (P := P)]; exact Tryz.func98) rfl rfl rfl rfl rfl (zah hlk (zah (lo_T t) zak)) (.tup _ (zah (.agg _ (zah (.s _) (zah (.s _) zak))) (zah (.s _) zak))) (by simp only [argF]; rfl) ?_
 refine zag (zab (zaf rfl rfl (zaa rfl) (zb3 rfl rfl rfl rfl) ?_))
 refine za6 (zbm (id := 0) rfl) (za6 (zcb (d := 3) rfl rfl rfl) ?_)
 refine zaf rfl rfl (zaa rfl) (za1 rfl ti56 rfl rfl) (zac rfl (zad (zag (zab (zac rfl (zad (zag (zag (zab (zac rfl (zac rfl (zbz zif rfl (zbz zem rfl (zbu ta3 rfl (zac rfl (zad (zai (zas ?_))))))))))))))))))
 refine zbg (zkv (d := 6) (x := .s (.slice none 0 0)) 2 rfl (.inr rfl)) ?_
 refine zb1 (S := Nat) (fun k => [(0, ckR n w p e (.s v)), (3, .ref (eT t).cells), (4, .ptr 0 2 0 0), (6, .own 1 2 k), (13, eI n.places), (14, eI k)]) (fun k => [.row 2 [zFA], .row 2 ((zhg t k).map eF)]) (fun k => k ≤ np) (fun k => np - k) 0
  (zb8 [1, 2] (by decide) ⟨⟨_, rfl, .rowE zfc rfl⟩, ⟨_, rfl, .rowE (zdt _) rfl⟩, trivial⟩ ⟨.lo _ hlk, .lo _ hlt, .ptr 1 0 2 0 0 rfl, .own 2 1 2 _ _ rfl rfl, .lo _ (.s _), .lo _ (.s _), trivial⟩) (Nat.zero_le _) (fun k hk => ?_)
 replace hk : k ≤ np := hk
 have hll : ((zhg t k).map eF).length = k := by rw [List.length_map, zgp]
 have hl2 := zgp t k
 have hc1 := zs0 (P := P) t.inn k
 have hc2 := zs0 (P := P) t.out k
 have hrow : ∀ z, ztt (decide ((k : Int) ∈ t.inn)) (decide ((k : Int) ∈ t.out)) = z → (zhg t (k + 1)).map eF = (zhg t k).map eF ++ [eF (Fr.of z)] := fun z hz => by rw [zm2, hz, List.map_append]; rfl
 generalize decide ((k : Int) ∈ t.inn) = b1 at hc1 hrow
 generalize decide ((k : Int) ∈ t.out) = b2 at hc2 hrow
 refine zag (zab ?_)
 refine za3 rfl rfl (zaa rfl) (za2 rfl rfl rfl) (fun h15 => ?_) (fun h15 => ?_)
 all_goals refine zad (zag ?_)
 all_goals (first | refine za5 rfl ?_ | refine zau rfl ?_)
 all_goals (repeat (first | refine zag ?_ | refine zar ?_ | refine zas ?_))
 ·
  have hkt : k < np := by omega
  refine zab (zac rfl (zac rfl (zad (zag (zab (zac rfl (zad (zag (zag ?_)))))))))
  have fin : ∀ z, ztt b1 b2 = z → Pure P 74 [eI z] (eF (Fr.of z)) := fun z _ => zer z
  have w0 := zer (P := P) (0 + 1 - 1)
  have w1 := zer (P := P) (0 + 1)
  have w2 := zer (P := P) (0 - 1)
  have w3 := zer (P := P) 0
  cases b1 <;> cases b2
  all_goals skip
  ·
   refine zab (zbz ziw rfl (zbu ta29 rfl (zac rfl (zaf rfl rfl (zaa rfl) (zam rfl rfl (hc1) (zae rfl (zae rfl zap))) (zad (zai (zau rfl (zar (zag (zag (zab (zbz zj2 rfl (zbu ta29 rfl (zac rfl (zaf rfl rfl (zaa rfl) (zam rfl rfl (hc2) (zae rfl (zae rfl zap))) (zad (zai (zau rfl (zar (zai (zab (zac rfl (zac rfl (zaf rfl rfl (zaa rfl) (zam rfl rfl (w3) (zae rfl zap)) (zaf rfl rfl (zaa rfl) (zco rfl ts30 ti56 rfl rfl (by decide) (by decide) rfl rfl rfl (.agg _ (zah (.s _) (zah (.s _) zak)))) ?_)))))))))))))))))))))))))
   refine zaf rfl rfl (zaa rfl) (zbq rfl ts30 ti56 rfl (by decide) rfl rfl hll.symm rfl (by first | exact .own _ _ _ rfl rfl _ (by first | rfl | simp) | exact .emp | exact .nil | exact .sl _ (by first | simp; done | intro e he; simp at he; obtain ⟨_, _, rfl⟩ := he; rfl)) (by first | omega | (simp; omega) | (unfold maxLen; simp; omega)) (by first | omega | (simp; omega) | (unfold maxLen; simp; omega))) ?_
   refine zac rfl (zad (zbl (zai (zab (zaf rfl rfl (zaa rfl) (zax rfl rfl rfl (IntWalk.i64_in _ (by omega))) (zac rfl (zad (zai ?_))))))))
   exact ⟨k + 1, by omega, by omega, zb8 [0, 2] (by decide) ⟨⟨_, rfl, .rowE zfc rfl⟩, ⟨_, rfl, .rowE (zdt _) (hrow _ rfl).symm⟩, trivial⟩ ⟨.lo _ hlk, .lo _ hlt, .ptr 0 0 2 0 0 rfl, .own 2 1 2 _ _ rfl (by rw [hll]; rfl), .lo _ (.s _), .lo _ (.s _), trivial⟩⟩
  ·
   refine zab (zbz ziw rfl (zbu ta29 rfl (zac rfl (zaf rfl rfl (zaa rfl) (zam rfl rfl (hc1) (zae rfl (zae rfl zap))) (zad (zai (zau rfl (zar (zag (zag (zab (zbz zj2 rfl (zbu ta29 rfl (zac rfl (zaf rfl rfl (zaa rfl) (zam rfl rfl (hc2) (zae rfl (zae rfl zap))) (zad (zai (za5 rfl (zab (zac rfl (zaf rfl rfl (zaa rfl) (zdx rfl rfl rfl (IntWalk.i64_in _ (by omega))) (zac rfl (zad (zai (zab (zac rfl (zac rfl (zaf rfl rfl (zaa rfl) (zam rfl rfl (w2) (zae rfl zap)) ?_))))))))))))))))))))))))))))
   refine zaf rfl rfl (zaa rfl) (zco rfl ts30 ti56 rfl rfl (by decide) (by decide) rfl rfl rfl (.agg _ (zah (.s _) (zah (.s _) zak)))) ?_
   refine zaf rfl rfl (zaa rfl) (zbq rfl ts30 ti56 rfl (by decide) rfl rfl hll.symm rfl (by first | exact .own _ _ _ rfl rfl _ (by first | rfl | simp) | exact .emp | exact .nil | exact .sl _ (by first | simp; done | intro e he; simp at he; obtain ⟨_, _, rfl⟩ := he; rfl)) (by first | omega | (simp; omega) | (unfold maxLen; simp; omega)) (by first | omega | (simp; omega) | (unfold maxLen; simp; omega))) ?_
   refine zac rfl (zad (zbl (zai (zab (zaf rfl rfl (zaa rfl) (zax rfl rfl rfl (IntWalk.i64_in _ (by omega))) (zac rfl (zad (zai ?_))))))))
   exact ⟨k + 1, by omega, by omega, zb8 [0, 2] (by decide) ⟨⟨_, rfl, .rowE zfc rfl⟩, ⟨_, rfl, .rowE (zdt _) (hrow _ rfl).symm⟩, trivial⟩ ⟨.lo _ hlk, .lo _ hlt, .ptr 0 0 2 0 0 rfl, .own 2 1 2 _ _ rfl (by rw [hll]; rfl), .lo _ (.s _), .lo _ (.s _), trivial⟩⟩
  ·
   refine zab (zbz ziw rfl (zbu ta29 rfl (zac rfl (zaf rfl rfl (zaa rfl) (zam rfl rfl (hc1) (zae rfl (zae rfl zap))) (zad (zai (za5 rfl (zab (zac rfl (zaf rfl rfl (zaa rfl) (zax rfl rfl rfl (IntWalk.i64_in _ (by omega))) (zac rfl (zad (zag (zag (zab (zbz zj2 rfl (zbu ta29 rfl (zac rfl (zaf rfl rfl (zaa rfl) (zam rfl rfl (hc2) (zae rfl (zae rfl zap))) (zad (zai (zau rfl (zar (zai (zab (zac rfl (zac rfl (zaf rfl rfl (zaa rfl) (zam rfl rfl (w1) (zae rfl zap)) ?_))))))))))))))))))))))))))))
   refine zaf rfl rfl (zaa rfl) (zco rfl ts30 ti56 rfl rfl (by decide) (by decide) rfl rfl rfl (.agg _ (zah (.s _) (zah (.s _) zak)))) ?_
   refine zaf rfl rfl (zaa rfl) (zbq rfl ts30 ti56 rfl (by decide) rfl rfl hll.symm rfl (by first | exact .own _ _ _ rfl rfl _ (by first | rfl | simp) | exact .emp | exact .nil | exact .sl _ (by first | simp; done | intro e he; simp at he; obtain ⟨_, _, rfl⟩ := he; rfl)) (by first | omega | (simp; omega) | (unfold maxLen; simp; omega)) (by first | omega | (simp; omega) | (unfold maxLen; simp; omega))) ?_
   refine zac rfl (zad (zbl (zai (zab (zaf rfl rfl (zaa rfl) (zax rfl rfl rfl (IntWalk.i64_in _ (by omega))) (zac rfl (zad (zai ?_))))))))
   exact ⟨k + 1, by omega, by omega, zb8 [0, 2] (by decide) ⟨⟨_, rfl, .rowE zfc rfl⟩, ⟨_, rfl, .rowE (zdt _) (hrow _ rfl).symm⟩, trivial⟩ ⟨.lo _ hlk, .lo _ hlt, .ptr 0 0 2 0 0 rfl, .own 2 1 2 _ _ rfl (by rw [hll]; rfl), .lo _ (.s _), .lo _ (.s _), trivial⟩⟩
  ·
   refine zab (zbz ziw rfl (zbu ta29 rfl (zac rfl (zaf rfl rfl (zaa rfl) (zam rfl rfl (hc1) (zae rfl (zae rfl zap))) (zad (zai (za5 rfl (zab (zac rfl (zaf rfl rfl (zaa rfl) (zax rfl rfl rfl (IntWalk.i64_in _ (by omega))) (zac rfl (zad (zag (zag (zab (zbz zj2 rfl (zbu ta29 rfl (zac rfl (zaf rfl rfl (zaa rfl) (zam rfl rfl (hc2) (zae rfl (zae rfl zap))) (zad (zai (za5 rfl (zab (zac rfl (zaf rfl rfl (zaa rfl) (zdx rfl rfl rfl (IntWalk.i64_in _ (by omega))) ?_)))))))))))))))))))))))))
   refine zac rfl (zad (zai (zab (zac rfl (zac rfl (zaf rfl rfl (zaa rfl) (zam rfl rfl (w0) (zae rfl zap)) (zaf rfl rfl (zaa rfl) (zco rfl ts30 ti56 rfl rfl (by decide) (by decide) rfl rfl rfl (.agg _ (zah (.s _) (zah (.s _) zak)))) ?_)))))))
   refine zaf rfl rfl (zaa rfl) (zbq rfl ts30 ti56 rfl (by decide) rfl rfl hll.symm rfl (by first | exact .own _ _ _ rfl rfl _ (by first | rfl | simp) | exact .emp | exact .nil | exact .sl _ (by first | simp; done | intro e he; simp at he; obtain ⟨_, _, rfl⟩ := he; rfl)) (by first | omega | (simp; omega) | (unfold maxLen; simp; omega)) (by first | omega | (simp; omega) | (unfold maxLen; simp; omega))) ?_
   refine zac rfl (zad (zbl (zai (zab (zaf rfl rfl (zaa rfl) (zax rfl rfl rfl (IntWalk.i64_in _ (by omega))) (zac rfl (zad (zai ?_))))))))
   exact ⟨k + 1, by omega, by omega, zb8 [0, 2] (by decide) ⟨⟨_, rfl, .rowE zfc rfl⟩, ⟨_, rfl, .rowE (zdt _) (hrow _ rfl).symm⟩, trivial⟩ ⟨.lo _ hlk, .lo _ hlt, .ptr 0 0 2 0 0 rfl, .own 2 1 2 _ _ rfl (by rw [hll]; rfl), .lo _ (.s _), .lo _ (.s _), trivial⟩⟩
 ·
  have hke : k = np := by omega
  subst hke
  (refine zb9 ?_; repeat (first | refine zcr ?_ | refine zbt ?_ | refine zbk rfl ?_ | refine zbl ?_ | refine zai ?_ | refine zag ?_ | refine zar ?_ | refine zas ?_))
  refine zbg (zbm (id := 1) rfl) ?_
  refine zbg (zoh (d := 6) rfl rfl (by rw [hll])) ?_
  refine zb2 hmix ?_
  refine zir rfl (by kernel_rfl) ?_
  refine zir rfl (by kernel_rfl) ?_
  refine zbx (by kernel_rfl) ?_
  simp only [List.dropLast]
  refine qx_s rfl (qx_s rfl (qx_f zkx rfl (qx_f zdu rfl (qx_l ta30 rfl (qx_s rfl (qx_s rfl (qx_f zif rfl (qx_f zem rfl (qx_l ta3 rfl ?_)))))))))
  refine zby rfl rfl (zaa rfl) (zka rfl ts30 ti56 rfl rfl hnp (by simpa using hd0) (by intro e he; simp at he; obtain ⟨_, _, rfl⟩ := he; rfl)) ?_
  refine qx_s rfl ?_
  refine zby rfl rfl (zaa rfl) (zam rfl rfl hd (zae (by show _ = AV.sl ((p.duals.take k).map eF); rw [List.map_take]; rfl) (zae rfl zap))) ?_
  refine qx_s rfl (qx_s rfl ?_)
  refine zdg ?_
  refine zai (zba rfl (zaa rfl) (zaj rfl ti56 rfl rfl rfl rfl rfl rfl (by decide) (by decide)) (zad (zai (zac rfl (zad (zai ?_))))))
  (refine za7 ?_; repeat (first | refine zbc ?_ | refine zbe ?_))
  exact zjj (.inr rfl) ta56 ti56 rfl rfl rfl rfl rfl rfl
end Aw
namespace Dl
open Go.RowKit Aw
def frE (x : FE) : Fr := ⟨x.n, x.d⟩
def vdB (n : Net) (w : List ByteArray) (p : Prf) : Bool :=
 zd5 n && (zew w && (decide (p.st.length ≤ 2000) && (decide (p.pots.length = p.st.length) && (decide ((p.duals.length : Int) = n.places + w.length) && (p.st.all (zd3 n w) && (decide p.st.Nodup && (p.pots.all (fun k => decide (0 ≤ k) && decide (k ≤ 1073741824)) && p.duals.all Fr.okB)))))))
structure VD (n : Net) (w : List ByteArray) (p : Prf) : Prop where
 net : zd5 n = true
 word : zew w = true
 few : p.st.length ≤ 2000
 pl : p.pots.length = p.st.length
 dl : (p.duals.length : Int) = n.places + w.length
 ok : ∀ s ∈ p.st, okS n w s
 nd : p.st.Nodup
 pb : ∀ k ∈ p.pots, 0 ≤ k ∧ k ≤ 1073741824
 dok : p.duals.all Fr.okB = true
theorem zhi {n : Net} {w : List ByteArray} {p : Prf} : vdB n w p = true ↔ VD n w p := by
 unfold vdB
 simp only [Bool.and_eq_true, decide_eq_true_eq]
 constructor
 ·
  rintro ⟨h1, h2, h3, h4, h5, h6, h7, h8, h9⟩
  exact ⟨h1, h2, h3, h4, h5, fun s hs => List.all_eq_true.1 h6 s hs, h7, fun k hk => by have := List.all_eq_true.1 h8 k hk; simpa using this, h9⟩
 ·
  intro h
  exact ⟨h.net, h.word, h.few, h.pl, h.dl, List.all_eq_true.2 h.ok, h.nd, List.all_eq_true.2 (fun k hk => by have := h.pb k hk; simpa using this), h.dok⟩
def grB (a b : Fr) : Bool := decide (¬ (cmpE a b).1 ≤ 0)
def zii (c : Cst) (t : Tr) : Int := if t.label = { data := #[] } then c.silent else c.model
section
variable (n : Net) (w : List ByteArray) (c : Cst) (p : Prf) (er : Int → Int)
def gE (t : Tr) : FE := dotE (p.duals.take n.places.toNat) (zhg t n.places.toNat)
def fst1 : List Tr → Int
 | [] => 0
 | t :: ts => if (gE n p t).e ≠ 0 then er (gE n p t).e else if grB (frE (gE n p t)) (Fr.of (zii c t)) then 28 else fst1 ts
def fst3 (d : Fr) (act : ByteArray) : List Tr → Int
 | [] => 0
 | t :: ts => if t.label ≠ act then fst3 d act ts else if (gE n p t).e ≠ 0 then er (gE n p t).e else if (addE (frE (gE n p t)) d).e ≠ 0 then er (addE (frE (gE n p t)) d).e else if grB (frE (addE (frE (gE n p t)) d)) (Fr.of 0) then 28 else fst3 d act ts
def fst2 : Nat → List ByteArray → Int
 | _, [] => 0
 | k, act :: ws => if grB (gti p.duals (n.places.toNat + k)) (Fr.of c.log) then 28 else if fst3 n p er (gti p.duals (n.places.toNat + k)) act n.trans ≠ 0 then fst3 n p er (gti p.duals (n.places.toNat + k)) act n.trans else fst2 (k + 1) ws
def fstE : Int := if fst1 n c p er n.trans ≠ 0 then fst1 n c p er n.trans else fst2 n c p er 0 w
def linX (s : List Int) : FE := dotE p.duals (linL w s (endE n w).1)
def potX (s : List Int) : FE := if zef p.st s < 0 then linX n w p s else ⟨gti p.pots (idx p.st s), 1, 0⟩
def zStp : Stp := ⟨0, 0, ByteArray.empty⟩
def thM (s : List Int) (k : Int) : List Stp → Option (Stp × Int)
 | [] => none
 | m :: ms => if (potX n w p (zd2 n w s m).1).e ≠ 0 then some (zStp, er (potX n w p (zd2 n w s m).1).e)
  else if (addE (Fr.of (zd4 c m.kind)) (frE (potX n w p (zd2 n w s m).1))).e ≠ 0 then some (zStp, er (addE (Fr.of (zd4 c m.kind)) (frE (potX n w p (zd2 n w s m).1))).e)
  else if grB (Fr.of k) (frE (addE (Fr.of (zd4 c m.kind)) (frE (potX n w p (zd2 n w s m).1)))) then some (m, 0)
  else thM s k ms
def thR (s : List Int) (o : Option (Stp × Int)) (rest : List Int × Stp × Int) : List Int × Stp × Int := match o with
 | none => rest
 | some (m, e) => if e ≠ 0 then ([], zStp, e) else (s, m, 0)
def thS : List (List Int × Int) → List Int × Stp × Int
 | [] => ([], zStp, 10)
 | (s, k) :: l => if (linX n w p s).e ≠ 0 then ([], zStp, er (linX n w p s).e)
  else if grB (frE (linX n w p s)) (Fr.of k) ∨ (s = (endE n w).1 ∧ k ≠ 0) then (s, zStp, 0)
  else thR s (thM n w c p er s k (zds n w s)) (thS l)
def zf6 : List Int × Stp × Int := if fstE n w c p er ≠ 0 then ([], zStp, fstE n w c p er) else thS n w c p er (p.st.zip p.pots)
end
def E06 (e : Int) : Prop := e = 0 ∨ e = 6
theorem zxw (o : Option Fr) : E06 (FE.of o).e := by cases o <;> simp [FE.of, E06]
theorem zxt {a b : Fr} (ha : a.okB = true) (hb : b.okB = true) : E06 (addE a b).e := by unfold addE; rw [ha, hb]; exact zxw _
theorem mulE_e {a b : Fr} (ha : a.okB = true) (hb : b.okB = true) : E06 (mulE a b).e := by unfold mulE; rw [ha, hb]; exact zxw _
theorem ztf {n d : Int} (hd : d ≠ 0) (h : (FE.of (mkF n d)).e = 0) : Fr.okB (frE (FE.of (mkF n d))) = true := by
 cases e : mkF n d with
 | none => rw [e] at h; simp [FE.of] at h
 | some a => exact Fr.okB_of (mkF_ok hd e)
theorem ok_d {a : Fr} (h : a.okB = true) : a.d ≠ 0 := by have := (Fr.okB_iff a).1 h; have := this.2.2.1; omega
theorem zog {a b : Fr} (ha : a.okB = true) (hb : b.okB = true) (h : (addE a b).e = 0) : (frE (addE a b)).okB = true := by
 unfold addE at h ⊢
 rw [ha, hb] at h ⊢
 exact ztf (Int.mul_ne_zero (ok_d ha) (ok_d hb)) h
theorem zyq {a b : Fr} (ha : a.okB = true) (hb : b.okB = true) (h : (mulE a b).e = 0) : (frE (mulE a b)).okB = true := by
 unfold mulE at h ⊢
 rw [ha, hb] at h ⊢
 exact ztf (Int.mul_ne_zero (ok_d ha) (ok_d hb)) h
theorem z0l : ∀ (a b : List Fr) (acc : Fr), acc.okB = true → a.all Fr.okB = true → b.all Fr.okB = true → E06 (dotG acc a b).e ∧ ((dotG acc a b).e = 0 → (frE (dotG acc a b)).okB = true)
 | [], b, acc, h, _, _ => by cases b <;> exact ⟨.inl rfl, fun _ => h⟩
 | x :: a, [], acc, h, _, _ => ⟨.inl rfl, fun _ => h⟩
 | x :: a, y :: b, acc, h, ha, hb => by
  simp only [List.all_cons, Bool.and_eq_true] at ha hb
  unfold dotG
  split
  ·
   rename_i h1
   exact ⟨(mulE_e ha.1 hb.1), fun h2 => absurd h2 h1⟩
  ·
   rename_i h1
   have h1' : (mulE x y).e = 0 := Classical.byContradiction h1
   have hm := zyq ha.1 hb.1 h1'
   split
   ·
    rename_i h2
    exact ⟨zxt h hm, fun h3 => absurd h3 h2⟩
   ·
    rename_i h2
    have h2' := Classical.byContradiction h2
    exact z0l a b _ (zog h hm h2') ha.2 hb.2
theorem zfu {k : Int} (h : -1073741824 ≤ k ∧ k ≤ 1073741824) : (Fr.of k).okB = true := Fr.okB_of ⟨h.1, h.2, by show (1 : Int) ≤ 1; decide, by show (1 : Int) ≤ 1073741824; decide, by simp [Fr.of]⟩
theorem z0n {a b : List Fr} (ha : a.all Fr.okB = true) (hb : b.all Fr.okB = true) (hl : a.length = b.length) (h : a.length ≤ 1000) : E06 (dotE a b).e ∧ ((dotE a b).e = 0 → (frE (dotE a b)).okB = true) := by
 rw [zrf ha hb (by omega) hl, List.drop_zero, List.drop_zero]
 exact z0l a b _ (zfu (by omega)) ha hb
theorem zxp {f : Nat → Int} {l : List Nat} (h : ∀ j ∈ l, -1073741824 ≤ f j ∧ f j ≤ 1073741824) : (l.map fun j => Fr.of (f j)).all Fr.okB = true := by
 rw [List.all_map, List.all_eq_true]
 exact fun j hj => zfu (h j hj)
theorem zsk (t : Tr) (k : Nat) : (zhg t k).all Fr.okB = true := zxp (f := fun (q : Nat) => ztt (decide ((q : Int) ∈ t.inn)) (decide ((q : Int) ∈ t.out))) (fun j _ => by unfold ztt; split <;> split <;> omega)
section
variable {n : Net} {w : List ByteArray} {p : Prf}
theorem VD.gE (h : VD n w p) (t : Tr) : E06 (gE n p t).e ∧ ((Dl.gE n p t).e = 0 → (frE (Dl.gE n p t)).okB = true) := by
 have hp := zdy h.net
 have hd := h.dl
 refine z0n (List.all_eq_true.2 fun x hx => List.all_eq_true.1 h.dok x (List.mem_of_mem_take hx)) (zsk t _) ?_ ?_
 ·
  rw [zgp, List.length_take]; omega
 ·
  rw [List.length_take]; omega
theorem VD.wl (h : VD n w p) : w.length ≤ 200 := by have := h.word; unfold zew at this; simp only [Bool.and_eq_true, decide_eq_true_eq] at this; exact this.1
theorem zv6 {s e : List Int} (hs : ∀ x ∈ s, 0 ≤ x ∧ x ≤ 255) (he : ∀ x ∈ e, 0 ≤ x ∧ x ≤ 255) (w : List ByteArray) : (linL w s e).all Fr.okB = true := by
 have hg : ∀ {l : List Int} {k : Nat}, (∀ x ∈ l, 0 ≤ x ∧ x ≤ 255) → 0 ≤ gti l k ∧ gti l k ≤ 255 := fun {l k} h => by
  by_cases hk : k < l.length
  ·
   exact h _ (gti_mem hk)
  ·
   unfold gti; rw [List.getElem?_eq_none (by omega)]; exact ⟨by decide, by decide⟩
 unfold linL
 rw [List.all_append, Bool.and_eq_true]
 refine ⟨zxp (f := fun j => gti s (j + 1) - gti e (j + 1)) (fun j _ => ?_), zxp (f := fun (j : Nat) => if gti s 0 ≤ (j : Int) then 1 else 0) (fun j _ => by split <;> omega)⟩
 have h1 := hg (l := s) (k := j + 1) hs
 have h2 := hg (l := e) (k := j + 1) he
 omega
theorem VD.end_ok (h : VD n w p) : okS n w (endE n w).1 := (zf8 (n := n) (w := w) (by unfold zd9; rw [h.net, h.word]; rfl)).2.2.2.2.2
theorem VD.start_ok' (h : VD n w p) : okS n w (zd9 n w).1 := (zf8 (n := n) (w := w) (by unfold zd9; rw [h.net, h.word]; rfl)).2.2.2.2.1
theorem VD.lin (h : VD n w p) {s : List Int} (hs : okS n w s) : E06 (linX n w p s).e ∧ ((linX n w p s).e = 0 → (frE (linX n w p s)).okB = true) := by
 have he := h.end_ok
 have h1 := hs.len
 have hd := h.dl
 have := h.wl
 have hp := zdy h.net
 refine z0n h.dok (zv6 hs.small he.small w) ?_ ?_
 ·
  unfold linL; rw [List.length_append, zfl, zh1]; omega
 ·
  omega
theorem VD.pot (h : VD n w p) {s : List Int} (hs : okS n w s) : E06 (potX n w p s).e ∧ ((potX n w p s).e = 0 → (frE (potX n w p s)).okB = true) := by
 unfold potX
 split
 ·
  exact h.lin hs
 ·
  rename_i hf
  obtain ⟨p1, p2, p3⟩ := zhb hf
  have := h.pb _ (gti_mem (l := p.pots) (k := idx p.st s) (by rw [h.pl]; exact p2))
  exact ⟨.inl rfl, fun _ => zfu (k := gti p.pots (idx p.st s)) (by omega)⟩
end
end Dl
namespace Aw
open Go Go.RowKit Go.Proofs Dl
variable {P : Program} [IsP P]
theorem zs5 (a b : Fr) : Pure P 99 [eF a, eF b] (eB (!grB a b)) := by
 have h : (!grB a b) = decide ((cmpE a b).1 ≤ 0) := by unfold grB; by_cases h : (cmpE a b).1 ≤ 0 <;> simp [h]
 rw [h]; exact zl5 a b
def c6 : Int → Int := fun _ => 6
theorem zll {k : Nat} (n : Net) : Lo k (eL eT n.trans) := zan fun t => lo_T t
set_option maxHeartbeats 2000000 in
theorem zy9 (n : Net) (w : List ByteArray) (c : Cst) (p : Prf) (e : List Int) (v : Value) (hv : VD n w p) :
  Pure P 49 [ckR n w p e (.s v), eC c] (eI (fstE n w c p c6)) := by
 have hpl := zdy hv.net
 have hwl := hv.wl
 have hdl := hv.dl
 have hgn := fun t => z1v (P := P) n w p e t v (by omega) (by omega)
 have hlk : Lo 0 (ckR n w p e (.s v)) := z1n n w p e v
 have hlc : Lo 0 (.ref (eC c).cells) := .ref _ (lo_C c).cells
 have hlt := zll (k := 0) n
 have HI : fstE n w c p c6 = if fst1 n c p c6 (n.trans.drop 0) ≠ 0 then fst1 n c p c6 (n.trans.drop 0) else fst2 n c p c6 0 (w.drop 0) := rfl
 generalize fstE n w c p c6 = R at HI ⊢
 refine zcl (by rw [IsP.eq (P := P)]; exact Tryz.func49) rfl rfl rfl rfl rfl (zah hlk (zah (lo_C c) zak)) (.s _) (by simp only [argF]; rfl) ?_
 refine zag (zab (zaf rfl rfl (zaa rfl) (zb3 rfl rfl rfl rfl) ?_))
 refine za6 (zbm (id := 0) rfl) (za6 (zcb (d := 3) rfl rfl rfl) ?_)
 refine zac rfl (zad (zag (zag (zab (zac rfl (zac rfl (zbz zif rfl (zbz zex rfl (zbu ta22 rfl (zaf rfl rfl (zaa rfl) (zao rfl ts22 rfl) (zac rfl (zad (zai (zas ?_))))))))))))))
 refine zb1 (S := Nat) (fun k => [(0, ckR n w p e (.s v)), (3, .ref (eC c).cells), (22, eL eT n.trans), (23, eI n.trans.length), (24, eI k)]) (fun k => []) (fun k => k ≤ n.trans.length ∧ R = if fst1 n c p c6 (n.trans.drop k) ≠ 0 then fst1 n c p c6 (n.trans.drop k) else fst2 n c p c6 0 (w.drop 0)) (fun k => n.trans.length - k) 0
  (zb8 [] (by decide) trivial ⟨.lo _ hlk, .lo _ hlc, .lo _ hlt, .lo _ (.s _), .lo _ (.s _), trivial⟩) ⟨Nat.zero_le _, HI⟩ (fun k hk => ?_)
 clear HI
 obtain ⟨hk, HI⟩ := hk
 refine zag (zab ?_)
 refine za3 rfl rfl (zaa rfl) (za2 rfl rfl rfl) (fun h25 => ?_) (fun h25 => ?_)
 all_goals refine zad (zag ?_)
 all_goals (first | refine za5 rfl ?_ | refine zau rfl ?_)
 all_goals (repeat (first | refine zag ?_ | refine zar ?_ | refine zas ?_))
 ·
  have hkt : k < n.trans.length := by omega
  rw [zea hkt] at HI
  have hit : (n.trans.map eT)[k]? = some (eT (gti n.trans k)) := zbb hkt
  generalize gti n.trans k = t at HI hit
  have hg := hgn t
  have hmo : fst1 n c p c6 (t :: n.trans.drop (k + 1)) = if (gE n p t).e ≠ 0 then 6 else if grB (frE (gE n p t)) (Fr.of (zii c t)) then 28 else fst1 n c p c6 (n.trans.drop (k + 1)) := rfl
  rw [hmo] at HI
  clear hmo
  have hge : Pure P 98 [ckR n w p e (.s v), eT t] (eFE (gE n p t)) := hg
  generalize gE n p t = ge at HI hge
  refine zab (zaf rfl rfl (zaa rfl) (zal rfl ts22 ti86 rfl rfl rfl hit rfl) (zcx ta86 ti86 rfl (zaf rfl rfl (zaa rfl) (za1 rfl ti86 rfl rfl) (zba rfl (zaa rfl) (zaj rfl ti86 rfl rfl rfl rfl rfl rfl (by decide) (by decide)) (zad (zag ?_))))))
  refine zbg (zbm (id := 0) rfl) ?_
  refine zbg (zcb (d := 6) rfl rfl rfl) ?_
  refine zab (zac rfl (zcx ta86 ti86 rfl (zaf rfl rfl (zaa rfl) (zam rfl rfl (hge) (zae rfl (zae rfl zap))) (zac rfl (zac rfl (zac rfl (zaf rfl rfl (zaa rfl) (za1 rfl ti56 rfl rfl) (zba rfl (zaa rfl) (zaj rfl ti56 rfl rfl rfl rfl rfl rfl (by decide) (by decide)) (zac rfl (zad (zag (zag ?_))))))))))))
  refine zbg (zbm (id := 1) rfl) ?_
  refine zbg (zcb (d := 7) rfl rfl rfl) ?_
  refine zab (zac rfl ?_)
  refine za3 rfl rfl (zaa rfl) (zbp rfl rfl rfl) (fun h35 => ?_) (fun h35 => ?_)
  all_goals refine zad (zai ?_)
  all_goals (first | refine za5 rfl ?_ | refine zau rfl ?_)
  all_goals (repeat (first | refine zag ?_ | refine zar ?_))
  ·
   replace h35 : ge.e ≠ 0 := h35
   rw [if_pos h35, if_pos (by decide)] at HI
   refine zab (zac rfl (zad (zai ?_)))
   (refine za7 ?_; repeat (first | refine zbc ?_ | refine zbe ?_))
   exact zb6 (.inr rfl) rfl (congrArg eI HI.symm)
  replace h35 : ¬ ge.e ≠ 0 := h35
  rw [if_neg h35] at HI
  have hend : ∀ {b : Bool}, grB (frE ge) (Fr.of (zii c t)) = b → R = if b = true then 28 else if fst1 n c p c6 (n.trans.drop (k + 1)) ≠ 0 then fst1 n c p c6 (n.trans.drop (k + 1)) else fst2 n c p c6 0 (w.drop 0) := fun {b} hb => by
   rw [hb] at HI
   cases b with
   | true => exact HI.trans (if_pos (show (28 : Int) ≠ 0 by decide))
   | false => exact HI
  refine zab (zbz zz0 rfl (zbu ta3 rfl (zac rfl (zad (zag (zag (zab (zbz zmk rfl (zbu ta9 rfl ?_)))))))))
  refine za3 rfl rfl (zaa rfl) (zsx rfl rfl rfl) (fun h40 => ?_) (fun h40 => ?_)
  all_goals refine zad (zai ?_)
  all_goals (first | refine za5 rfl ?_ | refine zau rfl ?_)
  all_goals (repeat (first | refine zag ?_ | refine zar ?_))
  ·
   have hmo : zii c t = c.silent := if_pos h40
   rw [hmo] at hend
   have hwh := zer (P := P) c.silent
   have hat := zs5 (P := P) (frE ge) (Fr.of c.silent)
   generalize grB (frE ge) (Fr.of c.silent) = b at hat hend
   replace hend := hend rfl
   refine zab (zbz zzz rfl (zbu ta3 rfl (zac rfl (zad (zag ?_)))))
   refine zb2 hmix ?_
   refine zbx (by kernel_rfl) ?_
   refine qx_w ta56 ti56 rfl (qx_s rfl (zby rfl rfl (zaa rfl) (zam rfl rfl (hwh) (zae rfl zap)) (zby rfl rfl (zaa rfl) (zam rfl rfl (hat) (zae rfl (zae rfl zap))) (zby rfl rfl (zaa rfl) (zbj rfl rfl) ?_))))
   refine zdg ?_
   refine zai ?_
   cases b with
   | true =>
    refine za5 rfl (zag (zab (zac rfl (zad (zai ?_)))))
    (refine za7 ?_; repeat (first | refine zbc ?_ | refine zbe ?_))
    exact zb6 (.inr rfl) rfl (congrArg eI hend.symm)
   | false =>
    refine zau rfl (zar (zbl (zai (zab (zaf rfl rfl (zaa rfl) (zax rfl rfl rfl (IntWalk.i64_in _ (by omega))) (zac rfl (zad (zai ?_))))))))
    exact ⟨k + 1, ⟨by omega, hend⟩, by omega, zb8 [] (by decide) trivial ⟨.lo _ hlk, .lo _ hlc, .lo _ hlt, .lo _ (.s _), .lo _ (.s _), trivial⟩⟩
  ·
   have hmo : zii c t = c.model := if_neg h40
   rw [hmo] at hend
   have hwh := zer (P := P) c.model
   have hat := zs5 (P := P) (frE ge) (Fr.of c.model)
   generalize grB (frE ge) (Fr.of c.model) = b at hat hend
   replace hend := hend rfl
   refine zb2 hmix ?_
   refine zbx (by kernel_rfl) ?_
   refine qx_w ta56 ti56 rfl (qx_s rfl (zby rfl rfl (zaa rfl) (zam rfl rfl (hwh) (zae rfl zap)) (zby rfl rfl (zaa rfl) (zam rfl rfl (hat) (zae rfl (zae rfl zap))) (zby rfl rfl (zaa rfl) (zbj rfl rfl) ?_))))
   refine zdg ?_
   refine zai ?_
   cases b with
   | true =>
    refine za5 rfl (zag (zab (zac rfl (zad (zai ?_)))))
    (refine za7 ?_; repeat (first | refine zbc ?_ | refine zbe ?_))
    exact zb6 (.inr rfl) rfl (congrArg eI hend.symm)
   | false =>
    refine zau rfl (zar (zbl (zai (zab (zaf rfl rfl (zaa rfl) (zax rfl rfl rfl (IntWalk.i64_in _ (by omega))) (zac rfl (zad (zai ?_))))))))
    exact ⟨k + 1, ⟨by omega, hend⟩, by omega, zb8 [] (by decide) trivial ⟨.lo _ hlk, .lo _ hlc, .lo _ hlt, .lo _ (.s _), .lo _ (.s _), trivial⟩⟩
 have hke : k = n.trans.length := by omega
 subst hke
 rw [List.drop_length] at HI
 replace HI : R = fst2 n c p c6 0 (w.drop 0) := HI
 (refine zb9 ?_; repeat (first | refine zcr ?_ | refine zbt ?_ | refine zbk rfl ?_ | refine zbl ?_ | refine zai ?_ | refine zag ?_ | refine zar ?_ | refine zas ?_))
 refine zab (zac rfl (zac rfl (zbz znb rfl (zbu ta25 rfl (zaf rfl rfl (zaa rfl) (zao rfl ts25 rfl) (zac rfl (zad (zai (zas ?_)))))))))
 refine zb1 (S := Nat) (fun m => [(0, ckR n w p e (.s v)), (3, .ref (eC c).cells), (52, eL eS w), (53, eI w.length), (54, eI m)]) (fun m => []) (fun m => m ≤ w.length ∧ R = fst2 n c p c6 m (w.drop m)) (fun m => w.length - m) 0
  (zel _ ⟨rfl, rfl, rfl, rfl, rfl, trivial⟩) ⟨Nat.zero_le _, HI⟩ (fun m hm => ?_)
 clear HI hk
 obtain ⟨hm, HI⟩ := hm
 refine zag (zab ?_)
 refine za3 rfl rfl (zaa rfl) (za2 rfl rfl rfl) (fun h55 => ?_) (fun h55 => ?_)
 all_goals refine zad (zag ?_)
 all_goals (first | refine za5 rfl ?_ | refine zau rfl ?_)
 all_goals (repeat (first | refine zag ?_ | refine zar ?_ | refine zas ?_))
 rotate_left 1
 ·
  have hme : m = w.length := by omega
  subst hme
  rw [List.drop_length] at HI
  replace HI : R = 0 := HI
  (refine zb9 ?_; repeat (first | refine zcr ?_ | refine zbt ?_ | refine zbk rfl ?_ | refine zbl ?_ | refine zai ?_ | refine zag ?_ | refine zar ?_ | refine zas ?_))
  refine zab (zac rfl (zad (zai ?_)))
  (refine za7 ?_; repeat (first | refine zbc ?_ | refine zbe ?_))
  exact zb6 (.inr rfl) rfl (congrArg eI HI.symm)
 have hmt : m < w.length := by omega
 rw [zea hmt] at HI
 have hiw : (w.map eS)[m]? = some (eS (gti w m)) := zbb hmt
 generalize gti w m = act at HI hiw
 have hdk : n.places.toNat + m < p.duals.length := by omega
 have hid : (p.duals.map eF)[n.places.toNat + m]? = some (eF (gti p.duals (n.places.toNat + m))) := zbb hdk
 have hun : fst2 n c p c6 m (act :: w.drop (m + 1)) = if grB (gti p.duals (n.places.toNat + m)) (Fr.of c.log) then 28 else if fst3 n p c6 (gti p.duals (n.places.toNat + m)) act (n.trans.drop 0) ≠ 0 then fst3 n p c6 (gti p.duals (n.places.toNat + m)) act (n.trans.drop 0) else fst2 n c p c6 (m + 1) (w.drop (m + 1)) := rfl
 rw [hun] at HI
 clear hun
 generalize gti p.duals (n.places.toNat + m) = d at HI hid
 have hwh := zer (P := P) c.log
 have hat := zs5 (P := P) d (Fr.of c.log)
 generalize grB d (Fr.of c.log) = b at hat HI
 refine zab (zac rfl (zaf rfl rfl (zaa rfl) (zal rfl ts25 ti9 rfl rfl rfl hiw rfl) (zbu ta9 rfl (zac rfl (zac rfl (zad (zag ?_)))))))
 refine zb2 hmix ?_
 refine zc1 ?_
 refine ex_s rfl (ex_s rfl (ex_f zkx rfl (ex_f zdu rfl (ex_l ta30 rfl (ex_s rfl (ex_s rfl (ex_f zif rfl (ex_f zem rfl (ex_l ta3 rfl (ex_s rfl (zay rfl rfl (zaa rfl) (fun _ => (zax rfl rfl rfl (IntWalk.i64_in _ (by omega)))) (zay rfl rfl (zaa rfl) (fun _ => (zal rfl ts30 ti56 rfl rfl (k := n.places.toNat + m) (by omega) hid rfl)) (ex_w ta56 ti56 rfl ?_)))))))))))))
 refine zc9 rfl rfl (zaa rfl) (za1 rfl ti56 rfl rfl) (fun _ h => zdo h) ?_
 refine zci rfl (zaa rfl) (zaj rfl ti56 rfl rfl rfl rfl rfl rfl (by decide) (by decide)) (fun _ h => zbw h) ?_
 refine zcf (by kernel_rfl) ?_
 refine zag (zag ?_)
 refine zbg (zbm (id := 0) rfl) ?_
 refine zbg (zcb (d := 12) rfl rfl rfl) ?_
 refine zb2 hmix ?_
 refine zbx (by kernel_rfl) ?_
 refine qx_w ta56 ti56 rfl (qx_f zz1 rfl (qx_l ta3 rfl (zby rfl rfl (zaa rfl) (zam rfl rfl (hwh) (zae rfl zap)) (zby rfl rfl (zaa rfl) (zam rfl rfl (hat) (zae rfl (zae rfl zap))) (zby rfl rfl (zaa rfl) (zbj rfl rfl) ?_)))))
 refine zdg ?_
 refine zai ?_
 cases b with
 | true =>
  refine za5 rfl (zag (zab (zac rfl (zad (zai ?_)))))
  (refine za7 ?_; repeat (first | refine zbc ?_ | refine zbe ?_))
  exact zb6 (.inr rfl) rfl (congrArg eI HI.symm)
 | false =>
  refine zau rfl (zar (zag ?_))
  rw [if_neg (by decide)] at HI
  clear hat
  have hld : Lo 0 (.ref (eF d).cells) := .ref _ (zfe d).cells
  refine zab (zac rfl (zac rfl (zbz zif rfl (zbz zex rfl (zbu ta22 rfl (zaf rfl rfl (zaa rfl) (zao rfl ts22 rfl) (zac rfl (zad (zai (zas ?_))))))))))
  refine zb1 (S := Nat) (fun k => [(0, ckR n w p e (.s v)), (3, .ref (eC c).cells), (52, eL eS w), (53, eI w.length), (54, eI m), (11, eS act), (12, .ref (eF d).cells), (83, eL eT n.trans), (84, eI n.trans.length), (85, eI k)]) (fun k => []) (fun k => k ≤ n.trans.length ∧ R = if fst3 n p c6 d act (n.trans.drop k) ≠ 0 then fst3 n p c6 d act (n.trans.drop k) else fst2 n c p c6 (m + 1) (w.drop (m + 1))) (fun k => n.trans.length - k) 0
   (zb8 [] (by decide) trivial ⟨.lo _ hlk, .lo _ hlc, .lo _ (lo_W w), .lo _ (.s _), .lo _ (.s _), .lo _ (.s _), .lo _ hld, .lo _ hlt, .lo _ (.s _), .lo _ (.s _), trivial⟩) ⟨Nat.zero_le _, HI⟩ (fun k hk => ?_)
  clear HI
  obtain ⟨hk, HI⟩ := hk
  refine zag (zab ?_)
  refine za3 rfl rfl (zaa rfl) (za2 rfl rfl rfl) (fun h86 => ?_) (fun h86 => ?_)
  all_goals refine zad (zag ?_)
  all_goals (first | refine za5 rfl ?_ | refine zau rfl ?_)
  all_goals (repeat (first | refine zag ?_ | refine zar ?_ | refine zas ?_))
  rotate_left 1
  ·
   have hke : k = n.trans.length := by omega
   subst hke
   rw [List.drop_length] at HI
   replace HI : R = fst2 n c p c6 (m + 1) (w.drop (m + 1)) := HI
   (refine zb9 ?_; repeat (first | refine zcr ?_ | refine zbt ?_ | refine zbk rfl ?_ | refine zbl ?_ | refine zai ?_ | refine zag ?_ | refine zar ?_ | refine zas ?_))
   refine zab (zaf rfl rfl (zaa rfl) (zax rfl rfl rfl (IntWalk.i64_in _ (by omega))) (zac rfl (zad (zai ?_))))
   exact ⟨m + 1, ⟨by omega, HI⟩, by omega, zel _ ⟨rfl, rfl, rfl, rfl, rfl, trivial⟩⟩
  have hkt : k < n.trans.length := by omega
  rw [zea hkt] at HI
  have hit : (n.trans.map eT)[k]? = some (eT (gti n.trans k)) := zbb hkt
  generalize gti n.trans k = t at HI hit
  have hge : Pure P 98 [ckR n w p e (.s v), eT t] (eFE (gE n p t)) := hgn t
  have hmo : fst3 n p c6 d act (t :: n.trans.drop (k + 1)) = if t.label ≠ act then fst3 n p c6 d act (n.trans.drop (k + 1)) else if (gE n p t).e ≠ 0 then 6 else if (addE (frE (gE n p t)) d).e ≠ 0 then 6 else if grB (frE (addE (frE (gE n p t)) d)) (Fr.of 0) then 28 else fst3 n p c6 d act (n.trans.drop (k + 1)) := rfl
  rw [hmo] at HI
  clear hmo
  generalize gE n p t = ge at HI hge
  have had := zrd (P := P) (frE ge) d
  generalize addE (frE ge) d = ad at HI had
  have hw0 := zer (P := P) 0
  have hat := zs5 (P := P) (frE ad) (Fr.of 0)
  generalize grB (frE ad) (Fr.of 0) = b at HI hat
  refine zab (zaf rfl rfl (zaa rfl) (zal rfl ts22 ti86 rfl rfl rfl hit rfl) (zcx ta86 ti86 rfl (zaf rfl rfl (zaa rfl) (za1 rfl ti86 rfl rfl) (zba rfl (zaa rfl) (zaj rfl ti86 rfl rfl rfl rfl rfl rfl (by decide) (by decide)) (zad (zag (zag ?_)))))))
  refine zbg (zbm (id := 0) rfl) ?_
  refine zbg (zcb (d := 14) rfl rfl rfl) ?_
  refine zab (zbz zmk rfl (zbu ta9 rfl (zac rfl ?_)))
  refine za3 rfl rfl (zaa rfl) (zsw rfl rfl rfl) (fun h92 => ?_) (fun h92 => ?_)
  all_goals refine zad (zai ?_)
  all_goals (first | refine za5 rfl ?_ | refine zau rfl ?_)
  all_goals (repeat (first | refine zag ?_ | refine zar ?_))
  ·
   rw [if_pos h92] at HI
   (refine zb9 ?_; repeat (first | refine zcr ?_ | refine zbt ?_ | refine zbk rfl ?_ | refine zbl ?_ | refine zai ?_ | refine zag ?_ | refine zar ?_ | refine zas ?_))
   refine zab (zaf rfl rfl (zaa rfl) (zax rfl rfl rfl (IntWalk.i64_in _ (by omega))) (zac rfl (zad (zai ?_))))
   exact ⟨k + 1, ⟨by omega, HI⟩, by omega, zb8 [] (by decide) trivial ⟨.lo _ hlk, .lo _ hlc, .lo _ (lo_W w), .lo _ (.s _), .lo _ (.s _), .lo _ (.s _), .lo _ hld, .lo _ hlt, .lo _ (.s _), .lo _ (.s _), trivial⟩⟩
  rw [if_neg h92] at HI
  refine zab (zac rfl (zcx ta86 ti86 rfl (zaf rfl rfl (zaa rfl) (zam rfl rfl (hge) (zae rfl (zae rfl zap))) (zac rfl (zac rfl (zac rfl (zaf rfl rfl (zaa rfl) (za1 rfl ti56 rfl rfl) (zba rfl (zaa rfl) (zaj rfl ti56 rfl rfl rfl rfl rfl rfl (by decide) (by decide)) (zac rfl (zad (zag (zag ?_))))))))))))
  refine zbg (zbm (id := 1) rfl) ?_
  refine zbg (zcb (d := 15) rfl rfl rfl) ?_
  refine zab (zac rfl ?_)
  refine za3 rfl rfl (zaa rfl) (zbp rfl rfl rfl) (fun h100 => ?_) (fun h100 => ?_)
  all_goals refine zad (zai ?_)
  all_goals (first | refine za5 rfl ?_ | refine zau rfl ?_)
  all_goals (repeat (first | refine zag ?_ | refine zar ?_))
  ·
   replace h100 : ge.e ≠ 0 := h100
   rw [if_pos h100, if_pos (by decide)] at HI
   refine zab (zac rfl (zad (zai ?_)))
   (refine za7 ?_; repeat (first | refine zbc ?_ | refine zbe ?_))
   exact zb6 (.inr rfl) rfl (congrArg eI HI.symm)
  replace h100 : ¬ ge.e ≠ 0 := h100
  rw [if_neg h100] at HI
  refine zab (zcx ta56 ti56 rfl (zcx ta56 ti56 rfl (zaf rfl rfl (zaa rfl) (zam rfl rfl (had) (zae rfl (zae rfl zap))) (zac rfl (zac rfl (zac rfl (zaf rfl rfl (zaa rfl) (za1 rfl ti56 rfl rfl) (zba rfl (zaa rfl) (zaj rfl ti56 rfl rfl rfl rfl rfl rfl (by decide) (by decide)) (zac rfl (zad (zag (zag ?_))))))))))))
  refine zbg (zbm (id := 2) rfl) ?_
  refine zbg (zcb (d := 17) rfl rfl rfl) ?_
  refine zab (zac rfl ?_)
  refine za3 rfl rfl (zaa rfl) (zbp rfl rfl rfl) (fun h108 => ?_) (fun h108 => ?_)
  all_goals refine zad (zai ?_)
  all_goals (first | refine za5 rfl ?_ | refine zau rfl ?_)
  all_goals (repeat (first | refine zag ?_ | refine zar ?_))
  ·
   replace h108 : ad.e ≠ 0 := h108
   rw [if_pos h108, if_pos (by decide)] at HI
   refine zab (zac rfl (zad (zai ?_)))
   (refine za7 ?_; repeat (first | refine zbc ?_ | refine zbe ?_))
   exact zb6 (.inr rfl) rfl (congrArg eI HI.symm)
  replace h108 : ¬ ad.e ≠ 0 := h108
  rw [if_neg h108] at HI
  refine zb2 hmix ?_
  refine zbx (by kernel_rfl) ?_
  refine qx_w ta56 ti56 rfl (zby rfl rfl (zaa rfl) (zam rfl rfl (hw0) (zae rfl zap)) (zby rfl rfl (zaa rfl) (zam rfl rfl (hat) (zae rfl (zae rfl zap))) (zby rfl rfl (zaa rfl) (zbj rfl rfl) ?_)))
  refine zdg ?_
  refine zai ?_
  cases b with
  | true =>
   refine za5 rfl (zag (zab (zac rfl (zad (zai ?_)))))
   (refine za7 ?_; repeat (first | refine zbc ?_ | refine zbe ?_))
   exact zb6 (.inr rfl) rfl (congrArg eI (HI.trans (if_pos (show (28 : Int) ≠ 0 by decide))).symm)
  | false =>
   refine zau rfl (zar (zbl (zai (zab (zaf rfl rfl (zaa rfl) (zax rfl rfl rfl (IntWalk.i64_in _ (by omega))) (zac rfl (zad (zai ?_))))))))
   exact ⟨k + 1, ⟨by omega, HI⟩, by omega, zb8 [] (by decide) trivial ⟨.lo _ hlk, .lo _ hlc, .lo _ (lo_W w), .lo _ (.s _), .lo _ (.s _), .lo _ (.s _), .lo _ hld, .lo _ hlt, .lo _ (.s _), .lo _ (.s _), trivial⟩⟩
end Aw
namespace Aw
open Go Go.RowKit Go.Proofs Go.Maps Go.WideMaps Dl
variable {P : Program} [IsP P]
def setD (S : List (List Int)) : DataW Unit := S.foldl (fun D x => D.put (.string (keyD x)) (.lit (.bool true))) (.map [])
theorem zky (S : List (List Int)) (m : List Int) : setD (S ++ [m]) = (setD S).put (.string (keyD m)) (.lit (.bool true)) := by unfold setD; rw [List.foldl_append]; rfl
theorem zr3 : ∀ (k : Nat) (S : List (List Int)), S.length = k → IsMap (setD S)
 | 0, S, h => by rw [List.eq_nil_of_length_eq_zero h]; exact isMap_empty
 | k + 1, S, h => by
  have hne : S ≠ [] := fun e => by rw [e] at h; simp at h
  rw [← List.dropLast_concat_getLast hne, zky]
  exact (zr3 k S.dropLast (by simp [h])).put _ _
theorem zuv {x : List Int} (hx : Small x) : ∀ (k : Nat) (S : List (List Int)), S.length = k → (∀ y ∈ S, Small y) → (setD S).atKey (.string (keyD x)) (.lit (.bool false)) = .lit (.bool (decide (x ∈ S)))
 | 0, S, h, _ => by rw [List.eq_nil_of_length_eq_zero h]; rfl
 | k + 1, S, h, hs => by
  have hne : S ≠ [] := fun e => by rw [e] at h; simp at h
  have e := List.dropLast_concat_getLast hne
  have hl : S.getLast hne ∈ S := List.getLast_mem hne
  generalize S.getLast hne = y at e hl
  generalize hS : S.dropLast = T at e
  have hTl : T.length = k := by rw [← hS]; simp [h]
  subst e
  rw [zky]
  by_cases he : x = y
  ·
   subst he
   rw [atKey_put_same (zr3 k T hTl) (show WideAt.IsKeyLit (.string _) from trivial)]
   simp
  ·
   rw [atKey_put_other (zln hx (hs y hl) he), zuv hx k T hTl (fun z hz => hs z (List.mem_append_left _ hz))]
   simp [he]
def setX (P : Program) (S : List (List Int)) : MapX := ⟨P, 9, 4, S.length, setD S⟩
theorem zuu (P : Program) (S : List (List Int)) (m : List Int) : setX P (S ++ [m]) = { setX P S with n := (setX P S).n + 1, D := (setX P S).D.put (.string (keyD m)) (.lit (.bool true)) } := by
 unfold setX
 rw [zky]
 simp
def vdL (n : Net) (w : List ByteArray) : List (List Int) → List (List Int × Int) → Bool
 | _, [] => true
 | S, (s, k) :: l => if zd3 n w s = false ∨ s ∈ S ∨ k < 0 ∨ 1073741824 < k then false else vdL n w (S ++ [s]) l
theorem zui {n : Net} {w : List ByteArray} : ∀ (l : List (List Int × Int)) (S : List (List Int)), vdL n w S l = true ↔ (∀ x ∈ l, zd3 n w x.1 = true ∧ 0 ≤ x.2 ∧ x.2 ≤ 1073741824) ∧ (l.map Prod.fst).Nodup ∧ ∀ x ∈ l, x.1 ∉ S
 | [], S => by simp [vdL]
 | (s, k) :: l, S => by
  unfold vdL
  split
  ·
   rename_i h
   constructor
   ·
    intro h2; cases h2
   ·
    rintro ⟨h1, h2, h3⟩
    have g1 := h1 (s, k) (by simp)
    have g2 := h3 (s, k) (by simp)
    rcases h with h | h | h | h
    ·
     rw [h] at g1; exact absurd g1.1 (by decide)
    ·
     exact absurd h g2
    ·
     have := g1.2.1; omega
    ·
     have := g1.2.2; omega
  ·
   rename_i h
   rw [zui l (S ++ [s])]
   have hs : zd3 n w s = true := by cases hb : zd3 n w s with
    | true => rfl
    | false => exact absurd (.inl hb) h
   have hm : s ∉ S := fun hm => h (.inr (.inl hm))
   simp only [List.map_cons, List.nodup_cons, List.mem_cons, forall_eq_or_imp, List.mem_append, List.mem_singleton, not_or, List.mem_map]
   constructor
   ·
    rintro ⟨h1, h2, h3⟩
    refine ⟨⟨⟨hs, by omega, by omega⟩, h1⟩, ⟨?_, h2⟩, hm, fun x hx => (h3 x hx).1⟩
    rintro ⟨x, hx, rfl⟩
    exact (h3 x hx).2.1 rfl
   ·
    rintro ⟨⟨_, h1⟩, ⟨h2, h3⟩, _, h4⟩
    exact ⟨h1, h3, fun x hx => ⟨h4 x hx, fun e => h2 ⟨x, hx, e⟩, by simp⟩⟩
theorem zxz {n : Net} {w : List ByteArray} {p : Prf} (h1 : zd5 n = true) (h2 : zew w = true) (h3 : p.st.length ≤ 2000) (h4 : p.pots.length = p.st.length) (h5 : (p.duals.length : Int) = n.places + w.length) :
  vdB n w p = (vdL n w [] (p.st.zip p.pots) && p.duals.all Fr.okB) := by
 have hz1 : (p.st.zip p.pots).map Prod.fst = p.st := by rw [List.map_fst_zip (by omega)]
 rw [Bool.eq_iff_iff, zhi, Bool.and_eq_true, zui, hz1]
 constructor
 ·
  intro h
  refine ⟨⟨fun x hx => ?_, h.nd, by simp⟩, h.dok⟩
  have := List.of_mem_zip hx
  exact ⟨h.ok _ this.1, h.pb _ this.2⟩
 ·
  rintro ⟨⟨g1, g2, _⟩, g3⟩
  have key : ∀ k, k < p.st.length → (gti p.st k, gti p.pots k) ∈ p.st.zip p.pots := fun k hk => by
   refine List.mem_of_getElem? (i := k) ?_
   rw [List.getElem?_zip_eq_some]
   exact ⟨zdh hk, zdh (by omega)⟩
  refine ⟨h1, h2, h3, h4, h5, fun s hs => ?_, g2, fun k hk => ?_, g3⟩
  ·
   obtain ⟨i, hi, rfl⟩ := mem_gti' hs
   exact (g1 _ (key i hi)).1
  ·
   obtain ⟨i, hi, rfl⟩ := mem_gti' hk
   exact (g1 _ (key i (by omega))).2
theorem zuj (a : Fr) : Pure P 80 [eF a] (eB (!a.okB)) := by
 have hv := zi8 (P := P) a
 refine zcl (by rw [IsP.eq (P := P)]; exact Tryz.func80) rfl rfl rfl rfl rfl (zah (zfe a) zak) (.s _) (by simp only [argF]; rfl) ?_
 have hla : Lo 0 (.ref (eF a).cells) := .ref _ (zfe a).cells
 refine zag (zab (zaf rfl rfl (zaa rfl) (zb3 rfl rfl rfl rfl) ?_))
 refine za6 (zbm (id := 0) rfl) (za6 (zcb (d := 1) rfl rfl rfl) ?_)
 refine zac rfl (zad (zag (zab (zcx ta56 ti56 rfl (zaf rfl rfl (zaa rfl) (zam rfl rfl (zi8 _) (zae rfl zap)) (zaf rfl rfl (zaa rfl) (zp3 rfl rfl) (zac rfl (zad (zai ?_)))))))))
 (refine za7 ?_; repeat (first | refine zbc ?_ | refine zbe ?_))
 exact zb6 (.inr rfl) rfl (congrArg eB (by simp [Fr.okB]))
theorem ze2 {k : Nat} (p : Prf) : Lo k (.ref (ePf p).cells) := .ref _ (zij p).cells
set_option maxHeartbeats 2000000 in
theorem zw6 (n : Net) (w : List ByteArray) (p : Prf) : Pure P 30 [eN n, eL eS w, ePf p] (eB (vdB n w p)) := by
 have hS0 := znc (P := P) n w
 have hso := zf8 (n := n) (w := w)
 have hsn := zut (n := n) (w := w)
 have hvf := zhi (n := n) (w := w) (p := p)
 have hvl := zxz (n := n) (w := w) (p := p)
 generalize vdB n w p = R at hvf hvl ⊢
 have hRf : ¬ VD n w p → R = false := fun h => by cases R with
  | false => rfl
  | true => exact absurd (hvf.1 rfl) h
 generalize hs0 : zd9 n w = s0 at hS0 hso hsn
 have hln : Lo 0 (.ref (eN n).cells) := .ref _ (lo_N n).cells
 have hlp : Lo 0 (.ref (ePf p).cells) := ze2 p
 refine zcl (by rw [IsP.eq (P := P)]; exact Tryz.func30) rfl rfl rfl rfl rfl (zah (lo_N n) (zah (lo_W w) (zah (zij p) zak))) (.s _) (by simp only [argF]; rfl) ?_
 refine zag (zab (zaf rfl rfl (zaa rfl) (zb3 rfl rfl rfl rfl) ?_))
 refine za6 (zbm (id := 0) rfl) (za6 (zcb (d := 3) rfl rfl rfl) ?_)
 refine zaf rfl rfl (zaa rfl) (zb3 rfl rfl rfl rfl) ?_
 refine za6 (zbm (id := 1) rfl) (za6 (zcb (d := 5) rfl rfl rfl) ?_)
 refine zac rfl (zad (zag (zag (zab (zcx ta24 ti24 rfl (zac rfl (zaf rfl rfl (zaa rfl) (zam rfl rfl (hS0) (zae rfl (zae rfl zap))) (zac rfl (zac rfl (zac rfl (zac rfl (zac rfl (zad (zag (zab (zac rfl ?_))))))))))))))))
 refine za3 rfl rfl (zaa rfl) (zbp rfl rfl rfl) (fun h21 => ?_) (fun h21 => ?_)
 all_goals refine zad (zai ?_)
 all_goals (first | refine za5 rfl ?_ | refine zau rfl ?_)
 all_goals (repeat (first | refine zag ?_ | refine zar ?_))
 ·
  refine zab (zac rfl (zad (zai ?_)))
  (refine za7 ?_; repeat (first | refine zbc ?_ | refine zbe ?_))
  exact zb6 (.inr rfl) rfl (congrArg eB (hRf (fun h => hsn h21 ⟨h.net, h.word⟩)).symm)
 obtain ⟨hvn, hww, _, _, _, _⟩ := hso (Classical.byContradiction h21)
 have hpl := zdy hvn
 have hwl : w.length ≤ 200 := by unfold zew at hww; simp only [Bool.and_eq_true, decide_eq_true_eq] at hww; exact hww.1
 refine zab (zbz zd6 rfl (zbu ta28 rfl (zaf rfl rfl (zaa rfl) (zao rfl ts28 rfl) ?_)))
 refine za3 rfl rfl (zaa rfl) (zb0 rfl rfl rfl) (fun h25 => ?_) (fun h25 => ?_)
 all_goals refine zac rfl ?_
 all_goals (first | refine zbz zbh rfl ?_ | refine za4 rfl ?_)
 all_goals (first | refine zbu ta29 rfl ?_ | refine za4 rfl ?_)
 all_goals (first | refine zaf rfl rfl (zat rfl rfl rfl) (zao rfl ts29 rfl) ?_ | refine za4 rfl ?_)
 all_goals (first | refine zbz zd6 rfl ?_ | refine za4 rfl ?_)
 all_goals (first | refine zbu ta28 rfl ?_ | refine za4 rfl ?_)
 all_goals (first | refine zaf rfl rfl (zat rfl rfl rfl) (zao rfl ts28 rfl) ?_ | refine za4 rfl ?_)
 all_goals (first | refine za3 rfl rfl (zat rfl rfl rfl) (zbp rfl rfl rfl) (fun h33 => ?_) (fun h33 => ?_) | refine za4 rfl ?_)
 all_goals refine zac rfl (zac rfl ?_)
 all_goals (first | refine zbz zdu rfl ?_ | refine za4 rfl ?_)
 all_goals (first | refine zbu ta30 rfl ?_ | refine za4 rfl ?_)
 all_goals (first | refine zaf rfl rfl (zat rfl rfl rfl) (zao rfl ts30 rfl) ?_ | refine za4 rfl ?_)
 all_goals (first | refine zbz zem rfl ?_ | refine za4 rfl ?_)
 all_goals (first | refine zbu ta3 rfl ?_ | refine za4 rfl ?_)
 all_goals (first | refine zac rfl ?_ | refine za4 rfl ?_)
 all_goals (first | refine zaf rfl rfl (zat rfl rfl rfl) (zao rfl ts25 rfl) ?_ | refine za4 rfl ?_)
 all_goals (first | refine zaf rfl rfl (zat rfl rfl rfl) (zax rfl rfl rfl (IntWalk.i64_in _ (by omega))) ?_ | refine za4 rfl ?_)
 all_goals (first | refine za3 rfl rfl (zat rfl rfl rfl) (zbp rfl rfl rfl) (fun h44 => ?_) (fun h44 => ?_) | refine za4 rfl ?_)
 all_goals refine zac rfl (zad (zai ?_))
 all_goals (first | refine za5 rfl ?_ | refine zau rfl ?_)
 all_goals (repeat (first | refine zag ?_ | refine zar ?_))
 all_goals first
  |
   refine zab (zac rfl (zad (zai ?_)))
   (refine za7 ?_; repeat (first | refine zbc ?_ | refine zbe ?_))
   refine zb6 (.inr rfl) rfl (congrArg eB (hRf (fun h => ?_)).symm)
   have g1 := h.few
   have g2 := h.pl
   have g3 := h.dl
   omega
  | skip
 have hR := hvl hvn hww (by omega) (by omega) (by omega)
 have hpn : p.pots.length = p.st.length := by omega
 have hpf : p.st.length ≤ 2000 := by omega
 clear hvl hvf hRf
 refine zab (zaf rfl rfl (zaa rfl) (zh3 rfl zum) (zac rfl (zad (zag (zag (zab (zbz zd6 rfl (zbu ta28 rfl (zaf rfl rfl (zaa rfl) (zao rfl ts28 rfl) (zac rfl (zad (zai (zas ?_)))))))))))))
 refine zb1 (S := Nat) (fun k => [(1, eL eS w), (3, .ref (eN n).cells), (5, .ref (ePf p).cells), (9, .mp 0), (48, eL (eL eI) p.st), (49, eI p.st.length), (50, eI k)]) (fun k => [.mp (setX P (p.st.take k))]) (fun k => k ≤ p.st.length ∧ (∀ y ∈ p.st.take k, okS n w y) ∧ R = (vdL n w (p.st.take k) ((p.st.zip p.pots).drop k) && p.duals.all Fr.okB)) (fun k => p.st.length - k) 0
  (zb8 [2] (by decide) ⟨⟨_, rfl, zh5 rfl⟩, trivial⟩ ⟨.lo _ (lo_W w), .lo _ hln, .lo _ hlp, .mp 2 0 rfl, .lo _ (zgm _), .lo _ (.s _), .lo _ (.s _), trivial⟩) ⟨Nat.zero_le _, by simp, hR⟩ (fun k hk => ?_)
 obtain ⟨hk, hok, hR2⟩ := hk
 clear hR
 replace hk : k ≤ p.st.length := hk
 refine zag (zab ?_)
 refine za3 rfl rfl (zaa rfl) (za2 rfl rfl rfl) (fun h51 => ?_) (fun h51 => ?_)
 all_goals refine zad (zag ?_)
 all_goals (first | refine za5 rfl ?_ | refine zau rfl ?_)
 all_goals (repeat (first | refine zag ?_ | refine zar ?_ | refine zas ?_))
 rotate_left 1
 ·
  have hke : k = p.st.length := by omega
  subst hke
  rw [List.drop_of_length_le (by simp; omega)] at hR2
  replace hR2 : R = (true && p.duals.all Fr.okB) := hR2
  rw [Bool.true_and, zxo] at hR2
  have hcf := zjb (P := P) 80 [] (fun a => !a.okB) p.duals (fun a => zfe a) (.fn _ _ zak) (fun a _ => zuj a)
  generalize p.duals.any (fun a => !a.okB) = z at hcf hR2
  (refine zb9 ?_; repeat (first | refine zcr ?_ | refine zbt ?_ | refine zbk rfl ?_ | refine zbl ?_ | refine zai ?_ | refine zag ?_ | refine zar ?_ | refine zas ?_))
  refine zab (zbz zdu rfl (zbu ta30 rfl (zaf rfl rfl (zaa rfl) (zam rfl rfl (hcf) (zae rfl (zae rfl zap))) (zaf rfl rfl (zaa rfl) (zbj rfl rfl) (zac rfl (zad (zai ?_)))))))
  (refine za7 ?_; repeat (first | refine zbc ?_ | refine zbe ?_))
  exact zb6 (.inr rfl) rfl (congrArg eB hR2.symm)
 have hkt : k < p.st.length := by omega
 have hzd : (p.st.zip p.pots).drop k = (gti p.st k, gti p.pots k) :: (p.st.zip p.pots).drop (k + 1) := by
  have hzl : k < (p.st.zip p.pots).length := by simp; omega
  have hz : (p.st.zip p.pots)[k]? = some (gti p.st k, gti p.pots k) := by
   rw [List.getElem?_zip_eq_some]
   exact ⟨zdh hkt, zdh (by omega)⟩
  rw [List.drop_eq_getElem_cons hzl]
  congr 1
  rw [List.getElem?_eq_getElem hzl] at hz
  exact Option.some.inj hz
 have his : (p.st.map (eL eI))[k]? = some (eL eI (gti p.st k)) := zbb hkt
 have hip : (p.pots.map eI)[k]? = some (eI (gti p.pots k)) := zbb (by omega)
 have htk : p.st.take (k + 1) = p.st.take k ++ [gti p.st k] := by rw [List.take_add_one, zdh hkt]; rfl
 rw [hzd] at hR2
 generalize gti p.st k = s at hR2 his htk
 generalize gti p.pots k = q at hR2 hip
 have hun : vdL n w (p.st.take k) ((s, q) :: (p.st.zip p.pots).drop (k + 1)) = if zd3 n w s = false ∨ s ∈ p.st.take k ∨ q < 0 ∨ 1073741824 < q then false else vdL n w (p.st.take k ++ [s]) ((p.st.zip p.pots).drop (k + 1)) := rfl
 rw [hun] at hR2
 have hM := zno (P := P) n w s
 have hMe : (zgs n w s).2 = if zd3 n w s = true then 0 else 1 := by unfold zgs; split <;> rfl
 generalize zgs n w s = me at hM hMe
 refine zab (zac rfl (zaf rfl rfl (zaa rfl) (zal rfl ts28 ti29 rfl rfl rfl his rfl) (zbu ta29 rfl (zac rfl (zac rfl (zad (zag (zag (zab (zcx ta24 ti24 rfl (zac rfl (zac rfl (zaf rfl rfl (zaa rfl) (zam rfl rfl (hM) (zae rfl (zae rfl (zae rfl zap)))) (zac rfl (zac rfl (zac rfl (zac rfl (zac rfl (zad (zag ?_))))))))))))))))))))
 by_cases hst : zd3 n w s = true
 rotate_left 1
 ·
  have hb : zd3 n w s = false := by simpa using hst
  rw [if_neg hst] at hMe
  rw [if_pos (.inl hb)] at hR2
  obtain ⟨ml, mc⟩ := me
  replace hMe : mc = 1 := hMe
  subst hMe
  refine zab (zac rfl (zaf rfl rfl (zaa rfl) (zbp rfl rfl rfl) (zac rfl (za4 rfl (za4 rfl (za4 rfl (za4 rfl (zac rfl (zac rfl (za4 rfl (za4 rfl (za4 rfl (za4 rfl (za4 rfl (za4 rfl (zac rfl (zac rfl (za4 rfl (za4 rfl (za4 rfl (za4 rfl (za4 rfl (za4 rfl (zac rfl (zad (zai (za5 rfl (zag (zab (zac rfl (zad (zai ?_))))))))))))))))))))))))))))))))
  (refine za7 ?_; repeat (first | refine zbc ?_ | refine zbe ?_))
  exact zb6 (.inr rfl) rfl (congrArg eB (by rw [hR2]; rfl))
 rw [if_pos hst] at hMe
 obtain ⟨ml, mc⟩ := me
 replace hMe : mc = 0 := hMe
 subst hMe
 have hsk : okS n w s := hst
 have hkp := zio (P := P) hsk
 have hks := zil hsk
 have hsm : ∀ y ∈ p.st.take k, Small y := fun y hy => (hok y hy).small
 have hat := zuv hsk.small _ (p.st.take k) rfl hsm
 by_cases hmem : s ∈ p.st.take k
 ·
  rw [decide_eq_true hmem] at hat
  rw [if_pos (.inr (.inl hmem))] at hR2
  refine zab (zac rfl (zaf rfl rfl (zaa rfl) (zbp rfl rfl rfl) (zac rfl (zac rfl (zac rfl (zaf rfl rfl (zat rfl rfl rfl) (zam rfl rfl (hkp) (zae rfl zap)) (zaf rfl rfl (zat rfl rfl rfl) (zin rfl zum tK9 rfl rfl ⟨rfl, rfl, rfl⟩ rfl (keyOf_string_mk tn9 hks) ti4 (plainElem_bool tn4 _) hat) (zac rfl (zac rfl (za4 rfl (za4 rfl (za4 rfl (za4 rfl (za4 rfl (za4 rfl (zac rfl (zac rfl (za4 rfl (za4 rfl (za4 rfl (za4 rfl (za4 rfl (za4 rfl (zac rfl (zad (zai (za5 rfl (zag (zab ?_)))))))))))))))))))))))))))))
  refine zac rfl (zad (zai ?_))
  (refine za7 ?_; repeat (first | refine zbc ?_ | refine zbe ?_))
  exact zb6 (.inr rfl) rfl (congrArg eB (by rw [hR2]; rfl))
 rw [decide_eq_false hmem] at hat
 by_cases hq : q < 0 ∨ 1073741824 < q
 ·
  rw [if_pos (.inr (.inr hq))] at hR2
  refine zab (zac rfl ?_)
  refine za3 rfl rfl (zaa rfl) (zbp rfl rfl rfl) (fun h63 => ?_) (fun h63 => ?_)
  all_goals refine zac rfl ?_
  all_goals (first | refine zac rfl ?_ | refine za4 rfl ?_)
  all_goals (first | refine zac rfl ?_ | refine za4 rfl ?_)
  all_goals (first | refine zaf rfl rfl (zat rfl rfl rfl) (zam rfl rfl (hkp) (zae rfl zap)) ?_ | refine za4 rfl ?_)
  all_goals (first | refine zaf rfl rfl (zat rfl rfl rfl) (zin rfl zum tK9 rfl rfl ⟨rfl, rfl, rfl⟩ rfl (keyOf_string_mk tn9 hks) ti4 (plainElem_bool tn4 _) hat) ?_ | refine za4 rfl ?_)
  all_goals refine zac rfl (zac rfl ?_)
  all_goals (first | refine zbz zbh rfl ?_ | refine za4 rfl ?_)
  all_goals (first | refine zbu ta29 rfl ?_ | refine za4 rfl ?_)
  all_goals (first | refine zac rfl ?_ | refine za4 rfl ?_)
  all_goals (first | refine zaf rfl rfl (zat rfl rfl rfl) (zal rfl ts29 ti3 rfl rfl rfl hip rfl) ?_ | refine za4 rfl ?_)
  all_goals (first | refine zbu ta3 rfl ?_ | refine za4 rfl ?_)
  all_goals (first | refine za3 rfl rfl (zat rfl rfl rfl) (za2 rfl rfl rfl) (fun h76 => ?_) (fun h76 => ?_) | refine za4 rfl ?_)
  all_goals refine zac rfl (zac rfl ?_)
  all_goals (first | refine zbz zbh rfl ?_ | refine za4 rfl ?_)
  all_goals (first | refine zbu ta29 rfl ?_ | refine za4 rfl ?_)
  all_goals (first | refine zac rfl ?_ | refine za4 rfl ?_)
  all_goals (first | refine zaf rfl rfl (zat rfl rfl rfl) (zal rfl ts29 ti3 rfl rfl rfl hip rfl) ?_ | refine za4 rfl ?_)
  all_goals (first | refine zbu ta3 rfl ?_ | refine za4 rfl ?_)
  all_goals (first | refine za3 rfl rfl (zat rfl rfl rfl) (zb0 rfl rfl rfl) (fun h84 => ?_) (fun h84 => ?_) | refine za4 rfl ?_)
  all_goals refine zac rfl (zad (zai ?_))
  all_goals (first | refine za5 rfl ?_ | refine zau rfl ?_)
  all_goals (repeat (first | refine zag ?_ | refine zai ?_ | refine zar ?_))
  all_goals first
   | (exfalso; omega)
   |
    refine zab (zac rfl (zad (zai ?_)))
    (refine za7 ?_; repeat (first | refine zbc ?_ | refine zbe ?_))
    exact zb6 (.inr rfl) rfl (congrArg eB (by rw [hR2]; rfl))
 rw [if_neg (by rintro (h | h | h); exact absurd hst (by rw [h]; decide); exact hmem h; exact hq h)] at hR2
 refine zab (zac rfl ?_)
 refine za3 rfl rfl (zaa rfl) (zbp rfl rfl rfl) (fun h63 => ?_) (fun h63 => ?_)
 all_goals refine zac rfl ?_
 all_goals (first | refine zac rfl ?_ | refine za4 rfl ?_)
 all_goals (first | refine zac rfl ?_ | refine za4 rfl ?_)
 all_goals (first | refine zaf rfl rfl (zat rfl rfl rfl) (zam rfl rfl (hkp) (zae rfl zap)) ?_ | refine za4 rfl ?_)
 all_goals (first | refine zaf rfl rfl (zat rfl rfl rfl) (zin rfl zum tK9 rfl rfl ⟨rfl, rfl, rfl⟩ rfl (keyOf_string_mk tn9 hks) ti4 (plainElem_bool tn4 _) hat) ?_ | refine za4 rfl ?_)
 all_goals refine zac rfl (zac rfl ?_)
 all_goals (first | refine zbz zbh rfl ?_ | refine za4 rfl ?_)
 all_goals (first | refine zbu ta29 rfl ?_ | refine za4 rfl ?_)
 all_goals (first | refine zac rfl ?_ | refine za4 rfl ?_)
 all_goals (first | refine zaf rfl rfl (zat rfl rfl rfl) (zal rfl ts29 ti3 rfl rfl rfl hip rfl) ?_ | refine za4 rfl ?_)
 all_goals (first | refine zbu ta3 rfl ?_ | refine za4 rfl ?_)
 all_goals (first | refine za3 rfl rfl (zat rfl rfl rfl) (za2 rfl rfl rfl) (fun h76 => ?_) (fun h76 => ?_) | refine za4 rfl ?_)
 all_goals refine zac rfl (zac rfl ?_)
 all_goals (first | refine zbz zbh rfl ?_ | refine za4 rfl ?_)
 all_goals (first | refine zbu ta29 rfl ?_ | refine za4 rfl ?_)
 all_goals (first | refine zac rfl ?_ | refine za4 rfl ?_)
 all_goals (first | refine zaf rfl rfl (zat rfl rfl rfl) (zal rfl ts29 ti3 rfl rfl rfl hip rfl) ?_ | refine za4 rfl ?_)
 all_goals (first | refine zbu ta3 rfl ?_ | refine za4 rfl ?_)
 all_goals (first | refine za3 rfl rfl (zat rfl rfl rfl) (zb0 rfl rfl rfl) (fun h84 => ?_) (fun h84 => ?_) | refine za4 rfl ?_)
 all_goals refine zac rfl (zad (zai ?_))
 all_goals (first | refine za5 rfl ?_ | refine zau rfl ?_)
 all_goals (repeat (first | refine zag ?_ | refine zai ?_ | refine zar ?_))
 all_goals first
  | (exfalso; omega)
  | skip
 rw [← htk] at hR2
 refine zab (zac rfl (zac rfl (zaf rfl rfl (zaa rfl) (zam rfl rfl (hkp) (zae rfl zap)) ?_)))
 refine zba rfl (zaa rfl) (zf4 (.inl rfl) zum tK9 rfl rfl ⟨rfl, rfl, rfl⟩ (by show (p.st.take k).length < maxLen; rw [List.length_take]; unfold maxLen; omega) rfl rfl (keyOf_string_mk tn9 (by first | assumption | (unfold maxLen; omega))) (plainElem_bool tn4 _)) ?_
 refine zad (zbl (zai (zab (zaf rfl rfl (zaa rfl) (zax rfl rfl rfl (IntWalk.i64_in _ (by omega))) (zac rfl (zad (zai ?_)))))))
 exact ⟨k + 1, ⟨by omega, fun y hy => by
  rw [htk] at hy
  rcases List.mem_append.1 hy with hy | hy
  ·
   exact hok y hy
  ·
   simp at hy; subst hy; exact hsk, hR2⟩, by omega, zb8 [0] (by decide) ⟨⟨_, rfl, zh5 (by rw [htk]; exact (zuu P _ s).symm)⟩, trivial⟩ ⟨.lo _ (lo_W w), .lo _ hln, .lo _ hlp, .mp 0 0 rfl, .lo _ (zgm _), .lo _ (.s _), .lo _ (.s _), trivial⟩⟩
end Aw
namespace Aw
open Go Go.RowKit Go.Proofs Go.Maps Go.WideMaps Dl
def poD (L : List (List Int × Int)) : DataW Unit := L.foldl (fun D x => D.put (.string (keyD x.1)) (.lit (.int .i64 x.2))) (.map [])
theorem zki (L : List (List Int × Int)) (x : List Int × Int) : poD (L ++ [x]) = (poD L).put (.string (keyD x.1)) (.lit (.int .i64 x.2)) := by unfold poD; rw [List.foldl_append]; rfl
theorem zvk : ∀ (k : Nat) (L : List (List Int × Int)), L.length = k → IsMap (poD L)
 | 0, S, h => by rw [List.eq_nil_of_length_eq_zero h]; exact isMap_empty
 | k + 1, S, h => by
  have hne : S ≠ [] := fun e => by rw [e] at h; simp at h
  rw [← List.dropLast_concat_getLast hne, zki]
  exact (zvk k S.dropLast (by simp [h])).put _ _
theorem zz9 {x : List Int} (hx : Small x) : ∀ (k : Nat) (L : List (List Int × Int)), L.length = k → (∀ y ∈ L, Small y.1) → (∀ y ∈ L, y.1 ≠ x) → Maps.has (poD L) (.string (keyD x)) = false
 | 0, S, h, _, _ => by rw [List.eq_nil_of_length_eq_zero h]; rfl
 | k + 1, S, h, hs, hn => by
  have hne : S ≠ [] := fun e => by rw [e] at h; simp at h
  have e := List.dropLast_concat_getLast hne
  have hl : S.getLast hne ∈ S := List.getLast_mem hne
  rw [← e, zki, has_put_other (zln hx (hs _ hl) (fun e => hn _ hl e.symm))]
  exact zz9 hx k S.dropLast (by simp [h]) (fun y hy => hs y (List.dropLast_subset _ hy)) (fun y hm => hn y (List.dropLast_subset _ hm))
theorem zvj {x : List Int} {q : Int} (hx : Small x) : ∀ (k : Nat) (L : List (List Int × Int)), L.length = k → (∀ y ∈ L, Small y.1) → (L.map Prod.fst).Nodup → (x, q) ∈ L → Maps.has (poD L) (.string (keyD x)) = true ∧ ∀ z, (poD L).atKey (.string (keyD x)) z = .lit (.int .i64 q)
 | 0, S, h, _, _, hm => by rw [List.eq_nil_of_length_eq_zero h] at hm; simp at hm
 | k + 1, S, h, hs, hnd, hm => by
  have hne : S ≠ [] := fun e => by rw [e] at h; simp at h
  have e := List.dropLast_concat_getLast hne
  have hl : S.getLast hne ∈ S := List.getLast_mem hne
  generalize S.getLast hne = y at e hl
  generalize hS : S.dropLast = T at e
  have hTl : T.length = k := by rw [← hS]; simp [h]
  subst e
  have hiM := zvk k T hTl
  rw [List.map_append, List.nodup_append] at hnd
  rw [zki]
  rcases List.mem_append.1 hm with hmT | hmy
  ·
   have hk : x ≠ y.1 := fun e => hnd.2.2 x (List.mem_map.2 ⟨_, hmT, rfl⟩) y.1 (by simp) e
   obtain ⟨h1, h2⟩ := zvj hx k T hTl (fun z hz => hs z (List.mem_append_left _ hz)) hnd.1 hmT
   have hkk := zln hx (hs y hl) hk
   refine ⟨by rw [has_put_other hkk]; exact h1, fun z => ?_⟩
   rw [atKey_put_other hkk, h2]
  ·
   simp at hmy
   subst hmy
   exact ⟨has_put_same hiM (show WideAt.IsKeyLit (.string _) from trivial) _, fun z => atKey_put_same hiM (show WideAt.IsKeyLit (.string _) from trivial) _ _⟩
def poX (P : Program) (L : List (List Int × Int)) : MapX := ⟨P, 9, 3, L.length, poD L⟩
theorem zsa (P : Program) (L : List (List Int × Int)) (x : List Int × Int) : poX P (L ++ [x]) = { poX P L with n := (poX P L).n + 1, D := (poX P L).D.put (.string (keyD x.1)) (.lit (.int .i64 x.2)) } := by
 unfold poX
 rw [zki]
 simp
def stC (P : Program) (n : Net) (w : List ByteArray) (p : Prf) (e : List Int) (L : List (List Int × Int)) : List Ob := [.row 10 [.agg (ckC n w p e ++ [.mp 1])], .mp (poX P L)]
theorem zzw {q : Int} (h : 0 ≤ q ∧ q ≤ 1073741824) : (Lit.int .i64 q).wf = true := by
 unfold Lit.wf
 rw [Bool.and_eq_true]
 exact ⟨decide_eq_true (by show (-9223372036854775808 : Int) ≤ _; omega), decide_eq_true (by show _ ≤ (9223372036854775807 : Int); omega)⟩
namespace K0
variable {P : Program} [IsP P]
set_option maxHeartbeats 2000000 in
theorem check_ce (n : Net) (w : List ByteArray) (p : Prf) (hv : VD n w p) : CallE P 48 [eN n, eL eS w, ePf p] [] (.ptr 0 10 0 0) (stC P n w p (endE n w).1 (p.st.zip p.pots)) := by
 have hen := zww (P := P) n w
 have hln : Lo 0 (.ref (eN n).cells) := .ref _ (lo_N n).cells
 have hlp : Lo 0 (.ref (ePf p).cells) := ze2 p
 have hpl := hv.pl
 have hfw := hv.few
 generalize endE n w = e0 at hen ⊢
 refine callE_fn1 (by simp) (by rw [IsP.eq (P := P)]; exact Tryz.func48) rfl rfl (Nat.le_of_ble_eq_true rfl) rfl ?_
 simp only [argF]
 refine kw_seq (kw_region (kops_op rfl rfl (zaa rfl) (zb3 rfl rfl rfl rfl) (kops_op rfl rfl (zaa rfl) (zb3 rfl rfl rfl rfl) (kops_s rfl (kops_nil (kw_seq ?_))))))
 refine kw_weak (kwk_froz (id := 0) rfl) ?_
 refine kw_weak (kwk_ref (d := 3) rfl rfl rfl) ?_
 refine kw_weak (kwk_froz (id := 1) rfl) ?_
 refine kw_weak (kwk_ref (d := 5) rfl rfl rfl) ?_
 refine kw_region (kops_w ta24 ti24 rfl (kops_s rfl (kops_w ta32 ti32 rfl (kops_op rfl rfl (zaa rfl) (zh3 rfl zjf) (kops_op rfl rfl (zaa rfl) (za9 rfl ti142 tp142 rfl rfl) (kops_op rfl rfl (zaa rfl) (zb3 rfl rfl rfl rfl) (kops_s rfl (kops_nil (kw_seq ?_)))))))))
 refine kw_weak (F' := [(1, eL eS w), (3, .ref (eN n).cells), (5, .ref (ePf p).cells), (7, .ptr 0 10 0 0)]) (σ' := [.row 10 [.agg [eI n.places, eL eT n.trans, eI n.source, eI n.sink, eL eS w, eL (eL eI) p.st, eL eI p.pots, eL eF p.duals, .s (.slice none 0 0), .mp 1]], .mp (poX P [])])
  (kwk_st [3, 2] (by decide) ⟨⟨_, rfl, zc5 (.cons (.lo _ (.s _)) (.cons (.lo _ (zll n)) (.cons (.lo _ (.s _)) (.cons (.lo _ (.s _)) (.cons (.lo _ (lo_W w)) (.cons (.lo _ (zgm _)) (.cons (.lo _ lo_I) (.cons (.lo _ (zan fun a => zfe a)) (.cons (.lo _ (.s _)) (.cons (.mp _ _ rfl) .nil))))))))))⟩, ⟨_, rfl, zh5 rfl⟩, trivial⟩ ⟨.lo _ (lo_W w), .lo _ hln, .lo _ hlp, .ptr 3 0 10 0 0 rfl, trivial⟩) ?_
 refine kw_region (kops_s rfl (kops_w ta24 ti24 rfl (kops_s rfl (kops_op rfl rfl (zaa rfl) (zam rfl rfl (hen) (zae rfl (zae rfl zap))) (kops_s rfl (kops_s rfl (kops_s rfl (kops_s rfl (kops_f zjg rfl (kops_eff rfl (zaa rfl) (zaj rfl ti29 rfl rfl rfl rfl rfl rfl (by decide) (by decide)) (kops_nil (kw_seq (kw_seq (kw_region (kops_f zd6 rfl (kops_l ta28 rfl (kops_op rfl rfl (zaa rfl) (zao rfl ts28 rfl) (kops_s rfl (kops_nil (zai (kw_block ?_)))))))))))))))))))))
 refine kw_loops (S := Nat) (fun k => [(1, eL eS w), (3, .ref (eN n).cells), (5, .ref (ePf p).cells), (7, .ptr 0 10 0 0), (26, eL (eL eI) p.st), (27, eI p.st.length), (28, eI k)]) (fun k => stC P n w p e0.1 ((p.st.zip p.pots).take k)) (fun k => k ≤ p.st.length) (fun k => p.st.length - k) 0
  (kwk_sub ⟨rfl, rfl, rfl, rfl, rfl, rfl, rfl, trivial⟩) (Nat.zero_le _) (fun k hk => ?_)
 replace hk : k ≤ p.st.length := hk
 have hzl : (p.st.zip p.pots).length = p.st.length := by simp; omega
 refine kw_seq (kw_region ?_)
 refine kops_opP rfl rfl (zaa rfl) (za2 rfl rfl rfl) (fun h29 => ?_) (fun h29 => ?_)
 all_goals refine kops_nil (kw_seq ?_)
 all_goals (first | refine kw_true rfl ?_ | refine kw_false rfl ?_)
 all_goals (repeat (first | refine kw_seq ?_ | refine kw_skip ?_ | refine kw_block ?_))
 rotate_left 1
 ·
  have hke : k = p.st.length := by omega
  subst hke
  rw [List.take_of_length_le (by omega)]
  (refine kw_exit ?_; repeat (first | refine zcr ?_ | refine zbt ?_ | refine zbk rfl ?_ | refine zbl ?_ | refine zai ?_ | refine kw_seq ?_ | refine kw_skip ?_ | refine kw_block ?_))
  refine kw_region (kops_s rfl (kops_s rfl (kops_nil (zai ?_))))
  (refine kw_ret ?_; repeat (first | refine zbc ?_ | refine zbe ?_))
  exact ⟨.inr rfl, rfl, rfl⟩
 have hkt : k < p.st.length := by omega
 have hz : (p.st.zip p.pots)[k]? = some (gti p.st k, gti p.pots k) := by
  rw [List.getElem?_zip_eq_some]
  exact ⟨zdh hkt, zdh (by omega)⟩
 have htk : (p.st.zip p.pots).take (k + 1) = (p.st.zip p.pots).take k ++ [(gti p.st k, gti p.pots k)] := by rw [List.take_add_one, hz]; rfl
 have his : (p.st.map (eL eI))[k]? = some (eL eI (gti p.st k)) := zbb hkt
 have hip : (p.pots.map eI)[k]? = some (eI (gti p.pots k)) := zbb (by omega)
 have hok := hv.ok _ (gti_mem hkt)
 have hpb := hv.pb _ (gti_mem (l := p.pots) (k := k) (by omega))
 generalize gti p.st k = s at his hok htk
 generalize gti p.pots k = q at hip hpb htk
 have hkp := zio (P := P) hok
 have hks := zil hok
 have hwf := zzw hpb
 refine kw_region (kops_s rfl (kops_op rfl rfl (zaa rfl) (zal rfl ts28 ti29 rfl rfl rfl his rfl) (kops_l ta29 rfl (kops_s rfl (kops_s rfl (kops_nil (zai ?_)))))))
 refine kw_draw hmix ?_
 refine kdraw_ex ?_
 refine ex_s rfl (ex_s rfl (ex_f zna rfl (zbv rfl rfl (zaa rfl) (zbr rfl zx3 rfl rfl rfl rfl rfl) (ex_s rfl (zay rfl rfl (zaa rfl) (fun _ => (zam rfl rfl (hkp) (zae rfl zap))) (ex_f zbh rfl (ex_l ta29 rfl (ex_s rfl (zay rfl rfl (zaa rfl) (fun _ => (zal rfl ts29 ti3 rfl rfl rfl hip rfl)) (ex_l ta3 rfl ?_))))))))))
 refine zci rfl (zaa rfl) (zf4 (.inl rfl) zjf tK9 rfl rfl ⟨rfl, rfl, rfl⟩ (by show ((p.st.zip p.pots).take k).length < maxLen; rw [List.length_take]; unfold maxLen; omega) rfl rfl (keyOf_string_mk tn9 (by first | assumption | (unfold maxLen; omega))) (plainElem_int tn3 (by first | rfl | assumption))) (fun _ h => zbw h) ?_
 refine zcf (by kernel_rfl) ?_
 refine zbl (zai (kw_region (kops_op rfl rfl (zaa rfl) (zax rfl rfl rfl (IntWalk.i64_in _ (by omega))) (kops_s rfl (kops_nil (zai ?_))))))
 exact ⟨k + 1, by omega, by omega, kwk_st [0, 1] (by decide) ⟨⟨_, rfl, zc5 (.cons (.lo _ (.s _)) (.cons (.lo _ (zll n)) (.cons (.lo _ (.s _)) (.cons (.lo _ (.s _)) (.cons (.lo _ (lo_W w)) (.cons (.lo _ (zgm _)) (.cons (.lo _ lo_I) (.cons (.lo _ (zan fun a => zfe a)) (.cons (.lo _ lo_I) (.cons (.mp _ _ rfl) .nil))))))))))⟩, ⟨_, rfl, zh5 (by rw [htk]; exact (zsa P _ (s, q)).symm)⟩, trivial⟩ ⟨.lo _ (lo_W w), .lo _ hln, .lo _ hlp, .ptr 0 0 10 0 0 rfl, .lo _ (zgm _), .lo _ (.s _), .lo _ (.s _), trivial⟩⟩
end K0
end Aw
namespace Aw
open Go Go.RowKit Go.Proofs Go.Maps Go.WideMaps Dl
section
variable {P : Program} [IsP P]
inductive Wn : AV → AV → Prop
 | refl (x : AV) : Wn x x
 | nil : Wn (.s (.slice none 0 0)) (.sl [])
 | emp : Wn .emp (.sl [])
 | agg (cs cs' : List AV) (hl : cs.length = cs'.length) (h : ∀ (j : Nat) x y, cs[j]? = some x → cs'[j]? = some y → Wn x y) : Wn (.agg cs) (.agg cs')
 | tup (cs cs' : List AV) (hl : cs.length = cs'.length) (h : ∀ (j : Nat) x y, cs[j]? = some x → cs'[j]? = some y → Wn x y) : Wn (.tup cs) (.tup cs')
theorem Wn.one {x y : AV} (h : Wn x y) (hx : x.one = true) : y.one = true := by
 cases h <;> first | exact hx | rfl | (simp [AV.one] at hx)
theorem rep_wn {G : Cx} {x y : AV} (h : Wn x y) : ∀ {v : Value}, Rep G v x → Rep G v y := by
 induction h with
 | refl x => exact fun h => h
 | nil => exact fun h => zu3 h
 | emp => intro v h; cases h with | emp A hA => exact .slnil A 0
 | agg cs cs' hl h ih =>
  intro v hv
  cases hv with
  | agg vs _ g1 g2 g3 =>
   refine .agg vs cs' (g1.trans hl) (fun c hc => ?_) (fun j v c hv hc => ?_)
   ·
    obtain ⟨j, hj, rfl⟩ := List.mem_iff_getElem.1 hc
    exact (h j _ _ (List.getElem?_eq_getElem (by omega)) (List.getElem?_eq_getElem hj)).one (g2 _ (List.getElem_mem (by omega)))
   ·
    have hj : j < cs.length := by rw [hl]; exact (List.getElem?_eq_some_iff.1 hc).1
    exact ih j _ c (List.getElem?_eq_getElem hj) hc (g3 j v _ hv (List.getElem?_eq_getElem hj))
 | tup cs cs' hl h ih =>
  intro v hv
  cases hv with
  | tup vs _ g1 g3 =>
   refine .tup vs cs' (g1.trans hl) (fun j v c hv hc => ?_)
   have hj : j < cs.length := by rw [hl]; exact (List.getElem?_eq_some_iff.1 hc).1
   exact ih j _ c (List.getElem?_eq_getElem hj) hc (g3 j v _ hv (List.getElem?_eq_getElem hj))
def WnL (l l' : List AV) : Prop := l.length = l'.length ∧ ∀ (j : Nat) x y, l[j]? = some x → l'[j]? = some y → Wn x y
theorem WnL.nil : WnL [] [] := ⟨rfl, by simp⟩
theorem WnL.cons {x y : AV} {l l' : List AV} (h : Wn x y) (t : WnL l l') : WnL (x :: l) (y :: l') := by
 refine ⟨by simp [t.1], fun j a b ha hb => ?_⟩
 cases j with
 | zero => simp at ha hb; subst ha hb; exact h
 | succ j => exact t.2 j a b (by simpa using ha) (by simpa using hb)
theorem WnL.agg {l l' : List AV} (h : WnL l l') : Wn (.agg l) (.agg l') := .agg _ _ h.1 h.2
theorem WnL.tup {l l' : List AV} (h : WnL l l') : Wn (.tup l) (.tup l') := .tup _ _ h.1 h.2
theorem K2.callE_fnW {σ σ' : List Ob} {f : FuncId} {y : AV} {args : List AV} {fn : Func} {c : Code} (hl : σ.length = 2) (hl' : σ'.length = 2) (ho : ∀ ob ∈ σ', ObLo 2 ob) (hy : Lo 2 y) (hf : P.funcs[f]? = some fn) (hname : (fn.name == "runtime.NumGoroutine") = false) (hb : fn.body = some c) (hn : args.length ≤ fn.ntmps)
  (h : K2.KWp P fn.ntmps c (argF 0 args) σ (fun e F σ1 => (e = .normal ∨ e = .ret) ∧ ∃ X xs, σ1 = σ' ++ X ∧ ResL P F σ1 fn.results.toList xs ∧ Wn (zkb xs) y)) : CallE P f args σ y σ' := by
 refine ⟨zfh hf hname hb, fun G vargs hrel hsz hrep => ?_⟩
 refine calls_of_wp hf hb ?_
 have hfo : FOk G { tmps := vargs ++ Array.replicate (fn.ntmps - vargs.size) undef, defers := [] } (argF 0 args) := by
  intro d
  rw [zgd]
  simp only [Nat.zero_le, if_true, Nat.sub_zero]
  by_cases hd : d < args.length
  ·
   have h1 : (vargs ++ Array.replicate (fn.ntmps - vargs.size) undef).getD d undef = vargs[d]'(by omega) := by
    rw [Array.getD_eq_getD_getElem?, Array.getElem?_append_left (by omega)]
    simp [show d < vargs.size by omega]
   rw [h1]
   have h2 : args.getD d .any = args[d] := by rw [List.getD_eq_getElem?_getD, List.getElem?_eq_getElem hd]; rfl
   rw [h2]
   exact hrep d _ _ (by simp [show d < vargs.size by omega]) (by simp [hd])
  ·
   have h2 : args.getD d .any = .any := by
    rw [List.getD_eq_getElem?_getD, List.getElem?_eq_none (by omega)]; rfl
   rw [h2]; exact .any _
 have hs8 : S8 fn.ntmps G { tmps := vargs ++ Array.replicate (fn.ntmps - vargs.size) undef, defers := [] } (argF 0 args) σ := ⟨hrel, hfo, .nil, by simp; omega⟩
 refine Code.wp_mono (fun e a w q => ?_) (h G _ hs8)
 obtain ⟨G', F', σ1, rfl, h2, h3, he, X, xs, rfl, hrl, hw⟩ := q
 obtain ⟨v, h6, h7⟩ := zdk (fn := fn) h3.rel h3.fr hrl
 replace h7 := rep_wn hw h7
 have hext : G.Ext (G'.cut 2) := ⟨h2.step.base, h2.step.w0, h2.step.st, h2.step.cell, fun id x hx => by
  by_cases hid : id < 2
  ·
   have := h2.mu0 id x hid hx
   simp only [Cx.cut, if_pos hid]; exact this
  ·
   rw [hrel.fresh id (by omega)] at hx; exact absurd hx (by simp), h2.size, h2.rows, h2.step.stN, h2.step.pr, h2.step.prN, h2.step.oth⟩
 have htk : (σ' ++ X).take 2 = σ' := by rw [List.take_append_of_le_length (by omega), List.take_of_length_le (by omega)]
 have hrel' : Rel (G'.cut 2) σ' := by
  have := zrj (k := 2) h3.rel (by rw [List.length_append]; omega) (by rw [htk]; exact ho)
  rwa [htk] at this
 have post : ∃ (v' : Value) (G'' : Cx), Ending.returned v = .returned v' ∧ G''.w = G'.w ∧ G.Ext G'' ∧ Rel G'' σ' ∧ Rep G'' v' y := ⟨v, G'.cut 2, rfl, rfl, hext, hrel', h7.low hy (fun _ _ h => h) (fun _ _ _ => rfl) (fun id y hid hy => by simp only [Cx.cut, if_pos hid]; exact hy) (fun _ => zcc.refl _)⟩
 rcases he with rfl | rfl
 ·
  exact ⟨h3.df.1, _, h6, post⟩
 ·
  exact ⟨h3.df.1, _, h6, post⟩
theorem zqr {n : Net} {w : List ByteArray} {p : Prf} {e : List Int} {f : FuncId} {args : List AV} {r : AV} {id : Nat} (h : ∀ v, Pure P f (ckR n w p e (.s v) :: args) r) : Pure P f (ckR n w p e (.mp id) :: args) r := by
 refine ⟨(h undef).ent, (h undef).lo, fun G vargs hst hsz hrep => ?_⟩
 have h0 : (vargs.size : Nat) = args.length + 1 := by rw [hsz]; rfl
 have h1 := hrep 0 (vargs[0]'(by omega)) (ckR n w p e (.mp id)) (by rw [Array.getElem?_eq_getElem (by omega)]) rfl
 have key : ∃ v, Rep G (vargs[0]'(by omega)) (ckR n w p e (.s v)) := by
  generalize vargs[0]'(by omega) = u at h1
  unfold ckR at h1
  cases h1 with
  | ref b o cs val g1 g2 g3 =>
   refine ⟨val 9, .ref b o _ val ?_ (fun j c hc => ?_) (fun j c hc => ?_)⟩
   ·
    intro c hc
    rcases List.mem_append.1 hc with hc | hc
    ·
     exact g1 c (List.mem_append_left _ hc)
    ·
     have h9 := g3 9 (.mp id) rfl
     simp only [List.mem_singleton] at hc
     generalize val 9 = x at h9 hc
     subst hc
     cases h9
     rfl
   ·
    have hj : j < 10 := (List.getElem?_eq_some_iff.1 hc).1
    exact g2 j _ (List.getElem?_eq_getElem (by exact hj))
   ·
    have hj : j < 10 := (List.getElem?_eq_some_iff.1 hc).1
    by_cases h9 : j = 9
    ·
     subst h9
     have : c = .s (val 9) := (Option.some.inj hc).symm
     subst this
     exact .s _
    ·
     have hj9 : j < (ckC n w p e).length := by show j < 9; omega
     rw [List.getElem?_append_left hj9] at hc
     exact g3 j c (by rw [List.getElem?_append_left hj9]; exact hc)
 obtain ⟨v, hv⟩ := key
 refine (h v).call G vargs hst (by rw [hsz]; rfl) (fun j u x hu hx => ?_)
 cases j with
 | zero =>
  cases hx
  rw [Array.getElem?_eq_getElem (by omega)] at hu
  cases hu
  exact hv
 | succ j => exact hrep (j + 1) u x hu hx
theorem zjk {ρ : List Nat} {n : Net} {w : List ByteArray} {p : Prf} {e : List Int} (h1 : ρ[1]? = some 1) : ObRn ρ (.row 10 [.agg (ckC n w p e ++ [.mp 1])]) (.row 10 [.agg (ckC n w p e ++ [.mp 1])]) :=
 zc5 (.cons (.lo _ (.s _)) (.cons (.lo _ (zll n)) (.cons (.lo _ (.s _)) (.cons (.lo _ (.s _)) (.cons (.lo _ (lo_W w)) (.cons (.lo _ (zgm _)) (.cons (.lo _ lo_I) (.cons (.lo _ (zan fun a => zfe a)) (.cons (.lo _ lo_I) (.cons (.mp _ _ h1) .nil))))))))))
theorem zx4 {n : Net} {w : List ByteArray} {p : Prf} {e : List Int} {L : List (List Int × Int)} : ∀ ob ∈ stC P n w p e L, ObLo 2 ob := by
 intro ob hob
 simp only [stC, List.mem_cons, List.not_mem_nil, or_false] at hob
 rcases hob with rfl | rfl
 ·
  intro c hc
  simp only [List.mem_singleton] at hc
  subst hc
  exact .agg _ (zah (.s _) (zah (zan fun t => lo_T t) (zah (.s _) (zah (.s _) (zah (lo_W w) (zah (zgm _) (zah lo_I (zah (zan fun a => zfe a) (zah lo_I (zah (.mp _ (by decide)) zak))))))))))
 ·
  trivial
theorem zip_nd {α β : Type} : ∀ {a : List α} {b : List β}, b.length = a.length → (a.zip b).map Prod.fst = a := fun {a b} h => by rw [List.map_fst_zip (by omega)]
theorem zwd {p : Prf} {s : List Int} (hl : p.pots.length = p.st.length) (hf : ¬ zef p.st s < 0) : (s, gti p.pots (idx p.st s)) ∈ p.st.zip p.pots := by
 obtain ⟨p1, p2, p3⟩ := zhb hf
 refine List.mem_of_getElem? (i := idx p.st s) ?_
 rw [List.getElem?_zip_eq_some]
 exact ⟨p1, zdh (by omega)⟩
end
namespace K2
variable {P : Program} [IsP P]
theorem z0h {A X : List Ob} {F : Frm} {ad u : Nat} {id : Nat} {ob : Ob} {cs : List AV} {x : FE} (hp : F.get ad = .ptr id 2 0 0) (hs : (A ++ X)[id]? = some ob) (ho : ze7 ob = some (2, cs)) (hk : cs[0]? = some (.agg [eI x.n, eI x.d])) (hu : F.get u = eI x.e) :
  ∃ Y xs, A ++ X = A ++ Y ∧ ResL P F (A ++ X) [.cell ad 56, .tmp u] xs ∧ Wn (zkb xs) (eFE x) :=
 ⟨X, _, rfl, .cons _ _ _ _ (.cells ad _ id 2 0 _ _ _ ob cs (.agg [eI x.n, eI x.d]) ta56 ti56 hp hs ho hk rfl) (.cons _ _ _ _ (.tmp u _ hu) .nil), .refl _⟩
set_option maxHeartbeats 1000000 in
theorem potential_ce (n : Net) (w : List ByteArray) (p : Prf) (s : List Int) (hv : VD n w p) (hs : okS n w s) :
  CallE P 52 [.ptr 0 10 0 0, eL eI s] (stC P n w p (endE n w).1 (p.st.zip p.pots)) (eFE (potX n w p s)) (stC P n w p (endE n w).1 (p.st.zip p.pots)) := by
 have hlin : Pure P 101 [ckR n w p (endE n w).1 (.mp 1), eL eI s] (eFE (linX n w p s)) :=
  zqr (fun v => zpg n w p _ s v ⟨hs.len.1, hs.len.2.1⟩ (by have h1 := hv.end_ok.len; have h2 := hs.len; omega) hv.wl hs.small hv.end_ok.small)
 have hkp := zio (P := P) hs
 have hks := zil hs
 have hsms : ∀ y ∈ p.st.zip p.pots, Small y.1 := fun y hy => (hv.ok _ (List.of_mem_zip hy).1).small
 have hpx : potX n w p s = if zef p.st s < 0 then linX n w p s else ⟨gti p.pots (idx p.st s), 1, 0⟩ := rfl
 have hno : zef p.st s < 0 → Maps.has (poD (p.st.zip p.pots)) (.string (keyD s)) = false := fun hf => zz9 hs.small _ _ rfl hsms (fun y hy e => zf3.1 hf (e ▸ (List.of_mem_zip hy).1))
 have hye : ¬ zef p.st s < 0 → Maps.has (poD (p.st.zip p.pots)) (.string (keyD s)) = true ∧ ∀ z, (poD (p.st.zip p.pots)).atKey (.string (keyD s)) z = .lit (.int .i64 (gti p.pots (idx p.st s))) := fun hf => zvj hs.small _ _ rfl hsms (by rw [zip_nd hv.pl]; exact hv.nd) (zwd hv.pl hf)
 have hwh := zer (P := P) (gti p.pots (idx p.st s))
 have hpb : ¬ zef p.st s < 0 → 0 ≤ gti p.pots (idx p.st s) ∧ gti p.pots (idx p.st s) ≤ 1073741824 := fun hf => hv.pb _ (List.of_mem_zip (zwd hv.pl hf)).2
 generalize endE n w = e0 at hlin ⊢
 generalize p.st.zip p.pots = Z at hno hye ⊢
 generalize gti p.pots (idx p.st s) = q at hye hwh hpb hpx
 generalize linX n w p s = L at hlin hpx
 rw [hpx]
 refine callE_fnW rfl rfl zx4 (by split <;> exact .tup _ (zah (.agg _ (zah (.s _) (zah (.s _) zak))) (zah (.s _) zak))) (by rw [IsP.eq (P := P)]; exact Tryz.func52) rfl rfl (Nat.le_of_ble_eq_true rfl) ?_
 simp only [argF, stC]
 refine kw_seq (kw_region (kops_op rfl rfl (zaa rfl) (za1 rfl ti56 rfl rfl) (kops_s rfl (kops_nil (kw_seq (kw_seq ?_))))))
 by_cases hf : zef p.st s < 0
 ·
  rw [if_pos hf]
  have h1 := hno hf
  refine kw_draw hmix ?_
  refine kdraw_ex ?_
  refine ex_s rfl (ex_s rfl (ex_f zna rfl (zbv rfl rfl (zaa rfl) (zbr rfl zx3 rfl rfl rfl rfl rfl) (ex_s rfl (zay rfl rfl (zaa rfl) (fun _ => (zam rfl rfl (hkp) (zae rfl zap))) ?_)))))
  refine zbv rfl rfl (zaa rfl) (zli rfl zjf tK9 rfl rfl ⟨rfl, rfl, rfl⟩ rfl (keyOf_string_mk tn9 hks) ti3 (plainElem_int tn3 rfl) (by exact atKey_of_not_has h1 _) h1) ?_
  refine ex_s rfl (ex_s rfl (ex_s rfl (ex_s rfl (ex_s rfl ?_))))
  refine zcf (by kernel_rfl) ?_
  refine kw_seq (kw_region (kops_s rfl (kops_nil (zai (kw_false rfl (kw_skip (kw_seq (kw_region (kops_s rfl (kops_s rfl ?_))))))))))
  refine kops_op rfl rfl (zaa rfl) (zcv rfl rfl hlin (zbd.cons (.ptr 0 10 0 _ _ (.agg (ckC n w p e0.1 ++ [.mp 1])) rfl rfl rfl) (zbd.cons (.refl _) zbd.nil)) (by repeat' (first | exact Flat.s _ | exact zfn | refine ze4 ?_ ?_ | refine Flat.agg ?_ | refine Flat.tup ?_))) ?_
  refine kops_s rfl (kops_s rfl (kops_eff rfl (zaa rfl) (zaj rfl ti56 rfl rfl rfl rfl rfl rfl (by decide) (by decide)) (kops_s rfl (kops_nil (zai ?_)))))
  (refine kw_ret ?_; repeat (first | refine zbc ?_ | refine zbe ?_))
  exact ⟨.inr rfl, z0h (A := stC P n w p e0.1 Z) rfl rfl rfl rfl rfl⟩
 rw [if_neg hf]
 obtain ⟨h1, h2⟩ := hye hf
 have hb := hpb hf
 refine kw_draw hmix ?_
 refine kdraw_ex ?_
 refine ex_s rfl (ex_s rfl (ex_f zna rfl (zbv rfl rfl (zaa rfl) (zbr rfl zx3 rfl rfl rfl rfl rfl) (ex_s rfl (zay rfl rfl (zaa rfl) (fun _ => (zam rfl rfl (hkp) (zae rfl zap))) ?_)))))
 refine zbv rfl rfl (zaa rfl) (zli rfl zjf tK9 rfl rfl ⟨rfl, rfl, rfl⟩ rfl (keyOf_string_mk tn9 hks) ti3 (plainElem_int tn3 rfl) (by exact h2 _) h1) ?_
 refine ex_s rfl (ex_s rfl (ex_s rfl (ex_s rfl (ex_s rfl ?_))))
 refine zcf (by kernel_rfl) ?_
 refine kw_seq (kw_region (kops_s rfl (kops_nil (zai (kw_true rfl (kw_seq (kw_region (kops_s rfl (kops_op rfl rfl (zaa rfl) (zam rfl rfl (hwh) (zae rfl zap)) (kops_eff rfl (zaa rfl) (zaj rfl ti56 rfl rfl rfl rfl rfl rfl (by decide) (by decide)) (kops_s rfl (kops_nil (zai ?_)))))))))))))
 (refine kw_ret ?_; repeat (first | refine zbc ?_ | refine zbe ?_))
 exact ⟨.inr rfl, z0h (x := ⟨q, 1, 0⟩) (A := stC P n w p e0.1 Z) rfl rfl rfl rfl rfl⟩
end K2
end Aw
end Go.Proofs.YtjhdcgaiccnmeaaGreatDoor
