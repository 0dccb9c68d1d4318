import Derived.Test.YtohmldibkojkfaaGreatDoorJB36
import Derived.Test.YtohmldibkojkfaaGreatDoorJB29
import Derived.Test.YtohmldibkojkfaaGreatDoorJB31
import Derived.Test.YtohmldibkojkfaaGreatDoorJB13
import Derived.Test.YtohmldibkojkfaaGreatDoorJB35
import Derived.Test.YtohmldibkojkfaaGreatDoorJB25
import Derived.Test.YtohmldibkojkfaaGreatDoorJB17
import Derived.Test.YtohmldibkojkfaaGreatDoorJB37
set_option linter.unusedSimpArgs false
set_option linter.unusedVariables false
set_option linter.unusedSectionVars false
section
namespace Go.Proofs.YtohmldibkojkfaaGreatDoor.Aw
open Go Go.RowKit Go.Proofs Go.Maps Go.WideMaps Dl
variable {P : Program} [IsP P]
def keyZ (m : List Int) : ByteArray := ⟨(keyD m).toArray⟩
theorem zxd {m : List Int} (h : ∀ x ∈ m, 0 ≤ x ∧ x ≤ 255) : (keyZ m).size ≤ 4 * m.length := ztm h
theorem zrs {n : Net} {w : List ByteArray} {s : List Int} (h : okS n w s) : (keyZ s).size ≤ maxLen := by have := zxd h.small; have := h.len; unfold maxLen; omega
theorem lo_II {k : Nat} (l : List (List Int)) : Lo k (eL (eL eI) l) := za1 fun _ => lo_I
theorem lo_T {k : Nat} (t : Tr) : Lo k (eT t) := .agg _ (zaj (.s _) (zaj lo_I (zaj lo_I zar)))
theorem lo_N {k : Nat} (n : Net) : Lo k (eN n) := .agg _ (zaj (.s _) (zaj (za1 fun t => lo_T t) (zaj (.s _) (zaj (.s _) zar))))
theorem lo_W {k : Nat} (w : List ByteArray) : Lo k (eL eS w) := za1 fun _ => .s _
theorem zh8 (l : List (List Int)) : ∀ e ∈ l.map (eL eI), ∀ c ∈ e.cells, Lo 0 c := by
 intro e he c hc
 obtain ⟨x, _, rfl⟩ := List.mem_map.1 he
 simp [eL, AV.cells] at hc; subst hc; exact lo_I
theorem zeb (l : List Int) : ∀ e ∈ l.map eI, ∀ c ∈ e.cells, Lo 0 c := by
 intro e he c hc
 obtain ⟨x, _, rfl⟩ := List.mem_map.1 he
 simp [eI, AV.cells] at hc; subst hc; exact .s _
def atD (S : List (List Int)) : DataW Unit := S.zipIdx.foldl (fun D p => D.put (.string (keyD p.1)) (.lit (.int .i64 (p.2 : Nat)))) (.map [])
theorem zks (S : List (List Int)) (m : List Int) : atD (S ++ [m]) = (atD S).put (.string (keyD m)) (.lit (.int .i64 (S.length : Nat))) := by
 unfold atD
 rw [List.zipIdx_append, List.foldl_append]
 simp
theorem zye : ∀ (k : Nat) (S : List (List Int)), S.length = k → IsMap (atD S)
 | 0, S, h => by rw [List.eq_nil_of_length_eq_zero h]; exact isMap_empty
 | k + 1, S, h => by
  have hne : S ≠ [] := fun e => by rw [e] at h; simp at h
  rw [← List.dropLast_concat_getLast hne, zks]
  exact (zye k S.dropLast (by simp [h])).put _ _
def Small (m : List Int) : Prop := ∀ x ∈ m, 0 ≤ x ∧ x ≤ 255
theorem zxc {a b : List Int} (ha : Small a) (hb : Small b) (h : a ≠ b) : Lit.string (keyD a) ≠ Lit.string (keyD b) := fun e => h (ztn (fun x hx => (ha x hx).1) (fun x hx => (hb x hx).1) (by injection e))
theorem z1e {x : List Int} (hx : Small x) : ∀ (k : Nat) (S : List (List Int)), S.length = k → (∀ y ∈ S, Small y) → x ∉ S → Maps.has (atD S) (.string (keyD x)) = false
 | 0, S, h, _, _ => by rw [List.eq_nil_of_length_eq_zero h]; rfl
 | k + 1, S, h, hs, hn => by
  have hne : S ≠ [] := fun e => by rw [e] at h; simp at h
  have e := List.dropLast_concat_getLast hne
  have hl : S.getLast hne ∈ S := List.getLast_mem hne
  rw [← e, zks, has_put_other (zxc hx (hs _ hl) (fun e => hn (e ▸ hl)))]
  exact z1e hx k S.dropLast (by simp [h]) (fun y hy => hs y (List.dropLast_subset _ hy)) (fun hm => hn (List.dropLast_subset _ hm))
theorem zsj {x : List Int} (hx : Small x) : ∀ (k : Nat) (S : List (List Int)), S.length = k → (∀ y ∈ S, Small y) → S.Nodup → x ∈ S → Maps.has (atD S) (.string (keyD x)) = true ∧ ∀ z, (atD S).atKey (.string (keyD x)) z = .lit (.int .i64 (zdw S x))
 | 0, S, h, _, _, hm => by rw [List.eq_nil_of_length_eq_zero h] at hm; simp at hm
 | k + 1, S, h, hs, hnd, hm => by
  have hne : S ≠ [] := fun e => by rw [e] at h; simp at h
  have e := List.dropLast_concat_getLast hne
  have hl : S.getLast hne ∈ S := List.getLast_mem hne
  generalize S.getLast hne = y at e hl
  generalize hS : S.dropLast = T at e
  have hTl : T.length = k := by rw [← hS]; simp [h]
  subst e
  have hiM := zye k T hTl
  rw [zks]
  by_cases he : x = y
  ·
   subst he
   have hnT : x ∉ T := fun hT => by
    have := List.nodup_append.1 hnd
    exact this.2.2 x hT x (by simp) rfl
   refine ⟨has_put_same hiM (show WideAt.IsKeyLit (.string _) from trivial) _, fun z => ?_⟩
   rw [atKey_put_same hiM (show WideAt.IsKeyLit (.string _) from trivial), zlz hnT]
  ·
   have hmT : x ∈ T := by
    rcases List.mem_append.1 hm with h1 | h1
    ·
     exact h1
    ·
     simp at h1; exact absurd h1 he
   obtain ⟨h1, h2⟩ := zsj hx k T hTl (fun z hz => hs z (List.mem_append_left _ hz)) (List.nodup_append.1 hnd).1 hmT
   have hk := zxc hx (hs y hl) he
   refine ⟨by rw [has_put_other hk]; exact h1, fun z => ?_⟩
   rw [atKey_put_other hk, h2, zmi hmT]
def atX (P : Program) (S : List (List Int)) : MapX := ⟨P, 9, 3, S.length, atD S⟩
theorem zz6 (P : Program) (S : List (List Int)) (m : List Int) : atX P (S ++ [m]) = { atX P S with n := (atX P S).n + 1, D := (atX P S).D.put (.string (keyD m)) (.lit (.int .i64 (S.length : Nat))) } := by
 unfold atX
 rw [zks]
 simp
theorem zrk {ρ : List Nat} {X Y : MapX} (h : X = Y) : ObRn ρ (.mp X) (.mp Y) := by subst h; exact .mp X X.n (Nat.le_refl _)
end Go.Proofs.YtohmldibkojkfaaGreatDoor.Aw
end
section
namespace Go.Proofs.YtohmldibkojkfaaGreatDoor.Aw
open Go Go.RowKit Go.Proofs Go.Maps Go.WideMaps Dl
variable {P : Program} [IsP P]
theorem z3m (m : List Int) (hm : ∀ x ∈ m, 0 ≤ x ∧ x ≤ 255) (hl : m.length ≤ 1000) (hne : m ≠ []) : Pure P 121 [eL eI m] (eS (keyZ m)) :=
 zey (zhb (zdb Tryz.func121 rfl rfl) (.s _) fun G vargs hst hsz hrep => by
  obtain ⟨x, rfl, h1⟩ := z3h hst hsz hrep
  refine (z0c m _ _ x G.w h1 hm hl hne hst.tab hst.tab.lt).mono ?_
  rintro e w' ⟨rfl, hb⟩
  exact ⟨_, rfl, hb, .s _⟩)
theorem zsm {n : Net} {w : List ByteArray} {s : List Int} (h : okS n w s) : Pure P 121 [eL eI s] (eS (keyZ s)) := z3m s h.small (by have := h.len; omega) h.ne
def seE (n : Net) (w : List ByteArray) (c : Cst) (i j k m d p : Nat) (a b e f g : Nat) : AV :=
 .agg [eI n.places, eL eT n.trans, eI n.source, eI n.sink, eL eS w, eI c.log, eI c.model, eI c.silent, .own i 1 a, .own j 1 b, .own k 1 e, .own m 3 f, .own d 1 g, .mp p]
def stSr (P : Program) (n : Net) (w : List ByteArray) (c : Cst) (S : Sr) (q1 q2 : Ob) : List Ob :=
 [q1, q2, .row 14 [seE n w c 3 4 5 6 7 8 S.st.length S.co.length S.fr.length S.mv.length S.dn.length], .row 1 (S.st.map (eL eI)), .row 1 (S.co.map eI), .row 1 (S.fr.map eI), .row 3 (S.mv.map eSt), .row 1 (S.dn.map eB), .mp (atX P S.st)]
def stSn (P : Program) (n : Net) (w : List ByteArray) (c : Cst) (S : Sr) (q1 q2 : Ob) (y : List Int) (cy f : Int) (m : Stp) : List Ob :=
 [q1, q2, .row 14 [seE n w c 10 11 12 13 14 8 ((S.st.map (eL eI)).length + 1) ((S.co.map eI).length + 1) ((S.fr.map eI).length + 1) ((S.mv.map eSt).length + 1) ((S.dn.map eB).length + 1)], .dead, .dead, .dead, .dead, .dead, .mp (atX P (S.st ++ [y])),
  .row 3 [eSt m], .row 1 (S.st.map (eL eI) ++ [eL eI y]), .row 1 (S.co.map eI ++ [eI cy]), .row 1 (S.fr.map eI ++ [eI f]), .row 3 (S.mv.map eSt ++ [eSt m]), .row 1 (S.dn.map eB ++ [eB false])]
structure SOk (S : Sr) : Prop where
 l1 : S.co.length = S.st.length
 l2 : S.dn.length = S.st.length
 l3 : S.fr.length = S.st.length
 l4 : S.mv.length = S.st.length
 nd : S.st.Nodup
 big : S.st.length ≤ 500000
 sm : ∀ y ∈ S.st, Small y
theorem wf_big {k : Nat} (h : k ≤ 1000000) : (Lit.int .i64 (k : Nat)).wf = true := by
 unfold Lit.wf
 rw [Bool.and_eq_true]
 exact ⟨decide_eq_true (by show (-9223372036854775808 : Int) ≤ _; omega), decide_eq_true (by show _ ≤ (9223372036854775807 : Int); omega)⟩
set_option maxHeartbeats 4000000 in
theorem znb {n : Net} {w : List ByteArray} {c : Cst} {S : Sr} {q1 q2 : Ob} {y : List Int} {cy f : Int} {m : Stp} (h : SOk S) (hy : okS n w y) (hf : zdw S.st y < 0) :
  CallE P 92 [.ptr 2 14 0 0, eL eI y, eI cy, eI f, eSt m] (stSr P n w c S q1 q2) (.tup [eI S.st.length, eB true]) (stSn P n w c S q1 q2 y cy f m) := by
 obtain ⟨h1, h2, h3, h4, h5, h6, h7⟩ := h
 have hk := zsm (P := P) hy
 have hks := zrs hy
 have hno := z1e hy.small _ S.st rfl h7 (zhh.1 hf)
 refine zdz (by rw [IsP.eq (P := P)]; exact Tryz.func92) rfl rfl (Nat.le_of_ble_eq_true rfl) ?_
 unfold stSr
 refine zbt (za3 (zbb rfl rfl (zaa rfl) (zbv rfl rfl rfl rfl) (zaw rfl (zaw rfl (zbc (zbt ?_))))))
 refine zf2 hmix ?_
 refine zet ?_
 refine ex_s rfl (ex_s rfl (ex_f znt rfl (zc6 rfl rfl (zaa rfl) (zdg rfl zyr rfl rfl rfl rfl rfl) (ex_s rfl (zct rfl rfl (zaa rfl) (fun _ => (zai rfl rfl (hk) (zag rfl zam))) ?_)))))
 refine zc6 rfl rfl (zaa rfl) (zlm rfl zvm tK9 rfl rfl ⟨rfl, rfl, rfl⟩ rfl (keyOf_string_mk tn9 hks) ti3 (plainElem_int tn3 rfl) (by exact atKey_of_not_has hno _) hno) ?_
 refine ex_s rfl (ex_s rfl (ex_s rfl (ex_s rfl (ex_s rfl ?_))))
 refine zi3 (by kernel_rfl) ?_
 refine zbt (zbt (za3 (zaw rfl (zbb rfl rfl (zaa rfl) (zay rfl rfl) (zbc (zah (zgv rfl (zbt (za3 (zaw rfl (zaw rfl (zxw zh7 rfl (zbb rfl rfl (zaa rfl) (zap rfl zuh rfl rfl rfl rfl rfl) (zbb rfl rfl (zaa rfl) (zb7 rfl zq6 rfl) (zaw rfl (zbc (zbt ?_)))))))))))))))))
 have hwf := wf_big (k := S.st.length) (by omega)
 have hmn : (atX P S.st).n = S.st.length := rfl
 refine zf2 hmix ?_
 refine zet ?_
 refine ex_s rfl (ex_s rfl (ex_f znt rfl (zc6 rfl rfl (zaa rfl) (zdg rfl zyr rfl rfl rfl rfl rfl) (ex_s rfl (zct rfl rfl (zaa rfl) (fun _ => (zai rfl rfl (hk) (zag rfl zam))) (ex_s rfl ?_))))))
 refine zeo rfl (zaa rfl) (zii (.inl rfl) zvm tK9 rfl rfl ⟨rfl, rfl, rfl⟩ (by (try dsimp only); unfold maxLen; omega) rfl rfl (keyOf_string_mk tn9 (by first | assumption | (unfold maxLen; omega))) (plainElem_int tn3 (by first | rfl | assumption))) (fun _ h => zc8 h) ?_
 refine zi3 (by kernel_rfl) ?_
 refine zbt ?_
 refine zf2 hmix ?_
 refine zet ?_
 refine ex_s rfl (ex_s rfl (ex_s rfl (ex_s rfl (ex_s rfl (ex_f zh7 rfl (zc6 rfl rfl (zaa rfl) (zdg rfl zuh rfl rfl rfl rfl rfl) (ex_s rfl ?_)))))))
 refine zct rfl rfl (zaa rfl) (fun _ => (zzh rfl zq6 ti48 rfl rfl rfl rfl (za1 fun _ => .s _))) ?_
 refine zl2 rfl rfl (zaa rfl) (zb0 rfl zq6 ti48 rfl (by decide) rfl rfl (by first | rfl | (simp; done) | (simp; omega)) rfl (by first | exact .own _ _ _ rfl rfl _ (by first | rfl | simp) | exact .emp | exact .nil | exact .sl _ (by first | simp; done | intro e he; simp at he; obtain ⟨_, _, rfl⟩ := he; rfl)) (by first | omega | (simp; omega) | (unfold maxLen; simp; omega)) (by first | omega | (simp; omega) | (unfold maxLen; simp; omega))) (fun _ h => zfi h) ?_
 refine ex_s rfl (ex_s rfl (ex_f zg5 rfl (zc6 rfl rfl (zaa rfl) (zdg rfl ta48 rfl rfl rfl rfl rfl) (ex_s rfl (zct rfl rfl (zaa rfl) (fun _ => (zhg rfl ts48 ti3 rfl rfl rfl rfl)) ?_)))))
 refine zl2 rfl rfl (zaa rfl) (zb0 rfl ts48 ti3 rfl (by decide) rfl rfl (by first | rfl | (simp; done) | (simp; omega)) rfl (by first | exact .own _ _ _ rfl rfl _ (by first | rfl | simp) | exact .emp | exact .nil | exact .sl _ (by first | simp; done | intro e he; simp at he; obtain ⟨_, _, rfl⟩ := he; rfl)) (by first | omega | (simp; omega) | (unfold maxLen; simp; omega)) (by first | omega | (simp; omega) | (unfold maxLen; simp; omega))) (fun _ h => zfi h) ?_
 refine ex_s rfl (ex_s rfl (ex_f zq9 rfl (zc6 rfl rfl (zaa rfl) (zdg rfl ta48 rfl rfl rfl rfl rfl) (ex_s rfl (zct rfl rfl (zaa rfl) (fun _ => (zhg rfl ts48 ti3 rfl rfl rfl rfl)) ?_)))))
 refine zl2 rfl rfl (zaa rfl) (zb0 rfl ts48 ti3 rfl (by decide) rfl rfl (by first | rfl | (simp; done) | (simp; omega)) rfl (by first | exact .own _ _ _ rfl rfl _ (by first | rfl | simp) | exact .emp | exact .nil | exact .sl _ (by first | simp; done | intro e he; simp at he; obtain ⟨_, _, rfl⟩ := he; rfl)) (by first | omega | (simp; omega) | (unfold maxLen; simp; omega)) (by first | omega | (simp; omega) | (unfold maxLen; simp; omega))) (fun _ h => zfi h) ?_
 refine ex_s rfl (ex_f zh7 rfl ?_)
 refine zeo rfl (zaa rfl) (za8 rfl ti105 rfl rfl rfl rfl rfl rfl (by decide) (by decide)) (fun _ h => zc8 h) ?_
 refine ex_s rfl (ex_f zg5 rfl ?_)
 refine zeo rfl (zaa rfl) (za8 rfl ti48 rfl rfl rfl rfl rfl rfl (by decide) (by decide)) (fun _ h => zc8 h) ?_
 refine ex_s rfl (ex_f zq9 rfl ?_)
 refine zeo rfl (zaa rfl) (za8 rfl ti48 rfl rfl rfl rfl rfl rfl (by decide) (by decide)) (fun _ h => zc8 h) ?_
 refine zi3 (by kernel_rfl) ?_
 refine zbt ?_
 refine zf2 hmix ?_
 refine zet ?_
 refine ex_s rfl (ex_s rfl (ex_s rfl (ex_s rfl (ex_f zq8 rfl (zc6 rfl rfl (zaa rfl) (zdg rfl ta106 rfl rfl rfl rfl rfl) (zc6 rfl rfl (zaa rfl) (zht rfl zpa zg4 rfl rfl rfl rfl rfl) ?_))))))
 refine zct rfl rfl (zaa rfl) (fun _ => (zd5 rfl zug zg4 rfl rfl (by decide) (by decide) rfl rfl rfl (by repeat' (first | exact Lo.s _ | exact zar | refine zaj ?_ ?_ | refine za1 ?_ | refine Lo.agg _ ?_ | refine Lo.sl _ ?_ | intro _)))) ?_
 refine zl2 rfl rfl (zaa rfl) (zb0 rfl zug zg4 rfl (by decide) rfl rfl (by first | rfl | (simp; done) | (simp; omega)) rfl (by first | exact .own _ _ _ rfl rfl _ (by first | rfl | simp) | exact .emp | exact .nil | exact .sl _ (by first | simp; done | intro e he; simp at he; obtain ⟨_, _, rfl⟩ := he; rfl)) (by first | omega | (simp; omega) | (unfold maxLen; simp; omega)) (by first | omega | (simp; omega) | (unfold maxLen; simp; omega))) (fun _ h => zfi h) ?_
 refine ex_s rfl (ex_s rfl (ex_f zk1 rfl (zc6 rfl rfl (zaa rfl) (zdg rfl zys rfl rfl rfl rfl rfl) (zct rfl rfl (zaa rfl) (fun _ => (zhg rfl zvl ti4 rfl rfl rfl rfl)) ?_))))
 refine zl2 rfl rfl (zaa rfl) (zb0 rfl zvl ti4 rfl (by decide) rfl rfl (by first | rfl | (simp; done) | (simp; omega)) rfl (by first | exact .own _ _ _ rfl rfl _ (by first | rfl | simp) | exact .emp | exact .nil | exact .sl _ (by first | simp; done | intro e he; simp at he; obtain ⟨_, _, rfl⟩ := he; rfl)) (by first | omega | (simp; omega) | (unfold maxLen; simp; omega)) (by first | omega | (simp; omega) | (unfold maxLen; simp; omega))) (fun _ h => zfi h) ?_
 refine ex_s rfl (ex_f zq8 rfl ?_)
 refine zeo rfl (zaa rfl) (za8 rfl ti106 rfl rfl rfl rfl rfl rfl (by decide) (by decide)) (fun _ h => zc8 h) ?_
 refine ex_s rfl (ex_f zk1 rfl ?_)
 refine zeo rfl (zaa rfl) (za8 rfl ti107 rfl rfl rfl rfl rfl rfl (by decide) (by decide)) (fun _ h => zc8 h) ?_
 refine zi3 (by kernel_rfl) ?_
 refine zbt (za3 (zaw rfl (zaw rfl (zaw rfl (zbc (zah ?_))))))
 (refine zhi ?_; repeat (first | refine za6 ?_ | refine za7 ?_))
 refine ⟨.inr rfl, ?_, _, .cons _ _ _ _ (.tmp _ _ rfl) (.cons _ _ _ _ (.tmp _ _ rfl) .nil), rfl⟩
 unfold stSn
 rw [zz6]
 rfl
def stSc (P : Program) (n : Net) (w : List ByteArray) (c : Cst) (S : Sr) (q1 q2 : Ob) (i : Nat) (cy f : Int) (m : Stp) : List Ob :=
 [q1, q2, .row 14 [seE n w c 3 4 5 6 7 8 S.st.length S.co.length S.fr.length S.mv.length S.dn.length], .row 1 (S.st.map (eL eI)), .row 1 ((S.co.map eI).set i (eI cy)), .row 1 ((S.fr.map eI).set i (eI f)), .row 3 ((S.mv.map eSt).set i (eSt m)), .row 1 (S.dn.map eB), .mp (atX P S.st), .row 3 [eSt m]]
set_option maxHeartbeats 4000000 in
theorem zut {n : Net} {w : List ByteArray} {c : Cst} {S : Sr} {q1 q2 : Ob} {y : List Int} {cy f : Int} {m : Stp} (h : SOk S) (hy : okS n w y) (hf : ¬ zdw S.st y < 0) (hge : ¬ cy < gti S.co (idx S.st y)) :
  CallE P 92 [.ptr 2 14 0 0, eL eI y, eI cy, eI f, eSt m] (stSr P n w c S q1 q2) (.tup [eI (idx S.st y), eB false]) (stSr P n w c S q1 q2 ++ [.row 3 [eSt m]]) := by
 obtain ⟨h1, h2, h3, h4, h5, h6, h7⟩ := h
 have hk := zsm (P := P) hy
 have hks := zrs hy
 obtain ⟨p1, p2, p3⟩ := zig hf
 have hmem : y ∈ S.st := List.mem_of_getElem? p1
 obtain ⟨hyes, hat⟩ := zsj hy.small _ S.st rfl h7 h5 hmem
 have hat2 : ∀ z, (atD S.st).atKey (.string (keyD y)) z = .lit (.int .i64 (idx S.st y : Nat)) := fun z => by rw [hat z, p3]
 generalize idx S.st y = i at p1 p2 p3 hge hat2 ⊢
 have hi : i < S.co.length := by omega
 have hixc : (S.co.map eI)[i]? = some (eI (gti S.co i)) := zbz hi
 refine zdz (by rw [IsP.eq (P := P)]; exact Tryz.func92) rfl rfl (Nat.le_of_ble_eq_true rfl) ?_
 unfold stSr
 refine zbt (za3 (zbb rfl rfl (zaa rfl) (zbv rfl rfl rfl rfl) (zaw rfl (zaw rfl (zbc (zbt ?_))))))
 refine zf2 hmix ?_
 refine zet ?_
 refine ex_s rfl (ex_s rfl (ex_f znt rfl (zc6 rfl rfl (zaa rfl) (zdg rfl zyr rfl rfl rfl rfl rfl) (ex_s rfl (zct rfl rfl (zaa rfl) (fun _ => (zai rfl rfl (hk) (zag rfl zam))) ?_)))))
 refine zc6 rfl rfl (zaa rfl) (zlm rfl zvm tK9 rfl rfl ⟨rfl, rfl, rfl⟩ rfl (keyOf_string_mk tn9 hks) ti3 (plainElem_int tn3 rfl) (by exact hat2 _) hyes) ?_
 refine ex_s rfl (ex_s rfl (ex_s rfl (ex_s rfl (ex_s rfl ?_))))
 refine zi3 (by kernel_rfl) ?_
 refine zbt (zbt (za3 (zaw rfl (zbb rfl rfl (zaa rfl) (zay rfl rfl) (zbc (zah (zer rfl (zdt (zbt (zbt (za3 (zaw rfl (zaw rfl (zaw rfl (zxw zg5 rfl (zbb rfl rfl (zaa rfl) (zap rfl ta48 rfl rfl rfl rfl rfl) (zaw rfl (zbb rfl rfl (zaa rfl) (za2 rfl ts48 ti3 rfl rfl rfl hi) (zbb rfl rfl (zaa rfl) (zap rfl ta3 rfl rfl rfl hixc rfl) (zbb rfl rfl (zaa rfl) (zbp (by omega) (zcr rfl rfl rfl)) (zbc (zah (zgv rfl (zbt (za3 ?_)))))))))))))))))))))))))
 refine zaw rfl (zaw rfl (zaw rfl (zbc (zah ?_))))
 (refine zhi ?_; repeat (first | refine za6 ?_ | refine za7 ?_))
 exact ⟨.inr rfl, rfl, _, .cons _ _ _ _ (.tmp _ _ rfl) (.cons _ _ _ _ (.tmp _ _ rfl) .nil), rfl⟩
set_option maxHeartbeats 4000000 in
theorem zuu {n : Net} {w : List ByteArray} {c : Cst} {S : Sr} {q1 q2 : Ob} {y : List Int} {cy f : Int} {m : Stp} (h : SOk S) (hy : okS n w y) (hf : ¬ zdw S.st y < 0) (hlt : cy < gti S.co (idx S.st y)) :
  CallE P 92 [.ptr 2 14 0 0, eL eI y, eI cy, eI f, eSt m] (stSr P n w c S q1 q2) (.tup [eI (idx S.st y), eB true]) (stSc P n w c S q1 q2 (idx S.st y) cy f m) := by
 obtain ⟨h1, h2, h3, h4, h5, h6, h7⟩ := h
 have hk := zsm (P := P) hy
 have hks := zrs hy
 obtain ⟨p1, p2, p3⟩ := zig hf
 have hmem : y ∈ S.st := List.mem_of_getElem? p1
 obtain ⟨hyes, hat⟩ := zsj hy.small _ S.st rfl h7 h5 hmem
 have hat2 : ∀ z, (atD S.st).atKey (.string (keyD y)) z = .lit (.int .i64 (idx S.st y : Nat)) := fun z => by rw [hat z, p3]
 generalize idx S.st y = i at p1 p2 p3 hlt hat2 ⊢
 have hi : i < S.co.length := by omega
 have hif : i < S.fr.length := by omega
 have him : i < S.mv.length := by omega
 have hixc : (S.co.map eI)[i]? = some (eI (gti S.co i)) := zbz hi
 have hixf : (S.fr.map eI)[i]? = some (eI (gti S.fr i)) := zbz hif
 have hixm : (S.mv.map eSt)[i]? = some (eSt (gti S.mv i)) := zbz him
 refine zdz (by rw [IsP.eq (P := P)]; exact Tryz.func92) rfl rfl (Nat.le_of_ble_eq_true rfl) ?_
 unfold stSr
 refine zbt (za3 (zbb rfl rfl (zaa rfl) (zbv rfl rfl rfl rfl) (zaw rfl (zaw rfl (zbc (zbt ?_))))))
 refine zf2 hmix ?_
 refine zet ?_
 refine ex_s rfl (ex_s rfl (ex_f znt rfl (zc6 rfl rfl (zaa rfl) (zdg rfl zyr rfl rfl rfl rfl rfl) (ex_s rfl (zct rfl rfl (zaa rfl) (fun _ => (zai rfl rfl (hk) (zag rfl zam))) ?_)))))
 refine zc6 rfl rfl (zaa rfl) (zlm rfl zvm tK9 rfl rfl ⟨rfl, rfl, rfl⟩ rfl (keyOf_string_mk tn9 hks) ti3 (plainElem_int tn3 rfl) (by exact hat2 _) hyes) ?_
 refine ex_s rfl (ex_s rfl (ex_s rfl (ex_s rfl (ex_s rfl ?_))))
 refine zi3 (by kernel_rfl) ?_
 refine zbt (zbt (za3 (zaw rfl (zbb rfl rfl (zaa rfl) (zay rfl rfl) (zbc (zah (zer rfl (zdt (zbt (zbt (za3 (zaw rfl (zaw rfl (zaw rfl (zxw zg5 rfl (zbb rfl rfl (zaa rfl) (zap rfl ta48 rfl rfl rfl rfl rfl) (zaw rfl (zbb rfl rfl (zaa rfl) (za2 rfl ts48 ti3 rfl rfl rfl hi) (zbb rfl rfl (zaa rfl) (zap rfl ta3 rfl rfl rfl hixc rfl) (zbb rfl rfl (zaa rfl) (zbi (by omega) (zcr rfl rfl rfl)) (zbc (zah (zer rfl (zdt (zbt ?_)))))))))))))))))))))))))
 refine zf2 hmix ?_
 refine zet ?_
 refine ex_s rfl (ex_s rfl (ex_f zg5 rfl (zc6 rfl rfl (zaa rfl) (zdg rfl ta48 rfl rfl rfl rfl rfl) (ex_s rfl (ex_s rfl (ex_s rfl (ex_f zq9 rfl (zc6 rfl rfl (zaa rfl) (zdg rfl ta48 rfl rfl rfl rfl rfl) (ex_s rfl (ex_s rfl (ex_s rfl (ex_f zq8 rfl (zc6 rfl rfl (zaa rfl) (zdg rfl ta106 rfl rfl rfl rfl rfl) (ex_s rfl (ex_s rfl (ex_s rfl (zc6 rfl rfl (zaa rfl) (zht rfl zpa zg4 rfl rfl rfl rfl rfl) (zct rfl rfl (zaa rfl) (fun _ => (za2 rfl ts48 ti3 rfl rfl rfl hi)) ?_))))))))))))))))))
 refine zeo rfl (zaa rfl) (za8 rfl ti3 rfl rfl rfl hixc rfl rfl (by decide) (by decide)) (fun _ h => zc8 h) ?_
 refine zct rfl rfl (zaa rfl) (fun _ => (za2 rfl ts48 ti3 rfl rfl rfl hif)) ?_
 refine zeo rfl (zaa rfl) (za8 rfl ti3 rfl rfl rfl hixf rfl rfl (by decide) (by decide)) (fun _ h => zc8 h) ?_
 refine zct rfl rfl (zaa rfl) (fun _ => (za2 rfl zug zg4 rfl rfl rfl him)) ?_
 refine zeo rfl (zaa rfl) (za8 rfl zg4 rfl rfl rfl hixm rfl rfl (by decide) (by decide)) (fun _ h => zc8 h) ?_
 refine zi3 (by kernel_rfl) ?_
 refine zbt (za3 (zaw rfl (zaw rfl (zaw rfl (zbc (zah ?_))))))
 (refine zhi ?_; repeat (first | refine za6 ?_ | refine za7 ?_))
 exact ⟨.inr rfl, rfl, _, .cons _ _ _ _ (.tmp _ _ rfl) (.cons _ _ _ _ (.tmp _ _ rfl) .nil), rfl⟩
end Go.Proofs.YtohmldibkojkfaaGreatDoor.Aw
end
section
namespace Go.Proofs.YtohmldibkojkfaaGreatDoor.Aw
open Go Go.RowKit Go.Proofs Go.Maps Go.WideMaps Dl
variable {P : Program} [IsP P]
def ze8 (n : Net) (w : List ByteArray) (c : Cst) : Bool := decide ((zc0 n w).2 = 0) && vcB c
theorem zs6 (n : Net) (w : List ByteArray) (c : Cst) : Pure P 65 [eN n, eL eS w, eC c] (eB (ze8 n w c)) := by
 have hS := zsy (P := P) n w
 have hV := zil (P := P) c
 have hR : ze8 n w c = (decide ((zc0 n w).2 = 0) && vcB c) := rfl
 generalize ze8 n w c = R at hR ⊢
 generalize zc0 n w = s0 at hS hR
 generalize vcB c = v at hV hR
 have hln : Lo 0 (.ref (eN n).cells) := .ref _ (lo_N n).cells
 have hlc : Lo 0 (.ref (eC c).cells) := .ref _ (lo_C c).cells
 refine zcu (by rw [IsP.eq (P := P)]; exact Tryz.func65) rfl rfl rfl rfl rfl (zaj (lo_N n) (zaj (lo_W w) (zaj (lo_C c) zar))) (.s _) (by simp only [argF]; rfl) ?_
 refine zaf (zab (zad rfl rfl (zaa rfl) (zbv rfl rfl rfl rfl) ?_))
 refine zau (zbk (id := 0) rfl) (zau (zch (d := 3) rfl rfl rfl) ?_)
 refine zad rfl rfl (zaa rfl) (zbv rfl rfl rfl rfl) ?_
 refine zau (zbk (id := 1) rfl) (zau (zch (d := 5) rfl rfl rfl) ?_)
 refine zac rfl (zae (zaf (zab (zbr ta24 ti24 rfl (zac rfl (zad rfl rfl (zaa rfl) (zai rfl rfl (hS) (zag rfl (zag rfl zam))) (zac rfl (zac rfl (zac rfl (zac rfl (zac rfl (zae (zaf ?_)))))))))))))
 by_cases h : s0.2 = 0
 ·
  refine zab (zac rfl (zad rfl rfl (zaa rfl) (zbp h (zcc rfl rfl rfl)) (zac rfl (zbr ta27 ti27 rfl (zad rfl rfl (zal rfl rfl rfl) (zai rfl rfl (hV) (zag rfl zam)) (zac rfl (zac rfl (zae (zah ?_)))))))))
  (refine zav ?_; repeat (first | refine za6 ?_ | refine za7 ?_))
  exact zbj (.inr rfl) rfl (congrArg eB (by rw [hR, decide_eq_true h]; rfl))
 ·
  refine zab (zac rfl (zad rfl rfl (zaa rfl) (zbi h (zcc rfl rfl rfl)) (zac rfl (zat rfl (zat rfl (zac rfl (zac rfl (zae (zah ?_)))))))))
  (refine zav ?_; repeat (first | refine za6 ?_ | refine za7 ?_))
  exact zbj (.inr rfl) rfl (congrArg eB (by rw [hR, decide_eq_false h]; rfl))
def seR (n : Net) (w : List ByteArray) (c : Cst) (S : Sr) : AV :=
 .ref [eI n.places, eL eT n.trans, eI n.source, eI n.sink, eL eS w, eI c.log, eI c.model, eI c.silent, eL (eL eI) S.st, eL eI S.co, eL eI S.fr, eL eSt S.mv, eL eB S.dn, .opq]
def runO (n : Net) (w : List ByteArray) (c : Cst) (most : Int) : Sr × Int × Int :=
 if ze8 n w c = false then (zSr, 0, 1) else if most < 1 ∨ 2000 < most then (zSr, 0, 2) else srP n w c most
def eRun (n : Net) (w : List ByteArray) (c : Cst) (r : Sr × Int × Int) : AV := .tup [if r.2.2 = 0 then seR n w c r.1 else .s (.pointer none), eI r.2.1, eI r.2.2]
def stRu (P : Program) (n : Net) (w : List ByteArray) (c : Cst) (S : Sr) (q : List En) : List Ob := stSr P n w c S (.row 1 [.own 1 2 q.length]) (.row 2 (q.map eEn))
theorem zhs {F : Frm} {σ : List Ob} {n : Net} {w : List ByteArray} {c : Cst} {R : Sr × Int × Int} {e : Exit} {x : AV} {k m : Int} (he : e = .normal ∨ e = .ret) (h1 : F.get 8 = x) (h2 : F.get 9 = eI k) (h3 : F.get 10 = eI m) (hR : R = (R.1, k, m)) (hx : x = if m = 0 then seR n w c R.1 else .s (.pointer none)) : zmq P [.tmp 8, .tmp 9, .tmp 10] (eRun n w c R) e F σ := by
 refine ⟨he, [x, eI k, eI m], .cons _ _ _ _ (.tmp _ _ h1) (.cons _ _ _ _ (.tmp _ _ h2) (.cons _ _ _ _ (.tmp _ _ h3) .nil)), ?_⟩
 unfold eRun
 rw [hR, hx]
 exact .refl _
theorem lo_B {k : Nat} {l : List Bool} : Lo k (eL eB l) := za1 fun _ => .s _
theorem lo_seR {k : Nat} (n : Net) (w : List ByteArray) (c : Cst) (S : Sr) : Lo k (seR n w c S) :=
 .ref _ (zaj (.s _) (zaj (za1 fun t => lo_T t) (zaj (.s _) (zaj (.s _) (zaj (lo_W w) (zaj (.s _) (zaj (.s _) (zaj (.s _) (zaj (lo_II _) (zaj lo_I (zaj lo_I (zaj (znd _) (zaj lo_B (zaj .opq zar))))))))))))))
theorem lo_Run {k : Nat} (n : Net) (w : List ByteArray) (c : Cst) (r : Sr × Int × Int) : Lo k (eRun n w c r) := by
 unfold eRun
 refine .tup _ (zaj ?_ (zaj (.s _) (zaj (.s _) zar)))
 split
 ·
  exact lo_seR n w c r.1
 ·
  exact .s _
theorem zgm (l : List Stp) : ∀ e ∈ l.map eSt, ∀ c ∈ e.cells, Lo 0 c := zdl fun m => (z2l m).cells
theorem zgy (l : List Bool) : ∀ e ∈ l.map eB, ∀ c ∈ e.cells, Lo 0 c := zdl fun _ => (Lo.s _).cells
theorem znn (l : List En) : ∀ e ∈ l.map eEn, ∀ c ∈ e.cells, Lo 0 c := zdl fun _ => (Lo.agg _ (zaj (.s _) (zaj (.s _) zar))).cells
theorem zk4 {ρ : List Nat} {n : Net} {w : List ByteArray} {c : Cst} {i j k m d p i' j' k' m' d' p' a b e f g a' b' e' f' g' : Nat} (h1 : Rn ρ (.own i 1 a) (.own i' 1 a')) (h2 : Rn ρ (.own j 1 b) (.own j' 1 b')) (h3 : Rn ρ (.own k 1 e) (.own k' 1 e')) (h4 : Rn ρ (.own m 3 f) (.own m' 3 f')) (h5 : Rn ρ (.own d 1 g) (.own d' 1 g')) (h6 : Rn ρ (.mp p) (.mp p')) :
  ObRn ρ (.row 14 [seE n w c i j k m d p a b e f g]) (.row 14 [seE n w c i' j' k' m' d' p' a' b' e' f' g']) :=
 zn1 (.cons (.lo _ (.s _)) (.cons (.lo _ (za1 fun t => lo_T t)) (.cons (.lo _ (.s _)) (.cons (.lo _ (.s _)) (.cons (.lo _ (lo_W w)) (.cons (.lo _ (.s _)) (.cons (.lo _ (.s _)) (.cons (.lo _ (.s _)) (.cons h1 (.cons h2 (.cons h3 (.cons h4 (.cons h5 (.cons h6 .nil))))))))))))))
theorem zhf {ρ : List Nat} {sz i j s n m : Nat} (h : Rn ρ (.own i s n) (.own j s m)) : ObRn ρ (.row sz [.own i s n]) (.row sz [.own j s m]) :=
 .rowR sz _ _ h (fun k x y hx hy => by
  match k, hx, hy with
  | 0, hx, hy => simp [AV.cells] at hx hy; subst hx hy; exact h
  | k + 1, hx, hy => simp [AV.cells] at hx) rfl
theorem zg2 {N : Nat} {F F' : Frm} {σ σ' : List Ob} (h : zq2 N F σ F' σ') : Weak N F σ F' σ' := fun G a hs => by
 obtain ⟨G', e, k, s⟩ := h G a hs
 exact ⟨G', e, k.step, s⟩
theorem z1i {N : Nat} {F : Frm} {σ : List Ob} {id sz : Nat} {e e' x : AV} {pre post : List AV} (hs : σ[id]? = some (.row sz [e])) (h1 : e.cells = pre ++ x :: post) (h2 : e'.cells = pre ++ .opq :: post) :
  Weak N F σ F (σ.set id (.row sz [e'])) := fun G a h => by
 refine ⟨G, rfl, .refl G, ?_, h.fr, h.df, h.nt⟩
 refine zf6 h.rel hs (fun h => by cases h) ?_
 rintro b f ⟨cur, t, fr, g1, g2, g3, g4⟩
 refine ⟨cur, t, fr, g1, g2, g3, fun k y hy => ?_⟩
 cases k with
 | succ k => simp at hy
 | zero =>
  simp at hy
  subst hy
  obtain ⟨k1, k2, k3⟩ := g4 0 e rfl
  rw [h1] at k1 k2 k3
  rw [h2]
  refine ⟨by simpa using k1, fun c hc => ?_, fun j c hc => ?_⟩
  ·
   simp only [List.mem_append, List.mem_cons] at hc
   rcases hc with hc | rfl | hc
   ·
    exact k2 c (by simp [hc])
   ·
    rfl
   ·
    exact k2 c (by simp [hc])
  ·
   by_cases hj : j = pre.length
   ·
    subst hj
    simp at hc
    subst hc
    obtain ⟨v, h6, h7⟩ := k3 pre.length x (by simp)
    exact ⟨v, h6, .opq v (h7.one (k2 x (by simp)))⟩
   ·
    have e : (pre ++ x :: post)[j]? = some c := by
     rw [← hc]
     by_cases hlt : j < pre.length
     ·
      rw [List.getElem?_append_left hlt, List.getElem?_append_left hlt]
     ·
      rw [List.getElem?_append_right (by omega), List.getElem?_append_right (by omega)]
      obtain ⟨i, hi⟩ : ∃ i, j - pre.length = i + 1 := ⟨j - pre.length - 1, by omega⟩
      rw [hi]; rfl
    exact k3 j c e
def p8 (n : Net) (w : List ByteArray) (c : Cst) : List AV := [eI n.places, eL eT n.trans, eI n.source, eI n.sink, eL eS w, eI c.log, eI c.model, eI c.silent]
theorem z0i {N : Nat} {F : Frm} {n : Net} {w : List ByteArray} {c : Cst} {S : Sr} {q1 q2 : Ob} (X : List Ob) (h : F.get 15 = .ptr 2 14 0 0) : ∃ σ', Weak N F (stSr P n w c S q1 q2 ++ X) ((15, seR n w c S) :: F) σ' := by
 have e1 : S.st.length = (S.st.map (eL eI)).length := by simp
 have e2 : S.co.length = (S.co.map eI).length := by simp
 have e3 : S.fr.length = (S.fr.map eI).length := by simp
 have e4 : S.mv.length = (S.mv.map eSt).length := by simp
 have e5 : S.dn.length = (S.dn.map eB).length := by simp
 have s1 := zg2 (zlq (N := N) (F := F) (σ := stSr P n w c S q1 q2 ++ X) (id := 2) (i := 3) (sz2 := 1) (cs2 := S.st.map (eL eI)) (pre := p8 n w c) (post := [.own 4 1 S.co.length, .own 5 1 S.fr.length, .own 6 3 S.mv.length, .own 7 1 S.dn.length, .mp 8])
  (e' := .agg (p8 n w c ++ [eL (eL eI) S.st, .own 4 1 S.co.length, .own 5 1 S.fr.length, .own 6 3 S.mv.length, .own 7 1 S.dn.length, .mp 8])) rfl (by rw [← e1]; rfl) rfl (by decide) rfl)
 have s2 := s1.trans (zg2 (zlq (N := N) (id := 2) (i := 4) (sz2 := 1) (cs2 := S.co.map eI) (pre := p8 n w c ++ [eL (eL eI) S.st]) (post := [.own 5 1 S.fr.length, .own 6 3 S.mv.length, .own 7 1 S.dn.length, .mp 8])
  (e' := .agg (p8 n w c ++ [eL (eL eI) S.st, eL eI S.co, .own 5 1 S.fr.length, .own 6 3 S.mv.length, .own 7 1 S.dn.length, .mp 8])) rfl (by rw [← e2]; rfl) rfl (by decide) rfl))
 have s3 := s2.trans (zg2 (zlq (N := N) (id := 2) (i := 5) (sz2 := 1) (cs2 := S.fr.map eI) (pre := p8 n w c ++ [eL (eL eI) S.st, eL eI S.co]) (post := [.own 6 3 S.mv.length, .own 7 1 S.dn.length, .mp 8])
  (e' := .agg (p8 n w c ++ [eL (eL eI) S.st, eL eI S.co, eL eI S.fr, .own 6 3 S.mv.length, .own 7 1 S.dn.length, .mp 8])) rfl (by rw [← e3]; rfl) rfl (by decide) rfl))
 have s4 := s3.trans (zg2 (zlq (N := N) (id := 2) (i := 6) (sz2 := 3) (cs2 := S.mv.map eSt) (pre := p8 n w c ++ [eL (eL eI) S.st, eL eI S.co, eL eI S.fr]) (post := [.own 7 1 S.dn.length, .mp 8])
  (e' := .agg (p8 n w c ++ [eL (eL eI) S.st, eL eI S.co, eL eI S.fr, eL eSt S.mv, .own 7 1 S.dn.length, .mp 8])) rfl (by rw [← e4]; rfl) rfl (by decide) rfl))
 have s5 := s4.trans (zg2 (zlq (N := N) (id := 2) (i := 7) (sz2 := 1) (cs2 := S.dn.map eB) (pre := p8 n w c ++ [eL (eL eI) S.st, eL eI S.co, eL eI S.fr, eL eSt S.mv]) (post := [.mp 8])
  (e' := .agg (p8 n w c ++ [eL (eL eI) S.st, eL eI S.co, eL eI S.fr, eL eSt S.mv, eL eB S.dn, .mp 8])) rfl (by rw [← e5]; rfl) rfl (by decide) rfl))
 have s6 := s5.trans (z1i (N := N) (id := 2) (sz := 14) (x := .mp 8) (pre := p8 n w c ++ [eL (eL eI) S.st, eL eI S.co, eL eI S.fr, eL eSt S.mv, eL eB S.dn]) (post := []) (e' := .agg (p8 n w c ++ [eL (eL eI) S.st, eL eI S.co, eL eI S.fr, eL eSt S.mv, eL eB S.dn, .opq])) rfl rfl rfl)
 have s7 := s6.trans (zbk (N := N) (id := 2) (sz := 14) rfl)
 have s8 := s7.trans (zch (d := 15) (sz := 14) (cs := [.agg (p8 n w c ++ [eL (eL eI) S.st, eL eI S.co, eL eI S.fr, eL eSt S.mv, eL eB S.dn, .opq])]) h rfl rfl)
 exact ⟨_, s8⟩
theorem znr {N : Nat} {F F' : Frm} {σ σ' : List Ob} (h : σ = σ') (k : Sub F F') : Weak N F σ F' σ' := h ▸ zbx _ k
theorem z0g {N : Nat} {F F' : Frm} {n : Net} {w : List ByteArray} {c : Cst} {S : Sr} {q : List En} (X : List Ob) (hf : FrRn F [0, 1, 2, 3, 4, 5, 6, 7, 8] F') : Weak N F (stRu P n w c S q ++ X) F' (stRu P n w c S q) :=
 zc3 [0, 1, 2, 3, 4, 5, 6, 7, 8] (by decide) ⟨⟨_, rfl, zhf (.own _ _ _ _ _ rfl rfl)⟩, ⟨_, rfl, .rowE (znn q) rfl⟩, ⟨_, rfl, zk4 (.own _ _ _ _ _ rfl rfl) (.own _ _ _ _ _ rfl rfl) (.own _ _ _ _ _ rfl rfl) (.own _ _ _ _ _ rfl rfl) (.own _ _ _ _ _ rfl rfl) (.mp _ _ rfl)⟩, ⟨_, rfl, .rowE (zh8 _) rfl⟩, ⟨_, rfl, .rowE (zeb _) rfl⟩, ⟨_, rfl, .rowE (zeb _) rfl⟩, ⟨_, rfl, .rowE (zgm _) rfl⟩, ⟨_, rfl, .rowE (zgy _) rfl⟩, ⟨_, rfl, zrk rfl⟩, trivial⟩ hf
theorem z0h {N : Nat} {F F' : Frm} {σ : List Ob} {n : Net} {w : List ByteArray} {c : Cst} {S : Sr} {q : List En} (h : σ.take 9 = stRu P n w c S q) (hf : FrRn F [0, 1, 2, 3, 4, 5, 6, 7, 8] F') : Weak N F σ F' (stRu P n w c S q) := by
 rw [← List.take_append_drop 9 σ, h]
 exact z0g _ hf
end Go.Proofs.YtohmldibkojkfaaGreatDoor.Aw
end
