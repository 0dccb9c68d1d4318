import Derived.Test.YtohmldibkojkfaaGreatDoorJB43
import Derived.Test.YtohmldibkojkfaaGreatDoorJB27
import Derived.Test.YtohmldibkojkfaaGreatDoorJB19
import Derived.Test.YtohmldibkojkfaaGreatDoorJB44
import Derived.Test.YtohmldibkojkfaaGreatDoorJB40
set_option linter.unusedSimpArgs false
set_option linter.unusedVariables false
set_option linter.unusedSectionVars false
section
namespace Go.Proofs.YtohmldibkojkfaaGreatDoor.Aw
open Go.RowKit Go.Proofs
variable {P : Program} [IsP P]
theorem zup {f : FuncId} {args : List AV} {sz : Nat} {cs : List AV} (h : PureO Tryz.prog f args sz cs) : PureO P f args sz cs := by rw [IsP.eq (P := P)]; exact h
theorem zz2 (l : List Int) (hl : l.length ≤ 1000000) : PureO P 56 [eL eI l] 1 (l.map eI) :=
 zup ⟨zu5 (zdb Tryz.func56 rfl rfl), fun G vargs hst hsz hrep => by
  obtain ⟨x, rfl, h1⟩ := z3h hst hsz hrep
  refine (zqt l x _ _ G.w h1 hl).mono ?_
  rintro e w' ⟨A, c, rfl, ho, hb⟩
  refine ⟨_, rfl, hb, ?_⟩
  rcases ho.1.2 with ⟨h2, h3⟩ | ⟨g, cap, cur, hv, hg, hh, h5, h6, h7, h8⟩
  ·
   left
   injection h2 with e1 e2 e3
   have : l = [] := List.eq_nil_of_length_eq_zero h3
   subst this
   exact ⟨by rw [e1, e3]; rfl, rfl⟩
  ·
   right
   injection hv with e1 e2 e3
   refine ⟨g, c, cur, _, by rw [e1, List.length_map], hg, hh, by rw [e3]; exact h7, by rw [List.length_map, e3]; exact h5, by rw [e3]; exact h6, fun k e hk => ?_⟩
   rw [List.getElem?_map] at hk
   cases hx : l[k]? with
   | none => rw [hx] at hk; cases hk
   | some a =>
    rw [hx] at hk
    cases hk
    refine ⟨rfl, fun j c hc => ?_⟩
    cases j with
    | succ j => simp [eI, AV.cells] at hc
    | zero =>
     simp [eI, AV.cells] at hc
     subst hc
     refine ⟨.int .i64 a, ?_, rfl, rfl⟩
     have hf := zen (size := 1) (enc := encI) (by simp) l k a 0 (.int .i64 a) hx rfl
     rw [← h8, List.getElem?_take] at hf
     split at hf
     ·
      simpa using hf
     ·
      cases hf⟩
end Go.Proofs.YtohmldibkojkfaaGreatDoor.Aw
end
section
namespace Go.Proofs.YtohmldibkojkfaaGreatDoor.Aw
open Go Go.RowKit Go.Proofs Go.Maps Go.WideMaps
def keyN (x : Nd) : List UInt8 := keyL (x.k :: x.m)
def zrb : List Nd → DataW Unit
 | [] => .map []
 | x :: l => (zrb l).put (.string (keyN x)) (.lit (.bool true))
def zme (q : List Nd) : DataW Unit := zrb q.reverse
theorem zui (q : List Nd) (x : Nd) : zme (q ++ [x]) = (zme q).put (.string (keyN x)) (.lit (.bool true)) := by
 unfold zme
 rw [List.reverse_append]; rfl
theorem zpf : ∀ l, IsMap (zrb l)
 | [] => isMap_empty
 | x :: l => (zpf l).put _ _
theorem zmw (k : List UInt8) : ∀ l : List Nd, (zrb l).atKey (.string k) (.lit (.bool false)) = .lit (.bool (decide (k ∈ l.map keyN)))
 | [] => by simp [zrb, DataW.atKey]
 | x :: l => by
  by_cases e : k = keyN x
  ·
   subst e
   rw [zrb, atKey_put_same (zpf l) (by first | trivial | simp [WideAt.IsKeyLit])]
   simp
  ·
   rw [zrb, atKey_put_other (by intro h; injection h with h; exact e h), zmw k l]
   simp [e]
theorem ztb {n : Net} {w : List ByteArray} {q : List Nd} (h : QF n w q) (hw : w.length ≤ 200) : ∀ y ∈ q, ∀ x ∈ y.k :: y.m, 0 ≤ x ∧ x ≤ 255 := by
 intro y hy x hx
 obtain ⟨i, hi, rfl⟩ := List.mem_iff_getElem.1 hy
 have e : gti q i = q[i] := by unfold gti; rw [List.getElem?_eq_getElem hi]; rfl
 obtain ⟨a1, a2, a3, _⟩ := h.at_ i hi
 rw [e] at a1 a2 a3
 rcases List.mem_cons.1 hx with rfl | hx
 ·
  omega
 ·
  exact zie a1 x hx
theorem zuj {n : Net} {w : List ByteArray} {q : List Nd} (h : QF n w q) (hw : w.length ≤ 200) {k : Int} {m : List Int} (hkm : ∀ x ∈ k :: m, 0 ≤ x ∧ x ≤ 255) : (zme q).atKey (.string (keyL (k :: m))) (.lit (.bool false)) = .lit (.bool (decide ((k, m) ∈ q.map nkey))) := by
 unfold zme
 rw [zmw]
 congr 2
 rw [decide_eq_decide]
 simp only [List.mem_map, List.mem_reverse]
 constructor
 ·
  rintro ⟨y, hy, e⟩
  have := ztl (ztb h hw y hy) hkm e
  injection this with e1 e2
  exact ⟨y, hy, by unfold nkey; rw [e1, e2]⟩
 ·
  rintro ⟨y, hy, e⟩
  unfold nkey at e
  injection e with e1 e2
  exact ⟨y, hy, by unfold keyN; rw [e1, e2]⟩
section
variable {P : Program} [IsP P]
theorem zs4 {n : Net} {w : List ByteArray} {q : List Nd} (h : QF n w q) (hw : w.length ≤ 200) {k : Int} {m : List Int} (hkm : ∀ x ∈ k :: m, 0 ≤ x ∧ x ≤ 255) (hl : m.length ≤ 900) :
  ∃ kb : ByteArray, Pure P 54 [eL eI (k :: m)] (eS kb) ∧ kb.size ≤ maxLen ∧ (zme q).atKey (.string kb.data.toList) (.lit (.bool false)) = .lit (.bool (decide ((k, m) ∈ q.map nkey))) ∧ ∀ run, (zme q).put (.string kb.data.toList) (.lit (.bool true)) = zme (q ++ [⟨k, m, run⟩]) := by
 refine ⟨⟨(keyL (k :: m)).toArray⟩, key_pf (k :: m) hkm (by simp; omega) (by simp), ?_, ?_, fun run => ?_⟩
 ·
  have := zn8 (k :: m)
  simp only [ByteArray.size, List.size_toArray, maxLen]
  simp only [List.length_cons] at this
  omega
 ·
  exact zuj h hw hkm
 ·
  exact (zui q ⟨k, m, run⟩).symm
theorem zxz (x : Nd) (w : List ByteArray) (fin : List Int) : Pure P 52 [eNd x, .ref [eL eS w], .ref [eL eI fin]] (eB (decide (x.k = w.length) && decide (x.m = fin))) := by
 have he := z05 (P := P) x.m fin
 refine zcu (by rw [IsP.eq (P := P)]; exact Tryz.func52) rfl rfl rfl rfl rfl (by repeat' (first | exact Lo.s _ | exact zar | refine zaj ?_ ?_ | refine za1 ?_ | refine Lo.cells ?_ | refine Lo.agg _ ?_ | refine Lo.ref _ ?_ | refine Lo.tup _ ?_ | refine Lo.fn _ _ ?_ | refine Lo.sl _ ?_ | intro _)) (.s _) (by simp only [argF]; rfl) ?_
 refine zaf (zab (zad rfl rfl (zaa rfl) (zbv rfl rfl rfl rfl) ?_))
 refine zau (zbk (id := 0) rfl) (zau (zch (d := 3) rfl rfl rfl) ?_)
 refine zac rfl (zae (zaf ?_))
 by_cases hk : x.k = w.length
 ·
  refine zab (zbh zvp rfl (zbl ta3 rfl (zbl ta44 rfl (zad rfl rfl (zaa rfl) (zak rfl ts44 rfl) (zad rfl rfl (zaa rfl) (zbp hk (zcc rfl rfl rfl)) (zac rfl (zbh z0l rfl (zbl ta48 rfl (zbl ta48 rfl (zad rfl rfl (zal rfl rfl rfl) (zai rfl rfl (he) (zag rfl (zag rfl zam))) (zac rfl (zac rfl (zae (zah ?_))))))))))))))
  (refine zav ?_; repeat (first | refine za6 ?_ | refine za7 ?_))
  exact zbj (.inr rfl) rfl (congrArg eB (by rw [decide_eq_true hk, Bool.true_and]))
 ·
  refine zab (zbh zvp rfl (zbl ta3 rfl (zbl ta44 rfl (zad rfl rfl (zaa rfl) (zak rfl ts44 rfl) (zad rfl rfl (zaa rfl) (zbi hk (zcc rfl rfl rfl)) (zac rfl (zat rfl (zat rfl (zat rfl (zat rfl (zac rfl (zac rfl (zae (zah ?_))))))))))))))
  (refine zav ?_; repeat (first | refine za6 ?_ | refine za7 ?_))
  exact zbj (.inr rfl) rfl (congrArg eB (by rw [decide_eq_false hk, Bool.false_and]))
end
end Go.Proofs.YtohmldibkojkfaaGreatDoor.Aw
end
section
namespace Go.Proofs.YtohmldibkojkfaaGreatDoor.Aw
open Go Go.RowKit Go.Proofs Go.Maps Go.WideMaps
variable {P : Program} [IsP P]
abbrev pfN (n : Net) (w : List ByteArray) (most : Int) : Frm := [(2, eI most), (3, .ref (eN n).cells), (4, .ref [eL eS w]), (13, .fn 52 [.ref [eL eS w], .ref [eL eI (oneL n.places.toNat n.sink)]])]
abbrev pfF (n : Net) (w : List ByteArray) (most : Int) (q : List Nd) (i : Nat) : Frm := (14, .own 0 3 q.length) :: (15, .mp 1) :: (16, eI i) :: pfN n w most
abbrev pfS (P : Program) (q : List Nd) : List Ob := [.row 3 (q.map eNd), .mp ⟨P, 9, 4, q.length, zme q⟩]
set_option maxHeartbeats 4000000 in
theorem zsn (n : Net) (w : List ByteArray) (most : Int) : Pure P 17 [eN n, eL eS w, eI most] (eFt (FitsE n w most)) := by
 have hwo := zh5 (P := P) n
 have hna := zy9 (P := P) w
 have hini := zux (P := P) n
 have hfin := zzt (P := P) n
 refine zcu (by rw [IsP.eq (P := P)]; exact Tryz.func17) rfl rfl rfl rfl rfl (by repeat' (first | exact Lo.s _ | exact zar | refine zaj ?_ ?_ | refine za1 ?_ | refine Lo.agg _ ?_ | refine Lo.sl _ ?_ | intro _)) (by repeat' (first | exact Lo.s _ | exact zar | refine zaj ?_ ?_ | refine za1 ?_ | refine Lo.cells ?_ | refine Lo.agg _ ?_ | refine Lo.ref _ ?_ | refine Lo.tup _ ?_ | refine Lo.fn _ _ ?_ | refine Lo.sl _ ?_ | intro _)) (by simp only [argF]; rfl) ?_
 refine zaf (zab (zad rfl rfl (zaa rfl) (zbv rfl rfl rfl rfl) ?_))
 refine zau (zbk (id := 0) rfl) (zau (zch (d := 3) rfl rfl rfl) ?_)
 refine zad rfl rfl (zaa rfl) (zbv rfl rfl rfl rfl) ?_
 refine zau (zbk (id := 1) rfl) (zau (zch (d := 4) rfl rfl rfl) ?_)
 refine zac rfl (zac rfl (zac rfl (zae (zaf (zaq (zaf ?_))))))
 by_cases hw1 : wfB n = true ∧ allN w = true
 rotate_left
 ·
  have hF : FitsE n w most = (false, [], 1) := by
   have h1 : wordsE n w = 1 := by
    unfold wordsE
    rw [if_pos]
    cases h1 : wfB n <;> cases h2 : allN w <;> simp_all
   unfold FitsE
   rw [if_pos (by rw [h1]; decide), h1]
  cases hwf : wfB n with
  | false =>
   rw [hwf] at hwo
   refine zab (zbr ta24 ti24 rfl (zad rfl rfl (zaa rfl) (zai rfl rfl (hwo) (zag rfl zam)) (zad rfl rfl (zaa rfl) (zay rfl rfl) (zac rfl (zat rfl (zat rfl (zat rfl (zac rfl (zac rfl (zae (zah (za0 rfl (zaf (zab (zac rfl (zac rfl (zac rfl (zae (zah ?_)))))))))))))))))))
   (refine zav ?_; repeat (first | refine za6 ?_ | refine za7 ?_))
   rw [hF]
   exact zhd (.inr rfl) rfl rfl rfl (.refl _) .nil (.refl _)
  | true =>
   have hna2 : allN w = false := by cases h : allN w with | false => rfl | true => exact absurd ⟨hwf, h⟩ hw1
   rw [hwf] at hwo
   rw [hna2] at hna
   refine zab (zbr ta24 ti24 rfl (zad rfl rfl (zaa rfl) (zai rfl rfl (hwo) (zag rfl zam)) (zad rfl rfl (zaa rfl) (zay rfl rfl) (zac rfl (zbl ta44 rfl (zad rfl rfl (zal rfl rfl rfl) (zai rfl rfl (hna) (zag rfl zam)) (zad rfl rfl (zal rfl rfl rfl) (zay rfl rfl) (zac rfl (zac rfl (zae (zah (za0 rfl (zaf (zab (zac rfl (zac rfl (zac rfl (zae (zah ?_)))))))))))))))))))
   (refine zav ?_; repeat (first | refine za6 ?_ | refine za7 ?_))
   rw [hF]
   exact zhd (.inr rfl) rfl rfl rfl (.refl _) .nil (.refl _)
 obtain ⟨hwf, hnames⟩ := hw1
 rw [hwf] at hwo
 rw [hnames] at hna
 refine zab (zbr ta24 ti24 rfl (zad rfl rfl (zaa rfl) (zai rfl rfl (hwo) (zag rfl zam)) (zad rfl rfl (zaa rfl) (zay rfl rfl) (zac rfl (zbl ta44 rfl (zad rfl rfl (zal rfl rfl rfl) (zai rfl rfl (hna) (zag rfl zam)) (zad rfl rfl (zal rfl rfl rfl) (zay rfl rfl) (zac rfl (zac rfl (zae (zah (zax rfl (zaf ?_)))))))))))))
 refine zhn (d := 1) rfl (fun hwlen => ?_)
 unfold maxLen at hwlen
 refine zab (zbl ta44 rfl (zad rfl rfl (zaa rfl) (zak rfl ts44 rfl) (zad rfl rfl (zaa rfl) (za5 rfl rfl rfl) (zac rfl (zae (zah ?_))))))
 refine zeg rfl (fun h => ?_) (fun h => ?_)
 ·
  have h1 : wordsE n w = 5 := by
   unfold wordsE
   rw [hwf, hnames, if_neg (by simp), if_pos (by omega)]
  have hF : FitsE n w most = (false, [], 5) := by
   unfold FitsE
   rw [if_pos (by rw [h1]; decide), h1]
  refine zaf (zab (zac rfl (zac rfl (zac rfl (zae (zah ?_))))))
  (refine zav ?_; repeat (first | refine za6 ?_ | refine za7 ?_))
  rw [hF]
  exact zhd (.inr rfl) rfl rfl rfl (.refl _) .nil (.refl _)
 have hl200 : w.length ≤ 200 := by omega
 have h0 : wordsE n w = 0 := by
  unfold wordsE
  rw [hwf, hnames, if_neg (by simp), if_neg (by omega)]
 have hF0 : FitsE n w most = if most < 1 ∨ 2000 < most then (false, [], 2) else zfr n w most (most.toNat + 1) 0 [⟨0, oneL n.places.toNat n.source, []⟩] := if_neg (by rw [h0]; decide)
 have hval := (zvf hwf).valid
 have hpl := zbo hval
 have hends := zej hval
 have hoi : ∀ p, oneE n p = (oneL n.places.toNat p, 0) := fun p => by unfold oneE; rw [hval]; rfl
 rw [hoi] at hini hfin
 refine zaf ?_
 by_cases hr1 : most < 1
 ·
  rw [if_pos (.inl hr1)] at hF0
  refine zab (zac rfl (zad rfl rfl (zaa rfl) (zbp hr1 (zaz rfl rfl rfl)) (zac rfl (zat rfl (zat rfl (zac rfl (zac rfl (zae (zah (za0 rfl (zaf (zab (zac rfl (zac rfl (zac rfl (zae (zah ?_)))))))))))))))))
  (refine zav ?_; repeat (first | refine za6 ?_ | refine za7 ?_))
  rw [hF0]
  exact zhd (.inr rfl) rfl rfl rfl (.refl _) .nil (.refl _)
 by_cases hr2 : 2000 < most
 ·
  rw [if_pos (.inr hr2)] at hF0
  refine zab (zac rfl (zad rfl rfl (zaa rfl) (zbi hr1 (zaz rfl rfl rfl)) (zac rfl (zac rfl (zad rfl rfl (zal rfl rfl rfl) (zbp hr2 (za5 rfl rfl rfl)) (zac rfl (zac rfl (zae (zah (za0 rfl (zaf (zab (zac rfl (zac rfl (zac rfl (zae (zah ?_)))))))))))))))))
  (refine zav ?_; repeat (first | refine za6 ?_ | refine za7 ?_))
  rw [hF0]
  exact zhd (.inr rfl) rfl rfl rfl (.refl _) .nil (.refl _)
 rw [if_neg (by omega)] at hF0
 refine zab (zac rfl (zad rfl rfl (zaa rfl) (zbi hr1 (zaz rfl rfl rfl)) (zac rfl (zac rfl (zad rfl rfl (zal rfl rfl rfl) (zbi hr2 (za5 rfl rfl rfl)) (zac rfl (zac rfl (zae (zah (zax rfl (zao (zaf (zab (zbr ta24 ti24 rfl (zad rfl rfl (zaa rfl) (zai rfl rfl (hini) (zag rfl zam)) (zac rfl (zac rfl (zac rfl (zac rfl (zac rfl (zae (zaf (zab (zbr ta24 ti24 rfl (zad rfl rfl (zaa rfl) (zai rfl rfl (hfin) (zag rfl zam)) (zac rfl (zac rfl ?_)))))))))))))))))))))))))))
 refine zac rfl (zad rfl rfl (zaa rfl) (zbw rfl ti48 rfl rfl) (zcg rfl (zaa rfl) (za8 rfl ti48 rfl rfl rfl rfl rfl rfl (by decide) (by decide)) (zac rfl (zae (zaf ?_)))))
 refine zbd (zbk (id := 2) rfl) (zbd (zch (d := 11) rfl rfl rfl) ?_)
 refine zab (zad rfl rfl (zaa rfl) (zx3 rfl rfl) (zac rfl (zae (zaf (zab (zac rfl (zad rfl rfl (zaa rfl) (zbf rfl ti89 tp89 rfl rfl) (zad rfl rfl (zaa rfl) (zef rfl ts91 ti89 rfl rfl (by decide) (by decide) rfl rfl rfl) (zac rfl (zae (zaf ?_)))))))))))
 refine zbd (zvd (id := 3) (e' := eNd ⟨0, oneL n.places.toNat n.source, []⟩) (pre := [eI 0, eL eI (oneL n.places.toNat n.source)]) (post := []) rfl rfl rfl) ?_
 refine zbd (show Weak _ _ _ ((14, .own 0 3 1) :: (9, eL eI (oneL n.places.toNat n.source)) :: pfN n w most) [.row 3 [eNd ⟨0, oneL n.places.toNat n.source, []⟩]] from zc3 [3] (by decide) ⟨⟨_, rfl, .row 3 [eNd ⟨0, oneL n.places.toNat n.source, []⟩] (by repeat' (first | exact Lo.s _ | exact zar | exact zd9 | refine zaj ?_ ?_ | refine zdr ?_ ?_ | refine za1 ?_ | refine zdl ?_ | refine Lo.cells ?_ | refine Lo.agg _ ?_ | refine Lo.sl _ ?_ | intro _))⟩, trivial⟩ ⟨.own 3 0 3 1 _ rfl rfl, .lo _ (za1 fun _ => .s _), .lo _ (.s _), .lo _ (by repeat' (first | exact Lo.s _ | exact zar | refine zaj ?_ ?_ | refine za1 ?_ | refine Lo.cells ?_ | refine Lo.agg _ ?_ | refine Lo.ref _ ?_ | refine Lo.tup _ ?_ | refine Lo.fn _ _ ?_ | refine Lo.sl _ ?_ | intro _)), .lo _ (by repeat' (first | exact Lo.s _ | exact zar | refine zaj ?_ ?_ | refine za1 ?_ | refine Lo.cells ?_ | refine Lo.agg _ ?_ | refine Lo.ref _ ?_ | refine Lo.tup _ ?_ | refine Lo.fn _ _ ?_ | refine Lo.sl _ ?_ | intro _)), .lo _ (by repeat' (first | exact Lo.s _ | exact zar | refine zaj ?_ ?_ | refine za1 ?_ | refine Lo.cells ?_ | refine Lo.agg _ ?_ | refine Lo.ref _ ?_ | refine Lo.tup _ ?_ | refine Lo.fn _ _ ?_ | refine Lo.sl _ ?_ | intro _)), trivial⟩) ?_
 have HQ0 := QF.init w hval
 have hm0 : ∀ x ∈ (0 : Int) :: oneL n.places.toNat n.source, 0 ≤ x ∧ x ≤ 255 := ztb HQ0 hl200 ⟨0, oneL n.places.toNat n.source, []⟩ (by simp)
 have hmk0 : zc9 n (oneL n.places.toNat n.source) = true := (HQ0.at_ 0 (by simp)).1
 have hml0 := zll hmk0
 obtain ⟨kb0, hky0, hks0, _, hput0⟩ := zs4 (P := P) (n := n) (w := w) (q := []) ⟨fun i hi => absurd hi (by simp)⟩ hl200 hm0 (by omega)
 refine zab (zad rfl rfl (zaa rfl) (zno rfl tm93) (zad rfl rfl (zaa rfl) (ziy rfl ts48 ti3 rfl rfl rfl rfl) (zac rfl ?_)))
 refine zad rfl rfl (zaa rfl) (zb0 rfl ts48 ti3 rfl (by decide) rfl rfl (by first | rfl | (simp; done) | (simp; omega)) rfl (by first | exact .own _ _ _ rfl rfl _ (by first | rfl | simp) | exact .emp | exact .nil | exact .sl _ (by first | simp; done | intro e he; simp at he; obtain ⟨_, _, rfl⟩ := he; rfl)) (by first | omega | (simp; omega) | (unfold maxLen; simp; omega)) (by first | omega | (simp; omega) | (unfold maxLen; simp; omega))) ?_
 refine zau (zbk (id := 3) rfl) (zau (zkw (d := 62) rfl rfl (by first | rfl | (simp; done) | (simp; omega))) ?_)
 refine zad rfl rfl (zaa rfl) (zai rfl rfl (hky0) (zag rfl zam)) ?_
 refine zcg rfl (zaa rfl) (zii (.inr rfl) tm93 tK9 rfl rfl ⟨rfl, rfl, rfl⟩ (by (try dsimp only); unfold maxLen; omega) rfl rfl (keyOf_string_mk tn9 hks0) (plainElem_bool tn4 _)) ?_
 refine zac rfl (zac rfl (zae (zaf (zaf (zab (zac rfl (zae (zah (zaq ?_)))))))))
 refine zcd (S := List Nd × Nat) (fun s => pfF n w most s.1 s.2) (fun s => pfS P s.1) (fun s => s.2 ≤ s.1.length ∧ (s.1.length : Int) ≤ most ∧ QF n w s.1 ∧ FitsE n w most = zfr n w most (most.toNat + 1 - s.2) s.2 s.1) (fun s => most.toNat + 1 - s.2) ([⟨0, oneL n.places.toNat n.source, []⟩], 0)
  (zc3 [0, 1] (by decide) ⟨⟨_, rfl, .row 3 [eNd ⟨0, oneL n.places.toNat n.source, []⟩] (by repeat' (first | exact Lo.s _ | exact zar | exact zd9 | refine zaj ?_ ?_ | refine zdr ?_ ?_ | refine za1 ?_ | refine zdl ?_ | refine Lo.cells ?_ | refine Lo.agg _ ?_ | refine Lo.sl _ ?_ | intro _))⟩, ⟨_, rfl, ObRn.mpE (Nat.le_refl _) (hput0 [])⟩, trivial⟩ ⟨.own 0 0 3 1 _ rfl rfl, .mp 1 1 rfl, .lo _ (.s _), .lo _ (.s _), .lo _ (by repeat' (first | exact Lo.s _ | exact zar | refine zaj ?_ ?_ | refine za1 ?_ | refine Lo.cells ?_ | refine Lo.agg _ ?_ | refine Lo.ref _ ?_ | refine Lo.tup _ ?_ | refine Lo.fn _ _ ?_ | refine Lo.sl _ ?_ | intro _)), .lo _ (by repeat' (first | exact Lo.s _ | exact zar | refine zaj ?_ ?_ | refine za1 ?_ | refine Lo.cells ?_ | refine Lo.agg _ ?_ | refine Lo.ref _ ?_ | refine Lo.tup _ ?_ | refine Lo.fn _ _ ?_ | refine Lo.sl _ ?_ | intro _)), .lo _ (by repeat' (first | exact Lo.s _ | exact zar | refine zaj ?_ ?_ | refine za1 ?_ | refine Lo.cells ?_ | refine Lo.agg _ ?_ | refine Lo.ref _ ?_ | refine Lo.tup _ ?_ | refine Lo.fn _ _ ?_ | refine Lo.sl _ ?_ | intro _)), trivial⟩) ⟨by simp, by simp; omega, HQ0, hF0⟩ ?_
 rintro ⟨q, i⟩ ⟨hil, hql, HQ, HI⟩
 dsimp only at hil hql HQ HI ⊢
 refine zaf (zaf (zab (zac rfl (zac rfl (zad rfl rfl (zaa rfl) (zb7 rfl ts91 rfl) (zad rfl rfl (zaa rfl) (zaz rfl rfl rfl) (zae (zah ?_))))))))
 refine zeg rfl (fun hlt => ?_) (fun hlt => ?_)
 rotate_left
 ·
  have HE : FitsE n w most = (false, [], 0) := by
   rw [HI, show most.toNat + 1 - i = (most.toNat - i) + 1 by omega, zfr, if_neg (by omega), if_neg (by omega)]
  (refine zb1 ?_; repeat (first | refine zcx ?_ | refine zbs ?_ | refine zbe rfl ?_ | refine zb3 ?_ | refine zah ?_ | refine zaf ?_ | refine zao ?_ | refine zaq ?_))
  refine zab (zac rfl (zac rfl (zac rfl (zae (zah ?_)))))
  (refine zav ?_; repeat (first | refine za6 ?_ | refine za7 ?_))
  rw [HE]
  exact zhd (.inr rfl) rfl rfl rfl (.refl _) .nil (.refl _)
 replace hlt : i < q.length := by omega
 have hm : (i : Int) < most := by omega
 have HI1 : FitsE n w most = if zgc n w (gti q i) then (true, (gti q i).run, 0) else zfr n w most (most.toNat + 1 - (i + 1)) (i + 1) (zb4 n w most (gti q i) q n.trans.length) := by
  rw [HI, show most.toNat + 1 - i = (most.toNat + 1 - (i + 1)) + 1 by omega, zfr, if_pos ⟨hlt, hm⟩]
 obtain ⟨hxm, hxk0, hxk1, hxr⟩ := HQ.at_ i hlt
 have hdn := zxz (P := P) (gti q i) w (oneL n.places.toNat n.sink)
 obtain ⟨z, hz⟩ : ∃ z, zgc n w (gti q i) = z := ⟨_, rfl⟩
 have hz' := hz
 unfold zgc at hz'
 rw [hz'] at hdn
 rw [hz] at HI1
 refine zao (zaf (zaq (zaf (zab (zac rfl (zac rfl (zad rfl rfl (zaa rfl) (za2 rfl ts91 ti89 rfl rfl rfl (by omega)) (zad rfl rfl (zaa rfl) (zb2 rfl ta89 ti89 rfl rfl rfl (zbz hlt) rfl) (zad rfl rfl (zaa rfl) (zbw rfl ti89 rfl rfl) (zcg rfl (zaa rfl) (za8 rfl ti89 rfl rfl rfl rfl rfl rfl (by decide) (by decide)) (zae (zaf (zaf ?_)))))))))))))
 refine zbd (zbk (id := 2) rfl) (zbd (zch (d := 17) rfl rfl rfl) ?_)
 refine zab (zac rfl (zbr ta89 ti89 rfl (zad rfl rfl (zaa rfl) (zai rfl rfl (hdn) (zag rfl zam)) (zae (zah ?_)))))
 refine zep rfl (fun hzt => ?_) (fun hzf => ?_)
 ·
  subst hzt
  rw [if_pos rfl] at HI1
  refine zaf ?_
  refine zb6 hmix ?_
  refine zba (by kernel_rfl) ?_
  refine qx_f zvo rfl (qx_l ta48 rfl (qx_s rfl (qx_s rfl (qx_s rfl ?_))))
  refine zcp ?_
  refine zah ?_
  (refine zav ?_; repeat (first | refine za6 ?_ | refine za7 ?_))
  rw [HI1]
  exact zhd (.inr rfl) rfl rfl rfl (.refl _) (.refl _) (.refl _)
 subst hzf
 rw [if_neg (by simp)] at HI1
 refine zao (zaf (zab (zbh zc7 rfl (zbl ta22 rfl (zad rfl rfl (zaa rfl) (zak rfl ts22 rfl) (zac rfl (zae (zah (zaq ?_)))))))))
 refine zcd (S := Nat) (fun k => (17, .ref (eNd (gti q i)).cells) :: (81, eL eT n.trans) :: (82, eI n.trans.length) :: (83, eI k) :: pfF n w most (zb4 n w most (gti q i) q k) i) (fun k => pfS P (zb4 n w most (gti q i) q k)) (fun k => k ≤ n.trans.length ∧ ((zb4 n w most (gti q i) q k).length : Int) ≤ most) (fun k => n.trans.length - k) 0
  (zc3 [0, 1] (by decide) ⟨⟨_, rfl, .rowE (by repeat' (first | exact Lo.s _ | exact zar | exact zd9 | refine zaj ?_ ?_ | refine zdr ?_ ?_ | refine za1 ?_ | refine zdl ?_ | refine Lo.cells ?_ | refine Lo.agg _ ?_ | refine Lo.sl _ ?_ | intro _)) rfl⟩, ⟨_, rfl, ObRn.mpE (Nat.le_refl _) rfl⟩, trivial⟩ ⟨.lo _ (by repeat' (first | exact Lo.s _ | exact zar | refine zaj ?_ ?_ | refine za1 ?_ | refine Lo.cells ?_ | refine Lo.agg _ ?_ | refine Lo.ref _ ?_ | refine Lo.tup _ ?_ | refine Lo.fn _ _ ?_ | refine Lo.sl _ ?_ | intro _)), .lo _ (by repeat' (first | exact Lo.s _ | exact zar | refine zaj ?_ ?_ | refine za1 ?_ | refine Lo.agg _ ?_ | refine Lo.sl _ ?_ | intro _)), .lo _ (.s _), .lo _ (.s _), .own 0 0 3 _ _ rfl rfl, .mp 1 1 rfl, .lo _ (.s _), .lo _ (.s _), .lo _ (by repeat' (first | exact Lo.s _ | exact zar | refine zaj ?_ ?_ | refine za1 ?_ | refine Lo.cells ?_ | refine Lo.agg _ ?_ | refine Lo.ref _ ?_ | refine Lo.tup _ ?_ | refine Lo.fn _ _ ?_ | refine Lo.sl _ ?_ | intro _)), .lo _ (by repeat' (first | exact Lo.s _ | exact zar | refine zaj ?_ ?_ | refine za1 ?_ | refine Lo.cells ?_ | refine Lo.agg _ ?_ | refine Lo.ref _ ?_ | refine Lo.tup _ ?_ | refine Lo.fn _ _ ?_ | refine Lo.sl _ ?_ | intro _)), .lo _ (by repeat' (first | exact Lo.s _ | exact zar | refine zaj ?_ ?_ | refine za1 ?_ | refine Lo.cells ?_ | refine Lo.agg _ ?_ | refine Lo.ref _ ?_ | refine Lo.tup _ ?_ | refine Lo.fn _ _ ?_ | refine Lo.sl _ ?_ | intro _)), trivial⟩) ⟨Nat.zero_le _, hql⟩ (fun k hk => ?_)
 obtain ⟨hk, hkl⟩ := hk
 have hQk := HQ.round (most := most) hlt k
 have hqg := zd7 n w most (gti q i) q k
 have hqx : gti (zb4 n w most (gti q i) q k) i = gti q i := zf4 hlt k
 have hstep : zb4 n w most (gti q i) q (k + 1) = zf3 n w (gti q i) (zb4 n w most (gti q i) q k) k := if_pos hkl
 have hstop : most < ((zb4 n w most (gti q i) q (k + 1)).length : Int) → k + 1 ≤ n.trans.length → zb4 n w most (gti q i) q n.trans.length = zb4 n w most (gti q i) q (k + 1) := fun h h2 => by
  have := zgn h (n.trans.length - (k + 1))
  rwa [show k + 1 + (n.trans.length - (k + 1)) = n.trans.length by omega] at this
 have hQT := HQ.round (most := most) hlt n.trans.length
 have hend : k = n.trans.length → zb4 n w most (gti q i) q n.trans.length = zb4 n w most (gti q i) q k := fun h => by rw [h]
 have hgeT := zd7 n w most (gti q i) q n.trans.length
 generalize hqk : zb4 n w most (gti q i) q k = qk at *
 generalize hqT : zb4 n w most (gti q i) q n.trans.length = qT at *
 generalize hqS : zb4 n w most (gti q i) q (k + 1) = qS at *
 have hi2 : i < qk.length := by omega
 have hrun := (hQk.at_ i hi2).2.2.2
 rw [hqx] at hrun
 refine zaf (zab (zad rfl rfl (zaa rfl) (zaz rfl rfl rfl) (zae (zaf ?_))))
 refine zeg rfl (fun hkt => ?_) (fun hkt => ?_)
 rotate_left
 ·
  have hT := hend (by omega)
  (refine zb1 ?_; repeat (first | refine zcx ?_ | refine zbs ?_ | refine zbe rfl ?_ | refine zb3 ?_ | refine zah ?_ | refine zaf ?_ | refine zao ?_ | refine zaq ?_))
  refine zab (zac rfl (zad rfl rfl (zaa rfl) (za4 rfl rfl rfl (IntWalk.i64_in _ (by omega))) (zac rfl (zae (zah ?_)))))
  rw [hT] at hQT HI1
  exact ⟨(qk, i + 1), ⟨by dsimp only; omega, hkl, hQT, HI1⟩, by dsimp only; omega, zbx _ ⟨rfl, rfl, rfl, rfl, rfl, rfl, rfl, trivial⟩⟩
 replace hkt : k < n.trans.length := by omega
 refine zao (zaf (zaq (zaf (zab (zac rfl (zad rfl rfl (zaa rfl) (zan rfl ts22 ti65 rfl rfl rfl (zbz (by omega)) rfl) (zbr ta65 ti65 rfl (zad rfl rfl (zaa rfl) (zbw rfl ti65 rfl rfl) (zac rfl (zcg rfl (zaa rfl) (za8 rfl ti65 rfl rfl rfl rfl rfl rfl (by decide) (by decide)) (zae (zaf ?_))))))))))))
 refine zbd (zbk (id := 2) rfl) (zbd (zch (d := 19) rfl rfl rfl) ?_)
 refine zab (zbh zvp rfl (zbl ta3 rfl (zac rfl (zae (zaf (zaf ?_))))))
 have hlk : lblK n w (gti q i) k = if (gti n.trans k).label = eBA then some (gti q i).k else if (w.length : Int) ≤ (gti q i).k ∨ gti w (gti q i).k.toNat ≠ (gti n.trans k).label then none else some ((gti q i).k + 1) := rfl
 have hSn : lblK n w (gti q i) k = none → qS = qk := by
  intro h
  rw [hstep]; unfold zf3; rw [h]
 have hSs : ∀ kk, lblK n w (gti q i) k = some kk → qS = if (zci n (gti q i).m k).2 ≠ 0 ∨ (kk, (zci n (gti q i).m k).1) ∈ qk.map nkey then qk else qk ++ [⟨kk, (zci n (gti q i).m k).1, (gti q i).run ++ [(k : Int)]⟩] := by
  intro kk h
  rw [hstep]; unfold zf3; rw [h]
 have hkk0 : ∀ kk, lblK n w (gti q i) k = some kk → 0 ≤ kk ∧ kk ≤ w.length := by
  intro kk h
  rw [hlk] at h
  split at h
  ·
   cases h; omega
  ·
   split at h
   ·
    cases h
   ·
    rename_i h2; rw [not_or] at h2; cases h; omega
 generalize hxkk : (gti q i).k = xk at *
 obtain ⟨kn, hkn⟩ : ∃ kn : Nat, xk = kn := ⟨xk.toNat, by omega⟩
 refine zab (zbh zjs rfl (zbl ta9 rfl (zad rfl rfl (zaa rfl) (zgw rfl rfl rfl) (zae (zah ?_)))))
 refine zsi (S := Int) (fun kk => (18, eI k) :: (20, eI kk) :: (17, .ref (eNd (gti q i)).cells) :: (81, eL eT n.trans) :: (82, eI n.trans.length) :: (83, eI k) :: pfF n w most qk i) (fun _ => pfS P qk) (fun kk => lblK n w (gti q i) k = some kk) ?_ ?_
 ·
  refine zeg rfl (fun hlab => ?_) (fun hlab => ?_)
  rotate_left
  ·
   have hlab2 : (gti n.trans k).label = eBA := Decidable.not_not.1 hlab
   rw [if_pos hlab2] at hlk
   refine zao (zah ?_)
   refine ⟨xk, hlk, ?_⟩
   exact zc3 [0, 1] (by decide) ⟨⟨_, rfl, .rowE (by repeat' (first | exact Lo.s _ | exact zar | exact zd9 | refine zaj ?_ ?_ | refine zdr ?_ ?_ | refine za1 ?_ | refine zdl ?_ | refine Lo.cells ?_ | refine Lo.agg _ ?_ | refine Lo.sl _ ?_ | intro _)) rfl⟩, ⟨_, rfl, ObRn.mpE (Nat.le_refl _) rfl⟩, trivial⟩ ⟨.lo _ (.s _), .lo _ (.s _), .lo _ (by repeat' (first | exact Lo.s _ | exact zar | refine zaj ?_ ?_ | refine za1 ?_ | refine Lo.cells ?_ | refine Lo.agg _ ?_ | refine Lo.ref _ ?_ | refine Lo.tup _ ?_ | refine Lo.fn _ _ ?_ | refine Lo.sl _ ?_ | intro _)), .lo _ (by repeat' (first | exact Lo.s _ | exact zar | refine zaj ?_ ?_ | refine za1 ?_ | refine Lo.agg _ ?_ | refine Lo.sl _ ?_ | intro _)), .lo _ (.s _), .lo _ (.s _), .own 0 0 3 _ _ rfl rfl, .mp 1 1 rfl, .lo _ (.s _), .lo _ (.s _), .lo _ (by repeat' (first | exact Lo.s _ | exact zar | refine zaj ?_ ?_ | refine za1 ?_ | refine Lo.cells ?_ | refine Lo.agg _ ?_ | refine Lo.ref _ ?_ | refine Lo.tup _ ?_ | refine Lo.fn _ _ ?_ | refine Lo.sl _ ?_ | intro _)), .lo _ (by repeat' (first | exact Lo.s _ | exact zar | refine zaj ?_ ?_ | refine za1 ?_ | refine Lo.cells ?_ | refine Lo.agg _ ?_ | refine Lo.ref _ ?_ | refine Lo.tup _ ?_ | refine Lo.fn _ _ ?_ | refine Lo.sl _ ?_ | intro _)), .lo _ (by repeat' (first | exact Lo.s _ | exact zar | refine zaj ?_ ?_ | refine za1 ?_ | refine Lo.cells ?_ | refine Lo.agg _ ?_ | refine Lo.ref _ ?_ | refine Lo.tup _ ?_ | refine Lo.fn _ _ ?_ | refine Lo.sl _ ?_ | intro _)), trivial⟩
  ·
   rw [if_neg hlab] at hlk
   refine zaf (zaf ?_)
   by_cases hke : xk = (w.length : Int)
   ·
    rw [if_pos (.inl (by omega))] at hlk
    have hSq := hSn hlk
    refine zb6 hmix ?_
    refine zba (by kernel_rfl) ?_
    refine qx_s rfl (qx_l ta44 rfl (za9 rfl rfl (zaa rfl) (zak rfl ts44 rfl) (za9 rfl rfl (zaa rfl) (zbp hke (zcc rfl rfl rfl)) (qx_s rfl (qx_z rfl (qx_z rfl (qx_z rfl (qx_z rfl (qx_z rfl (qx_z rfl (qx_z rfl (qx_s rfl ?_))))))))))))
    refine zcp ?_
    refine zah (za0 rfl ?_)
    (refine zb1 ?_; repeat (first | refine zcx ?_ | refine zbs ?_ | refine zbe rfl ?_ | refine zb3 ?_ | refine zah ?_ | refine zaf ?_ | refine zao ?_ | refine zaq ?_))
    refine zab (zad rfl rfl (zaa rfl) (za4 rfl rfl rfl (IntWalk.i64_in _ (by omega))) (zac rfl (zae (zah ?_))))
    refine ⟨k + 1, ⟨hkt, by rw [hqS, hSq]; exact hkl⟩, by omega, ?_⟩
    rw [hqS, hSq]
    exact zc3 [0, 1] (by decide) ⟨⟨_, rfl, .rowE (by repeat' (first | exact Lo.s _ | exact zar | exact zd9 | refine zaj ?_ ?_ | refine zdr ?_ ?_ | refine za1 ?_ | refine zdl ?_ | refine Lo.cells ?_ | refine Lo.agg _ ?_ | refine Lo.sl _ ?_ | intro _)) rfl⟩, ⟨_, rfl, ObRn.mpE (Nat.le_refl _) rfl⟩, trivial⟩ ⟨.lo _ (by repeat' (first | exact Lo.s _ | exact zar | refine zaj ?_ ?_ | refine za1 ?_ | refine Lo.cells ?_ | refine Lo.agg _ ?_ | refine Lo.ref _ ?_ | refine Lo.tup _ ?_ | refine Lo.fn _ _ ?_ | refine Lo.sl _ ?_ | intro _)), .lo _ (by repeat' (first | exact Lo.s _ | exact zar | refine zaj ?_ ?_ | refine za1 ?_ | refine Lo.agg _ ?_ | refine Lo.sl _ ?_ | intro _)), .lo _ (.s _), .lo _ (.s _), .own 0 0 3 _ _ rfl rfl, .mp 1 1 rfl, .lo _ (.s _), .lo _ (.s _), .lo _ (by repeat' (first | exact Lo.s _ | exact zar | refine zaj ?_ ?_ | refine za1 ?_ | refine Lo.cells ?_ | refine Lo.agg _ ?_ | refine Lo.ref _ ?_ | refine Lo.tup _ ?_ | refine Lo.fn _ _ ?_ | refine Lo.sl _ ?_ | intro _)), .lo _ (by repeat' (first | exact Lo.s _ | exact zar | refine zaj ?_ ?_ | refine za1 ?_ | refine Lo.cells ?_ | refine Lo.agg _ ?_ | refine Lo.ref _ ?_ | refine Lo.tup _ ?_ | refine Lo.fn _ _ ?_ | refine Lo.sl _ ?_ | intro _)), .lo _ (by repeat' (first | exact Lo.s _ | exact zar | refine zaj ?_ ?_ | refine za1 ?_ | refine Lo.cells ?_ | refine Lo.agg _ ?_ | refine Lo.ref _ ?_ | refine Lo.tup _ ?_ | refine Lo.fn _ _ ?_ | refine Lo.sl _ ?_ | intro _)), trivial⟩
   ·
    have hkw : kn < w.length := by omega
    by_cases hwl : gti w kn = (gti n.trans k).label
    ·
     rw [if_neg (by rw [not_or, hkn, Int.toNat_natCast]; exact ⟨by omega, fun h => h hwl⟩)] at hlk
     refine zb6 hmix ?_
     refine zba (by kernel_rfl) ?_
     refine qx_s rfl (qx_l ta44 rfl (za9 rfl rfl (zaa rfl) (zak rfl ts44 rfl) (za9 rfl rfl (zaa rfl) (zbi hke (zcc rfl rfl rfl)) (qx_s rfl (qx_l ta44 rfl (qx_s rfl (za9 rfl rfl (zal rfl rfl rfl) (zan rfl ts44 ti9 rfl rfl hkn (zbz hkw) rfl) (qx_l ta9 rfl (qx_f zjs rfl (qx_l ta9 rfl ?_))))))))))
     refine za9 rfl rfl (zal rfl rfl rfl) (zbi (fun h => h hwl) (zgw rfl rfl rfl)) ?_
     refine qx_s rfl ?_
     refine zcp ?_
     refine zah (zax rfl (zao (zah (zab (zac rfl (zad rfl rfl (zaa rfl) (za4 rfl rfl rfl (IntWalk.i64_in _ (by omega))) (zac rfl (zae (zah ?_)))))))))
     refine ⟨xk + 1, hlk, ?_⟩
     exact zc3 [0, 1] (by decide) ⟨⟨_, rfl, .rowE (by repeat' (first | exact Lo.s _ | exact zar | exact zd9 | refine zaj ?_ ?_ | refine zdr ?_ ?_ | refine za1 ?_ | refine zdl ?_ | refine Lo.cells ?_ | refine Lo.agg _ ?_ | refine Lo.sl _ ?_ | intro _)) rfl⟩, ⟨_, rfl, ObRn.mpE (Nat.le_refl _) rfl⟩, trivial⟩ ⟨.lo _ (.s _), .lo _ (.s _), .lo _ (by repeat' (first | exact Lo.s _ | exact zar | refine zaj ?_ ?_ | refine za1 ?_ | refine Lo.cells ?_ | refine Lo.agg _ ?_ | refine Lo.ref _ ?_ | refine Lo.tup _ ?_ | refine Lo.fn _ _ ?_ | refine Lo.sl _ ?_ | intro _)), .lo _ (by repeat' (first | exact Lo.s _ | exact zar | refine zaj ?_ ?_ | refine za1 ?_ | refine Lo.agg _ ?_ | refine Lo.sl _ ?_ | intro _)), .lo _ (.s _), .lo _ (.s _), .own 0 0 3 _ _ rfl rfl, .mp 1 1 rfl, .lo _ (.s _), .lo _ (.s _), .lo _ (by repeat' (first | exact Lo.s _ | exact zar | refine zaj ?_ ?_ | refine za1 ?_ | refine Lo.cells ?_ | refine Lo.agg _ ?_ | refine Lo.ref _ ?_ | refine Lo.tup _ ?_ | refine Lo.fn _ _ ?_ | refine Lo.sl _ ?_ | intro _)), .lo _ (by repeat' (first | exact Lo.s _ | exact zar | refine zaj ?_ ?_ | refine za1 ?_ | refine Lo.cells ?_ | refine Lo.agg _ ?_ | refine Lo.ref _ ?_ | refine Lo.tup _ ?_ | refine Lo.fn _ _ ?_ | refine Lo.sl _ ?_ | intro _)), .lo _ (by repeat' (first | exact Lo.s _ | exact zar | refine zaj ?_ ?_ | refine za1 ?_ | refine Lo.cells ?_ | refine Lo.agg _ ?_ | refine Lo.ref _ ?_ | refine Lo.tup _ ?_ | refine Lo.fn _ _ ?_ | refine Lo.sl _ ?_ | intro _)), trivial⟩
    ·
     rw [if_pos (.inr (by rw [hkn, Int.toNat_natCast]; exact hwl))] at hlk
     have hSq := hSn hlk
     refine zb6 hmix ?_
     refine zba (by kernel_rfl) ?_
     refine qx_s rfl (qx_l ta44 rfl (za9 rfl rfl (zaa rfl) (zak rfl ts44 rfl) (za9 rfl rfl (zaa rfl) (zbi hke (zcc rfl rfl rfl)) (qx_s rfl (qx_l ta44 rfl (qx_s rfl (za9 rfl rfl (zal rfl rfl rfl) (zan rfl ts44 ti9 rfl rfl hkn (zbz hkw) rfl) (qx_l ta9 rfl (qx_f zjs rfl (qx_l ta9 rfl (za9 rfl rfl (zal rfl rfl rfl) (zbp hwl (zgw rfl rfl rfl)) (qx_s rfl ?_))))))))))))
     refine zcp ?_
     refine zah (za0 rfl ?_)
     (refine zb1 ?_; repeat (first | refine zcx ?_ | refine zbs ?_ | refine zbe rfl ?_ | refine zb3 ?_ | refine zah ?_ | refine zaf ?_ | refine zao ?_ | refine zaq ?_))
     refine zab (zad rfl rfl (zaa rfl) (za4 rfl rfl rfl (IntWalk.i64_in _ (by omega))) (zac rfl (zae (zah ?_))))
     refine ⟨k + 1, ⟨hkt, by rw [hqS, hSq]; exact hkl⟩, by omega, ?_⟩
     rw [hqS, hSq]
     exact zc3 [0, 1] (by decide) ⟨⟨_, rfl, .rowE (by repeat' (first | exact Lo.s _ | exact zar | exact zd9 | refine zaj ?_ ?_ | refine zdr ?_ ?_ | refine za1 ?_ | refine zdl ?_ | refine Lo.cells ?_ | refine Lo.agg _ ?_ | refine Lo.sl _ ?_ | intro _)) rfl⟩, ⟨_, rfl, ObRn.mpE (Nat.le_refl _) rfl⟩, trivial⟩ ⟨.lo _ (by repeat' (first | exact Lo.s _ | exact zar | refine zaj ?_ ?_ | refine za1 ?_ | refine Lo.cells ?_ | refine Lo.agg _ ?_ | refine Lo.ref _ ?_ | refine Lo.tup _ ?_ | refine Lo.fn _ _ ?_ | refine Lo.sl _ ?_ | intro _)), .lo _ (by repeat' (first | exact Lo.s _ | exact zar | refine zaj ?_ ?_ | refine za1 ?_ | refine Lo.agg _ ?_ | refine Lo.sl _ ?_ | intro _)), .lo _ (.s _), .lo _ (.s _), .own 0 0 3 _ _ rfl rfl, .mp 1 1 rfl, .lo _ (.s _), .lo _ (.s _), .lo _ (by repeat' (first | exact Lo.s _ | exact zar | refine zaj ?_ ?_ | refine za1 ?_ | refine Lo.cells ?_ | refine Lo.agg _ ?_ | refine Lo.ref _ ?_ | refine Lo.tup _ ?_ | refine Lo.fn _ _ ?_ | refine Lo.sl _ ?_ | intro _)), .lo _ (by repeat' (first | exact Lo.s _ | exact zar | refine zaj ?_ ?_ | refine za1 ?_ | refine Lo.cells ?_ | refine Lo.agg _ ?_ | refine Lo.ref _ ?_ | refine Lo.tup _ ?_ | refine Lo.fn _ _ ?_ | refine Lo.sl _ ?_ | intro _)), .lo _ (by repeat' (first | exact Lo.s _ | exact zar | refine zaj ?_ ?_ | refine za1 ?_ | refine Lo.cells ?_ | refine Lo.agg _ ?_ | refine Lo.ref _ ?_ | refine Lo.tup _ ?_ | refine Lo.fn _ _ ?_ | refine Lo.sl _ ?_ | intro _)), trivial⟩
 intro kk hkk
 have hSS := hSs kk hkk
 have hkb := hkk0 kk hkk
 have hfire := z3n (P := P) n (gti q i).m k
 have hpsame : ∀ {x : Nd}, gti qk i = x → True := fun _ => trivial
 have hfm : (zci n (gti q i).m k).2 = 0 → zc9 n (zci n (gti q i).m k).1 = true := fun h => zjr hxm h
 generalize hfe : zci n (gti q i).m k = fe at *
 refine zaf (zab (zbr ta24 ti24 rfl (zbh z0l rfl (zbl ta48 rfl (zac rfl (zad rfl rfl (zaa rfl) (zai rfl rfl (hfire) (zag rfl (zag rfl (zag rfl zam)))) (zac rfl (zac rfl (zac rfl (zac rfl (zac rfl (zae (zaf (zaf ?_))))))))))))))
 by_cases hf0 : fe.2 = 0
 rotate_left
 ·
  rw [if_pos (.inl hf0)] at hSS
  refine zab (zac rfl (zad rfl rfl (zaa rfl) (zbp hf0 (zbg rfl rfl rfl)) (zac rfl (zat rfl (zat rfl (zat rfl (zat rfl (zat rfl (zat rfl (zat rfl (zac rfl (zae (zah (za0 rfl ?_))))))))))))))
  (refine zb1 ?_; repeat (first | refine zcx ?_ | refine zbs ?_ | refine zbe rfl ?_ | refine zb3 ?_ | refine zah ?_ | refine zaf ?_ | refine zao ?_ | refine zaq ?_))
  refine zab (zad rfl rfl (zaa rfl) (za4 rfl rfl rfl (IntWalk.i64_in _ (by omega))) (zac rfl (zae (zah ?_))))
  refine ⟨k + 1, ⟨hkt, by rw [hqS, hSS]; exact hkl⟩, by omega, ?_⟩
  rw [hqS, hSS]
  exact zbx _ ⟨rfl, rfl, rfl, rfl, rfl, rfl, rfl, rfl, rfl, rfl, rfl, trivial⟩
 have hfmk := hfm hf0
 have hfml := zll hfmk
 have hm1 : ∀ x ∈ kk :: fe.1, 0 ≤ x ∧ x ≤ 255 := by
  intro x hx
  rcases List.mem_cons.1 hx with rfl | hx
  ·
   omega
  ·
   exact zie hfmk x hx
 obtain ⟨kb1, hky1, hks1, hlook, hput1⟩ := zs4 (P := P) hQk hl200 hm1 (by omega)
 by_cases hmem : (kk, fe.1) ∈ qk.map nkey
 ·
  rw [if_pos (.inr hmem)] at hSS
  rw [decide_eq_true hmem] at hlook
  refine zab (zac rfl ?_)
  refine zad rfl rfl (zaa rfl) (zbi (fun h => h hf0) (zbg rfl rfl rfl)) ?_
  refine zac rfl (zac rfl (zac rfl (zad rfl rfl (zal rfl rfl rfl) (ziy rfl ts48 ti3 rfl rfl rfl rfl) (zac rfl ?_))))
  refine zad rfl rfl (zal rfl rfl rfl) (zb0 rfl ts48 ti3 rfl (by decide) rfl rfl (by first | rfl | (simp; done) | (simp; omega)) rfl (by first | exact .own _ _ _ rfl rfl _ (by first | rfl | simp) | exact .emp | exact .nil | exact .sl _ (by first | simp; done | intro e he; simp at he; obtain ⟨_, _, rfl⟩ := he; rfl)) (by first | omega | (simp; omega) | (unfold maxLen; simp; omega)) (by first | omega | (simp; omega) | (unfold maxLen; simp; omega))) ?_
  refine zau (zbk (id := 3) rfl) (zau (zkw (d := 123) rfl rfl (by first | rfl | (simp; done) | (simp; omega))) ?_)
  refine zad rfl rfl (zal rfl rfl rfl) (zai rfl rfl (hky1) (zag rfl zam)) (zad rfl rfl (zal rfl rfl rfl) (zl5 rfl tm93 tK9 rfl rfl ⟨rfl, rfl, rfl⟩ rfl (keyOf_string_mk tn9 hks1) ti4 (plainElem_bool tn4 _) hlook) (zac rfl (zae (zah (za0 rfl ?_)))))
  (refine zb1 ?_; repeat (first | refine zcx ?_ | refine zbs ?_ | refine zbe rfl ?_ | refine zb3 ?_ | refine zah ?_ | refine zaf ?_ | refine zao ?_ | refine zaq ?_))
  refine zab (zad rfl rfl (zaa rfl) (za4 rfl rfl rfl (IntWalk.i64_in _ (by omega))) (zac rfl (zae (zah ?_))))
  refine ⟨k + 1, ⟨hkt, by rw [hqS, hSS]; exact hkl⟩, by omega, ?_⟩
  rw [hqS, hSS]
  exact zc3 [0, 1] (by decide) ⟨⟨_, rfl, .rowE (by repeat' (first | exact Lo.s _ | exact zar | exact zd9 | refine zaj ?_ ?_ | refine zdr ?_ ?_ | refine za1 ?_ | refine zdl ?_ | refine Lo.cells ?_ | refine Lo.agg _ ?_ | refine Lo.sl _ ?_ | intro _)) rfl⟩, ⟨_, rfl, ObRn.mpE (Nat.le_refl _) rfl⟩, trivial⟩ ⟨.lo _ (by repeat' (first | exact Lo.s _ | exact zar | refine zaj ?_ ?_ | refine za1 ?_ | refine Lo.cells ?_ | refine Lo.agg _ ?_ | refine Lo.ref _ ?_ | refine Lo.tup _ ?_ | refine Lo.fn _ _ ?_ | refine Lo.sl _ ?_ | intro _)), .lo _ (by repeat' (first | exact Lo.s _ | exact zar | refine zaj ?_ ?_ | refine za1 ?_ | refine Lo.agg _ ?_ | refine Lo.sl _ ?_ | intro _)), .lo _ (.s _), .lo _ (.s _), .own 0 0 3 _ _ rfl rfl, .mp 1 1 rfl, .lo _ (.s _), .lo _ (.s _), .lo _ (by repeat' (first | exact Lo.s _ | exact zar | refine zaj ?_ ?_ | refine za1 ?_ | refine Lo.cells ?_ | refine Lo.agg _ ?_ | refine Lo.ref _ ?_ | refine Lo.tup _ ?_ | refine Lo.fn _ _ ?_ | refine Lo.sl _ ?_ | intro _)), .lo _ (by repeat' (first | exact Lo.s _ | exact zar | refine zaj ?_ ?_ | refine za1 ?_ | refine Lo.cells ?_ | refine Lo.agg _ ?_ | refine Lo.ref _ ?_ | refine Lo.tup _ ?_ | refine Lo.fn _ _ ?_ | refine Lo.sl _ ?_ | intro _)), .lo _ (by repeat' (first | exact Lo.s _ | exact zar | refine zaj ?_ ?_ | refine za1 ?_ | refine Lo.cells ?_ | refine Lo.agg _ ?_ | refine Lo.ref _ ?_ | refine Lo.tup _ ?_ | refine Lo.fn _ _ ?_ | refine Lo.sl _ ?_ | intro _)), trivial⟩
 rw [if_neg (by rw [not_or]; exact ⟨fun h => h hf0, hmem⟩)] at hSS
 rw [decide_eq_false hmem] at hlook
 refine zab (zac rfl ?_)
 refine zad rfl rfl (zaa rfl) (zbi (fun h => h hf0) (zbg rfl rfl rfl)) ?_
 refine zac rfl (zac rfl (zac rfl (zad rfl rfl (zal rfl rfl rfl) (ziy rfl ts48 ti3 rfl rfl rfl rfl) (zac rfl ?_))))
 refine zad rfl rfl (zal rfl rfl rfl) (zb0 rfl ts48 ti3 rfl (by decide) rfl rfl (by first | rfl | (simp; done) | (simp; omega)) rfl (by first | exact .own _ _ _ rfl rfl _ (by first | rfl | simp) | exact .emp | exact .nil | exact .sl _ (by first | simp; done | intro e he; simp at he; obtain ⟨_, _, rfl⟩ := he; rfl)) (by first | omega | (simp; omega) | (unfold maxLen; simp; omega)) (by first | omega | (simp; omega) | (unfold maxLen; simp; omega))) ?_
 refine zau (zbk (id := 3) rfl) (zau (zkw (d := 123) rfl rfl (by first | rfl | (simp; done) | (simp; omega))) ?_)
 refine zad rfl rfl (zal rfl rfl rfl) (zai rfl rfl (hky1) (zag rfl zam)) (zad rfl rfl (zal rfl rfl rfl) (zl5 rfl tm93 tK9 rfl rfl ⟨rfl, rfl, rfl⟩ rfl (keyOf_string_mk tn9 hks1) ti4 (plainElem_bool tn4 _) hlook) (zac rfl (zae (zah (zax rfl ?_)))))
 refine zbd (show Weak _ _ _ ((18, eI k) :: (20, eI kk) :: (21, eL eI fe.1) :: (17, .ref (eNd (gti q i)).cells) :: (81, eL eT n.trans) :: (82, eI n.trans.length) :: (83, eI k) :: pfF n w most qk i) (pfS P qk) from zc3 [0, 1] (by decide) ⟨⟨_, rfl, .rowE (by repeat' (first | exact Lo.s _ | exact zar | exact zd9 | refine zaj ?_ ?_ | refine zdr ?_ ?_ | refine za1 ?_ | refine zdl ?_ | refine Lo.cells ?_ | refine Lo.agg _ ?_ | refine Lo.sl _ ?_ | intro _)) rfl⟩, ⟨_, rfl, ObRn.mpE (Nat.le_refl _) rfl⟩, trivial⟩ ⟨.lo _ (.s _), .lo _ (.s _), .lo _ (za1 fun _ => .s _), .lo _ (by repeat' (first | exact Lo.s _ | exact zar | refine zaj ?_ ?_ | refine za1 ?_ | refine Lo.cells ?_ | refine Lo.agg _ ?_ | refine Lo.ref _ ?_ | refine Lo.tup _ ?_ | refine Lo.fn _ _ ?_ | refine Lo.sl _ ?_ | intro _)), .lo _ (by repeat' (first | exact Lo.s _ | exact zar | refine zaj ?_ ?_ | refine za1 ?_ | refine Lo.agg _ ?_ | refine Lo.sl _ ?_ | intro _)), .lo _ (.s _), .lo _ (.s _), .own 0 0 3 _ _ rfl rfl, .mp 1 1 rfl, .lo _ (.s _), .lo _ (.s _), .lo _ (by repeat' (first | exact Lo.s _ | exact zar | refine zaj ?_ ?_ | refine za1 ?_ | refine Lo.cells ?_ | refine Lo.agg _ ?_ | refine Lo.ref _ ?_ | refine Lo.tup _ ?_ | refine Lo.fn _ _ ?_ | refine Lo.sl _ ?_ | intro _)), .lo _ (by repeat' (first | exact Lo.s _ | exact zar | refine zaj ?_ ?_ | refine za1 ?_ | refine Lo.cells ?_ | refine Lo.agg _ ?_ | refine Lo.ref _ ?_ | refine Lo.tup _ ?_ | refine Lo.fn _ _ ?_ | refine Lo.sl _ ?_ | intro _)), .lo _ (by repeat' (first | exact Lo.s _ | exact zar | refine zaj ?_ ?_ | refine za1 ?_ | refine Lo.cells ?_ | refine Lo.agg _ ?_ | refine Lo.ref _ ?_ | refine Lo.tup _ ?_ | refine Lo.fn _ _ ?_ | refine Lo.sl _ ?_ | intro _)), trivial⟩) ?_
 refine zao (zaf (zaf ?_))
 by_cases hfull : (qk.length : Int) = most
 ·
  refine zab (zac rfl (zad rfl rfl (zaa rfl) (zb7 rfl ts91 rfl) (zac rfl (zad rfl rfl (zaa rfl) (zbp hfull (zcc rfl rfl rfl)) (zae (zah (za0 rfl ?_)))))))
  have hT := hstop (by rw [hSS]; simp; omega) hkt
  have HO : FitsE n w most = match (qk.drop i).find? (zgc n w) with | some y => (true, y.run, 0) | none => (false, [], 13) := by
   rw [HI1, hT, hSS, zpd (by simp; omega) _ _ (by omega) (by omega)]
   have e1 : (qk ++ [(⟨kk, fe.1, (gti q i).run ++ [(k : Int)]⟩ : Nd)]).take most.toNat = qk := by
    rw [show most.toNat = qk.length by omega, List.take_left']
    rfl
   rw [e1, zco hi2, List.find?_cons, hqx, hz]
   rfl
  refine zaf (zaf ?_)
  refine zbd (zbk (id := 0) rfl) (zbd (zkw (d := 14) rfl rfl (by simp)) ?_)
  refine zab (zac rfl (zac rfl ?_))
  refine zad rfl rfl (zaa rfl) (zfz rfl ts91 ti89 rfl rfl rfl (by simp; omega) (by intro e he; simp at he; obtain ⟨_, _, rfl⟩ := he; rfl)) ?_
  refine zad rfl rfl (zaa rfl) (zl7 rfl ts91 rfl) (zac rfl (zae (zah (zaq ?_))))
  have hLo : Lo 0 (.sl ((qk.map eNd).drop i)) := .sl _ (fun e he => by
   obtain ⟨x, _, rfl⟩ := List.mem_map.1 (List.mem_of_mem_drop he)
   exact (by repeat' (first | exact Lo.s _ | exact zar | refine zaj ?_ ?_ | refine za1 ?_ | refine Lo.cells ?_ | refine Lo.agg _ ?_ | refine Lo.ref _ ?_ | refine Lo.tup _ ?_ | refine Lo.fn _ _ ?_ | refine Lo.sl _ ?_ | intro _)))
  refine zcd (S := Nat) (fun j => (133, .sl ((qk.map eNd).drop i)) :: (134, eI ((qk.map eNd).drop i).length) :: (135, eI j) :: pfN n w most) (fun _ => []) (fun j => i + j ≤ qk.length ∧ (qk.drop i).find? (zgc n w) = (qk.drop (i + j)).find? (zgc n w)) (fun j => qk.length - (i + j)) 0
   (zc3 [] (by decide) trivial ⟨.lo _ hLo, .lo _ (.s _), .lo _ (.s _), .lo _ (.s _), .lo _ (by repeat' (first | exact Lo.s _ | exact zar | refine zaj ?_ ?_ | refine za1 ?_ | refine Lo.cells ?_ | refine Lo.agg _ ?_ | refine Lo.ref _ ?_ | refine Lo.tup _ ?_ | refine Lo.fn _ _ ?_ | refine Lo.sl _ ?_ | intro _)), .lo _ (by repeat' (first | exact Lo.s _ | exact zar | refine zaj ?_ ?_ | refine za1 ?_ | refine Lo.cells ?_ | refine Lo.agg _ ?_ | refine Lo.ref _ ?_ | refine Lo.tup _ ?_ | refine Lo.fn _ _ ?_ | refine Lo.sl _ ?_ | intro _)), .lo _ (by repeat' (first | exact Lo.s _ | exact zar | refine zaj ?_ ?_ | refine za1 ?_ | refine Lo.cells ?_ | refine Lo.agg _ ?_ | refine Lo.ref _ ?_ | refine Lo.tup _ ?_ | refine Lo.fn _ _ ?_ | refine Lo.sl _ ?_ | intro _)), trivial⟩) ⟨by omega, rfl⟩ (fun j hj => ?_)
  obtain ⟨hj1, hj2⟩ := hj
  refine zaf (zab (zad rfl rfl (zaa rfl) (zaz rfl rfl rfl) (zae (zaf ?_))))
  refine zeg rfl (fun hjl => ?_) (fun hjl => ?_)
  ·
   have hjlt : i + j < qk.length := by simp at hjl; omega
   have hget : ((qk.map eNd).drop i)[j]? = some (eNd (gti qk (i + j))) := by rw [List.getElem?_drop]; exact zbz hjlt
   have hdj := zxz (P := P) (gti qk (i + j)) w (oneL n.places.toNat n.sink)
   have hdc : (qk.drop (i + j)).find? (zgc n w) = match zgc n w (gti qk (i + j)) with | true => some (gti qk (i + j)) | false => (qk.drop (i + (j + 1))).find? (zgc n w) := by
    rw [zco hjlt, List.find?_cons]; rfl
   obtain ⟨zj, hzj⟩ : ∃ z, zgc n w (gti qk (i + j)) = z := ⟨_, rfl⟩
   rw [hzj] at hdc
   unfold zgc at hzj
   rw [hzj] at hdj
   refine zao (zaf (zaq (zaf (zab (zad rfl rfl (zaa rfl) (zan rfl ts91 ti89 rfl rfl rfl hget rfl) (zbr ta89 ti89 rfl (zad rfl rfl (zaa rfl) (zbw rfl ti89 rfl rfl) (zcg rfl (zaa rfl) (za8 rfl ti89 rfl rfl rfl rfl rfl rfl (by decide) (by decide)) (zae (zaf ?_))))))))))
   refine zbd (zbk (id := 0) rfl) (zbd (zch (d := 24) rfl rfl rfl) ?_)
   refine zab (zac rfl (zbr ta89 ti89 rfl (zad rfl rfl (zaa rfl) (zai rfl rfl (hdj) (zag rfl zam)) (zae (zah ?_)))))
   refine zep rfl (fun hzt => ?_) (fun hzf => ?_)
   ·
    subst hzt
    rw [hj2, hdc] at HO
    refine zaf ?_
    refine zb6 hmix ?_
    refine zba (by kernel_rfl) ?_
    refine qx_f zvo rfl (qx_l ta48 rfl (qx_s rfl (qx_s rfl (qx_s rfl ?_))))
    refine zcp ?_
    refine zah ?_
    (refine zav ?_; repeat (first | refine za6 ?_ | refine za7 ?_))
    rw [HO]
    exact zhd (.inr rfl) rfl rfl rfl (.refl _) (.refl _) (.refl _)
   ·
    subst hzf
    refine zao (zb3 (zah (zab (zad rfl rfl (zaa rfl) (za4 rfl rfl rfl (IntWalk.i64_in _ (by omega))) (zac rfl (zae (zah ?_)))))))
    refine ⟨j + 1, ⟨by omega, by rw [hj2, hdc]⟩, by omega, ?_⟩
    exact zc3 [] (by decide) trivial ⟨.lo _ hLo, .lo _ (.s _), .lo _ (.s _), .lo _ (.s _), .lo _ (by repeat' (first | exact Lo.s _ | exact zar | refine zaj ?_ ?_ | refine za1 ?_ | refine Lo.cells ?_ | refine Lo.agg _ ?_ | refine Lo.ref _ ?_ | refine Lo.tup _ ?_ | refine Lo.fn _ _ ?_ | refine Lo.sl _ ?_ | intro _)), .lo _ (by repeat' (first | exact Lo.s _ | exact zar | refine zaj ?_ ?_ | refine za1 ?_ | refine Lo.cells ?_ | refine Lo.agg _ ?_ | refine Lo.ref _ ?_ | refine Lo.tup _ ?_ | refine Lo.fn _ _ ?_ | refine Lo.sl _ ?_ | intro _)), .lo _ (by repeat' (first | exact Lo.s _ | exact zar | refine zaj ?_ ?_ | refine za1 ?_ | refine Lo.cells ?_ | refine Lo.agg _ ?_ | refine Lo.ref _ ?_ | refine Lo.tup _ ?_ | refine Lo.fn _ _ ?_ | refine Lo.sl _ ?_ | intro _)), trivial⟩
  ·
   have hjl2 : i + j = qk.length := by simp at hjl; omega
   rw [hj2, hjl2, List.drop_length] at HO
   (refine zb1 ?_; repeat (first | refine zcx ?_ | refine zbs ?_ | refine zbe rfl ?_ | refine zb3 ?_ | refine zah ?_ | refine zaf ?_ | refine zao ?_ | refine zaq ?_))
   refine zab (zac rfl (zac rfl (zac rfl (zae (zah ?_)))))
   (refine zav ?_; repeat (first | refine za6 ?_ | refine za7 ?_))
   rw [HO]
   exact zhd (.inr rfl) rfl rfl rfl (.refl _) .nil (.refl _)
 ·
  refine zab (zac rfl (zad rfl rfl (zaa rfl) (zb7 rfl ts91 rfl) (zac rfl (zad rfl rfl (zaa rfl) (zbi hfull (zcc rfl rfl rfl)) (zae (zah (zax rfl (zao (zaf ?_)))))))))
  have hcl := zz2 (P := P) (gti q i).run (by omega)
  refine zab (zac rfl (zac rfl (zad rfl rfl (zaa rfl) (ziy rfl ts48 ti3 rfl rfl rfl rfl) (zac rfl ?_))))
  refine zad rfl rfl (zaa rfl) (zb0 rfl ts48 ti3 rfl (by decide) rfl rfl (by first | rfl | (simp; done) | (simp; omega)) rfl (by first | exact .own _ _ _ rfl rfl _ (by first | rfl | simp) | exact .emp | exact .nil | exact .sl _ (by first | simp; done | intro e he; simp at he; obtain ⟨_, _, rfl⟩ := he; rfl)) (by first | omega | (simp; omega) | (unfold maxLen; simp; omega)) (by first | omega | (simp; omega) | (unfold maxLen; simp; omega))) ?_
  refine zau (zbk (id := 3) rfl) (zau (zkw (d := 149) rfl rfl (by first | rfl | (simp; done) | (simp; omega))) ?_)
  refine zad rfl rfl (zaa rfl) (zai rfl rfl (hky1) (zag rfl zam)) ?_
  refine zcg rfl (zaa rfl) (zii (.inl rfl) tm93 tK9 rfl rfl ⟨rfl, rfl, rfl⟩ (by (try dsimp only); unfold maxLen; omega) rfl rfl (keyOf_string_mk tn9 hks1) (plainElem_bool tn4 _)) ?_
  refine zae (zah ?_)
  refine zbd (show Weak _ _ _ ((18, eI k) :: (20, eI kk) :: (21, eL eI fe.1) :: (17, .ref (eNd (gti q i)).cells) :: (81, eL eT n.trans) :: (82, eI n.trans.length) :: (83, eI k) :: pfF n w most qk i) [.row 3 (qk.map eNd), .mp ⟨P, 9, 4, qk.length + 1, zme (qk ++ [⟨kk, fe.1, (gti q i).run ++ [(k : Int)]⟩])⟩] from zc3 [0, 1] (by decide) ⟨⟨_, rfl, .rowE (by repeat' (first | exact Lo.s _ | exact zar | exact zd9 | refine zaj ?_ ?_ | refine zdr ?_ ?_ | refine za1 ?_ | refine zdl ?_ | refine Lo.cells ?_ | refine Lo.agg _ ?_ | refine Lo.sl _ ?_ | intro _)) rfl⟩, ⟨_, rfl, ObRn.mpE (Nat.le_refl _) (hput1 _)⟩, trivial⟩ ⟨.lo _ (.s _), .lo _ (.s _), .lo _ (za1 fun _ => .s _), .lo _ (by repeat' (first | exact Lo.s _ | exact zar | refine zaj ?_ ?_ | refine za1 ?_ | refine Lo.cells ?_ | refine Lo.agg _ ?_ | refine Lo.ref _ ?_ | refine Lo.tup _ ?_ | refine Lo.fn _ _ ?_ | refine Lo.sl _ ?_ | intro _)), .lo _ (by repeat' (first | exact Lo.s _ | exact zar | refine zaj ?_ ?_ | refine za1 ?_ | refine Lo.agg _ ?_ | refine Lo.sl _ ?_ | intro _)), .lo _ (.s _), .lo _ (.s _), .own 0 0 3 _ _ rfl rfl, .mp 1 1 rfl, .lo _ (.s _), .lo _ (.s _), .lo _ (by repeat' (first | exact Lo.s _ | exact zar | refine zaj ?_ ?_ | refine za1 ?_ | refine Lo.cells ?_ | refine Lo.agg _ ?_ | refine Lo.ref _ ?_ | refine Lo.tup _ ?_ | refine Lo.fn _ _ ?_ | refine Lo.sl _ ?_ | intro _)), .lo _ (by repeat' (first | exact Lo.s _ | exact zar | refine zaj ?_ ?_ | refine za1 ?_ | refine Lo.cells ?_ | refine Lo.agg _ ?_ | refine Lo.ref _ ?_ | refine Lo.tup _ ?_ | refine Lo.fn _ _ ?_ | refine Lo.sl _ ?_ | intro _)), .lo _ (by repeat' (first | exact Lo.s _ | exact zar | refine zaj ?_ ?_ | refine za1 ?_ | refine Lo.cells ?_ | refine Lo.agg _ ?_ | refine Lo.ref _ ?_ | refine Lo.tup _ ?_ | refine Lo.fn _ _ ?_ | refine Lo.sl _ ?_ | intro _)), trivial⟩) ?_
  refine zab (zac rfl (zac rfl (zac rfl (zbh zvo rfl (zbl ta48 rfl (zad rfl rfl (zaa rfl) (zu9 rfl rfl (hcl) (zag rfl zam)) (zac rfl (zad rfl rfl (zaa rfl) (ziy rfl ts48 ti3 rfl rfl rfl rfl) ?_))))))))
  refine zad rfl rfl (zaa rfl) (zb0 rfl ts48 ti3 rfl (by decide) rfl rfl (by first | rfl | (simp; done) | (simp; omega)) rfl (by first | exact .own _ _ _ rfl rfl _ (by first | rfl | simp) | exact .emp | exact .nil | exact .sl _ (by first | simp; done | intro e he; simp at he; obtain ⟨_, _, rfl⟩ := he; rfl)) (by first | omega | (simp; omega) | (unfold maxLen; simp; omega)) (by first | omega | (simp; omega) | (unfold maxLen; simp; omega))) ?_
  refine zau (zbk (id := 4) rfl) (zau (zkw (d := 159) rfl rfl (by first | rfl | (simp; done) | (simp; omega))) ?_)
  refine zad rfl rfl (zaa rfl) (zbf rfl ti89 tp89 rfl rfl) (zad rfl rfl (zaa rfl) (zef rfl ts91 ti89 rfl rfl (by decide) (by decide) rfl rfl rfl) ?_)
  refine zad rfl rfl (zaa rfl) (zb0 rfl ts91 ti89 rfl (by decide) rfl rfl (by first | rfl | (simp; done) | (simp; omega)) rfl (by first | exact .own _ _ _ rfl rfl _ (by first | rfl | simp) | exact .emp | exact .nil | exact .sl _ (by first | simp; done | intro e he; simp at he; obtain ⟨_, _, rfl⟩ := he; rfl)) (by first | omega | (simp; omega) | (unfold maxLen; simp; omega)) (by first | omega | (simp; omega) | (unfold maxLen; simp; omega))) ?_
  refine zac rfl (zae (zb3 (zah (zab (zad rfl rfl (zaa rfl) (za4 rfl rfl rfl (IntWalk.i64_in _ (by omega))) (zac rfl (zae (zah ?_))))))))
  have hrow : (qk ++ [(⟨kk, fe.1, (gti q i).run ++ [(k : Int)]⟩ : Nd)]).map eNd = qk.map eNd ++ [AV.agg [eI kk, eL eI fe.1, .sl ((gti q i).run.map eI ++ [eI k])]] := by simp [eNd, eL]
  refine ⟨k + 1, ⟨hkt, by rw [hqS, hSS]; simp; omega⟩, by omega, ?_⟩
  rw [hqS, hSS]
  exact zc3 [6, 1] (by decide) ⟨⟨_, rfl, .rowE (by repeat' (first | exact Lo.s _ | exact zar | exact zd9 | refine zaj ?_ ?_ | refine zdr ?_ ?_ | refine za1 ?_ | refine zdl ?_ | refine Lo.cells ?_ | refine Lo.agg _ ?_ | refine Lo.sl _ ?_ | intro _)) (Eq.trans (b := qk.map eNd ++ [AV.agg [eI kk, eL eI fe.1, .sl ((gti q i).run.map eI ++ [eI k])]]) rfl hrow.symm)⟩, ⟨_, rfl, ObRn.mpE (by simp) rfl⟩, trivial⟩ ⟨.lo _ (by repeat' (first | exact Lo.s _ | exact zar | refine zaj ?_ ?_ | refine za1 ?_ | refine Lo.cells ?_ | refine Lo.agg _ ?_ | refine Lo.ref _ ?_ | refine Lo.tup _ ?_ | refine Lo.fn _ _ ?_ | refine Lo.sl _ ?_ | intro _)), .lo _ (by repeat' (first | exact Lo.s _ | exact zar | refine zaj ?_ ?_ | refine za1 ?_ | refine Lo.agg _ ?_ | refine Lo.sl _ ?_ | intro _)), .lo _ (.s _), .lo _ (.s _), .own 6 0 3 _ _ rfl (by simp), .mp 1 1 rfl, .lo _ (.s _), .lo _ (.s _), .lo _ (by repeat' (first | exact Lo.s _ | exact zar | refine zaj ?_ ?_ | refine za1 ?_ | refine Lo.cells ?_ | refine Lo.agg _ ?_ | refine Lo.ref _ ?_ | refine Lo.tup _ ?_ | refine Lo.fn _ _ ?_ | refine Lo.sl _ ?_ | intro _)), .lo _ (by repeat' (first | exact Lo.s _ | exact zar | refine zaj ?_ ?_ | refine za1 ?_ | refine Lo.cells ?_ | refine Lo.agg _ ?_ | refine Lo.ref _ ?_ | refine Lo.tup _ ?_ | refine Lo.fn _ _ ?_ | refine Lo.sl _ ?_ | intro _)), .lo _ (by repeat' (first | exact Lo.s _ | exact zar | refine zaj ?_ ?_ | refine za1 ?_ | refine Lo.cells ?_ | refine Lo.agg _ ?_ | refine Lo.ref _ ?_ | refine Lo.tup _ ?_ | refine Lo.fn _ _ ?_ | refine Lo.sl _ ?_ | intro _)), trivial⟩
end Go.Proofs.YtohmldibkojkfaaGreatDoor.Aw
end
section
namespace Go.Proofs.YtohmldibkojkfaaGreatDoor.Aw
open Go Go.RowKit Go.Proofs Dl
variable {P : Program} [IsP P]
noncomputable def pgoE (n : Net) (most : Int) : List Vr → Int → Bool × Int × Int
 | [], _ => (true, 0, 0)
 | v :: l, i => if (FitsE n v.acts most).2.2 ≠ 0 then (false, 0, (FitsE n v.acts most).2.2) else if (FitsE n v.acts most).1 = false then (false, i, 0) else pgoE n most l (i + 1)
noncomputable def perfE (n : Net) (vs : List Vr) (most : Int) : Bool × Int × Int := if qgvE n vs most ≠ 0 then (false, 0, qgvE n vs most) else pgoE n most vs 0
def eP3 (r : Bool × Int × Int) : AV := .tup [eB r.1, eI r.2.1, eI r.2.2]
theorem lo_P3 {k : Nat} (r : Bool × Int × Int) : Lo k (eP3 r) := .tup _ (zaj (.s _) (zaj (.s _) (zaj (.s _) zar)))
theorem zhc {F : Frm} {σ : List Ob} {r : Bool × Int × Int} {x : Bool} {y z : Int} {e : Exit} (he : e = .normal ∨ e = .ret) (h1 : F.get 6 = eB x) (h2 : F.get 7 = eI y) (h3 : F.get 8 = eI z) (hr : (x, y, z) = r) : zmq P [.tmp 6, .tmp 7, .tmp 8] (eP3 r) e F σ := by
 subst hr
 exact ⟨he, [eB x, eI y, eI z], .cons _ _ _ _ (.tmp _ _ h1) (.cons _ _ _ _ (.tmp _ _ h2) (.cons _ _ _ _ (.tmp _ _ h3) .nil)), .refl _⟩
theorem qgv_ok {n : Net} {vs : List Vr} {most : Int} (h : qgvE n vs most = 0) : wfB n = true ∧ vvB vs = true ∧ 1 ≤ most ∧ most ≤ 2000 := by
 unfold qgvE at h
 by_cases hb : (wfB n && vvB vs) = false
 ·
  rw [if_pos hb] at h; cases h
 ·
  rw [if_neg hb] at h
  by_cases hm : most < 1 ∨ 2000 < most
  ·
   rw [if_pos hm] at h; cases h
  ·
   have hbt : (wfB n && vvB vs) = true := by cases hx : (wfB n && vvB vs) with | true => rfl | false => exact absurd hx hb
   rw [Bool.and_eq_true] at hbt
   exact ⟨hbt.1, hbt.2, by omega, by omega⟩
theorem zwg {n : Net} {vs : List Vr} {most : Int} (h : qgvE n vs most = 0) : vs.length ≤ 300 := by
 have h1 := (qgv_ok h).2.1
 unfold vvB at h1
 simp only [Bool.and_eq_true, decide_eq_true_eq] at h1
 exact h1.1
set_option maxHeartbeats 4000000 in
theorem zld (n : Net) (vs : List Vr) (most : Int) : Pure P 24 [eN n, eL eVr vs, eI most] (eP3 (perfE n vs most)) := by
 have hR : perfE n vs most = if qgvE n vs most ≠ 0 then (false, 0, qgvE n vs most) else pgoE n most vs 0 := rfl
 generalize perfE n vs most = R at hR ⊢
 have hgv := zpo (P := P) n vs most
 have hql := @zwg n vs most
 generalize qgvE n vs most = g at hgv hR hql
 have hln : Lo 0 (.ref (eN n).cells) := .ref _ (lo_N n).cells
 refine zcu (by rw [IsP.eq (P := P)]; exact Tryz.func24) rfl rfl rfl rfl rfl (zaj (lo_N n) (zaj (zdv vs) (zaj (.s _) zar))) (lo_P3 _) (by simp only [argF]; rfl) ?_
 refine zaf (zab (zad rfl rfl (zaa rfl) (zbv rfl rfl rfl rfl) ?_))
 refine zau (zbk (id := 0) rfl) (zau (zch (d := 3) rfl rfl rfl) ?_)
 refine zac rfl (zac rfl (zac rfl (zae (zaf (zaf (zab (zbr ta24 ti24 rfl (zac rfl (zac rfl (zad rfl rfl (zaa rfl) (zai rfl rfl (hgv) (zag rfl (zag rfl (zag rfl zam)))) (zac rfl (zae (zaf ?_)))))))))))))
 by_cases hg : g ≠ 0
 ·
  rw [if_pos hg] at hR
  refine zab (zac rfl (zad rfl rfl (zaa rfl) (zbp hg (zbg rfl rfl rfl)) (zae (zah (za0 rfl (zaf (zab (zac rfl (zac rfl (zac rfl (zac rfl (zae (zah ?_)))))))))))))
  (refine zav ?_; repeat (first | refine za6 ?_ | refine za7 ?_))
  exact zhc (.inr rfl) rfl rfl rfl hR.symm
 rw [if_neg hg] at hR
 have hlen := hql (Classical.byContradiction hg)
 refine zab (zac rfl (zad rfl rfl (zaa rfl) (zbi hg (zbg rfl rfl rfl)) (zae (zah (zax rfl (zao (zaf (zaf (zab (zac rfl (zad rfl rfl (zaa rfl) (zak rfl ts25 rfl) (zac rfl (zae (zah (zaq ?_)))))))))))))))
 refine zcd (S := Nat) (fun k => [(1, eL eVr vs), (2, eI most), (3, .ref (eN n).cells), (22, eL eVr vs), (23, eI vs.length), (24, eI k)]) (fun _ => []) (fun k => k ≤ vs.length ∧ pgoE n most (vs.drop k) k = R) (fun k => vs.length - k) 0
  (zc3 [] (by decide) trivial ⟨.lo _ (zdv vs), .lo _ (.s _), .lo _ hln, .lo _ (zdv vs), .lo _ (.s _), .lo _ (.s _), trivial⟩) ⟨Nat.zero_le _, hR.symm⟩ (fun k hk => ?_)
 obtain ⟨hk, he⟩ := hk
 replace hk : k ≤ vs.length := hk
 by_cases hlt : k < vs.length
 rotate_left 1
 ·
  have e : k = vs.length := by omega
  subst e
  rw [List.drop_length] at he
  refine zaf (zab (zad rfl rfl (zaa rfl) (zbi (by omega) (zaz rfl rfl rfl)) (zae (zaf (zax rfl ?_)))))
  (refine zb1 ?_; repeat (first | refine zcx ?_ | refine zbs ?_ | refine zbe rfl ?_ | refine zb3 ?_ | refine zah ?_ | refine zaf ?_ | refine zao ?_ | refine zaq ?_))
  refine zab (zac rfl (zac rfl (zac rfl (zae (zah ?_)))))
  (refine zav ?_; repeat (first | refine za6 ?_ | refine za7 ?_))
  exact zhc (.inr rfl) rfl rfl rfl he
 have hix : (vs.map eVr)[k]? = some (eVr (gti vs k)) := zbz hlt
 have hF := zsn (P := P) n (gti vs k).acts most
 rw [zco hlt] at he
 unfold pgoE at he
 generalize gti vs k = v at hix hF he
 obtain ⟨acts, cnt⟩ := v
 dsimp only at hF he
 replace hix : (vs.map eVr)[k]? = some (aVr acts cnt) := hix
 generalize FitsE n acts most = r at hF he
 obtain ⟨b, run, ec⟩ := r
 dsimp only at he
 have hlv : Lo 0 (.ref (aVr acts cnt).cells) := .ref _ (zrq ⟨acts, cnt⟩).cells
 refine zaf (zab (zad rfl rfl (zaa rfl) (zbp (by omega) (zaz rfl rfl rfl)) (zae (zaf (za0 rfl (zao (zaf (zaq (zaf (zab (zac rfl (zad rfl rfl (zaa rfl) (zan rfl ts25 ti46 rfl rfl rfl hix rfl) (zbr ta46 ti46 rfl (zad rfl rfl (zaa rfl) (zbw rfl ti46 rfl rfl) (zac rfl (zcg rfl (zaa rfl) (za8 rfl ti46 rfl rfl rfl rfl rfl rfl (by decide) (by decide)) (zae (zaf ?_))))))))))))))))))
 refine zbd (zbk (id := 0) rfl) ?_
 refine zbd (zch (d := 11) rfl rfl rfl) ?_
 refine zbd (zc3 (σ' := []) [] (by decide) trivial (F' := [(1, eL eVr vs), (2, eI most), (3, .ref (eN n).cells), (22, eL eVr vs), (23, eI vs.length), (24, eI k), (10, eI k), (11, .ref (aVr acts cnt).cells)]) ⟨.lo _ (zdv vs), .lo _ (.s _), .lo _ hln, .lo _ (zdv vs), .lo _ (.s _), .lo _ (.s _), .lo _ (.s _), .lo _ hlv, trivial⟩) ?_
 refine zab (zbr ta24 ti24 rfl (zbh zcm rfl (zbl ta44 rfl (zac rfl (zad rfl rfl (zaa rfl) (zai rfl rfl (hF) (zag rfl (zag rfl (zag rfl zam)))) (zac rfl (zac rfl (zac rfl (zac rfl (zac rfl (zac rfl (zac rfl (zae (zaf (zaf ?_)))))))))))))))
 by_cases hec : ec ≠ 0
 ·
  rw [if_pos hec] at he
  refine zab (zac rfl (zad rfl rfl (zaa rfl) (zbp hec (zbg rfl rfl rfl)) (zae (zah (za0 rfl (zaf (zab (zac rfl (zac rfl (zac rfl (zac rfl (zae (zah ?_)))))))))))))
  (refine zav ?_; repeat (first | refine za6 ?_ | refine za7 ?_))
  exact zhc (.inr rfl) rfl rfl rfl he
 rw [if_neg hec] at he
 refine zab (zac rfl (zad rfl rfl (zaa rfl) (zbi hec (zbg rfl rfl rfl)) (zae (zah (zax rfl (zao (zaf ?_)))))))
 cases b with
 | false =>
  rw [if_pos rfl] at he
  refine zab (zac rfl (zad rfl rfl (zaa rfl) (zay rfl rfl) (zae (zah (za0 rfl (zaf (zab (zac rfl (zac rfl (zac rfl (zac rfl (zae (zah ?_)))))))))))))
  (refine zav ?_; repeat (first | refine za6 ?_ | refine za7 ?_))
  exact zhc (.inr rfl) rfl rfl rfl he
 | true =>
  rw [if_neg (by decide)] at he
  refine zab (zac rfl (zad rfl rfl (zaa rfl) (zay rfl rfl) (zae (zah (zax rfl (zao (zb3 (zah (zab (zad rfl rfl (zaa rfl) (za4 rfl rfl rfl (IntWalk.i64_in _ (by omega))) (zac rfl (zae (zah ?_)))))))))))))
  exact ⟨k + 1, ⟨by show k + 1 ≤ vs.length; omega, he⟩, by show vs.length - (k + 1) < vs.length - k; omega, zbx _ ⟨rfl, rfl, rfl, rfl, rfl, rfl, trivial⟩⟩
set_option maxHeartbeats 4000000 in
theorem zrh (n : Net) (vs : List Vr) (most : Int) : Pure P 25 [eN n, eL eVr vs, eI most] (eP3 (perfE n vs most)) := by
 have hR : perfE n vs most = if qgvE n vs most ≠ 0 then (false, 0, qgvE n vs most) else pgoE n most vs 0 := rfl
 generalize perfE n vs most = R at hR ⊢
 have hgv := zwd (P := P) n vs most
 have hql := @zwg n vs most
 generalize qgvE n vs most = g at hgv hR hql
 have hln : Lo 0 (.ref (eN n).cells) := .ref _ (lo_N n).cells
 refine zcu (by rw [IsP.eq (P := P)]; exact Tryz.func25) rfl rfl rfl rfl rfl (zaj (lo_N n) (zaj (zdv vs) (zaj (.s _) zar))) (lo_P3 _) (by simp only [argF]; rfl) ?_
 refine zaf (zab (zad rfl rfl (zaa rfl) (zbv rfl rfl rfl rfl) ?_))
 refine zau (zbk (id := 0) rfl) (zau (zch (d := 3) rfl rfl rfl) ?_)
 refine zac rfl (zac rfl (zac rfl (zae (zaf (zab (zbr ta24 ti24 rfl (zac rfl (zac rfl (zad rfl rfl (zaa rfl) (zai rfl rfl (hgv) (zag rfl (zag rfl (zag rfl zam)))) (zac rfl (zae (zaf (zaf ?_)))))))))))))
 by_cases hg : g ≠ 0
 ·
  rw [if_pos hg] at hR
  refine zab (zac rfl (zad rfl rfl (zaa rfl) (zbp hg (zbg rfl rfl rfl)) (zae (zah (za0 rfl (zaf (zab (zac rfl (zac rfl (zac rfl (zac rfl (zae (zah ?_)))))))))))))
  (refine zav ?_; repeat (first | refine za6 ?_ | refine za7 ?_))
  exact zhc (.inr rfl) rfl rfl rfl hR.symm
 rw [if_neg hg] at hR
 have hlen := hql (Classical.byContradiction hg)
 refine zab (zac rfl (zad rfl rfl (zaa rfl) (zbi hg (zbg rfl rfl rfl)) (zae (zah (zax rfl (zao (zaf (zaf (zab (zac rfl (zae (zah (zaq ?_)))))))))))))
 refine zcd (S := Nat) (fun k => [(1, eL eVr vs), (2, eI most), (3, .ref (eN n).cells), (10, eI k)]) (fun _ => []) (fun k => k ≤ vs.length ∧ pgoE n most (vs.drop k) k = R) (fun k => vs.length - k) 0
  (zc3 [] (by decide) trivial ⟨.lo _ (zdv vs), .lo _ (.s _), .lo _ hln, .lo _ (.s _), trivial⟩) ⟨Nat.zero_le _, hR.symm⟩ (fun k hk => ?_)
 obtain ⟨hk, he⟩ := hk
 replace hk : k ≤ vs.length := hk
 by_cases hlt : k < vs.length
 rotate_left 1
 ·
  have e : k = vs.length := by omega
  subst e
  rw [List.drop_length] at he
  refine zaf (zaf (zab (zac rfl (zac rfl (zad rfl rfl (zaa rfl) (zak rfl ts25 rfl) (zad rfl rfl (zaa rfl) (zbi (by omega) (zaz rfl rfl rfl)) (zae (zah (zax rfl ?_)))))))))
  (refine zb1 ?_; repeat (first | refine zcx ?_ | refine zbs ?_ | refine zbe rfl ?_ | refine zb3 ?_ | refine zah ?_ | refine zaf ?_ | refine zao ?_ | refine zaq ?_))
  refine zab (zac rfl (zac rfl (zac rfl (zae (zah ?_)))))
  (refine zav ?_; repeat (first | refine za6 ?_ | refine za7 ?_))
  exact zhc (.inr rfl) rfl rfl rfl he
 have hix : (vs.map eVr)[k]? = some (eVr (gti vs k)) := zbz hlt
 have hF := zy0 (P := P) n (gti vs k).acts most
 rw [zco hlt] at he
 unfold pgoE at he
 generalize gti vs k = v at hix hF he
 obtain ⟨acts, cnt⟩ := v
 dsimp only at hF he
 replace hix : (vs.map eVr)[k]? = some (aVr acts cnt) := hix
 generalize FitsE n acts most = r at hF he
 obtain ⟨b, run, ec⟩ := r
 dsimp only at he
 refine zaf (zaf (zab (zac rfl (zac rfl (zad rfl rfl (zaa rfl) (zak rfl ts25 rfl) (zad rfl rfl (zaa rfl) (zbp (by omega) (zaz rfl rfl rfl)) (zae (zah (za0 rfl (zao (zaf (zaq (zaf ?_)))))))))))))
 refine zb6 hmix ?_
 refine zba (by kernel_rfl) ?_
 refine qx_w ta24 ti24 rfl (qx_s rfl (qx_s rfl (za9 rfl rfl (zaa rfl) (zan rfl ts25 ti46 rfl rfl rfl hix rfl) (qx_f zcm rfl (qx_l ta44 rfl (qx_s rfl (za9 rfl rfl (zaa rfl) (zai rfl rfl (hF) (zag rfl (zag rfl (zag rfl zam)))) (qx_s rfl (qx_s rfl (qx_s rfl (qx_s rfl (qx_s rfl (qx_s rfl (qx_s rfl ?_))))))))))))))
 refine zcp ?_
 refine zaf (zaf ?_)
 by_cases hec : ec ≠ 0
 ·
  rw [if_pos hec] at he
  refine zab (zac rfl (zad rfl rfl (zaa rfl) (zbp hec (zbg rfl rfl rfl)) (zae (zah (za0 rfl (zaf (zab (zac rfl (zac rfl (zac rfl (zac rfl (zae (zah ?_)))))))))))))
  (refine zav ?_; repeat (first | refine za6 ?_ | refine za7 ?_))
  exact zhc (.inr rfl) rfl rfl rfl he
 rw [if_neg hec] at he
 refine zab (zac rfl (zad rfl rfl (zaa rfl) (zbi hec (zbg rfl rfl rfl)) (zae (zah (zax rfl (zao (zaf ?_)))))))
 cases b with
 | false =>
  rw [if_pos rfl] at he
  refine zab (zac rfl (zad rfl rfl (zaa rfl) (zay rfl rfl) (zae (zah (za0 rfl (zaf (zab (zac rfl (zac rfl (zac rfl (zac rfl (zae (zah ?_)))))))))))))
  (refine zav ?_; repeat (first | refine za6 ?_ | refine za7 ?_))
  exact zhc (.inr rfl) rfl rfl rfl he
 | true =>
  rw [if_neg (by decide)] at he
  refine zab (zac rfl (zad rfl rfl (zaa rfl) (zay rfl rfl) (zae (zah (zax rfl (zao (zb3 (zah (zab (zac rfl (zad rfl rfl (zaa rfl) (za4 rfl rfl rfl (IntWalk.i64_in _ (by omega))) (zac rfl (zae (zah ?_))))))))))))))
  exact ⟨k + 1, ⟨by show k + 1 ≤ vs.length; omega, he⟩, by show vs.length - (k + 1) < vs.length - k; omega, zbx _ ⟨rfl, rfl, rfl, rfl, trivial⟩⟩
end Go.Proofs.YtohmldibkojkfaaGreatDoor.Aw
end
