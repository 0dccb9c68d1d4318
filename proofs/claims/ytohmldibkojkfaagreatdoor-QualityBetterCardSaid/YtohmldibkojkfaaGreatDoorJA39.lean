import Derived.Test.YtohmldibkojkfaaGreatDoorJA38
import Derived.Test.YtohmldibkojkfaaGreatDoorJA13
set_option linter.unusedSimpArgs false
set_option linter.unusedVariables false
set_option linter.unusedSectionVars false
section
namespace Go.Proofs.YtohmldibkojkfaaGreatDoor.Aw
open Go Go.RowKit Go.Proofs Go.Maps Go.WideMaps Dl
variable {P : Program} [IsP P]
def runR (n : Net) (w : List ByteArray) (c : Cst) (most : Int) : Sr × Int × Int :=
 if zcz n w c = false then (zSr, 0, 1) else if most < 1 ∨ 2000 < most then (zSr, 0, 2) else srR n w c most
def eSea (r : Sr × Int × Int) : AV := .tup [.sl (fnds r.1), eI r.2.1, eI r.2.2]
theorem lo_Sea {k : Nat} (r : Sr × Int × Int) : Lo k (eSea r) := .tup _ (zaj (.sl _ fun e he => by
 obtain ⟨j, _, rfl⟩ := List.mem_map.1 he
 exact z0o _ _ _ _ _) (zaj (.s _) (zaj (.s _) zbb)))
def stSe (P : Program) (S : Sr) : List Ob := [.row 7 (fnds S), .mp (atY P S.st)]
theorem zin {F : Frm} {σ : List Ob} {R : Sr × Int × Int} {e : Exit} {m : Int} (he : e = .normal ∨ e = .ret) (h1 : F.get 8 = .s (.slice none 0 0)) (h2 : F.get 9 = eI 0) (h3 : F.get 10 = eI m) (hR : R = (zSr, 0, m)) : zj1 P [.tmp 8, .tmp 9, .tmp 10] (eSea R) e F σ := by
 refine ⟨he, [.s (.slice none 0 0), eI 0, eI m], .cons _ _ _ _ (.tmp _ _ h1) (.cons _ _ _ _ (.tmp _ _ h2) (.cons _ _ _ _ (.tmp _ _ h3) .nil)), ?_⟩
 subst hR
 exact .tup _ _ rfl (zgw.cons .nil (zgw.cons (.refl _) (zgw.cons (.refl _) zgw.nil))).2
theorem zo0 {F : Frm} {S : Sr} {X : List Ob} {R : Sr × Int × Int} {e : Exit} {k : Int} {l : Nat} (he : e = .normal ∨ e = .ret) (h1 : F.get 8 = .own 0 7 l) (h2 : F.get 9 = eI k) (h3 : F.get 10 = eI 0) (hl : l = (fnds S).length) (hR : R = (S, k, 0)) : zj1 P [.tmp 8, .tmp 9, .tmp 10] (eSea R) e F (.row 7 (fnds S) :: X) := by
 refine ⟨he, [.own 0 7 l, eI k, eI 0], .cons _ _ _ _ (.tmp _ _ h1) (.cons _ _ _ _ (.tmp _ _ h2) (.cons _ _ _ _ (.tmp _ _ h3) .nil)), ?_⟩
 subst hR
 exact .tup _ _ rfl (zgw.cons (.own _ _ _ _ _ rfl rfl hl) (zgw.cons (.refl _) (zgw.cons (.refl _) zgw.nil))).2
set_option maxHeartbeats 8000000 in
theorem ztr (n : Net) (w : List ByteArray) (c : Cst) (most : Int) : Pure P 99 [eN n, eL eS w, eC c, eI most] (eSea (runR n w c most)) := by
 have HI : runR n w c most = if zcz n w c = false then (zSr, 0, 1) else if most < 1 ∨ 2000 < most then (zSr, 0, 2) else srR n w c most := rfl
 have hRB : zcz n w c = (decide ((zce n w).2 = 0) && vcB c) := rfl
 have hgv : givR n w c most = if zcz n w c = false then 1 else if most < 1 ∨ 2000 < most then 2 else 0 := rfl
 have hlR := lo_Sea (k := 0) (runR n w c most)
 generalize runR n w c most = R at HI hlR ⊢
 have hrt := zoy (P := P) n w c most
 have hS0 := zvk (P := P) n w
 have hE0 := z1x (P := P) n w
 generalize givR n w c most = gv at hrt hgv
 generalize zcz n w c = rb at HI hRB hgv
 have hln : Lo 0 (.ref (eN n).cells) := .ref _ (lo_N n).cells
 have hlc : Lo 0 (.ref (eC c).cells) := .ref _ (lo_C c).cells
 refine zcy (by rw [IsP.eq (P := P)]; exact Tryz.func99) rfl rfl rfl rfl rfl (zaj (lo_N n) (zaj (lo_W w) (zaj (lo_C c) (zaj (.s _) zbb)))) hlR (by simp only [argF]; rfl) ?_
 refine zaf (zab (zad rfl rfl (zaa rfl) (zbg rfl rfl rfl rfl) ?_))
 refine zar (zbl (id := 0) rfl) (zar (zb3 (d := 4) rfl rfl rfl) ?_)
 refine zad rfl rfl (zaa rfl) (zbg rfl rfl rfl rfl) ?_
 refine zar (zbl (id := 1) rfl) (zar (zb3 (d := 6) rfl rfl rfl) ?_)
 refine zac rfl (zac rfl (zac rfl (zae (zaf (zaf (zab (zbc ta24 ti24 rfl (zac rfl (zbc ta27 ti27 rfl (zac rfl (zad rfl rfl (zaa rfl) (zai rfl rfl (hrt) (zag rfl (zag rfl (zag rfl (zag rfl zam))))) (zac rfl (zae (zaf ?_))))))))))))))
 by_cases hbad : rb = false ∨ (most < 1 ∨ 2000 < most)
 ·
  have hg : gv ≠ 0 ∧ R = (zSr, 0, gv) := by
   by_cases h1 : rb = false
   ·
    rw [if_pos h1] at HI hgv; rw [hgv]; exact ⟨by decide, HI⟩
   ·
    rw [if_neg h1] at HI hgv
    have h2 : most < 1 ∨ 2000 < most := hbad.resolve_left h1
    rw [if_pos h2] at HI hgv; rw [hgv]; exact ⟨by decide, HI⟩
  refine zab (zac rfl (zad rfl rfl (zaa rfl) (zbn hg.1 (zbf rfl rfl rfl)) (zae (zah (zax rfl (zaf (zab (zac rfl (zac rfl (zac rfl (zac rfl (zae (zah ?_)))))))))))))
  (refine zav ?_; repeat (first | refine za6 ?_ | refine za7 ?_))
  exact zin (.inr rfl) rfl rfl rfl hg.2
 have hrb : rb = true := by cases rb with | true => rfl | false => exact absurd (.inl rfl) hbad
 subst hrb
 have hm : 1 ≤ most ∧ most ≤ 2000 := by omega
 rw [if_neg (by decide), if_neg (by omega)] at HI hgv
 subst hgv
 refine zab (zac rfl (zad rfl rfl (zaa rfl) (zbj (by decide) (zbf rfl rfl rfl)) (zae (zah (zat rfl (zaq (zaf ?_)))))))
 have hs2 : (zce n w).2 = 0 := by
  symm at hRB; simp only [Bool.and_eq_true, decide_eq_true_eq] at hRB; exact hRB.1
 have hvc : vcB c = true := by
  symm at hRB; simp only [Bool.and_eq_true, decide_eq_true_eq] at hRB; exact hRB.2
 obtain ⟨hvn, hww, hse, hee, hsk, hek⟩ := zgk hs2
 have hI0 : Dl.RI n w c (zce n w).1 (endE n w).1 most (iniS (zce n w).1) (-1) 0 := zw6 hsk hm.1
 have HI2 : R = refR n w c most (endE n w).1 (most.toNat + 1) (iniS (zce n w).1) (-1) 0 := HI
 clear HI hbad
 generalize zce n w = s0 at hS0 hsk hI0 HI2 hse hs2 hRB
 generalize endE n w = e0 at hE0 hek hI0 HI2 hee
 obtain ⟨s0, s02⟩ := s0
 obtain ⟨goal, e02⟩ := e0
 replace hI0 : Dl.RI n w c s0 goal most (iniS s0) (-1) 0 := hI0
 replace HI2 : R = refR n w c most goal (most.toNat + 1) (iniS s0) (-1) 0 := HI2
 replace hsk : okS n w s0 := hsk
 replace hek : okS n w goal := hek
 have hk0 := zvp (P := P) s0 hsk.small (by have := hsk.len; omega)
 have hks0 : (zt6 s0).size ≤ maxLen := by rw [zmt]; have := hsk.len; unfold maxLen; omega
 refine zab (zbc ta24 ti24 rfl (zac rfl (zad rfl rfl (zaa rfl) (zai rfl rfl (hS0) (zag rfl (zag rfl zam))) (zac rfl (zac rfl (zac rfl (zac rfl (zac rfl (zae (zaf (zab (zbc ta24 ti24 rfl (zac rfl (zad rfl rfl (zaa rfl) (zai rfl rfl (hE0) (zag rfl (zag rfl zam))) (zac rfl (zac rfl (zac rfl (zac rfl (zac rfl (zae (zaf (zab (zac rfl (zad rfl rfl (zaa rfl) (zbr rfl zd5 tp160 rfl rfl) (zad rfl rfl (zaa rfl) (zln rfl zd1 zd5 rfl rfl (by decide) (by decide) rfl rfl rfl) ?_)))))))))))))))))))))))))
 refine zac rfl (zae (zaf (zab (zad rfl rfl (zaa rfl) (zm3 rfl zlw) (zac rfl (zae (zaf ?_)))))))
 have hlf := zra
 refine zab (zac rfl (zac rfl (zad rfl rfl (zaa rfl) (zai rfl rfl (hk0) (zag rfl zam)) ?_)))
 refine zbz rfl (zaa rfl) (zie (.inl rfl) zlw tK9 rfl rfl ⟨rfl, rfl, rfl⟩ (by (try dsimp only); unfold maxLen; omega) rfl rfl (keyOf_string_mk tn9 (by first | assumption | (unfold maxLen; omega))) (plainElem_int tn3 (by first | rfl | assumption))) ?_
 refine zae (zaf (zab (zac rfl (zae (zaf (zab (zac rfl (zae (zaf (zaw ?_))))))))))
 clear hRB hS0 hE0 hse hee hs2 hrt hk0 hks0
 refine zcb (S := Nat × Sr × Int × Int) (fun p => [(1, eL eS w), (3, eI most), (4, .ref (eN n).cells), (6, .ref (eC c).cells), (14, eL eI goal), (16, .own 0 7 p.2.1.st.length), (17, .mp 1), (18, eI p.2.2.1), (19, eI p.2.2.2)]) (fun p => stSe P p.2.1)
  (fun p => Dl.RI n w c s0 goal most p.2.1 p.2.2.1 p.2.2.2 ∧ R = refR n w c most goal p.1 p.2.1 p.2.2.1 p.2.2.2 ∧ most - p.2.2.2 < p.1) (fun p => p.1) (most.toNat + 1, iniS s0, -1, 0)
  (zed [2, 3] (by decide) ⟨⟨_, rfl, .rowE (hlf _) rfl⟩, ⟨_, rfl, zlz rfl⟩, trivial⟩ ⟨.lo _ (lo_W w), .lo _ (.s _), .lo _ hln, .lo _ hlc, .lo _ lo_I, .own 2 0 7 _ _ rfl rfl, .mp 3 1 rfl, .lo _ (.s _), .lo _ (.s _), trivial⟩) ⟨hI0, HI2, by show most - 0 < ((most.toNat + 1 : Nat) : Int); omega⟩ (fun p hp => ?_)
 clear hI0 HI2
 obtain ⟨f, S, en, nr⟩ := p
 obtain ⟨hP, hR, hf⟩ := hp
 replace hP : Dl.RI n w c s0 goal most S en nr := hP
 replace hR : R = refR n w c most goal f S en nr := hR
 replace hf : most - nr < f := hf
 have hsl := ri_len hP hm.2
 have hnm := hP.nm
 obtain ⟨f, rfl⟩ : ∃ f', f = f' + 1 := ⟨f - 1, by omega⟩
 have hR0 := hR
 unfold refR at hR
 obtain ⟨cx0, hdi⟩ := id hP.di
 have htake := fun {x} => hP.takeN (x := x) hvc
 have hmark := fun {x} hx => hP.mark (x := x) hx
 have hbok := zls S S.st.length
 have hfl := zsq S
 refine zaw (zaf (zab (zac rfl (zae (zaf (zaf (zab (zac rfl (zae (zah (zaw ?_)))))))))))
 refine zcb (S := Nat) (fun i => [(1, eL eS w), (3, eI most), (4, .ref (eN n).cells), (6, .ref (eC c).cells), (14, eL eI goal), (16, .own 0 7 S.st.length), (17, .mp 1), (18, eI en), (19, eI nr), (20, eI (bstR S i)), (21, eI i)]) (fun _ => stSe P S) (fun i => i ≤ S.st.length) (fun i => S.st.length - i) 0 (zbx _ ⟨rfl, rfl, rfl, rfl, rfl, rfl, rfl, rfl, rfl, rfl, rfl, trivial⟩) (Nat.zero_le _) (fun i hi => ?_)
 by_cases hlt : i < S.st.length
 ·
  have hat : (fnds S)[i]? = some (aFd (gti S.st i) (gti S.co i) (gti S.dn i) (mx0 (gti S.fr i)) (gti S.mv i)) := zf0 hlt
  have hbi := zls S i
  have hbs : bstR S (i + 1) = if gti S.dn i = false ∧ (bstR S i < 0 ∨ gti S.co i < gti S.co (bstR S i).toNat) then (i : Int) else bstR S i := rfl
  have hif : i < (fnds S).length := by omega
  obtain ⟨b, hb⟩ : ∃ b, bstR S i = b := ⟨_, rfl⟩
  rw [hb] at hbi hbs ⊢
  refine zaf (zaf (zab (zac rfl (zac rfl (zad rfl rfl (zaa rfl) (zdg rfl zd1 rfl) (zad rfl rfl (zaa rfl) (zbn (by omega) (zaz rfl rfl rfl)) (zae (zah (zax rfl (zaq (zaf (zaw (zaf ?_)))))))))))))
  cases hdn : gti S.dn i with
  | true =>
   rw [hdn] at hat
   rw [if_neg (by rw [hdn]; rintro ⟨h, _⟩; cases h)] at hbs
   refine zb1 hmix ?_
   refine za5 (by kernel_rfl) ?_
   refine qx_s rfl (qx_s rfl (za2 rfl rfl (zaa rfl) (zas rfl zd1 zd5 rfl rfl rfl hlt) (qx_f zg4 rfl (za2 rfl rfl (zaa rfl) (zao rfl ta4 rfl rfl rfl hat rfl) (za2 rfl rfl (zaa rfl) (zay rfl rfl) (qx_s rfl (qx_z rfl (qx_z rfl (qx_z rfl (zbe rfl rfl (zbd rfl rfl rfl) (zbe rfl rfl (zbd rfl rfl rfl) (zbe rfl rfl (zbd rfl rfl rfl) (zbe rfl rfl (zbd rfl rfl rfl) (zbe rfl rfl (zbd rfl rfl rfl) (zbe rfl rfl (zbd rfl rfl rfl) (zbe rfl rfl (zbd rfl rfl rfl) (zbe rfl rfl (zbd rfl rfl rfl) ?_)))))))))))))))))
   refine zbe rfl rfl (zbd rfl rfl rfl) (zbe rfl rfl (zbd rfl rfl rfl) (zbe rfl rfl (zbd rfl rfl rfl) (qx_z rfl (qx_s rfl ?_))))
   refine zck ?_
   refine zah (zat rfl (zaq (zb8 (zah (zab (zac rfl (zad rfl rfl (zaa rfl) (za9 rfl rfl rfl (IntWalk.i64_in _ (by omega))) (zac rfl (zae (zah ?_))))))))))
   exact ⟨i + 1, by show i + 1 ≤ S.st.length; omega, by show S.st.length - (i + 1) < S.st.length - i; omega, by rw [hbs]; exact zbx _ ⟨rfl, rfl, rfl, rfl, rfl, rfl, rfl, rfl, rfl, rfl, rfl, trivial⟩⟩
  | false =>
  rw [hdn] at hat
  by_cases hneg : b < 0
  ·
   rw [if_pos ⟨hdn, .inl hneg⟩] at hbs
   refine zb1 hmix ?_
   refine za5 (by kernel_rfl) ?_
   refine qx_s rfl (qx_s rfl (za2 rfl rfl (zaa rfl) (zas rfl zd1 zd5 rfl rfl rfl hlt) (qx_f zg4 rfl (za2 rfl rfl (zaa rfl) (zao rfl ta4 rfl rfl rfl hat rfl) (za2 rfl rfl (zaa rfl) (zay rfl rfl) (qx_s rfl (qx_s rfl (za2 rfl rfl (zan rfl rfl rfl) (zbn hneg (zaz rfl rfl rfl)) (qx_s rfl (qx_z rfl (qx_z rfl (qx_z rfl (qx_z rfl (qx_z rfl (qx_z rfl (qx_z rfl (qx_z rfl (qx_z rfl (qx_z rfl (qx_z rfl (qx_s rfl (qx_s rfl ?_))))))))))))))))))))))
   refine zck ?_
   refine zah (zax rfl (zab (zac rfl (zac rfl (zae (zb8 (zah (zab (zac rfl (zad rfl rfl (zaa rfl) (za9 rfl rfl rfl (IntWalk.i64_in _ (by omega))) (zac rfl (zae (zah ?_)))))))))))))
   exact ⟨i + 1, by show i + 1 ≤ S.st.length; omega, by show S.st.length - (i + 1) < S.st.length - i; omega, by rw [hbs]; exact zbx _ ⟨rfl, rfl, rfl, rfl, rfl, rfl, rfl, rfl, rfl, rfl, rfl, trivial⟩⟩
  obtain ⟨y, rfl, hy⟩ : ∃ y : Nat, b = y ∧ y < i := by
   rcases hbi with ⟨h1, _⟩ | ⟨h1, h2, _⟩
   ·
    omega
   ·
    exact ⟨b.toNat, (Int.toNat_of_nonneg h1).symm, h2⟩
  have hyf : y < S.st.length := by omega
  have haty : (fnds S)[y]? = some (aFd (gti S.st y) (gti S.co y) (gti S.dn y) (mx0 (gti S.fr y)) (gti S.mv y)) := zf0 (by omega)
  by_cases hlt2 : gti S.co i < gti S.co y
  ·
   rw [if_pos ⟨hdn, .inr hlt2⟩] at hbs
   refine zb1 hmix ?_
   refine za5 (by kernel_rfl) ?_
   refine qx_s rfl (qx_s rfl (za2 rfl rfl (zaa rfl) (zas rfl zd1 zd5 rfl rfl rfl hlt) (qx_f zg4 rfl (za2 rfl rfl (zaa rfl) (zao rfl ta4 rfl rfl rfl hat rfl) (za2 rfl rfl (zaa rfl) (zay rfl rfl) (qx_s rfl (qx_s rfl (za2 rfl rfl (zan rfl rfl rfl) (zbj hneg (zaz rfl rfl rfl)) (qx_s rfl (qx_s rfl (qx_s rfl (za2 rfl rfl (zan rfl rfl rfl) (zas rfl zd1 zd5 rfl rfl rfl hlt) (qx_f zeq rfl (za2 rfl rfl (zan rfl rfl rfl) (zao rfl ta3 rfl rfl rfl hat rfl) (qx_s rfl (qx_s rfl (za2 rfl rfl (zan rfl rfl rfl) (zas rfl zd1 zd5 rfl rfl rfl hyf) ?_)))))))))))))))))
   refine qx_f zeq rfl (za2 rfl rfl (zan rfl rfl rfl) (zao rfl ta3 rfl rfl rfl haty rfl) (za2 rfl rfl (zan rfl rfl rfl) (zbn hlt2 (zaz rfl rfl rfl)) (qx_s rfl (qx_s rfl ?_))))
   refine zck ?_
   refine zah (zax rfl (zab (zac rfl (zac rfl (zae (zb8 (zah (zab (zac rfl (zad rfl rfl (zaa rfl) (za9 rfl rfl rfl (IntWalk.i64_in _ (by omega))) (zac rfl (zae (zah ?_)))))))))))))
   exact ⟨i + 1, by show i + 1 ≤ S.st.length; omega, by show S.st.length - (i + 1) < S.st.length - i; omega, by rw [hbs]; exact zbx _ ⟨rfl, rfl, rfl, rfl, rfl, rfl, rfl, rfl, rfl, rfl, rfl, trivial⟩⟩
  ·
   rw [if_neg (by rintro ⟨_, h | h⟩; exact hneg h; exact hlt2 h)] at hbs
   refine zb1 hmix ?_
   refine za5 (by kernel_rfl) ?_
   refine qx_s rfl (qx_s rfl (za2 rfl rfl (zaa rfl) (zas rfl zd1 zd5 rfl rfl rfl hlt) (qx_f zg4 rfl (za2 rfl rfl (zaa rfl) (zao rfl ta4 rfl rfl rfl hat rfl) (za2 rfl rfl (zaa rfl) (zay rfl rfl) (qx_s rfl (qx_s rfl (za2 rfl rfl (zan rfl rfl rfl) (zbj hneg (zaz rfl rfl rfl)) (qx_s rfl (qx_s rfl (qx_s rfl (za2 rfl rfl (zan rfl rfl rfl) (zas rfl zd1 zd5 rfl rfl rfl hlt) (qx_f zeq rfl (za2 rfl rfl (zan rfl rfl rfl) (zao rfl ta3 rfl rfl rfl hat rfl) (qx_s rfl (qx_s rfl (za2 rfl rfl (zan rfl rfl rfl) (zas rfl zd1 zd5 rfl rfl rfl hyf) ?_)))))))))))))))))
   refine qx_f zeq rfl (za2 rfl rfl (zan rfl rfl rfl) (zao rfl ta3 rfl rfl rfl haty rfl) (za2 rfl rfl (zan rfl rfl rfl) (zbj hlt2 (zaz rfl rfl rfl)) (qx_s rfl (qx_s rfl ?_))))
   refine zck ?_
   refine zah (zat rfl (zaq (zb8 (zah (zab (zac rfl (zad rfl rfl (zaa rfl) (za9 rfl rfl rfl (IntWalk.i64_in _ (by omega))) (zac rfl (zae (zah ?_))))))))))
   exact ⟨i + 1, by show i + 1 ≤ S.st.length; omega, by show S.st.length - (i + 1) < S.st.length - i; omega, by rw [hbs]; exact zbx _ ⟨rfl, rfl, rfl, rfl, rfl, rfl, rfl, rfl, rfl, rfl, rfl, trivial⟩⟩
 have hie : i = S.st.length := by omega
 subst hie
 obtain ⟨b, hb⟩ : ∃ b, bstR S S.st.length = b := ⟨_, rfl⟩
 rw [hb] at hbok hR ⊢
 refine zaf (zaf (zab (zac rfl (zac rfl (zad rfl rfl (zaa rfl) (zdg rfl zd1 rfl) (zad rfl rfl (zaa rfl) (zbj (by omega) (zaz rfl rfl rfl)) (zae (zah (zat rfl ?_)))))))))
 (refine zcg ?_; repeat (first | refine zdn ?_ | refine zb7 ?_ | refine zbs rfl ?_ | refine zb8 ?_ | refine zah ?_ | refine zaf ?_ | refine zaq ?_ | refine zaw ?_))
 by_cases hst : b < 0 ∨ (0 ≤ en ∧ gti S.co en.toNat < gti S.co b.toNat)
 ·
  rw [if_pos hst] at hR
  by_cases hbn : b < 0
  ·
   refine zb1 hmix ?_
   refine za5 (by kernel_rfl) ?_
   refine qx_s rfl (za2 rfl rfl (zaa rfl) (zbn hbn (zaz rfl rfl rfl)) (qx_s rfl (qx_z rfl (qx_z rfl (qx_z rfl (zbe rfl rfl (zbd rfl rfl rfl) (zbe rfl rfl (zbd rfl rfl rfl) (zbe rfl rfl (zbd rfl rfl rfl) (zbe rfl rfl (zbd rfl rfl rfl) (zbe rfl rfl (zbd rfl rfl rfl) (zbe rfl rfl (zbd rfl rfl rfl) (zbe rfl rfl (zbd rfl rfl rfl) (zbe rfl rfl (zbd rfl rfl rfl) (zbe rfl rfl (zbd rfl rfl rfl) (zbe rfl rfl (zbd rfl rfl rfl) (zbe rfl rfl (zbd rfl rfl rfl) (qx_z rfl (qx_s rfl ?_))))))))))))))))))
   refine zck ?_
   refine zah (zax rfl ?_)
   (refine zcg ?_; repeat (first | refine zdn ?_ | refine zb7 ?_ | refine zbs rfl ?_ | refine zb8 ?_ | refine zah ?_ | refine zaf ?_ | refine zaq ?_ | refine zaw ?_))
   by_cases hen : en < 0
   ·
    rw [if_pos hen] at hR
    refine zab (zac rfl (zad rfl rfl (zaa rfl) (zbn hen (zaz rfl rfl rfl)) (zae (zah (zax rfl (zaf (zab (zac rfl (zac rfl (zac rfl (zae (zah ?_))))))))))))
    (refine zav ?_; repeat (first | refine za6 ?_ | refine za7 ?_))
    exact zin (.inr rfl) rfl rfl rfl hR
   ·
    rw [if_neg hen] at hR
    refine zab (zac rfl (zad rfl rfl (zaa rfl) (zbj hen (zaz rfl rfl rfl)) (zae (zah (zat rfl (zaq (zaf (zab (zac rfl (zac rfl (zac rfl (zac rfl (zac rfl (zae (zah ?_)))))))))))))))
    (refine zav ?_; repeat (first | refine za6 ?_ | refine za7 ?_))
    exact zo0 (.inr rfl) rfl rfl rfl hfl.symm hR
  obtain ⟨h1, h2⟩ := hst.resolve_left hbn
  obtain ⟨x, rfl, hx⟩ : ∃ x : Nat, b = x ∧ x < S.st.length := by
   rcases hbok with ⟨h1, _⟩ | ⟨h1, h2, _⟩
   ·
    omega
   ·
    exact ⟨b.toNat, (Int.toNat_of_nonneg h1).symm, h2⟩
  obtain ⟨y, hy0, hy⟩ : ∃ y : Nat, en = y ∧ y < S.st.length := by
   rcases hP.fd with ⟨h3, _⟩ | ⟨h3, h4, _⟩
   ·
    omega
   ·
    exact ⟨en.toNat, (Int.toNat_of_nonneg h3).symm, h4⟩
  have hat : (fnds S)[x]? = some (aFd (gti S.st x) (gti S.co x) (gti S.dn x) (mx0 (gti S.fr x)) (gti S.mv x)) := zf0 hx
  have haty : (fnds S)[y]? = some (aFd (gti S.st y) (gti S.co y) (gti S.dn y) (mx0 (gti S.fr y)) (gti S.mv y)) := zf0 hy
  rw [hy0] at h2 ⊢
  replace h2 : gti S.co y < gti S.co x := h2
  refine zb1 hmix ?_
  refine za5 (by kernel_rfl) ?_
  refine qx_s rfl (za2 rfl rfl (zaa rfl) (zbj hbn (zaz rfl rfl rfl)) (qx_s rfl (qx_s rfl (za2 rfl rfl (zan rfl rfl rfl) (zbn (by omega) (zcx rfl rfl rfl)) (qx_s rfl (qx_s rfl (qx_s rfl (za2 rfl rfl (zan rfl rfl rfl) (zas rfl zd1 zd5 rfl rfl rfl hx) (qx_f zeq rfl (za2 rfl rfl (zan rfl rfl rfl) (zao rfl ta3 rfl rfl rfl hat rfl) (qx_s rfl (qx_s rfl (za2 rfl rfl (zan rfl rfl rfl) (zas rfl zd1 zd5 rfl rfl rfl hy) (qx_f zeq rfl (za2 rfl rfl (zan rfl rfl rfl) (zao rfl ta3 rfl rfl rfl haty rfl) ?_)))))))))))))))
  refine za2 rfl rfl (zan rfl rfl rfl) (zbn h2 (za4 rfl rfl rfl)) (qx_s rfl (qx_s rfl ?_))
  refine zck ?_
  refine zah (zax rfl ?_)
  (refine zcg ?_; repeat (first | refine zdn ?_ | refine zb7 ?_ | refine zbs rfl ?_ | refine zb8 ?_ | refine zah ?_ | refine zaf ?_ | refine zaq ?_ | refine zaw ?_))
  rw [← hy0]
  by_cases hen : en < 0
  ·
   rw [if_pos hen] at hR
   refine zab (zac rfl (zad rfl rfl (zaa rfl) (zbn hen (zaz rfl rfl rfl)) (zae (zah (zax rfl (zaf (zab (zac rfl (zac rfl (zac rfl (zae (zah ?_))))))))))))
   (refine zav ?_; repeat (first | refine za6 ?_ | refine za7 ?_))
   exact zin (.inr rfl) rfl rfl rfl hR
  ·
   rw [if_neg hen] at hR
   refine zab (zac rfl (zad rfl rfl (zaa rfl) (zbj hen (zaz rfl rfl rfl)) (zae (zah (zat rfl (zaq (zaf (zab (zac rfl (zac rfl (zac rfl (zac rfl (zac rfl (zae (zah ?_)))))))))))))))
   (refine zav ?_; repeat (first | refine za6 ?_ | refine za7 ?_))
   exact zo0 (.inr rfl) rfl rfl rfl hfl.symm hR
 rw [if_neg hst] at hR
 obtain ⟨x, rfl, hx⟩ : ∃ x : Nat, b = x ∧ x < S.st.length := by
  rcases hbok with ⟨h1, _⟩ | ⟨h1, h2, _⟩
  ·
   omega
  ·
   exact ⟨b.toNat, (Int.toNat_of_nonneg h1).symm, h2⟩
 have hbo : gti S.dn x = false ∧ ∀ i, i < S.st.length → gti S.dn i = false → gti S.co x ≤ gti S.co i := by
  rcases hbok with ⟨h1, _⟩ | ⟨_, _, h3, h4⟩
  ·
   omega
  ·
   exact ⟨h3, h4⟩
 dsimp only [Int.toNat_natCast] at hst
 have hat : (fnds S)[x]? = some (aFd (gti S.st x) (gti S.co x) (gti S.dn x) (mx0 (gti S.fr x)) (gti S.mv x)) := zf0 hx
 have hcase : (en = -1) ∨ ∃ y : Nat, en = y ∧ y < S.st.length := by
  rcases hP.fd with ⟨h1, _⟩ | ⟨h1, h2, _⟩
  ·
   exact .inl h1
  ·
   exact .inr ⟨en.toNat, (Int.toNat_of_nonneg h1).symm, h2⟩
 refine zoa [(1, eL eS w), (3, eI most), (4, .ref (eN n).cells), (6, .ref (eC c).cells), (14, eL eI goal), (16, .own 0 7 S.st.length), (17, .mp 1), (18, eI en), (19, eI nr), (20, eI x)] (stSe P S) ?_ ?_
 ·
  rcases hcase with rfl | ⟨y, rfl, hy⟩
  ·
   refine zb1 hmix ?_
   refine za5 (by kernel_rfl) ?_
   refine qx_s rfl (za2 rfl rfl (zaa rfl) (zbj (by omega) (zaz rfl rfl rfl)) (qx_s rfl (qx_s rfl (za2 rfl rfl (zan rfl rfl rfl) (zbj (by decide) (zcx rfl rfl rfl)) (qx_s rfl (qx_z rfl (qx_z rfl (qx_z rfl (qx_z rfl (qx_z rfl (qx_z rfl (qx_z rfl (qx_z rfl (qx_z rfl (qx_z rfl (qx_z rfl (qx_s rfl (qx_s rfl ?_))))))))))))))))))
   refine zck ?_
   refine zah (zat rfl (zaq (zah ?_)))
   exact zbx _ ⟨rfl, rfl, rfl, rfl, rfl, rfl, rfl, rfl, rfl, rfl, trivial⟩
  ·
   have haty : (fnds S)[y]? = some (aFd (gti S.st y) (gti S.co y) (gti S.dn y) (mx0 (gti S.fr y)) (gti S.mv y)) := zf0 hy
   refine zb1 hmix ?_
   refine za5 (by kernel_rfl) ?_
   refine qx_s rfl (za2 rfl rfl (zaa rfl) (zbj (by omega) (zaz rfl rfl rfl)) (qx_s rfl (qx_s rfl (za2 rfl rfl (zan rfl rfl rfl) (zbn (by omega) (zcx rfl rfl rfl)) (qx_s rfl (qx_s rfl (qx_s rfl (za2 rfl rfl (zan rfl rfl rfl) (zas rfl zd1 zd5 rfl rfl rfl hx) (qx_f zeq rfl (za2 rfl rfl (zan rfl rfl rfl) (zao rfl ta3 rfl rfl rfl hat rfl) (qx_s rfl (qx_s rfl (za2 rfl rfl (zan rfl rfl rfl) (zas rfl zd1 zd5 rfl rfl rfl hy) (qx_f zeq rfl (za2 rfl rfl (zan rfl rfl rfl) (zao rfl ta3 rfl rfl rfl haty rfl) ?_)))))))))))))))
   refine za2 rfl rfl (zan rfl rfl rfl) (zbj (fun h => hst (.inr ⟨by omega, h⟩)) (za4 rfl rfl rfl)) ?_
   refine qx_s rfl (qx_s rfl ?_)
   refine zck ?_
   refine zah (zat rfl (zaq (zah ?_)))
   exact zbx _ ⟨rfl, rfl, rfl, rfl, rfl, rfl, rfl, rfl, rfl, rfl, trivial⟩
 clear hcase
 refine zaf (zab (zac rfl (zac rfl (zad rfl rfl (zaa rfl) (zas rfl zd1 zd5 rfl rfl rfl hx) (zbm zg4 rfl (zbz rfl (zaa rfl) (za0 rfl ti4 rfl rfl rfl hat rfl rfl (by decide) (by decide)) (zae (zaf ?_))))))))
 obtain ⟨S1, hS1⟩ : ∃ S1 : Sr, S1 = { S with dn := S.dn.set x true } := ⟨_, rfl⟩
 have hst1 : (stSe P S).set 0 (.row 7 ((fnds S).set x (putC (eFd S x) 2 [eB true]))) = stSe P S1 := by
  rw [z2k hx hdi.l2, ← hS1]
  unfold stSe
  subst hS1
  rfl
 have hl1 : S1.st.length = S.st.length := by rw [hS1]
 refine zbv (zj3 (F' := [(1, eL eS w), (3, eI most), (4, .ref (eN n).cells), (6, .ref (eC c).cells), (14, eL eI goal), (16, .own 0 7 S1.st.length), (17, .mp 1), (18, eI en), (19, eI nr), (20, eI x)]) hst1 (by rw [hl1]; exact ⟨rfl, rfl, rfl, rfl, rfl, rfl, rfl, rfl, rfl, rfl, trivial⟩)) ?_
 refine zab (zac rfl (zad rfl rfl (zaa rfl) (za9 rfl rfl rfl (IntWalk.i64_in _ (by omega))) (zac rfl (zae (zaf (zaf ?_))))))
 by_cases hl : most < nr + 1
 ·
  rw [if_pos hl] at hR
  refine zab (zac rfl (zac rfl (zad rfl rfl (zaa rfl) (zbn (by omega) (za4 rfl rfl rfl)) (zae (zah (zax rfl (zaf (zab (zac rfl (zac rfl (zac rfl (zae (zah ?_)))))))))))))
  (refine zav ?_; repeat (first | refine za6 ?_ | refine za7 ?_))
  exact zin (.inr rfl) rfl rfl rfl hR
 refine zab (zac rfl (zac rfl (zad rfl rfl (zaa rfl) (zbj (by omega) (za4 rfl rfl rfl)) (zae (zah (zat rfl (zaq (zaf (zaf ?_)))))))))
 obtain ⟨hmk, hcx0, hcx1⟩ := hmark hx hbo.1 hbo.2
 have hT := htake hx hbo.1 hbo.2 (by omega)
 rw [z1s hb hst hl] at hR0
 replace hR := hR0
 clear hR0
 obtain ⟨xs, hxs⟩ : ∃ xs, gti S.st x = xs := ⟨_, rfl⟩
 obtain ⟨cx, hcx⟩ : ∃ cx, gti S.co x = cx := ⟨_, rfl⟩
 rw [hxs, hcx] at hR hT hmk
 rw [hcx] at hcx0 hcx1
 rw [← hS1] at hR hT hmk
 have hokx : okS n w xs := by rw [← hxs]; exact hdi.ok _ (gti_mem hx)
 have hsm := zvm (P := P) xs goal (by have := hokx.len; have := hek.len; omega) (by have := hokx.len; omega)
 have hx1 : x < S1.st.length := by rw [hl1]; exact hx
 have hat1 : (fnds S1)[x]? = some (aFd xs (gti S1.co x) (gti S1.dn x) (mx0 (gti S1.fr x)) (gti S1.mv x)) := by rw [← hxs]; have := zf0 hx1; rw [this]; unfold eFd; rw [show gti S1.st x = gti S.st x by rw [hS1]]
 obtain ⟨en', hen'⟩ : ∃ en', en' = if xs = goal then (x : Int) else en := ⟨_, rfl⟩
 rw [← hen'] at hR hT
 refine zoa [(1, eL eS w), (3, eI most), (4, .ref (eN n).cells), (6, .ref (eC c).cells), (14, eL eI goal), (16, .own 0 7 S1.st.length), (17, .mp 1), (18, eI en'), (19, eI (nr + 1)), (20, eI x)] (stSe P S1) ?_ ?_
 ·
  by_cases hg : xs = goal
  ·
   rw [if_pos hg] at hen'
   subst hen'
   rw [decide_eq_true hg] at hsm
   refine zab (zac rfl (zac rfl (zad rfl rfl (zaa rfl) (zas rfl zd1 zd5 rfl rfl rfl hx1) (zbm zm8 rfl (zad rfl rfl (zaa rfl) (zao rfl ta48 rfl rfl rfl hat1 rfl) (zac rfl (zad rfl rfl (zaa rfl) (zai rfl rfl (hsm) (zag rfl (zag rfl zam))) (zae (zah (zax rfl (zab (zac rfl (zac rfl (zae (zah ?_)))))))))))))))
   exact zbx _ ⟨rfl, rfl, rfl, rfl, rfl, rfl, rfl, rfl, rfl, rfl, trivial⟩
  ·
   rw [if_neg hg] at hen'
   subst hen'
   rw [decide_eq_false hg] at hsm
   refine zab (zac rfl (zac rfl (zad rfl rfl (zaa rfl) (zas rfl zd1 zd5 rfl rfl rfl hx1) (zbm zm8 rfl (zad rfl rfl (zaa rfl) (zao rfl ta48 rfl rfl rfl hat1 rfl) (zac rfl (zad rfl rfl (zaa rfl) (zai rfl rfl (hsm) (zag rfl (zag rfl zam))) (zae (zah (zat rfl (zaq (zah ?_))))))))))))
   exact zbx _ ⟨rfl, rfl, rfl, rfl, rfl, rfl, rfl, rfl, rfl, rfl, trivial⟩
 clear hsm hen'
 refine zaf ?_
 have hMo := zvo (P := P) n w xs hokx
 have hml := fun m hm => zk2 (m := m) hokx hm
 have hmlen := zhb hokx
 obtain ⟨ml, hmleq⟩ : ∃ ml, zcf n w xs = ml := ⟨_, rfl⟩
 rw [hmleq] at hMo hml hmlen hR hT
 refine zb1 hmix ?_
 refine za5 (by kernel_rfl) ?_
 refine qx_w ta24 ti24 rfl (qx_s rfl (qx_s rfl (qx_s rfl (za2 rfl rfl (zaa rfl) (zas rfl zd1 zd5 rfl rfl rfl hx1) (qx_f zm8 rfl (za2 rfl rfl (zaa rfl) (zao rfl ta48 rfl rfl rfl hat1 rfl) (za2 rfl rfl (zaa rfl) (zai rfl rfl (hMo) (zag rfl (zag rfl (zag rfl zam)))) (qx_s rfl ?_))))))))
 refine zck ?_
 refine zaf (zab (zac rfl (zae (zah (zaw ?_)))))
 obtain ⟨rr, hrr⟩ : ∃ rr, rlxR n w c x cx ml S1 = rr := ⟨_, rfl⟩
 rw [hrr] at hR hT
 clear hst1 hx1 hat1 hat hS1 htake hmark hbok hst hi hlt hMo
 have hkp : ∀ {y : List Int}, okS n w y → Pure P 135 [eL eI y] (eS (zt6 y)) ∧ (zt6 y).size ≤ maxLen := fun {y} h => by
  have := h.len
  exact ⟨zvp (P := P) y h.small (by omega), by rw [zmt]; unfold maxLen; omega⟩
 refine zcb (S := Nat × Sr) (fun p => [(1, eL eS w), (3, eI most), (4, .ref (eN n).cells), (6, .ref (eC c).cells), (14, eL eI goal), (16, .own 0 7 p.2.st.length), (17, .mp 1), (18, eI en'), (19, eI (nr + 1)), (20, eI x), (22, eL eSt ml), (23, eI p.1)]) (fun p => stSe P p.2)
  (fun p => p.1 ≤ ml.length ∧ JR n w c s0 x cx xs (1000 * (nr + 1)) S.st.length p.2 p.1 ∧ rlxR n w c x cx (ml.drop p.1) p.2 = rr) (fun p => ml.length - p.1) (0, S1)
  (zbx _ ⟨rfl, rfl, rfl, rfl, rfl, rfl, rfl, rfl, rfl, rfl, rfl, rfl, trivial⟩) ⟨Nat.zero_le _, hmk, hrr⟩ (fun p hp => ?_)
 clear hrr hmk
 obtain ⟨k, S2⟩ := p
 obtain ⟨hk, hJ, hrr⟩ := hp
 replace hk : k ≤ ml.length := hk
 replace hJ : JR n w c s0 x cx xs (1000 * (nr + 1)) S.st.length S2 k := hJ
 replace hrr : rlxR n w c x cx (ml.drop k) S2 = rr := hrr
 have hsl2 := hJ.sl
 by_cases hke : k = ml.length
 ·
  subst hke
  rw [List.drop_length] at hrr
  replace hrr : S2 = rr := hrr
  subst hrr
  refine zaf (zaf (zab (zac rfl (zac rfl (zad rfl rfl (zaa rfl) (zak rfl zjw rfl) (zad rfl rfl (zaa rfl) (zbj (by omega) (zaz rfl rfl rfl)) (zae (zah (zat rfl ?_)))))))))
  (refine zcg ?_; repeat (first | refine zdn ?_ | refine zb7 ?_ | refine zbs rfl ?_ | refine zb8 ?_ | refine zah ?_ | refine zaf ?_ | refine zaq ?_ | refine zaw ?_))
  exact ⟨(f, S2, en', nr + 1), ⟨hT, hR, by show most - (nr + 1) < (f : Int); omega⟩, Nat.lt_succ_self f, zbx _ ⟨rfl, rfl, rfl, rfl, rfl, rfl, rfl, rfl, rfl, trivial⟩⟩
 have hkl : k < ml.length := by omega
 obtain ⟨⟨pr, hdr⟩, hcb, -, hxs2, -⟩ := id hJ
 have hx2 : x < S2.st.length := hdr.xl
 have hco2 : gti S2.co x = cx := hdr.xc
 have hat2 : (fnds S2)[x]? = some (aFd xs cx (gti S2.dn x) (mx0 (gti S2.fr x)) (gti S2.mv x)) := by rw [← hxs2, ← hco2]; exact zf0 hx2
 have him : (ml.map eSt)[k]? = some (eSt (gti ml k)) := zch hkl
 obtain ⟨hap, hkd, hoy⟩ := hml _ (gti_mem hkl)
 have hstep := fun {m y} (hm : gti (zcf n w xs) k = m) hy => hJ.step hvc (by rw [hmleq]; exact hkl) hcx0 hcx1 (m := m) hm (y := y) hy
 rw [hmleq] at hstep
 rw [zcr hkl] at hrr
 obtain ⟨m, hm0⟩ : ∃ m, gti ml k = m := ⟨_, rfl⟩
 rw [hm0] at him hap hkd hoy hrr
 have hA := zvu (P := P) n w xs m
 have hof := z1w (P := P) c m
 have hpr := zim hvc m.kind
 obtain ⟨y, hy0⟩ : ∃ y, (zbi n w xs m).1 = y := ⟨_, rfl⟩
 have hJ2 := hstep hm0 hy0
 rw [hap, hy0] at hA
 rw [hy0] at hoy
 have hrr2 : rlxR n w c x cx (ml.drop (k + 1)) (metE S2 y (cx + zbk c m.kind) x m) = rr := by
  rw [← hrr]
  show _ = rlxR n w c x cx (ml.drop (k + 1)) (metE S2 (zbi n w (gti S2.st x) m).1 (cx + zbk c m.kind) x m)
  rw [hxs2, hy0]
 clear hstep hrr hJ
 obtain ⟨cy, hcy⟩ : ∃ cy, cx + zbk c m.kind = cy := ⟨_, rfl⟩
 have hadd : IntKind.i64.wrap (cx + zbk c m.kind) = cy := by rw [hcy]; exact IntWalk.i64_in _ (by omega)
 rw [hcy] at hJ2 hrr2
 unfold metE at hJ2 hrr2
 obtain ⟨hky, hks⟩ := hkp hoy
 have hsms : ∀ z ∈ S2.st, Small z := fun z hz => (hdr.ok z hz).small
 have hfl2 := zsq S2
 refine zaf (zaf (zab (zac rfl (zac rfl (zad rfl rfl (zaa rfl) (zak rfl zjw rfl) (zad rfl rfl (zaa rfl) (zbn (by omega) (zaz rfl rfl rfl)) (zae (zah (zax rfl (zaq (zaf (zaw (zaf ?_)))))))))))))
 refine zb1 hmix ?_
 refine za5 (by kernel_rfl) ?_
 refine qx_w ta24 ti24 rfl (qx_s rfl (qx_s rfl (qx_s rfl (za2 rfl rfl (zaa rfl) (zas rfl zd1 zd5 rfl rfl rfl hx2) (qx_f zm8 rfl (za2 rfl rfl (zaa rfl) (zao rfl ta48 rfl rfl rfl hat2 rfl) (qx_s rfl (qx_s rfl (za2 rfl rfl (zaa rfl) (zap rfl zjw ze1 rfl rfl rfl him rfl) (qx_w zjx ze1 rfl (za2 rfl rfl (zaa rfl) (zai rfl rfl (hA) (zag rfl (zag rfl (zag rfl (zag rfl zam))))) (qx_s rfl (qx_s rfl (qx_s rfl (qx_s rfl (qx_s rfl ?_))))))))))))))))
 refine zck ?_
 refine zaf (zaf (zab (zac rfl (zad rfl rfl (zaa rfl) (zbf rfl rfl rfl) (zae (zah (zat rfl (zaq (zaf ?_)))))))))
 refine zb1 hmix ?_
 refine za5 (by kernel_rfl) ?_
 refine qx_s rfl (qx_s rfl (za2 rfl rfl (zaa rfl) (zas rfl zd1 zd5 rfl rfl rfl hx2) (qx_f zeq rfl (za2 rfl rfl (zaa rfl) (zao rfl ta3 rfl rfl rfl hat2 rfl) (qx_w ta27 ti27 rfl (qx_s rfl (qx_s rfl (za2 rfl rfl (zaa rfl) (zap rfl zjw ze1 rfl rfl rfl him rfl) (qx_w zjx ze1 rfl (za2 rfl rfl (zaa rfl) (zai rfl rfl (hof) (zag rfl (zag rfl zam))) (za2 rfl rfl (zaa rfl) (za9 rfl rfl rfl hadd) (qx_s rfl ?_))))))))))))
 refine zck ?_
 refine zaf ?_
 by_cases hf : zdy S2.st y < 0
 ·
  rw [if_pos hf] at hJ2 hrr2
  have hno := z04 hoy.small _ S2.st rfl hsms (zga.1 hf)
  refine zab (zac rfl (zac rfl (zad rfl rfl (zaa rfl) (zai rfl rfl (hky) (zag rfl zam)) ?_)))
  refine zad rfl rfl (zaa rfl) (zlm rfl zlw tK9 rfl rfl ⟨rfl, rfl, rfl⟩ rfl (keyOf_string_mk tn9 hks) ti3 (plainElem_int tn3 rfl) (by exact atKey_of_not_has hno _)) ?_
  refine zac rfl (zae (zaf (zab (zac rfl (zad rfl rfl (zaa rfl) (zb5 rfl rfl rfl) (zae (zah (zax rfl (zaf (zab (zac rfl (zac rfl (zac rfl (zac rfl (zac rfl (zac rfl (zad rfl rfl (zaa rfl) (zap rfl zjw ze1 rfl rfl rfl him rfl) (zbc zjx ze1 rfl (zad rfl rfl (zaa rfl) (zbr rfl zd5 tp160 rfl rfl) ?_)))))))))))))))))))
  refine zad rfl rfl (zaa rfl) (zgc rfl zd1 zd5 rfl rfl (by decide) (by decide) rfl rfl rfl (by repeat' (first | exact Lo.s _ | exact zbb | refine zaj ?_ ?_ | refine zb9 ?_ | refine Lo.agg _ ?_ | refine Lo.sl _ ?_ | intro _))) ?_
  refine zad rfl rfl (zaa rfl) (zc6 rfl zd1 zd5 rfl (by decide) rfl rfl (by first | rfl | (simp; done) | (simp; omega)) rfl (by first | exact .own _ _ _ rfl rfl _ (by first | rfl | simp) | exact .emp | exact .nil | exact .sl _ (by first | simp; done | intro e he; simp at he; obtain ⟨_, _, rfl⟩ := he; rfl)) (by first | omega | (simp; omega) | (unfold maxLen; simp; omega)) (by first | omega | (simp; omega) | (unfold maxLen; simp; omega))) ?_
  refine zac rfl (zae (zah ?_))
  refine zbv (zbx [(1, eL eS w), (3, eI most), (4, .ref (eN n).cells), (6, .ref (eC c).cells), (14, eL eI goal), (16, .own 2 7 ((fnds S2).length + 1)), (17, .mp 1), (18, eI en'), (19, eI (nr + 1)), (20, eI x), (22, eL eSt ml), (23, eI k), (24, eL eI y)] ⟨rfl, rfl, rfl, rfl, rfl, rfl, rfl, rfl, rfl, rfl, rfl, rfl, rfl, trivial⟩) ?_
  obtain ⟨L, hL⟩ : ∃ L, (fnds S2).length + 1 = L := ⟨_, rfl⟩
  rw [hL]
  have hwf : (Lit.int .i64 (L : Nat)).wf = true := zz7 (k := L) (by omega)
  have hmn : (atY P S2.st).n = S2.st.length := rfl
  have hrow : fnds ⟨S2.st ++ [y], S2.co ++ [cy], S2.dn ++ [false], S2.fr ++ [(x : Int)], S2.mv ++ [m]⟩ = fnds S2 ++ [aFd y cy false x m] := by rw [zzf hdr.l1 hdr.l2 hdr.l3 hdr.l4, zwh]
  refine zab (zac rfl (zac rfl (zad rfl rfl (zaa rfl) (zai rfl rfl (hky) (zag rfl zam)) (zac rfl (zad rfl rfl (zaa rfl) (zdg rfl zd1 rfl) ?_)))))
  refine zbz rfl (zaa rfl) (zie (.inl rfl) zlw tK9 rfl rfl ⟨rfl, rfl, rfl⟩ (by (try dsimp only); unfold maxLen; omega) rfl rfl (keyOf_string_mk tn9 (by first | assumption | (unfold maxLen; omega))) (plainElem_int tn3 (by first | rfl | assumption))) ?_
  refine zae (zb8 (zah (zab (zac rfl (zad rfl rfl (zaa rfl) (za9 rfl rfl rfl (IntWalk.i64_in _ (by omega))) (zac rfl (zae (zah ?_))))))))
  exact ⟨(k + 1, _), ⟨by show k + 1 ≤ ml.length; omega, hJ2, hrr2⟩, by show ml.length - (k + 1) < ml.length - k; omega, zed [2, 1] (by decide) ⟨⟨_, rfl, .rowE (zra _) hrow.symm⟩, ⟨_, rfl, zlz (by show _ = atY P (S2.st ++ [y]); rw [zzw, ← hfl2, hL]; rfl)⟩, trivial⟩ ⟨.lo _ (lo_W w), .lo _ (.s _), .lo _ hln, .lo _ hlc, .lo _ lo_I, .own 2 0 7 _ _ rfl (by show L = (S2.st ++ [y]).length; rw [← hL, hfl2]; simp), .mp 1 1 rfl, .lo _ (.s _), .lo _ (.s _), .lo _ (.s _), .lo _ (zip _), .lo _ (.s _), trivial⟩⟩
 rw [if_neg hf] at hJ2 hrr2
 obtain ⟨p1, p2, p3⟩ := zhf hf
 have hyes := zx5 hoy.small _ S2.st rfl hsms hdr.nd (List.mem_of_getElem? p1)
 rw [← p3] at hyes
 generalize idx S2.st y = i at p1 p2 p3 hyes hJ2 hrr2
 have hlook := hyes (.lit (.int .i64 0))
 have hsub : IntKind.i64.wrap ((i : Int) + 1 - 1) = (i : Int) := by rw [show (i : Int) + 1 - 1 = i by omega]; exact IntWalk.i64_in _ (by omega)
 have hati : (fnds S2)[i]? = some (aFd (gti S2.st i) (gti S2.co i) (gti S2.dn i) (mx0 (gti S2.fr i)) (gti S2.mv i)) := zf0 p2
 refine zab (zac rfl (zac rfl (zad rfl rfl (zaa rfl) (zai rfl rfl (hky) (zag rfl zam)) ?_)))
 refine zad rfl rfl (zaa rfl) (zlm rfl zlw tK9 rfl rfl ⟨rfl, rfl, rfl⟩ rfl (keyOf_string_mk tn9 hks) ti3 (plainElem_int tn3 rfl) (by exact hyes _)) ?_
 refine zac rfl (zae (zaf (zab (zac rfl (zad rfl rfl (zaa rfl) (zbj (by omega) (zb5 rfl rfl rfl)) (zae (zah (zat rfl (zaf ?_)))))))))
 by_cases hlt : gti S2.dn i = false ∧ cy < gti S2.co i
 rotate_left 1
 ·
  have hn : ¬ cy < gti S2.co i := fun h => by
   cases hd : gti S2.dn i with
   | false => exact hlt ⟨hd, h⟩
   | true => have := hdr.lo i p2 hd; omega
  rw [if_neg hn] at hJ2 hrr2
  cases hd : gti S2.dn i with
  | true =>
   rw [hd] at hati
   refine zab (zac rfl (zac rfl (zad rfl rfl (zaa rfl) (zcw rfl rfl rfl hsub) (zad rfl rfl (zaa rfl) (zas rfl zd1 zd5 rfl rfl rfl p2) (zbm zg4 rfl (zad rfl rfl (zaa rfl) (zao rfl ta4 rfl rfl rfl hati rfl) (zad rfl rfl (zaa rfl) (zay rfl rfl) (zac rfl (za3 rfl (za3 rfl (za3 rfl (za3 rfl (za3 rfl (za3 rfl (za3 rfl (za3 rfl (zac rfl (zae (zah (zat rfl (zaq (zb8 (zah (zab (zac rfl (zad rfl rfl (zaa rfl) (za9 rfl rfl rfl (IntWalk.i64_in _ (by omega))) ?_))))))))))))))))))))))))))
   refine zac rfl (zae (zah ?_))
   exact ⟨(k + 1, _), ⟨by show k + 1 ≤ ml.length; omega, hJ2, hrr2⟩, by show ml.length - (k + 1) < ml.length - k; omega, zbx _ ⟨rfl, rfl, rfl, rfl, rfl, rfl, rfl, rfl, rfl, rfl, rfl, rfl, trivial⟩⟩
  | false =>
   rw [hd] at hati
   refine zab (zac rfl (zac rfl (zad rfl rfl (zaa rfl) (zcw rfl rfl rfl hsub) (zad rfl rfl (zaa rfl) (zas rfl zd1 zd5 rfl rfl rfl p2) (zbm zg4 rfl (zad rfl rfl (zaa rfl) (zao rfl ta4 rfl rfl rfl hati rfl) (zad rfl rfl (zaa rfl) (zay rfl rfl) (zac rfl (zac rfl (zac rfl (zac rfl (zad rfl rfl (zan rfl rfl rfl) (zcw rfl rfl rfl hsub) (zad rfl rfl (zan rfl rfl rfl) (zas rfl zd1 zd5 rfl rfl rfl p2) (zbm zeq rfl (zad rfl rfl (zan rfl rfl rfl) (zao rfl ta3 rfl rfl rfl hati rfl) ?_)))))))))))))))
   refine zad rfl rfl (zan rfl rfl rfl) (zbj hn (zaz rfl rfl rfl)) (zac rfl (zae (zah (zat rfl (zaq (zb8 (zah (zab (zac rfl (zad rfl rfl (zaa rfl) (za9 rfl rfl rfl (IntWalk.i64_in _ (by omega))) (zac rfl (zae (zah ?_)))))))))))))
   exact ⟨(k + 1, _), ⟨by show k + 1 ≤ ml.length; omega, hJ2, hrr2⟩, by show ml.length - (k + 1) < ml.length - k; omega, zbx _ ⟨rfl, rfl, rfl, rfl, rfl, rfl, rfl, rfl, rfl, rfl, rfl, rfl, trivial⟩⟩
 obtain ⟨hd, hlt⟩ := hlt
 rw [if_pos hlt] at hJ2 hrr2
 rw [hd] at hati
 have hch := z2l p2 hdr.l1 hdr.l3 hdr.l4 cy x m
 rw [zwh, hd] at hch
 obtain ⟨yi, hyi⟩ : ∃ z, gti S2.st i = z := ⟨_, rfl⟩
 rw [hyi] at hati hch
 have hif : i < (fnds S2).length := by omega
 have hA1 : ((fnds S2).set i (aFd yi cy false (mx0 (gti S2.fr i)) (gti S2.mv i)))[i]? = some (aFd yi cy false (mx0 (gti S2.fr i)) (gti S2.mv i)) := List.getElem?_set_self hif
 have hA2 : (((fnds S2).set i (aFd yi cy false (mx0 (gti S2.fr i)) (gti S2.mv i))).set i (aFd yi cy false x (gti S2.mv i)))[i]? = some (aFd yi cy false x (gti S2.mv i)) := List.getElem?_set_self (by rw [List.length_set]; exact hif)
 refine zab (zac rfl (zac rfl (zad rfl rfl (zaa rfl) (zcw rfl rfl rfl hsub) (zad rfl rfl (zaa rfl) (zas rfl zd1 zd5 rfl rfl rfl p2) (zbm zg4 rfl (zad rfl rfl (zaa rfl) (zao rfl ta4 rfl rfl rfl hati rfl) (zad rfl rfl (zaa rfl) (zay rfl rfl) (zac rfl (zac rfl (zac rfl (zac rfl (zad rfl rfl (zan rfl rfl rfl) (zcw rfl rfl rfl hsub) (zad rfl rfl (zan rfl rfl rfl) (zas rfl zd1 zd5 rfl rfl rfl p2) (zbm zeq rfl (zad rfl rfl (zan rfl rfl rfl) (zao rfl ta3 rfl rfl rfl hati rfl) ?_)))))))))))))))
 refine zad rfl rfl (zan rfl rfl rfl) (zbn hlt (zaz rfl rfl rfl)) (zac rfl (zae (zah (zax rfl (zaf (zab (zac rfl (zac rfl (zad rfl rfl (zaa rfl) (zcw rfl rfl rfl hsub) (zac rfl (zad rfl rfl (zaa rfl) (zas rfl zd1 zd5 rfl rfl rfl p2) (zbm zeq rfl (zbz rfl (zaa rfl) (za0 rfl ti3 rfl rfl rfl hati rfl rfl (by decide) (by decide)) (zae (zaf (zab (zac rfl (zac rfl (zad rfl rfl (zaa rfl) (zcw rfl rfl rfl hsub) (zac rfl (zad rfl rfl (zaa rfl) (zas rfl zd1 zd5 rfl rfl rfl p2) ?_)))))))))))))))))))))
 refine zbm z1g rfl (zbz rfl (zaa rfl) (za0 rfl ti3 rfl rfl rfl hA1 rfl rfl (by decide) (by decide)) (zae (zah (zab (zac rfl (zac rfl (zad rfl rfl (zaa rfl) (zcw rfl rfl rfl hsub) (zac rfl (zac rfl (zad rfl rfl (zaa rfl) (zap rfl zjw ze1 rfl rfl rfl him rfl) (zbc zjx ze1 rfl (zad rfl rfl (zaa rfl) (zas rfl zd1 zd5 rfl rfl rfl p2) (zbm z1f rfl (zbz rfl (zaa rfl) (za0 rfl ze1 rfl rfl rfl hA2 rfl rfl (by decide) (by decide)) (zae (zb8 (zah (zab ?_))))))))))))))))))
 refine zac rfl (zad rfl rfl (zaa rfl) (za9 rfl rfl rfl (IntWalk.i64_in _ (by omega))) (zac rfl (zae (zah ?_))))
 exact ⟨(k + 1, _), ⟨by show k + 1 ≤ ml.length; omega, hJ2, hrr2⟩, by show ml.length - (k + 1) < ml.length - k; omega, zed [0, 1] (by decide) ⟨⟨_, rfl, .rowE (zra _) (by rw [← hch, List.set_set, List.set_set]; rfl)⟩, ⟨_, rfl, zlz rfl⟩, trivial⟩ ⟨.lo _ (lo_W w), .lo _ (.s _), .lo _ hln, .lo _ hlc, .lo _ lo_I, .own 0 0 7 _ _ rfl rfl, .mp 1 1 rfl, .lo _ (.s _), .lo _ (.s _), .lo _ (.s _), .lo _ (zip _), .lo _ (.s _), trivial⟩⟩
end Go.Proofs.YtohmldibkojkfaaGreatDoor.Aw
end
