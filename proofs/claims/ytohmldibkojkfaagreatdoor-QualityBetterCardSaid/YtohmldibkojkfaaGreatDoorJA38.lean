import Derived.Test.YtohmldibkojkfaaGreatDoorJA36
import Derived.Test.YtohmldibkojkfaaGreatDoorJA32
set_option linter.unusedSimpArgs false
set_option linter.unusedVariables false
set_option linter.unusedSectionVars false
section
namespace Go.Proofs.YtohmldibkojkfaaGreatDoor.Aw
open Go Go.RowKit Go.Proofs Go.Maps Go.WideMaps Dl
variable {P : Program} [IsP P]
def rA (x : Int) : Int := x % 200 + 1
def rB (x : Int) : Int := x / 200 + 1
def xsR (m : List Int) : List Int := m.flatMap fun n => [n % 200 + 1, n / 200 + 1]
theorem zyh (m : List Int) (n : Int) : xsR (m ++ [n]) = xsR m ++ [n % 200 + 1, n / 200 + 1] := by simp [xsR]
theorem zqc (m : List Int) : (xsR m).length = 2 * m.length := by
 induction m with
 | nil => rfl
 | cons a m ih =>
  have : xsR (a :: m) = [a % 200 + 1, a / 200 + 1] ++ xsR m := rfl
  rw [this, List.length_append, ih]
  simp; omega
def zic (m : List Int) : List UInt8 := (xsR m).map fun n => UInt8.ofNat n.toNat
theorem zpb : ∀ {a b : List Int}, Small a → Small b → zic a = zic b → a = b
 | [], [], _, _, _ => rfl
 | [], y :: b, _, _, h => by simp [zic, xsR] at h
 | x :: a, [], _, _, h => by simp [zic, xsR] at h
 | x :: a, y :: b, ha, hb, h => by
  have e1 : zic (x :: a) = UInt8.ofNat (x % 200 + 1).toNat :: UInt8.ofNat (x / 200 + 1).toNat :: zic a := rfl
  have e2 : zic (y :: b) = UInt8.ofNat (y % 200 + 1).toNat :: UInt8.ofNat (y / 200 + 1).toNat :: zic b := rfl
  rw [e1, e2] at h
  injection h with h1 h
  injection h with h2 h
  have hx := ha x (by simp)
  have hy := hb y (by simp)
  have g1 := congrArg UInt8.toNat h1
  have g2 := congrArg UInt8.toNat h2
  rw [UInt8.toNat_ofNat', UInt8.toNat_ofNat'] at g1 g2
  have : x = y := by omega
  rw [this, zpb (fun z hz => ha z (by simp [hz])) (fun z hz => hb z (by simp [hz])) h]
def zt6 (m : List Int) : ByteArray := zm5 (xsR m)
theorem zmt (m : List Int) : (zt6 m).size = 2 * m.length := by
 have := zqc m
 simp [zt6, zm5, ByteArray.size, this]
set_option maxHeartbeats 1000000 in
theorem zvp (m : List Int) (hm : Small m) (hl : m.length ≤ 300) : Pure P 135 [eL eI m] (eS (zt6 m)) := by
 refine zcy (by rw [IsP.eq (P := P)]; exact Tryz.func135) rfl rfl rfl rfl rfl (zaj (zb9 fun _ => .s _) zbb) (.s _) (by simp only [argF]; rfl) ?_
 refine zaf (zab (zac rfl (zae (zaf (zab (zad rfl rfl (zaa rfl) (zlo rfl rfl zyl ti5) (zac rfl (zae (zaf (zaf (zab (zac rfl (zae (zah (zaw ?_)))))))))))))))
 refine zbv (wk_own (d := 3) 1 rfl (.inl rfl)) ?_
 refine zcb (S := Nat) (fun k => [(0, eL eI m), (4, eI k), (3, .own 0 1 (2 * k))]) (fun k => [.row 1 ((xsR (m.take k)).map eU)]) (fun k => k ≤ m.length) (fun k => m.length - k) 0 (zed [0] (by decide) ⟨⟨_, rfl, .rowE (lo_U _) rfl⟩, trivial⟩ ⟨.lo _ (zb9 fun _ => .s _), .lo _ (.s _), .own 0 0 1 _ _ rfl rfl, trivial⟩) (Nat.zero_le _) (fun k hk => ?_)
 by_cases hlt : k < m.length
 ·
  obtain ⟨hx0, hx1⟩ := hm (gti m k) (gti_mem hlt)
  have hix : (m.map eI)[k]? = some (eI (gti m k)) := zch hlt
  have hlm : k < (m.map eI).length := by rw [List.length_map]; exact hlt
  have hxl2 : (xsR (m.take k)).length = 2 * k := by rw [zqc, List.length_take]; omega
  have hxl : ((xsR (m.take k)).map eU).length = 2 * k := by rw [List.length_map, hxl2]
  have hrow : (xsR (m.take (k + 1))).map eU = (xsR (m.take k)).map eU ++ [eU (gti m k % 200 + 1), eU (gti m k / 200 + 1)] := by
   rw [zux hlt, zyh, List.map_append]; rfl
  generalize gti m k = x at hx0 hx1 hix hrow
  have hq : IntKind.i64.wrap (x.tdiv 200) = x / 200 := by rw [Int.tdiv_eq_ediv_of_nonneg hx0]; exact IntWalk.i64_in _ (by omega)
  have hr : x.tmod 200 = x % 200 := Int.tmod_eq_emod_of_nonneg hx0
  have h0 : 0 ≤ x / 200 := by omega
  have h2 : x / 200 ≤ 1 := by omega
  have hw1 : IntKind.u8.wrap (x % 200 + 1) = x % 200 + 1 := zuo (by omega) (by omega)
  have hw2 : IntKind.u8.wrap (x / 200 + 1) = x / 200 + 1 := zuo (by omega) (by omega)
  refine zaf (zaf (zab (zac rfl (zac rfl (zad rfl rfl (zaa rfl) (zak rfl ts48 rfl) (zad rfl rfl (zaa rfl) (zbn (by omega) (zaz rfl rfl rfl)) (zae (zah (zax rfl (zaq (zaf (zaw ?_))))))))))))
  refine zb1 hmix ?_
  refine zz0 ?_
  refine ex_s rfl (ex_s rfl (ex_s rfl (zcd rfl rfl (zaa rfl) (fun _ => (zap rfl ts48 ti3 rfl rfl rfl hix rfl)) (ex_l ta3 rfl (zcd rfl rfl (zaa rfl) (fun _ => (zzp rfl rfl rfl (by omega) hr)) (zcd rfl rfl (zaa rfl) (fun _ => (za9 rfl rfl rfl (IntWalk.i64_in _ (by omega)))) (zcd rfl rfl (zaa rfl) (fun _ => (zpy rfl tu3 tk5 rfl hw1)) (ex_s rfl (ex_s rfl (zcd rfl rfl (zaa rfl) (fun _ => (zap rfl ts48 ti3 rfl rfl rfl hix rfl)) (ex_l ta3 rfl (zcd rfl rfl (zaa rfl) (fun _ => (zs1 rfl rfl rfl (by omega) hq)) ?_))))))))))))
  refine zcd rfl rfl (zaa rfl) (fun _ => (za9 rfl rfl rfl (IntWalk.i64_in _ (by omega)))) (zcd rfl rfl (zaa rfl) (fun _ => (zpy rfl tu3 tk5 rfl hw2)) (zcd rfl rfl (zaa rfl) (fun _ => (zix rfl zyl ti5 rfl rfl (by decide) (by decide) (by decide) rfl rfl)) ?_))
  all_goals refine zlj rfl rfl (zaa rfl) (zc6 (y' := .sl [eU (rA x), eU (rB x)]) (l := [eU (rA x), eU (rB x)]) rfl zyl ti5 rfl (by decide) rfl rfl hxl.symm rfl (by exact .sl _ (by intro e he; simp at he; rcases he with rfl | rfl <;> rfl)) (by show ((xsR (m.take k)).map eU).length + 2 ≤ 9223372036854775807; rw [hxl]; omega) (by show (((xsR (m.take k)).map eU).length + 2) * 1 ≤ 140737488355328; rw [hxl]; omega)) (fun _ h => zev h) ?_
  refine ex_s rfl ?_
  refine zit (by kernel_rfl) ?_
  refine zb8 (zah (zab (zac rfl (zad rfl rfl (zaa rfl) (za9 rfl rfl rfl (IntWalk.i64_in _ (by omega))) (zac rfl (zae (zah ?_)))))))
  exact ⟨k + 1, by show k + 1 ≤ m.length; omega, by show m.length - (k + 1) < m.length - k; omega, zed [1] (by decide) ⟨⟨_, rfl, .rowE (lo_U _) hrow.symm⟩, trivial⟩ ⟨.lo _ (zb9 fun _ => .s _), .lo _ (.s _), .own 1 0 1 _ _ rfl (by rw [hxl]; rfl), trivial⟩⟩
 ·
  have e : k = m.length := by omega
  subst e
  rw [List.take_length]
  refine zaf (zaf (zab (zac rfl (zac rfl (zad rfl rfl (zaa rfl) (zak rfl ts48 rfl) (zad rfl rfl (zaa rfl) (zbj (by omega) (zaz rfl rfl rfl)) (zae (zah (zat rfl ?_)))))))))
  (refine zcg ?_; repeat (first | refine zdn ?_ | refine zb7 ?_ | refine zbs rfl ?_ | refine zb8 ?_ | refine zah ?_ | refine zaf ?_ | refine zaq ?_ | refine zaw ?_))
  refine zab (zac rfl ?_)
  refine zad rfl rfl (zaa rfl) (zxs rfl zyl tk5 tg9 rfl (.own _ _ _ rfl rfl _ (by rw [List.length_map, zqc]))) ?_
  refine zac rfl (zae (zah ?_))
  (refine zav ?_; repeat (first | refine za6 ?_ | refine za7 ?_))
  exact zbq (.inr rfl) rfl rfl
theorem zvm (a b : List Int) (hl : a.length = b.length) (hb : a.length ≤ 1000) : Pure P 136 [eL eI a, eL eI b] (eB (decide (a = b))) := by
 obtain ⟨R, hR⟩ : ∃ R, decide (a = b) = R := ⟨_, rfl⟩
 rw [hR]
 refine zcy (by rw [IsP.eq (P := P)]; exact Tryz.func136) rfl rfl rfl rfl rfl (by repeat' (first | exact Lo.s _ | exact zbb | refine zaj ?_ ?_ | refine zb9 ?_ | refine Lo.agg _ ?_ | refine Lo.sl _ ?_ | intro _)) (.s _) (by simp only [argF]; rfl) ?_
 refine zaf (zab (zac rfl (zae (zaf (zaf (zab (zac rfl (zae (zah (zaw ?_))))))))))
 refine zcb (S := Nat) (fun k => [(0, eL eI a), (1, eL eI b), (5, eI k)]) (fun _ => []) (fun k => k ≤ a.length ∧ ∀ i, i < k → gti a i = gti b i) (fun k => a.length - k) 0 (zbx _ ⟨rfl, rfl, rfl, trivial⟩) ⟨Nat.zero_le _, fun i h => by omega⟩ (fun k hk => ?_)
 obtain ⟨hk, he⟩ := hk
 by_cases hlt : k < a.length
 ·
  have hia : (a.map eI)[k]? = some (eI (gti a k)) := zch hlt
  have hib : (b.map eI)[k]? = some (eI (gti b k)) := zch (by omega)
  refine zaf (zaf (zab (zac rfl (zac rfl (zad rfl rfl (zaa rfl) (zak rfl ts48 rfl) (zad rfl rfl (zaa rfl) (zbn (by omega) (zaz rfl rfl rfl)) (zae (zah (zax rfl (zaq (zaf (zaw (zaf ?_)))))))))))))
  by_cases hne : gti a k = gti b k
  ·
   refine zb1 hmix ?_
   refine za5 (by kernel_rfl) ?_
   refine qx_s rfl (qx_s rfl (za2 rfl rfl (zaa rfl) (zap rfl ts48 ti3 rfl rfl rfl hia rfl) (qx_l ta3 rfl (qx_s rfl (qx_s rfl (za2 rfl rfl (zaa rfl) (zap rfl ts48 ti3 rfl rfl rfl hib rfl) (qx_l ta3 rfl ?_)))))))
   refine za2 rfl rfl (zaa rfl) (zbj (fun h => h hne) (zbf rfl rfl rfl)) ?_
   refine zck ?_
   refine zah (zat rfl (zaq (zb8 (zah (zab (zac rfl (zad rfl rfl (zaa rfl) (za9 rfl rfl rfl (IntWalk.i64_in _ (by omega))) (zac rfl (zae (zah ?_))))))))))
   refine ⟨k + 1, ⟨by show k + 1 ≤ a.length; omega, fun i hi => ?_⟩, by show a.length - (k + 1) < a.length - k; omega, zbx _ ⟨rfl, rfl, rfl, trivial⟩⟩
   by_cases hik : i = k
   ·
    subst hik; exact hne
   ·
    exact he i (by omega)
  ·
   refine zb1 hmix ?_
   refine za5 (by kernel_rfl) ?_
   refine qx_s rfl (qx_s rfl (za2 rfl rfl (zaa rfl) (zap rfl ts48 ti3 rfl rfl rfl hia rfl) (qx_l ta3 rfl (qx_s rfl (qx_s rfl (za2 rfl rfl (zaa rfl) (zap rfl ts48 ti3 rfl rfl rfl hib rfl) (qx_l ta3 rfl (za2 rfl rfl (zaa rfl) (zbn hne (zbf rfl rfl rfl)) ?_))))))))
   refine zck ?_
   refine zah (zax rfl (zaf (zab (zac rfl (zae (zah ?_))))))
   (refine zav ?_; repeat (first | refine za6 ?_ | refine za7 ?_))
   have hf : R = false := by rw [← hR]; exact decide_eq_false fun h => hne (by rw [h])
   subst hf
   exact zbq (.inr rfl) rfl rfl
 ·
  have e : k = a.length := by omega
  subst e
  refine zaf (zaf (zab (zac rfl (zac rfl (zad rfl rfl (zaa rfl) (zak rfl ts48 rfl) (zad rfl rfl (zaa rfl) (zbj (by omega) (zaz rfl rfl rfl)) (zae (zah (zat rfl ?_)))))))))
  (refine zcg ?_; repeat (first | refine zdn ?_ | refine zb7 ?_ | refine zbs rfl ?_ | refine zb8 ?_ | refine zah ?_ | refine zaf ?_ | refine zaq ?_ | refine zaw ?_))
  refine zab (zac rfl (zae (zah ?_)))
  (refine zav ?_; repeat (first | refine za6 ?_ | refine za7 ?_))
  have hf : R = true := by
   rw [← hR]
   refine decide_eq_true (List.ext_getElem hl fun i h1 h2 => ?_)
   have := he i h1
   rwa [zdq (List.getElem?_eq_getElem h1), zdq (List.getElem?_eq_getElem h2)] at this
  subst hf
  exact zbq (.inr rfl) rfl rfl
end Go.Proofs.YtohmldibkojkfaaGreatDoor.Aw
end
section
namespace Go.Proofs.YtohmldibkojkfaaGreatDoor.Aw
open Go Go.RowKit Go.Proofs Go.Maps Go.WideMaps Dl
variable {P : Program} [IsP P]
def givR (n : Net) (w : List ByteArray) (c : Cst) (most : Int) : Int := if zcz n w c = false then 1 else if most < 1 ∨ 2000 < most then 2 else 0
theorem zvb (n : Net) (w : List ByteArray) (c : Cst) : zcz n w c = (zb2 n && (zd4 w && vcB c)) := by
 unfold zcz zce
 cases zb2 n <;> cases zd4 w <;> cases vcB c <;> rfl
theorem zoy (n : Net) (w : List ByteArray) (c : Cst) (most : Int) : Pure P 100 [eN n, eL eS w, eC c, eI most] (eI (givR n w c most)) := by
 have hR : givR n w c most = if zcz n w c = false then 1 else if most < 1 ∨ 2000 < most then 2 else 0 := rfl
 rw [zvb] at hR
 generalize givR n w c most = R at hR ⊢
 have h1 := zoq (P := P) n
 have h2 := ztt (P := P) w
 have h3 := zh1 (P := P) c
 generalize zb2 n = b1 at h1 hR
 generalize zd4 w = b2 at h2 hR
 generalize vcB c = b3 at h3 hR
 have hln : Lo 0 (.ref (eN n).cells) := .ref _ (lo_N n).cells
 have hlc : Lo 0 (.ref (eC c).cells) := .ref _ (lo_C c).cells
 refine zcy (by rw [IsP.eq (P := P)]; exact Tryz.func100) rfl rfl rfl rfl rfl (zaj (lo_N n) (zaj (lo_W w) (zaj (lo_C c) (zaj (.s _) zbb)))) (.s _) (by simp only [argF]; rfl) ?_
 refine zaf (zab (zad rfl rfl (zaa rfl) (zbg rfl rfl rfl rfl) ?_))
 refine zar (zbl (id := 0) rfl) (zar (zb3 (d := 4) rfl rfl rfl) ?_)
 refine zad rfl rfl (zaa rfl) (zbg rfl rfl rfl rfl) ?_
 refine zar (zbl (id := 1) rfl) (zar (zb3 (d := 6) rfl rfl rfl) ?_)
 refine zac rfl (zae (zaf (zaf ?_)))
 by_cases hb : (b1 && (b2 && b3)) = false
 ·
  rw [if_pos hb] at hR
  cases b1 with
  | false =>
   refine zab (zbc ta24 ti24 rfl (zad rfl rfl (zaa rfl) (zai rfl rfl (h1) (zag rfl zam)) (zad rfl rfl (zaa rfl) (zay rfl rfl) (zac rfl (za3 rfl (za3 rfl (za3 rfl (zac rfl (zac rfl (za3 rfl (za3 rfl (za3 rfl (zac rfl (zae (zah (zax rfl (zaf (zab (zac rfl (zae (zah ?_)))))))))))))))))))))
   (refine zav ?_; repeat (first | refine za6 ?_ | refine za7 ?_))
   subst hR
   exact zbq (.inr rfl) rfl rfl
  | true =>
  cases b2 with
  | false =>
   refine zab (zbc ta24 ti24 rfl (zad rfl rfl (zaa rfl) (zai rfl rfl (h1) (zag rfl zam)) (zad rfl rfl (zaa rfl) (zay rfl rfl) (zac rfl (zac rfl (zad rfl rfl (zan rfl rfl rfl) (zai rfl rfl (h2) (zag rfl zam)) (zad rfl rfl (zan rfl rfl rfl) (zay rfl rfl) (zac rfl (zac rfl (za3 rfl (za3 rfl (za3 rfl (zac rfl (zae (zah (zax rfl (zaf (zab (zac rfl (zae (zah ?_)))))))))))))))))))))
   (refine zav ?_; repeat (first | refine za6 ?_ | refine za7 ?_))
   subst hR
   exact zbq (.inr rfl) rfl rfl
  | true =>
  cases b3 with
  | false =>
   refine zab (zbc ta24 ti24 rfl (zad rfl rfl (zaa rfl) (zai rfl rfl (h1) (zag rfl zam)) (zad rfl rfl (zaa rfl) (zay rfl rfl) (zac rfl (zac rfl (zad rfl rfl (zan rfl rfl rfl) (zai rfl rfl (h2) (zag rfl zam)) (zad rfl rfl (zan rfl rfl rfl) (zay rfl rfl) (zac rfl (zac rfl (zbc ta27 ti27 rfl (zad rfl rfl (zan rfl rfl rfl) (zai rfl rfl (h3) (zag rfl zam)) (zad rfl rfl (zan rfl rfl rfl) (zay rfl rfl) (zac rfl (zae (zah (zax rfl (zaf (zab (zac rfl ?_)))))))))))))))))))
   refine zae (zah ?_)
   (refine zav ?_; repeat (first | refine za6 ?_ | refine za7 ?_))
   subst hR
   exact zbq (.inr rfl) rfl rfl
  | true => cases hb
 rw [if_neg hb] at hR
 have hb1 : b1 = true := by cases b1 <;> simp at hb ⊢
 subst hb1
 have hb2 : b2 = true := by cases b2 <;> simp at hb ⊢
 subst hb2
 have hb3 : b3 = true := by cases b3 <;> simp at hb ⊢
 subst hb3
 refine zab (zbc ta24 ti24 rfl (zad rfl rfl (zaa rfl) (zai rfl rfl (h1) (zag rfl zam)) (zad rfl rfl (zaa rfl) (zay rfl rfl) (zac rfl (zac rfl (zad rfl rfl (zan rfl rfl rfl) (zai rfl rfl (h2) (zag rfl zam)) (zad rfl rfl (zan rfl rfl rfl) (zay rfl rfl) (zac rfl (zac rfl (zbc ta27 ti27 rfl (zad rfl rfl (zan rfl rfl rfl) (zai rfl rfl (h3) (zag rfl zam)) (zad rfl rfl (zan rfl rfl rfl) (zay rfl rfl) (zac rfl (zae (zah (zat rfl (zaq (zaf (zaf (zab ?_))))))))))))))))))))
 refine zac rfl ?_
 refine zet rfl rfl (zaa rfl) (zaz rfl rfl rfl) (fun h23 => ?_) (fun h23 => ?_)
 all_goals refine zac rfl ?_
 all_goals (first | refine zac rfl ?_ | refine za3 rfl ?_)
 all_goals (first | refine zet rfl rfl (zan rfl rfl rfl) (za4 rfl rfl rfl) (fun h26 => ?_) (fun h26 => ?_) | refine za3 rfl ?_)
 all_goals refine zac rfl (zae (zah ?_))
 all_goals (first | refine zax rfl ?_ | refine zat rfl ?_)
 all_goals (repeat (first | refine zaf ?_ | refine zaq ?_))
 all_goals first
  |
   refine zab (zac rfl (zae (zah ?_)))
   (refine zav ?_; repeat (first | refine za6 ?_ | refine za7 ?_))
   have hR2 := hR.trans (if_pos (by omega))
   subst hR2
   exact zbq (.inr rfl) rfl rfl
  | skip
 have hR2 := hR.trans (if_neg (by omega))
 subst hR2
 refine zab (zac rfl (zae (zah ?_)))
 (refine zav ?_; repeat (first | refine za6 ?_ | refine za7 ?_))
 exact zbq (.inr rfl) rfl rfl
def atR (S : List (List Int)) : DataW Unit := S.zipIdx.foldl (fun D p => D.put (.string (zic p.1)) (.lit (.int .i64 ((p.2 + 1 : Nat))))) (.map [])
theorem zkg (S : List (List Int)) (m : List Int) : atR (S ++ [m]) = (atR S).put (.string (zic m)) (.lit (.int .i64 ((S.length + 1 : Nat)))) := by
 unfold atR
 rw [List.zipIdx_append, List.foldl_append]
 simp
theorem zx6 : ∀ (k : Nat) (S : List (List Int)), S.length = k → IsMap (atR S)
 | 0, S, h => by rw [List.eq_nil_of_length_eq_zero h]; exact isMap_empty
 | k + 1, S, h => by
  have hne : S ≠ [] := fun e => by rw [e] at h; simp at h
  rw [← List.dropLast_concat_getLast hne, zkg]
  exact (zx6 k S.dropLast (by simp [h])).put _ _
theorem zsl {a b : List Int} (ha : Small a) (hb : Small b) (h : a ≠ b) : Lit.string (zic a) ≠ Lit.string (zic b) := fun e => h (zpb ha hb (by injection e))
theorem z04 {x : List Int} (hx : Small x) : ∀ (k : Nat) (S : List (List Int)), S.length = k → (∀ y ∈ S, Small y) → x ∉ S → Maps.has (atR S) (.string (zic x)) = false
 | 0, S, h, _, _ => by rw [List.eq_nil_of_length_eq_zero h]; rfl
 | k + 1, S, h, hs, hn => by
  have hne : S ≠ [] := fun e => by rw [e] at h; simp at h
  have e := List.dropLast_concat_getLast hne
  have hl : S.getLast hne ∈ S := List.getLast_mem hne
  rw [← e, zkg, has_put_other (zsl hx (hs _ hl) (fun e => hn (e ▸ hl)))]
  exact z04 hx k S.dropLast (by simp [h]) (fun y hy => hs y (List.dropLast_subset _ hy)) (fun hm => hn (List.dropLast_subset _ hm))
theorem zx5 {x : List Int} (hx : Small x) : ∀ (k : Nat) (S : List (List Int)), S.length = k → (∀ y ∈ S, Small y) → S.Nodup → x ∈ S → ∀ z, (atR S).atKey (.string (zic x)) z = .lit (.int .i64 (zdy S x + 1))
 | 0, S, h, _, _, hm => by rw [List.eq_nil_of_length_eq_zero h] at hm; simp at hm
 | k + 1, S, h, hs, hnd, hm => by
  have hne : S ≠ [] := fun e => by rw [e] at h; simp at h
  have e := List.dropLast_concat_getLast hne
  have hl : S.getLast hne ∈ S := List.getLast_mem hne
  generalize S.getLast hne = y at e hl
  generalize hS : S.dropLast = T at e
  have hTl : T.length = k := by rw [← hS]; simp [h]
  subst e
  have hiM := zx6 k T hTl
  rw [zkg]
  by_cases he : x = y
  ·
   subst he
   have hnT : x ∉ T := fun hT => by
    have := List.nodup_append.1 hnd
    exact this.2.2 x hT x (by simp) rfl
   intro z
   rw [atKey_put_same hiM (show WideAt.IsKeyLit (.string _) from trivial), zhg hnT]
   rfl
  ·
   have hmT : x ∈ T := by
    rcases List.mem_append.1 hm with h1 | h1
    ·
     exact h1
    ·
     simp at h1; exact absurd h1 he
   have h2 := zx5 hx k T hTl (fun z hz => hs z (List.mem_append_left _ hz)) (List.nodup_append.1 hnd).1 hmT
   have hk := zsl hx (hs y hl) he
   intro z
   rw [atKey_put_other hk, h2, zh2 hmT]
def atY (P : Program) (S : List (List Int)) : MapX := ⟨P, 9, 3, S.length, atR S⟩
theorem zzw (P : Program) (S : List (List Int)) (m : List Int) : atY P (S ++ [m]) = { atY P S with n := (atY P S).n + 1, D := (atY P S).D.put (.string (zic m)) (.lit (.int .i64 ((S.length + 1 : Nat)))) } := by
 unfold atY
 rw [zkg]
 simp
def aFd (y : List Int) (c : Int) (d : Bool) (f : Int) (m : Stp) : AV := .agg [eL eI y, eI c, eB d, eI f, eI m.kind, eI m.trans, eS m.act]
def mx0 (f : Int) : Int := if f < 0 then 0 else f
theorem zwh (x : Nat) : mx0 x = x := if_neg (by omega)
def eFd (S : Sr) (k : Nat) : AV := aFd (gti S.st k) (gti S.co k) (gti S.dn k) (mx0 (gti S.fr k)) (gti S.mv k)
def fnds (S : Sr) : List AV := (List.range S.st.length).map (eFd S)
theorem zsq (S : Sr) : (fnds S).length = S.st.length := by simp [fnds]
theorem zf0 {S : Sr} {k : Nat} (h : k < S.st.length) : (fnds S)[k]? = some (eFd S k) := by
 unfold fnds
 rw [List.getElem?_map, List.getElem?_range h]; rfl
theorem z0o {k : Nat} (y : List Int) (c : Int) (d : Bool) (f : Int) (m : Stp) : Lo k (aFd y c d f m) :=
 .agg _ (zaj lo_I (zaj (.s _) (zaj (.s _) (zaj (.s _) (zaj (.s _) (zaj (.s _) (zaj (.s _) zbb)))))))
theorem zra (S : Sr) : ∀ e ∈ fnds S, ∀ c ∈ e.cells, Lo 0 c := fun e he c hc => by
 obtain ⟨k, _, rfl⟩ := List.mem_map.1 he
 exact (z0o _ _ _ _ _).cells c hc
theorem zzf {S : Sr} (h1 : S.co.length = S.st.length) (h2 : S.dn.length = S.st.length) (h3 : S.fr.length = S.st.length) (h4 : S.mv.length = S.st.length) (y : List Int) (c f : Int) (m : Stp) :
  fnds ⟨S.st ++ [y], S.co ++ [c], S.dn ++ [false], S.fr ++ [f], S.mv ++ [m]⟩ = fnds S ++ [aFd y c false (mx0 f) m] := by
 unfold fnds
 rw [List.length_append, List.length_singleton, List.range_succ, List.map_append]
 congr 1
 ·
  refine List.map_congr_left fun k hk => ?_
  have hk := List.mem_range.1 hk
  unfold eFd
  dsimp only
  rw [zcj hk, zcj (by omega), zcj (by omega), zcj (by omega), zcj (by omega)]
 ·
  show [eFd _ S.st.length] = _
  unfold eFd
  dsimp only
  have e1 : gti (S.co ++ [c]) S.st.length = c := by rw [← h1]; exact zdu
  have e2 : gti (S.dn ++ [false]) S.st.length = false := by rw [← h2]; exact zdu
  have e3 : gti (S.fr ++ [f]) S.st.length = f := by rw [← h3]; exact zdu
  have e4 : gti (S.mv ++ [m]) S.st.length = m := by rw [← h4]; exact zdu
  rw [zdu, e1, e2, e3, e4]
theorem gtiA {α : Type} [Inhabited α] {l : List α} {i j : Nat} {x : α} (hi : i < l.length) : gti (l.set i x) j = if i = j then x else gti l j := by
 unfold gti
 rw [List.getElem?_set]
 by_cases h : i = j
 ·
  subst h; simp [hi]
 ·
  simp [h]
theorem zmr {α : Type} {g g' : Nat → α} {N i : Nat} (hi : i < N) (h : ∀ k, k ≠ i → g' k = g k) : (List.range N).map g' = ((List.range N).map g).set i (g' i) := by
 refine List.ext_getElem? fun k => ?_
 rw [List.getElem?_set]
 by_cases hk : i = k
 ·
  subst hk; simp [hi]
 ·
  rw [if_neg hk, List.getElem?_map, List.getElem?_map]
  by_cases hkN : k < N
  ·
   rw [List.getElem?_range hkN, Option.map_some, Option.map_some, h k (fun e => hk e.symm)]
  ·
   rw [List.getElem?_eq_none (by simpa using hkN)]; rfl
theorem z2k {S : Sr} {x : Nat} (hx : x < S.st.length) (h2 : S.dn.length = S.st.length) : (fnds S).set x (putC (eFd S x) 2 [eB true]) = fnds { S with dn := S.dn.set x true } := by
 have := zmr (g := eFd S) (g' := eFd { S with dn := S.dn.set x true }) hx (fun k hk => by unfold eFd; dsimp only; rw [gtiA (by omega), if_neg (fun e => hk e.symm)])
 unfold fnds
 dsimp only
 rw [this]
 congr 1
 unfold eFd
 dsimp only
 rw [gtiA (by omega), if_pos rfl]
 rfl
theorem z2l {S : Sr} {i : Nat} (hi : i < S.st.length) (h1 : S.co.length = S.st.length) (h3 : S.fr.length = S.st.length) (h4 : S.mv.length = S.st.length) (c f : Int) (m : Stp) :
  (fnds S).set i (aFd (gti S.st i) c (gti S.dn i) (mx0 f) m) = fnds ⟨S.st, S.co.set i c, S.dn, S.fr.set i f, S.mv.set i m⟩ := by
 have := zmr (g := eFd S) (g' := eFd ⟨S.st, S.co.set i c, S.dn, S.fr.set i f, S.mv.set i m⟩) hi (fun k hk => by unfold eFd; dsimp only; rw [gtiA (by omega), gtiA (by omega), gtiA (by omega), if_neg (fun e => hk e.symm), if_neg (fun e => hk e.symm), if_neg (fun e => hk e.symm)])
 unfold fnds
 dsimp only
 rw [this]
 congr 1
 unfold eFd
 dsimp only
 rw [gtiA (by omega), gtiA (by omega), gtiA (by omega), if_pos rfl, if_pos rfl, if_pos rfl]
end Go.Proofs.YtohmldibkojkfaaGreatDoor.Aw
end
