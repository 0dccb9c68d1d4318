import Derived.Test.YtohmldibkojkfaaGreatDoorJB47
import Derived.Test.YtohmldibkojkfaaGreatDoorJB48
set_option linter.unusedSimpArgs false
set_option linter.unusedVariables false
set_option linter.unusedSectionVars false
section
namespace Go.Proofs.YtohmldibkojkfaaGreatDoor.Aw
open Go Go.RowKit Go.Proofs Dl
variable {P : Program} [IsP P]
theorem zw8 (l : List Vr) : ∀ e ∈ l.map eVr, ∀ c ∈ e.cells, Lo 0 c := by
 intro e he c hc
 obtain ⟨x, _, rfl⟩ := List.mem_map.1 he
 exact (zrq x).cells c hc
set_option maxHeartbeats 4000000 in
theorem z15 (vs : List Vr) (w : List ByteArray) (m : Int) (hm : 1 ≤ m ∧ m ≤ 256) (hc : ∀ v ∈ vs, 0 ≤ v.cnt ∧ v.cnt ≤ 1048576) (hlen : vs.length ≤ 300) : Pure P 19 [eL eVr vs, eL eS w, eI m] (eL eVr (addV vs w m)) := by
 obtain ⟨R, hR⟩ : ∃ R, addV vs w m = R := ⟨_, rfl⟩
 rw [hR]
 refine zcu (by rw [IsP.eq (P := P)]; exact Tryz.func19) rfl rfl rfl rfl rfl (zaj (zdv vs) (zaj (lo_W w) (zaj (.s _) zar))) (zdv R) (by simp only [argF]; rfl) ?_
 refine zaf (zab (zac rfl (zae (zaf (zab (zac rfl (zae (zaf (zaq ?_)))))))))
 refine zcd (S := Nat) (fun k => [(0, eL eVr vs), (1, eL eS w), (2, eI m), (7, eI k)]) (fun _ => []) (fun k => k ≤ vs.length ∧ vs.take k ++ addV (vs.drop k) w m = R) (fun k => vs.length - k) 0 (zc3 [] (by decide) trivial ⟨.lo _ (zdv vs), .lo _ (lo_W w), .lo _ (.s _), .lo _ (.s _), trivial⟩) ⟨Nat.zero_le _, by rw [List.take_zero, List.nil_append, List.drop_zero]; exact hR⟩ (fun k hk => ?_)
 obtain ⟨hk, he⟩ := hk
 replace hk : k ≤ vs.length := hk
 replace he : vs.take k ++ addV (vs.drop k) w m = R := he
 have hmv : (vs.map eVr).length = vs.length := List.length_map ..
 obtain ⟨A, hA⟩ : ∃ A, vs.take k = A := ⟨_, rfl⟩
 have hAl : A.length = k := by rw [← hA, List.length_take]; omega
 have hmt : (vs.map eVr).take k = A.map eVr := by rw [← hA]; exact (List.map_take ..).symm
 rw [hA] at he
 by_cases hlt : k < vs.length
 rotate_left 1
 ·
  have e : k = vs.length := by omega
  subst e
  rw [List.drop_length] at he
  replace he : A ++ [⟨w, m⟩] = R := he
  refine zaf (zaf (zab (zac rfl (zac rfl (zad rfl rfl (zaa rfl) (zak rfl ts25 rfl) (zad rfl rfl (zaa rfl) (zbi (by omega) (zaz rfl rfl rfl)) (zac rfl (zat rfl (zat rfl (zat rfl (zat rfl (zat rfl (zat rfl (zat rfl (zat rfl (zac rfl (zae (zah (zax rfl ?_)))))))))))))))))))
  (refine zb1 ?_; repeat (first | refine zcx ?_ | refine zbs ?_ | refine zbe rfl ?_ | refine zb3 ?_ | refine zah ?_ | refine zaf ?_ | refine zao ?_ | refine zaq ?_))
  obtain ⟨B, hB⟩ : ∃ B : List Vr, B = [] := ⟨_, rfl⟩
  have hBl : B.length = 0 := by rw [hB]; rfl
  have hmd : (vs.map eVr).drop vs.length = B.map eVr := by rw [hB]; exact List.drop_of_length_le (by rw [hmv]; exact Nat.le_refl _)
  rw [show A ++ [(⟨w, m⟩ : Vr)] = A ++ ⟨w, m⟩ :: B by rw [hB]] at he
  obtain ⟨k, hkk⟩ : ∃ k, vs.length = k := ⟨_, rfl⟩
  rw [hkk] at hmt hAl hmd hmv hk hlen ⊢
  refine zab (zad rfl rfl (zaa rfl) (zge rfl rfl ts25 ti46) (zac rfl (zac rfl ?_)))
  refine zad rfl rfl (zaa rfl) (zjq (congrArg AV.sl hmt) (zhk rfl ts25 ti46 rfl rfl rfl (by omega) (by intro e he; simp at he; obtain ⟨_, _, rfl⟩ := he; rfl))) ?_
  refine zad rfl rfl (zaa rfl) (ze1 rfl ts25 ti46 rfl (by decide) rfl (.inl rfl) rfl (by first | exact .own _ _ _ rfl rfl _ (by first | rfl | simp) | exact .emp | exact .nil | exact .sl _ (by first | simp; done | intro e he; simp at he; obtain ⟨_, _, rfl⟩ := he; rfl)) (by first | omega | (simp; omega) | (unfold maxLen; simp; omega)) (by first | omega | (simp; omega) | (unfold maxLen; simp; omega))) ?_
  refine zac rfl (zae (zaf (zaf (zab (zac rfl (zac rfl (zad rfl rfl (zaa rfl) (zak rfl ts25 rfl) (zad rfl rfl (zaa rfl) (zbi (by omega) (zaz rfl rfl rfl)) (zac rfl (zat rfl (zat rfl (zat rfl (zat rfl (zat rfl (zat rfl (zat rfl (zat rfl (zac rfl (zae (zah (zax rfl (zab (zac rfl (zac rfl (zac rfl (zad rfl rfl (zaa rfl) (zbf rfl ti46 tp46 rfl rfl) (zad rfl rfl (zaa rfl) (zef rfl ts25 ti46 rfl rfl (by decide) (by decide) rfl rfl rfl) ?_)))))))))))))))))))))))))))
  refine zad rfl rfl (zaa rfl) (zb0 rfl ts25 ti46 rfl (by decide) rfl rfl (by first | rfl | (simp; done) | (simp; omega)) rfl (by first | exact .own _ _ _ rfl rfl _ (by first | rfl | simp) | exact .emp | exact .nil | exact .sl _ (by first | simp; done | intro e he; simp at he; obtain ⟨_, _, rfl⟩ := he; rfl)) (by first | omega | (simp; omega) | (unfold maxLen; simp; omega)) (by first | omega | (simp; omega) | (unfold maxLen; simp; omega))) ?_
  refine zac rfl (zae (zaf ?_))
  refine zbd (zc3 (σ' := [.row 2 ((A ++ [(⟨w, m⟩ : Vr)]).map eVr)]) [2] (by decide) ⟨⟨_, rfl, .rowE (zw8 _) (by rw [List.map_append]; rfl)⟩, trivial⟩ (F' := [(0, eL eVr vs), (1, eL eS w), (2, eI m), (7, eI k), (8, .own 0 2 (k + 1))]) ⟨.lo _ (zdv vs), .lo _ (lo_W w), .lo _ (.s _), .lo _ (.s _), .own 2 0 2 _ _ rfl (by simp [hAl]), trivial⟩) ?_
  refine zab (zac rfl (zac rfl (zac rfl ?_)))
  refine zad rfl rfl (zaa rfl) (zjq (congrArg AV.sl hmd) (zfz rfl ts25 ti46 rfl rfl rfl (by omega) (by intro e he; simp at he; obtain ⟨_, _, rfl⟩ := he; rfl))) ?_
  refine zad rfl rfl (zaa rfl) (zb0 rfl ts25 ti46 rfl (by decide) rfl rfl (by first | rfl | (simp; done) | (simp; omega)) rfl (by first | exact .own _ _ _ rfl rfl _ (by first | rfl | simp) | exact .emp | exact .nil | exact .sl _ (by first | simp; done | intro e he; simp at he; obtain ⟨_, _, rfl⟩ := he; rfl)) (by first | omega | (simp; omega) | (unfold maxLen; simp; omega)) (by first | omega | (simp; omega) | (unfold maxLen; simp; omega))) ?_
  refine zac rfl ?_
  refine zau (zbk (id := 1) rfl) (zau (zkw (d := 6) rfl rfl (by first | rfl | (simp; done) | (simp; omega))) ?_)
  refine zae (zah ?_)
  (refine zav ?_; repeat (first | refine za6 ?_ | refine za7 ?_))
  exact zbj (.inr rfl) rfl (congrArg AV.sl (by rw [← he]; simp))
 have hix : (vs.map eVr)[k]? = some (eVr (gti vs k)) := zbz hlt
 have hC := zta (P := P) (gti vs k).acts w
 have h1 := @z3i vs w m k hlt
 have h2 := @z3k vs w m k hlt
 have h3 := @z3j vs w m k hlt
 have hcv := hc _ (gti_mem hlt)
 have htk : vs.take (k + 1) = vs.take k ++ [gti vs k] := zvr hlt
 generalize gti vs k = v at hix hC h1 h2 h3 hcv htk
 obtain ⟨acts, cnt⟩ := v
 dsimp only at hC h1 h2 h3 hcv
 replace hix : (vs.map eVr)[k]? = some (aVr acts cnt) := hix
 generalize cmpW acts w = z at hC h1 h2 h3
 by_cases hz : z < 0
 ·
  have h1 := h1 hz
  refine zaf (zaf (zab (zac rfl (zac rfl (zad rfl rfl (zaa rfl) (zak rfl ts25 rfl) (zad rfl rfl (zaa rfl) (zbp (by omega) (zaz rfl rfl rfl)) (zac rfl (zac rfl (zac rfl (zad rfl rfl (zal rfl rfl rfl) (zan rfl ts25 ti46 rfl rfl rfl hix rfl) (zbh zcm rfl (zbl ta44 rfl (zac rfl (zad rfl rfl (zal rfl rfl rfl) (zai rfl rfl (hC) (zag rfl (zag rfl zam))) (zad rfl rfl (zal rfl rfl rfl) (zbp hz (zaz rfl rfl rfl)) (zac rfl (zae (zah (za0 rfl (zao (zah (zaq ?_))))))))))))))))))))))
  refine zab (zac rfl (zad rfl rfl (zaa rfl) (za4 rfl rfl rfl (IntWalk.i64_in _ (by omega))) (zac rfl (zae (zb3 (zah ?_))))))
  exact ⟨k + 1, ⟨by show k + 1 ≤ vs.length; omega, by rw [htk, hA, List.append_assoc]; rw [h1] at he; exact he⟩, by show vs.length - (k + 1) < vs.length - k; omega, zbx _ ⟨rfl, rfl, rfl, rfl, trivial⟩⟩
 ·
  refine zaf (zaf (zab (zac rfl (zac rfl (zad rfl rfl (zaa rfl) (zak rfl ts25 rfl) (zad rfl rfl (zaa rfl) (zbp (by omega) (zaz rfl rfl rfl)) (zac rfl (zac rfl (zac rfl (zad rfl rfl (zal rfl rfl rfl) (zan rfl ts25 ti46 rfl rfl rfl hix rfl) (zbh zcm rfl (zbl ta44 rfl (zac rfl (zad rfl rfl (zal rfl rfl rfl) (zai rfl rfl (hC) (zag rfl (zag rfl zam))) (zad rfl rfl (zal rfl rfl rfl) (zbi hz (zaz rfl rfl rfl)) (zac rfl (zae (zah (zax rfl ?_)))))))))))))))))))
  (refine zb1 ?_; repeat (first | refine zcx ?_ | refine zbs ?_ | refine zbe rfl ?_ | refine zb3 ?_ | refine zah ?_ | refine zaf ?_ | refine zao ?_ | refine zaq ?_))
  by_cases hz0 : z = 0
  ·
   have h2 := h2 hz0
   rw [h2] at he
   refine zab (zad rfl rfl (zaa rfl) (zge rfl rfl ts25 ti46) (zac rfl (zac rfl ?_)))
   refine zad rfl rfl (zaa rfl) (zjq (congrArg AV.sl hmt) (zhk rfl ts25 ti46 rfl rfl rfl (by omega) (by intro e he; simp at he; obtain ⟨_, _, rfl⟩ := he; rfl))) ?_
   refine zad rfl rfl (zaa rfl) (ze1 rfl ts25 ti46 rfl (by decide) rfl (.inl rfl) rfl (by first | exact .own _ _ _ rfl rfl _ (by first | rfl | simp) | exact .emp | exact .nil | exact .sl _ (by first | simp; done | intro e he; simp at he; obtain ⟨_, _, rfl⟩ := he; rfl)) (by first | omega | (simp; omega) | (unfold maxLen; simp; omega)) (by first | omega | (simp; omega) | (unfold maxLen; simp; omega))) ?_
   refine zac rfl (zae (zaf (zaf (zab (zac rfl (zac rfl (zad rfl rfl (zaa rfl) (zak rfl ts25 rfl) (zad rfl rfl (zaa rfl) (zbp (by omega) (zaz rfl rfl rfl)) (zac rfl (zac rfl (zac rfl (zad rfl rfl (zal rfl rfl rfl) (zan rfl ts25 ti46 rfl rfl rfl hix rfl) (zbh zcm rfl (zbl ta44 rfl (zac rfl (zad rfl rfl (zal rfl rfl rfl) (zai rfl rfl (hC) (zag rfl (zag rfl zam))) (zad rfl rfl (zal rfl rfl rfl) (zbp hz0 (zcc rfl rfl rfl)) (zac rfl (zae (zah (za0 rfl ?_)))))))))))))))))))))
   refine zaf (zab (zac rfl (zac rfl (zac rfl (zac rfl (zad rfl rfl (zaa rfl) (zan rfl ts25 ti46 rfl rfl rfl hix rfl) (zbh zex rfl (zbl ta3 rfl (zac rfl (zad rfl rfl (zaa rfl) (za4 rfl rfl rfl (IntWalk.i64_in _ (by omega))) (zad rfl rfl (zaa rfl) (zbf rfl ti46 tp46 rfl rfl) (zad rfl rfl (zaa rfl) (zef rfl ts25 ti46 rfl rfl (by decide) (by decide) rfl rfl rfl) ?_))))))))))))
   refine zad rfl rfl (zaa rfl) (zb0 rfl ts25 ti46 rfl (by decide) rfl rfl (by first | rfl | (simp; done) | (simp; omega)) rfl (by first | exact .own _ _ _ rfl rfl _ (by first | rfl | simp) | exact .emp | exact .nil | exact .sl _ (by first | simp; done | intro e he; simp at he; obtain ⟨_, _, rfl⟩ := he; rfl)) (by first | omega | (simp; omega) | (unfold maxLen; simp; omega)) (by first | omega | (simp; omega) | (unfold maxLen; simp; omega))) ?_
   refine zac rfl (zae (zah ?_))
   obtain ⟨B, hB⟩ : ∃ B, vs.drop (k + 1) = B := ⟨_, rfl⟩
   have hBl : B.length = vs.length - (k + 1) := by rw [← hB, List.length_drop]
   have hmd : (vs.map eVr).drop (k + 1) = B.map eVr := by rw [← hB]; exact (List.map_drop ..).symm
   rw [hB] at he
   refine zbd (zc3 (σ' := [.row 2 ((A ++ [(⟨w, cnt + m⟩ : Vr)]).map eVr)]) [2] (by decide) ⟨⟨_, rfl, .rowE (zw8 _) (by rw [List.map_append]; rfl)⟩, trivial⟩ (F' := [(0, eL eVr vs), (1, eL eS w), (2, eI m), (7, eI k), (8, .own 0 2 (k + 1))]) ⟨.lo _ (zdv vs), .lo _ (lo_W w), .lo _ (.s _), .lo _ (.s _), .own 2 0 2 _ _ rfl (by simp [hAl]), trivial⟩) ?_
   refine zab (zac rfl (zad rfl rfl (zaa rfl) (za4 rfl rfl rfl (IntWalk.i64_in _ (by omega))) (zac rfl (zae (zaf (zab (zac rfl (zac rfl (zac rfl ?_)))))))))
   refine zad rfl rfl (zaa rfl) (zjq (congrArg AV.sl hmd) (zfz rfl ts25 ti46 rfl rfl (show ((k : Int) + 1) = ((k + 1 : Nat) : Int) by omega) (by omega) (by intro e he; simp at he; obtain ⟨_, _, rfl⟩ := he; rfl))) ?_
   refine zad rfl rfl (zaa rfl) (zb0 rfl ts25 ti46 rfl (by decide) rfl rfl (by first | rfl | (simp; done) | (simp; omega)) rfl (by first | exact .own _ _ _ rfl rfl _ (by first | rfl | simp) | exact .emp | exact .nil | exact .sl _ (by first | simp; done | intro e he; simp at he; obtain ⟨_, _, rfl⟩ := he; rfl)) (by first | omega | (simp; omega) | (unfold maxLen; simp; omega)) (by first | omega | (simp; omega) | (unfold maxLen; simp; omega))) ?_
   refine zac rfl ?_
   refine zau (zbk (id := 1) rfl) (zau (zkw (d := 6) rfl rfl (by first | rfl | (simp; done) | (simp; omega))) ?_)
   refine zae (zah ?_)
   (refine zav ?_; repeat (first | refine za6 ?_ | refine za7 ?_))
   exact zbj (.inr rfl) rfl (congrArg AV.sl (by rw [← he]; simp))
  ·
   have h3 := h3 hz hz0
   rw [h3] at he
   refine zab (zad rfl rfl (zaa rfl) (zge rfl rfl ts25 ti46) (zac rfl (zac rfl ?_)))
   refine zad rfl rfl (zaa rfl) (zjq (congrArg AV.sl hmt) (zhk rfl ts25 ti46 rfl rfl rfl (by omega) (by intro e he; simp at he; obtain ⟨_, _, rfl⟩ := he; rfl))) ?_
   refine zad rfl rfl (zaa rfl) (ze1 rfl ts25 ti46 rfl (by decide) rfl (.inl rfl) rfl (by first | exact .own _ _ _ rfl rfl _ (by first | rfl | simp) | exact .emp | exact .nil | exact .sl _ (by first | simp; done | intro e he; simp at he; obtain ⟨_, _, rfl⟩ := he; rfl)) (by first | omega | (simp; omega) | (unfold maxLen; simp; omega)) (by first | omega | (simp; omega) | (unfold maxLen; simp; omega))) ?_
   refine zac rfl (zae (zaf (zaf (zab (zac rfl (zac rfl (zad rfl rfl (zaa rfl) (zak rfl ts25 rfl) (zad rfl rfl (zaa rfl) (zbp (by omega) (zaz rfl rfl rfl)) (zac rfl (zac rfl (zac rfl (zad rfl rfl (zal rfl rfl rfl) (zan rfl ts25 ti46 rfl rfl rfl hix rfl) (zbh zcm rfl (zbl ta44 rfl (zac rfl (zad rfl rfl (zal rfl rfl rfl) (zai rfl rfl (hC) (zag rfl (zag rfl zam))) (zad rfl rfl (zal rfl rfl rfl) (zbi hz0 (zcc rfl rfl rfl)) (zac rfl (zae (zah (zax rfl ?_)))))))))))))))))))))
   obtain ⟨B, hB⟩ : ∃ B, vs.drop k = B := ⟨_, rfl⟩
   have hBl : B.length = vs.length - k := by rw [← hB, List.length_drop]
   have hmd : (vs.map eVr).drop k = B.map eVr := by rw [← hB]; exact (List.map_drop ..).symm
   rw [hB] at he
   refine zab (zac rfl (zac rfl (zac rfl (zad rfl rfl (zaa rfl) (zbf rfl ti46 tp46 rfl rfl) (zad rfl rfl (zaa rfl) (zef rfl ts25 ti46 rfl rfl (by decide) (by decide) rfl rfl rfl) ?_)))))
   refine zad rfl rfl (zaa rfl) (zb0 rfl ts25 ti46 rfl (by decide) rfl rfl (by first | rfl | (simp; done) | (simp; omega)) rfl (by first | exact .own _ _ _ rfl rfl _ (by first | rfl | simp) | exact .emp | exact .nil | exact .sl _ (by first | simp; done | intro e he; simp at he; obtain ⟨_, _, rfl⟩ := he; rfl)) (by first | omega | (simp; omega) | (unfold maxLen; simp; omega)) (by first | omega | (simp; omega) | (unfold maxLen; simp; omega))) ?_
   refine zac rfl (zae (zaf ?_))
   refine zbd (zc3 (σ' := [.row 2 ((A ++ [(⟨w, m⟩ : Vr)]).map eVr)]) [2] (by decide) ⟨⟨_, rfl, .rowE (zw8 _) (by rw [List.map_append]; rfl)⟩, trivial⟩ (F' := [(0, eL eVr vs), (1, eL eS w), (2, eI m), (7, eI k), (8, .own 0 2 (k + 1))]) ⟨.lo _ (zdv vs), .lo _ (lo_W w), .lo _ (.s _), .lo _ (.s _), .own 2 0 2 _ _ rfl (by simp [hAl]), trivial⟩) ?_
   refine zab (zac rfl (zac rfl (zac rfl ?_)))
   refine zad rfl rfl (zaa rfl) (zjq (congrArg AV.sl hmd) (zfz rfl ts25 ti46 rfl rfl rfl (by omega) (by intro e he; simp at he; obtain ⟨_, _, rfl⟩ := he; rfl))) ?_
   refine zad rfl rfl (zaa rfl) (zb0 rfl ts25 ti46 rfl (by decide) rfl rfl (by first | rfl | (simp; done) | (simp; omega)) rfl (by first | exact .own _ _ _ rfl rfl _ (by first | rfl | simp) | exact .emp | exact .nil | exact .sl _ (by first | simp; done | intro e he; simp at he; obtain ⟨_, _, rfl⟩ := he; rfl)) (by first | omega | (simp; omega) | (unfold maxLen; simp; omega)) (by first | omega | (simp; omega) | (unfold maxLen; simp; omega))) ?_
   refine zac rfl ?_
   refine zau (zbk (id := 1) rfl) (zau (zkw (d := 6) rfl rfl (by first | rfl | (simp; done) | (simp; omega))) ?_)
   refine zae (zah ?_)
   (refine zav ?_; repeat (first | refine za6 ?_ | refine za7 ?_))
   exact zbj (.inr rfl) rfl (congrArg AV.sl (by rw [← he]; simp))
set_option maxHeartbeats 4000000 in
theorem qualityMore_pf (n : Net) (vs : List Vr) (w : List ByteArray) (x : { n : Int // 0 ≤ n ∧ n ≤ 255 }) : Pure P 5 [eN n, eL eVr vs, eL eS w, .s (.int .u8 x.1)] (eB true) := by
 obtain ⟨x, hx⟩ := x
 have haw := zsh (P := P)
 have hgr := zoc (P := P) n
 have hmy := zn3 (P := P) vs 60
 have hmw := zn3 (P := P) [⟨w, 0⟩] 60
 have hvv := zs9 (P := P) vs
 have hwf := zfv (P := P) n
 have hF := ztt (P := P) n vs ⟨1, 1, 0⟩ 60
 have hG := ztt (P := P) n (addV vs w (1 + x)) ⟨1, 1, 0⟩ 60
 have hW := zsn (P := P) n w 60
 have hI := zxf (P := P) w
 have hA := z15 (P := P) vs w (1 + x) ⟨by omega, by omega⟩
 have hL := fun h run (h2 : FitsE n w 60 = (true, run, 0)) => @zzb n vs w (1 + x) ⟨1, 1, 0⟩ 60 (by omega) (by show (0 : Int) < 1; decide) (by show (0 : Int) < 1; decide) rfl h run 0 h2
 have hcw : IntKind.i64.wrap x = x := IntWalk.i64_in _ (by omega)
 have hokv : vvB vs = true → (∀ v ∈ vs, 0 ≤ v.cnt ∧ v.cnt ≤ 1048576) ∧ vs.length ≤ 300 := fun h => by
  refine ⟨fun v hv => ?_, ?_⟩
  ·
   have h1 := zo1 h v hv
   unfold okV at h1
   simp only [Bool.and_eq_true, decide_eq_true_eq] at h1
   omega
  ·
   unfold vvB at h
   simp only [Bool.and_eq_true, decide_eq_true_eq] at h
   exact h.1
 generalize znj n = b1 at hgr
 generalize zrp vs 60 = b2 at hmy
 generalize zrp [⟨w, 0⟩] 60 = b3 at hmw
 generalize vvB vs = b4 at hvv hokv
 generalize wfB n = b5 at hwf
 generalize ze9 w = b6 at hI
 generalize FitsE n w 60 = q at hW hL
 generalize qFitE n vs ⟨1, 1, 0⟩ 60 = r at hF hL
 obtain ⟨qb, run, qe⟩ := q
 obtain ⟨rn, rd, re⟩ := r
 have hln : Lo 0 (.ref (eN n).cells) := .ref _ (lo_N n).cells
 have hlc : Lo 0 (.ref (eC ⟨1, 1, 0⟩).cells) := .ref _ (lo_C _).cells
 have hlf : Lo 0 (.ref (eF ⟨rn, rd⟩).cells) := .ref _ (lo_F _).cells
 refine zcu (by rw [IsP.eq (P := P)]; exact Tryz.func5) rfl rfl rfl rfl rfl (zaj (lo_N n) (zaj (zdv vs) (zaj (lo_W w) (zaj (.s _) zar)))) (.s _) (by simp only [argF]; rfl) ?_
 refine zaf (zab (zad rfl rfl (zaa rfl) (zbv rfl rfl rfl rfl) ?_))
 refine zau (zbk (id := 0) rfl) (zau (zch (d := 4) rfl rfl rfl) ?_)
 refine zac rfl (zae (zaf (zaf (zab (zad rfl rfl (zaa rfl) (zai rfl rfl (haw) zam) (zad rfl rfl (zaa rfl) (zay rfl rfl) (zae (zah (zax rfl (zao (zaf (zaf ?_))))))))))))
 cases b1 with
 | true =>
  refine zab (zbr ta24 ti24 rfl (zad rfl rfl (zaa rfl) (zai rfl rfl (hgr) (zag rfl zam)) (zac rfl (zat rfl (zat rfl (zac rfl (zac rfl (zat rfl (zat rfl (zat rfl (zat rfl (zac rfl (zac rfl (zat rfl (zat rfl (zat rfl (zac rfl (zac rfl (zat rfl (zat rfl (zat rfl (zac rfl (zae (zah (za0 rfl (zaf (zab (zac rfl (zae (zah ?_))))))))))))))))))))))))))))))
  (refine zav ?_; repeat (first | refine za6 ?_ | refine za7 ?_))
  exact zbj (.inr rfl) rfl rfl
 | false =>
 cases b2 with
 | true =>
  refine zab (zbr ta24 ti24 rfl (zad rfl rfl (zaa rfl) (zai rfl rfl (hgr) (zag rfl zam)) (zac rfl (zac rfl (zad rfl rfl (zal rfl rfl rfl) (zai rfl rfl (hmy) (zag rfl (zag rfl zam))) (zac rfl (zac rfl (zat rfl (zat rfl (zat rfl (zat rfl (zac rfl (zac rfl (zat rfl (zat rfl (zat rfl (zac rfl (zac rfl (zat rfl (zat rfl (zat rfl (zac rfl (zae (zah (za0 rfl (zaf (zab (zac rfl (zae (zah ?_))))))))))))))))))))))))))))))
  (refine zav ?_; repeat (first | refine za6 ?_ | refine za7 ?_))
  exact zbj (.inr rfl) rfl rfl
 | false =>
 cases b3 with
 | true =>
  refine zab (zbr ta24 ti24 rfl (zad rfl rfl (zaa rfl) (zai rfl rfl (hgr) (zag rfl zam)) (zac rfl (zac rfl (zad rfl rfl (zal rfl rfl rfl) (zai rfl rfl (hmy) (zag rfl (zag rfl zam))) (zac rfl (zac rfl (zac rfl (zad rfl rfl (zal rfl rfl rfl) (zbf rfl ti46 tp46 rfl rfl) ?_)))))))))
  refine zad rfl rfl (zal rfl rfl rfl) (zd5 rfl ts25 ti46 rfl rfl (by decide) (by decide) rfl rfl rfl (by repeat' (first | exact Lo.s _ | exact zar | refine zaj ?_ ?_ | refine za1 ?_ | refine Lo.agg _ ?_ | refine Lo.sl _ ?_ | intro _))) ?_
  refine zad rfl rfl (zal rfl rfl rfl) (zai rfl rfl (hmw) (zag rfl (zag rfl zam))) (zac rfl (zac rfl (zat rfl (zat rfl (zat rfl (zac rfl (zac rfl (zat rfl (zat rfl (zat rfl (zac rfl (zae (zah (za0 rfl (zaf (zab (zac rfl (zae (zah ?_)))))))))))))))))))
  (refine zav ?_; repeat (first | refine za6 ?_ | refine za7 ?_))
  exact zbj (.inr rfl) rfl rfl
 | false =>
 cases b4 with
 | false =>
  refine zab (zbr ta24 ti24 rfl (zad rfl rfl (zaa rfl) (zai rfl rfl (hgr) (zag rfl zam)) (zac rfl (zac rfl (zad rfl rfl (zal rfl rfl rfl) (zai rfl rfl (hmy) (zag rfl (zag rfl zam))) (zac rfl (zac rfl (zac rfl (zad rfl rfl (zal rfl rfl rfl) (zbf rfl ti46 tp46 rfl rfl) ?_)))))))))
  refine zad rfl rfl (zal rfl rfl rfl) (zd5 rfl ts25 ti46 rfl rfl (by decide) (by decide) rfl rfl rfl (by repeat' (first | exact Lo.s _ | exact zar | refine zaj ?_ ?_ | refine za1 ?_ | refine Lo.agg _ ?_ | refine Lo.sl _ ?_ | intro _))) ?_
  refine zad rfl rfl (zal rfl rfl rfl) (zai rfl rfl (hmw) (zag rfl (zag rfl zam))) (zac rfl (zac rfl (zac rfl (zad rfl rfl (zal rfl rfl rfl) (zai rfl rfl (hvv) (zag rfl zam)) (zad rfl rfl (zal rfl rfl rfl) (zay rfl rfl) (zac rfl (zac rfl (zat rfl (zat rfl (zat rfl (zac rfl (zae (zah (za0 rfl (zaf (zab (zac rfl (zae (zah ?_)))))))))))))))))))
  (refine zav ?_; repeat (first | refine za6 ?_ | refine za7 ?_))
  exact zbj (.inr rfl) rfl rfl
 | true =>
 cases b5 with
 | false =>
  refine zab (zbr ta24 ti24 rfl (zad rfl rfl (zaa rfl) (zai rfl rfl (hgr) (zag rfl zam)) (zac rfl (zac rfl (zad rfl rfl (zal rfl rfl rfl) (zai rfl rfl (hmy) (zag rfl (zag rfl zam))) (zac rfl (zac rfl (zac rfl (zad rfl rfl (zal rfl rfl rfl) (zbf rfl ti46 tp46 rfl rfl) ?_)))))))))
  refine zad rfl rfl (zal rfl rfl rfl) (zd5 rfl ts25 ti46 rfl rfl (by decide) (by decide) rfl rfl rfl (by repeat' (first | exact Lo.s _ | exact zar | refine zaj ?_ ?_ | refine za1 ?_ | refine Lo.agg _ ?_ | refine Lo.sl _ ?_ | intro _))) ?_
  refine zad rfl rfl (zal rfl rfl rfl) (zai rfl rfl (hmw) (zag rfl (zag rfl zam))) (zac rfl (zac rfl (zac rfl (zad rfl rfl (zal rfl rfl rfl) (zai rfl rfl (hvv) (zag rfl zam)) (zad rfl rfl (zal rfl rfl rfl) (zay rfl rfl) (zac rfl (zac rfl (zbr ta24 ti24 rfl (zad rfl rfl (zal rfl rfl rfl) (zai rfl rfl (hwf) (zag rfl zam)) (zad rfl rfl (zal rfl rfl rfl) (zay rfl rfl) (zac rfl (zae (zah (za0 rfl (zaf (zab (zac rfl (zae (zah ?_)))))))))))))))))))
  (refine zav ?_; repeat (first | refine za6 ?_ | refine za7 ?_))
  exact zbj (.inr rfl) rfl rfl
 | true =>
 obtain ⟨hv1, hv2⟩ := hokv rfl
 have hA := hA hv1 hv2
 refine zab (zbr ta24 ti24 rfl (zad rfl rfl (zaa rfl) (zai rfl rfl (hgr) (zag rfl zam)) (zac rfl (zac rfl (zad rfl rfl (zal rfl rfl rfl) (zai rfl rfl (hmy) (zag rfl (zag rfl zam))) (zac rfl (zac rfl (zac rfl (zad rfl rfl (zal rfl rfl rfl) (zbf rfl ti46 tp46 rfl rfl) ?_)))))))))
 refine zad rfl rfl (zal rfl rfl rfl) (zd5 rfl ts25 ti46 rfl rfl (by decide) (by decide) rfl rfl rfl (by repeat' (first | exact Lo.s _ | exact zar | refine zaj ?_ ?_ | refine za1 ?_ | refine Lo.agg _ ?_ | refine Lo.sl _ ?_ | intro _))) ?_
 refine zad rfl rfl (zal rfl rfl rfl) (zai rfl rfl (hmw) (zag rfl (zag rfl zam))) (zac rfl (zac rfl (zac rfl (zad rfl rfl (zal rfl rfl rfl) (zai rfl rfl (hvv) (zag rfl zam)) (zad rfl rfl (zal rfl rfl rfl) (zay rfl rfl) (zac rfl (zac rfl (zbr ta24 ti24 rfl (zad rfl rfl (zal rfl rfl rfl) (zai rfl rfl (hwf) (zag rfl zam)) (zad rfl rfl (zal rfl rfl rfl) (zay rfl rfl) (zac rfl (zae (zah (zax rfl (zao (zaf (zab (zad rfl rfl (zaa rfl) (zbf rfl ti27 tp27 rfl rfl) ?_))))))))))))))))))
 refine zad rfl rfl (zaa rfl) (zbw rfl ti27 rfl rfl) (zcg rfl (zaa rfl) (za8 rfl ti27 rfl rfl rfl rfl rfl rfl (by decide) (by decide)) (zae (zaf ?_)))
 refine zbd (zbk (id := 1) rfl) ?_
 refine zbd (zch (d := 9) rfl rfl rfl) ?_
 refine zbd (zc3 (σ' := []) [] (by decide) trivial (F' := [(1, eL eVr vs), (2, eL eS w), (3, .s (.int .u8 x)), (4, .ref (eN n).cells), (9, .ref (eC ⟨1, 1, 0⟩).cells)]) ⟨.lo _ (zdv vs), .lo _ (lo_W w), .lo _ (.s _), .lo _ hln, .lo _ hlc, trivial⟩) ?_
 refine zab (zbr ta24 ti24 rfl (zac rfl (zbr ta27 ti27 rfl (zad rfl rfl (zaa rfl) (zai rfl rfl (hF) (zag rfl (zag rfl (zag rfl (zag rfl zam))))) (zac rfl (zac rfl (zac rfl (zad rfl rfl (zaa rfl) (zbw rfl ti32 rfl rfl) (zcg rfl (zaa rfl) (za8 rfl ti32 rfl rfl rfl rfl rfl rfl (by decide) (by decide)) (zac rfl (zae (zaf ?_))))))))))))
 refine zbd (zbk (id := 0) rfl) ?_
 refine zbd (zch (d := 10) rfl rfl rfl) ?_
 refine zbd (zc3 (σ' := []) [] (by decide) trivial (F' := [(1, eL eVr vs), (2, eL eS w), (3, .s (.int .u8 x)), (4, .ref (eN n).cells), (9, .ref (eC ⟨1, 1, 0⟩).cells), (10, .ref (eF ⟨rn, rd⟩).cells), (11, eI re)]) ⟨.lo _ (zdv vs), .lo _ (lo_W w), .lo _ (.s _), .lo _ hln, .lo _ hlc, .lo _ hlf, .lo _ (.s _), trivial⟩) ?_
 refine zab (zbr ta24 ti24 rfl (zac rfl (zad rfl rfl (zaa rfl) (zai rfl rfl (hW) (zag rfl (zag rfl (zag rfl zam)))) (zac rfl (zac rfl (zac rfl (zac rfl (zac rfl (zac rfl (zac rfl (zae (zaf (zaf ?_)))))))))))))
 by_cases h1 : re ≠ 0
 ·
  refine zab (zac rfl (zad rfl rfl (zaa rfl) (zbp h1 (zbg rfl rfl rfl)) (zac rfl (zat rfl (zat rfl (zac rfl (zac rfl (zat rfl (zat rfl (zac rfl (zac rfl (zat rfl (zat rfl (zat rfl (zac rfl (zae (zah (za0 rfl (zaf (zab (zac rfl (zae (zah ?_)))))))))))))))))))))))
  (refine zav ?_; repeat (first | refine za6 ?_ | refine za7 ?_))
  exact zbj (.inr rfl) rfl rfl
 by_cases h2 : qe ≠ 0
 ·
  refine zab (zac rfl (zad rfl rfl (zaa rfl) (zbi h1 (zbg rfl rfl rfl)) (zac rfl (zac rfl (zad rfl rfl (zal rfl rfl rfl) (zbp h2 (zbg rfl rfl rfl)) (zac rfl (zac rfl (zat rfl (zat rfl (zac rfl (zac rfl (zat rfl (zat rfl (zat rfl (zac rfl (zae (zah (za0 rfl (zaf (zab (zac rfl (zae (zah ?_)))))))))))))))))))))))
  (refine zav ?_; repeat (first | refine za6 ?_ | refine za7 ?_))
  exact zbj (.inr rfl) rfl rfl
 cases qb with
 | false =>
  refine zab (zac rfl (zad rfl rfl (zaa rfl) (zbi h1 (zbg rfl rfl rfl)) (zac rfl (zac rfl (zad rfl rfl (zal rfl rfl rfl) (zbi h2 (zbg rfl rfl rfl)) (zac rfl (zac rfl (zac rfl (zad rfl rfl (zal rfl rfl rfl) (zay rfl rfl) (zac rfl (zac rfl (zat rfl (zat rfl (zat rfl (zac rfl (zae (zah (za0 rfl (zaf (zab (zac rfl (zae (zah ?_)))))))))))))))))))))))
  (refine zav ?_; repeat (first | refine za6 ?_ | refine za7 ?_))
  exact zbj (.inr rfl) rfl rfl
 | true =>
 cases b6 with
 | false =>
  refine zab (zac rfl (zad rfl rfl (zaa rfl) (zbi h1 (zbg rfl rfl rfl)) (zac rfl (zac rfl (zad rfl rfl (zal rfl rfl rfl) (zbi h2 (zbg rfl rfl rfl)) (zac rfl (zac rfl (zac rfl (zad rfl rfl (zal rfl rfl rfl) (zay rfl rfl) (zac rfl (zac rfl (zac rfl (zad rfl rfl (zal rfl rfl rfl) (zai rfl rfl (hI) (zag rfl zam)) (zad rfl rfl (zal rfl rfl rfl) (zay rfl rfl) (zac rfl (zae (zah (za0 rfl (zaf (zab (zac rfl (zae (zah ?_)))))))))))))))))))))))
  (refine zav ?_; repeat (first | refine za6 ?_ | refine za7 ?_))
  exact zbj (.inr rfl) rfl rfl
 | true =>
 have e1 : re = 0 := Decidable.not_not.1 h1
 have e2 : qe = 0 := Decidable.not_not.1 h2
 subst e1 e2
 have hL := hL rfl run rfl
 generalize qFitE n (addV vs w (1 + x)) ⟨1, 1, 0⟩ 60 = s at hG hL
 obtain ⟨sn, sd, se⟩ := s
 refine zab (zac rfl (zad rfl rfl (zaa rfl) (zbi h1 (zbg rfl rfl rfl)) (zac rfl (zac rfl (zad rfl rfl (zal rfl rfl rfl) (zbi h2 (zbg rfl rfl rfl)) (zac rfl (zac rfl (zac rfl (zad rfl rfl (zal rfl rfl rfl) (zay rfl rfl) (zac rfl (zac rfl (zac rfl (zad rfl rfl (zal rfl rfl rfl) (zai rfl rfl (hI) (zag rfl zam)) (zad rfl rfl (zal rfl rfl rfl) (zay rfl rfl) (zac rfl (zae (zah (zax rfl (zao (zaf ?_))))))))))))))))))))
 refine zb6 hmix ?_
 refine z0b ?_
 refine ex_w ta24 ti24 rfl (ex_s rfl (ex_s rfl (ex_s rfl (zct rfl rfl (zaa rfl) (fun _ => (zl8 rfl tu5 tk3 rfl hcw)) (zct rfl rfl (zaa rfl) (fun _ => (za4 rfl rfl rfl (IntWalk.i64_in _ (by omega)))) (zct rfl rfl (zaa rfl) (fun _ => (zai rfl rfl (hA) (zag rfl (zag rfl (zag rfl zam))))) (ex_w ta27 ti27 rfl (zct rfl rfl (zaa rfl) (fun _ => (zai rfl rfl (hG) (zag rfl (zag rfl (zag rfl (zag rfl zam)))))) (ex_s rfl (ex_s rfl (ex_s rfl ?_)))))))))))
 refine zl2 rfl rfl (zaa rfl) (zbw rfl ti32 rfl rfl) (fun _ h => zqw h) ?_
 refine zeo rfl (zaa rfl) (za8 rfl ti32 rfl rfl rfl rfl rfl rfl (by decide) (by decide)) (fun _ h => zc8 h) ?_
 refine ex_s rfl ?_
 refine zi3 (by kernel_rfl) ?_
 refine zaf ?_
 by_cases h3 : se ≠ 0
 ·
  refine zab (zac rfl (zad rfl rfl (zaa rfl) (zbp h3 (zbg rfl rfl rfl)) (zac rfl (zat rfl (zat rfl (zat rfl (zeq rfl rfl (zbu rfl rfl rfl) (zeq rfl rfl (zbu rfl rfl rfl) (zat rfl (zat rfl (zeq rfl rfl (zbu rfl rfl rfl) (zeq rfl rfl (zbu rfl rfl rfl) (zeq rfl rfl (zbu rfl rfl rfl) (zeq rfl rfl (zbu rfl rfl rfl) (zat rfl (zac rfl (zac rfl (zae (zah ?_)))))))))))))))))))
  (refine zav ?_; repeat (first | refine za6 ?_ | refine za7 ?_))
  exact zbj (.inr rfl) rfl rfl
 have e3 : se = 0 := Decidable.not_not.1 h3
 subst e3
 obtain ⟨u1, u2, u3⟩ := hL rfl
 have hU1 := zvj (P := P) ⟨rn, rd⟩ u1
 have hU2 := zvj (P := P) ⟨sn, sd⟩ u2
 have hC := z14 (P := P) ⟨sn, sd⟩ ⟨rn, rd⟩ u2.1 u1.1
 replace u3 : 0 ≤ cmpN ⟨sn, sd⟩ ⟨rn, rd⟩ := u3
 generalize cmpN ⟨sn, sd⟩ ⟨rn, rd⟩ = z at hC u3
 refine zab (zac rfl (zad rfl rfl (zaa rfl) (zbi h3 (zbg rfl rfl rfl)) (zac rfl (zbr ta32 ti32 rfl (zad rfl rfl (zal rfl rfl rfl) (zai rfl rfl (hU1) (zag rfl zam)) (zac rfl (zad rfl rfl (zal rfl rfl rfl) (zb2 rfl ta32 ti32 rfl rfl rfl rfl rfl) (zad rfl rfl (zal rfl rfl rfl) (zai rfl rfl (hU2) (zag rfl zam)) (zac rfl (zac rfl (zad rfl rfl (zal rfl rfl rfl) (zb2 rfl ta32 ti32 rfl rfl rfl rfl rfl) (zbr ta32 ti32 rfl (zad rfl rfl (zal rfl rfl rfl) (zai rfl rfl (hC) (zag rfl (zag rfl zam))) ?_)))))))))))))
 refine zad rfl rfl (zal rfl rfl rfl) (zbp u3 (zcr rfl rfl rfl)) (zac rfl (zac rfl (zac rfl (zae (zah ?_)))))
 (refine zav ?_; repeat (first | refine za6 ?_ | refine za7 ?_))
 exact zbj (.inr rfl) rfl rfl
end Go.Proofs.YtohmldibkojkfaaGreatDoor.Aw
end
