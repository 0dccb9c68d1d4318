import Derived.Test.YtllkbjcemecmjaaJR11
import Derived.Test.YtllkbjcemecmjaaJR4
import Derived.Test.YtllkbjcemecmjaaJR6
import Derived.Test.YtllkbjcemecmjaaJR5
set_option linter.unusedSimpArgs false
set_option linter.unusedVariables false
set_option linter.unusedSectionVars false
section
namespace Go.Proofs.Ytllkbjcemecmjaa.Aw
open Go Go.RowKit Go.Proofs
variable {P : Program} [IsP P]
theorem eBr_zero : eBr zBr = .agg [eI 0, eI 0, .sl [], .sl []] := by unfold zBr; rw [eBr_mk]; rfl
namespace K1
theorem prv_res {F : Frm} {st : AV} {x y : AV} {ok : Bool} {c0 c1 c2 c3 : AV} (h4 : F.get 4 = .ptr 1 4 0 0) (h5 : F.get 5 = eB ok) (hw : Wn (.agg [c0, c1, c2, c3]) y) (hx : x = .tup [y, eB ok]) :
  ∃ X xs, [Ob.row 4 [st], .row 4 [.agg [c0, c1, c2, c3]]] = [.row 4 [st]] ++ X ∧ ResL P F [Ob.row 4 [st], .row 4 [.agg [c0, c1, c2, c3]]] [.cell 4 32, .tmp 5] xs ∧ Wn (oneOf xs) x :=
 ⟨_, _, rfl, .cons _ _ _ _ (.cells 4 _ 1 4 0 _ _ _ _ _ _ ta32 ti32 h4 rfl rfl rfl rfl) (.cons _ _ _ _ (.tmp 5 _ h5) .nil), by rw [hx]; exact (WnL.cons hw (WnL.cons (.refl _) WnL.nil)).tup⟩
end K1
theorem lo_Bx (lo hi : List Int) : Lo 0 (eBx lo hi) := .agg _ (zag (zan fun _ => .s _) (zag (zan fun _ => .s _) zak))
theorem lo_pvA {d : List Int} {l : List Sft} {a b : Int} {k : Nat} : Lo k (pvA d l a b) := lo_up (.agg _ (zag (zan fun _ => .s _) (zag (zan lo_Sh) (zag (.s _) (zag (.s _) zak)))))
theorem pv_frame {f : FuncId} {r : AV} {d : List Int} {l : List Sft} {a b b' : Int} {lo hi : List Int} (h : CallE P f [.ptr 0 4 0 0, eBx lo hi] [.row 4 [pvA d l a b]] r [.row 4 [pvA d l a b']]) (X : List Ob) (hX : ∀ ob ∈ X, NoMp ob) : CallE P f [.ptr 0 4 0 0, eBx lo hi] (.row 4 [pvA d l a b] :: X) r (.row 4 [pvA d l a b'] :: X) :=
 h.frame1 X hX trivial trivial (zag (.ptr _ _ _ _ (by decide)) (zag (lo_up (lo_Bx lo hi)) zak)) (by intro c hc; simp only [List.mem_singleton] at hc; subst hc; exact lo_pvA)
theorem shF_lt (d : List Int) (l : List Sft) (c : List Int) : ∀ n k, shF d l c n k < ((k + n : Nat) : Int)
 | 0, k => by rw [shF]; omega
 | n + 1, k => by
  rw [shF]; split
  ·
   omega
  ·
   have := shF_lt d l c n (k + 1); omega
theorem shE_lt (d : List Int) (l : List Sft) (c : List Int) : shE d l c < d.length := by have := shF_lt d l c d.length 0; unfold shE; omega
def zBrA : AV := .agg [eI 0, eI 0, .s (.slice none 0 0), .s (.slice none 0 0)]
namespace K1
set_option maxHeartbeats 16000000 in
theorem prove_call (d : List Int) (l : List Sft) (cost : Int) (hv : zb6 d l = true) (hk : 0 ≤ cost ∧ cost ≤ 1000000) : ∀ (f : Nat) (n : Int) (lo hi : List Int), boxM lo hi l.length < f → BX l lo hi → 0 ≤ n → n ≤ 20000 →
  CallE P 27 [.ptr 0 4 0 0, eBx lo hi] [.row 4 [pvA d l cost n]] (.tup [eBr (prvT d l cost f n lo hi).1, eB (prvT d l cost f n lo hi).2.1]) [.row 4 [pvA d l cost (prvT d l cost f n lo hi).2.2]] := by
 intro f
 induction f with
 | zero => intro n lo hi h; omega
 | succ f IH =>
 intro n lo hi hm hb h0 h1
 obtain ⟨⟨q1, q2, q3⟩, qd, ql⟩ := zb0 hv
 have hll := hb.l1
 have hlh := hb.l2
 have hml := multipliers_call (P := P) d l cost (n - 1) lo hi hv hb.l1 hb.l2 ⟨q1, q2⟩ hk
 have hsi := simple_call (P := P) d l cost (n - 1) lo hi hv ⟨hb.l2, q3, hb.b2⟩ ⟨q1, q2⟩ hk (shE_lt d l hi)
 have hp1 := proves_pf (P := P) d l lo hi (mltE d l cost lo hi).1 cost hv hb.l1 hb.l2 hk.1 hk.2
 have hp2 := proves_pf (P := P) d l lo hi (simE d l cost hi) cost hv hb.l1 hb.l2 hk.1 hk.2
 have HI : prvT d l cost (f + 1) n lo hi = prvT d l cost (f + 1) n lo hi := rfl
 conv at HI => rhs; unfold prvT
 generalize prvT d l cost (f + 1) n lo hi = R at HI ⊢
 generalize mltE d l cost lo hi = ml at HI hml hp1
 generalize hvb : prvB d l lo hi (simE d l cost hi) cost = vb at HI hp2
 generalize simE d l cost hi = sm at HI hsi hp2 hvb
 generalize hva : prvB d l lo hi ml.1 cost = va at HI hp1
 obtain ⟨y, ok⟩ := ml
 replace hml := pv_frame hml [.row 4 [zBrA]] (noMp1 _ rfl)
 replace hsi := pv_frame hsi [.row 4 [zBrA]] (noMp1 _ rfl)
 refine callE_fnW rfl rfl (by intro ob h; simp only [List.mem_singleton] at h; subst h; intro c hc; simp only [List.mem_singleton] at hc; subst hc; exact lo_pvA) (lo_up (.tup _ (zag (lo_Br _) (zag (.s _) zak)))) (by rw [IsP.eq (P := P)]; exact Try.func27) rfl rfl (Nat.le_of_ble_eq_true rfl) ?_
 simp only [argF]
 refine kw_seq (kw_region (kops_op rfl rfl (zaa rfl) (zb4 rfl rfl rfl rfl) (kops_op rfl rfl (zaa rfl) (za0 rfl ti32 rfl rfl) (kops_s rfl (kops_nil (kw_seq (kw_seq ?_)))))))
 refine kw_weak (kwk_froz (id := 1) rfl) ?_
 refine kw_weak (kwk_ref (d := 3) rfl rfl rfl) ?_
 refine kw_weak (F' := [(0, .ptr 0 4 0 0), (3, .ref (eBx lo hi).cells), (4, .ptr 1 4 0 0)]) (σ' := [.row 4 [pvA d l cost n], .row 4 [zBrA]]) (kwk_st [0, 2] rfl (by decide) ⟨⟨_, rfl, zdt⟩, ⟨_, rfl, .rowE (by repeat' (first | exact Lo.s _ | exact za2 | refine zax ?_ ?_ | refine zar ?_ | refine Lo.cells ?_ | refine Lo.agg _ ?_ | exact zak | refine zag ?_ ?_ | intro _)) rfl⟩, trivial⟩ ⟨.ptr 0 0 4 0 0 rfl, .lo _ (.ref _ (lo_Bx lo hi).cells), .ptr 2 1 4 0 0 rfl, trivial⟩) ?_
 refine kw_region (kops_s rfl (kops_s rfl (kops_f tf70_3 rfl (kops_op rfl rfl (zaa rfl) (zap rfl ta3 rfl rfl rfl rfl rfl) (kops_op rfl rfl (zaa rfl) (does_sub rfl rfl rfl (IntWalk.i64_in _ (by omega))) (kops_s rfl (kops_f tf70_3 rfl (kops_eff rfl (zaa rfl) (zaj rfl ti3 rfl rfl rfl rfl rfl rfl (by decide) (by decide)) (kops_nil (kw_seq (kw_region (kops_s rfl (kops_s rfl (kops_f tf70_3 rfl (kops_op rfl rfl (zaa rfl) (zap rfl ta3 rfl rfl rfl rfl rfl) ?_)))))))))))))))
 refine kops_opP rfl rfl (zaa rfl) (za4 rfl rfl rfl) (fun h29 => ?_) (fun h29 => ?_)
 all_goals refine kops_nil (zai ?_)
 all_goals (first | refine kw_true rfl ?_ | refine kw_false rfl ?_)
 all_goals (repeat (first | refine kw_seq ?_ | refine kw_skip ?_))
 ·
  rw [if_pos h29] at HI
  refine kw_region (kops_op rfl rfl (zaa rfl) (za6 rfl ti32 tp32 rfl rfl) (kops_eff rfl (zaa rfl) (zaj rfl ti32 rfl rfl rfl rfl rfl rfl (by decide) (by decide)) (kops_s rfl (kops_nil (zai ?_)))))
  (refine kw_ret ?_; repeat (first | refine zbg ?_ | refine zbh ?_))
  subst HI
  exact ⟨.inr rfl, prv_res (st := pvA d l cost (n - 1)) rfl rfl (WnL.cons (.refl _) (WnL.cons (.refl _) (WnL.cons .nil (WnL.cons .nil WnL.nil)))).agg (congrArg (fun z => AV.tup [z, eB false]) eBr_zero)⟩
 rw [if_neg h29] at HI
 have hw1 := wideF_bd lo hi l.length
 have leafA : ∀ y : List Fr, AV.tup [.agg [eI 0, eI 0, .sl [], eL eF y], eB true] = .tup [eBr (.mk 0 0 [] y), eB true] := fun y => by rw [eBr_mk]; rfl
 refine kw_region (kops_s rfl (kops_w ta74 ti74 rfl (kops_op rfl rfl (zaa rfl) (zbo rfl rfl hml (zad rfl (zad rfl zaq))) (kops_s rfl (kops_s rfl (kops_s rfl (kops_s rfl (kops_s rfl (kops_nil (kw_seq ?_))))))))))
 by_cases hc : ok = true ∧ va = true
 ·
  obtain ⟨rfl, rfl⟩ := hc
  rw [if_pos ⟨rfl, rfl⟩] at HI
  refine kw_draw hmix ?_
  refine kdraw_ex ?_
  refine ex_s rfl (ex_s rfl (ex_s rfl (ex_s rfl (ex_f tf70_0 rfl (zbt rfl rfl (zas rfl rfl rfl) (zbn rfl ta22 rfl rfl rfl rfl rfl) (ex_s rfl (ex_s rfl (ex_f tf70_1 rfl (zbt rfl rfl (zas rfl rfl rfl) (zbn rfl ta23 rfl rfl rfl rfl rfl) (ex_w ta74 ti74 rfl (ex_s rfl (ex_s rfl (ex_s rfl (ex_f tf70_2 rfl (zbt rfl rfl (zas rfl rfl rfl) (zbn rfl ta3 rfl rfl rfl rfl rfl) (zaz rfl rfl (zas rfl rfl rfl) (fun _ => (zam rfl rfl (hp1) (zad rfl (zad rfl (zad rfl (zad rfl (zad rfl zaq))))))) (ex_s rfl ?_)))))))))))))))))
  refine zcc (by kernel_rfl) ?_
  refine zai (kw_true rfl (kw_seq (kw_region (kops_s rfl (kops_op rfl rfl (zaa rfl) (za6 rfl ti32 tp32 rfl rfl) (kops_eff rfl (zaa rfl) (zaj rfl ti32 rfl rfl rfl rfl rfl rfl (by decide) (by decide)) (kops_s rfl (kops_nil (zai ?_)))))))))
  (refine kw_ret ?_; repeat (first | refine zbg ?_ | refine zbh ?_))
  subst HI
  exact ⟨.inr rfl, prv_res (st := pvA d l cost (n - 1)) rfl rfl (WnL.cons (.refl _) (WnL.cons (.refl _) (WnL.cons .nil (WnL.cons (.refl _) WnL.nil)))).agg (leafA y).symm⟩
 rw [if_neg hc] at HI
 refine kw_join [(0, .ptr 0 4 0 0), (3, .ref (eBx lo hi).cells), (4, .ptr 1 4 0 0)] [.row 4 [pvA d l cost (n - 1)], .row 4 [zBrA]] ?_ ?_
 ·
  have hsk : (ok = false) ∨ (ok = true ∧ va = false) := by cases ok <;> cases va <;> simp_all
  rcases hsk with rfl | ⟨rfl, rfl⟩
  all_goals
   all_goals refine kw_draw hmix ?_
   all_goals refine kdraw_ex ?_
   all_goals refine ex_s rfl (ex_s rfl ?_)
   all_goals (first | refine ex_s rfl ?_ | refine ex_z rfl ?_)
   all_goals (first | refine ex_s rfl ?_ | refine ex_z rfl ?_)
   all_goals (first | refine ex_f tf70_0 rfl ?_ | refine ex_z rfl ?_)
   all_goals (first | refine zbt rfl rfl (zas rfl rfl rfl) (zbn rfl ta22 rfl rfl rfl rfl rfl) ?_ | refine ex_z rfl ?_)
   all_goals (first | refine ex_s rfl ?_ | refine ex_z rfl ?_)
   all_goals (first | refine ex_s rfl ?_ | refine ex_z rfl ?_)
   all_goals (first | refine ex_f tf70_1 rfl ?_ | refine ex_z rfl ?_)
   all_goals (first | refine zbt rfl rfl (zas rfl rfl rfl) (zbn rfl ta23 rfl rfl rfl rfl rfl) ?_ | refine ex_z rfl ?_)
   all_goals (first | refine ex_w ta74 ti74 rfl ?_ | refine ex_z rfl ?_)
   all_goals (first | refine ex_s rfl ?_ | refine ex_z rfl ?_)
   all_goals (first | refine ex_s rfl ?_ | refine ex_z rfl ?_)
   all_goals (first | refine ex_s rfl ?_ | refine ex_z rfl ?_)
   all_goals (first | refine ex_f tf70_2 rfl ?_ | refine ex_z rfl ?_)
   all_goals (first | refine zbt rfl rfl (zas rfl rfl rfl) (zbn rfl ta3 rfl rfl rfl rfl rfl) ?_ | refine ex_z rfl ?_)
   all_goals (first | refine zaz rfl rfl (zas rfl rfl rfl) (fun _ => (zam rfl rfl (hp1) (zad rfl (zad rfl (zad rfl (zad rfl (zad rfl zaq))))))) ?_ | refine ex_z rfl ?_)
   all_goals refine ex_s rfl ?_
   all_goals refine zcc (by kernel_rfl) ?_
   all_goals refine zai ?_
   refine kw_false rfl (kw_skip (zai ?_))
   exact kwk_st [0, 1] rfl (by decide) ⟨⟨_, rfl, zdt⟩, ⟨_, rfl, .rowE (by repeat' (first | exact Lo.s _ | exact za2 | refine zax ?_ ?_ | refine zar ?_ | refine Lo.cells ?_ | refine Lo.agg _ ?_ | exact zak | refine zag ?_ ?_ | intro _)) rfl⟩, trivial⟩ ⟨.ptr 0 0 4 0 0 rfl, .lo _ (.ref _ (lo_Bx lo hi).cells), .ptr 1 1 4 0 0 rfl, trivial⟩
 refine kw_seq (kw_seq (kw_region (kops_s rfl (kops_w ta74 ti74 rfl (kops_op rfl rfl (zaa rfl) (zbo rfl rfl hsi (zad rfl (zad rfl zaq))) (kops_s rfl (kops_nil (kw_seq ?_))))))))
 refine kw_draw hmix ?_
 refine kdraw_ex ?_
 refine ex_s rfl (ex_s rfl (ex_f tf70_0 rfl (zbt rfl rfl (zaa rfl) (zbn rfl ta22 rfl rfl rfl rfl rfl) (ex_s rfl (ex_s rfl (ex_f tf70_1 rfl (zbt rfl rfl (zaa rfl) (zbn rfl ta23 rfl rfl rfl rfl rfl) (ex_w ta74 ti74 rfl (ex_s rfl (ex_s rfl (ex_s rfl (ex_f tf70_2 rfl (zbt rfl rfl (zaa rfl) (zbn rfl ta3 rfl rfl rfl rfl rfl) (zaz rfl rfl (zaa rfl) (fun _ => (zam rfl rfl (hp2) (zad rfl (zad rfl (zad rfl (zad rfl (zad rfl zaq))))))) ?_))))))))))))))
 refine zcc (by kernel_rfl) ?_
 refine zai ?_
 cases vb with
 | true =>
  rw [if_pos rfl] at HI
  refine kw_true rfl (kw_seq (kw_region (kops_s rfl (kops_op rfl rfl (zaa rfl) (za6 rfl ti32 tp32 rfl rfl) (kops_eff rfl (zaa rfl) (zaj rfl ti32 rfl rfl rfl rfl rfl rfl (by decide) (by decide)) (kops_s rfl (kops_nil (zai ?_))))))))
  (refine kw_ret ?_; repeat (first | refine zbg ?_ | refine zbh ?_))
  subst HI
  exact ⟨.inr rfl, prv_res (st := pvA d l cost (n - 1)) rfl rfl (WnL.cons (.refl _) (WnL.cons (.refl _) (WnL.cons .nil (WnL.cons (.refl _) WnL.nil)))).agg (leafA sm).symm⟩
 | false =>
  rw [if_neg (by simp)] at HI
  refine kw_false rfl (kw_skip (kw_seq (kw_region (kops_s rfl (kops_nil (kw_seq (kw_seq (kw_region (kops_s rfl (kops_s rfl (kops_f tf70_1 rfl (kops_op rfl rfl (zaa rfl) (zap rfl ta23 rfl rfl rfl rfl rfl) (kops_op rfl rfl (zaa rfl) (zao rfl ts23 rfl) (kops_s rfl (kops_nil (zai (kw_block ?_)))))))))))))))))
  refine kw_loops (S := Nat) (fun i => [(0, .ptr 0 4 0 0), (3, .ref (eBx lo hi).cells), (4, .ptr 1 4 0 0), (9, eI (zdk lo hi i)), (81, eI l.length), (82, eI i)]) (fun i => [.row 4 [pvA d l cost (n - 1)], .row 4 [zBrA]]) (fun i => i ≤ l.length) (fun i => l.length - i) 0
   (kwk_st [0, 1] rfl (by decide) ⟨⟨_, rfl, zdt⟩, ⟨_, rfl, .rowE (by repeat' (first | exact Lo.s _ | exact za2 | refine zax ?_ ?_ | refine zar ?_ | refine Lo.cells ?_ | refine Lo.agg _ ?_ | exact zak | refine zag ?_ ?_ | intro _)) rfl⟩, trivial⟩ ⟨.ptr 0 0 4 0 0 rfl, .lo _ (.ref _ (lo_Bx lo hi).cells), .ptr 1 1 4 0 0 rfl, .lo _ (.s _), .lo _ (.s _), .lo _ (.s _), trivial⟩) (Nat.zero_le _) (fun i hi' => ?_)
  refine kw_seq (kw_region ?_)
  refine kops_opP rfl rfl (zaa rfl) (za4 rfl rfl rfl) (fun h83 => ?_) (fun h83 => ?_)
  all_goals refine kops_nil (kw_seq ?_)
  all_goals (first | refine kw_true rfl ?_ | refine kw_false rfl ?_)
  all_goals (repeat (first | refine kw_seq ?_ | refine kw_skip ?_ | refine kw_block ?_))
  ·
   have hlt : i < l.length := by omega
   have hwd := wideF_bd lo hi i
   have hxl : (lo.map eI)[i]? = some (eI (gti lo i)) := zbd (by omega)
   have hxh : (hi.map eI)[i]? = some (eI (gti hi i)) := zbd (by omega)
   have hbl := hb.b1 i hlt
   have hbh := hb.b2 i hlt
   have hstep : zdk lo hi (i + 1) = if 0 < gti hi i - gti lo i ∧ (zdk lo hi i < 0 ∨ gti hi (zdk lo hi i).toNat - gti lo (zdk lo hi i).toNat < gti hi i - gti lo i) then (i : Int) else zdk lo hi i := rfl
   refine kw_region (kops_s rfl (kops_s rfl (kops_nil (kw_seq ?_))))
   refine kw_draw hmix ?_
   refine kdraw_ex ?_
   refine ex_f tf74_1 rfl (ex_l ta22 rfl (ex_s rfl (zaz rfl rfl (zaa rfl) (fun _ => (zal rfl ts22 ti3 rfl rfl rfl hxh rfl)) (ex_l ta3 rfl (ex_f tf74_0 rfl (ex_l ta22 rfl (ex_s rfl (zaz rfl rfl (zaa rfl) (fun _ => (zal rfl ts22 ti3 rfl rfl rfl hxl rfl)) (ex_l ta3 rfl (zaz rfl rfl (zaa rfl) (fun _ => (does_sub rfl rfl rfl (IntWalk.i64_in _ (by omega)))) (ex_s rfl ?_)))))))))))
   refine zcc (by kernel_rfl) ?_
   refine kw_seq ?_
   by_cases c1 : 0 < gti hi i - gti lo i
   ·
    by_cases c2 : zdk lo hi i < 0
    ·
     rw [if_pos ⟨c1, .inl c2⟩] at hstep
     refine kw_draw hmix ?_
     refine kdraw_ex ?_
     refine ex_s rfl (zaz rfl rfl (zaa rfl) (fun _ => (zds c1 (zb5 rfl rfl rfl))) (ex_s rfl (ex_s rfl (zaz rfl rfl (zas rfl rfl rfl) (fun _ => (zds c2 (za4 rfl rfl rfl))) (ex_s rfl (ex_z rfl (ex_z rfl (ex_z rfl (ex_z rfl (ex_z rfl (ex_z rfl (ex_z rfl (ex_z rfl (ex_z rfl (ex_z rfl (ex_z rfl (ex_z rfl (ex_z rfl (ex_s rfl (ex_s rfl ?_))))))))))))))))))))
     refine zcc (by kernel_rfl) ?_
     refine zai (kw_true rfl (kw_region (kops_s rfl (kops_s rfl (kops_nil (zbu (zai (kw_region (kops_op rfl rfl (zaa rfl) (zav rfl rfl rfl (IntWalk.i64_in _ (by omega))) (kops_s rfl (kops_nil (zai ?_))))))))))))
     exact ⟨i + 1, by omega, by omega, kwk_st [0, 1] rfl (by decide) ⟨⟨_, rfl, zdt⟩, ⟨_, rfl, .rowE (by repeat' (first | exact Lo.s _ | exact za2 | refine zax ?_ ?_ | refine zar ?_ | refine Lo.cells ?_ | refine Lo.agg _ ?_ | exact zak | refine zag ?_ ?_ | intro _)) rfl⟩, trivial⟩ ⟨.ptr 0 0 4 0 0 rfl, .lo _ (.ref _ (lo_Bx lo hi).cells), .ptr 1 1 4 0 0 rfl, by rw [hstep]; exact .lo _ (.s _), .lo _ (.s _), .lo _ (.s _), trivial⟩⟩
    ·
     obtain ⟨m, hmm⟩ : ∃ m : Nat, zdk lo hi i = m := ⟨(zdk lo hi i).toNat, by omega⟩
     have hml2 : m < l.length := by omega
     have hyl : (lo.map eI)[m]? = some (eI (gti lo m)) := zbd (by omega)
     have hyh : (hi.map eI)[m]? = some (eI (gti hi m)) := zbd (by omega)
     have hcl := hb.b1 m hml2
     have hch := hb.b2 m hml2
     rw [hmm, Int.toNat_natCast] at hstep
     rw [hmm] at c2
     simp only [hmm]
     by_cases c3 : gti hi m - gti lo m < gti hi i - gti lo i
     ·
      rw [if_pos ⟨c1, .inr c3⟩] at hstep
      refine kw_draw hmix ?_
      refine kdraw_ex ?_
      refine ex_s rfl (zaz rfl rfl (zaa rfl) (fun _ => (zds c1 (zb5 rfl rfl rfl))) (ex_s rfl (ex_s rfl (zaz rfl rfl (zas rfl rfl rfl) (fun _ => (dec_f c2 (za4 rfl rfl rfl))) (ex_s rfl (ex_s rfl (ex_f tf74_1 rfl (ex_l ta22 rfl (ex_s rfl (zaz rfl rfl (zas rfl rfl rfl) (fun _ => (zal rfl ts22 ti3 rfl rfl rfl hyh rfl)) (ex_l ta3 rfl (ex_f tf74_0 rfl (ex_l ta22 rfl (ex_s rfl (zaz rfl rfl (zas rfl rfl rfl) (fun _ => (zal rfl ts22 ti3 rfl rfl rfl hyl rfl)) (ex_l ta3 rfl (zaz rfl rfl (zas rfl rfl rfl) (fun _ => (does_sub rfl rfl rfl (IntWalk.i64_in _ (by omega)))) ?_)))))))))))))))))
      refine zaz rfl rfl (zas rfl rfl rfl) (fun _ => (zds c3 (zb5 rfl rfl rfl))) (ex_s rfl (ex_s rfl ?_))
      refine zcc (by kernel_rfl) ?_
      refine zai (kw_true rfl (kw_region (kops_s rfl (kops_s rfl (kops_nil (zbu (zai (kw_region (kops_op rfl rfl (zaa rfl) (zav rfl rfl rfl (IntWalk.i64_in _ (by omega))) (kops_s rfl (kops_nil (zai ?_))))))))))))
      exact ⟨i + 1, by omega, by omega, kwk_st [0, 1] rfl (by decide) ⟨⟨_, rfl, zdt⟩, ⟨_, rfl, .rowE (by repeat' (first | exact Lo.s _ | exact za2 | refine zax ?_ ?_ | refine zar ?_ | refine Lo.cells ?_ | refine Lo.agg _ ?_ | exact zak | refine zag ?_ ?_ | intro _)) rfl⟩, trivial⟩ ⟨.ptr 0 0 4 0 0 rfl, .lo _ (.ref _ (lo_Bx lo hi).cells), .ptr 1 1 4 0 0 rfl, by rw [hstep]; exact .lo _ (.s _), .lo _ (.s _), .lo _ (.s _), trivial⟩⟩
     ·
      rw [if_neg (by omega)] at hstep
      refine kw_draw hmix ?_
      refine kdraw_ex ?_
      refine ex_s rfl (zaz rfl rfl (zaa rfl) (fun _ => (zds c1 (zb5 rfl rfl rfl))) (ex_s rfl (ex_s rfl (zaz rfl rfl (zas rfl rfl rfl) (fun _ => (dec_f c2 (za4 rfl rfl rfl))) (ex_s rfl (ex_s rfl (ex_f tf74_1 rfl (ex_l ta22 rfl (ex_s rfl (zaz rfl rfl (zas rfl rfl rfl) (fun _ => (zal rfl ts22 ti3 rfl rfl rfl hyh rfl)) (ex_l ta3 rfl (ex_f tf74_0 rfl (ex_l ta22 rfl (ex_s rfl (zaz rfl rfl (zas rfl rfl rfl) (fun _ => (zal rfl ts22 ti3 rfl rfl rfl hyl rfl)) (ex_l ta3 rfl (zaz rfl rfl (zas rfl rfl rfl) (fun _ => (does_sub rfl rfl rfl (IntWalk.i64_in _ (by omega)))) ?_)))))))))))))))))
      refine zaz rfl rfl (zas rfl rfl rfl) (fun _ => (dec_f c3 (zb5 rfl rfl rfl))) (ex_s rfl (ex_s rfl ?_))
      refine zcc (by kernel_rfl) ?_
      refine zai (kw_false rfl (kw_skip (zbu (zai (kw_region (kops_op rfl rfl (zaa rfl) (zav rfl rfl rfl (IntWalk.i64_in _ (by omega))) (kops_s rfl (kops_nil (zai ?_)))))))))
      exact ⟨i + 1, by omega, by omega, kwk_st [0, 1] rfl (by decide) ⟨⟨_, rfl, zdt⟩, ⟨_, rfl, .rowE (by repeat' (first | exact Lo.s _ | exact za2 | refine zax ?_ ?_ | refine zar ?_ | refine Lo.cells ?_ | refine Lo.agg _ ?_ | exact zak | refine zag ?_ ?_ | intro _)) rfl⟩, trivial⟩ ⟨.ptr 0 0 4 0 0 rfl, .lo _ (.ref _ (lo_Bx lo hi).cells), .ptr 1 1 4 0 0 rfl, by rw [hstep]; exact .lo _ (.s _), .lo _ (.s _), .lo _ (.s _), trivial⟩⟩
   ·
    rw [if_neg (by omega)] at hstep
    refine kw_draw hmix ?_
    refine kdraw_ex ?_
    refine ex_s rfl (zaz rfl rfl (zaa rfl) (fun _ => (dec_f c1 (zb5 rfl rfl rfl))) (ex_s rfl (ex_z rfl (ex_z rfl (ex_z rfl (zb9 rfl rfl (zbf rfl rfl rfl) (zb9 rfl rfl (zbf rfl rfl rfl) (zb9 rfl rfl (zbf rfl rfl rfl) (zb9 rfl rfl (zbf rfl rfl rfl) (zb9 rfl rfl (zbf rfl rfl rfl) (zb9 rfl rfl (zbf rfl rfl rfl) (zb9 rfl rfl (zbf rfl rfl rfl) (zb9 rfl rfl (zbf rfl rfl rfl) (zb9 rfl rfl (zbf rfl rfl rfl) (zb9 rfl rfl (zbf rfl rfl rfl) (zb9 rfl rfl (zbf rfl rfl rfl) (zb9 rfl rfl (zbf rfl rfl rfl) ?_)))))))))))))))))
    refine zb9 rfl rfl (zbf rfl rfl rfl) (ex_z rfl (ex_s rfl ?_))
    refine zcc (by kernel_rfl) ?_
    refine zai (kw_false rfl (kw_skip (zbu (zai (kw_region (kops_op rfl rfl (zaa rfl) (zav rfl rfl rfl (IntWalk.i64_in _ (by omega))) (kops_s rfl (kops_nil (zai ?_)))))))))
    exact ⟨i + 1, by omega, by omega, kwk_st [0, 1] rfl (by decide) ⟨⟨_, rfl, zdt⟩, ⟨_, rfl, .rowE (by repeat' (first | exact Lo.s _ | exact za2 | refine zax ?_ ?_ | refine zar ?_ | refine Lo.cells ?_ | refine Lo.agg _ ?_ | exact zak | refine zag ?_ ?_ | intro _)) rfl⟩, trivial⟩ ⟨.ptr 0 0 4 0 0 rfl, .lo _ (.ref _ (lo_Bx lo hi).cells), .ptr 1 1 4 0 0 rfl, by rw [hstep]; exact .lo _ (.s _), .lo _ (.s _), .lo _ (.s _), trivial⟩⟩
  ·
   have ei : i = l.length := by omega
   subst ei
   (refine kw_exit ?_; repeat (first | refine zc3 ?_ | refine zb2 ?_ | refine zbq rfl ?_ | refine zbu ?_ | refine zai ?_ | refine kw_seq ?_ | refine kw_skip ?_ | refine kw_block ?_))
   refine kw_region (kops_s rfl ?_)
   refine kops_opP rfl rfl (zaa rfl) (za4 rfl rfl rfl) (fun h120 => ?_) (fun h120 => ?_)
   all_goals refine kops_nil (zai ?_)
   all_goals (first | refine kw_true rfl ?_ | refine kw_false rfl ?_)
   all_goals (repeat (first | refine kw_seq ?_ | refine kw_skip ?_))
   ·
    rw [if_pos h120] at HI
    refine kw_region (kops_op rfl rfl (zaa rfl) (za6 rfl ti32 tp32 rfl rfl) (kops_eff rfl (zaa rfl) (zaj rfl ti32 rfl rfl rfl rfl rfl rfl (by decide) (by decide)) (kops_s rfl (kops_nil (zai ?_)))))
    (refine kw_ret ?_; repeat (first | refine zbg ?_ | refine zbh ?_))
    subst HI
    exact ⟨.inr rfl, prv_res (st := pvA d l cost (n - 1)) rfl rfl (WnL.cons (.refl _) (WnL.cons (.refl _) (WnL.cons .nil (WnL.cons .nil WnL.nil)))).agg (congrArg (fun z => AV.tup [z, eB false]) eBr_zero)⟩
   rw [if_neg h120] at HI
   obtain ⟨k, hkk⟩ : ∃ k : Nat, zdk lo hi l.length = k := ⟨(zdk lo hi l.length).toNat, by omega⟩
   rw [hkk] at HI hw1
   simp only [Int.toNat_natCast] at HI hw1
   simp only [hkk]
   have hkl : k < l.length := by omega
   have hxl : (lo.map eI)[k]? = some (eI (gti lo k)) := zbd (by omega)
   have hxh : (hi.map eI)[k]? = some (eI (gti hi k)) := zbd (by omega)
   have hbl := hb.b1 k hkl
   have hbh := hb.b2 k hkl
   obtain ⟨t, ht⟩ : ∃ t, (gti lo k + gti hi k) / 2 = t := ⟨_, rfl⟩
   have ht2 : (gti lo k + gti hi k).tdiv 2 = t := by rw [Int.tdiv_eq_ediv_of_nonneg (by omega)]; exact ht
   rw [ht] at HI
   have hhv := halves_pf (P := P) lo hi k t (by omega) (by omega) (by omega) (by omega) (by omega)
   have hA := IH (n - 1) lo (setI hi k t) (by have := boxM_hi (lo := lo) (hi := hi) (n := l.length) (k := k) (t := t) hkl (by omega) (by omega) (by omega); omega) (hb.hi hkl (by omega) (by omega)) (by omega) (by omega)
   have hAb := prvT_bd d l cost f (n - 1) lo (setI hi k t) (by omega)
   generalize prvT d l cost f (n - 1) lo (setI hi k t) = ra at HI hA hAb
   obtain ⟨⟨s1, t1, L1, y1⟩, ok1, n1⟩ := ra
   rw [eBr_mk] at hA
   replace hA := pv_frame hA [.row 4 [zBrA]] (noMp1 _ rfl)
   refine kw_draw hmix ?_
   refine kdraw_ex ?_
   refine ex_f tf74_0 rfl (ex_l ta22 rfl (ex_s rfl (zaz rfl rfl (zaa rfl) (fun _ => (zal rfl ts22 ti3 rfl rfl rfl hxl rfl)) (ex_l ta3 rfl (ex_f tf74_1 rfl (ex_l ta22 rfl (ex_s rfl (zaz rfl rfl (zaa rfl) (fun _ => (zal rfl ts22 ti3 rfl rfl rfl hxh rfl)) (ex_l ta3 rfl (zaz rfl rfl (zaa rfl) (fun _ => (zav rfl rfl rfl (IntWalk.i64_in _ (by omega)))) (zaz rfl rfl (zaa rfl) (fun _ => (does_quo rfl rfl rfl (by omega) (IntWalk.i64_in _ (by omega)))) (ex_s rfl ?_))))))))))))
   refine zcc (by kernel_rfl) ?_
   refine kw_seq ?_
   rw [ht2]
   refine kw_region (kops_w ta74 ti74 rfl (kops_s rfl (kops_s rfl (kops_op rfl rfl (zaa rfl) (zam rfl rfl (hhv) (zad rfl (zad rfl (zad rfl zaq)))) (kops_s rfl (kops_s rfl (kops_s rfl (kops_op rfl rfl (zaa rfl) (za0 rfl ti74 rfl rfl) (kops_op rfl rfl (zaa rfl) (za0 rfl ti74 rfl rfl) (kops_eff rfl (zaa rfl) (zaj rfl ti74 rfl rfl rfl rfl rfl rfl (by decide) (by decide)) (kops_eff rfl (zaa rfl) (zaj rfl ti74 rfl rfl rfl rfl rfl rfl (by decide) (by decide)) (kops_nil (kw_seq ?_)))))))))))))
   refine kw_weak (kwk_froz (id := 2) rfl) ?_
   refine kw_weak (kwk_ref (d := 13) rfl rfl rfl) ?_
   refine kw_weak (kwk_froz (id := 3) rfl) ?_
   refine kw_weak (kwk_ref (d := 14) rfl rfl rfl) ?_
   refine kw_weak (F' := [(0, .ptr 0 4 0 0), (4, .ptr 1 4 0 0), (9, eI k), (12, eI t), (13, .ref (eBx lo (setI hi k t)).cells), (14, .ref (eBx (setI lo k (t + 1)) hi).cells)]) (σ' := [.row 4 [pvA d l cost (n - 1)], .row 4 [zBrA]]) (kwk_st [0, 1] rfl (by decide) ⟨⟨_, rfl, zdt⟩, ⟨_, rfl, .rowE (by repeat' (first | exact Lo.s _ | exact za2 | refine zax ?_ ?_ | refine zar ?_ | refine Lo.cells ?_ | refine Lo.agg _ ?_ | exact zak | refine zag ?_ ?_ | intro _)) rfl⟩, trivial⟩ ⟨.ptr 0 0 4 0 0 rfl, .ptr 1 1 4 0 0 rfl, .lo _ (.s _), .lo _ (.s _), .lo _ (.ref _ (lo_Bx _ _).cells), .lo _ (.ref _ (lo_Bx _ _).cells), trivial⟩) ?_
   have hbr : ∀ s t L y, Lo 0 (.ref [eI s, eI t, eL eBr L, eL eF y]) := fun s t L y => by have := lo_Br (.mk s t L y); rw [eBr_mk] at this; exact .ref _ this.cells
   cases ok1 with
   | false =>
    rw [if_pos rfl] at HI
    refine kw_region (kops_s rfl (kops_w ta74 ti74 rfl (kops_op rfl rfl (zaa rfl) (zbo rfl rfl hA (zad rfl (zad rfl zaq))) (kops_s rfl (kops_s rfl (kops_s rfl (kops_op rfl rfl (zaa rfl) (za0 rfl ti32 rfl rfl) (kops_eff rfl (zaa rfl) (zaj rfl ti32 rfl rfl rfl rfl rfl rfl (by decide) (by decide)) (kops_s rfl (kops_nil (kw_seq (kw_seq ?_))))))))))))
    refine kw_weak (kwk_froz (id := 2) rfl) ?_
    refine kw_weak (kwk_ref (d := 15) rfl rfl rfl) ?_
    refine kw_weak (F' := [(0, .ptr 0 4 0 0), (4, .ptr 1 4 0 0), (16, eB false)]) (σ' := [.row 4 [pvA d l cost n1], .row 4 [zBrA]]) (kwk_st [0, 1] rfl (by decide) ⟨⟨_, rfl, zdt⟩, ⟨_, rfl, .rowE (by repeat' (first | exact Lo.s _ | exact za2 | refine zax ?_ ?_ | refine zar ?_ | refine Lo.cells ?_ | refine Lo.agg _ ?_ | exact zak | refine zag ?_ ?_ | intro _)) rfl⟩, trivial⟩ ⟨.ptr 0 0 4 0 0 rfl, .ptr 1 1 4 0 0 rfl, .lo _ (.s _), trivial⟩) ?_
    refine kw_region (kops_s rfl (kops_op rfl rfl (zaa rfl) (zbv rfl rfl) (kops_nil (zai (kw_true rfl (kw_seq (kw_region (kops_op rfl rfl (zaa rfl) (za6 rfl ti32 tp32 rfl rfl) (kops_eff rfl (zaa rfl) (zaj rfl ti32 rfl rfl rfl rfl rfl rfl (by decide) (by decide)) (kops_s rfl (kops_nil (zai ?_))))))))))))
    (refine kw_ret ?_; repeat (first | refine zbg ?_ | refine zbh ?_))
    subst HI
    exact ⟨.inr rfl, prv_res (st := pvA d l cost n1) rfl rfl (WnL.cons (.refl _) (WnL.cons (.refl _) (WnL.cons .nil (WnL.cons .nil WnL.nil)))).agg (congrArg (fun z => AV.tup [z, eB false]) eBr_zero)⟩
   | true =>
    rw [if_neg (by simp)] at HI
    dsimp only at HI hAb hA
    have hn1 : 0 ≤ n1 ∧ n1 ≤ 20000 := by have := hAb.2.2 rfl; omega
    have hB := IH n1 (setI lo k (t + 1)) hi (by have := boxM_lo (lo := lo) (hi := hi) (n := l.length) (k := k) (t := t + 1) hkl (by omega) (by omega) (by omega); omega) (hb.lo hkl (by omega) (by omega)) hn1.1 hn1.2
    generalize prvT d l cost f n1 (setI lo k (t + 1)) hi = rb at HI hB
    obtain ⟨⟨s2, t2, L2, y2⟩, ok2, n2⟩ := rb
    rw [eBr_mk] at hB
    replace hB := pv_frame hB [.row 4 [zBrA]] (noMp1 _ rfl)
    refine kw_region (kops_s rfl (kops_w ta74 ti74 rfl (kops_op rfl rfl (zaa rfl) (zbo rfl rfl hA (zad rfl (zad rfl zaq))) (kops_s rfl (kops_s rfl (kops_s rfl (kops_op rfl rfl (zaa rfl) (za0 rfl ti32 rfl rfl) (kops_eff rfl (zaa rfl) (zaj rfl ti32 rfl rfl rfl rfl rfl rfl (by decide) (by decide)) (kops_s rfl (kops_nil (kw_seq (kw_seq ?_))))))))))))
    refine kw_weak (kwk_froz (id := 2) rfl) ?_
    refine kw_weak (kwk_ref (d := 15) rfl rfl rfl) ?_
    refine kw_weak (F' := [(0, .ptr 0 4 0 0), (4, .ptr 1 4 0 0), (9, eI k), (12, eI t), (14, .ref (eBx (setI lo k (t + 1)) hi).cells), (15, .ref [eI s1, eI t1, eL eBr L1, eL eF y1]), (16, eB true)]) (σ' := [.row 4 [pvA d l cost n1], .row 4 [zBrA]]) (kwk_st [0, 1] rfl (by decide) ⟨⟨_, rfl, zdt⟩, ⟨_, rfl, .rowE (by repeat' (first | exact Lo.s _ | exact za2 | refine zax ?_ ?_ | refine zar ?_ | refine Lo.cells ?_ | refine Lo.agg _ ?_ | exact zak | refine zag ?_ ?_ | intro _)) rfl⟩, trivial⟩ ⟨.ptr 0 0 4 0 0 rfl, .ptr 1 1 4 0 0 rfl, .lo _ (.s _), .lo _ (.s _), .lo _ (.ref _ (lo_Bx _ _).cells), .lo _ (hbr _ _ _ _), .lo _ (.s _), trivial⟩) ?_
    refine kw_region (kops_s rfl (kops_op rfl rfl (zaa rfl) (zbv rfl rfl) (kops_nil (zai (kw_false rfl (kw_skip (kw_seq (kw_region (kops_s rfl (kops_w ta74 ti74 rfl (kops_op rfl rfl (zaa rfl) (zbo rfl rfl hB (zad rfl (zad rfl zaq))) (kops_s rfl (kops_s rfl (kops_s rfl (kops_op rfl rfl (zaa rfl) (za0 rfl ti32 rfl rfl) (kops_eff rfl (zaa rfl) (zaj rfl ti32 rfl rfl rfl rfl rfl rfl (by decide) (by decide)) (kops_s rfl (kops_nil (kw_seq ?_)))))))))))))))))))
    refine kw_weak (kwk_froz (id := 2) rfl) ?_
    refine kw_weak (kwk_ref (d := 17) rfl rfl rfl) ?_
    refine kw_weak (F' := [(0, .ptr 0 4 0 0), (4, .ptr 1 4 0 0), (9, eI k), (12, eI t), (15, .ref [eI s1, eI t1, eL eBr L1, eL eF y1]), (16, eB ok2), (17, .ref [eI s2, eI t2, eL eBr L2, eL eF y2])]) (σ' := [.row 4 [pvA d l cost n2], .row 4 [zBrA]]) (kwk_st [0, 1] rfl (by decide) ⟨⟨_, rfl, zdt⟩, ⟨_, rfl, .rowE (by repeat' (first | exact Lo.s _ | exact za2 | refine zax ?_ ?_ | refine zar ?_ | refine Lo.cells ?_ | refine Lo.agg _ ?_ | exact zak | refine zag ?_ ?_ | intro _)) rfl⟩, trivial⟩ ⟨.ptr 0 0 4 0 0 rfl, .ptr 1 1 4 0 0 rfl, .lo _ (.s _), .lo _ (.s _), .lo _ (hbr _ _ _ _), .lo _ (.s _), .lo _ (hbr _ _ _ _), trivial⟩) ?_
    refine kw_region (kops_s rfl (kops_s rfl (kops_w ta32 ti32 rfl (kops_w ta32 ti32 rfl (kops_op rfl rfl (zaa rfl) (does_lit rfl ts29 ti32 rfl rfl (by decide) (by decide) (by decide) rfl rfl) ?_)))))
    refine kops_weak (kwk_froz (id := 2) rfl) (kops_weak (kwk_sl (d := 160) rfl rfl rfl) ?_)
    refine kops_op rfl rfl (zaa rfl) (za6 rfl ti32 tp32 rfl rfl) (kops_s rfl (kops_eff rfl (zaa rfl) (zaj rfl ti32 rfl rfl rfl rfl rfl rfl (by decide) (by decide)) (kops_s rfl (kops_nil (zai ?_)))))
    have hLo2 : ∀ e ∈ [AV.agg [eI k, eI t, .sl [.agg [eI s1, eI t1, eL eBr L1, eL eF y1], .agg [eI s2, eI t2, eL eBr L2, eL eF y2]], .s (.slice none 0 0)]], ∀ c ∈ e.cells, Lo 0 c := by
     refine zax (.agg _ (zag (.s _) (zag (.s _) (zag (.sl _ (zag ?_ (zag ?_ zak))) (zag (.s _) zak))))) za2
     ·
      have := lo_Br (.mk s1 t1 L1 y1); rw [eBr_mk] at this; exact this
     ·
      have := lo_Br (.mk s2 t2 L2 y2); rw [eBr_mk] at this; exact this
    refine kw_weak (F' := [(4, .ptr 1 4 0 0), (5, eB ok2)]) (σ' := [.row 4 [pvA d l cost n2], .row 4 [.agg [eI k, eI t, .sl [.agg [eI s1, eI t1, eL eBr L1, eL eF y1], .agg [eI s2, eI t2, eL eBr L2, eL eF y2]], .s (.slice none 0 0)]]]) (kwk_st [0, 1] rfl (by decide) ⟨⟨_, rfl, zdt⟩, ⟨_, rfl, .rowE hLo2 rfl⟩, trivial⟩ ⟨.ptr 1 1 4 0 0 rfl, .lo _ (.s _), trivial⟩) ?_
    (refine kw_ret ?_; repeat (first | refine zbg ?_ | refine zbh ?_))
    subst HI
    exact ⟨.inr rfl, prv_res (st := pvA d l cost n2) (y := .agg [eI k, eI t, .sl [.agg [eI s1, eI t1, eL eBr L1, eL eF y1], .agg [eI s2, eI t2, eL eBr L2, eL eF y2]], .sl []]) rfl rfl (WnL.cons (.refl _) (WnL.cons (.refl _) (WnL.cons (.refl _) (WnL.cons .nil WnL.nil)))).agg (by dsimp only; rw [eBr_mk]; try simp only [eL, List.map_cons, List.map_nil, eBr_mk])⟩
end K1
end Go.Proofs.Ytllkbjcemecmjaa.Aw
end
section
namespace Go.Proofs.Ytllkbjcemecmjaa.Aw
open Go Go.RowKit Go.Proofs
variable {P : Program} [IsP P]
theorem pure_emp {f : FuncId} {r : AV} (h0 : Pure P f [.s (.slice none 0 0)] r) (h1 : ∀ a : Addr, a.spot = none → Pure P f [.s (.slice (some a) 0 0)] r) : Pure P f [.emp] r :=
 ⟨h0.ent, h0.lo, fun G vargs hs hsz hrep => by
  have hlt : 0 < vargs.size := by rw [hsz]; simp
  have g := hrep 0 vargs[0] .emp (by simp [hlt]) rfl
  have one : ∀ {x : AV}, Rep G vargs[0] x → ∀ (j : Nat) v y, vargs[j]? = some v → [x][j]? = some y → Rep G v y := by
   intro x hx j v y hv hy
   cases j with
   | zero => simp at hy; subst hy; rw [Array.getElem?_eq_getElem hlt] at hv; cases hv; exact hx
   | succ j => simp at hy
  generalize hv : vargs[0] = v0 at g
  cases g with
  | emp A hA =>
   cases A with
   | none => exact h0.call G vargs hs hsz (one (by rw [hv]; exact .s _))
   | some a => exact (h1 a (hA a rfl)).call G vargs hs hsz (one (by rw [hv]; exact .s _))⟩
section
variable {o : Oper} {F : Frm} {σ : List Ob}
theorem does_append_e {t e : TypeId} {s y : Operand} {z : Option Value} {sz bt : Nat} {a : Addr} (ho : o.op = .call { callee := .builtin .append, args := #[s, y], argTypes := #[t, t] })
  (ht : zbp P t = some e) (hi : zbl P e = some (z, sz, bt)) (hx : F.eval s = .emp) (hy : F.eval y = .s (.slice (some a) 0 0)) : Does P o F σ .emp σ :=
 zbx fun G ρ hr hop => by
  have g1 := hop s (by simp [ho, Op.operands, Call.operands])
  have g2 := hop y (by simp [ho, Op.operands, Call.operands])
  rw [hx] at g1
  rw [hy] at g2
  have g2 := rep_s g2
  generalize hv1 : ρ s = v1 at g1
  cases g1 with
  | emp B hB =>
   have hrun : (Builtin.append_ #[t, t] o.type #[.slice B 0 0, .slice (some a) 0 0]).run P G.w = .ok (.slice B 0 0) G.w := by
    have hf : (Builtin.firstCells sz 0 (.slice (some a) 0 0)).run P G.w = .ok #[] G.w := run_firstCells_some (P := P) G.w sz 0 a 0 0 [] (by simp) (by simp)
    cases B with
    | none => simp [Builtin.append_, run_underlying (zdn ht), zcd hi, Builtin.lenOf, hf]
    | some a => simp [Builtin.append_, run_underlying (zdn ht), zcd hi, Builtin.lenOf, hf, storeCells]
   refine ⟨.slice B 0 0, ?_, .emp B hB⟩
   simp only [execOp, ho, resolve, invoke, builtin, Sem.run_bind, Sem.run_pure, Result.andThen_ok, List.map_toArray, List.map_cons, List.map_nil, hv1, g2, hrun]
theorem does_eqsome {t t' e : TypeId} {x y : Operand} {a : Addr} (ho : o.op = .binOp .eql t x y t') (ht : zbp P t = some e) (hx : F.eval x = .s (.slice (some a) 0 0)) (hy : F.eval y = .s (.slice none 0 0)) : Does P o F σ (.s (.bool false)) σ :=
 zbx fun G ρ hr hop => by
  have g1 := hop x (by simp [ho, Op.operands])
  have g2 := hop y (by simp [ho, Op.operands])
  rw [hx] at g1
  rw [hy] at g2
  have g1 := rep_s g1
  have g2 := rep_s g2
  have := run_nil_cmp (P := P) ht x y (some a) 0 0 .eql G.w (r := false) (.inl ⟨rfl, rfl⟩)
  refine ⟨.bool false, ?_, .s _⟩
  rw [Sem.run_bind] at this
  simp only [execOp, ho, Sem.run_bind, g1, g2]
  exact this ▸ rfl
end
theorem rep_semp {G : Cx} {v : Value} (h : Rep G v (.s (.slice none 0 0))) : Rep G v .emp := by cases h; exact .emp none (fun a ha => by cases ha)
theorem wk_semp {N d : Nat} {F : Frm} {σ : List Ob} (hd : F.get d = .s (.slice none 0 0)) : Weak N F σ ((d, .emp) :: F) σ := fun G a h =>
 ⟨G, rfl, .refl G, h.rel, h.fr.more (rep_semp (by rw [← hd]; exact h.fr d)), h.df, h.nt⟩
theorem cloneE0_pf : Pure P 10 [.s (.slice none 0 0)] .emp := by
 refine zcu (by rw [IsP.eq (P := P)]; exact Try.func10) rfl rfl rfl rfl rfl (zag (.s _) zak) .emp (by simp only [argF]; rfl) ?_
 refine zah (zab (zac rfl (zae (zah (zah (zab (zac rfl (zaf rfl rfl (zaa rfl) (does_eqnil0 rfl ts22 rfl rfl (.inl ⟨rfl, rfl⟩)) (zae (zai (za7 rfl (zah (zab (zac rfl (zae (zai ?_))))))))))))))))
 refine zbi (wk_semp (d := 2) rfl) ?_
 (refine za8 ?_; repeat (first | refine zbg ?_ | refine zbh ?_))
 exact zcb (.inr rfl) rfl rfl
theorem cloneE1_pf (a : Addr) : Pure P 10 [.s (.slice (some a) 0 0)] .emp := by
 refine zcu (by rw [IsP.eq (P := P)]; exact Try.func10) rfl rfl rfl rfl rfl (zag (.s _) zak) .emp (by simp only [argF]; rfl) ?_
 refine zah (zab (zac rfl (zae (zah (zah (zab (zac rfl (zaf rfl rfl (zaa rfl) (does_eqsome (a := a) rfl ts22 rfl rfl) (zae (zai (za1 rfl (zat (zah (zab (zaf rfl rfl (zaa rfl) (does_lit0 rfl rfl ts22 ti3) (zac rfl (zaf rfl rfl (zaa rfl) (does_append_e (a := a) rfl ts22 ti3 rfl rfl) (zac rfl (zae (zai ?_))))))))))))))))))))
 (refine za8 ?_; repeat (first | refine zbg ?_ | refine zbh ?_))
 exact zcb (.inr rfl) rfl rfl
theorem cloneE_pf : Pure P 10 [.emp] .emp := pure_emp cloneE0_pf (fun a ha => cloneE1_pf a)
end Go.Proofs.Ytllkbjcemecmjaa.Aw
end
section
namespace Go.Proofs.Ytllkbjcemecmjaa.Aw
open Go Go.RowKit Go.Proofs
variable {P : Program} [IsP P]
theorem callE_emp {f : FuncId} {args : List AV} (hp : Pure P f args .emp) (sz : Nat) (σ : List Ob) : CallE P f args σ (.own σ.length sz 0) (σ ++ [.row sz []]) :=
 ⟨hp.ent, fun G vargs hr hsz hrep => (hp.call G vargs ⟨fun b o h => hr.st b o (.inl h), hr.below.now⟩ hsz hrep).mono (by
  rintro e w' ⟨v, G1, rfl, hw, hbel, hs1, hs2, hs3, hv⟩
  obtain ⟨h4, h5⟩ := after_call hr hw hbel hs1 hs2 hs3
  subst hw
  have k1 := nil_ext h5
  have k2 := nil_rel h5 sz
  cases hv with
  | emp A hA => exact ⟨_, ({ G with w := G1.w, St := G1.St } : Cx).new σ.length G1.w none, rfl, rfl, h4.trans k1, k2, .own0 σ.length sz A hA (by simp [Cx.new])⟩)⟩
theorem look_callb {o : Oper} {F : Frm} {σ : List Ob} {fo : Operand} {ar : Array Operand} {ts : Array TypeId} {f : FuncId} {caps args : List AV} {r : AV} {R : List Nat} (ho : o.op = .call { callee := .value fo, args := ar, argTypes := ts }) (hf : F.eval fo = .fn f caps) (hp : Pure P f args r)
  (ha : ∀ σ2 : List Ob, (∀ i ∈ R, σ2[i]? = σ[i]?) → zbb σ2 (ar.toList.map F.eval ++ caps) args) (hfl : Flat r) : ∀ σ2 : List Ob, (∀ i ∈ R, σ2[i]? = σ[i]?) → Does P o F σ2 r σ2 :=
 fun σ2 h => does_callb ho hf hp (ha σ2 h) hfl
def bstA : Option (List Int) → AV
 | none => .s (.slice none 0 0)
 | some c => eL eI c
def srA (d : List Int) (l : List Sft) (s : Option (List Int) × Int) : AV := .agg [eL eI d, eL eSh l, bstA s.1, eI s.2]
theorem lo_bst (b : Option (List Int)) : Lo 0 (bstA b) := by
 cases b with
 | none => exact .s _
 | some c => exact zan fun _ => .s _
theorem lo_srA {k : Nat} (d : List Int) (l : List Sft) (s : Option (List Int) × Int) : Lo k (srA d l s) := lo_up (.agg _ (zag (zan fun _ => .s _) (zag (zan lo_Sh) (zag (lo_bst _) (zag (.s _) zak)))))
theorem sr_ren {ρ : List Nat} {d : List Int} {l : List Sft} {s : Option (List Int) × Int} : ObRn ρ (.row 4 [srA d l s]) (.row 4 [srA d l s]) := .rowE (by
 intro e he c hc
 simp only [List.mem_singleton] at he
 subst he
 exact (lo_srA d l s).cells c hc) rfl
def tryE (d : List Int) (l : List Sft) : Nat → List Int → Int → Option (List Int) × Int → Option (List Int) × Int
 | 0, _, _, st => st
 | f + 1, c, sp, st =>
  if st.1.isSome = true ∧ st.2 ≤ sp then st else
  if 0 ≤ shE d l (c ++ (zb7 l).drop c.length) then st else
  if c.length = l.length then (some c, sp) else
  (List.range ((gti l c.length).most + 1).toNat).foldl (fun st (n : Nat) => tryE d l f (c ++ [(n : Int)]) (sp + n * (gti l c.length).cost) st) st
structure CN (l : List Sft) (c : List Int) : Prop where
 le : c.length ≤ l.length
 bd : ∀ k, k < c.length → 0 ≤ gti c k ∧ gti c k ≤ (gti l k).most
theorem gti_snoc {α : Type} [Inhabited α] {c : List α} {x : α} {k : Nat} : gti (c ++ [x]) k = if k < c.length then gti c k else if k = c.length then x else default := by
 unfold gti
 split
 ·
  rename_i h; rw [List.getElem?_append_left h]
 ·
  rename_i h
  rw [List.getElem?_append_right (by omega)]
  split
  ·
   rename_i e; rw [e, Nat.sub_self]; rfl
  ·
   obtain ⟨i, hi⟩ : ∃ i, k - c.length = i + 1 := ⟨k - c.length - 1, by omega⟩
   rw [hi]; rfl
theorem CN.snoc {l : List Sft} {c : List Int} {n : Nat} (h : CN l c) (hl : c.length < l.length) (hn : (n : Int) ≤ (gti l c.length).most) : CN l (c ++ [(n : Int)]) :=
 ⟨by simp; omega, fun k hk => by
  rw [gti_snoc]
  simp at hk
  by_cases e : k < c.length
  ·
   rw [if_pos e]; exact h.bd k e
  ·
   have e2 : k = c.length := by omega
   rw [if_neg e, if_pos e2, e2]; exact ⟨by omega, hn⟩⟩
theorem CN.okC {d : List Int} {l : List Sft} {c : List Int} (hv : zb6 d l = true) (h : CN l c) : okC l (c ++ (zb7 l).drop c.length) := by
 obtain ⟨⟨_, _, q3⟩, _, ql⟩ := zb0 hv
 have hle := h.le
 refine ⟨by simp [zb7]; omega, q3, fun k hk => ?_⟩
 have hm := (ql k hk).1
 by_cases e : k < c.length
 ·
  have := h.bd k e
  have e1 : gti (c ++ (zb7 l).drop c.length) k = gti c k := by unfold gti; rw [List.getElem?_append_left e]
  rw [e1]; omega
 ·
  have e1 : gti (c ++ (zb7 l).drop c.length) k = gti (zb7 l) k := by unfold gti; rw [List.getElem?_append_right (by omega), List.getElem?_drop, show c.length + (k - c.length) = k by omega]
  rw [e1, mostL_gti hk]; omega
def StO (l : List Sft) (st : Option (List Int) × Int) : Prop := (∀ b, st.1 = some b → b.length = l.length) ∧ 0 ≤ st.2 ∧ st.2 ≤ 240000
theorem tryE_ok {d : List Int} {l : List Sft} (hv : zb6 d l = true) : ∀ (f : Nat) (c : List Int) (sp : Int) (st : Option (List Int) × Int), CN l c → 0 ≤ sp → sp ≤ 20000 * c.length → StO l st → StO l (tryE d l f c sp st)
 | 0, c, sp, st, _, _, _, h => h
 | f + 1, c, sp, st, hc, h0, h1, h => by
  obtain ⟨⟨_, _, q3⟩, _, ql⟩ := zb0 hv
  have hle := hc.le
  unfold tryE
  split
  ·
   exact h
  ·
   split
   ·
    exact h
   ·
    split
    ·
     rename_i e
     exact ⟨fun b hb => by cases hb; exact e, h0, by omega⟩
    ·
     rename_i e
     have hlt : c.length < l.length := by omega
     have hm := (ql c.length hlt).1
     have key : ∀ N : Nat, (N : Int) ≤ (gti l c.length).most + 1 → StO l ((List.range N).foldl (fun st (n : Nat) => tryE d l f (c ++ [(n : Int)]) (sp + n * (gti l c.length).cost) st) st) := by
      intro N
      induction N with
      | zero => intro _; exact h
      | succ N ih =>
       intro hN
       rw [List.range_succ, List.foldl_append]
       have hmb := mul_bd (a := (gti l c.length).cost) (b := (N : Int)) (by omega) (by omega) (by omega) (by omega)
       rw [Int.mul_comm] at hmb
       exact tryE_ok hv f _ _ _ (hc.snoc hlt (by omega)) (by omega) (by simp; omega) (ih (by omega))
     exact key _ (by omega)
theorem sr_frame {f : FuncId} {r : AV} {d : List Int} {l : List Sft} {c : List Int} {sp : Int} {s s' : Option (List Int) × Int} (h : CallE P f [.ptr 0 4 0 0, eL eI c, eI sp] [.row 4 [srA d l s]] r [.row 4 [srA d l s']]) (X : List Ob) (hX : ∀ ob ∈ X, NoMp ob) : CallE P f [.ptr 0 4 0 0, eL eI c, eI sp] (.row 4 [srA d l s] :: X) r (.row 4 [srA d l s'] :: X) :=
 h.frame1 X hX trivial trivial (zag (.ptr _ _ _ _ (by decide)) (zag (lo_up (zan fun _ => .s _)) (zag (.s _) zak))) (by intro c hc; simp only [List.mem_singleton] at hc; subst hc; exact lo_srA _ _ _)
theorem nn_eL {c : List Int} (h : c ≠ []) : NonNil (eL eI c) := by
 cases c with
 | nil => exact absurd rfl h
 | cons x t => exact .sl _ _
theorem does_len_a {o : Oper} {F : Frm} {σ : List Ob} {c : List Int} {a : AV} {t e : TypeId} {x : Operand} (ha : (c = [] ∧ a = .emp) ∨ (c ≠ [] ∧ a = eL eI c)) (ho : o.op = .call { callee := .builtin .len, args := #[x], argTypes := #[t] }) (ht : zbp P t = some e) (hx : F.eval x = a) : Does P o F σ (eI (c.length : Nat)) σ := by
 rcases ha with ⟨rfl, rfl⟩ | ⟨_, rfl⟩
 ·
  exact does_len_emp ho ht hx
 ·
  exact zao ho ht hx
namespace K1
theorem try_res {F : Frm} {st : AV} {X : List Ob} : ∃ X' xs, Ob.row 4 [st] :: X = [Ob.row 4 [st]] ++ X' ∧ ResL P F (Ob.row 4 [st] :: X) [] xs ∧ Wn (oneOf xs) (.tup []) := ⟨X, [], rfl, .nil, .refl _⟩
set_option maxHeartbeats 16000000 in
theorem try_call (d : List Int) (l : List Sft) (hv : zb6 d l = true) : ∀ (f : Nat) (c : List Int) (a : AV) (sp : Int) (st : Option (List Int) × Int), l.length - c.length < f → CN l c → 0 ≤ sp → sp ≤ 20000 * c.length → StO l st → (st.1.isSome = true → l.length ≠ 0) → ((c = [] ∧ a = .emp) ∨ (c ≠ [] ∧ a = eL eI c)) →
  CallE P 26 [.ptr 0 4 0 0, a, eI sp] [.row 4 [srA d l st]] (.tup []) [.row 4 [srA d l (tryE d l f c sp st)]] := by
 intro f
 induction f with
 | zero => intro c a sp st h; omega
 | succ f IH =>
 intro c a sp st hm hc h0 h1 hst hne ha
 obtain ⟨⟨q1, q2, q3⟩, qd, ql⟩ := zb0 hv
 have hle := hc.le
 have hcl : ∀ σ, CallE P 10 [a] σ (.own σ.length 1 c.length) (σ ++ [.row 1 (c.map eI)]) := by
  intro σ
  rcases ha with ⟨rfl, rfl⟩ | ⟨h, rfl⟩
  ·
   exact callE_emp cloneE_pf 1 σ
  ·
   exact cloneI_call c (by cases c with | nil => exact absurd rfl h | cons x t => simp) (by omega) σ
 have hmo := most_pf (P := P) l q3
 have hsh := short_pf (P := P) d l (c ++ (zb7 l).drop c.length) hv (hc.okC hv)
 have hmll : (zb7 l).length = l.length := mostL_len l
 have hal := ha
 have hLoa : Lo 0 a := by
  rcases ha with ⟨_, rfl⟩ | ⟨_, rfl⟩
  ·
   exact .emp
  ·
   exact zan fun _ => .s _
 obtain ⟨b, cost⟩ := st
 obtain ⟨g1, g2, g3⟩ := hst
 dsimp only at g1 g2 g3 hne
 have HI : tryE d l (f + 1) c sp (b, cost) = tryE d l (f + 1) c sp (b, cost) := rfl
 conv at HI => rhs; unfold tryE
 dsimp only at HI
 generalize tryE d l (f + 1) c sp (b, cost) = R at HI ⊢
 generalize hsv : shE d l (c ++ (zb7 l).drop c.length) = sv at hsh HI
 refine callE_fnW rfl rfl (by intro ob h; simp only [List.mem_singleton] at h; subst h; intro c hc; simp only [List.mem_singleton] at hc; subst hc; exact lo_srA _ _ _) (.tup _ zak) (by rw [IsP.eq (P := P)]; exact Try.func26) rfl rfl (Nat.le_of_ble_eq_true rfl) ?_
 simp only [argF]
 have hsplit : (b = none) ∨ (∃ x, b = some x ∧ x ≠ []) := by
  cases b with
  | none => exact .inl rfl
  | some x =>
   refine .inr ⟨x, rfl, fun h => ?_⟩
   have h1 := g1 x rfl
   have h2 := hne rfl
   rw [h] at h1
   exact h2 h1.symm
 refine kw_seq (kw_seq ?_)
 by_cases hpr : b.isSome = true ∧ cost ≤ sp
 ·
  rcases hsplit with rfl | ⟨x, rfl, hxn⟩
  ·
   exact absurd hpr.1 (by simp)
  rw [if_pos hpr] at HI
  refine kw_region (kops_s rfl (kops_s rfl (kops_f tf66_2 rfl (kops_op rfl rfl (zaa rfl) (zap rfl ta22 rfl rfl rfl rfl rfl) (kops_op rfl rfl (zaa rfl) (does_eqnil rfl ts22 rfl (nn_eL hxn) rfl (.inr ⟨rfl, rfl⟩)) (kops_s rfl (kops_s rfl (kops_s rfl (kops_s rfl (kops_f tf66_3 rfl (kops_op rfl rfl (zas rfl rfl rfl) (zap rfl ta3 rfl rfl rfl rfl rfl) (kops_op rfl rfl (zas rfl rfl rfl) (zds hpr.2 (zcz rfl rfl rfl)) (kops_s rfl (kops_nil (zai (kw_true rfl ?_))))))))))))))))
  subst HI
  (refine kw_ret ?_; repeat (first | refine zbg ?_ | refine zbh ?_))
  exact ⟨.inr rfl, try_res⟩
 rw [if_neg hpr] at HI
 refine kw_join [(0, .ptr 0 4 0 0), (1, a), (2, eI sp)] [.row 4 [srA d l (b, cost)]] ?_ ?_
 ·
  rcases hsplit with rfl | ⟨x, rfl, hxn⟩
  ·
   refine kw_region (kops_s rfl (kops_s rfl (kops_f tf66_2 rfl (kops_op rfl rfl (zaa rfl) (zap rfl ta22 rfl rfl rfl rfl rfl) (kops_op rfl rfl (zaa rfl) (does_eqnil0 rfl ts22 rfl rfl (.inr ⟨rfl, rfl⟩)) (kops_s rfl (kops_z rfl (kops_z rfl (kops_z rfl (kops_z rfl (kops_z rfl (kops_z rfl (kops_s rfl (kops_nil (zai (kw_false rfl (kw_skip (zai ?_))))))))))))))))))
   exact kwk_st [0] rfl (by decide) ⟨⟨_, rfl, sr_ren⟩, trivial⟩ ⟨.ptr 0 0 4 0 0 rfl, .lo _ hLoa, .lo _ (.s _), trivial⟩
  ·
   have hns : ¬ cost ≤ sp := fun h => hpr ⟨rfl, h⟩
   refine kw_region (kops_s rfl (kops_s rfl (kops_f tf66_2 rfl (kops_op rfl rfl (zaa rfl) (zap rfl ta22 rfl rfl rfl rfl rfl) (kops_op rfl rfl (zaa rfl) (does_eqnil rfl ts22 rfl (nn_eL hxn) rfl (.inr ⟨rfl, rfl⟩)) (kops_s rfl (kops_s rfl (kops_s rfl (kops_s rfl (kops_f tf66_3 rfl (kops_op rfl rfl (zas rfl rfl rfl) (zap rfl ta3 rfl rfl rfl rfl rfl) (kops_op rfl rfl (zas rfl rfl rfl) (dec_f hns (zcz rfl rfl rfl)) (kops_s rfl (kops_nil (zai (kw_false rfl (kw_skip (zai ?_))))))))))))))))))
   exact kwk_st [0] rfl (by decide) ⟨⟨_, rfl, sr_ren⟩, trivial⟩ ⟨.ptr 0 0 4 0 0 rfl, .lo _ hLoa, .lo _ (.s _), trivial⟩
 have hst : StO l (b, cost) := ⟨g1, g2, g3⟩
 generalize ((b, cost) : Option (List Int) × Int) = st at HI hst
 refine kw_seq (kw_region (kops_op rfl rfl (zaa rfl) (does_mv (.inl rfl) (rfl : _ = a)) (kops_op rfl rfl (zaa rfl) (does_len_a hal rfl ts22 rfl) (kops_s rfl (kops_nil (kw_seq (kw_seq ?_)))))))
 have e2 : eL eI (c ++ (zb7 l).drop c.length) = .sl (c.map eI ++ ((zb7 l).map eI).drop c.length) := by simp [eL]
 refine kw_draw hmix ?_
 refine kdraw_ex ?_
 refine ex_s rfl (ex_s rfl (ex_f tf66_0 rfl (zbt rfl rfl (zaa rfl) (zbn rfl ta22 rfl rfl rfl rfl rfl) (ex_s rfl (ex_s rfl (ex_f tf66_1 rfl (zbt rfl rfl (zaa rfl) (zbn rfl ta23 rfl rfl rfl rfl rfl) (zaz rfl rfl (zaa rfl) (fun _ => (does_mv (.inl rfl) (rfl : _ = a))) ?_))))))))
 refine zdh rfl rfl (zaa rfl) ((zbo rfl rfl (hcl _) (zad rfl zaq))) (fun _ h => zdr h) ?_
 refine ex_s rfl (ex_s rfl (ex_f tf66_1 rfl (zbt rfl rfl (zaa rfl) (zbn rfl ta23 rfl rfl rfl rfl rfl) (zaz rfl rfl (zaa rfl) (fun _ => (zam rfl rfl (hmo) (zad rfl zaq))) (ex_s rfl ?_)))))
 refine zaz rfl rfl (zaa rfl) (fun _ => (does_slice_l rfl ts22 ti3 rfl rfl rfl (by first | (simp [hmll]; done) | (simp [hmll]; omega)) (by intro e he; simp at he; obtain ⟨_, _, rfl⟩ := he; rfl))) ?_
 refine zdh rfl rfl (zaa rfl) (zbm rfl ts22 ti3 rfl (by decide) rfl rfl (by simp) rfl (.sl _ (by intro e he; have he := List.mem_of_mem_drop he; simp at he; obtain ⟨_, _, rfl⟩ := he; rfl)) (by unfold maxLen; first | (simp [hmll]; done) | (simp [hmll]; omega)) (by first | (simp [hmll]; done) | (simp [hmll]; omega))) (fun _ h => zcp h) ?_
 refine zbt (R := [2]) rfl rfl (zaa rfl) (look_callb rfl rfl hsh (fun σ2 h => zbb.cons (.refl _) (zbb.cons (.refl _) (zbb.cons (by rw [e2]; exact .own _ _ _ _ _ ((h 2 (by simp)).trans rfl) rfl (by simp [hmll])) zbb.nil))) (by repeat' (first | exact Flat.s _ | exact flat_nil | refine flat_cons ?_ ?_ | refine Flat.agg ?_ | refine Flat.tup ?_))) ?_
 refine ex_s rfl ?_
 refine zcc (by kernel_rfl) ?_
 refine kw_seq ?_
 refine kw_weak (F' := [(0, .ptr 0 4 0 0), (1, a), (2, eI sp), (6, eI (c.length : Nat)), (7, eI sv)]) (σ' := [.row 4 [srA d l st]]) (kwk_st [0] rfl (by decide) ⟨⟨_, rfl, sr_ren⟩, trivial⟩ ⟨.ptr 0 0 4 0 0 rfl, .lo _ hLoa, .lo _ (.s _), .lo _ (.s _), .lo _ (.s _), trivial⟩) ?_
 refine kw_region (kops_s rfl ?_)
 refine kops_opP rfl rfl (zaa rfl) (zcz rfl rfl rfl) (fun h44 => ?_) (fun h44 => ?_)
 all_goals refine kops_nil (zai ?_)
 all_goals (first | refine kw_true rfl ?_ | refine kw_false rfl ?_)
 all_goals (repeat (first | refine kw_seq ?_ | refine kw_skip ?_))
 ·
  rw [if_pos h44] at HI
  subst HI
  (refine kw_ret ?_; repeat (first | refine zbg ?_ | refine zbh ?_))
  exact ⟨.inr rfl, try_res⟩
 rw [if_neg h44] at HI
 refine kw_region (kops_s rfl (kops_s rfl (kops_s rfl (kops_f tf66_1 rfl (kops_op rfl rfl (zaa rfl) (zap rfl ta23 rfl rfl rfl rfl rfl) (kops_op rfl rfl (zaa rfl) (zao rfl ts23 rfl) ?_))))))
 refine kops_opP rfl rfl (zaa rfl) (zbk rfl rfl rfl) (fun h51 => ?_) (fun h51 => ?_)
 all_goals refine kops_nil (zai ?_)
 all_goals (first | refine kw_true rfl ?_ | refine kw_false rfl ?_)
 all_goals (repeat (first | refine kw_seq ?_ | refine kw_skip ?_))
 ·
  rw [if_pos (Int.ofNat_inj.1 h51)] at HI
  subst HI
  have e5 : .sl (c.map eI) = bstA (some c) := rfl
  refine kw_region (kops_s rfl (kops_s rfl (kops_op rfl rfl (zaa rfl) (does_mv (.inl rfl) (rfl : _ = a)) (kops_op rfl rfl (zaa rfl) (zbo rfl rfl (hcl _) (zad rfl zaq)) ?_))))
  refine kops_weak (kwk_froz (id := 1) rfl) (kops_weak (kwk_sl (d := 55) rfl rfl (by simp)) ?_)
  refine kops_s rfl (kops_s rfl (kops_f tf66_2 rfl (kops_eff rfl (zaa rfl) (zaj rfl ti22 rfl rfl rfl rfl rfl rfl (by decide) (by decide)) (kops_s rfl (kops_f tf66_3 rfl (kops_eff rfl (zaa rfl) (zaj rfl ti3 rfl rfl rfl rfl rfl rfl (by decide) (by decide)) (kops_nil (zai ?_))))))))
  (refine kw_ret ?_; repeat (first | refine zbg ?_ | refine zbh ?_))
  exact ⟨.inr rfl, try_res (st := srA d l (some c, sp))⟩
 have hlt : c.length < l.length := Nat.lt_of_le_of_ne hle (fun h => h51 (Int.ofNat_inj.2 h))
 rw [if_neg (Nat.ne_of_lt hlt)] at HI
 have hmm := (ql c.length hlt).1
 have hxl : (l.map eSh)[c.length]? = some (eSh (gti l c.length)) := zbd hlt
 refine kw_region (kops_s rfl (kops_s rfl (kops_f tf66_1 rfl (kops_op rfl rfl (zaa rfl) (zap rfl ta23 rfl rfl rfl rfl rfl) (kops_s rfl (kops_op rfl rfl (zaa rfl) (zal rfl ts23 ti39 rfl rfl rfl hxl rfl) (kops_f tf39_2 rfl (kops_l ta3 rfl (kops_op rfl rfl (zaa rfl) (zav rfl rfl rfl (IntWalk.i64_in _ (by omega))) (kops_s rfl (kops_nil (zai (kw_block ?_)))))))))))))
 have FO : ∀ i : Nat, (List.range (i + 1)).foldl (fun st (n : Nat) => tryE d l f (c ++ [(n : Int)]) (sp + n * (gti l c.length).cost) st) st = tryE d l f (c ++ [(i : Int)]) (sp + i * (gti l c.length).cost) ((List.range i).foldl (fun st (n : Nat) => tryE d l f (c ++ [(n : Int)]) (sp + n * (gti l c.length).cost) st) st) := fun i => by rw [List.range_succ, List.foldl_append]; rfl
 have F0 : (List.range 0).foldl (fun st (n : Nat) => tryE d l f (c ++ [(n : Int)]) (sp + n * (gti l c.length).cost) st) st = st := rfl
 generalize hGF : (fun i : Nat => (List.range i).foldl (fun st (n : Nat) => tryE d l f (c ++ [(n : Int)]) (sp + n * (gti l c.length).cost) st) st) = GF
 have FO2 : ∀ i, GF (i + 1) = tryE d l f (c ++ [(i : Int)]) (sp + i * (gti l c.length).cost) (GF i) := fun i => by rw [← hGF]; exact FO i
 have F02 : GF 0 = st := by rw [← hGF]; rfl
 have HI2 : R = GF ((gti l c.length).most + 1).toNat := by rw [HI, ← hGF]
 clear HI FO F0 hGF
 refine kw_loops (S := Nat) (fun i => [(0, .ptr 0 4 0 0), (1, a), (2, eI sp), (6, eI (c.length : Nat)), (69, eI ((gti l c.length).most + 1)), (70, eI i)]) (fun i => [.row 4 [srA d l (GF i)]]) (fun i => (i : Int) ≤ (gti l c.length).most + 1 ∧ StO l (GF i)) (fun i => ((gti l c.length).most + 1 - i).toNat) 0
  (kwk_st [0] rfl (by decide) ⟨⟨_, rfl, by rw [F02]; exact sr_ren⟩, trivial⟩ ⟨.ptr 0 0 4 0 0 rfl, .lo _ hLoa, .lo _ (.s _), .lo _ (.s _), .lo _ (.s _), .lo _ (.s _), trivial⟩) ⟨by omega, by rw [F02]; exact hst⟩ (fun i hi => ?_)
 obtain ⟨hi, hsi⟩ := hi
 refine kw_seq (kw_region ?_)
 refine kops_opP rfl rfl (zaa rfl) (za4 rfl rfl rfl) (fun h71 => ?_) (fun h71 => ?_)
 all_goals refine kops_nil (kw_seq ?_)
 all_goals (first | refine kw_true rfl ?_ | refine kw_false rfl ?_)
 all_goals (repeat (first | refine kw_seq ?_ | refine kw_skip ?_ | refine kw_block ?_))
 ·
  have hmb := mul_bd (a := (gti l c.length).cost) (b := (i : Int)) (by omega) (by omega) (by omega) (by omega)
  rw [Int.mul_comm] at hmb
  have hsp : 0 ≤ sp + i * (gti l c.length).cost ∧ sp + i * (gti l c.length).cost ≤ 20000 * ((c ++ [(i : Int)]).length : Nat) := by
   have hz : (c ++ [(i : Int)]).length = c.length + 1 := by simp
   rw [hz]; omega
  have hT := IH (c ++ [(i : Int)]) (eL eI (c ++ [(i : Int)])) (sp + i * (gti l c.length).cost) (GF i) (by simp at hm ⊢; omega) (hc.snoc hlt (by omega)) hsp.1 hsp.2 hsi (fun _ => by omega) (.inr ⟨by simp, rfl⟩)
  rw [← FO2 i] at hT
  have hsn : StO l (GF (i + 1)) := by rw [FO2 i]; exact tryE_ok hv f _ _ _ (hc.snoc hlt (by omega)) hsp.1 hsp.2 hsi
  replace hT := sr_frame hT [.dead, .fz 1 (c.map eI ++ [eI i])] (noMp1 _ rfl)
  have hcs : AV.sl (c.map eI ++ [eI i]) = eL eI (c ++ [(i : Int)]) := by simp [eL]
  refine kw_region (kops_s rfl (kops_s rfl (kops_nil (zai ?_))))
  refine kw_draw hmix ?_
  refine kdraw_ex ?_
  refine ex_s rfl (zaz rfl rfl (zaa rfl) (fun _ => (does_mv (.inl rfl) (rfl : _ = a))) ?_)
  refine zdh rfl rfl (zaa rfl) ((zbo rfl rfl (hcl _) (zad rfl zaq))) (fun _ h => zdr h) ?_
  refine ex_s rfl (zaz rfl rfl (zaa rfl) (fun _ => (lit1_sF rfl ts22 ti3 rfl rfl rfl rfl)) ?_)
  refine zdh rfl rfl (zaa rfl) (zbm rfl ts22 ti3 rfl (by decide) rfl rfl (by simp) rfl (.sl _ (by intro e he; simp at he; subst he; rfl)) (by unfold maxLen; first | (simp; done) | (simp; omega)) (by first | (simp; done) | (simp; omega))) (fun _ h => zcp h) ?_
  refine ex_s rfl (ex_s rfl (ex_s rfl (ex_s rfl (ex_f tf66_1 rfl (zbt rfl rfl (zaa rfl) (zbn rfl ta23 rfl rfl rfl rfl rfl) (ex_s rfl (zaz rfl rfl (zaa rfl) (fun _ => (zal rfl ts23 ti39 rfl rfl rfl hxl rfl)) (ex_f tf39_1 rfl (ex_l ta3 rfl (zaz rfl rfl (zaa rfl) (fun _ => (does_mul rfl rfl rfl (IntWalk.i64_in _ (by omega)))) (zaz rfl rfl (zaa rfl) (fun _ => (zav rfl rfl rfl (IntWalk.i64_in _ (by omega)))) ?_)))))))))))
  refine zdh (W := [0, 2]) rfl rfl (zaa rfl) (does_froz (d := 78) (id := 2) rfl rfl (by simp) (zbo rfl rfl hT (zad rfl (zad (Eq.trans rfl hcs) (zad rfl zaq))))) (fun id h => by match id, h with | 0, h => simp at h | 1, _ => rfl | 2, h => simp at h | (n+3), _ => rfl) ?_
  refine zcc (by kernel_rfl) ?_
  refine zbu (zai (kw_region (kops_op rfl rfl (zaa rfl) (zav rfl rfl rfl (IntWalk.i64_in _ (by omega))) (kops_s rfl (kops_nil (zai ?_))))))
  exact ⟨i + 1, ⟨by omega, hsn⟩, by omega, kwk_st [0] rfl (by decide) ⟨⟨_, rfl, sr_ren⟩, trivial⟩ ⟨.ptr 0 0 4 0 0 rfl, .lo _ hLoa, .lo _ (.s _), .lo _ (.s _), .lo _ (.s _), .lo _ (.s _), trivial⟩⟩
 ·
  have ei : i = ((gti l c.length).most + 1).toNat := by omega
  subst ei
  rw [← HI2]
  (refine kw_exit ?_; repeat (first | refine zc3 ?_ | refine zb2 ?_ | refine zbq rfl ?_ | refine zbu ?_ | refine zai ?_ | refine kw_seq ?_ | refine kw_skip ?_ | refine kw_block ?_))
  exact ⟨.inl rfl, try_res⟩
end K1
end Go.Proofs.Ytllkbjcemecmjaa.Aw
end
section
namespace Go.Proofs.Ytllkbjcemecmjaa.Aw
def allC : List Sft → List (List Int)
 | [] => [[]]
 | s :: l => (List.range (s.most + 1).toNat).flatMap fun (n : Nat) => (allC l).map fun e => (n : Int) :: e
def upd (d : List Int) (l : List Sft) (st : Option (List Int) × Int) (c : List Int) : Option (List Int) × Int :=
 if shE d l c < 0 ∧ (st.1 = none ∨ prcP l c l.length < st.2) then (some c, prcP l c l.length) else st
theorem mem_allC : ∀ (l : List Sft) (c : List Int), c ∈ allC l ↔ c.length = l.length ∧ ∀ k, k < l.length → 0 ≤ gti c k ∧ gti c k ≤ (gti l k).most
 | [], c => by
  simp only [allC, List.mem_singleton]
  constructor
  ·
   rintro rfl; exact ⟨rfl, fun k hk => by simp at hk⟩
  ·
   rintro ⟨h, _⟩; exact List.length_eq_zero_iff.1 h
 | s :: l, c => by
  simp only [allC, List.mem_flatMap, List.mem_map, List.mem_range]
  constructor
  ·
   rintro ⟨n, hn, e, he, rfl⟩
   obtain ⟨h1, h2⟩ := (mem_allC l e).1 he
   refine ⟨by simp [h1], fun k hk => ?_⟩
   cases k with
   | zero => rw [gti_zero, gti_zero]; omega
   | succ k => rw [gti_succ, gti_succ]; exact h2 k (by simpa using hk)
  ·
   rintro ⟨h1, h2⟩
   cases c with
   | nil => simp at h1
   | cons x e =>
    have h0 := h2 0 (by simp)
    rw [gti_zero, gti_zero] at h0
    refine ⟨x.toNat, by omega, e, (mem_allC l e).2 ⟨by simpa using h1, fun k hk => ?_⟩, ?_⟩
    ·
     have := h2 (k + 1) (by simp; omega)
     rwa [gti_succ, gti_succ] at this
    ·
     rw [Int.toNat_of_nonneg h0.1]
theorem cntB_allC {l : List Sft} {c : List Int} : cntB l c = true ↔ c ∈ allC l := by
 rw [mem_allC]
 constructor
 ·
  exact fun h => cntB_iff h
 ·
  rintro ⟨h1, h2⟩
  unfold cntB
  rw [Bool.and_eq_true, decide_eq_true_eq]
  refine ⟨h1, List.all_eq_true.2 fun k hk => ?_⟩
  rw [List.mem_range] at hk
  rw [decide_eq_true_eq]
  exact h2 k (by omega)
theorem foldl_same {α β : Type} {f : β → α → β} {b : β} : ∀ {l : List α}, (∀ x ∈ l, f b x = b) → l.foldl f b = b
 | [], _ => rfl
 | x :: l, h => by
  rw [List.foldl_cons, h x (by simp)]
  exact foldl_same fun y hy => h y (by simp [hy])
theorem gti_app1 {c e : List Int} {k : Nat} (h : k < c.length) : gti (c ++ e) k = gti c k := by unfold gti; rw [List.getElem?_append_left h]
theorem gti_app2 {c e : List Int} {k : Nat} (h : c.length ≤ k) : gti (c ++ e) k = gti e (k - c.length) := by unfold gti; rw [List.getElem?_append_right h]
theorem gti_dropS {α : Type} [Inhabited α] {l : List α} {k j : Nat} : gti (l.drop k) j = gti l (k + j) := by unfold gti; rw [List.getElem?_drop]
theorem prcP_pre {l : List Sft} {c e : List Int} : ∀ n, n ≤ c.length → prcP l (c ++ e) n = prcP l c n
 | 0, _ => rfl
 | n + 1, h => by
  show prcP l (c ++ e) n + (gti l n).cost * gti (c ++ e) n = prcP l c n + (gti l n).cost * gti c n
  rw [prcP_pre n (by omega), gti_app1 (by omega)]
theorem prcP_mono {d : List Int} {l : List Sft} (hv : zb6 d l = true) {c : List Int} (h0 : ∀ k, k < l.length → 0 ≤ gti c k) : ∀ n m, n ≤ m → m ≤ l.length → prcP l c n ≤ prcP l c m
 | n, 0, h, _ => by rw [Nat.le_zero.1 h]; exact Int.le_refl _
 | n, m + 1, h, hm => by
  by_cases e : n = m + 1
  ·
   rw [e]; exact Int.le_refl _
  ·
   have h1 := prcP_mono hv h0 n m (by omega) (by omega)
   have h2 := Int.mul_nonneg ((zb0 hv).2.2 m (by omega)).1.2.1 (h0 m (by omega))
   show prcP l c n ≤ prcP l c m + (gti l m).cost * gti c m
   omega
theorem cvP_mono {l : List Sft} {c c' : List Int} (h : ∀ k, k < l.length → gti c k ≤ gti c' k) (p : Nat) : ∀ n, n ≤ l.length → cvP l c n p ≤ cvP l c' n p
 | 0, _ => Int.le_refl _
 | n + 1, hn => by
  have h1 := cvP_mono h p n (by omega)
  have h2 := h n (by omega)
  show cvP l c n p + _ ≤ cvP l c' n p + _
  split <;> omega
theorem shF_mono {d : List Int} {l : List Sft} {c c' : List Int} (h : ∀ p, cvP l c l.length p ≤ cvP l c' l.length p) : ∀ n k, shF d l c n k < 0 → shF d l c' n k < 0
 | 0, k, _ => by rw [shF]; decide
 | n + 1, k, h1 => by
  rw [shF] at h1 ⊢
  split at h1
  ·
   omega
  ·
   rename_i h2
   have := h k
   rw [if_neg (by omega)]
   exact shF_mono h n (k + 1) h1
theorem shE_mono {d : List Int} {l : List Sft} {c c' : List Int} (h : ∀ k, k < l.length → gti c k ≤ gti c' k) (h1 : shE d l c < 0) : shE d l c' < 0 :=
 shF_mono (fun p => cvP_mono h p l.length (Nat.le_refl _)) d.length 0 h1
theorem drop_cons {l : List Sft} {k : Nat} (h : k < l.length) : l.drop k = gti l k :: l.drop (k + 1) := by
 rw [List.drop_eq_getElem_cons h]
 have := zdp (l := l) h
 rw [List.getElem?_eq_getElem h] at this
 rw [Option.some.inj this]
theorem tryE_fold {d : List Int} {l : List Sft} (hv : zb6 d l = true) : ∀ (f : Nat) (c : List Int) (sp : Int) (st : Option (List Int) × Int), l.length - c.length < f → CN l c → sp = prcP l c c.length →
  tryE d l f c sp st = ((allC (l.drop c.length)).map fun e => c ++ e).foldl (upd d l) st
 | 0, c, sp, st, h, _, _ => by omega
 | f + 1, c, sp, st, hf, hc, hsp => by
  have hle := hc.le
  have hcomp : ∀ x ∈ (allC (l.drop c.length)).map (fun e => c ++ e), x.length = l.length ∧ (∀ k, k < l.length → 0 ≤ gti x k ∧ gti x k ≤ gti (c ++ (zb7 l).drop c.length) k) ∧ sp ≤ prcP l x l.length := by
   intro x hx
   obtain ⟨e, he, rfl⟩ := List.mem_map.1 hx
   obtain ⟨h1, h2⟩ := (mem_allC _ e).1 he
   rw [List.length_drop] at h1
   have hb : ∀ k, k < l.length → 0 ≤ gti (c ++ e) k ∧ gti (c ++ e) k ≤ gti (c ++ (zb7 l).drop c.length) k := fun k hk => by
    by_cases hkc : k < c.length
    ·
     rw [gti_app1 hkc, gti_app1 hkc]; exact ⟨(hc.bd k hkc).1, Int.le_refl _⟩
    ·
     have h3 := h2 (k - c.length) (by rw [List.length_drop]; omega)
     rw [gti_dropS, show c.length + (k - c.length) = k by omega] at h3
     rw [gti_app2 (by omega), gti_app2 (by omega), gti_dropS, show c.length + (k - c.length) = k by omega, mostL_gti hk]
     exact h3
   refine ⟨by rw [List.length_append, h1]; omega, hb, ?_⟩
   rw [hsp, ← prcP_pre (e := e) c.length (Nat.le_refl _)]
   exact prcP_mono hv (fun k hk => (hb k hk).1) _ _ hle (Nat.le_refl _)
  unfold tryE
  split
  ·
   rename_i h
   refine (foldl_same fun x hx => ?_).symm
   have h1 := (hcomp x hx).2.2
   unfold upd
   rw [if_neg]
   rintro ⟨_, h2 | h2⟩
   ·
    rw [h2] at h; simp at h
   ·
    omega
  ·
   rename_i hp
   split
   ·
    rename_i h
    refine (foldl_same fun x hx => ?_).symm
    unfold upd
    rw [if_neg]
    rintro ⟨h2, _⟩
    have := shE_mono (fun k hk => ((hcomp x hx).2.1 k hk).2) h2
    omega
   ·
    rename_i h
    split
    ·
     rename_i e
     rw [e, List.drop_length]
     have hd : (zb7 l).drop c.length = [] := by rw [e]; exact List.drop_of_length_le (by rw [mostL_len]; exact Nat.le_refl _)
     rw [hd, List.append_nil] at h
     simp only [allC, List.map_cons, List.map_nil, List.append_nil, List.foldl_cons, List.foldl_nil]
     rw [e] at hsp
     unfold upd
     rw [if_pos, hsp]
     refine ⟨by omega, ?_⟩
     cases hs : st.1 with
     | none => exact .inl rfl
     | some b =>
      right
      have : ¬ (st.2 ≤ sp) := fun h2 => hp ⟨by rw [hs]; rfl, h2⟩
      omega
    ·
     rename_i e
     have hlt : c.length < l.length := by omega
     rw [drop_cons hlt]
     simp only [allC, List.map_flatMap, List.map_map, List.foldl_flatMap]
     have key : ∀ (N : List Nat) (st : Option (List Int) × Int), (∀ n ∈ N, (n : Int) ≤ (gti l c.length).most) → N.foldl (fun st (n : Nat) => tryE d l f (c ++ [(n : Int)]) (sp + n * (gti l c.length).cost) st) st = N.foldl (fun st (n : Nat) => ((allC (l.drop (c.length + 1))).map ((fun e => c ++ e) ∘ fun e => (n : Int) :: e)).foldl (upd d l) st) st := by
      intro N
      induction N with
      | nil => intro st _; rfl
      | cons n N ih =>
       intro st hN
       rw [List.foldl_cons, List.foldl_cons]
       have hn := hN n (by simp)
       rw [tryE_fold hv f (c ++ [(n : Int)]) _ st (by simp; omega) (hc.snoc hlt hn) (by
        rw [List.length_append]
        show _ = prcP l (c ++ [(n : Int)]) c.length + (gti l c.length).cost * gti (c ++ [(n : Int)]) c.length
        rw [prcP_pre _ (Nat.le_refl _), gti_app2 (Nat.le_refl _), Nat.sub_self, gti_zero, hsp, Int.mul_comm])]
       rw [ih _ (fun m hm => hN m (by simp [hm]))]
       have e1 : (c ++ [(n : Int)]).length = c.length + 1 := by simp
       have e2 : (fun e => c ++ [(n : Int)] ++ e) = ((fun e => c ++ e) ∘ fun e => (n : Int) :: e) := by
        funext e
        simp
       rw [e1, e2]
     exact key _ st (fun n hn => by rw [List.mem_range] at hn; omega)
def FoldR (d : List Int) (l : List Sft) (L : List (List Int)) (r : Option (List Int) × Int) : Prop :=
 match r.1 with
 | none => ∀ c ∈ L, ¬ shE d l c < 0
 | some b => b ∈ L ∧ shE d l b < 0 ∧ r.2 = prcP l b l.length ∧ ∀ c ∈ L, shE d l c < 0 → r.2 ≤ prcP l c l.length
theorem fold_ok (d : List Int) (l : List Sft) : ∀ (L M : List (List Int)) (st : Option (List Int) × Int), FoldR d l M st → FoldR d l (M ++ L) (L.foldl (upd d l) st)
 | [], M, st, h => by rw [List.append_nil]; exact h
 | c :: L, M, st, h => by
  rw [List.foldl_cons]
  have h1 : FoldR d l (M ++ [c]) (upd d l st c) := by
   unfold upd
   split
   ·
    rename_i hc
    refine ⟨by simp, hc.1, rfl, fun x hx hs => ?_⟩
    simp only [List.mem_append, List.mem_singleton] at hx
    rcases hx with hx | rfl
    ·
     unfold FoldR at h
     cases hb : st.1 with
     | none => rw [hb] at h; exact absurd hs (h x hx)
     | some b =>
      rw [hb] at h
      rcases hc.2 with h2 | h2
      ·
       rw [hb] at h2; cases h2
      ·
       have := h.2.2.2 x hx hs
       show prcP l c l.length ≤ _
       omega
    ·
     exact Int.le_refl _
   ·
    rename_i hc
    unfold FoldR at h ⊢
    cases hb : st.1 with
    | none =>
     rw [hb] at h hc
     intro x hx
     simp only [List.mem_append, List.mem_singleton] at hx
     rcases hx with hx | rfl
     ·
      exact h x hx
     ·
      exact fun hs => hc ⟨hs, .inl rfl⟩
    | some b =>
     rw [hb] at h hc
     obtain ⟨g1, g2, g3, g4⟩ := h
     refine ⟨by simp [g1], g2, g3, fun x hx hs => ?_⟩
     simp only [List.mem_append, List.mem_singleton] at hx
     rcases hx with hx | rfl
     ·
      exact g4 x hx hs
     ·
      have : ¬ prcP l x l.length < st.2 := fun h => hc ⟨hs, .inr h⟩
      omega
  have := fold_ok d l L (M ++ [c]) _ h1
  rwa [List.append_assoc] at this
def srcE (d : List Int) (l : List Sft) : Option (List Int) × Int := tryE d l (l.length + 1) [] 0 (none, 0)
theorem CN.nil {l : List Sft} : CN l [] := ⟨Nat.zero_le _, fun k hk => by simp at hk⟩
theorem srcE_fold {d : List Int} {l : List Sft} (hv : zb6 d l = true) : srcE d l = (allC l).foldl (upd d l) (none, 0) := by
 unfold srcE
 rw [tryE_fold hv (l.length + 1) [] 0 (none, 0) (by simp) CN.nil rfl]
 congr 1
 show (allC (l.drop 0)).map (fun e => [] ++ e) = allC l
 simp
theorem srcE_ok {d : List Int} {l : List Sft} (hv : zb6 d l = true) : FoldR d l (allC l) (srcE d l) := by
 rw [srcE_fold hv]
 exact fold_ok d l (allC l) [] (none, 0) (fun c hc => by simp at hc)
theorem mostL_allC {d : List Int} {l : List Sft} (hv : zb6 d l = true) : zb7 l ∈ allC l := by
 rw [mem_allC]
 refine ⟨mostL_len l, fun k hk => ?_⟩
 rw [mostL_gti hk]
 have := ((zb0 hv).2.2 k hk).1
 omega
theorem srcE_some {d : List Int} {l : List Sft} (hv : zb6 d l = true) (h : shE d l (zb7 l) < 0) : ∃ c, (srcE d l).1 = some c := by
 have h1 := srcE_ok hv
 unfold FoldR at h1
 cases hs : (srcE d l).1 with
 | none => rw [hs] at h1; exact absurd h (h1 _ (mostL_allC hv))
 | some c => exact ⟨c, rfl⟩
theorem srcE_StO {d : List Int} {l : List Sft} (hv : zb6 d l = true) : StO l (srcE d l) := tryE_ok hv _ _ _ _ CN.nil (Int.le_refl _) (by simp) ⟨fun b hb => (by cases hb), by show (0 : Int) ≤ 0; decide, by show (0 : Int) ≤ 240000; decide⟩
def prodF (l : List Sft) : Nat → Int
 | 0 => 1
 | i + 1 => prodF l i * ((gti l i).most + 1)
def numF (l : List Sft) (L : Int) : Nat → Int
 | 0 => 1
 | i + 1 => min (L + 1) (numF l L i * ((gti l i).most + 1))
def allF (l : List Sft) : Nat → Int
 | 0 => 1
 | i + 1 => min (allF l i * ((gti l i).most + 1)) 1048577
theorem prodF_pos {l : List Sft} (h : ∀ k, k < l.length → 0 ≤ (gti l k).most) : ∀ i, i ≤ l.length → 1 ≤ prodF l i
 | 0, _ => by show (1 : Int) ≤ 1; decide
 | i + 1, hi => by
  have h1 := prodF_pos h i (by omega)
  have h2 := h i (by omega)
  show 1 ≤ prodF l i * ((gti l i).most + 1)
  have := Int.mul_le_mul h1 (show 1 ≤ (gti l i).most + 1 by omega) (by omega) (by omega)
  omega
theorem numF_eq {l : List Sft} (h : ∀ k, k < l.length → 0 ≤ (gti l k).most) {L : Int} (hL : 0 ≤ L) : ∀ i, i ≤ l.length → numF l L i = min (L + 1) (prodF l i)
 | 0, _ => by show (1 : Int) = min (L + 1) 1; omega
 | i + 1, hi => by
  have h1 := prodF_pos h i (by omega)
  have h2 := h i (by omega)
  show min (L + 1) (numF l L i * ((gti l i).most + 1)) = min (L + 1) (prodF l i * ((gti l i).most + 1))
  rw [numF_eq h hL i (by omega)]
  by_cases e : prodF l i ≤ L + 1
  ·
   rw [Int.min_eq_right e]
  ·
   rw [Int.min_eq_left (by omega : L + 1 ≤ prodF l i)]
   have k1 := Int.mul_le_mul (show L + 1 ≤ L + 1 by omega) (show 1 ≤ (gti l i).most + 1 by omega) (by omega) (by omega)
   have k2 := Int.mul_le_mul (show L + 1 ≤ prodF l i by omega) (show 1 ≤ (gti l i).most + 1 by omega) (by omega) (by omega)
   rw [Int.min_eq_left (by omega), Int.min_eq_left (by omega)]
theorem allF_eq {l : List Sft} (h : ∀ k, k < l.length → 0 ≤ (gti l k).most) : ∀ i, i ≤ l.length → allF l i = numF l 1048576 i
 | 0, _ => rfl
 | i + 1, hi => by
  show min (allF l i * ((gti l i).most + 1)) 1048577 = min (1048576 + 1) (numF l 1048576 i * ((gti l i).most + 1))
  rw [allF_eq h i (by omega), Int.min_comm]; rfl
end Go.Proofs.Ytllkbjcemecmjaa.Aw
end
section
namespace Go.Proofs.Ytllkbjcemecmjaa.Aw
open Go Go.RowKit Go.Proofs
variable {P : Program} [IsP P]
theorem post_cct {F : Frm} {σ : List Ob} {ad ad2 u : Nat} {ty ty2 : TypeId} {id sz k n bt id2 sz2 k2 n2 bt2 : Nat} {z z2 : Option Value} {ob ob2 : Ob} {cs cs2 : List AV} {e1 e2 r1 r2 y : AV} {e : Exit} (he : e = .normal ∨ e = .ret) (ha : zc0 P ty = some true) (hi : zbl P ty = some (z, n, bt)) (hp : F.get ad = .ptr id sz k 0) (hs : σ[id]? = some ob) (ho : rowOf ob = some (sz, cs)) (hk : cs[k]? = some e1) (hn : e1.cells.length = n)
  (ha2 : zc0 P ty2 = some true) (hi2 : zbl P ty2 = some (z2, n2, bt2)) (hp2 : F.get ad2 = .ptr id2 sz2 k2 0) (hs2 : σ[id2]? = some ob2) (ho2 : rowOf ob2 = some (sz2, cs2)) (hk2 : cs2[k2]? = some e2) (hn2 : e2.cells.length = n2) (hu : F.get u = y) (hr1 : Fini σ (.agg e1.cells) r1) (hr2 : Fini σ (.agg e2.cells) r2) : APost P [.cell ad ty, .cell ad2 ty2, .tmp u] (.tup [r1, r2, y]) e F σ :=
 ⟨he, [.agg e1.cells, .agg e2.cells, y], .cons _ _ _ _ (.cells ad ty id sz k n bt z ob cs e1 ha hi hp hs ho hk hn) (.cons _ _ _ _ (.cells ad2 ty2 id2 sz2 k2 n2 bt2 z2 ob2 cs2 e2 ha2 hi2 hp2 hs2 ho2 hk2 hn2) (.cons _ _ _ _ (.tmp u y hu) .nil)), .tup _ _ rfl (zbb.cons hr1 (zbb.cons hr2 (zbb.cons (.refl _) zbb.nil))).2⟩
noncomputable def bstT (d : List Int) (l : List Sft) : Br × Bool × Int := prvT d l (srcE d l).2 (boxM (zc1 l.length) (zb7 l) l.length + 1) 20000 (zc1 l.length) (zb7 l)
noncomputable def bstR (d : List Int) (l : List Sft) (lim : Int) : Pln × Br × Int :=
 if ¬ zb6 d l = true then (⟨[], 0⟩, zBr, 1) else
 if lim < 1 ∨ 1048576 < lim then (⟨[], 0⟩, zBr, 2) else
 if 0 ≤ shE d l (zb7 l) then (⟨[], 0⟩, zBr, 17) else
 if lim < allF l l.length then (⟨[], 0⟩, zBr, 13) else
 if (bstT d l).2.1 = true ∧ chkE d l ⟨(srcE d l).1.getD [], (srcE d l).2⟩ (bstT d l).1 = true then (⟨(srcE d l).1.getD [], (srcE d l).2⟩, (bstT d l).1, 0) else (⟨[], 0⟩, zBr, 13)
def eR3 (r : Pln × Br × Int) : AV := .tup [ePl r.1, eBr r.2.1, eI r.2.2]
theorem eR3_zero (e : Int) : eR3 (⟨[], 0⟩, zBr, e) = .tup [.agg [.sl [], eI 0], .agg [eI 0, eI 0, .sl [], .sl []], eI e] := by unfold eR3; rw [eBr_zero]; rfl
theorem lo_Pl (p : Pln) : Lo 0 (ePl p) := .agg _ (zag (zan fun _ => .s _) (zag (.s _) zak))
theorem lo_R3 (r : Pln × Br × Int) : Lo 0 (eR3 r) := .tup _ (zag (lo_Pl _) (zag (lo_Br _) (zag (.s _) zak)))
theorem allF_bd {l : List Sft} (h : ∀ k, k < l.length → 0 ≤ (gti l k).most) : ∀ i, i ≤ l.length → 1 ≤ allF l i ∧ allF l i ≤ 1048577 := fun i hi => by
 rw [allF_eq h i hi, numF_eq h (by decide) i hi]
 have := prodF_pos h i hi
 omega
set_option maxHeartbeats 16000000 in
theorem best_pf (d : List Int) (l : List Sft) (lim : Int) : Pure P 9 [eL eI d, eL eSh l, eI lim] (eR3 (bstR d l lim)) := by
 have hva := sValid_pf54 (P := P) d l
 have HI : bstR d l lim = bstR d l lim := rfl
 conv at HI => rhs; unfold bstR
 generalize bstR d l lim = R at HI ⊢
 refine zcu (by rw [IsP.eq (P := P)]; exact Try.func9) rfl rfl rfl rfl rfl (zag (zan fun _ => .s _) (zag (zan lo_Sh) (zag (.s _) zak))) (lo_R3 _) (by simp only [argF]; rfl) ?_
 refine zah (zab (zaf rfl rfl (zaa rfl) (za0 rfl ti28 rfl rfl) (zaf rfl rfl (zaa rfl) (za0 rfl ti32 rfl rfl) (zac rfl (zae (zah (zah ?_)))))))
 cases hv : zb6 d l with
 | false =>
  rw [hv] at hva HI
  rw [if_pos (by simp)] at HI
  refine zab (zac rfl (zac rfl ?_))
  refine zaf rfl rfl (zaa rfl) (zam rfl rfl (by assumption) (zad rfl (zad rfl zaq))) ?_
  refine zaf rfl rfl (zaa rfl) (zbv rfl rfl) (zae (zai (za7 rfl (zah (zab (zaf rfl rfl (zaa rfl) (za6 rfl ti28 tp28 rfl rfl) (zaf rfl rfl (zaa rfl) (za6 rfl ti32 tp32 rfl rfl) (zbe rfl (zaa rfl) (zaj rfl ti28 rfl rfl rfl rfl rfl rfl (by decide) (by decide)) (zbe rfl (zaa rfl) (zaj rfl ti32 rfl rfl rfl rfl rfl rfl (by decide) (by decide)) (zac rfl (zae (zai ?_))))))))))))
  (refine za8 ?_; repeat (first | refine zbg ?_ | refine zbh ?_))
  subst HI
  rw [eR3_zero]
  exact post_cct (.inr rfl) ta28 ti28 rfl rfl rfl rfl rfl ta32 ti32 rfl rfl rfl rfl rfl rfl (.agg _ _ rfl (zbb.cons .nil (zbb.cons (.refl _) zbb.nil)).2) (.agg _ _ rfl (zbb.cons (.refl _) (zbb.cons (.refl _) (zbb.cons .nil (zbb.cons .nil zbb.nil)))).2)
 | true =>
  rw [hv] at hva
  rw [if_neg (fun h => h hv)] at HI
  obtain ⟨⟨q1, q2, q3⟩, qd, ql⟩ := zb0 hv
  have hmo0 : ∀ k, k < l.length → 0 ≤ (gti l k).most := fun k hk => by have := (ql k hk).1; omega
  have hcn := (mem_allC l (zb7 l)).1 (mostL_allC hv)
  have hmo := most_pf (P := P) l q3
  have hsh := short_pf (P := P) d l (zb7 l) hv ⟨mostL_len l, q3, fun k hk => by have := hcn.2 k hk; have := (ql k hk).1; omega⟩
  refine zab (zac rfl (zac rfl ?_))
  refine zaf rfl rfl (zaa rfl) (zam rfl rfl (by assumption) (zad rfl (zad rfl zaq))) ?_
  refine zaf rfl rfl (zaa rfl) (zbv rfl rfl) (zae (zai (za1 rfl (zat (zah (zah (zab (zac rfl ?_))))))))
  refine za3 rfl rfl (zaa rfl) (za4 rfl rfl rfl) (fun h24 => ?_) (fun h24 => ?_)
  all_goals refine zac rfl ?_
  all_goals (first | refine zac rfl ?_ | refine zay rfl ?_)
  all_goals (first | refine za3 rfl rfl (zas rfl rfl rfl) (zb5 rfl rfl rfl) (fun h27 => ?_) (fun h27 => ?_) | refine zay rfl ?_)
  all_goals refine zac rfl (zae (zai ?_))
  all_goals (first | refine za7 rfl ?_ | refine za1 rfl ?_)
  all_goals (repeat (first | refine zah ?_ | refine zat ?_))
  ·
   rw [if_pos (.inl h24)] at HI
   refine zab (zaf rfl rfl (zaa rfl) (za6 rfl ti28 tp28 rfl rfl) (zaf rfl rfl (zaa rfl) (za6 rfl ti32 tp32 rfl rfl) (zbe rfl (zaa rfl) (zaj rfl ti28 rfl rfl rfl rfl rfl rfl (by decide) (by decide)) (zbe rfl (zaa rfl) (zaj rfl ti32 rfl rfl rfl rfl rfl rfl (by decide) (by decide)) (zac rfl (zae (zai ?_)))))))
   (refine za8 ?_; repeat (first | refine zbg ?_ | refine zbh ?_))
   subst HI
   rw [eR3_zero]
   exact post_cct (.inr rfl) ta28 ti28 rfl rfl rfl rfl rfl ta32 ti32 rfl rfl rfl rfl rfl rfl (.agg _ _ rfl (zbb.cons .nil (zbb.cons (.refl _) zbb.nil)).2) (.agg _ _ rfl (zbb.cons (.refl _) (zbb.cons (.refl _) (zbb.cons .nil (zbb.cons .nil zbb.nil)))).2)
  ·
   rw [if_pos (.inr h27)] at HI
   refine zab (zaf rfl rfl (zaa rfl) (za6 rfl ti28 tp28 rfl rfl) (zaf rfl rfl (zaa rfl) (za6 rfl ti32 tp32 rfl rfl) (zbe rfl (zaa rfl) (zaj rfl ti28 rfl rfl rfl rfl rfl rfl (by decide) (by decide)) (zbe rfl (zaa rfl) (zaj rfl ti32 rfl rfl rfl rfl rfl rfl (by decide) (by decide)) (zac rfl (zae (zai ?_)))))))
   (refine za8 ?_; repeat (first | refine zbg ?_ | refine zbh ?_))
   subst HI
   rw [eR3_zero]
   exact post_cct (.inr rfl) ta28 ti28 rfl rfl rfl rfl rfl ta32 ti32 rfl rfl rfl rfl rfl rfl (.agg _ _ rfl (zbb.cons .nil (zbb.cons (.refl _) zbb.nil)).2) (.agg _ _ rfl (zbb.cons (.refl _) (zbb.cons (.refl _) (zbb.cons .nil (zbb.cons .nil zbb.nil)))).2)
  rw [if_neg (by omega)] at HI
  refine zab (zac rfl (zac rfl (zac rfl (zaf rfl rfl (zaa rfl) (zam rfl rfl (hmo) (zad rfl zaq)) (zaf rfl rfl (zaa rfl) (zam rfl rfl (hsh) (zad rfl (zad rfl (zad rfl zaq)))) ?_)))))
  refine za3 rfl rfl (zaa rfl) (zcz rfl rfl rfl) (fun h36 => ?_) (fun h36 => ?_)
  all_goals refine zae (zai ?_)
  all_goals (first | refine za7 rfl ?_ | refine za1 rfl ?_)
  all_goals (repeat (first | refine zah ?_ | refine zat ?_))
  ·
   rw [if_pos h36] at HI
   refine zab (zaf rfl rfl (zaa rfl) (za6 rfl ti28 tp28 rfl rfl) (zaf rfl rfl (zaa rfl) (za6 rfl ti32 tp32 rfl rfl) (zbe rfl (zaa rfl) (zaj rfl ti28 rfl rfl rfl rfl rfl rfl (by decide) (by decide)) (zbe rfl (zaa rfl) (zaj rfl ti32 rfl rfl rfl rfl rfl rfl (by decide) (by decide)) (zac rfl (zae (zai ?_)))))))
   (refine za8 ?_; repeat (first | refine zbg ?_ | refine zbh ?_))
   subst HI
   rw [eR3_zero]
   exact post_cct (.inr rfl) ta28 ti28 rfl rfl rfl rfl rfl ta32 ti32 rfl rfl rfl rfl rfl rfl (.agg _ _ rfl (zbb.cons .nil (zbb.cons (.refl _) zbb.nil)).2) (.agg _ _ rfl (zbb.cons (.refl _) (zbb.cons (.refl _) (zbb.cons .nil (zbb.cons .nil zbb.nil)))).2)
  rw [if_neg h36] at HI
  refine zab (zac rfl (zae (zah (zah (zab (zac rfl (zaf rfl rfl (zaa rfl) (zao rfl ts23 rfl) (zac rfl (zae (zai (zaw ?_)))))))))))
  refine zca (S := Nat) (fun i => [(0, eL eI d), (1, eL eSh l), (2, eI lim), (6, .ptr 0 2 0 0), (7, .ptr 1 4 0 0), (8, eI 0), (9, eI (allF l i)), (39, eL eSh l), (40, eI l.length), (41, eI i)]) (fun _ => [.row 2 [.agg [.s (.slice none 0 0), eI 0]], .row 4 [zBrA]]) (fun i => i ≤ l.length) (fun i => l.length - i) 0
   (zck [0, 1] (by decide) ⟨⟨_, rfl, .rowE (by repeat' (first | exact Lo.s _ | exact za2 | refine zax ?_ ?_ | refine zar ?_ | refine Lo.cells ?_ | refine Lo.agg _ ?_ | exact zak | refine zag ?_ ?_ | intro _)) rfl⟩, ⟨_, rfl, .rowE (by repeat' (first | exact Lo.s _ | exact za2 | refine zax ?_ ?_ | refine zar ?_ | refine Lo.cells ?_ | refine Lo.agg _ ?_ | exact zak | refine zag ?_ ?_ | intro _)) rfl⟩, trivial⟩ ⟨.lo _ (zan fun _ => .s _), .lo _ (zan lo_Sh), .lo _ (.s _), .ptr 0 0 2 0 0 rfl, .ptr 1 1 4 0 0 rfl, .lo _ (.s _), .lo _ (.s _), .lo _ (zan lo_Sh), .lo _ (.s _), .lo _ (.s _), trivial⟩) (Nat.zero_le _) (fun i hi => ?_)
  refine zah (zab ?_)
  refine za3 rfl rfl (zaa rfl) (za4 rfl rfl rfl) (fun h42 => ?_) (fun h42 => ?_)
  all_goals refine zae (zah ?_)
  all_goals (first | refine za7 rfl ?_ | refine za1 rfl ?_)
  all_goals (repeat (first | refine zah ?_ | refine zat ?_ | refine zaw ?_))
  ·
   have hlt : i < l.length := by omega
   have hxl : (l.map eSh)[i]? = some (eSh (gti l i)) := zbd hlt
   have hm := (ql i hlt).1
   have hb := allF_bd hmo0 i (by omega)
   have hmu : 0 ≤ allF l i * ((gti l i).most + 1) ∧ allF l i * ((gti l i).most + 1) ≤ 22020117 := ⟨Int.mul_nonneg (by omega) (by omega), by have := Int.mul_le_mul hb.2 (show (gti l i).most + 1 ≤ 21 by omega) (by omega) (by omega); omega⟩
   have hmin : (if (1048577 : Int) < allF l i * ((gti l i).most + 1) then (1048577 : Int) else allF l i * ((gti l i).most + 1)) = allF l (i + 1) := by
    show _ = min (allF l i * ((gti l i).most + 1)) 1048577
    rw [Int.min_def]; split <;> split <;> omega
   refine zab (zaf rfl rfl (zaa rfl) (zal rfl ts23 ti39 rfl rfl rfl hxl rfl) (zc5 ta39 ti39 rfl (zaf rfl rfl (zaa rfl) (za0 rfl ti39 rfl rfl) (zbe rfl (zaa rfl) (zaj rfl ti39 rfl rfl rfl rfl rfl rfl (by decide) (by decide)) (zae (zai (zab (zac rfl (zb1 tf39_2 rfl (zaf rfl rfl (zaa rfl) (zap rfl ta3 rfl rfl rfl rfl rfl) (zaf rfl rfl (zaa rfl) (zav rfl rfl rfl (IntWalk.i64_in _ (by omega))) (zaf rfl rfl (zaa rfl) (does_mul rfl rfl rfl (IntWalk.i64_in _ (by omega))) (zaf rfl rfl (zaa rfl) (does_min rfl rfl rfl hmin) ?_)))))))))))))
   refine zac rfl (zae (zbu (zai (zab (zaf rfl rfl (zaa rfl) (zav rfl rfl rfl (IntWalk.i64_in _ (by omega))) (zac rfl (zae (zai ?_))))))))
   exact ⟨i + 1, by omega, by omega, zck [0, 1] (by decide) ⟨⟨_, rfl, .rowE (by repeat' (first | exact Lo.s _ | exact za2 | refine zax ?_ ?_ | refine zar ?_ | refine Lo.cells ?_ | refine Lo.agg _ ?_ | exact zak | refine zag ?_ ?_ | intro _)) rfl⟩, ⟨_, rfl, .rowE (by repeat' (first | exact Lo.s _ | exact za2 | refine zax ?_ ?_ | refine zar ?_ | refine Lo.cells ?_ | refine Lo.agg _ ?_ | exact zak | refine zag ?_ ?_ | intro _)) rfl⟩, trivial⟩ ⟨.lo _ (zan fun _ => .s _), .lo _ (zan lo_Sh), .lo _ (.s _), .ptr 0 0 2 0 0 rfl, .ptr 1 1 4 0 0 rfl, .lo _ (.s _), .lo _ (.s _), .lo _ (zan lo_Sh), .lo _ (.s _), .lo _ (.s _), trivial⟩⟩
  have ei : i = l.length := by omega
  subst ei
  (refine zcl ?_; repeat (first | refine zc3 ?_ | refine zb2 ?_ | refine zbq rfl ?_ | refine zbu ?_ | refine zai ?_ | refine zah ?_ | refine zat ?_ | refine zaw ?_))
  refine zab (zac rfl (zac rfl ?_))
  refine za3 rfl rfl (zaa rfl) (zb5 rfl rfl rfl) (fun h54 => ?_) (fun h54 => ?_)
  all_goals refine zae (zai ?_)
  all_goals (first | refine za7 rfl ?_ | refine za1 rfl ?_)
  all_goals (repeat (first | refine zah ?_ | refine zat ?_))
  ·
   rw [if_pos h54] at HI
   refine zab (zaf rfl rfl (zaa rfl) (za6 rfl ti28 tp28 rfl rfl) (zaf rfl rfl (zaa rfl) (za6 rfl ti32 tp32 rfl rfl) (zbe rfl (zaa rfl) (zaj rfl ti28 rfl rfl rfl rfl rfl rfl (by decide) (by decide)) (zbe rfl (zaa rfl) (zaj rfl ti32 rfl rfl rfl rfl rfl rfl (by decide) (by decide)) (zac rfl (zae (zai ?_)))))))
   (refine za8 ?_; repeat (first | refine zbg ?_ | refine zbh ?_))
   subst HI
   rw [eR3_zero]
   exact post_cct (.inr rfl) ta28 ti28 rfl rfl rfl rfl rfl ta32 ti32 rfl rfl rfl rfl rfl rfl (.agg _ _ rfl (zbb.cons .nil (zbb.cons (.refl _) zbb.nil)).2) (.agg _ _ rfl (zbb.cons (.refl _) (zbb.cons (.refl _) (zbb.cons .nil (zbb.cons .nil zbb.nil)))).2)
  rw [if_neg h54] at HI
  obtain ⟨c, hc⟩ := srcE_some hv (by omega)
  have hsto := srcE_StO hv
  have hT := K1.try_call (P := P) d l hv (l.length + 1) [] .emp 0 (none, 0) (by simp) CN.nil (Int.le_refl _) (by simp) ⟨fun b hb => (by cases hb), by show (0 : Int) ≤ 0; decide, by show (0 : Int) ≤ 240000; decide⟩ (fun h => by cases h) (.inl ⟨rfl, rfl⟩)
  have hT2 : CallE P 26 [.ptr 0 4 0 0, .emp, eI 0] [.row 4 [srA d l (none, 0)]] (.tup []) [.row 4 [srA d l (srcE d l)]] := hT
  clear hT
  have hT3 := hT2.frame1 [.row 2 [.agg [.s (.slice none 0 0), eI 0]], .row 4 [zBrA]] (noMp1 _ rfl) trivial trivial (zag (.ptr _ _ _ _ (by decide)) (zag .emp (zag (.s _) zak))) (by intro c hc; simp only [List.mem_singleton] at hc; subst hc; exact lo_srA _ _ _)
  clear hT2
  have hbx := first_box hv
  have hP := K1.prove_call (P := P) d l (srcE d l).2 hv ⟨hsto.2.1, by have := hsto.2.2; omega⟩ (boxM (zc1 l.length) (zb7 l) l.length + 1) 20000 (zc1 l.length) (zb7 l) (Nat.lt_succ_self _) hbx (by decide) (by decide)
  have hP2 : CallE P 27 [.ptr 0 4 0 0, eBx (zc1 l.length) (zb7 l)] [.row 4 [pvA d l (srcE d l).2 20000]] (.tup [eBr (bstT d l).1, eB (bstT d l).2.1]) [.row 4 [pvA d l (srcE d l).2 (bstT d l).2.2]] := hP
  clear hP
  generalize bstT d l = T at HI hP2
  generalize srcE d l = s at HI hP2 hT3 hc hsto
  obtain ⟨b, cost⟩ := s
  dsimp only at hc
  subst hc
  obtain ⟨⟨s1, t1, L1, y1⟩, ok, n1⟩ := T
  have hck := check_pf (P := P) d l ⟨c, cost⟩ (.mk s1 t1 L1 y1)
  dsimp only [Option.getD] at HI
  rw [eBr_mk] at hP2 hck
  replace hP2 := pv_frame hP2 [.row 2 [.agg [.s (.slice none 0 0), eI 0]], .row 4 [zBrA]] (noMp1 _ rfl)
  have hfi := first_pf (P := P) l q3
  have hpl : Lo 0 (.ref (ePl ⟨c, cost⟩).cells) := .ref _ (lo_Pl _).cells
  refine zab (zac rfl (zac rfl (zaf rfl rfl (zaa rfl) (za6 rfl ti66 tp66 rfl rfl) (zaf rfl rfl (zaa rfl) (zb4 rfl rfl rfl rfl) (zac rfl (zae (zah ?_)))))))
  refine zbi (F' := [(0, eL eI d), (1, eL eSh l), (6, .ptr 1 2 0 0), (7, .ptr 2 4 0 0), (12, .ptr 0 4 0 0)]) (σ' := [.row 4 [srA d l (none, 0)], .row 2 [.agg [.s (.slice none 0 0), eI 0]], .row 4 [zBrA]]) (zck [2, 0, 1] (by decide) ⟨⟨_, rfl, sr_ren (d := d) (l := l) (s := (none, 0))⟩, ⟨_, rfl, .rowE (by repeat' (first | exact Lo.s _ | exact za2 | refine zax ?_ ?_ | refine zar ?_ | refine Lo.cells ?_ | refine Lo.agg _ ?_ | exact zak | refine zag ?_ ?_ | intro _)) rfl⟩, ⟨_, rfl, .rowE (by repeat' (first | exact Lo.s _ | exact za2 | refine zax ?_ ?_ | refine zar ?_ | refine Lo.cells ?_ | refine Lo.agg _ ?_ | exact zak | refine zag ?_ ?_ | intro _)) rfl⟩, trivial⟩ ⟨.lo _ (zan fun _ => .s _), .lo _ (zan lo_Sh), .ptr 0 1 2 0 0 rfl, .ptr 1 2 4 0 0 rfl, .ptr 2 0 4 0 0 rfl, trivial⟩) ?_
  refine zab (zac rfl (zaf rfl rfl (zaa rfl) (does_lit0 rfl rfl ts22 ti3) (zaf rfl rfl (zaa rfl) (zbo rfl rfl hT3 (zad rfl (zad rfl (zad rfl zaq)))) (zae (zah ?_)))))
  refine zcj hmix ?_
  refine zdg ?_
  refine ex_s rfl (ex_s rfl (ex_f tf66_2 rfl (zbt rfl rfl (zaa rfl) (zbn rfl ta22 rfl rfl rfl rfl rfl) (ex_s rfl (ex_s rfl (ex_f tf66_3 rfl (zbt rfl rfl (zaa rfl) (zbn rfl ta3 rfl rfl rfl rfl rfl) (zaz rfl rfl (zaa rfl) (fun _ => (za6 rfl ti28 tp28 rfl rfl)) ?_))))))))
  refine zdh rfl rfl (zaa rfl) (za0 rfl ti28 rfl rfl) (fun _ h => zdr h) ?_
  refine zci rfl (zaa rfl) (zaj rfl ti28 rfl rfl rfl rfl rfl rfl (by decide) (by decide)) (fun _ h => zbr h) ?_
  refine zcc (by kernel_rfl) ?_
  refine zah ?_
  refine zbi (zbs (id := 3) rfl) ?_
  refine zbi (zch (d := 13) rfl rfl rfl) ?_
  refine zbi (F' := [(0, eL eI d), (1, eL eSh l), (6, .ptr 1 2 0 0), (7, .ptr 2 4 0 0), (12, .ptr 0 4 0 0), (13, .ref (ePl ⟨c, cost⟩).cells)]) (σ' := [.row 4 [srA d l (some c, cost)], .row 2 [.agg [.s (.slice none 0 0), eI 0]], .row 4 [zBrA]]) (zck [0, 1, 2] (by decide) ⟨⟨_, rfl, sr_ren⟩, ⟨_, rfl, .rowE (by repeat' (first | exact Lo.s _ | exact za2 | refine zax ?_ ?_ | refine zar ?_ | refine Lo.cells ?_ | refine Lo.agg _ ?_ | exact zak | refine zag ?_ ?_ | intro _)) rfl⟩, ⟨_, rfl, .rowE (by repeat' (first | exact Lo.s _ | exact za2 | refine zax ?_ ?_ | refine zar ?_ | refine Lo.cells ?_ | refine Lo.agg _ ?_ | exact zak | refine zag ?_ ?_ | intro _)) rfl⟩, trivial⟩ ⟨.lo _ (zan fun _ => .s _), .lo _ (zan lo_Sh), .ptr 1 1 2 0 0 rfl, .ptr 2 2 4 0 0 rfl, .ptr 0 0 4 0 0 rfl, .lo _ hpl, trivial⟩) ?_
  refine zab (zac rfl (zac rfl (zac rfl (zac rfl (zb1 tf66_3 rfl (zaf rfl rfl (zaa rfl) (zap rfl ta3 rfl rfl rfl rfl rfl) (zaf rfl rfl (zaa rfl) (za6 rfl ti70 tp70 rfl rfl) (zaf rfl rfl (zaa rfl) (zb4 rfl rfl rfl rfl) (zac rfl (zae (zah ?_)))))))))))
  refine zbi (F' := [(0, eL eI d), (1, eL eSh l), (6, .ptr 1 2 0 0), (7, .ptr 2 4 0 0), (14, .ptr 0 4 0 0), (13, .ref (ePl ⟨c, cost⟩).cells)]) (σ' := [.row 4 [pvA d l cost 20000], .row 2 [.agg [.s (.slice none 0 0), eI 0]], .row 4 [zBrA]]) (zck [3, 1, 2] (by decide) ⟨⟨_, rfl, zdt (d := d) (l := l) (a := cost) (b := 20000)⟩, ⟨_, rfl, .rowE (by repeat' (first | exact Lo.s _ | exact za2 | refine zax ?_ ?_ | refine zar ?_ | refine Lo.cells ?_ | refine Lo.agg _ ?_ | exact zak | refine zag ?_ ?_ | intro _)) rfl⟩, ⟨_, rfl, .rowE (by repeat' (first | exact Lo.s _ | exact za2 | refine zax ?_ ?_ | refine zar ?_ | refine Lo.cells ?_ | refine Lo.agg _ ?_ | exact zak | refine zag ?_ ?_ | intro _)) rfl⟩, trivial⟩ ⟨.lo _ (zan fun _ => .s _), .lo _ (zan lo_Sh), .ptr 1 1 2 0 0 rfl, .ptr 2 2 4 0 0 rfl, .ptr 3 0 4 0 0 rfl, .lo _ hpl, trivial⟩) ?_
  have hbr : ∀ s t L y, Lo 0 (.ref [eI s, eI t, eL eBr L, eL eF y]) := fun s t L y => by have := lo_Br (.mk s t L y); rw [eBr_mk] at this; exact .ref _ this.cells
  refine zab (zac rfl (zac rfl (zaf rfl rfl (zaa rfl) (zam rfl rfl (hfi) (zad rfl zaq)) (zaf rfl rfl (zaa rfl) (zbo rfl rfl hP2 (zad rfl (zad rfl zaq))) (zac rfl (zac rfl (zac rfl (zaf rfl rfl (zaa rfl) (za0 rfl ti32 rfl rfl) (zbe rfl (zaa rfl) (zaj rfl ti32 rfl rfl rfl rfl rfl rfl (by decide) (by decide)) (zac rfl (zae (zah (zah ?_)))))))))))))
  refine zbi (zbs (id := 3) rfl) ?_
  refine zbi (zch (d := 15) rfl rfl rfl) ?_
  refine zbi (F' := [(0, eL eI d), (1, eL eSh l), (6, .ptr 0 2 0 0), (7, .ptr 1 4 0 0), (13, .ref (ePl ⟨c, cost⟩).cells), (15, .ref [eI s1, eI t1, eL eBr L1, eL eF y1]), (16, eB ok)]) (σ' := [.row 2 [.agg [.s (.slice none 0 0), eI 0]], .row 4 [zBrA]]) (zck [1, 2] (by decide) ⟨⟨_, rfl, .rowE (by repeat' (first | exact Lo.s _ | exact za2 | refine zax ?_ ?_ | refine zar ?_ | refine Lo.cells ?_ | refine Lo.agg _ ?_ | exact zak | refine zag ?_ ?_ | intro _)) rfl⟩, ⟨_, rfl, .rowE (by repeat' (first | exact Lo.s _ | exact za2 | refine zax ?_ ?_ | refine zar ?_ | refine Lo.cells ?_ | refine Lo.agg _ ?_ | exact zak | refine zag ?_ ?_ | intro _)) rfl⟩, trivial⟩ ⟨.lo _ (zan fun _ => .s _), .lo _ (zan lo_Sh), .ptr 1 0 2 0 0 rfl, .ptr 2 1 4 0 0 rfl, .lo _ hpl, .lo _ (hbr _ _ _ _), .lo _ (.s _), trivial⟩) ?_
  cases ok with
  | false =>
   rw [if_neg (by simp)] at HI
   refine zab (zac rfl (zaf rfl rfl (zaa rfl) (zbv rfl rfl) (zac rfl (zay rfl (zay rfl (zay rfl (zay rfl (zay rfl (zay rfl (zac rfl (zae (zai (za7 rfl (zah (zab (zaf rfl rfl (zaa rfl) (za6 rfl ti28 tp28 rfl rfl) (zaf rfl rfl (zaa rfl) (za6 rfl ti32 tp32 rfl rfl) (zbe rfl (zaa rfl) (zaj rfl ti28 rfl rfl rfl rfl rfl rfl (by decide) (by decide)) (zbe rfl (zaa rfl) (zaj rfl ti32 rfl rfl rfl rfl rfl rfl (by decide) (by decide)) (zac rfl (zae (zai ?_))))))))))))))))))))))
   (refine za8 ?_; repeat (first | refine zbg ?_ | refine zbh ?_))
   subst HI
   rw [eR3_zero]
   exact post_cct (.inr rfl) ta28 ti28 rfl rfl rfl rfl rfl ta32 ti32 rfl rfl rfl rfl rfl rfl (.agg _ _ rfl (zbb.cons .nil (zbb.cons (.refl _) zbb.nil)).2) (.agg _ _ rfl (zbb.cons (.refl _) (zbb.cons (.refl _) (zbb.cons .nil (zbb.cons .nil zbb.nil)))).2)
  | true =>
   cases hz : chkE d l ⟨c, cost⟩ (.mk s1 t1 L1 y1) with
   | false =>
    rw [hz] at hck
    rw [if_neg (by rw [hz]; simp)] at HI
    refine zab (zac rfl (zaf rfl rfl (zaa rfl) (zbv rfl rfl) (zac rfl (zac rfl (zac rfl (zc5 ta28 ti28 rfl (zc5 ta32 ti32 rfl (zaf rfl rfl (zas rfl rfl rfl) (zam rfl rfl (hck) (zad rfl (zad rfl (zad rfl (zad rfl zaq))))) (zaf rfl rfl (zas rfl rfl rfl) (zbv rfl rfl) (zac rfl (zae (zai (za7 rfl (zah (zab (zaf rfl rfl (zaa rfl) (za6 rfl ti28 tp28 rfl rfl) (zaf rfl rfl (zaa rfl) (za6 rfl ti32 tp32 rfl rfl) (zbe rfl (zaa rfl) (zaj rfl ti28 rfl rfl rfl rfl rfl rfl (by decide) (by decide)) ?_))))))))))))))))))
    refine zbe rfl (zaa rfl) (zaj rfl ti32 rfl rfl rfl rfl rfl rfl (by decide) (by decide)) (zac rfl (zae (zai ?_)))
    (refine za8 ?_; repeat (first | refine zbg ?_ | refine zbh ?_))
    subst HI
    rw [eR3_zero]
    exact post_cct (.inr rfl) ta28 ti28 rfl rfl rfl rfl rfl ta32 ti32 rfl rfl rfl rfl rfl rfl (.agg _ _ rfl (zbb.cons .nil (zbb.cons (.refl _) zbb.nil)).2) (.agg _ _ rfl (zbb.cons (.refl _) (zbb.cons (.refl _) (zbb.cons .nil (zbb.cons .nil zbb.nil)))).2)
   | true =>
    rw [hz] at hck
    rw [if_pos ⟨rfl, hz⟩] at HI
    refine zab (zac rfl (zaf rfl rfl (zaa rfl) (zbv rfl rfl) (zac rfl (zac rfl (zac rfl (zc5 ta28 ti28 rfl (zc5 ta32 ti32 rfl (zaf rfl rfl (zas rfl rfl rfl) (zam rfl rfl (hck) (zad rfl (zad rfl (zad rfl (zad rfl zaq))))) (zaf rfl rfl (zas rfl rfl rfl) (zbv rfl rfl) (zac rfl (zae (zai (za1 rfl (zat (zah ?_)))))))))))))))
    refine zcj hmix ?_
    refine zdg ?_
    refine ex_w ta28 ti28 rfl (ex_w ta32 ti32 rfl ?_)
    refine zci rfl (zaa rfl) (zaj rfl ti28 rfl rfl rfl rfl rfl rfl (by decide) (by decide)) (fun _ h => zbr h) ?_
    refine zci rfl (zaa rfl) (zaj rfl ti32 rfl rfl rfl rfl rfl rfl (by decide) (by decide)) (fun _ h => zbr h) ?_
    refine ex_s rfl ?_
    refine zcc (by kernel_rfl) ?_
    refine zai ?_
    (refine za8 ?_; repeat (first | refine zbg ?_ | refine zbh ?_))
    subst HI
    have e3 : eR3 (⟨c, cost⟩, .mk s1 t1 L1 y1, 0) = .tup [.agg [eL eI c, eI cost], .agg [eI s1, eI t1, eL eBr L1, eL eF y1], eI 0] := by unfold eR3; rw [eBr_mk]; rfl
    rw [e3]
    exact post_cct (.inr rfl) ta28 ti28 rfl rfl rfl rfl rfl ta32 ti32 rfl rfl rfl rfl rfl rfl (.refl _) (.refl _)
end Go.Proofs.Ytllkbjcemecmjaa.Aw
end
section
namespace Go.Proofs.Ytllkbjcemecmjaa.Aw
theorem iof_ok {n : Int} (h1 : -1073741824 ≤ n) (h2 : n ≤ 1073741824) : (Fr.of n).ok :=
 ⟨h1, h2, by show (1 : Int) ≤ 1; decide, by show (1 : Int) ≤ 1073741824; decide, by show Int.gcd n 1 = 1; exact Int.gcd_one⟩
theorem addE_i {a b : Int} (ha : -1073741824 ≤ a ∧ a ≤ 1073741824) (hb : -1073741824 ≤ b ∧ b ≤ 1073741824) (hc : -1073741824 ≤ a + b ∧ a + b ≤ 1073741824) : addE (Fr.of a) (Fr.of b) = ⟨a + b, 1, 0⟩ := by
 unfold addE
 rw [Fr.okB_of (iof_ok ha.1 ha.2), Fr.okB_of (iof_ok hb.1 hb.2)]
 have e : fadd (Fr.of a) (Fr.of b) = mkF (Fr.of (a + b)).n (Fr.of (a + b)).d := by show mkF (a * 1 + b * 1) (1 * 1) = mkF (a + b) 1; rw [Int.mul_one, Int.mul_one, Int.mul_one]
 rw [e, mkF_of_ok (iof_ok hc.1 hc.2)]; rfl
theorem subE_i {a b : Int} (ha : -1073741824 ≤ a ∧ a ≤ 1073741824) (hb : -1073741824 ≤ b ∧ b ≤ 1073741824) (hc : -1073741824 ≤ a - b ∧ a - b ≤ 1073741824) : subE (Fr.of a) (Fr.of b) = ⟨a - b, 1, 0⟩ := by
 unfold subE
 rw [Fr.okB_of (iof_ok ha.1 ha.2), Fr.okB_of (iof_ok hb.1 hb.2)]
 have e : fsub (Fr.of a) (Fr.of b) = mkF (Fr.of (a - b)).n (Fr.of (a - b)).d := by show mkF (a * 1 + -b * 1) (1 * 1) = mkF (a - b) 1; rw [Int.mul_one, Int.mul_one, Int.mul_one]; rfl
 rw [e, mkF_of_ok (iof_ok hc.1 hc.2)]; rfl
theorem mulE_i {a b : Int} (ha : -1073741824 ≤ a ∧ a ≤ 1073741824) (hb : -1073741824 ≤ b ∧ b ≤ 1073741824) (hc : -1073741824 ≤ a * b ∧ a * b ≤ 1073741824) : mulE (Fr.of a) (Fr.of b) = ⟨a * b, 1, 0⟩ := by
 unfold mulE
 rw [Fr.okB_of (iof_ok ha.1 ha.2), Fr.okB_of (iof_ok hb.1 hb.2)]
 have e : fmul (Fr.of a) (Fr.of b) = mkF (Fr.of (a * b)).n (Fr.of (a * b)).d := by show mkF (a * b) (1 * 1) = mkF (a * b) 1; rw [Int.mul_one]
 rw [e, mkF_of_ok (iof_ok hc.1 hc.2)]; rfl
def yK (n k : Nat) (v : Int) : List Fr := (za9 n).set k (Fr.of v)
theorem yK_len (n k : Nat) (v : Int) : (yK n k v).length = n := by simp [yK, za9]
theorem yK_gti {n k j : Nat} {v : Int} (hj : j < n) : gti (yK n k v) j = Fr.of (if j = k then v else 0) := by
 unfold yK gti
 rw [List.getElem?_set]
 split
 ·
  rename_i h; subst h; rw [if_pos rfl]
  split
  ·
   rfl
  ·
   rename_i h2; simp [za9] at h2; omega
 ·
  rename_i h
  rw [if_neg (by omega)]
  unfold za9
  rw [List.getElem?_replicate, if_pos hj]; rfl
theorem zerosL_yK {n : Nat} (h : 1 ≤ n) : za9 n = yK n 0 0 := by
 obtain ⟨m, rfl⟩ : ∃ m, n = m + 1 := ⟨n - 1, by omega⟩
 simp [yK, za9, List.replicate_succ]
theorem dotG_int : ∀ (a b : List Fr) (n : Nat) (f : Nat → Int) (acc : Int) (B : Int), a.length = n → b.length = n → (∀ i, i < n → ∃ x y : Int, gti a i = Fr.of x ∧ gti b i = Fr.of y ∧ f i = x * y ∧ (0 ≤ x ∧ x ≤ 100) ∧ (0 ≤ y ∧ y ≤ 300000)) → 0 ≤ acc → acc + 30000000 * n ≤ 1073741824 →
  ∃ r : Int, dotG (Fr.of acc) a b = ⟨r, 1, 0⟩ ∧ r = acc + (List.range n).foldl (fun s i => s + f i) 0
 | [], b, n, f, acc, B, ha, hb, h, h0, h1 => by
  simp at ha; subst ha
  refine ⟨acc, ?_, by simp⟩
  have : b = [] := List.length_eq_zero_iff.1 hb
  subst this
  rw [dotG] <;> first | rfl | (intro x y z w e; cases e)
 | x :: a, [], n, f, acc, B, ha, hb, h, h0, h1 => by simp at ha hb; omega
 | x :: a, y :: b, n, f, acc, B, ha, hb, h, h0, h1 => by
  obtain ⟨m, rfl⟩ : ∃ m, n = m + 1 := ⟨n - 1, by simp at ha; omega⟩
  obtain ⟨u, v, e1, e2, e3, hu, hv⟩ := h 0 (by omega)
  rw [gti_zero] at e1 e2
  subst e1 e2
  have hp : 0 ≤ u * v ∧ u * v ≤ 30000000 := ⟨Int.mul_nonneg hu.1 hv.1, by have := Int.mul_le_mul hu.2 hv.2 hv.1 (by omega : (0 : Int) ≤ 100); omega⟩
  have m1 := mulE_i (a := u) (b := v) (by omega) (by omega) (by omega)
  have m2 := addE_i (a := acc) (b := u * v) (by omega) (by omega) (by omega)
  rw [dotG, m1]
  have m2' : addE (Fr.of acc) ⟨u * v, 1⟩ = ⟨acc + u * v, 1, 0⟩ := m2
  dsimp only
  rw [m2']
  dsimp only
  rw [if_neg (by simp), if_neg (by simp)]
  obtain ⟨r, g1, g2⟩ := dotG_int a b m (fun i => f (i + 1)) (acc + u * v) B (by simpa using ha) (by simpa using hb) (fun i hi => by
   obtain ⟨x', y', k1, k2, k3⟩ := h (i + 1) (by omega)
   rw [gti_succ] at k1 k2
   exact ⟨x', y', k1, k2, k3⟩) (by omega) (by omega)
  refine ⟨r, g1, ?_⟩
  rw [g2, List.range_succ_eq_map, List.foldl_cons, List.foldl_map, e3]
  have key : ∀ (l : List Nat) (s t : Int), l.foldl (fun s i => s + f (i + 1)) (s + t) = s + l.foldl (fun s i => s + f (i + 1)) t := by
   intro l
   induction l with
   | nil => intro s t; rfl
   | cons i l ih => intro s t; rw [List.foldl_cons, List.foldl_cons, Int.add_assoc, ih]
  have := key (List.range m) (u * v) 0
  rw [Int.add_zero] at this
  show acc + u * v + _ = acc + (List.range m).foldl (fun s i => s + f (i + 1)) (0 + u * v)
  rw [Int.zero_add, this]; omega
theorem fold_single (d : List Int) (k : Nat) (v : Int) : ∀ n, (List.range n).foldl (fun s i => s + gti d i * (if i = k then v else 0)) 0 = if k < n then gti d k * v else 0
 | 0 => rfl
 | n + 1 => by
  rw [List.range_succ, List.foldl_append, fold_single d k v n]
  show (if k < n then gti d k * v else 0) + gti d n * (if n = k then v else 0) = _
  by_cases h1 : k < n
  ·
   rw [if_pos h1, if_neg (by omega), if_pos (by omega)]; omega
  ·
   by_cases h2 : n = k
   ·
    subst h2; rw [if_neg h1, if_pos rfl, if_pos (by omega)]; omega
   ·
    rw [if_neg h1, if_neg h2, if_neg (by omega)]; omega
theorem okL_all {l : List Fr} (h : ∀ i, i < l.length → (gti l i).ok) : l.all Fr.okB = true := List.all_eq_true.2 fun x hx => by
 obtain ⟨i, hi, rfl⟩ := List.mem_iff_getElem.1 hx
 have := h i hi
 unfold gti at this
 rw [List.getElem?_eq_getElem hi] at this
 exact Fr.okB_of this
theorem dotE_yK {d : List Int} {l : List Sft} (hv : zb6 d l = true) {k : Nat} {v : Int} (hk : k < d.length) (h0 : 0 ≤ v) (h1 : v ≤ 300000) : dotE (d.map Fr.of) (yK d.length k v) = ⟨gti d k * v, 1, 0⟩ := by
 obtain ⟨⟨q1, q2, q3⟩, qd, ql⟩ := zb0 hv
 unfold dotE
 have e1 : (d.map Fr.of).all Fr.okB = true := okL_all fun i hi => by
  rw [List.length_map] at hi
  rw [ofL_gti hi]
  have := qd i hi
  exact iof_ok (by omega) (by omega)
 have e2 : (yK d.length k v).all Fr.okB = true := okL_all fun i hi => by
  rw [yK_len] at hi
  rw [yK_gti hi]
  split <;> exact iof_ok (by omega) (by omega)
 rw [if_neg (by rw [e1, e2]; simp), if_neg (by rw [List.length_map, yK_len]; omega), if_neg (by rw [List.length_map, yK_len]; simp)]
 obtain ⟨r, g1, g2⟩ := dotG_int (d.map Fr.of) (yK d.length k v) d.length (fun i => gti d i * (if i = k then v else 0)) 0 0 (by simp) (yK_len _ _ _) (fun i hi => ⟨gti d i, if i = k then v else 0, ofL_gti hi, yK_gti hi, rfl, qd i hi, by split <;> omega⟩) (by omega) (by omega)
 rw [g1, g2, fold_single, if_pos hk, Int.zero_add]
def prI (s : Sft) (k : Nat) (v : Int) : Int := s.cost - if inB s.pd k = true then v else 0
theorem prG_yK {d : List Int} {l : List Sft} (hv : zb6 d l = true) {k : Nat} {v : Int} (hk : k < d.length) (h0 : 0 ≤ v) (h1 : v ≤ 300000) {i : Nat} (hi : i < l.length) : ∀ n j, j + n = (gti l i).pd.length → prG (yK d.length k v) (gti l i).pd n j (Fr.of ((gti l i).cost - if inB ((gti l i).pd.take j) k = true then v else 0)) = ⟨prI (gti l i) k v, 1, 0⟩
 | 0, j, h => by
  rw [prG]
  have : (gti l i).pd.take j = (gti l i).pd := List.take_of_length_le (by omega)
  rw [this]; rfl
 | n + 1, j, h => by
  obtain ⟨_, qd, ql⟩ := zb0 hv
  obtain ⟨q4, q5⟩ := ql i hi
  have hb := q5 j (by omega)
  rw [prG]
  obtain ⟨p, hp⟩ : ∃ p : Nat, gti (gti l i).pd j = p := ⟨(gti (gti l i).pd j).toNat, by omega⟩
  have hpl : p < d.length := by omega
  rw [hp, Int.toNat_natCast, yK_gti hpl]
  have hst := inB_step (l := (gti l i).pd) (j := j) (by omega) k
  have hnw := inB_new (fun k hk h => (q5 k hk).2.2 h) (l := (gti l i).pd) (j := j) (by omega)
  rw [hp] at hst hnw
  have hs := subE_i (a := (gti l i).cost - if inB ((gti l i).pd.take j) k = true then v else 0) (b := if p = k then v else 0) (by split <;> omega) (by split <;> omega) (by split <;> split <;> omega)
  rw [hs]
  dsimp only
  rw [if_neg (by simp)]
  have e : (gti l i).cost - (if inB ((gti l i).pd.take j) k = true then v else 0) - (if p = k then v else 0) = (gti l i).cost - if inB ((gti l i).pd.take (j + 1)) k = true then v else 0 := by
   by_cases hpk : p = k
   ·
    subst hpk
    rw [if_neg (by rw [hnw]; simp), if_pos rfl, if_pos (hst.2 (.inr rfl))]; omega
   ·
    rw [if_neg hpk]
    by_cases hin : inB ((gti l i).pd.take j) k = true
    ·
     rw [if_pos hin, if_pos (hst.2 (.inl hin))]; omega
    ·
     rw [if_neg hin, if_neg (fun h => by rcases hst.1 h with h | h; exact hin h; exact hpk (by exact_mod_cast h))]; omega
  rw [e]
  exact prG_yK hv hk h0 h1 hi n (j + 1) (by omega)
theorem prE_yK {d : List Int} {l : List Sft} (hv : zb6 d l = true) {k : Nat} {v : Int} (hk : k < d.length) (h0 : 0 ≤ v) (h1 : v ≤ 300000) {i : Nat} (hi : i < l.length) : prE (yK d.length k v) (gti l i) = ⟨prI (gti l i) k v, 1, 0⟩ := by
 have := prG_yK hv hk h0 h1 hi (gti l i).pd.length 0 (Nat.zero_add _)
 rw [List.take_zero, inB_nil, if_neg (by simp), Int.sub_zero] at this
 exact this
def sumI (l : List Sft) (c : List Int) (k : Nat) (v : Int) : Nat → Int
 | 0 => 0
 | n + 1 => sumI l c k v n + prI (gti l n) k v * gti c n
theorem sumI_eq (l : List Sft) (c : List Int) (k : Nat) (v : Int) : ∀ n, sumI l c k v n = prcP l c n - v * cvP l c n k
 | 0 => by show (0 : Int) = 0 - v * 0; rw [Int.mul_zero]; rfl
 | n + 1 => by
  show sumI l c k v n + prI (gti l n) k v * gti c n = prcP l c n + (gti l n).cost * gti c n - v * (cvP l c n k + if inB (gti l n).pd k = true then gti c n else 0)
  rw [sumI_eq l c k v n]
  unfold prI
  split <;> grind
theorem bdG_yK {d : List Int} {l : List Sft} (hv : zb6 d l = true) {k : Nat} {v : Int} (hk : k < d.length) (h0 : 0 ≤ v) (h1 : v ≤ 300000) {c : List Int} (hc : okC l c) (S : Int) (hS : 0 ≤ S ∧ S ≤ 30000000) : ∀ n i, i + n = l.length → bdG l c c (yK d.length k v) n i (Fr.of (S + sumI l c k v i)) = (Fr.of (S + sumI l c k v l.length), true)
 | 0, i, h => by rw [bdG, show i = l.length by omega]
 | n + 1, i, h => by
  obtain ⟨⟨q1, q2, q3⟩, qd, ql⟩ := zb0 hv
  have hi : i < l.length := by omega
  have hm := (ql i hi).1
  have hci := hc.2.2 i hi
  have hpb : -300000 ≤ prI (gti l i) k v ∧ prI (gti l i) k v ≤ 1000 := by unfold prI; split <;> omega
  have hpm : -6000000 ≤ prI (gti l i) k v * gti c i ∧ prI (gti l i) k v * gti c i ≤ 20000 := by
   constructor
   ·
    have := Int.mul_le_mul (show -(prI (gti l i) k v) ≤ 300000 by omega) hci.2 hci.1 (by omega)
    rw [Int.neg_mul] at this; omega
   ·
    have := Int.mul_le_mul (show prI (gti l i) k v ≤ 1000 by omega) hci.2 hci.1 (by omega)
    omega
  have hsb : ∀ j, j ≤ l.length → -6000000 * (j : Int) ≤ sumI l c k v j ∧ sumI l c k v j ≤ 20000 * (j : Int) := by
   intro j
   induction j with
   | zero => intro _; unfold sumI; omega
   | succ j ih =>
    intro hj
    have h2 := ih (by omega)
    have hm2 := (ql j (by omega)).1
    have hcj := hc.2.2 j (by omega)
    have hpb2 : -300000 ≤ prI (gti l j) k v ∧ prI (gti l j) k v ≤ 1000 := by unfold prI; split <;> omega
    have k1 := Int.mul_le_mul (show -(prI (gti l j) k v) ≤ 300000 by omega) hcj.2 hcj.1 (by omega)
    have k2 := Int.mul_le_mul (show prI (gti l j) k v ≤ 1000 by omega) hcj.2 hcj.1 (by omega)
    rw [Int.neg_mul] at k1
    unfold sumI
    omega
  have hs1 := hsb i (by omega)
  have hs2 := hsb (i + 1) (by omega)
  have e3 : sumI l c k v (i + 1) = sumI l c k v i + prI (gti l i) k v * gti c i := rfl
  rw [bdG, prE_yK hv hk h0 h1 hi]
  dsimp only
  rw [if_neg (by simp)]
  have ech : (if prI (gti l i) k v < 0 then gti c i else gti c i) = gti c i := by split <;> rfl
  rw [ech]
  have hmu := mulE_i (a := prI (gti l i) k v) (b := gti c i) (by omega) (by omega) (by omega)
  have hmu' : mulE ⟨prI (gti l i) k v, 1⟩ (Fr.of (gti c i)) = ⟨prI (gti l i) k v * gti c i, 1, 0⟩ := hmu
  rw [hmu']
  dsimp only
  rw [if_neg (by simp)]
  have had := addE_i (a := S + sumI l c k v i) (b := prI (gti l i) k v * gti c i) (by omega) (by omega) (by omega)
  have had' : addE (Fr.of (S + sumI l c k v i)) ⟨prI (gti l i) k v * gti c i, 1⟩ = ⟨S + sumI l c k v i + prI (gti l i) k v * gti c i, 1, 0⟩ := had
  rw [had']
  dsimp only
  rw [if_neg (by simp), Int.add_assoc, ← e3]
  exact bdG_yK hv hk h0 h1 hc S hS n (i + 1) (by omega)
theorem prvB_yK {d : List Int} {l : List Sft} (hv : zb6 d l = true) {k : Nat} {v : Int} (hk : k < d.length) (h0 : 0 ≤ v) (h1 : v ≤ 300000) {c : List Int} (hc : okC l c) {K : Int} (hK : 0 ≤ K ∧ K ≤ 1000000) (hb : K ≤ gti d k * v + prcP l c l.length - v * cvP l c l.length k) (hub : gti d k * v + prcP l c l.length - v * cvP l c l.length k ≤ 1000000000) : prvB d l c c (yK d.length k v) K = true := by
 obtain ⟨⟨q1, q2, q3⟩, qd, ql⟩ := zb0 hv
 have hd := qd k hk
 have hS : 0 ≤ gti d k * v ∧ gti d k * v ≤ 30000000 := ⟨Int.mul_nonneg hd.1 h0, by have := Int.mul_le_mul hd.2 h1 h0 (by omega : (0 : Int) ≤ 100); omega⟩
 have hbd : bdE d l c c (yK d.length k v) = (Fr.of (gti d k * v + prcP l c l.length - v * cvP l c l.length k), true) := by
  unfold bdE
  rw [dotE_yK hv hk h0 h1]
  dsimp only
  rw [if_neg (by simp)]
  have := bdG_yK hv hk h0 h1 hc (gti d k * v) hS l.length 0 (Nat.zero_add _)
  have e0 : sumI l c k v 0 = 0 := rfl
  rw [e0, Int.add_zero, sumI_eq] at this
  rw [show gti d k * v + prcP l c l.length - v * cvP l c l.length k = gti d k * v + (prcP l c l.length - v * cvP l c l.length k) by omega]
  exact this
 unfold prvB mulB
 rw [hbd]
 simp only [Bool.and_eq_true, decide_eq_true_eq, Bool.not_eq_true']
 have hok1 : (Fr.of (gti d k * v + prcP l c l.length - v * cvP l c l.length k)).ok := iof_ok (by omega) (by omega)
 have hok2 : (Fr.of (K - 1)).ok := iof_ok (by omega) (by omega)
 refine ⟨⟨yK_len _ _ _, ?_⟩, trivial, ?_⟩
 ·
  refine List.any_eq_false.2 fun x hx => ?_
  obtain ⟨i, hi, rfl⟩ := List.mem_iff_getElem.1 hx
  rw [yK_len] at hi
  have e : (yK d.length k v)[i]'(by rw [yK_len]; exact hi) = gti (yK d.length k v) i := by unfold gti; rw [List.getElem?_eq_getElem (by rw [yK_len]; exact hi)]; rfl
  rw [e, yK_gti hi]
  unfold badM
  have : (Fr.of (if i = k then v else 0)).okB = true := Fr.okB_of (by split <;> exact iof_ok (by omega) (by omega))
  rw [this]
  simp only [Bool.not_true, Bool.false_or, decide_eq_true_eq]
  show ¬ (if i = k then v else 0) < 0
  split <;> omega
 ·
  unfold cmpE
  rw [Fr.okB_of hok1, Fr.okB_of hok2]
  refine ⟨rfl, ?_⟩
  show 0 < cmpN _ _
  unfold cmpN Fr.of
  dsimp only
  rw [Int.mul_one, Int.mul_one, if_neg (by omega), if_pos (by omega)]
  decide
end Go.Proofs.Ytllkbjcemecmjaa.Aw
end
section
namespace Go.Proofs.Ytllkbjcemecmjaa.Aw
theorem shF_at (d : List Int) (l : List Sft) (c : List Int) : ∀ n k, 0 ≤ shF d l c n k → ∃ p : Nat, shF d l c n k = p ∧ k ≤ p ∧ p < k + n ∧ cvP l c l.length p < gti d p
 | 0, k, h => by rw [shF] at h; omega
 | n + 1, k, h => by
  rw [shF] at h ⊢
  split
  ·
   rename_i h1; exact ⟨k, rfl, Nat.le_refl _, by omega, h1⟩
  ·
   rename_i h1
   rw [if_neg h1] at h
   obtain ⟨p, g1, g2, g3, g4⟩ := shF_at d l c n (k + 1) h
   exact ⟨p, g1, by omega, by omega, g4⟩
theorem simple_point {d : List Int} {l : List Sft} (hv : zb6 d l = true) {c : List Int} (hc : okC l c) {K : Int} (hK : 0 ≤ K ∧ K ≤ 240000) (hmin : shE d l c < 0 → K ≤ prcP l c l.length) : prvB d l c c (simE d l K c) K = true := by
 obtain ⟨⟨q1, q2, q3⟩, qd, ql⟩ := zb0 hv
 have hp := prcP_bd hv hc l.length (Nat.le_refl _)
 have hpb : prcP l c l.length ≤ 240000 := by omega
 unfold simE
 dsimp only
 by_cases h : 0 ≤ shE d l c
 ·
  rw [if_pos h]
  obtain ⟨p, g1, g2, g3, g4⟩ := shF_at d l c d.length 0 h
  have e : shE d l c = p := g1
  rw [e, Int.toNat_natCast]
  have hpd := qd p (by omega)
  have hcv := cvP_bd hc p l.length (Nat.le_refl _)
  have k1 := Int.mul_le_mul_of_nonneg_right (show cvP l c l.length p + 1 ≤ gti d p by omega) (show 0 ≤ K + 1 by omega)
  have k2 := Int.mul_le_mul_of_nonneg_right (show gti d p ≤ 100 by omega) (show 0 ≤ K + 1 by omega)
  have k3 := Int.mul_nonneg hcv.1 (show 0 ≤ K + 1 by omega)
  rw [Int.add_mul, Int.one_mul] at k1
  exact prvB_yK hv (k := p) (v := K + 1) (by omega) (by omega) (by omega) hc ⟨hK.1, by omega⟩ (by rw [Int.mul_comm (K + 1)]; omega) (by rw [Int.mul_comm (K + 1)]; omega)
 ·
  rw [if_neg h, zerosL_yK q1]
  have := hmin (by omega)
  exact prvB_yK hv (k := 0) (v := 0) (by omega) (by omega) (by omega) hc ⟨hK.1, by omega⟩ (by rw [Int.mul_zero, Int.zero_mul]; omega) (by rw [Int.mul_zero, Int.zero_mul]; omega)
def volW (w : Nat → Int) : Nat → Int
 | 0 => 1
 | n + 1 => volW w n * w n
theorem volW_pos {w : Nat → Int} : ∀ {n : Nat}, (∀ i, i < n → 1 ≤ w i) → 1 ≤ volW w n
 | 0, _ => by show (1 : Int) ≤ 1; decide
 | n + 1, h => by
  have h1 := volW_pos (n := n) (fun i hi => h i (by omega))
  have h2 := h n (by omega)
  show 1 ≤ volW w n * w n
  have := Int.mul_le_mul h1 h2 (by omega) (by omega)
  omega
theorem volW_congr {w w' : Nat → Int} : ∀ {n : Nat}, (∀ i, i < n → w i = w' i) → volW w n = volW w' n
 | 0, _ => rfl
 | n + 1, h => by
  show volW w n * w n = volW w' n * w' n
  rw [volW_congr (n := n) (fun i hi => h i (by omega)), h n (by omega)]
theorem volW_add {w w1 w2 : Nat → Int} {k : Nat} (hk2 : w k = w1 k + w2 k) : ∀ {n : Nat}, k < n → (∀ i, i < n → i ≠ k → w1 i = w i ∧ w2 i = w i) → volW w n = volW w1 n + volW w2 n
 | 0, h, _ => by omega
 | n + 1, h, h1 => by
  show volW w n * w n = volW w1 n * w1 n + volW w2 n * w2 n
  by_cases e : k = n
  ·
   subst e
   rw [volW_congr (w := w1) (w' := w) (fun i hi => (h1 i (by omega) (by omega)).1), volW_congr (w := w2) (w' := w) (fun i hi => (h1 i (by omega) (by omega)).2), hk2, Int.mul_add]
  ·
   have := h1 n (by omega) (by omega)
   rw [volW_add hk2 (n := n) (by omega) (fun i hi => h1 i (by omega)), this.1, this.2, Int.add_mul]
def vol (lo hi : List Int) (n : Nat) : Int := volW (fun i => gti hi i - gti lo i + 1) n
theorem wideF_neg {lo hi : List Int} : ∀ {n : Nat}, zdk lo hi n < 0 → ∀ i, i < n → gti hi i - gti lo i ≤ 0
 | 0, _, i, h => by omega
 | n + 1, h, i, hj => by
  unfold zdk at h
  split at h
  ·
   omega
  ·
   rename_i h1
   by_cases e : i = n
   ·
    subst e
    by_cases h2 : 0 < gti hi i - gti lo i
    ·
     exact absurd ⟨h2, .inl h⟩ h1
    ·
     omega
   ·
    exact wideF_neg h i (by omega)
theorem list_gti {a b : List Int} (hl : a.length = b.length) (h : ∀ i, i < a.length → gti a i = gti b i) : a = b := by
 refine List.ext_getElem hl fun i h1 h2 => ?_
 have := h i h1
 unfold gti at this
 rw [List.getElem?_eq_getElem h1, List.getElem?_eq_getElem h2] at this
 exact this
theorem rgtE_leaf {d : List Int} {l : List Sft} {K : Int} {y : List Fr} {lo hi : List Int} (h : prvB d l lo hi y K = true) {m : Int} (hm : 1 ≤ m) : rgtE d l K (.mk 0 0 [] y) lo hi m = (true, m - 1) := by
 rw [rgtE, if_neg (by omega), h]; rfl
theorem prvT_ok {d : List Int} {l : List Sft} (hv : zb6 d l = true) {K : Int} (hK : 0 ≤ K ∧ K ≤ 240000) (hmin : ∀ c, cntB l c = true → shE d l c < 0 → K ≤ prcP l c l.length) : ∀ (f : Nat) (n : Int) (lo hi : List Int), boxM lo hi l.length < f → BX l lo hi → (∀ k, k < l.length → gti lo k ≤ gti hi k ∧ gti hi k ≤ (gti l k).most) → 2 * vol lo hi l.length - 1 ≤ n →
  (prvT d l K f n lo hi).2.1 = true ∧ n - (2 * vol lo hi l.length - 1) ≤ (prvT d l K f n lo hi).2.2 ∧ ∀ m, n ≤ m → rgtE d l K (prvT d l K f n lo hi).1 lo hi m = (true, m - n + (prvT d l K f n lo hi).2.2)
 | 0, n, lo, hi, h, _, _, _ => by omega
 | f + 1, n, lo, hi, hf, hb, ho, hn => by
  obtain ⟨⟨q1, q2, q3⟩, qd, ql⟩ := zb0 hv
  have hvp : 1 ≤ vol lo hi l.length := volW_pos fun i hi => by have := ho i hi; omega
  have leaf : ∀ y, prvB d l lo hi y K = true → ∀ m, n ≤ m → rgtE d l K (.mk 0 0 [] y) lo hi m = (true, m - n + (n - 1)) := fun y hy m hm => by
   rw [rgtE_leaf hy (by omega)]
   congr 1; omega
  unfold prvT
  rw [if_neg (by omega)]
  split
  ·
   rename_i h
   exact ⟨rfl, by dsimp only; omega, leaf _ h.2⟩
  ·
   split
   ·
    rename_i h
    exact ⟨rfl, by dsimp only; omega, leaf _ h⟩
   ·
    rename_i hsim
    have hw := wideF_bd lo hi l.length
    split
    ·
     rename_i hneg
     exfalso
     have heq : lo = hi := list_gti (by rw [hb.l1, hb.l2]) fun i hi' => by
      rw [hb.l1] at hi'
      have h1 := wideF_neg hneg i hi'
      have h2 := ho i hi'
      omega
     subst heq
     refine hsim (simple_point hv ⟨hb.l1, q3, hb.b1⟩ hK (hmin lo ?_))
     rw [cntB_allC, mem_allC]
     exact ⟨hb.l1, fun k hk => ⟨(hb.b1 k hk).1, (ho k hk).2⟩⟩
    ·
     rename_i hneg
     obtain ⟨k, hkk⟩ : ∃ k : Nat, zdk lo hi l.length = k := ⟨(zdk lo hi l.length).toNat, by omega⟩
     rw [hkk] at hw
     simp only [hkk, Int.toNat_natCast] at hw ⊢
     have hkl : k < l.length := by omega
     have hwk := hw.2.2 (by omega)
     obtain ⟨t, ht⟩ : ∃ t, (gti lo k + gti hi k) / 2 = t := ⟨_, rfl⟩
     rw [ht]
     have hbl := hb.b1 k hkl
     have hbh := hb.b2 k hkl
     have hok := ho k hkl
     have t1 : gti lo k ≤ t := by omega
     have t2 : t < gti hi k := by omega
     have hadd : vol lo hi l.length = vol lo (setI hi k t) l.length + vol (setI lo k (t + 1)) hi l.length := by
      unfold vol
      refine volW_add (k := k) ?_ hkl (fun i hi' hne => ?_)
      ·
       rw [setI_gti (by rw [hb.l2]; exact hkl), setI_gti (by rw [hb.l1]; exact hkl), if_pos rfl, if_pos rfl]; omega
      ·
       rw [setI_gti (by rw [hb.l2]; exact hkl), setI_gti (by rw [hb.l1]; exact hkl), if_neg hne, if_neg hne]; exact ⟨rfl, rfl⟩
     have ho1 : ∀ j, j < l.length → gti lo j ≤ gti (setI hi k t) j ∧ gti (setI hi k t) j ≤ (gti l j).most := fun j hj => by
      have := ho j hj
      rw [setI_gti (by rw [hb.l2]; exact hkl)]
      split
      ·
       rename_i e; subst e; omega
      ·
       exact this
     have ho2 : ∀ j, j < l.length → gti (setI lo k (t + 1)) j ≤ gti hi j ∧ gti hi j ≤ (gti l j).most := fun j hj => by
      have := ho j hj
      rw [setI_gti (by rw [hb.l1]; exact hkl)]
      split
      ·
       rename_i e; subst e; omega
      ·
       exact this
     have hp1 : 1 ≤ vol lo (setI hi k t) l.length := volW_pos fun i hi' => by have := ho1 i hi'; omega
     have hp2 : 1 ≤ vol (setI lo k (t + 1)) hi l.length := volW_pos fun i hi' => by have := ho2 i hi'; omega
     have hA := prvT_ok hv hK hmin f (n - 1) lo (setI hi k t) (by have := boxM_hi (lo := lo) (hi := hi) (n := l.length) (k := k) (t := t) hkl (by rw [hb.l2]; exact hkl) t1 t2; omega) (hb.hi hkl (by omega) (by omega)) ho1 (by omega)
     generalize prvT d l K f (n - 1) lo (setI hi k t) = ra at hA ⊢
     obtain ⟨a, oka, na⟩ := ra
     obtain ⟨g1, g2, g3⟩ := hA
     dsimp only at g1 g2 g3 ⊢
     rw [if_neg (by rw [g1]; simp)]
     have hB := prvT_ok hv hK hmin f na (setI lo k (t + 1)) hi (by have := boxM_lo (lo := lo) (hi := hi) (n := l.length) (k := k) (t := t + 1) hkl (by rw [hb.l1]; exact hkl) (by omega) (by omega); omega) (hb.lo hkl (by omega) (by omega)) ho2 (by omega)
     generalize prvT d l K f na (setI lo k (t + 1)) hi = rb at hB ⊢
     obtain ⟨b, okb, nb⟩ := rb
     obtain ⟨k1, k2, k3⟩ := hB
     dsimp only at k1 k2 k3 ⊢
     refine ⟨k1, by omega, fun m hm => ?_⟩
     have hr1 := g3 (m - 1) (by omega)
     have hna := (show na ≤ m - 1 - (n - 1) + na by omega)
     have hr2 := k3 (m - 1 - (n - 1) + na) (by omega)
     rw [rgtE, if_neg (by omega), if_neg (fun h => h ⟨rfl, by omega, by omega, by rw [Int.toNat_natCast]; exact t1, by rw [Int.toNat_natCast]; exact t2⟩)]
     rw [Int.toNat_natCast, hr1]
     dsimp only
     rw [if_neg (by simp), hr2]
     congr 1; omega
end Go.Proofs.Ytllkbjcemecmjaa.Aw
end
section
namespace Go.Proofs.Ytllkbjcemecmjaa.Aw
open Go.RowKit Go.Proofs
variable {P : Program} [IsP P]
end Go.Proofs.Ytllkbjcemecmjaa.Aw
end
section
namespace Go.Proofs.Ytllkbjcemecmjaa.Aw
open Go.RowKit Go.Proofs
variable {P : Program} [IsP P]
theorem equalSelf_pf (a : List Int) : Pure P 20 [eL eI a, eL eI a] (eB true) := by
 refine zcu (by rw [IsP.eq (P := P)]; exact Try.func20) rfl rfl rfl rfl rfl (by repeat' (first | exact Lo.s _ | exact zak | refine zag ?_ ?_ | refine zan ?_ | refine Lo.agg _ ?_ | refine Lo.sl _ ?_ | intro _)) (.s _) (by simp only [argF]; rfl) ?_
 refine zah ?_
 refine aw_bdm (d := 0) rfl (fun hm1 => ?_)
 unfold maxLen at hm1
 refine zab (zac rfl (zae (zah (zah (zab (zac rfl (zaf rfl rfl (zaa rfl) (zao rfl ts22 rfl) (zac rfl (zaf rfl rfl (zaa rfl) (zao rfl ts22 rfl) ?_)))))))))
 refine za3 rfl rfl (zaa rfl) (zbw rfl rfl rfl) (fun h10 => ?_) (fun h10 => ?_)
 all_goals refine zae (zai ?_)
 all_goals (first | refine za7 rfl ?_ | refine za1 rfl ?_)
 all_goals (repeat (first | refine zah ?_ | refine zat ?_))
 ·
  exact absurd rfl h10
 refine zab (zac rfl (zaf rfl rfl (zaa rfl) (zao rfl ts22 rfl) (zac rfl (zae (zai (zaw ?_))))))
 refine zca (S := Nat) (fun k => [(0, eL eI a), (1, eL eI a), (12, eI a.length), (13, eI k)]) (fun _ => []) (fun k => k ≤ a.length) (fun k => a.length - k) 0 (zck [] (by decide) trivial ⟨.lo _ (zan fun _ => .s _), .lo _ (zan fun _ => .s _), .lo _ (.s _), .lo _ (.s _), trivial⟩) (Nat.zero_le _) (fun k hk => ?_)
 refine zah (zab ?_)
 refine za3 rfl rfl (zaa rfl) (za4 rfl rfl rfl) (fun h14 => ?_) (fun h14 => ?_)
 all_goals refine zae (zah ?_)
 all_goals (first | refine za7 rfl ?_ | refine za1 rfl ?_)
 all_goals (repeat (first | refine zah ?_ | refine zat ?_ | refine zaw ?_))
 ·
  have hlt : k < a.length := by omega
  refine zab (zac rfl (zac rfl (zae (zah ?_))))
  refine zcj hmix ?_
  refine zcm (by kernel_rfl) ?_
  refine qx_s rfl (qx_s rfl (zcn rfl rfl (zaa rfl) (zal rfl ts22 ti3 rfl rfl rfl (zbd (by omega)) rfl) (qx_l ta3 rfl (qx_s rfl (qx_s rfl (zcn rfl rfl (zaa rfl) (zal rfl ts22 ti3 rfl rfl rfl (zbd (by omega)) rfl) (qx_l ta3 rfl ?_)))))))
  refine qx_opP rfl rfl (zaa rfl) (zbw rfl rfl rfl) (fun h24 => ?_) (fun h24 => ?_)
  all_goals refine qx_nil ?_
  all_goals refine zai ?_
  all_goals (first | refine za7 rfl ?_ | refine za1 rfl ?_)
  all_goals (repeat (first | refine zah ?_ | refine zai ?_ | refine zat ?_ | refine zbu ?_))
  ·
   exact absurd rfl h24
  ·
   refine zab (zaf rfl rfl (zaa rfl) (zav rfl rfl rfl (IntWalk.i64_in _ (by omega))) (zac rfl (zae (zai ?_))))
   exact ⟨k + 1, by omega, by omega, zck [] (by decide) trivial ⟨.lo _ (zan fun _ => .s _), .lo _ (zan fun _ => .s _), .lo _ (.s _), .lo _ (.s _), trivial⟩⟩
 ·
  (refine zcl ?_; repeat (first | refine zc3 ?_ | refine zb2 ?_ | refine zbq rfl ?_ | refine zbu ?_ | refine zai ?_ | refine zah ?_ | refine zat ?_ | refine zaw ?_))
  refine zab (zac rfl (zae (zai ?_)))
  (refine za8 ?_; repeat (first | refine zbg ?_ | refine zbh ?_))
  exact zcb (.inr rfl) rfl rfl
def exD : List Int := [1, 2, 1]
def exL : List Sft := [⟨[0, 1], 3, 2⟩, ⟨[1, 2], 4, 2⟩]
def exY2 : List Fr := [⟨3, 1⟩, ⟨0, 1⟩, ⟨4, 1⟩]
theorem chk2 : chkE exD exL ⟨[1, 1], 7⟩ (.mk 0 0 [] exY2) = true := by kernel_rfl
theorem chk_ex (y : List Fr) (h : chkE exD exL ⟨[1, 1], 7⟩ (.mk 0 0 [] y) = true) : Pure P 14 [eL eI exD, eL eSh exL, ePl ⟨[1, 1], 7⟩, .agg [eI 0, eI 0, .sl [], eL eF y]] (eB true) := by
 have := check_pf (P := P) exD exL ⟨[1, 1], 7⟩ (.mk 0 0 [] y)
 rw [h, eBr_mk] at this
 exact this
end Go.Proofs.Ytllkbjcemecmjaa.Aw
end
