/-
  Texts joined: FtA, AwU, FtB. Conditions: none.
-/
import Derived.Test.YtmhbfoaecebobaaJF10
import Derived.Test.YtmhbfoaecebobaaJF5
import Derived.Test.YtmhbfoaecebobaaJF7
import Derived.Test.YtmhbfoaecebobaaJF15
section
namespace Go.Proofs.Ytmhbfoaecebobaa.Aw
set_option linter.unusedSimpArgs false
set_option linter.unusedVariables false
open Go.RowKit Go.Proofs
variable {P : Program} [IsP P]

/-- two lists of numbers -/
theorem argsII {G : Cx} {vargs : Array Value} {a b : List Int} (hst : ∀ b o, G.St b o → b < G.w.heap.size) (hsz : vargs.size = [eL eI a, eL eI b].length) (hrep : ∀ (j : Nat) v y, vargs[j]? = some v → [eL eI a, eL eI b][j]? = some y → Rep G v y) :
    ∃ x y, vargs = #[x, y] ∧ RdI G.w 0 G.w.heap.size x a ∧ RdI G.w 0 G.w.heap.size y b := by
  obtain ⟨q⟩ := vargs
  match q, hsz with
  | [x, y], _ => exact ⟨x, y, rfl, rep_rdI (hrep 0 x _ rfl rfl) hst, rep_rdI (hrep 1 y _ rfl rfl) hst⟩
theorem argsI {G : Cx} {vargs : Array Value} {a : List Int} (hst : ∀ b o, G.St b o → b < G.w.heap.size) (hsz : vargs.size = [eL eI a].length) (hrep : ∀ (j : Nat) v y, vargs[j]? = some v → [eL eI a][j]? = some y → Rep G v y) :
    ∃ x, vargs = #[x] ∧ RdI G.w 0 G.w.heap.size x a := by
  obtain ⟨q⟩ := vargs
  match q, hsz with
  | [x], _ => exact ⟨x, rfl, rep_rdI (hrep 0 x _ rfl rfl) hst⟩
theorem eqI_pf (a b : List Int) : Pure P 12 [eL eI a, eL eI b] (eB (decide (a = b))) :=
  retB_pure (ent_of Try.func12 rfl rfl) fun G vargs hst hsz hrep => by
    obtain ⟨x, y, rfl, h1, h2⟩ := argsII hst hsz hrep
    exact equalI_any a b _ _ _ _ x y G.w h1 h2
theorem Fire_pf (n : Net) (m : List Int) (t : Int) : Pure P 45 [eN n, eL eI m, eI t] (.tup [eL eI (FireE n m t).1, eI (FireE n m t).2]) :=
  retI_pure (ent_of Try.func45 rfl rfl) fun G vargs hst hsz hrep => by
    obtain ⟨vt, v, rfl, h1, h2⟩ := args3 hst hsz hrep
    exact Fire_any n m t vt v _ _ _ _ G.w h1 h2
theorem initial_pf (n : Net) : Pure P 29 [eN n] (.tup [eL eI (oneE n n.source).1, eI (oneE n n.source).2]) :=
  retI_pure (ent_of Try.func29 rfl rfl) fun G vargs hst hsz hrep => by
    obtain ⟨vt, rfl, h1⟩ := args1 hst hsz hrep
    exact initial_any n vt _ _ G.w h1
theorem final_pf (n : Net) : Pure P 42 [eN n] (.tup [eL eI (oneE n n.sink).1, eI (oneE n n.sink).2]) :=
  retI_pure (ent_of Try.func42 rfl rfl) fun G vargs hst hsz hrep => by
    obtain ⟨vt, rfl, h1⟩ := args1 hst hsz hrep
    exact final_any n vt _ _ G.w h1
theorem key_pf (m : List Int) (hm : ∀ x ∈ m, 0 ≤ x ∧ x ≤ 255) (hl : m.length ≤ 1000) (hne : m ≠ []) : Pure P 44 [eL eI m] (eS ⟨(keyL m).toArray⟩) :=
  pure_prog (pure_mk (ent_of Try.func44 rfl rfl) (.s _) fun G vargs hst hsz hrep => by
    obtain ⟨x, rfl, h1⟩ := argsI hst hsz hrep
    refine (key_any m _ _ x G.w h1 hm hl hne).mono ?_
    rintro e w' ⟨rfl, hb⟩
    exact ⟨_, rfl, hb, .s _⟩)
theorem pureO_prog {f : FuncId} {args : List AV} {sz : Nat} {cs : List AV} (h : PureO Try.prog f args sz cs) : PureO P f args sz cs := by rw [IsP.eq (P := P)]; exact h
theorem clone_po (l : List Int) (hl : l.length ≤ 1000000) : PureO P 46 [eL eI l] 1 (l.map eI) :=
  pureO_prog ⟨ent_enters (ent_of Try.func46 rfl rfl), fun G vargs hst hsz hrep => by
    obtain ⟨x, rfl, h1⟩ := argsI hst hsz hrep
    refine (clone_any l x _ _ G.w h1 hl).mono ?_
    rintro e w' ⟨A, c, rfl, ho, hb⟩
    refine ⟨_, rfl, hb, ?_⟩
    rcases ho.1.2 with ⟨h2, h3⟩ | ⟨g, cap, cur, hv, hg, hh, h5, h6, h7, h8⟩
    · left
      injection h2 with e1 e2 e3
      have : l = [] := List.eq_nil_of_length_eq_zero h3
      subst this
      exact ⟨by rw [e1, e3]; rfl, rfl⟩
    · right
      injection hv with e1 e2 e3
      refine ⟨g, c, cur, _, by rw [e1, List.length_map], hg, hh, by rw [e3]; exact h7, by rw [List.length_map, e3]; exact h5, by rw [e3]; exact h6, fun k e hk => ?_⟩
      rw [List.getElem?_map] at hk
      cases hx : l[k]? with
      | none => rw [hx] at hk; cases hk
      | some a =>
        rw [hx] at hk
        cases hk
        refine ⟨rfl, fun j c hc => ?_⟩
        cases j with
        | succ j => simp [eI, AV.cells] at hc
        | zero =>
          simp [eI, AV.cells] at hc
          subst hc
          refine ⟨.int .i64 a, ?_, rfl, rfl⟩
          have hf := flatMap_get (size := 1) (enc := encI) (by simp) l k a 0 (.int .i64 a) hx rfl
          rw [← h8, List.getElem?_take] at hf
          split at hf
          · simpa using hf
          · cases hf⟩
end Go.Proofs.Ytmhbfoaecebobaa.Aw
end
section
namespace Go.Proofs.Ytmhbfoaecebobaa.Aw
set_option linter.unusedSimpArgs false
set_option linter.unusedVariables false
open Go Go.Proofs Go.RowKit
theorem mv_mp {P : Program} {o : Oper} {F : Frm} {σ : List Ob} {y : Operand} {id : Nat} (ho : o.op = .move y ∨ o.op = .assign y) (hx : F.eval y = .mp id) : Does P o F σ (.mp id) σ := does_mv ho hx
theorem ObRn.mpE {ρ : List Nat} {P : Program} {kt el : TypeId} {n n' : Nat} {D D' : DataW Unit} (hn : n ≤ n') (hD : D = D') : ObRn ρ (.mp ⟨P, kt, el, n, D⟩) (.mp ⟨P, kt, el, n', D'⟩) := by
  subst hD
  exact .mp ⟨P, kt, el, n, D⟩ n' hn
end Go.Proofs.Ytmhbfoaecebobaa.Aw
end
section
namespace Go.Proofs.Ytmhbfoaecebobaa.Aw
set_option linter.unusedSimpArgs false
set_option linter.unusedVariables false
open Go Go.RowKit Go.Proofs Go.Maps Go.WideMaps

def keyN (x : Nd) : List UInt8 := keyL (x.k :: x.m)
def seenR : List Nd → DataW Unit
  | [] => .map []
  | x :: l => (seenR l).put (.string (keyN x)) (.lit (.bool true))
def seenQ (q : List Nd) : DataW Unit := seenR q.reverse
theorem seenQ_snoc (q : List Nd) (x : Nd) : seenQ (q ++ [x]) = (seenQ q).put (.string (keyN x)) (.lit (.bool true)) := by
  unfold seenQ
  rw [List.reverse_append]; rfl
theorem seenR_map : ∀ l, IsMap (seenR l)
  | [] => isMap_empty
  | x :: l => (seenR_map l).put _ _
theorem seenR_look (k : List UInt8) : ∀ l : List Nd, (seenR l).atKey (.string k) (.lit (.bool false)) = .lit (.bool (decide (k ∈ l.map keyN)))
  | [] => by simp [seenR, DataW.atKey]
  | x :: l => by
    by_cases e : k = keyN x
    · subst e
      rw [seenR, atKey_put_same (seenR_map l) (by first | trivial | simp [WideAt.IsKeyLit])]
      simp
    · rw [seenR, atKey_put_other (by intro h; injection h with h; exact e h), seenR_look k l]
      simp [e]
theorem qf_small {n : Net} {w : List ByteArray} {q : List Nd} (h : QF n w q) (hw : w.length ≤ 200) : ∀ y ∈ q, ∀ x ∈ y.k :: y.m, 0 ≤ x ∧ x ≤ 255 := by
  intro y hy x hx
  obtain ⟨i, hi, rfl⟩ := List.mem_iff_getElem.1 hy
  have e : gti q i = q[i] := by unfold gti; rw [List.getElem?_eq_getElem hi]; rfl
  obtain ⟨a1, a2, a3, _⟩ := h.at_ i hi
  rw [e] at a1 a2 a3
  rcases List.mem_cons.1 hx with rfl | hx
  · omega
  · exact markB_small a1 x hx
/-- looking a position up -/
theorem seenQ_look {n : Net} {w : List ByteArray} {q : List Nd} (h : QF n w q) (hw : w.length ≤ 200) {k : Int} {m : List Int} (hkm : ∀ x ∈ k :: m, 0 ≤ x ∧ x ≤ 255) : (seenQ q).atKey (.string (keyL (k :: m))) (.lit (.bool false)) = .lit (.bool (decide ((k, m) ∈ q.map nkey))) := by
  unfold seenQ
  rw [seenR_look]
  congr 2
  rw [decide_eq_decide]
  simp only [List.mem_map, List.mem_reverse]
  constructor
  · rintro ⟨y, hy, e⟩
    have := keyL_inj (qf_small h hw y hy) hkm e
    injection this with e1 e2
    exact ⟨y, hy, by unfold nkey; rw [e1, e2]⟩
  · rintro ⟨y, hy, e⟩
    unfold nkey at e
    injection e with e1 e2
    exact ⟨y, hy, by unfold keyN; rw [e1, e2]⟩
section
variable {P : Program} [IsP P]
/-- a position's key, as one string -/
theorem seen_key {n : Net} {w : List ByteArray} {q : List Nd} (h : QF n w q) (hw : w.length ≤ 200) {k : Int} {m : List Int} (hkm : ∀ x ∈ k :: m, 0 ≤ x ∧ x ≤ 255) (hl : m.length ≤ 900) :
    ∃ kb : ByteArray, Pure P 44 [eL eI (k :: m)] (eS kb) ∧ kb.size ≤ maxLen ∧ (seenQ q).atKey (.string kb.data.toList) (.lit (.bool false)) = .lit (.bool (decide ((k, m) ∈ q.map nkey))) ∧ ∀ run, (seenQ q).put (.string kb.data.toList) (.lit (.bool true)) = seenQ (q ++ [⟨k, m, run⟩]) := by
  refine ⟨⟨(keyL (k :: m)).toArray⟩, key_pf (k :: m) hkm (by simp; omega) (by simp), ?_, ?_, fun run => ?_⟩
  · have := keyL_len (k :: m)
    simp only [ByteArray.size, List.size_toArray, maxLen]
    simp only [List.length_cons] at this
    omega
  · exact seenQ_look h hw hkm
  · exact (seenQ_snoc q ⟨k, m, run⟩).symm
theorem done_pf (x : Nd) (w : List ByteArray) (fin : List Int) : Pure P 43 [eNd x, .ref [eL eS w], .ref [eL eI fin]] (eB (decide (x.k = w.length) && decide (x.m = fin))) := by
  have he := eqI_pf (P := P) x.m fin
  refine aw_fn (by rw [IsP.eq (P := P)]; exact Try.func43) rfl rfl rfl rfl rfl (by repeat' (first | exact Lo.s _ | exact Lo.emp | exact Lo.any | exact lo_nil | exact lo_nilE | refine lo_cons ?_ ?_ | refine lo_consE ?_ ?_ | refine lo_map ?_ | refine lo_mapE ?_ | refine Lo.cells ?_ | refine Lo.agg _ ?_ | refine Lo.ref _ ?_ | refine Lo.tup _ ?_ | refine Lo.fn _ _ ?_ | refine Lo.sl _ ?_ | intro _)) (by repeat' (first | exact Lo.s _ | exact Lo.emp | exact Lo.any | exact lo_nil | exact lo_nilE | refine lo_cons ?_ ?_ | refine lo_consE ?_ ?_ | refine lo_map ?_ | refine lo_mapE ?_ | refine Lo.cells ?_ | refine Lo.agg _ ?_ | refine Lo.ref _ ?_ | refine Lo.tup _ ?_ | refine Lo.fn _ _ ?_ | refine Lo.sl _ ?_ | intro _)) (by simp only [argF]; rfl) ?_
  repeat (first | refine aw_seq ?_ | refine ath_n ?_ | refine aw_skip ?_ | refine abl_n ?_ | refine aw_block ?_)
  refine aw_region ?_
  refine ops_op rfl rfl (runs_none rfl) (does_box rfl rfl rfl rfl) ?_
  refine aops_weak (wk_froz (id := 0) rfl) (aops_weak (wk_ref (d := 3) rfl rfl rfl) ?_)
  refine ops_op rfl rfl (runs_none rfl) (mv_s (.inr rfl) rfl) ?_
  refine ops_nil ?_
  repeat (first | refine aw_seq ?_ | refine ath_n ?_ | refine aw_skip ?_ | refine abl_n ?_ | refine aw_block ?_)
  by_cases hk : x.k = w.length
  · skip
    refine aw_region ?_
    first | refine ops_op rfl rfl (runs_none rfl) (does_fieldAddr_ptr rfl tf86_0 (by decide) rfl) ?_ | refine ops_op rfl rfl (runs_none rfl) (does_fieldAddr_ref rfl tf86_0 (by decide) rfl) ?_
    first | refine ops_op rfl rfl (runs_none rfl) (does_load_ref rfl ta3 rfl) ?_ | refine ops_op rfl rfl (runs_none rfl) (does_load_ptr rfl ta3 rfl rfl rfl rfl rfl) ?_
    first | refine ops_op rfl rfl (runs_none rfl) (does_load_ref rfl ta25 rfl) ?_ | refine ops_op rfl rfl (runs_none rfl) (does_load_ptr rfl ta25 rfl rfl rfl rfl rfl) ?_
    first | refine ops_op rfl rfl (runs_none rfl) (does_len_map rfl ts25 rfl) ?_ | refine ops_op rfl rfl (runs_none rfl) (does_len_sl rfl ts25 rfl) ?_ | refine ops_op rfl rfl (runs_none rfl) (does_len_own rfl ts25 rfl) ?_ | refine ops_op rfl rfl (runs_none rfl) (does_len_s rfl ts25 rfl) ?_ | refine ops_op rfl rfl (runs_none rfl) (does_len_emp rfl ts25 rfl) ?_
    refine ops_op rfl rfl (runs_none rfl) (dec_t hk (does_eql rfl rfl rfl)) ?_
    refine ops_op rfl rfl (runs_none rfl) (mv_s (.inl rfl) rfl) ?_
    first | refine ops_op rfl rfl (runs_y rfl rfl rfl) (does_fieldAddr_ptr rfl tf86_1 (by decide) rfl) ?_ | refine ops_op rfl rfl (runs_y rfl rfl rfl) (does_fieldAddr_ref rfl tf86_1 (by decide) rfl) ?_ | refine ops_skip rfl rfl (runs_nt rfl rfl rfl) ?_ | refine ops_skip rfl rfl (runs_nu rfl rfl rfl) ?_
    first | refine ops_op rfl rfl (runs_y rfl rfl rfl) (does_load_ref rfl ta30 rfl) ?_ | refine ops_op rfl rfl (runs_y rfl rfl rfl) (does_load_ptr rfl ta30 rfl rfl rfl rfl rfl) ?_ | refine ops_skip rfl rfl (runs_nt rfl rfl rfl) ?_ | refine ops_skip rfl rfl (runs_nu rfl rfl rfl) ?_
    first | refine ops_op rfl rfl (runs_y rfl rfl rfl) (does_load_ref rfl ta30 rfl) ?_ | refine ops_op rfl rfl (runs_y rfl rfl rfl) (does_load_ptr rfl ta30 rfl rfl rfl rfl rfl) ?_ | refine ops_skip rfl rfl (runs_nt rfl rfl rfl) ?_ | refine ops_skip rfl rfl (runs_nu rfl rfl rfl) ?_
    first | refine ops_op rfl rfl (runs_y rfl rfl rfl) (does_call rfl rfl (he) (evc_cons rfl (evc_cons rfl evc_nil))) ?_ | refine ops_skip rfl rfl (runs_nt rfl rfl rfl) ?_ | refine ops_skip rfl rfl (runs_nu rfl rfl rfl) ?_
    first | refine ops_op rfl rfl (runs_none rfl) (pickT_s rfl rfl rfl) ?_ | refine ops_op rfl rfl (runs_none rfl) (pickF_s rfl rfl rfl) ?_ | refine ops_op rfl rfl (runs_none rfl) (does_pickT rfl rfl rfl) ?_ | refine ops_op rfl rfl (runs_none rfl) (does_pickF rfl rfl rfl) ?_
    refine ops_op rfl rfl (runs_none rfl) (mv_s (.inr rfl) rfl) ?_
    refine ops_nil ?_
    repeat (first | refine aw_seq ?_ | refine ath_n ?_ | refine aw_skip ?_ | refine abl_n ?_ | refine aw_block ?_)
    (refine aw_ret ?_; repeat (first | refine ath_r ?_ | refine abl_r ?_))
    exact post1 (.inr rfl) rfl (congrArg eB (by rw [decide_eq_true hk, Bool.true_and]))
  · skip
    refine aw_region ?_
    first | refine ops_op rfl rfl (runs_none rfl) (does_fieldAddr_ptr rfl tf86_0 (by decide) rfl) ?_ | refine ops_op rfl rfl (runs_none rfl) (does_fieldAddr_ref rfl tf86_0 (by decide) rfl) ?_
    first | refine ops_op rfl rfl (runs_none rfl) (does_load_ref rfl ta3 rfl) ?_ | refine ops_op rfl rfl (runs_none rfl) (does_load_ptr rfl ta3 rfl rfl rfl rfl rfl) ?_
    first | refine ops_op rfl rfl (runs_none rfl) (does_load_ref rfl ta25 rfl) ?_ | refine ops_op rfl rfl (runs_none rfl) (does_load_ptr rfl ta25 rfl rfl rfl rfl rfl) ?_
    first | refine ops_op rfl rfl (runs_none rfl) (does_len_map rfl ts25 rfl) ?_ | refine ops_op rfl rfl (runs_none rfl) (does_len_sl rfl ts25 rfl) ?_ | refine ops_op rfl rfl (runs_none rfl) (does_len_own rfl ts25 rfl) ?_ | refine ops_op rfl rfl (runs_none rfl) (does_len_s rfl ts25 rfl) ?_ | refine ops_op rfl rfl (runs_none rfl) (does_len_emp rfl ts25 rfl) ?_
    refine ops_op rfl rfl (runs_none rfl) (dec_f hk (does_eql rfl rfl rfl)) ?_
    refine ops_op rfl rfl (runs_none rfl) (mv_s (.inl rfl) rfl) ?_
    first | refine ops_op rfl rfl (runs_y rfl rfl rfl) (does_fieldAddr_ptr rfl tf86_1 (by decide) rfl) ?_ | refine ops_op rfl rfl (runs_y rfl rfl rfl) (does_fieldAddr_ref rfl tf86_1 (by decide) rfl) ?_ | refine ops_skip rfl rfl (runs_nt rfl rfl rfl) ?_ | refine ops_skip rfl rfl (runs_nu rfl rfl rfl) ?_
    first | refine ops_op rfl rfl (runs_y rfl rfl rfl) (does_load_ref rfl ta30 rfl) ?_ | refine ops_op rfl rfl (runs_y rfl rfl rfl) (does_load_ptr rfl ta30 rfl rfl rfl rfl rfl) ?_ | refine ops_skip rfl rfl (runs_nt rfl rfl rfl) ?_ | refine ops_skip rfl rfl (runs_nu rfl rfl rfl) ?_
    first | refine ops_op rfl rfl (runs_y rfl rfl rfl) (does_load_ref rfl ta30 rfl) ?_ | refine ops_op rfl rfl (runs_y rfl rfl rfl) (does_load_ptr rfl ta30 rfl rfl rfl rfl rfl) ?_ | refine ops_skip rfl rfl (runs_nt rfl rfl rfl) ?_ | refine ops_skip rfl rfl (runs_nu rfl rfl rfl) ?_
    first | refine ops_op rfl rfl (runs_y rfl rfl rfl) (does_call rfl rfl (by assumption) (evc_cons rfl (evc_cons rfl evc_nil))) ?_ | refine ops_skip rfl rfl (runs_nt rfl rfl rfl) ?_ | refine ops_skip rfl rfl (runs_nu rfl rfl rfl) ?_
    first | refine ops_op rfl rfl (runs_none rfl) (pickT_s rfl rfl rfl) ?_ | refine ops_op rfl rfl (runs_none rfl) (pickF_s rfl rfl rfl) ?_ | refine ops_op rfl rfl (runs_none rfl) (does_pickT rfl rfl rfl) ?_ | refine ops_op rfl rfl (runs_none rfl) (does_pickF rfl rfl rfl) ?_
    refine ops_op rfl rfl (runs_none rfl) (mv_s (.inr rfl) rfl) ?_
    refine ops_nil ?_
    repeat (first | refine aw_seq ?_ | refine ath_n ?_ | refine aw_skip ?_ | refine abl_n ?_ | refine aw_block ?_)
    (refine aw_ret ?_; repeat (first | refine ath_r ?_ | refine abl_r ?_))
    exact post1 (.inr rfl) rfl (congrArg eB (by rw [decide_eq_false hk, Bool.false_and]))
end
end Go.Proofs.Ytmhbfoaecebobaa.Aw
end
