import Derived.Test.YtllkbjcemecmjaaGreatJB1
import Derived.Deep.AppendLies
import Derived.Laws.MakeOwn
import Derived.StringKeys
import Derived.Maps.Keyed
import Derived.Carry
set_option linter.unusedSimpArgs false
set_option linter.unusedVariables false
set_option linter.unusedSectionVars false
section
namespace Go.Proofs.YtllkbjcemecmjaaGreat.Aw
open Go.RowKit
inductive Src (σ : List Ob) (sz : Nat) : AV → List AV → Prop
 | sl (l : List AV) (h : ∀ e ∈ l, e.cells.length = sz) : Src σ sz (.sl l) l
 | emp : Src σ sz .emp []
 | nil : Src σ sz (.s (.slice none 0 0)) []
 | own (id : Nat) (ob : Ob) (cs : List AV) (hs : σ[id]? = some ob) (ho : rowOf ob = some (sz, cs)) (n : Nat) (hn : n = cs.length) : Src σ sz (.own id sz n) cs
 | pre (id : Nat) (ob : Ob) (cs : List AV) (hs : σ[id]? = some ob) (ho : rowOf ob = some (sz, cs)) (n : Nat) (hn : n ≤ cs.length) : Src σ sz (.own id sz n) (cs.take n)
 | sub (id : Nat) (ob : Ob) (cs : List AV) (hs : σ[id]? = some ob) (ho : rowOf ob = some (sz, cs)) (i n : Nat) (hn : i + n ≤ cs.length) : Src σ sz (.sub id sz i n) ((cs.drop i).take n)
structure Vals (G : Cx) (sz : Nat) (A : Option Addr) (l : List AV) (news : List Value) : Prop where
 len : news.length = l.length * sz
 one : ∀ u ∈ news, u.oneCell' = true
 rep : ∀ (k : Nat) e, l[k]? = some e → e.cells.length = sz ∧ (∀ c ∈ e.cells, c.one = true) ∧ ∀ (j : Nat) c, e.cells[j]? = some c → ∃ u, news[k * sz + j]? = some u ∧ Rep G u c
 at_ : ∀ a, A = some a → ∀ (j : Nat) u, news[j]? = some u → G.w.cell? (a.add j) = some u
 nil : A = none → l = []
theorem vals_of {G : Cx} {b o sz : Nat} {l : List AV} (hsz : 0 < sz) (h : ∀ (k : Nat) e, l[k]? = some e → e.cells.length = sz ∧ (∀ c ∈ e.cells, c.one = true) ∧ ∀ (j : Nat) c, e.cells[j]? = some c → ∃ u, G.w.cell? ⟨b, o + k * sz + j, none⟩ = some u ∧ Rep G u c) : ∃ news, Vals G sz (some ⟨b, o, none⟩) l news := by
 have key : ∀ i, i < l.length * sz → ∃ u, G.w.cell? ⟨b, o + i, none⟩ = some u ∧ u.oneCell' = true := by
  intro i hi
  have hk : i / sz < l.length := Nat.div_lt_of_lt_mul (by rw [Nat.mul_comm]; exact hi)
  obtain ⟨h1, h2, h3⟩ := h (i / sz) _ (List.getElem?_eq_getElem hk)
  have hj : i % sz < (l[i / sz]).cells.length := by rw [h1]; exact Nat.mod_lt _ hsz
  obtain ⟨u, h4, h5⟩ := h3 (i % sz) _ (List.getElem?_eq_getElem hj)
  refine ⟨u, ?_, h5.one (h2 _ (List.getElem_mem hj))⟩
  rw [Nat.add_assoc] at h4
  rwa [Nat.mul_comm, Nat.div_add_mod] at h4
 refine ⟨(List.range (l.length * sz)).map fun i => (G.w.cell? ⟨b, o + i, none⟩).getD undef, by simp, fun u hu => ?_, fun k e hk => ?_, fun a ha j u hu => ?_, fun hA => by cases hA⟩
 ·
  obtain ⟨i, hi, rfl⟩ := List.mem_map.1 hu
  obtain ⟨v, h1, h2⟩ := key i (by simpa using hi)
  rw [h1]; exact h2
 ·
  obtain ⟨h1, h2, h3⟩ := h k e hk
  refine ⟨h1, h2, fun j c hc => ?_⟩
  obtain ⟨u, h4, h5⟩ := h3 j c hc
  have hj : j < sz := by have := (List.getElem?_eq_some_iff.1 hc).1; omega
  have hk2 : k < l.length := (List.getElem?_eq_some_iff.1 hk).1
  have hlt : k * sz + j < l.length * sz := by
   have : (k + 1) * sz ≤ l.length * sz := Nat.mul_le_mul_right _ hk2
   rw [Nat.add_mul] at this; omega
  rw [Nat.add_assoc] at h4
  exact ⟨u, by simp [hlt, h4], h5⟩
 ·
  cases ha
  have hlt : j < l.length * sz := by
   have := (List.getElem?_eq_some_iff.1 hu).1
   simpa using this
  obtain ⟨v, h1, h2⟩ := key j hlt
  simp [hlt, h1] at hu
  subst hu
  rw [Addr.add_lit]; exact h1
theorem vals_nil (G : Cx) (sz : Nat) (A : Option Addr) : Vals G sz A [] [] := ⟨by simp, by simp, by simp, by simp, fun _ => rfl⟩
theorem src_vals {G : Cx} {σ : List Ob} {sz : Nat} {x : AV} {l : List AV} {v : Value} (hsz : 0 < sz) (hr : Rel G σ) (h : Src σ sz x l) (hv : Rep G v x) : ∃ A c news, v = .slice A l.length c ∧ Vals G sz A l news := by
 have own : ∀ (id : Nat) (ob : Ob) (cs : List AV) (n : Nat), σ[id]? = some ob → rowOf ob = some (sz, cs) → n ≤ cs.length → Rep G v (.own id sz n) → ∃ A c news, v = .slice A (cs.take n).length c ∧ Vals G sz A (cs.take n) news := by
  intro id ob cs n hs ho hn hv
  cases hv with
  | own0 _ _ A hA hm => exact ⟨A, 0, [], by simp, by simpa using vals_nil G sz A⟩
  | own _ _ _ b cap hm hn2 hc hb =>
   have key : ∃ news, Vals G sz (some ⟨b, 0, none⟩) (cs.take n) news := vals_of hsz fun k e he => by
    rw [List.getElem?_take] at he
    split at he
    ·
     obtain ⟨f, h1, h2, h3⟩ := row_read hr hs ho hm he
     refine ⟨h1, h2, fun j c hc => ⟨f j, ?_, (h3 j c hc).2⟩⟩
     rw [Nat.zero_add]
     exact (h3 j c hc).1
    ·
     cases he
   obtain ⟨news, h1⟩ := key
   exact ⟨_, cap, news, by simp [Nat.min_eq_left hn], h1⟩
 cases h with
 | sl _ h =>
  cases hv with
  | slnil A cap => exact ⟨A, cap, [], rfl, vals_nil G sz A⟩
  | sl b i cap sz' _ val hc hmx h1 h2 h3 =>
   have key : ∃ news, Vals G sz (some ⟨b, i, none⟩) l news := vals_of hsz fun k e he => by
    obtain ⟨h4, h5⟩ := h1 k e he
    have h6 : sz' = sz := h4.symm.trans (h e (List.mem_of_getElem? he))
    subst h6
    exact ⟨h4, h5, fun j c hc => ⟨val k j, (h2 k e j c he hc).2, h3 k e j c he hc⟩⟩
   obtain ⟨news, h4⟩ := key
   exact ⟨_, cap, news, rfl, h4⟩
 | emp => cases hv with | emp A hA => exact ⟨A, 0, [], rfl, vals_nil G sz A⟩
 | nil => cases hv; exact ⟨none, 0, [], rfl, vals_nil G sz none⟩
 | own id ob _ hs ho n hn =>
  have := own id ob l n hs ho xd hv
  rwa [hn, List.take_length] at this
 | pre id ob cs hs ho n hn => exact own id ob cs n hs ho hn hv
 | sub id ob cs hs ho i n hn =>
  cases hv with
  | sub _ _ _ _ b cap A hm hA _ =>
   have hlen : ((cs.drop i).take n).length = n := by rw [List.length_take, List.length_drop]; omega
   rcases Nat.eq_zero_or_pos n with rfl | hp
   ·
    exact ⟨A, cap, [], by simp, by simpa using vals_nil G sz A⟩
   ·
    have key : ∃ news, Vals G sz (some ⟨b, i * sz, none⟩) ((cs.drop i).take n) news := vals_of hsz fun k e he => by
     rw [List.getElem?_take] at he
     split at he
     ·
      rw [List.getElem?_drop] at he
      obtain ⟨f, h1, h2, h3⟩ := row_read hr hs ho hm he
      refine ⟨h1, h2, fun j c hc => ⟨f j, ?_, (h3 j c hc).2⟩⟩
      rw [show i * sz + k * sz + j = (i + k) * sz + j by rw [Nat.add_mul]]
      exact (h3 j c hc).1
     ·
      cases he
    obtain ⟨news, h1⟩ := key
    rw [hA hp]
    exact ⟨_, cap, news, by rw [hlen], h1⟩
section
variable {P : Program} {o : Oper} {F : Frm} {σ : List Ob}
theorem run_append_in {t ty e : TypeId} {z : Option Value} {sz bt : Nat} (ht : zcd P t = some e) (hi : zb5 P e = some (z, sz, bt)) (w : World) (g n cap : Nat) (cur : Array Value) (te : TypeId) (hg : w.heap[g]? = some (.cells cur te (0, 0)))
  (A : Option Addr) (m c : Nat) (news : List Value) (hl : news.length = m * sz) (hA : A = none → m = 0) (hnews : ∀ a, A = some a → ∀ (j : Nat) u, news[j]? = some u → w.cell? (a.add j) = some u) (h1 : ∀ u ∈ news, u.oneCell' = true)
  (hroom : n + m ≤ cap) (hfit : n * sz + news.length ≤ cur.size) :
  (Builtin.append_ #[t, t] ty #[.slice (some ⟨g, 0, none⟩) n cap, .slice A m c]).run P w = .ok (.slice (some ⟨g, 0, none⟩) (n + m) cap) (w.setRow g (cur.toList.take (n * sz) ++ news ++ cur.toList.drop (n * sz + news.length)).toArray) := by
 have hf : (Builtin.firstCells sz m (.slice A m c)).run P w = .ok news.toArray w := by
  cases A with
  | none =>
   have := hA rfl
   subst this
   have : news = [] := List.eq_nil_of_length_eq_zero (by simpa using hl)
   subst this
   simp [Builtin.firstCells]
  | some a => exact run_firstCells_some (P := P) w sz m a m c news hl (hnews a rfl)
 have hst := run_storeCells_at P g (n * sz) te news 0 cur w hg (by simpa using hfit) h1
 simp only [Nat.add_zero] at hst
 simp [Builtin.append_, run_underlying (zdv ht), zcw hi, Builtin.lenOf, hroom, hf, Addr.add_lit, hst]
theorem run_append_new {t ty e : TypeId} {z : Value} {sz bt : Nat} (ht : zcd P t = some e) (hi : zb5 P e = some (some z, sz, bt)) (w : World) (B : Option Addr) (n cap : Nat) (olds : List Value) (hlo : olds.length = n * sz) (hB : B = none → n = 0) (holds : ∀ b, B = some b → ∀ (j : Nat) u, olds[j]? = some u → w.cell? (b.add j) = some u)
  (A : Option Addr) (m c : Nat) (news : List Value) (hl : news.length = m * sz) (hA : A = none → m = 0) (hnews : ∀ a, A = some a → ∀ (j : Nat) u, news[j]? = some u → w.cell? (a.add j) = some u)
  (hroom : cap < n + m) (h63 : n + m ≤ 9223372036854775807) (hby : (n + m) * bt ≤ 140737488355328) :
  (Builtin.append_ #[t, t] ty #[.slice B n cap, .slice A m c]).run P w = .ok (.slice (some ⟨w.heap.size, 0, none⟩) (n + m) (grownCap w (n + m) cap e))
    (w.drew.alloc (.cells (olds.toArray ++ news.toArray ++ Builtin.zeroCells z.cells (grownCap w (n + m) cap e - (n + m))) e)) := by
 have hfirst : ∀ (A : Option Addr) (m c : Nat) (news : List Value), news.length = m * sz → (A = none → m = 0) → (∀ a, A = some a → ∀ (j : Nat) u, news[j]? = some u → w.cell? (a.add j) = some u) → (Builtin.firstCells sz m (.slice A m c)).run P w.drew = .ok news.toArray w.drew := by
  intro A m c news hl hA hnews
  cases A with
  | none =>
   have := hA rfl
   subst this
   have : news = [] := List.eq_nil_of_length_eq_zero (by simpa using hl)
   subst this
   simp [Builtin.firstCells]
  | some a => exact run_firstCells_some (P := P) w.drew sz m a m c news hl (by simpa using hnews a rfl)
 obtain ⟨i, h1, h2, h3, h4⟩ := info_of hi
 have hn : ¬ (n + m ≤ cap) := by omega
 have h63' : ¬ (9223372036854775807 < ((n : Int) + (m : Int))) := by omega
 have hfit := growslice_fits hroom hby
 have h48' : ¬ (281474976710656 < Builtin.nextslicecap (n + m) cap * i.bytes) := by rw [h4]; omega
 have hfo := hfirst B n cap olds hlo hB holds
 have hfn := hfirst A m c news hl hA hnews
 simp [Builtin.append_, run_underlying (zdv ht), sizeOf, typeInfo, zeroValue, h1, h2, h3, Builtin.lenOf, hn, h63', h48', Question.forced, newRow, grownCap, hfo, hfn]
 congr 2
 apply Array.ext'
 simp
theorem does_append_any {t : TypeId} {e : TypeId} {s y : Operand} {z : Value} {sz bt : Nat} {x y' : AV} {σ1 : List Ob} {base l : List AV} (ho : o.op = .call { callee := .builtin .append, args := #[s, y], argTypes := #[t, t] })
  (ht : zcd P t = some e) (hi : zb5 P e = some (some z, sz, bt)) (hzs : z.cells.size = sz) (hsz : 0 < sz) (hx : F.eval s = x) (hy : F.eval y = y') (hsrc : Src σ sz y' l)
  (h63 : base.length + l.length ≤ maxLen) (hby : (base.length + l.length) * bt ≤ 140737488355328) (hlen1 : σ1.length = σ.length)
  (hb : ∀ (G : Cx) (v : Value), Rel G σ → Rep G v x → ∃ B cap olds, v = .slice B base.length cap ∧ Vals G sz B base olds ∧ Rel G σ1 ∧
   ((base = [] ∧ cap = 0 ∧ ∀ a, B = some a → a.spot = none) ∨ ∃ b id cs cur te, B = some ⟨b, 0, none⟩ ∧ G.mu id = some (some b) ∧ σ[id]? = some (.row sz cs) ∧ base = cs.take base.length ∧ base.length ≤ cs.length ∧ G.w.heap[b]? = some (.cells cur te (0, 0)) ∧ cur.size = cap * sz ∧ cap ≤ maxLen ∧ σ1 = σ.set id .dead)) :
  Does P o F σ (.own σ.length sz (base.length + l.length)) (σ1 ++ [.row sz (base ++ l)]) :=
 does_new (x := .any) fun G ρ hr hop => by
  have g1 := hop s (by simp [ho, Op.operands, Call.operands])
  have g2 := hop y (by simp [ho, Op.operands, Call.operands])
  rw [hx] at g1
  rw [hy] at g2
  obtain ⟨B, cap, olds, hv1, hvb, hr1, hcase⟩ := hb G (ρ s) hr g1
  obtain ⟨A, c, news, hv2, hvn⟩ := src_vals hsz hr hsrc g2
  have hsmall : base.length + l.length ≤ 9223372036854775807 := by simp only [maxLen] at h63; omega
  have hop2 : ∀ (v : Value) (w : World), (Builtin.append_ #[t, t] o.type #[.slice B base.length cap, .slice A l.length c]).run P G.w = .ok v w → (execOp ρ o).run P G.w = .ok (.value v) w := by
   intro v w h
   simp only [execOp, ho, resolve, invoke, builtin, Sem.run_bind, Sem.run_pure, Result.andThen_ok, List.map_toArray, List.map_cons, List.map_nil, hv1, hv2, h]
  have hAn : A = none → l.length = 0 := fun h => by rw [hvn.nil h]; rfl
  have hBn : B = none → base.length = 0 := fun h => by rw [hvb.nil h]; rfl
  -- what lies in the cells
  have hcells : ∀ (cells : Array Value), (∀ q, q < (base.length + l.length) * sz → cells[q]? = (olds ++ news)[q]?) → ∀ (k : Nat) x, (base ++ l)[k]? = some x → x.cells.length = sz ∧ (∀ c ∈ x.cells, c.one = true) ∧ ∀ (j : Nat) c, x.cells[j]? = some c → ∃ v, cells[k * sz + j]? = some v ∧ Rep G v c := by
   intro cells hcl k x hk
   have hkl : k < base.length + l.length := by have := (List.getElem?_eq_some_iff.1 hk).1; simpa using this
   have hpos : ∀ j, j < sz → k * sz + j < (base.length + l.length) * sz := fun j hj => by
    have : (k + 1) * sz ≤ (base.length + l.length) * sz := Nat.mul_le_mul_right _ hkl
    rw [Nat.add_mul] at this; omega
   by_cases hk1 : k < base.length
   ·
    rw [List.getElem?_append_left hk1] at hk
    obtain ⟨h1, h2, h3⟩ := hvb.rep k x hk
    refine ⟨h1, h2, fun j c hc => ?_⟩
    have hj : j < sz := by have := (List.getElem?_eq_some_iff.1 hc).1; omega
    obtain ⟨u, h4, h5⟩ := h3 j c hc
    refine ⟨u, ?_, h5⟩
    rw [hcl _ (hpos j hj), List.getElem?_append_left (List.getElem?_eq_some_iff.1 h4).1]
    exact h4
   ·
    rw [List.getElem?_append_right xd] at hk
    obtain ⟨h1, h2, h3⟩ := hvn.rep _ x hk
    refine ⟨h1, h2, fun j c hc => ?_⟩
    have hj : j < sz := by have := (List.getElem?_eq_some_iff.1 hc).1; omega
    obtain ⟨u, h4, h5⟩ := h3 j c hc
    refine ⟨u, ?_, h5⟩
    have he : k * sz + j - olds.length = (k - base.length) * sz + j := by
     rw [hvb.len, Nat.sub_mul]
     have : base.length * sz ≤ k * sz := Nat.mul_le_mul_right _ xd
     omega
    rw [hcl _ (hpos j hj), List.getElem?_append_right (by rw [hvb.len]; have : base.length * sz ≤ k * sz := Nat.mul_le_mul_right _ xd; omega), he]
    exact h4
  -- into a new block
  have grow : cap < base.length + l.length → ∃ v G', (execOp ρ o).run P G.w = .ok (.value v) G'.w ∧ G.Ext G' ∧ Rel G' (σ1 ++ [.row sz (base ++ l)]) ∧ Rep G' v (.own σ.length sz (base.length + l.length)) := by
   intro hc
   have hrun := run_append_new (P := P) ht hi (ty := o.type) G.w B base.length cap olds hvb.len hBn hvb.at_ A l.length c news hvn.len hAn hvn.at_ hc hsmall hby
   obtain ⟨cells, hcs⟩ : ∃ cells, cells = olds.toArray ++ news.toArray ++ Builtin.zeroCells z.cells (grownCap G.w (base.length + l.length) cap e - (base.length + l.length)) := ⟨_, rfl⟩
   rw [← hcs] at hrun
   have hge := grownCap_ge G.w (base.length + l.length) cap e
   have hcm : grownCap G.w (base.length + l.length) cap e ≤ maxLen := grownCap_le_maxLen G.w _ cap e h63
   have hsize : cells.size = grownCap G.w (base.length + l.length) cap e * sz := by
    rw [hcs]
    simp only [Array.size_append, List.size_toArray, size_zeroCells, hzs, hvb.len, hvn.len, ← Nat.add_mul]
    congr 1
    omega
   have hrow := hcells cells (fun q hq => by
    rw [hcs, ← Array.getElem?_toList]
    simp only [Array.toList_append, List.append_assoc]
    rw [← List.append_assoc, List.getElem?_append_left (by rw [List.length_append, hvb.len, hvn.len, ← Nat.add_mul]; exact hq)])
   have h9 := alloc_rel hr1 G.w.drew rfl hr1.below.drew cells e sz (base ++ l) (by rw [hsize, List.length_append]; exact Nat.mul_le_mul_right _ hge) hrow
   have h10 := alloc_ext hr1 G.w.drew rfl cells e
   rw [hlen1] at h9 h10
   refine ⟨_, _, hop2 _ _ hrun, h10, h9, ?_⟩
   refine .own σ.length sz _ G.w.heap.size _ (by simp [Cx.new]) hge hcm ⟨cells, e, (0, 0), ?_, hsize⟩
   show (G.w.drew.alloc (.cells cells e)).heap[G.w.heap.size]? = _
   exact heap_alloc_new G.w.drew _
  rcases hcase with ⟨hbn, hcap, hBs⟩ | ⟨b, id, cs, cur, te, rfl, hm, hs, hbase, hble, hcur, hcsz, hcm, hσ1⟩
  ·
   by_cases hl0 : l.length = 0
   ·
    -- nothing onto nothing
    have hln : l = [] := List.eq_nil_of_length_eq_zero hl0
    subst hbn
    subst hln
    have hno : news = [] := List.eq_nil_of_length_eq_zero (by simpa using hvn.len)
    subst hno
    have hrun : (Builtin.append_ #[t, t] o.type #[.slice B ([] : List AV).length cap, .slice A ([] : List AV).length c]).run P G.w = .ok (.slice B 0 cap) G.w := by
     have hf : (Builtin.firstCells sz 0 (.slice A 0 c)).run P G.w = .ok #[] G.w := by
      cases A with
      | none => simp [Builtin.firstCells]
      | some a => exact run_firstCells_some (P := P) G.w sz 0 a 0 c [] xo xo
     cases B with
     | none => simp [Builtin.append_, run_underlying (zdv ht), zcw hi, Builtin.lenOf, hf]
     | some a => simp [Builtin.append_, run_underlying (zdv ht), zcw hi, Builtin.lenOf, hf, storeCells]
    subst hcap
    have h9 := nil_rel hr1 sz
    have h10 := nil_ext hr1
    rw [hlen1] at h9 h10
    exact ⟨_, G.new σ.length G.w none, hop2 _ _ hrun, h10, h9, .own0 σ.length sz B hBs (by simp [Cx.new])⟩
   ·
    exact grow xd
  ·
   by_cases hroom : base.length + l.length ≤ cap
   ·
    have hfit : base.length * sz + news.length ≤ cur.size := by rw [hvn.len, hcsz, ← Nat.add_mul]; exact Nat.mul_le_mul_right _ hroom
    have hrun := run_append_in (P := P) ht hi (ty := o.type) G.w b base.length cap cur te hcur A l.length c news hvn.len hAn hvn.at_ hvn.one hroom hfit
    obtain ⟨nc, hnc⟩ : ∃ nc : Array Value, nc = (cur.toList.take (base.length * sz) ++ news ++ cur.toList.drop (base.length * sz + news.length)).toArray := ⟨_, rfl⟩
    rw [← hnc] at hrun
    have hncs : nc.size = cur.size := by
     rw [hnc]
     simp only [List.size_toArray, List.length_append, List.length_take, List.length_drop, Array.length_toList]
     omega
    have holds : cur.toList.take (base.length * sz) = olds := by
     apply List.ext_getElem?
     intro q
     rw [List.getElem?_take, Array.getElem?_toList]
     by_cases hq : q < base.length * sz
     ·
      rw [if_pos hq]
      have h1 := hvb.at_ _ rfl q (olds[q]'(by rw [hvb.len]; exact hq)) (List.getElem?_eq_getElem _)
      rw [Addr.add_lit, Nat.zero_add, cell_of_row _ b q cur te (0, 0) hcur] at h1
      rw [h1, List.getElem?_eq_getElem (by rw [hvb.len]; exact hq)]
     ·
      rw [if_neg hq, List.getElem?_eq_none (by rw [hvb.len]; omega)]
    have hrow := hcells nc (fun q hq => by
     rw [hnc, List.getElem?_toArray, holds, List.getElem?_append_left (by rw [List.length_append, hvb.len, hvn.len, ← Nat.add_mul]; exact hq)])
    have hw := write_rel (cs' := base ++ l) hr hs hm hcur hncs (by rw [hncs, hcsz, List.length_append]; exact Nat.mul_le_mul_right _ hroom) hrow
    have hwe := write_ext hr hs hm hcur hncs
    have hid : id < σ.length := (List.getElem?_eq_some_iff.1 hs).1
    have hm2 : ({ G with w := G.w.setRow b nc } : Cx).mu id = some (some b) := hm
    obtain ⟨h9, h10⟩ := rename_rel (id := id) (sz := sz) (cs := base ++ l) hw (by rw [List.getElem?_set_self hid]) hm2
    rw [List.set_set, ← hσ1, List.length_set] at h9
    rw [List.length_set] at h10
    refine ⟨_, _, hop2 _ _ hrun, hwe.trans h10, h9, ?_⟩
    refine .own σ.length sz _ b cap (by simp [Cx.new]) hroom hcm ⟨nc, te, (0, 0), ?_, by rw [hncs]; exact hcsz⟩
    exact setRow_heap _ _ cur nc _ _ hcur
   ·
    exact grow xd
theorem zbq {t e : TypeId} {s y : Operand} {z : Value} {sz bt id n : Nat} {y' : AV} {cs l : List AV} (ho : o.op = .call { callee := .builtin .append, args := #[s, y], argTypes := #[t, t] })
  (ht : zcd P t = some e) (hi : zb5 P e = some (some z, sz, bt)) (hzs : z.cells.size = sz) (hsz : 0 < sz) (hx : F.eval s = .own id sz n) (hs : σ[id]? = some (.row sz cs)) (hn : n = cs.length) (hy : F.eval y = y') (hsrc : Src σ sz y' l)
  (h63 : cs.length + l.length ≤ maxLen) (hby : (cs.length + l.length) * bt ≤ 140737488355328) :
  Does P o F σ (.own σ.length sz (cs.length + l.length)) (σ.set id .dead ++ [.row sz (cs ++ l)]) :=
 does_append_any ho ht hi hzs hsz hx hy hsrc h63 hby xo fun G v hr hv => by
  have hk := kill_rel hr id
  cases hv with
  | own0 _ _ A hA hm =>
   have h1 := hr.obs id _ hs
   simp only [ObOk, hm] at h1
   subst h1
   exact ⟨A, 0, [], rfl, vals_nil G sz A, hk, .inl ⟨rfl, rfl, hA⟩⟩
  | own _ _ _ b cap hm hn2 hc hb =>
   subst hn
   have h1 := hr.obs id _ hs
   simp only [ObOk, hm] at h1
   obtain ⟨⟨cur, te, fr, h2, rfl, h3, h4⟩, h5, h6⟩ := h1
   obtain ⟨cur2, te2, fr2, h7, h8⟩ := hb
   rw [h2] at h7
   cases h7
   obtain ⟨A, c, olds, hv, hvals⟩ := src_vals (v := .slice (some ⟨b, 0, none⟩) cs.length cap) hsz hr (Src.own id _ cs hs rfl cs.length rfl) (.own id sz cs.length b cap hm hn2 hc ⟨cur, te, (0, 0), h2, h8⟩)
   cases hv
   exact ⟨_, cap, olds, rfl, hvals, hk, .inr ⟨b, id, cs, cur, te, rfl, hm, hs, by simp, Nat.le_refl _, h2, h8, hc, rfl⟩⟩
theorem does_append0 {t e : TypeId} {s y : Operand} {z : Value} {sz bt : Nat} {x y' : AV} {l : List AV} (ho : o.op = .call { callee := .builtin .append, args := #[s, y], argTypes := #[t, t] })
  (ht : zcd P t = some e) (hi : zb5 P e = some (some z, sz, bt)) (hzs : z.cells.size = sz) (hsz : 0 < sz) (hx : F.eval s = x) (hx2 : x = .emp ∨ x = .s (.slice none 0 0)) (hy : F.eval y = y') (hsrc : Src σ sz y' l)
  (h63 : l.length ≤ maxLen) (hby : l.length * bt ≤ 140737488355328) :
  Does P o F σ (.own σ.length sz l.length) (σ ++ [.row sz l]) := by
 have := does_append_any (P := P) (o := o) (F := F) (σ := σ) (base := []) (σ1 := σ) ho ht hi hzs hsz hx hy hsrc (by simpa using h63) (by simpa using hby) rfl fun G v hr hv => by
  rcases hx2 with rfl | rfl
  ·
   cases hv with
   | emp A hA => exact ⟨A, 0, [], rfl, vals_nil G sz A, hr, .inl ⟨rfl, rfl, hA⟩⟩
  ·
   cases hv
   exact ⟨none, 0, [], rfl, vals_nil G sz none, hr, .inl ⟨rfl, rfl, fun a ha => by cases ha⟩⟩
 simpa using this
end
end Go.Proofs.YtllkbjcemecmjaaGreat.Aw
end
section
namespace Go.Proofs.YtllkbjcemecmjaaGreat.Aw
open Go.RowKit
inductive Rn (ρ : List Nat) : AV → AV → Prop
 | lo (x : AV) (h : Lo 0 x) : Rn ρ x x
 | own (id j sz n n' : Nat) (h : ρ[j]? = some id) (hn : n = n') : Rn ρ (.own id sz n) (.own j sz n')
 | ptr (id j sz k i : Nat) (h : ρ[j]? = some id) : Rn ρ (.ptr id sz k i) (.ptr j sz k i)
 | mp (id j : Nat) (h : ρ[j]? = some id) : Rn ρ (.mp id) (.mp j)
 | sub (id j sz q n q' n' : Nat) (h : ρ[j]? = some id) (hq : q = q') (hn : n = n') : Rn ρ (.sub id sz q n) (.sub j sz q' n')
 | agg (cs cs' : List AV) (hl : cs.length = cs'.length) (h : ∀ (j : Nat) x y, cs[j]? = some x → cs'[j]? = some y → Rn ρ x y) : Rn ρ (.agg cs) (.agg cs')
 | fn (f : FuncId) (cs cs' : List AV) (hl : cs.length = cs'.length) (h : ∀ (j : Nat) x y, cs[j]? = some x → cs'[j]? = some y → Rn ρ x y) : Rn ρ (.fn f cs) (.fn f cs')
def Cx.ren (G : Cx) (ρ : List Nat) : Cx := { G with mu := fun j => (ρ[j]?).bind G.mu }
theorem Rn.one {ρ : List Nat} {x y : AV} (h : Rn ρ x y) : y.one = x.one := by cases h <;> rfl
theorem Rn.rep {G : Cx} {ρ : List Nat} {v : Value} {x y : AV} (h : Rn ρ x y) : Rep G v x → Rep (G.ren ρ) v y := by
 induction h generalizing v with
 | lo x h => exact fun hv => hv.low h (fun _ _ h => h) (fun _ _ _ => rfl) (fun id y h => by omega) (fun h => by omega)
 | own id j sz n n' h hn =>
  subst hn
  intro hv
  cases hv with
  | own0 _ _ A hA hm => exact .own0 j sz A hA (by simp [Cx.ren, h, hm])
  | own _ _ _ b cap hm hn hc hb => exact .own j sz n b cap (by simp [Cx.ren, h, hm]) hn hc hb
 | ptr id j sz k i h =>
  intro hv
  cases hv with
  | ptr _ _ _ _ b hm => exact .ptr j sz k i b (by simp [Cx.ren, h, hm])
 | mp id j h =>
  intro hv
  cases hv with
  | mp _ b hm => exact .mp j b (by simp [Cx.ren, h, hm])
 | sub id j sz q n q' n' h hq hn =>
  subst hq hn
  intro hv
  cases hv with
  | sub _ _ _ _ b cap A hm hA hc => exact .sub j sz q n b cap A (by simp [Cx.ren, h, hm]) hA hc
 | agg cs cs' hl h ih =>
  intro hv
  cases hv with
  | agg vs _ hs h1 hr =>
   refine .agg vs cs' (hs.trans hl) (fun c hc => ?_) (fun j v y hv hy => ?_)
   ·
    obtain ⟨j, hj, rfl⟩ := List.mem_iff_getElem.1 hc
    rw [(h j cs[j] cs'[j] xo (by simp [hj])).one]
    exact h1 _ (List.getElem_mem _)
   ·
    have hj : j < cs.length := by rw [hl]; exact (List.getElem?_eq_some_iff.1 hy).1
    exact ih j _ y (List.getElem?_eq_getElem hj) hy (hr j v _ hv (List.getElem?_eq_getElem hj))
 | fn f cs cs' hl h ih =>
  intro hv
  cases hv with
  | fn _ vs _ hs hr =>
   refine .fn f vs cs' (hs.trans hl) (fun j v y hv hy => ?_)
   have hj : j < cs.length := by rw [hl]; exact (List.getElem?_eq_some_iff.1 hy).1
   exact ih j _ y (List.getElem?_eq_getElem hj) hy (hr j v _ hv (List.getElem?_eq_getElem hj))
inductive ObRn (ρ : List Nat) : Ob → Ob → Prop
 | dead (ob : Ob) : ObRn ρ ob .dead
 | row (sz : Nat) (cs : List AV) (h : ∀ e ∈ cs, ∀ c ∈ e.cells, Lo 0 c) : ObRn ρ (.row sz cs) (.row sz cs)
 | fz (sz : Nat) (cs : List AV) (h : ∀ e ∈ cs, ∀ c ∈ e.cells, Lo 0 c) : ObRn ρ (.fz sz cs) (.fz sz cs)
 | rowR (sz : Nat) (e e' : AV) (h : Rn ρ e e') (h1 : ∀ (j : Nat) x y, e.cells[j]? = some x → e'.cells[j]? = some y → Rn ρ x y) (hl : e.cells.length = e'.cells.length) : ObRn ρ (.row sz [e]) (.row sz [e'])
 | mp (X : MapX) (n : Nat) (hn : X.n ≤ n) : ObRn ρ (.mp X) (.mp { X with n := n })
theorem ren_row {G : Cx} {ρ : List Nat} {b sz : Nat} {cs cs' : List AV} {f : Nat × Nat → Prop} (h : RowAt G b sz cs f) (hl : cs.length = cs'.length)
  (hc : ∀ (k : Nat) e e', cs[k]? = some e → cs'[k]? = some e' → e.cells.length = e'.cells.length ∧ ∀ (j : Nat) x y, e.cells[j]? = some x → e'.cells[j]? = some y → Rn ρ x y) : RowAt (G.ren ρ) b sz cs' f := by
 obtain ⟨cur, t, fr, h1, h2, h3, h4⟩ := h
 refine ⟨cur, t, fr, h1, h2, by rw [← hl]; exact h3, fun k e' he' => ?_⟩
 have hk : k < cs.length := by rw [hl]; exact (List.getElem?_eq_some_iff.1 he').1
 obtain ⟨g1, g2, g3⟩ := h4 k _ (List.getElem?_eq_getElem hk)
 obtain ⟨k1, k2⟩ := hc k _ e' (List.getElem?_eq_getElem hk) he'
 refine ⟨by rw [← k1]; exact g1, fun c hcc => ?_, fun j y hy => ?_⟩
 ·
  obtain ⟨j, hj, rfl⟩ := List.mem_iff_getElem.1 hcc
  rw [(k2 j _ _ (List.getElem?_eq_getElem xd) (List.getElem?_eq_getElem hj)).one]
  exact g2 _ (List.getElem_mem _)
 ·
  have hj : j < (cs[k]).cells.length := by rw [k1]; exact (List.getElem?_eq_some_iff.1 hy).1
  obtain ⟨v, g4, g5⟩ := g3 j _ (List.getElem?_eq_getElem hj)
  exact ⟨v, g4, (k2 j _ y (List.getElem?_eq_getElem hj) hy).rep g5⟩
theorem ObRn.rowE {ρ : List Nat} {sz : Nat} {cs cs' : List AV} (h : ∀ e ∈ cs', ∀ c ∈ e.cells, Lo 0 c) (hc : cs = cs') : ObRn ρ (.row sz cs) (.row sz cs') := by subst hc; exact .row sz cs h
def StRn (σ : List Ob) (ρ : List Nat) (σ' : List Ob) : Prop := σ'.length = ρ.length ∧ ∀ (j i : Nat) ob', ρ[j]? = some i → σ'[j]? = some ob' → ∃ ob, σ[i]? = some ob ∧ ObRn ρ ob ob'
def FrRn (F : Frm) (ρ : List Nat) : Frm → Prop
 | [] => True
 | (d, y) :: F' => Rn ρ (F.get d) y ∧ FrRn F ρ F'
theorem ren_rel {G : Cx} {σ σ' : List Ob} {ρ : List Nat} (hr : Rel G σ) (hn : ρ.Nodup) (hs : StRn σ ρ σ') : Rel (G.ren ρ) σ' := by
 obtain ⟨hlen, hst⟩ := hs
 refine ⟨hr.below, hr.le, hr.st, fun j ob' hob => ?_, fun j j' b hj hj' hm hm' => ?_, fun j hj => ?_⟩
 ·
  have hj : j < ρ.length := by rw [← hlen]; exact (List.getElem?_eq_some_iff.1 hob).1
  obtain ⟨ob, h1, h2⟩ := hst j _ ob' (List.getElem?_eq_getElem hj) hob
  have h3 := hr.obs _ ob h1
  have hm : (G.ren ρ).mu j = G.mu ρ[j] := by simp [Cx.ren, hj]
  cases h2 with
  | dead => exact fun b hb => h3.lt (by rw [← hm]; exact hb)
  | mp X n hn2 =>
   obtain ⟨b, g1, g2, g3, g4, g5⟩ := h3
   refine ⟨b, hm.trans g1, World.ownsMap.mono g2 hn2, g3, g4, fun j' hj' => ?_⟩
   cases hρ : ρ[j']? with
   | none => simp [Cx.ren, hρ] at hj'
   | some i =>
    obtain ⟨hlt, hi⟩ := List.getElem?_eq_some_iff.1 hρ
    simp only [Cx.ren, hρ, Option.bind_some] at hj'
    have := g5 i hj'
    rw [← hi] at this
    exact (List.getElem_inj hn).1 this
  | row sz cs h =>
   simp only [ObOk, hm] at h3 ⊢
   cases hx : G.mu ρ[j] with
   | none => rw [hx] at h3; exact h3
   | some x =>
    rw [hx] at h3
    cases x with
    | none => exact h3
    | some b =>
     refine ⟨ren_row h3.1 rfl (fun k e e' he he' => ?_), h3.2⟩
     rw [he] at he'; cases he'
     refine ⟨rfl, fun i x y hx hy => ?_⟩
     rw [hx] at hy; cases hy
     exact .lo _ (h e (List.mem_of_getElem? he) x (List.mem_of_getElem? hx))
  | fz sz cs h =>
   simp only [ObOk, hm] at h3 ⊢
   cases hx : G.mu ρ[j] with
   | none => rw [hx] at h3; exact h3
   | some x =>
    rw [hx] at h3
    cases x with
    | none => exact h3
    | some b =>
     refine ⟨ren_row h3.1 rfl (fun k e e' he he' => ?_), h3.2⟩
     rw [he] at he'; cases he'
     refine ⟨rfl, fun i x y hx hy => ?_⟩
     rw [hx] at hy; cases hy
     exact .lo _ (h e (List.mem_of_getElem? he) x (List.mem_of_getElem? hx))
  | rowR sz e e' h g1 hl =>
   simp only [ObOk, hm] at h3 ⊢
   cases hx : G.mu ρ[j] with
   | none => rw [hx] at h3; exact h3
   | some x =>
    rw [hx] at h3
    cases x with
    | none => simp at h3
    | some b =>
     refine ⟨ren_row h3.1 rfl (fun k x x' he he' => ?_), h3.2⟩
     cases k with
     | succ k => simp at he
     | zero =>
      simp at he he'
      subst he he'
      exact ⟨hl, g1⟩
 ·
  obtain ⟨sz, cs, h1⟩ := hj
  obtain ⟨sz', cs', h1'⟩ := hj'
  have hlj : j < ρ.length := by rw [← hlen]; exact (List.getElem?_eq_some_iff.1 h1).1
  have hlj' : j' < ρ.length := by rw [← hlen]; exact (List.getElem?_eq_some_iff.1 h1').1
  have al : ∀ j sz cs (hlj : j < ρ.length), σ'[j]? = some (.row sz cs) → alive σ ρ[j] := by
   intro j sz cs hlj h1
   obtain ⟨ob, h2, h3⟩ := hst j _ _ (List.getElem?_eq_getElem hlj) h1
   cases h3 with
   | row _ _ _ => exact ⟨sz, cs, h2⟩
   | rowR _ e _ _ _ _ => exact ⟨sz, [e], h2⟩
  have e := hr.inj ρ[j] ρ[j'] b (al j sz cs hlj h1) (al j' sz' cs' hlj' h1') (by simpa [Cx.ren, hlj] using hm) (by simpa [Cx.ren, hlj'] using hm')
  exact (List.getElem_inj hn).1 e
 ·
  have : ρ[j]? = none := List.getElem?_eq_none xd
  simp [Cx.ren, this]
section
variable {N : Nat} {F F' : Frm} {σ σ' : List Ob}
theorem frRn_ok {G : Cx} {a : Act} {ρ : List Nat} (hf : FOk G a F) : ∀ F', FrRn F ρ F' → FOk (G.ren ρ) a F'
 | [], _ => fun d => .any _
 | (d, y) :: F', h => fun t => by
  simp only [Frm.get]
  cases e : Nat.beq d t with
  | true =>
   have := Nat.eq_of_beq_eq_true e
   subst this
   exact h.1.rep (hf d)
  | false => exact frRn_ok hf F' h.2 t
theorem wk_ren (ρ : List Nat) (hn : ρ.Nodup) (hs : StRn σ ρ σ') (hf : FrRn F ρ F') : Weak N F σ F' σ' := fun G a h =>
 ⟨G.ren ρ, rfl, ⟨rfl, rfl, fun _ _ h => h, fun _ _ _ => rfl, fun _ _ h => .inl h, rfl, fun _ _ h => .inl h⟩, ⟨ren_rel h.rel hn hs, frRn_ok h.fr F' hf, h.df, h.nt⟩⟩
def StL (ρ0 : List Nat) (σ : List Ob) : List Nat → List Ob → Prop
 | [], [] => True
 | i :: ρ, ob' :: σ' => (∃ ob, σ[i]? = some ob ∧ ObRn ρ0 ob ob') ∧ StL ρ0 σ ρ σ'
 | _, _ => False
theorem stRn_of {ρ0 : List Nat} : ∀ (ρ : List Nat) (σ' : List Ob), StL ρ0 σ ρ σ' → σ'.length = ρ.length ∧ ∀ (j i : Nat) ob', ρ[j]? = some i → σ'[j]? = some ob' → ∃ ob, σ[i]? = some ob ∧ ObRn ρ0 ob ob'
 | [], [], _ => ⟨rfl, fun j i ob' h => by simp at h⟩
 | [], _ :: _, h => h.elim
 | _ :: _, [], h => h.elim
 | i :: ρ, ob' :: σ', h => by
  obtain ⟨h1, h2⟩ := stRn_of ρ σ' h.2
  refine ⟨by simp [h1], fun j i' x hj hx => ?_⟩
  cases j with
  | zero => simp at hj hx; subst hj hx; exact h.1
  | succ j => exact h2 j i' x (by simpa using hj) (by simpa using hx)
theorem zb8 (ρ : List Nat) (hn : ρ.Nodup) (hs : StL ρ σ ρ σ') (hf : FrRn F ρ F') : Weak N F σ F' σ' := wk_ren ρ hn (stRn_of ρ σ' hs) hf
end
end Go.Proofs.YtllkbjcemecmjaaGreat.Aw
end
section
namespace Go.Proofs.YtllkbjcemecmjaaGreat.Aw
open Go.RowKit
section
variable {N : Nat} {F F' : Frm} {σ σ' : List Ob}
def Cx.froz (G : Cx) (id : Nat) : Cx := { G with St := fun b o => G.St b o ∨ G.mu id = some (some b) }
theorem froz_ok {G : Cx} {id sz : Nat} {cs : List AV} (hr : Rel G σ) (hs : σ[id]? = some (.row sz cs)) : G.Ext (G.froz id) ∧ Rel (G.froz id) (σ.set id (.fz sz cs)) := by
 have h0 := hr.obs id _ hs
 have hid : id < σ.length := (List.getElem?_eq_some_iff.1 hs).1
 have hbb : ∀ b, G.mu id = some (some b) → G.base ≤ b ∧ b < G.w.heap.size ∧ ∀ o, ¬ G.SP b o := by
  intro b hb
  simp only [ObOk, hb] at h0
  obtain ⟨⟨cur, t, fr, h1, _⟩, h2, h3⟩ := h0
  exact ⟨h2, (Array.getElem?_eq_some_iff.1 h1).1, h3⟩
 have hext : G.Ext (G.froz id) := ⟨rfl, rfl, fun _ _ h => .inl h, fun _ _ _ => rfl, fun _ _ h => h, Nat.le_refl _, zcc.refl _, fun b o h => h.imp (fun h => h) (fun h => (hbb b h).1), rfl, fun b o h => h.imp (fun h => h) (fun h h2 => (hbb b h).2.2 o (.inr h2))⟩
 refine ⟨hext, hr.below, hr.le, fun b o h => ?_, fun i ob hob => ?_, fun i j b hi hj hm hm' => ?_, fun i hi => hr.fresh i (by simpa using hi)⟩
 ·
  rcases h with (h | h) | h
  ·
   exact hr.st b o (.inl h)
  ·
   exact (hbb b h).2.1
  ·
   exact hr.st b o (.inr h)
 ·
  have rowx : ∀ b sz cs f, RowAt G b sz cs f → RowAt (G.froz id) b sz cs f := fun b sz cs f h => h.ext hext rfl
  by_cases hi : id = i
  ·
   subst hi
   rw [List.getElem?_set_self hid] at hob
   cases hob
   simp only [ObOk] at h0 ⊢
   show match G.mu id with | none => False | some none => cs = [] | some (some b) => _
   cases hx : G.mu id with
   | none => rw [hx] at h0; exact h0
   | some x =>
    rw [hx] at h0
    cases x with
    | none => exact h0
    | some b =>
     obtain ⟨cur, t, fr, h1, h2, h3⟩ := rowx _ _ _ _ h0.1
     exact ⟨⟨cur, t, fr, h1, trivial, h3⟩, fun k e j _ _ => .inr hx⟩
  ·
   rw [List.getElem?_set_ne hi] at hob
   have h1 := hr.obs i ob hob
   cases ob with
   | dead => exact h1
   | row sz2 cs2 =>
    simp only [ObOk] at h1 ⊢
    show match G.mu i with | none => False | some none => cs2 = [] | some (some b) => _
    cases hx : G.mu i with
    | none => rw [hx] at h1; exact h1
    | some x =>
     rw [hx] at h1
     cases x with
     | none => exact h1
     | some b =>
      refine ⟨rowx _ _ _ _ h1.1, h1.2.1, fun o ho => ?_⟩
      rcases ho with (ho | ho) | ho
      ·
       exact h1.2.2 o (.inl ho)
      ·
       exact hi (hr.inj id i b ⟨sz, cs, hs⟩ ⟨sz2, cs2, hob⟩ ho hx)
      ·
       exact h1.2.2 o (.inr ho)
   | fz sz2 cs2 =>
    simp only [ObOk] at h1 ⊢
    show match G.mu i with | none => False | some none => cs2 = [] | some (some b) => _
    cases hx : G.mu i with
    | none => rw [hx] at h1; exact h1
    | some x =>
     rw [hx] at h1
     cases x with
     | none => exact h1
     | some b => exact ⟨rowx _ _ _ _ h1.1, fun k e j he hj => .inl (h1.2 k e j he hj)⟩
   | mp X =>
    obtain ⟨b, g1, g2, g3, g4, g5⟩ := h1
    exact ⟨b, g1, g2, g3, fun o ho => by
     rcases ho with (ho | ho) | ho
     ·
      exact g4 o (.inl ho)
     ·
      exact hi (g5 id ho)
     ·
      exact g4 o (.inr ho), g5⟩
 ·
  have old : ∀ i, alive (σ.set id (.fz sz cs)) i → alive σ i := by
   rintro i ⟨sz1, cs1, hi⟩
   by_cases h2 : id = i
   ·
    subst h2; rw [List.getElem?_set_self hid] at hi; cases hi
   ·
    rw [List.getElem?_set_ne h2] at hi; exact ⟨sz1, cs1, hi⟩
  exact hr.inj i j b (old i hi) (old j hj) hm hm'
theorem zbm {id sz : Nat} {cs : List AV} (hs : σ[id]? = some (.row sz cs)) : Weak N F σ F (σ.set id (.fz sz cs)) := fun G a h => by
 obtain ⟨h1, h2⟩ := froz_ok h.rel hs
 exact ⟨G.froz id, rfl, h1.step, h.step h1 h2⟩
theorem rep_fz {G : Cx} {id sz : Nat} {cs : List AV} {v : Value} (hr : Rel G σ) (hs : σ[id]? = some (.fz sz cs)) {n : Nat} (hn : n = cs.length) (hv : Rep G v (.own id sz n)) : Rep G v (.sl cs) := by
 have h0 := hr.obs id _ hs
 cases hv with
 | own0 _ _ A hA hm =>
  simp only [ObOk, hm] at h0
  subst h0
  exact .slnil A 0
 | own _ _ _ b cap hm hn2 hc hb =>
  simp only [ObOk, hm] at h0
  obtain ⟨⟨cur, t, fr, h1, _, h3, h4⟩, h5⟩ := h0
  subst hn
  refine .sl b 0 cap sz cs (fun k j => cur.getD (k * sz + j) undef) hn2 (Nat.le_trans hn2 hc) (fun k e he => ⟨(h4 k e he).1, (h4 k e he).2.1⟩) (fun k e j c he hc => ?_) (fun k e j c he hc => ?_)
  ·
   obtain ⟨u, h6, h7⟩ := (h4 k e he).2.2 j c hc
   refine ⟨by rw [Nat.zero_add]; exact h5 k e j he (List.getElem?_eq_some_iff.1 hc).1, ?_⟩
   rw [Nat.zero_add, cell_of_row _ b _ cur t fr h1, h6, Array.getD_eq_getD_getElem?, h6]; rfl
  ·
   obtain ⟨u, h6, h7⟩ := (h4 k e he).2.2 j c hc
   rw [Array.getD_eq_getD_getElem?, h6]; exact h7
theorem rep_fzp {G : Cx} {id sz k : Nat} {cs : List AV} {e : AV} {v : Value} (hr : Rel G σ) (hs : σ[id]? = some (.fz sz cs)) (he : cs[k]? = some e) (hv : Rep G v (.ptr id sz k 0)) : Rep G v (.ref e.cells) := by
 have h0 := hr.obs id _ hs
 cases hv with
 | ptr _ _ _ _ b hm =>
  simp only [ObOk, hm] at h0
  obtain ⟨⟨cur, t, fr, h1, _, h3, h4⟩, h5⟩ := h0
  obtain ⟨g1, g2, g3⟩ := h4 k e he
  refine .ref b (k * sz + 0) e.cells (fun j => cur.getD (k * sz + j) undef) g2 (fun j c hc => ?_) (fun j c hc => ?_)
  ·
   obtain ⟨u, h6, h7⟩ := g3 j c hc
   refine ⟨h5 k e j he (List.getElem?_eq_some_iff.1 hc).1, ?_⟩
   show G.w.cell? ⟨b, k * sz + j, none⟩ = _
   rw [cell_of_row _ b _ cur t fr h1, h6, Array.getD_eq_getD_getElem?, h6]; rfl
  ·
   obtain ⟨u, h6, h7⟩ := g3 j c hc
   rw [Array.getD_eq_getD_getElem?, h6]; exact h7
theorem FOk.more {G : Cx} {a : Act} {d : Nat} {x : AV} (h : FOk G a F) (hx : Rep G (a.tmps.getD d undef) x) : FOk G a ((d, x) :: F) := fun t => by
 simp only [Frm.get]
 cases e : Nat.beq d t with
 | true => have := Nat.eq_of_beq_eq_true e; subst this; exact hx
 | false => exact h t
theorem wk_sl {d id sz n : Nat} {cs : List AV} (hd : F.get d = .own id sz n) (hs : σ[id]? = some (.fz sz cs)) (hn : n = cs.length) : Weak N F σ ((d, .sl cs) :: F) σ := fun G a h =>
 ⟨G, rfl, .refl G, h.rel, h.fr.more (rep_fz h.rel hs hn (by rw [← hd]; exact h.fr d)), h.df, h.nt⟩
theorem zcb {d id sz k : Nat} {cs : List AV} {e : AV} (hd : F.get d = .ptr id sz k 0) (hs : σ[id]? = some (.fz sz cs)) (he : cs[k]? = some e) : Weak N F σ ((d, .ref e.cells) :: F) σ := fun G a h =>
 ⟨G, rfl, .refl G, h.rel, h.fr.more (rep_fzp h.rel hs he (by rw [← hd]; exact h.fr d)), h.df, h.nt⟩
theorem rep_emp {G : Cx} {v : Value} (h : Rep G v .emp) : Rep G v (.sl []) := by
 cases h with
 | emp A hA =>
  exact .slnil A 0
theorem rep_nil {G : Cx} {v : Value} (h : Rep G v (.s (.slice none 0 0))) : Rep G v (.sl []) := by cases h; exact .slnil none 0
theorem wk_own {d : Nat} {x : AV} (sz : Nat) (hd : F.get d = x) (hx : x = .emp ∨ x = .s (.slice none 0 0)) : Weak N F σ ((d, .own σ.length sz 0) :: F) (σ ++ [.row sz []]) := fun G a h => by
 have he := nil_ext h.rel
 refine ⟨G.new σ.length G.w none, rfl, he.step, nil_rel h.rel sz, (h.fr.ext he).more ?_, h.df, h.nt⟩
 have h1 := h.fr d
 rw [hd] at h1
 generalize a.tmps.getD d undef = v at h1
 rcases hx with rfl | rfl
 ·
  cases h1 with | emp A hA => exact .own0 σ.length sz A hA (by simp [Cx.new])
 ·
  cases h1; exact .own0 σ.length sz none (fun a ha => by cases ha) (by simp [Cx.new])
end
def Enters (P : Program) (f : FuncId) : Prop := ∀ args w, (callFunc f args).run P w = .ok (.enter f args) w
theorem enters_of {P : Program} {f : FuncId} {fn : Func} {c : Code} (hf : P.funcs[f]? = some fn) (hname : (fn.name == "runtime.NumGoroutine") = false) (hb : fn.body = some c) : Enters P f := fun args w => by
 have h1 : fn.name ≠ "runtime.NumGoroutine" := by simpa using hname
 simp [callFunc, hf, h1, hb]
structure Pure (P : Program) (f : FuncId) (args : List AV) (r : AV) : Prop where
 ent : Enters P f
 lo : Lo 0 r
 call : ∀ (G : Cx) (vargs : Array Value), StT G.St G.w → vargs.size = args.length → (∀ (j : Nat) v x, vargs[j]? = some v → args[j]? = some x → Rep G v x) →
  Calls P f vargs G.w fun e w' => ∃ v G', e = .returned v ∧ G'.w = w' ∧ Below G.w.heap.size G.w w' ∧ (∀ b o, G.St b o → G'.St b o) ∧ (∀ b o, G'.St b o → G.St b o ∨ G.w.heap.size ≤ b) ∧ (∀ b o, G'.St b o → b < w'.heap.size) ∧ Rep G' v r
def Flat (r : AV) : Prop := ∀ (G G' : Cx) (v : Value), Rep G v r → Rep G' v r
theorem Flat.s (v : Value) : Flat (.s v) := fun G G' u h => by cases h; exact .s _
theorem Flat.agg {cs : List AV} (h : ∀ c ∈ cs, Flat c) : Flat (.agg cs) := fun G G' u hu => by
 cases hu with
 | agg vs _ hl h1 hr => exact .agg vs cs hl h1 (fun j v c hv hc => h c (List.mem_of_getElem? hc) G G' v (hr j v c hv hc))
theorem Flat.tup {cs : List AV} (h : ∀ c ∈ cs, Flat c) : Flat (.tup cs) := fun G G' u hu => by
 cases hu with
 | tup vs _ hl hr => exact .tup vs cs hl (fun j v c hv hc => h c (List.mem_of_getElem? hc) G G' v (hr j v c hv hc))
inductive Fini (σ : List Ob) : AV → AV → Prop
 | refl (x : AV) : Fini σ x x
 | own (id sz n : Nat) (ob : Ob) (cs : List AV) (hs : σ[id]? = some ob) (ho : rowOf ob = some (sz, cs)) (hn : n = cs.length) : Fini σ (.own id sz n) (.sl cs)
 | ptr (id sz k : Nat) (ob : Ob) (cs : List AV) (e : AV) (hs : σ[id]? = some ob) (ho : rowOf ob = some (sz, cs)) (he : cs[k]? = some e) : Fini σ (.ptr id sz k 0) (.ref e.cells)
 | emp : Fini σ .emp (.sl [])
 | nil : Fini σ (.s (.slice none 0 0)) (.sl [])
 | agg (cs cs' : List AV) (hl : cs.length = cs'.length) (h : ∀ (j : Nat) x y, cs[j]? = some x → cs'[j]? = some y → Fini σ x y) : Fini σ (.agg cs) (.agg cs')
 | tup (cs cs' : List AV) (hl : cs.length = cs'.length) (h : ∀ (j : Nat) x y, cs[j]? = some x → cs'[j]? = some y → Fini σ x y) : Fini σ (.tup cs) (.tup cs')
def zbd (σ : List Ob) (l l' : List AV) : Prop := l.length = l'.length ∧ ∀ (j : Nat) x y, l[j]? = some x → l'[j]? = some y → Fini σ x y
theorem zbd.nil {σ : List Ob} : zbd σ [] [] := ⟨rfl, by simp⟩
theorem zbd.cons {σ : List Ob} {x y : AV} {l l' : List AV} (h : Fini σ x y) (t : zbd σ l l') : zbd σ (x :: l) (y :: l') := by
 refine ⟨by simp [t.1], fun j a b ha hb => ?_⟩
 cases j with
 | zero => simp at ha hb; subst ha hb; exact h
 | succ j => exact t.2 j a b (by simpa using ha) (by simpa using hb)
theorem zbd.refl {σ : List Ob} (l : List AV) : zbd σ l l := ⟨rfl, fun j x y hx hy => by rw [hx] at hy; cases hy; exact .refl _⟩
theorem Fini.one {σ : List Ob} {x y : AV} (h : Fini σ x y) (hx : x.one = true) : y.one = true := by
 cases h <;> first | exact hx | rfl | (simp [AV.one] at hx)
def Cx.all (G : Cx) (B : Nat) : Cx := { G with St := fun b o => G.St b o ∨ (B ≤ b ∧ b < G.w.heap.size) }
theorem fin_rep {G : Cx} {σ : List Ob} {B : Nat} (hr : Rel G σ) (hB : B ≤ G.base) {x y : AV} (h : Fini σ x y) : ∀ {v : Value}, Rep G v x → Rep (G.all B) v y := by
 have up : ∀ {v : Value} {x : AV}, Rep G v x → Rep (G.all B) v x := fun {v x} h => by
  have e : Rep { G with St := (G.all B).St } v x := by
   induction h with
   | any v => exact .any v
   | s v => exact .s v
   | agg vs cs hl h1 _ ih => exact .agg vs cs hl h1 ih
   | emp A hA => exact .emp A hA
   | slnil A cap => exact .slnil A cap
   | sl b o cap sz l val hc hm h1 h2 _ ih => exact .sl b o cap sz l val hc hm h1 (fun k x j c hk hj => ⟨.inl (h2 k x j c hk hj).1, (h2 k x j c hk hj).2⟩) ih
   | ref b o cs val h1 h2 _ ih => exact .ref b o cs val h1 (fun j c hj => ⟨.inl (h2 j c hj).1, (h2 j c hj).2⟩) ih
   | own0 id sz A hA hm => exact .own0 id sz A hA hm
   | own id sz n b cap hm hn hc hb => exact .own id sz n b cap hm hn hc hb
   | ptr id sz k j b hm => exact .ptr id sz k j b hm
   | fn f vs cs hl _ ih => exact .fn f vs cs hl ih
   | tup vs l hl _ ih => exact .tup vs l hl ih
   | mp id b hm => exact .mp id b hm
   | sub id sz o n b cap A hm hA hc => exact .sub id sz o n b cap A hm hA hc
  exact e
 induction h with
 | refl x => exact up
 | emp => exact fun hv => up (rep_emp hv)
 | nil => exact fun hv => up (rep_nil hv)
 | own id sz n ob cs hs ho hn =>
  intro v hv
  have h0 := hr.obs id ob hs
  cases hv with
  | own0 _ _ A hA hm =>
   have hcs : cs = [] := List.eq_nil_of_length_eq_zero xd
   subst hcs
   exact up (rep_emp (.emp A hA))
  | own _ _ _ b cap hm hn2 hc hb =>
   subst hn
   have hbl : B ≤ b ∨ (∀ (k : Nat) e (j : Nat), cs[k]? = some e → j < e.cells.length → G.St b (k * sz + j)) := by
    cases ob with
    | dead => cases ho
    | mp X => cases ho
    | row sz' cs' => simp only [ObOk, hm] at h0; exact .inl (Nat.le_trans hB h0.2.1)
    | fz sz' cs' =>
     simp only [rowOf, Option.some.injEq, Prod.mk.injEq] at ho
     obtain ⟨rfl, rfl⟩ := ho
     simp only [ObOk, hm] at h0
     exact .inr h0.2
   have hsz : b < G.w.heap.size := by
    obtain ⟨cur, e, f, h1, _⟩ := hb
    exact (Array.getElem?_eq_some_iff.1 h1).1
   have key : ∀ (k : Nat) e, cs[k]? = some e → ∃ f : Nat → Value, e.cells.length = sz ∧ (∀ c ∈ e.cells, c.one = true) ∧ ∀ (j : Nat) c, e.cells[j]? = some c → G.w.cell? ⟨b, k * sz + j, none⟩ = some (f j) ∧ Rep G (f j) c := fun k e he => row_read hr hs ho hm he
   refine .sl b 0 cap sz cs (fun k j => (G.w.cell? ⟨b, k * sz + j, none⟩).getD undef) hn2 (Nat.le_trans hn2 hc) (fun k e he => ?_) (fun k e j c he hc => ?_) (fun k e j c he hc => ?_)
   ·
    obtain ⟨f, h1, h2, _⟩ := key k e he; exact ⟨h1, h2⟩
   ·
    obtain ⟨f, h1, h2, h3⟩ := key k e he
    rw [Nat.zero_add]
    refine ⟨?_, ?_⟩
    ·
     rcases hbl with h | h
     ·
      exact .inr ⟨h, hsz⟩
     ·
      exact .inl (h k e j he (List.getElem?_eq_some_iff.1 hc).1)
    ·
     show G.w.cell? _ = _
     rw [(h3 j c hc).1]; rfl
   ·
    obtain ⟨f, h1, h2, h3⟩ := key k e he
    rw [(h3 j c hc).1]
    exact up (h3 j c hc).2
 | ptr id sz k ob cs e hs ho he =>
  intro v hv
  have h0 := hr.obs id ob hs
  cases hv with
  | ptr _ _ _ _ b hm =>
   have hbl : B ≤ b ∨ (∀ (k : Nat) e (j : Nat), cs[k]? = some e → j < e.cells.length → G.St b (k * sz + j)) := by
    cases ob with
    | dead => cases ho
    | mp X => cases ho
    | row sz' cs' => simp only [ObOk, hm] at h0; exact .inl (Nat.le_trans hB h0.2.1)
    | fz sz' cs' =>
     simp only [rowOf, Option.some.injEq, Prod.mk.injEq] at ho
     obtain ⟨rfl, rfl⟩ := ho
     simp only [ObOk, hm] at h0
     exact .inr h0.2
   obtain ⟨f, h1, h2, h3⟩ := row_read hr hs ho hm he
   refine .ref b (k * sz + 0) e.cells f h2 (fun j c hc => ?_) (fun j c hc => up (h3 j c hc).2)
   refine ⟨?_, (h3 j c hc).1⟩
   rcases hbl with h | h
   ·
    exact .inr ⟨h, World.block_lt_of_cell? _ _ (h3 j c hc).1⟩
   ·
    exact .inl (h k e j he (List.getElem?_eq_some_iff.1 hc).1)
 | agg cs cs' hl h ih =>
  intro v hv
  cases hv with
  | agg vs _ hs h1 hr2 =>
   refine .agg vs cs' (hs.trans hl) (fun c hc => ?_) (fun j v y hv hy => ?_)
   ·
    obtain ⟨j, hj, rfl⟩ := List.mem_iff_getElem.1 hc
    exact (h j cs[j] cs'[j] xo (by simp [hj])).one (h1 _ (List.getElem_mem _))
   ·
    have hj : j < cs.length := by rw [hl]; exact (List.getElem?_eq_some_iff.1 hy).1
    exact ih j _ y (List.getElem?_eq_getElem hj) hy (hr2 j v _ hv (List.getElem?_eq_getElem hj))
 | tup cs cs' hl h ih =>
  intro v hv
  cases hv with
  | tup vs _ hs hr2 =>
   refine .tup vs cs' (hs.trans hl) (fun j v y hv hy => ?_)
   have hj : j < cs.length := by rw [hl]; exact (List.getElem?_eq_some_iff.1 hy).1
   exact ih j _ y (List.getElem?_eq_getElem hj) hy (hr2 j v _ hv (List.getElem?_eq_getElem hj))
inductive ResA (P : Program) (F : Frm) (σ : List Ob) : ResultVar → AV → Prop
 | tmp (t : Tmp) (x : AV) (h : F.get t = x) : ResA P F σ (.tmp t) x
 | cell (a : Tmp) (t : TypeId) (id sz k j : Nat) (ob : Ob) (cs : List AV) (e c : AV) (ha : zc8 P t = some false) (hp : F.get a = .ptr id sz k j) (hs : σ[id]? = some ob) (ho : rowOf ob = some (sz, cs)) (he : cs[k]? = some e) (hc : e.cells[j]? = some c) : ResA P F σ (.cell a t) c
 | cells (a : Tmp) (t : TypeId) (id sz k n bt : Nat) (z : Option Value) (ob : Ob) (cs : List AV) (e : AV) (ha : zc8 P t = some true) (hi : zb5 P t = some (z, n, bt)) (hp : F.get a = .ptr id sz k 0) (hs : σ[id]? = some ob) (ho : rowOf ob = some (sz, cs)) (he : cs[k]? = some e) (hn : e.cells.length = n) : ResA P F σ (.cell a t) (.agg e.cells)
inductive ResL (P : Program) (F : Frm) (σ : List Ob) : List ResultVar → List AV → Prop
 | nil : ResL P F σ [] []
 | cons (r : ResultVar) (x : AV) (rs : List ResultVar) (xs : List AV) (h : ResA P F σ r x) (t : ResL P F σ rs xs) : ResL P F σ (r :: rs) (x :: xs)
def oneOf : List AV → AV
 | [x] => x
 | xs => .tup xs
def APost (P : Program) (rs : List ResultVar) (r : AV) : Exit → Frm → List Ob → Prop := fun e F σ => (e = .normal ∨ e = .ret) ∧ ∃ xs, ResL P F σ rs xs ∧ Fini σ (oneOf xs) r
section
variable {P : Program}
def resVal (P : Program) (tmps : Array Value) : ResultVar → Sem Value
 | .tmp t => pure (tmps.getD t undef)
 | .cell a t => do loadVar t (← asAddr (tmps.getD a undef))
theorem resA_run {F : Frm} {σ : List Ob} {r : ResultVar} {x : AV} (h : ResA P F σ r x) {G : Cx} {a : Act} (hr : Rel G σ) (hf : FOk G a F) : ∃ v, (resVal P a.tmps r).run P G.w = .ok v G.w ∧ Rep G v x := by
 cases h with
 | tmp t _ h => exact ⟨a.tmps.getD t undef, rfl, by rw [← h]; exact hf t⟩
 | cell ad t id sz k j ob cs e c ha hp hs ho he hc =>
  have h1 := hf ad
  rw [hp] at h1
  generalize hv : a.tmps.getD ad undef = v at h1
  cases h1 with
  | ptr _ _ _ _ b hm =>
   obtain ⟨f, _, _, h2⟩ := row_read hr hs ho hm he
   obtain ⟨h3, h4⟩ := h2 _ _ hc
   refine ⟨f j, ?_, h4⟩
   simp [resVal, hv, asAddr, loadVar, run_isAgg ha, h3]
 | cells ad t id sz k n bt z ob cs e ha hi hp hs ho he hn =>
  have h1 := hf ad
  rw [hp] at h1
  generalize hv : a.tmps.getD ad undef = v at h1
  cases h1 with
  | ptr _ _ _ _ b hm =>
   obtain ⟨f, g1, g2, h2⟩ := row_read hr hs ho hm he
   have h3 := run_loadCells (P := P) G.w ⟨b, k * sz + 0, none⟩ n f (fun j hj => by rw [Addr.add_lit]; exact (h2 j _ (List.getElem?_eq_getElem xd)).1)
   refine ⟨.agg ((List.range n).map f).toArray, ?_, .agg _ _ (by simp [hn]) g2 (fun j v c hv hc => ?_)⟩
   ·
    simp only [Nat.add_zero] at h3
    simp [resVal, hv, asAddr, loadVar, run_isAgg ha, zcw hi, h3]
   ·
    have hj : j < n := by have := (List.getElem?_eq_some_iff.1 hc).1; omega
    simp [hj] at hv
    subst hv
    exact (h2 j c hc).2
theorem resL_run {F : Frm} {σ : List Ob} {G : Cx} {a : Act} (hr : Rel G σ) (hf : FOk G a F) : ∀ {rs : List ResultVar} {xs : List AV}, ResL P F σ rs xs → ∃ vs : List Value, (rs.mapM (resVal P a.tmps)).run P G.w = .ok vs G.w ∧ vs.length = xs.length ∧ ∀ (j : Nat) v x, vs[j]? = some v → xs[j]? = some x → Rep G v x := by
 intro rs xs h
 induction h with
 | nil => exact ⟨[], rfl, rfl, by simp⟩
 | cons r x rs xs h t ih =>
  obtain ⟨v, h1, h2⟩ := resA_run h hr hf
  obtain ⟨vs, h3, h4, h5⟩ := ih
  refine ⟨v :: vs, by simp [List.mapM_cons, h1, h3], by simp [h4], fun j u y hu hy => ?_⟩
  cases j with
  | zero => simp at hu hy; subst hu hy; exact h2
  | succ j => exact h5 j u y (by simpa using hu) (by simpa using hy)
theorem results_run {fn : Func} {F : Frm} {σ : List Ob} {xs : List AV} {G : Cx} {a : Act} (hr : Rel G σ) (hf : FOk G a F) (h : ResL P F σ fn.results.toList xs) : ∃ v, (results fn a.tmps).run P G.w = .ok v G.w ∧ Rep G v (oneOf xs) := by
 obtain ⟨vs, h1, h2, h3⟩ := resL_run hr hf h
 have h4 : (results fn a.tmps).run P G.w = .ok (if h : vs.toArray.size = 1 then vs.toArray[0] else .tuple vs.toArray) G.w := by
  have h0 : results fn a.tmps = (do
   let vs ← fn.results.mapM (resVal P a.tmps)
   pure (if h : vs.size = 1 then vs[0] else .tuple vs)) := rfl
  rw [h0, Array.mapM_eq_mapM_toList]
  simp [h1]
 refine ⟨_, h4, ?_⟩
 match xs, vs, h2, h3 with
 | [x], [v], _, h3 => simpa [oneOf] using h3 0 v x rfl rfl
 | [], [], _, h3 => simpa [oneOf] using Rep.tup (G := G) #[] [] rfl xo
 | x :: y :: xs, u :: v :: vs, h2, h3 =>
  have : ¬ ((u :: v :: vs).toArray.size = 1) := by simp
  rw [dif_neg this]
  exact .tup _ _ (by simpa using h2) (fun j a b ha hb => h3 j a b (by simpa using ha) hb)
def argF : Nat → List AV → Frm
 | _, [] => []
 | k, x :: l => (k, x) :: argF (k + 1) l
theorem argF_get : ∀ (l : List AV) (k d : Nat), (argF k l).get d = if k ≤ d then l.getD (d - k) .any else .any
 | [], k, d => by simp [argF, Frm.get]
 | x :: l, k, d => by
  simp only [argF, Frm.get]
  cases e : Nat.beq k d with
  | true => have := Nat.eq_of_beq_eq_true e; subst this; simp
  | false =>
   have hne : k ≠ d := fun h => by subst h; simp at e
   simp only [cond_false, argF_get l (k + 1) d]
   by_cases h : k + 1 ≤ d
   ·
    rw [if_pos h, if_pos xd]
    obtain ⟨m, hm⟩ : ∃ m, d - k = m + 1 := ⟨d - k - 1, by omega⟩
    rw [hm, show d - (k + 1) = m by omega]
    simp
   ·
    rw [if_neg h, if_neg xd]
theorem zcl {f : FuncId} {fn : Func} {c : Code} {N : Nat} {args : List AV} {F0 : Frm} {rs : List ResultVar} {r : AV} (hf : P.funcs[f]? = some fn) (hname : (fn.name == "runtime.NumGoroutine") = false) (hb : fn.body = some c) (hN : fn.ntmps = N) (hres : fn.results.toList = rs) (hn : Nat.ble args.length N = true)
  (hl : ∀ x ∈ args, Lo 0 x) (hr : Lo 0 r) (hF0 : argF 0 args = F0) (h : AWp P N c F0 [] (APost P rs r)) : Pure P f args r := by
 subst hF0
 refine ⟨enters_of hf hname hb, hr, fun G vargs hst hsz hrep => ?_⟩
 have hn := Nat.le_of_ble_eq_true hn
 refine calls_of_wp hf hb ?_
 let G0 : Cx := { base := G.w.heap.size, w0 := G.w, w := G.w, mu := fun _ => none, St := G.St }
 have hrel : Rel G0 [] := ⟨⟨Below.refl _ _, hst.tab, hst.tab.lt⟩, Nat.le_refl _, fun b o h => h.elim (hst.st b o) False.elim, by simp, by rintro i j b ⟨_, _, h⟩; simp at h, fun _ _ => rfl⟩
 have hfo : FOk G0 { tmps := vargs ++ Array.replicate (fn.ntmps - vargs.size) undef, defers := [] } (argF 0 args) := by
  intro d
  rw [argF_get]
  simp only [Nat.zero_le, if_true, Nat.sub_zero]
  by_cases hd : d < args.length
  ·
   have h1 : (vargs ++ Array.replicate (fn.ntmps - vargs.size) undef).getD d undef = vargs[d]'(by omega) := by
    rw [Array.getD_eq_getD_getElem?, Array.getElem?_append_left xd]
    simp [show d < vargs.size by omega]
   rw [h1]
   have h2 : args.getD d .any = args[d] := by simp [List.getD, hd]
   rw [h2]
   exact (hrep d _ _ (by simp [show d < vargs.size by omega]) (by simp [hd])).low (hl _ (List.getElem_mem hd)) (fun _ _ h => h) (fun _ _ _ => rfl) (fun id y h => by omega) (fun h => by omega)
  ·
   have h2 : args.getD d .any = .any := by simp [List.getD, hd]
   rw [h2]; exact .any _
 have hs8 : S8 N G0 { tmps := vargs ++ Array.replicate (fn.ntmps - vargs.size) undef, defers := [] } (argF 0 args) [] := ⟨hrel, hfo, rfl, by simp [hN]; omega⟩
 refine Code.wp_mono (fun e a w q => ?_) (h G0 _ hs8)
 obtain ⟨G', F', σ', rfl, h2, h3, he, xs, h4, h5⟩ := q
 obtain ⟨v, h6, h7⟩ := results_run (fn := fn) h3.rel h3.fr (by rw [hres]; exact h4)
 have hbase : G'.base = G.w.heap.size := h2.base
 have hbel : Below G.w.heap.size G.w G'.w := by have := h3.rel.below; rw [hbase, h2.w0] at this; exact this.toBelow
 have hfin := fin_rep (B := G.w.heap.size) h3.rel xd h5 h7
 have post : ∃ v' G'', Ending.returned v = .returned v' ∧ G''.w = G'.w ∧ Below G.w.heap.size G.w G'.w ∧ (∀ b o, G.St b o → G''.St b o) ∧ (∀ b o, G''.St b o → G.St b o ∨ G.w.heap.size ≤ b) ∧ (∀ b o, G''.St b o → b < G'.w.heap.size) ∧ Rep G'' v' r := by
  refine ⟨v, G'.all G.w.heap.size, rfl, rfl, hbel, fun b o h => .inl (h2.st b o h), fun b o h => ?_, fun b o h => ?_, hfin⟩
  ·
   rcases h with h | h
   ·
    exact h2.stN b o h
   ·
    exact .inr h.1
  ·
   rcases h with h | h
   ·
    exact h3.rel.st b o (.inl h)
   ·
    exact h.2
 rcases he with rfl | rfl
 ·
  exact ⟨h3.df, v, h6, post⟩
 ·
  exact ⟨h3.df, v, h6, post⟩
theorem after_call {G : Cx} {σ : List Ob} {G1 : Cx} {w' : World} (hr : Rel G σ) (hw : G1.w = w') (hbel : Below G.w.heap.size G.w w') (hs1 : ∀ b o, G.St b o → G1.St b o) (hs2 : ∀ b o, G1.St b o → G.St b o ∨ G.w.heap.size ≤ b) (hs3 : ∀ b o, G1.St b o → b < w'.heap.size) :
  G.Ext { G with w := w', St := G1.St } ∧ Rel { G with w := w', St := G1.St } σ := by
 have hble : G.base ≤ G.w.heap.size := by have h1 := hr.le; have h2 := hr.below.size; omega
 have hext : G.Ext { G with w := w', St := G1.St } := ⟨rfl, rfl, hs1, fun b o h => hbel.cell (hr.st b o h), fun _ _ h => h, hbel.size, fun b cur e f h => ⟨cur, (hbel.block b (Array.getElem?_eq_some_iff.1 h).1).trans h, rfl⟩, fun b o h => (hs2 b o h).imp (fun h => h) (fun h => by omega), rfl, fun b o h => (hs2 b o h).imp (fun h => h) (fun h h2 => by have := hr.st b o (.inr h2); omega)⟩
 refine ⟨hext, hr.below.trans (hbel.mono hble), hr.le, fun b o h => h.elim (hs3 b o) (fun h => Nat.lt_of_lt_of_le (hr.st b o (.inr h)) hbel.size), fun id ob hob => ?_, hr.inj, hr.fresh⟩
 have h1 := hr.obs id ob hob
 have rowx : ∀ b sz cs f, RowAt G b sz cs f → RowAt { G with w := w', St := G1.St } b sz cs f := by
  rintro b sz cs f ⟨cur, t, fr, h2, h3, h4, h5⟩
  refine ⟨cur, t, fr, (hbel.block b (Array.getElem?_eq_some_iff.1 h2).1).trans h2, h3, h4, fun k x hx => ⟨(h5 k x hx).1, (h5 k x hx).2.1, fun j c hc => ?_⟩⟩
  obtain ⟨v, h6, h7⟩ := (h5 k x hx).2.2 j c hc
  exact ⟨v, h6, h7.ext hext⟩
 cases ob with
 | dead => exact fun b hb => Nat.lt_of_lt_of_le (h1 b hb) hbel.size
 | row sz cs =>
  simp only [ObOk] at h1 ⊢
  cases hx : G.mu id with
  | none => rw [hx] at h1; exact h1
  | some x =>
   rw [hx] at h1
   cases x with
   | none => exact h1
   | some b =>
    refine ⟨rowx _ _ _ _ h1.1, h1.2.1, fun o ho => ?_⟩
    obtain ⟨⟨cur, t, fr, h2, _⟩, _, h3⟩ := h1
    have := (Array.getElem?_eq_some_iff.1 h2).1
    rcases ho with ho | ho
    ·
     rcases hs2 b o ho with h | h
     ·
      exact h3 o (.inl h)
     ·
      omega
    ·
     exact h3 o (.inr ho)
 | fz sz cs =>
  simp only [ObOk] at h1 ⊢
  cases hx : G.mu id with
  | none => rw [hx] at h1; exact h1
  | some x =>
   rw [hx] at h1
   cases x with
   | none => exact h1
   | some b => exact ⟨rowx _ _ _ _ h1.1, fun k e j he hj => hs1 _ _ (h1.2 k e j he hj)⟩
 | mp X =>
  obtain ⟨b, g1, g2, g3, g4, g5⟩ := h1
  exact ⟨b, g1, g2.keep (hbel.block b g2.lt), g3, fun o ho => by
   rcases ho with ho | ho
   ·
    rcases hs2 b o ho with h | h
    ·
     exact g4 o (.inl h)
    ·
     have := g2.lt
     omega
   ·
    exact g4 o (.inr ho), g5⟩
section
variable {o : Oper} {F : Frm} {σ : List Ob}
theorem call_enter {f : FuncId} {cap : Array Value} {fo : Operand} {ar : Array Operand} {ts : Array TypeId} (ho : o.op = .call { callee := .value fo, args := ar, argTypes := ts }) (ρ : Operand → Value) (hv : ρ fo = .func (.func f) #[] cap) (he : Enters P f) (w : World) :
  (execOp ρ o).run P w = .ok (.enter f (ar.map ρ ++ cap)) w := by
 simp [execOp, ho, resolve, Deferred.ofValue, hv, invoke, he _ w]
theorem call_args {G : Cx} {ρ : Operand → Value} {fo : Operand} {ar : Array Operand} {ts : Array TypeId} {f : FuncId} {caps : List AV} (ho : o.op = .call { callee := .value fo, args := ar, argTypes := ts }) (hop : ∀ y ∈ o.op.operands, Rep G (ρ y) (F.eval y)) (hf : F.eval fo = .fn f caps) :
  ∃ cap : Array Value, ρ fo = .func (.func f) #[] cap ∧ (ar.map ρ ++ cap).size = (ar.toList.map F.eval ++ caps).length ∧ ∀ (j : Nat) v x, (ar.map ρ ++ cap)[j]? = some v → (ar.toList.map F.eval ++ caps)[j]? = some x → Rep G v x := by
 have h1 := hop fo (by simp [ho, Op.operands, Call.operands])
 rw [hf] at h1
 generalize hv : ρ fo = u at h1
 cases h1 with
 | fn _ vs _ hl h =>
  refine ⟨vs, rfl, by simp [hl], fun j v x hj hx => ?_⟩
  by_cases hlt : j < ar.size
  ·
   rw [Array.getElem?_append_left (by simpa using hlt)] at hj
   rw [List.getElem?_append_left (by simpa using hlt)] at hx
   simp [hlt] at hj hx
   subst hj hx
   exact hop ar[j] (by simp [ho, Op.operands, Call.operands])
  ·
   rw [Array.getElem?_append_right (by simp; omega)] at hj
   rw [List.getElem?_append_right (by simp; omega)] at hx
   simp only [Array.size_map, List.length_map, Array.length_toList] at hj hx
   exact h _ v x hj hx
theorem zam {fo : Operand} {ar : Array Operand} {ts : Array TypeId} {f : FuncId} {caps args : List AV} {r : AV} (ho : o.op = .call { callee := .value fo, args := ar, argTypes := ts }) (hf : F.eval fo = .fn f caps) (hp : Pure P f args r) (ha : ar.toList.map F.eval ++ caps = args) : Does P o F σ r σ := by
 intro G a next Q hr hop hn
 obtain ⟨cap, h1, h2, h3⟩ := call_args ho hop hf
 rw [ha] at h2 h3
 unfold Oper.wp
 rw [call_enter ho a.eval h1 hp.ent G.w, Oper.upon_enter]
 refine (hp.call G _ ⟨fun b o h => hr.st b o (.inl h), hr.below.now⟩ h2 h3).mono ?_
 rintro e w' ⟨v, G1, rfl, hw, hbel, hs1, hs2, hs3, hrep⟩
 obtain ⟨h4, h5⟩ := after_call hr hw hbel hs1 hs2 hs3
 subst hw
 exact hn v { G with w := G1.w, St := G1.St } h4 h5 (hrep.low hp.lo (fun _ _ h => h) (fun _ _ _ => rfl) (fun id y h => by omega) (fun h => by omega))
theorem does_callb {fo : Operand} {ar : Array Operand} {ts : Array TypeId} {f : FuncId} {caps args : List AV} {r : AV} (ho : o.op = .call { callee := .value fo, args := ar, argTypes := ts }) (hf : F.eval fo = .fn f caps) (hp : Pure P f args r) (ha : zbd σ (ar.toList.map F.eval ++ caps) args) (hfl : Flat r) : Does P o F σ r σ := by
 intro G a next Q hr hop hn
 obtain ⟨cap, h1, h2, h3⟩ := call_args ho hop hf
 have hble : G.base ≤ G.w.heap.size := by have h1 := hr.le; have h2 := hr.below.size; omega
 unfold Oper.wp
 rw [call_enter ho a.eval h1 hp.ent G.w, Oper.upon_enter]
 have hst : ∀ b o, (G.all G.base).St b o → b < (G.all G.base).w.heap.size := fun b o h => by
  rcases h with h | h
  ·
   exact hr.st b o (.inl h)
  ·
   exact h.2
 refine (hp.call (G.all G.base) _ ⟨hst, hr.below.now⟩ (h2.trans ha.1) (fun j v x hv hx => ?_)).mono ?_
 ·
  have hj : j < (ar.toList.map F.eval ++ caps).length := by rw [ha.1]; exact (List.getElem?_eq_some_iff.1 hx).1
  exact fin_rep hr (Nat.le_refl _) (ha.2 j _ x (List.getElem?_eq_getElem hj) hx) (h3 j v _ hv (List.getElem?_eq_getElem hj))
 ·
  rintro e w' ⟨v, G1, rfl, hw, hbel, hs1, hs2, hs3, hrep⟩
  have hbel' : Below G.w.heap.size G.w w' := hbel
  obtain ⟨h4, h5⟩ := after_call (G1 := { G1 with St := G.St }) hr hw hbel' (fun _ _ h => h) (fun _ _ h => .inl h) (fun b o h => by have := hr.st b o (.inl h); have := hbel'.size; omega)
  exact hn v _ h4 h5 (hfl G1 _ v hrep)
end
end
end Go.Proofs.YtllkbjcemecmjaaGreat.Aw
end
section
namespace Go.Proofs.YtllkbjcemecmjaaGreat.Aw
open Go.RowKit
def maskOf (acc : List Nat) (o : Oper) : Nat := o.after.toList.foldl (fun s e => bif Region.binds .any e then (s ||| 2 ^ e.on) ||| acc.getD e.on 0 else s) 0
def masks : List Oper → List Nat → List Nat
 | [], acc => acc
 | o :: l, acc => masks l (acc ++ [maskOf acc o])
def clash (ops : Array Oper) (x y : Oper) : Bool :=
 (match x.dst with | some d => (y.looksAt ops).contains d || y.dst == some d | none => false) ||
 (match y.dst with | some d => (x.looksAt ops).contains d | none => false)
def qOk (l : List Oper) : Bool :=
 let m := masks l []
 (List.range l.length).all fun j => match l[j]? with
  | none => true
  | some oj => (oj.after.toList.all fun e => !Region.binds .any e || Nat.blt e.on j) && (List.range j).all fun i => match l[i]? with
   | none => true
   | some oi => !clash l.toArray oi oj || (m.getD j 0).testBit i
theorem maskOf_bit {acc : List Nat} {i : Nat} : ∀ (es : List Edge) (s : Nat), (es.foldl (fun s e => bif Region.binds .any e then (s ||| 2 ^ e.on) ||| acc.getD e.on 0 else s) s).testBit i = true → s.testBit i = true ∨ ∃ e ∈ es, Region.binds .any e = true ∧ (e.on = i ∨ (acc.getD e.on 0).testBit i = true)
 | [], s, h => .inl h
 | e :: es, s, h => by
  rw [List.foldl_cons] at h
  rcases maskOf_bit es _ h with h1 | ⟨e', h1, h2⟩
  ·
   cases hb : Region.binds .any e with
   | false => rw [hb] at h1; exact .inl h1
   | true =>
    rw [hb] at h1
    simp only [cond_true, Nat.testBit_or, Bool.or_eq_true] at h1
    rcases h1 with (h1 | h1) | h1
    ·
     exact .inl h1
    ·
     refine .inr ⟨e, by simp, hb, .inl ?_⟩
     rw [Nat.testBit_two_pow] at h1
     simpa using h1
    ·
     exact .inr ⟨e, by simp, hb, .inr h1⟩
  ·
   exact .inr ⟨e', by simp [h1], h2⟩
def Closed (l : List Oper) (D : Nat → Prop) : Prop := ∀ (j : Nat) o, l[j]? = some o → D j → ∀ e ∈ o.after.toList, Region.binds .any e = true → D e.on
theorem masks_sound {all : List Oper} {D : Nat → Prop} (hD : Closed all D) : ∀ (l : List Oper) (acc : List Nat), (∀ j o, l[j]? = some o → all[acc.length + j]? = some o) → (∀ (j i : Nat), j < acc.length → (acc.getD j 0).testBit i = true → D j → D i) →
  ∀ (j i : Nat), ((masks l acc).getD j 0).testBit i = true → D j → D i
 | [], acc, _, h, j, i, hb, hj => by
  by_cases hlt : j < acc.length
  ·
   exact h j i hlt hb hj
  ·
   simp [masks, List.getD, hlt] at hb
 | o :: l, acc, hall, h, j, i, hb, hj => by
  refine masks_sound hD l (acc ++ [maskOf acc o]) (fun j o' ho' => ?_) (fun j i hlt hb hj => ?_) j i hb hj
  ·
   have := hall (j + 1) o' (by simpa using ho')
   rw [← this]
   congr 1
   simp; omega
  ·
   simp only [List.length_append, List.length_singleton] at hlt
   by_cases hlt2 : j < acc.length
   ·
    rw [List.getD_eq_getElem?_getD, List.getElem?_append_left hlt2, ← List.getD_eq_getElem?_getD] at hb
    exact h j i hlt2 hb hj
   ·
    have hje : j = acc.length := by omega
    subst hje
    rw [List.getD_eq_getElem?_getD, List.getElem?_append_right (Nat.le_refl _)] at hb
    simp at hb
    rcases maskOf_bit _ _ hb with h1 | ⟨e, h1, h2, h3⟩
    ·
     simp at h1
    ·
     have hoe := hD acc.length o (by simpa using hall 0 o rfl) hj e h1 h2
     rcases h3 with rfl | h3
     ·
      exact hoe
     ·
      by_cases hlt3 : e.on < acc.length
      ·
       exact h e.on i hlt3 h3 hoe
      ·
       simp [List.getD, hlt3] at h3
def fr (sel : Nat → Bool) : Nat → List (Nat × AV) → Frm → Frm
 | _, [], F => F
 | k, p :: out, F => fr sel (k + 1) out (bif sel k then p :: F else F)
theorem fr_congr {sel sel' : Nat → Bool} {t : Nat} : ∀ (out : List (Nat × AV)) (k : Nat) (F F' : Frm), F.get t = F'.get t → (∀ (j : Nat) p, out[j]? = some p → p.1 = t → sel (k + j) = sel' (k + j)) → (fr sel k out F).get t = (fr sel' k out F').get t
 | [], k, F, F', h, _ => h
 | p :: out, k, F, F', h, hs => by
  refine fr_congr out (k + 1) _ _ ?_ (fun j q hq he => by have := hs (j + 1) q (by simpa using hq) he; rwa [show k + (j + 1) = k + 1 + j by omega] at this)
  by_cases hp : p.1 = t
  ·
   have h1 := hs 0 p rfl hp
   simp only [Nat.add_zero] at h1
   rw [h1]
   obtain ⟨d, x⟩ := p
   cases sel' k with
   | true => simp only [cond_true, Frm.get, h]
   | false => exact h
  ·
   have hb : ∀ (F : Frm), Frm.get (p :: F) t = F.get t := fun F => by
    obtain ⟨d, x⟩ := p
    simp only [Frm.get]
    cases e : Nat.beq d t with
    | true => exact absurd (Nat.eq_of_beq_eq_true e) hp
    | false => rfl
   cases sel k <;> cases sel' k <;> simp [hb, h]
theorem fr_last {sel : Nat → Bool} {t : Nat} {x : AV} : ∀ (out : List (Nat × AV)) (k : Nat) (F : Frm) (i : Nat), out[i]? = some (t, x) → sel (k + i) = true → (∀ (j : Nat) p, out[j]? = some p → i < j → sel (k + j) = true → p.1 ≠ t) → (fr sel k out F).get t = x
 | [], _, _, i, h, _, _ => by simp at h
 | p :: out, k, F, 0, h, hs, hn => by
  simp at h
  subst h
  have h1 : (fr sel (k + 1) out ((t, x) :: F)).get t = (fr (fun _ => false) (k + 1) out ((t, x) :: F)).get t := fr_congr out (k + 1) _ _ rfl (fun j q hq he => by
   cases hc : sel (k + 1 + j) with
   | false => rfl
   | true => exact absurd he (hn (j + 1) q (by simpa using hq) xd (by rw [show k + (j + 1) = k + 1 + j by omega]; exact hc)))
  have h2 : ∀ (out : List (Nat × AV)) (k : Nat) (F : Frm), fr (fun _ => false) k out F = F := by
   intro out
   induction out with
   | nil => intro k F; rfl
   | cons p out ih => intro k F; simp [fr, ih]
  simp only [Nat.add_zero] at hs
  simp only [fr, hs, cond_true]
  rw [h1, h2]
  simp [Frm.get]
 | p :: out, k, F, i + 1, h, hs, hn => by
  simp only [fr]
  exact fr_last out (k + 1) _ i (by simpa using h) (by rwa [show k + 1 + i = k + (i + 1) by omega]) (fun j q hq hij hc => hn (j + 1) q (by simpa using hq) xd (by rwa [show k + (j + 1) = k + 1 + j by omega]))
theorem fr_pre : ∀ (out : List (Nat × AV)) (k i : Nat) (F : Frm), fr (fun j => decide (j < k + i)) k out F = (out.take i).reverse ++ F
 | [], k, i, F => by simp [fr]
 | p :: out, k, 0, F => by
  have h := fr_pre out (k + 1) 0 F
  have h2 : ∀ (out : List (Nat × AV)) (k' : Nat) (F : Frm), k ≤ k' → fr (fun j => decide (j < k + 0)) k' out F = F := by
   intro out
   induction out with
   | nil => intro k' F _; rfl
   | cons p out ih =>
    intro k' F hk
    have : decide (k' < k + 0) = false := by simp; omega
    simp only [fr, this, cond_false]
    exact ih _ _ xd
  simpa using h2 (p :: out) k F (Nat.le_refl _)
 | p :: out, k, i + 1, F => by
  have h := fr_pre out (k + 1) i (p :: F)
  have : decide (k < k + (i + 1)) = true := by simp
  simp only [fr, this, cond_true]
  rw [show (fun j => decide (j < k + (i + 1))) = (fun j => decide (j < k + 1 + i)) by funext j; congr 1; simp; omega, h]
  simp
inductive QSteps (P : Program) (N : Nat) (ops : Array Oper) (σ : List Ob) : List Oper → Frm → Frm → List (Nat × AV) → Prop
 | nil (F : Frm) : QSteps P N ops σ [] F F []
 | run (o : Oper) (l : List Oper) (F F' : Frm) (x : AV) (out : List (Nat × AV)) (d : Nat) (hd : o.dst = some d) (hN : Nat.blt d N = true) (hr : Runs ops F o true) (hD : Does P o F σ x σ) (h : QSteps P N ops σ l ((d, x) :: F) F' out) : QSteps P N ops σ (o :: l) F F' ((d, x) :: out)
 | skip (o : Oper) (l : List Oper) (F F' : Frm) (out : List (Nat × AV)) (d : Nat) (hd : o.dst = some d) (hN : Nat.blt d N = true) (hr : Runs ops F o false) (h : QSteps P N ops σ l ((d, .s undef) :: F) F' out) : QSteps P N ops σ (o :: l) F F' ((d, .s undef) :: out)
theorem qsteps_at {P : Program} {N : Nat} {ops : Array Oper} {σ : List Ob} : ∀ {l : List Oper} {F F' : Frm} {out : List (Nat × AV)}, QSteps P N ops σ l F F' out → l.length = out.length ∧ F' = out.reverse ++ F ∧
  ∀ (i : Nat) o, l[i]? = some o → ∃ d x, out[i]? = some (d, x) ∧ o.dst = some d ∧ d < N ∧ ((Runs ops ((out.take i).reverse ++ F) o true ∧ Does P o ((out.take i).reverse ++ F) σ x σ) ∨ (Runs ops ((out.take i).reverse ++ F) o false ∧ x = .s undef)) := by
 intro l F F' out h
 induction h with
 | nil F => exact ⟨rfl, rfl, by simp⟩
 | run o l F F' x out d hd hN hr hD h ih =>
  obtain ⟨h1, h2, h3⟩ := ih
  refine ⟨by simp [h1], by simp [h2], fun i o' hi => ?_⟩
  cases i with
  | zero => simp at hi; subst hi; exact ⟨d, x, rfl, hd, by simpa [Nat.blt_eq] using hN, .inl ⟨by simpa using hr, by simpa using hD⟩⟩
  | succ i =>
   obtain ⟨d', x', g1, g2, g3, g4⟩ := h3 i o' (by simpa using hi)
   exact ⟨d', x', by simpa using g1, g2, g3, by simpa using g4⟩
 | skip o l F F' out d hd hN hr h ih =>
  obtain ⟨h1, h2, h3⟩ := ih
  refine ⟨by simp [h1], by simp [h2], fun i o' hi => ?_⟩
  cases i with
  | zero => simp at hi; subst hi; exact ⟨d, .s undef, rfl, hd, by simpa [Nat.blt_eq] using hN, .inr ⟨by simpa using hr, rfl⟩⟩
  | succ i =>
   obtain ⟨d', x', g1, g2, g3, g4⟩ := h3 i o' (by simpa using hi)
   exact ⟨d', x', by simpa using g1, g2, g3, by simpa using g4⟩
def left : List Bool → Nat
 | [] => 0
 | b :: l => (bif b then 0 else 1) + left l
theorem left_set : ∀ (l : List Bool) (i : Nat), l[i]? = some false → left (l.set i true) + 1 = left l
 | [], i, h => by simp at h
 | b :: l, 0, h => by simp at h; subst h; simp [left]; omega
 | b :: l, i + 1, h => by have := left_set l i (by simpa using h); simp [left]; omega
theorem left_pos {l : List Bool} : ∀ (i : Nat), l[i]? = some false → 0 < left l
 | i, h => by have := left_set l i h; omega
theorem eval_congr {F F' : Frm} {ops : Array Oper} {o : Oper} (h : ∀ t ∈ o.looksAt ops, F.get t = F'.get t) : ∀ y ∈ o.op.operands, F.eval y = F'.eval y := by
 intro y hy
 cases y with
 | tmp t => exact h t (List.mem_append_left _ (List.mem_filterMap.2 ⟨.tmp t, by simpa using hy, rfl⟩))
 | _ => rfl
theorem Does.congr {P : Program} {F F' : Frm} {ops : Array Oper} {o : Oper} {σ σ' : List Ob} {x : AV} (h : Does P o F σ x σ') (he : ∀ t ∈ o.looksAt ops, F.get t = F'.get t) : Does P o F' σ x σ' := fun G a next Q hr hop hn =>
 h G a next Q hr (fun y hy => by rw [eval_congr he y hy]; exact hop y hy) hn
theorem Runs.congr {F F' : Frm} {ops : Array Oper} {o : Oper} {b : Bool} (h : Runs ops F o b) (he : ∀ t ∈ o.looksAt ops, F.get t = F'.get t) : Runs ops F' o b := by
 unfold Runs at h ⊢
 cases hg : o.guard with
 | none => rw [hg] at h; exact h
 | some jb =>
  obtain ⟨j, want⟩ := jb
  rw [hg] at h
  obtain ⟨t, h1, h2⟩ := h
  exact ⟨t, h1, by rw [← he t (List.mem_append_right _ (by simp [hg, h1]))]; exact h2⟩
def ADraw (P : Program) (N : Nat) (l : List Oper) (F : Frm) (σ : List Ob) (Q : Exit → Frm → List Ob → Prop) : Prop :=
 ∀ G a, S8 N G a F σ → wpAny P .any l.toArray (lift N G Q) l.length (Array.replicate l.length false) a G.w
theorem clash_of {ops : Array Oper} {x y : Oper} {d : Nat} : (x.dst = some d → d ∈ y.looksAt ops → clash ops x y = true) ∧ (x.dst = some d → y.dst = some d → clash ops x y = true) ∧ (y.dst = some d → d ∈ x.looksAt ops → clash ops x y = true) := by
 refine ⟨fun h1 h2 => ?_, fun h1 h2 => ?_, fun h1 h2 => ?_⟩
 ·
  simp [clash, h1, h2]
 ·
  simp [clash, h1, h2]
 ·
  simp [clash, h1, h2]
section
variable {P : Program} {N : Nat} {l : List Oper} {F F' : Frm} {σ : List Ob} {out : List (Nat × AV)} {Q : Exit → Frm → List Ob → Prop}
theorem quiet_any (hq : qOk l = true) (hs : QSteps P N l.toArray σ l F F' out) (hQ : Q .normal F' σ) (G0 : Cx) :
  ∀ (fuel : Nat) (L : Array Bool) (G : Cx) (a : Act), G0.Step G → L.size = l.length → left L.toList = fuel → Closed l (fun j => L.getD j false = true) → S8 N G a (fr (fun j => L.getD j false) 0 out F) σ → wpAny P .any l.toArray (lift N G0 Q) fuel L a G.w := by
 obtain ⟨hlen, hF', hat⟩ := qsteps_at hs
 unfold qOk at hq
 have hq' : ∀ j oj, l[j]? = some oj → (∀ e ∈ oj.after.toList, Region.binds .any e = true → e.on < j) ∧ ∀ i oi, i < j → l[i]? = some oi → clash l.toArray oi oj = true → ((masks l []).getD j 0).testBit i = true := by
  intro j oj hj
  have h1 := List.all_eq_true.1 hq j (by simpa using (List.getElem?_eq_some_iff.1 hj).1)
  rw [hj] at h1
  simp only [Bool.and_eq_true, List.all_eq_true] at h1
  refine ⟨fun e he hb => ?_, fun i oi hij hi hc => ?_⟩
  ·
   have := h1.1 e he
   rw [hb] at this
   simpa [Nat.blt_eq] using this
  ·
   have := h1.2 i (by simpa using hij)
   rw [hi] at this
   simpa [hc] using this
 have hsound : ∀ (D : Nat → Prop), Closed l D → ∀ j i, ((masks l []).getD j 0).testBit i = true → D j → D i := fun D hD => masks_sound hD l [] (fun j o h => by simpa using h) (fun j i h => by simp at h)
 have hnone : ∀ (L : Array Bool), L.size = l.length → Region.ready .any l.toArray L = [] → ∀ j, j < l.length → L.getD j false = true := by
  intro L hL hr j
  induction j using Nat.strongRecOn with
  | _ j ih =>
   intro hj
   cases hc : L.getD j false with
   | true => rfl
   | false =>
    exfalso
    obtain ⟨o, ho⟩ : ∃ o, l[j]? = some o := ⟨_, List.getElem?_eq_getElem hj⟩
    have hm : j ∈ Region.ready .any l.toArray L := by
     refine mem_ready.2 ⟨?_, o, by simpa using ho, fun e he hb => ?_⟩
     ·
      have hlt : j < L.size := by omega
      simp [Array.getD_eq_getD_getElem?, hlt] at hc ⊢
      exact hc
     ·
      have hon := (hq' j o ho).1 e (by simpa using he) hb
      exact ih e.on hon xd
    rw [hr] at hm
    cases hm
 -- when all have come up
 have hend : ∀ (L : Array Bool) (G : Cx) (a : Act), G0.Step G → L.size = l.length → Region.ready .any l.toArray L = [] → S8 N G a (fr (fun j => L.getD j false) 0 out F) σ → lift N G0 Q .normal a G.w := by
  intro L G a hst hL hr h8
  refine ⟨G, F', σ, rfl, hst, ⟨h8.rel, fun t => ?_, h8.df, h8.nt⟩, hQ⟩
  have h1 := h8.fr t
  have h2 : (fr (fun j => L.getD j false) 0 out F).get t = (fr (fun j => decide (j < 0 + out.length)) 0 out F).get t := fr_congr out 0 F F rfl (fun j p hp _ => by
   have hj : j < out.length := (List.getElem?_eq_some_iff.1 hp).1
   simp only [Nat.zero_add]
   rw [hnone L hL hr j xd]
   simp [hj])
  rw [h2, fr_pre, List.take_length, ← hF'] at h1
  exact h1
 intro fuel
 induction fuel with
 | zero =>
  intro L G a hst hL hlf hcl h8
  have hr : Region.ready .any l.toArray L = [] := by
   rw [List.eq_nil_iff_forall_not_mem]
   intro i hi
   obtain ⟨h1, o, ho, _⟩ := mem_ready.1 hi
   have hlt : i < L.size := by rw [hL]; simpa using (Array.getElem?_eq_some_iff.1 ho).1
   have : 0 < left L.toList := left_pos i (by simp [Array.getD_eq_getD_getElem?, hlt] at h1 ⊢; exact h1)
   omega
  exact ⟨hr, hend L G a hst hL hr h8⟩
 | succ fuel ih =>
  intro L G a hst hL hlf hcl h8
  refine ⟨fun hr => hend L G a hst hL hr h8, fun i hi => ?_⟩
  obtain ⟨h1, o, ho, hall⟩ := mem_ready.1 hi
  have hli : l[i]? = some o := by simpa using ho
  have hlt : i < L.size := by rw [hL]; exact (List.getElem?_eq_some_iff.1 hli).1
  have hfalse : L.getD i false = false := by simp [Array.getD_eq_getD_getElem?, hlt] at h1 ⊢; exact h1
  obtain ⟨d, x, g1, g2, g3, g4⟩ := hat i o hli
  -- the others that touch its slots: those before it have come up, those behind it have not
  have hcl' : Closed l (fun j => j = i ∨ L.getD j false = true) := by
   intro j oj hj hD e he hb
   rcases hD with rfl | hD
   ·
    rw [hli] at hj; cases hj
    exact .inr (hall e (by simpa using he) hb)
   ·
    exact .inr (hcl j oj hj hD e he hb)
  have hord : ∀ j oj, l[j]? = some oj → j ≠ i → (j < i → clash l.toArray oj o = true → L.getD j false = true) ∧ (i < j → clash l.toArray o oj = true → L.getD j false = false) := by
   intro j oj hj hne
   refine ⟨fun hji hc => ?_, fun hij hc => ?_⟩
   ·
    rcases hsound _ hcl' i j ((hq' i o hli).2 j oj hji hj hc) (.inl rfl) with h | h
    ·
     exact absurd h hne
    ·
     exact h
   ·
    cases hx : L.getD j false with
    | false => rfl
    | true =>
     have := hsound _ hcl j i ((hq' j oj hj).2 i o hij hli hc) hx
     rw [hfalse] at this
     cases this
  have hsel : ∀ t, t ∈ o.looksAt l.toArray → Frm.get ((out.take i).reverse ++ F) t = (fr (fun j => L.getD j false) 0 out F).get t := by
   intro t ht
   rw [← fr_pre out 0 i F]
   refine (fr_congr out 0 F F rfl (fun j p hp hpt => ?_)).symm
   simp only [Nat.zero_add]
   have hj : j < l.length := by rw [hlen]; exact (List.getElem?_eq_some_iff.1 hp).1
   obtain ⟨d', x', k1, k2, _, _⟩ := hat j _ (List.getElem?_eq_getElem hj)
   rw [k1] at hp
   cases hp
   dsimp only at hpt
   subst hpt
   by_cases hji : j = i
   ·
    subst hji; rw [hfalse]; simp
   ·
    rcases Nat.lt_or_gt_of_ne hji with h | h
    ·
     rw [(hord j _ (List.getElem?_eq_getElem hj) hji).1 h (clash_of.1 k2 ht)]; simp [h]
    ·
     rw [(hord j _ (List.getElem?_eq_getElem hj) hji).2 h (clash_of.2.2 k2 ht)]; simp; omega
  -- what is known behind it
  have hnext : ∀ (G' : Cx) (v : Value), G.Ext G' → Rel G' σ → Rep G' v x → wpAny P .any l.toArray (lift N G0 Q) fuel (L.setIfInBounds i true) (a.put (some d) v) G'.w := by
   intro G' v he hr' hv
   refine ih _ G' _ (hst.trans he.step) (by simpa using hL) ?_ ?_ ⟨hr', fun t => ?_, h8.df, by simp [Act.put, h8.nt]⟩
   ·
    have := left_set L.toList i (by simp [Array.getD_eq_getD_getElem?, hlt] at hfalse ⊢; exact hfalse)
    rw [Array.toList_setIfInBounds]; omega
   ·
    intro j oj hj hD e he2 hb
    have key : ∀ k, (L.setIfInBounds i true).getD k false = true ↔ (k = i ∨ L.getD k false = true) := fun k => by
     by_cases hk : i = k
     ·
      subst hk; simp [Array.getD_eq_getD_getElem?, hlt]
     ·
      simp [Array.getD_eq_getD_getElem?, Array.getElem?_setIfInBounds, hk, Ne.symm hk]
    rw [key] at hD ⊢
    exact hcl' j oj hj hD e he2 hb
   ·
    have hselL : ∀ k, k ≠ i → (L.setIfInBounds i true).getD k false = L.getD k false := fun k hk => by
     simp [Array.getD_eq_getD_getElem?, Array.getElem?_setIfInBounds, Ne.symm hk]
    by_cases htd : t = d
    ·
     subst htd
     have h2 : (fr (fun j => (L.setIfInBounds i true).getD j false) 0 out F).get t = x := fr_last out 0 F i g1 (by simp [Array.getD_eq_getD_getElem?, hlt]) (fun j p hp hij hc hpt => by
      simp only [Nat.zero_add] at hc
      rw [hselL j xd] at hc
      have hj : j < l.length := by rw [hlen]; exact (List.getElem?_eq_some_iff.1 hp).1
      obtain ⟨d', x', k1, k2, _, _⟩ := hat j _ (List.getElem?_eq_getElem hj)
      rw [k1] at hp
      cases hp
      dsimp only at hpt
      subst hpt
      have := (hord j _ (List.getElem?_eq_getElem hj) xd).2 hij (clash_of.2.1 g2 k2)
      rw [this] at hc
      cases hc)
     rw [h2]
     have : t < a.tmps.size := by rw [h8.nt]; exact g3
     simpa [Act.put, Array.getD_eq_getD_getElem?, this] using hv
    ·
     have h2 : (fr (fun j => (L.setIfInBounds i true).getD j false) 0 out F).get t = (fr (fun j => L.getD j false) 0 out F).get t := fr_congr out 0 F F rfl (fun j p hp hpt => by
      simp only [Nat.zero_add]
      refine hselL j (fun e => ?_)
      subst e
      rw [g1] at hp
      cases hp
      exact htd hpt.symm)
     rw [h2]
     have := (h8.fr t).ext he
     simpa [Act.put, Array.getD_eq_getD_getElem?, Array.getElem?_setIfInBounds, Ne.symm htd] using this
  unfold wpOp
  simp only [ho]
  rcases g4 with ⟨k1, k2⟩ | ⟨k1, rfl⟩
  ·
   rw [if_pos ((k1.congr hsel).wanted h8.fr)]
   left
   refine (k2.congr hsel) G a _ _ h8.rel (fun y _ => zc4 h8.fr y) (fun v G' he hr' hv => ?_)
   rw [g2]
   exact hnext G' v he hr' hv
  ·
   rw [if_neg (by rw [(k1.congr hsel).wanted h8.fr]; simp)]
   rw [g2]
   exact hnext G undef (.refl G) h8.rel (.s _)
def QX (P : Program) (N : Nat) (ops : Array Oper) (σ : List Ob) (l : List Oper) (F : Frm) (K : Frm → Prop) : Prop := ∃ F' out, QSteps P N ops σ l F F' out ∧ K F'
theorem zdg {ops : Array Oper} {K : Frm → Prop} (h : K F) : QX P N ops σ [] F K := ⟨F, [], .nil F, h⟩
theorem zby {ops : Array Oper} {K : Frm → Prop} {o : Oper} {d : Nat} {x : AV} (hd : o.dst = some d) (hN : Nat.blt d N = true) (hr : Runs ops F o true) (hD : Does P o F σ x σ) (h : QX P N ops σ l ((d, x) :: F) K) : QX P N ops σ (o :: l) F K := by
 obtain ⟨F', out, h1, h2⟩ := h
 exact ⟨F', _, .run o l F F' x out d hd hN hr hD h1, h2⟩
theorem zdw {ops : Array Oper} {K : Frm → Prop} {o : Oper} {d : Nat} (hd : o.dst = some d) (hN : Nat.blt d N = true) (hr : Runs ops F o false) (h : QX P N ops σ l ((d, .s undef) :: F) K) : QX P N ops σ (o :: l) F K := by
 obtain ⟨F', out, h1, h2⟩ := h
 exact ⟨F', _, .skip o l F F' out d hd hN hr h1, h2⟩
theorem left_rep : ∀ n, left (List.replicate n false) = n
 | 0 => rfl
 | n + 1 => by simp [List.replicate_succ, left, left_rep n]; omega
theorem zbx (hq : qOk l = true) (h : QX P N l.toArray σ l F (fun F' => Q .normal F' σ)) : ADraw P N l F σ Q := fun G a hs => by
 obtain ⟨F', out, h1, h2⟩ := h
 have h3 : ∀ (out : List (Nat × AV)) (k : Nat) (F : Frm), fr (fun j => (Array.replicate l.length false).getD j false) k out F = F := by
  intro out
  induction out with
  | nil => intro k F; rfl
  | cons p out ih =>
   intro k F
   have : (Array.replicate l.length false).getD k false = false := by
    simp only [Array.getD_eq_getD_getElem?, Array.getElem?_replicate]
    split <;> rfl
   simp only [fr, this, cond_false]
   exact ih _ _
 refine quiet_any hq h1 h2 G l.length _ G a (.refl G) xo (by simp [left_rep]) ?_ ?_
 ·
  intro j o hj hD
  have : (Array.replicate l.length false).getD j false = false := by
   simp only [Array.getD_eq_getD_getElem?, Array.getElem?_replicate]
   split <;> rfl
  rw [this] at hD
  cases hD
 ·
  rw [h3]; exact hs
theorem wpAny_mono {md : Region.Mode} {ops : Array Oper} {Q Q' : Exit → Act → World → Prop} (hQ : ∀ e a w, Q e a w → Q' e a w) : ∀ (fuel : Nat) (L : Array Bool) (a : Act) (w : World), wpAny P md ops Q fuel L a w → wpAny P md ops Q' fuel L a w
 | 0, L, a, w, h => ⟨h.1, hQ _ _ _ h.2⟩
 | fuel + 1, L, a, w, h => by
  refine ⟨fun hr => hQ _ _ _ (h.1 hr), fun i hi => ?_⟩
  have h1 := h.2 i hi
  unfold wpOp at h1 ⊢
  split
  ·
   rename_i hn
   rw [hn] at h1
   exact wpAny_mono hQ fuel _ a w h1
  ·
   rename_i o hn
   rw [hn] at h1
   dsimp only at h1
   split
   ·
    rename_i hw
    rw [if_pos hw] at h1
    rcases h1 with h1 | ⟨h1, a0, w0, h2⟩
    ·
     exact .inl (upon_mono (fun a w x => wpAny_mono hQ fuel _ a w x) hQ h1)
    ·
     exact .inr ⟨h1, a0, w0, hQ _ _ _ h2⟩
   ·
    rename_i hw
    rw [if_neg hw] at h1
    exact wpAny_mono hQ fuel _ _ w h1
theorem zb2 {id : Nat} (hm : P.follows .mixedOrders = true) (h : ADraw P N l F σ Q) : AWp P N (.region id l.toArray true) F σ Q := fun G a hs => by
 refine wp_region_any hm ?_
 have he := drew_ext G
 have h1 := h _ a (hs.step he (drew_rel hs.rel))
 exact wpAny_mono (fun e a w q => lift_mono he.step (fun _ _ _ x => x) q) _ _ _ _ (by simpa using h1)
end
end Go.Proofs.YtllkbjcemecmjaaGreat.Aw
end
section
namespace Go.Proofs.YtllkbjcemecmjaaGreat
open Go.RowKit
theorem B2.alloc {W : World} {g : Nat} {x y : Value} (h : B2 W g x y) (o : Obj) : B2 (W.alloc o) g x y :=
 B2.after ((Below.refl W.heap.size W).alloc (Nat.le_refl _) o) h h.lt
theorem block_far {W : World} {g g' o : Nat} {u : Value} (hne : g ≠ g') : (W.setCell ⟨g', o, none⟩ u).heap[g]? = W.heap[g]? := Below.heap_setCell _ _ _ _ hne
theorem B2.of_block {W W' : World} {g : Nat} {x y : Value} (h : B2 W g x y) (he : W'.heap[g]? = W.heap[g]?) (hs : W.heap.size ≤ W'.heap.size) : B2 W' g x y := by
 obtain ⟨h1, h2, h3, h4, h5⟩ := h
 exact ⟨(World.cell?_of_block (w := W) he).trans h1, (World.cell?_of_block (w := W) he).trans h2, (World.frozen?_of_block (w := W) he).trans h3, (World.frozen?_of_block (w := W) he).trans h4, Nat.lt_of_lt_of_le h5 hs⟩
theorem B1.of_block {W W' : World} {g : Nat} {x : Value} (h : B1 W g x) (he : W'.heap[g]? = W.heap[g]?) (hs : W.heap.size ≤ W'.heap.size) : B1 W' g x := by
 obtain ⟨h1, h2, h5⟩ := h
 exact ⟨(World.cell?_of_block (w := W) he).trans h1, (World.frozen?_of_block (w := W) he).trans h2, Nat.lt_of_lt_of_le h5 hs⟩
theorem size_setCell (W : World) (p : Addr) (u : Value) : (W.setCell p u).heap.size = W.heap.size := by simp [World.setCell]
theorem B2.far {W : World} {g : Nat} {x y : Value} (h : B2 W g x y) {g' o : Nat} (hne : g ≠ g') (u : Value) : B2 (W.setCell ⟨g', o, none⟩ u) g x y :=
 h.of_block (block_far hne) (by rw [size_setCell]; exact Nat.le_refl _)
theorem B1.far {W : World} {g : Nat} {x : Value} (h : B1 W g x) {g' o : Nat} (hne : g ≠ g') (u : Value) : B1 (W.setCell ⟨g', o, none⟩ u) g x :=
 h.of_block (block_far hne) (by rw [size_setCell]; exact Nat.le_refl _)
theorem B1.new (W : World) (x : Value) (t : TypeId) : B1 (W.alloc (.cells #[x] t)) W.heap.size x := by simp [B1, go_sem]
theorem B2.new (W : World) (x y : Value) (t : TypeId) : B2 (W.alloc (.cells #[x, y] t)) W.heap.size x y := by simp [B2, go_sem]
abbrev K1 (w : World) (g : Nat) (x : Value) : Prop := w.cell? ⟨g, 0, none⟩ = some x ∧ w.frozen? ⟨g, 0, none⟩ = false ∧ g < w.heap.size
abbrev K2 (w : World) (g : Nat) (x y : Value) : Prop := w.cell? ⟨g, 0, none⟩ = some x ∧ w.cell? ⟨g, 1, none⟩ = some y ∧ w.frozen? ⟨g, 0, none⟩ = false ∧ w.frozen? ⟨g, 1, none⟩ = false ∧ g < w.heap.size
abbrev K6 (w : World) (g : Nat) (a b c d e f : Value) : Prop := w.cell? ⟨g, 0, none⟩ = some a ∧ w.cell? ⟨g, 1, none⟩ = some b ∧ w.cell? ⟨g, 2, none⟩ = some c ∧ w.cell? ⟨g, 3, none⟩ = some d ∧ w.cell? ⟨g, 4, none⟩ = some e ∧ w.cell? ⟨g, 5, none⟩ = some f ∧ g < w.heap.size
theorem K1.after {W w1 : World} {g : Nat} {x : Value} (h : K1 W g x) (hb : Below W.heap.size W w1) : K1 w1 g x := B1.after hb h h.2.2
theorem K2.after {W w1 : World} {g : Nat} {x y : Value} (h : K2 W g x y) (hb : Below W.heap.size W w1) : K2 w1 g x y := B2.after hb h h.2.2.2.2
theorem K1.off {c : Nat} {W w1 : World} {g : Nat} {x : Value} (h : K1 W g x) (hb : Off c W.heap.size W w1) (hc : g ≠ c) : K1 w1 g x := B1.off hb h h.2.2 hc
theorem K2.off {c : Nat} {W w1 : World} {g : Nat} {x y : Value} (h : K2 W g x y) (hb : Off c W.heap.size W w1) (hc : g ≠ c) : K2 w1 g x y := B2.off hb h h.2.2.2.2 hc
theorem K6.of_block {W W' : World} {g : Nat} {a b c d e f : Value} (h : K6 W g a b c d e f) (he : W'.heap[g]? = W.heap[g]?) (hs : W.heap.size ≤ W'.heap.size) : K6 W' g a b c d e f := by
 obtain ⟨h1, h2, h3, h4, h5, h6, h7⟩ := h
 exact ⟨(World.cell?_of_block (w := W) he).trans h1, (World.cell?_of_block (w := W) he).trans h2, (World.cell?_of_block (w := W) he).trans h3, (World.cell?_of_block (w := W) he).trans h4, (World.cell?_of_block (w := W) he).trans h5, (World.cell?_of_block (w := W) he).trans h6, Nat.lt_of_lt_of_le h7 hs⟩
theorem K6.after {W w1 : World} {g : Nat} {a b c d e f : Value} (h : K6 W g a b c d e f) (hb : Below W.heap.size W w1) : K6 w1 g a b c d e f := K6.of_block h (hb.block g h.2.2.2.2.2.2) hb.size
theorem K6.off {x : Nat} {W w1 : World} {g : Nat} {a b c d e f : Value} (h : K6 W g a b c d e f) (hb : Off x W.heap.size W w1) (hc : g ≠ x) : K6 w1 g a b c d e f := K6.of_block h (hb.block g h.2.2.2.2.2.2 hc) hb.size
theorem K1.alloc {W : World} {g : Nat} {x : Value} (h : K1 W g x) (o : Obj) : K1 (W.alloc o) g x := K1.after h ((Below.refl W.heap.size W).alloc (Nat.le_refl _) o)
theorem K2.alloc {W : World} {g : Nat} {x y : Value} (h : K2 W g x y) (o : Obj) : K2 (W.alloc o) g x y := K2.after h ((Below.refl W.heap.size W).alloc (Nat.le_refl _) o)
theorem K6.alloc {W : World} {g : Nat} {a b c d e f : Value} (h : K6 W g a b c d e f) (o : Obj) : K6 (W.alloc o) g a b c d e f := K6.after h ((Below.refl W.heap.size W).alloc (Nat.le_refl _) o)
theorem K1.new (W : World) (x : Value) (t : TypeId) : K1 (W.alloc (.cells #[x] t)) W.heap.size x := B1.new W x t
theorem K2.new (W : World) (x y : Value) (t : TypeId) : K2 (W.alloc (.cells #[x, y] t)) W.heap.size x y := B2.new W x y t
theorem K6.new (W : World) (a b c d e f : Value) (t : TypeId) : K6 (W.alloc (.cells #[a, b, c, d, e, f] t)) W.heap.size a b c d e f := by simp [K6, go_sem]
theorem K2.set {W : World} {g : Nat} {x y : Value} (h : K2 W g x y) (u v : Value) : K2 ((W.setCell ⟨g, 0, none⟩ u).setCell ⟨g, 1, none⟩ v) g u v := B2.set h u v
theorem K1.set {W : World} {g : Nat} {x : Value} (h : K1 W g x) (u : Value) : K1 (W.setCell ⟨g, 0, none⟩ u) g u := B1.set h u
theorem K1.far {W : World} {g : Nat} {x : Value} (h : K1 W g x) {g' o : Nat} (hne : g ≠ g') (u : Value) : K1 (W.setCell ⟨g', o, none⟩ u) g x := B1.far h hne u
theorem K2.far {W : World} {g : Nat} {x y : Value} (h : K2 W g x y) {g' o : Nat} (hne : g ≠ g') (u : Value) : K2 (W.setCell ⟨g', o, none⟩ u) g x y := B2.far h hne u
theorem K6.far {W : World} {g : Nat} {a b c d e f : Value} (h : K6 W g a b c d e f) {g' o : Nat} (hne : g ≠ g') (u : Value) : K6 (W.setCell ⟨g', o, none⟩ u) g a b c d e f :=
 K6.of_block h (block_far hne) (by rw [size_setCell]; exact Nat.le_refl _)
def RdG (t : TypeId) (size : Nat) (w : World) (lo hi : Nat) (v : Value) (n : Nat) (xs : List Value) : Prop :=
 xs.length = n * size ∧ ∃ A c, v = .slice A n c ∧ n ≤ c ∧ n ≤ maxLen ∧ (0 < n → ∃ b off cs fr, A = some ⟨b, off, none⟩ ∧ lo ≤ b ∧ b < hi ∧ w.heap[b]? = some (.cells cs t fr) ∧ ∀ j u, xs[j]? = some u → cs[off + j]? = some u)
section
variable {t : TypeId} {size : Nat} {w W : World} {lo hi : Nat} {v : Value} {n : Nat} {xs : List Value}
theorem RdG.of_blocks (h : RdG t size w lo hi v n xs) (hk : ∀ b, lo ≤ b → b < hi → b < w.heap.size → (∃ cs fr, w.heap[b]? = some (.cells cs t fr)) → W.heap[b]? = w.heap[b]?) : RdG t size W lo hi v n xs := by
 obtain ⟨h1, A, c, hv, h2, h3, h4⟩ := h
 refine ⟨h1, A, c, hv, h2, h3, fun hn => ?_⟩
 obtain ⟨b, off, cs, fr, hA, hlo, hhi, hb, hc⟩ := h4 hn
 exact ⟨b, off, cs, fr, hA, hlo, hhi, (hk b hlo hhi (Array.getElem?_eq_some_iff.1 hb).1 ⟨cs, fr, hb⟩).trans hb, hc⟩
theorem RdG.after (h : RdG t size w lo hi v n xs) (hb : Below w.heap.size w W) : RdG t size W lo hi v n xs := h.of_blocks fun b _ _ hb' _ => hb.block b hb'
theorem RdG.off {c : Nat} (h : RdG t size w lo hi v n xs) (hb : Off c w.heap.size w W) (hc : c < lo) : RdG t size W lo hi v n xs := h.of_blocks fun b hl _ hb' _ => hb.block b hb' xd
theorem RdG.mono {lo' hi' : Nat} (h : RdG t size w lo hi v n xs) (hl : lo' ≤ lo) (hh : hi ≤ hi') : RdG t size w lo' hi' v n xs := by
 obtain ⟨h1, A, c, hv, h2, h3, h4⟩ := h
 refine ⟨h1, A, c, hv, h2, h3, fun hn => ?_⟩
 obtain ⟨b, off, cs, fr, hA, hlo, hhi, hb, hc⟩ := h4 hn
 exact ⟨b, off, cs, fr, hA, by omega, by omega, hb, hc⟩
theorem RdG.form (h : RdG t size w lo hi v n xs) : ∃ A c, v = .slice A n c ∧ n ≤ c ∧ n ≤ 9223372036854775807 := by
 obtain ⟨h1, A, c, hv, h2, h3, h4⟩ := h
 exact ⟨A, c, hv, h2, by unfold maxLen at h3; omega⟩
theorem RdG.cells {A : Option Addr} {c : Nat} (h : RdG t size w lo hi (.slice A n c) n xs) (hn : 0 < n) : ∃ b off, A = some ⟨b, off, none⟩ ∧ lo ≤ b ∧ b < hi ∧ b < w.heap.size ∧ ∀ j u, xs[j]? = some u → w.cell? ⟨b, off + j, none⟩ = some u := by
 obtain ⟨h1, A', c', hv, h2, h3, h4⟩ := h
 injection hv with hA _ hc
 subst hA
 obtain ⟨b, off, cs, fr, hA, hlo, hhi, hb, hc⟩ := h4 hn
 refine ⟨b, off, hA, hlo, hhi, (Array.getElem?_eq_some_iff.1 hb).1, fun j u hu => ?_⟩
 rw [cell_of_row w b (off + j) cs t fr hb]
 exact hc j u hu
end
theorem Off.grown {c N : Nat} {w W W' : World} {row : Option Nat} (h : Off c N w W) (hg : W.grownBy W' row) (hN : N ≤ W.heap.size) (hr : ∀ g, row = some g → N ≤ g) : Off c N w W' :=
 h.trans ⟨hg.os, hg.tape, hg.output, hg.size, fun k hk _ => hg.block k xd (fun e => by have := hr k e.symm; omega)⟩
theorem K1.grown {W w1 : World} {g : Nat} {x : Value} {row : Option Nat} (h : K1 W g x) (hg : W.grownBy w1 row) (hr : ∀ k, row = some k → g < k) : K1 w1 g x :=
 B1.of_block h (hg.block g h.2.2 (fun e => by have := hr g e.symm; omega)) hg.size
theorem K2.grown {W w1 : World} {g : Nat} {x y : Value} {row : Option Nat} (h : K2 W g x y) (hg : W.grownBy w1 row) (hr : ∀ k, row = some k → g < k) : K2 w1 g x y :=
 B2.of_block h (hg.block g h.2.2.2.2 (fun e => by have := hr g e.symm; omega)) hg.size
theorem K6.grown {W w1 : World} {g : Nat} {a b c d e f : Value} {row : Option Nat} (h : K6 W g a b c d e f) (hg : W.grownBy w1 row) (hr : ∀ k, row = some k → g < k) : K6 w1 g a b c d e f :=
 K6.of_block h (hg.block g h.2.2.2.2.2.2 (fun e => by have := hr g e.symm; omega)) hg.size
structure Chg (D : Nat → Prop) (w W : World) : Prop where
 os : W.os = w.os
 tape : W.tape = w.tape
 output : W.output = w.output
 size : w.heap.size ≤ W.heap.size
 block : ∀ k, k < w.heap.size → ¬ D k → W.heap[k]? = w.heap[k]?
theorem Chg.below {w W : World} (h : Below w.heap.size w W) : Chg (fun _ => False) w W := ⟨h.os, h.tape, h.output, h.size, fun k hk _ => h.block k hk⟩
theorem Chg.off {c : Nat} {w W : World} (h : Off c w.heap.size w W) : Chg (fun k => k = c) w W := ⟨h.os, h.tape, h.output, h.size, fun k hk hc => h.block k hk hc⟩
theorem Chg.grown {row : Option Nat} {w W : World} (h : w.grownBy W row) : Chg (fun k => row = some k) w W := ⟨h.os, h.tape, h.output, h.size, fun k hk hc => h.block k hk (fun e => hc e.symm)⟩
theorem Chg.drew (w : World) : Chg (fun _ => False) w w.drew := ⟨rfl, rfl, rfl, Nat.le_refl _, fun _ _ _ => rfl⟩
theorem Chg.drewN (w : World) (n : Nat) : Chg (fun _ => False) w (w.drewN n) := Chg.below (below_drewN (Below.refl _ w) n)
theorem Chg.alloc (w : World) (o : Obj) : Chg (fun _ => False) w (w.alloc o) := Chg.below ((Below.refl _ w).alloc (Nat.le_refl _) o)
theorem Chg.set (w : World) (g i : Nat) (u : Value) : Chg (fun k => k = g) w (w.setCell ⟨g, i, none⟩ u) :=
 ⟨rfl, rfl, rfl, by simp [World.setCell], fun k hk hc => Below.heap_setCell _ _ _ _ hc⟩
structure Loc where
 P : World → Prop
 F : Nat → Prop
 keep : ∀ {D : Nat → Prop} {w W : World}, Chg D w W → (∀ k, F k → ¬ D k) → P w → P W
abbrev Loc.k1 (g : Nat) (x : Value) : Loc := ⟨fun w => K1 w g x, fun k => k = g, fun h hd hp => B1.of_block hp (h.block g hp.2.2 (hd g rfl)) h.size⟩
abbrev Loc.k2 (g : Nat) (x y : Value) : Loc := ⟨fun w => K2 w g x y, fun k => k = g, fun h hd hp => B2.of_block hp (h.block g hp.2.2.2.2 (hd g rfl)) h.size⟩
abbrev C1 (w : World) (b o : Nat) (x : Value) : Prop := w.cell? ⟨b, o, none⟩ = some x
abbrev C2 (w : World) (b o : Nat) (x y : Value) : Prop := w.cell? ⟨b, o, none⟩ = some x ∧ w.cell? ⟨b, o + 1, none⟩ = some y
abbrev Loc.c1 (b o : Nat) (x : Value) : Loc := ⟨fun w => C1 w b o x, fun k => k = b, fun h hd hp => (World.cell?_of_block (h.block b (World.block_lt_of_cell? _ _ hp) (hd b rfl))).trans hp⟩
abbrev Loc.c2 (b o : Nat) (x y : Value) : Loc := ⟨fun w => C2 w b o x y, fun k => k = b, fun h hd hp => ⟨(World.cell?_of_block (h.block b (World.block_lt_of_cell? _ _ hp.1) (hd b rfl))).trans hp.1, (World.cell?_of_block (h.block b (World.block_lt_of_cell? _ _ hp.1) (hd b rfl))).trans hp.2⟩⟩
abbrev Loc.fr (c N : Nat) (w0 : World) : Loc :=
 ⟨fun W => Off c N w0 W ∧ N ≤ W.heap.size, fun k => k < N ∧ k ≠ c, fun h hd hp => ⟨hp.1.trans ⟨h.os, h.tape, h.output, h.size, fun k hk hc => h.block k (Nat.lt_of_lt_of_le hk hp.2) (hd k ⟨hk, hc⟩)⟩, Nat.le_trans hp.2 h.size⟩⟩
abbrev Loc.own (lo hi : Nat) (t : TypeId) (sz : Nat) (v : Value) (n : Nat) (xs : List Value) : Loc :=
 ⟨fun w => w.ownsRow lo t sz v n xs ∧ ∀ k, v.ownBlock = some k → k < hi, fun k => lo ≤ k ∧ k < hi ∧ v.ownBlock = some k, fun h hd hp => by
  refine ⟨⟨hp.1.1, ?_⟩, hp.2⟩
  rcases hp.1.2 with h2 | ⟨g, cap, cur, hv, hg, hh, r⟩
  ·
   exact Or.inl h2
  ·
   have hvg : v.ownBlock = some g := by rw [hv]; rfl
   exact Or.inr ⟨g, cap, cur, hv, hg, (h.block g (Array.getElem?_eq_some_iff.1 hh).1 (hd g ⟨hg, hp.2 g hvg, hvg⟩)).trans hh, r⟩⟩
abbrev Loc.bl (N : Nat) (w0 : World) : Loc :=
 ⟨fun W => Below N w0 W ∧ N ≤ W.heap.size, fun k => k < N, fun h hd hp => ⟨hp.1.trans ⟨h.os, h.tape, h.output, h.size, fun k hk => h.block k (Nat.lt_of_lt_of_le hk hp.2) (hd k hk)⟩, Nat.le_trans hp.2 h.size⟩⟩
abbrev Loc.sz (N : Nat) : Loc := ⟨fun w => N ≤ w.heap.size, fun _ => False, fun h _ hp => Nat.le_trans hp h.size⟩
def Mem : List Loc → World → Prop
 | [], _ => True
 | a :: l, w => a.P w ∧ Mem l w
def Apart (D : Nat → Prop) : List Loc → Prop
 | [] => True
 | a :: l => (∀ k, a.F k → D k → False) ∧ Apart D l
theorem Mem.chg {D : Nat → Prop} {w W : World} (h : Chg D w W) : ∀ {l : List Loc}, Mem l w → Apart D l → Mem l W
 | [], _, _ => True.intro
 | a :: l, hm, ha => ⟨a.keep h (fun k hk hd => ha.1 k hk hd) hm.1, Mem.chg h hm.2 ha.2⟩
theorem Apart.none : ∀ {l : List Loc}, Apart (fun _ => False) l
 | [] => True.intro
 | _ :: _ => ⟨fun _ _ h => h, Apart.none⟩
theorem Mem.below {w W : World} {l : List Loc} (hm : Mem l w) (h : Below w.heap.size w W) : Mem l W := hm.chg (Chg.below h) Apart.none
theorem Mem.drew {w : World} {l : List Loc} (hm : Mem l w) : Mem l w.drew := hm.chg (Chg.drew w) Apart.none
theorem Mem.drewN {w : World} {l : List Loc} (hm : Mem l w) (n : Nat) : Mem l (w.drewN n) := hm.chg (Chg.drewN w n) Apart.none
theorem Mem.alloc {w : World} {l : List Loc} (hm : Mem l w) (o : Obj) : Mem l (w.alloc o) := hm.chg (Chg.alloc w o) Apart.none
theorem Mem.off {c : Nat} {w W : World} {l : List Loc} (hm : Mem l w) (h : Off c w.heap.size w W) (ha : Apart (fun k => k = c) l) : Mem l W := hm.chg (Chg.off h) ha
theorem Mem.set {g i : Nat} {u : Value} {w : World} {l : List Loc} (hm : Mem l w) (ha : Apart (fun k => k = g) l) : Mem l (w.setCell ⟨g, i, none⟩ u) := hm.chg (Chg.set w g i u) ha
theorem Mem.grown {row : Option Nat} {w W : World} {l : List Loc} (hm : Mem l w) (h : w.grownBy W row) (ha : Apart (fun k => row = some k) l) : Mem l W := hm.chg (Chg.grown h) ha
theorem Mem.cons {a : Loc} {w : World} {l : List Loc} (h : a.P w) (hm : Mem l w) : Mem (a :: l) w := ⟨h, hm⟩
def RdC (size : Nat) (w : World) (lo hi : Nat) (v : Value) (n : Nat) (xs : List Value) : Prop :=
 xs.length = n * size ∧ ∃ A c, v = .slice A n c ∧ n ≤ c ∧ n ≤ maxLen ∧ (0 < n → ∃ b off, A = some ⟨b, off, none⟩ ∧ lo ≤ b ∧ b < hi ∧ ∀ j u, xs[j]? = some u → w.cell? ⟨b, off + j, none⟩ = some u)
section
variable {size : Nat} {w W : World} {lo hi : Nat} {v : Value} {n : Nat} {xs : List Value}
theorem RdC.of_blocks (h : RdC size w lo hi v n xs) (hk : ∀ b, lo ≤ b → b < hi → b < w.heap.size → W.heap[b]? = w.heap[b]?) : RdC size W lo hi v n xs := by
 obtain ⟨h1, A, c, hv, h2, h3, h4⟩ := h
 refine ⟨h1, A, c, hv, h2, h3, fun hn => ?_⟩
 obtain ⟨b, off, hA, hlo, hhi, hc⟩ := h4 hn
 exact ⟨b, off, hA, hlo, hhi, fun j u hu => (World.cell?_of_block (hk b hlo hhi (World.block_lt_of_cell? _ _ (hc j u hu)))).trans (hc j u hu)⟩
theorem RdC.after (h : RdC size w lo hi v n xs) (hb : Below w.heap.size w W) : RdC size W lo hi v n xs := h.of_blocks fun b _ _ hb' => hb.block b hb'
theorem RdC.mono {lo' hi' : Nat} (h : RdC size w lo hi v n xs) (hl : lo' ≤ lo) (hh : hi ≤ hi') : RdC size w lo' hi' v n xs := by
 obtain ⟨h1, A, c, hv, h2, h3, h4⟩ := h
 refine ⟨h1, A, c, hv, h2, h3, fun hn => ?_⟩
 obtain ⟨b, off, hA, hlo, hhi, hc⟩ := h4 hn
 exact ⟨b, off, hA, by omega, by omega, hc⟩
theorem RdC.form (h : RdC size w lo hi v n xs) : ∃ A c, v = .slice A n c ∧ n ≤ c ∧ n ≤ 9223372036854775807 := by
 obtain ⟨h1, A, c, hv, h2, h3, h4⟩ := h
 exact ⟨A, c, hv, h2, by unfold maxLen at h3; omega⟩
theorem RdC.cells {A : Option Addr} {c : Nat} (h : RdC size w lo hi (.slice A n c) n xs) (hn : 0 < n) : ∃ b off, A = some ⟨b, off, none⟩ ∧ lo ≤ b ∧ b < hi ∧ ∀ j u, xs[j]? = some u → w.cell? ⟨b, off + j, none⟩ = some u := by
 obtain ⟨h1, A', c', hv, h2, h3, h4⟩ := h
 injection hv with hA _ hc
 subst hA
 exact h4 hn
theorem RdC.nil (w : World) (lo hi : Nat) : RdC size w lo hi (.slice none 0 0) 0 [] := ⟨by simp, none, 0, rfl, Nat.le_refl _, by simp, fun h => by omega⟩
end
end Go.Proofs.YtllkbjcemecmjaaGreat
end
section
namespace Go.Proofs.YtllkbjcemecmjaaGreat
open Go.RowKit
theorem findIdx_some {α : Type} {p : α → Bool} : ∀ {l : List α} {k : Nat} {a : α}, l[k]? = some a → p a = true → (∀ j a, j < k → l[j]? = some a → p a = false) → l.findIdx? p = some k
 | [], _, _, h, _, _ => by simp at h
 | b :: l, 0, a, h, hp, _ => by simp at h; subst h; simp [List.findIdx?_cons, hp]
 | b :: l, k + 1, a, h, hp, hn => by
  have hb : p b = false := hn 0 b xd xo
  rw [List.findIdx?_cons, hb]
  simp only [Bool.false_eq_true, if_false]
  rw [findIdx_some (l := l) (k := k) (a := a) (by simpa using h) hp (fun j a hj hja => hn (j + 1) a xd (by simpa using hja))]
  rfl
theorem findIdx_none {α : Type} {p : α → Bool} {l : List α} (hn : ∀ j a, j < l.length → l[j]? = some a → p a = false) : l.findIdx? p = none := by
 rw [List.findIdx?_eq_none_iff]
 intro x hx
 obtain ⟨i, hi, rfl⟩ := List.mem_iff_getElem.1 hx
 exact hn i _ hi (List.getElem?_eq_getElem hi)
def zc2 {α : Type} (p : α → Bool) (l : List α) : Int := match l.findIdx? p with | some i => (i : Int) | none => -1
theorem firstAt_some {α : Type} {p : α → Bool} {l : List α} {k : Nat} {a : α} (h : l[k]? = some a) (hp : p a = true) (hn : ∀ j a, j < k → l[j]? = some a → p a = false) : zc2 p l = k := by
 unfold zc2; rw [findIdx_some h hp hn]
theorem firstAt_none {α : Type} {p : α → Bool} {l : List α} (hn : ∀ j a, j < l.length → l[j]? = some a → p a = false) : zc2 p l = -1 := by
 unfold zc2; rw [findIdx_none hn]
theorem firstAt_any {α : Type} (p : α → Bool) (l : List α) : decide (0 ≤ zc2 p l) = l.any p := by
 unfold zc2
 cases h : l.findIdx? p with
 | none =>
  rw [List.findIdx?_eq_none_iff] at h
  rw [Bool.eq_iff_iff, decide_eq_true_eq, List.any_eq_true]
  constructor
  ·
   intro h; simp only at h; omega
  ·
   rintro ⟨x, hx, hp⟩; rw [h x hx] at hp; cases hp
 | some i =>
  obtain ⟨hlt, hp, _⟩ := List.findIdx?_eq_some_iff_getElem.1 h
  rw [Bool.eq_iff_iff, decide_eq_true_eq, List.any_eq_true]
  exact ⟨fun _ => ⟨_, List.getElem_mem hlt, hp⟩, fun _ => by simp only; omega⟩
theorem firstAt_ge {α : Type} (p : α → Bool) (l : List α) : -1 ≤ zc2 p l := by
 unfold zc2; split <;> omega
def Rd {α : Type} (size : Nat) (enc : α → List Value) (w : World) (lo hi : Nat) (v : Value) (l : List α) : Prop := RdC size w lo hi v l.length (l.flatMap enc)
theorem flatMap_get {α : Type} {size : Nat} {enc : α → List Value} (he : ∀ a, (enc a).length = size) : ∀ (l : List α) (k : Nat) (a : α) (j : Nat) (u : Value), l[k]? = some a → (enc a)[j]? = some u → (l.flatMap enc)[k * size + j]? = some u
 | [], k, a, j, u, h, _ => by simp at h
 | b :: l, 0, a, j, u, h, hu => by
  simp at h
  subst h
  rw [List.flatMap_cons, Nat.zero_mul, Nat.zero_add, List.getElem?_append_left (by
   rcases Nat.lt_or_ge j (enc b).length with h | h
   ·
    exact h
   ·
    rw [List.getElem?_eq_none h] at hu; cases hu)]
  exact hu
 | b :: l, k + 1, a, j, u, h, hu => by
  simp at h
  rw [List.flatMap_cons, List.getElem?_append_right (by rw [he]; rw [Nat.add_mul]; omega), he]
  have e : (k + 1) * size + j - size = k * size + j := by rw [Nat.add_mul]; omega
  rw [e]
  exact flatMap_get he l k a j u h hu
section
variable {α : Type} {size : Nat} {enc : α → List Value} {w W : World} {lo hi : Nat} {v : Value} {l : List α}
theorem Rd.form (h : Rd size enc w lo hi v l) : ∃ A c, v = .slice A l.length c ∧ l.length ≤ c ∧ l.length ≤ 9223372036854775807 := RdC.form h
theorem Rd.after (h : Rd size enc w lo hi v l) (hb : Below w.heap.size w W) : Rd size enc W lo hi v l := RdC.after h hb
theorem Rd.of_blocks (h : Rd size enc w lo hi v l) (hk : ∀ b, lo ≤ b → b < hi → b < w.heap.size → W.heap[b]? = w.heap[b]?) : Rd size enc W lo hi v l := RdC.of_blocks h hk
theorem Rd.mono {lo' hi' : Nat} (h : Rd size enc w lo hi v l) (hl : lo' ≤ lo) (hh : hi ≤ hi') : Rd size enc w lo' hi' v l := RdC.mono h hl hh
theorem Rd.nil (w : World) (lo hi : Nat) : Rd size enc w lo hi (.slice none 0 0) [] := RdC.nil w lo hi
theorem Rd.at_ {A : Option Addr} {c : Nat} (h : Rd size enc w lo hi (.slice A l.length c) l) (he : ∀ a, (enc a).length = size) {k : Nat} {a : α} (hk : l[k]? = some a) :
  ∃ b off, A = some ⟨b, off, none⟩ ∧ lo ≤ b ∧ b < hi ∧ ∀ j u, (enc a)[j]? = some u → w.cell? ⟨b, off + (k * size + j), none⟩ = some u := by
 have hlt : k < l.length := by
  rcases Nat.lt_or_ge k l.length with h | h
  ·
   exact h
  ·
   rw [List.getElem?_eq_none h] at hk; cases hk
 obtain ⟨b, off, hA, h1, h2, hc⟩ := RdC.cells h xd
 exact ⟨b, off, hA, h1, h2, fun j u hu => hc _ u (flatMap_get he l k a j u hk hu)⟩
end
def gti {α : Type} [Inhabited α] (l : List α) (k : Nat) : α := l[k]?.getD default
theorem zdh {α : Type} [Inhabited α] {l : List α} {k : Nat} (h : k < l.length) : l[k]? = some (gti l k) := by unfold gti; rw [List.getElem?_eq_getElem h]; rfl
structure TrV where
 label : ByteArray
 vi : Value
 vo : Value
instance : Inhabited TrV := ⟨⟨default, .slice none 0 0, .slice none 0 0⟩⟩
end Go.Proofs.YtllkbjcemecmjaaGreat
end
section
namespace Go.Proofs.YtllkbjcemecmjaaGreat.Aw
open Go.RowKit
section
variable {P : Program} {N : Nat} {F : Frm} {σ σ' : List Ob} {Q : Exit → Frm → List Ob → Prop} {next : Frm → List Ob → Prop}
theorem zai (h : next F σ) : AThen next Q .normal F σ := h
theorem zcr {id : Nat} (h : Q (.exit id) F σ) : AThen next Q (.exit id) F σ := h
theorem zbc (h : Q .ret F σ) : AThen next Q .ret F σ := h
theorem zbl {id : Nat} (h : Q .normal F σ) : ABlk id Q .normal F σ := h
theorem zbe {id : Nat} (h : Q .ret F σ) : ABlk id Q .ret F σ := h
theorem zbt {id : Nat} (h : Q .normal F σ) : ABlk id Q (.exit id) F σ := by simp only [ABlk, if_true]; exact h
theorem zbk {id id' : Nat} (hne : Nat.beq id' id = false) (h : Q (.exit id') F σ) : ABlk id Q (.exit id') F σ := by
 have : id' ≠ id := fun e => by subst e; simp at hne
 simp only [ABlk, if_neg this]; exact h
theorem zat {ops : Array Oper} {o : Oper} {j t : Nat} {c : Bool} (h : o.guard = some (j, c)) (hd : (ops[j]?).bind (·.dst) = some t) (hc : F.get t = .s (.bool c)) : Runs ops F o true := by
 have := runs_some (F := F) h hd hc
 simpa using this
theorem runs_nt {ops : Array Oper} {o : Oper} {j t : Nat} (h : o.guard = some (j, true)) (hd : (ops[j]?).bind (·.dst) = some t) (hc : F.get t = .s (.bool false)) : Runs ops F o false := by
 have := runs_some (F := F) h hd hc
 simpa using this
theorem zb1 {c : Code} {S : Type} (fr : S → Frm) (st : S → List Ob) (inv : S → Prop) (ms : S → Nat) (s0 : S) (hw : Weak N F σ (fr s0) (st s0)) (h0 : inv s0)
  (round : ∀ s, inv s → AWp P N c (fr s) (st s) (AThen (fun F' σ' => ∃ s', inv s' ∧ ms s' < ms s ∧ Weak N F' σ' (fr s') (st s')) Q)) : AWp P N (.loop c) F σ Q := by
 refine zbg hw (aw_loop (fun m F σ => ∃ s, inv s ∧ ms s = m ∧ Weak N F σ (fr s) (st s)) (ms s0) ⟨s0, h0, rfl, Weak.refl⟩ (fun m F σ h => ?_))
 obtain ⟨s, h1, rfl, h3⟩ := h
 refine zbg h3 (aw_mono (round s h1) (fun e F σ q => ?_))
 cases e with
 | normal => obtain ⟨s', g1, g2, g3⟩ := q; exact ⟨ms s', g2, s', g1, rfl, g3⟩
 | _ => exact q
theorem rep_len {G : Cx} {v : Value} {l : List AV} (h : Rep G v (.sl l)) : l.length ≤ maxLen := by
 cases h with
 | slnil => exact Nat.zero_le _
 | sl b o cap sz _ val hc hm h1 h2 h => exact hm
theorem aw_bd {c : Code} {d : Nat} {L : List AV} (hd : F.get d = .sl L) (k : L.length ≤ maxLen → AWp P N c F σ Q) : AWp P N c F σ Q := fun G a hs => k (rep_len (by rw [← hd]; exact hs.fr d)) G a hs
theorem zda {α : Type} {f : α → AV} {l : List α} {c : Code} {d : Nat} (hd : F.get d = .sl (l.map f)) (k : l.length ≤ maxLen → AWp P N c F σ Q) : AWp P N c F σ Q := aw_bd hd (fun h => k (by simpa using h))
def Sub (F : Frm) : Frm → Prop
 | [] => True
 | (d, y) :: F' => F.get d = y ∧ Sub F F'
theorem wk_sub : ∀ F', Sub F F' → Weak N F σ F' σ := fun F' h G a hs => ⟨G, rfl, .refl G, hs.rel, by
 have key : ∀ F', Sub F F' → FOk G a F' := by
  intro F'
  induction F' with
  | nil => intro _ d; exact .any _
  | cons p F' ih =>
   obtain ⟨d, y⟩ := p
   intro h t
   simp only [Frm.get]
   cases e : Nat.beq d t with
   | true => have := Nat.eq_of_beq_eq_true e; subst this; rw [← h.1]; exact hs.fr d
   | false => exact ih h.2 t
 exact key F' h, hs.df, hs.nt⟩
theorem zdc {o : Oper} {p : Prop} [Decidable p] (h : p) (hd : Does P o F σ (.s (.bool (decide p))) σ') : Does P o F σ (.s (.bool true)) σ' := by rwa [decide_eq_true h] at hd
theorem dec_f {o : Oper} {p : Prop} [Decidable p] (h : ¬ p) (hd : Does P o F σ (.s (.bool (decide p))) σ') : Does P o F σ (.s (.bool false)) σ' := by rwa [decide_eq_false h] at hd
section
variable {o : Oper}
theorem does_pickT {c x y : Operand} {u : AV} (ho : o.op = .pick c x y) (hc : F.eval c = .s (.bool true)) (hu : F.eval x = u) : Does P o F σ u σ := hu ▸ does_pick ho hc
theorem pickT_s {c x y : Operand} {v : Value} (ho : o.op = .pick c x y) (hc : F.eval c = .s (.bool true)) (hu : F.eval x = .s v) : Does P o F σ (.s v) σ := does_pickT ho hc hu
theorem does_pickF {c x y : Operand} {u : AV} (ho : o.op = .pick c x y) (hc : F.eval c = .s (.bool false)) (hu : F.eval y = u) : Does P o F σ u σ := hu ▸ does_pick ho hc
theorem pickF_s {c x y : Operand} {v : Value} (ho : o.op = .pick c x y) (hc : F.eval c = .s (.bool false)) (hu : F.eval y = .s v) : Does P o F σ (.s v) σ := does_pickF ho hc hu
theorem zao {α : Type} {f : α → AV} {l : List α} {t e : TypeId} {x : Operand} (ho : o.op = .call { callee := .builtin .len, args := #[x], argTypes := #[t] }) (ht : zcd P t = some e) (hx : F.eval x = .sl (l.map f)) : Does P o F σ (.s (.int .i64 (l.length : Nat))) σ := by
 have := does_len_sl (F := F) (σ := σ) ho ht hx
 rwa [List.length_map] at this
theorem does_len_emp {t e : TypeId} {x : Operand} (ho : o.op = .call { callee := .builtin .len, args := #[x], argTypes := #[t] }) (ht : zcd P t = some e) (hx : F.eval x = .emp) : Does P o F σ (.s (.int .i64 0)) σ :=
 zch fun G ρ hr hop => by
  have h1 := hop x (by simp [ho, Op.operands, Call.operands])
  rw [hx] at h1
  generalize hv : ρ x = v at h1
  cases h1 with
  | emp A hA => exact ⟨_, run_len_slice ht ho ρ _ _ _ hv _, .s _⟩
theorem zck {t : TypeId} {x : Operand} {z : Option Value} {n bt : Nat} {cs : List AV} (ho : o.op = .load t x) (ha : zc8 P t = some true) (hi : zb5 P t = some (z, n, bt)) (hx : F.eval x = .ref cs) (hn : cs.length = n) : Does P o F σ (.agg cs) σ := by
 have := does_load_refs (F := F) (σ := σ) ho ha hi hx xd
 rwa [← hn, List.take_length] at this
theorem does_nil_ref {x : Operand} {cs : List AV} (ho : o.op = .nilCheck x) (hx : F.eval x = .ref cs) : Does P o F σ (.ref cs) σ :=
 zch fun G ρ hr hop => by
  have h1 := hop x (by simp [ho, Op.operands])
  rw [hx] at h1
  generalize hv : ρ x = u at h1
  cases h1 with
  | ref b i _ val h1 h2 h => exact ⟨_, by simp [execOp, ho, hv], .ref b i cs val h1 h2 h⟩
end
theorem zb6 {t : Nat} {x r : AV} {e : Exit} (he : e = .normal ∨ e = .ret) (h : F.get t = x) (hr : x = r) : APost P [.tmp t] r e F σ := ⟨he, [x], .cons _ _ _ _ (.tmp t x h) .nil, by subst hr; exact .refl _⟩
theorem post1f {t : Nat} {x r : AV} {e : Exit} (he : e = .normal ∨ e = .ret) (h : F.get t = x) (hf : Fini σ x r) : APost P [.tmp t] r e F σ := ⟨he, [x], .cons _ _ _ _ (.tmp t x h) .nil, hf⟩
theorem post2 {t u : Nat} {x y x' y' : AV} {e : Exit} (he : e = .normal ∨ e = .ret) (h : F.get t = x) (h' : F.get u = y) (hf : Fini σ x x') (hf' : Fini σ y y') : APost P [.tmp t, .tmp u] (.tup [x', y']) e F σ :=
 ⟨he, [x, y], .cons _ _ _ _ (.tmp t x h) (.cons _ _ _ _ (.tmp u y h') .nil), .tup _ _ rfl (zbd.cons hf (zbd.cons hf' zbd.nil)).2⟩
end
theorem zbb {α : Type} [Inhabited α] {f : α → AV} {l : List α} {k : Nat} (h : k < l.length) : (l.map f)[k]? = some (f (gti l k)) := by
 rw [List.getElem?_map, zdh h]; rfl
theorem zak {k : Nat} : ∀ y ∈ ([] : List AV), Lo k y := by simp
theorem zah {k : Nat} {x : AV} {l : List AV} (h : Lo k x) (t : ∀ y ∈ l, Lo k y) : ∀ y ∈ x :: l, Lo k y := by
 intro y hy
 rcases List.mem_cons.1 hy with rfl | hy
 ·
  exact h
 ·
  exact t y hy
theorem zan {k : Nat} {α : Type} {f : α → AV} {l : List α} (h : ∀ a, Lo k (f a)) : Lo k (.sl (l.map f)) := .sl _ fun y hy => by
 obtain ⟨a, _, rfl⟩ := List.mem_map.1 hy
 exact h a
theorem zav {k : Nat} {α : Type} {f : α → AV} {l : List α} (h : ∀ a, ∀ c ∈ (f a).cells, Lo k c) : ∀ e ∈ l.map f, ∀ c ∈ e.cells, Lo k c := fun y hy => by
 obtain ⟨a, _, rfl⟩ := List.mem_map.1 hy
 exact h a
theorem zaz {k : Nat} : ∀ e ∈ ([] : List AV), ∀ c ∈ e.cells, Lo k c := by simp
theorem zaw {k : Nat} {x : AV} {l : List AV} (h : Lo k x) (t : ∀ e ∈ l, ∀ c ∈ e.cells, Lo k c) : ∀ e ∈ x :: l, ∀ c ∈ e.cells, Lo k c := by
 intro y hy
 rcases List.mem_cons.1 hy with rfl | hy
 ·
  exact h.cells
 ·
  exact t y hy
theorem flat_nil : ∀ c ∈ ([] : List AV), Flat c := by simp
theorem flat_cons {x : AV} {l : List AV} (h : Flat x) (t : ∀ c ∈ l, Flat c) : ∀ c ∈ x :: l, Flat c := by
 intro y hy
 rcases List.mem_cons.1 hy with rfl | hy
 ·
  exact h
 ·
  exact t y hy
def eI (n : Int) : AV := .s (.int .i64 n)
def eB (b : Bool) : AV := .s (.bool b)
def eL {α : Type} (f : α → AV) (l : List α) : AV := .sl (l.map f)
section
def keepv : AV → Option AV
 | .any => none
 | .s v => some (.s v)
 | .agg l => some (.agg l)
 | .sl l => some (.sl l)
 | .emp => some .emp
 | .ref l => some (.ref l)
 | .own a b c => some (.own a b c)
 | .ptr a b c d => some (.ptr a b c d)
 | .fn f l => some (.fn f l)
 | .tup l => some (.tup l)
 | .mp a => some (.mp a)
 | .sub a b c d => some (.sub a b c d)
theorem keepv_eq {x y : AV} (h : keepv x = some y) : x = y := by cases x <;> simp [keepv] at h <;> exact h
def opv (op : Op) (F : Frm) : Option AV := match op with
 | .move y => keepv (F.eval y)
 | .assign y => keepv (F.eval y)
 | .nilCheck x => (match F.eval x with
  | .ptr a b c d => some (.ptr a b c d)
  | .ref cs => some (.ref cs)
  | .fn f cs => some (.fn f cs)
  | _ => none)
 | .extract x i => (match F.eval x with
  | .tup l => l[i]?
  | _ => none)
 | .pick c x y => (match F.eval c with
  | .s (.bool true) => keepv (F.eval x)
  | .s (.bool false) => keepv (F.eval y)
  | _ => none)
 | _ => none
def fdv (op : Op) (t f off n : Nat) (F : Frm) : Option AV := match op with
 | .fieldAddr t' x f' => bif Nat.beq t t' && (Nat.beq f f' && !Nat.beq n 0) then (match F.eval x with
  | .ptr id sz k j => some (.ptr id sz k (j + off))
  | .ref cs => some (.ref (cs.drop off))
  | _ => none) else none
 | _ => none
def ldv (op : Op) (t : Nat) (F : Frm) : Option AV := match op with
 | .load t' x => bif Nat.beq t t' then (match F.eval x with
  | .ref (c :: _) => some c
  | _ => none) else none
 | _ => none
def lwv (op : Op) (t n : Nat) (F : Frm) : Option AV := match op with
 | .load t' x => bif Nat.beq t t' then (match F.eval x with
  | .ref cs => bif Nat.beq cs.length n then some (.agg cs) else none
  | _ => none) else none
 | _ => none
def runB (ops : Array Oper) (F : Frm) (o : Oper) : Option Bool := match o.guard with
 | none => some true
 | some (j, c) => (match (ops[j]?).bind (·.dst) with
  | some t => (match F.get t with
   | .s (.bool b) => some (match b, c with
    | true, true => true
    | false, false => true
    | _, _ => false)
   | _ => none)
  | none => none)
def stv (v : Option AV) (N : Nat) (ops : Array Oper) (o : Oper) (F : Frm) : Option (Nat × AV) := match o.dst with
 | some d => bif Nat.blt d N then (match runB ops F o with
  | some true => (match v with
   | some x => some (d, x)
   | none => none)
  | _ => none) else none
 | none => none
def stz (N : Nat) (ops : Array Oper) (o : Oper) (F : Frm) : Option Nat := match o.dst with
 | some d => bif Nat.blt d N then (match runB ops F o with
  | some false => some d
  | _ => none) else none
 | none => none
theorem runB_ok {ops : Array Oper} {F : Frm} {o : Oper} {r : Bool} (h : runB ops F o = some r) : Runs ops F o r := by
 unfold runB at h
 split at h
 ·
  rename_i hg; cases h; exact zaa hg
 ·
  rename_i j c hg
  split at h
  ·
   rename_i t ht
   split at h
   ·
    rename_i b hb
    have := runs_some (F := F) hg ht hb
    cases b <;> cases c <;> (simp at h; subst h; simpa using this)
   ·
    cases h
  ·
   cases h
theorem zbo {v : Option AV} {N : Nat} {ops : Array Oper} {o : Oper} {F : Frm} {d : Nat} {x : AV} (h : stv v N ops o F = some (d, x)) : o.dst = some d ∧ Nat.blt d N = true ∧ Runs ops F o true ∧ v = some x := by
 unfold stv at h
 split at h
 ·
  rename_i e he
  cases hb : Nat.blt e N with
  | false => rw [hb] at h; cases h
  | true =>
   rw [hb] at h
   simp only [cond_true] at h
   split at h
   ·
    rename_i hr
    split at h
    ·
     rename_i y hy
     cases h
     exact ⟨he, hb, runB_ok hr, rfl⟩
    ·
     cases h
   ·
    cases h
 ·
  cases h
theorem stz_ok {N : Nat} {ops : Array Oper} {o : Oper} {F : Frm} {d : Nat} (h : stz N ops o F = some d) : o.dst = some d ∧ Nat.blt d N = true ∧ Runs ops F o false := by
 unfold stz at h
 split at h
 ·
  rename_i e he
  cases hb : Nat.blt e N with
  | false => rw [hb] at h; cases h
  | true =>
   rw [hb] at h
   simp only [cond_true] at h
   split at h
   ·
    rename_i hr; cases h; exact ⟨he, hb, runB_ok hr⟩
   ·
    cases h
 ·
  cases h
variable {P : Program} {F : Frm} {σ : List Ob} {o : Oper} {x : AV}
theorem opv_does (h : opv o.op F = some x) : Does P o F σ x σ := by
 unfold opv at h
 split at h
 ·
  rename_i y ho; exact does_mv (.inl ho) (keepv_eq h)
 ·
  rename_i y ho; exact does_mv (.inr ho) (keepv_eq h)
 ·
  rename_i y ho
  split at h
  ·
   rename_i hx; cases h; exact zcy ho hx
  ·
   rename_i hx; cases h; exact does_nil_ref ho hx
  ·
   rename_i hx; cases h; exact does_nil_fn ho hx
  ·
   cases h
 ·
  rename_i y i ho
  split at h
  ·
   rename_i hx; exact zcz ho hx h
  ·
   cases h
 ·
  rename_i c y z ho
  split at h
  ·
   rename_i hc; exact does_pickT ho hc (keepv_eq h)
  ·
   rename_i hc; exact does_pickF ho hc (keepv_eq h)
  ·
   cases h
 ·
  cases h
theorem fdv_does {t f off n ft : Nat} (hf : zca P t f = some (off, ft, some n)) (h : fdv o.op t f off n F = some x) : Does P o F σ x σ := by
 unfold fdv at h
 split at h
 ·
  rename_i t' y f' ho
  cases h1 : Nat.beq t t' && (Nat.beq f f' && !Nat.beq n 0) with
  | false => rw [h1] at h; cases h
  | true =>
   rw [h1] at h
   simp only [cond_true] at h
   simp only [Bool.and_eq_true, Bool.not_eq_true'] at h1
   obtain ⟨e1, e2, e3⟩ := h1
   have e1 := Nat.eq_of_beq_eq_true e1
   have e2 := Nat.eq_of_beq_eq_true e2
   subst e1 e2
   have hn : n ≠ 0 := fun e => by subst e; simp at e3
   split at h
   ·
    rename_i hx; cases h; exact zb7 ho hf hn hx
   ·
    rename_i hx; cases h; exact zdn ho hf hn hx
   ·
    cases h
 ·
  cases h
theorem ldv_does {t : Nat} (ha : zc8 P t = some false) (h : ldv o.op t F = some x) : Does P o F σ x σ := by
 unfold ldv at h
 split at h
 ·
  rename_i t' y ho
  cases h1 : Nat.beq t t' with
  | false => rw [h1] at h; cases h
  | true =>
   rw [h1] at h
   simp only [cond_true] at h
   have e1 := Nat.eq_of_beq_eq_true h1
   subst e1
   split at h
   ·
    rename_i hx; cases h; exact does_load_ref ho ha hx
   ·
    cases h
 ·
  cases h
theorem lwv_does {t n bt : Nat} {z : Option Value} (ha : zc8 P t = some true) (hi : zb5 P t = some (z, n, bt)) (h : lwv o.op t n F = some x) : Does P o F σ x σ := by
 unfold lwv at h
 split at h
 ·
  rename_i t' y ho
  cases h1 : Nat.beq t t' with
  | false => rw [h1] at h; cases h
  | true =>
   rw [h1] at h
   simp only [cond_true] at h
   have e1 := Nat.eq_of_beq_eq_true h1
   subst e1
   split at h
   ·
    rename_i cs hx
    cases h2 : Nat.beq cs.length n with
    | false => rw [h2] at h; cases h
    | true => rw [h2] at h; cases h; exact zck ho ha hi hx (Nat.eq_of_beq_eq_true h2)
   ·
    cases h
 ·
  cases h
end
section
variable {P : Program} {N : Nat} {F : Frm} {σ : List Ob} {Q : Exit → Frm → List Ob → Prop} {ops : Array Oper} {o : Oper} {l : List Oper} {d : Nat} {x : AV}
theorem zac (h : stv (opv o.op F) N ops o F = some (d, x)) (k : AOps P N ops l ((d, x) :: F) σ Q) : AOps P N ops (o :: l) F σ Q := zaf (zbo h).1 (zbo h).2.1 (zbo h).2.2.1 (opv_does (zbo h).2.2.2) k
theorem zbz {t f off n ft : Nat} (hf : zca P t f = some (off, ft, some n)) (h : stv (fdv o.op t f off n F) N ops o F = some (d, x)) (k : AOps P N ops l ((d, x) :: F) σ Q) : AOps P N ops (o :: l) F σ Q := zaf (zbo h).1 (zbo h).2.1 (zbo h).2.2.1 (fdv_does hf (zbo h).2.2.2) k
theorem zbu {t : Nat} (ha : zc8 P t = some false) (h : stv (ldv o.op t F) N ops o F = some (d, x)) (k : AOps P N ops l ((d, x) :: F) σ Q) : AOps P N ops (o :: l) F σ Q := zaf (zbo h).1 (zbo h).2.1 (zbo h).2.2.1 (ldv_does ha (zbo h).2.2.2) k
theorem zcx {t n bt : Nat} {z : Option Value} (ha : zc8 P t = some true) (hi : zb5 P t = some (z, n, bt)) (h : stv (lwv o.op t n F) N ops o F = some (d, x)) (k : AOps P N ops l ((d, x) :: F) σ Q) : AOps P N ops (o :: l) F σ Q := zaf (zbo h).1 (zbo h).2.1 (zbo h).2.2.1 (lwv_does ha hi (zbo h).2.2.2) k
theorem za4 (h : stz N ops o F = some d) (k : AOps P N ops l ((d, .s undef) :: F) σ Q) : AOps P N ops (o :: l) F σ Q := zcj (stz_ok h).1 (stz_ok h).2.1 (stz_ok h).2.2 k
end
section
variable {P : Program} {N : Nat} {F : Frm} {σ : List Ob} {ops : Array Oper} {o : Oper} {l : List Oper} {d : Nat} {x : AV} {K : Frm → Prop}
theorem qx_s (h : stv (opv o.op F) N ops o F = some (d, x)) (k : QX P N ops σ l ((d, x) :: F) K) : QX P N ops σ (o :: l) F K := zby (zbo h).1 (zbo h).2.1 (zbo h).2.2.1 (opv_does (zbo h).2.2.2) k
theorem qx_f {t f off n ft : Nat} (hf : zca P t f = some (off, ft, some n)) (h : stv (fdv o.op t f off n F) N ops o F = some (d, x)) (k : QX P N ops σ l ((d, x) :: F) K) : QX P N ops σ (o :: l) F K := zby (zbo h).1 (zbo h).2.1 (zbo h).2.2.1 (fdv_does hf (zbo h).2.2.2) k
theorem qx_l {t : Nat} (ha : zc8 P t = some false) (h : stv (ldv o.op t F) N ops o F = some (d, x)) (k : QX P N ops σ l ((d, x) :: F) K) : QX P N ops σ (o :: l) F K := zby (zbo h).1 (zbo h).2.1 (zbo h).2.2.1 (ldv_does ha (zbo h).2.2.2) k
theorem qx_w {t n bt : Nat} {z : Option Value} (ha : zc8 P t = some true) (hi : zb5 P t = some (z, n, bt)) (h : stv (lwv o.op t n F) N ops o F = some (d, x)) (k : QX P N ops σ l ((d, x) :: F) K) : QX P N ops σ (o :: l) F K := zby (zbo h).1 (zbo h).2.1 (zbo h).2.2.1 (lwv_does ha hi (zbo h).2.2.2) k
theorem qx_z (h : stz N ops o F = some d) (k : QX P N ops σ l ((d, .s undef) :: F) K) : QX P N ops σ (o :: l) F K := zdw (stz_ok h).1 (stz_ok h).2.1 (stz_ok h).2.2 k
end
theorem aw_join {P : Program} {N : Nat} {F : Frm} {σ : List Ob} {Q : Exit → Frm → List Ob → Prop} {c c2 c3 : Code} (F1 : Frm) (σ1 : List Ob)
  (h : AWp P N c F σ (AThen (fun F σ => AWp P N c2 F σ (AThen (fun F' σ' => Weak N F' σ' F1 σ1) Q)) (AThen (fun F' σ' => Weak N F' σ' F1 σ1) Q)))
  (k : AWp P N c3 F1 σ1 Q) : AWp P N c F σ (AThen (fun F σ => AWp P N c2 F σ (AThen (fun F σ => AWp P N c3 F σ Q) Q)) (AThen (fun F σ => AWp P N c3 F σ Q) Q)) := by
 have w : ∀ e F σ, AThen (fun F' σ' => Weak N F' σ' F1 σ1) Q e F σ → AThen (fun F σ => AWp P N c3 F σ Q) Q e F σ := fun e F σ q => by
  cases e with
  | normal => exact zbg q k
  | _ => exact q
 refine aw_mono h (fun e F σ q => ?_)
 cases e with
 | normal => exact aw_mono q w
 | _ => first | exact w .ret F σ q | exact w (.exit _) F σ q | exact w (.goto _) F σ q | exact w (.panic _) F σ q | exact w .outgrown F σ q
end Go.Proofs.YtllkbjcemecmjaaGreat.Aw
end
section
namespace Go.Proofs.YtllkbjcemecmjaaGreat.Aw
open Go.RowKit
def newCx (G : Cx) (w' : World) : Cx := { base := 0, w0 := G.w, w := w', mu := fun _ => none, St := fun b o => G.St b o ∨ (G.w.heap.size ≤ b ∧ b < w'.heap.size) }
theorem pure_mk {P : Program} {f : FuncId} {args : List AV} {r : AV} (he : Enters P f) (hl : Lo 0 r)
  (h : ∀ (G : Cx) (vargs : Array Value), StT G.St G.w → vargs.size = args.length → (∀ (j : Nat) v x, vargs[j]? = some v → args[j]? = some x → Rep G v x) →
   Calls P f vargs G.w fun e w' => ∃ v, e = .returned v ∧ Below G.w.heap.size G.w w' ∧ Rep (newCx G w') v r) : Pure P f args r :=
 ⟨he, hl, fun G vargs hst hsz hrep => (h G vargs hst hsz hrep).mono (by
  rintro e w' ⟨v, rfl, hb, hr⟩
  refine ⟨v, newCx G w', rfl, rfl, hb, fun b o h => .inl h, fun b o h => ?_, fun b o h => ?_, hr⟩
  ·
   exact h.imp (fun h => h) (fun h => h.1)
  ·
   rcases h with h | h
   ·
    have := hst b o h; have := hb.size; show b < w'.heap.size; omega
   ·
    exact h.2)⟩
end Go.Proofs.YtllkbjcemecmjaaGreat.Aw
end
section
namespace Go.Proofs.YtllkbjcemecmjaaGreat.Aw
open Go Go.Proofs Go.RowKit Go.Maps Go.WideMaps
section
variable {P : Program} {o : Oper} {F : Frm} {σ : List Ob} {G : Cx}
end
end Go.Proofs.YtllkbjcemecmjaaGreat.Aw
end
