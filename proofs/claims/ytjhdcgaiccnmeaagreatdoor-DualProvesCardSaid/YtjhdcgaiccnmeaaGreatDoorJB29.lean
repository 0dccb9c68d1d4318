import Derived.Test.YtjhdcgaiccnmeaaGreatDoorJB6
import Derived.Test.YtjhdcgaiccnmeaaGreatDoorJB16
import Derived.Test.YtjhdcgaiccnmeaaGreatDoorJB2
import Derived.Test.YtjhdcgaiccnmeaaGreatDoorJB10
import Derived.Lib.UnsafeStr
import Derived.Lib.Builder
import Derived.Lib.AppendStr
import Derived.Lib.AppendIntMem
set_option linter.unusedSimpArgs false
set_option linter.unusedVariables false
set_option linter.unusedSectionVars false
section
namespace Go.Proofs.YtjhdcgaiccnmeaaGreatDoor
open Go.RowKit
def keyD (m : List Int) : List UInt8 := m.flatMap fun n => Lib.itoa n ++ [32]
theorem zwb (m : List Int) (n : Int) : keyD (m ++ [n]) = keyD m ++ (Lib.itoa n ++ [32]) := by simp [keyD]
theorem zw4 (u : Nat) (h : u < 10) : (UInt8.ofNat (48 + u)).toNat = 48 + u := by
 rw [UInt8.toNat_ofNat', Nat.mod_eq_of_lt (by omega)]
def valD (l : List UInt8) : Nat := l.foldl (fun a b => 10 * a + (b.toNat - 48)) 0
theorem zuk (l : List UInt8) (b : UInt8) : valD (l ++ [b]) = 10 * valD l + (b.toNat - 48) := by simp [valD]
theorem zrw (u : Nat) : valD (Lib.decDigits u) = u := by
 induction u using Nat.strongRecOn with
 | _ u ih =>
  rw [Lib.decDigits]
  split
  ·
   rename_i h
   show 10 * 0 + ((UInt8.ofNat (48 + u)).toNat - 48) = u
   rw [zw4 u h]; omega
  ·
   rename_i h
   rw [zuk, ih (u / 10) (by omega), zw4 _ (by omega)]
   omega
theorem z0p (u : Nat) : (32 : UInt8) ∉ Lib.decDigits u := by
 induction u using Nat.strongRecOn with
 | _ u ih =>
  have key : ∀ v, v < 10 → (32 : UInt8) ≠ UInt8.ofNat (48 + v) := fun v hv e => by
   have := congrArg UInt8.toNat e
   rw [zw4 v hv] at this
   have h2 : (32 : UInt8).toNat = 32 := rfl
   omega
  rw [Lib.decDigits]
  split
  ·
   rename_i h
   intro hm
   exact key u h (List.mem_singleton.1 hm)
  ·
   rename_i h
   intro hm
   rcases List.mem_append.1 hm with hm | hm
   ·
    exact ih (u / 10) (by omega) hm
   ·
    exact key _ (by omega) (List.mem_singleton.1 hm)
theorem zns {n : Int} (h : 0 ≤ n) : Lib.itoa n = Lib.decDigits n.toNat := by unfold Lib.itoa; rw [if_neg (by omega)]
theorem zr1 {s : UInt8} : ∀ {a b r q : List UInt8}, s ∉ a → s ∉ b → a ++ s :: r = b ++ s :: q → a = b ∧ r = q
 | [], [], r, q, _, _, h => ⟨rfl, by simpa using h⟩
 | [], y :: b, r, q, _, hb, h => by simp at h; exact absurd (by simp [h.1]) hb
 | x :: a, [], r, q, ha, _, h => by simp at h; exact absurd (by simp [h.1]) ha
 | x :: a, y :: b, r, q, ha, hb, h => by
  simp only [List.cons_append, List.cons.injEq] at h
  obtain ⟨h1, h2⟩ := zr1 (a := a) (b := b) (fun hm => ha (List.mem_cons_of_mem _ hm)) (fun hm => hb (List.mem_cons_of_mem _ hm)) h.2
  exact ⟨by rw [h.1, h1], h2⟩
theorem zsj : ∀ {a b : List Int}, (∀ x ∈ a, 0 ≤ x) → (∀ x ∈ b, 0 ≤ x) → keyD a = keyD b → a = b
 | [], [], _, _, _ => rfl
 | [], y :: b, _, _, h => by simp [keyD] at h
 | x :: a, [], _, _, h => by simp [keyD] at h
 | x :: a, y :: b, ha, hb, h => by
  have h1 : keyD (x :: a) = Lib.itoa x ++ 32 :: keyD a := by simp [keyD]
  have h2 : keyD (y :: b) = Lib.itoa y ++ 32 :: keyD b := by simp [keyD]
  rw [h1, h2] at h
  have hx := ha x (by simp)
  have hy := hb y (by simp)
  rw [zns hx, zns hy] at h
  obtain ⟨h3, h4⟩ := zr1 (z0p _) (z0p _) h
  have h5 := congrArg valD h3
  rw [zrw, zrw] at h5
  rw [show x = y by omega, zsj (fun z hz => ha z (by simp [hz])) (fun z hz => hb z (by simp [hz])) h4]
theorem zri : ∀ (k u : Nat), u < 10 ^ (k + 1) → (Lib.decDigits u).length ≤ k + 1
 | k, u, h => by
  rw [Lib.decDigits]
  split
  ·
   simp
  ·
   match k, h with
   | 0, h => rename_i hn; simp at h; omega
   | k + 1, h =>
    have := zri k (u / 10) (by rw [Nat.pow_succ] at h; omega)
    simp; omega
theorem zsi {m : List Int} (h : ∀ x ∈ m, 0 ≤ x ∧ x ≤ 255) : (keyD m).length ≤ 4 * m.length := by
 induction m with
 | nil => simp [keyD]
 | cons a m ih =>
  have h1 := h a (by simp)
  have h2 := zri 2 a.toNat (by omega)
  have h3 := ih (fun x hx => h x (by simp [hx]))
  have h4 : keyD (a :: m) = (Lib.itoa a ++ [32]) ++ keyD m := rfl
  rw [h4, List.length_append, List.length_append, zns h1.1, List.length_cons]
  simp only [List.length_cons, List.length_nil]
  omega
theorem zs4 : ∃ j, Tryz.prog.info? 155 = some j ∧ j.size = 2 := by
 have h : (Tryz.prog.info? 155).map (·.size) = some 2 := by kernel_rfl
 obtain ⟨j, h1, h2⟩ := Option.map_eq_some_iff.1 h
 exact ⟨j, h1, h2⟩
theorem zzo : liesAt Tryz.prog Tryz.prog.depth 155 (2 / Tryz.prog.cellsOf 155) 0 155 1 = true := by kernel_rfl
theorem z0u : TI 153 5 1 1 (.int .u8 0) := TI.mk Tryz.underlying153 (by kernel_rfl) rfl (by decide)
set_option maxHeartbeats 1000000 in
set_option maxRecDepth 100000 in
theorem zn9 (g : Nat) (v : Value) (w : World) (hc : w.cell? ⟨g, 0, none⟩ = some (.pointer none)) (hf : w.frozen? ⟨g, 0, none⟩ = false) (hsh : w.shape? g = some (155, 2)) :
  Calls Tryz.prog 140 #[.pointer (some ⟨g, 0, none⟩)] w fun e w' => e = .returned (.tuple #[]) ∧ w' = w.setCell ⟨g, 0, none⟩ (.pointer (some ⟨g, 0, none⟩)) := by
 obtain ⟨j, hj, hjs⟩ := zs4
 go_enter Tryz.func140, Tryz.ntmps140
 go_wp2
 rw [Lib.run_to_unsafe w ⟨g, 0, none⟩ Tryz.underlying152 Tryz.underlying191 hj (by rw [hjs]; decide) hsh (Nat.zero_lt_succ 1)]
 simp only [Result.andThen]
 rw [Oper.upon_value]
 go_wp2
 rw [run_callFunc_extern Tryz.func153 (by kernel_rfl) (by kernel_rfl) (by kernel_rfl) (e := Extern.AbiNoEscape.same) (by kernel_rfl)]
 rw [Lib.run_noEscape]
 simp only [Result.andThen]
 rw [Oper.upon_value]
 go_wp2
 rw [Lib.run_from_unsafe w ⟨g, 0, none⟩ Tryz.underlying191 Tryz.underlying152 hj hsh zzo]
 simp only [Result.andThen]
 rw [Oper.upon_value]
 go_wp2
 go_end0
 exact ⟨rfl, rfl⟩
set_option maxHeartbeats 1000000 in
set_option maxRecDepth 100000 in
theorem zme (g : Nat) (w : World) (hc : w.cell? ⟨g, 0, none⟩ = some (.pointer (some ⟨g, 0, none⟩))) :
  Calls Tryz.prog 140 #[.pointer (some ⟨g, 0, none⟩)] w fun e w' => e = .returned (.tuple #[]) ∧ w' = w := by
 obtain ⟨j, hj, hjs⟩ := zs4
 go_enter Tryz.func140, Tryz.ntmps140
 go_wp2
 rw [Lib.run_neq_ptr_same w _ Tryz.underlying152 hj]
 go_wp2
 go_end0
 exact ⟨rfl, rfl⟩
theorem zoa (B b : Nat) (bs : List Value) (w : World) (h : Lib.IsBuilder 155 5 B b bs w) :
  Calls Tryz.prog 140 #[.pointer (some ⟨b, 0, none⟩)] w fun e w' => e = .returned (.tuple #[]) ∧ (Lib.BuilderAt 155 5 B b (.pointer (some ⟨b, 0, none⟩)) bs w' ∧ Below B w w') := by
 rcases h with h | h
 ·
  refine (zn9 b (.bool true) w h.cell0 h.frozen0 h.shape).mono ?_
  rintro e w' ⟨rfl, rfl⟩
  exact ⟨rfl, h.used _, (Below.refl B w).setCell (p := ⟨b, 0, none⟩) h.1 _⟩
 ·
  refine (zme b w h.cell0).mono ?_
  rintro e w' ⟨rfl, rfl⟩
  exact ⟨rfl, h, Below.refl B _⟩
set_option maxHeartbeats 2000000 in
set_option maxRecDepth 100000 in
theorem zkt (B b : Nat) (bs : List Value) (s : ByteArray) (w : World) (h : Lib.IsBuilder 155 5 B b bs w) (hlen : bs.length + s.size ≤ 140737488355328) (hBw : B ≤ w.heap.size) :
  Calls Tryz.prog 111 #[.pointer (some ⟨b, 0, none⟩), .string s] w fun e w' => e = .returned (.tuple #[.int .i64 s.size, .nilIface]) ∧ (Lib.BuilderAt 155 5 B b (.pointer (some ⟨b, 0, none⟩)) (bs ++ Lib.strCells s) w' ∧ Below B w w') := by
 obtain ⟨i0, ht0, hi, hz0, hz1, hz2, hz3, hz4⟩ := z0u
 go_enter Tryz.func111, Tryz.ntmps111
 go_wp2_with (go_at_call 140; refine (zoa B b bs _ h).mono ?_)
 rintro e w1 ⟨rfl, h1, hb1⟩
 obtain ⟨hB, v, hbk, hown, hne⟩ := h1
 have c0 : w1.cell? ⟨b, 0, none⟩ = some (.pointer (some ⟨b, 0, none⟩)) := by rw [Lib.cell_of_heap hbk]; rfl
 have c1 : w1.cell? ⟨b, 1, none⟩ = some v := by rw [Lib.cell_of_heap hbk]; rfl
 go_wp2_with (at_builtin; refine Lib.wpList_append_own_string _ rfl _ _ 153 9 rfl B 5 i0 ht0 Tryz.underlying9 hi hz0 hz1 hz2 _ _ _ rfl hown s rfl ?c3 ?c4 ?c5 ?_)
 case c3 => unfold maxLen; omega
 case c4 => omega
 case c5 => have := hb1.size; omega
 intro v' w2 hown' hgrow _
 have hlt : b < w1.heap.size := by
  rcases Nat.lt_or_ge b w1.heap.size with h' | h'
  ·
   exact h'
  ·
   simp [Array.getElem?_eq_none h'] at hbk
 have hb2 : w2.heap[b]? = some (.cells #[.pointer (some ⟨b, 0, none⟩), v] 155 (0, 0)) := by
  rw [hgrow.block b hlt (fun e => hne e.symm)]
  exact hbk
 have d0 : w2.cell? ⟨b, 0, none⟩ = some (.pointer (some ⟨b, 0, none⟩)) := by rw [Lib.cell_of_heap hb2]; rfl
 have d1 : w2.cell? ⟨b, 1, none⟩ = some v := by rw [Lib.cell_of_heap hb2]; rfl
 have f1 : w2.frozen? ⟨b, 1, none⟩ = false := Lib.frozen_of_heap hb2 1
 obtain ⟨ao, n', cap, rfl⟩ : ∃ ao n' cap, v' = .slice ao n' cap := by
  rcases hown'.2 with ⟨hv, _⟩ | ⟨g, cap, cur, hv, _⟩
  ·
   exact ⟨_, _, _, hv⟩
  ·
   exact ⟨_, _, _, hv⟩
 go_wp2
 go_ret2
 refine ⟨rfl, ?_, ?_⟩
 ·
  exact Lib.BuilderAt.put (T := 155) (e := 5) hB hb2 (bs' := bs ++ Lib.strCells s) (by simpa [Lib.strCells_length] using hown') (by decide)
 ·
  exact (hb1.grown hgrow (by have := hb1.size; omega) (fun k hk => (hown.lt k hk).1)).setCell (p := ⟨b, 1, none⟩) hB _
set_option maxHeartbeats 2000000 in
set_option maxRecDepth 100000 in
theorem zoe (B b : Nat) (l : List UInt8) (w : World) (h : Lib.IsBuilder 155 5 B b (Lib.byteCells l) w) (h0 : l ≠ []) :
  Calls Tryz.prog 113 #[.pointer (some ⟨b, 0, none⟩)] w fun e w' => e = .returned (.string ⟨l.toArray⟩) ∧ Below B w w' := by
 obtain ⟨p, hB, v, hbk, hown, hne⟩ : ∃ p, Lib.BuilderAt 155 5 B b p (Lib.byteCells l) w := by
  rcases h with h | h
  ·
   exact ⟨_, h⟩
  ·
   exact ⟨_, h⟩
 have hl0 : l.length ≠ 0 := by simpa using h0
 rw [Lib.byteCells_length] at hown
 obtain ⟨g, cap, cur, rfl, hbg, hg, hnc, hcm, hcs, htake⟩ : ∃ g cap cur, v = .slice (some ⟨g, 0, none⟩) l.length cap ∧ B ≤ g ∧ w.heap[g]? = some (.cells cur 5 (0, 0)) ∧ l.length ≤ cap ∧ cap ≤ maxLen ∧ cur.size = cap * 1 ∧ cur.toList.take (l.length * 1) = Lib.byteCells l := by
  rcases hown.2 with ⟨_, hz⟩ | ⟨g, cap, cur, hv, r⟩
  ·
   exact absurd hz hl0
  ·
   exact ⟨g, cap, cur, hv, r⟩
 have c1 : w.drew.cell? ⟨b, 1, none⟩ = some (.slice (some ⟨g, 0, none⟩) l.length cap) := by
  have : w.drew.heap[b]? = some (.cells #[p, .slice (some ⟨g, 0, none⟩) l.length cap] 155 (0, 0)) := hbk
  rw [Lib.cell_of_heap this]; rfl
 have hSD : (Builtin.unsafeSliceData_ #[153] 182 #[.slice (some ⟨g, 0, none⟩) l.length cap]).run Tryz.prog w.drew = .ok (.pointer (some ⟨g, 0, none⟩)) w.drew :=
  Lib.run_unsafeSliceData_row _ _ _ _ _ _ (by omega)
 have hUS : (Builtin.unsafeString_ #[182, 3] 9 #[.pointer (some ⟨g, 0, none⟩), .int .i64 l.length]).run Tryz.prog w.drew = .ok (.string ⟨l.toArray⟩) (w.drew.freeze ⟨g, 0, none⟩ l.length) := by
  refine Lib.run_unsafeString_row w.drew 182 3 9 5 Tryz.underlying182 (by kernel_rfl) g cur.size (by have hg' : w.drew.heap[g]? = some (.cells cur 5 (0, 0)) := hg; simp [World.shape?, hg']) l h0 (by omega) (by unfold maxLen at hcm; omega) ?_
  intro j x hx
  have := hown.cells (g := g) rfl j (.int .u8 x.toNat) (by simp [Lib.byteCells, hx])
  exact this
 go_enter Tryz.func113, Tryz.ntmps113
 go_wp2
 go_region
 go_wp2; go_ret; exact ⟨rfl, Lib.below_freeze (Below.drew (Below.refl B w)) (p := ⟨g, 0, none⟩) hbg _⟩
theorem zxg {T e : TypeId} {B b : Nat} {bs : List Value} {w w' : World} (h : Lib.IsBuilder T e B b bs w) (hb : Below w.heap.size w w') : Lib.IsBuilder T e B b bs w' := by
 have at_ : ∀ p, Lib.BuilderAt T e B b p bs w → Lib.BuilderAt T e B b p bs w' := by
  rintro p ⟨hB, v, hbk, hown, hne⟩
  have lt : ∀ {k : Nat} {o : Obj}, w.heap[k]? = some o → k < w.heap.size := fun h => (Array.getElem?_eq_some_iff.1 h).1
  refine ⟨hB, v, (hb.block b (lt hbk)).trans hbk, ⟨hown.1, ?_⟩, hne⟩
  rcases hown.2 with h0 | ⟨g, cap, cur, hv, hBg, hg, r⟩
  ·
   exact .inl h0
  ·
   exact .inr ⟨g, cap, cur, hv, hBg, (hb.block g (lt hg)).trans hg, r⟩
 exact h.imp (at_ _) (at_ _)
theorem tab_is {w : World} (h : Aw.TabP w) : Lib.TabIs Tryz.prog w "internal/strconv.uint64pow10" .u64 Lib.pow10Tab := by
 obtain ⟨t, f, ht⟩ := h.tab
 have hg : Tryz.prog.globalNamed "internal/strconv.uint64pow10" = some 0 := by kernel_rfl
 unfold Lib.TabIs World.var?
 rw [hg]
 simp only [Option.bind_some, ht]
theorem zwe (w : World) (o : Obj) : (w.alloc o).heap[w.heap.size]? = some o := by
 show (w.heap.push o)[w.heap.size]? = some o
 simp
theorem strC (l : List UInt8) : Lib.strCells ⟨l.toArray⟩ = Lib.byteCells l := by simp [Lib.strCells, Lib.byteCells]
theorem bytesA (a b : List UInt8) : (⟨a.toArray⟩ : ByteArray) ++ ⟨b.toArray⟩ = ⟨(a ++ b).toArray⟩ := by
 apply ByteArray.ext
 simp [ByteArray.data_append]
set_option maxHeartbeats 2000000 in
set_option maxRecDepth 100000 in
theorem z1r (m : List Int) (lo hi : Nat) (v : Value) (w : World) (hv : RdI w lo hi v m) (hm : ∀ x ∈ m, 0 ≤ x ∧ x ≤ 255) (hl : m.length ≤ 1000) (hne : m ≠ []) (ht : Aw.TabP w) (htb : Aw.TabB w.heap.size) :
  Calls Tryz.prog 68 #[v] w fun e w' => e = .returned (.string ⟨(keyD m).toArray⟩) ∧ Below w.heap.size w w' := by
 obtain ⟨A, c, rfl, hc, hmm⟩ := hv.form
 have HV := Lib.hid hv
 have HM := Lib.hid hm
 have HT := Lib.hid ht
 have HTB := Lib.hid htb
 clear hv hm ht htb
 have HB0 : Hid (Lib.IsBuilder 155 5 w.heap.size w.heap.size (Lib.byteCells (keyD (m.take 0))) (w.alloc (.cells #[.pointer none, .slice none 0 0] 155))) := Lib.hid (.inl ⟨Nat.le_refl _, .slice none 0 0, zwe w _, ⟨rfl, .inl ⟨rfl, rfl⟩⟩, by simp [Value.ownBlock]⟩)
 have HE : Hid (Below w.heap.size w (w.alloc (.cells #[.pointer none, .slice none 0 0] 155))) := Lib.hid ((Below.refl _ _).alloc (Nat.le_refl _) _)
 refine zc3 fun R hR => ?_
 have HR := Lib.hid hR
 clear hR
 go_enter Tryz.func68, Tryz.ntmps68
 go_wp2_with fail
 go_loopw [8, 5] (fun v8 _ wr => ∃ k : Nat, k ≤ m.length ∧ v8 = .int .i64 k ∧ Hid (Lib.IsBuilder 155 5 w.heap.size w.heap.size (Lib.byteCells (keyD (m.take k))) wr) ∧ Hid (Below w.heap.size w wr)) (fun v8 _ _ => m.length - (intOf v8).toNat)
 case atStart => exact ⟨0, Nat.zero_le _, rfl, HB0, HE⟩
 case round =>
  clear HB0 HE
  obtain ⟨k, hk, rfl, HB, HE⟩ := hrel
  by_cases hlt : k < m.length
  ·
   obtain ⟨b, off, rfl, _, _, hcell⟩ := RdI.at1 (HV.out.after HE.out) hlt
   obtain ⟨h0, h1⟩ := HM.out _ (List.mem_of_getElem? (zdh hlt))
   have HBX : Hid (0 ≤ gti m k ∧ gti m k ≤ 255) := Lib.hid ⟨h0, h1⟩
   obtain ⟨x, hx⟩ : ∃ x, gti m k = x := ⟨_, rfl⟩
   have HGX := Lib.hid hx
   rw [hx] at hcell h0 h1
   clear hx
   have HLN : Hid ((keyD (m.take k)).length ≤ 4 * m.length) := Lib.hid (Nat.le_trans (zsi (fun y hy => HM.out y (List.mem_of_mem_take hy))) (by rw [List.length_take]; omega))
   have HLX : Hid ((Lib.itoa x).length ≤ 3) := Lib.hid (by rw [zns h0]; exact zri 2 x.toNat (by omega))
   have HS : Hid (Lib.byteCells (keyD (m.take k)) ++ Lib.strCells ⟨(Lib.itoa x ++ [32]).toArray⟩ = Lib.byteCells (keyD (m.take (k + 1)))) := Lib.hid (by
    rw [List.take_add_one, zdh hlt, strC]
    simp only [Option.toList]
    rw [zwb, HGX.out]
    simp only [Lib.byteCells, List.map_append])
   go_wp2_with fail
   refine (Any.strconv_Itoa Tryz.laysLM171 x (by omega) (by omega) wr (tab_is (HT.out.keep HTB.out HE.out))).mono ?_
   rintro e w1 ⟨rfl, kk, os, hw1⟩
   have hb1 : Below wr.heap.size wr w1 := by rw [hw1]; exact Lib.below_grow _ _ (Nat.le_refl _) _ _
   have HB1 := Lib.hid (zxg HB.out hb1)
   have HE1 := Lib.hid (HE.out.trans (hb1.mono HE.out.size))
   clear hw1 hb1
   go_wp2_with fail
   ·
    exfalso
    rename_i hbig
    have h2 := HLX.out
    revert hbig
    simp [ByteArray.size, maxLen]
    omega
   ·
    have e1 : (({ data := (Lib.itoa x).toArray } : ByteArray) ++ { data := #[32] }) = ⟨(Lib.itoa x ++ [32]).toArray⟩ := bytesA _ [32]
    rw [e1]
    refine (zkt _ _ _ _ _ HB1.out (by
     have h1 := HLN.out
     have h2 := HLX.out
     rw [Lib.byteCells_length]
     show _ + (Lib.itoa x ++ [32]).toArray.size ≤ _
     simp
     omega) HE1.out.size).mono ?_
    rintro e w2 ⟨rfl, hb2, hw2⟩
    rw [HS.out] at hb2
    have HB2 := Lib.hid hb2
    have HE2 := Lib.hid (HE1.out.trans hw2)
    clear hb2 hw2
    go_wp2_with fail
    exact ⟨⟨k + 1, by omega, by go_num, Lib.hid (.inr HB2.out), HE2⟩, by simp [intOf]; omega⟩
  ·
   obtain rfl : k = m.length := by omega
   rw [List.take_length] at HB
   go_wp2_with (go_at_call 113; refine (zoe _ _ (keyD m) _ HB.out (by
    intro e
    match m, hne with
    | a :: t, _ => simp [keyD] at e)).mono ?_; rintro e w1 ⟨rfl, hb⟩; replace HE := Lib.hid (HE.out.trans hb); clear hb)
   exact HR.out _ _ ⟨rfl, HE.out⟩
end Go.Proofs.YtjhdcgaiccnmeaaGreatDoor
end
