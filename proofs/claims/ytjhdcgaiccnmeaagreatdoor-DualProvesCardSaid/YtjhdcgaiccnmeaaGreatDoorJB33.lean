import Derived.Test.YtjhdcgaiccnmeaaGreatDoorJB9
import Derived.Test.YtjhdcgaiccnmeaaGreatDoorJB30
import Derived.Test.YtjhdcgaiccnmeaaGreatDoorJB16
import Derived.Test.YtjhdcgaiccnmeaaGreatDoorJB20
import Derived.Shelf.Abstract
import Derived.OwnWalkIn
import Derived.TacticsInMore
import Derived.LoopIn
set_option linter.unusedSimpArgs false
set_option linter.unusedVariables false
set_option linter.unusedSectionVars false
section
namespace Go.Proofs.YtjhdcgaiccnmeaaGreatDoor.Aw
open Go Go.RowKit Go.Proofs Go.Shelf Dl
attribute [local go_sem] Oper.semAt_some
def eEd (e : Edg) : AV := .agg [eI e.a, eI e.b, eI e.c]
def encB (M : List Edg) (k : Nat) : Array Value := #[.int .i64 ((M.length : Int) - 1 - k), .agg #[.int .i64 (gti M (M.length - 1 - k)).a, .int .i64 (gti M (M.length - 1 - k)).b, .int .i64 (gti M (M.length - 1 - k)).c]]
set_option maxRecDepth 100000 in
set_option maxHeartbeats 2000000 in
theorem zzr (l B ob b off cap : Nat) (M : List Edg) (J : Nat → World → Prop) (hlen : M.length ≤ 1000000000) (hpos : 0 < M.length)
  (hC : ∀ k W, J k W → W.cell? ⟨B, ob, none⟩ = some (.slice (some ⟨b, off, none⟩) M.length cap) ∧ ∀ j, j < M.length → W.cell? ⟨b, off + j * 3, none⟩ = some (.int .i64 (gti M j).a) ∧ W.cell? ⟨b, off + j * 3 + 1, none⟩ = some (.int .i64 (gti M j).b) ∧ W.cell? ⟨b, off + j * 3 + 2, none⟩ = some (.int .i64 (gti M j).c))
  (hY : ∀ k W, k < M.length → J k W → YieldAt Fence.wide 1 Tryz.prog l (encB M k) W fun e W' => e = .returned (.bool true) ∧ J (k + 1) W')
  (W : World) (h0 : J 0 W) :
  CallsIn Fence.wide 2 Tryz.prog 120 #[.func (.yield l) #[] #[], .pointer (some ⟨B, ob, none⟩)] W fun e W' => (∃ v, e = .returned v) ∧ J M.length W' := by
 refine callsIn_of_wp Tryz.func120 rfl trivial ?_ rfl
 simp only [Tryz.ntmps120, List.size_toArray, List.length_cons, List.length_nil, Nat.reduceAdd, Nat.reduceSub, Array.replicate_succ, Array.replicate_zero, List.push_toArray, List.append_toArray, List.nil_append, List.cons_append]
 have hB := (hC 0 W h0).1
 have HC := Lib.hid hC
 have HY := Lib.hid hY
 clear hC hY
 gi_wp2
 gi_loopw [3] (fun i wr => ∃ k : Nat, k ≤ M.length ∧ i = .int .i64 ((M.length : Int) - 1 - k) ∧ J k wr)
  (fun i _ => (intOf i + 1).toNat)
 case atStart => exact ⟨0, Nat.zero_le _, by go_num, h0⟩
 case round =>
  obtain ⟨k, hk, rfl, hJ⟩ := hrel
  obtain ⟨hBr, hcs⟩ := HC.out k wr hJ
  by_cases hlt : k < M.length
  ·
   obtain ⟨j, hj⟩ : ∃ j : Nat, M.length - 1 - k = j := ⟨_, rfl⟩
   have hji : (M.length : Int) - 1 - k = (j : Int) := by omega
   obtain ⟨c0, c1, c2⟩ := hcs j (by omega)
   obtain ⟨fn, tmps, assign, body, hy, hR⟩ := HY.out k wr hlt hJ
   unfold encB at hy
   rw [hj, hji] at hy
   rw [hji]
   gi_wp2
   refine hR.mono ?_
   rintro e W3 ⟨rfl, hJ3⟩
   gi_wp2
   go_roundw
   case rel => exact ⟨k + 1, by omega, by rw [show (M.length : Int) - 1 - (k + 1 : Nat) = (j : Int) - 1 by omega], hJ3⟩
   case measure => simp [intOf] <;> omega
  ·
   obtain rfl : k = M.length := by omega
   have hji : (M.length : Int) - 1 - (M.length : Nat) = -1 := by omega
   rw [hji]
   gi_wp2
   go_end0
   exact ⟨⟨_, rfl⟩, hJ⟩
set_option maxRecDepth 100000 in
set_option maxHeartbeats 2000000 in
theorem zqd (l B ob cap : Nat) (A : Option Addr) (J : Nat → World → Prop) (W : World) (hB : W.cell? ⟨B, ob, none⟩ = some (.slice A 0 cap)) (h0 : J 0 W) :
  CallsIn Fence.wide 2 Tryz.prog 120 #[.func (.yield l) #[] #[], .pointer (some ⟨B, ob, none⟩)] W fun e W' => (∃ v, e = .returned v) ∧ J 0 W' := by
 refine callsIn_of_wp Tryz.func120 rfl trivial ?_ rfl
 simp only [Tryz.ntmps120, List.size_toArray, List.length_cons, List.length_nil, Nat.reduceAdd, Nat.reduceSub, Array.replicate_succ, Array.replicate_zero, List.push_toArray, List.append_toArray, List.nil_append, List.cons_append]
 gi_wp2
 gi_loopw [3] (fun i wr => i = .int .i64 (-1) ∧ J 0 wr) (fun _ _ => 0)
 case atStart => exact ⟨by go_num, h0⟩
 case round =>
  obtain ⟨rfl, hJ⟩ := hrel
  gi_wp2
  go_end0
  exact ⟨⟨_, rfl⟩, hJ⟩
variable {P : Program} [IsP P]
theorem zue (M : List Edg) (hlen : M.length ≤ 1000000000) (G : Cx) (lb : Array Value) (hsz : lb.size = ([.ref [eL eEd M]] : List AV).length)
  (hrep : ∀ (j : Nat) v c, lb[j]? = some v → ([.ref [eL eEd M]] : List AV)[j]? = some c → Rep G v c) :
  z2m P 120 lb (encB M) M.length (fun W => ∀ b o, G.St b o → W.cell? ⟨b, o, none⟩ = G.w.cell? ⟨b, o, none⟩) := by
 rw [IsP.eq (P := P)]
 intro l J W hC hY h0
 obtain ⟨q⟩ := lb
 match q, hsz, hrep with
 | [v], _, hrep =>
  have h1 := hrep 0 v _ rfl rfl
  cases h1 with
  | ref B o cs val g1 g2 g3 =>
   obtain ⟨k1, k2⟩ := g2 0 _ rfl
   have h2 := g3 0 _ rfl
   generalize val 0 = sv at k2 h2
   rw [Nat.add_zero] at k1 k2
   unfold eL at h2
   generalize hL : M.map eEd = L at h2
   cases h2 with
   | slnil A cap =>
    have : M = [] := by simpa using hL
    subst this
    exact zqd l B o cap A J W ((hC 0 W h0 _ _ k1).trans k2) h0
   | sl b off cap sz _ vl hc hm e1 e2 e3 =>
    subst hL
    have hml : (M.map eEd).length = M.length := by simp
    rw [hml] at k2
    rcases Nat.eq_zero_or_pos M.length with h0' | hpos
    ·
     have : M = [] := List.eq_nil_of_length_eq_zero h0'
     subst this
     exact zqd l B o cap _ J W ((hC 0 W h0 _ _ k1).trans k2) h0
    ·
     refine zzr l B o b off cap M J hlen hpos (fun k W hJ => ⟨(hC k W hJ _ _ k1).trans k2, fun j hj => ?_⟩) hY W h0
     have hk : (M.map eEd)[j]? = some (eEd (gti M j)) := by rw [List.getElem?_map, zdh hj]; rfl
     have hsz3 : sz = 3 := by rw [← (e1 j _ hk).1]; rfl
     subst hsz3
     have key : ∀ (i : Nat) u, (eEd (gti M j)).cells[i]? = some (.s u) → W.cell? ⟨b, off + j * 3 + i, none⟩ = some u := fun i u hu => by
      obtain ⟨q1, q2⟩ := e2 j _ i _ hk hu
      have q3 := zb4 (e3 j _ i _ hk hu)
      rw [hC k W hJ _ _ q1, q2, q3]
     exact ⟨key 0 _ rfl, key 1 _ rfl, key 2 _ rfl⟩
theorem z2j (M : List Edg) : Pure P 73 [eL eEd M] (.fn 120 [.ref [eL eEd M]]) := by
 have hlo : ∀ {k : Nat}, Lo k (eL eEd M) := zan fun e => .agg _ (by intro c hc; simp [eI] at hc; rcases hc with rfl | rfl | rfl <;> exact .s _)
 refine zcl (by rw [IsP.eq (P := P)]; exact Tryz.func73) rfl rfl rfl rfl rfl (zah hlo zak) (.fn _ _ (zah (.ref _ (zah hlo zak)) zak)) (by simp only [argF]; rfl) ?_
 refine zag (zab (zaf rfl rfl (zaa rfl) (zb3 rfl rfl rfl rfl) ?_))
 refine za6 (zbm (id := 0) rfl) (za6 (zcb (d := 1) rfl rfl rfl) ?_)
 refine zac rfl (zad (zag (zab (zaf rfl rfl (zaa rfl) (zw3 rfl rfl) (zac rfl (zad (zai ?_)))))))
 (refine za7 ?_; repeat (first | refine zbc ?_ | refine zbe ?_))
 exact zb6 (.inr rfl) rfl rfl
end Go.Proofs.YtjhdcgaiccnmeaaGreatDoor.Aw
end
