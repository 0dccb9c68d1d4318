import Derived.Test.YtjdpnadhgjohnaaGreatDoorJN0
import Derived.Test.YtjdpnadhgjohnaaGreatDoorJN30
set_option linter.unusedSimpArgs false
set_option linter.unusedVariables false
set_option linter.unusedSectionVars false
section
namespace Go.Proofs.YtjdpnadhgjohnaaGreatDoor.Aw
open Go Go.RowKit Go.Proofs
def zui (P:Program)(orc:Orc)(tab:CallF)(n:Nat)(e:EvEnt):Bool:=match zld P orc tab n e.f e.args e.s with
 |some (x,s1,W1)=>avEq x e.r && zwt s1 e.s' && W1.all (fun i=>e.W.contains i)
 |none=>false
theorem z8n {P:Program}{orc:Orc}{tab:CallF}(hm:P.follows .mixedOrders=true)(ho:zid P orc)(ht:zgk P tab){n:Nat}{e:EvEnt}(h:zui P orc tab n e=true):e.ok P:=by
 unfold zui at h
 split at h
 ·
  rename_i x s1 W1 he
  simp only[Bool.and_eq_true] at h
  obtain⟨⟨h1,h2⟩,h3⟩:=h
  obtain⟨c1,c2⟩:=zlc hm ho ht n _ _ _ _ _ _ he
  rw[zjs _ _ h1,zif h2] at c1
  refine⟨c1,fun id hid=>?_⟩
  rw[←zif h2]
  refine c2 id (fun hm=>hid ?_)
  have:=List.all_eq_true.1 h3 id hm
  simpa using this
 ·
  cases h
def pR:EvEnt:=⟨158,[.ptr 5 5 0 0,eI 13],ofLs pL0,eI (-1),ofLs pL7,[5,53,54]++(List.range 403).drop 68⟩
theorem pR_ev:zui Tryz.prog orcF (zyi pEs) 1000 pR=true:=by kernel_rfl
theorem pR_ok:pR.ok Tryz.prog:=z8n hmix zfa (zp4 _ (pEs_ok (P:=Tryz.prog))) pR_ev
def pB0:List Ob:=[.row 4 [eP exP], .row 6 ([.agg [eI 0,nlA,nlA,nlA,eI 0,eI 0]]), .row 4 [eP exP], .row 6 ([.agg [eI 0,nlA,nlA,nlA,eI 0,eI 0]])]
def pB1:List Ob:=pB0++([.row 4 [eP exP], .row 5 ([.agg [.own 53 1 8,nlA, .own 54 1 8,eI 13,eI 0]]), .row 1 ([eB true,eB false,eB false,eB false,eB false,eB false,eB false,eB false]), .dead,rI [0,0,0,0,0,0,0,0,0,0,0,0,0,0,0,0], .dead,rI [1,0,0,0,0,0,0,0,0,0,0,0,0,1,0,0,0,0,0,0,0,1], .dead, .dead, .dead,rI [0,0,0,0,0,0,0,0,0,0,0,0,0,0,0,0], .dead,rI [1, -1,0,0,0,0,0,0,0,0,0,0,0,0,1,0,0,0,0,0,0,0], .dead, .dead, .dead,rI [0,0,0,0,0,0,0,0,0,0,0,0,0,0,0,0], .dead,rI [0,1, -1,0,0,0,0,0,0,0,0,0,0,0,0,1,0,0,0,0,0,0], .dead, .dead, .dead,rI [0,0,0,0,0,0,0,0,0,0,0,0,0,0,0,0], .dead,rI [0,0,1,0,0,0,0,0,0,0,0,0,0,0,0,0,1,0,0,0,0,1], .dead, .dead, .dead,rI [0,0,0,0,0,0,0,0,0,0,0,0,0,0,0,0], .dead,rI [0,0,0,1,0,0,0,0,0,1,0,0,0,0,0,0,0,1,0,0,0,1], .dead, .dead, .dead,rI [0,0,0,0,0,0,0,0,0,0,0,0,0,0,0,0], .dead,rI [-1,0,0,1,0,0,0,0,0,0,1,0,0,0,0,0,0,0,1,0,0,0], .dead, .dead, .dead,rI [0,0,0,0,0,0,0,0,0,0,0,0,0,0,0,0], .dead,rI [0,0,0,0,1,0,0,0,0,0,0,1,0,0,0,0,0,0,0,1,0,1], .dead, .dead, .dead,rI [0,0,0,0,0,0,0,0,0,0,0,0,0,0,0,0], .dead,rI [0,0, -1,0,1,0,0,0,0,0,0,0,1,0,0,0,0,0,0,0,1,0], .row 1 ([.own 10 2 22, .own 16 2 22, .own 22 2 22, .own 28 2 22, .own 34 2 22, .own 40 2 22, .own 46 2 22, .own 52 2 22]), .row 1 ([eI 13,eI 14,eI 15,eI 16,eI 17,eI 18,eI 19,eI 20])])
def pC0:List Ob:=pB1++([.dead,rI [1],rI [1,1,1,1,1,1,1,1], .dead,rI [0,0,0,0,0,0,0,0,0,0,0,0,0,1,1,1,1,1,1,1,1,0]])
def pD0:List Ob:=pL7++([.dead,rI [0,0,0,0,0,0,0,0,0,0,0,0,0,0,0,0,0],rI [1,1,1, -2, -2,0,0,0,0,0,0,0,0,0,0,0,0,0,0,0,0,0]])
def pD1:List Ob:=(pD0.set 5 (.row 5 ([.agg [.own 53 1 8, .own 410 2 22, .own 54 1 8,eI 13,eI 0]])))++([rI [1,1,0, -2, -2,0,0,0,0,0,0,0,0, -1,1,1,0,0,0,0,0, -1],rI [0,1,0, -2, -2,0,0,0,0,0,0,0,0, -2,1,1,0,0,0,0,0, -2],rI [0,0,0, -2, -2,0,0,0,0,0,0,0,0, -3,2,1,0,0,0,0,0, -3],rI [0,0,0,0, -2,0,0,0,0,0,2,0,0, -1,2,1,0,0,2,0,0, -1],rI [0,0,0,0,0,0,0,0,0,0,2,2,0, -1,2,1,0,0,2,2,0,1]])
def pB:EvEnt:=⟨154,[eP exP],ofLs pB0, .tup [.ptr 5 5 0 0, .own 6 1 8],ofLs pB1,[4,5,6,7,8,9,10,11,12,13,14,15,16,17,18,19,20,21,22,23,24,25,26,27,28,29,30,31,32,33,34,35,36,37,38,39,40,41,42,43,44,45,46,47,48,49,50,51,52,53,54]⟩
theorem pB_ev:zho Tryz.prog orcF 1000 pB=true:=by kernel_rfl
def pP:EvEnt:=⟨155,[.ptr 5 5 0 0, .own 59 2 22],ofLs pC0, .tup [],ofLs pL0,[5,60,61,62,63,64,65,66,67]⟩
theorem pP_ev:zho Tryz.prog orcF 1000 pP=true:=by kernel_rfl
def pQ:EvEnt:=⟨155,[.ptr 5 5 0 0, .own 405 2 22],ofLs pD0, .tup [],ofLs pD1,[5,406,407,408,409,410]⟩
theorem pQ_ev:zho Tryz.prog orcF 1000 pQ=true:=by kernel_rfl
variable {P:Program}[IsP P]
theorem z2u:zq7 Tryz.prog orcF 1000 109 [eP exP] (eB true)=true:=by kernel_rfl
def orcV:Orc:=fun f args=>bif Nat.beq f 109 && zhs args [eP exP] then some (eB true) else orcF f args
theorem zzp:zid P orcV:=by
 intro f args r h
 unfold orcV at h
 cases hb:(Nat.beq f 109 && zhs args [eP exP]) with
 |false=>rw[hb] at h;exact zfa f args r h
 |true=>
  rw[hb] at h;cases h
  rw[Bool.and_eq_true] at hb
  rw[Nat.eq_of_beq_eq_true hb.1,ze5 _ _ hb.2]
  exact zdw (zp0 hmix zfa z2u)
theorem z4x:zq7 Tryz.prog orcV 1000 111 [eP exP,eSol exS] (eB true)=true:=by kernel_rfl
def orcW:Orc:=fun f args=>bif Nat.beq f 111 && zhs args [eP exP,eSol exS] then some (eB true) else orcV f args
theorem z7e:zid P orcW:=by
 intro f args r h
 unfold orcW at h
 cases hb:(Nat.beq f 111 && zhs args [eP exP,eSol exS]) with
 |false=>rw[hb] at h;exact zzp f args r h
 |true=>
  rw[hb] at h;cases h
  rw[Bool.and_eq_true] at hb
  rw[Nat.eq_of_beq_eq_true hb.1,ze5 _ _ hb.2]
  exact zdw (zp0 hmix zzp z4x)
def pTab:List EvEnt:=[pR,pB,pP,pQ]
theorem z7c: ∀e∈pTab,e.ok Tryz.prog:=by
 intro e he
 simp only[pTab,List.mem_cons,List.not_mem_nil,or_false] at he
 rcases he with rfl|rfl|rfl|rfl
 ·
  exact pR_ok
 ·
  exact zi6 (hmix (P:=Tryz.prog)) zfa pB_ev
 ·
  exact zi6 (hmix (P:=Tryz.prog)) zfa pP_ev
 ·
  exact zi6 (hmix (P:=Tryz.prog)) zfa pQ_ev
end Go.Proofs.YtjdpnadhgjohnaaGreatDoor.Aw
end
