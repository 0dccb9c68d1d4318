import Derived.Test.YtjdpnadhgjohnaaGreatDoorJN0
import Derived.Test.YtjdpnadhgjohnaaGreatDoorJN18
import Derived.Test.YtjdpnadhgjohnaaGreatDoorJN15
import Derived.Test.YtjdpnadhgjohnaaGreatDoorJN21
import Derived.Laws.BytesArg
import Derived.Maps.OwnSet
set_option linter.unusedSimpArgs false
set_option linter.unusedVariables false
set_option linter.unusedSectionVars false
section
namespace Go.Proofs.YtjdpnadhgjohnaaGreatDoor.Aw
open Go Go.Proofs Go.RowKit Go.Maps Go.WideMaps
section
variable {P:Program}{o:Oper}{F:Frm}{σ:List Ob}
theorem zni {t kt el:TypeId}{m x:Operand}{id:Nat}{X:MapX}{key z:Value}{kl zl rl:Lit}{n bt:Nat}{b:Bool}(ho:o.op= .lookup t m x true)(ht:zs8 P t=some (kt,el))(K:Keyed P kt)(hm:F.eval m= .mp id)(hs:σ[id]?=some (.mp X))(hX:X.P=P∧X.kt=kt∧X.el=el)
  (hx:F.eval x= .s key) (hkey:keyOf P kt key=some kl) (hi:za6 P el=some (some z,n,bt)) (hz:plainElem (H:=Unit) P el z=some (.lit zl,[])) (hr:X.D.atKey kl (.lit zl)= .lit rl) (hb:Maps.has X.D kl=b): ∀σ2:List Ob,(∀i∈[id],σ2[i]?=σ[i]?)→Does P o F σ2 (.tup [.s (zyb rl), .s (.bool b)]) σ2:=fun σ2 hσ=>
 zbc fun G ρ hrel hop=>by
  have g1:=hop m (by simp[ho,Op.operands])
  have g2:=hop x (by simp[ho,Op.operands])
  rw[hm] at g1
  rw[hx] at g2
  have e2:=zc5 g2
  generalize hu:ρ m=u at g1
  cases g1 with
  | mp _ c hmu=>
   obtain⟨b0,h1,h2,h3,h4,h5⟩:=hrel.obs id _ ((hσ id xm).trans hs)
   rw[hmu] at h1
   cases h1
   obtain⟨XP,Xk,Xe,Xn,XD⟩:=X
   obtain⟨rfl,rfl,rfl⟩:=hX
   obtain⟨i,k1,k2,k3,k4⟩:=zgq hi
   have hzero:(zeroValue Xe).run XP G.w= .ok z G.w:=by simp[zeroValue,typeInfo,k1,k2]
   obtain⟨v,ps,hrun,hv⟩:=World.ownsMap.look_ok h2 K (zz9 ht) hzero hz hkey
   have hr':XD.atKey kl (.lit zl)= .lit rl:=hr
   have hb':Maps.has XD kl=b:=hb
   rw[hr'] at hv
   rw[hb'] at hrun
   have:=zm6 hv
   subst this
   refine⟨.tuple #[zyb rl, .bool b],?_, .tup _ _ J (fun j v c hv hc=>?_)⟩
   ·
    simp[execOp,ho,hu,e2,hrun,Result.andThen]
   ·
    match j,hv,hc with
    |0,hv,hc=>simp at hv hc;subst hv hc;exact .s _
    |1,hv,hc=>simp at hv hc;subst hv hc;exact .s _
    |j+2,hv,hc=>simp at hv
def eU (n:Int):AV:= .s (.int .u8 n)
def zp1 (xs:List Int):ByteArray:=⟨(xs.map fun n=>UInt8.ofNat n.toNat).toArray⟩
theorem z1u {t t' e:TypeId}{x:Operand}{y:AV}{xs:List Int}(ho:o.op= .convert t t' x)(ht:za5 P t=some e)(he:zrm P e=some .u8)(hd:zff P t'=true)(hx:F.eval x=y)(hs:Src σ 1 y (xs.map eU)):Does P o F σ (.s (.string (zp1 xs))) σ:=
 zbc fun G ρ hrel hop=>by
  have g1:=hop x (by simp[ho,Op.operands])
  rw[hx] at g1
  obtain⟨A,c,news,hv,hV⟩:=zl8 xe hrel hs g1
  have hsl:P.underlying t=some (.slice e):=by
   unfold za5 at ht
   split at ht
   ·
    rename_i h1;cases ht;exact h1
   ·
    cases ht
  have hi8:P.underlying e=some (.int .u8):=by
   unfold zrm at he
   split at he
   ·
    rename_i h1;cases he;exact h1
   ·
    cases he
  have hst:=zmr hd
  have hnews:news=xs.map (Value.int .u8):=by
   refine List.ext_getElem? fun k=>?_
   have hl:=hV.len
   rw[List.length_map,Nat.mul_one] at hl
   by_cases hk:k<xs.length
   ·
    obtain⟨q1,q2,q3⟩:=hV.rep k (eU xs[k]) (by simp[hk])
    obtain⟨u,h1,h2⟩:=q3 0 (eU xs[k]) rfl
    rw[Nat.mul_one,Nat.add_zero] at h1
    rw[h1,zc5 h2]
    simp[hk]
   ·
    rw[List.getElem?_eq_none xa,List.getElem?_eq_none (by simp;omega)]
  have hrun:(convert t t' (.slice A (xs.map eU).length c)).run P G.w= .ok (.string (zp1 xs)) G.w:=by
   cases A with
   |none=>
    have h0:xs=[]:=List.map_eq_nil_iff.1 (hV.nil J)
    subst h0
    rw[run_convert_bytes_nil G.w t e hsl hi8 _ _ _ hst]
    rfl
   | some a=>
    have hl:(loadCells a xs.length).run P G.w= .ok (xs.map (Value.int .u8)).toArray G.w:=by
     have:=run_loadCells_list (P:=P) G.w a (xs.map (Value.int .u8)) (fun j v hj=>hV.at_ a J j v (by rw[hnews];exact hj))
     rwa [List.length_map] at this
    rw[run_convert_bytes_string G.w t t' e _ _ _ hsl hi8 hst,List.length_map,run_bytesToString G.w a _ c xs hl,foldl_push_bytes]
    simp[zp1,ByteArray.empty,ByteArray.emptyWithCapacity]
    rfl
  refine⟨.string (zp1 xs),?_, .s _⟩
  simp only[execOp,ho,hv,Sem.run_bind,hrun,Result.andThen_ok,Sem.run_pure]
end
end Go.Proofs.YtjdpnadhgjohnaaGreatDoor.Aw
end
