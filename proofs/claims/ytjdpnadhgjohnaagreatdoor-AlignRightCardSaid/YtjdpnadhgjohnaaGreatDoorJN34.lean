import Derived.Test.YtjdpnadhgjohnaaGreatDoorJN0
import Derived.Test.YtjdpnadhgjohnaaGreatDoorJN13
import Derived.Test.YtjdpnadhgjohnaaGreatDoorJN5
import Derived.Test.YtjdpnadhgjohnaaGreatDoorJN29
set_option linter.unusedSimpArgs false
set_option linter.unusedVariables false
set_option linter.unusedSectionVars false
section
namespace Go.Proofs.YtjdpnadhgjohnaaGreatDoor.Dl
open Go.RowKit Aw
structure Vr where
 acts:List ByteArray
 cnt:Int
instance:Inhabited Vr:=⟨⟨[],0⟩⟩
def ltS (x y:ByteArray):Bool:=Go.Op.bytesLess x.toList y.toList
def zdp (n:Net)(w:List ByteArray)(c:Cst)(most:Int):Int × Int:=
 if (zb0 n w).2≠0∨vcB c=false then(0,1) else if most<1∨2000<most then(0,2) else(zhj (srP n w c most),(srP n w c most).2.2)
def zi2 (n:Net)(w:List ByteArray)(c:Cst)(most:Int):Int × Int:=
 if (zb0 n w).2≠0∨vcB c=false then(0,1) else if (zdp n [] c most).2≠0 then(0,(zdp n [] c most).2) else((zdp n [] c most).1+c.log*w.length,0)
theorem z0f (n:Net)(w:List ByteArray)(c:Cst)(most:Int):0≤(zdp n w c most).1∧(zdp n w c most).1≤2000000:=by
 unfold zdp
 split
 ·
  exact⟨Int.le_refl _,by decide⟩
 ·
  rename_i h1
  split
  ·
   exact⟨Int.le_refl _,by decide⟩
  ·
   rename_i h2
   have hs:(zb0 n w).2=0:=Classical.byContradiction fun h=>h1 (.inl h)
   have hc:vcB c=true:=by
    cases hv:vcB c with
    |true=>rfl
    |false=>exact absurd (.inr hv) h1
   show 0≤zhj (srP n w c most)∧zhj (srP n w c most)≤2000000
   unfold zhj
   split
   ·
    rename_i h0
    have hf:=zp6 hc hs xa h0
    have:=hf.cb _ hf.el
    omega
   ·
    exact⟨Int.le_refl _,by decide⟩
end Go.Proofs.YtjdpnadhgjohnaaGreatDoor.Dl
end
