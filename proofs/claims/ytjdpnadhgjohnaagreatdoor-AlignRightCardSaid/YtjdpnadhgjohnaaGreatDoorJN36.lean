import Derived.Test.YtjdpnadhgjohnaaGreatDoorJN0
import Derived.Test.YtjdpnadhgjohnaaGreatDoorJN10
import Derived.Test.YtjdpnadhgjohnaaGreatDoorJN24
import Derived.Test.YtjdpnadhgjohnaaGreatDoorJN26
set_option linter.unusedSimpArgs false
set_option linter.unusedVariables false
set_option linter.unusedSectionVars false
section
namespace Go.Proofs.YtjdpnadhgjohnaaGreatDoor.Aw
open Go Go.RowKit Go.Proofs Go.Maps Go.WideMaps
variable {P:Program}[IsP P]
theorem zyg {α:Type}[Inhabited α]{l:List α}{k:Nat}(h:k<l.length):l.take (k+1)=l.take k++[gti l k]:=by
 rw[List.take_add_one,zbr h];rfl
theorem zx6 {n:Int}(h0:0≤n)(h1:n≤255):IntKind.u8.wrap n=n:=IntWalk.u8_in n xa
theorem lo_U (l:List Int): ∀e∈l.map eU, ∀c∈e.cells,Lo 0 c:=by
 intro e he c hc
 obtain⟨x,_,rfl⟩:=List.mem_map.1 he
 simp[eU,AV.cells] at hc;subst hc;exact .s _
end Go.Proofs.YtjdpnadhgjohnaaGreatDoor.Aw
end
