import Derived.Test.YtjdpnadhgjohnaaGreatDoorJN0
import Derived.Test.YtjdpnadhgjohnaaGreatDoorJN16
import Derived.Test.YtjdpnadhgjohnaaGreatDoorJN20
import Derived.Test.YtjdpnadhgjohnaaGreatDoorJN9
set_option linter.unusedSimpArgs false
set_option linter.unusedVariables false
set_option linter.unusedSectionVars false
section
namespace Go.Proofs.YtjdpnadhgjohnaaGreatDoor.Aw
open Go.RowKit Go.Proofs
variable {P:Program}[IsP P]
theorem zxj (f:FuncId)(caps:List AV)(p:ByteArray→Bool)(l:List ByteArray)(hlo: ∀a:ByteArray,Lo 0 (eS a))(hlc:Lo 0 (.fn f caps))(hf: ∀a∈l,Pure P f ([eS a]++caps) (eB (p a))):
  Pure P 86 [eL eS l, .fn f caps] (eI (zd8 p l)):=by
 refine zd1 (by rw[IsP.eq (P:=P)];exact Tryz.func86) rfl J J J J (zaj (zdj hlo) (zaj hlc zba)) (.s _) (by simp only[argF];rfl) ?_
 refine z17 (d:=0) rfl (fun hmx=>?_)
 unfold maxLen at hmx
 refine zag (zab (zac J (zae (zag (zag (zab (zac J (zad J J (zaa J) (zan J ts25 J) (zac J (zae (zah (za9 ?_))))))))))))
 refine zdq (S:=Nat) (fun k=>[(0,eL eS l),(1, .fn f caps),(7,eI l.length),(8,eI k)]) (fun _=>[]) (fun k=>k≤l.length∧ ∀j a,j<k→l[j]?=some a→p a=false) (fun k=>l.length-k) 0 (zcv _ ⟨rfl,rfl,rfl,rfl,trivial⟩) ⟨by omega,fun j a hj=>by omega⟩ (fun k hk=>?_)
 refine zag (zab (zad J J (zaa J) (za0 J J J) (zae (zag ?_))))
 refine aw_if J (fun h=>?_) (fun h=>?_)
 ·
  have hlt:k<l.length:=by omega
  refine zav (zag (za9 (zag (zab (zac J (zac J (zae (zag ?_))))))))
  have hp:=hf (gti l k) (gti_mem hlt)
  refine zab (zac J (zac J (zac J (zad J J (zaa J) (za1 J ts25 ti9 J J J (zdk xa) rfl) (zbq ta9 J (zad J J (zaa J) (zai J J (hp) (zaf J zaq)) (zae (zah ?_))))))))
  refine zoh J (fun h=>?_) (fun h=>?_)
  ·
   refine zag (zab (zac J (zac J (zae (zah ?_)))))
   (refine za3 ?_;repeat (first|refine zbg ?_|refine zbh ?_))
   exact zcl (.inr rfl) rfl (congrArg eI (zd3 (zbr hlt) h hk.2).symm)
  ·
   refine zav (zcf (zah (zab (zad J J (zaa J) (za2 J J J (IntWalk.i64_in _ xa)) (zac J (zae (zah ?_)))))))
   refine⟨k+1,⟨by omega,fun j a hj ha=>?_⟩,by omega,zcv _ ⟨rfl,rfl,rfl,rfl,trivial⟩⟩
   by_cases e:j=k
   ·
    subst e
    rw[zbr hlt] at ha
    cases ha
    exact h
   ·
    exact hk.2 j a xa ha
 ·
  (refine zdz ?_;repeat (first|refine zep ?_|refine zcg ?_|refine zbz J ?_|refine zcf ?_|refine zah ?_|refine zag ?_|refine zav ?_|refine za9 ?_))
  refine zab (zac J (zae (zah ?_)))
  (refine za3 ?_;repeat (first|refine zbg ?_|refine zbh ?_))
  exact zcl (.inr rfl) rfl (congrArg eI (zeg (fun j a hj ha=>hk.2 j a xa ha)).symm)
theorem zq5 (f:FuncId)(caps:List AV)(p:ByteArray→Bool)(l:List ByteArray)(hlo: ∀a:ByteArray,Lo 0 (eS a))(hlc:Lo 0 (.fn f caps))(hf: ∀a∈l,Pure P f ([eS a]++caps) (eB (p a))):
  Pure P 37 [eL eS l, .fn f caps] (eB (l.any p)):=by
 refine zd1 (by rw[IsP.eq (P:=P)];exact Tryz.func37) rfl J J J J (zaj (zdj hlo) (zaj hlc zba)) (.s _) (by simp only[argF];rfl) ?_
 have hi:=zxj f caps p l hlo hlc hf
 refine zag (zab (zac J (zae (zag (zab (zac J (zac J (zad J J (zaa J) (zai J J (hi) (zaf J (zaf J zaq))) (zad J J (zaa J) (zc9 J J J) (zac J (zae (zah ?_))))))))))))
 (refine za3 ?_;repeat (first|refine zbg ?_|refine zbh ?_))
 exact zcl (.inr rfl) rfl (congrArg eB (zeh p l))
end Go.Proofs.YtjdpnadhgjohnaaGreatDoor.Aw
end
