import Derived.Test.YtjdpnadhgjohnaaGreatDoorJN0
import Derived.Test.YtjdpnadhgjohnaaGreatDoorJN6
import Derived.Test.YtjdpnadhgjohnaaGreatDoorJN16
import Derived.Test.YtjdpnadhgjohnaaGreatDoorJN10
import Derived.Lib.UnsafeStr
import Derived.Lib.Builder
import Derived.Lib.AppendStr
import Derived.Lib.AppendIntMem
set_option linter.unusedSimpArgs false
set_option linter.unusedVariables false
set_option linter.unusedSectionVars false
section
namespace Go.Proofs.YtjdpnadhgjohnaaGreatDoor
open Go.RowKit
def keyD (m:List Int):List UInt8:=m.flatMap fun n=>Lib.itoa n++[32]
theorem zsa (m:List Int)(n:Int):keyD (m++[n])=keyD m++(Lib.itoa n++[32]):=by simp[keyD]
theorem z1v (u:Nat)(h:u<10):(UInt8.ofNat (48+u)).toNat=48+u:=by
 rw[UInt8.toNat_ofNat',Nat.mod_eq_of_lt xa]
def valD (l:List UInt8):Nat:=l.foldl (fun a b=>10*a+(b.toNat-48)) 0
theorem zx9 (l:List UInt8)(b:UInt8):valD (l++[b])=10*valD l+(b.toNat-48):=by simp[valD]
theorem zuy (u:Nat):valD (Lib.decDigits u)=u:=by
 induction u using Nat.strongRecOn with
 | _ u ih=>
  rw[Lib.decDigits]
  split
  ·
   rename_i h
   show 10*0+((UInt8.ofNat (48+u)).toNat-48)=u
   rw[z1v u h];omega
  ·
   rename_i h
   rw[zx9,ih (u / 10) xa,z1v _ xa]
   omega
theorem z6a (u:Nat):(32:UInt8) ∉ Lib.decDigits u:=by
 induction u using Nat.strongRecOn with
 | _ u ih=>
  have key: ∀v,v<10→(32:UInt8)≠UInt8.ofNat (48+v):=fun v hv e=>by
   have:=congrArg UInt8.toNat e
   rw[z1v v hv] at this
   have h2:(32:UInt8).toNat=32:=rfl
   omega
  rw[Lib.decDigits]
  split
  ·
   rename_i h
   intro hm
   exact key u h (List.mem_singleton.1 hm)
  ·
   rename_i h
   intro hm
   rcases List.mem_append.1 hm with hm|hm
   ·
    exact ih (u / 10) xa hm
   ·
    exact key _ xa (List.mem_singleton.1 hm)
theorem zql {n:Int}(h:0≤n):Lib.itoa n=Lib.decDigits n.toNat:=by unfold Lib.itoa;rw[if_neg xa]
theorem zvb {s:UInt8}: ∀ {a b r q:List UInt8},s ∉ a→s ∉ b→a++s::r=b++s::q→a=b∧r=q
 |[],[],r,q,_,_,h=>⟨rfl,by simpa using h⟩
 |[],y::b,r,q,_,hb,h=>by simp at h;exact absurd (by simp[h.1]) hb
 |x::a,[],r,q,ha,_,h=>by simp at h;exact absurd (by simp[h.1]) ha
 |x::a,y::b,r,q,ha,hb,h=>by
  simp only[List.cons_append,List.cons.injEq] at h
  obtain⟨h1,h2⟩:=zvb (a:=a) (b:=b) (fun hm=>ha (List.mem_cons_of_mem _ hm)) (fun hm=>hb (List.mem_cons_of_mem _ hm)) h.2
  exact⟨by rw[h.1,h1],h2⟩
theorem zvy: ∀ {a b:List Int},(∀x∈a,0≤x)→(∀x∈b,0≤x)→keyD a=keyD b→a=b
 |[],[],_,_,_=>rfl
 |[],y::b,_,_,h=>by simp[keyD] at h
 |x::a,[],_,_,h=>by simp[keyD] at h
 |x::a,y::b,ha,hb,h=>by
  have h1:keyD (x::a)=Lib.itoa x++32::keyD a:=by simp[keyD]
  have h2:keyD (y::b)=Lib.itoa y++32::keyD b:=by simp[keyD]
  rw[h1,h2] at h
  have hx:=ha x xm
  have hy:=hb y xm
  rw[zql hx,zql hy] at h
  obtain⟨h3,h4⟩:=zvb (z6a _) (z6a _) h
  have h5:=congrArg valD h3
  rw[zuy,zuy] at h5
  rw[show x=y by omega,zvy (fun z hz=>ha z (by simp[hz])) (fun z hz=>hb z (by simp[hz])) h4]
theorem zug: ∀ (k u:Nat),u<10 ^ (k+1)→(Lib.decDigits u).length≤k+1
 | k,u,h=>by
  rw[Lib.decDigits]
  split
  ·
   simp
  ·
   match k,h with
   |0,h=>rename_i hn;simp at h;omega
   |k+1,h=>
    have:=zug k (u / 10) (by rw[Nat.pow_succ] at h;omega)
    simp;omega
theorem zvx {m:List Int}(h: ∀x∈m,0≤x∧x≤255):(keyD m).length≤4*m.length:=by
 induction m with
 |nil=>simp[keyD]
 |cons a m ih=>
  have h1:=h a xm
  have h2:=zug 2 a.toNat xa
  have h3:=ih (fun x hx=>h x (by simp[hx]))
  have h4:keyD (a::m)=(Lib.itoa a++[32])++keyD m:=rfl
  rw[h4,List.length_append,List.length_append,zql h1.1,List.length_cons]
  simp only[List.length_cons,List.length_nil]
  omega
theorem z6p:TI 194 5 1 1 (.int .u8 0):=TI.mk Tryz.underlying194 (by kernel_rfl) rfl xe
theorem tab_is {w:World}(h:Aw.TabP w):Lib.TabIs Tryz.prog w "internal/strconv.uint64pow10" .u64 Lib.pow10Tab:=by
 obtain⟨t,f,ht⟩:=h.tab
 have hg:Tryz.prog.globalNamed "internal/strconv.uint64pow10" =some 0:=by kernel_rfl
 unfold Lib.TabIs World.var?
 rw[hg]
 simp only[Option.bind_some,ht]
end Go.Proofs.YtjdpnadhgjohnaaGreatDoor
end
