import Derived.Test.YtjdpnadhgjohnaaGreatDoorJN0
import Derived.Test.YtjdpnadhgjohnaaGreatDoorJN18
import Derived.Test.YtjdpnadhgjohnaaGreatDoorJN19
import Derived.Test.YtjdpnadhgjohnaaGreatDoorJN17
import Derived.Test.YtjdpnadhgjohnaaGreatDoorJN16
set_option linter.unusedSimpArgs false
set_option linter.unusedVariables false
set_option linter.unusedSectionVars false
namespace Go.Proofs.YtjdpnadhgjohnaaGreatDoor
namespace Aw
open Go.RowKit
abbrev ER:=AV × Sto × Kd
inductive OpOk (P:Program)(o:Oper)(F:Frm)(s:Sto):ER→Prop
 |free (x:AV) (h: ∀σ,Does P o F σ x σ):OpOk P o F s (x,s, .free)
 |look (x:AV) (R:List Nat) (h: ∀σ2,(∀id∈R,σ2[id]?=s.abs[id]?)→Does P o F σ2 x σ2):OpOk P o F s (x,s, .look R)
 |eff (x:AV) (s1:Sto) (W:List Nat) (h:Does P o F s.abs x s1.abs) (hW: ∀id,id ∉ W→s1.abs[id]?=s.abs[id]?):OpOk P o F s (x,s1, .eff W)
theorem OpOk.does {P:Program}{o:Oper}{F:Frm}{s s':Sto}{x:AV}{k:Kd}(h:OpOk P o F s (x,s',k)):Does P o F s.abs x s'.abs:=by
 cases h with
 |free _ h=>exact h s.abs
 |look _ R h=>exact h s.abs (fun _ _=>rfl)
 |eff _ _ _ h=>exact h
def zpt (P:Program)(t:TypeId):Bool:=match P.underlying t with|some .bool=>true|_=>false
theorem z15 {P:Program}{t:TypeId}(h:zpt P t=true):P.underlying t=some .bool:=by
 unfold zpt at h
 split at h
 ·
  assumption
 ·
  cases h
theorem eqb_of {k k':IntKind}(h:decide (k=k')=true):k=k':=of_decide_eq_true h
def z0n (b:BinOp)(k:IntKind)(m n:Int):Option Value:=match b with
 | .add=>some (.int k (k.wrap (m+n)))
 | .sub=>some (.int k (k.wrap (m-n)))
 | .mul=>some (.int k (k.wrap (m*n)))
 | .quo=>bif decide (n=0) then none else some (.int k (k.wrap (m.tdiv n)))
 | .rem=>bif decide (n=0) then none else some (.int k (m.tmod n))
 | .lss=>some (.bool (decide (m<n)))
 | .leq=>some (.bool (decide (m≤n)))
 | .gtr=>some (.bool (decide (n<m)))
 | .geq=>some (.bool (decide (n≤m)))
 | .eql=>some (.bool (decide (m=n)))
 | .neq=>some (.bool (decide (m≠n)))
 | .and=>some (.int k (zoy .and k m n))
 | .or=>some (.int k (zoy .or k m n))
 | .xor=>some (.int k (zoy .xor k m n))
 | .andNot=>some (.int k (zoy .andNot k m n))
 |_=>none
def zyl (b:BinOp)(a c:ByteArray):Option Value:=match b with
 | .eql=>some (.bool (decide (a=c)))
 | .neq=>some (.bool (decide (a≠c)))
 | .lss=>some (.bool (Op.bytesLess a.toList c.toList))
 | .gtr=>some (.bool (!(Op.bytesLess a.toList c.toList||decide (a=c))))
 |_=>none
def veq:List Value→List Value→Option Bool
 |[],[]=>some true
 | .int _ m::us, .int _ n::vs=>match veq us vs with|some b=>some (decide (m=n) && b)|none=>none
 | .bool m::us, .bool n::vs=>match veq us vs with|some b=>some ((m==n) && b)|none=>none
 | .string m::us, .string n::vs=>match veq us vs with|some b=>some (decide (m=n) && b)|none=>none
 |_,_=>none
theorem zx8: ∀ {ks:List SK} {us vs:List Value} {b:Bool},vKs ks us vs=true→veq us vs=some b→(b=true↔us=vs)
 |[],[],[],b,_,h=>by simp[veq] at h;simp[←h]
 |[],[],_::_,b,hv,h=>by simp[vKs] at hv
 |[],_::_,_,b,hv,h=>by simp[vKs] at hv
 |_::_,[],_,b,hv,h=>by simp[vKs] at hv
 |_::_,_::_,[],b,hv,h=>by simp[vKs] at hv
 | k::ks,u::us,v::vs,b,hv,h=>by
  simp only[vKs,Bool.and_eq_true] at hv
  cases hr:veq us vs with
  |none=>cases u<;>cases v<;>simp[veq,hr] at h
  |some c=>
   have ih:=zx8 hv.2 hr
   have h1:=hv.1
   cases u<;>cases v<;>simp only[veq,hr,Option.some.injEq,reduceCtorEq] at h<;>subst h<;>cases k<;>simp_all[vK]
def binA (P:Program)(b:BinOp)(t:TypeId)(cs ds:List AV):Option Value:=match zyd P t with
 |none=>none
 | some ks=>bif vKs ks (cs.map unS) (ds.map unS) && cs.all isS && ds.all isS then
   match veq (cs.map unS) (ds.map unS),b with
   |some r, .eql=>some (.bool r)
   |some r, .neq=>some (.bool (!r))
   |_,_=>none
  else none
def zqf:AV→Bool
 | .own _ _ n=>Nat.blt 0 n
 | .sub _ _ _ n=>Nat.blt 0 n
 | .sl (_::_)=>true
 |_=>false
theorem zpb {u:AV}(h:zqf u=true):NonNil u:=by
 unfold zqf at h
 split at h
 ·
  exact .own _ _ _ (by simpa[Nat.blt_eq] using h)
 ·
  exact .sub _ _ _ _ (by simpa[Nat.blt_eq] using h)
 ·
  exact .sl _ _
 ·
  cases h
def z8m (P:Program)(b:BinOp)(t:TypeId):AV→AV→Option Value
 | .s (.int k m), .s (.int k' n)=>match b with
  | .shr=>bif decide (0≤n) then some (.int k (m.fdiv (2 ^ min n.toNat k.bits))) else none
  | .shl=>bif decide (0≤n) then some (.int k (k.wrap (m*2 ^ min n.toNat k.bits))) else none
  |_=>bif decide (k=k') then z0n b k m n else none
 | .s (.string a), .s (.string c)=>zyl b a c
 | .s (.bool a), .s (.bool c)=>match b with
  | .eql=>bif zpt P t then some (.bool (a==c)) else none
  | .neq=>bif zpt P t then some (.bool (!(a==c))) else none
  |_=>none
 | .agg cs, .agg ds=>binA P b t cs ds
 | .s (.slice none 0 0), .s (.slice none 0 0)=>bif (za5 P t).isSome then match b with
   | .eql=>some (.bool true)
   | .neq=>some (.bool false)
   |_=>none
  else none
 | u, .s (.slice none 0 0)=>bif (za5 P t).isSome && zqf u then match b with
   | .eql=>some (.bool false)
   | .neq=>some (.bool true)
   |_=>none
  else none
 |_,_=>none
section
variable {P:Program}{o:Oper}{F:Frm}{σ:List Ob}
theorem z0m {b:BinOp}{t t':TypeId}{x y:Operand}{k:IntKind}{m n:Int}{v:Value}(ho:o.op= .binOp b t x y t')(hx:F.eval x= .s (.int k m))(hy:F.eval y= .s (.int k n))(h:z0n b k m n=some v):Does P o F σ (.s v) σ:=by
 unfold z0n at h
 split at h
 ·
  cases h;exact za2 ho hx hy rfl
 ·
  cases h;exact zcb ho hx hy rfl
 ·
  cases h;exact ze3 ho hx hy rfl
 ·
  cases hn:decide (n=0) with
  |true=>rw[hn] at h;cases h
  |false=>rw[hn] at h;cases h;exact zmi ho hx hy (of_decide_eq_false hn) rfl
 ·
  cases hn:decide (n=0) with
  |true=>rw[hn] at h;cases h
  |false=>rw[hn] at h;cases h;exact zmh ho hx hy (of_decide_eq_false hn) rfl
 ·
  cases h;exact za0 ho hx hy
 ·
  cases h;exact zc8 ho hx hy
 ·
  cases h;exact zay ho hx hy
 ·
  cases h;exact zc9 ho hx hy
 ·
  cases h;exact zb2 ho hx hy
 ·
  cases h;exact zbv ho hx hy
 ·
  cases h;exact zf6 ho (.inl rfl) hx hy rfl
 ·
  cases h;exact zf6 ho (.inr (.inl rfl)) hx hy rfl
 ·
  cases h;exact zf6 ho (.inr (.inr (.inl rfl))) hx hy rfl
 ·
  cases h;exact zf6 ho (.inr (.inr (.inr rfl))) hx hy rfl
 ·
  cases h
theorem zyk {b:BinOp}{t t':TypeId}{x y:Operand}{a c:ByteArray}{v:Value}(ho:o.op= .binOp b t x y t')(hx:F.eval x= .s (.string a))(hy:F.eval y= .s (.string c))(h:zyl b a c=some v):Does P o F σ (.s v) σ:=by
 unfold zyl at h
 split at h
 ·
  cases h;exact zkp ho hx hy
 ·
  cases h;exact zv9 ho hx hy
 ·
  cases h;exact zwb ho hx hy
 ·
  cases h;exact z4q ho hx hy
 ·
  cases h
theorem z80 {b:BinOp}{t t':TypeId}{x y:Operand}{cs ds:List AV}{v:Value}(ho:o.op= .binOp b t x y t')(hx:F.eval x= .agg cs)(hy:F.eval y= .agg ds)(h:binA P b t cs ds=some v):Does P o F σ (.s v) σ:=by
 unfold binA at h
 split at h
 ·
  cases h
 ·
  rename_i ks hk
  cases hc:(vKs ks (cs.map unS) (ds.map unS) && cs.all isS && ds.all isS) with
  |false=>rw[hc] at h;cases h
  | true=>
   rw[hc,cond_true] at h
   simp only[Bool.and_eq_true] at hc
   obtain⟨⟨h1,h2⟩,h3⟩:=hc
   split at h
   ·
    rename_i r hr
    cases h
    have h4:=zx8 h1 hr
    have:=z4r (P:=P) (F:=F) (σ:=σ) ho hx hy hk h1 h2 h3
    have e: @decide (cs.map unS=ds.map unS) (Classical.propDecidable _)=r:=by
     rw[Bool.eq_iff_iff,h4];simp
    rwa [e] at this
   ·
    rename_i r hr
    cases h
    have h4:=zx8 h1 hr
    have:=z4n (P:=P) (F:=F) (σ:=σ) ho hx hy hk h1 h2 h3
    have e: @decide (cs.map unS≠ds.map unS) (Classical.propDecidable _)=!r:=by
     rw[Bool.eq_iff_iff]
     cases r with
     |true=>have:=h4.1 J;simp[this]
     |false=>simp;intro h5;have:=h4.2 h5;cases this
    rwa [e] at this
   ·
    cases h
theorem z4j {b:BinOp}{t t':TypeId}{x y:Operand}{v:Value}(ho:o.op= .binOp b t x y t')(h:z8m P b t (F.eval x) (F.eval y)=some v):Does P o F σ (.s v) σ:=by
 generalize hx:F.eval x=u at h
 generalize hy:F.eval y=w at h
 unfold z8m at h
 split at h
 ·
  rename_i k m k' n
  split at h
  ·
   cases hk:decide (0≤n) with
   |false=>rw[hk] at h;cases h
   |true=>rw[hk] at h;cases h;exact zfc ho hx hy (of_decide_eq_true hk) (.inl ⟨rfl,rfl⟩)
  ·
   cases hk:decide (0≤n) with
   |false=>rw[hk] at h;cases h
   |true=>rw[hk] at h;cases h;exact zfc ho hx hy (of_decide_eq_true hk) (.inr ⟨rfl,rfl⟩)
  ·
   cases hk:decide (k=k') with
   |false=>rw[hk] at h;cases h
   |true=>
    rw[hk,cond_true] at h
    obtain rfl:=eqb_of hk
    exact z0m ho hx hy h
 ·
  exact zyk ho hx hy h
 ·
  split at h
  ·
   rename_i a c
   cases hk:zpt P t with
   |false=>rw[hk] at h;cases h
   |true=>rw[hk] at h;cases h;exact z1t (z15 hk) ho hx hy
  ·
   rename_i a c
   cases hk:zpt P t with
   |false=>rw[hk] at h;cases h
   |true=>rw[hk] at h;cases h;exact z1q (z15 hk) ho hx hy
  ·
   cases h
 ·
  exact z80 ho hx hy h
 ·
  cases ht:za5 P t with
  |none=>rw[ht] at h;cases h
  | some e=>
   rw[ht,Option.isSome_some,cond_true] at h
   split at h
   ·
    cases h;exact zn8 ho ht hx hy (.inl ⟨rfl,rfl⟩)
   ·
    cases h;exact zn8 ho ht hx hy (.inr ⟨rfl,rfl⟩)
   ·
    cases h
 ·
  cases ht:za5 P t with
  |none=>rw[ht] at h;cases h
  | some e=>
   rw[ht,Option.isSome_some,Bool.true_and] at h
   generalize hb:zqf u=q at h
   cases q with
   |false=>cases h
   | true=>
    rw[cond_true] at h
    split at h
    ·
     cases h;exact zpx ho ht hx (zpb hb) hy (.inl ⟨rfl,rfl⟩)
    ·
     cases h;exact zpx ho ht hx (zpb hb) hy (.inr ⟨rfl,rfl⟩)
    ·
     cases h
 ·
  cases h
end
def evUn (b:UnOp):AV→Option Value
 | .s (.bool c)=>match b with| .not=>some (.bool (!c))|_=>none
 | .s (.int k n)=>match b with| .neg=>some (.int k (k.wrap (0-n)))|_=>none
 |_=>none
def z1g (P:Program)(t t':TypeId):AV→Option Value
 | .s (.int k n)=>match zrm P t' with
  |some k'=>bif (P.underlying t).isSome then some (.int k' (k'.wrap n)) else none
  |none=>none
 |_=>none
def zjp (P:Program)(t:TypeId)(f:Nat)(x:AV):Option AV:=match zbx P t f with
 |some (off,_,some n)=>bif Nat.beq n 0 then none else match x with
  | .ptr id sz k j=>some (.ptr id sz k (j+off))
  | .ref cs=>some (.ref (cs.drop off))
  |_=>none
 |_=>none
def zt6 (P:Program)(t:TypeId)(f:Nat):AV→Option AV
 | .agg cs=>match zbx P t f with
  | some (off,ft,n)=>match zcw P ft with
   |some false=>cs[off]?
   |some true=>match n,za6 P ft with
    |some n,some (_,n',_)=>bif Nat.beq n n' then some (.agg ((cs.drop off).take n)) else none
    |_,_=>none
   |none=>none
  |none=>none
 |_=>none
def zlb (P:Program)(t:TypeId):AV→AV→Option Value
 | .s (.string b), .s (.int _ (.ofNat k))=>bif zff P t then match b[k]? with
   |some u=>some (.int .u8 (u.toNat:Nat))
   |none=>none
  else none
 |_,_=>none
def z8i:AV→Option AV
 | .ptr id sz k j=>some (.ptr id sz k j)
 | .ref cs=>some (.ref cs)
 | .fn f cs=>some (.fn f cs)
 |_=>none
def zjo (P:Program)(t:TypeId):AV→AV→Option AV
 | .sl l, .s (.int _ (.ofNat k))=>match za5 P t with
  |none=>none
  |some e=>match za6 P e,l[k]? with
   |some (_,sz,_),some u=>bif Nat.beq u.cells.length sz then some (.ref u.cells) else none
   |_,_=>none
 | .own id sz m, .s (.int _ (.ofNat k))=>match za5 P t with
  |none=>none
  |some e=>match za6 P e with
   |some (_,sz',_)=>bif Nat.beq sz sz' && Nat.blt k m then some (.ptr id sz k 0) else none
   |none=>none
 | .sub id sz q m, .s (.int _ (.ofNat k))=>match za5 P t with
  |none=>none
  |some e=>match za6 P e with
   |some (_,sz',_)=>bif Nat.beq sz sz' && Nat.blt k m then some (.ptr id sz (q+k) 0) else none
   |none=>none
 | .ptr id s k j, .s (.int _ (.ofNat i))=>match zp3 P t with
  |none=>none
  |some (m,e)=>match za6 P e with
   |some (_,sz,_)=>bif Nat.blt i m then some (.ptr id s k (j+i*sz)) else none
   |none=>none
 | .ref cs, .s (.int _ (.ofNat i))=>match zp3 P t with
  |none=>none
  |some (m,e)=>match za6 P e with
   |some (_,sz,_)=>bif Nat.blt i m then some (.ref (cs.drop (i*sz))) else none
   |none=>none
 |_,_=>none
def znz (i:Nat):AV→Option AV
 | .tup l=>l[i]?
 |_=>none
def z10 (sz k:Nat):Option Ob→Option (List AV)
 |none=>none
 | some ob=>match ze6 ob with
  |none=>none
  | some (sz',cs)=>bif Nat.beq sz' sz then match cs[k]? with
    |some e=>some e.cells
    |none=>none
   else none
theorem zkt {sz k:Nat}{l:List AV}{x:Option Ob}(h:z10 sz k x=some l): ∃ob cs e,x=some ob∧ze6 ob=some (sz,cs)∧cs[k]?=some e∧e.cells=l:=by
 unfold z10 at h
 split at h
 ·
  cases h
 ·
  rename_i ob
  split at h
  ·
   cases h
  ·
   rename_i sz' cs hr
   cases hb:Nat.beq sz' sz with
   |false=>rw[hb] at h;cases h
   | true=>
    rw[hb,cond_true] at h
    obtain rfl:=Nat.eq_of_beq_eq_true hb
    split at h
    ·
     rename_i e he
     cases h
     exact⟨ob,cs,e,rfl,hr,he,rfl⟩
    ·
     cases h
def zia (s:Sto)(id sz k:Nat):Option (List AV):=z10 sz k (s.get id)
def z1a (P:Program)(t:TypeId)(σ:Sto)(x:AV):Option ER:=match zcw P t with
 |none=>none
 | some false=>match x with
  | .ref (c::_)=>some (c,σ, .free)
  | .ptr id sz k j=>match zia σ id sz k with
   |none=>none
   |some l=>match l[j]? with
    |some c=>some (c,σ, .look [id])
    |none=>none
  |_=>none
 | some true=>match za6 P t with
  |none=>none
  | some (_,n,_)=>match x with
   | .ref cs=>bif Nat.ble n cs.length then some (.agg (cs.take n),σ, .free) else none
   | .ptr id sz k j=>match zia σ id sz k with
    |none=>none
    |some l=>bif Nat.ble (j+n) l.length then some (.agg ((l.drop j).take n),σ, .look [id]) else none
   |_=>none
def zt4 (P:Program)(t:TypeId)(σ:Sto)(p x:AV):Option ER:=match p with
 | .ptr id sz k j=>match za6 P t,σ.get id with
  |some (_,n,_),some (.row sz' cs)=>match cs[k]? with
   |some e=>bif Nat.beq sz' sz && x.cells.all AV.one && Nat.beq x.cells.length n && Nat.blt 0 n && Nat.ble (j+n) sz then some (.any,σ.set id (.row sz (cs.set k (putC e j x.cells))), .eff [id]) else none
   |none=>none
  |_,_=>none
 |_=>none
def zt8 (P:Program)(e:TypeId)(σ:Sto):Option ER:=match za6 P e with
 |some (some z,n,_)=>bif (ofValue z).cells.all AV.one && Nat.beq (ofValue z).cells.length n then some (.ptr σ.len n 0 0,σ.push (.row n [ofValue z]), .eff [σ.len]) else none
 |_=>none
def z8l (σ:Sto)(x:AV):Option ER:=bif x.cells.all AV.one then some (.ptr σ.len x.cells.length 0 0,σ.push (.row x.cells.length [x]), .eff [σ.len]) else none
def zt7 (P:Program)(t:TypeId)(parts:List (Nat × AV)):Option AV:=match za6 P t,zei P t with
 | some (some z,_,_),some pl=>bif (ofValue z).cells.all AV.one then match ziy (pl[·]?) (ofValue z).cells parts with
   |some cs=>some (.agg cs)
   |none=>none
  else none
 | some (some z,_,_),none=>match zp3 P t with
  |none=>none
  | some (_,e)=>match za6 P e with
   |none=>none
   | some (_,sz,_)=>bif (ofValue z).cells.all AV.one then match ziy (fun i=>some (i*sz,sz)) (ofValue z).cells parts with
     |some cs=>some (.agg cs)
     |none=>none
    else none
 |_,_=>none
def z8j (P:Program)(t:TypeId)(len:Nat)(parts:List (Nat × AV))(σ:Sto):Option ER:=match za5 P t with
 |none=>none
 | some e=>match za6 P e with
  | some (some z,n,_)=>bif Nat.beq len 0 then bif parts.isEmpty then some (.emp,σ, .free) else none
   else bif (ofValue z).cells.all AV.one && Nat.beq (ofValue z).cells.length n && Nat.blt 0 n && Nat.ble (len*n) 16777216 then match ziy (fun i=>some (i*n,n)) (zgs z (len*n)) parts with
    |some cs=>bif Nat.beq cs.length (len*n) then some (.own σ.len n len,σ.push (.row n (zf7 n len cs)), .eff [σ.len]) else none
    |none=>none
   else none
  |_=>none
def z1c (P:Program)(t:TypeId)(len:Nat)(parts:List (Nat × AV))(σ:Sto):Option ER:=match za5 P t with
 |none=>none
 | some e=>match za6 P e with
  | some (some z,n,_)=>bif (ofValue z).cells.all AV.one && Nat.beq (ofValue z).cells.length n && Nat.blt 0 n && Nat.blt 0 len && Nat.ble (len*n) 16777216 then match ziy (fun i=>some (i*n,n)) (zgs z (len*n)) parts with
    |some cs=>bif Nat.beq cs.length (len*n) then some (.sl (zf7 n len cs),σ, .free) else none
    |none=>none
   else none
  |_=>none
def z08 (P:Program)(t:TypeId)(σ:Sto):AV→AV→Option ER
 | .s (.int _ (.ofNat l)), .s (.int _ (.ofNat c))=>match za5 P t with
  |none=>none
  |some e=>match za6 P e with
   |some (some z,n,bt)=>bif (ofValue z).cells.all AV.one && Nat.beq (ofValue z).cells.length n && Nat.blt 0 n && Nat.ble l c && Nat.ble (bt*c) 281474976710656 && Nat.ble c 9223372036854775807 then some (.own σ.len n l,σ.push (.row n (List.replicate l (ofValue z))), .eff [σ.len]) else none
   |_=>none
 |_,_=>none
def z8k (P:Program)(t:TypeId):AV→Option Value
 | .sl l=>bif (za5 P t).isSome then some (.int .i64 (l.length:Nat)) else none
 | .own _ _ n=>bif (za5 P t).isSome then some (.int .i64 (n:Nat)) else none
 | .sub _ _ _ n=>bif (za5 P t).isSome then some (.int .i64 (n:Nat)) else none
 | .emp=>bif (za5 P t).isSome then some (.int .i64 0) else none
 | .s (.slice _ n _)=>bif (za5 P t).isSome then some (.int .i64 (n:Nat)) else none
 | .s (.string b)=>bif zff P t then some (.int .i64 (b.size:Nat)) else none
 |_=>none
def z22 (σ:Sto)(sz:Nat):AV→Option (List AV)
 | .sl l=>bif l.all (fun e=>Nat.beq e.cells.length sz) then some l else none
 | .emp=>some []
 | .s (.slice none 0 0)=>some []
 | .own id sz' n=>match σ.get id with
  |none=>none
  |some ob=>match ze6 ob with
   |some (sz2,cs)=>bif Nat.beq sz' sz && Nat.beq sz2 sz && Nat.ble n cs.length then some (cs.take n) else none
   |none=>none
 | .sub id sz' i n=>match σ.get id with
  |none=>none
  |some ob=>match ze6 ob with
   |some (sz2,cs)=>bif Nat.beq sz' sz && Nat.beq sz2 sz && Nat.ble (i+n) cs.length then some ((cs.drop i).take n) else none
   |none=>none
 |_=>none
theorem zva {σ:Sto}{sz:Nat}{x:AV}{l:List AV}(h:z22 σ sz x=some l):Src σ.abs sz x l:=by
 unfold z22 at h
 split at h
 ·
  rename_i l'
  cases hb:l'.all (fun e=>Nat.beq e.cells.length sz) with
  |false=>rw[hb] at h;cases h
  |true=>
   rw[hb] at h;cases h
   exact .sl l (fun e he=>Nat.eq_of_beq_eq_true (List.all_eq_true.1 hb e he))
 ·
  cases h;exact .emp
 ·
  cases h;exact .nil
 ·
  rename_i id sz' n
  split at h
  ·
   cases h
  ·
   rename_i ob hob
   split at h
   ·
    rename_i sz2 cs hr
    cases hb:(Nat.beq sz' sz && Nat.beq sz2 sz && Nat.ble n cs.length) with
    |false=>rw[hb] at h;cases h
    |true=>
     rw[hb] at h;cases h
     simp only[Bool.and_eq_true] at hb
     obtain⟨⟨h1,h2⟩,h3⟩:=hb
     obtain rfl:=Nat.eq_of_beq_eq_true h1
     obtain rfl:=Nat.eq_of_beq_eq_true h2
     exact .pre id ob cs (by rw[←Sto.get_abs];exact hob) hr n (Nat.le_of_ble_eq_true h3)
   ·
    cases h
 ·
  rename_i id sz' i n
  split at h
  ·
   cases h
  ·
   rename_i ob hob
   split at h
   ·
    rename_i sz2 cs hr
    cases hb:(Nat.beq sz' sz && Nat.beq sz2 sz && Nat.ble (i+n) cs.length) with
    |false=>rw[hb] at h;cases h
    |true=>
     rw[hb] at h;cases h
     simp only[Bool.and_eq_true] at hb
     obtain⟨⟨h1,h2⟩,h3⟩:=hb
     obtain rfl:=Nat.eq_of_beq_eq_true h1
     obtain rfl:=Nat.eq_of_beq_eq_true h2
     exact .sub id ob cs (by rw[←Sto.get_abs];exact hob) hr i n (Nat.le_of_ble_eq_true h3)
   ·
    cases h
 ·
  cases h
def zme (b:Builtin):AV→AV→Option Value
 | .s (.int k m), .s (.int _ n)=>match b with
  | .max=>some (.int k (if m<n then n else m))
  | .min=>some (.int k (if n<m then n else m))
  |_=>none
 |_,_=>none
def z8p (sz:Nat):AV→Option (Nat × Nat × Nat)
 | .own id sz' n=>bif Nat.beq sz' sz then some (id,0,n) else none
 | .sub id sz' k n=>bif Nat.beq sz' sz then some (id,k,n) else none
 |_=>none
theorem z4m {sz id k n:Nat}{x:AV}(h:z8p sz x=some (id,k,n)):Dst id sz k n x:=by
 unfold z8p at h
 split at h
 ·
  rename_i i s m
  cases hb:Nat.beq s sz with
  |false=>rw[hb] at h;cases h
  |true=>rw[hb] at h;cases h;rw[Nat.eq_of_beq_eq_true hb];exact .own rfl
 ·
  rename_i i s j m
  cases hb:Nat.beq s sz with
  |false=>rw[hb] at h;cases h
  |true=>rw[hb] at h;cases h;rw[Nat.eq_of_beq_eq_true hb];exact .sub
 ·
  cases h
def z1e (P:Program)(t:TypeId)(σ:Sto)(x y:AV):Option ER:=match za5 P t with
 |none=>none
 | some e=>match za6 P e with
  | some (_,sz,_)=>bif Nat.blt 0 sz then match z22 σ sz y,z8p sz x with
    |some l,some (id,k,n)=>match σ.get id with
     |some (.row sz2 cs)=>bif Nat.beq sz2 sz && Nat.ble (k+n) cs.length then some (.s (.int .i64 (Nat.min l.length n:Nat)),σ.set id (.row sz (laid cs k (l.take n))), .eff [id]) else none
     |_=>none
    |_,_=>none
   else none
  |none=>none
def zmf (P:Program)(t:TypeId)(σ:Sto)(x y:AV):Option ER:=match za5 P t with
 |none=>none
 | some e=>match za6 P e with
  | some (some z,sz,bt)=>bif Nat.beq z.cells.size sz && Nat.blt 0 sz then match z22 σ sz y with
    |none=>none
    | some l=>match x with
     | .own id sz' n=>match σ.get id with
      | some (.row sz2 cs)=>bif Nat.beq sz' sz && Nat.beq sz2 sz && Nat.beq n cs.length && Nat.ble (cs.length+l.length) maxLen && Nat.ble ((cs.length+l.length)*bt) 140737488355328 then
        some (.own σ.len sz (cs.length+l.length),(σ.set id .dead).push (.row sz (cs++l)), .eff [id,σ.len]) else none
      |_=>none
     | .emp=>bif Nat.ble l.length maxLen && Nat.ble (l.length*bt) 140737488355328 then some (.own σ.len sz l.length,σ.push (.row sz l), .eff [σ.len]) else none
     | .s (.slice none 0 0)=>bif Nat.ble l.length maxLen && Nat.ble (l.length*bt) 140737488355328 then some (.own σ.len sz l.length,σ.push (.row sz l), .eff [σ.len]) else none
     |_=>none
   else none
  |_=>none
end Aw
namespace Aw
open Go.RowKit
section
variable {P:Program}{o:Oper}{F:Frm}{σ:List Ob}{s:Sto}
theorem z8g {b:UnOp}{t:TypeId}{x:Operand}{v:Value}(ho:o.op= .unOp b t x)(h:evUn b (F.eval x)=some v):Does P o F σ (.s v) σ:=by
 generalize hx:F.eval x=u at h
 unfold evUn at h
 split at h
 ·
  split at h
  ·
   cases h;exact zbs ho hx
  ·
   cases h
 ·
  split at h
  ·
   cases h;exact zwa ho hx rfl
  ·
   cases h
 ·
  cases h
theorem z1f {t t':TypeId}{x:Operand}{v:Value}(ho:o.op= .convert t t' x)(h:z1g P t t' (F.eval x)=some v):Does P o F σ (.s v) σ:=by
 generalize hx:F.eval x=u at h
 unfold z1g at h
 split at h
 ·
  split at h
  ·
   rename_i k' hk
   cases hb:(P.underlying t).isSome with
   |false=>rw[hb] at h;cases h
   |true=>rw[hb] at h;cases h;exact ze4 ho hb hk hx rfl
  ·
   cases h
 ·
  cases h
theorem zos {t:TypeId}{x:Operand}{f:Nat}{v:AV}(ho:o.op= .fieldAddr t x f)(h:zjp P t f (F.eval x)=some v):Does P o F σ v σ:=by
 generalize hx:F.eval x=u at h
 unfold zjp at h
 split at h
 ·
  rename_i off ft n hf
  cases hb:Nat.beq n 0 with
  |true=>rw[hb] at h;cases h
  | false=>
   have hn:n≠0:=by intro e;subst e;cases hb
   rw[hb,cond_false] at h
   split at h
   ·
    cases h;exact zgh ho hf hn hx
   ·
    cases h;exact zgg ho hf hn hx
   ·
    cases h
 ·
  cases h
theorem zxn {t:TypeId}{x:Operand}{f:Nat}{v:AV}(ho:o.op= .field t x f)(h:zt6 P t f (F.eval x)=some v):Does P o F σ v σ:=by
 generalize hx:F.eval x=u at h
 unfold zt6 at h
 split at h
 ·
  split at h
  ·
   rename_i off ft n hf
   split at h
   ·
    rename_i ha;exact zxy ho hf ha hx h
   ·
    rename_i ha
    split at h
    ·
     rename_i m z n' bt hi
     cases hb:Nat.beq m n' with
     |false=>rw[hb] at h;cases h
     |true=>
      rw[hb] at h;cases h
      obtain rfl:=Nat.eq_of_beq_eq_true hb
      exact zud ho hf ha hi hx
    ·
     cases h
   ·
    cases h
  ·
   cases h
 ·
  cases h
theorem zqt {t:TypeId}{x y:Operand}{v:Value}(ho:o.op= .index t x y)(h:zlb P t (F.eval x) (F.eval y)=some v):Does P o F σ (.s v) σ:=by
 generalize hx:F.eval x=u at h
 generalize hy:F.eval y=w at h
 unfold zlb at h
 split at h
 ·
  cases hb:zff P t with
  |false=>rw[hb] at h;cases h
  | true=>
   rw[hb,cond_true] at h
   split at h
   ·
    rename_i k u hu
    cases h
    exact zja ho hb hx hy J hu
   ·
    cases h
 ·
  cases h
theorem z4f {x:Operand}{v:AV}(ho:o.op= .nilCheck x)(h:z8i (F.eval x)=some v):Does P o F σ v σ:=by
 generalize hx:F.eval x=u at h
 unfold z8i at h
 split at h
 ·
  cases h;exact zly ho hx
 ·
  cases h;exact zlx ho hx
 ·
  cases h;exact zn4 ho hx
 ·
  cases h
theorem zor {t:TypeId}{x y:Operand}{v:AV}(ho:o.op= .indexAddr t x y)(h:zjo P t (F.eval x) (F.eval y)=some v):Does P o F σ v σ:=by
 generalize hx:F.eval x=u at h
 generalize hy:F.eval y=w at h
 unfold zjo at h
 split at h
 ·
  split at h
  ·
   cases h
  ·
   rename_i e ht
   split at h
   ·
    rename_i z sz bt u hi hu
    cases hb:Nat.beq u.cells.length sz with
    |false=>rw[hb] at h;cases h
    |true=>rw[hb] at h;cases h;exact za1 ho ht hi hx hy rfl hu (Nat.eq_of_beq_eq_true hb)
   ·
    cases h
 ·
  rename_i id sz m kd k
  split at h
  ·
   cases h
  ·
   rename_i e ht
   split at h
   ·
    rename_i z sz' bt hi
    cases hb:(Nat.beq sz sz' && Nat.blt k m) with
    |false=>rw[hb] at h;cases h
    |true=>
     rw[hb] at h;cases h
     simp only[Bool.and_eq_true] at hb
     obtain rfl:=Nat.eq_of_beq_eq_true hb.1
     exact zal ho ht hi hx hy J (by simpa[Nat.blt_eq] using hb.2)
   ·
    cases h
 ·
  rename_i id sz q m kd k
  split at h
  ·
   cases h
  ·
   rename_i e ht
   split at h
   ·
    rename_i z sz' bt hi
    cases hb:(Nat.beq sz sz' && Nat.blt k m) with
    |false=>rw[hb] at h;cases h
    |true=>
     rw[hb] at h;cases h
     simp only[Bool.and_eq_true] at hb
     obtain rfl:=Nat.eq_of_beq_eq_true hb.1
     exact zou ho ht hi hx hy J (by simpa[Nat.blt_eq] using hb.2)
   ·
    cases h
 ·
  rename_i id s k j kd i
  split at h
  ·
   cases h
  ·
   rename_i m e ht
   split at h
   ·
    rename_i z sz bt hi
    cases hb:Nat.blt i m with
    |false=>rw[hb] at h;cases h
    |true=>rw[hb] at h;cases h;exact zn7 ho ht hi hx hy rfl (by simpa[Nat.blt_eq] using hb)
   ·
    cases h
 ·
  rename_i cs kd i
  split at h
  ·
   cases h
  ·
   rename_i m e ht
   split at h
   ·
    rename_i z sz bt hi
    cases hb:Nat.blt i m with
    |false=>rw[hb] at h;cases h
    |true=>rw[hb] at h;cases h;exact zn6 ho ht hi hx hy rfl (by simpa[Nat.blt_eq] using hb)
   ·
    cases h
 ·
  cases h
theorem zsk {x:Operand}{i:Nat}{v:AV}(ho:o.op= .extract x i)(h:znz i (F.eval x)=some v):Does P o F σ v σ:=by
 generalize hx:F.eval x=u at h
 unfold znz at h
 split at h
 ·
  exact zlz ho hx h
 ·
  cases h
theorem z09 {t:TypeId}{x:Operand}{r:ER}(ho:o.op= .load t x)(h:z1a P t s (F.eval x)=some r):OpOk P o F s r:=by
 generalize hx:F.eval x=u at h
 unfold z1a at h
 split at h
 ·
  cases h
 ·
  rename_i ha
  split at h
  ·
   cases h;exact .free _ (fun σ=>zkn ho ha hx)
  ·
   rename_i id sz k j
   split at h
   ·
    cases h
   ·
    rename_i l hl
    split at h
    ·
     rename_i c hc
     cases h
     refine .look _ _ (fun σ2 h2=>?_)
     unfold zia at hl
     rw[Sto.get_abs, ←h2 id xm] at hl
     obtain⟨ob,cs,e1,g1,g2,g3,g4⟩:=zkt hl
     exact zao ho ha hx g1 g2 g3 (by rw[g4];exact hc)
    ·
     cases h
  ·
   cases h
 ·
  rename_i ha
  split at h
  ·
   cases h
  ·
   rename_i z n bt hi
   split at h
   ·
    rename_i cs
    cases hb:Nat.ble n cs.length with
    |false=>rw[hb] at h;cases h
    |true=>rw[hb] at h;cases h;exact .free _ (fun σ=>zi8 ho ha hi hx (Nat.le_of_ble_eq_true hb))
   ·
    rename_i id sz k j
    split at h
    ·
     cases h
    ·
     rename_i l hl
     cases hb:Nat.ble (j+n) l.length with
     |false=>rw[hb] at h;cases h
     |true=>
      rw[hb] at h;cases h
      refine .look _ _ (fun σ2 h2=>?_)
      unfold zia at hl
      rw[Sto.get_abs, ←h2 id xm] at hl
      obtain⟨ob,cs,e1,g1,g2,g3,g4⟩:=zkt hl
      have:=zi9 (P:=P) (F:=F) (σ:=σ2) ho ha hi hx g1 g2 g3 (by rw[g4];exact Nat.le_of_ble_eq_true hb)
      rwa [g4] at this
   ·
    cases h
theorem zbo {σ:List Ob}{i id:Nat}{ob:Ob}(h:id ∉ [i]):(σ.set i ob)[id]?=σ[id]?:=by
 rw[List.getElem?_set_ne];intro e;exact h (by simp[e])
theorem zib {σ:List Ob}{id:Nat}{ob:Ob}(h:id ∉ [σ.length]):(σ++[ob])[id]?=σ[id]?:=by
 by_cases hl:id<σ.length
 ·
  rw[List.getElem?_append_left hl]
 ·
  have hne:id≠σ.length:=by simpa using h
  rw[List.getElem?_eq_none (by simp;omega),List.getElem?_eq_none xa]
theorem z1p {x:AV}{id:Nat}{ob:Ob}(h:Does P o F s.abs x (s.abs.set id ob)):OpOk P o F s (x,s.set id ob, .eff [id]):=
 .eff _ _ _ (by rw[Sto.set_abs];exact h) (fun i hi=>by rw[Sto.set_abs];exact zbo hi)
theorem ziv {x:AV}{ob:Ob}(h:Does P o F s.abs x (s.abs++[ob])):OpOk P o F s (x,s.push ob, .eff [s.len]):=
 .eff _ _ _ (by rw[Sto.push_abs];exact h) (fun i hi=>by rw[Sto.push_abs];exact zib (by rw[Sto.abs_len];exact hi))
theorem zo4 {id:Nat}{ob:Ob}(h:s.get id=some ob):s.abs[id]?=some ob:=(Sto.get_abs s id).symm.trans h
theorem zxm {t:TypeId}{p y:Operand}{r:ER}(ho:o.op= .store t p y)(h:zt4 P t s (F.eval p) (F.eval y)=some r):OpOk P o F s r:=by
 generalize hp:F.eval p=u at h
 unfold zt4 at h
 split at h
 ·
  rename_i id sz k j
  split at h
  ·
   rename_i z n bt sz' cs hi hs
   split at h
   ·
    rename_i e he
    generalize hb:(Nat.beq sz' sz && (F.eval y).cells.all AV.one && Nat.beq (F.eval y).cells.length n && Nat.blt 0 n && Nat.ble (j+n) sz)=b at h
    cases b with
    |false=>cases h
    |true=>
     cases h
     simp only[Bool.and_eq_true] at hb
     obtain⟨⟨⟨⟨h1,h2⟩,h3⟩,h4⟩,h5⟩:=hb
     obtain rfl:=Nat.eq_of_beq_eq_true h1
     exact z1p (zat ho hi hp J (zo4 hs) he h2 (Nat.eq_of_beq_eq_true h3) (by simpa[Nat.blt_eq] using h4) (Nat.le_of_ble_eq_true h5))
   ·
    cases h
  ·
   cases h
 ·
  cases h
theorem zxp {e:TypeId}{r:ER}(ho:o.op= .alloc e)(h:zt8 P e s=some r):OpOk P o F s r:=by
 unfold zt8 at h
 split at h
 ·
  rename_i z n bt hi
  generalize hb:((ofValue z).cells.all AV.one && Nat.beq (ofValue z).cells.length n)=b at h
  cases b with
  |false=>cases h
  |true=>
   cases h
   simp only[Bool.and_eq_true] at hb
   have h1:=zcd (P:=P) (F:=F) (σ:=s.abs) ho hi hb.1 (Nat.eq_of_beq_eq_true hb.2)
   rw[Sto.abs_len] at h1
   exact ziv h1
 ·
  cases h
theorem z4i {e:TypeId}{y:Operand}{r:ER}(ho:o.op= .box e y)(h:z8l s (F.eval y)=some r):OpOk P o F s r:=by
 unfold z8l at h
 generalize hb:(F.eval y).cells.all AV.one=b at h
 cases b with
 |false=>cases h
 |true=>
  cases h
  have h1:=zbt (P:=P) (F:=F) (σ:=s.abs) ho J hb J
  rw[Sto.abs_len] at h1
  exact ziv h1
theorem zxo {t:TypeId}{parts:Array (Nat × Operand)}{v:AV}(ho:o.op= .build t parts)(h:zt7 P t (parts.toList.map fun (i,x)=>(i,F.eval x))=some v):Does P o F σ v σ:=by
 unfold zt7 at h
 split at h
 ·
  rename_i z n bt pl hi hp
  generalize hb:(ofValue z).cells.all AV.one=b at h
  cases b with
  |false=>cases h
  | true=>
   rw[cond_true] at h
   split at h
   ·
    rename_i cs hf
    cases h
    exact zcc ho hi hp hb hf
   ·
    cases h
 ·
  rename_i z n bt hi hp
  split at h
  ·
   cases h
  ·
   rename_i m e ht
   split at h
   ·
    cases h
   ·
    rename_i ze sz be he
    generalize hb:(ofValue z).cells.all AV.one=b at h
    cases b with
    |false=>cases h
    | true=>
     rw[cond_true] at h
     split at h
     ·
      rename_i cs hf
      cases h
      exact zov ho hi ht he hb hf
     ·
      cases h
 ·
  cases h
theorem z4g {t:TypeId}{len:Nat}{parts:Array (Nat × Operand)}{r:ER}(ho:o.op= .buildSlice t len parts)(h:z8j P t len (parts.toList.map fun (i,x)=>(i,F.eval x)) s=some r):OpOk P o F s r:=by
 unfold z8j at h
 split at h
 ·
  cases h
 ·
  rename_i e ht
  split at h
  ·
   rename_i z n bt hi
   cases hl:Nat.beq len 0 with
   | true=>
    rw[hl,cond_true] at h
    obtain rfl:=Nat.eq_of_beq_eq_true hl
    generalize hb:(parts.toList.map fun (i,x)=>(i,F.eval x)).isEmpty=b at h
    cases b with
    |false=>cases h
    | true=>
     cases h
     have hp:parts= #[]:=by
      rw[List.isEmpty_iff,List.map_eq_nil_iff] at hb
      exact Array.toList_eq_nil_iff.1 hb
     exact .free _ (fun σ=>zss ho hp ht hi)
   | false=>
    rw[hl,cond_false] at h
    generalize hb:((ofValue z).cells.all AV.one && Nat.beq (ofValue z).cells.length n && Nat.blt 0 n && Nat.ble (len*n) 16777216)=b at h
    cases b with
    |false=>cases h
    | true=>
     rw[cond_true] at h
     simp only[Bool.and_eq_true] at hb
     obtain⟨⟨⟨h1,h2⟩,h3⟩,h4⟩:=hb
     split at h
     ·
      rename_i cs hf
      cases hc:Nat.beq cs.length (len*n) with
      |false=>rw[hc] at h;cases h
      | true=>
       rw[hc] at h;cases h
       have hpos:0<len:=by
        rcases Nat.eq_zero_or_pos len with e|e
        ·
         subst e;cases hl
        ·
         exact e
       have g1:=zq0 (P:=P) (F:=F) (σ:=s.abs) ho ht hi h1 (Nat.eq_of_beq_eq_true h2) (by simpa[Nat.blt_eq] using h3) hpos (Nat.le_of_ble_eq_true h4) hf (Nat.eq_of_beq_eq_true hc)
       rw[Sto.abs_len] at g1
       exact ziv g1
     ·
      cases h
  ·
   cases h
theorem zh8 {t e:TypeId}{len:Nat}{parts:Array (Nat × Operand)}{z:Value}{n bt:Nat}{cs:List AV}(ho:o.op= .buildSlice t len parts)(ht:za5 P t=some e)(hi:za6 P e=some (some z,n,bt))
  (h1:(ofValue z).cells.all AV.one=true) (hn:(ofValue z).cells.length=n) (h0:0<n) (hlen:0<len) (hsm:len*n≤16777216) (hf:ziy (fun i=>some (i*n,n)) (zgs z (len*n)) (parts.toList.map fun (i,x)=>(i,F.eval x))=some cs) (hcl:cs.length=len*n):Does P o F σ (.sl (zf7 n len cs)) σ:=
 zfr (x:= .any) fun G ρ hr hop=>by
  obtain⟨i,h2,h3,h4,h5⟩:=zgq hi
  obtain⟨vs,h6,h7⟩:=zki (G:=G) (place:=fun i=>some (i*n,n)) (parts.map fun (i,x)=>(i,ρ x)).toList _ (madeCells z.cells (len*n)) _ cs (zrg G z (len*n) h1 xa) xm (zj6 (fun y hy=>hop y (by simpa[ho,Op.operands] using hy))) hf
  have hvs:vs.size=len*n:=by rw[h7.size];exact hcl
  have hpos: ¬ (len*n=0):=by
   have:=Nat.mul_pos hlen h0
   omega
  have h8:(Instr.buildSlice t len (parts.map fun (i,x)=>(i,ρ x))).run P G.w= .ok (.slice (some ⟨G.w.heap.size,0,none⟩) len len) (G.w.alloc (.cells vs e)):=by
   have hsm': ¬ (16777216<len*n):=by omega
   have h6':Instr.fill (fun i=>some (i*n,n)) (Array.map (fun x=>z.cells[x % z.cells.size]!) (Array.range (len*n))) (parts.map fun (i,x)=>(i,ρ x)).toList=some vs:=h6
   simp only[Array.toList_map] at h6'
   simp[Instr.buildSlice,run_underlying (zea ht),zb3 hi,hsm',hpos,zeroValue,typeInfo,h2,h3,h6',newRow]
  have hrow:=zpz h7 hcl
  let G1:Cx:={G with w:=G.w.alloc (.cells vs e),St:=fun b o=>G.St b o∨b=G.w.heap.size}
  have hbel:Below G.w.heap.size G.w (G.w.alloc (.cells vs e)):=(Below.refl _ _).alloc (Nat.le_refl _) _
  obtain⟨g1,g2⟩:=ziw (G1:=G1) hr rfl hbel (fun _ _ h=> .inl h) (fun b o h=>h.imp (fun h=>h) (fun h=>by omega)) (fun b o h=>by
   have hsz:(G.w.alloc (.cells vs e)).heap.size=G.w.heap.size+1:=by simp
   show b<(G.w.alloc (.cells vs e)).heap.size
   rw[hsz]
   rcases h with h|h
   ·
    have:=hr.st b o (.inl h);omega
   ·
    omega)
  refine⟨.slice (some ⟨G.w.heap.size,0,none⟩) len len,_,?_,g1,g2,?_⟩
  ·
   simp only[execOp,ho,Sem.run_bind,h8,Result.andThen_ok,Sem.run_pure];rfl
  ·
   have hlen2:(zf7 n len cs).length=len:=zks n len cs
   have hcell: ∀j v,vs[j]?=some v→(G.w.alloc (.cells vs e)).cell? ⟨G.w.heap.size,j,none⟩=some v:=fun j v hv=>by
    rw[cell_of_row _ _ _ vs e (0,0) (heap_alloc_new G.w _),hv]
   have:=Rep.sl (G:={G with w:=G.w.alloc (.cells vs e),St:=G1.St}) G.w.heap.size 0 len n (zf7 n len cs) (fun k j=>vs.getD (k*n+j) undef) (by rw[hlen2];exact Nat.le_refl _) (by rw[hlen2];have:len≤len*n:=Nat.le_mul_of_pos_right _ h0;unfold maxLen;omega)
    (fun k x hk=>⟨(hrow k x hk).1,(hrow k x hk).2.1⟩) (fun k x j c hk hc=>by
     obtain⟨u,h9,h10⟩:=(hrow k x hk).2.2 j c hc
     refine⟨.inr rfl,?_⟩
     rw[Nat.zero_add,hcell _ u h9,Array.getD_eq_getD_getElem?,h9];rfl) (fun k x j c hk hc=>by
     obtain⟨u,h9,h10⟩:=(hrow k x hk).2.2 j c hc
     rw[Array.getD_eq_getD_getElem?,h9]
     exact h10.ext g1)
   rw[hlen2] at this
   exact this
theorem z1b {t:TypeId}{len:Nat}{parts:Array (Nat × Operand)}{r:ER}(ho:o.op= .buildSlice t len parts)(h:z1c P t len (parts.toList.map fun (i,x)=>(i,F.eval x)) s=some r):OpOk P o F s r:=by
 unfold z1c at h
 split at h
 ·
  cases h
 ·
  rename_i e ht
  split at h
  ·
   rename_i z n bt hi
   generalize hb:((ofValue z).cells.all AV.one && Nat.beq (ofValue z).cells.length n && Nat.blt 0 n && Nat.blt 0 len && Nat.ble (len*n) 16777216)=b at h
   cases b with
   |false=>cases h
   | true=>
    rw[cond_true] at h
    simp only[Bool.and_eq_true] at hb
    obtain⟨⟨⟨⟨h1,h2⟩,h3⟩,h3'⟩,h4⟩:=hb
    split at h
    ·
     rename_i cs hf
     cases hc:Nat.beq cs.length (len*n) with
     |false=>rw[hc] at h;cases h
     |true=>
      rw[hc] at h;cases h
      exact .free _ (fun σ=>zh8 ho ht hi h1 (Nat.eq_of_beq_eq_true h2) (by simpa[Nat.blt_eq] using h3) (by simpa[Nat.blt_eq] using h3') (Nat.le_of_ble_eq_true h4) hf (Nat.eq_of_beq_eq_true hc))
    ·
     cases h
  ·
   cases h
theorem z07 {t:TypeId}{y y':Operand}{r:ER}(ho:o.op= .makeSlice t y y')(h:z08 P t s (F.eval y) (F.eval y')=some r):OpOk P o F s r:=by
 generalize hx:F.eval y=u at h
 generalize hy:F.eval y'=w at h
 unfold z08 at h
 split at h
 ·
  rename_i kl l kc c
  split at h
  ·
   cases h
  ·
   rename_i e ht
   split at h
   ·
    rename_i z n bt hi
    generalize hb:((ofValue z).cells.all AV.one && Nat.beq (ofValue z).cells.length n && Nat.blt 0 n && Nat.ble l c && Nat.ble (bt*c) 281474976710656 && Nat.ble c 9223372036854775807)=b at h
    cases b with
    |false=>cases h
    |true=>
     cases h
     simp only[Bool.and_eq_true] at hb
     obtain⟨⟨⟨⟨⟨h1,h2⟩,h3⟩,h4⟩,h5⟩,h6⟩:=hb
     have g1:=zsq (P:=P) (F:=F) (σ:=s.abs) ho ht hi h1 (Nat.eq_of_beq_eq_true h2) (by simpa[Nat.blt_eq] using h3) hx hy J J (Nat.le_of_ble_eq_true h4) (Nat.le_of_ble_eq_true h5) (Nat.le_of_ble_eq_true h6)
     rw[Sto.abs_len] at g1
     exact ziv g1
   ·
    cases h
 ·
  cases h
theorem z4h {t:TypeId}{x:Operand}{v:Value}(ho:o.op= .call {callee:= .builtin .len,args:= #[x],argTypes:= #[t]})(h:z8k P t (F.eval x)=some v):Does P o F σ (.s v) σ:=by
 generalize hx:F.eval x=u at h
 have hsl: ∀ {w:Value},(bif (za5 P t).isSome then some w else none)=some v→w=v∧ ∃e,za5 P t=some e:=by
  intro w h
  cases ht:za5 P t with
  |none=>rw[ht] at h;cases h
  |some e=>rw[ht] at h;cases h;exact⟨rfl,e,rfl⟩
 unfold z8k at h
 split at h
 ·
  obtain⟨rfl,e,ht⟩:=hsl h;exact zn5 ho ht hx
 ·
  obtain⟨rfl,e,ht⟩:=hsl h;exact zcy ho ht hx
 ·
  obtain⟨rfl,e,ht⟩:=hsl h;exact zst ho ht hx
 ·
  obtain⟨rfl,e,ht⟩:=hsl h;exact zsu ho ht hx
 ·
  obtain⟨rfl,e,ht⟩:=hsl h;exact zxx ho ht hx
 ·
  cases hb:zff P t with
  |false=>rw[hb] at h;cases h
  |true=>rw[hb] at h;cases h;exact zgf ho hb hx
 ·
  cases h
theorem zn1 {t:TypeId}{x y:Operand}{r:ER}(ho:o.op= .call {callee:= .builtin .append,args:= #[x,y],argTypes:= #[t,t]})(h:zmf P t s (F.eval x) (F.eval y)=some r):OpOk P o F s r:=by
 generalize hx:F.eval x=u at h
 unfold zmf at h
 split at h
 ·
  cases h
 ·
  rename_i e ht
  split at h
  ·
   rename_i z sz bt hi
   generalize hb:(Nat.beq z.cells.size sz && Nat.blt 0 sz)=b at h
   cases b with
   |false=>cases h
   | true=>
    rw[cond_true] at h
    simp only[Bool.and_eq_true] at hb
    obtain⟨h1,h2⟩:=hb
    have h2:0<sz:=by simpa[Nat.blt_eq] using h2
    split at h
    ·
     cases h
    ·
     rename_i l hl
     have hsrc:=zva hl
     split at h
     ·
      rename_i id sz' n
      split at h
      ·
       rename_i sz2 cs hs
       generalize hb:(Nat.beq sz' sz && Nat.beq sz2 sz && Nat.beq n cs.length && Nat.ble (cs.length+l.length) maxLen && Nat.ble ((cs.length+l.length)*bt) 140737488355328)=b at h
       cases b with
       |false=>cases h
       |true=>
        cases h
        simp only[Bool.and_eq_true] at hb
        obtain⟨⟨⟨⟨g1,g2⟩,g3⟩,g4⟩,g5⟩:=hb
        obtain rfl:=Nat.eq_of_beq_eq_true g1
        obtain rfl:=Nat.eq_of_beq_eq_true g2
        have q1:=zca (P:=P) (F:=F) (σ:=s.abs) ho ht hi (Nat.eq_of_beq_eq_true h1) h2 hx (zo4 hs) (Nat.eq_of_beq_eq_true g3) rfl hsrc (Nat.le_of_ble_eq_true g4) (Nat.le_of_ble_eq_true g5)
        rw[Sto.abs_len] at q1
        refine .eff _ _ _ (by rw[Sto.push_abs,Sto.set_abs];exact q1) (fun i hi2=>?_)
        have hi3:i≠id∧i≠s.len:=by simpa using hi2
        rw[Sto.push_abs,Sto.set_abs,zib (by rw[List.length_set,Sto.abs_len];simpa using hi3.2),zbo (by simpa using hi3.1)]
      ·
       cases h
     ·
      generalize hb:(Nat.ble l.length maxLen && Nat.ble (l.length*bt) 140737488355328)=b at h
      cases b with
      |false=>cases h
      |true=>
       cases h
       simp only[Bool.and_eq_true] at hb
       have q1:=zl0 (P:=P) (F:=F) (σ:=s.abs) ho ht hi (Nat.eq_of_beq_eq_true h1) h2 hx (.inl rfl) rfl hsrc (Nat.le_of_ble_eq_true hb.1) (Nat.le_of_ble_eq_true hb.2)
       rw[Sto.abs_len] at q1
       exact ziv q1
     ·
      generalize hb:(Nat.ble l.length maxLen && Nat.ble (l.length*bt) 140737488355328)=b at h
      cases b with
      |false=>cases h
      |true=>
       cases h
       simp only[Bool.and_eq_true] at hb
       have q1:=zl0 (P:=P) (F:=F) (σ:=s.abs) ho ht hi (Nat.eq_of_beq_eq_true h1) h2 hx (.inr rfl) rfl hsrc (Nat.le_of_ble_eq_true hb.1) (Nat.le_of_ble_eq_true hb.2)
       rw[Sto.abs_len] at q1
       exact ziv q1
     ·
      cases h
  ·
   cases h
def z1i (P:Program)(t:TypeId)(σ:Sto)(x y:AV):Option ER:=match zmf P t σ x y with
 |some r=>some r
 | none=>match x with
  | .own id _ n=>match σ.get id with
   |some (.row sz cs)=>match zmf P t (σ.set id (.row sz (cs.take n))) x y with
    |some (r,s1, .eff W)=>bif W.contains id then some (r,s1, .eff W) else none
    |_=>none
   |_=>none
  |_=>none
theorem z1h {t:TypeId}{x y:Operand}{r:ER}(ho:o.op= .call {callee:= .builtin .append,args:= #[x,y],argTypes:= #[t,t]})(h:z1i P t s (F.eval x) (F.eval y)=some r):OpOk P o F s r:=by
 unfold z1i at h
 split at h
 ·
  rename_i r' hr;cases h;exact zn1 ho hr
 ·
  split at h
  ·
   rename_i id _ n hx
   split at h
   ·
    rename_i sz cs hs
    split at h
    ·
     rename_i r' s1 W he
     cases hb:W.contains id with
     |false=>rw[hb] at h;cases h
     | true=>
      rw[hb,cond_true] at h
      cases h
      have hid:id∈W:=by simpa using hb
      have hk:=zn1 (o:=o) ho he
      have hD:=hk.does
      rw[Sto.set_abs] at hD
      cases hk with
      |eff _ _ _ h1 hW=>
       refine .eff _ _ _ (zxu (zo4 hs) hD) (fun i hi=>?_)
       rw[hW i hi,Sto.set_abs]
       exact zbo (by intro e;exact hi (by rw[show i=id by simpa using e];exact hid))
    ·
     cases h
   ·
    cases h
  ·
   cases h
theorem zny {b:Builtin}{x y:Operand}{t t':TypeId}{v:Value}(ho:o.op= .call {callee:= .builtin b,args:= #[x,y],argTypes:= #[t,t']})(h:zme b (F.eval x) (F.eval y)=some v):Does P o F σ (.s v) σ:=by
 generalize hx:F.eval x=u at h
 generalize hy:F.eval y=w at h
 unfold zme at h
 split at h
 ·
  split at h
  ·
   cases h;exact z4p ho hx hy rfl
  ·
   cases h;exact z4o ho hx hy rfl
  ·
   cases h
 ·
  cases h
theorem z1d {t:TypeId}{x y:Operand}{r:ER}(ho:o.op= .call {callee:= .builtin .copy,args:= #[x,y],argTypes:= #[t,t]})(h:z1e P t s (F.eval x) (F.eval y)=some r):OpOk P o F s r:=by
 unfold z1e at h
 split at h
 ·
  cases h
 ·
  rename_i e ht
  split at h
  ·
   rename_i z sz bt hi
   generalize hb:Nat.blt 0 sz=b at h
   cases b with
   |false=>cases h
   | true=>
    have hsz:0<sz:=by simpa[Nat.blt_eq] using hb
    rw[cond_true] at h
    split at h
    ·
     rename_i l id k n hl hd
     split at h
     ·
      rename_i sz2 cs hs
      generalize hb:(Nat.beq sz2 sz && Nat.ble (k+n) cs.length)=b at h
      cases b with
      |false=>cases h
      |true=>
       cases h
       simp only[Bool.and_eq_true] at hb
       obtain rfl:=Nat.eq_of_beq_eq_true hb.1
       exact z1p (zn9 ho ht hi hsz J (z4m hd) (zo4 hs) (Nat.le_of_ble_eq_true hb.2) rfl (zva hl))
     ·
      cases h
    ·
     cases h
  ·
   cases h
end
section
variable {P:Program}{N:Nat}{F:Frm}{σ:List Ob}{Q:Exit→Frm→List Ob→Prop}{ops:Array Oper}{o:Oper}{l:List Oper}{d:Nat}{x:AV}
theorem zam (h:stv (opv o.op F) N ops o F=some (d,x))(k:EOps P N ops l ((d,x)::F) σ Q):EOps P N ops (o::l) F σ Q:=zau (zbe h).1 (zbe h).2.1 (zbe h).2.2.1 (zhe (zbe h).2.2.2) k
theorem z1m {t f off n ft:Nat}(hf:zbx P t f=some (off,ft,some n))(h:stv (fdv o.op t f off n F) N ops o F=some (d,x))(k:EOps P N ops l ((d,x)::F) σ Q):EOps P N ops (o::l) F σ Q:=zau (zbe h).1 (zbe h).2.1 (zbe h).2.2.1 (zmd hf (zbe h).2.2.2) k
theorem zh7 (h:stz N ops o F=some d)(k:EOps P N ops l ((d, .s undef)::F) σ Q):EOps P N ops (o::l) F σ Q:=z1l (zhn h).1 (zhn h).2.1 (zhn h).2.2 k
end
end Aw
namespace Aw
open Go.RowKit
def z6j:Value→Value→Bool
 | .bool a, .bool b=>a==b
 | .int k m, .int k' n=>decide (k=k') && decide (m=n)
 | .string a, .string b=>decide (a=b)
 | .slice none 0 0, .slice none 0 0=>true
 | .pointer none, .pointer none=>true
 | .nilFunc, .nilFunc=>true
 |_,_=>false
theorem z2v {u v:Value}(h:z6j u v=true):u=v:=by
 unfold z6j at h
 split at h
 ·
  simp at h;rw[h]
 ·
  simp at h;rw[h.1,h.2]
 ·
  simp at h;rw[h]
 ·
  rfl
 ·
  rfl
 ·
  rfl
 ·
  cases h
mutual
def avEq:AV→AV→Bool
 | .any, .any=>true
 | .s u, .s v=>z6j u v
 | .agg a, .agg b=>zhs a b
 | .sl a, .sl b=>zhs a b
 | .emp, .emp=>true
 | .ref a, .ref b=>zhs a b
 | .own a b c, .own a' b' c'=>Nat.beq a a' && Nat.beq b b' && Nat.beq c c'
 | .ptr a b c d, .ptr a' b' c' d'=>Nat.beq a a' && Nat.beq b b' && Nat.beq c c' && Nat.beq d d'
 | .fn f a, .fn g b=>Nat.beq f g && zhs a b
 | .tup a, .tup b=>zhs a b
 | .mp a, .mp b=>Nat.beq a b
 | .sub a b c d, .sub a' b' c' d'=>Nat.beq a a' && Nat.beq b b' && Nat.beq c c' && Nat.beq d d'
 |_,_=>false
def zhs:List AV→List AV→Bool
 |[],[]=>true
 |x::a,y::b=>avEq x y && zhs a b
 |_,_=>false
end
mutual
theorem zjs: ∀ (x y:AV),avEq x y=true→x=y
 | .any,y,h=>by cases y<;>simp[avEq] at h<;>rfl
 | .s u,y,h=>by cases y<;>simp[avEq] at h;rw[z2v h]
 | .agg a,y,h=>by cases y<;>simp[avEq] at h;rw[ze5 _ _ h]
 | .sl a,y,h=>by cases y<;>simp[avEq] at h;rw[ze5 _ _ h]
 | .emp,y,h=>by cases y<;>simp[avEq] at h<;>rfl
 | .ref a,y,h=>by cases y<;>simp[avEq] at h;rw[ze5 _ _ h]
 | .own a b c,y,h=>by cases y<;>simp[avEq] at h;obtain⟨⟨rfl,rfl⟩,rfl⟩:=h;rfl
 | .ptr a b c d,y,h=>by cases y<;>simp[avEq] at h;obtain⟨⟨⟨rfl,rfl⟩,rfl⟩,rfl⟩:=h;rfl
 | .fn f a,y,h=>by cases y<;>simp[avEq] at h;obtain⟨rfl,h⟩:=h;rw[ze5 _ _ h]
 | .tup a,y,h=>by cases y<;>simp[avEq] at h;rw[ze5 _ _ h]
 | .mp a,y,h=>by cases y<;>simp[avEq] at h;rw[h]
 | .sub a b c d,y,h=>by cases y<;>simp[avEq] at h;obtain⟨⟨⟨rfl,rfl⟩,rfl⟩,rfl⟩:=h;rfl
theorem ze5: ∀ (x y:List AV),zhs x y=true→x=y
 |[],y,h=>by cases y<;>simp[zhs] at h<;>rfl
 |x::a,y,h=>by
  cases y with
  |nil=>simp[zhs] at h
  |cons y b=>simp[zhs] at h;rw[zjs _ _ h.1,ze5 _ _ h.2]
end
def obEq:Ob→Ob→Bool
 | .dead, .dead=>true
 | .row n a, .row m b=>Nat.beq n m && zhs a b
 | .fz n a, .fz m b=>Nat.beq n m && zhs a b
 |_,_=>false
theorem z7j {x y:Ob}(h:obEq x y=true):x=y:=by
 cases x<;>cases y<;>simp[obEq] at h
 ·
  rfl
 ·
  rw[h.1,ze5 _ _ h.2]
 ·
  rw[h.1,ze5 _ _ h.2]
def oEq:Option Ob→Option Ob→Bool
 |none,none=>true
 |some x,some y=>obEq x y
 |_,_=>false
theorem z5u {x y:Option Ob}(h:oEq x y=true):x=y:=by
 cases x<;>cases y<;>simp[oEq] at h
 ·
  rfl
 ·
  rw[z7j h]
def Chg (s s':Sto)(W:List Nat):Prop:= ∀id,id ∉ W→s'.abs[id]?=s.abs[id]?
theorem Chg.refl (s:Sto):Chg s s []:=fun _ _=>rfl
theorem Chg.trans {a b c:Sto}{V W:List Nat}(h:Chg a b V)(k:Chg b c W):Chg a c (V++W):=fun id hid=>by
 simp only[List.mem_append,not_or] at hid
 exact(k id hid.2).trans (h id hid.1)
def eqOn (W:List Nat)(s s':Sto):Bool:=Nat.beq s.len s'.len && W.all fun i=>oEq (s.get i) (s'.get i)
theorem zt9 {s a b:Sto}{V W:List Nat}(ha:Chg s a V)(hb:Chg s b W)(h:eqOn (V++W) a b=true):a.abs=b.abs:=by
 unfold eqOn at h
 simp only[Bool.and_eq_true] at h
 apply List.ext_getElem?
 intro i
 by_cases hi:i∈V++W
 ·
  have:=z5u (List.all_eq_true.1 h.2 i hi)
  rwa [Sto.get_abs,Sto.get_abs] at this
 ·
  simp only[List.mem_append,not_or] at hi
  rw[ha i hi.1,hb i hi.2]
section
variable {P:Program}{o:Oper}{F:Frm}{σ:List Ob}
theorem zi7 {t e:TypeId}{x y:Operand}{z:Option Value}{n bt:Nat}{id sz m:Nat}{k:IntKind}{i:Int}{h:Nat}(ho:o.op= .slice t x none (some y) none)(ht:za5 P t=some e)(hi:za6 P e=some (z,n,bt))(hx:F.eval x= .own id sz m)(hy:F.eval y= .s (.int k i))(hk:i=(h:Int))(hl:h≤m):Does P o F σ (.own id sz h) σ:=
 zbc fun G ρ hr hop=>by
  have g1:=hop x (by simp[ho,Op.operands])
  have g2:=hop y (by simp[ho,Op.operands])
  rw[hx] at g1
  rw[hy] at g2
  have e2:=zc5 g2
  obtain⟨q1,q2⟩:=zle ht
  subst hk
  generalize hv:ρ x=u at g1
  have key: ∀A len cap,h≤cap→(Instr.sliceAt t (.slice A len cap) none (some (.int k (h:Int))) none).run P G.w= .ok (sliced A 0 h cap n) G.w:=fun A len cap hc=>by
   have h2:=run_slice_h (P:=P) G.w t A len cap q2 k (h:Int) xa xa
   simp only[run_sliceAt_slice (P:=P) G.w t _ _ _ _ q2,h2,q1,zb3 hi,Result.andThen_ok,Int.toNat_natCast]
  cases g1 with
  |own0 _ _ A hA hm=>
   obtain rfl:h=0:=by omega
   refine⟨sliced A 0 0 0 n,by simp only[execOp,ho,Option.map_some,Option.map_none,hv,e2,Sem.run_bind,key A 0 0 (Nat.zero_le _),Result.andThen_ok,Sem.run_pure],?_⟩
   simp only[sliced,if_true,Nat.sub_self]
   exact .own0 id sz A hA hm
  |own _ _ _ b cap hm hn hc hb=>
   refine⟨sliced (some ⟨b,0,none⟩) 0 h cap n,by simp only[execOp,ho,Option.map_some,Option.map_none,hv,e2,Sem.run_bind,key _ m cap xa,Result.andThen_ok,Sem.run_pure],?_⟩
   have:sliced (some ⟨b,0,none⟩) 0 h cap n= .slice (some ⟨b,0,none⟩) h cap:=by simp[sliced,Addr.add]
   rw[this]
   exact .own id sz h b cap hm xa hc hb
theorem zqz {t e:TypeId}{x y y':Operand}{z:Option Value}{n bt:Nat}{L:List AV}{k k':IntKind}{i i':Int}{l h:Nat}(ho:o.op= .slice t x (some y) (some y') none)(ht:za5 P t=some e)(hi:za6 P e=some (z,n,bt))(hx:F.eval x= .sl L)(hy:F.eval y= .s (.int k i))(hy':F.eval y'= .s (.int k' i'))(hk:i=(l:Int))(hk':i'=(h:Int))(hlh:l≤h)(hl:h≤L.length)(hs: ∀e∈L,e.cells.length=n):Does P o F σ (.sl ((L.take h).drop l)) σ:=
 zbc fun G ρ hr hop=>by
  have g1:=hop x (by simp[ho,Op.operands])
  have g2:=hop y (by simp[ho,Op.operands])
  have g3:=hop y' (by simp[ho,Op.operands])
  rw[hx] at g1
  rw[hy] at g2
  rw[hy'] at g3
  have e2:=zc5 g2
  have e3:=zc5 g3
  obtain⟨q1,q2⟩:=zle ht
  obtain⟨A,cap,hv,hcap⟩: ∃A cap,ρ x= .slice A L.length cap∧L.length≤cap:=by
   generalize ρ x=u at g1
   cases g1 with
   |slnil A c=>exact⟨_,_,rfl,Nat.zero_le _⟩
   |sl b o c sz _ val hc hm h1 h2 h=>exact⟨_,_,rfl,hc⟩
  rw[hv] at g1
  have h1:=zkx (s:=n) g1 hlh hl hs
  refine⟨_,?_,h1⟩
  subst hk hk'
  have h2:=run_slice_lh (P:=P) G.w t A L.length cap q2 k k' (l:Int) (h:Int) xa xa xa
  simp only[execOp,ho,Option.map_some,Option.map_none,hv,e2,e3,Sem.run_bind,run_sliceAt_slice (P:=P) G.w t _ _ _ _ q2,h2,q1,zb3 hi,Result.andThen_ok,Sem.run_pure,Int.toNat_natCast]
theorem z1s {d id sz n:Nat}{cs:List AV}{r:AV}{σ':List Ob}(hx:F.get d= .own id sz n)(hs:σ[id]?=some (.row sz cs))(hn:n=cs.length)(h:Does P o ((d, .sl cs)::F) (σ.set id (.fz sz cs)) r σ'):Does P o F σ r σ':=by
 intro G a next Q hr hop hnx
 obtain⟨he,hr2⟩:=zqp hr hs
 refine h (G.froz id) a next Q hr2 (fun y hy=>?_) (fun v G' e r' hv=>hnx v G' (he.trans e) r' hv)
 have h1:=(hop y hy).ext he
 cases y with
 | tmp t=>
  by_cases ht:d=t
  ·
   subst ht
   have h2:Frm.eval ((d, .sl cs)::F) (.tmp d)= .sl cs:=z33
   rw[h2]
   have h3:F.eval (.tmp d)= .own id sz n:=hx
   rw[h3] at h1
   exact zvf hr2 (by rw[List.getElem?_set_self (List.getElem?_eq_some_iff.1 hs).1]) hn h1
  ·
   have h2:Frm.eval ((d, .sl cs)::F) (.tmp t)=F.eval (.tmp t):=by
    show Frm.get _ t=F.get t
    have:Nat.beq d t=false:=by
     cases hb:Nat.beq d t with
     |false=>rfl
     |true=>exact absurd (Nat.eq_of_beq_eq_true hb) ht
    simp only[Frm.get,this,cond_false]
   rw[h2];exact h1
 |_=>exact h1
end
structure CallE (P:Program)(f:FuncId)(args:List AV)(σ:List Ob)(r:AV)(σ':List Ob):Prop where
 ent:zok P f
 call: ∀ (G:Cx) (vargs:Array Value),Rel G σ→vargs.size=args.length→(∀ (j:Nat) v x,vargs[j]?=some v→args[j]?=some x→Rep G v x)→
  Calls P f vargs G.w fun e w'=> ∃v G',e= .returned v∧G'.w=w'∧G.Ext G'∧Rel G' σ'∧Rep G' v r
section
variable {P:Program}{o:Oper}{F:Frm}{σ σ':List Ob}{f:FuncId}{args:List AV}{r:AV}
theorem zb4 {fo:Operand}{ar:Array Operand}{ts:Array TypeId}{caps:List AV}(ho:o.op= .call {callee:= .value fo,args:=ar,argTypes:=ts})(hf:F.eval fo= .fn f caps)(hp:CallE P f args σ r σ')(ha:ar.toList.map F.eval++caps=args):Does P o F σ r σ':=by
 intro G a next Q hr hop hn
 obtain⟨cap,h1,h2,h3⟩:=zoe ho hop hf
 rw[ha] at h2 h3
 unfold Oper.wp
 rw[zli ho a.eval h1 hp.ent G.w,Oper.upon_enter]
 refine(hp.call G _ hr h2 h3).mono ?_
 rintro e w' ⟨v,G',rfl,rfl,he,hr',hv⟩
 exact hn v G' he hr' hv
theorem callE_fn {fn:Func}{c:Code}(hf:P.funcs[f]?=some fn)(hname:(fn.name== "runtime.NumGoroutine")=false)(hb:fn.body=some c)(hn:args.length≤fn.ntmps)
  (h:EWp P fn.ntmps c (argF 0 args) σ (fun e F' σ1=>(e= .normal∨e= .ret)∧σ1=σ'∧ ∃xs,ResL P F' σ1 fn.results.toList xs∧zqe xs=r)):CallE P f args σ r σ':=by
 refine⟨zkk hf hname hb,fun G vargs hrel hsz hrep=>?_⟩
 refine calls_of_wp hf hb ?_
 have hfo:FOk G {tmps:=vargs++Array.replicate (fn.ntmps-vargs.size) undef,defers:=[]} (argF 0 args):=by
  intro d
  rw[zku]
  simp only[Nat.zero_le,if_true,Nat.sub_zero]
  by_cases hd:d<args.length
  ·
   have h1:(vargs++Array.replicate (fn.ntmps-vargs.size) undef).getD d undef=vargs[d]'(by omega):=by
    rw[Array.getD_eq_getD_getElem?,Array.getElem?_append_left xa]
    simp[show d<vargs.size by omega]
   rw[h1]
   have h2:args.getD d .any=args[d]:=by simp[List.getD,hd]
   rw[h2]
   exact hrep d _ _ (by simp[show d<vargs.size by omega]) (by simp[hd])
  ·
   have h2:args.getD d .any= .any:=by simp[List.getD,hd]
   rw[h2];exact .any _
 have hs8:S8 fn.ntmps G {tmps:=vargs++Array.replicate (fn.ntmps-vargs.size) undef,defers:=[]} (argF 0 args) σ:=⟨hrel,hfo, .nil,by simp;omega⟩
 refine Code.wp_mono (fun e a w q=>?_) (h G _ hs8)
 obtain⟨G',F',σ1,rfl,h2,h3,he,rfl,xs,h4,rfl⟩:=q
 obtain⟨v,h6,h7⟩:=zhc (fn:=fn) h3.rel h3.fr h4
 have post: ∃v' G'',Ending.returned v= .returned v'∧G''.w=G'.w∧G.Ext G''∧Rel G'' σ1∧Rep G'' v' (zqe xs):=⟨v,G',rfl,rfl,h2,h3.rel,h7⟩
 rcases he with rfl|rfl
 ·
  exact⟨h3.df.1,v,h6,post⟩
 ·
  exact⟨h3.df.1,v,h6,post⟩
mutual
def loB (k:Nat):AV→Bool
 | .any| .s _| .emp| .opq=>true
 | .ifc _ x=>loB k x
 | .agg l| .sl l| .ref l| .fn _ l| .tup l=>losB k l
 | .own id _ _| .ptr id _ _ _| .mp id| .sub id _ _ _=>Nat.blt id k
def losB (k:Nat):List AV→Bool
 |[]=>true
 |x::l=>loB k x && losB k l
end
mutual
theorem zr7 {k:Nat}: ∀ (x:AV),loB k x=true→Lo k x
 | .any,_=> .any
 | .s v,_=> .s v
 | .emp,_=> .emp
 | .opq,_=> .opq
 | .ifc t x,h=> .ifc t x (zr7 x (by simpa[loB] using h))
 | .agg l,h=> .agg l (zgp l (by simpa[loB] using h))
 | .sl l,h=> .sl l (zgp l (by simpa[loB] using h))
 | .ref l,h=> .ref l (zgp l (by simpa[loB] using h))
 | .fn f l,h=> .fn f l (zgp l (by simpa[loB] using h))
 | .tup l,h=> .tup l (zgp l (by simpa[loB] using h))
 | .own id a b,h=> .own id a b (by simpa[loB,Nat.blt_eq] using h)
 | .ptr id a b c,h=> .ptr id a b c (by simpa[loB,Nat.blt_eq] using h)
 | .mp id,h=> .mp id (by simpa[loB,Nat.blt_eq] using h)
 | .sub id a b c,h=> .sub id a b c (by simpa[loB,Nat.blt_eq] using h)
theorem zgp {k:Nat}: ∀ (l:List AV),losB k l=true→ ∀c∈l,Lo k c
 |[],_=>by simp
 | x::l,h=>by
  simp only[losB,Bool.and_eq_true] at h
  have h1:=zr7 x h.1
  have h2:=zgp l h.2
  intro c hc
  rcases List.mem_cons.1 hc with e|hc
  ·
   rw[e];exact h1
  ·
   exact h2 c hc
end
def obLo (k:Nat):Ob→Bool
 | .row _ cs| .fz _ cs=>losB k cs
 |_=>true
def ObLo (k:Nat):Ob→Prop
 | .row _ cs| .fz _ cs=> ∀c∈cs,Lo k c
 |_=>True
theorem ztj {k:Nat}{ob:Ob}(h:obLo k ob=true):ObLo k ob:=by
 cases ob with
 |row n cs=>exact zgp cs h
 |fz n cs=>exact zgp cs h
 |_=>trivial
theorem znk {k:Nat}{x:AV}(h: ∀c∈x.cells,Lo k c):Lo k x:=by
 by_cases hx: ∃cs,x= .agg cs
 ·
  obtain⟨cs,rfl⟩:=hx;exact .agg cs h
 ·
  have:x.cells=[x]:=by cases x<;>first|rfl|(exact absurd ⟨_,rfl⟩ hx)
  exact h x (by rw[this];simp)
theorem rep_lo {G:Cx}{k:Nat}(hk: ∀id,k≤id→G.mu id=none){v:Value}{x:AV}(h:Rep G v x):Lo k x:=by
 have key: ∀id b,G.mu id=some b→id<k:=fun id b hb=>by
  rcases Nat.lt_or_ge id k with h|h
  ·
   exact h
  ·
   rw[hk id h] at hb;cases hb
 induction h with
 |any v=>exact .any
 |s v=>exact .s v
 |agg vs cs hl h1 _ ih=>
  refine .agg cs fun c hc=>?_
  obtain⟨j,hj,rfl⟩:=List.mem_iff_getElem.1 hc
  exact ih j _ _ (Array.getElem?_eq_getElem xa) (List.getElem?_eq_getElem hj)
 |emp A hA=>exact .emp
 |slnil A cap=>exact .sl [] xm
 |sl b o cap sz l val hc hm h1 h2 _ ih=>
  refine .sl l fun e he=>znk fun c hcc=>?_
  obtain⟨i,hi,rfl⟩:=List.mem_iff_getElem.1 he
  obtain⟨j,hj,rfl⟩:=List.mem_iff_getElem.1 hcc
  exact ih i _ j _ (List.getElem?_eq_getElem hi) (List.getElem?_eq_getElem hj)
 |ref b o cs val h1 h2 _ ih=>
  refine .ref cs fun c hc=>?_
  obtain⟨j,hj,rfl⟩:=List.mem_iff_getElem.1 hc
  exact ih j _ (List.getElem?_eq_getElem hj)
 |own0 id sz A hA hm=>exact .own _ _ _ (key _ _ hm)
 |own id sz n b cap hm hn hc hb=>exact .own _ _ _ (key _ _ hm)
 |ptr id sz k j b hm=>exact .ptr _ _ _ _ (key _ _ hm)
 |fn f vs cs hl _ ih=>
  refine .fn f cs fun c hc=>?_
  obtain⟨j,hj,rfl⟩:=List.mem_iff_getElem.1 hc
  exact ih j _ _ (Array.getElem?_eq_getElem xa) (List.getElem?_eq_getElem hj)
 |tup vs cs hl _ ih=>
  refine .tup cs fun c hc=>?_
  obtain⟨j,hj,rfl⟩:=List.mem_iff_getElem.1 hc
  exact ih j _ _ (Array.getElem?_eq_getElem xa) (List.getElem?_eq_getElem hj)
 |mp id b hm=>exact .mp _ (key _ _ hm)
 |sub id sz o n b cap A hm hA _=>exact .sub _ _ _ _ (key _ _ hm)
 |ifc t v x _ ih=>exact .ifc t x ih
 |opq v h=>exact .opq
theorem z5o {G:Cx}(hr:Rel G σ){id:Nat}{ob:Ob}(hs:σ[id]?=some ob):ObLo σ.length ob:=by
 have h1:=hr.obs id ob hs
 have row: ∀b sz cs fr,zev G b sz cs fr→ ∀c∈cs,Lo σ.length c:=by
  rintro b sz cs fr ⟨cur,t,q,h2,h3,h4,h5⟩ e he
  obtain⟨i,hi,rfl⟩:=List.mem_iff_getElem.1 he
  obtain⟨_,_,h6⟩:=h5 i _ (List.getElem?_eq_getElem hi)
  refine znk fun c hc=>?_
  obtain⟨j,hj,rfl⟩:=List.mem_iff_getElem.1 hc
  obtain⟨v,_,h7⟩:=h6 j _ (List.getElem?_eq_getElem hj)
  exact rep_lo hr.fresh h7
 cases ob with
 | row sz cs=>
  simp only[ObOk] at h1
  cases hx:G.mu id with
  |none=>rw[hx] at h1;exact h1.elim
  |some x=>
   rw[hx] at h1
   cases x with
   |none=>simp only at h1;subst h1;intro c hc;simp at hc
   |some b=>exact row b sz cs _ h1.1
 | fz sz cs=>
  simp only[ObOk] at h1
  cases hx:G.mu id with
  |none=>rw[hx] at h1;exact h1.elim
  |some x=>
   rw[hx] at h1
   cases x with
   |none=>simp only at h1;subst h1;intro c hc;simp at hc
   |some b=>exact row b sz cs _ h1.1
 |_=>trivial
def Cx.cut (G:Cx)(k:Nat):Cx:={G with mu:=fun i=>if i<k then G.mu i else none}
theorem z8t {G:Cx}{k:Nat}(hr:Rel G σ)(hk:k≤σ.length)(hl: ∀ob∈σ.take k,ObLo k ob):Rel (G.cut k) (σ.take k):=by
 have hlow: ∀v x,Rep G v x→Lo k x→Rep (G.cut k) v x:=fun v x h hx=>h.low hx (fun _ _ h=>h) (fun _ _ _=>rfl) (fun id y hid hy=>by simp[Cx.cut,hid,hy]) (fun _=>zce.refl _)
 have hmu: ∀id b,(G.cut k).mu id=some b→G.mu id=some b:=fun id b h=>by
  simp only[Cx.cut] at h
  split at h
  ·
   exact h
  ·
   cases h
 refine⟨hr.below,hr.le,hr.st,fun id ob hob=>?_,fun i j b hi hj hmi hmj=>?_,fun id hid=>?_⟩
 ·
  have hmem:=hl ob (List.mem_of_getElem? hob)
  rw[List.getElem?_take] at hob
  split at hob
  ·
   rename_i hid
   have h1:=hr.obs id ob hob
   have e:(G.cut k).mu id=G.mu id:=by simp[Cx.cut,hid]
   have row: ∀b sz cs fr,(∀c∈cs,Lo k c)→zev G b sz cs fr→zev (G.cut k) b sz cs fr:=by
    rintro b sz cs fr hlo ⟨cur,t,q,h2,h3,h4,h5⟩
    refine⟨cur,t,q,h2,h3,h4,fun i x hx=>⟨(h5 i x hx).1,(h5 i x hx).2.1,fun j c hc=>?_⟩⟩
    obtain⟨v,h6,h7⟩:=(h5 i x hx).2.2 j c hc
    exact⟨v,h6,hlow v c h7 ((hlo x (List.mem_of_getElem? hx)).cells c (List.mem_of_getElem? hc))⟩
   cases ob with
   |dead=>exact fun b hb=>h1 b (by rw[←e];exact hb)
   | row sz cs=>
    have hlo: ∀c∈cs,Lo k c:=hmem
    simp only[ObOk] at h1⊢
    rw[e]
    cases hx:G.mu id with
    |none=>rw[hx] at h1;exact h1
    |some x=>
     rw[hx] at h1
     cases x with
     |none=>exact h1
     |some b=>exact⟨row b sz cs _ hlo h1.1,h1.2⟩
   | fz sz cs=>
    have hlo: ∀c∈cs,Lo k c:=hmem
    simp only[ObOk] at h1⊢
    rw[e]
    cases hx:G.mu id with
    |none=>rw[hx] at h1;exact h1
    |some x=>
     rw[hx] at h1
     cases x with
     |none=>exact h1
     |some b=>exact⟨row b sz cs _ hlo h1.1,h1.2⟩
   |mp X=>
    obtain⟨b,g1,g2,g3,g4,g5⟩:=h1
    exact⟨b,e.trans g1,g2,g3,g4,fun j hj=>g5 j (hmu j _ hj)⟩
  ·
   cases hob
 ·
  have al: ∀i,zed (σ.take k) i→zed σ i:=by
   rintro i ⟨sz,cs,h⟩
   rw[List.getElem?_take] at h
   split at h
   ·
    exact⟨sz,cs,h⟩
   ·
    cases h
  exact hr.inj i j b (al i hi) (al j hj) (hmu i _ hmi) (hmu j _ hmj)
 ·
  rw[List.length_take,Nat.min_eq_left hk] at hid
  simp only[Cx.cut]
  rw[if_neg xa]
theorem CallE.cut (h:CallE P f args σ r σ')(hk:σ.length≤σ'.length){W:List Nat}(hW: ∀id,id ∉ W→σ'[id]?=σ[id]?)(hl: ∀id∈W,id<σ.length→ ∀ob,σ'[id]?=some ob→ObLo σ.length ob)(hr:Lo σ.length r):CallE P f args σ r (σ'.take σ.length):=
 ⟨h.ent,fun G vargs hrel hsz hrep=>(h.call G vargs hrel hsz hrep).mono (by
  rintro e w' ⟨v,G',rfl,rfl,he,hr',hv⟩
  have hl': ∀ob∈σ'.take σ.length,ObLo σ.length ob:=fun ob hob=>by
   obtain⟨id,hid,rfl⟩:=List.mem_iff_getElem.1 hob
   have hlt:id<σ.length:=by rw[List.length_take] at hid;omega
   have hget:σ'[id]?=some (σ'.take σ.length)[id]:=by
    have:=List.getElem?_eq_getElem hid
    rw[List.getElem?_take,if_pos hlt] at this
    exact this
   by_cases hm:id∈W
   ·
    exact hl id hm hlt _ hget
   ·
    rw[hW id hm] at hget
    exact z5o hrel hget
  refine⟨v,G'.cut σ.length,rfl,rfl,⟨he.base,he.w0,he.st,he.cell,fun id x hx=>?_,he.size,he.rows,he.stN,he.pr,he.prN,he.oth⟩,z8t hr' hk hl',?_⟩
  ·
   have hid:id<σ.length:=by
    rcases Nat.lt_or_ge id σ.length with h1|h1
    ·
     exact h1
    ·
     rw[hrel.fresh id h1] at hx;cases hx
   simp only[Cx.cut,if_pos hid]
   exact he.mu id x hx
  ·
   exact hv.low hr (fun _ _ h=>h) (fun _ _ _=>rfl) (fun id y hid hy=>by simp[Cx.cut,hid,hy]) (fun _=>zce.refl _))⟩
def Cx.keep (G:Cx)(k m:Nat):Cx:={G with mu:=fun i=>if i<k then G.mu i else if i=k then G.mu m else none}
theorem z3v {G:Cx}{k m:Nat}{ob0:Ob}(hr:Rel G σ)(hk:k≤m)(hm:σ[m]?=some ob0)(hl: ∀ob∈σ.take k,ObLo k ob)(hl0:ObLo k ob0):Rel (G.keep k m) (σ.take k++[ob0]):=by
 have hmlt:m<σ.length:=(List.getElem?_eq_some_iff.1 hm).1
 have htk:(σ.take k).length=k:=by rw[List.length_take];omega
 have hlow: ∀v x,Rep G v x→Lo k x→Rep (G.keep k m) v x:=fun v x h hx=>h.low hx (fun _ _ h=>h) (fun _ _ _=>rfl) (fun id y hid hy=>by simp[Cx.keep,hid,hy]) (fun _=>zce.refl _)
 have hmu: ∀i x,(G.keep k m).mu i=some x→i≤k∧G.mu (if i<k then i else m)=some x:=fun i x h=>by
  simp only[Cx.keep] at h
  split at h
  ·
   rename_i h1;exact⟨by omega,by rw[if_pos h1];exact h⟩
  ·
   rename_i h1
   split at h
   ·
    rename_i h2;exact⟨by omega,by rw[if_neg h1];exact h⟩
   ·
    cases h
 have horig: ∀i ob,(σ.take k++[ob0])[i]?=some ob→i≤k∧σ[if i<k then i else m]?=some ob∧(G.keep k m).mu i=G.mu (if i<k then i else m)∧ObLo k ob:=fun i ob h=>by
  rcases Nat.lt_trichotomy i k with h1|h1|h1
  ·
   rw[List.getElem?_append_left xa,List.getElem?_take,if_pos h1] at h
   refine⟨by omega,by rw[if_pos h1];exact h,by simp[Cx.keep,h1],hl ob ?_⟩
   have:(σ.take k)[i]?=some ob:=by rw[List.getElem?_take,if_pos h1];exact h
   exact List.mem_of_getElem? this
  ·
   subst h1
   rw[List.getElem?_append_right xa,htk,Nat.sub_self] at h
   simp at h;subst h
   exact⟨by omega,by rw[if_neg xa];exact hm,by simp[Cx.keep],hl0⟩
  ·
   rw[List.getElem?_eq_none (by simp;omega)] at h;cases h
 have hinj: ∀i j,i≤k→j≤k→(if i<k then i else m)=(if j<k then j else m)→i=j:=fun i j hi hj h=>by
  split at h<;>split at h<;>omega
 refine⟨hr.below,hr.le,hr.st,fun id ob hob=>?_,fun i j b hi hj hmi hmj=>?_,fun id hid=>?_⟩
 ·
  obtain⟨hik,hs,e,hlo⟩:=horig id ob hob
  have h1:=hr.obs _ ob hs
  generalize (if id<k then id else m)=o at hs e h1
  have row: ∀b sz cs fr,(∀c∈cs,Lo k c)→zev G b sz cs fr→zev (G.keep k m) b sz cs fr:=by
   rintro b sz cs fr hlo ⟨cur,t,q,h2,h3,h4,h5⟩
   refine⟨cur,t,q,h2,h3,h4,fun i x hx=>⟨(h5 i x hx).1,(h5 i x hx).2.1,fun j c hc=>?_⟩⟩
   obtain⟨v,h6,h7⟩:=(h5 i x hx).2.2 j c hc
   exact⟨v,h6,hlow v c h7 ((hlo x (List.mem_of_getElem? hx)).cells c (List.mem_of_getElem? hc))⟩
  cases ob with
  |dead=>exact fun b hb=>h1 b (by rw[←e];exact hb)
  | row sz cs=>
   simp only[ObOk] at h1⊢
   rw[e]
   cases hx:G.mu o with
   |none=>rw[hx] at h1;exact h1
   |some x=>
    rw[hx] at h1
    cases x with
    |none=>exact h1
    |some b=>exact⟨row b sz cs _ hlo h1.1,h1.2⟩
  | fz sz cs=>
   simp only[ObOk] at h1⊢
   rw[e]
   cases hx:G.mu o with
   |none=>rw[hx] at h1;exact h1
   |some x=>
    rw[hx] at h1
    cases x with
    |none=>exact h1
    |some b=>exact⟨row b sz cs _ hlo h1.1,h1.2⟩
  |mp X=>
   obtain⟨b,g1,g2,g3,g4,g5⟩:=h1
   refine⟨b,e.trans g1,g2,g3,g4,fun j hj=>?_⟩
   obtain⟨hj1,hj2⟩:=hmu j _ hj
   obtain⟨hi1,hi2⟩:=hmu id _ (e.trans g1)
   exact hinj j id hj1 hi1 ((g5 _ hj2).trans (g5 _ hi2).symm)
 ·
  have al: ∀i,zed (σ.take k++[ob0]) i→i≤k∧zed σ (if i<k then i else m):=by
   rintro i ⟨sz,cs,h⟩
   obtain⟨h1,h2,_⟩:=horig i _ h
   exact⟨h1,sz,cs,h2⟩
  exact hinj i j (al i hi).1 (al j hj).1 (hr.inj _ _ b (al i hi).2 (al j hj).2 (hmu i _ hmi).2 (hmu j _ hmj).2)
 ·
  rw[List.length_append,htk] at hid
  simp only[List.length_singleton] at hid
  simp only[Cx.keep]
  rw[if_neg xa,if_neg xa]
theorem CallE.keep {m sz n:Nat}{ob0:Ob}(h:CallE P f args σ (.own m sz n) σ')(hk:σ.length≤m)(hm:σ'[m]?=some ob0){W:List Nat}(hW: ∀id,id ∉ W→σ'[id]?=σ[id]?)(hl: ∀id∈W,id<σ.length→ ∀ob,σ'[id]?=some ob→ObLo σ.length ob)(hr:ObLo σ.length ob0):CallE P f args σ (.own σ.length sz n) (σ'.take σ.length++[ob0]):=
 ⟨h.ent,fun G vargs hrel hsz hrep=>(h.call G vargs hrel hsz hrep).mono (by
  rintro e w' ⟨v,G',rfl,rfl,he,hr',hv⟩
  have hl': ∀ob∈σ'.take σ.length,ObLo σ.length ob:=fun ob hob=>by
   obtain⟨id,hid,rfl⟩:=List.mem_iff_getElem.1 hob
   have hlt:id<σ.length:=by rw[List.length_take] at hid;omega
   have hget:σ'[id]?=some (σ'.take σ.length)[id]:=by
    have:=List.getElem?_eq_getElem hid
    rw[List.getElem?_take,if_pos hlt] at this
    exact this
   by_cases hm:id∈W
   ·
    exact hl id hm hlt _ hget
   ·
    rw[hW id hm] at hget
    exact z5o hrel hget
  refine⟨v,G'.keep σ.length m,rfl,rfl,⟨he.base,he.w0,he.st,he.cell,fun id x hx=>?_,he.size,he.rows,he.stN,he.pr,he.prN,he.oth⟩,z3v hr' hk hm hl' hr,?_⟩
  ·
   have hid:id<σ.length:=by
    rcases Nat.lt_or_ge id σ.length with h1|h1
    ·
     exact h1
    ·
     rw[hrel.fresh id h1] at hx;cases hx
   simp only[Cx.keep,if_pos hid]
   exact he.mu id x hx
  ·
   have e:(G'.keep σ.length m).mu σ.length=G'.mu m:=by simp[Cx.keep]
   cases hv with
   |own0 _ _ A hA hm2=>exact .own0 _ _ A hA (e.trans hm2)
   |own _ _ _ b cap hm2 hn hc hb=>exact .own _ _ _ b cap (e.trans hm2) hn hc hb)⟩
end
end Aw
namespace Aw
open Go Go.RowKit Go.Proofs
variable [Mk]
def tyIf (P:Program)(t:TypeId):Option Bool:=(P.underlying t).map fun d=>match d with| .interface _=>true|_=>false
section
variable {P:Program}{o:Oper}{F:Frm}{σ σ':List Ob}
theorem zg3 {t:TypeId}{y:Operand}{x:AV}(ho:o.op= .makeInterface t y)(ht:tyIf P t=some false)(hy:F.eval y=x):Does P o F σ (.ifc t x) σ:=
 zbc fun G ρ hr hop=>by
  have h1:=hop y (by simp[ho,Op.operands])
  rw[hy] at h1
  refine⟨.iface t (ρ y),?_, .ifc t _ _ h1⟩
  unfold tyIf at ht
  cases hd:P.underlying t with
  |none=>rw[hd] at ht;cases ht
  |some d=>
   rw[hd] at ht
   simp only[Option.map_some,Option.some.injEq] at ht
   cases d<;>simp_all[execOp,Instr.makeInterface,run_underlying hd]
theorem zlv {xt t:TypeId}{y:Operand}{x:AV}(ho:o.op= .typeAssert y xt t false)(ht:tyIf P t=some false)(hy:F.eval y= .ifc t x):Does P o F σ x σ:=
 zbc fun G ρ hr hop=>by
  have h1:=hop y (by simp[ho,Op.operands])
  rw[hy] at h1
  generalize hv:ρ y=v at h1
  cases h1 with
  | ifc _ u _ h=>
   refine⟨u,?_,h⟩
   unfold tyIf at ht
   cases hd:P.underlying t with
   |none=>rw[hd] at ht;cases ht
   |some d=>
    rw[hd] at ht
    simp only[Option.map_some,Option.some.injEq] at ht
    cases d<;>simp_all[execOp,Instr.typeAssert,run_underlying hd]
structure MethP (P:Program)(t:TypeId)(name:String)(f:FuncId):Prop where
 run: ∀ (a:Addr) (w:World),(method (P.types.size+Made.depth) t (.pointer (some a)) name).run P w= .ok (f, .pointer (some a)) w
structure MethV (P:Program)(t:TypeId)(name:String)(f:FuncId)(e:TypeId):Prop where
 run: ∀ (a:Addr) (w:World),(method (P.types.size+Made.depth) t (.pointer (some a)) name).run P w=(do let v ←loadVar e a;pure (f,v):Sem (FuncId × Value)).run P w
def zl5 (P:Program)(t:TypeId)(name:String)(f:FuncId)(σ:List Ob)(x rx:AV):Prop:=
 ∀ (G:Cx) (v:Value),Rel G σ→Rep G v x→ ∃rv,(method (P.types.size+Made.depth) t v name).run P G.w= .ok (f,rv) G.w∧Rep G rv rx
theorem zz4 {t:TypeId}{name:String}{f:FuncId}{id sz k j:Nat}(h:MethP P t name f):zl5 P t name f σ (.ptr id sz k j) (.ptr id sz k j):=fun G v hr hv=>by
 cases hv with
 |ptr _ _ _ _ b hm=>exact⟨_,h.run _ _, .ptr id sz k j b hm⟩
theorem zjk {t e:TypeId}{name:String}{f:FuncId}{id sz k j:Nat}{ob:Ob}{cs:List AV}{y c:AV}(h:MethV P t name f e)(ha:zcw P e=some false)(hs:σ[id]?=some ob)(hb:ze6 ob=some (sz,cs))(hy:cs[k]?=some y)(hc:y.cells[j]?=some c):zl5 P t name f σ (.ptr id sz k j) c:=fun G v hr hv=>by
 cases hv with
 |ptr _ _ _ _ b hm=>
  obtain⟨g,_,_,h2⟩:=zfp hr hs hb hm hy
  obtain⟨h3,h4⟩:=h2 j c hc
  refine⟨g j,?_,h4⟩
  rw[h.run]
  have:(loadVar e ⟨b,k*sz+j,none⟩).run P G.w= .ok (g j) G.w:=by simp[loadVar,zfy ha,h3]
  simp[this]
theorem z0l {recv:Operand}{name:String}{ar:Array Operand}{ts:Array TypeId}{t:TypeId}{v rv:Value}{f:FuncId}(ho:o.op= .call {callee:= .invoke recv name,args:=ar,argTypes:=ts})(ρ:Operand→Value)(hv:ρ recv= .iface t v)(w:World)
  (hm:(method (P.types.size+Made.depth) t v name).run P w= .ok (f,rv) w) (he:zok P f):(execOp ρ o).run P w= .ok (.enter f (#[rv]++ar.map ρ)) w:=by
 have hx:(#[Value.iface t v]++ar.map ρ)[0]?=some (Value.iface t v):=by
  rw[Array.getElem?_append_left xm];rfl
 have hy:(#[Value.iface t v]++ar.map ρ).extract 1 (#[Value.iface t v]++ar.map ρ).size=ar.map ρ:=by
  apply Array.ext'
  simp[List.take_of_length_le]
 simp only[execOp,ho,resolve,Sem.run_bind,Sem.run_pure,Result.andThen_ok,hv,invoke,hx,callMethod,hy]
 have hp:(program:Sem Program).run P w= .ok P w:=rfl
 simp only[Sem.run_bind,hp,Result.andThen_ok,hm]
 exact he _ w
theorem zcq {recv:Operand}{name:String}{ar:Array Operand}{ts:Array TypeId}{t:TypeId}{x rx r:AV}{args:List AV}{f:FuncId}(ho:o.op= .call {callee:= .invoke recv name,args:=ar,argTypes:=ts})
  (hf:F.eval recv= .ifc t x) (hm:zl5 P t name f σ x rx) (hp:CallE P f args σ r σ') (ha:rx::ar.toList.map F.eval=args):Does P o F σ r σ':=by
 intro G a next Q hr hop hn
 have h1:=hop recv (by simp[ho,Op.operands,Call.operands])
 rw[hf] at h1
 generalize hv:a.eval recv=v at h1
 cases h1 with
 | ifc _ u _ h=>
  obtain⟨rv,h2,h3⟩:=hm G u hr h
  unfold Oper.wp
  rw[z0l ho a.eval hv G.w h2 hp.ent,Oper.upon_enter]
  refine(hp.call G _ hr (by rw[←ha];simp;omega) (fun j v x hj hx=>?_)).mono ?_
  ·
   rw[←ha] at hx
   cases j with
   |zero=>
    rw[Array.getElem?_append_left xm] at hj
    simp at hj hx;subst hj hx;exact h3
   | succ j=>
    have hj':(ar.map a.eval)[j]?=some v:=by
     rw[Array.getElem?_append_right xm] at hj
     simpa using hj
    rw[List.getElem?_cons_succ] at hx
    by_cases hlt:j<ar.size
    ·
     simp[hlt] at hj' hx
     subst hj' hx
     exact hop ar[j] (by simp[ho,Op.operands,Call.operands])
    ·
     simp[hlt] at hj'
  ·
   rintro e w' ⟨v,G',rfl,rfl,he,hr',hv⟩
   exact hn v G' he hr' hv
end
end Aw
namespace Aw
open Go.RowKit
variable [Mk]
section
variable {P:Program}{N:Nat}{l:List Oper}{F F':Frm}{σ:List Ob}{out:List (Nat × AV)}{Q:Exit→Frm→List Ob→Prop}
theorem z45 (h:zkw P N l F σ Q):zx4 P N l F σ Q:=fun G a hs=>
 ze9 (fun e a w q=>by obtain⟨G',F',σ',h1,h2,h3,h4⟩:=q;exact⟨G',F',σ',h1,h2.step,h3,h4⟩) _ _ _ _ (h G a hs)
def EX (P:Program)(N:Nat)(ops:Array Oper)(all:List Oper)(acc:List Kd)(l:List Oper)(F:Frm)(σ:List Ob)(K:Frm→List Ob→Prop):Prop:=
 ∃F' σ' out ks sts,ESteps P N ops l F σ F' σ' out ks sts∧eOk all N (acc.reverse++ks)=true∧K F' σ'
variable {ops:Array Oper}{all:List Oper}{acc:List Kd}{K:Frm→List Ob→Prop}{o:Oper}{d:Nat}{x:AV}{σ1:List Ob}
theorem ze7 (hk:eOk all N acc.reverse=true)(h:K F σ):EX P N ops all acc [] F σ K:=⟨F,σ,[],[],[], .nil F σ,by simpa using hk,h⟩
theorem z4t (hd:o.dst=some d)(hN:Nat.blt d N=true):dOk N o=true:=by unfold dOk;rw[hd];exact hN
theorem dOk_n (hd:o.dst=none):dOk N o=true:=by unfold dOk;rw[hd]
theorem zaz (hd:o.dst=some d)(hN:Nat.blt d N=true)(hr:Runs ops F o true)(hD: ∀σ,Does P o F σ x σ)(h:EX P N ops all (.free::acc) l ((d,x)::F) σ K):EX P N ops all acc (o::l) F σ K:=by
 obtain⟨F',σ',out,ks,sts,h1,h2,h3⟩:=h
 exact⟨F',σ',_,_,_, .free o l F F' σ σ' x out ks sts (z4t hd hN) hr hD (by rw[zdh hd];exact h1),by simpa using h2,h3⟩
theorem z8e (hd:o.dst=some d)(hN:Nat.blt d N=true)(hr:Runs ops F o false)(h:EX P N ops all (.free::acc) l ((d, .s undef)::F) σ K):EX P N ops all acc (o::l) F σ K:=by
 obtain⟨F',σ',out,ks,sts,h1,h2,h3⟩:=h
 exact⟨F',σ',_,_,_, .skip o l F F' σ σ' out ks sts (z4t hd hN) hr (by rw[zdh hd];exact h1),by simpa using h2,h3⟩
theorem zb5 {R:List Nat}(hd:o.dst=some d)(hN:Nat.blt d N=true)(hr:Runs ops F o true)(hD: ∀σ2,(∀id∈R,σ2[id]?=σ[id]?)→Does P o F σ2 x σ2)(h:EX P N ops all (.look R::acc) l ((d,x)::F) σ K):EX P N ops all acc (o::l) F σ K:=by
 obtain⟨F',σ',out,ks,sts,h1,h2,h3⟩:=h
 exact⟨F',σ',_,_,_, .look o l F F' σ σ' x out ks sts R (z4t hd hN) hr hD (by rw[zdh hd];exact h1),by simpa using h2,h3⟩
theorem ze8 {W:List Nat}(hd:o.dst=some d)(hN:Nat.blt d N=true)(hr:Runs ops F o true)(hD:Does P o F σ x σ1)(hW: ∀id,id ∉ W→σ1[id]?=σ[id]?)(h:EX P N ops all (.eff W::acc) l ((d,x)::F) σ1 K):EX P N ops all acc (o::l) F σ K:=by
 obtain⟨F',σ',out,ks,sts,h1,h2,h3⟩:=h
 exact⟨F',σ',_,_,_, .eff o l F F' σ σ1 σ' x out ks sts W (z4t hd hN) hr hD hW (by rw[zdh hd];exact h1),by simpa using h2,h3⟩
theorem zcx {W:List Nat}(hd:o.dst=none)(hr:Runs ops F o true)(hD:Does P o F σ x σ1)(hW: ∀id,id ∉ W→σ1[id]?=σ[id]?)(h:EX P N ops all (.eff W::acc) l ((N, .any)::F) σ1 K):EX P N ops all acc (o::l) F σ K:=by
 obtain⟨F',σ',out,ks,sts,h1,h2,h3⟩:=h
 exact⟨F',σ',_,_,_, .eff o l F F' σ σ1 σ' x out ks sts W (dOk_n hd) hr hD hW (by rw[zer hd];exact h1),by simpa using h2,h3⟩
theorem zgj (h:EX P N l.toArray l [] l F σ (fun F' σ'=>Q .normal F' σ')):zx4 P N l F σ Q:=by
 obtain⟨F',σ',out,ks,sts,h1,h2,h3⟩:=h
 exact z45 (zfb h1 (by simpa using h2) h3)
theorem zb9 {t:TypeId}{x:Operand}{id sz k j:Nat}{ob:Ob}{cs:List AV}{e c:AV}(ho:o.op= .load t x)(ha:zcw P t=some false)(hx:F.eval x= .ptr id sz k j)(hs:σ[id]?=some ob)(hb:ze6 ob=some (sz,cs))(he:cs[k]?=some e)(hc:e.cells[j]?=some c): ∀σ2:List Ob,(∀i∈[id],σ2[i]?=σ[i]?)→Does P o F σ2 c σ2:=
 fun σ2 h=>zao ho ha hx ((h id xm).trans hs) hb he hc
theorem zfu {t:TypeId}{x:Operand}{z:Option Value}{n bt:Nat}{id sz k:Nat}{ob:Ob}{cs:List AV}{e:AV}(ho:o.op= .load t x)(ha:zcw P t=some true)(hi:za6 P t=some (z,n,bt))(hx:F.eval x= .ptr id sz k 0)(hs:σ[id]?=some ob)(hb:ze6 ob=some (sz,cs))(he:cs[k]?=some e)(hn:e.cells.length=n): ∀σ2:List Ob,(∀i∈[id],σ2[i]?=σ[i]?)→Does P o F σ2 (.agg e.cells) σ2:=
 fun σ2 h=>zdg ho ha hi hx ((h id xm).trans hs) hb he hn
theorem zc4 {id i:Nat}{ob ob':Ob}(h:id ∉ [i,σ.length]):(σ.set i ob++[ob'])[id]?=σ[id]?:=by
 have h2:id≠i∧id≠σ.length:=by simpa using h
 rw[zib (by rw[List.length_set];simpa using h2.2),zbo (by simpa using h2.1)]
end
section
variable {P:Program}{N:Nat}{F:Frm}{σ:List Ob}{ops:Array Oper}{o:Oper}{l all:List Oper}{d:Nat}{x:AV}{acc:List Kd}{K:Frm→List Ob→Prop}
theorem ex_s (h:stv (opv o.op F) N ops o F=some (d,x))(k:EX P N ops all (.free::acc) l ((d,x)::F) σ K):EX P N ops all acc (o::l) F σ K:=zaz (zbe h).1 (zbe h).2.1 (zbe h).2.2.1 (fun _=>zhe (zbe h).2.2.2) k
theorem ex_f {t f off n ft:Nat}(hf:zbx P t f=some (off,ft,some n))(h:stv (fdv o.op t f off n F) N ops o F=some (d,x))(k:EX P N ops all (.free::acc) l ((d,x)::F) σ K):EX P N ops all acc (o::l) F σ K:=zaz (zbe h).1 (zbe h).2.1 (zbe h).2.2.1 (fun _=>zmd hf (zbe h).2.2.2) k
theorem ex_l {t:Nat}(ha:zcw P t=some false)(h:stv (ldv o.op t F) N ops o F=some (d,x))(k:EX P N ops all (.free::acc) l ((d,x)::F) σ K):EX P N ops all acc (o::l) F σ K:=zaz (zbe h).1 (zbe h).2.1 (zbe h).2.2.1 (fun _=>zis ha (zbe h).2.2.2) k
theorem ex_w {t n bt:Nat}{z:Option Value}(ha:zcw P t=some true)(hi:za6 P t=some (z,n,bt))(h:stv (lwv o.op t n F) N ops o F=some (d,x))(k:EX P N ops all (.free::acc) l ((d,x)::F) σ K):EX P N ops all acc (o::l) F σ K:=zaz (zbe h).1 (zbe h).2.1 (zbe h).2.2.1 (fun _=>zqj ha hi (zbe h).2.2.2) k
theorem ex_z (h:stz N ops o F=some d)(k:EX P N ops all (.free::acc) l ((d, .s undef)::F) σ K):EX P N ops all acc (o::l) F σ K:=z8e (zhn h).1 (zhn h).2.1 (zhn h).2.2 k
end
end Aw
namespace Aw
open Go Go.RowKit Go.Proofs
section
variable {P:Program}{N:Nat}{F:Frm}{σ σ':List Ob}{Q:Exit→Frm→List Ob→Prop}
theorem zyj {F':Frm}(h:Sub F F'){G:Cx}{a:Act}(hf:FOk G a F):FOk G a F':=by
 induction F' with
 |nil=>intro d;exact .any _
 | cons p F' ih=>
  obtain⟨d,y⟩:=p
  obtain⟨h1,h2⟩:=h
  intro t
  simp only[Frm.get]
  cases e:Nat.beq d t with
  |true=>
   have:=Nat.eq_of_beq_eq_true e
   subst this
   rw[cond_true, ←h1]
   exact hf d
  |false=>exact ih h2 t
theorem z56 {c:Code}(F':Frm)(h: ∀ (G:Cx) (a:Act),FOk G a F→FOk G a F')(k:EWp P N c F' σ Q):EWp P N c F σ Q:=fun G a hs=>k G a ⟨hs.rel,h G a hs.fr,hs.df,hs.nt⟩
theorem zlu {c:Code}(F':Frm)(h:Sub F F')(k:EWp P N c F' σ Q):EWp P N c F σ Q:=z56 F' (fun _ _=>zyj h) k
theorem ew_st {c:Code}(h:σ=σ')(k:EWp P N c F σ' Q):EWp P N c F σ Q:=h▸k
theorem zit {c:Code}{S:Type}(fr:S→Frm)(st:S→List Ob)(inv:S→Prop)(ms:S→Nat)(s0:S)(hf:Sub F (fr s0))(hs:σ=st s0)(h0:inv s0)
  (round: ∀s,inv s→EWp P N c (fr s) (st s) (zfe (fun F' σ'=> ∃s',inv s'∧ms s'<ms s∧Sub F' (fr s')∧σ'=st s') Q)):EWp P N (.loop c) F σ Q:=by
 refine ew_st hs (zlu (fr s0) hf ?_)
 refine z04 (fun m F σ=> ∃s,inv s∧ms s=m∧(∀ (G:Cx) (a:Act),FOk G a F→FOk G a (fr s))∧σ=st s) (ms s0) ⟨s0,h0,rfl,fun _ _ h=>h,rfl⟩ (fun m F σ h=>?_)
 obtain⟨s,h1,rfl,h3,rfl⟩:=h
 refine z56 (fr s) h3 (zhh (round s h1) (fun e F σ q=>?_))
 cases e with
 |normal=>obtain⟨s',g1,g2,g3,g4⟩:=q;exact⟨ms s',g2,s',g1,rfl,fun _ _=>zyj g3,g4⟩
 |_=>exact q
end
def kdMay:Kd→Kd→Bool
 | .look _, .look _=>false
 | .free,_=>false
 |_, .free=>false
 |_,_=>true
def znn:Nat→List (Nat × Kd)→List Kd→List Nat→Bool
 |j,prev,k::ks,m::ms=>(prev.all fun p=>!(kdMay p.2 k)||m.testBit p.1) && znn (j+1) (match k with| .free=>prev|_=>(j,k)::prev) ks ms
 |_,_,[],_=>true
 |_,_,_::_,[]=>false
theorem z3w {a b:Kd}(h:zfm a b=true):kdMay a b=true:=by cases a<;>cases b<;>first|rfl|(simp[zfm] at h)
theorem zpk: ∀ (ks:List Kd) (ms:List Nat) (j:Nat) (prev:List (Nat × Kd)),znn j prev ks ms=true→zno j prev ks ms=true
 |[],ms,j,prev,h=>by cases ms<;>rfl
 |k::ks,[],j,prev,h=>by simp[znn] at h
 | k::ks,m::ms,j,prev,h=>by
  simp only[znn,Bool.and_eq_true] at h
  simp only[zno,Bool.and_eq_true]
  refine⟨List.all_eq_true.2 fun p hp=>?_,zpk ks ms _ _ h.2⟩
  have h1:=List.all_eq_true.1 h.1 p hp
  cases hc:zfm p.2 k with
  |false=>rfl
  |true=>
   rw[z3w hc] at h1
   simpa using h1
def eOkT (l:List Oper)(N:Nat)(ks:List Kd):Bool:=sOk l N && znn 0 [] ks (zdr l [])
theorem zh6 {P:Program}{N:Nat}{ops:Array Oper}{all:List Oper}{acc:List Kd}{F:Frm}{σ:List Ob}{K:Frm→List Ob→Prop}(hk:eOkT all N acc.reverse=true)(h:K F σ):EX P N ops all acc [] F σ K:=
 ze7 (by
  unfold eOkT at hk
  unfold eOk
  simp only[Bool.and_eq_true] at hk⊢
  exact⟨hk.1,zpk _ _ _ _ hk.2⟩) h
end Aw
namespace Aw
open Go.RowKit
inductive Nm (q:Nat→Prop):AV→Prop
 |any:Nm q .any
 |s (v:Value):Nm q (.s v)
 |agg (cs:List AV) (h: ∀c∈cs,Nm q c):Nm q (.agg cs)
 |emp:Nm q .emp
 |sl (l:List AV) (h: ∀c∈l,Nm q c):Nm q (.sl l)
 |ref (cs:List AV) (h: ∀c∈cs,Nm q c):Nm q (.ref cs)
 |own (id sz n:Nat) (h:q id):Nm q (.own id sz n)
 |ptr (id sz i j:Nat) (h:q id):Nm q (.ptr id sz i j)
 |fn (f:FuncId) (cs:List AV) (h: ∀c∈cs,Nm q c):Nm q (.fn f cs)
 |tup (l:List AV) (h: ∀c∈l,Nm q c):Nm q (.tup l)
 |mp (id:Nat) (h:q id):Nm q (.mp id)
 |sub (id sz o n:Nat) (h:q id):Nm q (.sub id sz o n)
 |ifc (t:TypeId) (x:AV) (h:Nm q x):Nm q (.ifc t x)
 |opq:Nm q .opq
theorem Nm.cells {q:Nat→Prop}{x:AV}(h:Nm q x): ∀c∈x.cells,Nm q c:=by
 cases h with
 |agg cs h=>exact h
 |any=>intro c hc;simp[AV.cells] at hc;subst hc;exact .any
 |s v=>intro c hc;simp[AV.cells] at hc;subst hc;exact .s v
 |emp=>intro c hc;simp[AV.cells] at hc;subst hc;exact .emp
 |sl l h=>intro c hc;simp[AV.cells] at hc;subst hc;exact .sl l h
 |ref l h=>intro c hc;simp[AV.cells] at hc;subst hc;exact .ref l h
 |own a b c h=>intro c hc;simp[AV.cells] at hc;subst hc;exact .own _ _ _ h
 |ptr a b c d h=>intro c hc;simp[AV.cells] at hc;subst hc;exact .ptr _ _ _ _ h
 |fn f l h=>intro c hc;simp[AV.cells] at hc;subst hc;exact .fn f l h
 |tup l h=>intro c hc;simp[AV.cells] at hc;subst hc;exact .tup l h
 |mp a h=>intro c hc;simp[AV.cells] at hc;subst hc;exact .mp _ h
 |sub a b c d h=>intro c hc;simp[AV.cells] at hc;subst hc;exact .sub _ _ _ _ h
 |ifc t x h=>intro c hc;simp[AV.cells] at hc;subst hc;exact .ifc t x h
 |opq=>intro c hc;simp[AV.cells] at hc;subst hc;exact .opq
def zyo (G G':Cx):Prop:=G'.base=G.base∧G'.w0=G.w0∧G'.w=G.w∧G'.St=G.St∧G'.Pr=G.Pr
theorem Rep.nm {G G':Cx}{q:Nat→Prop}{v:Value}{x:AV}(h:Rep G v x)(hx:Nm q x)(hs:zyo G G')(hmu: ∀id y,q id→G.mu id=some y→G'.mu id=some y):Rep G' v x:=by
 obtain⟨_,_,hw,hst,_⟩:=hs
 induction h with
 |any v=>exact .any v
 |s v=>exact .s v
 |agg vs cs hl h1 _ ih=>cases hx with|agg _ hx=>exact .agg vs cs hl h1 (fun j v c a b=>ih j v c a b (hx c (List.mem_of_getElem? b)))
 |emp A hA=>exact .emp A hA
 |slnil A cap=>exact .slnil A cap
 |sl b o cap sz l val hcp hm h1 h2 _ ih=>cases hx with|sl _ hx=>exact .sl b o cap sz l val hcp hm h1 (fun k x j c hk hj=>by rw[hst,hw];exact h2 k x j c hk hj) (fun k x j c hk hj=>ih k x j c hk hj ((hx x (List.mem_of_getElem? hk)).cells c (List.mem_of_getElem? hj)))
 |ref b o cs val h1 h2 _ ih=>cases hx with|ref _ hx=>exact .ref b o cs val h1 (fun j c hj=>by rw[hst,hw];exact h2 j c hj) (fun j c hj=>ih j c hj (hx c (List.mem_of_getElem? hj)))
 |own0 id sz A hA hm=>cases hx with|own _ _ _ hx=>exact .own0 id sz A hA (hmu _ _ hx hm)
 |own id sz n b cap hm hn hcp hb=>cases hx with|own _ _ _ hx=>exact .own id sz n b cap (hmu _ _ hx hm) hn hcp (by rw[hw];exact hb)
 |ptr id sz i j b hm=>cases hx with|ptr _ _ _ _ hx=>exact .ptr id sz i j b (hmu _ _ hx hm)
 |fn f vs cs hl _ ih=>cases hx with|fn _ _ hx=>exact .fn f vs cs hl (fun j v c a b=>ih j v c a b (hx c (List.mem_of_getElem? b)))
 |tup vs l hl _ ih=>cases hx with|tup _ hx=>exact .tup vs l hl (fun j v c a b=>ih j v c a b (hx c (List.mem_of_getElem? b)))
 |mp id b hm=>cases hx with|mp _ hx=>exact .mp id b (hmu _ _ hx hm)
 |sub id sz o n b cap A hm hA hc=>cases hx with|sub _ _ _ _ hx=>exact .sub id sz o n b cap A (hmu _ _ hx hm) hA (by rw[hw];exact hc)
 |ifc t v x _ ih=>cases hx with|ifc _ _ hx=>exact .ifc t v x (ih hx)
 |opq v h=>exact .opq v h
def ObNm (q:Nat→Prop):Ob→Prop
 | .row _ cs| .fz _ cs=> ∀c∈cs,Nm q c
 | .mp _=>False
 |_=>True
theorem zvz {G G':Cx}{τ σ:List Ob}{q:Nat→Prop}(π:Nat→Nat)(hr:Rel G τ)(hs:zyo G G')(hmu: ∀id y,q id→G.mu id=some y→G'.mu id=some y)
  (hob: ∀id ob,σ[id]?=some ob→(ob= .dead∧G'.mu id=none)∨(τ[π id]?=some ob∧G'.mu id=G.mu (π id)∧ObNm q ob))
  (hπ: ∀i j,zed σ i→zed σ j→π i=π j→i=j) (hf: ∀id,σ.length≤id→G'.mu id=none):Rel G' σ:=by
 obtain⟨e1,e2,e3,e4,e6⟩:=hs
 have e5:G'.SP=G.SP:=by funext b o;simp only[Cx.SP,e4,e6]
 have al: ∀i,zed σ i→zed τ (π i)∧G'.mu i=G.mu (π i):=by
  rintro i ⟨sz,cs,h⟩
  rcases hob i _ h with ⟨h1,_⟩|⟨h1,h2,_⟩
  ·
   cases h1
  ·
   exact⟨⟨sz,cs,h1⟩,h2⟩
 refine⟨by rw[e1,e2,e3];exact hr.below,by rw[e1,e2];exact hr.le,by rw[e3,e5];exact hr.st,fun id ob ho=>?_,fun i j b hi hj hmi hmj=>?_,hf⟩
 ·
  rcases hob id ob ho with ⟨rfl,h1⟩|⟨h1,h2,h3⟩
  ·
   intro b hb
   rw[h1] at hb;cases hb
  ·
   have h4:=hr.obs _ ob h1
   have row: ∀b sz cs fr,(∀c∈cs,Nm q c)→zev G b sz cs fr→zev G' b sz cs fr:=by
    rintro b sz cs fr hlo ⟨cur,t,f,g2,g3,g4,g5⟩
    refine⟨cur,t,f,by rw[e3];exact g2,g3,g4,fun i x hx=>⟨(g5 i x hx).1,(g5 i x hx).2.1,fun j c hc=>?_⟩⟩
    obtain⟨v,g6,g7⟩:=(g5 i x hx).2.2 j c hc
    exact⟨v,g6,g7.nm ((hlo x (List.mem_of_getElem? hx)).cells c (List.mem_of_getElem? hc)) ⟨e1,e2,e3,e4,e6⟩ hmu⟩
   cases ob with
   |dead=>intro b hb;rw[e3];exact h4 b (by rw[←h2];exact hb)
   | row sz cs=>
    have hlo: ∀c∈cs,Nm q c:=h3
    simp only[ObOk] at h4⊢
    rw[h2]
    cases hx:G.mu (π id) with
    |none=>rw[hx] at h4;exact h4
    |some x=>
     rw[hx] at h4
     cases x with
     |none=>exact h4
     |some b=>exact⟨row b sz cs _ hlo h4.1,by rw[e1];exact h4.2.1,by rw[e5];exact h4.2.2⟩
   | fz sz cs=>
    have hlo: ∀c∈cs,Nm q c:=h3
    simp only[ObOk] at h4⊢
    rw[h2]
    cases hx:G.mu (π id) with
    |none=>rw[hx] at h4;exact h4
    |some x=>
     rw[hx] at h4
     cases x with
     |none=>exact h4
     |some b=>exact⟨row b sz cs _ hlo h4.1,by rw[e4];exact h4.2⟩
   |mp X=>exact h3.elim
 ·
  obtain⟨a1,m1⟩:=al i hi
  obtain⟨a2,m2⟩:=al j hj
  exact hπ i j hi hj (hr.inj _ _ b a1 a2 (by rw[←m1];exact hmi) (by rw[←m2];exact hmj))
def Hol (hs:List Nat)(G:Cx):Prop:= ∀id∈hs,G.mu id=none
def zrf (P:Program)(o:Oper)(F:Frm)(σ:List Ob)(hs:List Nat)(x:AV)(σ':List Ob)(hs':List Nat):Prop:=
 ∀ (G:Cx) (a:Act) (next:Act→World→Prop) (Q:Exit→Act→World→Prop),Rel G σ→Hol hs G→(∀y∈o.op.operands,Rep G (a.eval y) (F.eval y))→
  (∀v G',G.Ext G'→Rel G' σ'→Hol hs' G'→Rep G' v x→next (a.put o.dst v) G'.w)→o.wp P a G.w next Q
section
variable {P:Program}{o:Oper}{F:Frm}{σ σ':List Ob}{hs:List Nat}{x x':AV}
theorem zrf.congr {F':Frm}{ops:Array Oper}{hs':List Nat}(h:zrf P o F σ hs x σ' hs')(he: ∀t∈o.looksAt ops,F.get t=F'.get t):zrf P o F' σ hs x σ' hs':=fun G a next Q hr hh hop hn=>
 h G a next Q hr hh (fun y hy=>by rw[zpr he y hy];exact hop y hy) hn
theorem zx0 (h:Does P o F σ x σ')(hx:Nm (· ∉ hs) x)(ho: ∀id ob,σ'[id]?=some ob→(id∈hs→ob= .dead)∧(id ∉ hs→ObNm (· ∉ hs) ob)):zrf P o F σ hs x σ' hs:=fun G a next Q hr hh hop hn=>
 h G a next Q hr hop fun v G' he hr' hv=>by
  let G2:Cx:={G' with mu:=fun i=>if i∈hs then none else G'.mu i}
  have hmu: ∀id y,id ∉ hs→G'.mu id=some y→G2.mu id=some y:=fun id y h1 h2=>by
   show(if id∈hs then none else G'.mu id)=some y
   rw[if_neg h1];exact h2
  refine hn v G2 ⟨he.base,he.w0,he.st,he.cell,fun id y hy=>?_,he.size,he.rows,he.stN,he.pr,he.prN,he.oth⟩ (zvz (fun i=>i) hr' ⟨rfl,rfl,rfl,rfl,rfl⟩ hmu (fun id ob hob=>?_) (fun i j _ _ e=>e) (fun id hid=>?_)) (fun id hid=>if_pos hid) (hv.nm hx ⟨rfl,rfl,rfl,rfl,rfl⟩ hmu)
  ·
   refine hmu id y (fun hid=>?_) (he.mu id y hy)
   rw[hh id hid] at hy;cases hy
  ·
   by_cases hid:id∈hs
   ·
    exact .inl ⟨(ho id ob hob).1 hid,if_pos hid⟩
   ·
    exact .inr ⟨hob,if_neg hid,(ho id ob hob).2 hid⟩
  ·
   show(if id∈hs then none else G'.mu id)=none
   rw[hr'.fresh id hid];split<;>rfl
theorem znc {q:Nat→Prop}{x:AV}(h: ∀c∈x.cells,Nm q c):Nm q x:=by
 by_cases hx: ∃cs,x= .agg cs
 ·
  obtain⟨cs,rfl⟩:=hx;exact .agg cs h
 ·
  have:x.cells=[x]:=by cases x<;>first|rfl|(exact absurd ⟨_,rfl⟩ hx)
  exact h x (by rw[this];simp)
theorem z6y {G:Cx}{q:Nat→Prop}(key: ∀id b,G.mu id=some b→q id){v:Value}{x:AV}(h:Rep G v x):Nm q x:=by
 induction h with
 |any v=>exact .any
 |s v=>exact .s v
 |agg vs cs hl h1 _ ih=>
  refine .agg cs fun c hc=>?_
  obtain⟨j,hj,rfl⟩:=List.mem_iff_getElem.1 hc
  exact ih j _ _ (Array.getElem?_eq_getElem xa) (List.getElem?_eq_getElem hj)
 |emp A hA=>exact .emp
 |slnil A cap=>exact .sl [] xm
 |sl b o cap sz l val hc hm h1 h2 _ ih=>
  refine .sl l fun e he=>znc fun c hcc=>?_
  obtain⟨i,hi,rfl⟩:=List.mem_iff_getElem.1 he
  obtain⟨j,hj,rfl⟩:=List.mem_iff_getElem.1 hcc
  exact ih i _ j _ (List.getElem?_eq_getElem hi) (List.getElem?_eq_getElem hj)
 |ref b o cs val h1 h2 _ ih=>
  refine .ref cs fun c hc=>?_
  obtain⟨j,hj,rfl⟩:=List.mem_iff_getElem.1 hc
  exact ih j _ (List.getElem?_eq_getElem hj)
 |own0 id sz A hA hm=>exact .own _ _ _ (key _ _ hm)
 |own id sz n b cap hm hn hc hb=>exact .own _ _ _ (key _ _ hm)
 |ptr id sz k j b hm=>exact .ptr _ _ _ _ (key _ _ hm)
 |fn f vs cs hl _ ih=>
  refine .fn f cs fun c hc=>?_
  obtain⟨j,hj,rfl⟩:=List.mem_iff_getElem.1 hc
  exact ih j _ _ (Array.getElem?_eq_getElem xa) (List.getElem?_eq_getElem hj)
 |tup vs cs hl _ ih=>
  refine .tup cs fun c hc=>?_
  obtain⟨j,hj,rfl⟩:=List.mem_iff_getElem.1 hc
  exact ih j _ _ (Array.getElem?_eq_getElem xa) (List.getElem?_eq_getElem hj)
 |mp id b hm=>exact .mp _ (key _ _ hm)
 |sub id sz o n b cap A hm hA _=>exact .sub _ _ _ _ (key _ _ hm)
 |ifc t v x _ ih=>exact .ifc t x ih
 |opq v h=>exact .opq
def isMp:Ob→Bool
 | .mp _=>true
 |_=>false
theorem zy2 {G:Cx}{q:Nat→Prop}(hr:Rel G σ)(key: ∀id b,G.mu id=some b→q id){id:Nat}{ob:Ob}(hob:σ[id]?=some ob)(hm:isMp ob=false):ObNm q ob:=by
 have h1:=hr.obs id ob hob
 have row: ∀b sz cs fr,zev G b sz cs fr→ ∀c∈cs,Nm q c:=by
  rintro b sz cs fr ⟨cur,t,q',h2,h3,h4,h5⟩ e he
  obtain⟨i,hi,rfl⟩:=List.mem_iff_getElem.1 he
  obtain⟨_,_,h6⟩:=h5 i _ (List.getElem?_eq_getElem hi)
  refine znc fun c hc=>?_
  obtain⟨j,hj,rfl⟩:=List.mem_iff_getElem.1 hc
  obtain⟨v,_,h7⟩:=h6 j _ (List.getElem?_eq_getElem hj)
  exact z6y key h7
 cases ob with
 | row sz cs=>
  simp only[ObOk] at h1
  cases hx:G.mu id with
  |none=>rw[hx] at h1;exact h1.elim
  |some x=>
   rw[hx] at h1
   cases x with
   |none=>simp only at h1;subst h1;intro c hc;simp at hc
   |some b=>exact row b sz cs _ h1.1
 | fz sz cs=>
  simp only[ObOk] at h1
  cases hx:G.mu id with
  |none=>rw[hx] at h1;exact h1.elim
  |some x=>
   rw[hx] at h1
   cases x with
   |none=>simp only at h1;subst h1;intro c hc;simp at hc
   |some b=>exact row b sz cs _ h1.1
 |dead=>trivial
 |mp X=>cases hm
theorem Hol.key {G:Cx}(hh:Hol hs G): ∀id b,G.mu id=some b→id ∉ hs:=fun id b hb hid=>by rw[hh id hid] at hb;cases hb
theorem z63 {G:Cx}(hr:Rel G σ)(hh:Hol hs G){id:Nat}{ob:Ob}(hob:σ[id]?=some ob)(hm:isMp ob=false):ObNm (· ∉ hs) ob:=zy2 hr hh.key hob hm
theorem zuf (h:Does P o F σ x σ')(hx:Nm (· ∉ hs) x)(W:List Nat)(hW: ∀id,id ∉ W→σ'[id]?=σ[id]?)(hd: ∀id∈hs,σ[id]?=some .dead)(hWd: ∀id∈W,id ∉ hs)
  (hWo: ∀id∈W, ∀ob:Ob,σ'[id]?=some ob→ObNm (· ∉ hs) ob) (hmp: ∀ (id:Nat) (ob:Ob),σ[id]?=some ob→isMp ob=false):zrf P o F σ hs x σ' hs:=fun G a next Q hr hh hop hn=>
by
 have ho: ∀ (id:Nat) (ob:Ob),σ'[id]?=some ob→(id∈hs→ob= .dead)∧(id ∉ hs→ObNm (· ∉ hs) ob):=fun id ob hob=>by
  refine⟨fun hid=>?_,fun hid=>?_⟩
  ·
   rw[hW id (fun hw=>hWd id hw hid),hd id hid] at hob
   exact(Option.some.inj hob).symm
  ·
   by_cases hw:id∈W
   ·
    exact hWo id hw ob hob
   ·
    rw[hW id hw] at hob
    exact z63 hr hh hob (hmp id ob hob)
 exact zx0 h hx ho G a next Q hr hh hop hn
inductive RnTo (l h:Nat):AV→AV→Prop
 |ptr (sz k j:Nat):RnTo l h (.ptr l sz k j) (.ptr h sz k j)
 |own (sz n:Nat):RnTo l h (.own l sz n) (.own h sz n)
theorem zxz {ob:Ob}{h:Nat}(hd:Does P o F σ x (σ++[ob]))(hh0:h∈hs)(hlt:h<σ.length)(hsd: ∀id∈hs,σ[id]?=some .dead)(hx:RnTo σ.length h x x')(hob:ObNm (fun i=>i ∉ hs∧i<σ.length) ob)
  (ho: ∀id ob,σ[id]?=some ob→id ∉ hs→ObNm (fun i=>i ∉ hs∧i<σ.length) ob):zrf P o F σ hs x' (σ.set h ob) (hs.filter fun i=>!Nat.beq i h):=fun G a next Q hr hh hop hn=>
 hd G a next Q hr hop fun v G' he hr' hv=>by
  let G2:Cx:={G' with mu:=fun i=>if i=h then G'.mu σ.length else if i∈hs∨σ.length≤i then none else G'.mu i}
  have g0:G2.mu h=G'.mu σ.length:=if_pos J
  have g1: ∀id,id≠h→(id∈hs∨σ.length≤id)→G2.mu id=none:=fun id h1 h2=>by
   show(if id=h then G'.mu σ.length else if id∈hs∨σ.length≤id then none else G'.mu id)=none
   rw[if_neg h1,if_pos h2]
  have g2: ∀id,id ∉ hs→id<σ.length→G2.mu id=G'.mu id:=fun id h1 h2=>by
   show(if id=h then G'.mu σ.length else if id∈hs∨σ.length≤id then none else G'.mu id)=G'.mu id
   have h4:id≠h:=fun e=>h1 (by rw[e];exact hh0)
   have h5: ¬ (id∈hs∨σ.length≤id):=by rintro (h3|h3);exact h1 h3;omega
   rw[if_neg h4,if_neg h5]
  have hmu: ∀id y,(id ∉ hs∧id<σ.length)→G'.mu id=some y→G2.mu id=some y:=fun id y h1 h2=>(g2 id h1.1 h1.2).trans h2
  have hset: ∀i,i≠h→(σ.set h ob)[i]?=σ[i]?:=fun i hi=>List.getElem?_set_ne (Ne.symm hi)
  refine hn v G2 ⟨he.base,he.w0,he.st,he.cell,fun id y hy=>?_,he.size,he.rows,he.stN,he.pr,he.prN,he.oth⟩ (zvz (fun i=>if i=h then σ.length else i) hr' ⟨rfl,rfl,rfl,rfl,rfl⟩ hmu (fun id ob' hob'=>?_) (fun i j hi hj e=>?_) (fun id hid=>?_)) (fun id hid=>?_) ?_
  ·
   refine hmu id y ⟨fun hid=>?_,?_⟩ (he.mu id y hy)
   ·
    rw[hh id hid] at hy;cases hy
   ·
    rcases Nat.lt_or_ge id σ.length with h1|h1
    ·
     exact h1
    ·
     rw[hr.fresh id h1] at hy;cases hy
  ·
   by_cases hid:id=h
   ·
    subst hid
    rw[List.getElem?_set_self hlt] at hob'
    cases hob'
    right
    rw[if_pos J]
    exact⟨by simp,g0,hob⟩
   ·
    rw[hset id hid] at hob'
    have hl:id<σ.length:=(List.getElem?_eq_some_iff.1 hob').1
    by_cases h2:id∈hs
    ·
     left
     rw[hsd id h2] at hob'
     exact⟨(Option.some.inj hob').symm,g1 id hid (.inl h2)⟩
    ·
     right
     rw[if_neg hid]
     exact⟨by rw[List.getElem?_append_left hl];exact hob',g2 id h2 hl,ho id ob' hob' h2⟩
  ·
   have hl: ∀i,zed (σ.set h ob) i→i<σ.length:=by
    rintro i ⟨sz,cs,h1⟩
    have:=(List.getElem?_eq_some_iff.1 h1).1
    simpa using this
   have a1:=hl i hi
   have a2:=hl j hj
   by_cases h1:i=h
   ·
    by_cases h2:j=h
    ·
     rw[h1,h2]
    ·
     rw[if_pos h1,if_neg h2] at e;omega
   ·
    by_cases h2:j=h
    ·
     rw[if_neg h1,if_pos h2] at e;omega
    ·
     rw[if_neg h1,if_neg h2] at e;exact e
  ·
   rw[List.length_set] at hid
   exact g1 id xa (.inr hid)
  ·
   rw[List.mem_filter] at hid
   refine g1 id (fun e=>?_) (.inl hid.1)
   subst e
   have:=hid.2
   simp at this
  ·
   cases hx with
   |ptr sz k j=>cases hv with|ptr _ _ _ _ b hm=>exact .ptr _ _ _ _ b (g0.trans hm)
   |own sz n=>
    cases hv with
    |own0 _ _ A hA hm=>exact .own0 _ _ A hA (g0.trans hm)
    |own _ _ _ b cap hm h1 h2 h3=>exact .own _ _ _ b cap (g0.trans hm) h1 h2 h3
theorem zue {ob:Ob}{h:Nat}(hd:Does P o F σ x (σ++[ob]))(hh0:h∈hs)(hlt:h<σ.length)(hsd: ∀id∈hs,σ[id]?=some .dead)(hx:RnTo σ.length h x x')(hob:ObNm (fun i=>i ∉ hs∧i<σ.length) ob)
  (hmp: ∀ (id:Nat) (ob:Ob),σ[id]?=some ob→isMp ob=false):zrf P o F σ hs x' (σ.set h ob) (hs.filter fun i=>!Nat.beq i h):=fun G a next Q hr hh hop hn=>by
 have key: ∀id b,G.mu id=some b→id ∉ hs∧id<σ.length:=fun id b hb=>⟨hh.key id b hb,by
  rcases Nat.lt_or_ge id σ.length with h1|h1
  ·
   exact h1
  ·
   rw[hr.fresh id h1] at hb;cases hb⟩
 exact zxz hd hh0 hlt hsd hx hob (fun id ob' h1 _=>zy2 hr key h1 (hmp id ob' h1)) G a next Q hr hh hop hn
theorem Nm.mono {q q':Nat→Prop}(hq: ∀i,q i→q' i){x:AV}(h:Nm q x):Nm q' x:=by
 induction h with
 |any=>exact .any
 |s v=>exact .s v
 |agg cs _ ih=>exact .agg cs ih
 |emp=>exact .emp
 |sl l _ ih=>exact .sl l ih
 |ref l _ ih=>exact .ref l ih
 |own a b c h=>exact .own _ _ _ (hq _ h)
 |ptr a b c d h=>exact .ptr _ _ _ _ (hq _ h)
 |fn f l _ ih=>exact .fn f l ih
 |tup l _ ih=>exact .tup l ih
 |mp a h=>exact .mp _ (hq _ h)
 |sub a b c d h=>exact .sub _ _ _ _ (hq _ h)
 |ifc t x _ ih=>exact .ifc t x ih
 |opq=>exact .opq
theorem ObNm.mono {q q':Nat→Prop}(hq: ∀i,q i→q' i){ob:Ob}(h:ObNm q ob):ObNm q' ob:=by
 cases ob with
 |row n cs=>exact fun c hc=>(h c hc).mono hq
 |fz n cs=>exact fun c hc=>(h c hc).mono hq
 |mp X=>exact h
 |dead=>trivial
mutual
def nmB (q:Nat→Bool):AV→Bool
 | .any| .s _| .emp| .opq=>true
 | .ifc _ x=>nmB q x
 | .agg l| .sl l| .ref l| .fn _ l| .tup l=>nmsB q l
 | .own id _ _| .ptr id _ _ _| .mp id| .sub id _ _ _=>q id
def nmsB (q:Nat→Bool):List AV→Bool
 |[]=>true
 |x::l=>nmB q x && nmsB q l
end
mutual
theorem zzy {q:Nat→Bool}: ∀ (x:AV),nmB q x=true→Nm (fun i=>q i=true) x
 | .any,_=> .any
 | .s v,_=> .s v
 | .emp,_=> .emp
 | .agg l,h=> .agg l (zh1 l (by simpa[nmB] using h))
 | .sl l,h=> .sl l (zh1 l (by simpa[nmB] using h))
 | .ref l,h=> .ref l (zh1 l (by simpa[nmB] using h))
 | .fn f l,h=> .fn f l (zh1 l (by simpa[nmB] using h))
 | .tup l,h=> .tup l (zh1 l (by simpa[nmB] using h))
 | .own id a b,h=> .own id a b (by simpa[nmB] using h)
 | .ptr id a b c,h=> .ptr id a b c (by simpa[nmB] using h)
 | .mp id,h=> .mp id (by simpa[nmB] using h)
 | .opq,_=> .opq
 | .ifc t x,h=> .ifc t x (zzy x (by simpa[nmB] using h))
 | .sub id a b c,h=> .sub id a b c (by simpa[nmB] using h)
theorem zh1 {q:Nat→Bool}: ∀ (l:List AV),nmsB q l=true→ ∀c∈l,Nm (fun i=>q i=true) c
 |[],_=>by simp
 | x::l,h=>by
  simp only[nmsB,Bool.and_eq_true] at h
  have h1:=zzy x h.1
  have h2:=zh1 l h.2
  intro c hc
  rcases List.mem_cons.1 hc with e|hc
  ·
   rw[e];exact h1
  ·
   exact h2 c hc
end
def z7i (q:Nat→Bool):Ob→Bool
 | .row _ cs| .fz _ cs=>nmsB q cs
 | .mp _=>false
 | .dead=>true
theorem zvl {q:Nat→Bool}{ob:Ob}(h:z7i q ob=true):ObNm (fun i=>q i=true) ob:=by
 cases ob with
 |row n cs=>exact zh1 cs h
 |fz n cs=>exact zh1 cs h
 |mp X=>cases h
 |dead=>trivial
def rnB (l h:Nat):AV→AV→Bool
 | .ptr a b c d, .ptr a' b' c' d'=>Nat.beq a l && Nat.beq a' h && Nat.beq b b' && Nat.beq c c' && Nat.beq d d'
 | .own a b c, .own a' b' c'=>Nat.beq a l && Nat.beq a' h && Nat.beq b b' && Nat.beq c c'
 |_,_=>false
theorem rnB_of {l h:Nat}{x y:AV}(e:rnB l h x y=true):RnTo l h x y:=by
 unfold rnB at e
 split at e
 ·
  simp only[Bool.and_eq_true] at e
  obtain⟨⟨⟨⟨e1,e2⟩,e3⟩,e4⟩,e5⟩:=e
  rw[Nat.eq_of_beq_eq_true e1,Nat.eq_of_beq_eq_true e2,Nat.eq_of_beq_eq_true e3,Nat.eq_of_beq_eq_true e4,Nat.eq_of_beq_eq_true e5]
  exact .ptr _ _ _
 ·
  simp only[Bool.and_eq_true] at e
  obtain⟨⟨⟨e1,e2⟩,e3⟩,e4⟩:=e
  rw[Nat.eq_of_beq_eq_true e1,Nat.eq_of_beq_eq_true e2,Nat.eq_of_beq_eq_true e3,Nat.eq_of_beq_eq_true e4]
  exact .own _ _
 ·
  cases e
end
end Aw
namespace Aw
open Go.RowKit
def TAtH (P:Program)(N:Nat)(l:List Oper)(E:List Nat)(T:List Nat→List Ob)(H:List Nat→List Nat)(o:Oper)(i:Nat)(F:Frm)(p:Nat × AV):Prop:=
 (i ∉ E∧((Runs l.toArray F o true∧ ∃x,p=ent N o x∧ ∀q:Nat→Bool,zrf P o F (T (E.filter q)) (H (E.filter q)) x (T (E.filter q)) (H (E.filter q)))∨(Runs l.toArray F o false∧p=ent N o (.s undef))))∨
 (Runs l.toArray F o true∧ ∀q:Nat→Bool,zjq (zdr l []) E (E.filter q)=true→zj3 (zdr l []) E (E.filter q) i=true→ ∃x,p=ent N o x∧zrf P o F (T (E.filter q)) (H (E.filter q)) x (T (insE E (E.filter q) i)) (H (insE E (E.filter q) i)))
section
variable {P:Program}{N:Nat}{l:List Oper}{F F':Frm}{σ:List Ob}{out:List (Nat × AV)}{Q:Exit→Frm→List Ob→Prop}
theorem zxq {σ':List Ob}{E:List Nat}{T:List Nat→List Ob}{H:List Nat→List Nat}(hqs:sOk l N=true)(hself: ∀i,((zdr l []).getD i 0).testBit i=true→False)(hEl: ∀j∈E,j<l.length)(hlen:l.length=out.length)(hF':F'=out.reverse++F)(hTE:T E=σ')
  (hat: ∀ (i:Nat) o,l[i]?=some o→dOk N o=true∧ ∃p,out[i]?=some p∧(∃x,p=ent N o x)∧TAtH P N l E T H o i ((out.take i).reverse++F) p) (hQ:Q .normal F' σ') (G0:Cx):
  ∀ (fuel:Nat) (L:Array Bool) (G:Cx) (a:Act),G0.Ext G→L.size=l.length→left L.toList=fuel→zg4 l (fun j=>L.getD j false=true)→Rep G (a.tmps.getD N undef) (F.get N)→Hol (H (E.filter fun j=>L.getD j false)) G→S8 N G a (fr (fun j=>L.getD j false) 0 out F) (T (E.filter fun j=>L.getD j false))→wpAny P .any l.toArray (zkb N G0 Q) fuel L a G.w:=by
 unfold sOk at hqs
 simp only[Bool.and_eq_true] at hqs
 obtain⟨hq,hlk⟩:=hqs
 have hlk': ∀ (i:Nat) o,l[i]?=some o→ ∀t∈o.looksAt l.toArray,t<N:=fun i o ho t ht=>by
  have h1:=List.all_eq_true.1 hlk o (List.mem_of_getElem? ho)
  have h2:=List.all_eq_true.1 h1 t ht
  simpa[Nat.blt_eq] using h2
 unfold qOk at hq
 have hq': ∀j oj,l[j]?=some oj→(∀e∈oj.after.toList,Region.binds .any e=true→e.on<j)∧ ∀i oi,i<j→l[i]?=some oi→zhk l.toArray oi oj=true→((zdr l []).getD j 0).testBit i=true:=by
  intro j oj hj
  have h1:=List.all_eq_true.1 hq j (by simpa using (List.getElem?_eq_some_iff.1 hj).1)
  rw[hj] at h1
  simp only[Bool.and_eq_true,List.all_eq_true] at h1
  refine⟨fun e he hb=>?_,fun i oi hij hi hc=>?_⟩
  ·
   have:=h1.1 e he
   rw[hb] at this
   simpa[Nat.blt_eq] using this
  ·
   have:=h1.2 i (by simpa using hij)
   rw[hi] at this
   simpa[hc] using this
 have hsound: ∀ (D:Nat→Prop),zg4 l D→ ∀j i,((zdr l []).getD j 0).testBit i=true→D j→D i:=fun D hD=>zf1 hD l [] (fun j o h=>by simpa using h) (fun j i h=>by simp at h)
 have hnone: ∀ (L:Array Bool),L.size=l.length→Region.ready .any l.toArray L=[]→ ∀j,j<l.length→L.getD j false=true:=by
  intro L hL hr j
  induction j using Nat.strongRecOn with
  | _ j ih=>
   intro hj
   cases hc:L.getD j false with
   |true=>rfl
   | false=>
    exfalso
    obtain⟨o,ho⟩: ∃o,l[j]?=some o:=⟨_,List.getElem?_eq_getElem hj⟩
    have hm:j∈Region.ready .any l.toArray L:=by
     refine mem_ready.2 ⟨?_,o,by simpa using ho,fun e he hb=>?_⟩
     ·
      have hlt:j<L.size:=by omega
      simp[Array.getD_eq_getD_getElem?,hlt] at hc⊢
      exact hc
     ·
      have hon:=(hq' j o ho).1 e (by simpa using he) hb
      exact ih e.on hon xa
    rw[hr] at hm
    cases hm
 -- when all have come up
 have hend: ∀ (L:Array Bool) (G:Cx) (a:Act),G0.Ext G→L.size=l.length→Region.ready .any l.toArray L=[]→S8 N G a (fr (fun j=>L.getD j false) 0 out F) (T (E.filter fun j=>L.getD j false))→(∀j∈E,j<l.length)→zkb N G0 Q .normal a G.w:=by
  intro L G a hst hL hr h8 hEl
  have e1:E.filter (fun j=>L.getD j false)=E:=List.filter_eq_self.2 fun j hj=>hnone L hL hr j (hEl j hj)
  rw[e1,hTE] at h8
  refine⟨G,F',σ',rfl,hst,⟨h8.rel,fun t=>?_,h8.df,h8.nt⟩,hQ⟩
  have h1:=h8.fr t
  have h2:(fr (fun j=>L.getD j false) 0 out F).get t=(fr (fun j=>decide (j<0+out.length)) 0 out F).get t:=zec out 0 F F J (fun j p hp _=>by
   have hj:j<out.length:=(List.getElem?_eq_some_iff.1 hp).1
   simp only[Nat.zero_add]
   rw[hnone L hL hr j xa]
   simp[hj])
  rw[h2,zi4,List.take_length, ←hF'] at h1
  exact h1
 intro fuel
 induction fuel with
 | zero=>
  intro L G a hst hL hlf hcl _ hH h8
  have hr:Region.ready .any l.toArray L=[]:=by
   rw[List.eq_nil_iff_forall_not_mem]
   intro i hi
   obtain⟨h1,o,ho,_⟩:=mem_ready.1 hi
   have hlt:i<L.size:=by rw[hL];simpa using (Array.getElem?_eq_some_iff.1 ho).1
   have:0<left L.toList:=zma i (by simp[Array.getD_eq_getD_getElem?,hlt] at h1⊢;exact h1)
   omega
  exact⟨hr,hend L G a hst hL hr h8 hEl⟩
 | succ fuel ih=>
  intro L G a hst hL hlf hcl hNr hH h8
  refine⟨fun hr=>hend L G a hst hL hr h8 hEl,fun i hi=>?_⟩
  obtain⟨h1,o,ho,hall⟩:=mem_ready.1 hi
  have hli:l[i]?=some o:=by simpa using ho
  have hlt:i<L.size:=by rw[hL];exact(List.getElem?_eq_some_iff.1 hli).1
  have hfalse:L.getD i false=false:=by simp[Array.getD_eq_getD_getElem?,hlt] at h1⊢;exact h1
  obtain⟨g2,p0,g1,⟨x0,hx0⟩,g4⟩:=hat i o hli
  -- the others that touch its slots: those before it have come up, those behind it have not
  have hcl':zg4 l (fun j=>j=i∨L.getD j false=true):=by
   intro j oj hj hD e he hb
   rcases hD with rfl|hD
   ·
    rw[hli] at hj;cases hj
    exact .inr (hall e (by simpa using he) hb)
   ·
    exact .inr (hcl j oj hj hD e he hb)
  have hord: ∀j oj,l[j]?=some oj→j≠i→(j<i→zhk l.toArray oj o=true→L.getD j false=true)∧(i<j→zhk l.toArray o oj=true→L.getD j false=false):=by
   intro j oj hj hne
   refine⟨fun hji hc=>?_,fun hij hc=>?_⟩
   ·
    rcases hsound _ hcl' i j ((hq' i o hli).2 j oj hji hj hc) (.inl rfl) with h|h
    ·
     exact absurd h hne
    ·
     exact h
   ·
    cases hx:L.getD j false with
    |false=>rfl
    |true=>
     have:=hsound _ hcl j i ((hq' j oj hj).2 i o hij hli hc) hx
     rw[hfalse] at this
     cases this
  have hsel: ∀t,t∈o.looksAt l.toArray→Frm.get ((out.take i).reverse++F) t=(fr (fun j=>L.getD j false) 0 out F).get t:=by
   intro t ht
   rw[←zi4 out 0 i F]
   refine(zec out 0 F F J (fun j p hp hpt=>?_)).symm
   simp only[Nat.zero_add]
   have hj:j<l.length:=by rw[hlen];exact(List.getElem?_eq_some_iff.1 hp).1
   obtain⟨_,p',k1,⟨x',rfl⟩,_⟩:=hat j _ (List.getElem?_eq_getElem hj)
   rw[k1] at hp
   cases hp
   have htN:=hlk' i o hli t ht
   have k2:l[j].dst=some t:=zpv hpt htN
   by_cases hji:j=i
   ·
    subst hji;rw[hfalse];simp
   ·
    rcases Nat.lt_or_gt_of_ne hji with h|h
    ·
     rw[(hord j _ (List.getElem?_eq_getElem hj) hji).1 h (zes.1 k2 ht)];simp[h]
    ·
     rw[(hord j _ (List.getElem?_eq_getElem hj) hji).2 h (zes.2.2 k2 ht)];simp;omega
  -- what is known behind it
  have hnext: ∀ (x:AV),p0=ent N o x→ ∀ (G':Cx) (v:Value),G.Ext G'→Rel G' (T (E.filter fun j=>(L.setIfInBounds i true).getD j false))→Hol (H (E.filter fun j=>(L.setIfInBounds i true).getD j false)) G'→Rep G' v x→wpAny P .any l.toArray (zkb N G0 Q) fuel (L.setIfInBounds i true) (a.put o.dst v) G'.w:=by
   intro x hx G' v he hr' hH' hv
   rw[hx] at g1
   refine ih _ G' _ (hst.trans he) (by simpa using hL) ?_ ?_ ?_ hH' ⟨hr',fun t=>?_,by cases o.dst<;>exact h8.df.step he.step,by cases o.dst<;>simp[Act.put,h8.nt]⟩
   ·
    have:=zir L.toList i (by simp[Array.getD_eq_getD_getElem?,hlt] at hfalse⊢;exact hfalse)
    rw[Array.toList_setIfInBounds];omega
   ·
    intro j oj hj hD e he2 hb
    have key: ∀k,(L.setIfInBounds i true).getD k false=true↔(k=i∨L.getD k false=true):=fun k=>by
     by_cases hk:i=k
     ·
      subst hk;simp[Array.getD_eq_getD_getElem?,hlt]
     ·
      simp[Array.getD_eq_getD_getElem?,Array.getElem?_setIfInBounds,hk,Ne.symm hk]
    rw[key] at hD⊢
    exact hcl' j oj hj hD e he2 hb
   ·
    cases ho2:o.dst with
    |none=>exact hNr.ext he
    |some d=>
     have hd:=zjb g2 ho2
     have:d≠N:=Nat.ne_of_lt hd
     have h1:(a.put (some d) v).tmps.getD N undef=a.tmps.getD N undef:=by simp[Act.put,Array.getD_eq_getD_getElem?,Array.getElem?_setIfInBounds,this]
     rw[h1];exact hNr.ext he
   ·
    have hselL: ∀k,k≠i→(L.setIfInBounds i true).getD k false=L.getD k false:=fun k hk=>by
     simp[Array.getD_eq_getD_getElem?,Array.getElem?_setIfInBounds,Ne.symm hk]
    by_cases hte:t=(ent N o x).1
    ·
     cases ho2:o.dst with
     |none=>
      rw[zer ho2] at hte
      have hte:t=N:=hte
      rw[hte]
      refine zv2 out 0 F (hNr.ext he) (fun p hp hpt=>?_)
      obtain⟨j,hj,rfl⟩:=List.mem_iff_getElem.1 hp
      obtain⟨k2,p',k1,⟨x',hx'⟩,_⟩:=hat j l[j] (List.getElem?_eq_getElem xa)
      have k3:out[j]=ent N l[j] x':=by rw[List.getElem?_eq_getElem hj] at k1;exact(Option.some.inj k1).trans hx'
      rw[k3] at hpt⊢
      rw[zua hpt k2]
      exact .any _
     | some d=>
      rw[zdh ho2] at hte g1
      dsimp only at hte
      subst hte
      have h2:(fr (fun j=>(L.setIfInBounds i true).getD j false) 0 out F).get t=x:=znr out 0 F i g1 (by simp[Array.getD_eq_getD_getElem?,hlt]) (fun j p hp hij hc hpt=>by
       simp only[Nat.zero_add] at hc
       rw[hselL j xa] at hc
       have hj:j<l.length:=by rw[hlen];exact(List.getElem?_eq_some_iff.1 hp).1
       obtain⟨_,p',k1,⟨x',rfl⟩,_⟩:=hat j _ (List.getElem?_eq_getElem hj)
       rw[k1] at hp
       cases hp
       have htN:=zjb g2 ho2
       have k2:l[j].dst=some t:=zpv hpt htN
       have:=(hord j _ (List.getElem?_eq_getElem hj) xa).2 hij (zes.2.1 ho2 k2)
       rw[this] at hc
       cases hc)
      rw[h2]
      have:t<a.tmps.size:=by rw[h8.nt];exact zjb g2 ho2
      simpa[Act.put,Array.getD_eq_getD_getElem?,this] using hv
    ·
     have h2:(fr (fun j=>(L.setIfInBounds i true).getD j false) 0 out F).get t=(fr (fun j=>L.getD j false) 0 out F).get t:=zec out 0 F F J (fun j p hp hpt=>by
      simp only[Nat.zero_add]
      refine hselL j (fun e=>?_)
      subst e
      rw[g1] at hp
      cases hp
      exact hte hpt.symm)
     rw[h2]
     have h3:=(h8.fr t).ext he
     cases ho2:o.dst with
     |none=>exact h3
     |some d=>
      rw[zdh ho2] at hte
      have hte:t≠d:=hte
      simpa[Act.put,Array.getD_eq_getD_getElem?,Array.getElem?_setIfInBounds,Ne.symm hte] using h3
  have hset: ∀j,(L.setIfInBounds i true).getD j false=(L.getD j false||Nat.beq j i):=fun j=>by
   by_cases hj:j=i
   ·
    subst hj;simp[Array.getD_eq_getD_getElem?,hlt]
   ·
    have hb:Nat.beq j i=false:=by
     cases hh:Nat.beq j i with
     |false=>rfl
     |true=>exact absurd (Nat.eq_of_beq_eq_true hh) hj
    simp[Array.getD_eq_getD_getElem?,Array.getElem?_setIfInBounds,Ne.symm hj,hb]
  have hdn:E.filter (fun j=>(L.setIfInBounds i true).getD j false)=insE E (E.filter fun j=>L.getD j false) i:=by
   unfold insE
   refine List.filter_congr fun j hj=>?_
   rw[hset]
   congr 1
   rw[Bool.eq_iff_iff]
   simp[hj]
  have hmem: ∀j,(E.filter fun j=>L.getD j false).contains j=true↔j∈E∧L.getD j false=true:=fun j=>by simp
  have hclD:zjq (zdr l []) E (E.filter fun j=>L.getD j false)=true:=by
   refine List.all_eq_true.2 fun j hj=>List.all_eq_true.2 fun k hk=>?_
   obtain⟨hj1,hj2⟩:=List.mem_filter.1 hj
   cases hb:((zdr l []).getD j 0).testBit k with
   |false=>rfl
   |true=>
    rw[Bool.not_true,Bool.false_or]
    exact(hmem k).2 ⟨hk,hsound _ hcl j k hb hj2⟩
  have hrdD:zj3 (zdr l []) E (E.filter fun j=>L.getD j false) i=true:=by
   unfold zj3
   simp only[Bool.and_eq_true]
   refine⟨⟨?_,List.all_eq_true.2 fun k hk=>?_⟩,List.all_eq_true.2 fun j hj=>?_⟩
   ·
    cases hb:(E.filter fun j=>L.getD j false).contains i with
    |false=>rfl
    |true=>have:=((hmem i).1 hb).2;rw[hfalse] at this;cases this
   ·
    cases hb:((zdr l []).getD i 0).testBit k with
    |false=>rfl
    | true=>
     rw[Bool.not_true,Bool.false_or]
     rcases hsound _ hcl' i k hb (.inl rfl) with h|h
     ·
      exfalso
      subst h
      -- an operation does not wait for itself
      exact hself k hb
     ·
      exact(hmem k).2 ⟨hk,h⟩
   ·
    cases hb:((zdr l []).getD j 0).testBit i with
    |false=>rfl
    |true=>
     have:=hsound _ hcl j i hb (List.mem_filter.1 hj).2
     rw[hfalse] at this;cases this
  unfold wpOp
  simp only[ho]
  rcases g4 with ⟨hiE,⟨k1,x,hx,k2⟩|⟨k1,hx⟩⟩|⟨k1,k2⟩
  ·
   rw[if_pos ((k1.congr hsel).wanted h8.fr)]
   left
   refine((k2 fun j=>L.getD j false).congr hsel) G a _ _ h8.rel hH (fun y _=>zc1 h8.fr y) (fun v G' he hr' hH' hv=>?_)
   refine hnext x hx G' v he ?_ ?_ hv<;>
   ·
    have e:E.filter (fun j=>(L.setIfInBounds i true).getD j false)=E.filter fun j=>L.getD j false:=List.filter_congr fun j hj=>by
     rw[hset]
     have:Nat.beq j i=false:=by
      cases hh:Nat.beq j i with
      |false=>rfl
      |true=>exact absurd (Nat.eq_of_beq_eq_true hh▸hj) hiE
     rw[this,Bool.or_false]
    rw[e];assumption
  ·
   rw[if_neg (by rw[(k1.congr hsel).wanted h8.fr];simp)]
   refine hnext _ hx G undef (.refl G) ?_ ?_ (.s _)<;>
   ·
    have e:E.filter (fun j=>(L.setIfInBounds i true).getD j false)=E.filter fun j=>L.getD j false:=List.filter_congr fun j hj=>by
     rw[hset]
     have:Nat.beq j i=false:=by
      cases hh:Nat.beq j i with
      |false=>rfl
      |true=>exact absurd (Nat.eq_of_beq_eq_true hh▸hj) hiE
     rw[this,Bool.or_false]
    rw[e];first|exact h8.rel|exact hH
  ·
   rw[if_pos ((k1.congr hsel).wanted h8.fr)]
   left
   obtain⟨x,hx,k3⟩:=k2 _ hclD hrdD
   refine(k3.congr hsel) G a _ _ h8.rel hH (fun y _=>zc1 h8.fr y) (fun v G' he hr' hH' hv=>?_)
   refine hnext x hx G' v he ?_ ?_ hv<;>(rw[hdn];assumption)
theorem zxt {σ':List Ob}{E:List Nat}{T:List Nat→List Ob}{H:List Nat→List Nat}(hqs:sOk l N=true)(hself: ∀i,((zdr l []).getD i 0).testBit i=true→False)(hEl: ∀j∈E,j<l.length)(hlen:l.length=out.length)(hF':F'=out.reverse++F)(K:Nat)(hT0:T []=σ++List.replicate K .dead)(hH0: ∀id∈H [],σ.length≤id)(hTE:T E=σ')
  (hat: ∀ (i:Nat) o,l[i]?=some o→dOk N o=true∧ ∃p,out[i]?=some p∧(∃x,p=ent N o x)∧TAtH P N l E T H o i ((out.take i).reverse++F) p) (hQ:Q .normal F' σ'):zkw P N l F σ Q:=fun G a h8=>by
 have hno: ∀j,(Array.replicate l.length false).getD j false=false:=fun j=>by
  simp only[Array.getD_eq_getD_getElem?,Array.getElem?_replicate]
  split<;>rfl
 have h3: ∀ (out:List (Nat × AV)) (k:Nat) (F:Frm),fr (fun j=>(Array.replicate l.length false).getD j false) k out F=F:=by
  intro out
  induction out with
  |nil=>intro k F;rfl
  |cons p out ih=>
   intro k F
   have:=hno k
   simp only[fr,this,cond_false]
   exact ih _ _
 have h4:E.filter (fun j=>(Array.replicate l.length false).getD j false)=[]:=by
  rw[List.filter_eq_nil_iff]
  intro j _
  rw[hno];simp
 have al: ∀i,zed (σ++List.replicate K Ob.dead) i→zed σ i:=by
  rintro i ⟨sz,cs,h⟩
  by_cases hl:i<σ.length
  ·
   rw[List.getElem?_append_left hl] at h
   exact⟨sz,cs,h⟩
  ·
   rw[List.getElem?_append_right xa] at h
   have:=(List.mem_replicate.1 (List.mem_of_getElem? h)).2
   cases this
 refine zxq hqs hself hEl hlen hF' hTE hat hQ G l.length _ G a (.refl G) xm (by simp[zkc]) ?_ (h8.fr N) ?_ ?_
 ·
  intro j o hj hD
  rw[hno] at hD
  cases hD
 ·
  rw[h4];exact fun id hid=>h8.rel.fresh id (hH0 id hid)
 ·
  rw[h3,h4,hT0]
  refine⟨⟨h8.rel.below,h8.rel.le,h8.rel.st,fun id ob hob=>?_,fun i j b hi hj=>h8.rel.inj i j b (al i hi) (al j hj),fun id hid=>h8.rel.fresh id (by simp at hid;omega)⟩,h8.fr,h8.df,h8.nt⟩
  by_cases hl:id<σ.length
  ·
   rw[List.getElem?_append_left hl] at hob
   exact h8.rel.obs id ob hob
  ·
   rw[List.getElem?_append_right xa] at hob
   have:ob= .dead:=(List.mem_replicate.1 (List.mem_of_getElem? hob)).2
   subst this
   intro b hb
   rw[h8.rel.fresh id xa] at hb;cases hb
end
end Aw
end Go.Proofs.YtjdpnadhgjohnaaGreatDoor
