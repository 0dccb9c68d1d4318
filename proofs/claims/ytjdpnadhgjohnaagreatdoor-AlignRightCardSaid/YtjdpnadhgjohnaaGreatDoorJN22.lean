import Derived.Test.YtjdpnadhgjohnaaGreatDoorJN0
import Derived.Test.YtjdpnadhgjohnaaGreatDoorJN21
import Derived.Test.YtjdpnadhgjohnaaGreatDoorJN16
set_option linter.unusedSimpArgs false
set_option linter.unusedVariables false
set_option linter.unusedSectionVars false
namespace Go.Proofs.YtjdpnadhgjohnaaGreatDoor
namespace Aw
open Go Go.RowKit
abbrev Orc:=FuncId→List AV→Option AV
def zid (P:Program)(orc:Orc):Prop:= ∀f args r,orc f args=some r→Pure P f args r
abbrev CallF:=FuncId→List AV→Sto→Option (AV × Sto × List Nat)
def zgk (P:Program)(call:CallF):Prop:= ∀f args s r s' W,call f args s=some (r,s',W)→CallE P f args s.abs r s'.abs∧Chg s s' W
def zla (P:Program)(t:TypeId)(ev:Operand→AV)(σ:Sto)(x:Operand)(l h:Option Operand):Option ER:=match za5 P t with
 |none=>none
 | some e=>match za6 P e with
  |none=>none
  | some (_,n,_)=>match ev x,l,h with
   | .own id sz m,none,some y=>match ev y with
    | .s (.int _ (.ofNat k))=>bif Nat.ble k m then some (.own id sz k,σ, .free) else none
    |_=>none
   | .sl L,none,some y=>match ev y with
    | .s (.int _ (.ofNat k))=>bif Nat.ble k L.length && L.all (fun e=>Nat.beq e.cells.length n) then some (.sl (L.take k),σ, .free) else none
    |_=>none
   | .sl L,some y,none=>match ev y with
    | .s (.int _ (.ofNat k))=>bif Nat.ble k L.length && L.all (fun e=>Nat.beq e.cells.length n) then some (.sl (L.drop k),σ, .free) else none
    |_=>none
   | .sl L,some y,some y'=>match ev y,ev y' with
    | .s (.int _ (.ofNat k)), .s (.int _ (.ofNat k'))=>bif Nat.ble k k' && Nat.ble k' L.length && L.all (fun e=>Nat.beq e.cells.length n) then some (.sl ((L.take k').drop k),σ, .free) else none
    |_,_=>none
   | .own id sz m,some y,none=>match ev y with
    | .s (.int _ (.ofNat k))=>bif Nat.beq n sz && Nat.blt 0 m && Nat.ble k m then some (.sub id sz k (m-k),σ, .free) else none
    |_=>none
   |_,_,_=>none
def ovr (ev:Operand→AV)(d:Nat)(x:AV):Operand→AV
 | .tmp t=>bif Nat.beq d t then x else ev (.tmp t)
 |y=>ev y
def zqs (P:Program)(t:TypeId)(ev:Operand→AV)(σ:Sto)(x:Operand)(l h:Option Operand):Option ER:=match x,l with
 | .tmp d,some _=>bif h.isNone then zla P t ev σ x l h else match ev (.tmp d) with
  | .own id sz n=>match σ.get id with
   | some (.row sz' cs)=>bif Nat.beq sz' sz && Nat.beq n cs.length then match zla P t (ovr ev d (.sl cs)) (σ.set id (.fz sz cs)) x l h with
     |some (r,σ', .free)=>some (r,σ', .eff [id])
     |_=>none
    else none
   |_=>none
  |_=>zla P t ev σ x l h
 |_,_=>zla P t ev σ x l h
section
variable {P:Program}{o:Oper}{F:Frm}{s:Sto}
theorem zum {L:List AV}{n:Nat}(h:L.all (fun e=>Nat.beq e.cells.length n)=true): ∀e∈L,e.cells.length=n:=fun e he=>Nat.eq_of_beq_eq_true (List.all_eq_true.1 h e he)
theorem ziu {t:TypeId}{x:Operand}{l h:Option Operand}{r:ER}(ho:o.op= .slice t x l h none)(hh:zla P t F.eval s x l h=some r):OpOk P o F s r:=by
 unfold zla at hh
 split at hh
 ·
  cases hh
 ·
  rename_i e ht
  split at hh
  ·
   cases hh
  ·
   rename_i z n bt hi
   split at hh
   ·
    rename_i id sz m y hx
    split at hh
    ·
     rename_i kd k hy
     cases hb:Nat.ble k m with
     |false=>rw[hb] at hh;cases hh
     |true=>rw[hb] at hh;cases hh;exact .free _ (fun σ=>zi7 ho ht hi hx hy rfl (Nat.le_of_ble_eq_true hb))
    ·
     cases hh
   ·
    rename_i L y hx
    split at hh
    ·
     rename_i kd k hy
     generalize hb:(Nat.ble k L.length && L.all (fun e=>Nat.beq e.cells.length n))=b at hh
     cases b with
     |false=>cases hh
     |true=>
      cases hh
      simp only[Bool.and_eq_true] at hb
      exact .free _ (fun σ=>zso ho ht hi hx hy J (Nat.le_of_ble_eq_true hb.1) (zum hb.2))
    ·
     cases hh
   ·
    rename_i L y hx
    split at hh
    ·
     rename_i kd k hy
     generalize hb:(Nat.ble k L.length && L.all (fun e=>Nat.beq e.cells.length n))=b at hh
     cases b with
     |false=>cases hh
     |true=>
      cases hh
      simp only[Bool.and_eq_true] at hb
      exact .free _ (fun σ=>zlw ho ht hi hx hy J (Nat.le_of_ble_eq_true hb.1) (zum hb.2))
    ·
     cases hh
   ·
    rename_i L y y' hx
    split at hh
    ·
     rename_i kd k kd' k' hy hy'
     generalize hb:(Nat.ble k k' && Nat.ble k' L.length && L.all (fun e=>Nat.beq e.cells.length n))=b at hh
     cases b with
     |false=>cases hh
     |true=>
      cases hh
      simp only[Bool.and_eq_true] at hb
      exact .free _ (fun σ=>zqz ho ht hi hx hy hy' J J (Nat.le_of_ble_eq_true hb.1.1) (Nat.le_of_ble_eq_true hb.1.2) (zum hb.2))
    ·
     cases hh
   ·
    rename_i id sz m y hx
    split at hh
    ·
     rename_i kd k hy
     generalize hb:(Nat.beq n sz && Nat.blt 0 m && Nat.ble k m)=b at hh
     cases b with
     |false=>cases hh
     |true=>
      cases hh
      simp only[Bool.and_eq_true] at hb
      exact .free _ (fun σ=>zkm ho ht hi (Nat.eq_of_beq_eq_true hb.1.1) hx (by simpa[Nat.blt_eq] using hb.1.2) hy J (Nat.le_of_ble_eq_true hb.2))
    ·
     cases hh
   ·
    cases hh
theorem zt5 {t:TypeId}{x:Operand}{l h:Option Operand}{r:ER}(ho:o.op= .slice t x l h none)(hh:zqs P t F.eval s x l h=some r):OpOk P o F s r:=by
 unfold zqs at hh
 split at hh
 ·
  rename_i d y
  cases hn:h.isNone with
  |true=>rw[hn,cond_true] at hh;exact ziu ho hh
  |false=>
  rw[hn,cond_false] at hh
  split at hh
  ·
   rename_i id sz n hx
   split at hh
   ·
    rename_i sz' cs hs
    generalize hb:(Nat.beq sz' sz && Nat.beq n cs.length)=b at hh
    cases b with
    |false=>cases hh
    | true=>
     simp only[Bool.and_eq_true] at hb
     obtain rfl:=Nat.eq_of_beq_eq_true hb.1
     rw[cond_true] at hh
     split at hh
     ·
      rename_i r' σ' he
      cases hh
      have hov:ovr F.eval d (.sl cs)=Frm.eval ((d, .sl cs)::F):=by
       funext y
       cases y with
       |tmp t=>
        simp only[ovr,Frm.eval,Frm.get]
       |_=>rfl
      rw[hov] at he
      have h1:=ziu ho he
      have h2:σ'=s.set id (.fz sz' cs):=by cases h1;rfl
      have h3:=h1.does
      rw[Sto.set_abs] at h3
      refine .eff _ _ _ (z1s hx (zo4 hs) (Nat.eq_of_beq_eq_true hb.2) h3) (fun i hi=>?_)
      rw[h2,Sto.set_abs]
      exact zbo hi
     ·
      cases hh
   ·
    cases hh
  ·
   exact ziu ho hh
 ·
  exact ziu ho hh
end
def fr1 (r:Option AV)(σ:Sto):Option ER:=match r with|some x=>some (x,σ, .free)|none=>none
def frV (r:Option Value)(σ:Sto):Option ER:=match r with|some x=>some (.s x,σ, .free)|none=>none
def z06 (orc:Orc)(call:CallF)(ev:Operand→AV)(s:Sto)(fo:Operand)(ar:Array Operand):Option ER:=match ev fo with
 | .fn f caps=>match orc f (ar.toList.map ev++caps) with
  |some r=>some (r,s, .free)
  |none=>match call f (ar.toList.map ev++caps) s with
   |some (r,s',W)=>some (r,s', .eff W)
   |none=>none
 |_=>none
def zxh (ops:Array Oper)(o:Oper):Bool:=match o.dst with
 |none=>false
 | some d=>ops.toList.any fun o'=>match o'.op with
  | .call c=>match c.callee,c.args.toList with
   | .builtin .append,[_, .tmp t]=>Nat.beq t d
   |_,_=>false
  |_=>false
structure Ins where
 run:FT→Sto→Option ER
def zne (P:Program)(orc:Orc)(call:CallF)(fin:Bool):Op→Ins
 | .move y=>⟨fun t s=>some (fev t y,s, .free)⟩
 | .assign y=>⟨fun t s=>some (fev t y,s, .free)⟩
 | .pick c x y=>⟨fun t s=>match fev t c with
  | .s (.bool b)=>some (bif b then fev t x else fev t y,s, .free)
  |_=>none⟩
 | .binOp b k x y _=>⟨fun t s=>frV (z8m P b k (fev t x) (fev t y)) s⟩
 | .unOp b _ x=>⟨fun t s=>frV (evUn b (fev t x)) s⟩
 | .convert k k' x=>⟨fun t s=>frV (z1g P k k' (fev t x)) s⟩
 | .fieldAddr k x f=>⟨fun t s=>fr1 (zjp P k f (fev t x)) s⟩
 | .field k x f=>⟨fun t s=>fr1 (zt6 P k f (fev t x)) s⟩
 | .index k x y=>⟨fun t s=>frV (zlb P k (fev t x) (fev t y)) s⟩
 | .nilCheck x=>⟨fun t s=>fr1 (z8i (fev t x)) s⟩
 | .indexAddr k x y=>⟨fun t s=>fr1 (zjo P k (fev t x) (fev t y)) s⟩
 | .extract x i=>⟨fun t s=>fr1 (znz i (fev t x)) s⟩
 | .load k x=>⟨fun t s=>z1a P k s (fev t x)⟩
 | .store k p y=>⟨fun t s=>zt4 P k s (fev t p) (fev t y)⟩
 | .alloc e=>⟨fun _ s=>zt8 P e s⟩
 | .box _ y=>⟨fun t s=>z8l s (fev t y)⟩
 | .build k parts=>⟨fun t s=>fr1 (zt7 P k (parts.toList.map fun (i,x)=>(i,fev t x))) s⟩
 | .buildSlice k len parts=>match fin with
  |true=>⟨fun t s=>z1c P k len (parts.toList.map fun (i,x)=>(i,fev t x)) s⟩
  |false=>⟨fun t s=>z8j P k len (parts.toList.map fun (i,x)=>(i,fev t x)) s⟩
 | .makeSlice k y y'=>⟨fun t s=>z08 P k s (fev t y) (fev t y')⟩
 | .makeFunc (.func f) fi caps=>bif fi.toList.isEmpty then⟨fun t s=>some (.fn f (caps.toList.map (fev t)),s, .free)⟩ else⟨fun _ _=>none⟩
 | .slice k x l h none=>⟨fun t s=>zqs P k (fev t) s x l h⟩
 | .call c=>match c.callee,c.args.toList,c.argTypes.toList with
  | .builtin .len,[x],[k]=>⟨fun t s=>frV (z8k P k (fev t x)) s⟩
  | .builtin .append,[x,y],[k,k']=>bif Nat.beq k k' then⟨fun t s=>z1i P k s (fev t x) (fev t y)⟩ else⟨fun _ _=>none⟩
  | .builtin .copy,[x,y],[k,k']=>bif Nat.beq k k' then⟨fun t s=>z1e P k s (fev t x) (fev t y)⟩ else⟨fun _ _=>none⟩
  | .builtin .max,[x,y],[_,_]=>⟨fun t s=>frV (zme .max (fev t x) (fev t y)) s⟩
  | .builtin .min,[x,y],[_,_]=>⟨fun t s=>frV (zme .min (fev t x) (fev t y)) s⟩
  | .value fo,_,_=>⟨fun t s=>z06 orc call (fev t) s fo c.args⟩
  |_,_,_=>⟨fun _ _=>none⟩
 |_=>⟨fun _ _=>none⟩
section
variable {P:Program}{o:Oper}{F:Frm}{s:Sto}{orc:Orc}{call:CallF}
theorem zpn {r:Option AV}{e:ER}(h:fr1 r s=some e)(k: ∀x,r=some x→ ∀σ,Does P o F σ x σ):OpOk P o F s e:=by
 unfold fr1 at h
 split at h
 ·
  rename_i x;cases h;exact .free _ (k x rfl)
 ·
  cases h
theorem zns {r:Option Value}{e:ER}(h:frV r s=some e)(k: ∀x,r=some x→ ∀σ,Does P o F σ (.s x) σ):OpOk P o F s e:=by
 unfold frV at h
 split at h
 ·
  rename_i x;cases h;exact .free _ (k x rfl)
 ·
  cases h
theorem zhp {α:Type}{a:Array α}{l:List α}(h:a.toList=l):a=l.toArray:=by rw[←h]
theorem ziq (ho:zid P orc)(hc:zgk P call){op:Op}{fin:Bool}(e:o.op=op){t:FT}(hF:FEq F t){r:ER}(h:(zne P orc call fin op).run t s=some r):OpOk P o F s r:=by
 have hv:=hF.ev
 cases op<;>simp only[zne,reduceCtorEq, ←hv] at h
 case move y=>cases h;exact .free _ (fun σ=>zsp e rfl)
 case assign y=>cases h;exact .free _ (fun σ=>zoa e rfl)
 case pick c x y=>
  split at h
  ·
   rename_i b hb;cases h;exact .free _ (fun σ=>zn3 e hb)
  ·
   cases h
 case binOp=>exact zns h (fun v hv σ=>z4j e hv)
 case unOp=>exact zns h (fun v hv σ=>z8g e hv)
 case convert=>exact zns h (fun v hv σ=>z1f e hv)
 case fieldAddr=>exact zpn h (fun v hv σ=>zos e hv)
 case field=>exact zpn h (fun v hv σ=>zxn e hv)
 case index=>exact zns h (fun v hv σ=>zqt e hv)
 case nilCheck=>exact zpn h (fun v hv σ=>z4f e hv)
 case indexAddr=>exact zpn h (fun v hv σ=>zor e hv)
 case extract=>exact zpn h (fun v hv σ=>zsk e hv)
 case load=>exact z09 e h
 case store=>exact zxm e h
 case alloc=>exact zxp e h
 case box=>exact z4i e h
 case build=>exact zpn h (fun v hv σ=>zxo e hv)
 case buildSlice=>
  cases fin with
  |true=>simp only[←hv] at h;exact z1b e h
  |false=>simp only[←hv] at h;exact z4g e h
 case makeSlice=>exact z07 e h
 case makeFunc fn fi caps=>
  cases fn<;>simp only[zne,reduceCtorEq, ←hv] at h
  rename_i f
  cases hb:fi.toList.isEmpty with
  |false=>rw[hb] at h;cases h
  |true=>
   rw[hb] at h;simp only[cond_true, ←hv] at h;cases h
   have:fi= #[]:=zhp (List.isEmpty_iff.1 hb)
   subst this
   exact .free _ (fun σ=>zsv e J)
 case slice k x l hh m=>
  cases m with
  |none=>simp only[zne, ←hv] at h;exact zt5 e h
  |some m=>simp[zne] at h
 case call c=>
  obtain⟨cal,ar,ts⟩:=c
  split at h
  ·
   rename_i x k h1 h2 h3
   dsimp only at h1 h2 h3
   subst h1
   obtain rfl:=zhp h2
   obtain rfl:=zhp h3
   simp only[←hv] at h
   exact zns h (fun v hv σ=>z4h e hv)
  ·
   rename_i x y k k' h1 h2 h3
   dsimp only at h1 h2 h3
   subst h1
   obtain rfl:=zhp h2
   obtain rfl:=zhp h3
   cases hb:Nat.beq k k' with
   |false=>rw[hb] at h;cases h
   |true=>
    rw[hb] at h
    obtain rfl:=Nat.eq_of_beq_eq_true hb
    simp only[cond_true, ←hv] at h
    exact z1h e h
  ·
   rename_i x y k k' h1 h2 h3
   dsimp only at h1 h2 h3
   subst h1
   obtain rfl:=zhp h2
   obtain rfl:=zhp h3
   cases hb:Nat.beq k k' with
   |false=>rw[hb] at h;cases h
   |true=>
    rw[hb] at h
    obtain rfl:=Nat.eq_of_beq_eq_true hb
    simp only[cond_true, ←hv] at h
    exact z1d e h
  ·
   rename_i x y k k' h1 h2 h3
   dsimp only at h1 h2 h3
   subst h1
   obtain rfl:=zhp h2
   obtain rfl:=zhp h3
   simp only[←hv] at h
   exact zns h (fun v hv σ=>zny e hv)
  ·
   rename_i x y k k' h1 h2 h3
   dsimp only at h1 h2 h3
   subst h1
   obtain rfl:=zhp h2
   obtain rfl:=zhp h3
   simp only[←hv] at h
   exact zns h (fun v hv σ=>zny e hv)
  ·
   rename_i fo h1
   dsimp only at h1 h
   subst h1
   simp only[←hv] at h
   unfold z06 at h
   split at h
   ·
    rename_i f caps hf
    split at h
    ·
     rename_i r' hr;cases h;exact .free _ (fun σ=>zai e hf (ho _ _ _ hr) rfl)
    ·
     split at h
     ·
      rename_i r' s' W hr
      cases h
      obtain⟨g1,g2⟩:=hc _ _ _ _ _ _ hr
      exact .eff _ _ _ (zb4 e hf g1 J) g2
     ·
      cases h
   ·
    cases h
  ·
   cases h
def kdW:Kd→List Nat
 | .eff W=>W
 |_=>[]
theorem OpOk.chg {s':Sto}{x:AV}{k:Kd}(h:OpOk P o F s (x,s',k)):Chg s s' (kdW k):=by
 cases h with
 |free=>exact .refl _
 |look=>exact .refl _
 |eff _ _ W _ hW=>exact hW
theorem Chg.acc {a b c:Sto}{V W:List Nat}(h:Chg a b V)(k:Chg b c W):Chg a c (W++V):=fun id hid=>by
 simp only[List.mem_append,not_or] at hid
 exact(k id hid.1).trans (h id hid.2)
end
def zqm:Value→Bool
 | .tuple vs=>vs.toList.isEmpty
 |_=>false
theorem zxf {v:Value}(h:zqm v=true):v=undef:=by
 unfold zqm at h
 split at h
 ·
  rw[zhp (List.isEmpty_iff.1 h)];rfl
 ·
  cases h
structure GrI where
 run:FT→Option Bool
def mkG (ops:Array Oper)(o:Oper):GrI:=match o.guard with
 |none=>⟨fun _=>some true⟩
 | some (j,want)=>match (ops[j]?).bind (·.dst) with
  |none=>⟨fun _=>none⟩
  |some d=>⟨fun t=>match fget t d with
   | .s (.bool c)=>some (c==want)
   | .s v=>bif zqm v then some false else none
   |_=>none⟩
theorem z5v {ops:Array Oper}{F:Frm}{t:FT}{o:Oper}{b:Bool}(hF:FEq F t)(h:(mkG ops o).run t=some b):Runs ops F o b:=by
 unfold mkG at h
 split at h
 ·
  rename_i hg;cases h;exact zaa hg
 ·
  rename_i j want hg
  split at h
  ·
   cases h
  ·
   rename_i d hd
   dsimp only at h
   rw[←hF d] at h
   split at h
   ·
    rename_i c hc;cases h;exact zmw hg hd hc
   ·
    rename_i v _ hv
    cases hu:zqm v with
    |false=>rw[hu] at h;cases h
    |true=>rw[hu] at h;cases h;exact zct hg hd (by rw[hv,zxf hu])
   ·
    cases h
structure StI where
 run:FT→Sto→Option (FT × Sto × Kd × AV)
structure PutI where
 put:FT→AV→FT
def ztm (N:Nat)(o:Oper):PutI:=match o.dst with
 |some d=>⟨fun t x=>fset t d x⟩
 |none=>⟨fun t _=>fset t N .any⟩
theorem zvo {N:Nat}{o:Oper}{F:Frm}{t:FT}(h:FEq F t)(x:AV):FEq (ent N o x::F) ((ztm N o).put t x):=by
 cases hd:o.dst with
 |some d=>rw[zdh hd];unfold ztm;rw[hd];exact h.put d x
 |none=>rw[zer hd];unfold ztm;rw[hd];exact h.put N .any
structure RgI where
 run:FT→Sto→List Nat→Option (FT × Sto × List Nat)
structure DrI where
 run:FT→Sto→Option (FT × Sto × List Kd × List FT × List AV)
section
variable (P:Program)(N:Nat)(orc:Orc)(call:CallF)
def zvn (ops:Array Oper)(o:Oper):StI:=match dOk N o,o.guard with
 |false,_=>⟨fun _ _=>none⟩
 |true,none=>⟨fun t s=>match (zne P orc call (zxh ops o) o.op).run t s with
  |some (x,s1,k)=>some ((ztm N o).put t x,s1,k,x)
  |none=>none⟩
 | true,some _=>⟨fun t s=>match (mkG ops o).run t with
  |none=>none
  |some false=>some ((ztm N o).put t (.s undef),s, .free, .s undef)
  |some true=>match (zne P orc call (zxh ops o) o.op).run t s with
   |some (x,s1,k)=>some ((ztm N o).put t x,s1,k,x)
   |none=>none⟩
def z3l (ops:Array Oper):List Oper→RgI
 |[]=>⟨fun t s W=>some (t,s,W)⟩
 |o::l=>⟨fun t s W=>match (zvn P N orc call ops o).run t s with
  |some (t1,s1,k,_)=>(z3l ops l).run t1 s1 (kdW k++W)
  |none=>none⟩
def zqi (ops:Array Oper):List Oper→DrI
 |[]=>⟨fun t s=>some (t,s,[],[],[])⟩
 | o::l=>⟨fun t s=>match (zvn P N orc call ops o).run t s with
  |some (t1,s1,k,x)=>match (zqi ops l).run t1 s1 with
   |some (t2,s2,ks,ts,xs)=>some (t2,s2,k::ks,t::ts,x::xs)
   |none=>none
  |none=>none⟩
def zcp (ks:List Kd):List Nat:=(List.range ks.length).filter fun i=>match ks[i]? with|some (.eff _)=>true|_=>false
def zq8 (ks:List Kd):List Nat:=(List.range ks.length).filter fun i=>match ks[i]? with|some .free=>false|_=>true
def z6s (l:List Oper)(ts:List FT)(j:Nat):Sto × List Nat→Sto × List Nat
 | (sa,Wa)=>match l[j]?,ts[j]? with
  |some o,some t=>match (zne P orc call (zxh l.toArray o) o.op).run t sa with
   |some (_,s1,k)=>(s1,kdW k++Wa)
   |none=>(sa,Wa)
  |_,_=>(sa,Wa)
def runT (l:List Oper)(ts:List FT):List Nat→Sto × List Nat→Sto × List Nat
 |[],a=>a
 |j::D,a=>runT l ts D (z6s P orc call l ts j a)
def chkT (l:List Oper)(ts:List FT)(xs:List AV)(s:Sto)(E D:List Nat)(i:Nat):Bool:=match l[i]?,ts[i]?,xs[i]? with
 | some o,some t,some x0=>match runT P orc call l ts D (s,[]),runT P orc call l ts (insE E D i) (s,[]) with
  |(sD,WD),(sI,WI)=>match (zne P orc call (zxh l.toArray o) o.op).run t sD with
   |some (x,s1,k)=>avEq (ent N o x).2 (ent N o x0).2 && eqOn ((kdW k++WD)++WI) s1 sI
   |none=>false
 |_,_,_=>false
def selfB (m:List Nat):Bool:=(List.range m.length).all fun i=>!((m.getD i 0).testBit i)
def z6l (l:List Oper)(ts:List FT)(xs:List AV)(s:Sto)(ks:List Kd):Bool:=
 sOk l N && selfB (zdr l []) && (zcp ks).all (fun j=>Nat.blt j l.length) && (subs (zcp ks)).all fun D=>!(zjq (zdr l []) (zcp ks) D)||(zq8 ks).all fun i=>!(zj3 (zdr l []) (zcp ks) D i)||chkT P N orc call l ts xs s (zcp ks) D i
def zm4 (n:Nat):Kd→AV→Option Nat
 | .eff [id], .ptr id' _ _ _=>bif Nat.beq id id' && Nat.ble n id then some id else none
 | .eff [id], .own id' _ _=>bif Nat.beq id id' && Nat.ble n id then some id else none
 |_,_=>none
def zhy:Nat→Sto→Sto
 |0,s=>s
 |k+1,s=>zhy k (s.push .dead)
def z6t (l:List Oper)(ts:List FT)(ps:List (Option Nat))(j:Nat):Sto × List Nat→Sto × List Nat
 | (sa,Wa)=>match l[j]?,ts[j]?,ps[j]? with
  | some o,some t,some p=>match (zne P orc call (zxh l.toArray o) o.op).run t sa with
   | some (_,s2,k)=>match p with
    |none=>(s2,kdW k++Wa)
    |some id=>match s2.get sa.len with
     |some ob=>(sa.set id ob,id::Wa)
     |none=>(sa,Wa)
   |none=>(sa,Wa)
  |_,_,_=>(sa,Wa)
def runH (l:List Oper)(ts:List FT)(ps:List (Option Nat)):List Nat→Sto × List Nat→Sto × List Nat
 |[],a=>a
 |j::D,a=>runH l ts ps D (z6t P orc call l ts ps j a)
def ze1 (ps:List (Option Nat))(n K:Nat)(D:List Nat):List Nat:=((List.range K).map (n+ ·)).filter fun id=>!(D.any fun j=>match ps[j]? with|some (some id')=>Nat.beq id id'|_=>false)
def zr1:List Nat→List Nat→Bool
 |[],[]=>true
 |a::l,b::m=>Nat.beq a b && zr1 l m
 |_,_=>false
def z50 (k:Kd)(n:Nat):Bool:=match k with| .eff [m]=>Nat.beq m n|_=>false
def z52:Option Ob→Bool
 |some .dead=>true
 |_=>false
def chkH (l:List Oper)(ts:List FT)(xs:List AV)(ps:List (Option Nat))(s:Sto)(n K:Nat)(E D:List Nat)(i:Nat):Bool:=match l[i]?,ts[i]?,xs[i]?,ps[i]? with
 | some o,some t,some x0,some p=>match runH P orc call l ts ps D (s,[]),runH P orc call l ts ps (insE E D i) (s,[]) with
  | (sD,WD),(sI,WI)=>match (zne P orc call (zxh l.toArray o) o.op).run t sD with
   | some (x,s1,k)=>(ze1 ps n K D).all (fun id=>z52 (sD.get id)) && match p with
    | none=>avEq (ent N o x).2 (ent N o x0).2 && nmB (fun id=>!((ze1 ps n K D).contains id)) x
      && (kdW k).all (fun id=>!((ze1 ps n K D).contains id) && match s1.get id with|some ob=>z7i (fun id=>!((ze1 ps n K D).contains id)) ob|none=>true)
      && eqOn ((kdW k++WD)++WI) s1 sI && zr1 (ze1 ps n K (insE E D i)) (ze1 ps n K D)
    |some id=>match s1.get sD.len with
     | some ob=>z50 k sD.len && Nat.beq s1.len (sD.len+1) && rnB sD.len id x x0 && (ze1 ps n K D).contains id && Nat.blt id sD.len
       && z7i (fun j=>!((ze1 ps n K D).contains j) && Nat.blt j sD.len) ob && eqOn ((id::WD)++WI) (sD.set id ob) sI && zr1 (ze1 ps n K (insE E D i)) ((ze1 ps n K D).filter fun j=>!Nat.beq j id)
     |none=>false
   |none=>false
 |_,_,_,_=>false
def noMp (s:Sto):Bool:=(List.range s.len).all fun id=>match s.get id with|some ob=>!isMp ob|none=>true
def z3y (l:List Oper)(ts:List FT)(xs:List AV)(s:Sto)(ks:List Kd)(K:Nat):Bool:=
 sOk l N && selfB (zdr l []) && (zcp ks).all (fun j=>Nat.blt j l.length) && l.all (fun o=>o.guard.isNone) && (subs (zcp ks)).all fun D=>!(zjq (zdr l []) (zcp ks) D)||noMp (runH P orc call l ts ((ks.zip xs).map fun p=>zm4 s.len p.1 p.2) D (zhy K s,[])).1 && (List.range l.length).all fun i=>!(zj3 (zdr l []) (zcp ks) D i)||chkH P N orc call l ts xs ((ks.zip xs).map fun p=>zm4 s.len p.1 p.2) (zhy K s) s.len K (zcp ks) D i
def zz3 (l:List Oper):RgI:=⟨fun t s W=>match (zqi P N orc call l.toArray l).run t s with
 | some (t',s',ks,ts,xs)=>bif eOk l N ks then some (t',s',(ks.map kdW).flatten++W) else bif z6l P N orc call l ts xs s ks then(match runT P orc call l ts (zcp ks) (s,[]) with|(sE,WE)=>some (t',sE,WE++W))
   else bif z3y P N orc call l ts xs s ks (s'.len-s.len) then(match runH P orc call l ts ((ks.zip xs).map fun p=>zm4 s.len p.1 p.2) (zcp ks) (zhy (s'.len-s.len) s,[]) with|(sE,WE)=>some (t',sE,(WE++(List.range (s'.len-s.len)).map (s.len+ ·))++W)) else none
 |none=>none⟩
end
section
variable {P:Program}{N:Nat}{orc:Orc}{call:CallF}{F F':Frm}{s s':Sto}
theorem S8.ent {σ:List Ob}{G:Cx}{a:Act}{o:Oper}{v:Value}{x:AV}(h:S8 N G a F σ)(hd:dOk N o=true)(hv:Rep G v x):S8 N G (a.put o.dst v) (ent N o x::F) σ:=by
 cases hd2:o.dst with
 |some d=>rw[zdh hd2];exact h.put (zjb hd hd2) hv
 |none=>rw[zer hd2];exact⟨h.rel,h.fr.more (.any _),h.df,h.nt⟩
def z2k (P:Program)(N:Nat)(ops:Array Oper)(o:Oper)(F:Frm)(s s1:Sto)(k:Kd)(x:AV):Prop:=dOk N o=true∧((Runs ops F o false∧x= .s undef∧s1=s∧k= .free)∨(Runs ops F o true∧OpOk P o F s (x,s1,k)))
theorem z2k.chg {ops:Array Oper}{o:Oper}{s1:Sto}{k:Kd}{x:AV}(h:z2k P N ops o F s s1 k x):Chg s s1 (kdW k):=by
 rcases h.2 with ⟨_,_,rfl,rfl⟩|⟨_,h⟩
 ·
  exact .refl _
 ·
  exact h.chg
theorem zr2 (ho:zid P orc)(hc:zgk P call){ops:Array Oper}{o:Oper}{t t1:FT}{s1:Sto}{k:Kd}{x:AV}(hF:FEq F t)(h:(zvn P N orc call ops o).run t s=some (t1,s1,k,x)):z2k P N ops o F s s1 k x∧t1=(ztm N o).put t x:=by
 unfold zvn at h
 split at h
 ·
  cases h
 ·
  rename_i hd hg
  dsimp only at h
  split at h
  ·
   rename_i x' s' k' hx
   cases h
   exact⟨⟨hd, .inr ⟨zaa hg,ziq ho hc J hF hx⟩⟩,rfl⟩
  ·
   cases h
 ·
  rename_i hd hg
  dsimp only at h
  split at h
  ·
   cases h
  ·
   rename_i hr
   cases h
   exact⟨⟨hd, .inl ⟨z5v hF hr,rfl,rfl,rfl⟩⟩,rfl⟩
  ·
   rename_i hr
   split at h
   ·
    rename_i x' s' k' hx
    cases h
    exact⟨⟨hd, .inr ⟨z5v hF hr,ziq ho hc J hF hx⟩⟩,rfl⟩
   ·
    cases h
abbrev XR:=Exit × FT × Sto × List Nat
def Is (r:XR):Exit→Frm→List Ob→Prop:=fun e F σ=>e=r.1∧FEq F r.2.1∧σ=r.2.2.1.abs
theorem zvp (ho:zid P orc)(hc:zgk P call){ops:Array Oper}: ∀ (l:List Oper) (F:Frm) (t:FT) (s:Sto) (W:List Nat) (t':FT) (s':Sto) (W':List Nat),FEq F t→(z3l P N orc call ops l).run t s W=some (t',s',W')→
  EOps P N ops l F s.abs (Is (.normal,t',s',W'))∧(∀s0,Chg s0 s W→Chg s0 s' W')∧ ∃F',FEq F' t'
 |[],F,t,s,W,t',s',W',hF,h=>by cases h;exact⟨zas ⟨rfl,hF,rfl⟩,fun _ h=>h,F,hF⟩
 | o::l,F,t,s,W,t',s',W',hF,h=>by
  unfold z3l at h
  dsimp only at h
  split at h
  ·
   rename_i t1 s1 k x hx
   obtain⟨hst,rfl⟩:=zr2 ho hc hF hx
   obtain⟨ih1,ih2,ih3⟩:=zvp ho hc l _ _ _ _ _ _ _ (zvo hF x) h
   refine⟨?_,fun s0 h0=>ih2 s0 (h0.acc hst.chg),ih3⟩
   obtain⟨hd,⟨hr,rfl,rfl,rfl⟩|⟨hr,hop⟩⟩:=hst
   ·
    intro G a hs
    unfold wpList
    rw[if_neg (by rw[hr.wanted hs.fr];simp)]
    exact ih1 G _ (hs.ent hd (.s _))
   ·
    intro G a hs
    unfold wpList
    rw[if_pos (hr.wanted hs.fr)]
    left
    refine hop.does G a _ _ hs.rel (fun y _=>zc1 hs.fr y) (fun v G' e r hv=>?_)
    exact zch (fun e' a w q=>zfv e (fun _ _ _ x=>x) q) _ _ _ (ih1 G' _ ((hs.step e r).ent hd hv))
  ·
   cases h
theorem zpe (ho:zid P orc)(hc:zgk P call){ops:Array Oper}: ∀ (l:List Oper) (F:Frm) (t:FT) (s:Sto) (t':FT) (s':Sto) (ks:List Kd) (ts:List FT) (xs:List AV),FEq F t→(zqi P N orc call ops l).run t s=some (t',s',ks,ts,xs)→
  ∃F' out sts,ESteps P N ops l F s.abs F' s'.abs out ks sts∧FEq F' t'∧Chg s s' (ks.map kdW).flatten∧ ∀ (j:Nat) o,l[j]?=some o→ ∃tj xj,ts[j]?=some tj∧xs[j]?=some xj∧FEq ((out.take j).reverse++F) tj∧out[j]?=some (ent N o xj)
 |[],F,t,s,t',s',ks,ts,xs,hF,h=>by cases h;exact⟨F,[],[], .nil F _,hF, .refl _,by simp⟩
 | o ::l,F,t,s,t',s',ks,ts,xs,hF,h=>by
  unfold zqi at h
  dsimp only at h
  split at h
  ·
   rename_i t1 s1 k x hx
   obtain⟨hst,rfl⟩:=zr2 ho hc hF hx
   split at h
   ·
    rename_i t2 s2 ks2 ts2 xs2 he
    cases h
    obtain⟨F',out,sts,ih1,ih2,ih3,ih4⟩:=zpe ho hc l _ _ _ _ _ _ _ _ (zvo hF x) he
    have hat: ∀ (j:Nat) o',(o::l)[j]?=some o'→ ∃tj xj,(t::ts2)[j]?=some tj∧(x::xs2)[j]?=some xj∧FEq (((ent N o x::out).take j).reverse++F) tj∧(ent N o x::out)[j]?=some (ent N o' xj):=fun j o' hj=>by
     cases j with
     |zero=>simp at hj;subst hj;exact⟨t,x,rfl,rfl,by simpa using hF,rfl⟩
     |succ j=>
      obtain⟨tj,xj,g1,g2,g3,g4⟩:=ih4 j o' (by simpa using hj)
      exact⟨tj,xj,by simpa using g1,by simpa using g2,by simpa using g3,by simpa using g4⟩
    have hch:Chg s s' ((k::ks2).map kdW).flatten:=hst.chg.trans ih3
    obtain⟨hd,⟨hr,rfl,rfl,rfl⟩|⟨hr,hop⟩⟩:=hst
    ·
     exact⟨F',_,_, .skip o l F _ _ _ out _ sts hd hr ih1,ih2,hch,hat⟩
    ·
     cases hop with
     |free _ h1=>exact⟨F',_,_, .free o l F _ _ _ x out _ sts hd hr h1 ih1,ih2,hch,hat⟩
     |look _ R h1=>exact⟨F',_,_, .look o l F _ _ _ x out _ sts R hd hr h1 ih1,ih2,hch,hat⟩
     |eff _ _ W h1 h2=>exact⟨F',_,_, .eff o l F _ _ _ _ x out _ sts W hd hr h1 h2 ih1,ih2,hch,hat⟩
   ·
    cases h
  ·
   cases h
theorem zm3: ∀ (k:Nat) (s:Sto),(zhy k s).abs=s.abs++List.replicate k .dead
 |0,s=>by simp[zhy]
 |k+1,s=>by
  rw[zhy,zm3 k,Sto.push_abs,List.append_assoc]
  rfl
theorem znd: ∀ (l m:List Nat),zr1 l m=true→l=m
 |[],[],_=>rfl
 |[],_::_,h=>by cases h
 |_::_,[],h=>by cases h
 |a::l,b::m,h=>by
  simp only[zr1,Bool.and_eq_true] at h
  rw[Nat.eq_of_beq_eq_true h.1,znd l m h.2]
theorem zvd (ho:zid P orc)(hc:zgk P call){l:List Oper}{ts:List FT}{ps:List (Option Nat)}{Fi:Nat→Frm}(htx: ∀i o,l[i]?=some o→ ∃ti,ts[i]?=some ti∧FEq (Fi i) ti){s:Sto}:
  ∀ (D:List Nat) (a:Sto × List Nat),Chg s a.1 a.2→Chg s (runH P orc call l ts ps D a).1 (runH P orc call l ts ps D a).2:=by
 intro D
 induction D with
 |nil=>intro a ha;exact ha
 | cons j D ih=>
  intro a ha
  refine ih _ ?_
  obtain⟨sa,Wa⟩:=a
  have key: ∀a',z6t P orc call l ts ps j (sa,Wa)=a'→Chg s a'.1 a'.2:=by
   intro a' e
   unfold z6t at e
   dsimp only at e
   split at e
   ·
    rename_i o tj p ho' htj hp
    split at e
    ·
     rename_i x s2 k hx
     obtain⟨tj',g1,g3⟩:=htx j o ho'
     rw[htj] at g1
     cases g1
     split at e
     ·
      subst e
      exact Chg.acc ha (ziq ho hc (o:=o) rfl g3 hx).chg
     ·
      rename_i id
      split at e
      ·
       rename_i ob hob
       subst e
       have hk:Chg sa (sa.set id ob) [id]:=fun i hi=>by rw[Sto.set_abs];exact zbo hi
       exact Chg.acc (W:=[id]) ha hk
      ·
       subst e;exact ha
    ·
     subst e;exact ha
   ·
    subst e;exact ha
  exact key _ J
theorem z72 (ho:zid P orc)(hc:zgk P call){l:List Oper}{ts:List FT}{xs:List AV}{ks:List Kd}{K:Nat}{s:Sto}{F F':Frm}{out:List (Nat × AV)}{Q:Exit→Frm→List Ob→Prop}
  (hB:z3y P N orc call l ts xs s ks K=true) (hlen:l.length=out.length) (hF':F'=out.reverse++F)
  (htx: ∀i o,l[i]?=some o→dOk N o=true∧ ∃ti xi,ts[i]?=some ti∧xs[i]?=some xi∧FEq ((out.take i).reverse++F) ti∧out[i]?=some (ent N o xi))
  (hQ:Q .normal F' (runH P orc call l ts ((ks.zip xs).map fun p=>zm4 s.len p.1 p.2) (zcp ks) (zhy K s,[])).1.abs):zkw P N l F s.abs Q:=by
 unfold z3y at hB
 generalize hps:((ks.zip xs).map fun p=>zm4 s.len p.1 p.2)=ps at hB hQ
 simp only[Bool.and_eq_true] at hB
 obtain⟨⟨⟨⟨hso,hself⟩,hEl⟩,hg⟩,hall⟩:=hB
 have hrun: ∀D:List Nat,Chg (zhy K s) (runH P orc call l ts ps D (zhy K s,[])).1 (runH P orc call l ts ps D (zhy K s,[])).2:=fun D=>
  zvd ho hc (Fi:=fun i=>(out.take i).reverse++F) (fun i o hi=>by
   obtain⟨_,ti,_,g1,_,g3,_⟩:=htx i o hi
   exact⟨ti,g1,g3⟩) D _ (.refl _)
 refine zxt (E:=zcp ks) (T:=fun D=>(runH P orc call l ts ps D (zhy K s,[])).1.abs) (H:=ze1 ps s.len K) (out:=out) hso (fun i hi=>?_) (fun j hj=>?_) hlen hF' K (zm3 K s) (fun id hid=>?_) rfl (fun i o hi=>?_) hQ
 ·
  by_cases hlt:i<(zdr l []).length
  ·
   have:=List.all_eq_true.1 hself i (by simpa using hlt)
   rw[hi] at this;cases this
  ·
   rw[List.getD_eq_getElem?_getD,List.getElem?_eq_none xa] at hi
   simp at hi
 ·
  have:=List.all_eq_true.1 hEl j hj
  simpa[Nat.blt_eq] using this
 ·
  unfold ze1 at hid
  obtain⟨h1,_⟩:=List.mem_filter.1 hid
  obtain⟨k,_,rfl⟩:=List.mem_map.1 h1
  rw[Sto.abs_len];omega
 ·
  obtain⟨hd,ti,xi,g1,g2,g3,g4⟩:=htx i o hi
  have hgn:o.guard=none:=by
   have:=List.all_eq_true.1 hg o (List.mem_of_getElem? hi)
   simpa using this
  refine⟨hd,_,g4,⟨xi,rfl⟩, .inr ⟨zaa hgn,fun q h1 h2=>?_⟩⟩
  dsimp only
  have h3:=List.all_eq_true.1 hall _ (zjd q (zcp ks))
  rw[h1,Bool.not_true,Bool.false_or,Bool.and_eq_true] at h3
  have hnm:=h3.1
  have h4:=List.all_eq_true.1 h3.2 i (by simpa using (List.getElem?_eq_some_iff.1 hi).1)
  rw[h2,Bool.not_true,Bool.false_or] at h4
  have hr1:=hrun ((zcp ks).filter q)
  have hr2:=hrun (insE (zcp ks) ((zcp ks).filter q) i)
  unfold chkH at h4
  rw[hi,g1,g2] at h4
  generalize runH P orc call l ts ps ((zcp ks).filter q) (zhy K s,[])=rD at*
  generalize runH P orc call l ts ps (insE (zcp ks) ((zcp ks).filter q) i) (zhy K s,[])=rI at*
  generalize ze1 ps s.len K ((zcp ks).filter q)=hs at*
  generalize ze1 ps s.len K (insE (zcp ks) ((zcp ks).filter q) i)=hs' at*
  obtain⟨sD,WD⟩:=rD
  obtain⟨sI,WI⟩:=rI
  dsimp only at h4 hnm hr1 hr2⊢
  have hmp: ∀ (id:Nat) (ob:Ob),sD.abs[id]?=some ob→isMp ob=false:=fun id ob hob=>by
   unfold noMp at hnm
   have hl:id<sD.len:=by rw[←Sto.abs_len];exact(List.getElem?_eq_some_iff.1 hob).1
   have:=List.all_eq_true.1 hnm id (by simpa using hl)
   rw[Sto.get_abs,hob] at this
   simpa using this
  split at h4
  ·
   rename_i o' t' x0' p e1 e2 e3 hp
   cases e1;cases e2;cases e3
   split at h4
   ·
    rename_i x s1 k hx
    have hop:=ziq ho hc (o:=o) rfl g3 hx
    have hD:=hop.does
    simp only[Bool.and_eq_true] at h4
    obtain⟨hdead,h4⟩:=h4
    have hsd: ∀id∈hs,sD.abs[id]?=some .dead:=fun id hid=>by
     have:=List.all_eq_true.1 hdead id hid
     rw[Sto.get_abs] at this
     unfold z52 at this
     split at this
     ·
      assumption
     ·
      cases this
    split at h4
    ·
     simp only[Bool.and_eq_true] at h4
     obtain⟨⟨⟨⟨q1,q2⟩,q3⟩,q4⟩,q5⟩:=h4
     have e2:=zt9 (hr1.acc hop.chg) hr2 q4
     have e3:=znd _ _ q5
     have e4:=zjs _ _ q1
     refine⟨x,?_,?_⟩
     ·
      cases hdst:o.dst with
      |none=>rw[zer hdst,zer hdst]
      |some d=>rw[zdh hdst] at e4⊢;rw[zdh hdst] at e4⊢;rw[show x=xi from e4]
     ·
      rw[e3, ←e2]
      have hq: ∀i,(!(hs.contains i))=true→i ∉ hs:=fun i h=>by simpa using h
      refine zuf hD ((zzy _ q2).mono hq) (kdW k) hop.chg hsd (fun id hid=>?_) (fun id hid ob hob=>?_) hmp
      ·
       have:=List.all_eq_true.1 q3 id hid
       simp only[Bool.and_eq_true] at this
       exact hq id this.1
      ·
       have:=List.all_eq_true.1 q3 id hid
       simp only[Bool.and_eq_true] at this
       have h6:=this.2
       rw[Sto.get_abs,hob] at h6
       exact(zvl h6).mono hq
    ·
     rename_i id
     split at h4
     ·
      rename_i ob hob
      simp only[Bool.and_eq_true] at h4
      obtain⟨⟨⟨⟨⟨⟨⟨q1,q2⟩,q3⟩,q4⟩,q5⟩,q6⟩,q7⟩,q8⟩:=h4
      have hk:Chg sD (sD.set id ob) [id]:=fun i hi=>by rw[Sto.set_abs];exact zbo hi
      have e2:=zt9 (Chg.acc (W:=[id]) hr1 hk) hr2 q7
      have e3:=znd _ _ q8
      have hk1:kdW k=[sD.len]:=by
       unfold z50 at q1
       split at q1
       ·
        rename_i m;rw[Nat.eq_of_beq_eq_true q1];rfl
       ·
        cases q1
      have hc1:=hop.chg
      rw[hk1] at hc1
      have hl1:s1.abs.length=sD.abs.length+1:=by rw[Sto.abs_len,Sto.abs_len];exact Nat.eq_of_beq_eq_true q2
      have e5:s1.abs=sD.abs++[ob]:=by
       refine List.ext_getElem? fun i=>?_
       rcases Nat.lt_trichotomy i sD.abs.length with h|h|h
       ·
        rw[List.getElem?_append_left h]
        exact hc1 i (by rw[←Sto.abs_len];simp;omega)
       ·
        subst h
        rw[Sto.abs_len, ←Sto.get_abs,hob, ←Sto.abs_len];simp
       ·
        rw[List.getElem?_eq_none xa,List.getElem?_eq_none (by simp;omega)]
      rw[e5] at hD
      refine⟨xi,rfl,?_⟩
      rw[e3, ←e2,Sto.set_abs]
      refine zue hD (by simpa using q4) (by rw[Sto.abs_len];simpa[Nat.blt_eq] using q5) hsd (by rw[Sto.abs_len];exact rnB_of q3) ((zvl q6).mono fun i h=>?_) hmp
      simp only[Bool.and_eq_true] at h
      exact⟨by simpa using h.1,by rw[Sto.abs_len];simpa[Nat.blt_eq] using h.2⟩
     ·
      cases h4
   ·
    cases h4
  ·
   cases h4
theorem zz2 (ho:zid P orc)(hc:zgk P call){l:List Oper}{t t':FT}{W W':List Nat}(hF:FEq F t)(h:(zz3 P N orc call l).run t s W=some (t',s',W')):zkw P N l F s.abs (Is (.normal,t',s',W'))∧(∀s0,Chg s0 s W→Chg s0 s' W')∧ ∃F',FEq F' t':=by
 unfold zz3 at h
 dsimp only at h
 split at h
 ·
  rename_i t1 s1 ks ts xs he
  obtain⟨F1,out,sts,hs,hF1,hch,htx⟩:=zpe ho hc l _ _ _ _ _ _ _ _ hF he
  cases hb:eOk l N ks with
  |true=>
   rw[hb] at h;cases h
   exact⟨zfb hs hb ⟨rfl,hF1,rfl⟩,fun s0 h0=>h0.acc hch,F1,hF1⟩
  | false =>
   rw[hb,cond_false] at h
   generalize ht:z6l P N orc call l ts xs s ks=b at h
   cases b with
   | false=>
    rw[cond_false] at h
    generalize hh:z3y P N orc call l ts xs s ks (s1.len-s.len)=b2 at h
    cases b2 with
    |false=>cases h
    | true=>
     rw[cond_true] at h
     obtain⟨hlen,hF',hkl,hsl,_,hat⟩:=zkj hs
     generalize hK:s1.len-s.len=K at h hh
     have hdat: ∀i o,l[i]?=some o→dOk N o=true∧ ∃ti xi,ts[i]?=some ti∧xs[i]?=some xi∧FEq ((out.take i).reverse++F) ti∧out[i]?=some (ent N o xi):=fun i o hi=>by
      obtain⟨x,_,g2,_⟩:=hat i o hi
      exact⟨g2,htx i o hi⟩
     have hc2:Chg s (zhy K s) ((List.range K).map (s.len+ ·)):=fun id hid=>by
      rw[zm3]
      by_cases hl:id<s.abs.length
      ·
       rw[List.getElem?_append_left hl]
      ·
       rw[List.getElem?_eq_none (by simp;rw[Sto.abs_len] at hl⊢;rcases Nat.lt_or_ge id (s.len+K) with h1|h1;exact absurd (List.mem_map.2 ⟨id-s.len,by simp;omega,by omega⟩) hid;exact h1),List.getElem?_eq_none xa]
     have hc3:=zvd ho hc (ps:=(ks.zip xs).map fun p=>zm4 s.len p.1 p.2) (Fi:=fun i=>(out.take i).reverse++F) (fun i o hi=>by
      obtain⟨_,ti,_,g1,_,g3,_⟩:=hdat i o hi
      exact⟨ti,g1,g3⟩) (zcp ks) (zhy K s,[]) (Chg.refl _)
     have hq:=fun Q=>z72 ho hc (Q:=Q) hh hlen hF' hdat
     generalize runH P orc call l ts ((ks.zip xs).map fun p=>zm4 s.len p.1 p.2) (zcp ks) (zhy K s,[])=r at h hc3 hq
     obtain⟨sE,WE⟩:=r
     dsimp only at h hc3 hq
     cases h
     exact⟨hq _ ⟨rfl,hF1,rfl⟩,fun s0 h0=>h0.acc (Chg.acc hc2 hc3),F1,hF1⟩
   | true =>
    rw[cond_true] at h
    obtain⟨hlen,hF',hkl,hsl,_,hat⟩:=zkj hs
    unfold z6l at ht
    simp only[Bool.and_eq_true] at ht
    obtain⟨⟨⟨hso,hself⟩,hEl⟩,hall⟩:=ht
    have hmE: ∀i,i∈zcp ks↔ ∃W,ks[i]?=some (.eff W):=fun i=>by
     unfold zcp
     simp only[List.mem_filter,List.mem_range]
     constructor
     ·
      rintro ⟨h1,h2⟩
      split at h2
      ·
       rename_i W hW;exact⟨W,hW⟩
      ·
       cases h2
     ·
      rintro ⟨W,hW⟩
      exact⟨(List.getElem?_eq_some_iff.1 hW).1,by rw[hW]⟩
    have hmB: ∀i k,ks[i]?=some k→k≠ .free→i∈zq8 ks:=fun i k hk hne=>by
     unfold zq8
     simp only[List.mem_filter,List.mem_range]
     refine⟨(List.getElem?_eq_some_iff.1 hk).1,?_⟩
     rw[hk]
     cases k with
     |free=>exact absurd J hne
     |_=>rfl
    -- what the runs of some operations change
    have hrun: ∀D:List Nat,Chg s (runT P orc call l ts D (s,[])).1 (runT P orc call l ts D (s,[])).2:=by
     have gen: ∀ (D:List Nat) (a:Sto × List Nat),Chg s a.1 a.2→Chg s (runT P orc call l ts D a).1 (runT P orc call l ts D a).2:=by
      intro D
      induction D with
      |nil=>intro a ha;exact ha
      | cons j D ih=>
       intro a ha
       refine ih _ ?_
       obtain⟨sa,Wa⟩:=a
       have key: ∀a',z6s P orc call l ts j (sa,Wa)=a'→Chg s a'.1 a'.2:=by
        intro a' e
        unfold z6s at e
        dsimp only at e
        split at e
        ·
         rename_i o tj ho' htj
         split at e
         ·
          rename_i x s2 k hx
          obtain⟨tj',xj,g1,_,g3,_⟩:=htx j o ho'
          rw[htj] at g1
          cases g1
          subst e
          exact Chg.acc ha (ziq ho hc (o:=o) rfl g3 hx).chg
         ·
          subst e;exact ha
        ·
         subst e;exact ha
       exact key _ J
     exact fun D=>gen D (s,[]) (.refl s)
    have hchk: ∀i o,l[i]?=some o→i∈zq8 ks→ ∀q:Nat→Bool,zjq (zdr l []) (zcp ks) ((zcp ks).filter q)=true→zj3 (zdr l []) (zcp ks) ((zcp ks).filter q) i=true→ ∃x,out[i]?=some (ent N o x)∧Does P o ((out.take i).reverse++F) (runT P orc call l ts ((zcp ks).filter q) (s,[])).1.abs x (runT P orc call l ts (insE (zcp ks) ((zcp ks).filter q) i) (s,[])).1.abs:=by
     intro i o hi hB q h1 h2
     have h3:=List.all_eq_true.1 hall _ (zjd q (zcp ks))
     rw[h1,Bool.not_true,Bool.false_or] at h3
     have h4:=List.all_eq_true.1 h3 i hB
     rw[h2,Bool.not_true,Bool.false_or] at h4
     obtain⟨ti,xi,g1,g2,g3,g4⟩:=htx i o hi
     unfold chkT at h4
     rw[hi,g1,g2] at h4
     dsimp only at h4
     split at h4
     ·
      rename_i x s2 k hx
      simp only[Bool.and_eq_true] at h4
      have hop:=ziq ho hc (o:=o) rfl g3 hx
      have hD:=hop.does
      have e2:=zt9 ((hrun _).acc hop.chg) (hrun _) h4.2
      rw[e2] at hD
      refine⟨x,?_,hD⟩
      rw[g4]
      congr 1
      have e3:=zjs _ _ h4.1
      cases hdst:o.dst with
      |none=>rw[zer hdst,zer hdst]
      |some d=>rw[zdh hdst] at e3⊢;rw[zdh hdst] at e3⊢;rw[show x=xi from e3]
     ·
      cases h4
    have e1:t1=t':=by injection h with h;injection h with h1 h2
    have e2:(runT P orc call l ts (zcp ks) (s,[])).1=s':=by injection h with h;injection h with h1 h2;injection h2 with h3 h4
    have e3:(runT P orc call l ts (zcp ks) (s,[])).2++W=W':=by injection h with h;injection h with h1 h2;injection h2 with h3 h4
    subst e1 e2 e3
    refine⟨zxs (E:=zcp ks) (T:=fun D=>(runT P orc call l ts D (s,[])).1.abs) (out:=out) hso (fun i hi=>?_) (fun j hj=>?_) hlen hF' J J (fun i o hi=>?_) ⟨rfl,hF1,rfl⟩,fun s0 h0=>h0.acc (hrun _),F1,hF1⟩
    ·
     by_cases hlt:i<(zdr l []).length
     ·
      have:=List.all_eq_true.1 hself i (by simpa using hlt)
      rw[hi] at this;cases this
     ·
      rw[List.getD_eq_getElem?_getD,List.getElem?_eq_none xa] at hi
      simp at hi
    ·
     have:=List.all_eq_true.1 hEl j hj
     simpa[Nat.blt_eq] using this
    ·
     obtain⟨x,g1,g2,g3⟩:=hat i o hi
     refine⟨g2,_,g1,⟨x,rfl⟩,?_⟩
     rcases g3 with ⟨k0,_,h5⟩|⟨R,k0,_,h5,_⟩|⟨W,k0,h5,_⟩
     ·
      left
      refine⟨fun hE=>?_,?_⟩
      ·
       obtain⟨W,hW⟩:=(hmE i).1 hE
       rw[k0] at hW;cases hW
      ·
       rcases h5 with ⟨h6,h7⟩|⟨h6,rfl⟩
       ·
        exact .inl ⟨h6,x,rfl,h7⟩
       ·
        exact .inr ⟨h6,rfl⟩
     ·
      right
      refine⟨h5,fun q h1 h2=>?_⟩
      obtain⟨x',h6,h7⟩:=hchk i o hi (hmB i _ k0 xm) q h1 h2
      rw[g1] at h6
      exact⟨x',Option.some.inj h6,h7⟩
     ·
      right
      refine⟨h5,fun q h1 h2=>?_⟩
      obtain⟨x',h6,h7⟩:=hchk i o hi (hmB i _ k0 xm) q h1 h2
      rw[g1] at h6
      exact⟨x',Option.some.inj h6,h7⟩
 ·
  cases h
end
abbrev RunF:=Nat→FT→Sto→List Nat→Option XR
structure CoI where
 run:RunF
def ztp (run:RunF):RunF
 |0,_,_,_=>none
 |n+1,t,s,W=>match run n t s W with
  |some (.normal,t1,s1,W1)=>ztp run n t1 s1 W1
  |r=>r
section
variable (P:Program)(orc:Orc)(call:CallF)(N:Nat)
def zeb:Code→CoI
 | .skip=>⟨fun _ t s W=>some (.normal,t,s,W)⟩
 | .region _ ops draw=>match draw with
  |true=>⟨fun _ t s W=>match (zz3 P N orc call ops.toList).run t s W with
   |some (t',s',W')=>some (.normal,t',s',W')
   |none=>none⟩
  |false=>⟨fun _ t s W=>match (z3l P N orc call ops ops.toList).run t s W with
   |some (t',s',W')=>some (.normal,t',s',W')
   |none=>none⟩
 | .seq a b=>⟨fun n t s W=>match (zeb a).run n t s W with
  |some (.normal,t1,s1,W1)=>(zeb b).run n t1 s1 W1
  |r=>r⟩
 | .cond x a b=>⟨fun n t s W=>match fev t x with
  | .s (.bool true)=>(zeb a).run n t s W
  | .s (.bool false)=>(zeb b).run n t s W
  |_=>none⟩
 | .block id b=>⟨fun n t s W=>match (zeb b).run n t s W with
  |some (.exit i,t1,s1,W1)=>bif Nat.beq i id then some (.normal,t1,s1,W1) else some (.exit i,t1,s1,W1)
  |r=>r⟩
 | .loop b=>⟨ztp (zeb b).run⟩
 | .exit id=>⟨fun _ t s W=>some (.exit id,t,s,W)⟩
 | .ret=>⟨fun _ t s W=>some (.ret,t,s,W)⟩
 |_=>⟨fun _ _ _ _=>none⟩
end
theorem S8.get {N:Nat}{G:Cx}{a:Act}{F F':Frm}{σ:List Ob}(h:S8 N G a F σ)(e: ∀t,F'.get t=F.get t):S8 N G a F' σ:=⟨h.rel,fun d=>by rw[e];exact h.fr d,h.df,h.nt⟩
section
variable {P:Program}{N:Nat}{orc:Orc}{call:CallF}
def z2l (P:Program)(N:Nat)(c:Code)(run:RunF):Prop:= ∀n F t s W r,FEq F t→run n t s W=some r→EWp P N c F s.abs (Is r)∧(∀s0,Chg s0 s W→Chg s0 r.2.2.1 r.2.2.2)∧ ∃F',FEq F' r.2.1
theorem z2l.wp {c:Code}{run:RunF}(h:z2l P N c run){n:Nat}{F:Frm}{t:FT}{s:Sto}{W:List Nat}{r:XR}(hF:FEq F t)(hr:run n t s W=some r):EWp P N c F s.abs (Is r):=(h n F t s W r hF hr).1
theorem z3p {b:Code}{run:RunF}(h:z2l P N b run):z2l P N (.loop b) (ztp run):=by
 have chg: ∀n t s W r F,FEq F t→ztp run n t s W=some r→(∀s0,Chg s0 s W→Chg s0 r.2.2.1 r.2.2.2)∧ ∃F',FEq F' r.2.1:=by
  intro n
  induction n with
  |zero=>intro t s W r F hF hr;cases hr
  | succ n ih=>
   intro t s W r F hF hr
   unfold ztp at hr
   split at hr
   ·
    rename_i t1 s1 W1 he
    obtain⟨_,h1,F1,hF1⟩:=h n F t s W _ hF he
    obtain⟨h2,h3⟩:=ih t1 s1 W1 r F1 hF1 hr
    exact⟨fun s0 h0=>h2 s0 (h1 s0 h0),h3⟩
   ·
    obtain⟨_,h1,h2⟩:=h n F t s W _ hF hr
    exact⟨h1,h2⟩
 intro n F t s W r hF hr
 refine⟨?_,chg n t s W r F hF hr⟩
 refine z04 (fun k F1 σ1=> ∃t1 s1 W1,FEq F1 t1∧σ1=s1.abs∧ztp run k t1 s1 W1=some r) n ⟨t,s,W,hF,rfl,hr⟩ ?_
 rintro k F1 σ1 ⟨t1,s1,W1,hF1,rfl,hk⟩
 cases k with
 |zero=>cases hk
 | succ k=>
  unfold ztp at hk
  split at hk
  ·
   rename_i t2 s2 W2 he
   refine zhh (h.wp hF1 he) ?_
   rintro e F3 σ3 ⟨rfl,hF3,rfl⟩
   exact⟨k,Nat.lt_succ_self _,t2,s2,W2,hF3,rfl,hk⟩
  ·
   rename_i x hx
   refine zhh (h.wp hF1 hk) ?_
   rintro e F3 σ3 ⟨rfl,hF3,rfl⟩
   obtain⟨e,t4,s4,W4⟩:=r
   cases e
   case normal=>exact absurd hk (hx _ _ _)
   all_goals exact⟨rfl,hF3,rfl⟩
theorem zfg (hm:P.follows .mixedOrders=true)(ho:zid P orc)(hc:zgk P call): ∀c:Code,z2l P N c (zeb P orc call N c).run
 | .skip=>fun n F t s W r hF h=>by
  unfold zeb at h;cases h;exact⟨zc7 ⟨rfl,hF,rfl⟩,fun _ h=>h,F,hF⟩
 | .region id ops draw=>fun n F t s W r hF h=>by
  have hops:ops=ops.toList.toArray:=rfl
  unfold zeb at h
  cases draw with
  | true=>
   dsimp only at h
   split at h
   ·
    rename_i t' s' W' he
    cases h
    obtain⟨h1,h2,h3⟩:=zz2 ho hc hF he
    rw[hops]
    exact⟨zdy hm h1,h2,h3⟩
   ·
    cases h
  | false=>
   dsimp only at h
   split at h
   ·
    rename_i t' s' W' he
    cases h
    obtain⟨h1,h2,h3⟩:=zvp ho hc ops.toList F t s W _ _ _ hF he
    rw[hops]
    exact⟨zar h1,h2,h3⟩
   ·
    cases h
 | .seq a b=>fun n F t s W r hF h=>by
  have iha:=zfg hm ho hc a
  have ihb:=zfg hm ho hc b
  unfold zeb at h
  dsimp only at h
  split at h
  ·
   rename_i t1 s1 W1 he
   obtain⟨h1,h2,F1,hF1⟩:=iha n F t s W _ hF he
   obtain⟨_,h4,h5⟩:=ihb n F1 t1 s1 W1 _ hF1 h
   refine⟨za8 (zhh h1 ?_),fun s0 h0=>h4 s0 (h2 s0 h0),h5⟩
   rintro e F2 σ2 ⟨rfl,hF2,rfl⟩
   exact ihb.wp hF2 h
  ·
   rename_i x hx
   obtain⟨h1,h2,h3⟩:=iha n F t s W _ hF h
   refine⟨za8 (zhh h1 ?_),h2,h3⟩
   rintro e F2 σ2 ⟨rfl,hF2,rfl⟩
   obtain⟨e,t4,s4,W4⟩:=r
   cases e
   case normal=>exact absurd h (hx _ _ _)
   all_goals exact⟨rfl,hF2,rfl⟩
 | .cond x a b=>fun n F t s W r hF h=>by
  have iha:=zfg hm ho hc a
  have ihb:=zfg hm ho hc b
  unfold zeb at h
  dsimp only at h
  rw[←hF.ev] at h
  split at h
  ·
   rename_i hx;obtain⟨h1,h2⟩:=iha n F t s W _ hF h;exact⟨ze2 hx h1,h2⟩
  ·
   rename_i hx;obtain⟨h1,h2⟩:=ihb n F t s W _ hF h;exact⟨zd9 hx h1,h2⟩
  ·
   cases h
 | .block id b=>fun n F t s W r hF h=>by
  have ihb:=zfg hm ho hc b
  unfold zeb at h
  dsimp only at h
  split at h
  ·
   rename_i i t1 s1 W1 he
   obtain⟨h1,h2,F1,hF1⟩:=ihb n F t s W _ hF he
   have hr:r=(if i=id then(.normal,t1,s1,W1) else(.exit i,t1,s1,W1)):=by
    by_cases e:i=id
    ·
     rw[if_pos e,Tri.beq_t e] at*;cases h;rfl
    ·
     rw[if_neg e];rw[Tri.beq_f e] at h;cases h;rfl
   refine⟨zck (zhh h1 ?_),?_,?_⟩
   ·
    rintro e F2 σ2 ⟨rfl,hF2,rfl⟩
    simp only[ABlk]
    by_cases e:i=id
    ·
     rw[if_pos e];rw[hr,if_pos e];exact⟨rfl,hF2,rfl⟩
    ·
     rw[if_neg e];rw[hr,if_neg e];exact⟨rfl,hF2,rfl⟩
   ·
    intro s0 h0
    have:=h2 s0 h0
    rw[hr];split<;>exact this
   ·
    rw[hr];split<;>exact⟨F1,hF1⟩
  ·
   rename_i x hx
   obtain⟨h1,h2,h3⟩:=ihb n F t s W _ hF h
   refine⟨zck (zhh h1 ?_),h2,h3⟩
   rintro e F2 σ2 ⟨rfl,hF2,rfl⟩
   obtain⟨e,t4,s4,W4⟩:=r
   cases e
   case exit=>exact absurd h (hx _ _ _ _)
   all_goals exact⟨rfl,hF2,rfl⟩
 | .loop b=>by
  have ihb:=zfg hm ho hc b
  unfold zeb
  exact z3p ihb
 | .exit id=>fun n F t s W r hF h=>by
  unfold zeb at h;cases h;exact⟨zf5 ⟨rfl,hF,rfl⟩,fun _ h=>h,F,hF⟩
 | .ret=>fun n F t s W r hF h=>by
  unfold zeb at h;cases h;exact⟨zg2 ⟨rfl,hF,rfl⟩,fun _ h=>h,F,hF⟩
 | .rangeFunc .. =>fun n F t s W r hF h=>by unfold zeb at h;cases h
 | .scope _=>fun n F t s W r hF h=>by unfold zeb at h;cases h
 | .label _=>fun n F t s W r hF h=>by unfold zeb at h;cases h
 | .goto _=>fun n F t s W r hF h=>by unfold zeb at h;cases h
 | .refuse _=>fun n F t s W r hF h=>by unfold zeb at h;cases h
end
def argT:Nat→List AV→FT
 |_,[]=> .nil
 |k,x::l=>fset (argT (k+1) l) k x
theorem zul: ∀ (l:List AV) (k:Nat),FEq (argF k l) (argT k l)
 |[],k=>fun d=>rfl
 |x::l,k=>(zul l (k+1)).put k x
section
variable (P:Program)(orc:Orc)
def z8h (t:FT)(s:Sto):ResultVar→Option AV
 | .tmp d=>some (fget t d)
 | .cell a k=>match zcw P k,fget t a with
  |some false, .ptr id sz i j=>match zia s id sz i with
   |some l=>l[j]?
   |none=>none
  |some true, .ptr id sz i 0=>match za6 P k,zia s id sz i with
   |some (_,n,_),some l=>bif Nat.beq l.length n then some (.agg l) else none
   |_,_=>none
  |_,_=>none
def zv5 (t:FT)(s:Sto):List ResultVar→Option (List AV)
 |[]=>some []
 |r::rs=>match z8h P t s r,zv5 t s rs with
  |some x,some xs=>some (x::xs)
  |_,_=>none
def below (k n:Nat)(W:List Nat):List Nat:=W.filter (fun i=>Nat.blt i k)++(List.range (n-k)).map (k+ ·)
def z1w (k:Nat)(r:AV)(s':Sto)(W:List Nat):AV × Sto × List Nat:=
 bif Nat.ble k s'.len && loB k r && W.all (fun i=>!(Nat.blt i k)||obLo k (s'.at_ i)) then(r,s'.take k,W.filter (fun i=>Nat.blt i k)) else(r,s',W)
def z0k (k:Nat)(r:AV)(s':Sto)(W:List Nat):AV × Sto × List Nat:=match r with
 | .own m sz n=>match s'.get m with
  |some ob=>bif Nat.ble k m && obLo k ob && W.all (fun i=>!(Nat.blt i k)||obLo k (s'.at_ i)) then(.own k sz n,(s'.take k).push ob,k::W.filter (fun i=>Nat.blt i k)) else z1w k r s' W
  |none=>z1w k r s' W
 |_=>z1w k r s' W
def zrq (k:Nat)(rs:List ResultVar)(t:FT)(s':Sto)(W:List Nat):Option (AV × Sto × List Nat):=match zv5 P t s' rs with
 |some xs=>some (z0k k (zqe xs) s' W)
 |none=>none
def zps:Nat→CallF
 |0=>fun _ _ _=>none
 | n+1=>fun f args s=>match P.funcs[f]? with
  |none=>none
  | some fn=>match fn.body with
   |none=>none
   |some c=>bif (fn.name== "runtime.NumGoroutine")||!(Nat.ble args.length fn.ntmps) then none else match (zeb P orc (zps n) fn.ntmps c).run n (argT 0 args) s [] with
    |some (.normal,t,s',W)=>zrq P s.len fn.results.toList t s' W
    |some (.ret,t,s',W)=>zrq P s.len fn.results.toList t s' W
    |_=>none
end
section
variable {P:Program}{orc:Orc}{F:Frm}{s:Sto}
theorem z4e {t:FT}(hF:FEq F t){r:ResultVar}{x:AV}(h:z8h P t s r=some x):ResA P F s.abs r x:=by
 unfold z8h at h
 split at h
 ·
  cases h;exact .tmp _ _ (hF _)
 ·
  split at h
  ·
   rename_i ha hp
   split at h
   ·
    rename_i l hl
    unfold zia at hl
    rw[Sto.get_abs] at hl
    obtain⟨ob,cs,e,g1,g2,g3,g4⟩:=zkt hl
    exact .cell _ _ _ _ _ _ ob cs e x ha ((hF _).trans hp) g1 g2 g3 (by rw[g4];exact h)
   ·
    cases h
  ·
   rename_i ha hp
   split at h
   ·
    rename_i z n bt l hi hl
    cases hb:Nat.beq l.length n with
    |false=>rw[hb] at h;cases h
    |true=>
     rw[hb] at h;cases h
     unfold zia at hl
     rw[Sto.get_abs] at hl
     obtain⟨ob,cs,e,g1,g2,g3,g4⟩:=zkt hl
     subst g4
     exact .cells _ _ _ _ _ n bt z ob cs e ha hi ((hF _).trans hp) g1 g2 g3 (Nat.eq_of_beq_eq_true hb)
   ·
    cases h
  ·
   cases h
theorem znx {t:FT}(hF:FEq F t): ∀ {rs:List ResultVar} {xs:List AV},zv5 P t s rs=some xs→ResL P F s.abs rs xs
 |[],xs,h=>by cases h;exact .nil
 | r::rs,xs,h=>by
  unfold zv5 at h
  split at h
  ·
   rename_i x xs' h1 h2;cases h;exact .cons _ _ _ _ (z4e hF h1) (znx hF h2)
  ·
   cases h
theorem zq3 {f:FuncId}{args:List AV}{r r1:AV}{s' s1:Sto}{W W1:List Nat}(h:CallE P f args s.abs r s'.abs)(hW:Chg s s' W)(e:z1w s.len r s' W=(r1,s1,W1)):CallE P f args s.abs r1 s1.abs∧Chg s s1 W1:=by
 unfold z1w at e
 generalize hb:(Nat.ble s.len s'.len && loB s.len r && W.all (fun i=>!(Nat.blt i s.len)||obLo s.len (s'.at_ i)))=b at e
 cases b with
 |false=>cases e;exact⟨h,hW⟩
 | true=>
  simp only[Bool.and_eq_true] at hb
  have hk:=Nat.le_of_ble_eq_true hb.1.1
  injection e with e1 e2
  injection e2 with e2 e3
  subst e1 e2 e3
  have hlen:s.abs.length=s.len:=Sto.abs_len s
  constructor
  ·
   rw[Sto.take_abs, ←hlen]
   refine h.cut (W:=W) (by rw[Sto.abs_len,Sto.abs_len];exact hk) hW (fun id hid hlt ob hob=>?_) (by rw[hlen];exact zr7 _ hb.1.2)
   rw[hlen] at hlt⊢
   have h1:=List.all_eq_true.1 hb.2 id hid
   have h2:Nat.blt id s.len=true:=by rw[Nat.blt_eq];exact hlt
   rw[h2,Bool.not_true,Bool.false_or] at h1
   have h3:s'.get id=some (s'.at_ id):=by
    unfold Sto.get
    have:Nat.blt id s'.len=true:=by rw[Nat.blt_eq];omega
    rw[this];rfl
   rw[←Sto.get_abs,h3] at hob
   cases hob
   exact ztj h1
  ·
   intro id hid
   rw[Sto.take_abs,List.getElem?_take]
   split
   ·
    rename_i hlt
    refine hW id (fun hm=>hid ?_)
    refine List.mem_filter.2 ⟨hm,?_⟩
    rw[Nat.blt_eq];exact hlt
   ·
    rename_i hge
    rw[List.getElem?_eq_none (by rw[hlen];omega)]
theorem zsb {f:FuncId}{args:List AV}{r r1:AV}{s' s1:Sto}{W W1:List Nat}(h:CallE P f args s.abs r s'.abs)(hW:Chg s s' W)(e:z0k s.len r s' W=(r1,s1,W1)):CallE P f args s.abs r1 s1.abs∧Chg s s1 W1:=by
 unfold z0k at e
 split at e
 ·
  rename_i m sz n
  split at e
  ·
   rename_i ob hob
   generalize hb:(Nat.ble s.len m && obLo s.len ob && W.all (fun i=>!(Nat.blt i s.len)||obLo s.len (s'.at_ i)))=b at e
   cases b with
   |false=>exact zq3 h hW e
   | true=>
    simp only[Bool.and_eq_true] at hb
    have hk:=Nat.le_of_ble_eq_true hb.1.1
    injection e with e1 e2
    injection e2 with e2 e3
    subst e1 e2 e3
    have hlen:s.abs.length=s.len:=Sto.abs_len s
    rw[Sto.get_abs] at hob
    have hmlt:m<s'.len:=by rw[←Sto.abs_len];exact(List.getElem?_eq_some_iff.1 hob).1
    constructor
    ·
     rw[Sto.push_abs,Sto.take_abs, ←hlen]
     refine h.keep (W:=W) (by rw[hlen];exact hk) hob hW (fun id hid hlt ob1 hob1=>?_) (by rw[hlen];exact ztj hb.1.2)
     rw[hlen] at hlt⊢
     have h1:=List.all_eq_true.1 hb.2 id hid
     have h2:Nat.blt id s.len=true:=by rw[Nat.blt_eq];exact hlt
     rw[h2,Bool.not_true,Bool.false_or] at h1
     have h3:s'.get id=some (s'.at_ id):=by
      unfold Sto.get
      have:Nat.blt id s'.len=true:=by rw[Nat.blt_eq];omega
      rw[this];rfl
     rw[←Sto.get_abs,h3] at hob1
     cases hob1
     exact ztj h1
    ·
     intro id hid
     have htk:(s'.abs.take s.len).length=s.len:=by rw[List.length_take,Sto.abs_len];omega
     rw[Sto.push_abs,Sto.take_abs]
     have hne:id≠s.len:=fun e=>hid (by rw[e];exact List.mem_cons_self)
     rcases Nat.lt_or_ge id s.len with hlt|hge
     ·
      rw[List.getElem?_append_left xa,List.getElem?_take,if_pos hlt]
      refine hW id (fun hm=>hid (List.mem_cons_of_mem _ ?_))
      refine List.mem_filter.2 ⟨hm,?_⟩
      rw[Nat.blt_eq];exact hlt
     ·
      rw[List.getElem?_eq_none (by rw[List.length_append,htk];simp;omega),List.getElem?_eq_none (by rw[hlen];omega)]
  ·
   exact zq3 h hW e
 ·
  exact zq3 h hW e
theorem zn0 (hm:P.follows .mixedOrders=true)(ho:zid P orc): ∀n,zgk P (zps P orc n)
 |0=>fun f args s r s' W h=>by cases h
 | n + 1=>fun f args s r s' W h=>by
  have ih:=zn0 hm ho n
  unfold zps at h
  split at h
  ·
   cases h
  ·
   rename_i fn hf
   split at h
   ·
    cases h
   ·
    rename_i c hb
    generalize hg:((fn.name== "runtime.NumGoroutine")||!(Nat.ble args.length fn.ntmps))=g at h
    cases g with
    |true=>cases h
    | false=>
     rw[cond_false] at h
     simp only[Bool.or_eq_false_iff,Bool.not_eq_false'] at hg
     have hcode:=zfg (N:=fn.ntmps) hm ho ih c
     have main: ∀e t s1 W1,(e= .normal∨e= .ret)→(zeb P orc (zps P orc n) fn.ntmps c).run n (argT 0 args) s []=some (e,t,s1,W1)→zrq P s.len fn.results.toList t s1 W1=some (r,s',W)→CallE P f args s.abs r s'.abs∧Chg s s' W:=by
      intro e t s1 W1 he hrun hret
      obtain⟨h1,h2,_⟩:=hcode n (argF 0 args) (argT 0 args) s [] _ (zul args 0) hrun
      unfold zrq at hret
      split at hret
      ·
       rename_i xs hx
       have hret:=Option.some.inj hret
       refine zsb (callE_fn hf hg.1 hb (Nat.le_of_ble_eq_true hg.2) (zhh h1 ?_)) (h2 s (.refl s)) hret
       rintro e F2 σ2 ⟨rfl,hF2,rfl⟩
       exact⟨he,rfl,xs,znx hF2 hx,rfl⟩
      ·
       cases hret
     split at h
     ·
      rename_i t s1 W1 he;exact main _ _ _ _ (.inl rfl) he h
     ·
      rename_i t s1 W1 he;exact main _ _ _ _ (.inr rfl) he h
     ·
      cases h
end
end Aw
namespace Aw
open Go.RowKit
inductive PK|lo|nm|psh
section
variable {P:Program}{N:Nat}{l:List Oper}{F:Frm}{σ:List Ob}{Q:Exit→Frm→List Ob→Prop}
variable {ops:Array Oper}{all:List Oper}{n0 k d:Nat}{ak:List PK}{ao:List (Nat × AV)}{ab:List Ob}{K:Frm→List Ob→Prop}{o:Oper}
end
end Aw
namespace Aw
open Go.RowKit
structure KE (G G':Cx):Prop where
 step:G.Step G'
 mu0: ∀y,G.mu 0=some y→G'.mu 0=some y
 rows:zce G.w G'.w
theorem KE.refl (G:Cx):KE G G:=⟨.refl G,fun _ h=>h,zce.refl _⟩
theorem KE.trans {G H K:Cx}(h:KE G H)(k:KE H K):KE G K:=⟨h.step.trans k.step,fun y x=>k.mu0 y (h.mu0 y x),h.rows.trans k.rows⟩
theorem KE.of {G G':Cx}(e:G.Ext G'):KE G G':=⟨e.step,e.mu 0,e.rows⟩
def liftK (N:Nat)(G:Cx)(Q:Exit→Frm→List Ob→Prop):Exit→Act→World→Prop:=
 fun e a' w'=> ∃G' F' σ',G'.w=w'∧KE G G'∧S8 N G' a' F' σ'∧Q e F' σ'
theorem liftK_mono {N:Nat}{G G1:Cx}(h:KE G G1){Q Q':Exit→Frm→List Ob→Prop}(hq: ∀e F σ,Q e F σ→Q' e F σ){e:Exit}{a:Act}{w:World}(x:liftK N G1 Q e a w):liftK N G Q' e a w:=by
 obtain⟨G',F',σ',h1,h2,h3,h4⟩:=x
 exact⟨G',F',σ',h1,h.trans h2,h3,hq _ _ _ h4⟩
def KWp (P:Program)(N:Nat)(c:Code)(F:Frm)(σ:List Ob)(Q:Exit→Frm→List Ob→Prop):Prop:=
 ∀G a,S8 N G a F σ→c.wp P (liftK N G Q) a G.w
def KOps (P:Program)(N:Nat)(ops:Array Oper)(l:List Oper)(F:Frm)(σ:List Ob)(Q:Exit→Frm→List Ob→Prop):Prop:=
 ∀G a,S8 N G a F σ→wpList P ops (liftK N G Q) l a G.w
section
variable {P:Program}{N:Nat}{F:Frm}{σ:List Ob}{Q:Exit→Frm→List Ob→Prop}
theorem kw_seq {x y:Code}(h:KWp P N x F σ (zfe (fun F σ=>KWp P N y F σ Q) Q)):KWp P N (.seq x y) F σ Q:=fun G a hs=>by
 refine wp_seq (Code.wp_mono (fun e a1 w1 q=>?_) (h G a hs))
 obtain⟨G',F',σ',rfl,h2,h3,h4⟩:=q
 cases e with
 |normal=>exact Code.wp_mono (fun e a w q=>liftK_mono h2 (fun _ _ _ x=>x) q) (h4 G' a1 h3)
 |_=>exact⟨G',F',σ',rfl,h2,h3,h4⟩
theorem kw_skip (h:Q .normal F σ):KWp P N .skip F σ Q:=fun G a hs=>wp_skip ⟨G,F,σ,rfl, .refl G,hs,h⟩
theorem kw_exit {id:Nat}(h:Q (.exit id) F σ):KWp P N (.exit id) F σ Q:=fun G a hs=>wp_exit ⟨G,F,σ,rfl, .refl G,hs,h⟩
theorem kw_ret (h:Q .ret F σ):KWp P N .ret F σ Q:=fun G a hs=>wp_ret ⟨G,F,σ,rfl, .refl G,hs,h⟩
theorem kw_block {id:Nat}{c:Code}(h:KWp P N c F σ (ABlk id Q)):KWp P N (.block id c) F σ Q:=fun G a hs=>by
 refine wp_block (Code.wp_mono (fun e a1 w1 q=>?_) (h G a hs))
 obtain⟨G',F',σ',rfl,h2,h3,h4⟩:=q
 cases e with
 | exit id'=>
  simp only[ABlk] at h4
  simp only[Exit.inBlock]
  split
  ·
   rename_i e;rw[if_pos e] at h4;exact⟨G',F',σ',rfl,h2,h3,h4⟩
  ·
   rename_i e;rw[if_neg e] at h4;exact⟨G',F',σ',rfl,h2,h3,h4⟩
 |_=>exact⟨G',F',σ',rfl,h2,h3,h4⟩
theorem kw_cond {c:Operand}{x y:Code}{b:Bool}(hc:F.eval c= .s (.bool b))(ht:b=true→KWp P N x F σ Q)(hf:b=false→KWp P N y F σ Q):KWp P N (.cond c x y) F σ Q:=fun G a hs=>
 wp_cond_split (zj2 hs.fr hc) (fun e=>ht e G a hs) (fun e=>hf e G a hs)
theorem kw_true {c:Operand}{x y:Code}(hc:F.eval c= .s (.bool true))(ht:KWp P N x F σ Q):KWp P N (.cond c x y) F σ Q:=kw_cond hc (fun _=>ht) (fun e=>by cases e)
theorem kw_false {c:Operand}{x y:Code}(hc:F.eval c= .s (.bool false))(ht:KWp P N y F σ Q):KWp P N (.cond c x y) F σ Q:=kw_cond hc (fun e=>by cases e) (fun _=>ht)
theorem kw_loop {c:Code}(I:Nat→Frm→List Ob→Prop)(m:Nat)(h0:I m F σ)
  (round: ∀m F σ,I m F σ→KWp P N c F σ (zfe (fun F' σ'=> ∃m',m'<m∧I m' F' σ') Q)):KWp P N (.loop c) F σ Q:=fun G a hs=>by
 refine wp_loop_ghost (fun n a w=> ∃G' F' σ',G'.w=w∧KE G G'∧S8 N G' a F' σ'∧I n F' σ') m ⟨G,F,σ,rfl, .refl G,hs,h0⟩ ?_
 rintro n a w ⟨G',F',σ',rfl,h2,h3,h4⟩
 refine Code.wp_mono (fun e a1 w1 q=>?_) (round n F' σ' h4 G' a h3)
 obtain⟨G2,F2,σ2,rfl,h5,h6,h7⟩:=q
 cases e with
 |normal=>obtain⟨m',hm,hi⟩:=h7;exact⟨m',hm,⟨G2,F2,σ2,rfl,h2.trans h5,h6,hi⟩⟩
 |_=>exact⟨G2,F2,σ2,rfl,h2.trans h5,h6,h7⟩
theorem kw_region {id:Nat}{l:List Oper}(h:KOps P N l.toArray l F σ Q):KWp P N (.region id l.toArray false) F σ Q:=fun G a hs=>wp_region_lit (h G a hs)
theorem kw_mono {c:Code}{Q':Exit→Frm→List Ob→Prop}(h:KWp P N c F σ Q)(hq: ∀e F σ,Q e F σ→Q' e F σ):KWp P N c F σ Q':=fun G a hs=>
 Code.wp_mono (fun e a w q=>liftK_mono (.refl G) hq q) (h G a hs)
end
section
variable {P:Program}{N:Nat}{F:Frm}{σ σ':List Ob}{Q:Exit→Frm→List Ob→Prop}{ops:Array Oper}{o:Oper}{l:List Oper}{x:AV}
theorem kops_nil (h:Q .normal F σ):KOps P N ops [] F σ Q:=fun G a hs=>⟨G,F,σ,rfl, .refl G,hs,h⟩
theorem kops_op {d:Nat}(hd:o.dst=some d)(hN:Nat.blt d N=true)(hr:Runs ops F o true)(hD:Does P o F σ x σ')(k:KOps P N ops l ((d,x)::F) σ' Q):KOps P N ops (o::l) F σ Q:=fun G a hs=>by
 unfold wpList
 rw[if_pos (hr.wanted hs.fr)]
 left
 refine hD G a _ _ hs.rel (fun y _=>zc1 hs.fr y) (fun v G' e r hv=>?_)
 rw[hd]
 exact zch (fun e' a w q=>liftK_mono (KE.of e) (fun _ _ _ x=>x) q) _ _ _ (k G' _ ((hs.step e r).put (by simpa[Nat.blt_eq] using hN) hv))
theorem kops_eff (hd:o.dst=none)(hr:Runs ops F o true)(hD:Does P o F σ x σ')(k:KOps P N ops l F σ' Q):KOps P N ops (o::l) F σ Q:=fun G a hs=>by
 unfold wpList
 rw[if_pos (hr.wanted hs.fr)]
 left
 refine hD G a _ _ hs.rel (fun y _=>zc1 hs.fr y) (fun v G' e r hv=>?_)
 rw[hd]
 exact zch (fun e' a w q=>liftK_mono (KE.of e) (fun _ _ _ x=>x) q) _ _ _ (k G' _ (hs.step e r))
end
def WeakK (N:Nat)(F:Frm)(σ:List Ob)(F':Frm)(σ':List Ob):Prop:= ∀G a,S8 N G a F σ→ ∃G',G'.w=G.w∧KE G G'∧S8 N G' a F' σ'
theorem WeakK.refl {N:Nat}{F:Frm}{σ:List Ob}:WeakK N F σ F σ:=fun G a h=>⟨G,rfl, .refl G,h⟩
section
variable {P:Program}{N:Nat}{F F':Frm}{σ σ':List Ob}{Q:Exit→Frm→List Ob→Prop}
theorem kw_weak {c:Code}(w:WeakK N F σ F' σ')(h:KWp P N c F' σ' Q):KWp P N c F σ Q:=fun G a hs=>by
 obtain⟨G1,e1,s1,h1⟩:=w G a hs
 rw[←e1]
 exact Code.wp_mono (fun e a w q=>liftK_mono s1 (fun _ _ _ x=>x) q) (h G1 a h1)
theorem kwk_st (ρ:List Nat)(h0:ρ[0]?=some 0)(hn:ρ.Nodup)(hs:StL ρ σ ρ σ')(hf:FrRn F ρ F'):WeakK N F σ F' σ':=fun G a h=>
 ⟨G.ren ρ,rfl,⟨⟨rfl,rfl,fun _ _ h=>h,fun _ _ _=>rfl,fun _ _ h=> .inl h,rfl,fun _ _ h=> .inl h,fun _ _ h _=>h⟩,fun y hy=>by simp[Cx.ren,h0,hy],zce.refl _⟩,⟨zqb h.rel hn (zmt ρ σ' hs),znt h.fr F' hf,h.df,h.nt⟩⟩
theorem kw_loops {c:Code}{S:Type}(fr:S→Frm)(st:S→List Ob)(inv:S→Prop)(ms:S→Nat)(s0:S)(hw:WeakK N F σ (fr s0) (st s0))(h0:inv s0)
  (round: ∀s,inv s→KWp P N c (fr s) (st s) (zfe (fun F' σ'=> ∃s',inv s'∧ms s'<ms s∧WeakK N F' σ' (fr s') (st s')) Q)):KWp P N (.loop c) F σ Q:=by
 refine kw_weak hw (kw_loop (fun m F σ=> ∃s,inv s∧ms s=m∧WeakK N F σ (fr s) (st s)) (ms s0) ⟨s0,h0,rfl,WeakK.refl⟩ (fun m F σ h=>?_))
 obtain⟨s,h1,rfl,h3⟩:=h
 refine kw_weak h3 (kw_mono (round s h1) (fun e F σ q=>?_))
 cases e with
 |normal=>obtain⟨s',g1,g2,g3⟩:=q;exact⟨ms s',g2,s',g1,rfl,g3⟩
 |_=>exact q
variable {ops:Array Oper}{o:Oper}{l:List Oper}{d:Nat}
theorem kops_opP {p:Prop}[Decidable p](hd:o.dst=some d)(hN:Nat.blt d N=true)(hr:Runs ops F o true)(hD:Does P o F σ (.s (.bool (decide p))) σ)(k1:p→KOps P N ops l ((d, .s (.bool true))::F) σ Q)(k2: ¬p→KOps P N ops l ((d, .s (.bool false))::F) σ Q):KOps P N ops (o::l) F σ Q:=by
 by_cases h:p
 ·
  exact kops_op hd hN hr (zbn h hD) (k1 h)
 ·
  exact kops_op hd hN hr (zbl h hD) (k2 h)
section
variable {fo:Operand}{ar:Array Operand}{ts:Array TypeId}{f:FuncId}{x:AV}{e n:Int}
end
end
section
variable {P:Program}{N:Nat}{F:Frm}{σ:List Ob}{Q:Exit→Frm→List Ob→Prop}{ops:Array Oper}{o:Oper}{l:List Oper}{d:Nat}{x:AV}
theorem kops_s (h:stv (opv o.op F) N ops o F=some (d,x))(k:KOps P N ops l ((d,x)::F) σ Q):KOps P N ops (o::l) F σ Q:=kops_op (zbe h).1 (zbe h).2.1 (zbe h).2.2.1 (zhe (zbe h).2.2.2) k
theorem kops_l {t:Nat}(ha:zcw P t=some false)(h:stv (ldv o.op t F) N ops o F=some (d,x))(k:KOps P N ops l ((d,x)::F) σ Q):KOps P N ops (o::l) F σ Q:=kops_op (zbe h).1 (zbe h).2.1 (zbe h).2.2.1 (zis ha (zbe h).2.2.2) k
end
end Aw
namespace Aw
open Go Go.RowKit Go.Proofs
section
variable {N:Nat}{F F':Frm}{σ σ':List Ob}
end
section
variable {N:Nat}{F:Frm}{σ:List Ob}
end
end Aw
namespace Aw
open Go Go.RowKit Go.Proofs
section
variable {N:Nat}{F F':Frm}{σ σ':List Ob}
theorem WeakK.trans {F1 F2:Frm}{σ1 σ2:List Ob}(h:WeakK N F σ F1 σ1)(k:WeakK N F1 σ1 F2 σ2):WeakK N F σ F2 σ2:=fun G a hs=>by
 obtain⟨G1,e1,s1,h1⟩:=h G a hs
 obtain⟨G2,e2,s2,h2⟩:=k G1 a h1
 exact⟨G2,e2.trans e1,s1.trans s2,h2⟩
theorem lo_up {k:Nat}{x:AV}(h:Lo 0 x):Lo k x:=by
 induction h with
 |any=>exact .any
 |s v=>exact .s v
 |agg cs _ ih=>exact .agg cs ih
 |emp=>exact .emp
 |sl l _ ih=>exact .sl l ih
 |ref cs _ ih=>exact .ref cs ih
 |own id sz n h=>omega
 |ptr id sz i j h=>omega
 |fn f cs _ ih=>exact .fn f cs ih
 |tup l _ ih=>exact .tup l ih
 |mp id h=>omega
 |sub id sz o n h=>omega
 |ifc t x _ ih=>exact .ifc t x ih
 |opq=>exact .opq
theorem znm {id sz i sz2:Nat}{e e':AV}{pre post cs2:List AV}(hs:σ[id]?=some (.row sz [e]))(h1:e.cells=pre++ .own i sz2 cs2.length::post)(hi:σ[i]?=some (.row sz2 cs2))(hne:i≠id)(h2:e'.cells=pre++ .sl cs2::post):
  WeakK N F σ F ((σ.set i (.fz sz2 cs2)).set id (.row sz [e'])):=fun G a h=>by
 obtain⟨he,hr⟩:=zqp h.rel hi
 have hid:id<σ.length:=(List.getElem?_eq_some_iff.1 hs).1
 have hil:i<σ.length:=(List.getElem?_eq_some_iff.1 hi).1
 refine⟨G.froz i,rfl,KE.of he,?_,h.fr.ext he,h.df,h.nt⟩
 refine zij hr (by rw[List.getElem?_set_ne hne];exact hs) (fun h=>by cases h) ?_
 rintro b f ⟨cur,t,fr,g1,g2,g3,g4⟩
 refine⟨cur,t,fr,g1,g2,g3,fun k y hy=>?_⟩
 cases k with
 |succ k=>simp at hy
 | zero=>
  simp at hy
  subst hy
  obtain⟨k1,k2,k3⟩:=g4 0 e rfl
  rw[h1] at k1 k2 k3
  rw[h2]
  refine⟨by simpa using k1,fun c hc=>?_,fun j c hc=>?_⟩
  ·
   simp only[List.mem_append,List.mem_cons] at hc
   rcases hc with hc|rfl|hc
   ·
    exact k2 c (by simp[hc])
   ·
    rfl
   ·
    exact k2 c (by simp[hc])
  ·
   by_cases hj:j=pre.length
   ·
    subst hj
    simp at hc
    subst hc
    obtain⟨v,h6,h7⟩:=k3 pre.length (.own i sz2 cs2.length) xm
    exact⟨v,h6,zvf hr (List.getElem?_set_self hil) rfl h7⟩
   ·
    have e:(pre++AV.own i sz2 cs2.length::post)[j]?=some c:=by
     rw[←hc]
     by_cases hlt:j<pre.length
     ·
      rw[List.getElem?_append_left hlt,List.getElem?_append_left hlt]
     ·
      rw[List.getElem?_append_right xa,List.getElem?_append_right xa]
      obtain⟨i,hi⟩: ∃i,j-pre.length=i+1:=⟨j-pre.length-1,by omega⟩
      rw[hi];rfl
    exact k3 j c e
end
def mv (k i:Nat):List Nat:=(List.range k).set i k
section
variable {P:Program}{N:Nat}{F:Frm}{σ σ':List Ob}{Q:Exit→Frm→List Ob→Prop}{ops:Array Oper}{o:Oper}{l:List Oper}{d:Nat}{fo:Operand}{ar:Array Operand}{ts:Array TypeId}{f:FuncId}{y:AV}{args caps:List AV}
end
end Aw
namespace Aw
open Go Go.RowKit Go.Proofs
section
variable {P:Program}{o:Oper}{F:Frm}{σ:List Ob}
end
section
variable {P:Program}{N:Nat}{F:Frm}{σ σ':List Ob}{Q:Exit→Frm→List Ob→Prop}{ops:Array Oper}{o:Oper}{l:List Oper}{x:AV}
variable {d:Nat}{fo:Operand}{ar:Array Operand}{ts:Array TypeId}{f:FuncId}{y:AV}{args caps:List AV}
end
theorem kw_of {P:Program}{N:Nat}{F:Frm}{σ:List Ob}{Q:Exit→Frm→List Ob→Prop}{c:Code}(h:EWp P N c F σ Q):KWp P N c F σ Q:=fun G a hs=>
 Code.wp_mono (fun e a w q=>by obtain⟨G',F',σ',h1,h2,h3,h4⟩:=q;exact⟨G',F',σ',h1,KE.of h2,h3,h4⟩) (h G a hs)
theorem kw_draw {P:Program}{N:Nat}{l:List Oper}{F:Frm}{σ:List Ob}{Q:Exit→Frm→List Ob→Prop}{id:Nat}(hm:P.follows .mixedOrders=true)(h:zkw P N l F σ Q):KWp P N (.region id l.toArray true) F σ Q:=kw_of (zdy hm h)
theorem kdraw_ex {P:Program}{N:Nat}{l:List Oper}{F:Frm}{σ:List Ob}{Q:Exit→Frm→List Ob→Prop}(h:EX P N l.toArray l [] l F σ (fun F' σ'=>Q .normal F' σ')):zkw P N l F σ Q:=by
 obtain⟨F',σ',out,ks,sts,h1,h2,h3⟩:=h
 exact zfb h1 (by simpa using h2) h3
theorem kwk_own {N:Nat}{F:Frm}{σ:List Ob}{d:Nat}{x:AV}(sz:Nat)(hd:F.get d=x)(hx:x= .emp∨x= .s (.slice none 0 0)):WeakK N F σ ((d, .own σ.length sz 0)::F) (σ++[.row sz []]):=fun G a h=>by
 have he:=zh2 h.rel
 refine⟨G.new σ.length G.w none,rfl, .of he,zjj h.rel sz,(h.fr.ext he).more ?_,h.df,h.nt⟩
 have h1:=h.fr d
 rw[hd] at h1
 generalize a.tmps.getD d undef=v at h1
 rcases hx with rfl|rfl
 ·
  cases h1 with|emp A hA=>exact .own0 σ.length sz A hA (by simp[Cx.new])
 ·
  cases h1;exact .own0 σ.length sz none (fun a ha=>by cases ha) (by simp[Cx.new])
end Aw
namespace Aw.K1
open Go Go.RowKit Go.Proofs
structure KE (G G':Cx):Prop where
 step:G.Step G'
 mu0: ∀i y,i<1→G.mu i=some y→G'.mu i=some y
 rows:zce G.w G'.w
 size:G.w.heap.size≤G'.w.heap.size
theorem KE.refl (G:Cx):KE G G:=⟨.refl G,fun _ _ _ h=>h,zce.refl _,Nat.le_refl _⟩
theorem KE.trans {G H K:Cx}(h:KE G H)(k:KE H K):KE G K:=⟨h.step.trans k.step,fun i y hi x=>k.mu0 i y hi (h.mu0 i y hi x),h.rows.trans k.rows,Nat.le_trans h.size k.size⟩
theorem KE.of {G G':Cx}(e:G.Ext G'):KE G G':=⟨e.step,fun i y _ h=>e.mu i y h,e.rows,e.size⟩
def liftK (N:Nat)(G:Cx)(Q:Exit→Frm→List Ob→Prop):Exit→Act→World→Prop:=
 fun e a' w'=> ∃G' F' σ',G'.w=w'∧KE G G'∧S8 N G' a' F' σ'∧Q e F' σ'
theorem liftK_mono {N:Nat}{G G1:Cx}(h:KE G G1){Q Q':Exit→Frm→List Ob→Prop}(hq: ∀e F σ,Q e F σ→Q' e F σ){e:Exit}{a:Act}{w:World}(x:liftK N G1 Q e a w):liftK N G Q' e a w:=by
 obtain⟨G',F',σ',h1,h2,h3,h4⟩:=x
 exact⟨G',F',σ',h1,h.trans h2,h3,hq _ _ _ h4⟩
def KWp (P:Program)(N:Nat)(c:Code)(F:Frm)(σ:List Ob)(Q:Exit→Frm→List Ob→Prop):Prop:=
 ∀G a,S8 N G a F σ→c.wp P (liftK N G Q) a G.w
def KOps (P:Program)(N:Nat)(ops:Array Oper)(l:List Oper)(F:Frm)(σ:List Ob)(Q:Exit→Frm→List Ob→Prop):Prop:=
 ∀G a,S8 N G a F σ→wpList P ops (liftK N G Q) l a G.w
section
variable {P:Program}{N:Nat}{F:Frm}{σ:List Ob}{Q:Exit→Frm→List Ob→Prop}
theorem kw_seq {x y:Code}(h:KWp P N x F σ (zfe (fun F σ=>KWp P N y F σ Q) Q)):KWp P N (.seq x y) F σ Q:=fun G a hs=>by
 refine wp_seq (Code.wp_mono (fun e a1 w1 q=>?_) (h G a hs))
 obtain⟨G',F',σ',rfl,h2,h3,h4⟩:=q
 cases e with
 |normal=>exact Code.wp_mono (fun e a w q=>liftK_mono h2 (fun _ _ _ x=>x) q) (h4 G' a1 h3)
 |_=>exact⟨G',F',σ',rfl,h2,h3,h4⟩
theorem kw_skip (h:Q .normal F σ):KWp P N .skip F σ Q:=fun G a hs=>wp_skip ⟨G,F,σ,rfl, .refl G,hs,h⟩
theorem kw_exit {id:Nat}(h:Q (.exit id) F σ):KWp P N (.exit id) F σ Q:=fun G a hs=>wp_exit ⟨G,F,σ,rfl, .refl G,hs,h⟩
theorem kw_ret (h:Q .ret F σ):KWp P N .ret F σ Q:=fun G a hs=>wp_ret ⟨G,F,σ,rfl, .refl G,hs,h⟩
theorem kw_block {id:Nat}{c:Code}(h:KWp P N c F σ (ABlk id Q)):KWp P N (.block id c) F σ Q:=fun G a hs=>by
 refine wp_block (Code.wp_mono (fun e a1 w1 q=>?_) (h G a hs))
 obtain⟨G',F',σ',rfl,h2,h3,h4⟩:=q
 cases e with
 | exit id'=>
  simp only[ABlk] at h4
  simp only[Exit.inBlock]
  split
  ·
   rename_i e;rw[if_pos e] at h4;exact⟨G',F',σ',rfl,h2,h3,h4⟩
  ·
   rename_i e;rw[if_neg e] at h4;exact⟨G',F',σ',rfl,h2,h3,h4⟩
 |_=>exact⟨G',F',σ',rfl,h2,h3,h4⟩
theorem kw_cond {c:Operand}{x y:Code}{b:Bool}(hc:F.eval c= .s (.bool b))(ht:b=true→KWp P N x F σ Q)(hf:b=false→KWp P N y F σ Q):KWp P N (.cond c x y) F σ Q:=fun G a hs=>
 wp_cond_split (zj2 hs.fr hc) (fun e=>ht e G a hs) (fun e=>hf e G a hs)
theorem kw_true {c:Operand}{x y:Code}(hc:F.eval c= .s (.bool true))(ht:KWp P N x F σ Q):KWp P N (.cond c x y) F σ Q:=kw_cond hc (fun _=>ht) (fun e=>by cases e)
theorem kw_false {c:Operand}{x y:Code}(hc:F.eval c= .s (.bool false))(ht:KWp P N y F σ Q):KWp P N (.cond c x y) F σ Q:=kw_cond hc (fun e=>by cases e) (fun _=>ht)
theorem kw_loop {c:Code}(I:Nat→Frm→List Ob→Prop)(m:Nat)(h0:I m F σ)
  (round: ∀m F σ,I m F σ→KWp P N c F σ (zfe (fun F' σ'=> ∃m',m'<m∧I m' F' σ') Q)):KWp P N (.loop c) F σ Q:=fun G a hs=>by
 refine wp_loop_ghost (fun n a w=> ∃G' F' σ',G'.w=w∧KE G G'∧S8 N G' a F' σ'∧I n F' σ') m ⟨G,F,σ,rfl, .refl G,hs,h0⟩ ?_
 rintro n a w ⟨G',F',σ',rfl,h2,h3,h4⟩
 refine Code.wp_mono (fun e a1 w1 q=>?_) (round n F' σ' h4 G' a h3)
 obtain⟨G2,F2,σ2,rfl,h5,h6,h7⟩:=q
 cases e with
 |normal=>obtain⟨m',hm,hi⟩:=h7;exact⟨m',hm,⟨G2,F2,σ2,rfl,h2.trans h5,h6,hi⟩⟩
 |_=>exact⟨G2,F2,σ2,rfl,h2.trans h5,h6,h7⟩
theorem kw_region {id:Nat}{l:List Oper}(h:KOps P N l.toArray l F σ Q):KWp P N (.region id l.toArray false) F σ Q:=fun G a hs=>wp_region_lit (h G a hs)
theorem kw_mono {c:Code}{Q':Exit→Frm→List Ob→Prop}(h:KWp P N c F σ Q)(hq: ∀e F σ,Q e F σ→Q' e F σ):KWp P N c F σ Q':=fun G a hs=>
 Code.wp_mono (fun e a w q=>liftK_mono (.refl G) hq q) (h G a hs)
end
section
variable {P:Program}{N:Nat}{F:Frm}{σ σ':List Ob}{Q:Exit→Frm→List Ob→Prop}{ops:Array Oper}{o:Oper}{l:List Oper}{x:AV}
theorem kops_nil (h:Q .normal F σ):KOps P N ops [] F σ Q:=fun G a hs=>⟨G,F,σ,rfl, .refl G,hs,h⟩
theorem kops_op {d:Nat}(hd:o.dst=some d)(hN:Nat.blt d N=true)(hr:Runs ops F o true)(hD:Does P o F σ x σ')(k:KOps P N ops l ((d,x)::F) σ' Q):KOps P N ops (o::l) F σ Q:=fun G a hs=>by
 unfold wpList
 rw[if_pos (hr.wanted hs.fr)]
 left
 refine hD G a _ _ hs.rel (fun y _=>zc1 hs.fr y) (fun v G' e r hv=>?_)
 rw[hd]
 exact zch (fun e' a w q=>liftK_mono (KE.of e) (fun _ _ _ x=>x) q) _ _ _ (k G' _ ((hs.step e r).put (by simpa[Nat.blt_eq] using hN) hv))
theorem kops_eff (hd:o.dst=none)(hr:Runs ops F o true)(hD:Does P o F σ x σ')(k:KOps P N ops l F σ' Q):KOps P N ops (o::l) F σ Q:=fun G a hs=>by
 unfold wpList
 rw[if_pos (hr.wanted hs.fr)]
 left
 refine hD G a _ _ hs.rel (fun y _=>zc1 hs.fr y) (fun v G' e r hv=>?_)
 rw[hd]
 exact zch (fun e' a w q=>liftK_mono (KE.of e) (fun _ _ _ x=>x) q) _ _ _ (k G' _ (hs.step e r))
end
def WeakK (N:Nat)(F:Frm)(σ:List Ob)(F':Frm)(σ':List Ob):Prop:= ∀G a,S8 N G a F σ→ ∃G',G'.w=G.w∧KE G G'∧S8 N G' a F' σ'
theorem WeakK.refl {N:Nat}{F:Frm}{σ:List Ob}:WeakK N F σ F σ:=fun G a h=>⟨G,rfl, .refl G,h⟩
section
variable {P:Program}{N:Nat}{F F':Frm}{σ σ':List Ob}{Q:Exit→Frm→List Ob→Prop}
theorem kw_weak {c:Code}(w:WeakK N F σ F' σ')(h:KWp P N c F' σ' Q):KWp P N c F σ Q:=fun G a hs=>by
 obtain⟨G1,e1,s1,h1⟩:=w G a hs
 rw[←e1]
 exact Code.wp_mono (fun e a w q=>liftK_mono s1 (fun _ _ _ x=>x) q) (h G1 a h1)
theorem kw_loops {c:Code}{S:Type}(fr:S→Frm)(st:S→List Ob)(inv:S→Prop)(ms:S→Nat)(s0:S)(hw:WeakK N F σ (fr s0) (st s0))(h0:inv s0)
  (round: ∀s,inv s→KWp P N c (fr s) (st s) (zfe (fun F' σ'=> ∃s',inv s'∧ms s'<ms s∧WeakK N F' σ' (fr s') (st s')) Q)):KWp P N (.loop c) F σ Q:=by
 refine kw_weak hw (kw_loop (fun m F σ=> ∃s,inv s∧ms s=m∧WeakK N F σ (fr s) (st s)) (ms s0) ⟨s0,h0,rfl,WeakK.refl⟩ (fun m F σ h=>?_))
 obtain⟨s,h1,rfl,h3⟩:=h
 refine kw_weak h3 (kw_mono (round s h1) (fun e F σ q=>?_))
 cases e with
 |normal=>obtain⟨s',g1,g2,g3⟩:=q;exact⟨ms s',g2,s',g1,rfl,g3⟩
 |_=>exact q
variable {ops:Array Oper}{o:Oper}{l:List Oper}{d:Nat}
theorem kops_opP {p:Prop}[Decidable p](hd:o.dst=some d)(hN:Nat.blt d N=true)(hr:Runs ops F o true)(hD:Does P o F σ (.s (.bool (decide p))) σ)(k1:p→KOps P N ops l ((d, .s (.bool true))::F) σ Q)(k2: ¬p→KOps P N ops l ((d, .s (.bool false))::F) σ Q):KOps P N ops (o::l) F σ Q:=by
 by_cases h:p
 ·
  exact kops_op hd hN hr (zbn h hD) (k1 h)
 ·
  exact kops_op hd hN hr (zbl h hD) (k2 h)
end
section
variable {N:Nat}{F F':Frm}{σ σ':List Ob}
theorem WeakK.trans {F1 F2:Frm}{σ1 σ2:List Ob}(h:WeakK N F σ F1 σ1)(k:WeakK N F1 σ1 F2 σ2):WeakK N F σ F2 σ2:=fun G a hs=>by
 obtain⟨G1,e1,s1,h1⟩:=h G a hs
 obtain⟨G2,e2,s2,h2⟩:=k G1 a h1
 exact⟨G2,e2.trans e1,s1.trans s2,h2⟩
theorem kwk_st (ρ:List Nat)(h0:ρ[0]?=some 0)(hn:ρ.Nodup)(hs:StL ρ σ ρ σ')(hf:FrRn F ρ F'):WeakK N F σ F' σ':=fun G a h=>
 ⟨G.ren ρ,rfl,⟨⟨rfl,rfl,fun _ _ h=>h,fun _ _ _=>rfl,fun _ _ h=> .inl h,rfl,fun _ _ h=> .inl h,fun _ _ h _=>h⟩,fun i y hi hy=>by
  match i,hi with
  |0,_=>simp[Cx.ren,h0,hy],zce.refl _,Nat.le_refl _⟩,⟨zqb h.rel hn (zmt ρ σ' hs),znt h.fr F' hf,h.df,h.nt⟩⟩
theorem kwk_own {d:Nat}{x:AV}(sz:Nat)(hd:F.get d=x)(hx:x= .emp∨x= .s (.slice none 0 0)):WeakK N F σ ((d, .own σ.length sz 0)::F) (σ++[.row sz []]):=fun G a h=>by
 have he:=zh2 h.rel
 refine⟨G.new σ.length G.w none,rfl, .of he,zjj h.rel sz,(h.fr.ext he).more ?_,h.df,h.nt⟩
 have h1:=h.fr d
 rw[hd] at h1
 generalize a.tmps.getD d undef=v at h1
 rcases hx with rfl|rfl
 ·
  cases h1 with|emp A hA=>exact .own0 σ.length sz A hA (by simp[Cx.new])
 ·
  cases h1;exact .own0 σ.length sz none (fun a ha=>by cases ha) (by simp[Cx.new])
end
section
variable {P:Program}{σ σ':List Ob}{f:FuncId}{y:AV}{args:List AV}
theorem callE_fn {fn:Func}{c:Code}(hl:σ.length≤1)(hf:P.funcs[f]?=some fn)(hname:(fn.name== "runtime.NumGoroutine")=false)(hb:fn.body=some c)(hn:args.length≤fn.ntmps)
  (h:KWp P fn.ntmps c (argF 0 args) σ (fun e F σ1=>(e= .normal∨e= .ret)∧σ1=σ'∧ ∃xs,ResL P F σ1 fn.results.toList xs∧zqe xs=y)):CallE P f args σ y σ':=by
 refine⟨zkk hf hname hb,fun G vargs hrel hsz hrep=>?_⟩
 refine calls_of_wp hf hb ?_
 have hfo:FOk G {tmps:=vargs++Array.replicate (fn.ntmps-vargs.size) undef,defers:=[]} (argF 0 args):=by
  intro d
  rw[zku]
  simp only[Nat.zero_le,if_true,Nat.sub_zero]
  by_cases hd:d<args.length
  ·
   have h1:(vargs++Array.replicate (fn.ntmps-vargs.size) undef).getD d undef=vargs[d]'(by omega):=by
    rw[Array.getD_eq_getD_getElem?,Array.getElem?_append_left xa]
    simp[show d<vargs.size by omega]
   rw[h1]
   have h2:args.getD d .any=args[d]:=by rw[List.getD_eq_getElem?_getD,List.getElem?_eq_getElem hd];rfl
   rw[h2]
   exact hrep d _ _ (by simp[show d<vargs.size by omega]) (by simp[hd])
  ·
   have h2:args.getD d .any= .any:=by
    rw[List.getD_eq_getElem?_getD,List.getElem?_eq_none xa];rfl
   rw[h2];exact .any _
 have hs8:S8 fn.ntmps G {tmps:=vargs++Array.replicate (fn.ntmps-vargs.size) undef,defers:=[]} (argF 0 args) σ:=⟨hrel,hfo, .nil,by simp;omega⟩
 refine Code.wp_mono (fun e a w q=>?_) (h G _ hs8)
 obtain⟨G',F',σ1,rfl,h2,h3,he,rfl,xs,hrl,hy⟩:=q
 obtain⟨v,h6,h7⟩:=zhc (fn:=fn) h3.rel h3.fr hrl
 rw[hy] at h7
 have hext:G.Ext G':=⟨h2.step.base,h2.step.w0,h2.step.st,h2.step.cell,fun id x hx=>by
  by_cases hid:id<1
  ·
   exact h2.mu0 id x hid hx
  ·
   rw[hrel.fresh id xa] at hx;exact absurd hx xm,h2.size,h2.rows,h2.step.stN,h2.step.pr,h2.step.prN,h2.step.oth⟩
 have post: ∃ (v':Value) (G'':Cx),Ending.returned v= .returned v'∧G''.w=G'.w∧G.Ext G''∧Rel G'' σ1∧Rep G'' v' y:=⟨v,G',rfl,rfl,hext,h3.rel,h7⟩
 rcases he with rfl|rfl
 ·
  exact⟨h3.df.1,_,h6,post⟩
 ·
  exact⟨h3.df.1,_,h6,post⟩
theorem callE_fn1 {fn:Func}{c:Code}{t:Nat}(hl:σ.length≤1)(hf:P.funcs[f]?=some fn)(hname:(fn.name== "runtime.NumGoroutine")=false)(hb:fn.body=some c)(hn:args.length≤fn.ntmps)(hres:fn.results.toList=[.tmp t])
  (h:KWp P fn.ntmps c (argF 0 args) σ (fun e F σ1=>(e= .normal∨e= .ret)∧F.get t=y∧σ1=σ')):CallE P f args σ y σ':=
 callE_fn hl hf hname hb hn (kw_mono h (fun e F σ1 ⟨h1,h2,h3⟩=>⟨h1,h3,[y],by rw[hres];exact .cons _ _ _ _ (.tmp t y h2) .nil,rfl⟩))
end
theorem kw_of {P:Program}{N:Nat}{F:Frm}{σ:List Ob}{Q:Exit→Frm→List Ob→Prop}{c:Code}(h:EWp P N c F σ Q):KWp P N c F σ Q:=fun G a hs=>
 Code.wp_mono (fun e a w q=>by obtain⟨G',F',σ',h1,h2,h3,h4⟩:=q;exact⟨G',F',σ',h1,KE.of h2,h3,h4⟩) (h G a hs)
theorem kw_draw {P:Program}{N:Nat}{l:List Oper}{F:Frm}{σ:List Ob}{Q:Exit→Frm→List Ob→Prop}{id:Nat}(hm:P.follows .mixedOrders=true)(h:zkw P N l F σ Q):KWp P N (.region id l.toArray true) F σ Q:=kw_of (zdy hm h)
theorem kdraw_ex {P:Program}{N:Nat}{l:List Oper}{F:Frm}{σ:List Ob}{Q:Exit→Frm→List Ob→Prop}(h:EX P N l.toArray l [] l F σ (fun F' σ'=>Q .normal F' σ')):zkw P N l F σ Q:=by
 obtain⟨F',σ',out,ks,sts,h1,h2,h3⟩:=h
 exact zfb h1 (by simpa using h2) h3
section
variable {P:Program}{N:Nat}{F:Frm}{σ:List Ob}{Q:Exit→Frm→List Ob→Prop}{ops:Array Oper}{o:Oper}{l:List Oper}{d:Nat}{x:AV}
theorem kops_s (h:stv (opv o.op F) N ops o F=some (d,x))(k:KOps P N ops l ((d,x)::F) σ Q):KOps P N ops (o::l) F σ Q:=kops_op (zbe h).1 (zbe h).2.1 (zbe h).2.2.1 (zhe (zbe h).2.2.2) k
theorem kops_l {t:Nat}(ha:zcw P t=some false)(h:stv (ldv o.op t F) N ops o F=some (d,x))(k:KOps P N ops l ((d,x)::F) σ Q):KOps P N ops (o::l) F σ Q:=kops_op (zbe h).1 (zbe h).2.1 (zbe h).2.2.1 (zis ha (zbe h).2.2.2) k
end
end Aw.K1
namespace Aw.K0
open Go Go.RowKit Go.Proofs
structure KE (G G':Cx):Prop where
 step:G.Step G'
 mu0: ∀i y,i<0→G.mu i=some y→G'.mu i=some y
 rows:zce G.w G'.w
 size:G.w.heap.size≤G'.w.heap.size
theorem KE.refl (G:Cx):KE G G:=⟨.refl G,fun _ _ _ h=>h,zce.refl _,Nat.le_refl _⟩
theorem KE.trans {G H K:Cx}(h:KE G H)(k:KE H K):KE G K:=⟨h.step.trans k.step,fun i y hi x=>k.mu0 i y hi (h.mu0 i y hi x),h.rows.trans k.rows,Nat.le_trans h.size k.size⟩
theorem KE.of {G G':Cx}(e:G.Ext G'):KE G G':=⟨e.step,fun i y _ h=>e.mu i y h,e.rows,e.size⟩
def liftK (N:Nat)(G:Cx)(Q:Exit→Frm→List Ob→Prop):Exit→Act→World→Prop:=
 fun e a' w'=> ∃G' F' σ',G'.w=w'∧KE G G'∧S8 N G' a' F' σ'∧Q e F' σ'
theorem liftK_mono {N:Nat}{G G1:Cx}(h:KE G G1){Q Q':Exit→Frm→List Ob→Prop}(hq: ∀e F σ,Q e F σ→Q' e F σ){e:Exit}{a:Act}{w:World}(x:liftK N G1 Q e a w):liftK N G Q' e a w:=by
 obtain⟨G',F',σ',h1,h2,h3,h4⟩:=x
 exact⟨G',F',σ',h1,h.trans h2,h3,hq _ _ _ h4⟩
def KWp (P:Program)(N:Nat)(c:Code)(F:Frm)(σ:List Ob)(Q:Exit→Frm→List Ob→Prop):Prop:=
 ∀G a,S8 N G a F σ→c.wp P (liftK N G Q) a G.w
def KOps (P:Program)(N:Nat)(ops:Array Oper)(l:List Oper)(F:Frm)(σ:List Ob)(Q:Exit→Frm→List Ob→Prop):Prop:=
 ∀G a,S8 N G a F σ→wpList P ops (liftK N G Q) l a G.w
section
variable {P:Program}{N:Nat}{F:Frm}{σ:List Ob}{Q:Exit→Frm→List Ob→Prop}
theorem kw_seq {x y:Code}(h:KWp P N x F σ (zfe (fun F σ=>KWp P N y F σ Q) Q)):KWp P N (.seq x y) F σ Q:=fun G a hs=>by
 refine wp_seq (Code.wp_mono (fun e a1 w1 q=>?_) (h G a hs))
 obtain⟨G',F',σ',rfl,h2,h3,h4⟩:=q
 cases e with
 |normal=>exact Code.wp_mono (fun e a w q=>liftK_mono h2 (fun _ _ _ x=>x) q) (h4 G' a1 h3)
 |_=>exact⟨G',F',σ',rfl,h2,h3,h4⟩
theorem kw_skip (h:Q .normal F σ):KWp P N .skip F σ Q:=fun G a hs=>wp_skip ⟨G,F,σ,rfl, .refl G,hs,h⟩
theorem kw_exit {id:Nat}(h:Q (.exit id) F σ):KWp P N (.exit id) F σ Q:=fun G a hs=>wp_exit ⟨G,F,σ,rfl, .refl G,hs,h⟩
theorem kw_ret (h:Q .ret F σ):KWp P N .ret F σ Q:=fun G a hs=>wp_ret ⟨G,F,σ,rfl, .refl G,hs,h⟩
theorem kw_block {id:Nat}{c:Code}(h:KWp P N c F σ (ABlk id Q)):KWp P N (.block id c) F σ Q:=fun G a hs=>by
 refine wp_block (Code.wp_mono (fun e a1 w1 q=>?_) (h G a hs))
 obtain⟨G',F',σ',rfl,h2,h3,h4⟩:=q
 cases e with
 | exit id'=>
  simp only[ABlk] at h4
  simp only[Exit.inBlock]
  split
  ·
   rename_i e;rw[if_pos e] at h4;exact⟨G',F',σ',rfl,h2,h3,h4⟩
  ·
   rename_i e;rw[if_neg e] at h4;exact⟨G',F',σ',rfl,h2,h3,h4⟩
 |_=>exact⟨G',F',σ',rfl,h2,h3,h4⟩
theorem kw_cond {c:Operand}{x y:Code}{b:Bool}(hc:F.eval c= .s (.bool b))(ht:b=true→KWp P N x F σ Q)(hf:b=false→KWp P N y F σ Q):KWp P N (.cond c x y) F σ Q:=fun G a hs=>
 wp_cond_split (zj2 hs.fr hc) (fun e=>ht e G a hs) (fun e=>hf e G a hs)
theorem kw_true {c:Operand}{x y:Code}(hc:F.eval c= .s (.bool true))(ht:KWp P N x F σ Q):KWp P N (.cond c x y) F σ Q:=kw_cond hc (fun _=>ht) (fun e=>by cases e)
theorem kw_false {c:Operand}{x y:Code}(hc:F.eval c= .s (.bool false))(ht:KWp P N y F σ Q):KWp P N (.cond c x y) F σ Q:=kw_cond hc (fun e=>by cases e) (fun _=>ht)
theorem kw_loop {c:Code}(I:Nat→Frm→List Ob→Prop)(m:Nat)(h0:I m F σ)
  (round: ∀m F σ,I m F σ→KWp P N c F σ (zfe (fun F' σ'=> ∃m',m'<m∧I m' F' σ') Q)):KWp P N (.loop c) F σ Q:=fun G a hs=>by
 refine wp_loop_ghost (fun n a w=> ∃G' F' σ',G'.w=w∧KE G G'∧S8 N G' a F' σ'∧I n F' σ') m ⟨G,F,σ,rfl, .refl G,hs,h0⟩ ?_
 rintro n a w ⟨G',F',σ',rfl,h2,h3,h4⟩
 refine Code.wp_mono (fun e a1 w1 q=>?_) (round n F' σ' h4 G' a h3)
 obtain⟨G2,F2,σ2,rfl,h5,h6,h7⟩:=q
 cases e with
 |normal=>obtain⟨m',hm,hi⟩:=h7;exact⟨m',hm,⟨G2,F2,σ2,rfl,h2.trans h5,h6,hi⟩⟩
 |_=>exact⟨G2,F2,σ2,rfl,h2.trans h5,h6,h7⟩
theorem kw_region {id:Nat}{l:List Oper}(h:KOps P N l.toArray l F σ Q):KWp P N (.region id l.toArray false) F σ Q:=fun G a hs=>wp_region_lit (h G a hs)
theorem kw_mono {c:Code}{Q':Exit→Frm→List Ob→Prop}(h:KWp P N c F σ Q)(hq: ∀e F σ,Q e F σ→Q' e F σ):KWp P N c F σ Q':=fun G a hs=>
 Code.wp_mono (fun e a w q=>liftK_mono (.refl G) hq q) (h G a hs)
end
section
variable {P:Program}{N:Nat}{F:Frm}{σ σ':List Ob}{Q:Exit→Frm→List Ob→Prop}{ops:Array Oper}{o:Oper}{l:List Oper}{x:AV}
theorem kops_nil (h:Q .normal F σ):KOps P N ops [] F σ Q:=fun G a hs=>⟨G,F,σ,rfl, .refl G,hs,h⟩
theorem kops_op {d:Nat}(hd:o.dst=some d)(hN:Nat.blt d N=true)(hr:Runs ops F o true)(hD:Does P o F σ x σ')(k:KOps P N ops l ((d,x)::F) σ' Q):KOps P N ops (o::l) F σ Q:=fun G a hs=>by
 unfold wpList
 rw[if_pos (hr.wanted hs.fr)]
 left
 refine hD G a _ _ hs.rel (fun y _=>zc1 hs.fr y) (fun v G' e r hv=>?_)
 rw[hd]
 exact zch (fun e' a w q=>liftK_mono (KE.of e) (fun _ _ _ x=>x) q) _ _ _ (k G' _ ((hs.step e r).put (by simpa[Nat.blt_eq] using hN) hv))
theorem kops_eff (hd:o.dst=none)(hr:Runs ops F o true)(hD:Does P o F σ x σ')(k:KOps P N ops l F σ' Q):KOps P N ops (o::l) F σ Q:=fun G a hs=>by
 unfold wpList
 rw[if_pos (hr.wanted hs.fr)]
 left
 refine hD G a _ _ hs.rel (fun y _=>zc1 hs.fr y) (fun v G' e r hv=>?_)
 rw[hd]
 exact zch (fun e' a w q=>liftK_mono (KE.of e) (fun _ _ _ x=>x) q) _ _ _ (k G' _ (hs.step e r))
end
def WeakK (N:Nat)(F:Frm)(σ:List Ob)(F':Frm)(σ':List Ob):Prop:= ∀G a,S8 N G a F σ→ ∃G',G'.w=G.w∧KE G G'∧S8 N G' a F' σ'
theorem WeakK.refl {N:Nat}{F:Frm}{σ:List Ob}:WeakK N F σ F σ:=fun G a h=>⟨G,rfl, .refl G,h⟩
section
variable {P:Program}{N:Nat}{F F':Frm}{σ σ':List Ob}{Q:Exit→Frm→List Ob→Prop}
theorem kw_weak {c:Code}(w:WeakK N F σ F' σ')(h:KWp P N c F' σ' Q):KWp P N c F σ Q:=fun G a hs=>by
 obtain⟨G1,e1,s1,h1⟩:=w G a hs
 rw[←e1]
 exact Code.wp_mono (fun e a w q=>liftK_mono s1 (fun _ _ _ x=>x) q) (h G1 a h1)
theorem kw_loops {c:Code}{S:Type}(fr:S→Frm)(st:S→List Ob)(inv:S→Prop)(ms:S→Nat)(s0:S)(hw:WeakK N F σ (fr s0) (st s0))(h0:inv s0)
  (round: ∀s,inv s→KWp P N c (fr s) (st s) (zfe (fun F' σ'=> ∃s',inv s'∧ms s'<ms s∧WeakK N F' σ' (fr s') (st s')) Q)):KWp P N (.loop c) F σ Q:=by
 refine kw_weak hw (kw_loop (fun m F σ=> ∃s,inv s∧ms s=m∧WeakK N F σ (fr s) (st s)) (ms s0) ⟨s0,h0,rfl,WeakK.refl⟩ (fun m F σ h=>?_))
 obtain⟨s,h1,rfl,h3⟩:=h
 refine kw_weak h3 (kw_mono (round s h1) (fun e F σ q=>?_))
 cases e with
 |normal=>obtain⟨s',g1,g2,g3⟩:=q;exact⟨ms s',g2,s',g1,rfl,g3⟩
 |_=>exact q
variable {ops:Array Oper}{o:Oper}{l:List Oper}{d:Nat}
theorem kops_opP {p:Prop}[Decidable p](hd:o.dst=some d)(hN:Nat.blt d N=true)(hr:Runs ops F o true)(hD:Does P o F σ (.s (.bool (decide p))) σ)(k1:p→KOps P N ops l ((d, .s (.bool true))::F) σ Q)(k2: ¬p→KOps P N ops l ((d, .s (.bool false))::F) σ Q):KOps P N ops (o::l) F σ Q:=by
 by_cases h:p
 ·
  exact kops_op hd hN hr (zbn h hD) (k1 h)
 ·
  exact kops_op hd hN hr (zbl h hD) (k2 h)
end
section
variable {N:Nat}{F F':Frm}{σ σ':List Ob}
theorem WeakK.trans {F1 F2:Frm}{σ1 σ2:List Ob}(h:WeakK N F σ F1 σ1)(k:WeakK N F1 σ1 F2 σ2):WeakK N F σ F2 σ2:=fun G a hs=>by
 obtain⟨G1,e1,s1,h1⟩:=h G a hs
 obtain⟨G2,e2,s2,h2⟩:=k G1 a h1
 exact⟨G2,e2.trans e1,s1.trans s2,h2⟩
theorem kwk_st (ρ:List Nat)(hn:ρ.Nodup)(hs:StL ρ σ ρ σ')(hf:FrRn F ρ F'):WeakK N F σ F' σ':=fun G a h=>
 ⟨G.ren ρ,rfl,⟨⟨rfl,rfl,fun _ _ h=>h,fun _ _ _=>rfl,fun _ _ h=> .inl h,rfl,fun _ _ h=> .inl h,fun _ _ h _=>h⟩,fun i y hi hy=>by
  exact absurd hi (Nat.not_lt_zero _),zce.refl _,Nat.le_refl _⟩,⟨zqb h.rel hn (zmt ρ σ' hs),znt h.fr F' hf,h.df,h.nt⟩⟩
theorem kwk_own {d:Nat}{x:AV}(sz:Nat)(hd:F.get d=x)(hx:x= .emp∨x= .s (.slice none 0 0)):WeakK N F σ ((d, .own σ.length sz 0)::F) (σ++[.row sz []]):=fun G a h=>by
 have he:=zh2 h.rel
 refine⟨G.new σ.length G.w none,rfl, .of he,zjj h.rel sz,(h.fr.ext he).more ?_,h.df,h.nt⟩
 have h1:=h.fr d
 rw[hd] at h1
 generalize a.tmps.getD d undef=v at h1
 rcases hx with rfl|rfl
 ·
  cases h1 with|emp A hA=>exact .own0 σ.length sz A hA (by simp[Cx.new])
 ·
  cases h1;exact .own0 σ.length sz none (fun a ha=>by cases ha) (by simp[Cx.new])
end
section
variable {P:Program}{σ σ':List Ob}{f:FuncId}{y:AV}{args:List AV}
theorem callE_fn {fn:Func}{c:Code}(hl:σ=[])(hf:P.funcs[f]?=some fn)(hname:(fn.name== "runtime.NumGoroutine")=false)(hb:fn.body=some c)(hn:args.length≤fn.ntmps)
  (h:KWp P fn.ntmps c (argF 0 args) σ (fun e F σ1=>(e= .normal∨e= .ret)∧σ1=σ'∧ ∃xs,ResL P F σ1 fn.results.toList xs∧zqe xs=y)):CallE P f args σ y σ':=by
 refine⟨zkk hf hname hb,fun G vargs hrel hsz hrep=>?_⟩
 refine calls_of_wp hf hb ?_
 have hfo:FOk G {tmps:=vargs++Array.replicate (fn.ntmps-vargs.size) undef,defers:=[]} (argF 0 args):=by
  intro d
  rw[zku]
  simp only[Nat.zero_le,if_true,Nat.sub_zero]
  by_cases hd:d<args.length
  ·
   have h1:(vargs++Array.replicate (fn.ntmps-vargs.size) undef).getD d undef=vargs[d]'(by omega):=by
    rw[Array.getD_eq_getD_getElem?,Array.getElem?_append_left xa]
    simp[show d<vargs.size by omega]
   rw[h1]
   have h2:args.getD d .any=args[d]:=by rw[List.getD_eq_getElem?_getD,List.getElem?_eq_getElem hd];rfl
   rw[h2]
   exact hrep d _ _ (by simp[show d<vargs.size by omega]) (by simp[hd])
  ·
   have h2:args.getD d .any= .any:=by
    rw[List.getD_eq_getElem?_getD,List.getElem?_eq_none xa];rfl
   rw[h2];exact .any _
 have hs8:S8 fn.ntmps G {tmps:=vargs++Array.replicate (fn.ntmps-vargs.size) undef,defers:=[]} (argF 0 args) σ:=⟨hrel,hfo, .nil,by simp;omega⟩
 refine Code.wp_mono (fun e a w q=>?_) (h G _ hs8)
 obtain⟨G',F',σ1,rfl,h2,h3,he,rfl,xs,hrl,hy⟩:=q
 obtain⟨v,h6,h7⟩:=zhc (fn:=fn) h3.rel h3.fr hrl
 rw[hy] at h7
 have hext:G.Ext G':=⟨h2.step.base,h2.step.w0,h2.step.st,h2.step.cell,fun id x hx=>by
  rw[hrel.fresh id (by rw[hl];exact Nat.zero_le _)] at hx;exact absurd hx xm,h2.size,h2.rows,h2.step.stN,h2.step.pr,h2.step.prN,h2.step.oth⟩
 have post: ∃ (v':Value) (G'':Cx),Ending.returned v= .returned v'∧G''.w=G'.w∧G.Ext G''∧Rel G'' σ1∧Rep G'' v' y:=⟨v,G',rfl,rfl,hext,h3.rel,h7⟩
 rcases he with rfl|rfl
 ·
  exact⟨h3.df.1,_,h6,post⟩
 ·
  exact⟨h3.df.1,_,h6,post⟩
theorem callE_fn1 {fn:Func}{c:Code}{t:Nat}(hl:σ=[])(hf:P.funcs[f]?=some fn)(hname:(fn.name== "runtime.NumGoroutine")=false)(hb:fn.body=some c)(hn:args.length≤fn.ntmps)(hres:fn.results.toList=[.tmp t])
  (h:KWp P fn.ntmps c (argF 0 args) σ (fun e F σ1=>(e= .normal∨e= .ret)∧F.get t=y∧σ1=σ')):CallE P f args σ y σ':=
 callE_fn hl hf hname hb hn (kw_mono h (fun e F σ1 ⟨h1,h2,h3⟩=>⟨h1,h3,[y],by rw[hres];exact .cons _ _ _ _ (.tmp t y h2) .nil,rfl⟩))
end
theorem kw_of {P:Program}{N:Nat}{F:Frm}{σ:List Ob}{Q:Exit→Frm→List Ob→Prop}{c:Code}(h:EWp P N c F σ Q):KWp P N c F σ Q:=fun G a hs=>
 Code.wp_mono (fun e a w q=>by obtain⟨G',F',σ',h1,h2,h3,h4⟩:=q;exact⟨G',F',σ',h1,KE.of h2,h3,h4⟩) (h G a hs)
theorem kw_draw {P:Program}{N:Nat}{l:List Oper}{F:Frm}{σ:List Ob}{Q:Exit→Frm→List Ob→Prop}{id:Nat}(hm:P.follows .mixedOrders=true)(h:zkw P N l F σ Q):KWp P N (.region id l.toArray true) F σ Q:=kw_of (zdy hm h)
theorem kdraw_ex {P:Program}{N:Nat}{l:List Oper}{F:Frm}{σ:List Ob}{Q:Exit→Frm→List Ob→Prop}(h:EX P N l.toArray l [] l F σ (fun F' σ'=>Q .normal F' σ')):zkw P N l F σ Q:=by
 obtain⟨F',σ',out,ks,sts,h1,h2,h3⟩:=h
 exact zfb h1 (by simpa using h2) h3
section
variable {P:Program}{N:Nat}{F:Frm}{σ:List Ob}{Q:Exit→Frm→List Ob→Prop}{ops:Array Oper}{o:Oper}{l:List Oper}{d:Nat}{x:AV}
theorem kops_s (h:stv (opv o.op F) N ops o F=some (d,x))(k:KOps P N ops l ((d,x)::F) σ Q):KOps P N ops (o::l) F σ Q:=kops_op (zbe h).1 (zbe h).2.1 (zbe h).2.2.1 (zhe (zbe h).2.2.2) k
theorem kops_l {t:Nat}(ha:zcw P t=some false)(h:stv (ldv o.op t F) N ops o F=some (d,x))(k:KOps P N ops l ((d,x)::F) σ Q):KOps P N ops (o::l) F σ Q:=kops_op (zbe h).1 (zbe h).2.1 (zbe h).2.2.1 (zis ha (zbe h).2.2.2) k
end
end Aw.K0
namespace Aw
open Go Go.RowKit
def fin1 (s:Sto):AV→AV
 | .own id sz n=>match s.get id with
  |none=> .own id sz n
  |some ob=>match ze6 ob with
   |some (sz',cs)=>bif Nat.beq sz' sz && Nat.beq n cs.length then .sl cs else .own id sz n
   |none=> .own id sz n
 | .emp=> .sl []
 | .s (.slice none 0 0)=> .sl []
 |x=>x
def fin2 (s:Sto):AV→AV
 | .tup l=> .tup (l.map (fin1 s))
 | .agg l=> .agg (l.map (fin1 s))
 |x=>fin1 s x
theorem zt3 (s:Sto)(x:AV):Fini s.abs x (fin1 s x):=by
 unfold fin1
 split
 ·
  rename_i id sz n
  split
  ·
   exact .refl _
  ·
   rename_i ob hob
   split
   ·
    rename_i sz' cs hr
    generalize hb:(Nat.beq sz' sz && Nat.beq n cs.length)=b
    cases b with
    |false=>exact .refl _
    |true=>
     simp only[Bool.and_eq_true] at hb
     obtain rfl:=Nat.eq_of_beq_eq_true hb.1
     exact .own id sz' n ob cs (zo4 hob) hr (Nat.eq_of_beq_eq_true hb.2)
   ·
    exact .refl _
 ·
  exact .emp
 ·
  exact .nil
 ·
  exact .refl _
theorem zt2 (s:Sto)(x:AV):Fini s.abs x (fin2 s x):=by
 unfold fin2
 split
 ·
  rename_i l
  exact .tup _ _ xm (fun j x y hx hy=>by
   rw[List.getElem?_map,hx] at hy
   cases hy
   exact zt3 s x)
 ·
  rename_i l
  exact .agg _ _ xm (fun j x y hx hy=>by
   rw[List.getElem?_map,hx] at hy
   cases hy
   exact zt3 s x)
 ·
  exact zt3 s x
def zq7 (P:Program)(orc:Orc)(n:Nat)(f:FuncId)(args:List AV)(r:AV):Bool:=match zps P orc n f args Sto.nil with
 |some (x,s,_)=>avEq (fin2 s x) r && loB 0 r && losB 0 args
 |none=>false
theorem zp0 {P:Program}{orc:Orc}(hm:P.follows .mixedOrders=true)(ho:zid P orc){n:Nat}{f:FuncId}{args:List AV}{r:AV}(h:zq7 P orc n f args r=true):Pure P f args r:=by
 unfold zq7 at h
 split at h
 ·
  rename_i x s W he
  simp only[Bool.and_eq_true] at h
  obtain⟨⟨h1,h2⟩,h3⟩:=h
  have hf:=zt2 s x
  rw[zjs _ _ h1] at hf
  have hc:=(zn0 hm ho n f args _ _ _ _ he).1
  refine⟨hc.ent,zr7 r h2,fun G vargs hst hsz hrep=>?_⟩
  let G0:Cx:={base:=G.w.heap.size,w0:=G.w,w:=G.w,mu:=fun _=>none,St:=G.St}
  have hrel:Rel G0 Sto.nil.abs:=⟨⟨Below.refl _ _,hst.tab,hst.tab.lt⟩,Nat.le_refl _,fun b o h=>h.elim (hst.st b o) False.elim,by simp[Sto.abs_nil],by rintro i j b ⟨_,_,h⟩;simp[Sto.abs_nil] at h,fun _ _=>rfl⟩
  have hlo:=zgp args h3
  refine(hc.call G0 vargs hrel hsz (fun j v x hv hx=>(hrep j v x hv hx).low (hlo x (List.mem_of_getElem? hx)) (fun _ _ h=>h) (fun _ _ _=>rfl) (fun id y h=>by omega) (fun h=>by omega))).mono ?_
  rintro e w' ⟨v,G',rfl,rfl,he',hr',hv⟩
  have hbase:G'.base=G.w.heap.size:=he'.base
  have hbel:Below G.w.heap.size G.w G'.w:=by have:=hr'.below;rw[hbase,he'.w0] at this;exact this.toBelow
  have hfin:=zt1 (B:=G.w.heap.size) hr' xa hf hv
  refine⟨v,G'.all G.w.heap.size,rfl,rfl,hbel,fun b o h=> .inl (he'.st b o h),fun b o h=>?_,fun b o h=>?_,hfin⟩
  ·
   rcases h with h|h
   ·
    exact he'.stN b o h
   ·
    exact .inr h.1
  ·
   rcases h with h|h
   ·
    exact hr'.st b o (.inl h)
   ·
    exact h.2
 ·
  cases h
end Aw
namespace Aw
open Go Go.RowKit
def zwt (a b:Sto):Bool:=Nat.beq a.len b.len && (List.range a.len).all fun i=>oEq (a.get i) (b.get i)
theorem zif {a b:Sto}(h:zwt a b=true):a.abs=b.abs:=by
 unfold zwt at h
 simp only[Bool.and_eq_true] at h
 have hl:=Nat.eq_of_beq_eq_true h.1
 refine List.ext_getElem? fun i=>?_
 by_cases hi:i<a.len
 ·
  have:=z5u (List.all_eq_true.1 h.2 i (by simpa using hi))
  rw[←Sto.get_abs, ←Sto.get_abs];exact this
 ·
  rw[List.getElem?_eq_none (by rw[Sto.abs_len];omega),List.getElem?_eq_none (by rw[Sto.abs_len];omega)]
structure EvEnt where
 f:FuncId
 args:List AV
 s:Sto
 r:AV
 s':Sto
 W:List Nat
def EvEnt.ok (P:Program)(e:EvEnt):Prop:=CallE P e.f e.args e.s.abs e.r e.s'.abs∧Chg e.s e.s' e.W
def zho (P:Program)(orc:Orc)(n:Nat)(e:EvEnt):Bool:=match zps P orc n e.f e.args e.s with
 |some (x,s1,W1)=>avEq x e.r && zwt s1 e.s' && W1.all (fun i=>e.W.contains i)
 |none=>false
theorem zi6 {P:Program}{orc:Orc}(hm:P.follows .mixedOrders=true)(ho:zid P orc){n:Nat}{e:EvEnt}(h:zho P orc n e=true):e.ok P:=by
 unfold zho at h
 split at h
 ·
  rename_i x s1 W1 he
  simp only[Bool.and_eq_true] at h
  obtain⟨⟨h1,h2⟩,h3⟩:=h
  obtain⟨c1,c2⟩:=zn0 hm ho n _ _ _ _ _ _ he
  rw[zjs _ _ h1,zif h2] at c1
  refine⟨c1,fun id hid=>?_⟩
  rw[←zif h2]
  refine c2 id (fun hm=>hid ?_)
  have:=List.all_eq_true.1 h3 id hm
  simpa using this
 ·
  cases h
def zyi:List EvEnt→CallF
 |[]=>fun _ _ _=>none
 |e::l=>fun f args s=>bif Nat.beq f e.f && zhs args e.args && zwt s e.s then some (e.r,e.s',e.W) else zyi l f args s
theorem zp4 {P:Program}: ∀ (l:List EvEnt),(∀e∈l,e.ok P)→zgk P (zyi l)
 |[],_=>fun f args s r s' W h=>by cases h
 | e::l,hl=>fun f args s r s' W h=>by
  unfold zyi at h
  cases hb:(Nat.beq f e.f && zhs args e.args && zwt s e.s) with
  |false=>rw[hb] at h;exact zp4 l (fun e he=>hl e (List.mem_cons_of_mem _ he)) f args s r s' W h
  |true=>
   rw[hb] at h;cases h
   simp only[Bool.and_eq_true] at hb
   obtain⟨⟨h1,h2⟩,h3⟩:=hb
   obtain⟨c1,c2⟩:=hl e List.mem_cons_self
   rw[Nat.eq_of_beq_eq_true h1,ze5 _ _ h2,zif h3]
   refine⟨c1,fun id hid=>?_⟩
   rw[zif h3]
   exact c2 id hid
section
variable (P:Program)(orc:Orc)(tab:CallF)
def zld:Nat→CallF
 |0=>fun _ _ _=>none
 | n+1=>fun f args s=>match tab f args s with
  |some x=>some x
  |none=>match P.funcs[f]? with
  |none=>none
  | some fn=>match fn.body with
   |none=>none
   |some c=>bif (fn.name== "runtime.NumGoroutine")||!(Nat.ble args.length fn.ntmps) then none else match (zeb P orc (zld n) fn.ntmps c).run n (argT 0 args) s [] with
    |some (.normal,t,s',W)=>zrq P s.len fn.results.toList t s' W
    |some (.ret,t,s',W)=>zrq P s.len fn.results.toList t s' W
    |_=>none
end
section
variable {P:Program}{orc:Orc}{tab:CallF}
theorem zlc (hm:P.follows .mixedOrders=true)(ho:zid P orc)(ht:zgk P tab): ∀n,zgk P (zld P orc tab n)
 |0=>fun f args s r s' W h=>by cases h
 | n + 1=>fun f args s r s' W h=>by
  have ih:=zlc hm ho ht n
  unfold zld at h
  split at h
  ·
   rename_i x hx
   cases h
   exact ht _ _ _ _ _ _ hx
  split at h
  ·
   cases h
  ·
   rename_i fn hf
   split at h
   ·
    cases h
   ·
    rename_i c hb
    generalize hg:((fn.name== "runtime.NumGoroutine")||!(Nat.ble args.length fn.ntmps))=g at h
    cases g with
    |true=>cases h
    | false=>
     rw[cond_false] at h
     simp only[Bool.or_eq_false_iff,Bool.not_eq_false'] at hg
     have hcode:=zfg (N:=fn.ntmps) hm ho ih c
     have main: ∀e t s1 W1,(e= .normal∨e= .ret)→(zeb P orc (zld P orc tab n) fn.ntmps c).run n (argT 0 args) s []=some (e,t,s1,W1)→zrq P s.len fn.results.toList t s1 W1=some (r,s',W)→CallE P f args s.abs r s'.abs∧Chg s s' W:=by
      intro e t s1 W1 he hrun hret
      obtain⟨h1,h2,_⟩:=hcode n (argF 0 args) (argT 0 args) s [] _ (zul args 0) hrun
      unfold zrq at hret
      split at hret
      ·
       rename_i xs hx
       have hret:=Option.some.inj hret
       refine zsb (callE_fn hf hg.1 hb (Nat.le_of_ble_eq_true hg.2) (zhh h1 ?_)) (h2 s (.refl s)) hret
       rintro e F2 σ2 ⟨rfl,hF2,rfl⟩
       exact⟨he,rfl,xs,znx hF2 hx,rfl⟩
      ·
       cases hret
     split at h
     ·
      rename_i t s1 W1 he;exact main _ _ _ _ (.inl rfl) he h
     ·
      rename_i t s1 W1 he;exact main _ _ _ _ (.inr rfl) he h
     ·
      cases h
def fin4 (s:Sto):AV→AV
 | .tup l=> .tup (l.map (fin2 s))
 |x=>fin2 s x
theorem z78 (s:Sto)(x:AV):Fini s.abs x (fin4 s x):=by
 unfold fin4
 split
 ·
  rename_i l
  exact .tup _ _ xm (fun j x y hx hy=>by
   rw[List.getElem?_map,hx] at hy
   cases hy
   exact zt2 s x)
 ·
  exact zt2 s x
def zq6 (P:Program)(orc:Orc)(tab:CallF)(n:Nat)(f:FuncId)(args:List AV)(r:AV):Bool:=match zld P orc tab n f args Sto.nil with
 |some (x,s,_)=>avEq (fin4 s x) r && loB 0 r && losB 0 args
 |none=>false
theorem zuh (hm:P.follows .mixedOrders=true)(ho:zid P orc)(ht:zgk P tab){n:Nat}{f:FuncId}{args:List AV}{r:AV}(h:zq6 P orc tab n f args r=true):Pure P f args r:=by
 unfold zq6 at h
 split at h
 ·
  rename_i x s W he
  simp only[Bool.and_eq_true] at h
  obtain⟨⟨h1,h2⟩,h3⟩:=h
  have hf:=z78 s x
  rw[zjs _ _ h1] at hf
  have hc:=(zlc hm ho ht n f args _ _ _ _ he).1
  refine⟨hc.ent,zr7 r h2,fun G vargs hst hsz hrep=>?_⟩
  let G0:Cx:={base:=G.w.heap.size,w0:=G.w,w:=G.w,mu:=fun _=>none,St:=G.St}
  have hrel:Rel G0 Sto.nil.abs:=⟨⟨Below.refl _ _,hst.tab,hst.tab.lt⟩,Nat.le_refl _,fun b o h=>h.elim (hst.st b o) False.elim,by simp[Sto.abs_nil],by rintro i j b ⟨_,_,h⟩;simp[Sto.abs_nil] at h,fun _ _=>rfl⟩
  have hlo:=zgp args h3
  refine(hc.call G0 vargs hrel hsz (fun j v x hv hx=>(hrep j v x hv hx).low (hlo x (List.mem_of_getElem? hx)) (fun _ _ h=>h) (fun _ _ _=>rfl) (fun id y h=>by omega) (fun h=>by omega))).mono ?_
  rintro e w' ⟨v,G',rfl,rfl,he',hr',hv⟩
  have hbase:G'.base=G.w.heap.size:=he'.base
  have hbel:Below G.w.heap.size G.w G'.w:=by have:=hr'.below;rw[hbase,he'.w0] at this;exact this.toBelow
  have hfin:=zt1 (B:=G.w.heap.size) hr' xa hf hv
  refine⟨v,G'.all G.w.heap.size,rfl,rfl,hbel,fun b o h=> .inl (he'.st b o h),fun b o h=>?_,fun b o h=>?_,hfin⟩
  ·
   rcases h with h|h
   ·
    exact he'.stN b o h
   ·
    exact .inr h.1
  ·
   rcases h with h|h
   ·
    exact hr'.st b o (.inl h)
   ·
    exact h.2
 ·
  cases h
end
end Aw
end Go.Proofs.YtjdpnadhgjohnaaGreatDoor
