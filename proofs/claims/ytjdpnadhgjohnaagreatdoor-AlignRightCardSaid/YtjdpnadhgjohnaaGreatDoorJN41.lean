import Derived.Test.YtjdpnadhgjohnaaGreatDoorJN0
import Derived.Test.YtjdpnadhgjohnaaGreatDoorJN38
import Derived.Test.YtjdpnadhgjohnaaGreatDoorJN28
import Derived.Test.YtjdpnadhgjohnaaGreatDoorJN33
import Derived.Test.YtjdpnadhgjohnaaGreatDoorJN13
import Derived.Test.YtjdpnadhgjohnaaGreatDoorJN37
import Derived.Test.YtjdpnadhgjohnaaGreatDoorJN24
import Derived.Test.YtjdpnadhgjohnaaGreatDoorJN16
import Derived.Test.YtjdpnadhgjohnaaGreatDoorJN39
import Derived.Test.YtjdpnadhgjohnaaGreatDoorJN40
import Derived.Test.YtjdpnadhgjohnaaGreatDoorJN29
import Derived.Test.YtjdpnadhgjohnaaGreatDoorJN22
import Derived.Test.YtjdpnadhgjohnaaGreatDoorJN18
set_option linter.unusedSimpArgs false
set_option linter.unusedVariables false
set_option linter.unusedSectionVars false
namespace Go.Proofs.YtjdpnadhgjohnaaGreatDoor
namespace Aw
open Go Go.RowKit Go.Proofs Go.Maps Go.WideMaps Dl
variable {P:Program}[IsP P]
def keyZ (m:List Int):ByteArray:=⟨(keyD m).toArray⟩
theorem z0j {m:List Int}(h: ∀x∈m,0≤x∧x≤255):(keyZ m).size≤4*m.length:=zvx h
theorem zts {n:Net}{w:List ByteArray}{s:List Int}(h:okS n w s):(keyZ s).size≤maxLen:=by have:=z0j h.small;have:=h.len;unfold maxLen;omega
theorem lo_II {k:Nat}(l:List (List Int)):Lo k (eL (eL eI) l):=zdj fun _=>lo_I
theorem lo_T {k:Nat}(t:Tr):Lo k (eT t):= .agg _ (zaj (.s _) (zaj lo_I (zaj lo_I zba)))
theorem lo_N {k:Nat}(n:Net):Lo k (eN n):= .agg _ (zaj (.s _) (zaj (zdj fun t=>lo_T t) (zaj (.s _) (zaj (.s _) zba))))
theorem lo_W {k:Nat}(w:List ByteArray):Lo k (eL eS w):=zdj fun _=> .s _
theorem zjf (l:List (List Int)): ∀e∈l.map (eL eI), ∀c∈e.cells,Lo 0 c:=by
 intro e he c hc
 obtain⟨x,_,rfl⟩:=List.mem_map.1 he
 simp[eL,AV.cells] at hc;subst hc;exact lo_I
theorem ze0 (l:List Int): ∀e∈l.map eI, ∀c∈e.cells,Lo 0 c:=by
 intro e he c hc
 obtain⟨x,_,rfl⟩:=List.mem_map.1 he
 simp[eI,AV.cells] at hc;subst hc;exact .s _
def atD (S:List (List Int)):DataW Unit:=S.zipIdx.foldl (fun D p=>D.put (.string (keyD p.1)) (.lit (.int .i64 (p.2:Nat)))) (.map [])
theorem zmk (S:List (List Int))(m:List Int):atD (S++[m])=(atD S).put (.string (keyD m)) (.lit (.int .i64 (S.length:Nat))):=by
 unfold atD
 rw[List.zipIdx_append,List.foldl_append]
 simp
theorem z2b: ∀ (k:Nat) (S:List (List Int)),S.length=k→IsMap (atD S)
 |0,S,h=>by rw[List.eq_nil_of_length_eq_zero h];exact isMap_empty
 |k+1,S,h=>by
  have hne:S≠[]:=fun e=>by rw[e] at h;simp at h
  rw[←List.dropLast_concat_getLast hne,zmk]
  exact(z2b k S.dropLast (by simp[h])).put _ _
def Small (m:List Int):Prop:= ∀x∈m,0≤x∧x≤255
theorem z0i {a b:List Int}(ha:Small a)(hb:Small b)(h:a≠b):Lit.string (keyD a)≠Lit.string (keyD b):=fun e=>h (zvy (fun x hx=>(ha x hx).1) (fun x hx=>(hb x hx).1) (by injection e))
theorem z6e {x:List Int}(hx:Small x): ∀ (k:Nat) (S:List (List Int)),S.length=k→(∀y∈S,Small y)→x ∉ S→Maps.has (atD S) (.string (keyD x))=false
 |0,S,h,_,_=>by rw[List.eq_nil_of_length_eq_zero h];rfl
 |k+1,S,h,hs,hn=>by
  have hne:S≠[]:=fun e=>by rw[e] at h;simp at h
  have e:=List.dropLast_concat_getLast hne
  have hl:S.getLast hne∈S:=List.getLast_mem hne
  rw[←e,zmk,has_put_other (z0i hx (hs _ hl) (fun e=>hn (e▸hl)))]
  exact z6e hx k S.dropLast (by simp[h]) (fun y hy=>hs y (List.dropLast_subset _ hy)) (fun hm=>hn (List.dropLast_subset _ hm))
theorem zuk {x:List Int}(hx:Small x): ∀ (k:Nat) (S:List (List Int)),S.length=k→(∀y∈S,Small y)→S.Nodup→x∈S→Maps.has (atD S) (.string (keyD x))=true∧ ∀z,(atD S).atKey (.string (keyD x)) z= .lit (.int .i64 (zek S x))
 |0,S,h,_,_,hm=>by rw[List.eq_nil_of_length_eq_zero h] at hm;simp at hm
 | k +1,S,h,hs,hnd,hm=>by
  have hne:S≠[]:=fun e=>by rw[e] at h;simp at h
  have e:=List.dropLast_concat_getLast hne
  have hl:S.getLast hne∈S:=List.getLast_mem hne
  generalize S.getLast hne=y at e hl
  generalize hS:S.dropLast=T at e
  have hTl:T.length=k:=by rw[←hS];simp[h]
  subst e
  have hiM:=z2b k T hTl
  rw[zmk]
  by_cases he:x=y
  ·
   subst he
   have hnT:x ∉ T:=fun hT=>by
    have:=List.nodup_append.1 hnd
    exact this.2.2 x hT x xm J
   refine⟨has_put_same hiM (show WideAt.IsKeyLit (.string _) from trivial) _,fun z=>?_⟩
   rw[atKey_put_same hiM (show WideAt.IsKeyLit (.string _) from trivial),zh5 hnT]
  ·
   have hmT:x∈T:=by
    rcases List.mem_append.1 hm with h1|h1
    ·
     exact h1
    ·
     simp at h1;exact absurd h1 he
   obtain⟨h1,h2⟩:=zuk hx k T hTl (fun z hz=>hs z (List.mem_append_left _ hz)) (List.nodup_append.1 hnd).1 hmT
   have hk:=z0i hx (hs y hl) he
   refine⟨by rw[has_put_other hk];exact h1,fun z=>?_⟩
   rw[atKey_put_other hk,h2,zi5 hmT]
def atX (P:Program)(S:List (List Int)):MapX:=⟨P,9,3,S.length,atD S⟩
theorem z43 (P:Program)(S:List (List Int))(m:List Int):atX P (S++[m])={atX P S with n:=(atX P S).n+1,D:=(atX P S).D.put (.string (keyD m)) (.lit (.int .i64 (S.length:Nat)))}:=by
 unfold atX
 rw[zmk]
 simp
theorem zej {ρ:List Nat}{X Y:MapX}(h:X=Y):ObRn ρ (.mp X) (.mp Y):=by subst h;exact .mp X X.n (Nat.le_refl _)
end Aw
namespace Aw
open Go Go.RowKit Go.Proofs Go.Maps Go.WideMaps Dl
variable {P:Program}[IsP P]
theorem z85 (m:List Int)(hm: ∀x∈m,0≤x∧x≤255)(hl:m.length≤1000)(hne:m≠[]):Pure P 141 [eL eI m] (eS (keyZ m)):=
 zdw (zgm (zdf Tryz.func141 J J) (.s _) fun G vargs hst hsz hrep=>by
  obtain⟨x,rfl,h1⟩:=argsI hst hsz hrep
  refine(z49 m _ _ x G.w h1 hm hl hne hst.tab hst.tab.lt).mono ?_
  rintro e w' ⟨rfl,hb⟩
  exact⟨_,rfl,hb, .s _⟩)
theorem zuq {n:Net}{w:List ByteArray}{s:List Int}(h:okS n w s):Pure P 141 [eL eI s] (eS (keyZ s)):=z85 s h.small (by have:=h.len;omega) h.ne
def seE (n:Net)(w:List ByteArray)(c:Cst)(i j k m d p:Nat)(a b e f g:Nat):AV:=
 .agg [eI n.places,eL eT n.trans,eI n.source,eI n.sink,eL eS w,eI c.log,eI c.model,eI c.silent, .own i 1 a, .own j 1 b, .own k 1 e, .own m 3 f, .own d 1 g, .mp p]
def stSr (P:Program)(n:Net)(w:List ByteArray)(c:Cst)(S:Sr)(q1 q2:Ob):List Ob:=
 [q1,q2, .row 14 [seE n w c 3 4 5 6 7 8 S.st.length S.co.length S.fr.length S.mv.length S.dn.length], .row 1 (S.st.map (eL eI)), .row 1 (S.co.map eI), .row 1 (S.fr.map eI), .row 3 (S.mv.map eSt), .row 1 (S.dn.map eB), .mp (atX P S.st)]
def stSn (P:Program)(n:Net)(w:List ByteArray)(c:Cst)(S:Sr)(q1 q2:Ob)(y:List Int)(cy f:Int)(m:Stp):List Ob:=
 [q1,q2, .row 14 [seE n w c 10 11 12 13 14 8 ((S.st.map (eL eI)).length+1) ((S.co.map eI).length+1) ((S.fr.map eI).length+1) ((S.mv.map eSt).length+1) ((S.dn.map eB).length+1)], .dead, .dead, .dead, .dead, .dead, .mp (atX P (S.st++[y])),
  .row 3 [eSt m], .row 1 (S.st.map (eL eI)++[eL eI y]), .row 1 (S.co.map eI++[eI cy]), .row 1 (S.fr.map eI++[eI f]), .row 3 (S.mv.map eSt++[eSt m]), .row 1 (S.dn.map eB++[eB false])]
structure SOk (S:Sr):Prop where
 l1:S.co.length=S.st.length
 l2:S.dn.length=S.st.length
 l3:S.fr.length=S.st.length
 l4:S.mv.length=S.st.length
 nd:S.st.Nodup
 big:S.st.length≤500000
 sm: ∀y∈S.st,Small y
theorem z5d {k:Nat}(h:k≤1000000):(Lit.int .i64 (k:Nat)).wf=true:=by
 unfold Lit.wf
 rw[Bool.and_eq_true]
 exact⟨decide_eq_true (by show(-9223372036854775808:Int)≤_;omega),decide_eq_true (by show _≤(9223372036854775807:Int);omega)⟩
set_option maxHeartbeats 4000000 in
theorem zpf {n:Net}{w:List ByteArray}{c:Cst}{S:Sr}{q1 q2:Ob}{y:List Int}{cy f:Int}{m:Stp}(h:SOk S)(hy:okS n w y)(hf:zek S.st y<0):
  CallE P 87 [.ptr 2 14 0 0,eL eI y,eI cy,eI f,eSt m] (stSr P n w c S q1 q2) (.tup [eI S.st.length,eB true]) (stSn P n w c S q1 q2 y cy f m):=by
 obtain⟨h1,h2,h3,h4,h5,h6,h7⟩:=h
 have hk:=zuq (P:=P) hy
 have hks:=zts hy
 have hno:=z6e hy.small _ S.st J h7 (zg1.1 hf)
 refine callE_fn (by rw[IsP.eq (P:=P)];exact Tryz.func87) rfl J (Nat.le_of_ble_eq_true J) ?_
 unfold stSr
 refine za8 (zar (zau J J (zaa J) (zbt J J J J) (zam J (zam J (zas (za8 ?_))))))
 refine zdy hmix ?_
 refine zdu ?_
 refine ex_s J (ex_s J (ex_f zu3 J (zb5 J J (zaa J) (zb9 J ta85 J J J J J) (ex_s J (zaz J J (zaa J) (fun _=>(zai J J (hk) (zaf J zaq))) ?_)))))
 refine zb5 J J (zaa J) (zni J tm85 tK9 J J ⟨rfl,rfl,rfl⟩ rfl (keyOf_string_mk tn9 hks) ti3 (plainElem_int tn3 J) (by exact atKey_of_not_has hno _) hno) ?_
 refine ex_s J (ex_s J (ex_s J (ex_s J (ex_s J ?_))))
 refine ze7 (by kernel_rfl) ?_
 refine za8 (za8 (zar (zam J (zau J J (zaa J) (zbs J J) (zas (zah (ze2 J (za8 (zar (zam J (zam J (z1m zmo J (zau J J (zaa J) (zao J ta83 J J J J J) (zau J J (zaa J) (zcy J ts83 J) (zam J (zas (za8 ?_)))))))))))))))))
 have hwf:=z5d (k:=S.st.length) xa
 have hmn:(atX P S.st).n=S.st.length:=rfl
 refine zdy hmix ?_
 refine zdu ?_
 refine ex_s J (ex_s J (ex_f zu3 J (zb5 J J (zaa J) (zb9 J ta85 J J J J J) (ex_s J (zaz J J (zaa J) (fun _=>(zai J J (hk) (zaf J zaq))) (ex_s J ?_))))))
 refine zcx J (zaa J) (zhi (.inl rfl) tm85 tK9 J J ⟨rfl,rfl,rfl⟩ (by(try dsimp only);unfold maxLen;omega) rfl J (keyOf_string_mk tn9 (by first|assumption|(unfold maxLen;omega))) (plainElem_int tn3 (by first|rfl|assumption))) (fun _ h=>zbo h) ?_
 refine ze7 (by kernel_rfl) ?_
 refine za8 ?_
 refine zdy hmix ?_
 refine zdu ?_
 refine ex_s J (ex_s J (ex_s J (ex_s J (ex_s J (ex_f zmo J (zb5 J J (zaa J) (zb9 J ta83 J J J J J) (ex_s J ?_)))))))
 refine zaz J J (zaa J) (fun _=>(zvr J ts83 ti38 J J J J (zdj fun _=> .s _))) ?_
 refine ze8 J J (zaa J) (zca J ts83 ti38 J xe J J xp J xf xg xg) (fun _ h=>zc4 h) ?_
 refine ex_s J (ex_s J (ex_f zjz J (zb5 J J (zaa J) (zb9 J ta38 J J J J J) (ex_s J (zaz J J (zaa J) (fun _=>(zjl J ts38 ti3 J J J J)) ?_)))))
 refine ze8 J J (zaa J) (zca J ts38 ti3 J xe J J xp J xf xg xg) (fun _ h=>zc4 h) ?_
 refine ex_s J (ex_s J (ex_f zo1 J (zb5 J J (zaa J) (zb9 J ta38 J J J J J) (ex_s J (zaz J J (zaa J) (fun _=>(zjl J ts38 ti3 J J J J)) ?_)))))
 refine ze8 J J (zaa J) (zca J ts38 ti3 J xe J J xp J xf xg xg) (fun _ h=>zc4 h) ?_
 refine ex_s J (ex_f zmo J ?_)
 refine zcx J (zaa J) (zat J ti83 J J J J J J xe xe) (fun _ h=>zbo h) ?_
 refine ex_s J (ex_f zjz J ?_)
 refine zcx J (zaa J) (zat J ti38 J J J J J J xe xe) (fun _ h=>zbo h) ?_
 refine ex_s J (ex_f zo1 J ?_)
 refine zcx J (zaa J) (zat J ti38 J J J J J J xe xe) (fun _ h=>zbo h) ?_
 refine ze7 (by kernel_rfl) ?_
 refine za8 ?_
 refine zdy hmix ?_
 refine zdu ?_
 refine ex_s J (ex_s J (ex_s J (ex_s J (ex_f zu4 J (zb5 J J (zaa J) (zb9 J ta54 J J J J J) (zb5 J J (zaa J) (zfu J ta66 ti66 J J J J J) ?_))))))
 refine zaz J J (zaa J) (fun _=>(zel J ts54 ti66 J J xe xe J J J xh)) ?_
 refine ze8 J J (zaa J) (zca J ts54 ti66 J xe J J xp J xf xg xg) (fun _ h=>zc4 h) ?_
 refine ex_s J (ex_s J (ex_f zrn J (zb5 J J (zaa J) (zb9 J ta84 J J J J J) (zaz J J (zaa J) (fun _=>(zjl J ts84 ti4 J J J J)) ?_))))
 refine ze8 J J (zaa J) (zca J ts84 ti4 J xe J J xp J xf xg xg) (fun _ h=>zc4 h) ?_
 refine ex_s J (ex_f zu4 J ?_)
 refine zcx J (zaa J) (zat J ti54 J J J J J J xe xe) (fun _ h=>zbo h) ?_
 refine ex_s J (ex_f zrn J ?_)
 refine zcx J (zaa J) (zat J ti84 J J J J J J xe xe) (fun _ h=>zbo h) ?_
 refine ze7 (by kernel_rfl) ?_
 refine za8 (zar (zam J (zam J (zam J (zas (zah ?_))))))
 (refine zg2 ?_;repeat (first|refine zbg ?_|refine zbh ?_))
 refine⟨.inr rfl,?_,_, .cons _ _ _ _ (.tmp _ _ J) (.cons _ _ _ _ (.tmp _ _ J) .nil),rfl⟩
 unfold stSn
 rw[z43]
 rfl
def stSc (P:Program)(n:Net)(w:List ByteArray)(c:Cst)(S:Sr)(q1 q2:Ob)(i:Nat)(cy f:Int)(m:Stp):List Ob:=
 [q1,q2, .row 14 [seE n w c 3 4 5 6 7 8 S.st.length S.co.length S.fr.length S.mv.length S.dn.length], .row 1 (S.st.map (eL eI)), .row 1 ((S.co.map eI).set i (eI cy)), .row 1 ((S.fr.map eI).set i (eI f)), .row 3 ((S.mv.map eSt).set i (eSt m)), .row 1 (S.dn.map eB), .mp (atX P S.st), .row 3 [eSt m]]
set_option maxHeartbeats 4000000 in
theorem zxb {n:Net}{w:List ByteArray}{c:Cst}{S:Sr}{q1 q2:Ob}{y:List Int}{cy f:Int}{m:Stp}(h:SOk S)(hy:okS n w y)(hf: ¬zek S.st y<0)(hge: ¬cy<gti S.co (idx S.st y)):
  CallE P 87 [.ptr 2 14 0 0,eL eI y,eI cy,eI f,eSt m] (stSr P n w c S q1 q2) (.tup [eI (idx S.st y),eB false]) (stSr P n w c S q1 q2++[.row 3 [eSt m]]):=by
 obtain⟨h1,h2,h3,h4,h5,h6,h7⟩:=h
 have hk:=zuq (P:=P) hy
 have hks:=zts hy
 obtain⟨p1,p2,p3⟩:=zh4 hf
 have hmem:y∈S.st:=List.mem_of_getElem? p1
 obtain⟨hyes,hat⟩:=zuk hy.small _ S.st rfl h7 h5 hmem
 have hat2: ∀z,(atD S.st).atKey (.string (keyD y)) z= .lit (.int .i64 (idx S.st y:Nat)):=fun z=>by rw[hat z,p3]
 generalize idx S.st y=i at p1 p2 p3 hge hat2⊢
 have hi:i<S.co.length:=by omega
 have hixc:(S.co.map eI)[i]?=some (eI (gti S.co i)):=zdk hi
 refine callE_fn (by rw[IsP.eq (P:=P)];exact Tryz.func87) rfl J (Nat.le_of_ble_eq_true J) ?_
 unfold stSr
 refine za8 (zar (zau J J (zaa J) (zbt J J J J) (zam J (zam J (zas (za8 ?_))))))
 refine zdy hmix ?_
 refine zdu ?_
 refine ex_s J (ex_s J (ex_f zu3 J (zb5 J J (zaa J) (zb9 J ta85 J J J J J) (ex_s J (zaz J J (zaa J) (fun _=>(zai J J (hk) (zaf J zaq))) ?_)))))
 refine zb5 J J (zaa J) (zni J tm85 tK9 J J ⟨rfl,rfl,rfl⟩ rfl (keyOf_string_mk tn9 hks) ti3 (plainElem_int tn3 J) (by exact hat2 _) hyes) ?_
 refine ex_s J (ex_s J (ex_s J (ex_s J (ex_s J ?_))))
 refine ze7 (by kernel_rfl) ?_
 refine za8 (za8 (zar (zam J (zau J J (zaa J) (zbs J J) (zas (zah (zd9 J (zc7 (za8 (za8 (zar (zam J (zam J (zam J (z1m zjz J (zau J J (zaa J) (zao J ta38 J J J J J) (zam J (zau J J (zaa J) (zal J ts38 ti3 J J J hi) (zau J J (zaa J) (zao J ta3 J J J hixc J) (zau J J (zaa J) (zbn xa (zc9 J J J)) (zas (zah (ze2 J (za8 (zar ?_)))))))))))))))))))))))))
 refine zam J (zam J (zam J (zas (zah ?_))))
 (refine zg2 ?_;repeat (first|refine zbg ?_|refine zbh ?_))
 exact⟨.inr rfl,rfl,_, .cons _ _ _ _ (.tmp _ _ J) (.cons _ _ _ _ (.tmp _ _ J) .nil),rfl⟩
set_option maxHeartbeats 4000000 in
theorem zxc {n:Net}{w:List ByteArray}{c:Cst}{S:Sr}{q1 q2:Ob}{y:List Int}{cy f:Int}{m:Stp}(h:SOk S)(hy:okS n w y)(hf: ¬zek S.st y<0)(hlt:cy<gti S.co (idx S.st y)):
  CallE P 87 [.ptr 2 14 0 0,eL eI y,eI cy,eI f,eSt m] (stSr P n w c S q1 q2) (.tup [eI (idx S.st y),eB true]) (stSc P n w c S q1 q2 (idx S.st y) cy f m):=by
 obtain⟨h1,h2,h3,h4,h5,h6,h7⟩:=h
 have hk:=zuq (P:=P) hy
 have hks:=zts hy
 obtain⟨p1,p2,p3⟩:=zh4 hf
 have hmem:y∈S.st:=List.mem_of_getElem? p1
 obtain⟨hyes,hat⟩:=zuk hy.small _ S.st rfl h7 h5 hmem
 have hat2: ∀z,(atD S.st).atKey (.string (keyD y)) z= .lit (.int .i64 (idx S.st y:Nat)):=fun z=>by rw[hat z,p3]
 generalize idx S.st y=i at p1 p2 p3 hlt hat2⊢
 have hi:i<S.co.length:=by omega
 have hif:i<S.fr.length:=by omega
 have him:i<S.mv.length:=by omega
 have hixc:(S.co.map eI)[i]?=some (eI (gti S.co i)):=zdk hi
 have hixf:(S.fr.map eI)[i]?=some (eI (gti S.fr i)):=zdk hif
 have hixm:(S.mv.map eSt)[i]?=some (eSt (gti S.mv i)):=zdk him
 refine callE_fn (by rw[IsP.eq (P:=P)];exact Tryz.func87) rfl J (Nat.le_of_ble_eq_true J) ?_
 unfold stSr
 refine za8 (zar (zau J J (zaa J) (zbt J J J J) (zam J (zam J (zas (za8 ?_))))))
 refine zdy hmix ?_
 refine zdu ?_
 refine ex_s J (ex_s J (ex_f zu3 J (zb5 J J (zaa J) (zb9 J ta85 J J J J J) (ex_s J (zaz J J (zaa J) (fun _=>(zai J J (hk) (zaf J zaq))) ?_)))))
 refine zb5 J J (zaa J) (zni J tm85 tK9 J J ⟨rfl,rfl,rfl⟩ rfl (keyOf_string_mk tn9 hks) ti3 (plainElem_int tn3 J) (by exact hat2 _) hyes) ?_
 refine ex_s J (ex_s J (ex_s J (ex_s J (ex_s J ?_))))
 refine ze7 (by kernel_rfl) ?_
 refine za8 (za8 (zar (zam J (zau J J (zaa J) (zbs J J) (zas (zah (zd9 J (zc7 (za8 (za8 (zar (zam J (zam J (zam J (z1m zjz J (zau J J (zaa J) (zao J ta38 J J J J J) (zam J (zau J J (zaa J) (zal J ts38 ti3 J J J hi) (zau J J (zaa J) (zao J ta3 J J J hixc J) (zau J J (zaa J) (zbl xa (zc9 J J J)) (zas (zah (zd9 J (zc7 (za8 ?_)))))))))))))))))))))))))
 refine zdy hmix ?_
 refine zdu ?_
 refine ex_s J (ex_s J (ex_f zjz J (zb5 J J (zaa J) (zb9 J ta38 J J J J J) (ex_s J (ex_s J (ex_s J (ex_f zo1 J (zb5 J J (zaa J) (zb9 J ta38 J J J J J) (ex_s J (ex_s J (ex_s J (ex_f zu4 J (zb5 J J (zaa J) (zb9 J ta54 J J J J J) (ex_s J (ex_s J (ex_s J (zb5 J J (zaa J) (zfu J ta66 ti66 J J J J J) (zaz J J (zaa J) (fun _=>(zal J ts38 ti3 J J J hi)) ?_))))))))))))))))))
 refine zcx J (zaa J) (zat J ti3 J J J hixc J J xe xe) (fun _ h=>zbo h) ?_
 refine zaz J J (zaa J) (fun _=>(zal J ts38 ti3 J J J hif)) ?_
 refine zcx J (zaa J) (zat J ti3 J J J hixf J J xe xe) (fun _ h=>zbo h) ?_
 refine zaz J J (zaa J) (fun _=>(zal J ts54 ti66 J J J him)) ?_
 refine zcx J (zaa J) (zat J ti66 J J J hixm J J xe xe) (fun _ h=>zbo h) ?_
 refine ze7 (by kernel_rfl) ?_
 refine za8 (zar (zam J (zam J (zam J (zas (zah ?_))))))
 (refine zg2 ?_;repeat (first|refine zbg ?_|refine zbh ?_))
 exact⟨.inr rfl,rfl,_, .cons _ _ _ _ (.tmp _ _ J) (.cons _ _ _ _ (.tmp _ _ J) .nil),rfl⟩
end Aw
namespace Aw
open Go Go.RowKit Go.Proofs Go.Maps Go.WideMaps Dl
variable {P:Program}[IsP P]
def zc0 (n:Net)(w:List ByteArray)(c:Cst):Bool:=decide ((zb0 n w).2=0) && vcB c
theorem zve (n:Net)(w:List ByteArray)(c:Cst):Pure P 41 [eN n,eL eS w,eC c] (eB (zc0 n w c)):=by
 have hS:=zu8 (P:=P) n w
 have hV:=zjv (P:=P) c
 have hR:zc0 n w c=(decide ((zb0 n w).2=0) && vcB c):=rfl
 generalize zc0 n w c=R at hR⊢
 generalize zb0 n w=s0 at hS hR
 generalize vcB c=v at hV hR
 have hln:Lo 0 (.ref (eN n).cells):= .ref _ (lo_N n).cells
 have hlc:Lo 0 (.ref (eC c).cells):= .ref _ (lo_C c).cells
 refine zd1 (by rw[IsP.eq (P:=P)];exact Tryz.func41) rfl J J J J (zaj (lo_N n) (zaj (lo_W w) (zaj (lo_C c) zba))) (.s _) (by simp only[argF];rfl) ?_
 refine zag (zab (zad J J (zaa J) (zbt J J J J) ?_))
 refine zax (zbw (id:=0) rfl) (zax (zci (d:=3) rfl J J) ?_)
 refine zad J J (zaa J) (zbt J J J J) ?_
 refine zax (zbw (id:=1) rfl) (zax (zci (d:=5) rfl J J) ?_)
 refine zac J (zae (zag (zab (zby ta24 ti24 J (zac J (zad J J (zaa J) (zai J J (hS) (zaf J (zaf J zaq))) (zac J (zac J (zac J (zac J (zac J (zae (zag ?_)))))))))))))
 by_cases h:s0.2=0
 ·
  refine zab (zac J (zad J J (zaa J) (zbn h (zb2 J J J)) (zac J (zby ta27 ti27 J (zad J J (zap J J J) (zai J J (hV) (zaf J zaq)) (zac J (zac J (zae (zah ?_)))))))))
  (refine za3 ?_;repeat (first|refine zbg ?_|refine zbh ?_))
  exact zcl (.inr rfl) rfl (congrArg eB (by rw[hR,decide_eq_true h];rfl))
 ·
  refine zab (zac J (zad J J (zaa J) (zbl h (zb2 J J J)) (zac J (zbb J (zbb J (zac J (zac J (zae (zah ?_)))))))))
  (refine za3 ?_;repeat (first|refine zbg ?_|refine zbh ?_))
  exact zcl (.inr rfl) rfl (congrArg eB (by rw[hR,decide_eq_false h];rfl))
def seR (n:Net)(w:List ByteArray)(c:Cst)(S:Sr):AV:=
 .ref [eI n.places,eL eT n.trans,eI n.source,eI n.sink,eL eS w,eI c.log,eI c.model,eI c.silent,eL (eL eI) S.st,eL eI S.co,eL eI S.fr,eL eSt S.mv,eL eB S.dn, .opq]
def runO (n:Net)(w:List ByteArray)(c:Cst)(most:Int):Sr × Int × Int:=
 if zc0 n w c=false then(zSr,0,1) else if most<1∨2000<most then(zSr,0,2) else srP n w c most
def eRun (n:Net)(w:List ByteArray)(c:Cst)(r:Sr × Int × Int):AV:= .tup [if r.2.2=0 then seR n w c r.1 else .s (.pointer none),eI r.2.1,eI r.2.2]
def stRu (P:Program)(n:Net)(w:List ByteArray)(c:Cst)(S:Sr)(q:List En):List Ob:=stSr P n w c S (.row 1 [.own 1 2 q.length]) (.row 2 (q.map eEn))
theorem zio {F:Frm}{σ:List Ob}{n:Net}{w:List ByteArray}{c:Cst}{R:Sr × Int × Int}{e:Exit}{x:AV}{k m:Int}(he:e= .normal∨e= .ret)(h1:F.get 8=x)(h2:F.get 9=eI k)(h3:F.get 10=eI m)(hR:R=(R.1,k,m))(hx:x=if m=0 then seR n w c R.1 else .s (.pointer none)):zl6 P [.tmp 8, .tmp 9, .tmp 10] (eRun n w c R) e F σ:=by
 refine⟨he,[x,eI k,eI m], .cons _ _ _ _ (.tmp _ _ h1) (.cons _ _ _ _ (.tmp _ _ h2) (.cons _ _ _ _ (.tmp _ _ h3) .nil)),?_⟩
 unfold eRun
 rw[hR,hx]
 exact .refl _
theorem lo_B {k:Nat}{l:List Bool}:Lo k (eL eB l):=zdj fun _=> .s _
theorem zvq {k:Nat}(n:Net)(w:List ByteArray)(c:Cst)(S:Sr):Lo k (seR n w c S):=
 .ref _ (zaj (.s _) (zaj (zdj fun t=>lo_T t) (zaj (.s _) (zaj (.s _) (zaj (lo_W w) (zaj (.s _) (zaj (.s _) (zaj (.s _) (zaj (lo_II _) (zaj lo_I (zaj lo_I (zaj (zgx _) (zaj lo_B (zaj .opq zba))))))))))))))
theorem lo_Run {k:Nat}(n:Net)(w:List ByteArray)(c:Cst)(r:Sr × Int × Int):Lo k (eRun n w c r):=by
 unfold eRun
 refine .tup _ (zaj ?_ (zaj (.s _) (zaj (.s _) zba)))
 split
 ·
  exact zvq n w c r.1
 ·
  exact .s _
theorem zha (l:List Stp): ∀e∈l.map eSt, ∀c∈e.cells,Lo 0 c:=ztq fun m=>(z7w m).cells
theorem zhl (l:List Bool): ∀e∈l.map eB, ∀c∈e.cells,Lo 0 c:=ztq fun _=>(Lo.s _).cells
theorem zpw (l:List En): ∀e∈l.map eEn, ∀c∈e.cells,Lo 0 c:=ztq fun _=>(Lo.agg _ (zaj (.s _) (zaj (.s _) zba))).cells
theorem zmu {ρ:List Nat}{n:Net}{w:List ByteArray}{c:Cst}{i j k m d p i' j' k' m' d' p' a b e f g a' b' e' f' g':Nat}(h1:Rn ρ (.own i 1 a) (.own i' 1 a'))(h2:Rn ρ (.own j 1 b) (.own j' 1 b'))(h3:Rn ρ (.own k 1 e) (.own k' 1 e'))(h4:Rn ρ (.own m 3 f) (.own m' 3 f'))(h5:Rn ρ (.own d 1 g) (.own d' 1 g'))(h6:Rn ρ (.mp p) (.mp p')):
  ObRn ρ (.row 14 [seE n w c i j k m d p a b e f g]) (.row 14 [seE n w c i' j' k' m' d' p' a' b' e' f' g']):=
 zco (.cons (.lo _ (.s _)) (.cons (.lo _ (zdj fun t=>lo_T t)) (.cons (.lo _ (.s _)) (.cons (.lo _ (.s _)) (.cons (.lo _ (lo_W w)) (.cons (.lo _ (.s _)) (.cons (.lo _ (.s _)) (.cons (.lo _ (.s _)) (.cons h1 (.cons h2 (.cons h3 (.cons h4 (.cons h5 (.cons h6 .nil))))))))))))))
theorem zh0 {ρ:List Nat}{sz i j s n m:Nat}(h:Rn ρ (.own i s n) (.own j s m)):ObRn ρ (.row sz [.own i s n]) (.row sz [.own j s m]):=
 .rowR sz _ _ h (fun k x y hx hy=>by
  match k,hx,hy with
  |0,hx,hy=>simp[AV.cells] at hx hy;subst hx hy;exact h
  |k+1,hx,hy=>simp[AV.cells] at hx) rfl
theorem zht {N:Nat}{F F':Frm}{σ σ':List Ob}(h:WeakK N F σ F' σ'):Weak N F σ F' σ':=fun G a hs=>by
 obtain⟨G',e,k,s⟩:=h G a hs
 exact⟨G',e,k.step,s⟩
theorem z6h {N:Nat}{F:Frm}{σ:List Ob}{id sz:Nat}{e e' x:AV}{pre post:List AV}(hs:σ[id]?=some (.row sz [e]))(h1:e.cells=pre++x::post)(h2:e'.cells=pre++ .opq::post):
  Weak N F σ F (σ.set id (.row sz [e'])):=fun G a h=>by
 refine⟨G,rfl, .refl G,?_,h.fr,h.df,h.nt⟩
 refine zij h.rel hs (fun h=>by cases h) ?_
 rintro b f ⟨cur,t,fr,g1,g2,g3,g4⟩
 refine⟨cur,t,fr,g1,g2,g3,fun k y hy=>?_⟩
 cases k with
 |succ k=>simp at hy
 | zero=>
  simp at hy
  subst hy
  obtain⟨k1,k2,k3⟩:=g4 0 e rfl
  rw[h1] at k1 k2 k3
  rw[h2]
  refine⟨by simpa using k1,fun c hc=>?_,fun j c hc=>?_⟩
  ·
   simp only[List.mem_append,List.mem_cons] at hc
   rcases hc with hc|rfl|hc
   ·
    exact k2 c (by simp[hc])
   ·
    rfl
   ·
    exact k2 c (by simp[hc])
  ·
   by_cases hj:j=pre.length
   ·
    subst hj
    simp at hc
    subst hc
    obtain⟨v,h6,h7⟩:=k3 pre.length x xm
    exact⟨v,h6, .opq v (h7.one (k2 x xm))⟩
   ·
    have e:(pre++x::post)[j]?=some c:=by
     rw[←hc]
     by_cases hlt:j<pre.length
     ·
      rw[List.getElem?_append_left hlt,List.getElem?_append_left hlt]
     ·
      rw[List.getElem?_append_right xa,List.getElem?_append_right xa]
      obtain⟨i,hi⟩: ∃i,j-pre.length=i+1:=⟨j-pre.length-1,by omega⟩
      rw[hi];rfl
    exact k3 j c e
def p8 (n:Net)(w:List ByteArray)(c:Cst):List AV:=[eI n.places,eL eT n.trans,eI n.source,eI n.sink,eL eS w,eI c.log,eI c.model,eI c.silent]
theorem z5c {N:Nat}{F:Frm}{n:Net}{w:List ByteArray}{c:Cst}{S:Sr}{q1 q2:Ob}(X:List Ob)(h:F.get 15= .ptr 2 14 0 0): ∃σ',Weak N F (stSr P n w c S q1 q2++X) ((15,seR n w c S)::F) σ':=by
 have e1:S.st.length=(S.st.map (eL eI)).length:=by simp
 have e2:S.co.length=(S.co.map eI).length:=by simp
 have e3:S.fr.length=(S.fr.map eI).length:=by simp
 have e4:S.mv.length=(S.mv.map eSt).length:=by simp
 have e5:S.dn.length=(S.dn.map eB).length:=by simp
 have s1:=zht (znm (N:=N) (F:=F) (σ:=stSr P n w c S q1 q2++X) (id:=2) (i:=3) (sz2:=1) (cs2:=S.st.map (eL eI)) (pre:=p8 n w c) (post:=[.own 4 1 S.co.length, .own 5 1 S.fr.length, .own 6 3 S.mv.length, .own 7 1 S.dn.length, .mp 8])
  (e':= .agg (p8 n w c++[eL (eL eI) S.st, .own 4 1 S.co.length, .own 5 1 S.fr.length, .own 6 3 S.mv.length, .own 7 1 S.dn.length, .mp 8])) J (by rw[←e1];rfl) rfl xe J)
 have s2:=s1.trans (zht (znm (N:=N) (id:=2) (i:=4) (sz2:=1) (cs2:=S.co.map eI) (pre:=p8 n w c++[eL (eL eI) S.st]) (post:=[.own 5 1 S.fr.length, .own 6 3 S.mv.length, .own 7 1 S.dn.length, .mp 8])
  (e':= .agg (p8 n w c++[eL (eL eI) S.st,eL eI S.co, .own 5 1 S.fr.length, .own 6 3 S.mv.length, .own 7 1 S.dn.length, .mp 8])) J (by rw[←e2];rfl) rfl xe J))
 have s3:=s2.trans (zht (znm (N:=N) (id:=2) (i:=5) (sz2:=1) (cs2:=S.fr.map eI) (pre:=p8 n w c++[eL (eL eI) S.st,eL eI S.co]) (post:=[.own 6 3 S.mv.length, .own 7 1 S.dn.length, .mp 8])
  (e':= .agg (p8 n w c++[eL (eL eI) S.st,eL eI S.co,eL eI S.fr, .own 6 3 S.mv.length, .own 7 1 S.dn.length, .mp 8])) J (by rw[←e3];rfl) rfl xe J))
 have s4:=s3.trans (zht (znm (N:=N) (id:=2) (i:=6) (sz2:=3) (cs2:=S.mv.map eSt) (pre:=p8 n w c++[eL (eL eI) S.st,eL eI S.co,eL eI S.fr]) (post:=[.own 7 1 S.dn.length, .mp 8])
  (e':= .agg (p8 n w c++[eL (eL eI) S.st,eL eI S.co,eL eI S.fr,eL eSt S.mv, .own 7 1 S.dn.length, .mp 8])) J (by rw[←e4];rfl) rfl xe J))
 have s5:=s4.trans (zht (znm (N:=N) (id:=2) (i:=7) (sz2:=1) (cs2:=S.dn.map eB) (pre:=p8 n w c++[eL (eL eI) S.st,eL eI S.co,eL eI S.fr,eL eSt S.mv]) (post:=[.mp 8])
  (e':= .agg (p8 n w c++[eL (eL eI) S.st,eL eI S.co,eL eI S.fr,eL eSt S.mv,eL eB S.dn, .mp 8])) J (by rw[←e5];rfl) rfl xe J))
 have s6:=s5.trans (z6h (N:=N) (id:=2) (sz:=14) (x:= .mp 8) (pre:=p8 n w c++[eL (eL eI) S.st,eL eI S.co,eL eI S.fr,eL eSt S.mv,eL eB S.dn]) (post:=[]) (e':= .agg (p8 n w c++[eL (eL eI) S.st,eL eI S.co,eL eI S.fr,eL eSt S.mv,eL eB S.dn, .opq])) J J J)
 have s7:=s6.trans (zbw (N:=N) (id:=2) (sz:=14) rfl)
 have s8:=s7.trans (zci (d:=15) (sz:=14) (cs:=[.agg (p8 n w c++[eL (eL eI) S.st,eL eI S.co,eL eI S.fr,eL eSt S.mv,eL eB S.dn, .opq])]) h J J)
 exact⟨_,s8⟩
theorem zl7 {N:Nat}{F F':Frm}{σ σ':List Ob}(h:σ=σ')(k:Sub F F'):Weak N F σ F' σ':=h▸zcv _ k
theorem z5a {N:Nat}{F F':Frm}{n:Net}{w:List ByteArray}{c:Cst}{S:Sr}{q:List En}(X:List Ob)(hf:FrRn F [0,1,2,3,4,5,6,7,8] F'):Weak N F (stRu P n w c S q++X) F' (stRu P n w c S q):=
 zdl [0,1,2,3,4,5,6,7,8] xe ⟨⟨_,rfl,zh0 (.own _ _ _ _ _ J J)⟩,⟨_,rfl, .rowE (zpw q) rfl⟩,⟨_,rfl,zmu (.own _ _ _ _ _ J J) (.own _ _ _ _ _ J J) (.own _ _ _ _ _ J J) (.own _ _ _ _ _ J J) (.own _ _ _ _ _ J J) (.mp _ _ J)⟩,⟨_,rfl, .rowE (zjf _) rfl⟩,⟨_,rfl, .rowE (ze0 _) rfl⟩,⟨_,rfl, .rowE (ze0 _) rfl⟩,⟨_,rfl, .rowE (zha _) rfl⟩,⟨_,rfl, .rowE (zhl _) rfl⟩,⟨_,rfl,zej J⟩,trivial⟩ hf
theorem z5b {N:Nat}{F F':Frm}{σ:List Ob}{n:Net}{w:List ByteArray}{c:Cst}{S:Sr}{q:List En}(h:σ.take 9=stRu P n w c S q)(hf:FrRn F [0,1,2,3,4,5,6,7,8] F'):Weak N F σ F' (stRu P n w c S q):=by
 rw[←List.take_append_drop 9 σ,h]
 exact z5a _ hf
end Aw
namespace Aw
open Go Go.RowKit Go.Proofs Go.Maps Go.WideMaps Dl
variable {P:Program}[IsP P]
set_option maxHeartbeats 8000000 in
theorem z5l (n:Net)(w:List ByteArray)(c:Cst)(most:Int):Pure P 39 [eN n,eL eS w,eC c,eI most] (eRun n w c (runO n w c most)):=by
 have HI:runO n w c most=if zc0 n w c=false then(zSr,0,1) else if most<1∨2000<most then(zSr,0,2) else srP n w c most:=rfl
 have hRB:zc0 n w c=(decide ((zb0 n w).2=0) && vcB c):=rfl
 have hlR:=lo_Run (k:=0) n w c (runO n w c most)
 generalize runO n w c most=R at HI hlR⊢
 have hrt:=zve (P:=P) n w c
 have hS0:=zu8 (P:=P) n w
 have hE0:=end_pf (P:=P) n w
 generalize zc0 n w c=rb at hrt HI hRB
 have hln:Lo 0 (.ref (eN n).cells):= .ref _ (lo_N n).cells
 have hlc:Lo 0 (.ref (eC c).cells):= .ref _ (lo_C c).cells
 refine zd1 (by rw[IsP.eq (P:=P)];exact Tryz.func39) rfl J J J J (zaj (lo_N n) (zaj (lo_W w) (zaj (lo_C c) (zaj (.s _) zba)))) hlR (by simp only[argF];rfl) ?_
 refine zag (zab (zad J J (zaa J) (zbt J J J J) ?_))
 refine zax (zbw (id:=0) rfl) (zax (zci (d:=4) rfl J J) ?_)
 refine zad J J (zaa J) (zbt J J J J) ?_
 refine zax (zbw (id:=1) rfl) (zax (zci (d:=6) rfl J J) ?_)
 refine zac J (zac J (zac J (zae (zag (za9 (zag ?_))))))
 cases rb with
 |false=>
  refine zab (zby ta24 ti24 J (zac J (zby ta27 ti27 J (zad J J (zaa J) (zai J J (hrt) (zaf J (zaf J (zaf J zaq)))) (zad J J (zaa J) (zbs J J) (zac J (zae (zah (za7 J (zag (zab (zac J (zac J (zac J (zae (zah ?_))))))))))))))))
  (refine za3 ?_;repeat (first|refine zbg ?_|refine zbh ?_))
  have hR:R=(zSr,0,1):=HI.trans (if_pos J)
  subst hR
  exact zio (.inr rfl) rfl J J J (if_neg xe).symm
 |true=>
 rw[if_neg xe] at HI
 refine zab (zby ta24 ti24 J (zac J (zby ta27 ti27 J (zad J J (zaa J) (zai J J (hrt) (zaf J (zaf J (zaf J zaq)))) (zad J J (zaa J) (zbs J J) (zac J (zae (zah (zaw J (zag (zab (zac J ?_))))))))))))
 refine zk4 J J (zaa J) (za0 J J J) (fun h38=>?_) (fun h38=>?_)
 all_goals refine zac J ?_
 all_goals (first|refine zac J ?_|refine zbb J ?_)
 all_goals (first|refine zk4 J J (zap J J J) (zay J J J) (fun h41=>?_) (fun h41=>?_)|refine zbb J ?_)
 all_goals refine zac J (zac J (zae (zah ?_)))
 all_goals (first|refine za7 J ?_|refine zaw J ?_)
 all_goals (repeat (first|refine zag ?_|refine zav ?_))
 all_goals first
  |
   refine zab (zac J (zac J (zac J (zae (zah ?_)))))
   (refine za3 ?_;repeat (first|refine zbg ?_|refine zbh ?_))
   have hR:R=(zSr,0,2):=HI.trans (if_pos xa)
   subst hR
   exact zio (.inr rfl) rfl J J J (if_neg xe).symm
  |skip
 rw[if_neg xa] at HI
 have hm:1≤most∧most≤2000:=by omega
 have hs2:(zb0 n w).2=0:=by
  symm at hRB;simp only[Bool.and_eq_true,decide_eq_true_eq] at hRB;exact hRB.1
 have hvc:vcB c=true:=by
  symm at hRB;simp only[Bool.and_eq_true,decide_eq_true_eq] at hRB;exact hRB.2
 obtain⟨hvn,hww,hse,hee,hsk,hek⟩:=zhb hs2
 have hI0:PI n w c (zb0 n w).1 (endE n w).1 most (iniS (zb0 n w).1) [(0,0)] (-1) 0:=z0p hsk hm.1
 have HI2:R=runP n w c most (endE n w).1 (most.toNat*1000+3) (iniS (zb0 n w).1) [(0,0)] (-1) 0:=HI
 clear HI
 generalize zb0 n w=s0 at hS0 hsk hI0 HI2 hse hs2 hRB
 generalize endE n w=e0 at hE0 hek hI0 HI2 hee
 obtain⟨s0,s02⟩:=s0
 obtain⟨goal,e02⟩:=e0
 refine zab (zby ta24 ti24 J (zac J (zad J J (zaa J) (zai J J (hS0) (zaf J (zaf J zaq))) (zac J (zac J (zac J (zac J (zac J (zae (zag (zab (zby ta24 ti24 J (zac J (zad J J (zaa J) (zai J J (hE0) (zaf J (zaf J zaq))) (zac J (zac J (zac J (zac J (zac J (zae (zag (zab (zby ta24 ti24 J (zac J (zby ta27 ti27 J (zad J J (zaa J) (zlf J tm85) (zad J J (zaa J) (zcc J ti87 tp87 J J) ?_)))))))))))))))))))))))))))
 refine zad J J (zaa J) (zbt J J J J) (zac J (zae (zag ?_)))
 refine za4 (zgl (id:=3) (sz2:=1) (pre:=[eI n.places,eL eT n.trans,eI n.source,eI n.sink,eL eS w,eI c.log,eI c.model,eI c.silent]) (post:=[.s (.slice none 0 0), .s (.slice none 0 0), .s (.slice none 0 0), .s (.slice none 0 0), .mp 2]) (e':= .agg [eI n.places,eL eT n.trans,eI n.source,eI n.sink,eL eS w,eI c.log,eI c.model,eI c.silent, .own 4 1 0, .s (.slice none 0 0), .s (.slice none 0 0), .s (.slice none 0 0), .s (.slice none 0 0), .mp 2]) J J J) ?_
 refine za4 (zgl (id:=3) (sz2:=1) (pre:=[eI n.places,eL eT n.trans,eI n.source,eI n.sink,eL eS w,eI c.log,eI c.model,eI c.silent, .own 4 1 0]) (post:=[.s (.slice none 0 0), .s (.slice none 0 0), .s (.slice none 0 0), .mp 2]) (e':= .agg [eI n.places,eL eT n.trans,eI n.source,eI n.sink,eL eS w,eI c.log,eI c.model,eI c.silent, .own 4 1 0, .own 5 1 0, .s (.slice none 0 0), .s (.slice none 0 0), .s (.slice none 0 0), .mp 2]) J J J) ?_
 refine za4 (zgl (id:=3) (sz2:=1) (pre:=[eI n.places,eL eT n.trans,eI n.source,eI n.sink,eL eS w,eI c.log,eI c.model,eI c.silent, .own 4 1 0, .own 5 1 0]) (post:=[.s (.slice none 0 0), .s (.slice none 0 0), .mp 2]) (e':= .agg [eI n.places,eL eT n.trans,eI n.source,eI n.sink,eL eS w,eI c.log,eI c.model,eI c.silent, .own 4 1 0, .own 5 1 0, .own 6 1 0, .s (.slice none 0 0), .s (.slice none 0 0), .mp 2]) J J J) ?_
 refine za4 (zgl (id:=3) (sz2:=3) (pre:=[eI n.places,eL eT n.trans,eI n.source,eI n.sink,eL eS w,eI c.log,eI c.model,eI c.silent, .own 4 1 0, .own 5 1 0, .own 6 1 0]) (post:=[.s (.slice none 0 0), .mp 2]) (e':= .agg [eI n.places,eL eT n.trans,eI n.source,eI n.sink,eL eS w,eI c.log,eI c.model,eI c.silent, .own 4 1 0, .own 5 1 0, .own 6 1 0, .own 7 3 0, .s (.slice none 0 0), .mp 2]) J J J) ?_
 refine za4 (zgl (id:=3) (sz2:=1) (pre:=[eI n.places,eL eT n.trans,eI n.source,eI n.sink,eL eS w,eI c.log,eI c.model,eI c.silent, .own 4 1 0, .own 5 1 0, .own 6 1 0, .own 7 3 0]) (post:=[.mp 2]) (e':=seE n w c 4 5 6 7 8 2 0 0 0 0 0) rfl J J) ?_
 refine za4 (zdl (σ':=stSr P n w c zSr .dead .dead) [0,1,3,4,5,6,7,8,2] xe ⟨⟨_,rfl, .dead _⟩,⟨_,rfl, .dead _⟩,⟨_,rfl,zmu (.own _ _ _ _ _ J J) (.own _ _ _ _ _ J J) (.own _ _ _ _ _ J J) (.own _ _ _ _ _ J J) (.own _ _ _ _ _ J J) (.mp _ _ J)⟩,⟨_,rfl, .rowE (zjf []) J⟩,⟨_,rfl, .rowE (ze0 []) J⟩,⟨_,rfl, .rowE (ze0 []) J⟩,⟨_,rfl, .rowE (zha []) J⟩,⟨_,rfl, .rowE (zhl []) J⟩,⟨_,rfl,zej J⟩,trivial⟩ (F':=[(1,eL eS w),(3,eI most),(4, .ref (eN n).cells),(6, .ref (eC c).cells),(11,eL eI s0),(13,eL eI goal),(15, .ptr 2 14 0 0)]) ⟨.lo _ (lo_W w), .lo _ (.s _), .lo _ hln, .lo _ hlc, .lo _ lo_I, .lo _ lo_I, .ptr 3 2 14 0 0 J,trivial⟩) ?_
 have hSk0:SOk zSr:=⟨rfl,rfl,rfl,rfl,List.nodup_nil,by show(0:Nat)≤500000;omega,by intro y hy;cases hy⟩
 have hM0:=zpf (P:=P) (n:=n) (w:=w) (c:=c) (S:=zSr) (q1:= .dead) (q2:= .dead) (y:=s0) (cy:=0) (f:= -1) (m:=⟨0,0,ByteArray.empty⟩) hSk0 hsk (show(-1:Int)<0 by decide)
 refine zab (zac J (zac J (zad J J (zaa J) (zcc J ti66 tp66 J J) (zad J J (zaa J) (zb4 J J hM0 J) (zae (zag ?_))))))
 refine za4 (zdl (σ':=stSr P n w c (iniS s0) .dead .dead) [0,1,2,10,11,12,13,14,8] xe ⟨⟨_,rfl, .dead _⟩,⟨_,rfl, .dead _⟩,⟨_,rfl,zmu (.own _ _ _ _ _ J J) (.own _ _ _ _ _ J J) (.own _ _ _ _ _ J J) (.own _ _ _ _ _ J J) (.own _ _ _ _ _ J J) (.mp _ _ J)⟩,⟨_,rfl, .rowE (zjf [s0]) J⟩,⟨_,rfl, .rowE (ze0 [0]) J⟩,⟨_,rfl, .rowE (ze0 [-1]) J⟩,⟨_,rfl, .rowE (zha [_]) J⟩,⟨_,rfl, .rowE (zhl [false]) J⟩,⟨_,rfl,zej J⟩,trivial⟩ (F':=[(1,eL eS w),(3,eI most),(4, .ref (eN n).cells),(6, .ref (eC c).cells),(13,eL eI goal),(15, .ptr 2 14 0 0)]) ⟨.lo _ (lo_W w), .lo _ (.s _), .lo _ hln, .lo _ hlc, .lo _ lo_I, .ptr 2 2 14 0 0 J,trivial⟩) ?_
 refine zab (zad J J (zaa J) (zcc J zfo z6m J J) (zad J J (zaa J) (zko J zjx zfo J J xe xe J J J) (zad J J (zaa J) (zbt J J J J) (zac J (zae (zag ?_))))))
 refine za4 (zdl (σ':=stRu P n w c (iniS s0) [(0,0)]) [10,9,2,3,4,5,6,7,8] xe ⟨⟨_,rfl,zh0 (.own _ _ _ _ _ J J)⟩,⟨_,rfl, .rowE (zpw [(0,0)]) J⟩,⟨_,rfl,zmu (.own _ _ _ _ _ J J) (.own _ _ _ _ _ J J) (.own _ _ _ _ _ J J) (.own _ _ _ _ _ J J) (.own _ _ _ _ _ J J) (.mp _ _ J)⟩,⟨_,rfl, .rowE (zjf [s0]) J⟩,⟨_,rfl, .rowE (ze0 [0]) J⟩,⟨_,rfl, .rowE (ze0 [-1]) J⟩,⟨_,rfl, .rowE (zha [_]) J⟩,⟨_,rfl, .rowE (zhl [false]) J⟩,⟨_,rfl,zej J⟩,trivial⟩ (F':=[(1,eL eS w),(3,eI most),(4, .ref (eN n).cells),(6, .ref (eC c).cells),(13,eL eI goal),(15, .ptr 2 14 0 0),(16, .ptr 0 1 0 0)]) ⟨.lo _ (lo_W w), .lo _ (.s _), .lo _ hln, .lo _ hlc, .lo _ lo_I, .ptr 2 2 14 0 0 J, .ptr 10 0 1 0 0 J,trivial⟩) ?_
 refine zab (zac J (zac J (zae (zag (za9 ?_)))))
 replace hI0:PI n w c s0 goal most (iniS s0) [(0,0)] (-1) 0:=hI0
 replace HI2:R=runP n w c most goal (most.toNat*1000+3) (iniS s0) [(0,0)] (-1) 0:=HI2
 clear hRB hS0 hE0 hek hee hSk0 hM0 hs2 hrt
 refine zdq (S:=Nat × Sr × List En × Int × Int) (fun p=>[(1,eL eS w),(3,eI most),(4, .ref (eN n).cells),(6, .ref (eC c).cells),(13,eL eI goal),(15, .ptr 2 14 0 0),(16, .ptr 0 1 0 0),(17,eI p.2.2.2.1),(18,eI p.2.2.2.2)]) (fun p=>stRu P n w c p.2.1 p.2.2.1)
  (fun p=>PI n w c s0 goal most p.2.1 p.2.2.1 p.2.2.2.1 p.2.2.2.2∧R=runP n w c most goal p.1 p.2.1 p.2.2.1 p.2.2.2.1 p.2.2.2.2∧(most-p.2.2.2.2)*1000+p.2.2.1.length<p.1) (fun p=>p.1) (most.toNat*1000+3,iniS s0,[(0,0)], -1,0)
  (zcv _ ⟨rfl,rfl,rfl,rfl,rfl,rfl,rfl,rfl,rfl,trivial⟩) ⟨hI0,HI2,by show(most-0)*1000+((1:Nat):Int)<((most.toNat*1000+3:Nat):Int);omega⟩ (fun p hp=>?_)
 clear hI0 HI2 hse hsk
 obtain⟨f,S,q,fd,nr⟩:=p
 obtain⟨hP,hR,hf⟩:=hp
 replace hP:PI n w c s0 goal most S q fd nr:=hP
 replace hR:R=runP n w c most goal f S q fd nr:=hR
 replace hf:(most-nr)*1000+q.length<f:=hf
 obtain⟨hql,hsl⟩:=ok_len hP hm.2
 have hnm:=hP.nm
 obtain⟨f,rfl⟩: ∃f',f=f'+1:=⟨f-1,by omega⟩
 unfold runP at hR
 obtain⟨cx0,hdi⟩:=hP.di
 by_cases h0:q.length=0
 ·
  rw[if_pos h0] at hR
  refine zag (zag (zab (zac J (zac J (zad J J (zaa J) (zao J zmq J J J J J) (zad J J (zaa J) (zb4 J J (zj4 1 q.length _) rfl) (zad J J (zaa J) (zbl xa (zay J J J)) (zae (zah (zaw J ?_))))))))))
  (refine zdz ?_;repeat (first|refine zep ?_|refine zcg ?_|refine zbz J ?_|refine zcf ?_|refine zah ?_|refine zag ?_|refine zav ?_|refine za9 ?_))
  by_cases hfd:fd<0
  ·
   rw[if_pos hfd] at hR
   refine zab (zac J (zad J J (zaa J) (zbn hfd (za0 J J J)) (zae (zah (za7 J (zag (zab (zac J (zac J (zac J (zae (zah ?_))))))))))))
   (refine za3 ?_;repeat (first|refine zbg ?_|refine zbh ?_))
   subst hR
   exact zio (.inr rfl) rfl J J J (if_neg xe).symm
  ·
   rw[if_neg hfd] at hR
   refine zab (zac J (zad J J (zaa J) (zbl hfd (za0 J J J)) (zae (zah (zaw J (zav (zag ?_)))))))
   refine za4 (zl7 (F':=[(15, .ptr 2 14 0 0),(17,eI fd)]) (List.append_nil (stRu P n w c S q)).symm ⟨rfl,rfl,trivial⟩) ?_
   obtain⟨σ',hw⟩:=z5c (P:=P) (N:=Tryz.f39.ntmps) (F:=[(15, .ptr 2 14 0 0),(17,eI fd)]) (n:=n) (w:=w) (c:=c) (S:=S) (q1:= .row 1 [.own 1 2 q.length]) (q2:= .row 2 (q.map eEn)) [] rfl
   refine za4 hw ?_
   refine zab (zac J (zac J (zac J (zac J (zac J (zae (zah ?_)))))))
   (refine za3 ?_;repeat (first|refine zbg ?_|refine zbh ?_))
   subst hR
   exact zio (.inr rfl) rfl J J J (if_pos J).symm
 rw[if_neg h0] at hR
 have hq:0<q.length:=by omega
 have hen:=hP.qi.en _ (gti_mem hq)
 have htop:=fun hd=>hP.top hq hd
 have hmark:=fun cx x he hd=>hP.mark hq (cx:=cx) (x:=x) he hd
 have hskp:=fun hd=>hP.skip hq hd
 have htk:=fun hd hn=>hP.take hvc hq hd hn
 obtain⟨cx,x,hq0⟩: ∃ (cx:Int) (x:Nat),gti q 0=(cx,(x:Int)):=⟨(gti q 0).1,(gti q 0).2.toNat,by rw[Int.toNat_of_nonneg hen.1]⟩
 have hPop:=z0r (P:=P) (a:=0) (b:=1) (σ:=stRu P n w c S q) (l:=q) ⟨rfl,rfl,by decide⟩ hq xa
 have hqt:((popD q).take (q.length-1)).length=q.length-1:=by rw[List.length_take,zgo];omega
 rw[hq0] at hR hen htop hskp htk hPop
 obtain⟨q',hq'⟩: ∃q',q'=(popD q).take (q.length-1):=⟨_,rfl⟩
 rw[←hq'] at hR hskp htk hmark hqt
 simp only[Int.toNat_natCast] at hR hen htop hskp htk
 have hxl:x<S.st.length:=hen.2.1
 refine zag (zag (zab (zac J (zac J (zad J J (zaa J) (zao J zmq J J J J J) (zad J J (zaa J) (zb4 J J (zj4 1 q.length _) rfl) (zad J J (zaa J) (zbn xa (zay J J J)) (zae (zah (za7 J (zav (zah (za9 (zag (zab (zac J ?_))))))))))))))))
 refine zad J J (zaa J) (zg3 J (by rw[IsP.eq (P:=P)];kernel_rfl) rfl) ?_
 refine zad J J (zaa J) (zb4 J J hPop J) ?_
 refine zad J J (zaa J) (zlv J (by rw[IsP.eq (P:=P)];kernel_rfl) rfl) ?_
 refine zad J J (zaa J) (zcd J zfo J J) (zcm J (zaa J) (zat J zfo J J J J J J xe xe) (zae (zag (zag ?_))))
 refine za4 (zdl (σ':=stRu P n w c S q'++[Ob.row 2 [eEn (cx,(x:Int))]]) [0,1,2,3,4,5,6,7,8,10] xe ⟨⟨_,rfl,zh0 (by rw[hqt];exact .own _ _ _ _ _ J J)⟩,⟨_,rfl, .rowE (zpw q') (by rw[hq'])⟩,⟨_,rfl,zmu (.own _ _ _ _ _ J J) (.own _ _ _ _ _ J J) (.own _ _ _ _ _ J J) (.own _ _ _ _ _ J J) (.own _ _ _ _ _ J J) (.mp _ _ J)⟩,⟨_,rfl, .rowE (zjf _) rfl⟩,⟨_,rfl, .rowE (ze0 _) rfl⟩,⟨_,rfl, .rowE (ze0 _) rfl⟩,⟨_,rfl, .rowE (zha _) rfl⟩,⟨_,rfl, .rowE (zhl _) rfl⟩,⟨_,rfl,zej J⟩,⟨_,rfl, .rowE (zpw [_]) J⟩,trivial⟩ (F':=[(1,eL eS w),(3,eI most),(4, .ref (eN n).cells),(6, .ref (eC c).cells),(13,eL eI goal),(15, .ptr 2 14 0 0),(16, .ptr 0 1 0 0),(17,eI fd),(18,eI nr),(19, .ptr 9 2 0 0)]) ⟨.lo _ (lo_W w), .lo _ (.s _), .lo _ hln, .lo _ hlc, .lo _ lo_I, .ptr 2 2 14 0 0 J, .ptr 0 0 1 0 0 J, .lo _ (.s _), .lo _ (.s _), .ptr 10 9 2 0 0 J,trivial⟩) ?_
 refine za4 (zbw (id:=9) rfl) ?_
 refine za4 (zci (d:=19) rfl J J) ?_
 have hle:Lo 0 (.ref (eEn (cx,(x:Int))).cells):= .ref _ (zaj (.s _) (zaj (.s _) zba))
 refine za4 (z5a (F':=[(1,eL eS w),(3,eI most),(4, .ref (eN n).cells),(6, .ref (eC c).cells),(13,eL eI goal),(15, .ptr 2 14 0 0),(16, .ptr 0 1 0 0),(17,eI fd),(18,eI nr),(19, .ref (eEn (cx,(x:Int))).cells)]) [Ob.fz 2 [eEn (cx,(x:Int))]] ⟨.lo _ (lo_W w), .lo _ (.s _), .lo _ hln, .lo _ hlc, .lo _ lo_I, .ptr 2 2 14 0 0 J, .ptr 0 0 1 0 0 J, .lo _ (.s _), .lo _ (.s _), .lo _ hle,trivial⟩) ?_
 have hixd:(S.dn.map eB)[x]?=some (eB (gti S.dn x)):=zdk (by rw[hdi.l2];exact hxl)
 have hxd:x<S.dn.length:=by rw[hdi.l2];exact hxl
 cases hdx:gti S.dn x with
 |true=>
  rw[hdx] at hixd
  rw[if_pos hdx] at hR
  refine zb6 hmix ?_
  refine zbj (by kernel_rfl) ?_
  refine qx_s J (qx_s J (qx_f zrn J (zbi J J (zaa J) (zao J ta84 J J J J J) (qx_f zfw J (qx_l ta3 J (zbi J J (zaa J) (zal J ts84 ti4 J J J hxd) (zbi J J (zaa J) (zao J ta4 J J J hixd J) ?_)))))))
  refine zds ?_
  refine zah (za7 J ?_)
  (refine zdz ?_;repeat (first|refine zep ?_|refine zcg ?_|refine zbz J ?_|refine zcf ?_|refine zah ?_|refine zag ?_|refine zav ?_|refine za9 ?_))
  exact⟨(f,S,q',fd,nr),⟨hskp hdx,hR,by show(most-nr)*1000+(q'.length:Int)<(f:Int);omega⟩,Nat.lt_succ_self f,zcv _ ⟨rfl,rfl,rfl,rfl,rfl,rfl,rfl,rfl,rfl,trivial⟩⟩
 |false=>
 rw[hdx] at hixd
 rw[if_neg (by rw[hdx];decide)] at hR
 refine zb6 hmix ?_
 refine zbj (by kernel_rfl) ?_
 refine qx_s J (qx_s J (qx_f zrn J (zbi J J (zaa J) (zao J ta84 J J J J J) (qx_f zfw J (qx_l ta3 J (zbi J J (zaa J) (zal J ts84 ti4 J J J hxd) (zbi J J (zaa J) (zao J ta4 J J J hixd J) ?_)))))))
 refine zds ?_
 refine zah (zaw J (zav (zag (zag ?_))))
 obtain⟨t1,t2,t3,t4⟩:=htop hdx
 have hcase:(fd= -1)∨ ∃y:Nat,fd=y∧y<S.st.length:=by
  rcases hP.fd with ⟨h1,_⟩|⟨h1,h2,_⟩
  ·
   exact .inl h1
  ·
   exact .inr ⟨fd.toNat,(Int.toNat_of_nonneg h1).symm,h2⟩
 by_cases hbr:0≤fd∧gti S.co fd.toNat<cx
 ·
  rw[if_pos hbr] at hR
  rcases hcase with rfl|⟨y,rfl,hy⟩
  ·
   exact absurd hbr.1 xe
  have hyl:y<S.co.length:=by rw[hdi.l1];exact hy
  have hixy:(S.co.map eI)[y]?=some (eI (gti S.co y)):=zdk hyl
  have hlt:gti S.co y<cx:=hbr.2
  refine zb6 hmix ?_
  refine zbj (by kernel_rfl) ?_
  refine qx_s J (zbi J J (zaa J) (zbn xa (zc9 J J J)) (qx_s J (qx_f zg9 J (qx_l ta3 J (qx_s J (qx_s J (qx_f zjz J (zbi J J (zap J J J) (zao J ta38 J J J J J) (qx_s J (zbi J J (zap J J J) (zal J ts38 ti3 J J J hyl) (zbi J J (zap J J J) (zao J ta3 J J J hixy J) (zbi J J (zap J J J) (zbn hlt (zay J J J)) (qx_s J ?_)))))))))))))
  refine zds ?_
  refine zah (za7 J ?_)
  (refine zdz ?_;repeat (first|refine zep ?_|refine zcg ?_|refine zbz J ?_|refine zcf ?_|refine zah ?_|refine zag ?_|refine zav ?_|refine za9 ?_))
  refine zab (zac J (zad J J (zaa J) (zbl xa (za0 J J J)) (zae (zah (zaw J (zav (zag ?_)))))))
  refine za4 (zl7 (F':=[(15, .ptr 2 14 0 0),(17,eI y)]) (List.append_nil (stRu P n w c S q')).symm ⟨rfl,rfl,trivial⟩) ?_
  obtain⟨σ',hw⟩:=z5c (P:=P) (N:=Tryz.f39.ntmps) (F:=[(15, .ptr 2 14 0 0),(17,eI y)]) (n:=n) (w:=w) (c:=c) (S:=S) (q1:= .row 1 [.own 1 2 q'.length]) (q2:= .row 2 (q'.map eEn)) [] rfl
  refine za4 hw ?_
  refine zab (zac J (zac J (zac J (zac J (zac J (zae (zah ?_)))))))
  (refine za3 ?_;repeat (first|refine zbg ?_|refine zbh ?_))
  subst hR
  exact zio (.inr rfl) rfl J J J (if_pos J).symm
 rw[if_neg hbr] at hR
 refine zra [(1,eL eS w),(3,eI most),(4, .ref (eN n).cells),(6, .ref (eC c).cells),(13,eL eI goal),(15, .ptr 2 14 0 0),(16, .ptr 0 1 0 0),(17,eI fd),(18,eI nr),(19, .ref (eEn (cx,(x:Int))).cells)] (stRu P n w c S q') ?_ ?_
 ·
  rcases hcase with rfl|⟨y,rfl,hy⟩
  ·
   refine zb6 hmix ?_
   refine zbj (by kernel_rfl) ?_
   refine qx_s J (zbi J J (zaa J) (zbl xe (zc9 J J J)) (qx_s J (qx_z J (qx_z J (qx_z J (qx_z J (qx_z J (qx_z J (qx_z J (qx_z J (qx_z J (qx_z J (qx_s J ?_)))))))))))))
   refine zds ?_
   refine zah (zaw J (zav (zah ?_)))
   exact zcv _ ⟨rfl,rfl,rfl,rfl,rfl,rfl,rfl,rfl,rfl,rfl,trivial⟩
  ·
   have hyl:y<S.co.length:=by rw[hdi.l1];exact hy
   have hixy:(S.co.map eI)[y]?=some (eI (gti S.co y)):=zdk hyl
   have hlt: ¬gti S.co y<cx:=fun h=>hbr ⟨by omega,h⟩
   refine zb6 hmix ?_
   refine zbj (by kernel_rfl) ?_
   refine qx_s J (zbi J J (zaa J) (zbn xa (zc9 J J J)) (qx_s J (qx_f zg9 J (qx_l ta3 J (qx_s J (qx_s J (qx_f zjz J (zbi J J (zap J J J) (zao J ta38 J J J J J) (qx_s J (zbi J J (zap J J J) (zal J ts38 ti3 J J J hyl) (zbi J J (zap J J J) (zao J ta3 J J J hixy J) (zbi J J (zap J J J) (zbl hlt (zay J J J)) (qx_s J ?_)))))))))))))
   refine zds ?_
   refine zah (zaw J (zav (zah ?_)))
   exact zcv _ ⟨rfl,rfl,rfl,rfl,rfl,rfl,rfl,rfl,rfl,rfl,trivial⟩
 clear hcase hbr
 refine zag ?_
 obtain⟨S1,hS1⟩: ∃S1:Sr,S1={S with dn:=S.dn.set x true}:=⟨_,rfl⟩
 have hst1:(stRu P n w c S q').set 7 (.row 1 ((S.dn.map eB).set x (eB true)))=stRu P n w c S1 q':=by
  subst hS1
  unfold stRu stSr
  simp[List.map_set]
 refine zb6 hmix ?_
 refine zun J (by kernel_rfl) ?_
 refine zbj (by kernel_rfl) ?_
 simp only[List.dropLast]
 refine qx_s J (qx_s J (qx_f zrn J (zbi J J (zaa J) (zao J ta84 J J J J J) (qx_f zfw J (qx_l ta3 J (zbi J J (zaa J) (zal J ts84 ti4 J J J hxd) ?_))))))
 refine zds ?_
 refine zah (zcm J (zaa J) (zat J ti4 J J J hixd J J xe xe) (zae (zag (zag ?_))))
 refine za4 (zl7 (F':=[(1,eL eS w),(3,eI most),(4, .ref (eN n).cells),(6, .ref (eC c).cells),(13,eL eI goal),(15, .ptr 2 14 0 0),(16, .ptr 0 1 0 0),(17,eI fd),(18,eI nr),(19, .ref (eEn (cx,(x:Int))).cells)]) hst1 ⟨rfl,rfl,rfl,rfl,rfl,rfl,rfl,rfl,rfl,rfl,trivial⟩) ?_
 refine zab (zac J (zad J J (zaa J) (za2 J J J (IntWalk.i64_in _ xa)) (zac J (zae (zag ?_)))))
 by_cases hl:most<nr+1
 ·
  rw[if_pos hl] at hR
  refine zab (zac J (zac J (zad J J (zaa J) (zbn xa (zay J J J)) (zae (zah (za7 J (zag (zab (zac J (zac J (zac J (zae (zah ?_)))))))))))))
  (refine za3 ?_;repeat (first|refine zbg ?_|refine zbh ?_))
  subst hR
  exact zio (.inr rfl) rfl J J J (if_neg xe).symm
 rw[if_neg hl] at hR
 refine zab (zac J (zac J (zad J J (zaa J) (zbl xa (zay J J J)) (zae (zah (zaw J (zav (zag (zag ?_)))))))))
 obtain⟨xs,hxs⟩: ∃xs,gti S.st x=xs:=⟨_,rfl⟩
 have hixs:(S1.st.map (eL eI))[x]?=some (eL eI xs):=by rw[hS1, ←hxs];exact zdk hxl
 have hx1:x<S1.st.length:=by rw[hS1];exact hxl
 have heq:=eqI_pf (P:=P) xs goal
 have hokx:okS n w xs:=by rw[←hxs];exact hdi.ok _ (gti_mem hxl)
 obtain⟨hmk,hcx0,hcx1⟩:=hmark cx x hq0 hdx
 have hT:=htk hdx xa
 rw[hxs] at hR hT hmk
 rw[←hS1] at hR hT hmk
 obtain⟨fd',hfd'⟩: ∃fd',fd'=if xs=goal then(x:Int) else fd:=⟨_,rfl⟩
 rw[←hfd'] at hR hT
 refine zra [(1,eL eS w),(3,eI most),(4, .ref (eN n).cells),(6, .ref (eC c).cells),(13,eL eI goal),(15, .ptr 2 14 0 0),(16, .ptr 0 1 0 0),(17,eI fd'),(18,eI (nr+1)),(19, .ref (eEn (cx,(x:Int))).cells)] (stRu P n w c S1 q') ?_ ?_
 ·
  by_cases hg:xs=goal
  ·
   rw[if_pos hg] at hfd'
   subst hfd'
   rw[decide_eq_true hg] at heq
   refine zb6 hmix ?_
   refine zbj (by kernel_rfl) ?_
   refine qx_s J (qx_s J (qx_f zmo J (zbi J J (zaa J) (zao J ta83 J J J J J) (qx_f zfw J (qx_l ta3 J (zbi J J (zaa J) (zal J ts83 ti38 J J J hx1) (zbi J J (zaa J) (zao J ta38 J J J hixs J) (qx_s J (zbi J J (zaa J) (zai J J (heq) (zaf J (zaf J zaq))) ?_)))))))))
   refine zds ?_
   refine zah (za7 J (zab (zbm zfw J (zbq ta3 J (zac J (zae (zah ?_)))))))
   exact zcv _ ⟨rfl,rfl,rfl,rfl,rfl,rfl,rfl,rfl,rfl,rfl,trivial⟩
  ·
   rw[if_neg hg] at hfd'
   subst hfd'
   rw[decide_eq_false hg] at heq
   refine zb6 hmix ?_
   refine zbj (by kernel_rfl) ?_
   refine qx_s J (qx_s J (qx_f zmo J (zbi J J (zaa J) (zao J ta83 J J J J J) (qx_f zfw J (qx_l ta3 J (zbi J J (zaa J) (zal J ts83 ti38 J J J hx1) (zbi J J (zaa J) (zao J ta38 J J J hixs J) (qx_s J (zbi J J (zaa J) (zai J J (heq) (zaf J (zaf J zaq))) ?_)))))))))
   refine zds ?_
   refine zah (zaw J (zav (zah ?_)))
   exact zcv _ ⟨rfl,rfl,rfl,rfl,rfl,rfl,rfl,rfl,rfl,rfl,trivial⟩
 clear heq hfd'
 refine zag ?_
 have hMo:=zvm (P:=P) n w xs
 have hMe:zhq n w xs=(zb8 n w xs,0):=by unfold zhq;rw[if_pos (show zb1 n w xs=true from hokx)]
 have hml:=fun m hm=>zka (m:=m) hokx hm
 have hmlen:=zh3 hokx
 rw[hMe] at hMo
 have hstp:=fun {S q k} (h:JI n w c s0 x cx xs (1000*(nr+1)) (q'.length) S1.st.length S q k)=>h.step hvc
 obtain⟨ml,hmleq⟩: ∃ml,zb8 n w xs=ml:=⟨_,rfl⟩
 replace hMo:Pure P 43 [eN n,eL eS w,eL eI xs] (.tup [eL eSt (zb8 n w xs),eI 0]):=hMo
 rw[hmleq] at hMo hml hmlen hR hT
 refine zb6 hmix ?_
 refine zbj (by kernel_rfl) ?_
 refine qx_w ta24 ti24 J (qx_s J (qx_s J (qx_s J (qx_f zmo J (zbi J J (zaa J) (zao J ta83 J J J J J) (qx_f zfw J (qx_l ta3 J (zbi J J (zaa J) (zal J ts83 ti38 J J J hx1) (zbi J J (zaa J) (zao J ta38 J J J hixs J) (zbi J J (zaa J) (zai J J (hMo) (zaf J (zaf J (zaf J zaq)))) (qx_s J (qx_s J (qx_s J (qx_s J (qx_s J ?_)))))))))))))))
 refine zds ?_
 refine zag (zag (zab (zac J (zad J J (zaa J) (zbv J J J) (zae (zah (zaw J (zav (zag (zab (zac J (zad J J (zaa J) (zan J ts54 J) (zac J (zae (zah (za9 ?_))))))))))))))))
 obtain⟨rr,hrr⟩: ∃rr,rlxP n w c x cx ml (S1,q')=rr:=⟨_,rfl⟩
 rw[hrr] at hR hT
 clear hst1 hx1 hixs hS1 hxd hixd htop hskp htk hmark hPop
 refine zdq (S:=Nat × Sr × List En) (fun p=>[(1,eL eS w),(3,eI most),(4, .ref (eN n).cells),(6, .ref (eC c).cells),(13,eL eI goal),(15, .ptr 2 14 0 0),(16, .ptr 0 1 0 0),(17,eI fd'),(18,eI (nr+1)),(19, .ref (eEn (cx,(x:Int))).cells),(140,eL eSt ml),(141,eI ml.length),(142,eI p.1)]) (fun p=>stRu P n w c p.2.1 p.2.2)
  (fun p=>p.1≤ml.length∧JI n w c s0 x cx xs (1000*(nr+1)) (q.length-1) S.st.length p.2.1 p.2.2 p.1∧rlxP n w c x cx (ml.drop p.1) (p.2.1,p.2.2)=rr) (fun p=>ml.length-p.1) (0,S1,q')
  (zcv _ ⟨rfl,rfl,rfl,rfl,rfl,rfl,rfl,rfl,rfl,rfl,rfl,rfl,rfl,trivial⟩) ⟨Nat.zero_le _,hmk,hrr⟩ (fun p hp=>?_)
 clear hrr hmk
 obtain⟨k,S2,q2⟩:=p
 obtain⟨hk,hJ,hrr⟩:=hp
 replace hk:k≤ml.length:=hk
 replace hJ:JI n w c s0 x cx xs (1000*(nr+1)) (q.length-1) S.st.length S2 q2 k:=hJ
 replace hrr:rlxP n w c x cx (ml.drop k) (S2,q2)=rr:=hrr
 have hql2:=hJ.ql
 have hsl2:=hJ.sl
 by_cases hke:k=ml.length
 ·
  subst hke
  rw[List.drop_length] at hrr
  replace hrr:(S2,q2)=rr:=hrr
  subst hrr
  refine zag (zab (zad J J (zaa J) (zbl xa (za0 J J J)) (zae (zag (zaw J ?_)))))
  (refine zdz ?_;repeat (first|refine zep ?_|refine zcg ?_|refine zbz J ?_|refine zcf ?_|refine zah ?_|refine zag ?_|refine zav ?_|refine za9 ?_))
  exact⟨(f,S2,q2,fd',nr+1),⟨hT.1,hR,by show(most-(nr+1))*1000+(q2.length:Int)<(f:Int);have:=hT.2;dsimp only at this;omega⟩,Nat.lt_succ_self f,zcv _ ⟨rfl,rfl,rfl,rfl,rfl,rfl,rfl,rfl,rfl,trivial⟩⟩
 have hkl:k<ml.length:=by omega
 obtain⟨⟨pr,hdr⟩, -, -,hxs2, -, -⟩:=id hJ
 have hSO:SOk S2:=⟨hdr.l1,hdr.l2,hdr.l3,hdr.l4,hdr.nd,by omega,fun y hy=>(hdr.ok y hy).small⟩
 have hx2:x<S2.st.length:=hdr.xl
 have hix2:(S2.st.map (eL eI))[x]?=some (eL eI xs):=by rw[←hxs2];exact zdk hx2
 have him:(ml.map eSt)[k]?=some (eSt (gti ml k)):=zdk hkl
 obtain⟨hap,hkd,hoy⟩:=hml _ (gti_mem hkl)
 have hstep:=fun {m y} (hm:gti (zb8 n w xs) k=m) hy=>hJ.step hvc (by rw[hmleq];exact hkl) hcx0 hcx1 (m:=m) hm (y:=y) hy
 rw[hmleq] at hstep
 rw[zc2 hkl] at hrr
 obtain⟨m,hm0⟩: ∃m,gti ml k=m:=⟨_,rfl⟩
 rw[hm0] at him hap hkd hoy hrr
 have hA:=z44 (P:=P) n w xs m
 have hco:=z8u (P:=P) c [m]
 rw[z4u hvc hkd] at hco
 have hpr:=zin hvc m.kind
 obtain⟨y,hy0⟩: ∃y,(zbk n w xs m).1=y:=⟨_,rfl⟩
 have hJ2:=hstep hm0 hy0
 rw[hap,hy0] at hA
 rw[hy0] at hoy
 have hrr2:rlxP n w c x cx (ml.drop (k+1)) (metE S2 y (cx+zbf c m.kind) x m,if chpE S2 y (cx+zbf c m.kind) then zix q2 (cx+zbf c m.kind,(idx S2.st y:Int)) else q2)=rr:=by
  rw[←hrr]
  show _=rlxP n w c x cx (ml.drop (k+1)) (metE S2 (zbk n w (gti S2.st x) m).1 (cx+zbf c m.kind) x m,if chpE S2 (zbk n w (gti S2.st x) m).1 (cx+zbf c m.kind) then zix q2 (cx+zbf c m.kind,(idx S2.st (zbk n w (gti S2.st x) m).1:Int)) else q2)
  rw[hxs2,hy0]
 clear hstep hrr hJ hdr
 obtain⟨cy,hcy⟩: ∃cy,cx+zbf c m.kind=cy:=⟨_,rfl⟩
 have hadd:IntKind.i64.wrap (cx+zbf c m.kind)=cy:=by rw[hcy];exact IntWalk.i64_in _ xa
 rw[hcy] at hJ2 hrr2
 unfold metE chpE at hJ2 hrr2
 refine zag (zab (zad J J (zaa J) (zbn xa (za0 J J J)) (zae (zag (za7 J (zav (zag (za9 (zag (zab (zad J J (zaa J) (za1 J ts54 ti66 J J J him J) (zby ta66 ti66 J (zad J J (zaa J) (zcd J ti66 J J) (zcm J (zaa J) (zat J ti66 J J J J J J xe xe) (zae (zag ?_))))))))))))))))
 refine za4 (zbw (id:=9) rfl) ?_
 refine za4 (zci (d:=23) rfl J J) ?_
 refine zb6 hmix ?_
 refine zbj (by kernel_rfl) ?_
 refine qx_w ta24 ti24 J (qx_s J (qx_s J (qx_s J (qx_f zmo J (zbi J J (zaa J) (zao J ta83 J J J J J) (qx_f zfw J (qx_l ta3 J (zbi J J (zaa J) (zal J ts83 ti38 J J J hx2) (zbi J J (zaa J) (zao J ta38 J J J hix2 J) (qx_w ta66 ti66 J (zbi J J (zaa J) (zai J J (hA) (zaf J (zaf J (zaf J (zaf J zaq))))) (qx_s J (qx_s J (qx_s J (qx_s J (qx_s J ?_))))))))))))))))
 refine zds ?_
 refine zag (zab (zby ta27 ti27 J (zby ta66 ti66 J ?_)))
 refine zad J J (zaa J) (zel J ts54 ti66 J J xe xe J J J xh) ?_
 refine zad J J (zaa J) (zai J J (hco) (zaf J (zaf J zaq))) (zac J (zac J (zac J (zac J (zac J (zae (zag (zag (zab (zac J (zad J J (zaa J) (zbv J J J) (zac J (zac J (zad J J (zap J J J) (zbv J J J) (zac J (zae (zah (zaw J (zav (zag ?_))))))))))))))))))))
 have hlm:Lo 0 (.ref (eSt m).cells):= .ref _ (z7w m).cells
 refine za4 (z5b (F':=[(1,eL eS w),(3,eI most),(4, .ref (eN n).cells),(6, .ref (eC c).cells),(13,eL eI goal),(15, .ptr 2 14 0 0),(16, .ptr 0 1 0 0),(17,eI fd'),(18,eI (nr+1)),(19, .ref (eEn (cx,(x:Int))).cells),(140,eL eSt ml),(141,eI ml.length),(142,eI k),(23, .ref (eSt m).cells),(24,eL eI y),(26,eI (zbf c m.kind))]) J ⟨.lo _ (lo_W w), .lo _ (.s _), .lo _ hln, .lo _ hlc, .lo _ lo_I, .ptr 2 2 14 0 0 J, .ptr 0 0 1 0 0 J, .lo _ (.s _), .lo _ (.s _), .lo _ hle, .lo _ (zgx _), .lo _ (.s _), .lo _ (.s _), .lo _ hlm, .lo _ lo_I, .lo _ (.s _),trivial⟩) ?_
 by_cases hf:zek S2.st y<0
 ·
  rw[if_pos hf,decide_eq_true hf,Bool.true_or,if_pos J,zty hf] at hJ2 hrr2
  have hMe:=zpf (P:=P) (n:=n) (w:=w) (c:=c) (q1:= .row 1 [.own 1 2 q2.length]) (q2:= .row 2 (q2.map eEn)) (cy:=cy) (f:=x) (m:=m) hSO hoy hf
  have hPu:=zpm (P:=P) (a:=0) (b:=1) (σ:=stSn P n w c S2 (.row 1 [.own 1 2 q2.length]) (.row 2 (q2.map eEn)) y cy x m) (l:=q2) ⟨rfl,rfl,by decide⟩ xa (cy,(S2.st.length:Int))
  refine zab (zac J (zac J (zbm zg9 J (zbq ta3 J (zac J (zad J J (zaa J) (za2 J J J hadd) (zbm zfw J (zbq ta3 J (zby ta66 ti66 J (zad J J (zaa J) (zb4 J J hMe J) (zac J (zac J (zac J (zac J (zac J (zae (zag (zab (zac J (zae (zah (za7 J (zab (zac J ?_))))))))))))))))))))))))
  refine zad J J (zaa J) (zg3 J (by rw[IsP.eq (P:=P)];kernel_rfl) rfl) ?_
  refine zbm zg9 J (zbq ta3 J (zac J (zad J J (zaa J) (za2 J J J hadd) (zac J (zad J J (zaa J) (zcc J zfo z6m J J) ?_)))))
  refine zad J J (zaa J) (zg3 J (by rw[IsP.eq (P:=P)];kernel_rfl) rfl) ?_
  refine zad J J (zaa J) (zb4 J J hPu J) (zae (zcf (zah (zab (zad J J (zaa J) (za2 J J J (IntWalk.i64_in _ xa)) (zac J (zae (zah ?_))))))))
  exact⟨(k+1,_,_),⟨by show k+1≤ml.length;omega,hJ2,hrr2⟩,by show ml.length-(k+1)<ml.length-k;omega,zdl [0,15,2,10,11,12,13,14,8] xe ⟨⟨_,rfl,zh0 (.own _ _ _ _ _ J (zim q2 (cy,(S2.st.length:Int))).symm)⟩,⟨_,rfl, .rowE (zpw _) rfl⟩,⟨_,rfl,zmu (.own _ _ _ _ _ J xm) (.own _ _ _ _ _ J xm) (.own _ _ _ _ _ J xm) (.own _ _ _ _ _ J xm) (.own _ _ _ _ _ J xm) (.mp _ _ J)⟩,⟨_,rfl, .rowE (zjf _) xm⟩,⟨_,rfl, .rowE (ze0 _) xm⟩,⟨_,rfl, .rowE (ze0 _) xm⟩,⟨_,rfl, .rowE (zha _) xm⟩,⟨_,rfl, .rowE (zhl _) xm⟩,⟨_,rfl,zej J⟩,trivial⟩ ⟨.lo _ (lo_W w), .lo _ (.s _), .lo _ hln, .lo _ hlc, .lo _ lo_I, .ptr 2 2 14 0 0 J, .ptr 0 0 1 0 0 J, .lo _ (.s _), .lo _ (.s _), .lo _ hle, .lo _ (zgx _), .lo _ (.s _), .lo _ (.s _),trivial⟩⟩
 rw[if_neg hf,decide_eq_false hf,Bool.false_or] at hJ2 hrr2
 by_cases hlt:cy<gti S2.co (idx S2.st y)
 ·
  rw[if_pos hlt,decide_eq_true hlt,if_pos J] at hJ2 hrr2
  have hMe:=zxc (P:=P) (n:=n) (w:=w) (c:=c) (q1:= .row 1 [.own 1 2 q2.length]) (q2:= .row 2 (q2.map eEn)) (cy:=cy) (f:=x) (m:=m) hSO hoy hf hlt
  have hPu:=zpm (P:=P) (a:=0) (b:=1) (σ:=stSc P n w c S2 (.row 1 [.own 1 2 q2.length]) (.row 2 (q2.map eEn)) (idx S2.st y) cy x m) (l:=q2) ⟨rfl,rfl,by decide⟩ xa (cy,(idx S2.st y:Int))
  refine zab (zac J (zac J (zbm zg9 J (zbq ta3 J (zac J (zad J J (zaa J) (za2 J J J hadd) (zbm zfw J (zbq ta3 J (zby ta66 ti66 J (zad J J (zaa J) (zb4 J J hMe J) (zac J (zac J (zac J (zac J (zac J (zae (zag (zab (zac J (zae (zah (za7 J (zab (zac J ?_))))))))))))))))))))))))
  refine zad J J (zaa J) (zg3 J (by rw[IsP.eq (P:=P)];kernel_rfl) rfl) ?_
  refine zbm zg9 J (zbq ta3 J (zac J (zad J J (zaa J) (za2 J J J hadd) (zac J (zad J J (zaa J) (zcc J zfo z6m J J) ?_)))))
  refine zad J J (zaa J) (zg3 J (by rw[IsP.eq (P:=P)];kernel_rfl) rfl) ?_
  refine zad J J (zaa J) (zb4 J J hPu J) (zae (zcf (zah (zab (zad J J (zaa J) (za2 J J J (IntWalk.i64_in _ xa)) (zac J (zae (zah ?_))))))))
  exact⟨(k+1,_,_),⟨by show k+1≤ml.length;omega,hJ2,hrr2⟩,by show ml.length-(k+1)<ml.length-k;omega,zdl [0,10,2,3,4,5,6,7,8] xe ⟨⟨_,rfl,zh0 (.own _ _ _ _ _ J (zim q2 (cy,(idx S2.st y:Int))).symm)⟩,⟨_,rfl, .rowE (zpw _) rfl⟩,⟨_,rfl,zmu (.own _ _ _ _ _ J xm) (.own _ _ _ _ _ J xm) (.own _ _ _ _ _ J xm) (.own _ _ _ _ _ J xm) (.own _ _ _ _ _ J xm) (.mp _ _ J)⟩,⟨_,rfl, .rowE (zjf _) rfl⟩,⟨_,rfl, .rowE (ze0 _) (by simp[List.map_set])⟩,⟨_,rfl, .rowE (ze0 _) (by simp[List.map_set])⟩,⟨_,rfl, .rowE (zha _) (by simp[List.map_set])⟩,⟨_,rfl, .rowE (zhl _) rfl⟩,⟨_,rfl,zej J⟩,trivial⟩ ⟨.lo _ (lo_W w), .lo _ (.s _), .lo _ hln, .lo _ hlc, .lo _ lo_I, .ptr 2 2 14 0 0 J, .ptr 0 0 1 0 0 J, .lo _ (.s _), .lo _ (.s _), .lo _ hle, .lo _ (zgx _), .lo _ (.s _), .lo _ (.s _),trivial⟩⟩
 ·
  rw[if_neg hlt,decide_eq_false hlt,if_neg xe] at hJ2 hrr2
  have hMe:=zxb (P:=P) (n:=n) (w:=w) (c:=c) (q1:= .row 1 [.own 1 2 q2.length]) (q2:= .row 2 (q2.map eEn)) (cy:=cy) (f:=x) (m:=m) hSO hoy hf hlt
  refine zab (zac J (zac J (zbm zg9 J (zbq ta3 J (zac J (zad J J (zaa J) (za2 J J J hadd) (zbm zfw J (zbq ta3 J (zby ta66 ti66 J (zad J J (zaa J) (zb4 J J hMe J) (zac J (zac J (zac J (zac J (zac J (zae (zag (zab (zac J (zae (zah (zaw J (zav (zcf (zah (zab (zad J J (zaa J) (za2 J J J (IntWalk.i64_in _ xa)) (zac J (zae (zah ?_))))))))))))))))))))))))))))))
  exact⟨(k+1,_,_),⟨by show k+1≤ml.length;omega,hJ2,hrr2⟩,by show ml.length-(k+1)<ml.length-k;omega,z5b J ⟨.lo _ (lo_W w), .lo _ (.s _), .lo _ hln, .lo _ hlc, .lo _ lo_I, .ptr 2 2 14 0 0 J, .ptr 0 0 1 0 0 J, .lo _ (.s _), .lo _ (.s _), .lo _ hle, .lo _ (zgx _), .lo _ (.s _), .lo _ (.s _),trivial⟩⟩
end Aw
namespace Aw
open Go Go.RowKit Go.Proofs Dl
variable {P:Program}[IsP P]
theorem zeu (n:Int):Pure P 47 [eI n] (eF (Fr.of n)):=by
 refine zd1 (by rw[IsP.eq (P:=P)];exact Tryz.func47) rfl J J J J (zaj (.s _) zba) (.agg _ (zaj (.s _) (zaj (.s _) zba))) (by simp only[argF];rfl) ?_
 refine zag (zab (zad J J (zaa J) (zcd J zex J J) (zae (zag (zab (zac J (zad J J (zaa J) (zcc J zex tp102 J J) (zcm J (zaa J) (zat J zex J J J J J J xe xe) (zae (zah ?_))))))))))
 (refine za3 ?_;repeat (first|refine zbg ?_|refine zbh ?_))
 exact post_c (N:=0) (.inr rfl) z2z zex J J J J J J
namespace K1
theorem azeros_call (n:Nat)(h:1≤n∧n≤25):CallE P 49 [eI n] [] (.own 0 2 n) [.row 2 (List.replicate n (eF (Fr.of 0)))]:=by
 have hr:=zy1 (P:=P) (Fr.of 0) n h
 refine callE_fn1 xm (by rw[IsP.eq (P:=P)];exact Tryz.func49) rfl J (Nat.le_of_ble_eq_true J) rfl ?_
 simp only[argF]
 refine kw_seq (kw_region (kops_s J (kops_nil (kw_seq (kw_region (kops_op J J (zaa J) (zai J J ((zeu 0)) (zaf J zaq)) (kops_op J J (zaa J) (zel J ts39 zex J J xe xe J J J (.agg _ (zaj (.s _) (zaj (.s _) zba)))) (kops_s J (kops_op J J (zaa J) (zb4 J J hr (zaf J (zaf J zaq))) (kops_s J (kops_nil (zah ?_))))))))))))
 (refine kw_ret ?_;repeat (first|refine zbg ?_|refine zbh ?_))
 exact⟨.inr rfl,rfl,rfl⟩
end K1
theorem zsz (n:Nat)(h:1≤n∧n≤25):PureO P 49 [eI n] 2 ((zew n).map eF):=
 repO (K1.azeros_call n h) h.1 (zaj (.s _) zba)
theorem z0q (l:List Int)(x:Int):Pure P 152 [eL eI l,eI x] (eI (zd8 (fun y=>decide (x=y)) l)):=by
 refine zd1 (by rw[IsP.eq (P:=P)];exact Tryz.func152) rfl J J J J xh (.s _) (by simp only[argF];rfl) ?_
 refine zag ?_
 refine z17 (d:=0) rfl (fun hmx=>?_)
 unfold maxLen at hmx
 refine zab (zac J (zae (zag (zag (zab (zac J (zad J J (zaa J) (zan J ts38 J) (zac J (zae (zah (za9 ?_)))))))))))
 refine zdq (S:=Nat) (fun k=>[(0,eL eI l),(1,eI x),(7,eI l.length),(8,eI k)]) (fun _=>[]) (fun k=>k≤l.length∧ ∀j a,j<k→l[j]?=some a→decide (x=a)=false) (fun k=>l.length-k) 0 (zcv _ ⟨rfl,rfl,rfl,rfl,trivial⟩) ⟨Nat.zero_le _,fun j a hj=>by omega⟩ (fun k hk=>?_)
 obtain⟨hk,hno⟩:=hk
 refine zag (zab ?_)
 refine zk4 J J (zaa J) (za0 J J J) (fun h9=>?_) (fun h9=>?_)
 all_goals refine zae (zag ?_)
 all_goals (first|refine za7 J ?_|refine zaw J ?_)
 all_goals (repeat (first|refine zag ?_|refine zav ?_|refine za9 ?_))
 ·
  have hlt:k<l.length:=by omega
  have hgk:=zbr hlt
  refine zab (zac J (zac J (zae (zag (zab (zac J (zac J (zac J (zad J J (zaa J) (za1 J ts38 ti3 J J J (zdk hlt) rfl) (zbq ta3 J ?_))))))))))
  refine zk4 J J (zaa J) (zb2 J J J) (fun h16=>?_) (fun h16=>?_)
  all_goals refine zae (zah ?_)
  all_goals (first|refine za7 J ?_|refine zaw J ?_)
  all_goals (repeat (first|refine zag ?_|refine zah ?_|refine zav ?_|refine zcf ?_))
  ·
   refine zab (zac J (zac J (zae (zah ?_))))
   (refine za3 ?_;repeat (first|refine zbg ?_|refine zbh ?_))
   exact zcl (.inr rfl) rfl (congrArg eI (zd3 hgk (decide_eq_true h16) hno).symm)
  ·
   refine zab (zad J J (zaa J) (za2 J J J (IntWalk.i64_in _ xa)) (zac J (zae (zah ?_))))
   refine⟨k+1,⟨by omega,fun j a hj ha=>?_⟩,by omega,zcv _ ⟨rfl,rfl,rfl,rfl,trivial⟩⟩
   by_cases e:j=k
   ·
    subst e
    rw[hgk] at ha
    cases ha
    exact decide_eq_false h16
   ·
    exact hno j a xa ha
 ·
  have e:k=l.length:=by omega
  subst e
  (refine zdz ?_;repeat (first|refine zep ?_|refine zcg ?_|refine zbz J ?_|refine zcf ?_|refine zah ?_|refine zag ?_|refine zav ?_|refine za9 ?_))
  refine zab (zac J (zae (zah ?_)))
  (refine za3 ?_;repeat (first|refine zbg ?_|refine zbh ?_))
  exact zcl (.inr rfl) rfl (congrArg eI (zeg hno).symm)
theorem zwe (l:List Int)(x:Int):Pure P 103 [eL eI l,eI x] (eB (decide (x∈l))):=by
 have hi:=z0q (P:=P) l x
 have h0:decide (zd8 (fun y=>decide (x=y)) l≥0)=decide (x∈l):=by
  have:=zeh (fun y=>decide (x=y)) l
  rw[show(decide (zd8 (fun y=>decide (x=y)) l≥0))=l.any (fun y=>decide (x=y)) from this]
  rw[Bool.eq_iff_iff,List.any_eq_true]
  simp
 refine zd1 (by rw[IsP.eq (P:=P)];exact Tryz.func103) rfl J J J J xh (.s _) (by simp only[argF];rfl) ?_
 refine zag (zab (zac J (zae (zag (zab (zac J (zac J (zad J J (zaa J) (zai J J (hi) (zaf J (zaf J zaq))) (zad J J (zaa J) (zc9 J J J) (zac J (zae (zah ?_))))))))))))
 (refine za3 ?_;repeat (first|refine zbg ?_|refine zbh ?_))
 exact zcl (.inr rfl) rfl (congrArg eB h0)
def incI (t:Tr)(p:Int):Int:=(if p∈t.out then 1 else 0)-(if p∈t.inn then 1 else 0)
theorem inc_pf (t:Tr)(p:Int):Pure P 50 [eT t,eI p] (eI (incI t p)):=by
 have h1:=zwe (P:=P) t.out p
 have h2:=zwe (P:=P) t.inn p
 refine zd1 (by rw[IsP.eq (P:=P)];exact Tryz.func50) rfl J J J J xh (.s _) (by simp only[argF];rfl) ?_
 refine zag (zab (zad J J (zaa J) (zbt J J J J) ?_))
 refine zax (zbw (id:=0) rfl) (zax (zci (d:=2) rfl J J) ?_)
 refine zac J (zae (zag (zab (zac J (zae (zag (zag ?_)))))))
 by_cases g1:p∈t.out<;>by_cases g2:p∈t.inn
 ·
  rw[decide_eq_true g1] at h1
  rw[decide_eq_true g2] at h2
  refine zab (zbm zmp J (zbq ta38 J (zac J (zad J J (zaa J) (zai J J (h1) (zaf J (zaf J zaq))) (zae (zah (za7 J (zab (zac J (zad J J (zaa J) (za2 J J J (IntWalk.i64_in _ xa)) (zac J (zae (zag (zag (zab (zbm zln J (zbq ta38 J (zac J (zad J J (zaa J) (zai J J (h2) (zaf J (zaf J zaq))) (zae (zah (za7 J (zab (zac J (zad J J (zaa J) (zcb J J J (IntWalk.i64_in _ xa)) ?_)))))))))))))))))))))))))
  refine zac J (zae (zag (zab (zac J (zac J (zae (zah ?_)))))))
  (refine za3 ?_;repeat (first|refine zbg ?_|refine zbh ?_))
  exact zcl (.inr rfl) rfl (congrArg eI (by unfold incI;rw[if_pos g1,if_pos g2];rfl))
 ·
  rw[decide_eq_true g1] at h1
  rw[decide_eq_false g2] at h2
  refine zab (zbm zmp J (zbq ta38 J (zac J (zad J J (zaa J) (zai J J (h1) (zaf J (zaf J zaq))) (zae (zah (za7 J (zab (zac J (zad J J (zaa J) (za2 J J J (IntWalk.i64_in _ xa)) (zac J (zae (zag (zag (zab (zbm zln J (zbq ta38 J (zac J (zad J J (zaa J) (zai J J (h2) (zaf J (zaf J zaq))) (zae (zah (zaw J (zav (zag (zab (zac J (zac J (zae (zah ?_)))))))))))))))))))))))))))))
  (refine za3 ?_;repeat (first|refine zbg ?_|refine zbh ?_))
  exact zcl (.inr rfl) rfl (congrArg eI (by unfold incI;rw[if_pos g1,if_neg g2];rfl))
 ·
  rw[decide_eq_false g1] at h1
  rw[decide_eq_true g2] at h2
  refine zab (zbm zmp J (zbq ta38 J (zac J (zad J J (zaa J) (zai J J (h1) (zaf J (zaf J zaq))) (zae (zah (zaw J (zav (zag (zag (zab (zbm zln J (zbq ta38 J (zac J (zad J J (zaa J) (zai J J (h2) (zaf J (zaf J zaq))) (zae (zah (za7 J (zab (zac J (zad J J (zaa J) (zcb J J J (IntWalk.i64_in _ xa)) (zac J (zae (zag (zab (zac J (zac J (zae (zah ?_)))))))))))))))))))))))))))))
  (refine za3 ?_;repeat (first|refine zbg ?_|refine zbh ?_))
  exact zcl (.inr rfl) rfl (congrArg eI (by unfold incI;rw[if_neg g1,if_pos g2]))
 ·
  rw[decide_eq_false g1] at h1
  rw[decide_eq_false g2] at h2
  refine zab (zbm zmp J (zbq ta38 J (zac J (zad J J (zaa J) (zai J J (h1) (zaf J (zaf J zaq))) (zae (zah (zaw J (zav (zag (zag (zab (zbm zln J (zbq ta38 J (zac J (zad J J (zaa J) (zai J J (h2) (zaf J (zaf J zaq))) (zae (zah (zaw J (zav (zag (zab (zac J (zac J (zae (zah ?_)))))))))))))))))))))))))
  (refine za3 ?_;repeat (first|refine zbg ?_|refine zbh ?_))
  exact zcl (.inr rfl) rfl (congrArg eI (by unfold incI;rw[if_neg g1,if_neg g2];rfl))
def zx2 (a:Fr):Int:=a.n.tdiv a.d+if 0<a.n.tmod a.d then 1 else 0
theorem z8x (a:Fr)(h:a.ok):Pure P 58 [eF a] (.tup [eI (zx2 a),eI 0]):=by
 have hV:=znw (P:=P) a
 rw[Fr.okB_of h] at hV
 obtain⟨x,y⟩:=a
 obtain⟨h1,h2,h3,h4, -⟩:=h
 replace h1: -1073741824≤x:=h1
 replace h2:x≤1073741824:=h2
 replace h3:1≤y:=h3
 have hq: -1073741824≤x.tdiv y∧x.tdiv y≤1073741824:=by
  have hb:=Int.natAbs_tdiv_le_natAbs x y
  omega
 have hw:IntKind.i64.wrap (x.tdiv y)=x.tdiv y:=IntWalk.i64_in _ xa
 have hr:zx2 ⟨x,y⟩=x.tdiv y+if 0<x.tmod y then 1 else 0:=rfl
 rw[hr]
 refine zd1 (by rw[IsP.eq (P:=P)];exact Tryz.func58) rfl J J J J xh (.tup _ (zaj (.s _) (zaj (.s _) zba))) (by simp only[argF];rfl) ?_
 refine zag (zab (zad J J (zaa J) (zbt J J J J) (zac J (zac J (zae (zag (zag (zab (zad J J (zaa J) (zdg J z2z zex J J J J J) (zad J J (zaa J) (zai J J (hV) (zaf J zaq)) (zad J J (zaa J) (zbs J J) (zae (zah (zaw J (zav (zag (zab (zbm zta J (zad J J (zaa J) (zao J ta3 J J J J J) (zbm zs9 J (zad J J (zaa J) (zao J ta3 J J J J J) ?_)))))))))))))))))))))
 refine zad J J (zaa J) (zmi J J J (show y≠0 by omega) hw) ?_
 refine zac J (zae (zag (zag ?_)))
 by_cases h0:0<x.tmod y
 ·
  rw[if_pos h0]
  refine zab (zbm zta J (zad J J (zaa J) (zao J ta3 J J J J J) (zbm zs9 J (zad J J (zaa J) (zao J ta3 J J J J J) ?_))))
  refine zad J J (zaa J) (zmh J J J (show y≠0 by omega) rfl) ?_
  refine zad J J (zaa J) (zbn h0 (zay J J J)) (zae (zah (za7 J (zab (zac J (zad J J (zaa J) (za2 J J J (IntWalk.i64_in _ xa)) (zac J (zae (zag (zab (zac J (zac J (zac J (zae (zah ?_)))))))))))))))
  (refine za3 ?_;repeat (first|refine zbg ?_|refine zbh ?_))
  exact⟨.inr rfl,[eI (x.tdiv y+1),eI 0], .cons _ _ _ _ (.tmp _ _ J) (.cons _ _ _ _ (.tmp _ _ J) .nil), .refl _⟩
 ·
  rw[if_neg h0,Int.add_zero]
  refine zab (zbm zta J (zad J J (zaa J) (zao J ta3 J J J J J) (zbm zs9 J (zad J J (zaa J) (zao J ta3 J J J J J) ?_))))
  refine zad J J (zaa J) (zmh J J J (show y≠0 by omega) rfl) ?_
  refine zad J J (zaa J) (zbl h0 (zay J J J)) (zae (zah (zaw J (zav (zag (zab (zac J (zac J (zac J (zae (zah ?_)))))))))))
  (refine za3 ?_;repeat (first|refine zbg ?_|refine zbh ?_))
  exact⟨.inr rfl,[eI (x.tdiv y),eI 0], .cons _ _ _ _ (.tmp _ _ J) (.cons _ _ _ _ (.tmp _ _ J) .nil), .refl _⟩
theorem _root_.Go.Proofs.YtjdpnadhgjohnaaGreatDoor.Dl.take_snocW {l:List ByteArray}{k:Nat}(h:k<l.length):l.take (k+1)=l.take k++[gti l k]:=by
 rw[List.take_add_one,zbr h];rfl
def cntS (l:List ByteArray)(a:ByteArray):Nat:=(l.filter fun x=>decide (x=a)).length
theorem zsw (x:ByteArray)(l:List ByteArray)(a:ByteArray):cntS (x::l) a=(if x=a then 1 else 0)+cntS l a:=by
 unfold cntS
 rw[List.filter_cons]
 by_cases h:x=a
 ·
  rw[if_pos (decide_eq_true h),if_pos h,List.length_cons];omega
 ·
  rw[if_neg (by simpa using h),if_neg h];omega
def dstS:List ByteArray→List ByteArray
 |[]=>[]
 |a::l=>if cntS l a=0 then dstS l++[a] else dstS l
theorem zmg: ∀l,(dstS l).length≤l.length
 |[]=>Nat.le_refl _
 | a::l=>by
  have:=zmg l
  unfold dstS
  split
  ·
   simp;omega
  ·
   simp only[List.length_cons];omega
open Go.Maps Go.WideMaps
def cntR:List ByteArray→DataW Unit
 |[]=> .map []
 |x::l=>(cntR l).put (.string x.data.toList) (.lit (.int .i64 ((cntS l x:Int)+1)))
theorem zwf: ∀l,IsMap (cntR l)
 |[]=>isMap_empty
 |x::l=>(zwf l).put _ _
theorem z14 {x y:ByteArray}(h:x.data.toList=y.data.toList):x=y:=by
 obtain⟨⟨a⟩⟩:=x
 obtain⟨⟨b⟩⟩:=y
 simp at h
 subst h;rfl
theorem zkr (k:ByteArray): ∀l:List ByteArray,(cntR l).atKey (.string k.data.toList) (.lit (.int .i64 0))= .lit (.int .i64 (cntS l k))
 |[]=>by simp[cntR,DataW.atKey,cntS]
 | x::l=>by
  rw[zsw]
  by_cases e:x=k
  ·
   subst e
   rw[cntR,atKey_put_same (zwf l) (by first|trivial|simp[WideAt.IsKeyLit]),if_pos J]
   congr 2
   push_cast
   exact Int.add_comm _ _
  ·
   rw[cntR,atKey_put_other (by intro h;injection h with h;exact e (z14 h).symm),zkr k l,if_neg e,Nat.zero_add]
def cntX (P:Program)(l:List ByteArray):MapX:=⟨P,9,3,l.length,cntR l.reverse⟩
def actW (W:List ByteArray):List ByteArray:=srtS (dstS W.reverse) (dstS W.reverse).length
theorem z2t {q:Int}(h:0≤q∧q≤1073741824):(Lit.int .i64 q).wf=true:=by
 unfold Lit.wf
 rw[Bool.and_eq_true]
 exact⟨decide_eq_true (by show(-9223372036854775808:Int)≤_;omega),decide_eq_true (by show _≤(9223372036854775807:Int);omega)⟩
theorem zqa (l:List ByteArray): ∀e∈l.map eS, ∀c∈e.cells,Lo 0 c:=by
 intro e he c hc
 obtain⟨x,_,rfl⟩:=List.mem_map.1 he
 simp[eS,AV.cells] at hc
 subst hc
 exact .s _
theorem z1y (l:List ByteArray)(a:ByteArray):cntS l a≤l.length:=List.length_filter_le _ _
namespace K1
set_option maxHeartbeats 2000000 in
theorem rest_call (sz:Nat)(cs:List AV)(hX: ∀e∈cs, ∀c∈e.cells,Lo 0 c)(w:List ByteArray)(p:Nat)(hp:p≤w.length)(hw:w.length≤12)(hs: ∀a∈w,a.size≤40):CallE P 45 [eL eS w,eI p] [.row sz cs] (.tup [.own 2 1 (actW (w.drop p)).length, .mp 1]) [.row sz cs, .mp (cntX P (w.drop p)), .row 1 ((actW (w.drop p)).map eS)]:=by
 obtain⟨W,hW⟩: ∃W,w.drop p=W:=⟨_,rfl⟩
 have hWl:W.length≤12:=by rw[←hW,List.length_drop];omega
 have hWs: ∀a∈W,a.size≤40:=fun a ha=>hs a (List.mem_of_mem_drop (hW▸ha))
 have hdr:(w.map eS).drop p=W.map eS:=by rw[←hW];exact(List.map_drop ..).symm
 have hwm:(w.map eS).length=w.length:=List.length_map _
 rw[hW]
 refine callE_fn xm (by rw[IsP.eq (P:=P)];exact Tryz.func45) rfl J (Nat.le_of_ble_eq_true J) ?_
 simp only[argF]
 refine kw_seq (kw_region (kops_s J (kops_s J (kops_nil (kw_seq (kw_region (kops_op J J (zaa J) (zlf J tm85) (kops_s J (kops_nil (kw_seq (kw_region (kops_s J (kops_nil (kw_seq (kw_seq ?_)))))))))))))))
 refine kw_weak (kwk_own (d:=7) 1 J (.inr rfl)) ?_
 refine kw_region (kops_s J (kops_s J ?_))
 refine kops_op rfl rfl (zaa rfl) (z8q (congrArg AV.sl hdr) (zlw rfl ts25 ti9 rfl rfl rfl xa (by intro e he;simp at he;obtain⟨_,_,rfl⟩:=he;rfl))) ?_
 refine kops_op J J (zaa J) (zan J ts25 J) (kops_s J (kops_nil (zah (kw_block ?_))))
 refine kw_loops (S:=Nat) (fun k=>[(6, .mp 1),(7, .own 2 1 (dstS (W.take k).reverse).length),(13,eL eS W),(14,eI W.length),(15,eI k)]) (fun k=>[.row sz cs, .mp (cntX P (W.take k)), .row 1 ((dstS (W.take k).reverse).map eS)]) (fun k=>k≤W.length) (fun k=>W.length-k) 0
  (kwk_st [0,1,2] rfl xe ⟨⟨_,rfl, .rowE hX J⟩,⟨_,rfl,zej J⟩,⟨_,rfl, .rowE (zqa _) rfl⟩,trivial⟩ ⟨.mp 1 1 J, .own 2 2 1 _ _ J J, .lo _ (lo_W W), .lo _ (.s _), .lo _ (.s _),trivial⟩) (Nat.zero_le _) (fun k hk=>?_)
 replace hk:k≤W.length:=hk
 refine kw_seq ?_
 by_cases hlt:k<W.length
 rotate_left 1
 ·
  have e:k=W.length:=by omega
  subst e
  rw[List.take_length]
  refine kw_region (kops_op J J (zaa J) (zbl xa (za0 J J J)) (kops_nil (kw_seq (kw_false J ?_))))
  (refine kw_exit ?_;repeat (first|refine zep ?_|refine zcg ?_|refine zbz J ?_|refine zcf ?_|refine zah ?_|refine kw_seq ?_|refine kw_skip ?_|refine kw_block ?_))
  have hl:=zmg W.reverse
  rw[List.length_reverse] at hl
  have hsc:=zyn (P:=P) (b:=2) (σ:=[.row sz cs, .mp (cntX P W), .row 1 ((dstS W.reverse).map eS)]) (l:=dstS W.reverse) rfl xa
  refine kw_region (kops_s J (kops_op J J (zaa J) (zb4 J J hsc J) (kops_nil (kw_seq (kw_region (kops_s J (kops_s J (kops_s J (kops_s J (kops_nil (zah ?_)))))))))))
  (refine kw_ret ?_;repeat (first|refine zbg ?_|refine zbh ?_))
  refine⟨.inr rfl,rfl,_, .cons _ _ _ _ (.tmp _ _ J) (.cons _ _ _ _ (.tmp _ _ J) .nil),?_⟩
  show AV.tup [AV.own 2 1 (dstS W.reverse).length,AV.mp 1]=AV.tup [AV.own 2 1 (actW W).length,AV.mp 1]
  unfold actW
  rw[zj0]
 have hix:(W.map eS)[k]?=some (eS (gti W k)):=zdk hlt
 have htk:W.take (k+1)=W.take k++[gti W k]:=Dl.take_snocW hlt
 have hsz:=hWs _ (gti_mem hlt)
 generalize gti W k=a at hix htk hsz
 have hdl:(dstS (W.take k).reverse).length≤12:=by
  have h1:=zmg (W.take k).reverse
  rw[List.length_reverse,List.length_take] at h1
  omega
 have htr:(W.take (k+1)).reverse=a::(W.take k).reverse:=by rw[htk];simp
 have hlook:=zkr a (W.take k).reverse
 have hlook2:=zkr a (a::(W.take k).reverse)
 rw[zsw,if_pos J] at hlook2
 have hcl:=z1y (W.take k).reverse a
 rw[List.length_reverse,List.length_take] at hcl
 have hds:dstS (a::(W.take k).reverse)=if cntS (W.take k).reverse a=0 then dstS (W.take k).reverse++[a] else dstS (W.take k).reverse:=rfl
 have hks:a.size≤maxLen:=by unfold maxLen;omega
 have hcx:cntX P (W.take (k+1))={cntX P (W.take k) with n:=(cntX P (W.take k)).n+1,D:=(cntX P (W.take k)).D.put (.string a.data.toList) (.lit (.int .i64 ((cntS (W.take k).reverse a:Int)+1)))}:=by
  unfold cntX
  rw[htr,htk]
  simp[cntR]
 have hDx:(cntX P (W.take (k+1))).D=cntR (a::(W.take k).reverse):=by unfold cntX;rw[htr]
 generalize hcn:cntS (W.take k).reverse a=cn at hlook hlook2 hcl hds hcx
 have hwf:(Lit.int .i64 ((cn:Int)+1)).wf=true:=z2t xa
 obtain⟨c1,hc0⟩: ∃c1,(cn:Int)+1=c1:=⟨_,rfl⟩
 have hc1:IntKind.i64.wrap ((cn:Int)+1)=c1:=by rw[←hc0];exact IntWalk.i64_in _ xa
 rw[hc0] at hwf hcx
 have hmb:(cntX P (W.take k)).n<maxLen:=by
  have h1:(cntX P (W.take k)).n=(W.take k).length:=rfl
  rw[h1,List.length_take]
  unfold maxLen
  omega
 refine kw_region (kops_op J J (zaa J) (zbn xa (za0 J J J)) (kops_nil (kw_seq (kw_true J (kw_skip (kw_seq (kw_block (kw_seq (kw_region (kops_op J J (zaa J) (za1 J ts25 ti9 J J J hix J) (kops_l ta9 J (kops_s J (kops_nil (kw_seq (kw_region (kops_s J (kops_s J ?_)))))))))))))))))
 refine kops_op J J (zaa J) (zfd J tm85 tK9 J J ⟨rfl,rfl,rfl⟩ rfl (keyOf_string_mk tn9 hks) ti3 (plainElem_int tn3 (by first|rfl|assumption)) hlook) ?_
 refine kops_op J J (zaa J) (za2 J J J hc1) ?_
 refine kops_eff J (zaa J) (zhi (.inl rfl) tm85 tK9 J J ⟨rfl,rfl,rfl⟩ hmb J J (keyOf_string_mk tn9 (by first|assumption|(unfold maxLen;omega))) (plainElem_int tn3 (by first|rfl|assumption))) ?_
 refine kops_nil (kw_seq ?_)
 refine kw_weak (kwk_st (σ':=[.row sz cs, .mp (cntX P (W.take (k+1))), .row 1 ((dstS (W.take k).reverse).map eS)]) [0,1,2] rfl xe ⟨⟨_,rfl, .rowE hX J⟩,⟨_,rfl,zej hcx.symm⟩,⟨_,rfl, .rowE (zqa _) rfl⟩,trivial⟩ (F':=[(6, .mp 1),(7, .own 2 1 (dstS (W.take k).reverse).length),(9,eS a),(13,eL eS W),(14,eI W.length),(15,eI k)]) ⟨.mp 1 1 J, .own 2 2 1 _ _ J J, .lo _ (.s _), .lo _ (lo_W W), .lo _ (.s _), .lo _ (.s _),trivial⟩) ?_
 have hlook3:(cntX P (W.take (k+1))).D.atKey (.string a.data.toList) (.lit (.int .i64 0))= .lit (.int .i64 ((1+cn:Nat):Int)):=by rw[hDx];exact hlook2
 by_cases h0:cn=0
 ·
  rw[if_pos h0] at hds
  refine kw_region (kops_s J (kops_s J ?_))
  refine kops_op J J (zaa J) (zfd J tm85 tK9 J J ⟨rfl,rfl,rfl⟩ rfl (keyOf_string_mk tn9 hks) ti3 (plainElem_int tn3 (by first|rfl|assumption)) hlook3) ?_
  refine kops_op J J (zaa J) (zbn (by show((1+cn:Nat):Int)=1;omega) (zb2 J J J)) ?_
  refine kops_nil (zah (kw_true J (kw_region (kops_s J (kops_s J (kops_op J J (zaa J) (zjl J ts25 ti9 J J J J) ?_))))))
  refine kops_op J J (zaa J) (zca J ts25 ti9 J xe J J xp J xf xg xg) ?_
  refine kops_s J (kops_nil (zcf (zah (kw_region (kops_op J J (zaa J) (za2 J J J (IntWalk.i64_in _ xa)) (kops_s J (kops_nil (zah ?_))))))))
  refine⟨k+1,by show k+1≤W.length;omega,by show W.length-(k+1)<W.length-k;omega,?_⟩
  rw[htr,hds]
  exact kwk_st [0,1,3] rfl xe ⟨⟨_,rfl, .rowE hX J⟩,⟨_,rfl,zej J⟩,⟨_,rfl, .rowE (zqa _) (by rw[List.map_append];rfl)⟩,trivial⟩ ⟨.mp 1 1 J, .own 3 2 1 _ _ J xm, .lo _ (lo_W W), .lo _ (.s _), .lo _ (.s _),trivial⟩
 ·
  rw[if_neg h0] at hds
  refine kw_region (kops_s J (kops_s J ?_))
  refine kops_op J J (zaa J) (zfd J tm85 tK9 J J ⟨rfl,rfl,rfl⟩ rfl (keyOf_string_mk tn9 hks) ti3 (plainElem_int tn3 (by first|rfl|assumption)) hlook3) ?_
  refine kops_op J J (zaa J) (zbl (by show ¬ ((1+cn:Nat):Int)=1;omega) (zb2 J J J)) ?_
  refine kops_nil (zah (kw_false J (kw_skip (zcf (zah (kw_region (kops_op J J (zaa J) (za2 J J J (IntWalk.i64_in _ xa)) (kops_s J (kops_nil (zah ?_))))))))))
  refine⟨k+1,by show k+1≤W.length;omega,by show W.length-(k+1)<W.length-k;omega,?_⟩
  rw[htr,hds]
  exact kwk_st [0,1,2] rfl xe ⟨⟨_,rfl, .rowE hX J⟩,⟨_,rfl,zej J⟩,⟨_,rfl, .rowE (zqa _) rfl⟩,trivial⟩ ⟨.mp 1 1 J, .own 2 2 1 _ _ J J, .lo _ (lo_W W), .lo _ (.s _), .lo _ (.s _),trivial⟩
end K1
end Aw
namespace Aw
open Go Go.RowKit Go.Proofs Dl
def trC (c:Cst)(t:Tr):Fr:=Fr.of (if t.label={data:= #[]} then c.silent else c.model)
def plR (n:Net)(cols i t:Nat):List Fr:=(List.range cols).map fun q=>if q<t then Fr.of (incI (gti n.trans q) i) else Fr.of 0
def rowF (n:Net)(cols k:Nat):List Fr:=(zew cols).set (n.trans.length+k) (Fr.of 1)
def rowS (n:Net)(cols:Nat)(a:ByteArray)(k t:Nat):List Fr:=(List.range cols).map fun q=>if q<t∧(gti n.trans q).label=a then Fr.of (-1) else if q=n.trans.length+k then Fr.of 1 else Fr.of 0
def ziz (n:Net)(c:Cst)(k j:Nat):List Fr:=(n.trans.take k).map (trC c)++List.replicate j (Fr.of (-c.log-c.model))
def plA (n:Net)(cols i:Nat):List (List Fr):=(List.range i).map fun p=>plR n cols p n.trans.length
def acA (n:Net)(cols:Nat)(acts:List ByteArray)(k:Nat):List (List Fr):=(List.range k).flatMap fun k=>[rowF n cols k,rowS n cols (gti acts k) k n.trans.length]
def plB (n:Net)(s:List Int)(i:Nat):List Fr:=(List.range i).map fun p=>Fr.of (gti (oneL n.places.toNat n.sink) p-gti s (1+p))
def acB (W acts:List ByteArray)(k:Nat):List Fr:=(List.range k).flatMap fun k=>[Fr.of (cntS W (gti acts k)),Fr.of 0]
def acR (k:Nat):List Int:=(List.range k).flatMap fun _=>[1,1]
theorem zre (n:Net)(cols:Nat)(acts:List ByteArray)(k:Nat):acA n cols acts (k+1)=acA n cols acts k++[rowF n cols k]++[rowS n cols (gti acts k) k n.trans.length]:=by simp[acA,List.range_succ]
theorem zrd (W acts:List ByteArray)(k:Nat):acB W acts (k+1)=acB W acts k++[Fr.of (cntS W (gti acts k))]++[Fr.of 0]:=by simp[acB,List.range_succ]
theorem zrc (k:Nat):acR (k+1)=acR k++[1]++[1]:=by simp[acR,List.range_succ]
theorem z2j (n:Net)(cols:Nat)(acts:List ByteArray): ∀k,(acA n cols acts k).length=2*k
 |0=>rfl
 |k+1=>by rw[zre,List.length_append,List.length_append,z2j n cols acts k];simp;omega
theorem z2i (W acts:List ByteArray): ∀k,(acB W acts k).length=2*k
 |0=>rfl
 |k+1=>by rw[zrd,List.length_append,List.length_append,z2i W acts k];simp;omega
theorem z2h: ∀k,(acR k).length=2*k
 |0=>rfl
 |k+1=>by rw[zrc,List.length_append,List.length_append,z2h k];simp;omega
def prgL (n:Net)(w:List ByteArray)(c:Cst)(s:List Int):LP:=
 let W:=w.drop (gti s 0).toNat
 let acts:=actW W
 let cols:=n.trans.length+acts.length
 let pl:=n.places.toNat
 ⟨ziz n c n.trans.length acts.length,plA n cols pl++acA n cols acts acts.length,List.replicate pl 3++acR acts.length,plB n s pl++acB W acts acts.length⟩
def zLP:LP:=⟨[],[],[],[]⟩
def prgO (n:Net)(w:List ByteArray)(c:Cst)(s:List Int):LP × Int:=
 if zb1 n w s=false∨vcB c=false then(zLP,1) else
 if n.trans.length+(actW (w.drop (gti s 0).toNat)).length<1∨12<n.trans.length+(actW (w.drop (gti s 0).toNat)).length∨12<n.places+2*((actW (w.drop (gti s 0).toNat)).length:Int) then(zLP,5) else(prgL n w c s,0)
theorem z7b (n:Net)(cols i t:Nat):(plR n cols i t).length=cols:=by simp[plR]
theorem plR_0 (n:Net)(cols i:Nat):plR n cols i 0=zew cols:=by
 unfold plR zew
 refine List.ext_getElem? fun q=>?_
 by_cases hq:q<cols
 ·
  simp[hq]
 ·
  rw[List.getElem?_eq_none (by simp;omega),List.getElem?_eq_none (by simp;omega)]
theorem z7a {n:Net}{cols i t:Nat}(h:t<cols):(plR n cols i t).set t (Fr.of (incI (gti n.trans t) i))=plR n cols i (t+1):=by
 refine List.ext_getElem? fun q=>?_
 by_cases hq:q<cols
 ·
  rw[List.getElem?_set]
  simp only[plR,List.length_map,List.length_range,List.getElem?_map,List.getElem?_range hq,Option.map_some]
  by_cases e:t=q
  ·
   subst e;rw[if_pos J,if_pos hq,if_pos xa]
  ·
   rw[if_neg e]
   by_cases h2:q<t
   ·
    rw[if_pos h2,if_pos xa]
   ·
    rw[if_neg h2,if_neg xa]
 ·
  rw[List.getElem?_eq_none (by simp[plR];omega),List.getElem?_eq_none (by simp[plR];omega)]
theorem z26 (n:Net)(cols:Nat)(a:ByteArray)(k t:Nat):(rowS n cols a k t).length=cols:=by simp[rowS]
theorem rowS_0 {n:Net}{cols:Nat}{a:ByteArray}{k:Nat}(h:n.trans.length+k<cols):rowS n cols a k 0=rowF n cols k:=by
 unfold rowS rowF zew
 refine List.ext_getElem? fun q=>?_
 by_cases hq:q<cols
 ·
  rw[List.getElem?_set]
  simp only[List.getElem?_map,List.getElem?_range hq,Option.map_some,List.length_replicate,List.getElem?_replicate,Nat.not_lt_zero,false_and,if_false,hq,if_true]
  by_cases e:n.trans.length+k=q
  ·
   subst e;simp[hq]
  ·
   rw[if_neg e,if_neg (fun h=>e h.symm)]
 ·
  rw[List.getElem?_eq_none (by simp;omega),List.getElem?_eq_none (by simp;omega)]
theorem z25 {n:Net}{cols:Nat}{a:ByteArray}{k t:Nat}(h:t<cols)(hl:(gti n.trans t).label=a):(rowS n cols a k t).set t (Fr.of (-1))=rowS n cols a k (t+1):=by
 refine List.ext_getElem? fun q=>?_
 by_cases hq:q<cols
 ·
  rw[List.getElem?_set]
  simp only[rowS,List.length_map,List.length_range,List.getElem?_map,List.getElem?_range hq,Option.map_some]
  by_cases e:t=q
  ·
   subst e;rw[if_pos J,if_pos hq,if_pos ⟨by omega,hl⟩]
  ·
   rw[if_neg e]
   by_cases h2:q<t
   ·
    simp only[h2,true_and,show q<t+1 by omega]
   ·
    simp only[h2,false_and,if_false,show ¬q<t+1 by omega]
 ·
  rw[List.getElem?_eq_none (by simp[rowS];omega),List.getElem?_eq_none (by simp[rowS];omega)]
theorem zys {n:Net}{cols:Nat}{a:ByteArray}{k t:Nat}(hl:(gti n.trans t).label≠a):rowS n cols a k t=rowS n cols a k (t+1):=by
 unfold rowS
 refine List.map_congr_left fun q hq=>?_
 by_cases e:q=t
 ·
  subst e
  simp[hl]
 ·
  by_cases h2:q<t
  ·
   simp only[h2,true_and,show q<t+1 by omega]
  ·
   simp only[h2,false_and,if_false,show ¬q<t+1 by omega]
variable {P:Program}[IsP P]
def ePg (nc na nr nb:Nat):AV:= .agg [.own 1 2 nc, .own 2 1 na, .own 3 1 nr, .own 4 2 nb]
theorem z0u {l:List Fr}{i:Nat}(h:i<l.length):(l.map eF)[i]?=some (eF (gti l i)):=by rw[List.getElem?_map,zbr h];rfl
def zPg:AV:= .agg [.s (.slice none 0 0), .s (.slice none 0 0), .s (.slice none 0 0), .s (.slice none 0 0)]
theorem zem: ∀e∈[zPg], ∀c∈e.cells,Lo 0 c:=by
 intro e he c hc
 simp at he;subst he
 simp[zPg,AV.cells] at hc;subst hc;exact .s _
def stPg (C:List Fr)(A:List (List Fr))(R:List Int)(B:List Fr)(X:MapX):List Ob:=[.row 4 [ePg C.length A.length R.length B.length], .row 2 (C.map eF), .row 1 (A.map (eL eF)), .row 1 (R.map eI), .row 2 (B.map eF), .row 4 [zPg], .mp X]
theorem zd7 (A:List (List Fr)): ∀e∈A.map (eL eF), ∀c∈e.cells,Lo 0 c:=by
 intro e he c hc
 obtain⟨x,_,rfl⟩:=List.mem_map.1 he
 simp only[eL,AV.cells,List.mem_singleton] at hc
 subst hc;exact zop x
theorem zbp (C:List Fr): ∀e∈C.map eF, ∀c∈e.cells,Lo 0 c:=by
 intro e he c hc
 obtain⟨x,_,rfl⟩:=List.mem_map.1 he
 simp[eF,AV.cells] at hc
 rcases hc with rfl|rfl<;>exact .s _
theorem zd6 (l:List Int): ∀e∈l.map eI, ∀c∈e.cells,Lo 0 c:=by
 intro e he c hc
 obtain⟨x,_,rfl⟩:=List.mem_map.1 he
 simp[eI,AV.cells] at hc
 subst hc;exact .s _
set_option maxHeartbeats 1000000 in
theorem zrb (C:List Fr)(A:List (List Fr))(R:List Int)(B:List Fr)(X:MapX)(row:List Fr)(rel b:Int)(hA:A.length≤100)(hRl:R.length=A.length)(hBl:B.length=A.length):
  CallE P 48 [eL eF row,eI rel,eI b, .ptr 0 4 0 0] (stPg C A R B X) (.tup [])
   [.row 4 [.agg [.own 1 2 C.length, .own 7 1 (A.length+1), .own 8 1 (R.length+1), .own 9 2 (B.length+1)]], .row 2 (C.map eF), .dead, .dead, .dead, .row 4 [zPg], .mp X, .row 1 ((A++[row]).map (eL eF)), .row 1 ((R++[rel]).map eI), .row 2 ((B++[Fr.of b]).map eF)]:=by
 have hi:=zeu (P:=P) b
 have hAm:(A.map (eL eF)).length=A.length:=List.length_map _
 have hRm:(R.map eI).length=R.length:=List.length_map _
 have hBm:(B.map eF).length=B.length:=List.length_map _
 refine callE_fn (by rw[IsP.eq (P:=P)];exact Tryz.func48) rfl J (Nat.le_of_ble_eq_true J) ?_
 refine zdy hmix ?_
 refine zdu ?_
 refine ex_f z5g J (zb5 J J (zaa J) (zb9 J ta40 J J J J J) (ex_s J ?_))
 refine zaz J J (zaa J) (fun _=>(zvr J ts40 ti39 J J J J xh)) ?_
 refine ze8 J J (zaa J) (zca J ts40 ti39 J xe J J xp J xf xg xg) (fun _ h=>zc4 h) ?_
 refine ex_f z5f J (zb5 J J (zaa J) (zb9 J ta38 J J J J J) (ex_s J (zaz J J (zaa J) (fun _=>(zjl J ts38 ti3 J J J J)) ?_)))
 refine ze8 J J (zaa J) (zca J ts38 ti3 J xe J J xp J xf xg xg) (fun _ h=>zc4 h) ?_
 refine ex_f z5e J (zb5 J J (zaa J) (zb9 J ta39 J J J J J) (ex_s J (zaz J J (zaa J) (fun _=>(zai J J (hi) (zaf J zaq))) (zaz J J (zaa J) (fun _=>(zel J ts39 zex J J xe xe J J J (.agg _ (zaj (.s _) (zaj (.s _) zba))))) ?_))))
 refine ze8 J J (zaa J) (zca J ts39 zex J xe J J xp J xf xg xg) (fun _ h=>zc4 h) ?_
 refine ex_f z5g J ?_
 refine zcx J (zaa J) (zat J ti40 J J J J J J xe xe) (fun _ h=>zbo h) ?_
 refine ex_f z5f J ?_
 refine zcx J (zaa J) (zat J ti38 J J J J J J xe xe) (fun _ h=>zbo h) ?_
 refine ex_f z5e J ?_
 refine zcx J (zaa J) (zat J ti39 J J J J J J xe xe) (fun _ h=>zbo h) ?_
 refine ze7 (by kernel_rfl) ?_
 refine⟨.inl rfl,?_,_, .nil,rfl⟩
 rw[List.map_append,List.map_append,List.map_append, ←hAm, ←hRm, ←hBm]
 rfl
end Aw
end Go.Proofs.YtjdpnadhgjohnaaGreatDoor
