import Derived.Test.YtjdpnadhgjohnaaGreatDoorJN0
set_option linter.unusedSimpArgs false
set_option linter.unusedVariables false
set_option linter.unusedSectionVars false
section
namespace Go.Proofs.YtjdpnadhgjohnaaGreatDoor
structure Fr where
 n:Int
 d:Int
deriving DecidableEq
def Fr.of (k:Int):Fr:=⟨k,1⟩
def Fr.ok (a:Fr):Prop:= -1073741824≤a.n∧a.n≤1073741824∧1≤a.d∧a.d≤1073741824∧Int.gcd a.n a.d=1
instance (a:Fr):Decidable a.ok:=by unfold Fr.ok;infer_instance
def Fr.okB (a:Fr):Bool:=decide a.ok
theorem Fr.okB_iff (a:Fr):a.okB=true↔a.ok:=by simp[Fr.okB]
theorem Fr.okB_of {a:Fr}(h:a.ok):a.okB=true:=(Fr.okB_iff a).2 h
theorem Fr.okB_not {a:Fr}(h: ¬a.ok):a.okB=false:=by simp[Fr.okB,h]
def nf (n d:Int):Fr:=⟨Int.sign d*(n / (Int.gcd n d:Int)),(d.natAbs:Int) / (Int.gcd n d:Int)⟩
def Fr.fits (a:Fr):Bool:=decide (-1073741824≤a.n∧a.n≤1073741824∧a.d≤1073741824)
def mkF (n d:Int):Option Fr:=if (nf n d).fits then some (nf n d) else none
theorem z34 (p q:Int):Int.gcd q (p % q)=Int.gcd p q:=by
 rw[Int.gcd_comm p q]
 have h:=Int.gcd_add_mul_right_right q (p % q) (p / q)
 rw[←h]
 have e:p % q+p / q*q=p:=by have:=Int.emod_add_mul_ediv p q;rw[Int.mul_comm];exact this
 rw[e]
theorem z3j (k n d:Int)(hk:0<k):nf (k*n) (k*d)=nf n d:=by
 have hg:(Int.gcd (k*n) (k*d):Int)=k*(Int.gcd n d:Int):=by
  rw[Int.gcd_mul_left];rw[Int.natCast_mul];rw[Int.natAbs_of_nonneg xa]
 have hs:Int.sign (k*d)=Int.sign d:=by rw[Int.sign_mul,Int.sign_eq_one_of_pos hk,Int.one_mul]
 have ha:((k*d).natAbs:Int)=k*(d.natAbs:Int):=by rw[Int.natAbs_mul,Int.natCast_mul,Int.natAbs_of_nonneg xa]
 unfold nf
 rw[hg,hs,ha,Int.mul_ediv_mul_of_pos _ _ hk,Int.mul_ediv_mul_of_pos _ _ hk]
theorem zz1 (k n d:Int)(hk:0<k):mkF (k*n) (k*d)=mkF n d:=by unfold mkF;rw[z3j k n d hk]
structure FE where
 n:Int
 d:Int
 e:Int
def FE.of:Option Fr→FE
 |some a=>⟨a.n,a.d,0⟩
 |none=>⟨0,0,6⟩
def FE.err (e:Int):FE:=⟨0,0,e⟩
def fadd (a b:Fr):Option Fr:=mkF (a.n*b.d+b.n*a.d) (a.d*b.d)
def fneg (a:Fr):Fr:=⟨-a.n,a.d⟩
def fsub (a b:Fr):Option Fr:=fadd a (fneg b)
def fmul (a b:Fr):Option Fr:=mkF (a.n*b.n) (a.d*b.d)
def fdiv (a b:Fr):Option Fr:=mkF (a.n*b.d) (a.d*b.n)
theorem z73 {a:Fr}(h:a.ok):(fneg a).ok:=by
 obtain⟨h1,h2,h3,h4,h5⟩:=h
 exact⟨by simp only[fneg];omega,by simp only[fneg];omega,h3,h4,by simpa[fneg] using h5⟩
theorem z4d (a b:Fr)(ha:a.ok):
  mkF (a.n*(b.d / (Int.gcd a.d b.d:Int))+b.n*(a.d / (Int.gcd a.d b.d:Int))) (a.d*(b.d / (Int.gcd a.d b.d:Int)))=fadd a b:=by
 have h3:=ha.2.2.1
 have hg:0<(Int.gcd a.d b.d:Int):=by have:=Int.gcd_pos_iff.2 (Or.inl (show a.d≠0 by omega):a.d≠0∨b.d≠0);omega
 unfold fadd
 rw[←zz1 (Int.gcd a.d b.d:Int) (a.n*(b.d / (Int.gcd a.d b.d:Int))+b.n*(a.d / (Int.gcd a.d b.d:Int))) _ xa]
 obtain⟨x,hx⟩:(Int.gcd a.d b.d:Int) ∣ a.d:=Int.gcd_dvd_left ..
 obtain⟨y,hy⟩:(Int.gcd a.d b.d:Int) ∣ b.d:=Int.gcd_dvd_right ..
 generalize (Int.gcd a.d b.d:Int)=g at*
 have ex:a.d / g=x:=by rw[hx,Int.mul_ediv_cancel_left _ xa]
 have ey:b.d / g=y:=by rw[hy,Int.mul_ediv_cancel_left _ xa]
 rw[ex,ey,hx,hy]
 congr 1<;>grind
theorem nf_neg (n d:Int):nf (-n) (-d)=nf n d:=by
 unfold nf
 simp only[Int.gcd_neg,Int.neg_gcd,Int.sign_neg,Int.natAbs_neg]
 congr 1
 rw[Int.neg_ediv_of_dvd (Int.gcd_dvd_left ..),Int.neg_mul_neg]
theorem z7n (n d:Int):mkF (-n) (-d)=mkF n d:=by unfold mkF;rw[nf_neg]
theorem sign_mul (x y:Int):(if (decide (x<0) !=decide (y<0)) then -((x.natAbs:Int)*(y.natAbs:Int)) else(x.natAbs:Int)*(y.natAbs:Int))=x*y:=by
 rcases Int.lt_or_le x 0 with hx|hx<;>rcases Int.lt_or_le y 0 with hy|hy
 ·
  rw[show(x.natAbs:Int)= -x by omega,show(y.natAbs:Int)= -y by omega];simp[hx,hy,Int.neg_mul,Int.mul_neg]
 ·
  rw[show(x.natAbs:Int)= -x by omega,show(y.natAbs:Int)=y by omega];simp[hx,Int.not_lt.2 hy,Int.neg_mul]
 ·
  rw[show(x.natAbs:Int)=x by omega,show(y.natAbs:Int)= -y by omega];simp[hy,Int.not_lt.2 hx,Int.mul_neg]
 ·
  rw[show(x.natAbs:Int)=x by omega,show(y.natAbs:Int)=y by omega];simp[Int.not_lt.2 hy,Int.not_lt.2 hx]
theorem z0z (a b:Fr)(n:Int)(hn:(if (decide (a.n<0) !=decide (b.n<0)) then -((a.n.natAbs:Int)*b.d) else(a.n.natAbs:Int)*b.d)=n):mkF n (a.d*(b.n.natAbs:Int))=fdiv a b:=by
 subst hn
 unfold fdiv
 rcases Int.lt_or_le b.n 0 with hy|hy
 ·
  rw[←z7n (a.n*b.d)]
  rcases Int.lt_or_le a.n 0 with hx|hx
  ·
   rw[show(a.n.natAbs:Int)= -a.n by omega,show(b.n.natAbs:Int)= -b.n by omega];simp[hx,hy,Int.neg_mul,Int.mul_neg]
  ·
   rw[show(a.n.natAbs:Int)=a.n by omega,show(b.n.natAbs:Int)= -b.n by omega];simp[hy,Int.not_lt.2 hx,Int.mul_neg]
 ·
  rcases Int.lt_or_le a.n 0 with hx|hx
  ·
   rw[show(a.n.natAbs:Int)= -a.n by omega,show(b.n.natAbs:Int)=b.n by omega];simp[hx,Int.not_lt.2 hy,Int.neg_mul]
  ·
   rw[show(a.n.natAbs:Int)=a.n by omega,show(b.n.natAbs:Int)=b.n by omega];simp[Int.not_lt.2 hx,Int.not_lt.2 hy]
def cmpN (a b:Fr):Int:=if a.n*b.d<b.n*a.d then -1 else if a.n*b.d>b.n*a.d then 1 else 0
theorem zj9 (a b:Int)(h1: -1073741824≤a)(h2:a≤1073741824)(h3:0≤b)(h4:b≤1073741824): -1152921504606846976≤a*b∧a*b≤1152921504606846976:=by
 have e1:a*b≤1073741824*b:=Int.mul_le_mul_of_nonneg_right h2 h3
 have e2: -1073741824*b≤a*b:=Int.mul_le_mul_of_nonneg_right h1 h3
 omega
theorem z59 (b g:Int)(h1:1≤b)(hg:0<g)(hd:g ∣ b):1≤b / g∧b / g≤b:=by
 obtain⟨c,rfl⟩:=hd
 rw[Int.mul_ediv_cancel_left _ xa]
 have hc:0<c:=Int.pos_of_mul_pos_right xa hg
 refine⟨by omega,?_⟩
 have:1*c≤g*c:=Int.mul_le_mul_of_nonneg_right xa xa
 omega
def addE (a b:Fr):FE:=if a.okB && b.okB then FE.of (fadd a b) else FE.err 1
def subE (a b:Fr):FE:=if a.okB && b.okB then FE.of (fsub a b) else FE.err 1
def mulE (a b:Fr):FE:=if a.okB && b.okB then FE.of (fmul a b) else FE.err 1
def divE (a b:Fr):FE:=if a.okB && b.okB then(if b.n=0 then FE.err 7 else FE.of (fdiv a b)) else FE.err 1
end Go.Proofs.YtjdpnadhgjohnaaGreatDoor
end
