/- Layer 1: an integer is read. -/
import Derived.Test.YtloppcgcepgbnaaGreatDoorKwVlW2
set_option maxHeartbeats 4000000
set_option linter.all false
namespace Go.Proofs.YtloppcgcepgbnaaGreatDoor.Kw
open Go Go.Vl
variable {G:Gl}
abbrev r3 (r:Int×Nat×Int):V:=.tup [i64 r.1,i64 (r.2.1:Int),i64 r.2.2]
theorem ajC {a:Nat} {K:V→Prop} (h:a<72057594037927936):mO .shl .u64 (a:Int) 8 K=K (.c (.lit (.int .u64 ((256*a:Nat):Int)))):=by
 have hm:min ((8:Int)).toNat IntKind.u64.bits=8:=rfl
 have e:IntKind.u64.wrap ((a:Int)*2 ^ 8)=((256*a:Nat):Int):=by rw[IntKind.wrap_u64];omega
 have h0:(0:Int)≤8:=by decide
 show((0:Int)≤8∧K (.c (.lit (.int .u64 (IntKind.u64.wrap ((a:Int)*2 ^ (min ((8:Int)).toNat IntKind.u64.bits)))))))=_
 rw[hm,e,eq_true h0,ia]
theorem aoS {a:Nat} {c:UInt8} {K:V→Prop} (h:a<72057594037927936):mO .or .u64 ((256*a:Nat):Int) (c.toNat:Int) K=K (.c (.lit (.int .u64 ((256*a+c.toNat:Nat):Int)))):=by
 have hc:=c.toNat_lt
 show K (.c (.lit (.int .u64 (bits .or .u64 _ _))))=_
 rw[u64_or_nat _ _ (by omega) (by omega)]
 have:256*a |||c.toNat=256*a+c.toNat:=by
  rw[show 256*a=a <<<8 by rw[Nat.shiftLeft_eq];omega]
  exact(Nat.shiftLeft_add_eq_or_of_lt (by omega) a).symm
 rw[this]
theorem kF {P:Program} {fr:Nat→V} {bx:Nat→List V} {nb:Nat} {d e f:V} {t u v:Tmp} (h1:(fr t).fz=d) (h2:(fr u).fz=e) (h3:(fr v).fz=f):rl P false ⟨fr,bx,nb⟩ (.tup [d,e,f]) [.tmp t,.tmp u,.tmp v]:=by
 refine⟨_,rfl,rfl,fun i R x hR hx=>?_⟩
 match i with
 |0=>simp only[bJ,ai] at hR hx;subst hR;subst hx;exact h1
 |1=>simp only[ct,bJ,ai] at hR hx;subst hR;subst hx;exact h2
 |2=>simp only[ct,bJ,ai] at hR hx;subst hR;subst hx;exact h3
 |n+3=>simp at hR
def iJ (c:UInt8):UInt8:=if c.toNat<128 then 255 else 0
theorem Zb (c:UInt8):128≤(c ^^^ iJ c).toNat∧(c ^^^ iJ c).toNat<256:=by
 have hc:=c.toNat_lt
 unfold iJ;split
 ·rw[Pm];omega
 ·rw[UInt8.xor_zero];omega
theorem Zc {x:UInt8} {K:V→Prop}:iW Tryz.prog 5 3 (.c (bc x)) K=K (i64 (x.toNat:Nat)):=by
 have h:=x.toNat_lt
 have e:IntKind.i64.wrap ((x.toNat:Nat):Int)=(x.toNat:Int):=cd rfl (by omega)
 simp only[iW,qP,pe,e]
theorem aey {x:UInt8} {K:V→Prop}:iW Tryz.prog 5 75 (.c (bc x)) K=K (.c (.lit (.int .u64 (x.toNat:Int)))):=by
 have h:=x.toNat_lt
 have e:IntKind.u64.wrap ((x.toNat:Nat):Int)=(x.toNat:Int):=by rw[IntKind.wrap_u64];omega
 simp only[iW,qP,Py,e]
def lR:=jj @pkA @ptA
set_option maxRecDepth 100000 in
theorem TF (b:B) (hb:b.length≤1000000000):FnOK Tryz.prog G 29 [bv b] (r3 (nH b)):=by
 refine bR (rs:=[.tmp 2,.tmp 3,.tmp 4]) false [] mixed Tryz.func29 rfl rfl rfl rfl (by kernel_rfl) (by simp) rfl rfl ?_
 simp only[lR,seval,aK,tZ]
 cases b with
 |nil=>
  refine aS (fun _=>?_) (fun h=>?_)
  ·simp only[pkA,seval]
   refine kF ?_ ?_ ?_<;>simp only[pkA,seval]<;>rfl
  ·simp at h
 |cons c r=>
 refine aS (fun h=>?_) (fun _=>?_)
 ·exact absurd (bn h) (by rw[aA];omega)
 simp only[pkA,seval]
 refine EM kN rfl qP rfl (k:=0) rfl rfl ?_
 simp only[lR,seval]
 refine yX (fun s'=>∃ fr,s'=⟨fr,fun _=>[],0⟩∧fr 0=bv (c::r)∧fr 5=.c (bc (iJ c))) ?_ ?_
 case refine_2=>
  intro R hR _
  refine aS (fun h=>?_) (fun h=>?_)
  ·have h:c.toNat<128:=by have:=bn h;omega
   simp only[pkA,seval]
   refine hR _ ⟨_,rfl,by simp[ao],?_⟩
   unfold iJ;rw[if_pos h];rfl
  ·have h:¬ c.toNat<128:=by have:=cO h;omega
   simp only[pkA]
   refine hR _ ⟨_,rfl,by simp[ao],?_⟩
   unfold iJ;rw[if_neg h];rfl
 rintro _ ⟨fr,rfl,h0,h5⟩
 simp only[pkA,seval,h0]
 refine EM kN rfl qP rfl (k:=0) rfl rfl ?_
 obtain⟨D8,Ud⟩:=Zb c
 have hk:∃ k,(c ^^^ iJ c).toNat=128+k:=⟨(c ^^^ iJ c).toNat - 128,by omega⟩
 obtain⟨k,hk⟩:=hk
 have hgi:nH (c::r)=if 8<k then(0,0,6) else if r.length<k then(0,0,5) else
  if((r.take k).map (· ^^^ iJ c)).head?=some 0 then(0,0,6) else if 9223372036854775808≤val ((r.take k).map (· ^^^ iJ c)) then(0,0,6) else
  (if c.toNat<128 then -1 - (val ((r.take k).map (· ^^^ iJ c)):Int) else val ((r.take k).map (· ^^^ iJ c)),k+1,0):=by
  have e:(c ^^^ iJ c).toNat - 128=k:=by omega
  rw[← e];rfl
 rw[hgi]
 have Ae:=cd (n:=((128+k:Nat):Int) - 128) (k:=k) (by omega) (by omega)
 simp only[lR,seval,h5,JL,Zc,hk,Ae]
 refine aS (fun h8=>?_) (fun h8=>?_)
 ·have h8:8<k:=by have:=bn h8;omega
  rw[if_pos h8]
  simp only[pkA,seval]
  refine kF ?_ ?_ ?_<;>simp only[pkA,seval]<;>rfl
 have h8:¬ 8<k:=by have:=cO h8;omega
 rw[if_neg h8]
 simp only[lR,seval,h0,tZ]
 refine aS (fun hl=>?_) (fun hl=>?_)
 ·have hl:r.length<k:=by have:=bn hl;omega
  rw[if_pos hl]
  simp only[pkA,seval]
  refine kF ?_ ?_ ?_<;>simp only[pkA,seval]<;>rfl
 have hl:¬ r.length<k:=by have:=cO hl;omega
 rw[if_neg hl]
 simp only[pkA,seval]
 refine Xc (fun s'=>∃ fr,s'=⟨fr,fun _=>[],0⟩∧((r.take k).map (· ^^^ iJ c)).head?≠some 0∧fr 0=bv (c::r)∧fr 5=.c (bc (iJ c))∧fr 6=i64 (k:Nat)) ?_ ?_
 case refine_2=>
  intro R hR hR'
  refine fA (fun hp=>?_) (fun hz=>?_)
  ·have hp:0<k:=by have:=bn hp;omega
   obtain⟨x,hx⟩:∃ x,r[0]?=some x:=⟨r[0]'(by omega),ab _⟩
   have hhd:((r.take k).map (· ^^^ iJ c)).head?=some (x ^^^ iJ c):=by
    rw[List.head?_map,List.head?_take,if_neg (by omega),List.head?_eq_getElem?,hx];rfl
   rw[hhd] at hR hR'
   simp only[pkA,seval,h0]
   refine EM kN rfl qP rfl (k:=1) rfl (show(c::r)[1]?=some x from hx) ?_
   simp only[lR,seval,h5,JL]
   refine aS (fun he=>?_) (fun he=>?_)
   ·have he:(x ^^^ iJ c)=0:=UInt8.toNat_inj.1 (by have:=bn he;show(x ^^^ iJ c).toNat=0;omega)
    simp only[pkA,seval]
    refine hR' _ _ (by simp) ?_
    rw[if_pos (by rw[he])]
    simp only[pkA]
    refine kF ?_ ?_ ?_<;>simp only[pkA,seval]<;>rfl
   ·have he:(x ^^^ iJ c)≠0:=fun h=>by have:=cO he;rw[h] at this;exact this rfl
    simp only[pkA]
    exact hR _ ⟨_,rfl,fun h=>he (dz h),by simp[ao,h0],by simp[ao,h5],by simp[ao]⟩
  ·have hz:k=0:=by
    have:decide (0<(k:Int))=false:=by simpa using hz
    have:=cO this;omega
   subst hz
   simp only[pkA,seval]
   exact hR _ ⟨_,rfl,by simp,by simp[ao,h0],by simp[ao,h5],by simp[ao]⟩
 rintro _ ⟨fr,rfl,hhd,h0,h5,h6⟩
 rw[if_neg hhd]
 have OK:=cd (n:=(k:Int)+1) (k:=k+1) (by omega) (by omega)
 simp only[pkA,seval,h0,h6,OK]
 refine afJ kN rfl qP rfl (a:=1) (b:=k+1) rfl rfl (by omega) (by rw[aA];omega) ?_
 have LO:((c::r).take (k+1)).drop 1=r.take k:=by rw[fp,gJ,dE]
 rw[LO]
 generalize hd:r.take k=d at *
 have hdl:d.length=k:=by rw[← hd,aG];omega
 have AD:∀ j,j≤7→val ((d.take j).map (· ^^^ iJ c))<72057594037927936:=fun j hj=>by
  have h1:=NH ((d.take j).map (· ^^^ iJ c))
  have h2:256 ^ ((d.take j).map (· ^^^ iJ c)).length≤256 ^ 7:=Nat.pow_le_pow_right (by decide) (by simp only[ak,aG];omega)
  omega
 simp only[lR,seval,tZ,hdl]
 refine cx (fun j:Nat=>hdS [(0,bv (c::r)),(5,.c (bc (iJ c))),(6,i64 (k:Nat)),(7,.c (.lit (.int .u64 (val ((d.take j).map (· ^^^ iJ c)):Int)))),(46,bv d),(47,i64 (k:Nat)),(48,i64 (j:Nat))] []) (fun j=>k - j) (fun j=>j≤k) 0 (au _) ?_ ?_
 ·refine cL rfl (au _) (by simp) (by simp[FL,ao,h0,h5,h6,acn]) trivial
 rintro j hj R cE cC dV
 simp only[pkA,seval]
 refine aS (fun hp=>?_) (fun hz=>?_)
 ·have hp:j<k:=by have:=bn hp;omega
  obtain⟨x,hx⟩:∃ x,d[j]?=some x:=⟨d[j]'(by omega),ab _⟩
  have hv:=AD j (by omega)
  have Ae:=cd (n:=(j:Int)+1) (k:=j+1) (by omega) (by omega)
  have hsn:val ((d.take (j+1)).map (· ^^^ iJ c))=256*val ((d.take j).map (· ^^^ iJ c))+(x ^^^ iJ c).toNat:=by
   rw[uZ hx,dA];exact rz _ _
  simp only[pkA,seval]
  refine EM kN rfl qP rfl rfl hx ?_
  simp only[lR,seval,ajC hv,JL,aey,aoS hv,Ae]
  refine cE (j+1) _ hp (by omega) (cL rfl (au _) (by simp) ?_ trivial)
  rw[hsn]
  simp[FL,ao]
 have hz:j=k:=by have:=dge hz;omega
 subst hz
 simp only[pkA]
 refine cC _ _ ?_
 rw[dW (by omega)]
 have hv8:val (d.map (· ^^^ iJ c))<18446744073709551616:=by
  have h1:=NH (d.map (· ^^^ iJ c))
  have h2:256 ^ (d.map (· ^^^ iJ c)).length≤256 ^ 8:=Nat.pow_le_pow_right (by decide) (by simp only[ak];omega)
  omega
 clear cC cE dV AD hgi hhd R hj hk D8 Ud
 generalize val (d.map (· ^^^ iJ c))=m at *
 have hsh:∀ K,mO .shr .u64 (m:Int) 63 K=K (.c (.lit (.int .u64 ((m / 9223372036854775808:Nat):Int)))):=fun K=>Xd (n:=63) (by decide)
 simp only[pkA,seval,hsh]
 refine aS (fun hb=>?_) (fun hs=>?_)
 ·have hb:9223372036854775808≤m:=by have:=bn hb;omega
  rw[if_pos hb]
  simp only[pkA,seval]
  refine kF ?_ ?_ ?_<;>simp only[pkA,seval]<;>rfl
 have hs:¬ 9223372036854775808≤m:=by have:=cO hs;omega
 rw[if_neg hs]
 simp only[pkA,seval]
 refine yX (fun s'=>∃ fr,s'=⟨fr,fun _=>[],0⟩∧fr 6=i64 (j:Nat)∧fr 7=.c (.lit (.int .u64 ((if c.toNat<128 then 18446744073709551615 - m else m:Nat):Int)))) ?_ ?_
 case refine_2=>
  intro R hR _
  have kU:(0:Int)<(iJ c).toNat↔c.toNat<128:=by
   unfold iJ;split<;>simp_all
  refine aS (fun h=>?_) (fun h=>?_)
  ·have h:=kU.1 (bn h)
   simp only[pkA,seval,afL hv8]
   exact hR _ ⟨_,rfl,by simp[ao],by simp[h]⟩
  ·have h:¬ c.toNat<128:=fun q=>cO h (kU.2 q)
   simp only[pkA]
   exact hR _ ⟨_,rfl,by simp[ao],by simp[ao,h]⟩
 rintro _ ⟨fr,rfl,h6,h7⟩
 have Ae:=cd (n:=(j:Int)+1) (k:=j+1) (by omega) (by omega)
 have Dp:∀ (x:Nat) K,iW Tryz.prog 75 3 (.c (.lit (.int .u64 (x:Int)))) K=K (i64 (IntKind.i64.wrap (x:Int))):=fun x K=>by
  simp only[iW,Py,pe]
 have hwm:IntKind.i64.wrap ((if c.toNat<128 then 18446744073709551615 - m else m:Nat):Int)=if c.toNat<128 then -1 - (m:Int) else(m:Int):=by
  rw[IntKind.wrap_i64];split<;>omega
 simp only[pkA,seval,h6,h7,Dp,Ae,hwm]
 refine kF ?_ ?_ ?_<;>simp only[pkA,seval]<;>rfl
end Go.Proofs.YtloppcgcepgbnaaGreatDoor.Kw
namespace Go.Proofs.YtloppcgcepgbnaaGreatDoor
open Go Go.Vl Go.Proofs.YtloppcgcepgbnaaGreatDoor.Kw
variable {G:Gl}
set_option maxRecDepth 100000
def lS (is:Bool) (f e:Int):Int:=if(is&&decide (e=0))=true then f else e
theorem PV (is:Bool) (f e:Int):FnB Tryz.prog G 27 [bo is,i64 f,.bp 0 0] [[i64 e]] (.tup []) [[i64 (lS is f e)]]:=by
 refine mc (rs:=[]) (k:=1) [3000001] mixed Tryz.func27 rfl rfl rfl rfl (by kernel_rfl) (by simp) rfl rfl rfl rfl (by simp) ?_
 simp only[pkA,seval,aK]
 refine fA (fun h=>?_) (fun h=>?_)
 ·simp only[lR,seval,bz]
  refine aS (fun h2=>?_) (fun h2=>?_)
  ·simp only[lR,seval,aK,bz]
   have he:lS is f e=f:=by unfold lS;rw[if_pos (by simp_all)]
   rw[he]
   exact pL [] rfl rfl (by simp) (by simp) trivial (by simp[BL]) rq
  ·simp only[pkA]
   have he:lS is f e=e:=by unfold lS;rw[if_neg (by simp_all)]
   rw[he]
   exact pL [] rfl rfl (by simp) (by simp) trivial (by simp[BL,bxs]) rq
 ·simp only[pkA,seval]
  have he:lS is f e=e:=by unfold lS;rw[if_neg (by simp_all)]
  rw[he]
  exact pL [] rfl rfl (by simp) (by simp) trivial (by simp[BL,bxs]) rq
def cQ (b:B) (e:Int):Int×B×Int:=if e≠0 then(0,b,e) else((nH b).1,b.drop (nH b).2.1,(nH b).2.2)
def KL:V:=.clo (.func 27) [] [.bp 0 0]
theorem aez (b:B) (e:Int) (hb:b.length≤1000000000):FnB Tryz.prog G 28 [.bp 0 0,.bp 1 0,.bp 2 0] [[i64 e],[bv b],[KL]] (i64 (cQ b e).1) [[i64 (cQ b e).2.2],[bv (cQ b e).2.1],[KL]]:=by
 refine mc (rs:=[.tmp 3]) (k:=3) [3000003,1000019] mixed Tryz.func28 rfl rfl rfl rfl (by kernel_rfl) (by simp) rfl rfl rfl rfl (by simp) ?_
 simp only[lR,seval,aK,bz]
 refine aS (fun h=>?_) (fun h=>?_)
 ·simp only[pkA,seval]
  have he:cQ b e=(0,b,e):=by unfold cQ;rw[if_pos (by simpa using h)]
  rw[he]
  exact pL [(3,i64 0)] rfl rfl (by simp) (by simp) (by simp[FL]) (by simp[BL,bxs]) rfl
 ·have h:e=0:=by simpa using h
  subst h
  simp only[lR,seval,bz]
  refine aN rfl (TF b hb) (fun _=>rfl) ?_
  have he:cQ b 0=((nH b).1,b.drop (nH b).2.1,(nH b).2.2):=by unfold cQ;rw[if_neg (by decide)]
  rw[he]
  generalize hg:nH b=g
  obtain⟨n,u,f⟩:=g
  obtain⟨hu,hz,hn,hp⟩:=SB hg
  simp only[lR,seval,bz]
  refine⟨rfl,ko [0] rfl (PV (!decide (f=0)) f 0) rfl rfl (by simp) rfl ⟨⟨show(0:Nat)<3 by decide,by simp[rho,bxs,V.ren]⟩,trivial⟩ ?_⟩
  intro bx' iH qc
  have g0:bx' 0=[i64 f]:=by
   have:=qc 0 0 _ rfl rfl
   have ef:lS (!decide (f=0)) f 0=f:=by unfold lS;by_cases hf:f=0<;>simp[hf]
   rw[ef] at this
   simpa[V.ren] using this
  have g1:bx' 1=[bv b]:=by rw[iH 1 (by simp)];rfl
  have g2:bx' 2=[KL]:=by rw[iH 2 (by simp)];rfl
  simp only[lR,seval,bz,g1]
  refine afJ kN rfl qP rfl (a:=u) (b:=b.length) rfl rfl hu (ar _) ?_
  rw[cH]
  have m1:bY [bv b]=false:=rfl
  simp only[lR,seval,aK,bz,g1,m1]
  exact pL [(3,i64 n)] rfl rfl (by simp) (by simp) (by simp[FL]) (by simp[BL,ao,g0,g2]) rfl
theorem E5 {P:Program} {G:Gl} {tr:List Nat} {ops:Array Oper} {o:Oper} {r:List Oper} {K:Vl.S→Prop} {d:Option Tmp} {v:V} {w:Bool} {s:Vl.S} (J:Vl.S→Prop) (h:∀ s',J s'→K s') (hb:∀ K':Vl.S→Prop,(∀ s',J s'→K' s')→vgd P G tr ops o r K' d v w s):vgd P G tr ops o r K d v w s:=hb K h
def failW:V:=.clo (.func 27) [] [.bp 1 0]
def nextW:V:=.clo (.func 28) [] [.bp 1 0,.bp 0 0,.bp 2 0]
theorem y8:failW.isMk=false:=rfl
theorem y9:failW.ldv=failW:=rfl
theorem CP:nextW.fz=nextW:=rfl
theorem ve {b:B} {e:Int} {nb:Nat} {fr:Nat→V} {bx:Nat→List V} {K:Vl.S→V→Prop} (hb:b.length≤1000000000) (hn:3≤nb) (h0:bx 0=[bv b]) (h1:bx 1=[i64 e]) (h2:bx 2=[failW])
 (hK:∀ bx':Nat→List V,(∀ j,3≤j→bx' j=bx j)→bx' 0=[bv (cQ b e).2.1]→bx' 1=[i64 (cQ b e).2.2]→bx' 2=[failW]→K ⟨fr,bx',nb⟩ (i64 (cQ b e).1)):vcallB Tryz.prog G ⟨fr,bx,nb⟩ nextW [] K:=by
 refine ko [1,0,2] rfl (aez b e hb) rfl rfl (by decide) rfl ⟨⟨show 1<nb by omega,by simp[rho,h1,V.ren]⟩,⟨show 0<nb by omega,by simp[rho,h0,V.ren]⟩,⟨show 2<nb by omega,by simp[rho,h2,V.ren,KL,failW,V.renP]⟩,trivial⟩ ?_
 intro bx' iH qc
 refine hK bx' (fun j hj=>iH j (by simp;omega)) ?_ ?_ ?_
 ·have:=qc 1 0 _ rfl rfl
  simpa[V.ren] using this
 ·have:=qc 0 1 _ rfl rfl
  simpa[V.ren] using this
 ·have:=qc 2 2 _ rfl rfl
  simpa[V.ren,KL,failW,V.renP,rho] using this
theorem rK {is:Bool} {f e:Int} {nb:Nat} {fr:Nat→V} {bx:Nat→List V} {K:Vl.S→V→Prop} (hn:3≤nb) (h1:bx 1=[i64 e])
 (hK:∀ bx':Nat→List V,(∀ j,j≠1→bx' j=bx j)→bx' 1=[i64 (lS is f e)]→K ⟨fr,bx',nb⟩ (.tup [])):vcallB Tryz.prog G ⟨fr,bx,nb⟩ failW [bo is,i64 f] K:=by
 refine ko [1] rfl (PV is f e) rfl rfl (by decide) rfl ⟨⟨show 1<nb by omega,by simp[rho,h1,V.ren]⟩,trivial⟩ ?_
 intro bx' iH qc
 refine hK bx' (fun j hj=>iH j (by simp[hj])) ?_
 have:=qc 0 1 _ rfl rfl
 simpa[V.ren] using this
theorem za (b:B) (e:Int):(cQ b e).2.1.length≤b.length:=by
 unfold cQ;split
 ·exact ar _
 ·rw[b9];omega
structure Rd where
 b:B
 e:Int
 out:List Fa
def mG (b:B) (e:Int):Fa×B×Int:=
 let x:=cQ b e
 let y:=cQ x.2.1 x.2.2
 let z:=cQ y.2.1 y.2.2
 (⟨x.1,y.1,z.1⟩,z.2.1,z.2.2)
def uv (out:List Fa) (f:Fa):Bool:=match out.getLast? with
 |some g=>decide (wJ g f≥0)
 |none=>false
def qg (s:Rd):Rd:=⟨(mG s.b s.e).2.1,lS (uv s.out (mG s.b s.e).1) 6 (mG s.b s.e).2.2,s.out++[(mG s.b s.e).1]⟩
def kb:Nat→Rd→Rd
 |0,s=>s
 |n+1,s=>if s.e=0 then kb n (qg s) else s
def oo (b:B):Rd:=⟨(cQ b 0).2.1,lS (decide ((cQ b 0).1<0)||decide (65536<(cQ b 0).1)) 6 (cQ b 0).2.2,[]⟩
def sZ (s:Rd):Rd:=⟨s.b,lS (decide (0<s.b.length)) 6 s.e,s.out⟩
def dF (b:B):List Fa×Int:=
 let s:=sZ (kb (cQ b 0).1.toNat (oo b))
 if s.e≠0 then([],s.e) else(s.out,0)
theorem nL (b:B) (hb:b.length≤1000000000):FnOK Tryz.prog G 10 [bv b] (.tup [.c (fsC (dF b).1),i64 (dF b).2]):=by
 refine bR (rs:=[.tmp 2,.tmp 3]) false [53,65,1000014,1000022,1000033,1000035,1000037,1000052,1000061] mixed Tryz.func10 rfl rfl rfl rfl (by kernel_rfl) (by simp) rfl rfl ?_
 simp only[lR,seval,aK,bz]
 refine ve hb (ar 3) rfl rfl rfl ?_
 intro bx1 ho1 x0 x1 x2
 simp only[lR,seval,bz,y8,y9,x2]
 refine E5 (fun s'=>(s'.fr 1=.bp 0 0∧s'.fr 4=.bp 1 0∧s'.fr 5=.bp 2 0∧s'.fr 6=nextW∧s'.fr 7=i64 (cQ b 0).1)∧s'.bx 0=[bv (oo b).b]∧s'.bx 1=[i64 (oo b).e]∧s'.bx 2=[failW]∧s'.nb=3) ?_ ?_
 rotate_left
 ·intro K' hK'
  refine fA (fun h=>?_) (fun h=>?_)
  ·simp only[pkA,seval]
   refine rK (e:=(cQ b 0).2.2) (ar 3) x1 ?_
   intro bx2 Us z1
   simp only[pkA]
   refine hK' _ ⟨⟨rfl,rfl,rfl,rfl,rfl⟩,?_,?_,?_,rfl⟩
   ·show bx2 0=_;rw[Us 0 (by decide),x0];rfl
   ·show bx2 1=_;rw[z1];unfold oo;rw[h];rfl
   ·show bx2 2=_;rw[Us 2 (by decide),x2]
  ·simp only[pkA,seval]
   refine rK (e:=(cQ b 0).2.2) (ar 3) x1 ?_
   intro bx2 Us z1
   simp only[pkA]
   refine hK' _ ⟨⟨rfl,rfl,rfl,rfl,rfl⟩,?_,?_,?_,rfl⟩
   ·show bx2 0=_;rw[Us 0 (by decide),x0];rfl
   ·show bx2 1=_;rw[z1];unfold oo;rw[h];rfl
   ·show bx2 2=_;rw[Us 2 (by decide),x2]
 rintro⟨fr,bx,nb⟩ ⟨⟨f1,f4,f5,f6,f7⟩,y0,y1,y2,yn⟩
 simp only at f1 f4 f5 f6 f7 y0 y1 y2 yn
 subst yn
 simp only[pkA,seval]
 obtain⟨N,hN⟩:∃ N,N=(cQ b 0).1.toNat:=⟨_,rfl⟩
 obtain⟨n,hn⟩:∃ n,n=(cQ b 0).1:=⟨_,rfl⟩
 have vH:dF b=(let s:=sZ (kb N (oo b));if s.e≠0 then([],s.e) else(s.out,0)):=by rw[hN];rfl
 have hb0:(oo b).b.length≤1000000000:=by
  show(cQ b 0).2.1.length≤_
  unfold cQ;rw[if_neg (by decide),b9];omega
 have hNe:N≤65536∨(oo b).e≠0:=by
  by_cases h:65536<n
  ·right
   show lS (decide ((cQ b 0).1<0)||decide (65536<(cQ b 0).1)) 6 (cQ b 0).2.2≠0
   rw[← hn,ey h,jS]
   unfold lS
   by_cases h0:(cQ b 0).2.2=0<;>simp[h0]
  ·left;omega
 rw[← hn] at hN f7
 rw[vH]
 have hs0:(oo b).out=[]:=rfl
 generalize oo b=s0 at *
 refine cx (fun ks:Nat×Rd=>hdS [(1,.bp 0 0),(4,.bp 1 0),(5,.bp 2 0),(6,nextW),(7,i64 n),(8,owF ks.2.out),(9,i64 ks.1)] [[bv ks.2.b],[i64 ks.2.e],[failW]]) (fun ks=>N - ks.1) (fun ks=>ks.1≤N∧kb (N - ks.1) ks.2=kb N s0∧ks.2.out.length=ks.1∧ks.2.b.length≤1000000000∧(N≤65536∨ks.2.e≠0)) (0,s0) ?_ ?_ ?_
 ·exact⟨au _,rfl,by simp[hs0],hb0,hNe⟩
 ·exact cL rfl (au _) (ar 3) (by simp[FL,ao,f1,f4,f5,f6,f7,hs0,owF]) ⟨y0,y1,y2,trivial⟩
 ·rintro⟨k,s⟩ ⟨hk,bH,cn,Ux,hNs⟩ R cE cC dV
  have Ux:s.b.length≤1000000000:=Ux
  have cn:s.out.length=k:=cn
  have hk:k≤N:=hk
  have bH:kb (N - k) s=kb N s0:=bH
  have hNs:N≤65536∨s.e≠0:=hNs
  have afn:∀ (fr:Nat→V) (bx:Nat→List V),fr 1=.bp 0 0→fr 4=.bp 1 0→fr 5=.bp 2 0→fr 8=owF s.out→bx 0=[bv s.b]→bx 1=[i64 s.e]→bx 2=[failW]→kb N s0=s→R (.exit 0) ⟨fr,bx,3⟩:=by
   intro fr bx f1 f4 f5 f8 y0 y1 y2 hfs
   rw[hfs] at cC
   refine cC _ _ ?_
   have lb:∀ K:V→Prop,fw Tryz.prog 27 (bv s.b) K=K (i64 s.b.length):=fun K=>by rw[ff kN rfl];simp[bC]
   simp only[lR,seval,bz,y8,y9,f1,f5,y0,y2,lb]
   refine rK (e:=s.e) (ar 3) y1 ?_
   intro b4 o4 z1
   have hE:(sZ s).e=lS (decide (0<s.b.length)) 6 s.e:=rfl
   have hd:decide ((0:Int)<(s.b.length:Int))=decide (0<s.b.length):=by simp
   rw[hd,← hE] at z1
   have m1:bY [i64 (sZ s).e]=false:=rfl
   simp only[lR,seval,bz,f4,z1,m1]
   refine aS (fun he=>?_) (fun he=>?_)
   ·have he:(sZ s).e≠0:=by simpa using he
    simp only[lR,seval,bz,f4,z1,m1]
    rw[if_pos he]
    exact iZ rfl rfl
   ·have he:(sZ s).e=0:=by simpa using he
    simp only[pkA,seval,lj,f8]
    rw[if_neg (by rw[he];decide)]
    exact iZ rfl rfl
  simp only[pkA,seval,aK]
  refine fA (fun h1=>?_) (fun h1=>?_)
  ·simp only[lR,seval,bz]
   refine aS (fun h2=>?_) (fun h2=>?_)
   ·have h1:k<N:=by simp at h1;omega
    have h2:s.e=0:=by simpa using h2
    simp only[pkA,seval,CP]
    refine ve (b:=s.b) (e:=s.e) Ux (ar 3) rfl rfl rfl ?_
    intro b1 o1 p0 p1 p2
    simp only[pkA,seval,CP]
    have l1:=za s.b s.e
    refine ve (b:=(cQ s.b s.e).2.1) (e:=(cQ s.b s.e).2.2) (by omega) (ar 3) p0 p1 p2 ?_
    intro b2 o2 q0 q1 q2
    simp only[pkA,seval,CP]
    have l2:=za (cQ s.b s.e).2.1 (cQ s.b s.e).2.2
    refine ve (b:=(cQ (cQ s.b s.e).2.1 (cQ s.b s.e).2.2).2.1) (e:=(cQ (cQ s.b s.e).2.1 (cQ s.b s.e).2.2).2.2) (by omega) (ar 3) q0 q1 q2 ?_
    intro b3 o3 t0 t1 t2
    have l3:=za (cQ (cQ s.b s.e).2.1 (cQ s.b s.e).2.2).2.1 (cQ (cQ s.b s.e).2.1 (cQ s.b s.e).2.2).2.2
    obtain⟨g,hg⟩:∃ g:Fa,g=(mG s.b s.e).1:=⟨_,rfl⟩
    have hgk:faC g=[cI (cQ s.b s.e).1,cI (cQ (cQ s.b s.e).2.1 (cQ s.b s.e).2.2).1,cI (cQ (cQ (cQ s.b s.e).2.1 (cQ s.b s.e).2.2).2.1 (cQ (cQ s.b s.e).2.1 (cQ s.b s.e).2.2).2.2).1]:=by rw[hg];rfl
    have hsv:eS [i64 0,i64 0,i64 0] 0 [i64 (cQ s.b s.e).1,i64 (cQ (cQ s.b s.e).2.1 (cQ s.b s.e).2.2).1,i64 (cQ (cQ (cQ s.b s.e).2.1 (cQ s.b s.e).2.2).2.1 (cQ (cQ s.b s.e).2.1 (cQ s.b s.e).2.2).2.2).1]=(faC g).map .c:=by rw[hgk];rfl
    have t0:b3 0=[bv (mG s.b s.e).2.1]:=t0
    have t1:b3 1=[i64 (mG s.b s.e).2.2]:=t1
    have hl3:(mG s.b s.e).2.1.length≤1000000000:=by
     show(cQ _ _).2.1.length≤_
     omega
    simp only[lR,seval,aK,bz,y8,y9,t2,hsv]
    have r5:eS [i64 0,i64 0,i64 0] 0 ((faC g).map .c)=(faC g).map .c:=rfl
    have r6:∀ nb q (K:V→Prop),ldA nb q ((faC g).map .c) 0 3 K=(q<nb∧K (.agg (faC g))):=fun nb q K=>by
     unfold ldA
     exact propext ⟨fun h=>⟨h.1,h.2.2⟩,fun h=>⟨h.1,⟨rfl,rfl⟩,h.2⟩⟩
    have r7:bY ((faC g).map V.c)=false:=rfl
    have r8:lW 3 [(0,V.agg (faC g))] [[C.lit (Value.int IntKind.i64 0),C.lit (Value.int IntKind.i64 0),C.lit (Value.int IntKind.i64 0)]]=some [faC g]:=rfl
    have aqk:N≤65536:=by rcases hNs with h | h;exact h;exact absurd h2 h
    refine E5 (fun s'=>(s'.fr 1=.bp 0 0∧s'.fr 4=.bp 1 0∧s'.fr 5=.bp 2 0∧s'.fr 6=nextW∧s'.fr 7=i64 n∧s'.fr 8=owF s.out∧s'.fr 9=i64 k∧s'.fr 10=.bp 3 0)∧s'.bx 0=[bv (qg s).b]∧s'.bx 1=[i64 (qg s).e]∧s'.bx 2=[failW]∧s'.bx 3=(faC g).map .c∧s'.nb=4) ?_ ?_
    rotate_left
    ·intro K' hK'
     have hS:(qg s).e=lS (uv s.out g) 6 (mG s.b s.e).2.2:=by rw[hg];rfl
     have hB:(qg s).b=(mG s.b s.e).2.1:=rfl
     refine fA (fun h=>?_) (fun h=>?_)
     ·have xg:0<k:=by simpa using h
      have Dc:=cd (n:=(k:Int) - 1) (k:=k - 1) (by omega) (by omega)
      have hko:k - 1<s.out.length:=by omega
      have ix:∀ {K:V→Prop},K (.c (.rp (faC s.out[k - 1]) 0))→dS Tryz.prog 28 (.c (.sl (s.out.map faC))) (i64 (k - 1:Nat)) K:=fun {K} hK=>
       fE eO rfl eV (by decide) (aJ _) (c:=faC s.out[k - 1]) (by simp[hko]) rfl hK
      have bV:uv s.out g=decide (0≤wJ s.out[k - 1] g):=by
       unfold uv
       have:s.out.getLast?=some s.out[k - 1]:=by rw[List.getLast?_eq_getElem?,cn,ab hko]
       rw[this]
      simp only[pkA,seval,wL,Dc]
      refine ix ?_
      simp only[pkA,ptA,pkF,seval,bz,r6,r7]
      refine aN rfl (sr s.out[k - 1] g) (fun _=>rfl) ?_
      simp only[pkA,seval]
      refine rK (e:=(mG s.b s.e).2.2) (show 3≤4 by decide) (by simp[ao,t1]) ?_
      intro bx2 Us z1
      simp only[pkA]
      refine hK' _ ⟨⟨rfl,rfl,rfl,rfl,rfl,rfl,rfl,rfl⟩,?_,?_,?_,?_,rfl⟩
      ·show bx2 0=_;rw[Us 0 (by decide),hB];simp[ao,t0]
      ·show bx2 1=_;rw[z1,hS,bV]
      ·show bx2 2=_;rw[Us 2 (by decide)];simp[ao,t2]
      ·show bx2 3=_;rw[Us 3 (by decide)];simp[]
     ·have h0:s.out=[]:=by
       have:k=0:=by simpa using h
       rw[this] at cn;exact List.length_eq_zero_iff.1 cn
      have bV:uv s.out g=false:=by rw[h0];rfl
      simp only[pkA,seval]
      refine rK (e:=(mG s.b s.e).2.2) (show 3≤4 by decide) (by simp[ao,t1]) ?_
      intro bx2 Us z1
      simp only[pkA]
      refine hK' _ ⟨⟨rfl,rfl,rfl,rfl,rfl,rfl,rfl,rfl⟩,?_,?_,?_,?_,rfl⟩
      ·show bx2 0=_;rw[Us 0 (by decide),hB];simp[ao,t0]
      ·show bx2 1=_;rw[z1,hS,bV]
      ·show bx2 2=_;rw[Us 2 (by decide)];simp[ao,t2]
      ·show bx2 3=_;rw[Us 3 (by decide)];simp[]
    rintro⟨fr,bx,nb⟩ ⟨⟨f1,f4,f5,f6,f7,f8,f9,f10⟩,y0,y1,y2,y3,yn⟩
    simp only at f1 f4 f5 f6 f7 f8 f9 f10 y0 y1 y2 y3 yn
    subst yn
    simp only[lR,seval,bz,lj,f8,f10,y3,r6,r7,r8,fh]
    refine EV (by omega) ?_
    have OK:=cd (n:=(k:Int)+1) (k:=k+1) (by omega) (by omega)
    have ek:((k+1:Nat):Int)=(k:Int)+1:=by omega
    simp only[pkA,seval,lj,OK,f9]
    have anU:kb (N - (k+1)) (qg s)=kb N s0:=by
     rw[← bH,show N - k=(N - (k+1))+1 by omega]
     show _=if s.e=0 then _ else _
     rw[if_pos h2]
    have anV:(qg s).out=s.out++[g]:=by rw[hg];rfl
    refine cE (k+1,qg s) _ ⟨h1,anU,by rw[anV,aj,cn];rfl,hl3,.inl aqk⟩ (by show N - (k+1)<N - k;omega) ?_
    refine cL rfl (au _) (show 3≤4 by decide) (by simp[FL,ao,f1,f4,f5,f6,f7,anV,ek]) ⟨y0,y1,y2,trivial⟩
   ·have h2:¬ s.e=0:=by simpa using h2
    have hfs:kb N s0=s:=by
     rw[← bH]
     cases N - k with
     |zero=>rfl
     |succ m=>show(if s.e=0 then _ else _)=_;rw[if_neg h2]
    simp only[pkA]
    exact afn _ _ (by simp[ao]) (by simp[ao]) (by simp[ao]) (by simp[ao]) rfl rfl rfl hfs
  ·have h1:N≤k:=by simp at h1;omega
   have hfs:kb N s0=s:=by
    rw[← bH,show N - k=0 by omega];rfl
   simp only[pkA,seval]
   exact afn _ _ (by simp[ao]) (by simp[ao]) (by simp[ao]) (by simp[ao]) rfl rfl rfl hfs
