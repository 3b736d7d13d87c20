/- Layer 1: an integer is read. -/
import Derived.Test.YtloppcgcepgbnaaGreatDoorKwVlW2
set_option maxHeartbeats 1500000
set_option linter.all false
namespace Go.Proofs.YtloppcgcepgbnaaGreatDoor.Kw
open Go Go.Vl
variable {G:Gl}
abbrev r3 (r:Int×Nat×Int):V:=.tup [i64 r.1,i64 (r.2.1:Int),i64 r.2.2]
theorem akz {a:Nat} {K:V->Prop} (h:a<72057594037927936):nF .shl .u64 (a:Int) 8 K=K (.c (.lit (.int .u64 ((256*a:Nat):Int)))):=by
 have hm:min ((8:Int)).toNat IntKind.u64.bits=8:=rfl;have e:IntKind.u64.wrap ((a:Int)*2 ^ 8)=((256*a:Nat):Int):=by rw[IntKind.wrap_u64];omega
 have h0:(0:Int)<=8:=by decide
 show((0:Int)<=8/\K (.c (.lit (.int .u64 (IntKind.u64.wrap ((a:Int)*2 ^ (min ((8:Int)).toNat IntKind.u64.bits)))))))=_;rw[hm,e,eq_true h0,iM]
theorem apQ {a:Nat} {c:UInt8} {K:V->Prop} (h:a<72057594037927936):nF .or .u64 ((256*a:Nat):Int) (c.toNat:Int) K=K (.c (.lit (.int .u64 ((256*a+c.toNat:Nat):Int)))):=by
 have hc:=c.toNat_lt;show K (.c (.lit (.int .u64 (bits .or .u64 _ _))))=_;rw[u64_or_nat _ _ (by omega) (by omega)];have:256*a |||c.toNat=256*a+c.toNat:=by rw[show 256*a=a <<<8 by rw[Nat.shiftLeft_eq];omega];exact(Nat.shiftLeft_add_eq_or_of_lt (by omega) a).symm
 rw[this]
theorem kJ {P:Program} {fr:Nat->V} {bx:Nat->List V} {nb:Nat} {d e f:V} {t u v:Tmp} (h1:(fr t).fz=d) (h2:(fr u).fz=e) (h3:(fr v).fz=f):rT P false ⟨fr,bx,nb⟩ (.tup [d,e,f]) [.tmp t,.tmp u,.tmp v]:=by
 refine⟨_,rfl,rfl,λi R x hR hx=>?_⟩
 match i with
 |0=>simp only[bP,ao] at hR hx;subst hR;subst hx;exact h1
 |1=>simp only[cF,bP,ao] at hR hx;subst hR;subst hx;exact h2
 |2=>simp only[cF,bP,ao] at hR hx;subst hR;subst hx;exact h3
 |n+3=>simp at hR
def iS (c:UInt8):UInt8:=if c.toNat<128 then 255 else 0
theorem Z0 (c:UInt8):128<=(c ^^^ iS c).toNat/\(c ^^^ iS c).toNat<256:=by
 have hc:=c.toNat_lt;unfold iS;split
 .rw[HO];omega
 .rw[lT];omega
theorem Z1 {x:UInt8} {K:V->Prop}:jQ Tryz.prog 5 3 (.c (bc x)) K=K (i64 (x.toNat:Nat)):=by have h:=x.toNat_lt;have e:IntKind.i64.wrap ((x.toNat:Nat):Int)=(x.toNat:Int):=br rfl (by omega);simp only[jQ,ry,nH,e]
theorem afp {x:UInt8} {K:V->Prop}:jQ Tryz.prog 5 75 (.c (bc x)) K=K (.c (.lit (.int .u64 (x.toNat:Int)))):=by
 have h:=x.toNat_lt;have e:IntKind.u64.wrap ((x.toNat:Nat):Int)=(x.toNat:Int):=by rw[IntKind.wrap_u64];omega
 simp only[jQ,ry,Qg,e]
def qZ:=jj @pkA @ptA
set_option maxRecDepth 100000 in
theorem Uu (b:B) (hb:b.length<=1000000000):FnOK Tryz.prog G 29 [bv b] (r3 (nZ b)):=by
 refine bJ (rs:=[.tmp 2,.tmp 3,.tmp 4]) false [] mixed Tryz.func29 rfl rfl rfl rfl (by kernel_rfl) (by simp) rfl rfl ?_;simp only[qZ,seval,aJ,sQ];cases b with
 |nil=>
  refine aD (λ_=>?_) (λh=>?_)
  .simp only[pkA,seval]
   refine kJ ?_ ?_ ?_<;>simp only[pkA,seval]<;>rfl
  .simp at h
 |cons c r=>
 refine aD (λh=>?_) (λ_=>?_)
 .exact absurd (bw h) (by rw[aB];omega)
 simp only[pkA,seval];refine CG lE rfl ry rfl (k:=0) rfl rfl ?_;simp only[qZ,seval];refine rY (λs'=>∃ fr,s'=⟨fr,λ_=>[],0⟩/\fr 0=bv (c::r)/\fr 5=.c (bc (iS c))) ?_ ?_
 case refine_2=>
  intro R hR _;refine aD (λh=>?_) (λh=>?_)
  .have h:c.toNat<128:=by have:=bw h;omega
   simp only[pkA,seval];refine hR _ ⟨_,rfl,by simp[aj],?_⟩;unfold iS;rw[if_pos h];rfl
  .have h:¬ c.toNat<128:=by have:=cD h;omega
   simp only[pkA];refine hR _ ⟨_,rfl,by simp[aj],?_⟩;unfold iS;rw[if_neg h];rfl
 rintro _ ⟨fr,rfl,h0,h5⟩;simp only[pkA,seval,h0];refine CG lE rfl ry rfl (k:=0) rfl rfl ?_;obtain⟨EH,U1⟩:=Z0 c;have hk:∃ k,(c ^^^ iS c).toNat=128+k:=⟨(c ^^^ iS c).toNat - 128,by omega⟩;obtain⟨k,hk⟩:=hk;have hgi:nZ (c::r)=if 8<k then(0,0,6) else if r.length<k then(0,0,5) else
  if((r.take k).map (· ^^^ iS c)).head?=some 0 then(0,0,6) else if 9223372036854775808<=val ((r.take k).map (· ^^^ iS c)) then(0,0,6) else
  (if c.toNat<128 then -1 - (val ((r.take k).map (· ^^^ iS c)):Int) else val ((r.take k).map (· ^^^ iS c)),k+1,0):=by
  have e:(c ^^^ iS c).toNat - 128=k:=by omega
  rw[<- e];rfl
 rw[hgi];have xu:=br (n:=((128+k:Nat):Int) - 128) (k:=k) (by omega) (by omega);simp only[qZ,seval,h5,Ky,Z1,hk,xu];refine aD (λh8=>?_) (λh8=>?_)
 .have h8:8<k:=by have:=bw h8;omega
  rw[if_pos h8];simp only[pkA,seval];refine kJ ?_ ?_ ?_<;>simp only[pkA,seval]<;>rfl
 have h8:¬ 8<k:=by have:=cD h8;omega
 rw[if_neg h8];simp only[qZ,seval,h0,sQ];refine aD (λhl=>?_) (λhl=>?_)
 .have hl:r.length<k:=by have:=bw hl;omega
  rw[if_pos hl];simp only[pkA,seval];refine kJ ?_ ?_ ?_<;>simp only[pkA,seval]<;>rfl
 have hl:¬ r.length<k:=by have:=cD hl;omega
 rw[if_neg hl];simp only[pkA,seval];refine XX (λs'=>∃ fr,s'=⟨fr,λ_=>[],0⟩/\((r.take k).map (· ^^^ iS c)).head?≠some 0/\fr 0=bv (c::r)/\fr 5=.c (bc (iS c))/\fr 6=i64 (k:Nat)) ?_ ?_
 case refine_2=>
  intro R hR hR';refine fy (λhp=>?_) (λhz=>?_)
  .have hp:0<k:=by have:=bw hp;omega
   obtain⟨x,hx⟩:∃ x,r[0]?=some x:=⟨r[0]'(by omega),ah _⟩;have hhd:((r.take k).map (· ^^^ iS c)).head?=some (x ^^^ iS c):=(by rw[List.head?_map,List.head?_take,if_neg (by omega),List.head?_eq_getElem?,hx];rfl);rw[hhd] at hR hR';simp only[pkA,seval,h0];refine CG lE rfl ry rfl (k:=1) rfl (show(c::r)[1]?=some x from hx) ?_;simp only[qZ,seval,h5,Ky];refine aD (λhe=>?_) (λhe=>?_)
   .have he:(x ^^^ iS c)=0:=jO.1 (by have:=bw he;show(x ^^^ iS c).toNat=0;omega)
    simp only[pkA,seval];refine hR' _ _ (by simp) ?_;rw[if_pos (by rw[he])];simp only[pkA];refine kJ ?_ ?_ ?_<;>simp only[pkA,seval]<;>rfl
   .have he:(x ^^^ iS c)≠0:=λh=>by have:=cD he;rw[h] at this;exact this rfl
    simp only[pkA];exact hR _ ⟨_,rfl,λh=>he (eH h),by simp[aj,h0],by simp[aj,h5],by simp[aj]⟩
  .have hz:k=0:=by have:decide (0<(k:Int))=false:=(by simpa using hz);have:=cD this;omega
   subst hz;simp only[pkA,seval];exact hR _ ⟨_,rfl,by simp,by simp[aj,h0],by simp[aj,h5],by simp[aj]⟩
 rintro _ ⟨fr,rfl,hhd,h0,h5,h6⟩;rw[if_neg hhd];have MN:=br (n:=(k:Int)+1) (k:=k+1) (by omega) (by omega);simp only[pkA,seval,h0,h6,MN];refine agj lE rfl ry rfl (a:=1) (b:=k+1) rfl rfl (by omega) (by rw[aB];omega) ?_;have QV:((c::r).take (k+1)).drop 1=r.take k:=by rw[fS,jh,cx]
 rw[QV];generalize hd:r.take k=d at *;have hdl:d.length=k:=by rw[<- hd,aQ];omega
 have AZ:∀ j,j<=7->val ((d.take j).map (· ^^^ iS c))<72057594037927936:=λj hj=>by have h1:=Oc ((d.take j).map (· ^^^ iS c));have h2:256 ^ ((d.take j).map (· ^^^ iS c)).length<=256 ^ 7:=Nat.pow_le_pow_right (by decide) (by simp only[au,aQ];omega);omega
 simp only[qZ,seval,sQ,hdl];refine bz (λj:Nat=>hdS [(0,bv (c::r)),(5,.c (bc (iS c))),(6,i64 (k:Nat)),(7,.c (.lit (.int .u64 (val ((d.take j).map (· ^^^ iS c)):Int)))),(46,bv d),(47,i64 (k:Nat)),(48,i64 (j:Nat))] []) (λj=>k - j) (λj=>j<=k) 0 (ar _) ?_ ?_
 .refine cg rfl (ar _) (by simp) (by simp[FL,aj,h0,h5,h6,ac9]) trivial
 rintro j hj R bL bQ dq;simp only[pkA,seval];refine aD (λhp=>?_) (λhz=>?_)
 .have hp:j<k:=by have:=bw hp;omega
  obtain⟨x,hx⟩:∃ x,d[j]?=some x:=⟨d[j]'(by omega),ah _⟩;have hv:=AZ j (by omega);have xu:=br (n:=(j:Int)+1) (k:=j+1) (by omega) (by omega);have hsn:val ((d.take (j+1)).map (· ^^^ iS c))=256*val ((d.take j).map (· ^^^ iS c))+(x ^^^ iS c).toNat:=by rw[pN hx,dh];exact rX _ _
  simp only[pkA,seval];refine CG lE rfl ry rfl rfl hx ?_;simp only[qZ,seval,akz hv,Ky,afp,apQ hv,xu];refine bL (j+1) _ hp (by omega) (cg rfl (ar _) (by simp) ?_ trivial);rw[hsn];simp[FL,aj]
 have hz:j=k:=by have:=dge hz;omega
 subst hz;simp only[pkA];refine bQ _ _ ?_;rw[fh (by omega)];have hv8:val (d.map (· ^^^ iS c))<18446744073709551616:=by have h1:=Oc (d.map (· ^^^ iS c));have h2:256 ^ (d.map (· ^^^ iS c)).length<=256 ^ 8:=Nat.pow_le_pow_right (by decide) (by simp only[au];omega);omega
 clear bQ bL dq AZ hgi hhd R hj hk EH U1;generalize val (d.map (· ^^^ iS c))=m at *;have hsh:∀ K,nF .shr .u64 (m:Int) 63 K=K (.c (.lit (.int .u64 ((m / 9223372036854775808:Nat):Int)))):=λK=>XY (n:=63) (by decide);simp only[pkA,seval,hsh];refine aD (λhb=>?_) (λhs=>?_)
 .have hb:9223372036854775808<=m:=by have:=bw hb;omega
  rw[if_pos hb];simp only[pkA,seval];refine kJ ?_ ?_ ?_<;>simp only[pkA,seval]<;>rfl
 have hs:¬ 9223372036854775808<=m:=by have:=cD hs;omega
 rw[if_neg hs];simp only[pkA,seval];refine rY (λs'=>∃ fr,s'=⟨fr,λ_=>[],0⟩/\fr 6=i64 (j:Nat)/\fr 7=.c (.lit (.int .u64 ((if c.toNat<128 then 18446744073709551615 - m else m:Nat):Int)))) ?_ ?_
 case refine_2=>
  intro R hR _;have lG:(0:Int)<(iS c).toNat↔c.toNat<128:=by unfold iS;split<;>simp_all
  refine aD (λh=>?_) (λh=>?_)
  .have h:=lG.1 (bw h)
   simp only[pkA,seval,agk hv8];exact hR _ ⟨_,rfl,by simp[aj],by simp[h]⟩
  .have h:¬ c.toNat<128:=λq=>cD h (lG.2 q)
   simp only[pkA];exact hR _ ⟨_,rfl,by simp[aj],by simp[aj,h]⟩
 rintro _ ⟨fr,rfl,h6,h7⟩;have xu:=br (n:=(j:Int)+1) (k:=j+1) (by omega) (by omega);have D8:∀ (x:Nat) K,jQ Tryz.prog 75 3 (.c (.lit (.int .u64 (x:Int)))) K=K (i64 (IntKind.i64.wrap (x:Int))):=λx K=>by simp only[jQ,Qg,nH]
 have hwm:IntKind.i64.wrap ((if c.toNat<128 then 18446744073709551615 - m else m:Nat):Int)=if c.toNat<128 then -1 - (m:Int) else(m:Int):=by rw[kz];split<;>omega
 simp only[pkA,seval,h6,h7,D8,xu,hwm];refine kJ ?_ ?_ ?_<;>simp only[pkA,seval]<;>rfl
end Go.Proofs.YtloppcgcepgbnaaGreatDoor.Kw
namespace Go.Proofs.YtloppcgcepgbnaaGreatDoor
open Go Go.Vl Go.Proofs.YtloppcgcepgbnaaGreatDoor.Kw
variable {G:Gl}
set_option maxRecDepth 100000
def mh (is:Bool) (f e:Int):Int:=if(is&&decide (e=0))=true then f else e
theorem QD (is:Bool) (f e:Int):FnB Tryz.prog G 27 [bo is,i64 f,.bp 0 0] [[i64 e]] (.tup []) [[i64 (mh is f e)]]:=by
 refine jL (rs:=[]) (k:=1) [3000001] mixed Tryz.func27 rfl rfl rfl rfl (by kernel_rfl) (by simp) rfl rfl rfl rfl (by simp) ?_;simp only[pkA,seval,aJ];refine fy (λh=>?_) (λh=>?_)
 .simp only[qZ,seval,cy]
  refine aD (λh2=>?_) (λh2=>?_)
  .simp only[qZ,seval,aJ,cy]
   have he:mh is f e=f:=(by unfold mh;rw[if_pos (by simp_all)]);rw[he];exact nO [] rfl rfl (by simp) (by simp) trivial (by simp[BL]) nW
  .simp only[pkA]
   have he:mh is f e=e:=(by unfold mh;rw[if_neg (by simp_all)]);rw[he];exact nO [] rfl rfl (by simp) (by simp) trivial (by simp[BL,bxs]) nW
 .simp only[pkA,seval]
  have he:mh is f e=e:=by unfold mh;rw[if_neg (by simp_all)]
  rw[he];exact nO [] rfl rfl (by simp) (by simp) trivial (by simp[BL,bxs]) nW
def cY (b:B) (e:Int):Int×B×Int:=if e≠0 then(0,b,e) else((nZ b).1,b.drop (nZ b).2.1,(nZ b).2.2)
def Lx:V:=.clo (.func 27) [] [.bp 0 0]
theorem afq (b:B) (e:Int) (hb:b.length<=1000000000):FnB Tryz.prog G 28 [.bp 0 0,.bp 1 0,.bp 2 0] [[i64 e],[bv b],[Lx]] (i64 (cY b e).1) [[i64 (cY b e).2.2],[bv (cY b e).2.1],[Lx]]:=by
 refine jL (rs:=[.tmp 3]) (k:=3) [3000003,1000019] mixed Tryz.func28 rfl rfl rfl rfl (by kernel_rfl) (by simp) rfl rfl rfl rfl (by simp) ?_;simp only[qZ,seval,aJ,cy];refine aD (λh=>?_) (λh=>?_)
 .simp only[pkA,seval]
  have he:cY b e=(0,b,e):=by unfold cY;rw[if_pos (by simpa using h)]
  rw[he];exact nO [(3,i64 0)] rfl rfl (by simp) (by simp) (by simp[FL]) (by simp[BL,bxs]) rfl
 .have h:e=0:=by simpa using h
  subst h;simp only[qZ,seval,cy];refine aC rfl (Uu b hb) (λ_=>rfl) ?_;have he:cY b 0=((nZ b).1,b.drop (nZ b).2.1,(nZ b).2.2):=by unfold cY;rw[if_neg (by decide)]
  rw[he];generalize hg:nZ b=g;obtain⟨n,u,f⟩:=g;obtain⟨hu,hz,hn,hp⟩:=TA hg;simp only[qZ,seval,cy];refine⟨rfl,jM [0] rfl (QD (!decide (f=0)) f 0) rfl rfl (by simp) rfl ⟨⟨show(0:Nat)<3 by decide,by simp[rho,bxs,V.ren]⟩,trivial⟩ ?_⟩;intro bx' iE oW;have g0:bx' 0=[i64 f]:=by have:=oW 0 0 _ rfl rfl;have ef:mh (!decide (f=0)) f 0=f:=(by unfold mh;by_cases hf:f=0<;>simp[hf]);rw[ef] at this;simpa[V.ren] using this
  have g1:bx' 1=[bv b]:=by rw[iE 1 (by simp)];rfl
  have g2:bx' 2=[Lx]:=by rw[iE 2 (by simp)];rfl
  simp only[qZ,seval,cy,g1];refine agj lE rfl ry rfl (a:=u) (b:=b.length) rfl rfl hu (ab _) ?_;rw[bW];have m1:ck [bv b]=false:=rfl;simp only[qZ,seval,aJ,cy,g1,m1];exact nO [(3,i64 n)] rfl rfl (by simp) (by simp) (by simp[FL]) (by simp[BL,aj,g0,g2]) rfl
