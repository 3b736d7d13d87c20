/- Layer 1: an integer is read. -/
import Derived.Test.YtloppcgcepgbnaaGreatDoorKwVlW2
set_option maxHeartbeats 1500000
set_option linter.all false
namespace Go.Proofs.YtloppcgcepgbnaaGreatDoor.Kw
open Go Go.Vl
variable {G:Gl}
abbrev r3 (r:Int×Nat×Int):V:=.tup [i64 r.1,i64 (r.2.1:Int),i64 r.2.2]
theorem ahW {a:Nat} {K:V->Prop} (h:a<72057594037927936):nD .shl .u64 (a:Int) 8 K=K (.c (.lit (.int .u64 ((256*a:Nat):Int)))):=by
 have hm:min ((8:Int)).toNat IntKind.u64.bits=8:=rfl;have e:IntKind.u64.wrap ((a:Int)*2 ^ 8)=((256*a:Nat):Int):=by rw[IntKind.wrap_u64];omega
 have h0:(0:Int)<=8:=by decide
 show((0:Int)<=8/\K (.c (.lit (.int .u64 (IntKind.u64.wrap ((a:Int)*2 ^ (min ((8:Int)).toNat IntKind.u64.bits)))))))=_;rw[hm,e,eq_true h0,iM]
theorem amQ {a:Nat} {c:UInt8} {K:V->Prop} (h:a<72057594037927936):nD .or .u64 ((256*a:Nat):Int) (c.toNat:Int) K=K (.c (.lit (.int .u64 ((256*a+c.toNat:Nat):Int)))):=by
 have hc:=c.toNat_lt;show K (.c (.lit (.int .u64 (bits .or .u64 _ _))))=_;rw[u64_or_nat _ _ (by omega) (by omega)];have:256*a |||c.toNat=256*a+c.toNat:=by rw[show 256*a=a <<<8 by rw[Nat.shiftLeft_eq];omega];exact(Nat.shiftLeft_add_eq_or_of_lt (by omega) a).symm
 rw[this]
theorem fW {P:Program} {fr:Nat->V} {bx:Nat->List V} {nb:Nat} {d e f:V} {t u v:Tmp} (h1:(fr t).fz=d) (h2:(fr u).fz=e) (h3:(fr v).fz=f):rE P false ⟨fr,bx,nb⟩ (.tup [d,e,f]) [.tmp t,.tmp u,.tmp v]:=by
 refine⟨_,rfl,rfl,λi R x hR hx=>?_⟩
 match i with
 |0=>simp only[bQ,ao] at hR hx;subst hR;subst hx;exact h1
 |1=>simp only[cB,bQ,ao] at hR hx;subst hR;subst hx;exact h2
 |2=>simp only[cB,bQ,ao] at hR hx;subst hR;subst hx;exact h3
 |n+3=>simp at hR
def ft (c:UInt8):UInt8:=if c.toNat<128 then 255 else 0
theorem K9 (c:UInt8):128<=(c ^^^ ft c).toNat/\(c ^^^ ft c).toNat<256:=by
 have hc:=c.toNat_lt;unfold ft;split
 .rw[xW];omega
 .rw[jB];omega
theorem Dw {x:UInt8} {K:V->Prop}:jR Tryz.prog 5 3 (.c (bc x)) K=K (i64 (x.toNat:Nat)):=by have h:=x.toNat_lt;have e:IntKind.i64.wrap ((x.toNat:Nat):Int)=(x.toNat:Int):=bn rfl (by omega);simp only[jR,pw,mo,e]
theorem adj {x:UInt8} {K:V->Prop}:jR Tryz.prog 5 75 (.c (bc x)) K=K (.c (.lit (.int .u64 (x.toNat:Int)))):=by
 have h:=x.toNat_lt;have e:IntKind.u64.wrap ((x.toNat:Nat):Int)=(x.toNat:Int):=by rw[IntKind.wrap_u64];omega
 simp only[jR,pw,PL,e]
def qP:=jj @pkA @ptA
set_option maxRecDepth 100000 in
theorem TK (b:B) (hb:b.length<=1000000000):FnOK Tryz.prog G 29 [bv b] (r3 (kB b)):=by
 refine bI (rs:=[.tmp 2,.tmp 3,.tmp 4]) false [] mixed Tryz.func29 rfl rfl rfl rfl (by kernel_rfl) (by simp) rfl rfl ?_;simp only[qP,seval,aF,pV];cases b with
 |nil=>
  refine aD (λ_=>?_) (λh=>?_)
  .simp only[pkA,seval]
   refine fW ?_ ?_ ?_<;>simp only[pkA,seval]<;>rfl
  .simp at h
 |cons c r=>
 refine aD (λh=>?_) (λ_=>?_)
 .exact absurd (a8 h) (by rw[aC];omega)
 simp only[pkA,seval];refine xT kU rfl pw rfl (k:=0) rfl rfl ?_;simp only[qP,seval];refine mV (λs'=>∃ fr,s'=⟨fr,λ_=>[],0⟩/\fr 0=bv (c::r)/\fr 5=.c (bc (ft c))) ?_ ?_
 case refine_2=>
  intro R hR _;refine aD (λh=>?_) (λh=>?_)
  .have h:c.toNat<128:=by have:=a8 h;omega
   simp only[pkA,seval];refine hR _ ⟨_,rfl,by simp[ah],?_⟩;unfold ft;rw[if_pos h];rfl
  .have h:¬ c.toNat<128:=by have:=bK h;omega
   simp only[pkA];refine hR _ ⟨_,rfl,by simp[ah],?_⟩;unfold ft;rw[if_neg h];rfl
 rintro _ ⟨fr,rfl,h0,h5⟩;simp only[pkA,seval,h0];refine xT kU rfl pw rfl (k:=0) rfl rfl ?_;obtain⟨EF,Ur⟩:=K9 c;have hk:∃ k,(c ^^^ ft c).toNat=128+k:=⟨(c ^^^ ft c).toNat - 128,by omega⟩;obtain⟨k,hk⟩:=hk;have hgi:kB (c::r)=if 8<k then(0,0,6) else if r.length<k then(0,0,5) else
  if((r.take k).map (· ^^^ ft c)).head?=some 0 then(0,0,6) else if 9223372036854775808<=val ((r.take k).map (· ^^^ ft c)) then(0,0,6) else
  (if c.toNat<128 then -1 - (val ((r.take k).map (· ^^^ ft c)):Int) else val ((r.take k).map (· ^^^ ft c)),k+1,0):=by
  have e:(c ^^^ ft c).toNat - 128=k:=by omega
  rw[<- e];rfl
 rw[hgi];have xi:=bn (n:=((128+k:Nat):Int) - 128) (k:=k) (by omega) (by omega);simp only[qP,seval,h5,J2,Dw,hk,xi];refine aD (λh8=>?_) (λh8=>?_)
 .have h8:8<k:=by have:=a8 h8;omega
  rw[if_pos h8];simp only[pkA,seval];refine fW ?_ ?_ ?_<;>simp only[pkA,seval]<;>rfl
 have h8:¬ 8<k:=by have:=bK h8;omega
 rw[if_neg h8];simp only[qP,seval,h0,pV];refine aD (λhl=>?_) (λhl=>?_)
 .have hl:r.length<k:=by have:=a8 hl;omega
  rw[if_pos hl];simp only[pkA,seval];refine fW ?_ ?_ ?_<;>simp only[pkA,seval]<;>rfl
 have hl:¬ r.length<k:=by have:=bK hl;omega
 rw[if_neg hl];simp only[pkA,seval];refine W5 (λs'=>∃ fr,s'=⟨fr,λ_=>[],0⟩/\((r.take k).map (· ^^^ ft c)).head?≠some 0/\fr 0=bv (c::r)/\fr 5=.c (bc (ft c))/\fr 6=i64 (k:Nat)) ?_ ?_
 case refine_2=>
  intro R hR hR';refine eT (λhp=>?_) (λhz=>?_)
  .have hp:0<k:=by have:=a8 hp;omega
   obtain⟨x,hx⟩:∃ x,r[0]?=some x:=⟨r[0]'(by omega),ai _⟩;have hhd:((r.take k).map (· ^^^ ft c)).head?=some (x ^^^ ft c):=(by rw[List.head?_map,List.head?_take,if_neg (by omega),List.head?_eq_getElem?,hx];rfl);rw[hhd] at hR hR';simp only[pkA,seval,h0];refine xT kU rfl pw rfl (k:=1) rfl (show(c::r)[1]?=some x from hx) ?_;simp only[qP,seval,h5,J2];refine aD (λhe=>?_) (λhe=>?_)
   .have he:(x ^^^ ft c)=0:=iY.1 (by have:=a8 he;show(x ^^^ ft c).toNat=0;omega)
    simp only[pkA,seval];refine hR' _ _ (by simp) ?_;rw[if_pos (by rw[he])];simp only[pkA];refine fW ?_ ?_ ?_<;>simp only[pkA,seval]<;>rfl
   .have he:(x ^^^ ft c)≠0:=λh=>by have:=bK he;rw[h] at this;exact this rfl
    simp only[pkA];exact hR _ ⟨_,rfl,λh=>he (eI h),by simp[ah,h0],by simp[ah,h5],by simp[ah]⟩
  .have hz:k=0:=by have:decide (0<(k:Int))=false:=(by simpa using hz);have:=bK this;omega
   subst hz;simp only[pkA,seval];exact hR _ ⟨_,rfl,by simp,by simp[ah,h0],by simp[ah,h5],by simp[ah]⟩
 rintro _ ⟨fr,rfl,hhd,h0,h5,h6⟩;rw[if_neg hhd];have Iy:=bn (n:=(k:Int)+1) (k:=k+1) (by omega) (by omega);simp only[pkA,seval,h0,h6,Iy];refine PG kU rfl pw rfl (a:=1) (b:=k+1) rfl rfl (by omega) (by rw[aC];omega) ?_;have Qn:((c::r).take (k+1)).drop 1=r.take k:=by rw[eZ,gU,ct]
 rw[Qn];generalize hd:r.take k=d at *;have hdl:d.length=k:=by rw[<- hd,aN];omega
 have AY:∀ j,j<=7->val ((d.take j).map (· ^^^ ft c))<72057594037927936:=λj hj=>by have h1:=NM ((d.take j).map (· ^^^ ft c));have h2:256 ^ ((d.take j).map (· ^^^ ft c)).length<=256 ^ 7:=Nat.pow_le_pow_right (by decide) (by simp only[au,aN];omega);omega
 simp only[qP,seval,pV,hdl];refine bw (λj:Nat=>hdS [(0,bv (c::r)),(5,.c (bc (ft c))),(6,i64 (k:Nat)),(7,.c (.lit (.int .u64 (val ((d.take j).map (· ^^^ ft c)):Int)))),(46,bv d),(47,i64 (k:Nat)),(48,i64 (j:Nat))] []) (λj=>k - j) (λj=>j<=k) 0 (ar _) ?_ ?_
 .refine cm rfl (ar _) (by simp) (by simp[FL,ah,h0,h5,h6,HE]) trivial
 rintro j hj R bL bO c8;simp only[pkA,seval];refine aD (λhp=>?_) (λhz=>?_)
 .have hp:j<k:=by have:=a8 hp;omega
  obtain⟨x,hx⟩:∃ x,d[j]?=some x:=⟨d[j]'(by omega),ai _⟩;have hv:=AY j (by omega);have xi:=bn (n:=(j:Int)+1) (k:=j+1) (by omega) (by omega);have hsn:val ((d.take (j+1)).map (· ^^^ ft c))=256*val ((d.take j).map (· ^^^ ft c))+(x ^^^ ft c).toNat:=by rw[nT hx,db];exact ov _ _
  simp only[pkA,seval];refine xT kU rfl pw rfl rfl hx ?_;simp only[qP,seval,ahW hv,J2,adj,amQ hv,xi];refine bL (j+1) _ hp (by omega) (cm rfl (ar _) (by simp) ?_ trivial);rw[hsn];simp[FL,ah]
 have hz:j=k:=by have:=dge hz;omega
 subst hz;simp only[pkA];refine bO _ _ ?_;rw[dY (by omega)];have hv8:val (d.map (· ^^^ ft c))<18446744073709551616:=by have h1:=NM (d.map (· ^^^ ft c));have h2:256 ^ (d.map (· ^^^ ft c)).length<=256 ^ 8:=Nat.pow_le_pow_right (by decide) (by simp only[au];omega);omega
 clear bO bL c8 AY hgi hhd R hj hk EF Ur;generalize val (d.map (· ^^^ ft c))=m at *;have hsh:∀ K,nD .shr .u64 (m:Int) 63 K=K (.c (.lit (.int .u64 ((m / 9223372036854775808:Nat):Int)))):=λK=>W6 (n:=63) (by decide);simp only[pkA,seval,hsh];refine aD (λhb=>?_) (λhs=>?_)
 .have hb:9223372036854775808<=m:=by have:=a8 hb;omega
  rw[if_pos hb];simp only[pkA,seval];refine fW ?_ ?_ ?_<;>simp only[pkA,seval]<;>rfl
 have hs:¬ 9223372036854775808<=m:=by have:=bK hs;omega
 rw[if_neg hs];simp only[pkA,seval];refine mV (λs'=>∃ fr,s'=⟨fr,λ_=>[],0⟩/\fr 6=i64 (j:Nat)/\fr 7=.c (.lit (.int .u64 ((if c.toNat<128 then 18446744073709551615 - m else m:Nat):Int)))) ?_ ?_
 case refine_2=>
  intro R hR _;have lu:(0:Int)<(ft c).toNat↔c.toNat<128:=by unfold ft;split<;>simp_all
  refine aD (λh=>?_) (λh=>?_)
  .have h:=lu.1 (a8 h)
   simp only[pkA,seval,aef hv8];exact hR _ ⟨_,rfl,by simp[ah],by simp[h]⟩
  .have h:¬ c.toNat<128:=λq=>bK h (lu.2 q)
   simp only[pkA];exact hR _ ⟨_,rfl,by simp[ah],by simp[ah,h]⟩
 rintro _ ⟨fr,rfl,h6,h7⟩;have xi:=bn (n:=(j:Int)+1) (k:=j+1) (by omega) (by omega);have D8:∀ (x:Nat) K,jR Tryz.prog 75 3 (.c (.lit (.int .u64 (x:Int)))) K=K (i64 (IntKind.i64.wrap (x:Int))):=λx K=>by simp only[jR,PL,mo]
 have hwm:IntKind.i64.wrap ((if c.toNat<128 then 18446744073709551615 - m else m:Nat):Int)=if c.toNat<128 then -1 - (m:Int) else(m:Int):=by rw[js];split<;>omega
 simp only[pkA,seval,h6,h7,D8,xi,hwm];refine fW ?_ ?_ ?_<;>simp only[pkA,seval]<;>rfl
end Go.Proofs.YtloppcgcepgbnaaGreatDoor.Kw
namespace Go.Proofs.YtloppcgcepgbnaaGreatDoor
open Go Go.Vl Go.Proofs.YtloppcgcepgbnaaGreatDoor.Kw
variable {G:Gl}
set_option maxRecDepth 100000
def jA (is:Bool) (f e:Int):Int:=if(is&&decide (e=0))=true then f else e
theorem P8 (is:Bool) (f e:Int):FnB Tryz.prog G 27 [bo is,i64 f,.bp 0 0] [[i64 e]] (.tup []) [[i64 (jA is f e)]]:=by
 refine jM (rs:=[]) (k:=1) [3000001] mixed Tryz.func27 rfl rfl rfl rfl (by kernel_rfl) (by simp) rfl rfl rfl rfl (by simp) ?_;simp only[pkA,seval,aF];refine eT (λh=>?_) (λh=>?_)
 .simp only[qP,seval,bW]
  refine aD (λh2=>?_) (λh2=>?_)
  .simp only[qP,seval,aF,bW]
   have he:jA is f e=f:=(by unfold jA;rw[if_pos (by simp_all)]);rw[he];exact nK [] rfl rfl (by simp) (by simp) trivial (by simp[BL]) nQ
  .simp only[pkA]
   have he:jA is f e=e:=(by unfold jA;rw[if_neg (by simp_all)]);rw[he];exact nK [] rfl rfl (by simp) (by simp) trivial (by simp[BL,bxs]) nQ
 .simp only[pkA,seval]
  have he:jA is f e=e:=by unfold jA;rw[if_neg (by simp_all)]
  rw[he];exact nK [] rfl rfl (by simp) (by simp) trivial (by simp[BL,bxs]) nQ
def cE (b:B) (e:Int):Int×B×Int:=if e≠0 then(0,b,e) else((kB b).1,b.drop (kB b).2.1,(kB b).2.2)
def La:V:=.clo (.func 27) [] [.bp 0 0]
theorem adk (b:B) (e:Int) (hb:b.length<=1000000000):FnB Tryz.prog G 28 [.bp 0 0,.bp 1 0,.bp 2 0] [[i64 e],[bv b],[La]] (i64 (cE b e).1) [[i64 (cE b e).2.2],[bv (cE b e).2.1],[La]]:=by
 refine jM (rs:=[.tmp 3]) (k:=3) [3000003,1000019] mixed Tryz.func28 rfl rfl rfl rfl (by kernel_rfl) (by simp) rfl rfl rfl rfl (by simp) ?_;simp only[qP,seval,aF,bW];refine aD (λh=>?_) (λh=>?_)
 .simp only[pkA,seval]
  have he:cE b e=(0,b,e):=by unfold cE;rw[if_pos (by simpa using h)]
  rw[he];exact nK [(3,i64 0)] rfl rfl (by simp) (by simp) (by simp[FL]) (by simp[BL,bxs]) rfl
 .have h:e=0:=by simpa using h
  subst h;simp only[qP,seval,bW];refine az rfl (TK b hb) (λ_=>rfl) ?_;have he:cE b 0=((kB b).1,b.drop (kB b).2.1,(kB b).2.2):=by unfold cE;rw[if_neg (by decide)]
  rw[he];generalize hg:kB b=g;obtain⟨n,u,f⟩:=g;obtain⟨hu,hz,hn,hp⟩:=y9 hg;simp only[qP,seval,bW];refine⟨rfl,jN [0] rfl (P8 (!decide (f=0)) f 0) rfl rfl (by simp) rfl ⟨⟨show(0:Nat)<3 by decide,by simp[rho,bxs,V.ren]⟩,trivial⟩ ?_⟩;intro bx' iE oa;have g0:bx' 0=[i64 f]:=by have:=oa 0 0 _ rfl rfl;have ef:jA (!decide (f=0)) f 0=f:=(by unfold jA;by_cases hf:f=0<;>simp[hf]);rw[ef] at this;simpa[V.ren] using this
  have g1:bx' 1=[bv b]:=by rw[iE 1 (by simp)];rfl
  have g2:bx' 2=[La]:=by rw[iE 2 (by simp)];rfl
  simp only[qP,seval,bW,g1];refine PG kU rfl pw rfl (a:=u) (b:=b.length) rfl rfl hu (ab _) ?_;rw[bZ];have m1:cL [bv b]=false:=rfl;simp only[qP,seval,aF,bW,g1,m1];exact nK [(3,i64 n)] rfl rfl (by simp) (by simp) (by simp[FL]) (by simp[BL,ah,g0,g2]) rfl
