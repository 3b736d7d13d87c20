/- The specification's layer 1: an integer's encoding; equal bytes. -/
import Derived.Test.YtloppcgcepgbnaaGreatDoorKwVlW5
set_option maxHeartbeats 4000000
set_option linter.all false
namespace Go.Proofs.YtloppcgcepgbnaaGreatDoor.Kw
open Go Go.Vl
variable {G:Gl}
theorem FU:∀ (f m:Nat),m<256 ^ f->oU (f+1) m=oU f m
 |0,m,h=>by
  have:m=0:=by simpa using h
  subst this;rfl
 |f+1,m,h=>by
  rw[oU]
  conv=>rhs;rw[oU]
  split
  .rfl
  .rw[FU f (m / 256) (by rw[lY] at h;omega)]
theorem TU {m:Nat} (h0:0<m) (h:m<18446744073709551616):mf m=mf (m / 256)++[UInt8.ofNat m]:=by
 have e:mf m=if m=0 then[] else oU 7 (m / 256)++[UInt8.ofNat m]:=rfl
 rw[e,if_neg (by omega)];unfold mf;rw[FU 7 (m / 256) (by omega)]
theorem ah0 {n:Nat} {K:V->Prop}:jR Tryz.prog 3 5 (i64 (n:Int)) K=K (.c (bc (UInt8.ofNat n))):=HG mo pw rfl
theorem TV (m:Nat):UInt8.ofNat (m % 256)=UInt8.ofNat m:=by apply iY.1;rw[fp,fp];omega
theorem akQ {m:Nat} {K:V->Prop}:nD .rem .i64 (m:Int) 256 K=K (i64 ((m % 256:Nat):Int)):=by
 have e:(m:Int).tmod 256=((m % 256:Nat):Int):=by rw[Int.tmod_eq_emod_of_nonneg (ay m)];rfl
 show((256:Int)≠0/\K (.c (.lit (.int .i64 ((m:Int).tmod 256)))))=_;rw[e];have:((256:Int)≠0)=True:=by simp
 rw[this,iM]
theorem akR {m:Nat} (h:m<9223372036854775808) {K:V->Prop}:nD .quo .i64 (m:Int) 256 K=K (i64 ((m / 256:Nat):Int)):=by
 have e:IntKind.i64.wrap ((m:Int).tdiv 256)=((m / 256:Nat):Int):=by rw[Int.tdiv_eq_ediv_of_nonneg (ay m)];exact bn (by rfl) (by omega)
 show((256:Int)≠0/\K (.c (.lit (.int .i64 (IntKind.i64.wrap ((m:Int).tdiv 256))))))=_;rw[e];have:((256:Int)≠0)=True:=by simp
 rw[this,iM]
theorem akS {x:UInt8}:IntKind.u8.wrap (255 - (x.toNat:Int))=((x ^^^ 255).toNat:Int):=by have h:=x.toNat_lt;rw[xW];have hb:IntKind.u8.bits=8:=rfl;have hs:IntKind.u8.signed=false:=rfl;unfold IntKind.wrap;simp only[hb,hs,Bool.false_and,aM,df];omega
def qf:=jj @pkA @ptA
set_option maxRecDepth 100000 in
theorem yA (n:Int) (hn:I64 n):FnOK Tryz.prog G 41 [i64 n] (.ow EB (bC (Vl.encI n))):=by
 refine bI (rs:=[.tmp 2]) false [16,28,34,54,58] mixed Tryz.func41 rfl rfl rfl rfl (by kernel_rfl) (by simp) rfl rfl ?_;have UE:=CJ hn;have hI:-9223372036854775808<=n/\n<=9223372036854775807:=hn;simp only[pkA,seval,aF];refine mV (λs'=>∃ fr,s'=⟨fr,λ_=>[],0⟩/\fr 0=i64 n/\fr 3=i64 (fK n:Int)) ?_ ?_
 case refine_2=>
  intro R hR _;refine aD (λh=>?_) (λh=>?_)
  .have h:n<0:=a8 h
   have hw:IntKind.i64.wrap (-1 - n)=(fK n:Int):=(by have hm:(fK n:Int)=-1 - n:=(by unfold fK;rw[if_pos h];omega);rw[<- hm];exact bn rfl (by omega));simp only[pkA,seval,hw];exact hR _ ⟨_,rfl,by simp[ah],by simp[]⟩
  .have h:¬ n<0:=bK h
   have hm:(fK n:Int)=n:=(by unfold fK;rw[if_neg h];omega);simp only[pkA];exact hR _ ⟨_,rfl,by simp[ah],by simp[ah,hm]⟩
 rintro _ ⟨fr,rfl,h0,h3⟩;have hE:Vl.encI n=(UInt8.ofNat (128+(mf (fK n)).length) ^^^ iH n)::(mf (fK n)).map (· ^^^ iH n):=rfl;rw[hE];have hdl:=uf (fK n);generalize hd:mf (fK n)=d at *;generalize fK n=m0 at *;simp only[pkA,seval];refine za 0 (λs'=>∃ fr E,s'=⟨fr,λ_=>[],0⟩/\(E=none∨E=EB)/\fr 0=i64 n/\fr 4=.ow E (bC d.reverse)) ?_ ?_
 case refine_2=>
  intro R0 hR0 _;refine bw (λy:Nat×B×Option (TypeId×Nat)=>hdS [(0,i64 n),(3,i64 (y.1:Int)),(4,.ow y.2.2 (bC y.2.1))] []) (λy=>y.1) (λy=>y.1<=m0/\d=mf y.1++y.2.1.reverse/\(y.2.2=none∨y.2.2=EB)) (m0,[],none) ⟨ab _,by simp[hd],Or.inl rfl⟩ ?_ ?_
  .refine cm rfl (ar _) (by simp) (by simp[FL,ah,h3,h0];rfl) trivial
  rintro⟨m,D,E⟩ ⟨hm,hD,hE2⟩ R bL bO c8;simp only at hm hD hE2;simp only[pkA,seval];refine aD (λhp=>?_) (λhz=>?_)
  .have hp:0<m:=by have:=a8 hp;omega
   have hDl:D.length<=8:=(by have:=dJ List.length hD;simp at this;omega);simp only[qf,seval,aF,akQ,ah0];refine ap1 hE2 (by omega) ?_;simp only[pkA,seval,akR (show m<9223372036854775808 by omega)];refine bL (m / 256,D++[UInt8.ofNat (m % 256)],EB) _ ⟨by simp only;omega,?_,Or.inr rfl⟩ (show m / 256<m by omega) (cm rfl (ar _) (by simp) (by simp[FL,ah]) trivial);rw[hD,TU hp (by omega),TV];simp
  .have hz:m=0:=by have:=bK hz;omega
   subst hz;simp only[pkA];refine bO _ _ (hR0 _ ⟨_,E,rfl,hE2,by simp[ah],?_⟩);rw[hD,Fh];simp[ah]
 rintro _ ⟨fr,E,rfl,hE2,h0,h4⟩;have vn:((bC d.reverse).length:Int)=(d.length:Nat):=by rw[pV,List.length_reverse]
 simp only[qf,seval,h0,h4,vn];refine mV (λs'=>∃ fr,s'=⟨fr,λ_=>[],0⟩/\fr 0=i64 n/\fr 4=.ow E (bC d.reverse)/\fr 5=i64 (d.length:Int)/\fr 6=.ow EB (bC [UInt8.ofNat (128+d.length) ^^^ iH n])) ?_ ?_
 case refine_2=>
  intro R hR _;obtain⟨UK,_⟩:=CL d.length hdl;refine aD (λh=>?_) (λh=>?_)
  .have h:¬ n<0:=by have:=a8 h;omega
   have hf:iH n=0:=(by simp[iH,h]);have hw:=bn (n:=128+(d.length:Int)) (k:=128+d.length) (by omega) (by omega);simp only[qf,seval,aF,hw,ah0];refine ap1 (l:=[]) (Or.inl rfl) (by simp) ?_;simp only[pkA,seval];refine hR _ ⟨_,rfl,by simp[ah,h0],by simp[ah,h4],by simp[ah],?_⟩;rw[hf,jB];simp[]
  .have h:n<0:=by have:=bK h;omega
   have hf:iH n=255:=(by simp[iH,h]);have hw:=bn (n:=127 - (d.length:Int)) (k:=127 - d.length) (by omega) (by omega);have hx:UInt8.ofNat (127 - d.length)=UInt8.ofNat (128+d.length) ^^^ 255:=(by apply iY.1;rw[UK,fp];omega);simp only[qf,seval,aF,hw,ah0];refine ap1 (l:=[]) (Or.inl rfl) (by simp) ?_;simp only[pkA,seval];refine hR _ ⟨_,rfl,by simp[ah,h0],by simp[ah,h4],by simp[ah],?_⟩;rw[hf,<- hx];simp[]
 rintro _ ⟨fr,rfl,h0,h4,h5,h6⟩;have hwd:IntKind.i64.wrap ((d.length:Int) - 1)=(d.length:Int) - 1:=by rw[js];omega
 simp only[pkA,seval,h5,hwd];generalize hff:iH n=f at *;refine bw (λj:Nat=>hdS [(0,i64 n),(4,.ow E (bC d.reverse)),(6,.ow EB (bC ((UInt8.ofNat (128+d.length) ^^^ f)::(d.map (· ^^^ f)).take j))),(7,i64 ((d.length:Int) - 1 - j))] []) (λj=>d.length - j) (λj=>j<=d.length) 0 (ar _) ?_ ?_
 .refine cm rfl (ar _) (by simp) (by simp[FL,ah,h0,h4,h6]) trivial
 rintro j hj R bL bO c8;simp only[pkA,seval];refine aD (λhp=>?_) (λhz=>?_)
 .have hp:j<d.length:=by have:=a8 hp;omega
  have hw3:IntKind.i64.wrap ((d.length:Int) - 1 - j - 1)=(d.length:Int) - 1 - (j+1:Nat):=by rw[js];omega
  obtain⟨x,hx⟩:∃ x,d[j]?=some x:=⟨d[j],ai hp⟩;have hxr:d.reverse[d.length - 1 - j]?=some x:=by rw[List.getElem?_reverse (by omega),show d.length - 1 - (d.length - 1 - j)=j by omega,hx]
  have oa:(d.map (· ^^^ f))[j]?=some (x ^^^ f):=by rw[bj,hx];rfl
  simp only[pkA,seval];refine xT kU rfl pw rfl (k:=d.length - 1 - j) (by omega) hxr ?_;simp only[qf,seval];have cj:((UInt8.ofNat (128+d.length) ^^^ f)::(d.map (· ^^^ f)).take j).length+1<=140737488355328:=by simp only[aC,aN];omega
  refine aD (λh=>?_) (λh=>?_)
  .have h:n<0:=a8 h
   have hf:f=255:=(by rw[<- hff];simp[iH,h]);have al6:x ^^^ 255=x ^^^ f:=(by rw[hf]);simp only[qf,seval,aF,akS,al6];refine ap1 (Or.inr rfl) cj ?_;simp only[pkA,seval,hw3];refine bL (j+1) _ hp (by omega) (cm rfl (ar _) (by simp) ?_ trivial);rw[nT oa];simp[FL,ah]
  .have h:¬ n<0:=bK h
   have hf:f=0:=(by rw[<- hff];simp[iH,h]);rw[hf,jB,<- hf] at oa;simp only[qf,seval,aF];refine ap1 (Or.inr rfl) cj ?_;simp only[pkA,seval,hw3];refine bL (j+1) _ hp (by omega) (cm rfl (ar _) (by simp) ?_ trivial);rw[nT oa];simp[FL,ah]
 .have hz:j=d.length:=by have:=bK hz;omega
  subst hz;simp only[pkA];refine bO _ _ ?_;rw[dY (by simp)];simp only[pkA,seval]
set_option maxRecDepth 100000 in
theorem zt (a b:B) (ha:a.length<=1000000000):FnOK Tryz.prog G 18 [bv a,bv b] (bo (decide (a=b))):=by
 refine bI (rs:=[.tmp 4]) false [] mixed Tryz.func18 rfl rfl rfl rfl (by kernel_rfl) (by simp) rfl rfl ?_;simp only[qf,seval,aF,pV];refine aD (λh=>?_) (λh=>?_)
 .have h:a≠b:=by rintro rfl;simp at h
  simp only[pkA,seval];rw[eK h]
 have hl:a.length=b.length:=by have h:=bK (by simpa using h:decide ((a.length:Int)≠(b.length:Int))=false);omega
 simp only[pkA,seval];refine bw (λi:Nat=>hdS [(0,bv a),(1,bv b),(5,i64 (i:Nat))] []) (λi=>a.length - i) (λi=>i<=a.length/\a.take i=b.take i) 0 ⟨ar _,rfl⟩ ?_ ?_
 .exact cm rfl (ar _) (by simp) (by simp[FL,ah]) trivial
 rintro i ⟨hi,he⟩ R bL bO c8;simp only[qf,seval,pV];refine aD (λhp=>?_) (λhz=>?_)
 .have hp:i<a.length:=by have:=dlt hp;omega
  have hwi:=bn (n:=(i:Int)+1) (k:=i+1) (by omega) (by omega);obtain⟨x,hx⟩:∃ x,a[i]?=some x:=⟨a[i],ai hp⟩;obtain⟨y,hy⟩:∃ y,b[i]?=some y:=⟨b[i]'(by omega),ai _⟩;simp only[pkA,seval];refine xT kU rfl pw rfl rfl hx ?_;simp only[qf,seval];refine xT kU rfl pw rfl rfl hy ?_;simp only[qf,seval];refine aD (λh=>?_) (λh=>?_)
  .have hxy:x≠y:=by rintro rfl;simp at h
   have Bo:a≠b:=(by rintro rfl;rw[hx] at hy;exact hxy (eI hy));simp only[pkA,seval];refine c8 _ ?_;rw[eK Bo];simp only[pkA,seval]
  .have hxy:x=y:=by have h:(x.toNat:Int)=y.toNat:=(by simpa using h);exact iY.1 (by omega)
   subst hxy;simp only[pkA,seval,bW,hwi];exact bL (i+1) _ ⟨hp,by rw[nT hx,nT hy,he]⟩ (by omega) (cm rfl (ar _) (by simp) (by simp[FL,ah]) trivial)
 .have hz:i=a.length:=by have:=dge hz;omega
  subst hz;have Bo:a=b:=by rw[bZ] at he;rw[he,hl,bZ]
  simp only[pkA];refine bO _ _ ?_;simp only[pkA,seval];rw[dn Bo]
theorem TW (c:UInt8) (r:B) {f:UInt8} {k:Nat} {d:B} {n:Int} (hf:ft c=f) (hk:(c ^^^ f).toNat - 128=k) (hd:(r.take k).map (· ^^^ f)=d) (hn:(if c.toNat<128 then -1 - (val d:Int) else val d)=n) :
 kB (c::r)=if 8<k then(0,0,6) else if r.length<k then(0,0,5) else if 9223372036854775808<=val d then(0,0,6) else if Vl.encI n=c::r.take k then(n,k+1,0) else(0,0,6):=by
 have e:kB (c::r)=if 8<(c ^^^ ft c).toNat - 128 then(0,0,6) else if r.length<(c ^^^ ft c).toNat - 128 then(0,0,5) else
  if((r.take ((c ^^^ ft c).toNat - 128)).map (· ^^^ ft c)).head?=some 0 then(0,0,6) else if 9223372036854775808<=val ((r.take ((c ^^^ ft c).toNat - 128)).map (· ^^^ ft c)) then(0,0,6) else
  (if c.toNat<128 then -1 - (val ((r.take ((c ^^^ ft c).toNat - 128)).map (· ^^^ ft c)):Int) else val ((r.take ((c ^^^ ft c).toNat - 128)).map (· ^^^ ft c)),(c ^^^ ft c).toNat - 128+1,0):=rfl
 rw[e,hf,hk,hd,hn];split
 .rfl
 rename_i h8;split
 .rfl
 rename_i hr;have cj:d.length=k:=by rw[<- hd,au,aN];omega
 have QD:d.map (· ^^^ f)=r.take k:=by rw[<- hd,ug]
 by_cases hv:9223372036854775808<=val d
 .simp only[hv,cZ]
  split<;>rfl
 simp only[hv,df];have UE:fK n=val d:=by
  rw[<- hn];unfold fK;by_cases j4:c.toNat<128
  .rw[if_pos j4,if_pos (by omega)];omega
  .rw[if_neg j4,if_neg (by omega)];omega
 have Z1:(n<0)=(c.toNat<128):=by rw[<- hn];split<;>simp_all<;>omega
 have QE:iH n=f:=by unfold iH;rw[<- hf];unfold ft;simp only[Z1]
 have fH:=K9 c;rw[hf] at fH;have Z2:UInt8.ofNat (128+k) ^^^ f=c:=by
  have:UInt8.ofNat (128+k)=c ^^^ f:=by apply iY.1;rw[fp];omega
  rw[this,xU]
 by_cases hz:d.head?=some 0
 .rw[if_pos hz]
  refine (if_neg λhe=>?_).symm;unfold Vl.encI at he;rw[UE,QE,<- QD] at he;have h2:=(List.cons.inj he).2;have h3:mf (val d)=d:=by have:=dJ (List.map (· ^^^ f)) h2;rwa [ug,ug] at this
  exact y8 (m:=val d) (by omega) (by rw[h3];exact hz)
 .rw[if_neg hz]
  refine (if_pos ?_).symm;have hdd:=PI (l:=d) (by omega) hz;unfold Vl.encI;rw[UE,hdd,QE,cj,Z2,QD]
theorem aeG {c:UInt8} (h:c.toNat<128):ft c=255/\(c ^^^ 255).toNat - 128=127 - c.toNat:=by refine⟨by unfold ft;rw[if_pos h],?_⟩;rw[xW];omega
theorem aeH {c:UInt8} (h:¬ c.toNat<128):ft c=0/\(c ^^^ 0).toNat - 128=c.toNat - 128:=by refine⟨by unfold ft;rw[if_neg h],?_⟩;rw[jB]
theorem Y3 (a b:B):val a<=val (a++b):=by
 induction b using Bc with
 |nil=>simp
 |snoc l c ih=>rw[<- aI,ov];omega
theorem Y4 (d:B) (i:Nat):val (d.take i)<=val d:=by have:=Y3 (d.take i) (d.drop i);rwa [du] at this
set_option maxRecDepth 100000 in
theorem DD (b:B) (hb:b.length<=1000000000):FnOK Tryz.prog G 31 [bv b] (r3 (kB b)):=by
 refine bI (rs:=[.tmp 2,.tmp 3,.tmp 4]) false [] mixed Tryz.func31 rfl rfl rfl rfl (by kernel_rfl) (by simp) rfl rfl ?_;simp only[qf,seval,aF,pV];cases b with
 |nil=>
  refine aD (λ_=>?_) (λh=>?_)
  .simp only[pkA,seval]
   refine fW ?_ ?_ ?_<;>simp only[pkA,seval]<;>rfl
  .simp at h
 |cons c r=>
 refine aD (λh=>?_) (λ_=>?_)
 .exact absurd (a8 h) (by rw[aC];omega)
 have hc:=c.toNat_lt;have hgi:=λf k d n=>@TW c r f k d n;simp only[pkA,seval];refine xT kU rfl pw rfl (k:=0) rfl rfl ?_;simp only[qf,seval,Dw];cases d1:decide ((c.toNat:Int)<119)
 case true=>have h1:(c.toNat:Int)<119:=a8 d1;obtain⟨hf,hk⟩:=aeG (c:=c) (by omega);rw[hgi _ _ _ _ hf hk rfl rfl,if_pos (by omega)];simp only[pkA,seval];refine fW ?_ ?_ ?_<;>rfl
 have h1:¬ (c.toNat:Int)<119:=bK d1;simp only[pkA,seval];cases d2:decide ((136:Int)<(c.toNat:Int))
 case true=>have h2:(136:Int)<(c.toNat:Int):=a8 d2;obtain⟨hf,hk⟩:=aeH (c:=c) (by omega);rw[hgi _ _ _ _ hf hk rfl rfl,if_pos (by omega)];simp only[pkA,seval];refine fW ?_ ?_ ?_<;>rfl
 have h2:¬ (136:Int)<(c.toNat:Int):=bK d2;have hk8:∃ f k,ft c=f/\(c ^^^ f).toNat - 128=k/\k<=8/\((c.toNat<128/\k=127 - c.toNat/\f=255)∨(¬ c.toNat<128/\k=c.toNat - 128/\f=0)):=by
  by_cases h:c.toNat<128
  .obtain⟨hf,hk⟩:=aeG h
   exact⟨_,_,hf,hk,by omega,.inl ⟨h,rfl,rfl⟩⟩
  .obtain⟨hf,hk⟩:=aeH h
   exact⟨_,_,hf,hk,by omega,.inr ⟨h,rfl,rfl⟩⟩
 obtain⟨f,k,hf,hk,hk8,jf⟩:=hk8;rw[hgi _ _ _ _ hf hk rfl rfl,if_neg (by omega)];have al7:IntKind.i64.wrap ((c.toNat:Int) - 128)=(c.toNat:Int) - 128:=by rw[js];omega
 simp only[pkA,seval,al7];refine mV (λs'=>∃ fr,s'=⟨fr,λ_=>[],0⟩/\fr 0=bv (c::r)/\fr 5=i64 (c.toNat:Int)/\fr 6=i64 (k:Int)) ?_ ?_
 case refine_2=>
  intro R hR _;refine aD (λh=>?_) (λh=>?_)
  .have h:c.toNat<128:=by have:=a8 h;omega
   have hw:=bn (n:=127 - (c.toNat:Int)) (k:=k) (by omega) (by omega);simp only[pkA,seval,hw];exact hR _ ⟨_,rfl,by simp[ah],by simp[ah],by simp[]⟩
  .have h:¬ c.toNat<128:=by have:=bK h;omega
   simp only[pkA];exact hR _ ⟨_,rfl,by simp[ah],by simp[ah],by simp[ah];omega⟩
 rintro _ ⟨fr,rfl,h0,h5,h6⟩;have Iy:=bn (n:=(k:Int)+1) (k:=k+1) (by omega) (by omega);simp only[qf,seval,h0,h6,pV,Iy];refine aD (λh=>?_) (λh=>?_)
 .have h:r.length<k:=by have:=a8 h;omega
  rw[if_pos h];simp only[pkA,seval];refine fW ?_ ?_ ?_<;>rfl
 have hr:¬ r.length<k:=by have:=bK h;omega
 rw[if_neg hr];have cj:((r.take k).map (· ^^^ f)).length=k:=by rw[au,aN];omega
 have aok:∀ i x,r[i]?=some x->i<k->((r.take k).map (· ^^^ f))[i]?=some (x ^^^ f):=λi x hx hi=>by rw[bj,cA,if_pos hi,hx];rfl
 generalize (r.take k).map (· ^^^ f)=d at *;simp only[pkA,seval];have hdt:∀ i x,d[i]?=some x->val (d.take (i+1))=256*val (d.take i)+x.toNat:=λi x hx=>by rw[nT hx,ov]
 refine za 0 (λs'=>∃ fr,s'=⟨fr,λ_=>[],0⟩/\fr 0=bv (c::r)/\fr 5=i64 (c.toNat:Int)/\fr 6=i64 (k:Int)/\fr 7=i64 (val d:Int)/\val d<9223372036854775808) ?_ ?_
 case refine_2=>
  intro R0 hR0 uK;refine bw (λi:Nat=>hdS [(0,bv (c::r)),(5,i64 (c.toNat:Int)),(6,i64 (k:Int)),(7,i64 (val (d.take i):Int)),(8,i64 ((i+1:Nat):Int))] []) (λi=>k - i) (λi=>i<=k/\val (d.take i)<9223372036854775808) 0 ⟨ar _,by simp[HE]⟩ ?_ ?_
  .refine cm rfl (ar _) (by simp) (by simp[FL,ah,h0,h5,h6,HE]) trivial
  rintro i ⟨hi,hv⟩ R bL bO c8;simp only[pkA,seval];refine aD (λhp=>?_) (λhz=>?_)
  .have hp:i<k:=by have:=a8 hp;omega
   obtain⟨x,hx⟩:∃ x,r[i]?=some x:=⟨r[i]'(by omega),ai _⟩;have hdx:=aok i x hx hp;have hxt:=x.toNat_lt;have hft:=(x ^^^ f).toNat_lt;have hwi:=bn (n:=((i+1:Nat):Int)+1) (k:=i+1+1) (by omega) (by omega);simp only[pkA,seval];refine xT kU rfl pw rfl (k:=i+1) rfl (by rw[cB];exact hx) ?_;simp only[qf,seval,Dw];refine mV (λs'=>∃ fr,s'=⟨fr,λ_=>[],0⟩/\fr 0=bv (c::r)/\fr 5=i64 (c.toNat:Int)/\fr 6=i64 (k:Int)/\fr 7=i64 (val (d.take i):Int)/\fr 8=i64 ((i+1:Nat):Int)/\fr 9=i64 ((x ^^^ f).toNat:Int)) ?_ ?_
   case refine_2=>
    intro R1 hR1 _;refine aD (λh=>?_) (λh=>?_)
    .have h:c.toNat<128:=by have:=a8 h;omega
     have ZE:f=255:=by rcases jf with h1 | h1;exact h1.2.2;exact absurd h h1.1
     have hxx:=xW x;rw[<- ZE] at hxx;have hw:=bn (n:=255 - (x.toNat:Int)) (k:=(x ^^^ f).toNat) (by omega) (by omega);simp only[pkA,seval,hw];exact hR1 _ ⟨_,rfl,by simp[ah],by simp[ah],by simp[ah],by simp[ah],by simp[ah],by simp[]⟩
    .have h:¬ c.toNat<128:=by have:=bK h;omega
     have ZE:f=0:=by rcases jf with h1 | h1;exact absurd h1.1 h;exact h1.2.2
     have hxx:x ^^^ f=x:=(by rw[ZE,jB]);simp only[pkA];exact hR1 _ ⟨_,rfl,by simp[ah],by simp[ah],by simp[ah],by simp[ah],by simp[ah],by simp[ah,hxx]⟩
   rintro _ ⟨fr,rfl,h0,h5,h6,h7,h8,h9⟩;have hs:=hdt i _ hdx;have hvt:=Y4 d (i+1);simp only[pkA,seval,h7];refine aD (λh=>?_) (λh=>?_)
   .have h:36028797018963967<val (d.take i):=by have:=a8 h;omega
    simp only[pkA,seval];refine c8 _ (uK .ret _ (λh=>by cases h) ?_);rw[if_pos (by omega)];simp only[pkA];refine fW ?_ ?_ ?_<;>rfl
   .have h:¬ 36028797018963967<val (d.take i):=by have:=bK h;omega
    have hm1:=bn (n:=256*(val (d.take i):Int)) (k:=256*val (d.take i)) (by omega) (by omega);have hm2:=bn (n:=((256*val (d.take i):Nat):Int)+((x ^^^ f).toNat:Int)) (k:=val (d.take (i+1))) (by omega) (by omega);simp only[pkA,seval,h7,h8,h9,hm1,hm2,hwi];exact bL (i+1) _ ⟨hp,by omega⟩ (by omega) (cm rfl (ar _) (by simp) (by simp[FL,ah,h0,h5,h6]) trivial)
  .have hz:i=k:=by have:=bK hz;omega
   subst hz;rw[dY (by omega)] at hv;simp only[pkA];refine bO _ _ (hR0 _ ⟨_,rfl,by simp[ah],by simp[ah],by simp[ah],?_,hv⟩);rw[dY (by omega)];simp[ah]
 rintro _ ⟨fr,rfl,h0,h5,h6,h7,hv⟩;rw[if_neg (by omega)];have hn:∃ n:Int,(if c.toNat<128 then -1 - (val d:Int) else(val d:Int))=n/\I64 n:=⟨_,rfl,by unfold I64;split<;>omega⟩
 obtain⟨n,hn,hnI⟩:=hn;rw[hn];simp only[pkA,seval,h5,h7];refine mV (λs'=>∃ fr,s'=⟨fr,λ_=>[],0⟩/\fr 0=bv (c::r)/\fr 6=i64 (k:Int)/\fr 10=i64 n) ?_ ?_
 case refine_2=>
  intro R1 hR1 _;refine aD (λh=>?_) (λh=>?_)
  .have h:c.toNat<128:=by have:=a8 h;omega
   rw[if_pos h] at hn;have hw:IntKind.i64.wrap (-1 - (val d:Int))=n:=(by rw[hn];exact wrap_i64 _ hnI);simp only[pkA,seval,h7,hw];exact hR1 _ ⟨_,rfl,by simp[ah,h0],by simp[ah,h6],by simp[]⟩
  .have h:¬ c.toNat<128:=by have:=bK h;omega
   rw[if_neg h] at hn;simp only[pkA];exact hR1 _ ⟨_,rfl,by simp[ah,h0],by simp[ah,h6],by simp[ah,hn]⟩
 rintro _ ⟨fr,rfl,h0,h6,h10⟩;simp only[pkA,seval,h10];refine az rfl (yA n hnI) (λh=>by cases h) ?_;simp only[pkA,seval,h0,h6,Iy];refine PG kU rfl pw rfl (a:=0) (b:=k+1) rfl rfl (ar _) (by rw[aC];omega) ?_;rw[ct,eZ];simp only[pkA,seval];have Qo:=J6 n;refine az («as»:=[bv (Vl.encI n),bv (c::r.take k)]) rfl (zt _ _ (by omega)) (λ_=>rfl) ?_;by_cases he:Vl.encI n=c::r.take k
 .rw[if_pos he,dn he]
  simp only[pkA,seval,h6,h10,Iy];refine fW ?_ ?_ ?_<;>rfl
 .rw[if_neg he,eK he]
  simp only[pkA,seval];refine fW ?_ ?_ ?_<;>rfl
end Go.Proofs.YtloppcgcepgbnaaGreatDoor.Kw
namespace Go.Proofs.YtloppcgcepgbnaaGreatDoor
open Go Go.Vl Go.Proofs.YtloppcgcepgbnaaGreatDoor.Kw
variable {G:Gl}
set_option maxRecDepth 100000
def Y5:=jj @pkA (jj @ptA @pkF)
theorem Oy (l:List Fa) (hl:l.length<=100000) (hI:∀ f∈l,FaI f) (hS:FnOK Tryz.prog G 23 [.c (fsC l)] (.c (fsC (eV l)))):FnOK Tryz.prog G 20 [.c (fsC l)] (.c (.sl (bC (jJ l)))):=by
 refine bI (rs:=[.tmp 2]) false [17,25,33] mixed Tryz.func20 rfl rfl rfl rfl (by kernel_rfl) (by simp) rfl rfl ?_;have lf:∀ (m:List Fa) (K:V->Prop),iR Tryz.prog 28 (.c (fsC m)) K=K (i64 m.length):=λm K=>by unfold fsC;rw[fN eC rfl,au]
 simp only[pkA,seval,aF];refine az rfl hS (λh=>by cases h) ?_;have Qn:=oC l;have hsI:∀ f∈eV l,FaI f:=λf hf=>hI f (mY.1 hf);have he:jJ l=Vl.encI (eV l).length++((eV l).map lW).flatten:=rfl;rw[he];generalize eV l=m at *;simp only[pkA,seval,lf];refine az rfl (yA (m.length:Int) (P6 (by omega))) (λh=>by cases h) ?_;simp only[pkA,seval];refine bw (λi:Nat=>hdS [(3,.c (fsC m)),(4,.ow EB (bC (Vl.encI m.length++((m.take i).map lW).flatten))),(5,i64 i)] []) (λi=>m.length - i) (λi=>i<=m.length) 0 (ar _) ?_ ?_
 .exact cm rfl (ar _) (ar _) (by simp[FL,ah]) trivial
 rintro i hi R bL bO c8;simp only[pkA,seval,lf];refine aD (λbE=>?_) (λfH=>?_)
 .have bE:i<m.length:=by simpa using bE
  have hw:=bn (n:=(i:Int)+1) (k:=i+1) (by omega) (by omega);have ei:((i+1:Nat):Int)=(i:Int)+1:=by omega
  obtain⟨f,hf⟩:∃ f,f=m[i]:=⟨_,rfl⟩;obtain⟨h1,h2,h3⟩:FaI f:=hsI f (by rw[hf];exact bR bE);have ix:∀ {K:V->Prop},K (.c (.rp (faC f) 0))->dF Tryz.prog 28 (.c (fsC m)) (i64 i) K:=λ{K} hK=>
   dQ eC rfl eS (by decide) (ay _) (c:=faC f) (by simp[bE,hf]) rfl hK
  have LJ:(Vl.encI m.length++((m.take i).map lW).flatten).length<=9+27*i:=by have h1:=kr m.length;have h2:=H8 (m.take i);rw[aN] at h2;rw[ae];omega
  have hq:Vl.encI m.length++((m.take (i+1)).map lW).flatten=((Vl.encI m.length++((m.take i).map lW).flatten++Vl.encI f.kind)++Vl.encI f.a)++Vl.encI f.b:=by rw[aU bE,db,di,<- hf];simp[lW,mi]
  rw[List.map_take] at hq;generalize xb:Vl.encI m.length++((m.take i).map lW).flatten=pre at *;have l1:=kr f.kind;have l2:=kr f.a;have l3:=kr f.b;simp only[pkA,seval];refine ix ?_;simp only[Y5,seval,aF];refine az rfl (yA _ h1) (λh=>by cases h) ?_;simp only[pkA,seval,dm];refine adi (by omega) ?_;simp only[pkA,seval];refine ix ?_;simp only[Y5,seval,aF];refine az rfl (yA _ h2) (λh=>by cases h) ?_;simp only[pkA,seval,dm];refine adi (by rw[ae];omega) ?_;simp only[pkA,seval];refine ix ?_;simp only[Y5,seval,aF];refine az rfl (yA _ h3) (λh=>by cases h) ?_;simp only[pkA,seval,dm];refine adi (by rw[ae,ae];omega) ?_;simp only[pkA,seval,hw];refine bL (i+1) _ bE (by omega) (cm rfl (ar _) (ar _) (by simp[FL,ah,ei,hq]) trivial)
 .have:i=m.length:=by simp at fH;omega
  subst this;rw[bZ];simp only[pkA];refine bO _ _ ?_;simp only[pkA,seval]
