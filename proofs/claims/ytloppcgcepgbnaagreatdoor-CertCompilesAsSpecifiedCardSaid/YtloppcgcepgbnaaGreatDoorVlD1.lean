/- The specification's layer 1: an integer's encoding; equal bytes. -/
import Derived.Test.YtloppcgcepgbnaaGreatDoorKwVlW5
set_option maxHeartbeats 4000000
set_option linter.all false
namespace Go.Proofs.YtloppcgcepgbnaaGreatDoor.Kw
open Go Go.Vl
variable {G:Gl}
theorem F3:∀ (f m:Nat),m<256 ^ f->o6 (f+1) m=o6 f m
 |0,m,h=>by
  have:m=0:=by simpa using h
  subst this;rfl
 |f+1,m,h=>by
  rw[o6]
  conv=>rhs;rw[o6]
  split
  .rfl
  .rw[F3 f (m / 256) (by rw[ma] at h;omega)]
theorem UE {m:Nat} (h0:0<m) (h:m<18446744073709551616):mz m=mz (m / 256)++[UInt8.ofNat m]:=by
 have e:mz m=if m=0 then[] else o6 7 (m / 256)++[UInt8.ofNat m]:=rfl
 rw[e,if_neg (by omega)];unfold mz;rw[F3 7 (m / 256) (by omega)]
theorem akC {n:Nat} {K:V->Prop}:jQ Tryz.prog 3 5 (i64 (n:Int)) K=K (.c (bc (UInt8.ofNat n))):=HQ nH ry rfl
theorem UF (m:Nat):UInt8.ofNat (m % 256)=UInt8.ofNat m:=by apply jO.1;rw[gp,gp];omega
theorem anE {m:Nat} {K:V->Prop}:nF .rem .i64 (m:Int) 256 K=K (i64 ((m % 256:Nat):Int)):=by
 have e:(m:Int).tmod 256=((m % 256:Nat):Int):=by rw[Int.tmod_eq_emod_of_nonneg (ay m)];rfl
 show((256:Int)≠0/\K (.c (.lit (.int .i64 ((m:Int).tmod 256)))))=_;rw[e];have:((256:Int)≠0)=True:=by simp
 rw[this,iM]
theorem anF {m:Nat} (h:m<9223372036854775808) {K:V->Prop}:nF .quo .i64 (m:Int) 256 K=K (i64 ((m / 256:Nat):Int)):=by
 have e:IntKind.i64.wrap ((m:Int).tdiv 256)=((m / 256:Nat):Int):=by rw[Int.tdiv_eq_ediv_of_nonneg (ay m)];exact br (by rfl) (by omega)
 show((256:Int)≠0/\K (.c (.lit (.int .i64 (IntKind.i64.wrap ((m:Int).tdiv 256))))))=_;rw[e];have:((256:Int)≠0)=True:=by simp
 rw[this,iM]
theorem anG {x:UInt8}:IntKind.u8.wrap (255 - (x.toNat:Int))=((x ^^^ 255).toNat:Int):=by have h:=x.toNat_lt;rw[HO];have hb:IntKind.u8.bits=8:=rfl;have hs:IntKind.u8.signed=false:=rfl;unfold IntKind.wrap;simp only[hb,hs,Bool.false_and,aM,dp];omega
def uU:=jj @pkA @ptA
set_option maxRecDepth 100000 in
theorem Bq (n:Int) (hn:I64 n):FnOK Tryz.prog G 41 [i64 n] (.ow EB (bC (Vl.encI n))):=by
 refine bJ (rs:=[.tmp 2]) false [16,28,34,54,58] mixed Tryz.func41 rfl rfl rfl rfl (by kernel_rfl) (by simp) rfl rfl ?_;have alc:=CL hn;have hI:-9223372036854775808<=n/\n<=9223372036854775807:=hn;simp only[pkA,seval,aJ];refine rY (λs'=>∃ fr,s'=⟨fr,λ_=>[],0⟩/\fr 0=i64 n/\fr 3=i64 (fV n:Int)) ?_ ?_
 case refine_2=>
  intro R hR _;refine aD (λh=>?_) (λh=>?_)
  .have h:n<0:=bw h
   have hw:IntKind.i64.wrap (-1 - n)=(fV n:Int):=(by have hm:(fV n:Int)=-1 - n:=(by unfold fV;rw[if_pos h];omega);rw[<- hm];exact br rfl (by omega));simp only[pkA,seval,hw];exact hR _ ⟨_,rfl,by simp[aj],by simp[]⟩
  .have h:¬ n<0:=cD h
   have hm:(fV n:Int)=n:=(by unfold fV;rw[if_neg h];omega);simp only[pkA];exact hR _ ⟨_,rfl,by simp[aj],by simp[aj,hm]⟩
 rintro _ ⟨fr,rfl,h0,h3⟩;have hE:Vl.encI n=(UInt8.ofNat (128+(mz (fV n)).length) ^^^ jm n)::(mz (fV n)).map (· ^^^ jm n):=rfl;rw[hE];have hdl:=uy (fV n);generalize hd:mz (fV n)=d at *;generalize fV n=m0 at *;simp only[pkA,seval];refine Fp 0 (λs'=>∃ fr E,s'=⟨fr,λ_=>[],0⟩/\(E=none∨E=EB)/\fr 0=i64 n/\fr 4=.ow E (bC d.reverse)) ?_ ?_
 case refine_2=>
  intro R0 hR0 _;refine bz (λy:Nat×B×Option (TypeId×Nat)=>hdS [(0,i64 n),(3,i64 (y.1:Int)),(4,.ow y.2.2 (bC y.2.1))] []) (λy=>y.1) (λy=>y.1<=m0/\d=mz y.1++y.2.1.reverse/\(y.2.2=none∨y.2.2=EB)) (m0,[],none) ⟨ab _,by simp[hd],Or.inl rfl⟩ ?_ ?_
  .refine cg rfl (ar _) (by simp) (by simp[FL,aj,h3,h0];rfl) trivial
  rintro⟨m,D,E⟩ ⟨hm,hD,hE2⟩ R bL bQ dq;simp only at hm hD hE2;simp only[pkA,seval];refine aD (λhp=>?_) (λhz=>?_)
  .have hp:0<m:=by have:=bw hp;omega
   have hDl:D.length<=8:=(by have:=dM List.length hD;simp at this;omega);simp only[uU,seval,aJ,anE,akC];refine ap1 hE2 (by omega) ?_;simp only[pkA,seval,anF (show m<9223372036854775808 by omega)];refine bL (m / 256,D++[UInt8.ofNat (m % 256)],EB) _ ⟨by simp only;omega,?_,Or.inr rfl⟩ (show m / 256<m by omega) (cg rfl (ar _) (by simp) (by simp[FL,aj]) trivial);rw[hD,UE hp (by omega),UF];simp
  .have hz:m=0:=by have:=cD hz;omega
   subst hz;simp only[pkA];refine bQ _ _ (hR0 _ ⟨_,E,rfl,hE2,by simp[aj],?_⟩);rw[hD,Fo];simp[aj]
 rintro _ ⟨fr,E,rfl,hE2,h0,h4⟩;have vD:((bC d.reverse).length:Int)=(d.length:Nat):=by rw[sQ,List.length_reverse]
 simp only[uU,seval,h0,h4,vD];refine rY (λs'=>∃ fr,s'=⟨fr,λ_=>[],0⟩/\fr 0=i64 n/\fr 4=.ow E (bC d.reverse)/\fr 5=i64 (d.length:Int)/\fr 6=.ow EB (bC [UInt8.ofNat (128+d.length) ^^^ jm n])) ?_ ?_
 case refine_2=>
  intro R hR _;obtain⟨Vh,_⟩:=CN d.length hdl;refine aD (λh=>?_) (λh=>?_)
  .have h:¬ n<0:=by have:=bw h;omega
   have hf:jm n=0:=(by simp[jm,h]);have hw:=br (n:=128+(d.length:Int)) (k:=128+d.length) (by omega) (by omega);simp only[uU,seval,aJ,hw,akC];refine ap1 (l:=[]) (Or.inl rfl) (by simp) ?_;simp only[pkA,seval];refine hR _ ⟨_,rfl,by simp[aj,h0],by simp[aj,h4],by simp[aj],?_⟩;rw[hf,lT];simp[]
  .have h:n<0:=by have:=cD h;omega
   have hf:jm n=255:=(by simp[jm,h]);have hw:=br (n:=127 - (d.length:Int)) (k:=127 - d.length) (by omega) (by omega);have hx:UInt8.ofNat (127 - d.length)=UInt8.ofNat (128+d.length) ^^^ 255:=(by apply jO.1;rw[Vh,gp];omega);simp only[uU,seval,aJ,hw,akC];refine ap1 (l:=[]) (Or.inl rfl) (by simp) ?_;simp only[pkA,seval];refine hR _ ⟨_,rfl,by simp[aj,h0],by simp[aj,h4],by simp[aj],?_⟩;rw[hf,<- hx];simp[]
 rintro _ ⟨fr,rfl,h0,h4,h5,h6⟩;have hwd:IntKind.i64.wrap ((d.length:Int) - 1)=(d.length:Int) - 1:=by rw[kz];omega
 simp only[pkA,seval,h5,hwd];generalize hff:jm n=f at *;refine bz (λj:Nat=>hdS [(0,i64 n),(4,.ow E (bC d.reverse)),(6,.ow EB (bC ((UInt8.ofNat (128+d.length) ^^^ f)::(d.map (· ^^^ f)).take j))),(7,i64 ((d.length:Int) - 1 - j))] []) (λj=>d.length - j) (λj=>j<=d.length) 0 (ar _) ?_ ?_
 .refine cg rfl (ar _) (by simp) (by simp[FL,aj,h0,h4,h6]) trivial
 rintro j hj R bL bQ dq;simp only[pkA,seval];refine aD (λhp=>?_) (λhz=>?_)
 .have hp:j<d.length:=by have:=bw hp;omega
  have hw3:IntKind.i64.wrap ((d.length:Int) - 1 - j - 1)=(d.length:Int) - 1 - (j+1:Nat):=by rw[kz];omega
  obtain⟨x,hx⟩:∃ x,d[j]?=some x:=⟨d[j],ah hp⟩;have hxr:d.reverse[d.length - 1 - j]?=some x:=by rw[List.getElem?_reverse (by omega),show d.length - 1 - (d.length - 1 - j)=j by omega,hx]
  have oW:(d.map (· ^^^ f))[j]?=some (x ^^^ f):=by rw[bj,hx];rfl
  simp only[pkA,seval];refine CG lE rfl ry rfl (k:=d.length - 1 - j) (by omega) hxr ?_;simp only[uU,seval];have cm:((UInt8.ofNat (128+d.length) ^^^ f)::(d.map (· ^^^ f)).take j).length+1<=140737488355328:=by simp only[aB,aQ];omega
  refine aD (λh=>?_) (λh=>?_)
  .have h:n<0:=bw h
   have hf:f=255:=(by rw[<- hff];simp[jm,h]);have aoS:x ^^^ 255=x ^^^ f:=(by rw[hf]);simp only[uU,seval,aJ,anG,aoS];refine ap1 (Or.inr rfl) cm ?_;simp only[pkA,seval,hw3];refine bL (j+1) _ hp (by omega) (cg rfl (ar _) (by simp) ?_ trivial);rw[pN oW];simp[FL,aj]
  .have h:¬ n<0:=cD h
   have hf:f=0:=(by rw[<- hff];simp[jm,h]);rw[hf,lT,<- hf] at oW;simp only[uU,seval,aJ];refine ap1 (Or.inr rfl) cm ?_;simp only[pkA,seval,hw3];refine bL (j+1) _ hp (by omega) (cg rfl (ar _) (by simp) ?_ trivial);rw[pN oW];simp[FL,aj]
 .have hz:j=d.length:=by have:=cD hz;omega
  subst hz;simp only[pkA];refine bQ _ _ ?_;rw[fh (by simp)];simp only[pkA,seval]
set_option maxRecDepth 100000 in
theorem F4 (a b:B) (ha:a.length<=1000000000):FnOK Tryz.prog G 18 [bv a,bv b] (bo (decide (a=b))):=by
 refine bJ (rs:=[.tmp 4]) false [] mixed Tryz.func18 rfl rfl rfl rfl (by kernel_rfl) (by simp) rfl rfl ?_;simp only[uU,seval,aJ,sQ];refine aD (λh=>?_) (λh=>?_)
 .have h:a≠b:=by rintro rfl;simp at h
  simp only[pkA,seval];rw[fj h]
 have hl:a.length=b.length:=by have h:=cD (by simpa using h:decide ((a.length:Int)≠(b.length:Int))=false);omega
 simp only[pkA,seval];refine bz (λi:Nat=>hdS [(0,bv a),(1,bv b),(5,i64 (i:Nat))] []) (λi=>a.length - i) (λi=>i<=a.length/\a.take i=b.take i) 0 ⟨ar _,rfl⟩ ?_ ?_
 .exact cg rfl (ar _) (by simp) (by simp[FL,aj]) trivial
 rintro i ⟨hi,he⟩ R bL bQ dq;simp only[uU,seval,sQ];refine aD (λhp=>?_) (λhz=>?_)
 .have hp:i<a.length:=by have:=dlt hp;omega
  have hwi:=br (n:=(i:Int)+1) (k:=i+1) (by omega) (by omega);obtain⟨x,hx⟩:∃ x,a[i]?=some x:=⟨a[i],ah hp⟩;obtain⟨y,hy⟩:∃ y,b[i]?=some y:=⟨b[i]'(by omega),ah _⟩;simp only[pkA,seval];refine CG lE rfl ry rfl rfl hx ?_;simp only[uU,seval];refine CG lE rfl ry rfl rfl hy ?_;simp only[uU,seval];refine aD (λh=>?_) (λh=>?_)
  .have hxy:x≠y:=by rintro rfl;simp at h
   have Bt:a≠b:=(by rintro rfl;rw[hx] at hy;exact hxy (eH hy));simp only[pkA,seval];refine dq _ ?_;rw[fj Bt];simp only[pkA,seval]
  .have hxy:x=y:=by have h:(x.toNat:Int)=y.toNat:=(by simpa using h);exact jO.1 (by omega)
   subst hxy;simp only[pkA,seval,cy,hwi];exact bL (i+1) _ ⟨hp,by rw[pN hx,pN hy,he]⟩ (by omega) (cg rfl (ar _) (by simp) (by simp[FL,aj]) trivial)
 .have hz:i=a.length:=by have:=dge hz;omega
  subst hz;have Bt:a=b:=by rw[bW] at he;rw[he,hl,bW]
  simp only[pkA];refine bQ _ _ ?_;simp only[pkA,seval];rw[dD Bt]
end Go.Proofs.YtloppcgcepgbnaaGreatDoor.Kw
namespace Go.Proofs.YtloppcgcepgbnaaGreatDoor
open Go Go.Vl Go.Proofs.YtloppcgcepgbnaaGreatDoor.Kw
variable {G:Gl}
set_option maxRecDepth 100000
def aah:=jj @pkA (jj @ptA @pkF)
theorem O3 (l:List Fa) (hl:l.length<=100000) (hI:∀ f∈l,FaI f) (hS:FnOK Tryz.prog G 23 [.c (fsC l)] (.c (fsC (eS l)))):FnOK Tryz.prog G 20 [.c (fsC l)] (.c (.sl (bC (jI l)))):=by
 refine bJ (rs:=[.tmp 2]) false [17,25,33] mixed Tryz.func20 rfl rfl rfl rfl (by kernel_rfl) (by simp) rfl rfl ?_;have lf:∀ (m:List Fa) (K:V->Prop),fq Tryz.prog 28 (.c (fsC m)) K=K (i64 m.length):=λm K=>by unfold fsC;rw[fD dY rfl,au]
 simp only[pkA,seval,aJ];refine aC rfl hS (λh=>by cases h) ?_;have QV:=oL l;have hsI:∀ f∈eS l,FaI f:=λf hf=>hI f (mX.1 hf);have he:jI l=Vl.encI (eS l).length++((eS l).map lZ).flatten:=rfl;rw[he];generalize eS l=m at *;simp only[pkA,seval,lf];refine aC rfl (Bq (m.length:Int) (QB (by omega))) (λh=>by cases h) ?_;simp only[pkA,seval];refine bz (λi:Nat=>hdS [(3,.c (fsC m)),(4,.ow EB (bC (Vl.encI m.length++((m.take i).map lZ).flatten))),(5,i64 i)] []) (λi=>m.length - i) (λi=>i<=m.length) 0 (ar _) ?_ ?_
 .exact cg rfl (ar _) (ar _) (by simp[FL,aj]) trivial
 rintro i hi R bL bQ dq;simp only[pkA,seval,lf];refine aD (λbF=>?_) (λfO=>?_)
 .have bF:i<m.length:=by simpa using bF
  have hw:=br (n:=(i:Int)+1) (k:=i+1) (by omega) (by omega);have ei:((i+1:Nat):Int)=(i:Int)+1:=by omega
  obtain⟨f,hf⟩:∃ f,f=m[i]:=⟨_,rfl⟩;obtain⟨h1,h2,h3⟩:FaI f:=hsI f (by rw[hf];exact bT bF);have ix:∀ {K:V->Prop},K (.c (.rp (faC f) 0))->dW Tryz.prog 28 (.c (fsC m)) (i64 i) K:=λ{K} hK=>
   dP dY rfl eK (by decide) (ay _) (c:=faC f) (by simp[bF,hf]) rfl hK
  have Gk:(Vl.encI m.length++((m.take i).map lZ).flatten).length<=9+27*i:=by have h1:=kp m.length;have h2:=Il (m.take i);rw[aQ] at h2;rw[ae];omega
  have hq:Vl.encI m.length++((m.take (i+1)).map lZ).flatten=((Vl.encI m.length++((m.take i).map lZ).flatten++Vl.encI f.kind)++Vl.encI f.a)++Vl.encI f.b:=by rw[aT bF,dh,dm,<- hf];simp[lZ,mo]
  rw[List.map_take] at hq;generalize xo:Vl.encI m.length++((m.take i).map lZ).flatten=pre at *;have l1:=kp f.kind;have l2:=kp f.a;have l3:=kp f.b;simp only[pkA,seval];refine ix ?_;simp only[aah,seval,aJ];refine aC rfl (Bq _ h1) (λh=>by cases h) ?_;simp only[pkA,seval,dx];refine afo (by omega) ?_;simp only[pkA,seval];refine ix ?_;simp only[aah,seval,aJ];refine aC rfl (Bq _ h2) (λh=>by cases h) ?_;simp only[pkA,seval,dx];refine afo (by rw[ae];omega) ?_;simp only[pkA,seval];refine ix ?_;simp only[aah,seval,aJ];refine aC rfl (Bq _ h3) (λh=>by cases h) ?_;simp only[pkA,seval,dx];refine afo (by rw[ae,ae];omega) ?_;simp only[pkA,seval,hw];refine bL (i+1) _ bF (by omega) (cg rfl (ar _) (ar _) (by simp[FL,aj,ei,hq]) trivial)
 .have:i=m.length:=by simp at fO;omega
  subst this;rw[bW];simp only[pkA];refine bQ _ _ ?_;simp only[pkA,seval]
