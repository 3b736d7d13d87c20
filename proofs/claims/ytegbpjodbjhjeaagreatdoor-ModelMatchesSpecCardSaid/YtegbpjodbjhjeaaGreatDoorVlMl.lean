/- Layer 16: Reveals, Raw, Same; the specification's Same, SameFacts, Has, May. -/
import Derived.Test.YtegbpjodbjhjeaaGreatDoorVlQ3
set_option maxHeartbeats 2000000
set_option linter.all false
namespace Go.Proofs.YtegbpjodbjhjeaaGreatDoor
open Go Go.Vl
open Kp (Pol Ty Ru Qu poC tyC ruC quC)
variable {G:Gl}
set_option maxRecDepth 10000
def qn:=jj @pkA @ptA
def NJ:=jj @pkA (jj @ptA @pkF)
theorem VS (es:List Fa) (hm:es.length<=1000000000) (x:Fa) :
 FnOK Tryz.prog G 101 [.c (.sl (es.map faC)),.agg (faC x)] (i64 (mU (λe=>decide (x=e)) es)):=by
 have g:∀ (nb q:Nat) (f:Fa) K,ldA nb q ((faC f).map .c) 0 3 K=(q<nb/\K (.agg (faC f))):=λnb q f K=>by unfold ldA;exact propext ⟨λh=>⟨h.1,h.2.2⟩,λh=>⟨h.1,⟨rfl,rfl⟩,h.2⟩⟩
 have gm:∀ f:Fa,dE ((faC f).map V.c)=false:=λ_=>rfl;refine bD (rs:=[.tmp 4]) false [] mixed Tryz.func101 rfl rfl rfl rfl (by kernel_rfl) (by simp) rfl rfl ?_;simp -implicitDefEqProofs only[qn,seval,aj];refine cm (λi:Nat=>hdS [(0,.c (.sl (es.map faC))),(3,.bp 0 0),(7,i64 es.length),(8,i64 i)] [(faC x).map .c]) (λi=>es.length - i) (λi=>i<=es.length/\∀ j (h:j<es.length),j<i->(λe=>decide (x=e)) es[j]=false) 0 ⟨ar _,by simp⟩ ?_ ?_
 .refine bT rfl (ar _) (by simp) ?_ ?_
  .simp[FL,aw]
  .simp[BL]
 rintro i ⟨hi,eX⟩ R bN b8 db;simp -implicitDefEqProofs only[pkA,seval];refine aJ (λbF=>?_) (λfu=>?_)
 .have bF:i<es.length:=by simpa using bF
  simp -implicitDefEqProofs only[qn,seval,g,gm];refine cR kD rfl jb (by decide) (aC i) (c:=faC es[i]) (by simp[bF]) rfl ?_;simp -implicitDefEqProofs only[NJ,seval];refine aJ (λhy=>?_) (λhn=>?_)
  .simp -implicitDefEqProofs only[pkA,seval]
   refine db _ ?_;simp -implicitDefEqProofs only[pkA,seval];rw[oa bF hy eX]
  .have hw:=wrap_i64 (i+1) (by omega)
   simp -implicitDefEqProofs only[pkA,seval];refine bN (i+1) _ ⟨bF,λj h hj=>?_⟩ (by omega) (bT rfl (ar _) (by simp) ?_ ?_)
   .rcases cd j i with h1 | h1
    .exact eX j h h1
    .have:j=i:=by omega
     subst this;exact hn
   .simp[FL,aw,hw]
   .simp[BL,bxs]
 .have:i=es.length:=by simp at fu;omega
  subst this;simp -implicitDefEqProofs only[pkA];refine b8 _ _ ?_;simp -implicitDefEqProofs only[pkA,seval];rw[k6 eX]
theorem zD (es:List Fa) (hm:es.length<=1000000000) (x:Fa) :
 FnOK Tryz.prog G 61 [.c (.sl (es.map faC)),.agg (faC x)] (bo (decide (x∈es))):=by
 refine bD (rs:=[.tmp 4]) false [] mixed Tryz.func61 rfl rfl rfl rfl (by kernel_rfl) (by simp) rfl rfl ?_;simp -implicitDefEqProofs only[NJ,seval];refine ax rfl (VS es hm x) (λ_=>rfl) ?_;simp -implicitDefEqProofs only[pkA,seval];have e:decide (x∈es)=es.any (λe=>decide (x=e)):=by rw[jv];simp
 rw[e,kq]
theorem rf {s:Sy} (hS:SyOk s):(kP s).length<=20000:=by
 have h0:=Jn (CO s);have h1:=kF (l:=s.os) (f:=m7 s) (b:=2) (λt _=>by unfold m7;split<;>split<;>simp);have h2:=kF (l:=c9 s.its) (f:=iy s) (b:=1) (λt _=>by unfold iy;split<;>simp);have h3:=(nF (λt ht=>(hS.iv t ht).1) (j4 λt ht=>(hS.iv t ht).1).1.st (j4 λt ht=>(hS.iv t ht).1).1.kn).1;have h4:=pI hS;have h5:=hS.hn;have h6:=hS.on;unfold kP;have:(CO s).length<=20000:=by unfold CO;simp only[aB,aj];omega
 omega
def sJ:=jj @pkA (jj @ptA @pkS)
theorem vZ {s:Sy} (hS:SyOk s) (k:Int):FnOK Tryz.prog glM 20 [.agg (syC s),i64 k] (bo (CP s 3 k)):=by have:=rf hS;refine bD (rs:=[.tmp 4]) false [] mixed Tryz.func20 rfl rfl rfl rfl (by kernel_rfl) (by simp) rfl rfl ?_;simp -implicitDefEqProofs only[sJ,seval];refine ax rfl (uc hS) (λh=>(by cases h)) ?_;simp -implicitDefEqProofs only[qn,seval];refine ax rfl (zD (kP s) (by omega) ⟨3,k,0⟩) (λ_=>rfl) ?_;simp -implicitDefEqProofs only[pkA,seval];rfl
theorem VT {s:Sy} (hS:SyOk s) (k:Int):FnOK Tryz.prog glM 22 [.agg (syC s),i64 k] (bo (CP s 4 k)):=by have:=rf hS;refine bD (rs:=[.tmp 4]) false [] mixed Tryz.func22 rfl rfl rfl rfl (by kernel_rfl) (by simp) rfl rfl ?_;simp -implicitDefEqProofs only[sJ,seval];refine ax rfl (uc hS) (λh=>(by cases h)) ?_;simp -implicitDefEqProofs only[qn,seval];refine ax rfl (zD (kP s) (by omega) ⟨4,k,0⟩) (λ_=>rfl) ?_;simp -implicitDefEqProofs only[pkA,seval];rfl
def B8:=jj @pkA (jj @ptA @pkH)
theorem xH (xs ys:List Hd) (hx:xs.length<=1000000000) (hy:ys.length<=1000000000) (g:FuncId) (hp:∀ x∈xs,∀ y∈ys,FnOK Tryz.prog G g [.agg (hdC x),.agg (hdC y)] (bo (decide (x=y)))) :
 FnOK Tryz.prog G 45 [.c (.sl (xs.map hdC)),.c (.sl (ys.map hdC)),.c (.fn (.func g) [] [])] (bo (decide (xs=ys))):=by
 refine bD (rs:=[.tmp 6]) false [] mixed Tryz.func45 rfl rfl rfl rfl (by kernel_rfl) (by simp) rfl rfl ?_;simp -implicitDefEqProofs only[qn,seval,aj];refine aJ (λgu=>?_) (λfO=>?_)
 .have:¬ xs=ys:=λe=>by subst e;simp at gu
  simp -implicitDefEqProofs only[pkA,seval,this,aO]
 .have fO:xs.length=ys.length:=by simp at fO;omega
  simp -implicitDefEqProofs only[qn,seval,aj];refine cm (λi:Nat=>hdS [(1,.c (.sl (ys.map hdC))),(2,.c (.fn (.func g) [] [])),(15,.c (.sl (xs.map hdC))),(16,i64 xs.length),(17,i64 i)] []) (λi=>xs.length - i) (λi=>i<=xs.length/\xs.take i=ys.take i) 0 ⟨ar _,rfl⟩ ?_ ?_
  .refine bT rfl (ar _) (ai _) ?_ trivial
   simp[FL,aw]
  rintro i ⟨hi,eX⟩ R bN b8 db;simp -implicitDefEqProofs only[pkA,seval];refine aJ (λbF=>?_) (λfu=>?_)
  .have bF:i<xs.length:=by simpa using bF
   have kR:i<ys.length:=(by omega);simp -implicitDefEqProofs only[pkA,seval];refine cR ko rfl iT (by decide) (aC i) (c:=hdC xs[i]) (by simp[bF]) (ek _) ?_;simp -implicitDefEqProofs only[B8,seval,ek];refine cR ko rfl iT (by decide) (aC i) (c:=hdC ys[i]) (by simp[kR]) (ek _) ?_;simp -implicitDefEqProofs only[B8,seval,ek];refine ax rfl (hp _ (aH bF) _ (aH kR)) (λ_=>rfl) ?_;simp -implicitDefEqProofs only[pkA,seval];refine aJ (λhd=>?_) (λhe=>?_)
   .have hd:xs[i]≠ys[i]:=by simpa using hd
    have:¬ xs=ys:=λe=>by subst e;exact hd rfl
    simp -implicitDefEqProofs only[pkA,seval];refine db _ ?_;simp -implicitDefEqProofs only[pkA,seval,this,aO]
   .have he:xs[i]=ys[i]:=by simpa using he
    have hw:=wrap_i64 (i+1) (by omega);simp -implicitDefEqProofs only[pkA,seval];refine bN (i+1) _ ⟨bF,?_⟩ (by omega) (bT rfl (ar _) (ar _) ?_ trivial)
    .rw[aR bF,aR kR,eX,he]
    .simp[FL,aw,hw]
  .have:i=xs.length:=by simp at fu;omega
   subst this;have:xs=ys:=(by rw[ct,fO,ct] at eX;exact eX);simp -implicitDefEqProofs only[pkA];refine b8 _ _ ?_;simp -implicitDefEqProofs only[pkA,seval,this,ah]
def aaQ:=jj @pkA (jj @ptA @pkT)
theorem xI (xs ys:List Tm) (hx:xs.length<=1000000000) (hy:ys.length<=1000000000) (g:FuncId) (hp:∀ x∈xs,∀ y∈ys,FnOK Tryz.prog G g [.agg (tmC x),.agg (tmC y)] (bo (decide (x=y)))) :
 FnOK Tryz.prog G 46 [.c (.sl (xs.map tmC)),.c (.sl (ys.map tmC)),.c (.fn (.func g) [] [])] (bo (decide (xs=ys))):=by
 refine bD (rs:=[.tmp 6]) false [] mixed Tryz.func46 rfl rfl rfl rfl (by kernel_rfl) (by simp) rfl rfl ?_;simp -implicitDefEqProofs only[qn,seval,aj];refine aJ (λgu=>?_) (λfO=>?_)
 .have:¬ xs=ys:=λe=>by subst e;simp at gu
  simp -implicitDefEqProofs only[pkA,seval,this,aO]
 .have fO:xs.length=ys.length:=by simp at fO;omega
  simp -implicitDefEqProofs only[qn,seval,aj];refine cm (λi:Nat=>hdS [(1,.c (.sl (ys.map tmC))),(2,.c (.fn (.func g) [] [])),(15,.c (.sl (xs.map tmC))),(16,i64 xs.length),(17,i64 i)] []) (λi=>xs.length - i) (λi=>i<=xs.length/\xs.take i=ys.take i) 0 ⟨ar _,rfl⟩ ?_ ?_
  .refine bT rfl (ar _) (ai _) ?_ trivial
   simp[FL,aw]
  rintro i ⟨hi,eX⟩ R bN b8 db;simp -implicitDefEqProofs only[pkA,seval];refine aJ (λbF=>?_) (λfu=>?_)
  .have bF:i<xs.length:=by simpa using bF
   have kR:i<ys.length:=(by omega);simp -implicitDefEqProofs only[pkA,seval];refine cR dc rfl cV (by decide) (aC i) (c:=tmC xs[i]) (by simp[bF]) (bG _) ?_;simp -implicitDefEqProofs only[aaQ,seval];refine cR dc rfl cV (by decide) (aC i) (c:=tmC ys[i]) (by simp[kR]) (bG _) ?_;simp -implicitDefEqProofs only[aaQ,seval];refine ax rfl (hp _ (aH bF) _ (aH kR)) (λ_=>rfl) ?_;simp -implicitDefEqProofs only[pkA,seval];refine aJ (λhd=>?_) (λhe=>?_)
   .have hd:xs[i]≠ys[i]:=by simpa using hd
    have:¬ xs=ys:=λe=>by subst e;exact hd rfl
    simp -implicitDefEqProofs only[pkA,seval];refine db _ ?_;simp -implicitDefEqProofs only[pkA,seval,this,aO]
   .have he:xs[i]=ys[i]:=by simpa using he
    have hw:=wrap_i64 (i+1) (by omega);simp -implicitDefEqProofs only[pkA,seval];refine bN (i+1) _ ⟨bF,?_⟩ (by omega) (bT rfl (ar _) (ar _) ?_ trivial)
    .rw[aR bF,aR kR,eX,he]
    .simp[FL,aw,hw]
  .have:i=xs.length:=by simp at fu;omega
   subst this;have:xs=ys:=(by rw[ct,fO,ct] at eX;exact eX);simp -implicitDefEqProofs only[pkA];refine b8 _ _ ?_;simp -implicitDefEqProofs only[pkA,seval,this,ah]
theorem Jt (x y:Hd) (hx:bi x.va<=1000000000) (hy:bi y.va<=1000000000):FnOK Tryz.prog G 43 [.agg (hdC x),.agg (hdC y)] (bo (decide (x=y))):=by
 have e:decide (x=y)=(decide (x.ty=y.ty)&&decide (x.va=y.va)):=by obtain⟨a,b⟩:=x;obtain⟨c,d⟩:=y;simp[Hd.mk.injEq,Bool.decide_and]
 rw[e];refine bD (rs:=[.tmp 4]) false [] mixed Tryz.func43 rfl rfl rfl rfl (by kernel_rfl) (by simp) rfl rfl ?_;by_cases h:x.ty=y.ty
 .simp -implicitDefEqProofs only[B8,seval,h,ah]
  refine ax rfl (uM _ _ hx hy) (λ_=>rfl) ?_;simp -implicitDefEqProofs only[pkA,seval]
 .simp -implicitDefEqProofs only[B8,seval,h,aO]
theorem VU {P:Program} {tr:List Nat} {d:Nat} {f:FuncId} {ty:TypeId} {pos:String} {af:Array Edge} {g:Option (Nat×Bool)} {fr:Nat->V} {bx:Nat->List V} {nb:Nat} {K:Vl.S->Prop}:VStep P G tr ⟨some d,.assign (.func f),ty,pos,af,g⟩ ⟨fr,bx,nb⟩ K=K ⟨up fr d (.c (.fn (.func f) [] [])),bx,nb⟩:=rfl
theorem aaR {a b:Sy}:decide (a=b)=(decide (a.fresh=b.fresh)&&(decide (a.hs=b.hs)&&(decide (a.os=b.os)&&(decide (a.its=b.its)&&decide (a.rs=b.rs))))):=by
 obtain⟨a1,a2,a3,a4,a5⟩:=a;obtain⟨b1,b2,b3,b4,b5⟩:=b;simp only[Sy.mk.injEq];rw[jv];simp only[br,aA];constructor
 .rintro⟨h1,h2,h3,h4,h5⟩;exact⟨h5,h1,h3,h2,h4⟩
 .rintro⟨h5,h1,h3,h2,h4⟩;exact⟨h1,h2,h3,h4,h5⟩
structure SyB (s:Sy):Prop where
 hn:s.hs.length<=1000
 iN:s.its.length<=1000
 on:s.os.length<=1000
 rn:s.rs.length<=1000
 hv:∀ h∈s.hs,bi h.va<=100
 iv:∀ t∈s.its,bi t<=100
 ov:∀ h∈s.os,bi h.va<=100
 rv:∀ t∈s.rs,bi t<=100
theorem SyOk.b {s:Sy} (h:SyOk s):SyB s:=
 ⟨by have:=h.hn;omega,by have:=h.iN;omega,by have:=h.on;have:=h.hn;omega,by have:=h.rn;have:=h.hn;omega,λx hx=>(h.hv x hx).2.1,λx hx=>(h.iv x hx).2,λx hx=>(h.hv x (h.ov x hx)).2.1,λx hx=>(h.rv x hx).2⟩
theorem Gz {a b:Sy} (ha:SyB a) (hb:SyB b):FnOK Tryz.prog G 16 [.agg (syC a),.agg (syC b)] (bo (decide (a=b))):=by
 have l9:∀ {n:Nat},n<=100->n<=1000000000:=λh=>by omega
 have lk:∀ {n:Nat},n<=1000->n<=1000000000:=λh=>by omega
 have c1:=xH (G:=G) a.hs b.hs (lk ha.hn) (lk hb.hn) 43 λx hx y hy=>Jt x y (l9 (ha.hv x hx)) (l9 (hb.hv y hy));have c2:=xH (G:=G) a.os b.os (lk ha.on) (lk hb.on) 43 λx hx y hy=>Jt x y (l9 (ha.ov x hx)) (l9 (hb.ov y hy));have c3:=xI (G:=G) a.its b.its (lk ha.iN) (lk hb.iN) 44 λx hx y hy=>uM x y (l9 (ha.iv x hx)) (l9 (hb.iv y hy));have c4:=xI (G:=G) a.rs b.rs (lk ha.rn) (lk hb.rn) 44 λx hx y hy=>uM x y (l9 (ha.rv x hx)) (l9 (hb.rv y hy));rw[aaR];refine bD (rs:=[.tmp 4]) false [] mixed Tryz.func16 rfl rfl rfl rfl (by kernel_rfl) (by simp) rfl rfl ?_;by_cases h1:a.fresh=b.fresh
 case neg=>simp -implicitDefEqProofs only[sJ,seval,VU,h1,aO]
 simp -implicitDefEqProofs only[sJ,seval,VU,h1,ah];refine ax rfl c1 (λ_=>rfl) ?_;by_cases h2:a.hs=b.hs
 case neg=>simp -implicitDefEqProofs only[pkA,seval,h2,aO]
 simp -implicitDefEqProofs only[sJ,seval,h2,ah];refine ax rfl c2 (λ_=>rfl) ?_;by_cases h3:a.os=b.os
 case neg=>simp -implicitDefEqProofs only[pkA,seval,h3,aO]
 simp -implicitDefEqProofs only[sJ,seval,h3,ah];refine ax rfl c3 (λ_=>rfl) ?_;by_cases h4:a.its=b.its
 case neg=>simp -implicitDefEqProofs only[pkA,seval,h4,aO]
 simp -implicitDefEqProofs only[sJ,seval,h4,ah];refine ax rfl c4 (λ_=>rfl) ?_;simp -implicitDefEqProofs only[pkA,seval]
theorem ud (xs ys:List Hd) (hx:xs.length<=1000000000) (hy:ys.length<=1000000000) (vx:∀ x∈xs,bi x.va<=1000000000) (vy:∀ x∈ys,bi x.va<=1000000000) :
 FnOK Tryz.prog G 33 [.c (hsC xs),.c (hsC ys)] (bo (decide (xs=ys))):=by
 refine bD (rs:=[.tmp 4]) false [] mixed Tryz.func33 rfl rfl rfl rfl (by kernel_rfl) (by simp) rfl rfl ?_;simp -implicitDefEqProofs only[qn,seval,hsC,aj];refine aJ (λgu=>?_) (λfO=>?_)
 .have:¬ xs=ys:=λe=>by subst e;simp at gu
  simp -implicitDefEqProofs only[pkA,seval,this,aO]
 .have fO:xs.length=ys.length:=by simp at fO;omega
  simp -implicitDefEqProofs only[pkA,seval];refine cm (λi:Nat=>hdS [(0,.c (hsC xs)),(1,.c (hsC ys)),(5,i64 i)] []) (λi=>xs.length - i) (λi=>i<=xs.length/\xs.take i=ys.take i) 0 ⟨ar _,rfl⟩ ?_ ?_
  .refine bT rfl (ar _) (ai _) ?_ trivial
   simp[FL,aw,hsC]
  rintro i ⟨hi,eX⟩ R bN b8 db;simp -implicitDefEqProofs only[qn,seval,hsC,aj];refine aJ (λbF=>?_) (λfu=>?_)
  .have bF:i<xs.length:=by simpa using bF
   have kR:i<ys.length:=(by omega);have hw:=wrap_i64 (i+1) (by omega);have iax:∀ K,K (.c (.rp (hdC xs[i]) 0))->bK Tryz.prog 32 (.c (.sl (xs.map hdC))) (i64 (i:Int)) K:=λK hK=>
    cR ko rfl iT (by decide) (aC i) (c:=hdC xs[i]) (by simp[bF]) (ek _) hK
   have iay:∀ K,K (.c (.rp (hdC ys[i]) 0))->bK Tryz.prog 32 (.c (.sl (ys.map hdC))) (i64 (i:Int)) K:=λK hK=>
    cR ko rfl iT (by decide) (aC i) (c:=hdC ys[i]) (by simp[kR]) (ek _) hK
   have no:xs[i]≠ys[i]->¬ xs=ys:=λhd e=>by subst e;exact hd rfl
   have same:xs[i]=ys[i]->xs.take (i+1)=ys.take (i+1):=λhe=>by rw[aR bF,aR kR,eX,he]
   have vxi:=vx _ (aH bF);have vyi:=vy _ (aH kR);have ext:xs[i]=ys[i]↔xs[i].ty=ys[i].ty/\xs[i].va=ys[i].va:=(by generalize xs[i]=x;generalize ys[i]=y;obtain⟨a,b⟩:=x;obtain⟨c,d⟩:=y;simp);generalize xs[i]=x at *;generalize ys[i]=y at *;simp -implicitDefEqProofs only[pkA,seval];refine iax _ ?_;simp -implicitDefEqProofs only[B8,seval];refine iay _ ?_;by_cases ht:x.ty=y.ty
   .simp -implicitDefEqProofs only[B8,seval,ht,ah]
    refine iax _ ?_;simp -implicitDefEqProofs only[qn,seval,m8];refine iay _ ?_;simp -implicitDefEqProofs only[qn,seval,m8];refine ax rfl (xF _ _ vxi vyi) (λ_=>rfl) ?_;by_cases hv:x.va=y.va
    .simp -implicitDefEqProofs only[pkA,seval,hv,ah]
     refine bN (i+1) _ ⟨bF,same (ext.2 ⟨ht,hv⟩)⟩ (by omega) (bT rfl (ar _) (ar _) ?_ trivial);simp[FL,aw,hw,hsC]
    .simp -implicitDefEqProofs only[pkA,seval,hv,aO]
     refine db _ ?_;simp -implicitDefEqProofs only[pkA,seval,no λe=>hv (ext.1 e).2,aO]
   .simp -implicitDefEqProofs only[B8,seval,ht,aO]
    refine db _ ?_;simp -implicitDefEqProofs only[pkA,seval,no λe=>ht (ext.1 e).1,aO]
  .have:i=xs.length:=by simp at fu;omega
   subst this;have:xs=ys:=(by rw[ct,fO,ct] at eX;exact eX);simp -implicitDefEqProofs only[pkA];refine b8 _ _ ?_;simp -implicitDefEqProofs only[pkA,seval,this,ah]
theorem yO {a b:Sy} (ha:SyB a) (hb:SyB b):FnOK Tryz.prog G 13 [.agg (syC a),.agg (syC b)] (bo (decide (a=b))):=by
 have l9:∀ {n:Nat},n<=100->n<=1000000000:=λh=>by omega
 have lk:∀ {n:Nat},n<=1000->n<=1000000000:=λh=>by omega
 have ls:∀ {l:List Tm},l.length<=1000->(∀ t∈l,bi t<=100)->cz l<=1000000000:=λ{l} h1 h2=>by have:=D9 h2;have:l.length*100<=1000*100:=bf _ h1;omega
 have c1:=ud (G:=G) a.hs b.hs (lk ha.hn) (lk hb.hn) (λx hx=>l9 (ha.hv x hx)) (λy hy=>l9 (hb.hv y hy));have c2:=ud (G:=G) a.os b.os (lk ha.on) (lk hb.on) (λx hx=>l9 (ha.ov x hx)) (λy hy=>l9 (hb.ov y hy));have c3:=IB (G:=G) a.its b.its (ls ha.iN ha.iv) (ls hb.iN hb.iv);have c4:=IB (G:=G) a.rs b.rs (ls ha.rn ha.rv) (ls hb.rn hb.rv);rw[aaR];refine bD (rs:=[.tmp 4]) false [] mixed Tryz.func13 rfl rfl rfl rfl (by kernel_rfl) (by simp) rfl rfl ?_;by_cases h1:a.fresh=b.fresh
 case neg=>simp -implicitDefEqProofs only[sJ,seval,h1,aO]
 simp -implicitDefEqProofs only[sJ,seval,h1,ah];refine ax rfl c1 (λ_=>rfl) ?_;by_cases h2:a.hs=b.hs
 case neg=>simp -implicitDefEqProofs only[pkA,seval,h2,aO]
 simp -implicitDefEqProofs only[sJ,seval,h2,ah];refine ax rfl c2 (λ_=>rfl) ?_;by_cases h3:a.os=b.os
 case neg=>simp -implicitDefEqProofs only[pkA,seval,h3,aO]
 simp -implicitDefEqProofs only[sJ,seval,h3,ah];refine ax rfl c3 (λ_=>rfl) ?_;by_cases h4:a.its=b.its
 case neg=>simp -implicitDefEqProofs only[pkA,seval,h4,aO]
 simp -implicitDefEqProofs only[sJ,seval,h4,ah];refine ax rfl c4 (λ_=>rfl) ?_;simp -implicitDefEqProofs only[pkA,seval]
def B9:=jj @pkA (jj @ptA @Kp.pkP)
theorem agK (p:Pol) (t:Int):FnOK Tryz.prog G 66 [.agg (poC p),i64 t] (bo (inI t p.types.length)):=by
 refine bD (rs:=[.tmp 4]) false [] mixed Tryz.func66 rfl rfl rfl rfl (by kernel_rfl) (by simp) rfl rfl ?_;by_cases h:0<=t
 .simp only[B9,seval,aj,h,ah]
  simp[inI,h]
 .simp only[pkA,seval,h,aO]
  simp[inI,h]
theorem LN (a b:Int) (ha:I64 a):FnOK Tryz.prog G 67 [i64 a,i64 b] (bo (LC a b)):=by refine bD (rs:=[.tmp 4]) false [] mixed Tryz.func67 rfl rfl rfl rfl (by kernel_rfl) (by simp) rfl rfl ?_;have hN:∀ K,rq .and .i64 a b K=K (i64 (bits .and .i64 a b)):=λ_=>rfl;simp only[pkA,seval,hN];unfold LC;rw[fb.2 (Lb ha)]
theorem VV (p:Pol) (t f:Int) (hf:I64 f):FnOK Tryz.prog G 30 [.agg (poC p),i64 t,i64 f] (bo (jO p t f)):=by
 refine bD (rs:=[.tmp 6]) false [] mixed Tryz.func30 rfl rfl rfl rfl (by kernel_rfl) (by simp) rfl rfl ?_;simp only[B9,seval];refine ax rfl (agK p t) (λ_=>rfl) ?_;cases h:inI t p.types.length with
 |true=>
  obtain⟨h0,h1⟩:=D6 h;obtain⟨i,rfl⟩:∃ i:Nat,t=i:=⟨t.toNat,by omega⟩;have ht:i<p.types.length:=by omega
  simp only[B9,seval];refine cR sD rfl mz (by decide) (aC i) (c:=tyC p.types[i]) (by simp[ht]) rfl ?_;simp only[B9,seval];refine ax rfl (LN _ _ hf) (λ_=>rfl) ?_;simp only[pkA,seval];unfold jO;rw[Au ht]
 |false=>
  have:eD p.types t=none:=by
   cases hx:eD p.types t with
   |none=>rfl
   |some x=>rw[cT,hx] at h;cases h
  simp only[pkA,seval];unfold jO;rw[this]
theorem ad7 {r:Ru} {k a b:Int} {K:V->Prop}:nh Tryz.prog .eql 94 (.agg (ruC r)) (.agg [C.lit (.int .i64 k),C.lit (.int .i64 a),C.lit (.int .i64 b)]) K=K (bo (decide (r=⟨k,a,b⟩))):=
 Kp.U6 (x:=r) (y:=⟨k,a,b⟩)
theorem NK (p:Pol) (k a b:Int) (hr:p.rules.length<=1000000):FnOK Tryz.prog G 31 [.agg (poC p),i64 k,i64 a,i64 b] (bo (li p k a b)):=by
 refine bD (rs:=[.tmp 8]) false [] mixed Tryz.func31 rfl rfl rfl rfl (by kernel_rfl) (by simp) rfl rfl ?_;simp only[pkA,seval];refine cm (λi:Nat=>hdS [(1,i64 k),(2,i64 a),(3,i64 b),(4,.bp 0 0),(9,i64 i)] [(poC p).map .c]) (λi=>p.rules.length - i) (λi=>i<=p.rules.length/\∀ j (h:j<p.rules.length),j<i->p.rules[j]≠⟨k,a,b⟩) 0 ⟨ar _,by simp⟩ ?_ ?_
 .refine bT rfl (ar _) (by simp) ?_ ?_
  .simp[FL,aw]
  .simp[BL]
 rintro i ⟨hi,eX⟩ R bN b8 db;simp only[B9,seval,aj];refine aJ (λbF=>?_) (λfu=>?_)
 .have bF:i<p.rules.length:=by simpa using bF
  have hw:=wrap_i64 (i+1) (by omega);simp only[B9,seval];refine cR vg rfl mA (by decide) (aC i) (c:=ruC p.rules[i]) (by simp[bF]) rfl ?_;simp only[B9,seval,ad7];refine aJ (λhy=>?_) (λhn=>?_)
  .have hy:p.rules[i]=⟨k,a,b⟩:=by simpa using hy
   simp only[pkA,seval];refine db _ ?_;have:li p k a b=true:=(by unfold li;rw[decide_eq_true_iff,<- hy];exact aH bF);simp only[pkA,seval,this]
  .have hn:p.rules[i]≠⟨k,a,b⟩:=by simpa using hn
   simp only[pkA,seval];refine bN (i+1) _ ⟨bF,λj h hj=>?_⟩ (by omega) (bT rfl (ar _) (by simp) ?_ ?_)
   .rcases cd j i with h1 | h1
    .exact eX j h h1
    .have:j=i:=by omega
     subst this;exact hn
   .simp[FL,aw,hw]
   .simp[BL,bxs]
 .have:i=p.rules.length:=by simp at fu;omega
  subst this;have:li p k a b=false:=by unfold li;rw[cJ];intro hm;obtain⟨j,hj,e⟩:=eo hm;exact eX j hj hj e
  simp only[pkA];refine b8 _ _ ?_;simp only[pkA,seval,this]
theorem rX (xs ys:List Fa) (hx:xs.length<=1000000000) (hy:ys.length<=1000000000):FnOK Tryz.prog G 17 [.c (fsC xs),.c (fsC ys)] (bo (decide (xs=ys))):=by
 refine bD (rs:=[.tmp 4]) false [] mixed Tryz.func17 rfl rfl rfl rfl (by kernel_rfl) (by simp) rfl rfl ?_;simp only[qn,seval,fsC,aj];refine aJ (λgu=>?_) (λfO=>?_)
 .have:¬ xs=ys:=λe=>by subst e;simp at gu
  simp only[pkA,seval,this,aO]
 .have fO:xs.length=ys.length:=by simp at fO;omega
  simp only[pkA,seval];refine cm (λi:Nat=>hdS [(0,.c (fsC xs)),(1,.c (fsC ys)),(5,i64 i)] []) (λi=>xs.length - i) (λi=>i<=xs.length/\xs.take i=ys.take i) 0 ⟨ar _,rfl⟩ ?_ ?_
  .refine bT rfl (ar _) (ai _) ?_ trivial
   simp[FL,aw,fsC]
  rintro i ⟨hi,eX⟩ R bN b8 db;simp only[qn,seval,fsC,aj];refine aJ (λbF=>?_) (λfu=>?_)
  .have bF:i<xs.length:=by simpa using bF
   have kR:i<ys.length:=(by omega);have hw:=wrap_i64 (i+1) (by omega);simp only[pkA,seval];refine cR kD rfl jb (by decide) (aC i) (c:=faC xs[i]) (by simp[bF]) (iZ _) ?_;simp only[NJ,seval];refine cR kD rfl jb (by decide) (aC i) (c:=faC ys[i]) (by simp[kR]) (iZ _) ?_;simp only[NJ,seval];refine aJ (λhd=>?_) (λhe=>?_)
   .have hd:xs[i]≠ys[i]:=by simpa using hd
    have:¬ xs=ys:=λe=>by subst e;exact hd rfl
    simp only[pkA,seval];refine db _ ?_;simp only[pkA,seval,this,aO]
   .have he:xs[i]=ys[i]:=by simpa using he
    simp only[pkA,seval];refine bN (i+1) _ ⟨bF,?_⟩ (by omega) (bT rfl (ar _) (ar _) ?_ trivial)
    .rw[aR bF,aR kR,eX,he]
    .simp[FL,aw,hw,fsC]
  .have:i=xs.length:=by simp at fu;omega
   subst this;have:xs=ys:=(by rw[ct,fO,ct] at eX;exact eX);simp only[pkA];refine b8 _ _ ?_;simp only[pkA,seval,this,ah]
