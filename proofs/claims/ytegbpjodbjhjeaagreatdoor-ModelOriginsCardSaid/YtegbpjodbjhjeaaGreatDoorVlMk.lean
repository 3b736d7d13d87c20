/- Layer 16: Reveals, Raw, Same; the specification's Same, SameFacts, Has, May. -/
import Derived.Test.YtegbpjodbjhjeaaGreatDoorVlQ3
set_option maxHeartbeats 2000000
set_option linter.all false
namespace Go.Proofs.YtegbpjodbjhjeaaGreatDoor
open Go Go.Vl
open Kp (Pol Ty Ru Qu poC tyC ruC quC)
variable {G:Gl}
set_option maxRecDepth 10000
def yn:=jj @pkA @ptA
def Yv:=jj @pkA (jj @ptA @pkF)
theorem TS (es:List Fa) (hm:es.length≤1000000000) (x:Fa) :
 FnOK Tryz.prog G 101 [.c (.sl (es.map faC)),.agg (faC x)] (i64 (mo (fun e=>decide (x=e)) es)):=by
 have g:∀ (nb q:Nat) (f:Fa) K,ldA nb q ((faC f).map .c) 0 3 K=(q<nb∧K (.agg (faC f))):=fun nb q f K=>by
  unfold ldA
  exact propext ⟨fun h=>⟨h.1,h.2.2⟩,fun h=>⟨h.1,⟨rfl,rfl⟩,h.2⟩⟩
 have gm:∀ f:Fa,cX ((faC f).map V.c)=false:=fun _=>rfl
 refine bP (rs:=[.tmp 4]) false [] mixed Tryz.func101 rfl rfl rfl rfl (by kernel_rfl) (by simp) rfl rfl ?_
 simp -implicitDefEqProofs only[yn,seval,ap]
 refine cF (fun i:Nat=>hdS [(0,.c (.sl (es.map faC))),(3,.bp 0 0),(7,i64 es.length),(8,i64 i)] [(faC x).map .c]) (fun i=>es.length - i) (fun i=>i≤es.length∧∀ j (h:j<es.length),j<i→(fun e=>decide (x=e)) es[j]=false) 0 ⟨au _,by simp⟩ ?_ ?_
 ·refine cj rfl (au _) (by simp) ?_ ?_
  ·simp[FL,ar]
  ·simp[BL]
 rintro i ⟨hi,fU⟩ R ck cG dn
 simp -implicitDefEqProofs only[pkA,seval]
 refine aV (fun bF=>?_) (fun ga=>?_)
 ·have bF:i<es.length:=by simpa using bF
  simp -implicitDefEqProofs only[yn,seval,g,gm]
  refine dz ny rfl kB (by decide) (aI i) (c:=faC es[i]) (by simp[bF]) rfl ?_
  simp -implicitDefEqProofs only[Yv,seval]
  refine aV (fun hy=>?_) (fun hn=>?_)
  ·simp -implicitDefEqProofs only[pkA,seval]
   refine dn _ ?_
   simp -implicitDefEqProofs only[pkA,seval]
   rw[nv bF hy fU]
  ·have hw:=wrap_i64 (i+1) (by omega)
   simp -implicitDefEqProofs only[pkA,seval]
   refine ck (i+1) _ ⟨bF,fun j h hj=>?_⟩ (by omega) (cj rfl (au _) (by simp) ?_ ?_)
   ·rcases cN j i with h1 | h1
    ·exact fU j h h1
    ·have:j=i:=by omega
     subst this;exact hn
   ·simp[FL,ar,hw]
   ·simp[BL,bxs]
 ·have:i=es.length:=by simp at ga;omega
  subst this
  simp -implicitDefEqProofs only[pkA]
  refine cG _ _ ?_
  simp -implicitDefEqProofs only[pkA,seval]
  rw[kH fU]
theorem yo (es:List Fa) (hm:es.length≤1000000000) (x:Fa) :
 FnOK Tryz.prog G 61 [.c (.sl (es.map faC)),.agg (faC x)] (bo (decide (x∈es))):=by
 refine bP (rs:=[.tmp 4]) false [] mixed Tryz.func61 rfl rfl rfl rfl (by kernel_rfl) (by simp) rfl rfl ?_
 simp -implicitDefEqProofs only[Yv,seval]
 refine aD rfl (TS es hm x) (fun _=>rfl) ?_
 simp -implicitDefEqProofs only[pkA,seval]
 have e:decide (x∈es)=es.any (fun e=>decide (x=e)):=by rw[jm];simp
 rw[e,ka]
theorem CE {s:Sy} (hS:SyOk s):(pf s).length≤20000:=by
 have h0:=HJ (EP s)
 have h1:=pg (l:=s.os) (f:=mf s) (b:=2) (fun t _=>by unfold mf;split<;>split<;>simp)
 have h2:=pg (l:=d4 s.its) (f:=lw s) (b:=1) (fun t _=>by unfold lw;split<;>simp)
 have h3:=(oD (fun t ht=>(hS.iv t ht).1) (k7 fun t ht=>(hS.iv t ht).1).1.st (k7 fun t ht=>(hS.iv t ht).1).1.kn).1
 have h4:=sL hS
 have h5:=hS.hn
 have h6:=hS.on
 unfold pf
 have:(EP s).length≤20000:=by
  unfold EP
  simp only[ax,ap];omega
 omega
def AE:=jj @pkA (jj @ptA @pkS)
theorem rc {s:Sy} (hS:SyOk s) (k:Int):FnOK Tryz.prog glM 20 [.agg (syC s),i64 k] (bo (wl s 3 k)):=by
 have:=CE hS
 refine bP (rs:=[.tmp 4]) false [] mixed Tryz.func20 rfl rfl rfl rfl (by kernel_rfl) (by simp) rfl rfl ?_
 simp -implicitDefEqProofs only[AE,seval]
 refine aD rfl (wi hS) (fun h=>(by cases h)) ?_
 simp -implicitDefEqProofs only[yn,seval]
 refine aD rfl (yo (pf s) (by omega) ⟨3,k,0⟩) (fun _=>rfl) ?_
 simp -implicitDefEqProofs only[pkA,seval]
 rfl
theorem Ka {s:Sy} (hS:SyOk s) (k:Int):FnOK Tryz.prog glM 22 [.agg (syC s),i64 k] (bo (wl s 4 k)):=by
 have:=CE hS
 refine bP (rs:=[.tmp 4]) false [] mixed Tryz.func22 rfl rfl rfl rfl (by kernel_rfl) (by simp) rfl rfl ?_
 simp -implicitDefEqProofs only[AE,seval]
 refine aD rfl (wi hS) (fun h=>(by cases h)) ?_
 simp -implicitDefEqProofs only[yn,seval]
 refine aD rfl (yo (pf s) (by omega) ⟨4,k,0⟩) (fun _=>rfl) ?_
 simp -implicitDefEqProofs only[pkA,seval]
 rfl
def L8:=jj @pkA (jj @ptA @pkH)
theorem wn (xs ys:List Hd) (hx:xs.length≤1000000000) (hy:ys.length≤1000000000) (g:FuncId) (hp:∀ x∈xs,∀ y∈ys,FnOK Tryz.prog G g [.agg (hdC x),.agg (hdC y)] (bo (decide (x=y)))) :
 FnOK Tryz.prog G 45 [.c (.sl (xs.map hdC)),.c (.sl (ys.map hdC)),.c (.fn (.func g) [] [])] (bo (decide (xs=ys))):=by
 refine bP (rs:=[.tmp 6]) false [] mixed Tryz.func45 rfl rfl rfl rfl (by kernel_rfl) (by simp) rfl rfl ?_
 simp -implicitDefEqProofs only[yn,seval,ap]
 refine aV (fun gv=>?_) (fun fx=>?_)
 ·have:¬ xs=ys:=fun e=>by subst e;simp at gv
  simp -implicitDefEqProofs only[pkA,seval,this,cd]
 ·have fx:xs.length=ys.length:=by simp at fx;omega
  simp -implicitDefEqProofs only[yn,seval,ap]
  refine cF (fun i:Nat=>hdS [(1,.c (.sl (ys.map hdC))),(2,.c (.fn (.func g) [] [])),(15,.c (.sl (xs.map hdC))),(16,i64 xs.length),(17,i64 i)] []) (fun i=>xs.length - i) (fun i=>i≤xs.length∧xs.take i=ys.take i) 0 ⟨au _,rfl⟩ ?_ ?_
  ·refine cj rfl (au _) (ae _) ?_ trivial
   simp[FL,ar]
  rintro i ⟨hi,fU⟩ R ck cG dn
  simp -implicitDefEqProofs only[pkA,seval]
  refine aV (fun bF=>?_) (fun ga=>?_)
  ·have bF:i<xs.length:=by simpa using bF
   have nS:i<ys.length:=by omega
   simp -implicitDefEqProofs only[pkA,seval]
   refine dz l6 rfl jU (by decide) (aI i) (c:=hdC xs[i]) (by simp[bF]) (fi _) ?_
   simp -implicitDefEqProofs only[L8,seval,fi]
   refine dz l6 rfl jU (by decide) (aI i) (c:=hdC ys[i]) (by simp[nS]) (fi _) ?_
   simp -implicitDefEqProofs only[L8,seval,fi]
   refine aD rfl (hp _ (aF bF) _ (aF nS)) (fun _=>rfl) ?_
   simp -implicitDefEqProofs only[pkA,seval]
   refine aV (fun hd=>?_) (fun he=>?_)
   ·have hd:xs[i]≠ys[i]:=by simpa using hd
    have:¬ xs=ys:=fun e=>by subst e;exact hd rfl
    simp -implicitDefEqProofs only[pkA,seval]
    refine dn _ ?_
    simp -implicitDefEqProofs only[pkA,seval,this,cd]
   ·have he:xs[i]=ys[i]:=by simpa using he
    have hw:=wrap_i64 (i+1) (by omega)
    simp -implicitDefEqProofs only[pkA,seval]
    refine ck (i+1) _ ⟨bF,?_⟩ (by omega) (cj rfl (au _) (au _) ?_ trivial)
    ·rw[aU bF,aU nS,fU,he]
    ·simp[FL,ar,hw]
  ·have:i=xs.length:=by simp at ga;omega
   subst this
   have:xs=ys:=by rw[cx,fx,cx] at fU;exact fU
   simp -implicitDefEqProofs only[pkA]
   refine cG _ _ ?_
   simp -implicitDefEqProofs only[pkA,seval,this,ai]
def Yw:=jj @pkA (jj @ptA @pkT)
theorem wo (xs ys:List Tm) (hx:xs.length≤1000000000) (hy:ys.length≤1000000000) (g:FuncId) (hp:∀ x∈xs,∀ y∈ys,FnOK Tryz.prog G g [.agg (tmC x),.agg (tmC y)] (bo (decide (x=y)))) :
 FnOK Tryz.prog G 46 [.c (.sl (xs.map tmC)),.c (.sl (ys.map tmC)),.c (.fn (.func g) [] [])] (bo (decide (xs=ys))):=by
 refine bP (rs:=[.tmp 6]) false [] mixed Tryz.func46 rfl rfl rfl rfl (by kernel_rfl) (by simp) rfl rfl ?_
 simp -implicitDefEqProofs only[yn,seval,ap]
 refine aV (fun gv=>?_) (fun fx=>?_)
 ·have:¬ xs=ys:=fun e=>by subst e;simp at gv
  simp -implicitDefEqProofs only[pkA,seval,this,cd]
 ·have fx:xs.length=ys.length:=by simp at fx;omega
  simp -implicitDefEqProofs only[yn,seval,ap]
  refine cF (fun i:Nat=>hdS [(1,.c (.sl (ys.map tmC))),(2,.c (.fn (.func g) [] [])),(15,.c (.sl (xs.map tmC))),(16,i64 xs.length),(17,i64 i)] []) (fun i=>xs.length - i) (fun i=>i≤xs.length∧xs.take i=ys.take i) 0 ⟨au _,rfl⟩ ?_ ?_
  ·refine cj rfl (au _) (ae _) ?_ trivial
   simp[FL,ar]
  rintro i ⟨hi,fU⟩ R ck cG dn
  simp -implicitDefEqProofs only[pkA,seval]
  refine aV (fun bF=>?_) (fun ga=>?_)
  ·have bF:i<xs.length:=by simpa using bF
   have nS:i<ys.length:=by omega
   simp -implicitDefEqProofs only[pkA,seval]
   refine dz dq rfl di (by decide) (aI i) (c:=tmC xs[i]) (by simp[bF]) (bI _) ?_
   simp -implicitDefEqProofs only[Yw,seval]
   refine dz dq rfl di (by decide) (aI i) (c:=tmC ys[i]) (by simp[nS]) (bI _) ?_
   simp -implicitDefEqProofs only[Yw,seval]
   refine aD rfl (hp _ (aF bF) _ (aF nS)) (fun _=>rfl) ?_
   simp -implicitDefEqProofs only[pkA,seval]
   refine aV (fun hd=>?_) (fun he=>?_)
   ·have hd:xs[i]≠ys[i]:=by simpa using hd
    have:¬ xs=ys:=fun e=>by subst e;exact hd rfl
    simp -implicitDefEqProofs only[pkA,seval]
    refine dn _ ?_
    simp -implicitDefEqProofs only[pkA,seval,this,cd]
   ·have he:xs[i]=ys[i]:=by simpa using he
    have hw:=wrap_i64 (i+1) (by omega)
    simp -implicitDefEqProofs only[pkA,seval]
    refine ck (i+1) _ ⟨bF,?_⟩ (by omega) (cj rfl (au _) (au _) ?_ trivial)
    ·rw[aU bF,aU nS,fU,he]
    ·simp[FL,ar,hw]
  ·have:i=xs.length:=by simp at ga;omega
   subst this
   have:xs=ys:=by rw[cx,fx,cx] at fU;exact fU
   simp -implicitDefEqProofs only[pkA]
   refine cG _ _ ?_
   simp -implicitDefEqProofs only[pkA,seval,this,ai]
theorem HQ (x y:Hd) (hx:br x.va≤1000000000) (hy:br y.va≤1000000000):FnOK Tryz.prog G 43 [.agg (hdC x),.agg (hdC y)] (bo (decide (x=y))):=by
 have e:decide (x=y)=(decide (x.ty=y.ty)&&decide (x.va=y.va)):=by
  obtain⟨a,b⟩:=x;obtain⟨c,d⟩:=y
  simp[Hd.mk.injEq,Bool.decide_and]
 rw[e]
 refine bP (rs:=[.tmp 4]) false [] mixed Tryz.func43 rfl rfl rfl rfl (by kernel_rfl) (by simp) rfl rfl ?_
 by_cases h:x.ty=y.ty
 ·simp -implicitDefEqProofs only[L8,seval,h,ai]
  refine aD rfl (tD _ _ hx hy) (fun _=>rfl) ?_
  simp -implicitDefEqProofs only[pkA,seval]
 ·simp -implicitDefEqProofs only[L8,seval,h,cd]
theorem TU {P:Program} {tr:List Nat} {d:Nat} {f:FuncId} {ty:TypeId} {pos:String} {af:Array Edge} {g:Option (Nat×Bool)} {fr:Nat→V} {bx:Nat→List V} {nb:Nat} {K:Vl.S→Prop}:VStep P G tr ⟨some d,.assign (.func f),ty,pos,af,g⟩ ⟨fr,bx,nb⟩ K=K ⟨up fr d (.c (.fn (.func f) [] [])),bx,nb⟩:=rfl
theorem aeb {a b:Sy}:decide (a=b)=(decide (a.fresh=b.fresh)&&(decide (a.hs=b.hs)&&(decide (a.os=b.os)&&(decide (a.its=b.its)&&decide (a.rs=b.rs))))):=by
 obtain⟨a1,a2,a3,a4,a5⟩:=a
 obtain⟨b1,b2,b3,b4,b5⟩:=b
 simp only[Sy.mk.injEq]
 rw[jm]
 simp only[bi,aG]
 constructor
 ·rintro⟨h1,h2,h3,h4,h5⟩;exact⟨h5,h1,h3,h2,h4⟩
 ·rintro⟨h5,h1,h3,h2,h4⟩;exact⟨h1,h2,h3,h4,h5⟩
structure SyB (s:Sy):Prop where
 hn:s.hs.length≤1000
 iN:s.its.length≤1000
 on:s.os.length≤1000
 rn:s.rs.length≤1000
 hv:∀ h∈s.hs,br h.va≤100
 iv:∀ t∈s.its,br t≤100
 ov:∀ h∈s.os,br h.va≤100
 rv:∀ t∈s.rs,br t≤100
theorem SyOk.b {s:Sy} (h:SyOk s):SyB s:=
 ⟨by have:=h.hn;omega,by have:=h.iN;omega,by have:=h.on;have:=h.hn;omega,by have:=h.rn;have:=h.hn;omega,fun x hx=>(h.hv x hx).2.1,fun x hx=>(h.iv x hx).2,fun x hx=>(h.hv x (h.ov x hx)).2.1,fun x hx=>(h.rv x hx).2⟩
theorem L9 {a b:Sy} (ha:SyB a) (hb:SyB b):FnOK Tryz.prog G 16 [.agg (syC a),.agg (syC b)] (bo (decide (a=b))):=by
 have l9:∀ {n:Nat},n≤100→n≤1000000000:=fun h=>by omega
 have lk:∀ {n:Nat},n≤1000→n≤1000000000:=fun h=>by omega
 have c1:=wn (G:=G) a.hs b.hs (lk ha.hn) (lk hb.hn) 43 fun x hx y hy=>HQ x y (l9 (ha.hv x hx)) (l9 (hb.hv y hy))
 have c2:=wn (G:=G) a.os b.os (lk ha.on) (lk hb.on) 43 fun x hx y hy=>HQ x y (l9 (ha.ov x hx)) (l9 (hb.ov y hy))
 have c3:=wo (G:=G) a.its b.its (lk ha.iN) (lk hb.iN) 44 fun x hx y hy=>tD x y (l9 (ha.iv x hx)) (l9 (hb.iv y hy))
 have c4:=wo (G:=G) a.rs b.rs (lk ha.rn) (lk hb.rn) 44 fun x hx y hy=>tD x y (l9 (ha.rv x hx)) (l9 (hb.rv y hy))
 rw[aeb]
 refine bP (rs:=[.tmp 4]) false [] mixed Tryz.func16 rfl rfl rfl rfl (by kernel_rfl) (by simp) rfl rfl ?_
 by_cases h1:a.fresh=b.fresh
 case neg=>simp -implicitDefEqProofs only[AE,seval,TU,h1,cd]
 simp -implicitDefEqProofs only[AE,seval,TU,h1,ai]
 refine aD rfl c1 (fun _=>rfl) ?_
 by_cases h2:a.hs=b.hs
 case neg=>simp -implicitDefEqProofs only[pkA,seval,h2,cd]
 simp -implicitDefEqProofs only[AE,seval,h2,ai]
 refine aD rfl c2 (fun _=>rfl) ?_
 by_cases h3:a.os=b.os
 case neg=>simp -implicitDefEqProofs only[pkA,seval,h3,cd]
 simp -implicitDefEqProofs only[AE,seval,h3,ai]
 refine aD rfl c3 (fun _=>rfl) ?_
 by_cases h4:a.its=b.its
 case neg=>simp -implicitDefEqProofs only[pkA,seval,h4,cd]
 simp -implicitDefEqProofs only[AE,seval,h4,ai]
 refine aD rfl c4 (fun _=>rfl) ?_
 simp -implicitDefEqProofs only[pkA,seval]
