/- Layer 16: Reveals, Raw, Same; the specification's Same, SameFacts, Has, May. -/
import Derived.Test.YtegbpjodbjhjeaaGreatDoorVlQ3
set_option linter.all false
namespace Go.Proofs.YtegbpjodbjhjeaaGreatDoor
open Go Go.Vl
open Kp (Pol Ty Ru Qu poC tyC ruC quC)
variable {G:Gl}
set_option maxRecDepth 10000
def sc:=jj @pkA @ptA
def ZK:=jj @pkA (jj @ptA @pkF)
set_option maxHeartbeats 1000000 in
theorem U7 (es:List Fa) (hm:es.length≤1000000000) (x:Fa) :
 FnOK Tryz.prog G 101 [.c (.sl (es.map faC)),.agg (faC x)] (i64 (mP (fun e=>decide (x=e)) es)):=by
 have g:∀ (nb q:Nat) (f:Fa) K,ldA nb q ((faC f).map .c) 0 3 K=(q<nb∧K (.agg (faC f))):=fun nb q f K=>by
  unfold ldA
  exact propext ⟨fun h=>⟨h.1,h.2.2⟩,fun h=>⟨h.1,⟨rfl,rfl⟩,h.2⟩⟩
 have gm:∀ f:Fa,dc ((faC f).map V.c)=false:=fun _=>rfl
 refine bE (rs:=[.tmp 4]) false [] mixed Tryz.func101 rfl rfl rfl rfl (by kernel_rfl) (by simp) rfl rfl ?_
 simp -implicitDefEqProofs only[sc,seval,am]
 refine ck (fun i:Nat=>hdS [(0,.c (.sl (es.map faC))),(3,.bp 0 0),(7,i64 es.length),(8,i64 i)] [(faC x).map .c]) (fun i=>es.length - i) (fun i=>i≤es.length∧∀ j (h:j<es.length),j<i→(fun e=>decide (x=e)) es[j]=false) 0 ⟨ar _,by simp⟩ ?_ ?_
 ·refine bT rfl (ar _) (by simp) ?_ ?_
  ·simp[FL,au]
  ·simp[BL]
 rintro i ⟨hi,fm⟩ R bS cd cX
 simp -implicitDefEqProofs only[pkA,seval]
 refine aL (fun bB=>?_) (fun fA=>?_)
 ·have bB:i<es.length:=by simpa using bB
  simp -implicitDefEqProofs only[sc,seval,g,gm]
  refine df nU rfl kP (by decide) (aD i) (c:=faC es[i]) (by simp[bB]) rfl ?_
  simp -implicitDefEqProofs only[ZK,seval]
  refine aL (fun hy=>?_) (fun hn=>?_)
  ·simp -implicitDefEqProofs only[pkA,seval]
   refine cX _ ?_
   simp -implicitDefEqProofs only[pkA,seval]
   rw[nS bB hy fm]
  ·have hw:=wrap_i64 (i+1) (by omega)
   simp -implicitDefEqProofs only[pkA,seval]
   refine bS (i+1) _ ⟨bB,fun j h hj=>?_⟩ (by omega) (bT rfl (ar _) (by simp) ?_ ?_)
   ·rcases ct j i with h1 | h1
    ·exact fm j h h1
    ·have:j=i:=by omega
     subst this;exact hn
   ·simp[FL,au,hw]
   ·simp[BL,bxs]
 ·have:i=es.length:=by simp at fA;omega
  subst this
  simp -implicitDefEqProofs only[pkA]
  refine cd _ _ ?_
  simp -implicitDefEqProofs only[pkA,seval]
  rw[kY fm]
theorem ze (es:List Fa) (hm:es.length≤1000000000) (x:Fa) :
 FnOK Tryz.prog G 61 [.c (.sl (es.map faC)),.agg (faC x)] (bo (decide (x∈es))):=by
 refine bE (rs:=[.tmp 4]) false [] mixed Tryz.func61 rfl rfl rfl rfl (by kernel_rfl) (by simp) rfl rfl ?_
 simp -implicitDefEqProofs only[ZK,seval]
 refine ay rfl (U7 es hm x) (fun _=>rfl) ?_
 simp -implicitDefEqProofs only[pkA,seval]
 have e:decide (x∈es)=es.any (fun e=>decide (x=e)):=by rw[iL];simp
 rw[e,kw]
theorem DT {s:Sy} (hS:SyOk s):(pI s).length≤20000:=by
 have h0:=IT (F4 s)
 have h1:=pJ (l:=s.os) (f:=mI s) (b:=2) (fun t _=>by unfold mI;split<;>split<;>simp)
 have h2:=pJ (l:=en s.its) (f:=lQ s) (b:=1) (fun t _=>by unfold lQ;split<;>simp)
 have h3:=(o7 (fun t ht=>(hS.iv t ht).1) (ly fun t ht=>(hS.iv t ht).1).1.st (ly fun t ht=>(hS.iv t ht).1).1.kn).1
 have h4:=tJ hS
 have h5:=hS.hn
 have h6:=hS.on
 unfold pI
 have:(F4 s).length≤20000:=by
  unfold F4
  simp only[ax,am];omega
 omega
def sd:=jj @pkA (jj @ptA @pkS)
theorem ny {s:Sy} (hS:SyOk s) (k:Int):FnOK Tryz.prog glM 20 [.agg (syC s),i64 k] (bo (uN s 3 k)):=by
 have:=DT hS
 refine bE (rs:=[.tmp 4]) false [] mixed Tryz.func20 rfl rfl rfl rfl (by kernel_rfl) (by simp) rfl rfl ?_
 simp -implicitDefEqProofs only[sd,seval]
 refine ay rfl (xm hS) (fun h=>(by cases h)) ?_
 simp -implicitDefEqProofs only[sc,seval]
 refine ay rfl (ze (pI s) (by omega) ⟨3,k,0⟩) (fun _=>rfl) ?_
 simp -implicitDefEqProofs only[pkA,seval]
 rfl
theorem Lm {s:Sy} (hS:SyOk s) (k:Int):FnOK Tryz.prog glM 22 [.agg (syC s),i64 k] (bo (uN s 4 k)):=by
 have:=DT hS
 refine bE (rs:=[.tmp 4]) false [] mixed Tryz.func22 rfl rfl rfl rfl (by kernel_rfl) (by simp) rfl rfl ?_
 simp -implicitDefEqProofs only[sd,seval]
 refine ay rfl (xm hS) (fun h=>(by cases h)) ?_
 simp -implicitDefEqProofs only[sc,seval]
 refine ay rfl (ze (pI s) (by omega) ⟨4,k,0⟩) (fun _=>rfl) ?_
 simp -implicitDefEqProofs only[pkA,seval]
 rfl
def BG:=jj @pkA (jj @ptA @pkH)
set_option maxHeartbeats 2000000 in
theorem xp (xs ys:List Hd) (hx:xs.length≤1000000000) (hy:ys.length≤1000000000) (g:FuncId) (hp:∀ x∈xs,∀ y∈ys,FnOK Tryz.prog G g [.agg (hdC x),.agg (hdC y)] (bo (decide (x=y)))) :
 FnOK Tryz.prog G 45 [.c (.sl (xs.map hdC)),.c (.sl (ys.map hdC)),.c (.fn (.func g) [] [])] (bo (decide (xs=ys))):=by
 refine bE (rs:=[.tmp 6]) false [] mixed Tryz.func45 rfl rfl rfl rfl (by kernel_rfl) (by simp) rfl rfl ?_
 simp -implicitDefEqProofs only[sc,seval,am]
 refine aL (fun fO=>?_) (fun fy=>?_)
 ·have:¬ xs=ys:=fun e=>by subst e;simp at fO
  simp -implicitDefEqProofs only[pkA,seval,this,bK]
 ·have fy:xs.length=ys.length:=by simp at fy;omega
  simp -implicitDefEqProofs only[sc,seval,am]
  refine ck (fun i:Nat=>hdS [(1,.c (.sl (ys.map hdC))),(2,.c (.fn (.func g) [] [])),(15,.c (.sl (xs.map hdC))),(16,i64 xs.length),(17,i64 i)] []) (fun i=>xs.length - i) (fun i=>i≤xs.length∧xs.take i=ys.take i) 0 ⟨ar _,rfl⟩ ?_ ?_
  ·refine bT rfl (ar _) (ae _) ?_ trivial
   simp[FL,au]
  rintro i ⟨hi,fm⟩ R bS cd cX
  simp -implicitDefEqProofs only[pkA,seval]
  refine aL (fun bB=>?_) (fun fA=>?_)
  ·have bB:i<xs.length:=by simpa using bB
   have m4:i<ys.length:=by omega
   simp -implicitDefEqProofs only[pkA,seval]
   refine df kN rfl jp (by decide) (aD i) (c:=hdC xs[i]) (by simp[bB]) (fi _) ?_
   simp -implicitDefEqProofs only[BG,seval,fi]
   refine df kN rfl jp (by decide) (aD i) (c:=hdC ys[i]) (by simp[m4]) (fi _) ?_
   simp -implicitDefEqProofs only[BG,seval,fi]
   refine ay rfl (hp _ (aF bB) _ (aF m4)) (fun _=>rfl) ?_
   simp -implicitDefEqProofs only[pkA,seval]
   refine aL (fun hd=>?_) (fun he=>?_)
   ·have hd:xs[i]≠ys[i]:=by simpa using hd
    have:¬ xs=ys:=fun e=>by subst e;exact hd rfl
    simp -implicitDefEqProofs only[pkA,seval]
    refine cX _ ?_
    simp -implicitDefEqProofs only[pkA,seval,this,bK]
   ·have he:xs[i]=ys[i]:=by simpa using he
    have hw:=wrap_i64 (i+1) (by omega)
    simp -implicitDefEqProofs only[pkA,seval]
    refine bS (i+1) _ ⟨bB,?_⟩ (by omega) (bT rfl (ar _) (ar _) ?_ trivial)
    ·rw[aQ bB,aQ m4,fm,he]
    ·simp[FL,au,hw]
  ·have:i=xs.length:=by simp at fA;omega
   subst this
   have:xs=ys:=by rw[cw,fy,cw] at fm;exact fm
   simp -implicitDefEqProofs only[pkA]
   refine cd _ _ ?_
   simp -implicitDefEqProofs only[pkA,seval,this,ai]
def ZL:=jj @pkA (jj @ptA @pkT)
set_option maxHeartbeats 2000000 in
theorem xq (xs ys:List Tm) (hx:xs.length≤1000000000) (hy:ys.length≤1000000000) (g:FuncId) (hp:∀ x∈xs,∀ y∈ys,FnOK Tryz.prog G g [.agg (tmC x),.agg (tmC y)] (bo (decide (x=y)))) :
 FnOK Tryz.prog G 46 [.c (.sl (xs.map tmC)),.c (.sl (ys.map tmC)),.c (.fn (.func g) [] [])] (bo (decide (xs=ys))):=by
 refine bE (rs:=[.tmp 6]) false [] mixed Tryz.func46 rfl rfl rfl rfl (by kernel_rfl) (by simp) rfl rfl ?_
 simp -implicitDefEqProofs only[sc,seval,am]
 refine aL (fun fO=>?_) (fun fy=>?_)
 ·have:¬ xs=ys:=fun e=>by subst e;simp at fO
  simp -implicitDefEqProofs only[pkA,seval,this,bK]
 ·have fy:xs.length=ys.length:=by simp at fy;omega
  simp -implicitDefEqProofs only[sc,seval,am]
  refine ck (fun i:Nat=>hdS [(1,.c (.sl (ys.map tmC))),(2,.c (.fn (.func g) [] [])),(15,.c (.sl (xs.map tmC))),(16,i64 xs.length),(17,i64 i)] []) (fun i=>xs.length - i) (fun i=>i≤xs.length∧xs.take i=ys.take i) 0 ⟨ar _,rfl⟩ ?_ ?_
  ·refine bT rfl (ar _) (ae _) ?_ trivial
   simp[FL,au]
  rintro i ⟨hi,fm⟩ R bS cd cX
  simp -implicitDefEqProofs only[pkA,seval]
  refine aL (fun bB=>?_) (fun fA=>?_)
  ·have bB:i<xs.length:=by simpa using bB
   have m4:i<ys.length:=by omega
   simp -implicitDefEqProofs only[pkA,seval]
   refine df du rfl dl (by decide) (aD i) (c:=tmC xs[i]) (by simp[bB]) (bG _) ?_
   simp -implicitDefEqProofs only[ZL,seval]
   refine df du rfl dl (by decide) (aD i) (c:=tmC ys[i]) (by simp[m4]) (bG _) ?_
   simp -implicitDefEqProofs only[ZL,seval]
   refine ay rfl (hp _ (aF bB) _ (aF m4)) (fun _=>rfl) ?_
   simp -implicitDefEqProofs only[pkA,seval]
   refine aL (fun hd=>?_) (fun he=>?_)
   ·have hd:xs[i]≠ys[i]:=by simpa using hd
    have:¬ xs=ys:=fun e=>by subst e;exact hd rfl
    simp -implicitDefEqProofs only[pkA,seval]
    refine cX _ ?_
    simp -implicitDefEqProofs only[pkA,seval,this,bK]
   ·have he:xs[i]=ys[i]:=by simpa using he
    have hw:=wrap_i64 (i+1) (by omega)
    simp -implicitDefEqProofs only[pkA,seval]
    refine bS (i+1) _ ⟨bB,?_⟩ (by omega) (bT rfl (ar _) (ar _) ?_ trivial)
    ·rw[aQ bB,aQ m4,fm,he]
    ·simp[FL,au,hw]
  ·have:i=xs.length:=by simp at fA;omega
   subst this
   have:xs=ys:=by rw[cw,fy,cw] at fm;exact fm
   simp -implicitDefEqProofs only[pkA]
   refine cd _ _ ?_
   simp -implicitDefEqProofs only[pkA,seval,this,ai]
theorem IY (x y:Hd) (hx:bq x.va≤1000000000) (hy:bq y.va≤1000000000):FnOK Tryz.prog G 43 [.agg (hdC x),.agg (hdC y)] (bo (decide (x=y))):=by
 have e:decide (x=y)=(decide (x.ty=y.ty)&&decide (x.va=y.va)):=by
  obtain⟨a,b⟩:=x;obtain⟨c,d⟩:=y
  simp[Hd.mk.injEq,Bool.decide_and]
 rw[e]
 refine bE (rs:=[.tmp 4]) false [] mixed Tryz.func43 rfl rfl rfl rfl (by kernel_rfl) (by simp) rfl rfl ?_
 by_cases h:x.ty=y.ty
 ·simp -implicitDefEqProofs only[BG,seval,h,ai]
  refine ay rfl (uw _ _ hx hy) (fun _=>rfl) ?_
  simp -implicitDefEqProofs only[pkA,seval]
 ·simp -implicitDefEqProofs only[BG,seval,h,bK]
theorem U8 {P:Program} {tr:List Nat} {d:Nat} {f:FuncId} {ty:TypeId} {pos:String} {af:Array Edge} {g:Option (Nat×Bool)} {fr:Nat→V} {bx:Nat→List V} {nb:Nat} {K:Vl.S→Prop}:VStep P G tr ⟨some d,.assign (.func f),ty,pos,af,g⟩ ⟨fr,bx,nb⟩ K=K ⟨up fr d (.c (.fn (.func f) [] [])),bx,nb⟩:=rfl
theorem ZM {a b:Sy}:decide (a=b)=(decide (a.fresh=b.fresh)&&(decide (a.hs=b.hs)&&(decide (a.os=b.os)&&(decide (a.its=b.its)&&decide (a.rs=b.rs))))):=by
 obtain⟨a1,a2,a3,a4,a5⟩:=a
 obtain⟨b1,b2,b3,b4,b5⟩:=b
 simp only[Sy.mk.injEq]
 rw[iL]
 simp only[bj,aI]
 constructor
 ·rintro⟨h1,h2,h3,h4,h5⟩;exact⟨h5,h1,h3,h2,h4⟩
 ·rintro⟨h5,h1,h3,h2,h4⟩;exact⟨h1,h2,h3,h4,h5⟩
structure SyB (s:Sy):Prop where
 hn:s.hs.length≤1000
 iN:s.its.length≤1000
 on:s.os.length≤1000
 rn:s.rs.length≤1000
 hv:∀ h∈s.hs,bq h.va≤100
 iv:∀ t∈s.its,bq t≤100
 ov:∀ h∈s.os,bq h.va≤100
 rv:∀ t∈s.rs,bq t≤100
theorem SyOk.b {s:Sy} (h:SyOk s):SyB s:=
 ⟨by have:=h.hn;omega,by have:=h.iN;omega,by have:=h.on;have:=h.hn;omega,by have:=h.rn;have:=h.hn;omega,fun x hx=>(h.hv x hx).2.1,fun x hx=>(h.iv x hx).2,fun x hx=>(h.hv x (h.ov x hx)).2.1,fun x hx=>(h.rv x hx).2⟩
set_option maxHeartbeats 2000000 in
theorem Nj {a b:Sy} (ha:SyB a) (hb:SyB b):FnOK Tryz.prog G 16 [.agg (syC a),.agg (syC b)] (bo (decide (a=b))):=by
 have l9:∀ {n:Nat},n≤100→n≤1000000000:=fun h=>by omega
 have lk:∀ {n:Nat},n≤1000→n≤1000000000:=fun h=>by omega
 have c1:=xp (G:=G) a.hs b.hs (lk ha.hn) (lk hb.hn) 43 fun x hx y hy=>IY x y (l9 (ha.hv x hx)) (l9 (hb.hv y hy))
 have c2:=xp (G:=G) a.os b.os (lk ha.on) (lk hb.on) 43 fun x hx y hy=>IY x y (l9 (ha.ov x hx)) (l9 (hb.ov y hy))
 have c3:=xq (G:=G) a.its b.its (lk ha.iN) (lk hb.iN) 44 fun x hx y hy=>uw x y (l9 (ha.iv x hx)) (l9 (hb.iv y hy))
 have c4:=xq (G:=G) a.rs b.rs (lk ha.rn) (lk hb.rn) 44 fun x hx y hy=>uw x y (l9 (ha.rv x hx)) (l9 (hb.rv y hy))
 rw[ZM]
 refine bE (rs:=[.tmp 4]) false [] mixed Tryz.func16 rfl rfl rfl rfl (by kernel_rfl) (by simp) rfl rfl ?_
 by_cases h1:a.fresh=b.fresh
 case neg=>simp -implicitDefEqProofs only[sd,seval,U8,h1,bK]
 simp -implicitDefEqProofs only[sd,seval,U8,h1,ai]
 refine ay rfl c1 (fun _=>rfl) ?_
 by_cases h2:a.hs=b.hs
 case neg=>simp -implicitDefEqProofs only[pkA,seval,h2,bK]
 simp -implicitDefEqProofs only[sd,seval,h2,ai]
 refine ay rfl c2 (fun _=>rfl) ?_
 by_cases h3:a.os=b.os
 case neg=>simp -implicitDefEqProofs only[pkA,seval,h3,bK]
 simp -implicitDefEqProofs only[sd,seval,h3,ai]
 refine ay rfl c3 (fun _=>rfl) ?_
 by_cases h4:a.its=b.its
 case neg=>simp -implicitDefEqProofs only[pkA,seval,h4,bK]
 simp -implicitDefEqProofs only[sd,seval,h4,ai]
 refine ay rfl c4 (fun _=>rfl) ?_
 simp -implicitDefEqProofs only[pkA,seval]
set_option maxHeartbeats 2000000 in
theorem tN (xs ys:List Hd) (hx:xs.length≤1000000000) (hy:ys.length≤1000000000) (vx:∀ x∈xs,bq x.va≤1000000000) (vy:∀ x∈ys,bq x.va≤1000000000) :
 FnOK Tryz.prog G 33 [.c (hsC xs),.c (hsC ys)] (bo (decide (xs=ys))):=by
 refine bE (rs:=[.tmp 4]) false [] mixed Tryz.func33 rfl rfl rfl rfl (by kernel_rfl) (by simp) rfl rfl ?_
 simp -implicitDefEqProofs only[sc,seval,hsC,am]
 refine aL (fun fO=>?_) (fun fy=>?_)
 ·have:¬ xs=ys:=fun e=>by subst e;simp at fO
  simp -implicitDefEqProofs only[pkA,seval,this,bK]
 ·have fy:xs.length=ys.length:=by simp at fy;omega
  simp -implicitDefEqProofs only[pkA,seval]
  refine ck (fun i:Nat=>hdS [(0,.c (hsC xs)),(1,.c (hsC ys)),(5,i64 i)] []) (fun i=>xs.length - i) (fun i=>i≤xs.length∧xs.take i=ys.take i) 0 ⟨ar _,rfl⟩ ?_ ?_
  ·refine bT rfl (ar _) (ae _) ?_ trivial
   simp[FL,au,hsC]
  rintro i ⟨hi,fm⟩ R bS cd cX
  simp -implicitDefEqProofs only[sc,seval,hsC,am]
  refine aL (fun bB=>?_) (fun fA=>?_)
  ·have bB:i<xs.length:=by simpa using bB
   have m4:i<ys.length:=by omega
   have hw:=wrap_i64 (i+1) (by omega)
   have iax:∀ K,K (.c (.rp (hdC xs[i]) 0))→cA Tryz.prog 32 (.c (.sl (xs.map hdC))) (i64 (i:Int)) K:=fun K hK=>
    df kN rfl jp (by decide) (aD i) (c:=hdC xs[i]) (by simp[bB]) (fi _) hK
   have iay:∀ K,K (.c (.rp (hdC ys[i]) 0))→cA Tryz.prog 32 (.c (.sl (ys.map hdC))) (i64 (i:Int)) K:=fun K hK=>
    df kN rfl jp (by decide) (aD i) (c:=hdC ys[i]) (by simp[m4]) (fi _) hK
   have no:xs[i]≠ys[i]→¬ xs=ys:=fun hd e=>by subst e;exact hd rfl
   have same:xs[i]=ys[i]→xs.take (i+1)=ys.take (i+1):=fun he=>by rw[aQ bB,aQ m4,fm,he]
   have vxi:=vx _ (aF bB)
   have vyi:=vy _ (aF m4)
   have ext:xs[i]=ys[i]↔xs[i].ty=ys[i].ty∧xs[i].va=ys[i].va:=by
    generalize xs[i]=x;generalize ys[i]=y
    obtain⟨a,b⟩:=x;obtain⟨c,d⟩:=y;simp
   generalize xs[i]=x at *
   generalize ys[i]=y at *
   simp -implicitDefEqProofs only[pkA,seval]
   refine iax _ ?_
   simp -implicitDefEqProofs only[BG,seval]
   refine iay _ ?_
   by_cases ht:x.ty=y.ty
   ·simp -implicitDefEqProofs only[BG,seval,ht,ai]
    refine iax _ ?_
    simp -implicitDefEqProofs only[sc,seval,UX]
    refine iay _ ?_
    simp -implicitDefEqProofs only[sc,seval,UX]
    refine ay rfl (UY _ _ vxi vyi) (fun _=>rfl) ?_
    by_cases hv:x.va=y.va
    ·simp -implicitDefEqProofs only[pkA,seval,hv,ai]
     refine bS (i+1) _ ⟨bB,same (ext.2 ⟨ht,hv⟩)⟩ (by omega) (bT rfl (ar _) (ar _) ?_ trivial)
     simp[FL,au,hw,hsC]
    ·simp -implicitDefEqProofs only[pkA,seval,hv,bK]
     refine cX _ ?_
     simp -implicitDefEqProofs only[pkA,seval,no fun e=>hv (ext.1 e).2,bK]
   ·simp -implicitDefEqProofs only[BG,seval,ht,bK]
    refine cX _ ?_
    simp -implicitDefEqProofs only[pkA,seval,no fun e=>ht (ext.1 e).1,bK]
  ·have:i=xs.length:=by simp at fA;omega
   subst this
   have:xs=ys:=by rw[cw,fy,cw] at fm;exact fm
   simp -implicitDefEqProofs only[pkA]
   refine cd _ _ ?_
   simp -implicitDefEqProofs only[pkA,seval,this,ai]
set_option maxHeartbeats 2000000 in
theorem yC {a b:Sy} (ha:SyB a) (hb:SyB b):FnOK Tryz.prog G 13 [.agg (syC a),.agg (syC b)] (bo (decide (a=b))):=by
 have l9:∀ {n:Nat},n≤100→n≤1000000000:=fun h=>by omega
 have lk:∀ {n:Nat},n≤1000→n≤1000000000:=fun h=>by omega
 have ls:∀ {l:List Tm},l.length≤1000→(∀ t∈l,bq t≤100)→cF l≤1000000000:=fun {l} h1 h2=>by
  have:=DD h2
  have:l.length*100≤1000*100:=aS _ h1
  omega
 have c1:=tN (G:=G) a.hs b.hs (lk ha.hn) (lk hb.hn) (fun x hx=>l9 (ha.hv x hx)) (fun y hy=>l9 (hb.hv y hy))
 have c2:=tN (G:=G) a.os b.os (lk ha.on) (lk hb.on) (fun x hx=>l9 (ha.ov x hx)) (fun y hy=>l9 (hb.ov y hy))
 have c3:=H5 (G:=G) a.its b.its (ls ha.iN ha.iv) (ls hb.iN hb.iv)
 have c4:=H5 (G:=G) a.rs b.rs (ls ha.rn ha.rv) (ls hb.rn hb.rv)
 rw[ZM]
 refine bE (rs:=[.tmp 4]) false [] mixed Tryz.func13 rfl rfl rfl rfl (by kernel_rfl) (by simp) rfl rfl ?_
 by_cases h1:a.fresh=b.fresh
 case neg=>simp -implicitDefEqProofs only[sd,seval,h1,bK]
 simp -implicitDefEqProofs only[sd,seval,h1,ai]
 refine ay rfl c1 (fun _=>rfl) ?_
 by_cases h2:a.hs=b.hs
 case neg=>simp -implicitDefEqProofs only[pkA,seval,h2,bK]
 simp -implicitDefEqProofs only[sd,seval,h2,ai]
 refine ay rfl c2 (fun _=>rfl) ?_
 by_cases h3:a.os=b.os
 case neg=>simp -implicitDefEqProofs only[pkA,seval,h3,bK]
 simp -implicitDefEqProofs only[sd,seval,h3,ai]
 refine ay rfl c3 (fun _=>rfl) ?_
 by_cases h4:a.its=b.its
 case neg=>simp -implicitDefEqProofs only[pkA,seval,h4,bK]
 simp -implicitDefEqProofs only[sd,seval,h4,ai]
 refine ay rfl c4 (fun _=>rfl) ?_
 simp -implicitDefEqProofs only[pkA,seval]
