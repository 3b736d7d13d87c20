/- Layer 16: Reveals, Raw, Same; the specification's Same, SameFacts, Has, May. -/
import Derived.Test.YtegbpjodbjhjeaaGreatDoorVlQ3
set_option linter.all false
namespace Go.Proofs.YtegbpjodbjhjeaaGreatDoor
open Go Go.Vl
open Kp (Pol Ty Ru Qu poC tyC ruC quC)
variable {G:Gl}
set_option maxRecDepth 10000
def pA:=jj @pkA @ptA
def Ve:=jj @pkA (jj @ptA @pkF)
set_option maxHeartbeats 1000000 in
theorem PZ (es:List Fa) (hm:es.length≤1000000000) (x:Fa) :
 FnOK Tryz.prog G 101 [.c (.sl (es.map faC)),.agg (faC x)] (i64 (k7 (fun e=>decide (x=e)) es)):=by
 have g:∀ (nb q:Nat) (f:Fa) K,ldA nb q ((faC f).map .c) 0 3 K=(q<nb∧K (.agg (faC f))):=fun nb q f K=>by
  unfold ldA
  exact propext ⟨fun h=>⟨h.1,h.2.2⟩,fun h=>⟨h.1,⟨rfl,rfl⟩,h.2⟩⟩
 have gm:∀ f:Fa,ck ((faC f).map V.c)=false:=fun _=>rfl
 refine bP (rs:=[.tmp 4]) false [] mixed Tryz.func101 rfl rfl rfl rfl (by kernel_rfl) (by simp) rfl rfl ?_
 simp -implicitDefEqProofs only[pA,seval,ap]
 refine cZ (fun i:Nat=>hdS [(0,.c (.sl (es.map faC))),(3,.bp 0 0),(7,i64 es.length),(8,i64 i)] [(faC x).map .c]) (fun i=>es.length - i) (fun i=>i≤es.length∧∀ j (h:j<es.length),j<i→(fun e=>decide (x=e)) es[j]=false) 0 ⟨aA _,by simp⟩ ?_ ?_
 ·refine cR rfl (aA _) (by simp) ?_ ?_
  ·simp[FL,ar]
  ·simp[BL]
 rintro i ⟨hi,hno⟩ R hnorm hexit hret
 simp -implicitDefEqProofs only[pkA,seval]
 refine aZ (fun hlt=>?_) (fun hge=>?_)
 ·have hlt:i<es.length:=by simpa using hlt
  simp -implicitDefEqProofs only[pA,seval,g,gm]
  refine dL lv rfl iY (by decide) (aM i) (c:=faC es[i]) (by simp[hlt]) rfl ?_
  simp -implicitDefEqProofs only[Ve,seval]
  refine aZ (fun hy=>?_) (fun hn=>?_)
  ·simp -implicitDefEqProofs only[pkA,seval]
   refine hret _ ?_
   simp -implicitDefEqProofs only[pkA,seval]
   rw[ma hlt hy hno]
  ·have hw:=wrap_i64 (i+1) (by omega)
   simp -implicitDefEqProofs only[pkA,seval]
   refine hnorm (i+1) _ ⟨hlt,fun j h hj=>?_⟩ (by omega) (cR rfl (aA _) (by simp) ?_ ?_)
   ·rcases cx j i with h1 | h1
    ·exact hno j h h1
    ·have:j=i:=by omega
     subst this;exact hn
   ·simp[FL,ar,hw]
   ·simp[BL,bxs]
 ·have:i=es.length:=by simp at hge;omega
  subst this
  simp -implicitDefEqProofs only[pkA]
  refine hexit _ _ ?_
  simp -implicitDefEqProofs only[pkA,seval]
  rw[jI hno]
theorem uT (es:List Fa) (hm:es.length≤1000000000) (x:Fa) :
 FnOK Tryz.prog G 61 [.c (.sl (es.map faC)),.agg (faC x)] (bo (decide (x∈es))):=by
 refine bP (rs:=[.tmp 4]) false [] mixed Tryz.func61 rfl rfl rfl rfl (by kernel_rfl) (by simp) rfl rfl ?_
 simp -implicitDefEqProofs only[Ve,seval]
 refine aD rfl (PZ es hm x) (fun _=>rfl) ?_
 simp -implicitDefEqProofs only[pkA,seval]
 have e:decide (x∈es)=es.any (fun e=>decide (x=e)):=by rw[jw];simp
 rw[e,jo]
theorem zp {s:Sy} (hS:SyOk s):(nr s).length≤20000:=by
 have h0:=Eb (Bz s)
 have h1:=nu (l:=s.os) (f:=lO s) (b:=2) (fun t _=>by unfold lO;split<;>split<;>simp)
 have h2:=nu (l:=eb s.its) (f:=kE s) (b:=1) (fun t _=>by unfold kE;split<;>simp)
 have h3:=(yW (fun t ht=>(hS.iv t ht).1) (kR fun t ht=>(hS.iv t ht).1).1.st (kR fun t ht=>(hS.iv t ht).1).1.kn).1
 have h4:=sZ hS
 have h5:=hS.hn
 have h6:=hS.on
 unfold nr
 have:(Bz s).length≤20000:=by
  unfold Bz
  simp only[aw,ap];omega
 omega
def pB:=jj @pkA (jj @ptA @pkS)
theorem xn {s:Sy} (hS:SyOk s) (k:Int):FnOK Tryz.prog glM 20 [.agg (syC s),i64 k] (bo (Eg s 3 k)):=by
 have:=zp hS
 refine bP (rs:=[.tmp 4]) false [] mixed Tryz.func20 rfl rfl rfl rfl (by kernel_rfl) (by simp) rfl rfl ?_
 simp -implicitDefEqProofs only[pB,seval]
 refine aD rfl (tf hS) (fun h=>(by cases h)) ?_
 simp -implicitDefEqProofs only[pA,seval]
 refine aD rfl (uT (nr s) (by omega) ⟨3,k,0⟩) (fun _=>rfl) ?_
 simp -implicitDefEqProofs only[pkA,seval]
 rfl
theorem YD {s:Sy} (hS:SyOk s) (k:Int):FnOK Tryz.prog glM 22 [.agg (syC s),i64 k] (bo (Eg s 4 k)):=by
 have:=zp hS
 refine bP (rs:=[.tmp 4]) false [] mixed Tryz.func22 rfl rfl rfl rfl (by kernel_rfl) (by simp) rfl rfl ?_
 simp -implicitDefEqProofs only[pB,seval]
 refine aD rfl (tf hS) (fun h=>(by cases h)) ?_
 simp -implicitDefEqProofs only[pA,seval]
 refine aD rfl (uT (nr s) (by omega) ⟨4,k,0⟩) (fun _=>rfl) ?_
 simp -implicitDefEqProofs only[pkA,seval]
 rfl
def xo:=jj @pkA (jj @ptA @pkH)
set_option maxHeartbeats 2000000 in
theorem tj (xs ys:List Hd) (hx:xs.length≤1000000000) (hy:ys.length≤1000000000) (g:FuncId) (hp:∀ x∈xs,∀ y∈ys,FnOK Tryz.prog G g [.agg (hdC x),.agg (hdC y)] (bo (decide (x=y)))) :
 FnOK Tryz.prog G 45 [.c (.sl (xs.map hdC)),.c (.sl (ys.map hdC)),.c (.fn (.func g) [] [])] (bo (decide (xs=ys))):=by
 refine bP (rs:=[.tmp 6]) false [] mixed Tryz.func45 rfl rfl rfl rfl (by kernel_rfl) (by simp) rfl rfl ?_
 simp -implicitDefEqProofs only[pA,seval,ap]
 refine aZ (fun hne=>?_) (fun hle=>?_)
 ·have:¬ xs=ys:=fun e=>by subst e;simp at hne
  simp -implicitDefEqProofs only[pkA,seval,this,bE]
 ·have hle:xs.length=ys.length:=by simp at hle;omega
  simp -implicitDefEqProofs only[pA,seval,ap]
  refine cZ (fun i:Nat=>hdS [(1,.c (.sl (ys.map hdC))),(2,.c (.fn (.func g) [] [])),(15,.c (.sl (xs.map hdC))),(16,i64 xs.length),(17,i64 i)] []) (fun i=>xs.length - i) (fun i=>i≤xs.length∧xs.take i=ys.take i) 0 ⟨aA _,rfl⟩ ?_ ?_
  ·refine cR rfl (aA _) (ae _) ?_ trivial
   simp[FL,ar]
  rintro i ⟨hi,hno⟩ R hnorm hexit hret
  simp -implicitDefEqProofs only[pkA,seval]
  refine aZ (fun hlt=>?_) (fun hge=>?_)
  ·have hlt:i<xs.length:=by simpa using hlt
   have hlt2:i<ys.length:=by omega
   simp -implicitDefEqProofs only[pkA,seval]
   refine dL kO rfl jD (by decide) (aM i) (c:=hdC xs[i]) (by simp[hlt]) (fK _) ?_
   simp -implicitDefEqProofs only[xo,seval,fK]
   refine dL kO rfl jD (by decide) (aM i) (c:=hdC ys[i]) (by simp[hlt2]) (fK _) ?_
   simp -implicitDefEqProofs only[xo,seval,fK]
   refine aD rfl (hp _ (aL hlt) _ (aL hlt2)) (fun _=>rfl) ?_
   simp -implicitDefEqProofs only[pkA,seval]
   refine aZ (fun hd=>?_) (fun he=>?_)
   ·have hd:xs[i]≠ys[i]:=by simpa using hd
    have:¬ xs=ys:=fun e=>by subst e;exact hd rfl
    simp -implicitDefEqProofs only[pkA,seval]
    refine hret _ ?_
    simp -implicitDefEqProofs only[pkA,seval,this,bE]
   ·have he:xs[i]=ys[i]:=by simpa using he
    have hw:=wrap_i64 (i+1) (by omega)
    simp -implicitDefEqProofs only[pkA,seval]
    refine hnorm (i+1) _ ⟨hlt,?_⟩ (by omega) (cR rfl (aA _) (aA _) ?_ trivial)
    ·rw[bg hlt,bg hlt2,hno,he]
    ·simp[FL,ar,hw]
  ·have:i=xs.length:=by simp at hge;omega
   subst this
   have:xs=ys:=by rw[cY,hle,cY] at hno;exact hno
   simp -implicitDefEqProofs only[pkA]
   refine hexit _ _ ?_
   simp -implicitDefEqProofs only[pkA,seval,this,ai]
def Vf:=jj @pkA (jj @ptA @pkT)
set_option maxHeartbeats 2000000 in
theorem tp (xs ys:List Tm) (hx:xs.length≤1000000000) (hy:ys.length≤1000000000) (g:FuncId) (hp:∀ x∈xs,∀ y∈ys,FnOK Tryz.prog G g [.agg (tmC x),.agg (tmC y)] (bo (decide (x=y)))) :
 FnOK Tryz.prog G 46 [.c (.sl (xs.map tmC)),.c (.sl (ys.map tmC)),.c (.fn (.func g) [] [])] (bo (decide (xs=ys))):=by
 refine bP (rs:=[.tmp 6]) false [] mixed Tryz.func46 rfl rfl rfl rfl (by kernel_rfl) (by simp) rfl rfl ?_
 simp -implicitDefEqProofs only[pA,seval,ap]
 refine aZ (fun hne=>?_) (fun hle=>?_)
 ·have:¬ xs=ys:=fun e=>by subst e;simp at hne
  simp -implicitDefEqProofs only[pkA,seval,this,bE]
 ·have hle:xs.length=ys.length:=by simp at hle;omega
  simp -implicitDefEqProofs only[pA,seval,ap]
  refine cZ (fun i:Nat=>hdS [(1,.c (.sl (ys.map tmC))),(2,.c (.fn (.func g) [] [])),(15,.c (.sl (xs.map tmC))),(16,i64 xs.length),(17,i64 i)] []) (fun i=>xs.length - i) (fun i=>i≤xs.length∧xs.take i=ys.take i) 0 ⟨aA _,rfl⟩ ?_ ?_
  ·refine cR rfl (aA _) (ae _) ?_ trivial
   simp[FL,ar]
  rintro i ⟨hi,hno⟩ R hnorm hexit hret
  simp -implicitDefEqProofs only[pkA,seval]
  refine aZ (fun hlt=>?_) (fun hge=>?_)
  ·have hlt:i<xs.length:=by simpa using hlt
   have hlt2:i<ys.length:=by omega
   simp -implicitDefEqProofs only[pkA,seval]
   refine dL dm rfl dc (by decide) (aM i) (c:=tmC xs[i]) (by simp[hlt]) (b8 _) ?_
   simp -implicitDefEqProofs only[Vf,seval]
   refine dL dm rfl dc (by decide) (aM i) (c:=tmC ys[i]) (by simp[hlt2]) (b8 _) ?_
   simp -implicitDefEqProofs only[Vf,seval]
   refine aD rfl (hp _ (aL hlt) _ (aL hlt2)) (fun _=>rfl) ?_
   simp -implicitDefEqProofs only[pkA,seval]
   refine aZ (fun hd=>?_) (fun he=>?_)
   ·have hd:xs[i]≠ys[i]:=by simpa using hd
    have:¬ xs=ys:=fun e=>by subst e;exact hd rfl
    simp -implicitDefEqProofs only[pkA,seval]
    refine hret _ ?_
    simp -implicitDefEqProofs only[pkA,seval,this,bE]
   ·have he:xs[i]=ys[i]:=by simpa using he
    have hw:=wrap_i64 (i+1) (by omega)
    simp -implicitDefEqProofs only[pkA,seval]
    refine hnorm (i+1) _ ⟨hlt,?_⟩ (by omega) (cR rfl (aA _) (aA _) ?_ trivial)
    ·rw[bg hlt,bg hlt2,hno,he]
    ·simp[FL,ar,hw]
  ·have:i=xs.length:=by simp at hge;omega
   subst this
   have:xs=ys:=by rw[cY,hle,cY] at hno;exact hno
   simp -implicitDefEqProofs only[pkA]
   refine hexit _ _ ?_
   simp -implicitDefEqProofs only[pkA,seval,this,ai]
theorem Ej (x y:Hd) (hx:bu x.va≤1000000000) (hy:bu y.va≤1000000000):FnOK Tryz.prog G 43 [.agg (hdC x),.agg (hdC y)] (bo (decide (x=y))):=by
 have e:decide (x=y)=(decide (x.ty=y.ty)&&decide (x.va=y.va)):=by
  obtain⟨a,b⟩:=x;obtain⟨c,d⟩:=y
  simp[Hd.mk.injEq,Bool.decide_and]
 rw[e]
 refine bP (rs:=[.tmp 4]) false [] mixed Tryz.func43 rfl rfl rfl rfl (by kernel_rfl) (by simp) rfl rfl ?_
 by_cases h:x.ty=y.ty
 ·simp -implicitDefEqProofs only[xo,seval,h,ai]
  refine aD rfl (qG _ _ hx hy) (fun _=>rfl) ?_
  simp -implicitDefEqProofs only[pkA,seval]
 ·simp -implicitDefEqProofs only[xo,seval,h,bE]
theorem P0 {P:Program} {tr:List Nat} {d:Nat} {f:FuncId} {ty:TypeId} {pos:String} {af:Array Edge} {g:Option (Nat×Bool)} {fr:Nat→V} {bx:Nat→List V} {nb:Nat} {K:Vl.S→Prop}:VStep P G tr ⟨some d,.assign (.func f),ty,pos,af,g⟩ ⟨fr,bx,nb⟩ K=K ⟨up fr d (.c (.fn (.func f) [] [])),bx,nb⟩:=rfl
theorem Vg {a b:Sy}:decide (a=b)=(decide (a.fresh=b.fresh)&&(decide (a.hs=b.hs)&&(decide (a.os=b.os)&&(decide (a.its=b.its)&&decide (a.rs=b.rs))))):=by
 obtain⟨a1,a2,a3,a4,a5⟩:=a
 obtain⟨b1,b2,b3,b4,b5⟩:=b
 simp only[Sy.mk.injEq]
 rw[jw]
 simp only[bi,aF]
 constructor
 ·rintro⟨h1,h2,h3,h4,h5⟩;exact⟨h5,h1,h3,h2,h4⟩
 ·rintro⟨h5,h1,h3,h2,h4⟩;exact⟨h1,h2,h3,h4,h5⟩
structure SyB (s:Sy):Prop where
 hn:s.hs.length≤1000
 iN:s.its.length≤1000
 on:s.os.length≤1000
 rn:s.rs.length≤1000
 hv:∀ h∈s.hs,bu h.va≤100
 iv:∀ t∈s.its,bu t≤100
 ov:∀ h∈s.os,bu h.va≤100
 rv:∀ t∈s.rs,bu t≤100
theorem SyOk.b {s:Sy} (h:SyOk s):SyB s:=
 ⟨by have:=h.hn;omega,by have:=h.iN;omega,by have:=h.on;have:=h.hn;omega,by have:=h.rn;have:=h.hn;omega,fun x hx=>(h.hv x hx).2.1,fun x hx=>(h.iv x hx).2,fun x hx=>(h.hv x (h.ov x hx)).2.1,fun x hx=>(h.rv x hx).2⟩
set_option maxHeartbeats 2000000 in
theorem HT {a b:Sy} (ha:SyB a) (hb:SyB b):FnOK Tryz.prog G 16 [.agg (syC a),.agg (syC b)] (bo (decide (a=b))):=by
 have l9:∀ {n:Nat},n≤100→n≤1000000000:=fun h=>by omega
 have lk:∀ {n:Nat},n≤1000→n≤1000000000:=fun h=>by omega
 have c1:=tj (G:=G) a.hs b.hs (lk ha.hn) (lk hb.hn) 43 fun x hx y hy=>Ej x y (l9 (ha.hv x hx)) (l9 (hb.hv y hy))
 have c2:=tj (G:=G) a.os b.os (lk ha.on) (lk hb.on) 43 fun x hx y hy=>Ej x y (l9 (ha.ov x hx)) (l9 (hb.ov y hy))
 have c3:=tp (G:=G) a.its b.its (lk ha.iN) (lk hb.iN) 44 fun x hx y hy=>qG x y (l9 (ha.iv x hx)) (l9 (hb.iv y hy))
 have c4:=tp (G:=G) a.rs b.rs (lk ha.rn) (lk hb.rn) 44 fun x hx y hy=>qG x y (l9 (ha.rv x hx)) (l9 (hb.rv y hy))
 rw[Vg]
 refine bP (rs:=[.tmp 4]) false [] mixed Tryz.func16 rfl rfl rfl rfl (by kernel_rfl) (by simp) rfl rfl ?_
 by_cases h1:a.fresh=b.fresh
 case neg=>simp -implicitDefEqProofs only[pB,seval,P0,h1,bE]
 simp -implicitDefEqProofs only[pB,seval,P0,h1,ai]
 refine aD rfl c1 (fun _=>rfl) ?_
 by_cases h2:a.hs=b.hs
 case neg=>simp -implicitDefEqProofs only[pkA,seval,h2,bE]
 simp -implicitDefEqProofs only[pB,seval,h2,ai]
 refine aD rfl c2 (fun _=>rfl) ?_
 by_cases h3:a.os=b.os
 case neg=>simp -implicitDefEqProofs only[pkA,seval,h3,bE]
 simp -implicitDefEqProofs only[pB,seval,h3,ai]
 refine aD rfl c3 (fun _=>rfl) ?_
 by_cases h4:a.its=b.its
 case neg=>simp -implicitDefEqProofs only[pkA,seval,h4,bE]
 simp -implicitDefEqProofs only[pB,seval,h4,ai]
 refine aD rfl c4 (fun _=>rfl) ?_
 simp -implicitDefEqProofs only[pkA,seval]
set_option maxHeartbeats 2000000 in
theorem qj (xs ys:List Hd) (hx:xs.length≤1000000000) (hy:ys.length≤1000000000) (vx:∀ x∈xs,bu x.va≤1000000000) (vy:∀ x∈ys,bu x.va≤1000000000) :
 FnOK Tryz.prog G 33 [.c (hsC xs),.c (hsC ys)] (bo (decide (xs=ys))):=by
 refine bP (rs:=[.tmp 4]) false [] mixed Tryz.func33 rfl rfl rfl rfl (by kernel_rfl) (by simp) rfl rfl ?_
 simp -implicitDefEqProofs only[pA,seval,hsC,ap]
 refine aZ (fun hne=>?_) (fun hle=>?_)
 ·have:¬ xs=ys:=fun e=>by subst e;simp at hne
  simp -implicitDefEqProofs only[pkA,seval,this,bE]
 ·have hle:xs.length=ys.length:=by simp at hle;omega
  simp -implicitDefEqProofs only[pkA,seval]
  refine cZ (fun i:Nat=>hdS [(0,.c (hsC xs)),(1,.c (hsC ys)),(5,i64 i)] []) (fun i=>xs.length - i) (fun i=>i≤xs.length∧xs.take i=ys.take i) 0 ⟨aA _,rfl⟩ ?_ ?_
  ·refine cR rfl (aA _) (ae _) ?_ trivial
   simp[FL,ar,hsC]
  rintro i ⟨hi,hno⟩ R hnorm hexit hret
  simp -implicitDefEqProofs only[pA,seval,hsC,ap]
  refine aZ (fun hlt=>?_) (fun hge=>?_)
  ·have hlt:i<xs.length:=by simpa using hlt
   have hlt2:i<ys.length:=by omega
   have hw:=wrap_i64 (i+1) (by omega)
   have iax:∀ K,K (.c (.rp (hdC xs[i]) 0))→cw Tryz.prog 32 (.c (.sl (xs.map hdC))) (i64 (i:Int)) K:=fun K hK=>
    dL kO rfl jD (by decide) (aM i) (c:=hdC xs[i]) (by simp[hlt]) (fK _) hK
   have iay:∀ K,K (.c (.rp (hdC ys[i]) 0))→cw Tryz.prog 32 (.c (.sl (ys.map hdC))) (i64 (i:Int)) K:=fun K hK=>
    dL kO rfl jD (by decide) (aM i) (c:=hdC ys[i]) (by simp[hlt2]) (fK _) hK
   have no:xs[i]≠ys[i]→¬ xs=ys:=fun hd e=>by subst e;exact hd rfl
   have same:xs[i]=ys[i]→xs.take (i+1)=ys.take (i+1):=fun he=>by rw[bg hlt,bg hlt2,hno,he]
   have vxi:=vx _ (aL hlt)
   have vyi:=vy _ (aL hlt2)
   have ext:xs[i]=ys[i]↔xs[i].ty=ys[i].ty∧xs[i].va=ys[i].va:=by
    generalize xs[i]=x;generalize ys[i]=y
    obtain⟨a,b⟩:=x;obtain⟨c,d⟩:=y;simp
   generalize xs[i]=x at *
   generalize ys[i]=y at *
   simp -implicitDefEqProofs only[pkA,seval]
   refine iax _ ?_
   simp -implicitDefEqProofs only[xo,seval]
   refine iay _ ?_
   by_cases ht:x.ty=y.ty
   ·simp -implicitDefEqProofs only[xo,seval,ht,ai]
    refine iax _ ?_
    simp -implicitDefEqProofs only[pA,seval,PV]
    refine iay _ ?_
    simp -implicitDefEqProofs only[pA,seval,PV]
    refine aD rfl (PW _ _ vxi vyi) (fun _=>rfl) ?_
    by_cases hv:x.va=y.va
    ·simp -implicitDefEqProofs only[pkA,seval,hv,ai]
     refine hnorm (i+1) _ ⟨hlt,same (ext.2 ⟨ht,hv⟩)⟩ (by omega) (cR rfl (aA _) (aA _) ?_ trivial)
     simp[FL,ar,hw,hsC]
    ·simp -implicitDefEqProofs only[pkA,seval,hv,bE]
     refine hret _ ?_
     simp -implicitDefEqProofs only[pkA,seval,no fun e=>hv (ext.1 e).2,bE]
   ·simp -implicitDefEqProofs only[xo,seval,ht,bE]
    refine hret _ ?_
    simp -implicitDefEqProofs only[pkA,seval,no fun e=>ht (ext.1 e).1,bE]
  ·have:i=xs.length:=by simp at hge;omega
   subst this
   have:xs=ys:=by rw[cY,hle,cY] at hno;exact hno
   simp -implicitDefEqProofs only[pkA]
   refine hexit _ _ ?_
   simp -implicitDefEqProofs only[pkA,seval,this,ai]
set_option maxHeartbeats 2000000 in
theorem KD {a b:Sy} (ha:SyB a) (hb:SyB b):FnOK Tryz.prog G 13 [.agg (syC a),.agg (syC b)] (bo (decide (a=b))):=by
 have l9:∀ {n:Nat},n≤100→n≤1000000000:=fun h=>by omega
 have lk:∀ {n:Nat},n≤1000→n≤1000000000:=fun h=>by omega
 have ls:∀ {l:List Tm},l.length≤1000→(∀ t∈l,bu t≤100)→cH l≤1000000000:=fun {l} h1 h2=>by
  have:=zh h2
  have:l.length*100≤1000*100:=aO _ h1
  omega
 have c1:=qj (G:=G) a.hs b.hs (lk ha.hn) (lk hb.hn) (fun x hx=>l9 (ha.hv x hx)) (fun y hy=>l9 (hb.hv y hy))
 have c2:=qj (G:=G) a.os b.os (lk ha.on) (lk hb.on) (fun x hx=>l9 (ha.ov x hx)) (fun y hy=>l9 (hb.ov y hy))
 have c3:=Dn (G:=G) a.its b.its (ls ha.iN ha.iv) (ls hb.iN hb.iv)
 have c4:=Dn (G:=G) a.rs b.rs (ls ha.rn ha.rv) (ls hb.rn hb.rv)
 rw[Vg]
 refine bP (rs:=[.tmp 4]) false [] mixed Tryz.func13 rfl rfl rfl rfl (by kernel_rfl) (by simp) rfl rfl ?_
 by_cases h1:a.fresh=b.fresh
 case neg=>simp -implicitDefEqProofs only[pB,seval,h1,bE]
 simp -implicitDefEqProofs only[pB,seval,h1,ai]
 refine aD rfl c1 (fun _=>rfl) ?_
 by_cases h2:a.hs=b.hs
 case neg=>simp -implicitDefEqProofs only[pkA,seval,h2,bE]
 simp -implicitDefEqProofs only[pB,seval,h2,ai]
 refine aD rfl c2 (fun _=>rfl) ?_
 by_cases h3:a.os=b.os
 case neg=>simp -implicitDefEqProofs only[pkA,seval,h3,bE]
 simp -implicitDefEqProofs only[pB,seval,h3,ai]
 refine aD rfl c3 (fun _=>rfl) ?_
 by_cases h4:a.its=b.its
 case neg=>simp -implicitDefEqProofs only[pkA,seval,h4,bE]
 simp -implicitDefEqProofs only[pB,seval,h4,ai]
 refine aD rfl c4 (fun _=>rfl) ?_
 simp -implicitDefEqProofs only[pkA,seval]
