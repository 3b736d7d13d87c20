/- Layer 18, the specification: Facts, Reaches, Same. -/
import Derived.Test.YtjfjdomfldolcaaGreatVlN1
set_option maxHeartbeats 8000000
set_option linter.all false
namespace Go.Proofs.YtjfjdomfldolcaaGreat
open Go Go.Vl
variable {G:Gl}
set_option maxRecDepth 4000
def Jg:=jj @pkA (jj @ptA (jj @pkI @gj))
def lS:=jj @pkA @gj
def Nu:=jj @pkA (jj @gj @pkY)
def zV:=jj @pkA (jj @ptA (jj @gj @pkY))
theorem P5 {p:Pol} (h:PolS p):FnOK Tryz.prog G 17 [.agg (poC p)] (.c (fsC (dP p))):=by
 refine cL (rs:=[.tmp 2]) false [14] mixed Tryz.func17 rfl rfl rfl rfl (by kernel_rfl) (by simp) rfl rfl ?_
 have JS:=h.sat
 have Mo:=jU p
 simp only[Jg,seval]
 refine aB rfl (vu h) (fun h=>by cases h) ?_
 rw[nK]
 simp only[lS,seval]
 refine bE (fun i:Nat=>hdS [(3,.c (wsC (cC p))),(4,owF ((dP p).take i)),(5,i64 i)] []) (fun i=>(cC p).length - i) (fun i=>i≤(cC p).length) 0 (ar _) ?_ ?_
 ·exact cD rfl (ar _) (ar _) (by simp[FL,ak,owF]) trivial
 rintro i hi R cj cJ eP
 simp only[Nu,seval]
 refine aT (fun bK=>?_) (fun gr=>?_)
 ·have bK:i<(cC p).length:=by simpa using bK
  have hw:=bG (n:=(i:Int)+1) (k:=i+1) (by omega) (by omega)
  have e1:((i+1:Nat):Int)=(i:Int)+1:=by omega
  simp only[lS,seval,wsC,iY]
  refine dR kO rfl gX (by decide) (aA i) (c:=wyC (cC p)[i]) (by simp[bK]) rfl ?_
  have r5:jY 3 [(0,V.agg (faC (cC p)[i].fact))] [[C.lit (Value.int IntKind.i64 0),C.lit (Value.int IntKind.i64 0),C.lit (Value.int IntKind.i64 0)]]=some [faC (cC p)[i].fact]:=rfl
  simp only[zV,seval,r5,cG]
  refine pY (by rw[aN];omega) ?_
  simp only[lS,seval,iY,hw]
  have NR:i<(dP p).length:=by unfold dP aL;rw[au];exact bK
  have e2:(dP p).take (i+1)=(dP p).take i++[(cC p)[i].fact]:=by
   have hg:(dP p)[i]=(cC p)[i].fact:=j6 _
   rw[aC NR,hg]
  refine cj (i+1) _ bK (by omega) (cD rfl (ar _) (ar _) (by simp[FL,ak,e1,e2,wsC]) trivial)
 ·have:i=(cC p).length:=by simp at gr;omega
  subst this
  have kP:(cC p).length=(dP p).length:=by unfold dP aL;rw[au]
  simp only[pkA]
  refine cJ _ _ ?_
  simp only[lS,seval,nH]
  rw[kP,bD];try rfl
theorem Nv {p:Pol} {f:Fa}:(0<kS (cC p) f)↔f∈aL (fg p):=by
 have qz:=vz p
 rw[nK] at qz
 have h0:=oo qz.pos (f:=f)
 have h1:f∈aL (cC p)↔f∈aL (fg p):=pz (jT _ _)
 have h2:0≤kS (cC p) f:=by
  unfold kS
  cases hf:(cC p).find? (fun w=>decide (w.fact=f)) with
  |none=>exact mC 0
  |some w=>
   have:=qz.pos w (jF hf)
   simp only[b8,cx];omega
 rw[← h1]
 constructor
 ·intro h3
  exact jG fun h4=>by have:=h0.2 h4;omega
 ·intro h3
  have:kS (cC p) f≠0:=fun h4=>h0.1 h4 h3
  omega
theorem Jh {p:Pol} (h:PolS p):FnOK Tryz.prog G 19 [.agg (poC p)] (.c (fsC (sZ p))):=by
 refine cL (rs:=[.tmp 2]) false [24] mixed Tryz.func19 rfl rfl rfl rfl (by kernel_rfl) (by simp) rfl rfl ?_
 have JS:=h.sat
 have hty:=h.ty
 have Mo:=jU p
 have WC:=@Cf p
 simp only[Jg,seval]
 refine aB rfl (vu h) (fun h=>by cases h) ?_
 rw[nK]
 simp only[Jg,seval]
 refine aB rfl (aad p (by omega)) (fun h=>by cases h) ?_
 rw[← Vs]
 simp only[lS,seval]
 refine bE (fun i:Nat=>hdS [(3,.c (wsC (cC p))),(4,.c (fsC (j4 p))),(5,owF (((j4 p).take i).filter fun f=>decide (f∈aL (fg p)))),(6,i64 i)] []) (fun i=>(j4 p).length - i) (fun i=>i≤(j4 p).length) 0 (ar _) ?_ ?_
 ·exact cD rfl (ar _) (ar _) (by simp[FL,ak,owF]) trivial
 rintro i hi R cj cJ eP
 simp only[Nu,seval]
 refine aT (fun bK=>?_) (fun gr=>?_)
 ·have bK:i<(j4 p).length:=by simpa using bK
  have hw:=bG (n:=(i:Int)+1) (k:=i+1) (by omega) (by omega)
  have e1:((i+1:Nat):Int)=(i:Int)+1:=by omega
  have ix:∀ {K:V→Prop},K (.c (.rp (faC (j4 p)[i]) 0))→cE Tryz.prog 37 (.c (.sl ((j4 p).map faC))) (i64 i) K:=fun {K} hK=>
   dR fk rfl eY (by decide) (aA i) (c:=faC (j4 p)[i]) (by simp[bK]) rfl hK
  simp only[lS,seval,fsC]
  refine ix ?_
  simp only[Jg,seval]
  refine aB rfl (uN _ (j4 p)[i] (by omega)) (fun _=>rfl) ?_
  simp only[pkA,seval]
  have e2:∀ b,decide ((j4 p)[i]∈aL (fg p))=b→((j4 p).take (i+1)).filter (fun f=>decide (f∈aL (fg p)))=if b then((j4 p).take i).filter (fun f=>decide (f∈aL (fg p)))++[(j4 p)[i]] else((j4 p).take i).filter (fun f=>decide (f∈aL (fg p))):=fun b hb=>by
   rw[aC bK,fG]
   cases b
   ·simp[hb]
   ·simp[hb]
  refine aT (fun hy=>?_) (fun hn=>?_)
  ·have hy:decide ((j4 p)[i]∈aL (fg p))=true:=cu (Nv.1 (by simpa using hy))
   have r5:jY 3 [(0,V.agg (faC (j4 p)[i]))] [[C.lit (Value.int IntKind.i64 0),C.lit (Value.int IntKind.i64 0),C.lit (Value.int IntKind.i64 0)]]=some [faC (j4 p)[i]]:=rfl
   simp only[lS,seval,iY]
   refine ix ?_
   simp only[Jg,seval,r5,cG]
   refine pY (by have:=ck (fun f=>decide (f∈aL (fg p))) ((j4 p).take i);rw[aN] at this;omega) ?_
   simp only[lS,seval,iY,hw]
   refine cj (i+1) _ bK (by omega) (cD rfl (ar _) (ar _) (by simp[FL,ak,e1,e2 true hy,fsC]) trivial)
  ·have hn:decide ((j4 p)[i]∈aL (fg p))=false:=dM fun q=>by have:=Nv.2 q;simp at hn;omega
   simp only[lS,seval,hw]
   refine cj (i+1) _ bK (by omega) (cD rfl (ar _) (ar _) (by simp[FL,ak,e1,e2 false hn,fsC]) trivial)
 ·have:i=(j4 p).length:=by simp at gr;omega
  subst this
  simp only[pkA]
  refine cJ _ _ ?_
  simp only[lS,seval,nH]
  rw[bD];try rfl
theorem afE {a b:Wy} (h1:a.fact=b.fact) (h2:a.round=b.round) (h3:a.rule=b.rule) (h4:a.pre=b.pre):a=b:=by
 cases a;cases b;simp_all
theorem Ji (a b:List Wy) (hm:a.length≤1000000000) (ha:∀ w∈a,w.pre.length≤1000000000):FnOK Tryz.prog G 12 [.c (wsC a),.c (wsC b)] (bo (decide (a=b))):=by
 refine cL (rs:=[.tmp 4]) false [] mixed Tryz.func12 rfl rfl rfl rfl (by kernel_rfl) (by simp) rfl rfl ?_
 simp only[Nu,seval]
 refine aT (fun gW=>?_) (fun wX=>?_)
 ·have gW:a≠b:=by rintro rfl;simp at gW
  simp only[pkA,seval]
  rw[dM gW]
 ·have cg:a.length=b.length:=by simp at wX;omega
  simp only[pkA,seval]
  refine bE (fun i:Nat=>hdS [(0,.c (wsC a)),(1,.c (wsC b)),(5,i64 i)] []) (fun i=>a.length - i) (fun i=>i≤a.length∧a.take i=b.take i) 0 ⟨ar _,rfl⟩ ?_ ?_
  ·exact cD rfl (ar _) (ar _) (by simp[FL,ak]) trivial
  rintro i ⟨hi,ht⟩ R cj cJ eP
  simp only[Nu,seval]
  refine aT (fun bK=>?_) (fun gr=>?_)
  ·have bK:i<a.length:=by simpa using bK
   have hlb:i<b.length:=by omega
   have hw:=bG (n:=(i:Int)+1) (k:=i+1) (by omega) (by omega)
   have ixa:∀ {K:V→Prop},K (.c (.rp (wyC a[i]) 0))→cE Tryz.prog 31 (.c (.sl (a.map wyC))) (i64 i) K:=fun {K} hK=>
    dR kO rfl gX (by decide) (aA i) (c:=wyC a[i]) (by simp[bK]) rfl hK
   have ixb:∀ {K:V→Prop},K (.c (.rp (wyC b[i]) 0))→cE Tryz.prog 31 (.c (.sl (b.map wyC))) (i64 i) K:=fun {K} hK=>
    dR kO rfl gX (by decide) (aA i) (c:=wyC b[i]) (by simp[hlb]) rfl hK
   have mH:a[i]≠b[i]→a≠b:=by rintro h rfl;exact h rfl
   have Ml:(a[i]=b[i])→∀ fr:Nat→V,fr 0=.c (.sl (a.map wyC))→fr 1=.c (.sl (b.map wyC))→fr 5=i64 (i+1:Nat)→R .normal ⟨fr,bxs [],0⟩:=fun he fr f0 f1 f5=>by
    refine cj (i+1) _ ⟨bK,?_⟩ (by omega) (cD rfl (ar _) (ar _) ⟨f0,f1,f5,trivial⟩ trivial)
    rw[aC bK,aC hlb,ht,he]
   simp only[lS,seval,wsC]
   refine ixa ?_
   simp only[zV,seval]
   refine ixb ?_
   simp only[zV,seval]
   refine aB rfl (qV _ b[i].pre (ha _ (bL bK))) (fun _=>rfl) ?_
   simp only[lS,seval]
   refine ixa ?_
   simp only[zV,seval]
   refine ixb ?_
   simp only[pkA,ptA,pkI,gj,pkY,seval]
   have NU:a[i]≠b[i]→∀ fr:Nat→V,fr 4=bo false→R .ret ⟨fr,bxs [],0⟩:=fun he fr f4=>by
    refine eP _ ?_
    simp only[pkA,f4]
    rw[dM (mH he)]
   refine fY (fun h1=>?_) (fun h1=>?_)
   ·simp only[lS,seval]
    refine ixa ?_
    simp only[zV,seval]
    refine ixb ?_
    simp only[zV,seval]
    refine fY (fun h2=>?_) (fun h2=>?_)
    ·simp only[lS,seval]
     refine ixa ?_
     simp only[zV,seval]
     refine ixb ?_
     simp only[zV,seval]
     refine fY (fun h3=>?_) (fun h3=>?_)
     ·simp only[lS,seval]
      refine aT (fun h4=>?_) (fun h4=>?_)
      ·simp only[lS,seval]
       exact NU (fun e=>by rw[e] at h4;simp at h4) _ (by simp[])
      ·simp only[lS,seval]
       refine Ml (afE (by simpa using h1) (by simpa using h2) (by simpa using h3) (by simpa using h4)) _ ?_ ?_ ?_
       all_goals simp[ak,hw]
     ·simp only[lS,seval]
      exact NU (fun e=>by rw[e] at h3;simp at h3) _ (by simp[])
    ·simp only[lS,seval]
     exact NU (fun e=>by rw[e] at h2;simp at h2) _ (by simp[])
   ·simp only[lS,seval]
    exact NU (fun e=>by rw[e] at h1;simp at h1) _ (by simp[])
  ·have:i=a.length:=by simp at gr;omega
   subst this
   simp only[pkA]
   refine cJ _ _ ?_
   simp only[lS,seval]
   rw[bD,cg,bD] at ht
   rw[cu ht]
