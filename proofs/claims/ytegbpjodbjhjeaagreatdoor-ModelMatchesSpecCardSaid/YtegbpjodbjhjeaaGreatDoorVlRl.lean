/- Layer 16: the law that the machine is the specification's. -/
import Derived.Test.YtegbpjodbjhjeaaGreatDoorVlRk
set_option linter.all false
namespace Go.Proofs.YtegbpjodbjhjeaaGreatDoor
open Go Go.Vl
open Kp (Pol poC)
set_option maxRecDepth 10000
theorem ag1 {p:Pol} {s:Sy} {c:Cl} (hp:POk p) (hS:SyOk s):SyB (stR (fp p s c)).1:=by
 cases h:fp p s c with
 |error e=>exact sok0.b
 |ok s'=>exact(ub hS hp.t h).b
theorem U7 {x:Bool}:(!(x==x))=false:=by simp
def aa7:=jj @pkA (jj @ptA @Kp.pkP)
def aa8:=jj @pkA (jj @ptA (jj @pkS (jj @xz @Kp.pkP)))
def aa9:=jj @pkA (jj @ptA (jj @pkS @xz))
def Wj:=jj @pkA (jj @ptA (jj @xz @Kp.pkP))
def En:=jj @pkA (jj @ptA @xz)
def aba:=jj @pkA (jj @ptA (jj @pkH @xz))
def abb:=jj @pkA (jj @ptA (jj @pkT @xz))
set_option maxHeartbeats 16000000 in
theorem Wk (p:Pol) (l:List Cl) (c:Cl) (k:Int) (hP:Kp.PolIn p):FnOK Tryz.prog glM 3 [.agg (poC p),.c (sR l),.agg (clC c),i64 k] (bo true):=by
 have hz:fW [V.ow none [],.ow none [],.ow none [],.ow none [],i64 0] 0 [V.c (.sl []),.c (.sl []),.c (.sl []),.c (.sl []),i64 0]=(syC sy0).map .c:=rfl;have few:=ad8 (G:=glM) p l;have san:=Qp;refine bD (rs:=[.tmp 8]) false [] mixed Tryz.func3 rfl rfl rfl rfl (by kernel_rfl) (by simp) rfl rfl ?_;simp -implicitDefEqProofs only[aa7,seval,sR,ah];refine ax rfl few (by first | exact(λh=>by cases h) | exact λ_=>rfl) ?_
 simp -implicitDefEqProofs only[pkA,seval];cases hf:Go.Proofs.YtegbpjodbjhjeaaGreatDoor.few p l.length with
 |false=>
  simp -implicitDefEqProofs only[pkA,seval];refine ax rfl san (by first | exact(λh=>by cases h) | exact λ_=>rfl) ?_
  simp -implicitDefEqProofs only[pkA,seval]
 |true=>
 obtain⟨hp,hl⟩:=ZH hP hf;have hR:=VJ hp l (by omega);have hRR:=ZQ hp l (by omega);have dV:=Gq hp.t l sy0 0 sok0;generalize hrr:lZ p sy0 0 l=rr at *;obtain⟨s,n,e⟩:=rr;simp only at hR hRR dV;have sm:=yO (G:=glM) dV.b dV.b;rw[dU rfl] at sm;have mI:=ag1 (c:=c) hp dV;have st:=uP (c:=c) hp dV;have rst:=El (c:=c) hp dV;generalize stR (fp p s c)=ab at mI st rst;obtain⟨a,g⟩:=ab;simp only at mI st rst;have sa:=yO (G:=glM) mI mI;rw[dU rfl] at sa;have s1:=Gz (G:=glM) dV.b mI;have s2:=yO (G:=glM) dV.b mI;have fl:=rf dV;have sf:=rX (G:=glM) (kP s) (kP s) (by omega) (by omega);rw[dU rfl] at sf;simp -implicitDefEqProofs only[aa7,seval,ah];refine ax rfl hR (by first | exact(λh=>by cases h) | exact λ_=>rfl) ?_
 simp -implicitDefEqProofs only[aa8,seval,ah];refine ax rfl hRR (by first | exact(λh=>by cases h) | exact λ_=>rfl) ?_
 simp -implicitDefEqProofs only[aa9,seval,ah];refine ax («as»:=[.agg (syC s),.agg (syC s)]) rfl sm (by first | exact(λh=>by cases h) | exact λ_=>rfl) ?_
 simp -implicitDefEqProofs only[Wj,seval,ah];refine ax («as»:=[.agg (poC p),.agg (syC s),.agg (clC c)]) rfl st (by first | exact(λh=>by cases h) | exact λ_=>rfl) ?_
 simp -implicitDefEqProofs only[aa8,seval,ah];refine ax («as»:=[.agg (poC p),.agg (syC s),.agg (clC c)]) rfl rst (by first | exact(λh=>by cases h) | exact λ_=>rfl) ?_
 simp -implicitDefEqProofs only[aa9,seval,ah];refine ax («as»:=[.agg (syC a),.agg (syC a)]) rfl sa (by first | exact(λh=>by cases h) | exact λ_=>rfl) ?_
 simp -implicitDefEqProofs only[En,seval,ah];refine ax («as»:=[.agg (syC s),.agg (syC a)]) rfl s1 (by first | exact(λh=>by cases h) | exact λ_=>rfl) ?_
 simp -implicitDefEqProofs only[En,seval,ah];refine ax («as»:=[.agg (syC s),.agg (syC a)]) rfl s2 (by first | exact(λh=>by cases h) | exact λ_=>rfl) ?_
 simp -implicitDefEqProofs only[Wj,seval,ah,beq_self_eq_true];refine ax («as»:=[.agg (syC s)]) rfl (uc dV) (by first | exact(λh=>by cases h) | exact λ_=>rfl) ?_
 simp -implicitDefEqProofs only[En,seval,ah];refine ax («as»:=[.agg (syC s)]) rfl (yQ dV) (by first | exact(λh=>by cases h) | exact λ_=>rfl) ?_
 simp -implicitDefEqProofs only[pkA,seval];refine ax rfl sf (by first | exact(λh=>by cases h) | exact λ_=>rfl) ?_
 simp -implicitDefEqProofs only[En,seval,ah];refine ax («as»:=[.agg (syC s),i64 k]) rfl (vZ dV k) (by first | exact(λh=>by cases h) | exact λ_=>rfl) ?_
 simp -implicitDefEqProofs only[En,seval,ah];refine ax («as»:=[.agg (syC s),i64 k]) rfl (Jz dV k) (by first | exact(λh=>by cases h) | exact λ_=>rfl) ?_
 simp -implicitDefEqProofs only[Wj,seval,ah,beq_self_eq_true];refine ax («as»:=[.agg (syC s),i64 k]) rfl (VT dV k) (by first | exact(λh=>by cases h) | exact λ_=>rfl) ?_
 simp -implicitDefEqProofs only[En,seval,ah];refine ax («as»:=[.agg (syC s),i64 k]) rfl (ZV dV k) (by first | exact(λh=>by cases h) | exact λ_=>rfl) ?_
 simp -implicitDefEqProofs only[pkA,ptA,pkS,Kp.pkP,seval,ah,beq_self_eq_true];simp -implicitDefEqProofs only[pkA,ptA,seval,aj,hsC];refine cm (λi:Nat=>hdS [(9,.bp 2 0),(12,.bp 3 0),(115,.c (.sl (s.hs.map hdC))),(116,i64 s.hs.length),(117,i64 i)] [(poC p).map .c,(clC c).map .c,(syC s).map .c,(syC s).map .c]) (λi=>s.hs.length - i) (λi=>i<=s.hs.length) 0 (ar _) ?_ ?_
 .refine bT rfl (ar _) (by simp) ?_ ?_
  .simp[FL,aw]
  .simp[BL,aw]
 .intro i hi R bN b8 db
  simp -implicitDefEqProofs only[pkA,seval];refine aJ (λbF=>?_) (λfu=>?_)
  .have bF:i<s.hs.length:=by simpa using bF
   have hn:=dV.hn;have hw:=wrap_i64 (i+1) (by omega);have hv:=dV.hv _ (aH bF);simp -implicitDefEqProofs only[pkA,seval];refine cR ko rfl iT (by decide) (aC i) (c:=hdC s.hs[i]) (by simp[bF]) (ek _) ?_;have next:∀ fr bx,fr 9=.bp 2 0->fr 12=.bp 3 0->fr 115=.c (.sl (s.hs.map hdC))->fr 116=i64 s.hs.length->fr 117=i64 ((i+1:Nat):Int)->bx 0=(poC p).map .c->bx 1=(clC c).map .c->bx 2=(syC s).map .c->bx 3=(syC s).map .c->R .normal ⟨fr,bx,5⟩:=λfr bx f1 f2 f3 f4 f5 b0 b1 b2 b3=>
    bN (i+1) _ bF (by omega) (bT rfl (ar _) (by simp) (by simp[FL,f1,f2,f3,f4,f5]) (by simp[BL,b0,b1,b2,b3]))
   generalize s.hs[i]=h at hv ⊢
   simp -implicitDefEqProofs only[pkA,ptA,pkH,seval,ek,ah];refine fQ (λh1=>?_) (λh1=>?_)
   .simp -implicitDefEqProofs only[aba,seval,ah]
    refine ax («as»:=[.agg (syC s),.agg (tmC h.va)]) rfl (om dV h.va hv.1 (by omega)) (by first | exact(λh=>by cases h) | exact λ_=>rfl) ?_
    simp -implicitDefEqProofs only[aba,seval,ah];refine ax («as»:=[.agg (syC s),.agg (tmC h.va)]) rfl (ri dV h.va hv.1 (by omega)) (by first | exact(λh=>by cases h) | exact λ_=>rfl) ?_
    simp -implicitDefEqProofs only[pkA,seval,ah];exact next _ _ rfl rfl rfl rfl (by simp[hw]) rfl rfl rfl rfl
   .simp -implicitDefEqProofs only[pkA,seval]
    exact next _ _ rfl rfl rfl rfl (by simp[hw]) rfl rfl rfl rfl
  .have:i=s.hs.length:=by simp at fu;omega
   subst this;clear bN db;simp -implicitDefEqProofs only[pkA];refine b8 _ _ ?_;clear b8;clear R;simp -implicitDefEqProofs only[pkA,ptA,pkS,seval,aj,ah,tsC];refine cm (λi:Nat=>hdS [(9,.bp 2 0),(12,.bp 3 0),(137,.c (.sl (s.its.map tmC))),(138,i64 s.its.length),(139,i64 i)] [(poC p).map .c,(clC c).map .c,(syC s).map .c,(syC s).map .c]) (λi=>s.its.length - i) (λi=>i<=s.its.length) 0 (ar _) ?_ ?_
   .refine bT rfl (ar _) (by simp) ?_ ?_
    .simp[FL,aw]
    .simp[BL,bxs]
   .intro i hi R bN b8 db
    simp -implicitDefEqProofs only[pkA,seval];refine aJ (λbF=>?_) (λfu=>?_)
    .have bF:i<s.its.length:=by simpa using bF
     have hn:=dV.iN;have hw:=wrap_i64 (i+1) (by omega);have hv:=dV.iv _ (aH bF);simp -implicitDefEqProofs only[pkA,seval];refine cR dc rfl cV (by decide) (aC i) (c:=tmC s.its[i]) (by simp[bF]) (bG _) ?_;have next:∀ fr bx,fr 9=.bp 2 0->fr 12=.bp 3 0->fr 137=.c (.sl (s.its.map tmC))->fr 138=i64 s.its.length->fr 139=i64 ((i+1:Nat):Int)->bx 0=(poC p).map .c->bx 1=(clC c).map .c->bx 2=(syC s).map .c->bx 3=(syC s).map .c->R .normal ⟨fr,bx,5⟩:=λfr bx f1 f2 f3 f4 f5 b0 b1 b2 b3=>
      bN (i+1) _ bF (by omega) (bT rfl (ar _) (by simp) (by simp[FL,f1,f2,f3,f4,f5]) (by simp[BL,b0,b1,b2,b3]))
     generalize s.its[i]=t at hv ⊢
     simp -implicitDefEqProofs only[pkA,ptA,pkT,seval,ah];refine fQ (λh1=>?_) (λh1=>?_)
     .simp -implicitDefEqProofs only[abb,seval,ah]
      refine ax («as»:=[.agg (syC s),.agg (tmC t)]) rfl (om dV t hv.1 (by omega)) (by first | exact(λh=>by cases h) | exact λ_=>rfl) ?_
      simp -implicitDefEqProofs only[abb,seval,ah];refine ax («as»:=[.agg (syC s),.agg (tmC t)]) rfl (ri dV t hv.1 (by omega)) (by first | exact(λh=>by cases h) | exact λ_=>rfl) ?_
      simp -implicitDefEqProofs only[pkA,seval,ah];exact next _ _ rfl rfl rfl rfl (by simp[hw]) rfl rfl rfl rfl
     .simp -implicitDefEqProofs only[pkA,seval]
      exact next _ _ rfl rfl rfl rfl (by simp[hw]) rfl rfl rfl rfl
    .have:i=s.its.length:=by simp at fu;omega
     subst this;simp -implicitDefEqProofs only[pkA];refine b8 _ _ ?_;simp -implicitDefEqProofs only[pkA,seval];refine ax rfl san (by first | exact(λh=>by cases h) | exact λ_=>rfl) ?_
     simp -implicitDefEqProofs only[pkA,seval]
