/- Layer 17, the specification: the rules 6 to 10. Printed by genr8.py. -/
import Derived.Test.YtloppcgcepgbnaaGreatDoorVlR8
set_option linter.all false
namespace Go.Proofs.YtloppcgcepgbnaaGreatDoor
open Go Go.Vl
variable {G:Gl}
set_option maxRecDepth 4000
theorem Zn {n a b v w:Nat} (hv:v=0) (hw:0<w):b8 n (λs1=>r10 none a b v s1) w=[]:=by unfold b8;rw[List.flatMap_eq_nil_iff];intro x hx;rw[lJ] at hx;unfold r10;rw[if_pos ⟨by omega,hv⟩]
theorem agu (x:In):(inC x).map C.wk=inC x:=rfl
theorem Zo {p:Pol} {es:List In} {a b s0 s1:Nat} (h:s1=0):(lbh p es ⟨10,[bE s0 a,iI s0 s1],[bE s1 b]⟩).set 5 (.ow (some (35,3)) ((es.map inC++[OG ⟨10,[bE s0 a,iI s0 s1],[bE s1 b]⟩]).map (·.map C.wk)))=lbx p (es++[i10 a b s0 s1]):=by
 subst h;unfold lbh lbx owI;simp only[jC,kT,dh,eU,bB,jW];have e:(λe:List C=>e.map C.wk)∘inC=inC:=by funext x;exact agu x
 rw[e];have h2:(es++[i10 a b s0 0]).isEmpty=false:=by cases es<;>rfl
 rw[h2];rfl
theorem aj6 {p:Pol} {es:List In} {a b s0 s1:Nat} {v0 v1:V} (h:0<s1):(((lbh p es ⟨10,[bE s0 a,iI s0 s1],[bE s1 b]⟩).set 5 v0).set 5 v1).set 5 (.ow (some (35,3)) ((es.map inC++[(OG ⟨10,[bE s0 a,iI s0 s1],[bE s1 b]⟩).set 2 (.sl [faC (bE s1 b),faC (wT s1)])]).map (·.map C.wk)))=lbx p (es++[i10 a b s0 s1]):=by
 unfold lbh lbx owI;simp only[jC,kT,dh,eU,bB,jW];have e:(λe:List C=>e.map C.wk)∘inC=inC:=by funext x;exact agu x
 rw[e];have h2:(es++[i10 a b s0 s1]).isEmpty=false:=by cases es<;>rfl
 have h3:i10 a b s0 s1=⟨10,[bE s0 a,iI s0 s1],[bE s1 b,wT s1]⟩:=by unfold i10;rw[if_pos h]
 rw[h2,h3];rfl
theorem OI {es:List In}:(es.map inC).flatten.length=es.length*3:=by
 induction es with
 |nil=>rfl
 |cons x l ih=>simp only[bB,cE,ae,ih,Bg,aB];omega
theorem Zp {es:List In} {x:In}:((es.map inC++[OG x]).flatten)[0+es.length*3+2]?=some (.sx (x.con.map faC)):=by rw[dm,aG (by rw[OI];omega),OI,show 0+es.length*3+2 - es.length*3=2 by omega];rfl
theorem Zq {es:List In}:(es.map inC).flatten.length+2=0+es.length*3+2:=by rw[OI];omega
theorem aj7 {x y:Fa} {K:V->Prop} (hK:K (.ow (some (54,3)) [faC x,faC y])):dS Tryz.prog 28 (.ow none [faC x]) (.c (.sl [faC y])) K:=by rw[zj];exact⟨⟨by simp,λe he=>by rw[aX] at he;subst he;rfl⟩,⟨by simp,by simp,λe he=>by rw[aX] at he;subst he;rfl⟩,hK⟩
section
variable {p:Pol} {es:List In} {x:In} {v:Value} {E:Option (TypeId×Nat)} {l:List (List C)} {y:V} {nb q:Nat} {K:V->Prop}
theorem agv:ck ((lbh p es x).set 5 y)=false:=rfl
theorem agw:ldB nb q ((lbh p es x).set 5 (.hh (some v) E l)) 5 K=(q<nb/\K (.c (.ex v))):=rfl
end
def Zr:=jj @pkA @pkM
def pn:=jj @pkA (jj @ptA @pkM)
def Qq:=jj @pkA @ptA
set_option maxHeartbeats 8000000 in
theorem Ul (p:Pol) (es:List In) (hn:p.types.length<=1000) (hr':p.rules.length<=1000) (cm:(es++t6 p none++t7 p none++t8 p none++t9 p none++t10 p none).length<900000) :
 FnB Tryz.prog G 75 [.bp 0 0] [lbx p es] (.tup []) [lbx p (es++t6 p none++t7 p none++t8 p none++t9 p none++t10 p none)]:=by
 simp only[ae] at cm;refine jL (rs:=[]) (k:=1) [1000019,1000044,1000046,1000071,1000073,1000114,1000116,1000151,1000153,1000202,2300050,2300047,3000001] mixed Tryz.func75 rfl rfl rfl rfl (by kernel_rfl) (by simp) rfl rfl rfl (wZ rfl) (ab _) ?_;simp only[pkA,seval];refine eJ rfl (qj p (es) 4 (by unfold I64;omega) (by omega)) rfl rfl (by simp[bxs]) ?_;have hL1:(fgN p 4 p.types.length).length<=1000:=bY vq (by omega);simp only[pkA,seval];have hf1:(fgN p 4 p.types.length).flatMap (λt=>m6 p none t)=t6 p none:=uI;refine bz (λx:Nat×List In=>hdS [(0,.bp 0 0),(2,.c (tsC (fgN p 4 p.types.length))),(3,i64 x.1)] [lbx p x.2]) (λx=>(fgN p 4 p.types.length).length - x.1) (λx=>x.1<=(fgN p 4 p.types.length).length/\x.2++((fgN p 4 p.types.length).drop x.1).flatMap (λt=>m6 p none t)=es++t6 p none) (0,es) ⟨ar _,by rw[cx,hf1]⟩ ?_ ?_
 .exact(le1 rfl (ab _) (ab _) (by simp[FL,aj]) (by simp[]))
 rintro⟨i,cur⟩ ⟨hi,hT⟩ R bL bQ dq;simp only at hi hT;simp only[Zr,seval];refine aD (λbF=>?_) (λfO=>?_)
 .have bF:i<(fgN p 4 p.types.length).length:=by simpa using bF
  rw[iY bF] at hT;have hw:=br (n:=(i:Int)+1) (k:=i+1) (by omega) (by omega);have hl:=dM List.length hT;simp only[ae] at hl;obtain⟨t,ht⟩:∃ t,t=(fgN p 4 p.types.length)[i]:=⟨_,rfl⟩;have rL:t<p.types.length:=by rw[ht];exact Dc _
  rw[<- ht] at hT hl;simp only[pkA,seval];rw[show m6 p none t=b8 p.types.length (λs0=>emL none (i6 t s0)) 1 from rfl] at hT hl;refine bz (λx:Nat×List In=>hdS [(0,.bp 0 0),(2,.c (tsC (fgN p 4 p.types.length))),(3,i64 i),(4,i64 x.1)] [lbx p x.2]) (λx=>p.types.length+1 - x.1) (λx=>(1<=x.1/\x.1<=p.types.length+1)/\x.2++b8 p.types.length (λs0=>emL none (i6 t s0)) x.1=cur++b8 p.types.length (λs0=>emL none (i6 t s0)) 1) (1,cur) ⟨⟨ab _,by omega⟩,rfl⟩ ?_ ?_
  .exact(le1 rfl (ab _) (ab _) (by simp[FL,aj]) (by simp[bxs]))
  rintro⟨s0,c0⟩ ⟨⟨tB,tC⟩,lH⟩ R0 kr kM yN;simp only at tB tC lH;have oY:=dM List.length lH;simp only[ae] at oY;simp only[pn,seval];refine aD (λkL=>?_) (λtz=>?_)
  .have kL:s0<=p.types.length:=by simp at kL;omega
   rw[fw kL] at lH oY;simp only[ae] at oY;have xt:=br (n:=(s0:Int)+1) (k:=s0+1) (by omega) (by omega);simp only[pkA,seval];have hd:(emL none (i6 t s0)).length=1:=rfl
   repeat first
    |(simp only[pn,seval])
    |refine dP oJ rfl nH (by decide) (ay i) (c:=[cI (t:Int)]) (by simp[ht,bF]) rfl ?_
    |refine aC rfl (fR _ _) (λ_=>rfl) ?_
    |refine aC rfl (iK _ _) (λ_=>rfl) ?_
    |refine aC rfl (iL _) (λ_=>rfl) ?_
    |refine aC rfl (jD _) (λ_=>rfl) ?_
   refine eJ rfl (ny p c0 6 (bE s0 t) zfa (iJ s0) (by omega)) rfl rfl (by simp[bxs]) ?_;have hx:mB 6 (bE s0 t) zfa (iJ s0)=i6 t s0:=zl (by simp[bE]);rw[hx];simp only[pkA,seval,xt];exact kr (s0+1,c0++[i6 t s0]) _ ⟨⟨by omega,by omega⟩,by rw[aH];exact lH⟩ (by simp only;omega) (le1 rfl (ab _) (ab _) (by simp[FL,aj]) (by simp[]))
  have tA:s0=p.types.length+1:=by simp at tz;omega
  subst tA;rw[gA (cd _),bq] at lH;subst lH;simp only[pkA];refine kM _ _ ?_;simp only[pkA,seval,hw];exact bL (i+1,cur++b8 p.types.length (λs0=>emL none (i6 t s0)) 1) _ ⟨bF,by rw[aH];exact hT⟩ (by simp only;omega) (le1 rfl (ab _) (ab _) (by simp[FL,aj]) (by simp[bxs]))
 have mj:i=(fgN p 4 p.types.length).length:=by simp at fO;omega
 subst mj;rw[en,fc,bq] at hT;subst hT;simp only[pkA];refine bQ _ _ ?_;simp only[pkA,seval];refine eJ rfl (qj p (es++t6 p none) 8 (by unfold I64;omega) (by omega)) rfl rfl (by simp[bxs]) ?_;have hL2:(fgN p 8 p.types.length).length<=1000:=bY vq (by omega);simp only[pkA,seval];have hf2:(fgN p 8 p.types.length).flatMap (λt=>m7 p none t)=t7 p none:=uI;refine bz (λx:Nat×List In=>hdS [(0,.bp 0 0),(2,.c (tsC (fgN p 8 p.types.length))),(5,i64 x.1)] [lbx p x.2]) (λx=>(fgN p 8 p.types.length).length - x.1) (λx=>x.1<=(fgN p 8 p.types.length).length/\x.2++((fgN p 8 p.types.length).drop x.1).flatMap (λt=>m7 p none t)=es++t6 p none++t7 p none) (0,es++t6 p none) ⟨ar _,by rw[cx,hf2]⟩ ?_ ?_
 .exact(le1 rfl (ab _) (ab _) (by simp[FL,aj]) (by simp[]))
 rintro⟨i,cur⟩ ⟨hi,hT⟩ R bL bQ dq;simp only at hi hT;simp only[Zr,seval];refine aD (λbF=>?_) (λfO=>?_)
 .have bF:i<(fgN p 8 p.types.length).length:=by simpa using bF
  rw[iY bF] at hT;have hw:=br (n:=(i:Int)+1) (k:=i+1) (by omega) (by omega);have hl:=dM List.length hT;simp only[ae] at hl;obtain⟨t,ht⟩:∃ t,t=(fgN p 8 p.types.length)[i]:=⟨_,rfl⟩;have rL:t<p.types.length:=by rw[ht];exact Dc _
  rw[<- ht] at hT hl;simp only[pkA,seval];rw[show m7 p none t=b8 p.types.length (λs0=>emL none (i7 t s0)) 0 from rfl] at hT hl;refine bz (λx:Nat×List In=>hdS [(0,.bp 0 0),(2,.c (tsC (fgN p 8 p.types.length))),(5,i64 i),(6,i64 x.1)] [lbx p x.2]) (λx=>p.types.length+1 - x.1) (λx=>(0<=x.1/\x.1<=p.types.length+1)/\x.2++b8 p.types.length (λs0=>emL none (i7 t s0)) x.1=cur++b8 p.types.length (λs0=>emL none (i7 t s0)) 0) (0,cur) ⟨⟨ab _,by omega⟩,rfl⟩ ?_ ?_
  .exact(le1 rfl (ab _) (ab _) (by simp[FL,aj]) (by simp[bxs]))
  rintro⟨s0,c0⟩ ⟨⟨tB,tC⟩,lH⟩ R0 kr kM yN;simp only at tB tC lH;have oY:=dM List.length lH;simp only[ae] at oY;simp only[pn,seval];refine aD (λkL=>?_) (λtz=>?_)
  .have kL:s0<=p.types.length:=by simp at kL;omega
   rw[fw kL] at lH oY;simp only[ae] at oY;have xt:=br (n:=(s0:Int)+1) (k:=s0+1) (by omega) (by omega);simp only[pkA,seval];have hd:(emL none (i7 t s0)).length=1:=rfl
   repeat first
    |(simp only[pn,seval])
    |refine dP oJ rfl nH (by decide) (ay i) (c:=[cI (t:Int)]) (by simp[ht,bF]) rfl ?_
    |refine aC rfl (fR _ _) (λ_=>rfl) ?_
    |refine aC rfl (iK _ _) (λ_=>rfl) ?_
    |refine aC rfl (iL _) (λ_=>rfl) ?_
    |refine aC rfl (jD _) (λ_=>rfl) ?_
   refine eJ rfl (ny p c0 7 (bE s0 t) zfa (iI s0 0) (by omega)) rfl rfl (by simp[bxs]) ?_;have hx:mB 7 (bE s0 t) zfa (iI s0 0)=i7 t s0:=zl (by simp[bE]);rw[hx];simp only[pkA,seval,xt];exact kr (s0+1,c0++[i7 t s0]) _ ⟨⟨by omega,by omega⟩,by rw[aH];exact lH⟩ (by simp only;omega) (le1 rfl (ab _) (ab _) (by simp[FL,aj]) (by simp[]))
  have tA:s0=p.types.length+1:=by simp at tz;omega
  subst tA;rw[gA (cd _),bq] at lH;subst lH;simp only[pkA];refine kM _ _ ?_;simp only[pkA,seval,hw];exact bL (i+1,cur++b8 p.types.length (λs0=>emL none (i7 t s0)) 0) _ ⟨bF,by rw[aH];exact hT⟩ (by simp only;omega) (le1 rfl (ab _) (ab _) (by simp[FL,aj]) (by simp[bxs]))
 have mj:i=(fgN p 8 p.types.length).length:=by simp at fO;omega
 subst mj;rw[en,fc,bq] at hT;subst hT;simp only[pkA];refine bQ _ _ ?_;simp only[pkA,seval];refine eJ rfl (sd p (es++t6 p none++t7 p none) 3 (by omega)) rfl rfl (by simp[bxs]) ?_;have hL3:(ruR p 3 p.rules.length).length<=1000:=bY qY (by omega);simp only[pkA,seval];have hf3:(ruR p 3 p.rules.length).flatMap (λr:Ru=>(λa b=>m8 p none a b) r.a.toNat r.b.toNat)=t8 p none:=qh (D:=λa b=>m8 p none a b);refine bz (λx:Nat×List In=>hdS [(0,.bp 0 0),(7,.c (.sl ((ruR p 3 p.rules.length).map ruC))),(8,i64 x.1)] [lbx p x.2]) (λx=>(ruR p 3 p.rules.length).length - x.1) (λx=>x.1<=(ruR p 3 p.rules.length).length/\x.2++((ruR p 3 p.rules.length).drop x.1).flatMap (λr:Ru=>(λa b=>m8 p none a b) r.a.toNat r.b.toNat)=es++t6 p none++t7 p none++t8 p none) (0,es++t6 p none++t7 p none) ⟨ar _,by rw[cx,hf3]⟩ ?_ ?_
 .exact(le1 rfl (ab _) (ab _) (by simp[FL,aj]) (by simp[]))
 rintro⟨i,cur⟩ ⟨hi,hT⟩ R bL bQ dq;simp only at hi hT;simp only[Qq,seval];refine aD (λbF=>?_) (λfO=>?_)
 .have bF:i<(ruR p 3 p.rules.length).length:=by simpa using bF
  rw[iY bF] at hT;have hw:=br (n:=(i:Int)+1) (k:=i+1) (by omega) (by omega);have hl:=dM List.length hT;simp only[ae] at hl;obtain⟨r,hr⟩:∃ r,r=(ruR p 3 p.rules.length)[i]:=⟨_,rfl⟩;obtain⟨a,b,ha,hb,han,Vm⟩:=w9 bF;have ha:r.a=(a:Int):=by rw[hr];exact ha
  have hb:r.b=(b:Int):=by rw[hr];exact hb
  rw[<- hr,ha,hb,cz,cz] at hT hl;simp only[pkA,seval];rw[show m8 p none a b=b8 p.types.length (λs0=>b8 p.types.length (λs1=>emL none (i8 a b s0 s1)) 0) 0 from rfl] at hT hl;refine bz (λx:Nat×List In=>hdS [(0,.bp 0 0),(7,.c (.sl ((ruR p 3 p.rules.length).map ruC))),(8,i64 i),(9,i64 x.1)] [lbx p x.2]) (λx=>p.types.length+1 - x.1) (λx=>(0<=x.1/\x.1<=p.types.length+1)/\x.2++b8 p.types.length (λs0=>b8 p.types.length (λs1=>emL none (i8 a b s0 s1)) 0) x.1=cur++b8 p.types.length (λs0=>b8 p.types.length (λs1=>emL none (i8 a b s0 s1)) 0) 0) (0,cur) ⟨⟨ab _,by omega⟩,rfl⟩ ?_ ?_
  .exact(le1 rfl (ab _) (ab _) (by simp[FL,aj]) (by simp[bxs]))
  rintro⟨s0,c0⟩ ⟨⟨tB,tC⟩,lH⟩ R0 kr kM yN;simp only at tB tC lH;have oY:=dM List.length lH;simp only[ae] at oY;simp only[pn,seval];refine aD (λkL=>?_) (λtz=>?_)
  .have kL:s0<=p.types.length:=by simp at kL;omega
   rw[fw kL] at lH oY;simp only[ae] at oY;have xt:=br (n:=(s0:Int)+1) (k:=s0+1) (by omega) (by omega);simp only[pkA,seval];refine bz (λx:Nat×List In=>hdS [(0,.bp 0 0),(7,.c (.sl ((ruR p 3 p.rules.length).map ruC))),(8,i64 i),(9,i64 s0),(10,i64 x.1)] [lbx p x.2]) (λx=>p.types.length+1 - x.1) (λx=>(0<=x.1/\x.1<=p.types.length+1)/\x.2++b8 p.types.length (λs1=>emL none (i8 a b s0 s1)) x.1=c0++b8 p.types.length (λs1=>emL none (i8 a b s0 s1)) 0) (0,c0) ⟨⟨ab _,by omega⟩,rfl⟩ ?_ ?_
   .exact(le1 rfl (ab _) (ab _) (by simp[FL,aj]) (by simp[bxs]))
   rintro⟨s1,c1⟩ ⟨⟨abb,abc⟩,vE⟩ R1 xq zR ag1;simp only at abb abc vE;have Av:=dM List.length vE;simp only[ae] at Av;simp only[pn,seval];refine aD (λrK=>?_) (λalf=>?_)
   .have rK:s1<=p.types.length:=by simp at rK;omega
    rw[fw rK] at vE Av;simp only[ae] at Av;have xu:=br (n:=(s1:Int)+1) (k:=s1+1) (by omega) (by omega);simp only[pkA,seval];have hd:(emL none (i8 a b s0 s1)).length=1:=rfl
    repeat first
     |(simp only[pn,seval,ha,hb])
     |refine dP kV rfl fQ (by decide) (ay i) (c:=ruC r) (by simp[hr,bF]) rfl ?_
     |refine aC rfl (fR _ _) (λ_=>rfl) ?_
     |refine aC rfl (iK _ _) (λ_=>rfl) ?_
     |refine aC rfl (iL _) (λ_=>rfl) ?_
     |refine aC rfl (jD _) (λ_=>rfl) ?_
    refine eJ rfl (ny p c1 8 (bE s0 a) (bE s1 b) (iI s0 s1) (by omega)) rfl rfl (by simp[bxs]) ?_;have hx:mB 8 (bE s0 a) (bE s1 b) (iI s0 s1)=i8 a b s0 s1:=Db (by simp[bE]) (by simp[bE]);rw[hx];simp only[pkA,seval,xu];exact xq (s1+1,c1++[i8 a b s0 s1]) _ ⟨⟨by omega,by omega⟩,by rw[aH];exact vE⟩ (by simp only;omega) (le1 rfl (ab _) (ab _) (by simp[FL,aj]) (by simp[]))
   have alg:s1=p.types.length+1:=(by simp at alf;omega);subst alg;rw[gA (cd _),bq] at vE;subst vE;simp only[pkA];refine zR _ _ ?_;simp only[pkA,seval,xt];exact kr (s0+1,c0++b8 p.types.length (λs1=>emL none (i8 a b s0 s1)) 0) _ ⟨⟨by omega,by omega⟩,by rw[aH];exact lH⟩ (by simp only;omega) (le1 rfl (ab _) (ab _) (by simp[FL,aj]) (by simp[bxs]))
  have tA:s0=p.types.length+1:=by simp at tz;omega
  subst tA;rw[gA (cd _),bq] at lH;subst lH;simp only[pkA];refine kM _ _ ?_;simp only[pkA,seval,hw];exact bL (i+1,cur++b8 p.types.length (λs0=>b8 p.types.length (λs1=>emL none (i8 a b s0 s1)) 0) 0) _ ⟨bF,by rw[aH];exact hT⟩ (by simp only;omega) (le1 rfl (ab _) (ab _) (by simp[FL,aj]) (by simp[bxs]))
 have mj:i=(ruR p 3 p.rules.length).length:=by simp at fO;omega
 subst mj;rw[en,fc,bq] at hT;subst hT;simp only[pkA];refine bQ _ _ ?_;simp only[pkA,seval];refine eJ rfl (qj p (es++t6 p none++t7 p none++t8 p none) 16 (by unfold I64;omega) (by omega)) rfl rfl (by simp[bxs]) ?_;have hL4:(fgN p 16 p.types.length).length<=1000:=bY vq (by omega);simp only[pkA,seval];have hf4:(fgN p 16 p.types.length).flatMap (λt=>m9 p none t)=t9 p none:=uI;refine bz (λx:Nat×List In=>hdS [(0,.bp 0 0),(2,.c (tsC (fgN p 16 p.types.length))),(11,i64 x.1)] [lbx p x.2]) (λx=>(fgN p 16 p.types.length).length - x.1) (λx=>x.1<=(fgN p 16 p.types.length).length/\x.2++((fgN p 16 p.types.length).drop x.1).flatMap (λt=>m9 p none t)=es++t6 p none++t7 p none++t8 p none++t9 p none) (0,es++t6 p none++t7 p none++t8 p none) ⟨ar _,by rw[cx,hf4]⟩ ?_ ?_
 .exact(le1 rfl (ab _) (ab _) (by simp[FL,aj]) (by simp[]))
 rintro⟨i,cur⟩ ⟨hi,hT⟩ R bL bQ dq;simp only at hi hT;simp only[Zr,seval];refine aD (λbF=>?_) (λfO=>?_)
 .have bF:i<(fgN p 16 p.types.length).length:=by simpa using bF
  rw[iY bF] at hT;have hw:=br (n:=(i:Int)+1) (k:=i+1) (by omega) (by omega);have hl:=dM List.length hT;simp only[ae] at hl;obtain⟨t,ht⟩:∃ t,t=(fgN p 16 p.types.length)[i]:=⟨_,rfl⟩;have rL:t<p.types.length:=by rw[ht];exact Dc _
  rw[<- ht] at hT hl;simp only[pkA,seval];rw[show m9 p none t=b8 p.types.length (λs0=>b8 p.types.length (λs1=>emL none (i9 t s0 s1)) 1) 0 from rfl] at hT hl;refine bz (λx:Nat×List In=>hdS [(0,.bp 0 0),(2,.c (tsC (fgN p 16 p.types.length))),(11,i64 i),(12,i64 x.1)] [lbx p x.2]) (λx=>p.types.length+1 - x.1) (λx=>(0<=x.1/\x.1<=p.types.length+1)/\x.2++b8 p.types.length (λs0=>b8 p.types.length (λs1=>emL none (i9 t s0 s1)) 1) x.1=cur++b8 p.types.length (λs0=>b8 p.types.length (λs1=>emL none (i9 t s0 s1)) 1) 0) (0,cur) ⟨⟨ab _,by omega⟩,rfl⟩ ?_ ?_
  .exact(le1 rfl (ab _) (ab _) (by simp[FL,aj]) (by simp[bxs]))
  rintro⟨s0,c0⟩ ⟨⟨tB,tC⟩,lH⟩ R0 kr kM yN;simp only at tB tC lH;have oY:=dM List.length lH;simp only[ae] at oY;simp only[pn,seval];refine aD (λkL=>?_) (λtz=>?_)
  .have kL:s0<=p.types.length:=by simp at kL;omega
   rw[fw kL] at lH oY;simp only[ae] at oY;have xt:=br (n:=(s0:Int)+1) (k:=s0+1) (by omega) (by omega);simp only[pkA,seval];refine bz (λx:Nat×List In=>hdS [(0,.bp 0 0),(2,.c (tsC (fgN p 16 p.types.length))),(11,i64 i),(12,i64 s0),(13,i64 x.1)] [lbx p x.2]) (λx=>p.types.length+1 - x.1) (λx=>(1<=x.1/\x.1<=p.types.length+1)/\x.2++b8 p.types.length (λs1=>emL none (i9 t s0 s1)) x.1=c0++b8 p.types.length (λs1=>emL none (i9 t s0 s1)) 1) (1,c0) ⟨⟨ab _,by omega⟩,rfl⟩ ?_ ?_
   .exact(le1 rfl (ab _) (ab _) (by simp[FL,aj]) (by simp[bxs]))
   rintro⟨s1,c1⟩ ⟨⟨abb,abc⟩,vE⟩ R1 xq zR ag1;simp only at abb abc vE;have Av:=dM List.length vE;simp only[ae] at Av;simp only[pn,seval];refine aD (λrK=>?_) (λalf=>?_)
   .have rK:s1<=p.types.length:=by simp at rK;omega
    rw[fw rK] at vE Av;simp only[ae] at Av;have xu:=br (n:=(s1:Int)+1) (k:=s1+1) (by omega) (by omega);simp only[pkA,seval];have hd:(emL none (i9 t s0 s1)).length=1:=rfl
    repeat first
     |(simp only[pn,seval])
     |refine dP oJ rfl nH (by decide) (ay i) (c:=[cI (t:Int)]) (by simp[ht,bF]) rfl ?_
     |refine aC rfl (fR _ _) (λ_=>rfl) ?_
     |refine aC rfl (iK _ _) (λ_=>rfl) ?_
     |refine aC rfl (iL _) (λ_=>rfl) ?_
     |refine aC rfl (jD _) (λ_=>rfl) ?_
    refine eJ rfl (ny p c1 9 (bE s0 t) (iI s0 s1) (iJ s1) (by omega)) rfl rfl (by simp[bxs]) ?_;have hx:mB 9 (bE s0 t) (iI s0 s1) (iJ s1)=i9 t s0 s1:=Db (by simp[bE]) (by simp[iI]);rw[hx];simp only[pkA,seval,xu];exact xq (s1+1,c1++[i9 t s0 s1]) _ ⟨⟨by omega,by omega⟩,by rw[aH];exact vE⟩ (by simp only;omega) (le1 rfl (ab _) (ab _) (by simp[FL,aj]) (by simp[]))
   have alg:s1=p.types.length+1:=(by simp at alf;omega);subst alg;rw[gA (cd _),bq] at vE;subst vE;simp only[pkA];refine zR _ _ ?_;simp only[pkA,seval,xt];exact kr (s0+1,c0++b8 p.types.length (λs1=>emL none (i9 t s0 s1)) 1) _ ⟨⟨by omega,by omega⟩,by rw[aH];exact lH⟩ (by simp only;omega) (le1 rfl (ab _) (ab _) (by simp[FL,aj]) (by simp[bxs]))
  have tA:s0=p.types.length+1:=by simp at tz;omega
  subst tA;rw[gA (cd _),bq] at lH;subst lH;simp only[pkA];refine kM _ _ ?_;simp only[pkA,seval,hw];exact bL (i+1,cur++b8 p.types.length (λs0=>b8 p.types.length (λs1=>emL none (i9 t s0 s1)) 1) 0) _ ⟨bF,by rw[aH];exact hT⟩ (by simp only;omega) (le1 rfl (ab _) (ab _) (by simp[FL,aj]) (by simp[bxs]))
 have mj:i=(fgN p 16 p.types.length).length:=by simp at fO;omega
 subst mj;rw[en,fc,bq] at hT;subst hT;simp only[pkA];refine bQ _ _ ?_;simp only[pkA,seval];refine eJ rfl (sd p (es++t6 p none++t7 p none++t8 p none++t9 p none) 4 (by omega)) rfl rfl (by simp[bxs]) ?_;have hL5:(ruR p 4 p.rules.length).length<=1000:=bY qY (by omega);simp only[pkA,seval];have hf5:(ruR p 4 p.rules.length).flatMap (λr:Ru=>(λa b=>m10 p none a b) r.a.toNat r.b.toNat)=t10 p none:=qh (D:=λa b=>m10 p none a b);refine bz (λx:Nat×List In=>hdS [(0,.bp 0 0),(7,.c (.sl ((ruR p 4 p.rules.length).map ruC))),(14,i64 x.1)] [lbx p x.2]) (λx=>(ruR p 4 p.rules.length).length - x.1) (λx=>x.1<=(ruR p 4 p.rules.length).length/\x.2++((ruR p 4 p.rules.length).drop x.1).flatMap (λr:Ru=>(λa b=>m10 p none a b) r.a.toNat r.b.toNat)=es++t6 p none++t7 p none++t8 p none++t9 p none++t10 p none) (0,es++t6 p none++t7 p none++t8 p none++t9 p none) ⟨ar _,by rw[cx,hf5]⟩ ?_ ?_
 .exact(le1 rfl (ab _) (ab _) (by simp[FL,aj]) (by simp[]))
 rintro⟨i,cur⟩ ⟨hi,hT⟩ R bL bQ dq;simp only at hi hT;simp only[Qq,seval];refine aD (λbF=>?_) (λfO=>?_)
 .have bF:i<(ruR p 4 p.rules.length).length:=by simpa using bF
  rw[iY bF] at hT;have hw:=br (n:=(i:Int)+1) (k:=i+1) (by omega) (by omega);have hl:=dM List.length hT;simp only[ae] at hl;obtain⟨r,hr⟩:∃ r,r=(ruR p 4 p.rules.length)[i]:=⟨_,rfl⟩;obtain⟨a,b,ha,hb,han,Vm⟩:=w9 bF;have ha:r.a=(a:Int):=by rw[hr];exact ha
  have hb:r.b=(b:Int):=by rw[hr];exact hb
  rw[<- hr,ha,hb,cz,cz] at hT hl;simp only[pkA,seval];rw[show m10 p none a b=b8 p.types.length (λs0=>b8 p.types.length (λs1=>r10 none a b s0 s1) 0) 0 from rfl] at hT hl;refine bz (λx:Nat×List In=>hdS [(0,.bp 0 0),(7,.c (.sl ((ruR p 4 p.rules.length).map ruC))),(14,i64 i),(15,i64 x.1)] [lbx p x.2]) (λx=>p.types.length+1 - x.1) (λx=>(0<=x.1/\x.1<=p.types.length+1)/\x.2++b8 p.types.length (λs0=>b8 p.types.length (λs1=>r10 none a b s0 s1) 0) x.1=cur++b8 p.types.length (λs0=>b8 p.types.length (λs1=>r10 none a b s0 s1) 0) 0) (0,cur) ⟨⟨ab _,by omega⟩,rfl⟩ ?_ ?_
  .exact(le1 rfl (ab _) (ab _) (by simp[FL,aj]) (by simp[bxs]))
  rintro⟨s0,c0⟩ ⟨⟨tB,tC⟩,lH⟩ R0 kr kM yN;simp only at tB tC lH;have oY:=dM List.length lH;simp only[ae] at oY;simp only[pn,seval];refine aD (λkL=>?_) (λtz=>?_)
  .have kL:s0<=p.types.length:=by simp at kL;omega
   rw[fw kL] at lH oY;simp only[ae] at oY;have xt:=br (n:=(s0:Int)+1) (k:=s0+1) (by omega) (by omega);simp only[pkA,seval];refine bz (λx:Nat×List In=>hdS [(0,.bp 0 0),(7,.c (.sl ((ruR p 4 p.rules.length).map ruC))),(14,i64 i),(15,i64 s0),(16,i64 x.1)] [lbx p x.2]) (λx=>p.types.length+1 - x.1) (λx=>(0<=x.1/\x.1<=p.types.length+1)/\x.2++b8 p.types.length (λs1=>r10 none a b s0 s1) x.1=c0++b8 p.types.length (λs1=>r10 none a b s0 s1) 0) (0,c0) ⟨⟨ab _,by omega⟩,rfl⟩ ?_ ?_
   .exact(le1 rfl (ab _) (ab _) (by simp[FL,aj]) (by simp[bxs]))
   rintro⟨s1,c1⟩ ⟨⟨abb,abc⟩,vE⟩ R1 xq zR ag1;simp only at abb abc vE;have Av:=dM List.length vE;simp only[ae] at Av;simp only[pn,seval];have II:decide ((s1:Int)<=p.types.length)=decide (s1<=p.types.length):=(by rw[jt];omega);have hn2:decide (0<(s0:Int))=decide (0<s0):=(by rw[jt];omega);have hn3:decide ((s1:Int)=0)=decide (s1=0):=(by rw[jt];omega);have hn4:decide (0<(s1:Int))=decide (0<s1):=(by rw[jt];omega);by_cases hA:s1<=p.types.length
   .have Q7:decide (s1<=p.types.length)=true:=dD hA
    by_cases hB:0<s0
    .have hB':decide (0<s0)=true:=dD hB
     by_cases hz:s1=0
     .have mG:decide (0<s1)=false:=fj (by omega)
      simp only[pkA,seval,II,hn2,Q7,hB'];rw[fw hA] at vE Av;simp only[ae] at Av;have aba:r10 none a b s0 s1=[i10 a b s0 s1]:=(by unfold r10;rw[if_neg (by omega)];rfl);rw[aba] at vE Av;have xu:=br (n:=(s1:Int)+1) (k:=s1+1) (by omega) (by omega)
      repeat first
       |(simp only[pn,seval,ha,hb])
       |refine dP kV rfl fQ (by decide) (ay i) (c:=ruC r) (by simp[hr,bF]) rfl ?_
       |refine aC rfl (fR _ _) (λ_=>rfl) ?_
       |refine aC rfl (iK _ _) (λ_=>rfl) ?_
       |refine aC rfl (iL _) (λ_=>rfl) ?_
       |refine aC rfl (jD _) (λ_=>rfl) ?_
      refine eJ rfl (H6 p c1 10 (bE s0 a) (iI s0 s1) (bE s1 b) (by omega) (by simp[bE]) (by simp[iI])) rfl rfl (by simp[bxs]) ?_;simp only[pkA,seval,hn4,mG];refine Cd 0 5 rfl (show 0<1 by decide) rfl ?_;simp only[pkA,seval,xu,S.cool];exact xq (s1+1,c1++[i10 a b s0 s1]) _ ⟨⟨by omega,by omega⟩,by rw[aH];exact vE⟩ (by simp only;omega) (le1 rfl (ab _) (ab _) (by simp[FL,aj]) (by simp only[aj,cZ];exact Zo hz))
     .have mG:decide (0<s1)=true:=dD (by omega)
      simp only[pkA,seval,II,hn2,Q7,hB'];rw[fw hA] at vE Av;simp only[ae] at Av;have aba:r10 none a b s0 s1=[i10 a b s0 s1]:=(by unfold r10;rw[if_neg (by omega)];rfl);rw[aba] at vE Av;have xu:=br (n:=(s1:Int)+1) (k:=s1+1) (by omega) (by omega)
      repeat first
       |(simp only[pn,seval,ha,hb])
       |refine dP kV rfl fQ (by decide) (ay i) (c:=ruC r) (by simp[hr,bF]) rfl ?_
       |refine aC rfl (fR _ _) (λ_=>rfl) ?_
       |refine aC rfl (iK _ _) (λ_=>rfl) ?_
       |refine aC rfl (iL _) (λ_=>rfl) ?_
       |refine aC rfl (jD _) (λ_=>rfl) ?_
      refine eJ rfl (H6 p c1 10 (bE s0 a) (iI s0 s1) (bE s1 b) (by omega) (by simp[bE]) (by simp[iI])) rfl rfl (by simp[bxs]) ?_;simp only[pkA,seval,hn4,mG];refine V3 0 5 rfl (show 0<1 by decide) rfl rfl ?_;intro blk cap;have hlz:(c1.map inC++[OG ⟨10,[bE s0 a,iI s0 s1],[bE s1 b]⟩]).length=c1.length+1:=(by simp);have hwl:=br (n:=((c1.length+1:Nat):Int) - 1) (k:=c1.length) (by omega) (by omega);rw[hlz];simp only[Qq,seval,S.name,agw,agv];refine Bd oK rfl ?_;simp only[Qq,seval,agw,agv,hwl];refine N1 (k:=c1.length) oK rfl lF rfl (by decide) rfl (by omega) ?_;simp only[pkA,seval];refine N2 lF rfl (by decide) ?_;simp only[pkA,seval];refine ahL (b:=0) (k:=5) (c:=.sx [faC (bE s1 b)]) dY rfl (show 0<1 by decide) rfl rfl Zp ?_;rw[show(C.sx [faC (bE s1 b)]).ldc=.ow none [faC (bE s1 b)] from rfl];simp only[pkA,seval];refine aC rfl (jD _) (λ_=>rfl) ?_;simp only[pn,seval,dx];refine aj7 ?_;simp only[pkA,seval];refine N1 (k:=c1.length) oK rfl lF rfl (by decide) rfl (by omega) ?_;simp only[pkA,seval];refine N2 lF rfl (by decide) ?_;simp only[pkA,seval];refine acY (b:=0) (k:=5) (es:=c1.map inC) (x:=OG ⟨10,[bE s0 a,iI s0 s1],[bE s1 b]⟩) (r:=2) (c:=.sl [faC (bE s1 b),faC (wT s1)]) dY rfl (show 0<1 by decide) rfl rfl Zq (show 2<3 by decide) rfl ?_;simp only[pkA,seval];refine Cd 0 5 rfl (show 0<1 by decide) rfl ?_;simp only[pkA,seval,xu,S.cool];exact xq (s1+1,c1++[i10 a b s0 s1]) _ ⟨⟨by omega,by omega⟩,by rw[aH];exact vE⟩ (by simp only;omega) (le1 rfl (ab _) (ab _) (by simp[FL,aj]) (by simp only[aj,cZ];exact aj6 (by omega)))
    .have hB':decide (0<s0)=false:=fj hB
     by_cases hz:s1=0
     .have mG:decide (0<s1)=false:=fj (by omega)
      have L8:decide (s1=0)=true:=dD hz;simp only[pkA,seval,II,hn2,hn3,Q7,hB',L8];rw[fw hA] at vE Av;simp only[ae] at Av;have aba:r10 none a b s0 s1=[i10 a b s0 s1]:=(by unfold r10;rw[if_neg (by omega)];rfl);rw[aba] at vE Av;have xu:=br (n:=(s1:Int)+1) (k:=s1+1) (by omega) (by omega)
      repeat first
       |(simp only[pn,seval,ha,hb])
       |refine dP kV rfl fQ (by decide) (ay i) (c:=ruC r) (by simp[hr,bF]) rfl ?_
       |refine aC rfl (fR _ _) (λ_=>rfl) ?_
       |refine aC rfl (iK _ _) (λ_=>rfl) ?_
       |refine aC rfl (iL _) (λ_=>rfl) ?_
       |refine aC rfl (jD _) (λ_=>rfl) ?_
      refine eJ rfl (H6 p c1 10 (bE s0 a) (iI s0 s1) (bE s1 b) (by omega) (by simp[bE]) (by simp[iI])) rfl rfl (by simp[bxs]) ?_;simp only[pkA,seval,hn4,mG];refine Cd 0 5 rfl (show 0<1 by decide) rfl ?_;simp only[pkA,seval,xu,S.cool];exact xq (s1+1,c1++[i10 a b s0 s1]) _ ⟨⟨by omega,by omega⟩,by rw[aH];exact vE⟩ (by simp only;omega) (le1 rfl (ab _) (ab _) (by simp[FL,aj]) (by simp only[aj,cZ];exact Zo hz))
     .have L8:decide (s1=0)=false:=fj hz
      simp only[pkA,seval,II,hn2,hn3,Q7,hB',L8];have mj:b8 p.types.length (λs1=>r10 none a b s0 s1) s1=[]:=Zn (by omega) (by omega);rw[mj,bq] at vE;subst vE;refine zR _ _ ?_;simp only[pkA,seval,xt];exact kr (s0+1,c0++b8 p.types.length (λs1=>r10 none a b s0 s1) 0) _ ⟨⟨by omega,by omega⟩,by rw[aH];exact lH⟩ (by simp only;omega) (le1 rfl (ab _) (ab _) (by simp[FL,aj]) (by simp[bxs]))
   .have Q7:decide (s1<=p.types.length)=false:=fj hA
    simp only[pkA,seval,II,Q7];have mj:b8 p.types.length (λs1=>r10 none a b s0 s1) s1=[]:=gA (by omega);rw[mj,bq] at vE;subst vE;refine zR _ _ ?_;simp only[pkA,seval,xt];exact kr (s0+1,c0++b8 p.types.length (λs1=>r10 none a b s0 s1) 0) _ ⟨⟨by omega,by omega⟩,by rw[aH];exact lH⟩ (by simp only;omega) (le1 rfl (ab _) (ab _) (by simp[FL,aj]) (by simp[bxs]))
  have tA:s0=p.types.length+1:=by simp at tz;omega
  subst tA;rw[gA (cd _),bq] at lH;subst lH;simp only[pkA];refine kM _ _ ?_;simp only[pkA,seval,hw];exact bL (i+1,cur++b8 p.types.length (λs0=>b8 p.types.length (λs1=>r10 none a b s0 s1) 0) 0) _ ⟨bF,by rw[aH];exact hT⟩ (by simp only;omega) (le1 rfl (ab _) (ab _) (by simp[FL,aj]) (by simp[bxs]))
 have mj:i=(ruR p 4 p.rules.length).length:=by simp at fO;omega
 subst mj;rw[en,fc,bq] at hT;subst hT;simp only[pkA];refine bQ _ _ ?_;simp only[pkA,seval];exact C9 rfl (ab _) (by simp[bxs])
