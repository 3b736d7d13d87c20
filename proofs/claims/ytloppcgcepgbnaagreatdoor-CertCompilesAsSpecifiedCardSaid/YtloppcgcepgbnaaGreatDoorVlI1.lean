/- Layer 17, the specification: the rules 11 to 15. Printed by genr8.py. -/
import Derived.Test.YtloppcgcepgbnaaGreatDoorVlR9
import Derived.Test.YtloppcgcepgbnaaGreatDoorVlE0
import Derived.Test.YtloppcgcepgbnaaGreatDoorVlR2
set_option maxHeartbeats 8000000
set_option linter.all false
namespace Go.Proofs.YtloppcgcepgbnaaGreatDoor
open Go Go.Vl
variable {G:Gl}
set_option maxRecDepth 4000
theorem apK (b:Int):KL 0 b=true:=by unfold KL;rw[An];simp
theorem apL {p:Pol} {t:Nat} (h:t<p.types.length):sV p t 0=true:=by unfold sV;rw[ah h];exact apK _
theorem OJ {p:Pol} {D:Nat->List In} {t:Nat} (h:t<p.types.length):jq p none 0 D t=D t++jq p none 0 D (t+1):=by rw[C2 h];unfold qf;rw[if_pos (by rw[apL h];rfl)]
def FN:=jj @pkA @ptA
def Ao:=jj @pkA (jj @ptA @pkM)
theorem OK (p:Pol) (es:List In) (hn:p.types.length<=1000) (hr':p.rules.length<=1000) (cm:(es++t11 p none++t12 p none++t13 p none++t14 none++t15 p none).length<900000) :
 FnB Tryz.prog G 76 [.bp 0 0] [lbx p es] (.tup []) [lbx p (es++t11 p none++t12 p none++t13 p none++t14 none++t15 p none)]:=by
 simp only[ae] at cm;refine jL (rs:=[]) (k:=1) [1000010,1000031,1000033,1000064,1000089,1000094,1000109,3000001] mixed Tryz.func76 rfl rfl rfl rfl (by kernel_rfl) (by simp) rfl rfl rfl (wZ rfl) (ab _) ?_;simp only[pkA,seval];refine eJ rfl (sd p (es) 2 (by omega)) rfl rfl (by simp[bxs]) ?_;have hL1:(ruR p 2 p.rules.length).length<=1000:=bY qY (by omega);simp only[pkA,seval];have hf1:(ruR p 2 p.rules.length).flatMap (λr:Ru=>(λa b=>emL none (i11 a b)) r.a.toNat r.b.toNat)=t11 p none:=qh (D:=λa b=>emL none (i11 a b));refine bz (λx:Nat×List In=>hdS [(0,.bp 0 0),(2,.c (.sl ((ruR p 2 p.rules.length).map ruC))),(3,i64 x.1)] [lbx p x.2]) (λx=>(ruR p 2 p.rules.length).length - x.1) (λx=>x.1<=(ruR p 2 p.rules.length).length/\x.2++((ruR p 2 p.rules.length).drop x.1).flatMap (λr:Ru=>(λa b=>emL none (i11 a b)) r.a.toNat r.b.toNat)=es++t11 p none) (0,es) ⟨ar _,by rw[cx,hf1]⟩ ?_ ?_
 .exact(le1 rfl (ab _) (ab _) (by simp[FL,aj]) (by simp[]))
 rintro⟨i,cur⟩ ⟨hi,hT⟩ R bL bQ dq;simp only at hi hT;simp only[FN,seval];refine aD (λbF=>?_) (λfO=>?_)
 .have bF:i<(ruR p 2 p.rules.length).length:=by simpa using bF
  rw[iY bF] at hT;have hw:=br (n:=(i:Int)+1) (k:=i+1) (by omega) (by omega);have hl:=dM List.length hT;simp only[ae] at hl;obtain⟨r,hr⟩:∃ r,r=(ruR p 2 p.rules.length)[i]:=⟨_,rfl⟩;obtain⟨a,b,ha,hb,han,Vm⟩:=w9 bF;have ha:r.a=(a:Int):=by rw[hr];exact ha
  have hb:r.b=(b:Int):=by rw[hr];exact hb
  rw[<- hr,ha,hb,cz,cz] at hT hl;simp only[pkA,seval];have hd:(emL none (i11 a b)).length=1:=rfl
  repeat first
   |(simp only[Ao,seval,ha,hb])
   |refine dP kV rfl fQ (by decide) (ay i) (c:=ruC r) (by simp[hr,bF]) rfl ?_
   |refine aC rfl (fR _ _) (λ_=>rfl) ?_
   |refine aC rfl (iK _ _) (λ_=>rfl) ?_
   |refine aC rfl (iL _) (λ_=>rfl) ?_
   |refine aC rfl (jD _) (λ_=>rfl) ?_
  refine eJ rfl (ny p cur 11 (bE 0 a) zfa (bE 0 b) (by omega)) rfl rfl (by simp[bxs]) ?_;have hx:mB 11 (bE 0 a) zfa (bE 0 b)=i11 a b:=zl (by simp[bE]);rw[hx];simp only[pkA,seval,hw];exact bL (i+1,cur++[i11 a b]) _ ⟨bF,by rw[aH];exact hT⟩ (by simp only;omega) (le1 rfl (ab _) (ab _) (by simp[FL,aj]) (by simp[]))
 have mj:i=(ruR p 2 p.rules.length).length:=by simp at fO;omega
 subst mj;rw[en,fc,bq] at hT;subst hT;simp only[pkA];refine bQ _ _ ?_;simp only[pkA,seval];refine eJ rfl (sd p (es++t11 p none) 1 (by omega)) rfl rfl (by simp[bxs]) ?_;have hL2:(ruR p 1 p.rules.length).length<=1000:=bY qY (by omega);simp only[pkA,seval];have hf2:(ruR p 1 p.rules.length).flatMap (λr:Ru=>(λa b=>m12 p none a b) r.a.toNat r.b.toNat)=t12 p none:=qh (D:=λa b=>m12 p none a b);refine bz (λx:Nat×List In=>hdS [(0,.bp 0 0),(2,.c (.sl ((ruR p 1 p.rules.length).map ruC))),(4,i64 x.1)] [lbx p x.2]) (λx=>(ruR p 1 p.rules.length).length - x.1) (λx=>x.1<=(ruR p 1 p.rules.length).length/\x.2++((ruR p 1 p.rules.length).drop x.1).flatMap (λr:Ru=>(λa b=>m12 p none a b) r.a.toNat r.b.toNat)=es++t11 p none++t12 p none) (0,es++t11 p none) ⟨ar _,by rw[cx,hf2]⟩ ?_ ?_
 .exact(le1 rfl (ab _) (ab _) (by simp[FL,aj]) (by simp[]))
 rintro⟨i,cur⟩ ⟨hi,hT⟩ R bL bQ dq;simp only at hi hT;simp only[FN,seval];refine aD (λbF=>?_) (λfO=>?_)
 .have bF:i<(ruR p 1 p.rules.length).length:=by simpa using bF
  rw[iY bF] at hT;have hw:=br (n:=(i:Int)+1) (k:=i+1) (by omega) (by omega);have hl:=dM List.length hT;simp only[ae] at hl;obtain⟨r,hr⟩:∃ r,r=(ruR p 1 p.rules.length)[i]:=⟨_,rfl⟩;obtain⟨a,b,ha,hb,han,Vm⟩:=w9 bF;have ha:r.a=(a:Int):=by rw[hr];exact ha
  have hb:r.b=(b:Int):=by rw[hr];exact hb
  rw[<- hr,ha,hb,cz,cz] at hT hl;simp only[pkA,seval];rw[show m12 p none a b=b8 p.types.length (λs0=>emL none (i12 a b s0)) 1 from rfl] at hT hl;refine bz (λx:Nat×List In=>hdS [(0,.bp 0 0),(2,.c (.sl ((ruR p 1 p.rules.length).map ruC))),(4,i64 i),(5,i64 x.1)] [lbx p x.2]) (λx=>p.types.length+1 - x.1) (λx=>(1<=x.1/\x.1<=p.types.length+1)/\x.2++b8 p.types.length (λs0=>emL none (i12 a b s0)) x.1=cur++b8 p.types.length (λs0=>emL none (i12 a b s0)) 1) (1,cur) ⟨⟨ab _,by omega⟩,rfl⟩ ?_ ?_
  .exact(le1 rfl (ab _) (ab _) (by simp[FL,aj]) (by simp[bxs]))
  rintro⟨s0,c0⟩ ⟨⟨tB,tC⟩,lH⟩ R0 kr kM yN;simp only at tB tC lH;have oY:=dM List.length lH;simp only[ae] at oY;simp only[Ao,seval];refine aD (λkL=>?_) (λtz=>?_)
  .have kL:s0<=p.types.length:=by simp at kL;omega
   rw[fw kL] at lH oY;simp only[ae] at oY;have xt:=br (n:=(s0:Int)+1) (k:=s0+1) (by omega) (by omega);simp only[pkA,seval];have hd:(emL none (i12 a b s0)).length=1:=rfl
   repeat first
    |(simp only[Ao,seval,ha,hb])
    |refine dP kV rfl fQ (by decide) (ay i) (c:=ruC r) (by simp[hr,bF]) rfl ?_
    |refine aC rfl (fR _ _) (λ_=>rfl) ?_
    |refine aC rfl (iK _ _) (λ_=>rfl) ?_
    |refine aC rfl (iL _) (λ_=>rfl) ?_
    |refine aC rfl (jD _) (λ_=>rfl) ?_
   refine eJ rfl (ny p c0 12 (bE 0 a) (bE s0 b) (iJ s0) (by omega)) rfl rfl (by simp[bxs]) ?_;have hx:mB 12 (bE 0 a) (bE s0 b) (iJ s0)=i12 a b s0:=Db (by simp[bE]) (by simp[bE]);rw[hx];simp only[pkA,seval,xt];exact kr (s0+1,c0++[i12 a b s0]) _ ⟨⟨by omega,by omega⟩,by rw[aH];exact lH⟩ (by simp only;omega) (le1 rfl (ab _) (ab _) (by simp[FL,aj]) (by simp[]))
  have tA:s0=p.types.length+1:=by simp at tz;omega
  subst tA;rw[gA (cd _),bq] at lH;subst lH;simp only[pkA];refine kM _ _ ?_;simp only[pkA,seval,hw];exact bL (i+1,cur++b8 p.types.length (λs0=>emL none (i12 a b s0)) 1) _ ⟨bF,by rw[aH];exact hT⟩ (by simp only;omega) (le1 rfl (ab _) (ab _) (by simp[FL,aj]) (by simp[bxs]))
 have mj:i=(ruR p 1 p.rules.length).length:=by simp at fO;omega
 subst mj;rw[en,fc,bq] at hT;subst hT;simp only[pkA];refine bQ _ _ ?_;simp only[pkA,seval];refine bz (λx:Nat×List In=>hdS [(0,.bp 0 0),(6,i64 x.1)] [lbx p x.2]) (λx=>p.types.length - x.1) (λx=>x.1<=p.types.length/\x.2++jq p none 0 (λt=>m13 p none t) x.1=es++t11 p none++t12 p none++t13 p none) (0,es++t11 p none++t12 p none) ⟨ar _,rfl⟩ ?_ ?_
 .exact(le1 rfl (ab _) (ab _) (by simp[FL,aj]) (by simp[bxs]))
 rintro⟨t,cur⟩ ⟨hi,hT⟩ R bL bQ dq;simp only at hi hT;simp only[Ao,seval];refine aD (λbF=>?_) (λfO=>?_)
 .have bF:t<p.types.length:=by simpa using bF
  rw[OJ bF] at hT;have hw:=br (n:=(t:Int)+1) (k:=t+1) (by omega) (by omega);have hl:=dM List.length hT;simp only[ae] at hl;rw[show m13 p none t=b8 p.types.length (λs0=>emL none (i13 t s0)) 1 from rfl] at hT hl;simp only[pkA,seval];refine bz (λx:Nat×List In=>hdS [(0,.bp 0 0),(6,i64 t),(7,i64 x.1)] [lbx p x.2]) (λx=>p.types.length+1 - x.1) (λx=>(1<=x.1/\x.1<=p.types.length+1)/\x.2++b8 p.types.length (λs0=>emL none (i13 t s0)) x.1=cur++b8 p.types.length (λs0=>emL none (i13 t s0)) 1) (1,cur) ⟨⟨ab _,by omega⟩,rfl⟩ ?_ ?_
  .exact(le1 rfl (ab _) (ab _) (by simp[FL,aj]) (by simp[bxs]))
  rintro⟨s0,c0⟩ ⟨⟨tB,tC⟩,lH⟩ R0 kr kM yN;simp only at tB tC lH;have oY:=dM List.length lH;simp only[ae] at oY;simp only[Ao,seval];refine aD (λkL=>?_) (λtz=>?_)
  .have kL:s0<=p.types.length:=by simp at kL;omega
   rw[fw kL] at lH oY;simp only[ae] at oY;have xt:=br (n:=(s0:Int)+1) (k:=s0+1) (by omega) (by omega);simp only[pkA,seval];have hd:(emL none (i13 t s0)).length=1:=rfl
   repeat first
    |(simp only[pkA,seval])
    |fail
    |refine aC rfl (fR _ _) (λ_=>rfl) ?_
    |refine aC rfl (iK _ _) (λ_=>rfl) ?_
    |refine aC rfl (iL _) (λ_=>rfl) ?_
    |refine aC rfl (jD _) (λ_=>rfl) ?_
   refine eJ rfl (ny p c0 13 (iJ s0) (bE s0 t) (bE 0 t) (by omega)) rfl rfl (by simp[bxs]) ?_;have hx:mB 13 (iJ s0) (bE s0 t) (bE 0 t)=i13 t s0:=Db (by simp[iJ]) (by simp[bE]);rw[hx];simp only[pkA,seval,xt];exact kr (s0+1,c0++[i13 t s0]) _ ⟨⟨by omega,by omega⟩,by rw[aH];exact lH⟩ (by simp only;omega) (le1 rfl (ab _) (ab _) (by simp[FL,aj]) (by simp[]))
  have tA:s0=p.types.length+1:=by simp at tz;omega
  subst tA;rw[gA (cd _),bq] at lH;subst lH;simp only[pkA];refine kM _ _ ?_;simp only[pkA,seval,hw];exact bL (t+1,cur++b8 p.types.length (λs0=>emL none (i13 t s0)) 1) _ ⟨bF,by rw[aH];exact hT⟩ (by simp only;omega) (le1 rfl (ab _) (ab _) (by simp[FL,aj]) (by simp[bxs]))
 have mj:t=p.types.length:=by simp at fO;omega
 subst mj;rw[FG,bq] at hT;subst hT;simp only[pkA];refine bQ _ _ ?_;simp only[FN,seval];refine aC rfl (iK _ _) (λ_=>rfl) ?_;simp only[pkA,seval];refine eJ rfl (ny p (es++t11 p none++t12 p none++t13 p none) 14 zfa zfa (iI 0 0) (by simp only[ae];omega)) rfl rfl (by simp[bxs]) ?_;have hx:mB 14 zfa zfa (iI 0 0)=i14:=OH;rw[hx];simp only[pkA,seval];rw[show t15 p none=b8 p.types.length (λs0=>emL none (i15 s0)) 1 from rfl] at cm;rw[show t14 none=[i14] from rfl] at cm;have h14:[i14].length=1:=rfl;refine bz (λx:Nat×List In=>hdS [(0,.bp 0 0),(8,i64 x.1)] [lbx p x.2]) (λx=>p.types.length+1 - x.1) (λx=>(1<=x.1/\x.1<=p.types.length+1)/\x.2++b8 p.types.length (λs0=>emL none (i15 s0)) x.1=(es++t11 p none++t12 p none++t13 p none++[i14])++b8 p.types.length (λs0=>emL none (i15 s0)) 1) (1,(es++t11 p none++t12 p none++t13 p none++[i14])) ⟨⟨ab _,by omega⟩,rfl⟩ ?_ ?_
 .exact(le1 rfl (ab _) (ab _) (by simp[FL,aj]) (by simp[]))
 rintro⟨s0,c0⟩ ⟨⟨tB,tC⟩,lH⟩ R0 kr kM yN;simp only at tB tC lH;have oY:=dM List.length lH;simp only[ae] at oY;simp only[Ao,seval];refine aD (λkL=>?_) (λtz=>?_)
 .have kL:s0<=p.types.length:=by simp at kL;omega
  rw[fw kL] at lH oY;simp only[ae] at oY;have xt:=br (n:=(s0:Int)+1) (k:=s0+1) (by omega) (by omega);simp only[pkA,seval];have hd:(emL none (i15 s0)).length=1:=rfl
  repeat first
   |(simp only[FN,seval])
   |fail
   |refine aC rfl (fR _ _) (λ_=>rfl) ?_
   |refine aC rfl (iK _ _) (λ_=>rfl) ?_
   |refine aC rfl (iL _) (λ_=>rfl) ?_
   |refine aC rfl (jD _) (λ_=>rfl) ?_
  refine eJ rfl (ny p c0 15 (iI 0 s0) zfa (iJ s0) (by omega)) rfl rfl (by simp[bxs]) ?_;have hx:mB 15 (iI 0 s0) zfa (iJ s0)=i15 s0:=zl (by simp[iI]);rw[hx];simp only[pkA,seval,xt];exact kr (s0+1,c0++[i15 s0]) _ ⟨⟨by omega,by omega⟩,by rw[aH];exact lH⟩ (by simp only;omega) (le1 rfl (ab _) (ab _) (by simp[FL,aj]) (by simp[]))
 have tA:s0=p.types.length+1:=by simp at tz;omega
 subst tA;rw[gA (cd _),bq] at lH;subst lH;simp only[pkA];refine kM _ _ ?_;simp only[pkA,seval];exact C9 rfl (ab _) (by simp[bxs];rfl)
theorem Qr {p:Pol} {es:List In} {ρ:Nat->Nat}:(lbx p es).map (V.ren ρ)=lbx p es:=rfl
theorem zm {p:Pol} {es es':List In} {g:FuncId} {fr:Nat->V} {bx:Nat->List V} {K:Vl.S->V->Prop} (h:FnB Tryz.prog G g [.bp 0 0] [lbx p es] (.tup []) [lbx p es']) (h1:bx 1=lbx p es)
 (hK:∀ bx':Nat->List V,bx' 0=bx 0->bx' 1=lbx p es'->K ⟨fr,bx',2⟩ (.tup [])):vcallB Tryz.prog G ⟨fr,bx,2⟩ (.c (.fn (.func g) [] [])) [.bp 1 0] K:=by
 refine jM [1] rfl h (by simp[V.fz,V.ren,rho]) rfl (by decide) rfl ⟨⟨show 1<2 by decide,by rw[Qr];exact h1⟩,trivial⟩ ?_;intro bx' iE oW;exact hK bx' (iE 0 (by decide)) (by rw[<- Qr (p:=p) (es:=es')];exact oW 0 1 _ rfl rfl)
theorem H7 {p:Pol} {o:Option Fa}:fN p o=[]++t1 p o++t2 p o++t3 p o++t4 p o++t5 p o++t6 p o++t7 p o++t8 p o++t9 p o++t10 p o++t11 p o++t12 p o++t13 p o++t14 o++t15 p o:=by unfold fN Oz;simp only[cE,List.flatten_nil,bq,eu,aH]
theorem Zs (p:Pol) (hn:p.types.length<=1000) (hr:p.rules.length<=1000) (cm:(fN p none).length<=20000):FnOK Tryz.prog G 54 [.agg (poC p)] (.c (.sl ((fN p none).map inC))):=by
 have hl:=cm;rw[H7] at hl;simp only[ae] at hl;refine bJ (rs:=[.tmp 2]) false [1000011,1000013,1000015,2500008] mixed Tryz.func54 rfl rfl rfl rfl (by kernel_rfl) (by simp) rfl rfl ?_;simp only[Ao,seval];refine K5 (l:=lbx p []) (by rw[show(p.types.map tyC).length=p.types.length from au ..];rfl) ?_;have hbm:∀ {t d:Nat} {fr:Nat->V} {bx:Nat->List V} {nb:Nat} {K:Vl.S->Prop},fr t=.mag (lbx p [])->rU (some t) d (.mag (lbx p [])) ⟨fr,bx,nb⟩ K=K ⟨up fr d (.bp nb 0),up bx nb (lbx p []),nb+1⟩:=λh=>P2 h;simp only[pkA,seval,hbm];refine zm (Uk p [] hn hr (by simp only[ae,aF];omega)) rfl ?_;intro bx1 h10 h11;simp only[pkA,seval];refine zm (Ul p _ hn hr (by simp only[ae,aF];omega)) h11 ?_;intro bx2 h20 h21;simp only[pkA,seval];refine zm (OK p _ hn hr (by simp only[ae,aF];omega)) h21 ?_;intro bx3 h30 h31;rw[<- H7] at h31;have lb5:∀ nb q K,ldB nb q (lbx p (fN p none)) 5 K=(q<nb/\K (.c (.sl ((fN p none).map inC)))):=λnb q K=>by
  have gZ:(fN p none).isEmpty=false:=by rw[H7];simp[t14,apJ]
  unfold ldB lbx owI;rw[gZ];rfl
 simp only[Ao,seval,h31,lb5]
def xb (l:List Fa):List (List V):=[ln faC l,[.mr 0]]
theorem yv {l:List Fa}:xb l=[ln faC l,[.mr 0]]:=rfl
theorem aeQ {l:List Fa} {f:Fa}:lD [.bp 1 0,.agg (faC f)] (xb l)=true:=by simp only[lD,xb,aY,bn,jd,aB,aF];rfl
theorem aeR {i:Nat}:ck [V.mr i]=false:=rfl
theorem gmr {nb q i:Nat} {K:V->Prop}:ldB nb q [.mr i] 0 K=(q<nb/\K (.mr i)):=rfl
def pkS:=jj @pkF (jj @aeR (jj @gmr (jj @OD @H3)))
theorem H8 {l:List Fa} {f:Fa} {s:Vl.S} {i:Nat} {K:V->Prop} (hb:s.bx i=ln faC l) (hi:i<s.nb) (hK:K (bo (decide (f∈l)))):fH Tryz.prog 88 s (.mr i) (.agg (faC f)) false K:=
 Tn (l:=l) (bs:=List.range l.length) (cl:=l.length) Qi rfl eK rfl rfl EA rfl amM (λ_=>rfl) CY hb hi hK
theorem Zt {l:List Fa} {f:Fa} {s:Vl.S} {i:Nat} {K:Vl.S->Prop} (hb:s.bx i=ln faC l) (hi:i<s.nb) (hK:K { s with bx:=up s.bx i (ln faC (pE l f)) }):gY Tryz.prog 88 s (.mr i) (.agg (faC f)) (bo true) K:=
 XM Qi rfl eK rfl rfl EA rfl amM (λ_=>rfl) CY hb hi hK
theorem Zu {l:List Fa} {r:V} {t:Tmp} {e:VE} {fr:Nat->V} {bx:Nat->List V} {nb:Nat} (he:rV e=true) (hn:2<=nb) (h0:bx 0=ln faC l) (h1:bx 1=[.mr 0]) (ht:fr t=r) (hr:r.ltB 2=true) (MP:r.fz=r):x7 Tryz.prog 2 r (xb l) [.tmp t] e ⟨fr,bx,nb⟩:=
 nO [(t,r)] he (by simp only[gz,xb,aY,bn,jd,hr,aB,aF];rfl) (ab _) hn ⟨ht,trivial⟩ ⟨h0,h1,trivial⟩ (by simp[hdS,frs,pZ,up])
def Zv:=jj @pkA (jj @ptA @pkS)
theorem aeS (l:List Fa) (f:Fa):FnB Tryz.prog G 69 [.bp 1 0,.agg (faC f)] (xb l) (bo (!decide (f∈l))) (xb (pE l f)):=by refine jL (rs:=[.tmp 4]) (k:=2) [3000002] mixed Tryz.func69 rfl rfl rfl rfl (by kernel_rfl) (by simp) rfl rfl rfl aeQ (ab _) ?_;simp only[Zv,seval,yv];refine H8 rfl (show 0<3 by decide) ?_;simp only[Zv,seval];refine Zt rfl (show 0<3 by decide) ?_;simp only[pkA,seval];exact Zu rfl (show 2<=3 by decide) (by simp[]) (by simp[aj,bxs]) (by simp[]) rfl rfl
theorem Zw {flds:List (Nat×Nat×Bool)} {z:List C} {parts:List (Nat×V)} {K:V->Prop} {o:Option (List C)} {l:List V} (h0:o=none) (h:iR flds parts (z.map .c)=some l) (hK:K (.mag l)):sN flds z parts K o:=by subst h0;simp only[sN,h];exact hK
def nI (l:List Fa):List Fa:=l.foldl pE []
theorem FO {l:List Fa} {i:Nat} (h:i<l.length):nI (l.take (i+1))=pE (nI (l.take i)) l[i]:=by unfold nI;rw[aT h,gJ];rfl
theorem uJ {l:List Fa} {f:Fa}:f∈nI l↔f∈l:=by
 have:∀ (l m:List Fa),f∈l.foldl pE m↔f∈l∨f∈m:=λl=>by
  induction l with
  |nil=>intro m;simp
  |cons x l ih=>intro m;rw[di,ih,J7,aN];grind
 unfold nI;rw[this];simp
theorem aeT (l:List Fa) (hm:l.length<=1000000000):FnB Tryz.prog G 50 [.c (fsC l)] [] (.bp 1 0) (xb (nI l)):=by
 refine jL (rs:=[.tmp 2]) (k:=0) [1000017] mixed Tryz.func50 rfl rfl rfl rfl (by kernel_rfl) (by simp) rfl rfl rfl rfl (ar _) ?_;simp only[FN,seval,yv,fsC,Yn];refine Zw (l:=[.mr 0]) rfl rfl ?_;simp only[FN,seval];have setren:∀ (ρ:Nat->Nat) (m:List Fa),(ln faC m).map (V.ren ρ)=ln faC m:=λρ m=>uw;refine bz (λi:Nat=>hdS [(3,.bp 1 0),(9,.c (.sl (l.map faC))),(10,i64 l.length),(11,i64 i)] (xb (nI (l.take i)))) (λi=>l.length - i) (λi=>i<=l.length) 0 (ar _) ?_ ?_
 .refine cg (by simp only[gz,xb,aY,bn,jd,aB,aF];rfl) (ar _) (ab _) ?_ (by simp[BL,aj,xb,nI,Ko])
  simp[FL,aj]
 rintro i hi R bL bQ dq;simp only[pkA,seval,yv];refine aD (λbF=>?_) (λfO=>?_)
 .have bF:i<l.length:=by simpa using bF
  have hw:=br (n:=(i:Int)+1) (k:=i+1) (by omega) (by omega);have e1:((i+1:Nat):Int)=(i:Int)+1:=by omega
  simp only[pkA,seval];refine dP dY rfl eK (by decide) (ay i) (c:=faC l[i]) (by simp[bF]) rfl ?_;simp only[Zv,seval];have q1:∀ a b c:V,eQ [a,b,c] 0 ((faC l[i]).map .c)=(faC l[i]).map .c:=λ_ _ _=>rfl;simp only[pkA,pkS,seval,q1];refine jM [0,1] rfl (aeS (nI (l.take i)) l[i]) (by simp[V.fz,V.ren,rho]) rfl (by decide) rfl ⟨⟨show 0<3 by decide,by simp[aj,bxs,setren,rho]⟩,⟨show 1<3 by decide,by simp[aj,bxs,rho,V.ren]⟩,trivial⟩ ?_;intro bx' iE oW;have b0:bx' 0=ln faC (nI (l.take (i+1))):=by rw[FO bF,<- setren];exact oW 0 0 _ rfl rfl
  have b1:bx' 1=[.mr 0]:=oW 1 1 _ rfl rfl;simp only[pkA,seval,hw];refine bL (i+1) _ bF (by omega) (cg (by simp only[gz,xb,aY,bn,jd,aB,aF];rfl) (ar _) (show 2<=3 by decide) ?_ ⟨b0,b1,trivial⟩);simp[FL,aj,e1]
 .have:i=l.length:=by simp at fO;omega
  subst this;simp only[pkA];refine bQ _ _ ?_;simp only[pkA,seval];rw[bW];exact nO [(2,.bp 1 0)] rfl (by simp only[gz,aY,bn,jd,aB,aF];rfl) (ar _) (ab _) ⟨by simp[],trivial⟩ ⟨rfl,rfl,trivial⟩ rfl
