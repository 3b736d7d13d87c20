/- Layer 17, the specification: the rules 11 to 15. Printed by genr8.py. -/
import Derived.Test.YtloppcgcepgbnaaGreatDoorVlR9
import Derived.Test.YtloppcgcepgbnaaGreatDoorVlE0
import Derived.Test.YtloppcgcepgbnaaGreatDoorVlR2
set_option maxHeartbeats 8000000
set_option linter.all false
namespace Go.Proofs.YtloppcgcepgbnaaGreatDoor
open Go Go.Vl
variable {G:Gl}
set_option maxRecDepth 4000
theorem amK (b:Int):Ks 0 b=true:=by unfold Ks;rw[Af];simp
theorem amL {p:Pol} {t:Nat} (h:t<p.types.length):sy p t 0=true:=by unfold sy;rw[ai h];exact amK _
theorem Oa {p:Pol} {D:Nat->List In} {t:Nat} (h:t<p.types.length):jo p none 0 D t=D t++jo p none 0 D (t+1):=by rw[C0 h];unfold pY;rw[if_pos (by rw[amL h];rfl)]
def FG:=jj @pkA @ptA
def Ai:=jj @pkA (jj @ptA @pkM)
theorem Ob (p:Pol) (es:List In) (hn:p.types.length<=1000) (hr':p.rules.length<=1000) (cj:(es++t11 p none++t12 p none++t13 p none++t14 none++t15 p none).length<900000) :
 FnB Tryz.prog G 76 [.bp 0 0] [lbx p es] (.tup []) [lbx p (es++t11 p none++t12 p none++t13 p none++t14 none++t15 p none)]:=by
 simp only[ae] at cj;refine jM (rs:=[]) (k:=1) [1000010,1000031,1000033,1000064,1000089,1000094,1000109,3000001] mixed Tryz.func76 rfl rfl rfl rfl (by kernel_rfl) (by simp) rfl rfl rfl (wQ rfl) (ab _) ?_;simp only[pkA,seval];refine eL rfl (rO p (es) 2 (by omega)) rfl rfl (by simp[bxs]) ?_;have hL1:(ruR p 2 p.rules.length).length<=1000:=b9 qO (by omega);simp only[pkA,seval];have hf1:(ruR p 2 p.rules.length).flatMap (λr:Ru=>(λa b=>emL none (i11 a b)) r.a.toNat r.b.toNat)=t11 p none:=qa (D:=λa b=>emL none (i11 a b));refine bw (λx:Nat×List In=>hdS [(0,.bp 0 0),(2,.c (.sl ((ruR p 2 p.rules.length).map ruC))),(3,i64 x.1)] [lbx p x.2]) (λx=>(ruR p 2 p.rules.length).length - x.1) (λx=>x.1<=(ruR p 2 p.rules.length).length/\x.2++((ruR p 2 p.rules.length).drop x.1).flatMap (λr:Ru=>(λa b=>emL none (i11 a b)) r.a.toNat r.b.toNat)=es++t11 p none) (0,es) ⟨ar _,by rw[ct,hf1]⟩ ?_ ?_
 .exact(le1 rfl (ab _) (ab _) (by simp[FL,ah]) (by simp[]))
 rintro⟨i,cur⟩ ⟨hi,hT⟩ R bL bO c8;simp only at hi hT;simp only[FG,seval];refine aD (λbE=>?_) (λfH=>?_)
 .have bE:i<(ruR p 2 p.rules.length).length:=by simpa using bE
  rw[iW bE] at hT;have hw:=bn (n:=(i:Int)+1) (k:=i+1) (by omega) (by omega);have hl:=dJ List.length hT;simp only[ae] at hl;obtain⟨r,hr⟩:∃ r,r=(ruR p 2 p.rules.length)[i]:=⟨_,rfl⟩;obtain⟨a,b,ha,hb,han,UC⟩:=wR bE;have ha:r.a=(a:Int):=by rw[hr];exact ha
  have hb:r.b=(b:Int):=by rw[hr];exact hb
  rw[<- hr,ha,hb,cC,cC] at hT hl;simp only[pkA,seval];have hd:(emL none (i11 a b)).length=1:=rfl
  repeat first
   |(simp only[Ai,seval,ha,hb])
   |refine dQ mq rfl fU (by decide) (ay i) (c:=ruC r) (by simp[hr,bE]) rfl ?_
   |refine az rfl (fV _ _) (λ_=>rfl) ?_
   |refine az rfl (iK _ _) (λ_=>rfl) ?_
   |refine az rfl (iL _) (λ_=>rfl) ?_
   |refine az rfl (jE _) (λ_=>rfl) ?_
  refine eL rfl (nv p cur 11 (bD 0 a) zfa (bD 0 b) (by omega)) rfl rfl (by simp[bxs]) ?_;have hx:mz 11 (bD 0 a) zfa (bD 0 b)=i11 a b:=zh (by simp[bD]);rw[hx];simp only[pkA,seval,hw];exact bL (i+1,cur++[i11 a b]) _ ⟨bE,by rw[aI];exact hT⟩ (by simp only;omega) (le1 rfl (ab _) (ab _) (by simp[FL,ah]) (by simp[]))
 have mc:i=(ruR p 2 p.rules.length).length:=by simp at fH;omega
 subst mc;rw[ep,ff,br] at hT;subst hT;simp only[pkA];refine bO _ _ ?_;simp only[pkA,seval];refine eL rfl (rO p (es++t11 p none) 1 (by omega)) rfl rfl (by simp[bxs]) ?_;have hL2:(ruR p 1 p.rules.length).length<=1000:=b9 qO (by omega);simp only[pkA,seval];have hf2:(ruR p 1 p.rules.length).flatMap (λr:Ru=>(λa b=>m12 p none a b) r.a.toNat r.b.toNat)=t12 p none:=qa (D:=λa b=>m12 p none a b);refine bw (λx:Nat×List In=>hdS [(0,.bp 0 0),(2,.c (.sl ((ruR p 1 p.rules.length).map ruC))),(4,i64 x.1)] [lbx p x.2]) (λx=>(ruR p 1 p.rules.length).length - x.1) (λx=>x.1<=(ruR p 1 p.rules.length).length/\x.2++((ruR p 1 p.rules.length).drop x.1).flatMap (λr:Ru=>(λa b=>m12 p none a b) r.a.toNat r.b.toNat)=es++t11 p none++t12 p none) (0,es++t11 p none) ⟨ar _,by rw[ct,hf2]⟩ ?_ ?_
 .exact(le1 rfl (ab _) (ab _) (by simp[FL,ah]) (by simp[]))
 rintro⟨i,cur⟩ ⟨hi,hT⟩ R bL bO c8;simp only at hi hT;simp only[FG,seval];refine aD (λbE=>?_) (λfH=>?_)
 .have bE:i<(ruR p 1 p.rules.length).length:=by simpa using bE
  rw[iW bE] at hT;have hw:=bn (n:=(i:Int)+1) (k:=i+1) (by omega) (by omega);have hl:=dJ List.length hT;simp only[ae] at hl;obtain⟨r,hr⟩:∃ r,r=(ruR p 1 p.rules.length)[i]:=⟨_,rfl⟩;obtain⟨a,b,ha,hb,han,UC⟩:=wR bE;have ha:r.a=(a:Int):=by rw[hr];exact ha
  have hb:r.b=(b:Int):=by rw[hr];exact hb
  rw[<- hr,ha,hb,cC,cC] at hT hl;simp only[pkA,seval];rw[show m12 p none a b=cd p.types.length (λs0=>emL none (i12 a b s0)) 1 from rfl] at hT hl;refine bw (λx:Nat×List In=>hdS [(0,.bp 0 0),(2,.c (.sl ((ruR p 1 p.rules.length).map ruC))),(4,i64 i),(5,i64 x.1)] [lbx p x.2]) (λx=>p.types.length+1 - x.1) (λx=>(1<=x.1/\x.1<=p.types.length+1)/\x.2++cd p.types.length (λs0=>emL none (i12 a b s0)) x.1=cur++cd p.types.length (λs0=>emL none (i12 a b s0)) 1) (1,cur) ⟨⟨ab _,by omega⟩,rfl⟩ ?_ ?_
  .exact(le1 rfl (ab _) (ab _) (by simp[FL,ah]) (by simp[bxs]))
  rintro⟨s0,c0⟩ ⟨⟨sV,sW⟩,lF⟩ R0 kz kL uK;simp only at sV sW lF;have oM:=dJ List.length lF;simp only[ae] at oM;simp only[Ai,seval];refine aD (λkK=>?_) (λsS=>?_)
  .have kK:s0<=p.types.length:=by simp at kK;omega
   rw[fA kK] at lF oM;simp only[ae] at oM;have xh:=bn (n:=(s0:Int)+1) (k:=s0+1) (by omega) (by omega);simp only[pkA,seval];have hd:(emL none (i12 a b s0)).length=1:=rfl
   repeat first
    |(simp only[Ai,seval,ha,hb])
    |refine dQ mq rfl fU (by decide) (ay i) (c:=ruC r) (by simp[hr,bE]) rfl ?_
    |refine az rfl (fV _ _) (λ_=>rfl) ?_
    |refine az rfl (iK _ _) (λ_=>rfl) ?_
    |refine az rfl (iL _) (λ_=>rfl) ?_
    |refine az rfl (jE _) (λ_=>rfl) ?_
   refine eL rfl (nv p c0 12 (bD 0 a) (bD s0 b) (iJ s0) (by omega)) rfl rfl (by simp[bxs]) ?_;have hx:mz 12 (bD 0 a) (bD s0 b) (iJ s0)=i12 a b s0:=Da (by simp[bD]) (by simp[bD]);rw[hx];simp only[pkA,seval,xh];exact kz (s0+1,c0++[i12 a b s0]) _ ⟨⟨by omega,by omega⟩,by rw[aI];exact lF⟩ (by simp only;omega) (le1 rfl (ab _) (ab _) (by simp[FL,ah]) (by simp[]))
  have sU:s0=p.types.length+1:=by simp at sS;omega
  subst sU;rw[gB (ck _),br] at lF;subst lF;simp only[pkA];refine kL _ _ ?_;simp only[pkA,seval,hw];exact bL (i+1,cur++cd p.types.length (λs0=>emL none (i12 a b s0)) 1) _ ⟨bE,by rw[aI];exact hT⟩ (by simp only;omega) (le1 rfl (ab _) (ab _) (by simp[FL,ah]) (by simp[bxs]))
 have mc:i=(ruR p 1 p.rules.length).length:=by simp at fH;omega
 subst mc;rw[ep,ff,br] at hT;subst hT;simp only[pkA];refine bO _ _ ?_;simp only[pkA,seval];refine bw (λx:Nat×List In=>hdS [(0,.bp 0 0),(6,i64 x.1)] [lbx p x.2]) (λx=>p.types.length - x.1) (λx=>x.1<=p.types.length/\x.2++jo p none 0 (λt=>m13 p none t) x.1=es++t11 p none++t12 p none++t13 p none) (0,es++t11 p none++t12 p none) ⟨ar _,rfl⟩ ?_ ?_
 .exact(le1 rfl (ab _) (ab _) (by simp[FL,ah]) (by simp[bxs]))
 rintro⟨t,cur⟩ ⟨hi,hT⟩ R bL bO c8;simp only at hi hT;simp only[Ai,seval];refine aD (λbE=>?_) (λfH=>?_)
 .have bE:t<p.types.length:=by simpa using bE
  rw[Oa bE] at hT;have hw:=bn (n:=(t:Int)+1) (k:=t+1) (by omega) (by omega);have hl:=dJ List.length hT;simp only[ae] at hl;rw[show m13 p none t=cd p.types.length (λs0=>emL none (i13 t s0)) 1 from rfl] at hT hl;simp only[pkA,seval];refine bw (λx:Nat×List In=>hdS [(0,.bp 0 0),(6,i64 t),(7,i64 x.1)] [lbx p x.2]) (λx=>p.types.length+1 - x.1) (λx=>(1<=x.1/\x.1<=p.types.length+1)/\x.2++cd p.types.length (λs0=>emL none (i13 t s0)) x.1=cur++cd p.types.length (λs0=>emL none (i13 t s0)) 1) (1,cur) ⟨⟨ab _,by omega⟩,rfl⟩ ?_ ?_
  .exact(le1 rfl (ab _) (ab _) (by simp[FL,ah]) (by simp[bxs]))
  rintro⟨s0,c0⟩ ⟨⟨sV,sW⟩,lF⟩ R0 kz kL uK;simp only at sV sW lF;have oM:=dJ List.length lF;simp only[ae] at oM;simp only[Ai,seval];refine aD (λkK=>?_) (λsS=>?_)
  .have kK:s0<=p.types.length:=by simp at kK;omega
   rw[fA kK] at lF oM;simp only[ae] at oM;have xh:=bn (n:=(s0:Int)+1) (k:=s0+1) (by omega) (by omega);simp only[pkA,seval];have hd:(emL none (i13 t s0)).length=1:=rfl
   repeat first
    |(simp only[pkA,seval])
    |fail
    |refine az rfl (fV _ _) (λ_=>rfl) ?_
    |refine az rfl (iK _ _) (λ_=>rfl) ?_
    |refine az rfl (iL _) (λ_=>rfl) ?_
    |refine az rfl (jE _) (λ_=>rfl) ?_
   refine eL rfl (nv p c0 13 (iJ s0) (bD s0 t) (bD 0 t) (by omega)) rfl rfl (by simp[bxs]) ?_;have hx:mz 13 (iJ s0) (bD s0 t) (bD 0 t)=i13 t s0:=Da (by simp[iJ]) (by simp[bD]);rw[hx];simp only[pkA,seval,xh];exact kz (s0+1,c0++[i13 t s0]) _ ⟨⟨by omega,by omega⟩,by rw[aI];exact lF⟩ (by simp only;omega) (le1 rfl (ab _) (ab _) (by simp[FL,ah]) (by simp[]))
  have sU:s0=p.types.length+1:=by simp at sS;omega
  subst sU;rw[gB (ck _),br] at lF;subst lF;simp only[pkA];refine kL _ _ ?_;simp only[pkA,seval,hw];exact bL (t+1,cur++cd p.types.length (λs0=>emL none (i13 t s0)) 1) _ ⟨bE,by rw[aI];exact hT⟩ (by simp only;omega) (le1 rfl (ab _) (ab _) (by simp[FL,ah]) (by simp[bxs]))
 have mc:t=p.types.length:=by simp at fH;omega
 subst mc;rw[FA,br] at hT;subst hT;simp only[pkA];refine bO _ _ ?_;simp only[FG,seval];refine az rfl (iK _ _) (λ_=>rfl) ?_;simp only[pkA,seval];refine eL rfl (nv p (es++t11 p none++t12 p none++t13 p none) 14 zfa zfa (iI 0 0) (by simp only[ae];omega)) rfl rfl (by simp[bxs]) ?_;have hx:mz 14 zfa zfa (iI 0 0)=i14:=N8;rw[hx];simp only[pkA,seval];rw[show t15 p none=cd p.types.length (λs0=>emL none (i15 s0)) 1 from rfl] at cj;rw[show t14 none=[i14] from rfl] at cj;have h14:[i14].length=1:=rfl;refine bw (λx:Nat×List In=>hdS [(0,.bp 0 0),(8,i64 x.1)] [lbx p x.2]) (λx=>p.types.length+1 - x.1) (λx=>(1<=x.1/\x.1<=p.types.length+1)/\x.2++cd p.types.length (λs0=>emL none (i15 s0)) x.1=(es++t11 p none++t12 p none++t13 p none++[i14])++cd p.types.length (λs0=>emL none (i15 s0)) 1) (1,(es++t11 p none++t12 p none++t13 p none++[i14])) ⟨⟨ab _,by omega⟩,rfl⟩ ?_ ?_
 .exact(le1 rfl (ab _) (ab _) (by simp[FL,ah]) (by simp[]))
 rintro⟨s0,c0⟩ ⟨⟨sV,sW⟩,lF⟩ R0 kz kL uK;simp only at sV sW lF;have oM:=dJ List.length lF;simp only[ae] at oM;simp only[Ai,seval];refine aD (λkK=>?_) (λsS=>?_)
 .have kK:s0<=p.types.length:=by simp at kK;omega
  rw[fA kK] at lF oM;simp only[ae] at oM;have xh:=bn (n:=(s0:Int)+1) (k:=s0+1) (by omega) (by omega);simp only[pkA,seval];have hd:(emL none (i15 s0)).length=1:=rfl
  repeat first
   |(simp only[FG,seval])
   |fail
   |refine az rfl (fV _ _) (λ_=>rfl) ?_
   |refine az rfl (iK _ _) (λ_=>rfl) ?_
   |refine az rfl (iL _) (λ_=>rfl) ?_
   |refine az rfl (jE _) (λ_=>rfl) ?_
  refine eL rfl (nv p c0 15 (iI 0 s0) zfa (iJ s0) (by omega)) rfl rfl (by simp[bxs]) ?_;have hx:mz 15 (iI 0 s0) zfa (iJ s0)=i15 s0:=zh (by simp[iI]);rw[hx];simp only[pkA,seval,xh];exact kz (s0+1,c0++[i15 s0]) _ ⟨⟨by omega,by omega⟩,by rw[aI];exact lF⟩ (by simp only;omega) (le1 rfl (ab _) (ab _) (by simp[FL,ah]) (by simp[]))
 have sU:s0=p.types.length+1:=by simp at sS;omega
 subst sU;rw[gB (ck _),br] at lF;subst lF;simp only[pkA];refine kL _ _ ?_;simp only[pkA,seval];exact C7 rfl (ab _) (by simp[bxs];rfl)
theorem PX {p:Pol} {es:List In} {ρ:Nat->Nat}:(lbx p es).map (V.ren ρ)=lbx p es:=rfl
theorem zi {p:Pol} {es es':List In} {g:FuncId} {fr:Nat->V} {bx:Nat->List V} {K:Vl.S->V->Prop} (h:FnB Tryz.prog G g [.bp 0 0] [lbx p es] (.tup []) [lbx p es']) (h1:bx 1=lbx p es)
 (hK:∀ bx':Nat->List V,bx' 0=bx 0->bx' 1=lbx p es'->K ⟨fr,bx',2⟩ (.tup [])):vcallB Tryz.prog G ⟨fr,bx,2⟩ (.c (.fn (.func g) [] [])) [.bp 1 0] K:=by
 refine jN [1] rfl h (by simp[V.fz,V.ren,rho]) rfl (by decide) rfl ⟨⟨show 1<2 by decide,by rw[PX];exact h1⟩,trivial⟩ ?_;intro bx' iE oa;exact hK bx' (iE 0 (by decide)) (by rw[<- PX (p:=p) (es:=es')];exact oa 0 1 _ rfl rfl)
theorem HU {p:Pol} {o:Option Fa}:fR p o=[]++t1 p o++t2 p o++t3 p o++t4 p o++t5 p o++t6 p o++t7 p o++t8 p o++t9 p o++t10 p o++t11 p o++t12 p o++t13 p o++t14 o++t15 p o:=by unfold fR N1;simp only[cF,List.flatten_nil,br,eu,aI]
theorem Yi (p:Pol) (hn:p.types.length<=1000) (hr:p.rules.length<=1000) (cj:(fR p none).length<=20000):FnOK Tryz.prog G 54 [.agg (poC p)] (.c (.sl ((fR p none).map inC))):=by
 have hl:=cj;rw[HU] at hl;simp only[ae] at hl;refine bI (rs:=[.tmp 2]) false [1000011,1000013,1000015,2500008] mixed Tryz.func54 rfl rfl rfl rfl (by kernel_rfl) (by simp) rfl rfl ?_;simp only[Ai,seval];refine KG (l:=lbx p []) (by rw[show(p.types.map tyC).length=p.types.length from au ..];rfl) ?_;have hbm:∀ {t d:Nat} {fr:Nat->V} {bx:Nat->List V} {nb:Nat} {K:Vl.S->Prop},fr t=.mag (lbx p [])->y4 (some t) d (.mag (lbx p [])) ⟨fr,bx,nb⟩ K=K ⟨up fr d (.bp nb 0),up bx nb (lbx p []),nb+1⟩:=λh=>Pn h;simp only[pkA,seval,hbm];refine zi (Tv p [] hn hr (by simp only[ae,aG];omega)) rfl ?_;intro bx1 h10 h11;simp only[pkA,seval];refine zi (Tz p _ hn hr (by simp only[ae,aG];omega)) h11 ?_;intro bx2 h20 h21;simp only[pkA,seval];refine zi (Ob p _ hn hr (by simp only[ae,aG];omega)) h21 ?_;intro bx3 h30 h31;rw[<- HU] at h31;have lb5:∀ nb q K,ldB nb q (lbx p (fR p none)) 5 K=(q<nb/\K (.c (.sl ((fR p none).map inC)))):=λnb q K=>by
  have gY:(fR p none).isEmpty=false:=by rw[HU];simp[t14,amJ]
  unfold ldB lbx owI;rw[gY];rfl
 simp only[Ai,seval,h31,lb5]
def wS (l:List Fa):List (List V):=[lk faC l,[.mr 0]]
theorem yo {l:List Fa}:wS l=[lk faC l,[.mr 0]]:=rfl
theorem acL {l:List Fa} {f:Fa}:lC [.bp 1 0,.agg (faC f)] (wS l)=true:=by simp only[lC,wS,bh,bB,jc,aC,aG];rfl
def pkS:=@pkF
theorem HV {l:List Fa} {f:Fa} {s:Vl.S} {i:Nat} {K:V->Prop} (hb:s.bx i=lk faC l) (hi:i<s.nb) (hK:K (bo (decide (f∈l)))):fL Tryz.prog 88 s (.mr i) (.agg (faC f)) false K:=
 Sv (l:=l) (bs:=List.range l.length) (cl:=l.length) PM rfl eS rfl rfl HI rfl ajS (λ_=>rfl) CX hb hi hK
theorem Yj {l:List Fa} {f:Fa} {s:Vl.S} {i:Nat} {K:Vl.S->Prop} (hb:s.bx i=lk faC l) (hi:i<s.nb) (hK:K { s with bx:=up s.bx i (lk faC (pt l f)) }):iC Tryz.prog 88 s (.mr i) (.agg (faC f)) (bo true) K:=
 WW PM rfl eS rfl rfl HI rfl ajS (λ_=>rfl) CX hb hi hK
theorem Yk {l:List Fa} {r:V} {t:Tmp} {e:VE} {fr:Nat->V} {bx:Nat->List V} {nb:Nat} (he:rF e=true) (hn:2<=nb) (h0:bx 0=lk faC l) (h1:bx 1=[.mr 0]) (ht:fr t=r) (hr:r.ltB 2=true) (Md:r.fz=r):xN Tryz.prog 2 r (wS l) [.tmp t] e ⟨fr,bx,nb⟩:=
 nK [(t,r)] he (by simp only[iV,wS,bh,bB,jc,hr,aC,aG];rfl) (ab _) hn ⟨ht,trivial⟩ ⟨h0,h1,trivial⟩ (by simp[hdS,frs,pR,up])
def Yl:=jj @pkA (jj @ptA @pkS)
theorem acM (l:List Fa) (f:Fa):FnB Tryz.prog G 69 [.bp 1 0,.agg (faC f)] (wS l) (bo (!decide (f∈l))) (wS (pt l f)):=by refine jM (rs:=[.tmp 4]) (k:=2) [3000002] mixed Tryz.func69 rfl rfl rfl rfl (by kernel_rfl) (by simp) rfl rfl rfl acL (ab _) ?_;simp only[Yl,seval,yo];refine HV rfl (show 0<3 by decide) ?_;simp only[Yl,seval];refine Yj rfl (show 0<3 by decide) ?_;simp only[pkA,seval];exact Yk rfl (show 2<=3 by decide) (by simp[]) (by simp[ah,bxs]) (by simp[]) rfl rfl
theorem Ym {flds:List (Nat×Nat×Bool)} {z:List C} {parts:List (Nat×V)} {K:V->Prop} {o:Option (List C)} {l:List V} (h0:o=none) (h:lx flds parts (z.map .c)=some l) (hK:K (.mag l)):vz flds z parts K o:=by subst h0;simp only[vz,h];exact hK
def mA (l:List Fa):List Fa:=l.foldl pt []
theorem FH {l:List Fa} {i:Nat} (h:i<l.length):mA (l.take (i+1))=pt (mA (l.take i)) l[i]:=by unfold mA;rw[aU h,jZ];rfl
theorem rQ {l:List Fa} {f:Fa}:f∈mA l↔f∈l:=by
 have:∀ (l m:List Fa),f∈l.foldl pt m↔f∈l∨f∈m:=λl=>by
  induction l with
  |nil=>intro m;simp
  |cons x l ih=>intro m;rw[dT,ih,JQ,aP];grind
 unfold mA;rw[this];simp
theorem acN (l:List Fa) (hm:l.length<=1000000000):FnB Tryz.prog G 50 [.c (fsC l)] [] (.bp 1 0) (wS (mA l)):=by
 refine jM (rs:=[.tmp 2]) (k:=0) [1000017] mixed Tryz.func50 rfl rfl rfl rfl (by kernel_rfl) (by simp) rfl rfl rfl rfl (ar _) ?_;simp only[FG,seval,yo,fsC,Xt];refine Ym (l:=[.mr 0]) rfl rfl ?_;simp only[FG,seval];have setren:∀ (ρ:Nat->Nat) (m:List Fa),(lk faC m).map (V.ren ρ)=lk faC m:=λρ m=>ud;refine bw (λi:Nat=>hdS [(3,.bp 1 0),(9,.c (.sl (l.map faC))),(10,i64 l.length),(11,i64 i)] (wS (mA (l.take i)))) (λi=>l.length - i) (λi=>i<=l.length) 0 (ar _) ?_ ?_
 .refine cm (by simp only[iV,wS,bh,bB,jc,aC,aG];rfl) (ar _) (ab _) ?_ (by simp[BL,ah,wS,mA,JU])
  simp[FL,ah]
 rintro i hi R bL bO c8;simp only[pkA,seval,yo];refine aD (λbE=>?_) (λfH=>?_)
 .have bE:i<l.length:=by simpa using bE
  have hw:=bn (n:=(i:Int)+1) (k:=i+1) (by omega) (by omega);have e1:((i+1:Nat):Int)=(i:Int)+1:=by omega
  simp only[pkA,seval];refine dQ eC rfl eS (by decide) (ay i) (c:=faC l[i]) (by simp[bE]) rfl ?_;simp only[Yl,seval];have q1:∀ a b c:V,eP [a,b,c] 0 ((faC l[i]).map .c)=(faC l[i]).map .c:=λ_ _ _=>rfl;simp only[pkA,pkS,seval,q1];refine jN [0,1] rfl (acM (mA (l.take i)) l[i]) (by simp[V.fz,V.ren,rho]) rfl (by decide) rfl ⟨⟨show 0<3 by decide,by simp[ah,bxs,setren,rho]⟩,⟨show 1<3 by decide,by simp[ah,bxs,rho,V.ren]⟩,trivial⟩ ?_;intro bx' iE oa;have b0:bx' 0=lk faC (mA (l.take (i+1))):=by rw[FH bE,<- setren];exact oa 0 0 _ rfl rfl
  have b1:bx' 1=[.mr 0]:=oa 1 1 _ rfl rfl;simp only[pkA,seval,hw];refine bL (i+1) _ bE (by omega) (cm (by simp only[iV,wS,bh,bB,jc,aC,aG];rfl) (ar _) (show 2<=3 by decide) ?_ ⟨b0,b1,trivial⟩);simp[FL,ah,e1]
 .have:i=l.length:=by simp at fH;omega
  subst this;simp only[pkA];refine bO _ _ ?_;simp only[pkA,seval];rw[bZ];exact nK [(2,.bp 1 0)] rfl (by simp only[iV,bh,bB,jc,aC,aG];rfl) (ar _) (ab _) ⟨by simp[],trivial⟩ ⟨rfl,rfl,trivial⟩ rfl
