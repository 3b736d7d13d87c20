/- Layer 17, the specification: the rules 6 to 10. Printed by genr8.py. -/
import Derived.Test.YtloppcgcepgbnaaGreatDoorVlR8
set_option linter.all false
namespace Go.Proofs.YtloppcgcepgbnaaGreatDoor
open Go Go.Vl
variable {G:Gl}
set_option maxRecDepth 4000
theorem Yd {n a b v w:Nat} (hv:v=0) (hw:0<w):cd n (λs1=>r10 none a b v s1) w=[]:=by unfold cd;rw[List.flatMap_eq_nil_iff];intro x hx;rw[lG] at hx;unfold r10;rw[if_pos ⟨by omega,hv⟩]
theorem aeq (x:In):(inC x).map C.wk=inC x:=rfl
theorem Ye {p:Pol} {es:List In} {a b s0 s1:Nat} (h:s1=0):(lbh p es ⟨10,[bD s0 a,iI s0 s1],[bD s1 b]⟩).set 5 (.ow (some (35,3)) ((es.map inC++[N7 ⟨10,[bD s0 a,iI s0 s1],[bD s1 b]⟩]).map (·.map C.wk)))=lbx p (es++[i10 a b s0 s1]):=by
 subst h;unfold lbh lbx owI;simp only[jD,kS,db,eW,bA,jY];have e:(λe:List C=>e.map C.wk)∘inC=inC:=by funext x;exact aeq x
 rw[e];have h2:(es++[i10 a b s0 0]).isEmpty=false:=by cases es<;>rfl
 rw[h2];rfl
theorem ahx {p:Pol} {es:List In} {a b s0 s1:Nat} {v0 v1:V} (h:0<s1):(((lbh p es ⟨10,[bD s0 a,iI s0 s1],[bD s1 b]⟩).set 5 v0).set 5 v1).set 5 (.ow (some (35,3)) ((es.map inC++[(N7 ⟨10,[bD s0 a,iI s0 s1],[bD s1 b]⟩).set 2 (.sl [faC (bD s1 b),faC (wK s1)])]).map (·.map C.wk)))=lbx p (es++[i10 a b s0 s1]):=by
 unfold lbh lbx owI;simp only[jD,kS,db,eW,bA,jY];have e:(λe:List C=>e.map C.wk)∘inC=inC:=by funext x;exact aeq x
 rw[e];have h2:(es++[i10 a b s0 s1]).isEmpty=false:=by cases es<;>rfl
 have h3:i10 a b s0 s1=⟨10,[bD s0 a,iI s0 s1],[bD s1 b,wK s1]⟩:=by unfold i10;rw[if_pos h]
 rw[h2,h3];rfl
theorem N9 {es:List In}:(es.map inC).flatten.length=es.length*3:=by
 induction es with
 |nil=>rfl
 |cons x l ih=>simp only[bA,cF,ae,ih,Be,aC];omega
theorem Yf {es:List In} {x:In}:((es.map inC++[N7 x]).flatten)[0+es.length*3+2]?=some (.sx (x.con.map faC)):=by rw[di,aH (by rw[N9];omega),N9,show 0+es.length*3+2 - es.length*3=2 by omega];rfl
theorem Yg {es:List In}:(es.map inC).flatten.length+2=0+es.length*3+2:=by rw[N9];omega
theorem ahy {x y:Fa} {K:V->Prop} (hK:K (.ow (some (54,3)) [faC x,faC y])):dR Tryz.prog 28 (.ow none [faC x]) (.c (.sl [faC y])) K:=by rw[zd];exact⟨⟨by simp,λe he=>by rw[aX] at he;subst he;rfl⟩,⟨by simp,by simp,λe he=>by rw[aX] at he;subst he;rfl⟩,hK⟩
section
variable {p:Pol} {es:List In} {x:In} {v:Value} {E:Option (TypeId×Nat)} {l:List (List C)} {y:V} {nb q:Nat} {K:V->Prop}
theorem aer:cL ((lbh p es x).set 5 y)=false:=rfl
theorem aes:ldB nb q ((lbh p es x).set 5 (.hh (some v) E l)) 5 K=(q<nb/\K (.c (.ex v))):=rfl
end
def Yh:=jj @pkA @pkM
def o7:=jj @pkA (jj @ptA @pkM)
def PW:=jj @pkA @ptA
set_option maxHeartbeats 8000000 in
theorem Tz (p:Pol) (es:List In) (hn:p.types.length<=1000) (hr':p.rules.length<=1000) (cj:(es++t6 p none++t7 p none++t8 p none++t9 p none++t10 p none).length<900000) :
 FnB Tryz.prog G 75 [.bp 0 0] [lbx p es] (.tup []) [lbx p (es++t6 p none++t7 p none++t8 p none++t9 p none++t10 p none)]:=by
 simp only[ae] at cj;refine jM (rs:=[]) (k:=1) [1000019,1000044,1000046,1000071,1000073,1000114,1000116,1000151,1000153,1000202,2300050,2300047,3000001] mixed Tryz.func75 rfl rfl rfl rfl (by kernel_rfl) (by simp) rfl rfl rfl (wQ rfl) (ab _) ?_;simp only[pkA,seval];refine eL rfl (qb p (es) 4 (by unfold I64;omega) (by omega)) rfl rfl (by simp[bxs]) ?_;have hL1:(fgN p 4 p.types.length).length<=1000:=b9 u5 (by omega);simp only[pkA,seval];have hf1:(fgN p 4 p.types.length).flatMap (λt=>m6 p none t)=t6 p none:=uq;refine bw (λx:Nat×List In=>hdS [(0,.bp 0 0),(2,.c (tsC (fgN p 4 p.types.length))),(3,i64 x.1)] [lbx p x.2]) (λx=>(fgN p 4 p.types.length).length - x.1) (λx=>x.1<=(fgN p 4 p.types.length).length/\x.2++((fgN p 4 p.types.length).drop x.1).flatMap (λt=>m6 p none t)=es++t6 p none) (0,es) ⟨ar _,by rw[ct,hf1]⟩ ?_ ?_
 .exact(le1 rfl (ab _) (ab _) (by simp[FL,ah]) (by simp[]))
 rintro⟨i,cur⟩ ⟨hi,hT⟩ R bL bO c8;simp only at hi hT;simp only[Yh,seval];refine aD (λbE=>?_) (λfH=>?_)
 .have bE:i<(fgN p 4 p.types.length).length:=by simpa using bE
  rw[iW bE] at hT;have hw:=bn (n:=(i:Int)+1) (k:=i+1) (by omega) (by omega);have hl:=dJ List.length hT;simp only[ae] at hl;obtain⟨t,ht⟩:∃ t,t=(fgN p 4 p.types.length)[i]:=⟨_,rfl⟩;have rn:t<p.types.length:=by rw[ht];exact Db _
  rw[<- ht] at hT hl;simp only[pkA,seval];rw[show m6 p none t=cd p.types.length (λs0=>emL none (i6 t s0)) 1 from rfl] at hT hl;refine bw (λx:Nat×List In=>hdS [(0,.bp 0 0),(2,.c (tsC (fgN p 4 p.types.length))),(3,i64 i),(4,i64 x.1)] [lbx p x.2]) (λx=>p.types.length+1 - x.1) (λx=>(1<=x.1/\x.1<=p.types.length+1)/\x.2++cd p.types.length (λs0=>emL none (i6 t s0)) x.1=cur++cd p.types.length (λs0=>emL none (i6 t s0)) 1) (1,cur) ⟨⟨ab _,by omega⟩,rfl⟩ ?_ ?_
  .exact(le1 rfl (ab _) (ab _) (by simp[FL,ah]) (by simp[bxs]))
  rintro⟨s0,c0⟩ ⟨⟨sV,sW⟩,lF⟩ R0 kz kL uK;simp only at sV sW lF;have oM:=dJ List.length lF;simp only[ae] at oM;simp only[o7,seval];refine aD (λkK=>?_) (λsS=>?_)
  .have kK:s0<=p.types.length:=by simp at kK;omega
   rw[fA kK] at lF oM;simp only[ae] at oM;have xh:=bn (n:=(s0:Int)+1) (k:=s0+1) (by omega) (by omega);simp only[pkA,seval];have hd:(emL none (i6 t s0)).length=1:=rfl
   repeat first
    |(simp only[o7,seval])
    |refine dQ pX rfl mo (by decide) (ay i) (c:=[cI (t:Int)]) (by simp[ht,bE]) rfl ?_
    |refine az rfl (fV _ _) (λ_=>rfl) ?_
    |refine az rfl (iK _ _) (λ_=>rfl) ?_
    |refine az rfl (iL _) (λ_=>rfl) ?_
    |refine az rfl (jE _) (λ_=>rfl) ?_
   refine eL rfl (nv p c0 6 (bD s0 t) zfa (iJ s0) (by omega)) rfl rfl (by simp[bxs]) ?_;have hx:mz 6 (bD s0 t) zfa (iJ s0)=i6 t s0:=zh (by simp[bD]);rw[hx];simp only[pkA,seval,xh];exact kz (s0+1,c0++[i6 t s0]) _ ⟨⟨by omega,by omega⟩,by rw[aI];exact lF⟩ (by simp only;omega) (le1 rfl (ab _) (ab _) (by simp[FL,ah]) (by simp[]))
  have sU:s0=p.types.length+1:=by simp at sS;omega
  subst sU;rw[gB (ck _),br] at lF;subst lF;simp only[pkA];refine kL _ _ ?_;simp only[pkA,seval,hw];exact bL (i+1,cur++cd p.types.length (λs0=>emL none (i6 t s0)) 1) _ ⟨bE,by rw[aI];exact hT⟩ (by simp only;omega) (le1 rfl (ab _) (ab _) (by simp[FL,ah]) (by simp[bxs]))
 have mc:i=(fgN p 4 p.types.length).length:=by simp at fH;omega
 subst mc;rw[ep,ff,br] at hT;subst hT;simp only[pkA];refine bO _ _ ?_;simp only[pkA,seval];refine eL rfl (qb p (es++t6 p none) 8 (by unfold I64;omega) (by omega)) rfl rfl (by simp[bxs]) ?_;have hL2:(fgN p 8 p.types.length).length<=1000:=b9 u5 (by omega);simp only[pkA,seval];have hf2:(fgN p 8 p.types.length).flatMap (λt=>m7 p none t)=t7 p none:=uq;refine bw (λx:Nat×List In=>hdS [(0,.bp 0 0),(2,.c (tsC (fgN p 8 p.types.length))),(5,i64 x.1)] [lbx p x.2]) (λx=>(fgN p 8 p.types.length).length - x.1) (λx=>x.1<=(fgN p 8 p.types.length).length/\x.2++((fgN p 8 p.types.length).drop x.1).flatMap (λt=>m7 p none t)=es++t6 p none++t7 p none) (0,es++t6 p none) ⟨ar _,by rw[ct,hf2]⟩ ?_ ?_
 .exact(le1 rfl (ab _) (ab _) (by simp[FL,ah]) (by simp[]))
 rintro⟨i,cur⟩ ⟨hi,hT⟩ R bL bO c8;simp only at hi hT;simp only[Yh,seval];refine aD (λbE=>?_) (λfH=>?_)
 .have bE:i<(fgN p 8 p.types.length).length:=by simpa using bE
  rw[iW bE] at hT;have hw:=bn (n:=(i:Int)+1) (k:=i+1) (by omega) (by omega);have hl:=dJ List.length hT;simp only[ae] at hl;obtain⟨t,ht⟩:∃ t,t=(fgN p 8 p.types.length)[i]:=⟨_,rfl⟩;have rn:t<p.types.length:=by rw[ht];exact Db _
  rw[<- ht] at hT hl;simp only[pkA,seval];rw[show m7 p none t=cd p.types.length (λs0=>emL none (i7 t s0)) 0 from rfl] at hT hl;refine bw (λx:Nat×List In=>hdS [(0,.bp 0 0),(2,.c (tsC (fgN p 8 p.types.length))),(5,i64 i),(6,i64 x.1)] [lbx p x.2]) (λx=>p.types.length+1 - x.1) (λx=>(0<=x.1/\x.1<=p.types.length+1)/\x.2++cd p.types.length (λs0=>emL none (i7 t s0)) x.1=cur++cd p.types.length (λs0=>emL none (i7 t s0)) 0) (0,cur) ⟨⟨ab _,by omega⟩,rfl⟩ ?_ ?_
  .exact(le1 rfl (ab _) (ab _) (by simp[FL,ah]) (by simp[bxs]))
  rintro⟨s0,c0⟩ ⟨⟨sV,sW⟩,lF⟩ R0 kz kL uK;simp only at sV sW lF;have oM:=dJ List.length lF;simp only[ae] at oM;simp only[o7,seval];refine aD (λkK=>?_) (λsS=>?_)
  .have kK:s0<=p.types.length:=by simp at kK;omega
   rw[fA kK] at lF oM;simp only[ae] at oM;have xh:=bn (n:=(s0:Int)+1) (k:=s0+1) (by omega) (by omega);simp only[pkA,seval];have hd:(emL none (i7 t s0)).length=1:=rfl
   repeat first
    |(simp only[o7,seval])
    |refine dQ pX rfl mo (by decide) (ay i) (c:=[cI (t:Int)]) (by simp[ht,bE]) rfl ?_
    |refine az rfl (fV _ _) (λ_=>rfl) ?_
    |refine az rfl (iK _ _) (λ_=>rfl) ?_
    |refine az rfl (iL _) (λ_=>rfl) ?_
    |refine az rfl (jE _) (λ_=>rfl) ?_
   refine eL rfl (nv p c0 7 (bD s0 t) zfa (iI s0 0) (by omega)) rfl rfl (by simp[bxs]) ?_;have hx:mz 7 (bD s0 t) zfa (iI s0 0)=i7 t s0:=zh (by simp[bD]);rw[hx];simp only[pkA,seval,xh];exact kz (s0+1,c0++[i7 t s0]) _ ⟨⟨by omega,by omega⟩,by rw[aI];exact lF⟩ (by simp only;omega) (le1 rfl (ab _) (ab _) (by simp[FL,ah]) (by simp[]))
  have sU:s0=p.types.length+1:=by simp at sS;omega
  subst sU;rw[gB (ck _),br] at lF;subst lF;simp only[pkA];refine kL _ _ ?_;simp only[pkA,seval,hw];exact bL (i+1,cur++cd p.types.length (λs0=>emL none (i7 t s0)) 0) _ ⟨bE,by rw[aI];exact hT⟩ (by simp only;omega) (le1 rfl (ab _) (ab _) (by simp[FL,ah]) (by simp[bxs]))
 have mc:i=(fgN p 8 p.types.length).length:=by simp at fH;omega
 subst mc;rw[ep,ff,br] at hT;subst hT;simp only[pkA];refine bO _ _ ?_;simp only[pkA,seval];refine eL rfl (rO p (es++t6 p none++t7 p none) 3 (by omega)) rfl rfl (by simp[bxs]) ?_;have hL3:(ruR p 3 p.rules.length).length<=1000:=b9 qO (by omega);simp only[pkA,seval];have hf3:(ruR p 3 p.rules.length).flatMap (λr:Ru=>(λa b=>m8 p none a b) r.a.toNat r.b.toNat)=t8 p none:=qa (D:=λa b=>m8 p none a b);refine bw (λx:Nat×List In=>hdS [(0,.bp 0 0),(7,.c (.sl ((ruR p 3 p.rules.length).map ruC))),(8,i64 x.1)] [lbx p x.2]) (λx=>(ruR p 3 p.rules.length).length - x.1) (λx=>x.1<=(ruR p 3 p.rules.length).length/\x.2++((ruR p 3 p.rules.length).drop x.1).flatMap (λr:Ru=>(λa b=>m8 p none a b) r.a.toNat r.b.toNat)=es++t6 p none++t7 p none++t8 p none) (0,es++t6 p none++t7 p none) ⟨ar _,by rw[ct,hf3]⟩ ?_ ?_
 .exact(le1 rfl (ab _) (ab _) (by simp[FL,ah]) (by simp[]))
 rintro⟨i,cur⟩ ⟨hi,hT⟩ R bL bO c8;simp only at hi hT;simp only[PW,seval];refine aD (λbE=>?_) (λfH=>?_)
 .have bE:i<(ruR p 3 p.rules.length).length:=by simpa using bE
  rw[iW bE] at hT;have hw:=bn (n:=(i:Int)+1) (k:=i+1) (by omega) (by omega);have hl:=dJ List.length hT;simp only[ae] at hl;obtain⟨r,hr⟩:∃ r,r=(ruR p 3 p.rules.length)[i]:=⟨_,rfl⟩;obtain⟨a,b,ha,hb,han,UC⟩:=wR bE;have ha:r.a=(a:Int):=by rw[hr];exact ha
  have hb:r.b=(b:Int):=by rw[hr];exact hb
  rw[<- hr,ha,hb,cC,cC] at hT hl;simp only[pkA,seval];rw[show m8 p none a b=cd p.types.length (λs0=>cd p.types.length (λs1=>emL none (i8 a b s0 s1)) 0) 0 from rfl] at hT hl;refine bw (λx:Nat×List In=>hdS [(0,.bp 0 0),(7,.c (.sl ((ruR p 3 p.rules.length).map ruC))),(8,i64 i),(9,i64 x.1)] [lbx p x.2]) (λx=>p.types.length+1 - x.1) (λx=>(0<=x.1/\x.1<=p.types.length+1)/\x.2++cd p.types.length (λs0=>cd p.types.length (λs1=>emL none (i8 a b s0 s1)) 0) x.1=cur++cd p.types.length (λs0=>cd p.types.length (λs1=>emL none (i8 a b s0 s1)) 0) 0) (0,cur) ⟨⟨ab _,by omega⟩,rfl⟩ ?_ ?_
  .exact(le1 rfl (ab _) (ab _) (by simp[FL,ah]) (by simp[bxs]))
  rintro⟨s0,c0⟩ ⟨⟨sV,sW⟩,lF⟩ R0 kz kL uK;simp only at sV sW lF;have oM:=dJ List.length lF;simp only[ae] at oM;simp only[o7,seval];refine aD (λkK=>?_) (λsS=>?_)
  .have kK:s0<=p.types.length:=by simp at kK;omega
   rw[fA kK] at lF oM;simp only[ae] at oM;have xh:=bn (n:=(s0:Int)+1) (k:=s0+1) (by omega) (by omega);simp only[pkA,seval];refine bw (λx:Nat×List In=>hdS [(0,.bp 0 0),(7,.c (.sl ((ruR p 3 p.rules.length).map ruC))),(8,i64 i),(9,i64 s0),(10,i64 x.1)] [lbx p x.2]) (λx=>p.types.length+1 - x.1) (λx=>(0<=x.1/\x.1<=p.types.length+1)/\x.2++cd p.types.length (λs1=>emL none (i8 a b s0 s1)) x.1=c0++cd p.types.length (λs1=>emL none (i8 a b s0 s1)) 0) (0,c0) ⟨⟨ab _,by omega⟩,rfl⟩ ?_ ?_
   .exact(le1 rfl (ab _) (ab _) (by simp[FL,ah]) (by simp[bxs]))
   rintro⟨s1,c1⟩ ⟨⟨Z5,Z6⟩,vo⟩ R1 xe zI ae0;simp only at Z5 Z6 vo;have As:=dJ List.length vo;simp only[ae] at As;simp only[o7,seval];refine aD (λrm=>?_) (λaiG=>?_)
   .have rm:s1<=p.types.length:=by simp at rm;omega
    rw[fA rm] at vo As;simp only[ae] at As;have xi:=bn (n:=(s1:Int)+1) (k:=s1+1) (by omega) (by omega);simp only[pkA,seval];have hd:(emL none (i8 a b s0 s1)).length=1:=rfl
    repeat first
     |(simp only[o7,seval,ha,hb])
     |refine dQ mq rfl fU (by decide) (ay i) (c:=ruC r) (by simp[hr,bE]) rfl ?_
     |refine az rfl (fV _ _) (λ_=>rfl) ?_
     |refine az rfl (iK _ _) (λ_=>rfl) ?_
     |refine az rfl (iL _) (λ_=>rfl) ?_
     |refine az rfl (jE _) (λ_=>rfl) ?_
    refine eL rfl (nv p c1 8 (bD s0 a) (bD s1 b) (iI s0 s1) (by omega)) rfl rfl (by simp[bxs]) ?_;have hx:mz 8 (bD s0 a) (bD s1 b) (iI s0 s1)=i8 a b s0 s1:=Da (by simp[bD]) (by simp[bD]);rw[hx];simp only[pkA,seval,xi];exact xe (s1+1,c1++[i8 a b s0 s1]) _ ⟨⟨by omega,by omega⟩,by rw[aI];exact vo⟩ (by simp only;omega) (le1 rfl (ab _) (ab _) (by simp[FL,ah]) (by simp[]))
   have aiH:s1=p.types.length+1:=(by simp at aiG;omega);subst aiH;rw[gB (ck _),br] at vo;subst vo;simp only[pkA];refine zI _ _ ?_;simp only[pkA,seval,xh];exact kz (s0+1,c0++cd p.types.length (λs1=>emL none (i8 a b s0 s1)) 0) _ ⟨⟨by omega,by omega⟩,by rw[aI];exact lF⟩ (by simp only;omega) (le1 rfl (ab _) (ab _) (by simp[FL,ah]) (by simp[bxs]))
  have sU:s0=p.types.length+1:=by simp at sS;omega
  subst sU;rw[gB (ck _),br] at lF;subst lF;simp only[pkA];refine kL _ _ ?_;simp only[pkA,seval,hw];exact bL (i+1,cur++cd p.types.length (λs0=>cd p.types.length (λs1=>emL none (i8 a b s0 s1)) 0) 0) _ ⟨bE,by rw[aI];exact hT⟩ (by simp only;omega) (le1 rfl (ab _) (ab _) (by simp[FL,ah]) (by simp[bxs]))
 have mc:i=(ruR p 3 p.rules.length).length:=by simp at fH;omega
 subst mc;rw[ep,ff,br] at hT;subst hT;simp only[pkA];refine bO _ _ ?_;simp only[pkA,seval];refine eL rfl (qb p (es++t6 p none++t7 p none++t8 p none) 16 (by unfold I64;omega) (by omega)) rfl rfl (by simp[bxs]) ?_;have hL4:(fgN p 16 p.types.length).length<=1000:=b9 u5 (by omega);simp only[pkA,seval];have hf4:(fgN p 16 p.types.length).flatMap (λt=>m9 p none t)=t9 p none:=uq;refine bw (λx:Nat×List In=>hdS [(0,.bp 0 0),(2,.c (tsC (fgN p 16 p.types.length))),(11,i64 x.1)] [lbx p x.2]) (λx=>(fgN p 16 p.types.length).length - x.1) (λx=>x.1<=(fgN p 16 p.types.length).length/\x.2++((fgN p 16 p.types.length).drop x.1).flatMap (λt=>m9 p none t)=es++t6 p none++t7 p none++t8 p none++t9 p none) (0,es++t6 p none++t7 p none++t8 p none) ⟨ar _,by rw[ct,hf4]⟩ ?_ ?_
 .exact(le1 rfl (ab _) (ab _) (by simp[FL,ah]) (by simp[]))
 rintro⟨i,cur⟩ ⟨hi,hT⟩ R bL bO c8;simp only at hi hT;simp only[Yh,seval];refine aD (λbE=>?_) (λfH=>?_)
 .have bE:i<(fgN p 16 p.types.length).length:=by simpa using bE
  rw[iW bE] at hT;have hw:=bn (n:=(i:Int)+1) (k:=i+1) (by omega) (by omega);have hl:=dJ List.length hT;simp only[ae] at hl;obtain⟨t,ht⟩:∃ t,t=(fgN p 16 p.types.length)[i]:=⟨_,rfl⟩;have rn:t<p.types.length:=by rw[ht];exact Db _
  rw[<- ht] at hT hl;simp only[pkA,seval];rw[show m9 p none t=cd p.types.length (λs0=>cd p.types.length (λs1=>emL none (i9 t s0 s1)) 1) 0 from rfl] at hT hl;refine bw (λx:Nat×List In=>hdS [(0,.bp 0 0),(2,.c (tsC (fgN p 16 p.types.length))),(11,i64 i),(12,i64 x.1)] [lbx p x.2]) (λx=>p.types.length+1 - x.1) (λx=>(0<=x.1/\x.1<=p.types.length+1)/\x.2++cd p.types.length (λs0=>cd p.types.length (λs1=>emL none (i9 t s0 s1)) 1) x.1=cur++cd p.types.length (λs0=>cd p.types.length (λs1=>emL none (i9 t s0 s1)) 1) 0) (0,cur) ⟨⟨ab _,by omega⟩,rfl⟩ ?_ ?_
  .exact(le1 rfl (ab _) (ab _) (by simp[FL,ah]) (by simp[bxs]))
  rintro⟨s0,c0⟩ ⟨⟨sV,sW⟩,lF⟩ R0 kz kL uK;simp only at sV sW lF;have oM:=dJ List.length lF;simp only[ae] at oM;simp only[o7,seval];refine aD (λkK=>?_) (λsS=>?_)
  .have kK:s0<=p.types.length:=by simp at kK;omega
   rw[fA kK] at lF oM;simp only[ae] at oM;have xh:=bn (n:=(s0:Int)+1) (k:=s0+1) (by omega) (by omega);simp only[pkA,seval];refine bw (λx:Nat×List In=>hdS [(0,.bp 0 0),(2,.c (tsC (fgN p 16 p.types.length))),(11,i64 i),(12,i64 s0),(13,i64 x.1)] [lbx p x.2]) (λx=>p.types.length+1 - x.1) (λx=>(1<=x.1/\x.1<=p.types.length+1)/\x.2++cd p.types.length (λs1=>emL none (i9 t s0 s1)) x.1=c0++cd p.types.length (λs1=>emL none (i9 t s0 s1)) 1) (1,c0) ⟨⟨ab _,by omega⟩,rfl⟩ ?_ ?_
   .exact(le1 rfl (ab _) (ab _) (by simp[FL,ah]) (by simp[bxs]))
   rintro⟨s1,c1⟩ ⟨⟨Z5,Z6⟩,vo⟩ R1 xe zI ae0;simp only at Z5 Z6 vo;have As:=dJ List.length vo;simp only[ae] at As;simp only[o7,seval];refine aD (λrm=>?_) (λaiG=>?_)
   .have rm:s1<=p.types.length:=by simp at rm;omega
    rw[fA rm] at vo As;simp only[ae] at As;have xi:=bn (n:=(s1:Int)+1) (k:=s1+1) (by omega) (by omega);simp only[pkA,seval];have hd:(emL none (i9 t s0 s1)).length=1:=rfl
    repeat first
     |(simp only[o7,seval])
     |refine dQ pX rfl mo (by decide) (ay i) (c:=[cI (t:Int)]) (by simp[ht,bE]) rfl ?_
     |refine az rfl (fV _ _) (λ_=>rfl) ?_
     |refine az rfl (iK _ _) (λ_=>rfl) ?_
     |refine az rfl (iL _) (λ_=>rfl) ?_
     |refine az rfl (jE _) (λ_=>rfl) ?_
    refine eL rfl (nv p c1 9 (bD s0 t) (iI s0 s1) (iJ s1) (by omega)) rfl rfl (by simp[bxs]) ?_;have hx:mz 9 (bD s0 t) (iI s0 s1) (iJ s1)=i9 t s0 s1:=Da (by simp[bD]) (by simp[iI]);rw[hx];simp only[pkA,seval,xi];exact xe (s1+1,c1++[i9 t s0 s1]) _ ⟨⟨by omega,by omega⟩,by rw[aI];exact vo⟩ (by simp only;omega) (le1 rfl (ab _) (ab _) (by simp[FL,ah]) (by simp[]))
   have aiH:s1=p.types.length+1:=(by simp at aiG;omega);subst aiH;rw[gB (ck _),br] at vo;subst vo;simp only[pkA];refine zI _ _ ?_;simp only[pkA,seval,xh];exact kz (s0+1,c0++cd p.types.length (λs1=>emL none (i9 t s0 s1)) 1) _ ⟨⟨by omega,by omega⟩,by rw[aI];exact lF⟩ (by simp only;omega) (le1 rfl (ab _) (ab _) (by simp[FL,ah]) (by simp[bxs]))
  have sU:s0=p.types.length+1:=by simp at sS;omega
  subst sU;rw[gB (ck _),br] at lF;subst lF;simp only[pkA];refine kL _ _ ?_;simp only[pkA,seval,hw];exact bL (i+1,cur++cd p.types.length (λs0=>cd p.types.length (λs1=>emL none (i9 t s0 s1)) 1) 0) _ ⟨bE,by rw[aI];exact hT⟩ (by simp only;omega) (le1 rfl (ab _) (ab _) (by simp[FL,ah]) (by simp[bxs]))
 have mc:i=(fgN p 16 p.types.length).length:=by simp at fH;omega
 subst mc;rw[ep,ff,br] at hT;subst hT;simp only[pkA];refine bO _ _ ?_;simp only[pkA,seval];refine eL rfl (rO p (es++t6 p none++t7 p none++t8 p none++t9 p none) 4 (by omega)) rfl rfl (by simp[bxs]) ?_;have hL5:(ruR p 4 p.rules.length).length<=1000:=b9 qO (by omega);simp only[pkA,seval];have hf5:(ruR p 4 p.rules.length).flatMap (λr:Ru=>(λa b=>m10 p none a b) r.a.toNat r.b.toNat)=t10 p none:=qa (D:=λa b=>m10 p none a b);refine bw (λx:Nat×List In=>hdS [(0,.bp 0 0),(7,.c (.sl ((ruR p 4 p.rules.length).map ruC))),(14,i64 x.1)] [lbx p x.2]) (λx=>(ruR p 4 p.rules.length).length - x.1) (λx=>x.1<=(ruR p 4 p.rules.length).length/\x.2++((ruR p 4 p.rules.length).drop x.1).flatMap (λr:Ru=>(λa b=>m10 p none a b) r.a.toNat r.b.toNat)=es++t6 p none++t7 p none++t8 p none++t9 p none++t10 p none) (0,es++t6 p none++t7 p none++t8 p none++t9 p none) ⟨ar _,by rw[ct,hf5]⟩ ?_ ?_
 .exact(le1 rfl (ab _) (ab _) (by simp[FL,ah]) (by simp[]))
 rintro⟨i,cur⟩ ⟨hi,hT⟩ R bL bO c8;simp only at hi hT;simp only[PW,seval];refine aD (λbE=>?_) (λfH=>?_)
 .have bE:i<(ruR p 4 p.rules.length).length:=by simpa using bE
  rw[iW bE] at hT;have hw:=bn (n:=(i:Int)+1) (k:=i+1) (by omega) (by omega);have hl:=dJ List.length hT;simp only[ae] at hl;obtain⟨r,hr⟩:∃ r,r=(ruR p 4 p.rules.length)[i]:=⟨_,rfl⟩;obtain⟨a,b,ha,hb,han,UC⟩:=wR bE;have ha:r.a=(a:Int):=by rw[hr];exact ha
  have hb:r.b=(b:Int):=by rw[hr];exact hb
  rw[<- hr,ha,hb,cC,cC] at hT hl;simp only[pkA,seval];rw[show m10 p none a b=cd p.types.length (λs0=>cd p.types.length (λs1=>r10 none a b s0 s1) 0) 0 from rfl] at hT hl;refine bw (λx:Nat×List In=>hdS [(0,.bp 0 0),(7,.c (.sl ((ruR p 4 p.rules.length).map ruC))),(14,i64 i),(15,i64 x.1)] [lbx p x.2]) (λx=>p.types.length+1 - x.1) (λx=>(0<=x.1/\x.1<=p.types.length+1)/\x.2++cd p.types.length (λs0=>cd p.types.length (λs1=>r10 none a b s0 s1) 0) x.1=cur++cd p.types.length (λs0=>cd p.types.length (λs1=>r10 none a b s0 s1) 0) 0) (0,cur) ⟨⟨ab _,by omega⟩,rfl⟩ ?_ ?_
  .exact(le1 rfl (ab _) (ab _) (by simp[FL,ah]) (by simp[bxs]))
  rintro⟨s0,c0⟩ ⟨⟨sV,sW⟩,lF⟩ R0 kz kL uK;simp only at sV sW lF;have oM:=dJ List.length lF;simp only[ae] at oM;simp only[o7,seval];refine aD (λkK=>?_) (λsS=>?_)
  .have kK:s0<=p.types.length:=by simp at kK;omega
   rw[fA kK] at lF oM;simp only[ae] at oM;have xh:=bn (n:=(s0:Int)+1) (k:=s0+1) (by omega) (by omega);simp only[pkA,seval];refine bw (λx:Nat×List In=>hdS [(0,.bp 0 0),(7,.c (.sl ((ruR p 4 p.rules.length).map ruC))),(14,i64 i),(15,i64 s0),(16,i64 x.1)] [lbx p x.2]) (λx=>p.types.length+1 - x.1) (λx=>(0<=x.1/\x.1<=p.types.length+1)/\x.2++cd p.types.length (λs1=>r10 none a b s0 s1) x.1=c0++cd p.types.length (λs1=>r10 none a b s0 s1) 0) (0,c0) ⟨⟨ab _,by omega⟩,rfl⟩ ?_ ?_
   .exact(le1 rfl (ab _) (ab _) (by simp[FL,ah]) (by simp[bxs]))
   rintro⟨s1,c1⟩ ⟨⟨Z5,Z6⟩,vo⟩ R1 xe zI ae0;simp only at Z5 Z6 vo;have As:=dJ List.length vo;simp only[ae] at As;simp only[o7,seval];have IB:decide ((s1:Int)<=p.types.length)=decide (s1<=p.types.length):=(by rw[ir];omega);have hn2:decide (0<(s0:Int))=decide (0<s0):=(by rw[ir];omega);have hn3:decide ((s1:Int)=0)=decide (s1=0):=(by rw[ir];omega);have hn4:decide (0<(s1:Int))=decide (0<s1):=(by rw[ir];omega);by_cases hA:s1<=p.types.length
   .have Qy:decide (s1<=p.types.length)=true:=dn hA
    by_cases hB:0<s0
    .have hB':decide (0<s0)=true:=dn hB
     by_cases hz:s1=0
     .have mE:decide (0<s1)=false:=eK (by omega)
      simp only[pkA,seval,IB,hn2,Qy,hB'];rw[fA hA] at vo As;simp only[ae] at As;have Z4:r10 none a b s0 s1=[i10 a b s0 s1]:=(by unfold r10;rw[if_neg (by omega)];rfl);rw[Z4] at vo As;have xi:=bn (n:=(s1:Int)+1) (k:=s1+1) (by omega) (by omega)
      repeat first
       |(simp only[o7,seval,ha,hb])
       |refine dQ mq rfl fU (by decide) (ay i) (c:=ruC r) (by simp[hr,bE]) rfl ?_
       |refine az rfl (fV _ _) (λ_=>rfl) ?_
       |refine az rfl (iK _ _) (λ_=>rfl) ?_
       |refine az rfl (iL _) (λ_=>rfl) ?_
       |refine az rfl (jE _) (λ_=>rfl) ?_
      refine eL rfl (HT p c1 10 (bD s0 a) (iI s0 s1) (bD s1 b) (by omega) (by simp[bD]) (by simp[iI])) rfl rfl (by simp[bxs]) ?_;simp only[pkA,seval,hn4,mE];refine Cc 0 5 rfl (show 0<1 by decide) rfl ?_;simp only[pkA,seval,xi,S.cool];exact xe (s1+1,c1++[i10 a b s0 s1]) _ ⟨⟨by omega,by omega⟩,by rw[aI];exact vo⟩ (by simp only;omega) (le1 rfl (ab _) (ab _) (by simp[FL,ah]) (by simp only[ah,cZ];exact Ye hz))
     .have mE:decide (0<s1)=true:=dn (by omega)
      simp only[pkA,seval,IB,hn2,Qy,hB'];rw[fA hA] at vo As;simp only[ae] at As;have Z4:r10 none a b s0 s1=[i10 a b s0 s1]:=(by unfold r10;rw[if_neg (by omega)];rfl);rw[Z4] at vo As;have xi:=bn (n:=(s1:Int)+1) (k:=s1+1) (by omega) (by omega)
      repeat first
       |(simp only[o7,seval,ha,hb])
       |refine dQ mq rfl fU (by decide) (ay i) (c:=ruC r) (by simp[hr,bE]) rfl ?_
       |refine az rfl (fV _ _) (λ_=>rfl) ?_
       |refine az rfl (iK _ _) (λ_=>rfl) ?_
       |refine az rfl (iL _) (λ_=>rfl) ?_
       |refine az rfl (jE _) (λ_=>rfl) ?_
      refine eL rfl (HT p c1 10 (bD s0 a) (iI s0 s1) (bD s1 b) (by omega) (by simp[bD]) (by simp[iI])) rfl rfl (by simp[bxs]) ?_;simp only[pkA,seval,hn4,mE];refine Vw 0 5 rfl (show 0<1 by decide) rfl rfl ?_;intro blk cap;have hlz:(c1.map inC++[N7 ⟨10,[bD s0 a,iI s0 s1],[bD s1 b]⟩]).length=c1.length+1:=(by simp);have hwl:=bn (n:=((c1.length+1:Nat):Int) - 1) (k:=c1.length) (by omega) (by omega);rw[hlz];simp only[PW,seval,S.name,aes,aer];refine Ba tc rfl ?_;simp only[PW,seval,aes,aer,hwl];refine NB (k:=c1.length) tc rfl lD rfl (by decide) rfl (by omega) ?_;simp only[pkA,seval];refine NC lD rfl (by decide) ?_;simp only[pkA,seval];refine afF (b:=0) (k:=5) (c:=.sx [faC (bD s1 b)]) eC rfl (show 0<1 by decide) rfl rfl Yf ?_;rw[show(C.sx [faC (bD s1 b)]).ldc=.ow none [faC (bD s1 b)] from rfl];simp only[pkA,seval];refine az rfl (jE _) (λ_=>rfl) ?_;simp only[o7,seval,dm];refine ahy ?_;simp only[pkA,seval];refine NB (k:=c1.length) tc rfl lD rfl (by decide) rfl (by omega) ?_;simp only[pkA,seval];refine NC lD rfl (by decide) ?_;simp only[pkA,seval];refine abv (b:=0) (k:=5) (es:=c1.map inC) (x:=N7 ⟨10,[bD s0 a,iI s0 s1],[bD s1 b]⟩) (r:=2) (c:=.sl [faC (bD s1 b),faC (wK s1)]) eC rfl (show 0<1 by decide) rfl rfl Yg (show 2<3 by decide) rfl ?_;simp only[pkA,seval];refine Cc 0 5 rfl (show 0<1 by decide) rfl ?_;simp only[pkA,seval,xi,S.cool];exact xe (s1+1,c1++[i10 a b s0 s1]) _ ⟨⟨by omega,by omega⟩,by rw[aI];exact vo⟩ (by simp only;omega) (le1 rfl (ab _) (ab _) (by simp[FL,ah]) (by simp only[ah,cZ];exact ahx (by omega)))
    .have hB':decide (0<s0)=false:=eK hB
     by_cases hz:s1=0
     .have mE:decide (0<s1)=false:=eK (by omega)
      have Uw:decide (s1=0)=true:=dn hz;simp only[pkA,seval,IB,hn2,hn3,Qy,hB',Uw];rw[fA hA] at vo As;simp only[ae] at As;have Z4:r10 none a b s0 s1=[i10 a b s0 s1]:=(by unfold r10;rw[if_neg (by omega)];rfl);rw[Z4] at vo As;have xi:=bn (n:=(s1:Int)+1) (k:=s1+1) (by omega) (by omega)
      repeat first
       |(simp only[o7,seval,ha,hb])
       |refine dQ mq rfl fU (by decide) (ay i) (c:=ruC r) (by simp[hr,bE]) rfl ?_
       |refine az rfl (fV _ _) (λ_=>rfl) ?_
       |refine az rfl (iK _ _) (λ_=>rfl) ?_
       |refine az rfl (iL _) (λ_=>rfl) ?_
       |refine az rfl (jE _) (λ_=>rfl) ?_
      refine eL rfl (HT p c1 10 (bD s0 a) (iI s0 s1) (bD s1 b) (by omega) (by simp[bD]) (by simp[iI])) rfl rfl (by simp[bxs]) ?_;simp only[pkA,seval,hn4,mE];refine Cc 0 5 rfl (show 0<1 by decide) rfl ?_;simp only[pkA,seval,xi,S.cool];exact xe (s1+1,c1++[i10 a b s0 s1]) _ ⟨⟨by omega,by omega⟩,by rw[aI];exact vo⟩ (by simp only;omega) (le1 rfl (ab _) (ab _) (by simp[FL,ah]) (by simp only[ah,cZ];exact Ye hz))
     .have Uw:decide (s1=0)=false:=eK hz
      simp only[pkA,seval,IB,hn2,hn3,Qy,hB',Uw];have mc:cd p.types.length (λs1=>r10 none a b s0 s1) s1=[]:=Yd (by omega) (by omega);rw[mc,br] at vo;subst vo;refine zI _ _ ?_;simp only[pkA,seval,xh];exact kz (s0+1,c0++cd p.types.length (λs1=>r10 none a b s0 s1) 0) _ ⟨⟨by omega,by omega⟩,by rw[aI];exact lF⟩ (by simp only;omega) (le1 rfl (ab _) (ab _) (by simp[FL,ah]) (by simp[bxs]))
   .have Qy:decide (s1<=p.types.length)=false:=eK hA
    simp only[pkA,seval,IB,Qy];have mc:cd p.types.length (λs1=>r10 none a b s0 s1) s1=[]:=gB (by omega);rw[mc,br] at vo;subst vo;refine zI _ _ ?_;simp only[pkA,seval,xh];exact kz (s0+1,c0++cd p.types.length (λs1=>r10 none a b s0 s1) 0) _ ⟨⟨by omega,by omega⟩,by rw[aI];exact lF⟩ (by simp only;omega) (le1 rfl (ab _) (ab _) (by simp[FL,ah]) (by simp[bxs]))
  have sU:s0=p.types.length+1:=by simp at sS;omega
  subst sU;rw[gB (ck _),br] at lF;subst lF;simp only[pkA];refine kL _ _ ?_;simp only[pkA,seval,hw];exact bL (i+1,cur++cd p.types.length (λs0=>cd p.types.length (λs1=>r10 none a b s0 s1) 0) 0) _ ⟨bE,by rw[aI];exact hT⟩ (by simp only;omega) (le1 rfl (ab _) (ab _) (by simp[FL,ah]) (by simp[bxs]))
 have mc:i=(ruR p 4 p.rules.length).length:=by simp at fH;omega
 subst mc;rw[ep,ff,br] at hT;subst hT;simp only[pkA];refine bO _ _ ?_;simp only[pkA,seval];exact C7 rfl (ab _) (by simp[bxs])
