/- Layer 17, the specification: the rules 1 to 5. Printed by genr8.py. -/
import Derived.Test.YtloppcgcepgbnaaGreatDoorVlR7
set_option linter.all false
namespace Go.Proofs.YtloppcgcepgbnaaGreatDoor
open Go Go.Vl
variable {G:Gl}
set_option maxRecDepth 4000
def tsC (l:List Nat):C:=.sl (l.map λ(t:Nat)=>[cI t])
theorem ani {l:List Nat} {K:V->Prop}:fq Tryz.prog 79 (.c (tsC l)) K=K (i64 l.length):=by unfold tsC;rw[Yl,au]
theorem anj {l:List Ru} {K:V->Prop}:fq Tryz.prog 23 (.c (.sl (l.map ruC))) K=K (i64 l.length):=by rw[X3,au]
theorem e0T {x:Int} {K:V->Prop}:cQ false 1 0 [cI x] K=K (i64 x):=rfl
theorem vcI {x:Int}:V.c (cI x)=.c (.lit (.int .i64 x)):=rfl
def pkM:=jj @aj3 (jj @ani (jj @anj (jj @e0T @vcI)))
def zfa:Fa:=⟨0,0,0⟩
theorem OH {rule:Int} {c:Fa}:mB rule zfa zfa c=⟨rule,[],[c]⟩:=rfl
theorem zl {rule:Int} {a c:Fa} (h:0<a.kind):mB rule a zfa c=⟨rule,[a],[c]⟩:=by simp[mB,h,zfa]
theorem Db {rule:Int} {a b c:Fa} (h:0<a.kind) (h2:0<b.kind):mB rule a b c=⟨rule,[a,b],[c]⟩:=by simp[mB,h,h2]
theorem apJ {x:In}:emL none x=[x]:=rfl
theorem uI {p:Pol} {flag:Int} {D:Nat->List In}:(fgN p flag p.types.length).flatMap D=jq p none flag D 0:=by
 unfold fgN jq;rw[Nat.sub_zero,eL,List.flatMap_def,List.flatMap_def];generalize List.range' 0 p.types.length=l;induction l with
 |nil=>rfl
 |cons t l ih=>
  rw[fa,bB,cE,<- ih];unfold qf;by_cases h:sV p t flag=true
  .rw[if_pos h];simp[h,n0]
  .rw[if_neg h];simp[h]
theorem qh {p:Pol} {kind:Int} {D:Nat->Nat->List In}:(ruR p kind p.rules.length).flatMap (λr=>D r.a.toNat r.b.toNat)=jG p none kind D 0:=by
 unfold ruR jG;rw[bW,cx];generalize p.rules=l;induction l with
 |nil=>rfl
 |cons r l ih=>
  rw[fa,fX,<- ih];unfold qV;rw[<- aeO];by_cases h:Da p kind r=true
  .rw[if_pos h];simp[h,n0]
  .rw[if_neg h];simp[h]
theorem iY {α:Type} {l:List α} {D:α->List In} {i:Nat} (h:i<l.length):(l.drop i).flatMap D=D l[i]++(l.drop (i+1)).flatMap D:=by rw[dn h,fX]
theorem Dc {p:Pol} {flag:Int} {n:Nat} {i:Nat} (h:i<(fgN p flag n).length):(fgN p flag n)[i]<n:=by have:=bT h;unfold fgN at this;rw[eW,dc] at this;exact this.1
theorem w9 {p:Pol} {kind:Int} {n:Nat} {i:Nat} (h:i<(ruR p kind n).length):∃ a b:Nat,(ruR p kind n)[i].a=(a:Int)/\(ruR p kind n)[i].b=(b:Int)/\a<p.types.length/\b<p.types.length:=by
 have hm:=bT h;have eG:Da p kind (ruR p kind n)[i]=true:=by
  unfold ruR at hm ⊢
  exact(eW.1 hm).2
 generalize (ruR p kind n)[i]=r at eG;simp only[Da,aZ,bI] at eG;exact⟨r.a.toNat,r.b.toNat,by omega,by omega,by omega,by omega⟩
theorem qj (p:Pol) (es:List In) (flag:Int) (hf:I64 flag) (hm:p.types.length<=1000000) :
 FnB Tryz.prog G 109 [.bp 0 0,i64 flag] [lbx p es] (.c (tsC (fgN p flag p.types.length))) [lbx p es]:=K8 p es flag hf hm
def agt:=jj @pkA @pkM
def La:=jj @pkA @ptA
def Df:=jj @pkA (jj @ptA @pkM)
set_option maxHeartbeats 8000000 in
theorem Uk (p:Pol) (es:List In) (hn:p.types.length<=1000) (hr':p.rules.length<=1000) (cm:(es++t1 p none++t2 p none++t3 p none++t4 p none++t5 p none).length<900000) :
 FnB Tryz.prog G 74 [.bp 0 0] [lbx p es] (.tup []) [lbx p (es++t1 p none++t2 p none++t3 p none++t4 p none++t5 p none)]:=by
 simp only[ae] at cm;refine jL (rs:=[]) (k:=1) [1000012,1000027,1000029,1000049,1000051,1000087,1000108,1000140,3000001] mixed Tryz.func74 rfl rfl rfl rfl (by kernel_rfl) (by simp) rfl rfl rfl (wZ rfl) (ab _) ?_;simp only[pkA,seval];refine eJ rfl (qj p (es) 2 (by unfold I64;omega) (by omega)) rfl rfl (by simp[bxs]) ?_;have hL1:(fgN p 2 p.types.length).length<=1000:=bY vq (by omega);simp only[pkA,seval];have hf1:(fgN p 2 p.types.length).flatMap (λt=>emL none (i1 t))=t1 p none:=uI;refine bz (λx:Nat×List In=>hdS [(0,.bp 0 0),(2,.c (tsC (fgN p 2 p.types.length))),(3,i64 x.1)] [lbx p x.2]) (λx=>(fgN p 2 p.types.length).length - x.1) (λx=>x.1<=(fgN p 2 p.types.length).length/\x.2++((fgN p 2 p.types.length).drop x.1).flatMap (λt=>emL none (i1 t))=es++t1 p none) (0,es) ⟨ar _,by rw[cx,hf1]⟩ ?_ ?_
 .exact(le1 rfl (ab _) (ab _) (by simp[FL,aj]) (by simp[]))
 rintro⟨i,cur⟩ ⟨hi,hT⟩ R bL bQ dq;simp only at hi hT;simp only[agt,seval];refine aD (λbF=>?_) (λfO=>?_)
 .have bF:i<(fgN p 2 p.types.length).length:=by simpa using bF
  rw[iY bF] at hT;have hw:=br (n:=(i:Int)+1) (k:=i+1) (by omega) (by omega);have hl:=dM List.length hT;simp only[ae] at hl;obtain⟨t,ht⟩:∃ t,t=(fgN p 2 p.types.length)[i]:=⟨_,rfl⟩;have rL:t<p.types.length:=by rw[ht];exact Dc _
  rw[<- ht] at hT hl;simp only[La,seval];have hd:(emL none (i1 t)).length=1:=rfl
  repeat first
   |(simp only[Df,seval])
   |refine dP oJ rfl nH (by decide) (ay i) (c:=[cI (t:Int)]) (by simp[ht,bF]) rfl ?_
   |refine aC rfl (fR _ _) (λ_=>rfl) ?_
   |refine aC rfl (iK _ _) (λ_=>rfl) ?_
   |refine aC rfl (iL _) (λ_=>rfl) ?_
   |refine aC rfl (jD _) (λ_=>rfl) ?_
  refine eJ rfl (ny p cur 1 zfa zfa (bE 0 t) (by omega)) rfl rfl (by simp[bxs]) ?_;have hx:mB 1 zfa zfa (bE 0 t)=i1 t:=OH;rw[hx];simp only[pkA,seval,hw];exact bL (i+1,cur++[i1 t]) _ ⟨bF,by rw[aH];exact hT⟩ (by simp only;omega) (le1 rfl (ab _) (ab _) (by simp[FL,aj]) (by simp[]))
 have mj:i=(fgN p 2 p.types.length).length:=by simp at fO;omega
 subst mj;rw[en,fc,bq] at hT;subst hT;simp only[pkA];refine bQ _ _ ?_;simp only[pkA,seval];refine eJ rfl (qj p (es++t1 p none) 1 (by unfold I64;omega) (by omega)) rfl rfl (by simp[bxs]) ?_;have hL2:(fgN p 1 p.types.length).length<=1000:=bY vq (by omega);simp only[pkA,seval];have hf2:(fgN p 1 p.types.length).flatMap (λt=>emL none (i2 t))=t2 p none:=uI;refine bz (λx:Nat×List In=>hdS [(0,.bp 0 0),(2,.c (tsC (fgN p 1 p.types.length))),(4,i64 x.1)] [lbx p x.2]) (λx=>(fgN p 1 p.types.length).length - x.1) (λx=>x.1<=(fgN p 1 p.types.length).length/\x.2++((fgN p 1 p.types.length).drop x.1).flatMap (λt=>emL none (i2 t))=es++t1 p none++t2 p none) (0,es++t1 p none) ⟨ar _,by rw[cx,hf2]⟩ ?_ ?_
 .exact(le1 rfl (ab _) (ab _) (by simp[FL,aj]) (by simp[]))
 rintro⟨i,cur⟩ ⟨hi,hT⟩ R bL bQ dq;simp only at hi hT;simp only[agt,seval];refine aD (λbF=>?_) (λfO=>?_)
 .have bF:i<(fgN p 1 p.types.length).length:=by simpa using bF
  rw[iY bF] at hT;have hw:=br (n:=(i:Int)+1) (k:=i+1) (by omega) (by omega);have hl:=dM List.length hT;simp only[ae] at hl;obtain⟨t,ht⟩:∃ t,t=(fgN p 1 p.types.length)[i]:=⟨_,rfl⟩;have rL:t<p.types.length:=by rw[ht];exact Dc _
  rw[<- ht] at hT hl;have hws:=br (n:=(t:Int)+1) (k:=t+1) (by omega) (by omega);simp only[La,seval];have hd:(emL none (i2 t)).length=1:=rfl
  repeat first
   |(simp only[Df,seval,hws])
   |refine dP oJ rfl nH (by decide) (ay i) (c:=[cI (t:Int)]) (by simp[ht,bF]) rfl ?_
   |refine aC rfl (fR _ _) (λ_=>rfl) ?_
   |refine aC rfl (iK _ _) (λ_=>rfl) ?_
   |refine aC rfl (iL _) (λ_=>rfl) ?_
   |refine aC rfl (jD _) (λ_=>rfl) ?_
  refine eJ rfl (ny p cur 2 zfa zfa (bE (t+1:Nat) t) (by omega)) rfl rfl (by simp[bxs]) ?_;have hx:mB 2 zfa zfa (bE (t+1:Nat) t)=i2 t:=OH;rw[hx];simp only[pkA,seval,hw];exact bL (i+1,cur++[i2 t]) _ ⟨bF,by rw[aH];exact hT⟩ (by simp only;omega) (le1 rfl (ab _) (ab _) (by simp[FL,aj]) (by simp[]))
 have mj:i=(fgN p 1 p.types.length).length:=by simp at fO;omega
 subst mj;rw[en,fc,bq] at hT;subst hT;simp only[pkA];refine bQ _ _ ?_;simp only[pkA,seval];refine eJ rfl (sd p (es++t1 p none++t2 p none) 5 (by omega)) rfl rfl (by simp[bxs]) ?_;have hL3:(ruR p 5 p.rules.length).length<=1000:=bY qY (by omega);simp only[pkA,seval];have hf3:(ruR p 5 p.rules.length).flatMap (λr:Ru=>(λa b=>m3 p none a b) r.a.toNat r.b.toNat)=t3 p none:=qh (D:=λa b=>m3 p none a b);refine bz (λx:Nat×List In=>hdS [(0,.bp 0 0),(5,.c (.sl ((ruR p 5 p.rules.length).map ruC))),(6,i64 x.1)] [lbx p x.2]) (λx=>(ruR p 5 p.rules.length).length - x.1) (λx=>x.1<=(ruR p 5 p.rules.length).length/\x.2++((ruR p 5 p.rules.length).drop x.1).flatMap (λr:Ru=>(λa b=>m3 p none a b) r.a.toNat r.b.toNat)=es++t1 p none++t2 p none++t3 p none) (0,es++t1 p none++t2 p none) ⟨ar _,by rw[cx,hf3]⟩ ?_ ?_
 .exact(le1 rfl (ab _) (ab _) (by simp[FL,aj]) (by simp[]))
 rintro⟨i,cur⟩ ⟨hi,hT⟩ R bL bQ dq;simp only at hi hT;simp only[La,seval];refine aD (λbF=>?_) (λfO=>?_)
 .have bF:i<(ruR p 5 p.rules.length).length:=by simpa using bF
  rw[iY bF] at hT;have hw:=br (n:=(i:Int)+1) (k:=i+1) (by omega) (by omega);have hl:=dM List.length hT;simp only[ae] at hl;obtain⟨r,hr⟩:∃ r,r=(ruR p 5 p.rules.length)[i]:=⟨_,rfl⟩;obtain⟨a,b,ha,hb,han,Vm⟩:=w9 bF;have ha:r.a=(a:Int):=by rw[hr];exact ha
  have hb:r.b=(b:Int):=by rw[hr];exact hb
  rw[<- hr,ha,hb,cz,cz] at hT hl;have hws:=br (n:=(b:Int)+1) (k:=b+1) (by omega) (by omega);simp only[pkA,seval];rw[show m3 p none a b=b8 p.types.length (λs0=>emL none (i3 a b s0)) 1 from rfl] at hT hl;refine bz (λx:Nat×List In=>hdS [(0,.bp 0 0),(5,.c (.sl ((ruR p 5 p.rules.length).map ruC))),(6,i64 i),(7,i64 x.1)] [lbx p x.2]) (λx=>p.types.length+1 - x.1) (λx=>(1<=x.1/\x.1<=p.types.length+1)/\x.2++b8 p.types.length (λs0=>emL none (i3 a b s0)) x.1=cur++b8 p.types.length (λs0=>emL none (i3 a b s0)) 1) (1,cur) ⟨⟨ab _,by omega⟩,rfl⟩ ?_ ?_
  .exact(le1 rfl (ab _) (ab _) (by simp[FL,aj]) (by simp[bxs]))
  rintro⟨s0,c0⟩ ⟨⟨tB,tC⟩,lH⟩ R0 kr kM yN;simp only at tB tC lH;have oY:=dM List.length lH;simp only[ae] at oY;simp only[Df,seval];refine aD (λkL=>?_) (λtz=>?_)
  .have kL:s0<=p.types.length:=by simp at kL;omega
   rw[fw kL] at lH oY;simp only[ae] at oY;have xt:=br (n:=(s0:Int)+1) (k:=s0+1) (by omega) (by omega);simp only[pkA,seval];have hd:(emL none (i3 a b s0)).length=1:=rfl
   repeat first
    |(simp only[Df,seval,ha,hb,hws])
    |refine dP kV rfl fQ (by decide) (ay i) (c:=ruC r) (by simp[hr,bF]) rfl ?_
    |refine aC rfl (fR _ _) (λ_=>rfl) ?_
    |refine aC rfl (iK _ _) (λ_=>rfl) ?_
    |refine aC rfl (iL _) (λ_=>rfl) ?_
    |refine aC rfl (jD _) (λ_=>rfl) ?_
   refine eJ rfl (ny p c0 3 (bE s0 a) zfa (bE (b+1:Nat) b) (by omega)) rfl rfl (by simp[bxs]) ?_;have hx:mB 3 (bE s0 a) zfa (bE (b+1:Nat) b)=i3 a b s0:=zl (by simp[bE]);rw[hx];simp only[pkA,seval,xt];exact kr (s0+1,c0++[i3 a b s0]) _ ⟨⟨by omega,by omega⟩,by rw[aH];exact lH⟩ (by simp only;omega) (le1 rfl (ab _) (ab _) (by simp[FL,aj]) (by simp[]))
  have tA:s0=p.types.length+1:=by simp at tz;omega
  subst tA;rw[gA (cd _),bq] at lH;subst lH;simp only[pkA];refine kM _ _ ?_;simp only[pkA,seval,hw];exact bL (i+1,cur++b8 p.types.length (λs0=>emL none (i3 a b s0)) 1) _ ⟨bF,by rw[aH];exact hT⟩ (by simp only;omega) (le1 rfl (ab _) (ab _) (by simp[FL,aj]) (by simp[bxs]))
 have mj:i=(ruR p 5 p.rules.length).length:=by simp at fO;omega
 subst mj;rw[en,fc,bq] at hT;subst hT;simp only[pkA];refine bQ _ _ ?_;simp only[pkA,seval];have hL4:(ruR p 5 p.rules.length).length<=1000:=bY qY (by omega);have hf4:(ruR p 5 p.rules.length).flatMap (λr:Ru=>(λa b=>emL none (i4 a b)) r.a.toNat r.b.toNat)=t4 p none:=qh (D:=λa b=>emL none (i4 a b));refine bz (λx:Nat×List In=>hdS [(0,.bp 0 0),(5,.c (.sl ((ruR p 5 p.rules.length).map ruC))),(8,i64 x.1)] [lbx p x.2]) (λx=>(ruR p 5 p.rules.length).length - x.1) (λx=>x.1<=(ruR p 5 p.rules.length).length/\x.2++((ruR p 5 p.rules.length).drop x.1).flatMap (λr:Ru=>(λa b=>emL none (i4 a b)) r.a.toNat r.b.toNat)=es++t1 p none++t2 p none++t3 p none++t4 p none) (0,es++t1 p none++t2 p none++t3 p none) ⟨ar _,by rw[cx,hf4]⟩ ?_ ?_
 .exact(le1 rfl (ab _) (ab _) (by simp[FL,aj]) (by simp[bxs]))
 rintro⟨i,cur⟩ ⟨hi,hT⟩ R bL bQ dq;simp only at hi hT;simp only[La,seval];refine aD (λbF=>?_) (λfO=>?_)
 .have bF:i<(ruR p 5 p.rules.length).length:=by simpa using bF
  rw[iY bF] at hT;have hw:=br (n:=(i:Int)+1) (k:=i+1) (by omega) (by omega);have hl:=dM List.length hT;simp only[ae] at hl;obtain⟨r,hr⟩:∃ r,r=(ruR p 5 p.rules.length)[i]:=⟨_,rfl⟩;obtain⟨a,b,ha,hb,han,Vm⟩:=w9 bF;have ha:r.a=(a:Int):=by rw[hr];exact ha
  have hb:r.b=(b:Int):=by rw[hr];exact hb
  rw[<- hr,ha,hb,cz,cz] at hT hl;simp only[pkA,seval];have hd:(emL none (i4 a b)).length=1:=rfl
  repeat first
   |(simp only[Df,seval,ha,hb])
   |refine dP kV rfl fQ (by decide) (ay i) (c:=ruC r) (by simp[hr,bF]) rfl ?_
   |refine aC rfl (fR _ _) (λ_=>rfl) ?_
   |refine aC rfl (iK _ _) (λ_=>rfl) ?_
   |refine aC rfl (iL _) (λ_=>rfl) ?_
   |refine aC rfl (jD _) (λ_=>rfl) ?_
  refine eJ rfl (ny p cur 4 (bE 0 a) zfa (bE 0 b) (by omega)) rfl rfl (by simp[bxs]) ?_;have hx:mB 4 (bE 0 a) zfa (bE 0 b)=i4 a b:=zl (by simp[bE]);rw[hx];simp only[pkA,seval,hw];exact bL (i+1,cur++[i4 a b]) _ ⟨bF,by rw[aH];exact hT⟩ (by simp only;omega) (le1 rfl (ab _) (ab _) (by simp[FL,aj]) (by simp[]))
 have mj:i=(ruR p 5 p.rules.length).length:=by simp at fO;omega
 subst mj;rw[en,fc,bq] at hT;subst hT;simp only[pkA];refine bQ _ _ ?_;simp only[pkA,seval];have hL5:(ruR p 5 p.rules.length).length<=1000:=bY qY (by omega);have hf5:(ruR p 5 p.rules.length).flatMap (λr:Ru=>(λa b=>m5 p none a b) r.a.toNat r.b.toNat)=t5 p none:=qh (D:=λa b=>m5 p none a b);refine bz (λx:Nat×List In=>hdS [(0,.bp 0 0),(5,.c (.sl ((ruR p 5 p.rules.length).map ruC))),(9,i64 x.1)] [lbx p x.2]) (λx=>(ruR p 5 p.rules.length).length - x.1) (λx=>x.1<=(ruR p 5 p.rules.length).length/\x.2++((ruR p 5 p.rules.length).drop x.1).flatMap (λr:Ru=>(λa b=>m5 p none a b) r.a.toNat r.b.toNat)=es++t1 p none++t2 p none++t3 p none++t4 p none++t5 p none) (0,es++t1 p none++t2 p none++t3 p none++t4 p none) ⟨ar _,by rw[cx,hf5]⟩ ?_ ?_
 .exact(le1 rfl (ab _) (ab _) (by simp[FL,aj]) (by simp[bxs]))
 rintro⟨i,cur⟩ ⟨hi,hT⟩ R bL bQ dq;simp only at hi hT;simp only[La,seval];refine aD (λbF=>?_) (λfO=>?_)
 .have bF:i<(ruR p 5 p.rules.length).length:=by simpa using bF
  rw[iY bF] at hT;have hw:=br (n:=(i:Int)+1) (k:=i+1) (by omega) (by omega);have hl:=dM List.length hT;simp only[ae] at hl;obtain⟨r,hr⟩:∃ r,r=(ruR p 5 p.rules.length)[i]:=⟨_,rfl⟩;obtain⟨a,b,ha,hb,han,Vm⟩:=w9 bF;have ha:r.a=(a:Int):=by rw[hr];exact ha
  have hb:r.b=(b:Int):=by rw[hr];exact hb
  rw[<- hr,ha,hb,cz,cz] at hT hl;have hws:=br (n:=(b:Int)+1) (k:=b+1) (by omega) (by omega);simp only[pkA,seval];rw[show m5 p none a b=b8 p.types.length (λs0=>emL none (i5 a b s0)) 1 from rfl] at hT hl;refine bz (λx:Nat×List In=>hdS [(0,.bp 0 0),(5,.c (.sl ((ruR p 5 p.rules.length).map ruC))),(9,i64 i),(10,i64 x.1)] [lbx p x.2]) (λx=>p.types.length+1 - x.1) (λx=>(1<=x.1/\x.1<=p.types.length+1)/\x.2++b8 p.types.length (λs0=>emL none (i5 a b s0)) x.1=cur++b8 p.types.length (λs0=>emL none (i5 a b s0)) 1) (1,cur) ⟨⟨ab _,by omega⟩,rfl⟩ ?_ ?_
  .exact(le1 rfl (ab _) (ab _) (by simp[FL,aj]) (by simp[bxs]))
  rintro⟨s0,c0⟩ ⟨⟨tB,tC⟩,lH⟩ R0 kr kM yN;simp only at tB tC lH;have oY:=dM List.length lH;simp only[ae] at oY;simp only[Df,seval];refine aD (λkL=>?_) (λtz=>?_)
  .have kL:s0<=p.types.length:=by simp at kL;omega
   rw[fw kL] at lH oY;simp only[ae] at oY;have xt:=br (n:=(s0:Int)+1) (k:=s0+1) (by omega) (by omega);simp only[pkA,seval];have hd:(emL none (i5 a b s0)).length=1:=rfl
   repeat first
    |(simp only[Df,seval,ha,hb,hws])
    |refine dP kV rfl fQ (by decide) (ay i) (c:=ruC r) (by simp[hr,bF]) rfl ?_
    |refine aC rfl (fR _ _) (λ_=>rfl) ?_
    |refine aC rfl (iK _ _) (λ_=>rfl) ?_
    |refine aC rfl (iL _) (λ_=>rfl) ?_
    |refine aC rfl (jD _) (λ_=>rfl) ?_
   refine eJ rfl (ny p c0 5 (bE s0 a) (iJ s0) (iJ (b+1:Nat)) (by omega)) rfl rfl (by simp[bxs]) ?_;have hx:mB 5 (bE s0 a) (iJ s0) (iJ (b+1:Nat))=i5 a b s0:=Db (by simp[bE]) (by simp[iJ]);rw[hx];simp only[pkA,seval,xt];exact kr (s0+1,c0++[i5 a b s0]) _ ⟨⟨by omega,by omega⟩,by rw[aH];exact lH⟩ (by simp only;omega) (le1 rfl (ab _) (ab _) (by simp[FL,aj]) (by simp[]))
  have tA:s0=p.types.length+1:=by simp at tz;omega
  subst tA;rw[gA (cd _),bq] at lH;subst lH;simp only[pkA];refine kM _ _ ?_;simp only[pkA,seval,hw];exact bL (i+1,cur++b8 p.types.length (λs0=>emL none (i5 a b s0)) 1) _ ⟨bF,by rw[aH];exact hT⟩ (by simp only;omega) (le1 rfl (ab _) (ab _) (by simp[FL,aj]) (by simp[bxs]))
 have mj:i=(ruR p 5 p.rules.length).length:=by simp at fO;omega
 subst mj;rw[en,fc,bq] at hT;subst hT;simp only[pkA];refine bQ _ _ ?_;simp only[pkA,seval];exact C9 rfl (ab _) (by simp[bxs])
