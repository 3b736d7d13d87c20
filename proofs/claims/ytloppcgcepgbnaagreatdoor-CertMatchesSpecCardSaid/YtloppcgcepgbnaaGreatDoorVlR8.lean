/- Layer 17, the specification: the rules 1 to 5. Printed by genr8.py. -/
import Derived.Test.YtloppcgcepgbnaaGreatDoorVlR7
set_option linter.all false
namespace Go.Proofs.YtloppcgcepgbnaaGreatDoor
open Go Go.Vl
variable {G:Gl}
set_option maxRecDepth 4000
def tsC (l:List Nat):C:=.sl (l.map λ(t:Nat)=>[cI t])
theorem akx {l:List Nat} {K:V->Prop}:iR Tryz.prog 79 (.c (tsC l)) K=K (i64 l.length):=by unfold tsC;rw[Xr,au]
theorem vcI {x:Int}:V.c (cI x)=.c (.lit (.int .i64 x)):=rfl
def pkM:=jj @ahw (jj @akx @vcI)
def zfa:Fa:=⟨0,0,0⟩
theorem N8 {rule:Int} {c:Fa}:mz rule zfa zfa c=⟨rule,[],[c]⟩:=rfl
theorem zh {rule:Int} {a c:Fa} (h:0<a.kind):mz rule a zfa c=⟨rule,[a],[c]⟩:=by simp[mz,h,zfa]
theorem Da {rule:Int} {a b c:Fa} (h:0<a.kind) (h2:0<b.kind):mz rule a b c=⟨rule,[a,b],[c]⟩:=by simp[mz,h,h2]
theorem amJ {x:In}:emL none x=[x]:=rfl
theorem uq {p:Pol} {flag:Int} {D:Nat->List In}:(fgN p flag p.types.length).flatMap D=jo p none flag D 0:=by
 unfold fgN jo;rw[Nat.sub_zero,eO,List.flatMap_def,List.flatMap_def];generalize List.range' 0 p.types.length=l;induction l with
 |nil=>rfl
 |cons t l ih=>
  rw[fg,bA,cF,<- ih];unfold pY;by_cases h:sy p t flag=true
  .rw[if_pos h];simp[h,nU]
  .rw[if_neg h];simp[h]
theorem qa {p:Pol} {kind:Int} {D:Nat->Nat->List In}:(ruR p kind p.rules.length).flatMap (λr=>D r.a.toNat r.b.toNat)=jH p none kind D 0:=by
 unfold ruR jH;rw[bZ,ct];generalize p.rules=l;induction l with
 |nil=>rfl
 |cons r l ih=>
  rw[fg,fZ,<- ih];unfold qL;rw[<- acK];by_cases h:C9 p kind r=true
  .rw[if_pos h];simp[h,nU]
  .rw[if_neg h];simp[h]
theorem iW {α:Type} {l:List α} {D:α->List In} {i:Nat} (h:i<l.length):(l.drop i).flatMap D=D l[i]++(l.drop (i+1)).flatMap D:=by rw[dj h,fZ]
theorem Db {p:Pol} {flag:Int} {n:Nat} {i:Nat} (h:i<(fgN p flag n).length):(fgN p flag n)[i]<n:=by have:=bR h;unfold fgN at this;rw[fJ,c9] at this;exact this.1
theorem wR {p:Pol} {kind:Int} {n:Nat} {i:Nat} (h:i<(ruR p kind n).length):∃ a b:Nat,(ruR p kind n)[i].a=(a:Int)/\(ruR p kind n)[i].b=(b:Int)/\a<p.types.length/\b<p.types.length:=by
 have hm:=bR h;have eH:C9 p kind (ruR p kind n)[i]=true:=by
  unfold ruR at hm ⊢
  exact(fJ.1 hm).2
 generalize (ruR p kind n)[i]=r at eH;simp only[C9,aW,bF] at eH;exact⟨r.a.toNat,r.b.toNat,by omega,by omega,by omega,by omega⟩
theorem qb (p:Pol) (es:List In) (flag:Int) (hf:I64 flag) (hm:p.types.length<=1000000) :
 FnB Tryz.prog G 109 [.bp 0 0,i64 flag] [lbx p es] (.c (tsC (fgN p flag p.types.length))) [lbx p es]:=KL p es flag hf hm
def aep:=jj @pkA @pkM
def KO:=jj @pkA @ptA
def Dc:=jj @pkA (jj @ptA @pkM)
set_option maxHeartbeats 8000000 in
theorem Tv (p:Pol) (es:List In) (hn:p.types.length<=1000) (hr':p.rules.length<=1000) (cj:(es++t1 p none++t2 p none++t3 p none++t4 p none++t5 p none).length<900000) :
 FnB Tryz.prog G 74 [.bp 0 0] [lbx p es] (.tup []) [lbx p (es++t1 p none++t2 p none++t3 p none++t4 p none++t5 p none)]:=by
 simp only[ae] at cj;refine jM (rs:=[]) (k:=1) [1000012,1000027,1000029,1000049,1000051,1000087,1000108,1000140,3000001] mixed Tryz.func74 rfl rfl rfl rfl (by kernel_rfl) (by simp) rfl rfl rfl (wQ rfl) (ab _) ?_;simp only[pkA,seval];refine eL rfl (qb p (es) 2 (by unfold I64;omega) (by omega)) rfl rfl (by simp[bxs]) ?_;have hL1:(fgN p 2 p.types.length).length<=1000:=b9 u5 (by omega);simp only[pkA,seval];have hf1:(fgN p 2 p.types.length).flatMap (λt=>emL none (i1 t))=t1 p none:=uq;refine bw (λx:Nat×List In=>hdS [(0,.bp 0 0),(2,.c (tsC (fgN p 2 p.types.length))),(3,i64 x.1)] [lbx p x.2]) (λx=>(fgN p 2 p.types.length).length - x.1) (λx=>x.1<=(fgN p 2 p.types.length).length/\x.2++((fgN p 2 p.types.length).drop x.1).flatMap (λt=>emL none (i1 t))=es++t1 p none) (0,es) ⟨ar _,by rw[ct,hf1]⟩ ?_ ?_
 .exact(le1 rfl (ab _) (ab _) (by simp[FL,ah]) (by simp[]))
 rintro⟨i,cur⟩ ⟨hi,hT⟩ R bL bO c8;simp only at hi hT;simp only[aep,seval];refine aD (λbE=>?_) (λfH=>?_)
 .have bE:i<(fgN p 2 p.types.length).length:=by simpa using bE
  rw[iW bE] at hT;have hw:=bn (n:=(i:Int)+1) (k:=i+1) (by omega) (by omega);have hl:=dJ List.length hT;simp only[ae] at hl;obtain⟨t,ht⟩:∃ t,t=(fgN p 2 p.types.length)[i]:=⟨_,rfl⟩;have rn:t<p.types.length:=by rw[ht];exact Db _
  rw[<- ht] at hT hl;simp only[KO,seval];have hd:(emL none (i1 t)).length=1:=rfl
  repeat first
   |(simp only[Dc,seval])
   |refine dQ pX rfl mo (by decide) (ay i) (c:=[cI (t:Int)]) (by simp[ht,bE]) rfl ?_
   |refine az rfl (fV _ _) (λ_=>rfl) ?_
   |refine az rfl (iK _ _) (λ_=>rfl) ?_
   |refine az rfl (iL _) (λ_=>rfl) ?_
   |refine az rfl (jE _) (λ_=>rfl) ?_
  refine eL rfl (nv p cur 1 zfa zfa (bD 0 t) (by omega)) rfl rfl (by simp[bxs]) ?_;have hx:mz 1 zfa zfa (bD 0 t)=i1 t:=N8;rw[hx];simp only[pkA,seval,hw];exact bL (i+1,cur++[i1 t]) _ ⟨bE,by rw[aI];exact hT⟩ (by simp only;omega) (le1 rfl (ab _) (ab _) (by simp[FL,ah]) (by simp[]))
 have mc:i=(fgN p 2 p.types.length).length:=by simp at fH;omega
 subst mc;rw[ep,ff,br] at hT;subst hT;simp only[pkA];refine bO _ _ ?_;simp only[pkA,seval];refine eL rfl (qb p (es++t1 p none) 1 (by unfold I64;omega) (by omega)) rfl rfl (by simp[bxs]) ?_;have hL2:(fgN p 1 p.types.length).length<=1000:=b9 u5 (by omega);simp only[pkA,seval];have hf2:(fgN p 1 p.types.length).flatMap (λt=>emL none (i2 t))=t2 p none:=uq;refine bw (λx:Nat×List In=>hdS [(0,.bp 0 0),(2,.c (tsC (fgN p 1 p.types.length))),(4,i64 x.1)] [lbx p x.2]) (λx=>(fgN p 1 p.types.length).length - x.1) (λx=>x.1<=(fgN p 1 p.types.length).length/\x.2++((fgN p 1 p.types.length).drop x.1).flatMap (λt=>emL none (i2 t))=es++t1 p none++t2 p none) (0,es++t1 p none) ⟨ar _,by rw[ct,hf2]⟩ ?_ ?_
 .exact(le1 rfl (ab _) (ab _) (by simp[FL,ah]) (by simp[]))
 rintro⟨i,cur⟩ ⟨hi,hT⟩ R bL bO c8;simp only at hi hT;simp only[aep,seval];refine aD (λbE=>?_) (λfH=>?_)
 .have bE:i<(fgN p 1 p.types.length).length:=by simpa using bE
  rw[iW bE] at hT;have hw:=bn (n:=(i:Int)+1) (k:=i+1) (by omega) (by omega);have hl:=dJ List.length hT;simp only[ae] at hl;obtain⟨t,ht⟩:∃ t,t=(fgN p 1 p.types.length)[i]:=⟨_,rfl⟩;have rn:t<p.types.length:=by rw[ht];exact Db _
  rw[<- ht] at hT hl;have hws:=bn (n:=(t:Int)+1) (k:=t+1) (by omega) (by omega);simp only[KO,seval];have hd:(emL none (i2 t)).length=1:=rfl
  repeat first
   |(simp only[Dc,seval,hws])
   |refine dQ pX rfl mo (by decide) (ay i) (c:=[cI (t:Int)]) (by simp[ht,bE]) rfl ?_
   |refine az rfl (fV _ _) (λ_=>rfl) ?_
   |refine az rfl (iK _ _) (λ_=>rfl) ?_
   |refine az rfl (iL _) (λ_=>rfl) ?_
   |refine az rfl (jE _) (λ_=>rfl) ?_
  refine eL rfl (nv p cur 2 zfa zfa (bD (t+1:Nat) t) (by omega)) rfl rfl (by simp[bxs]) ?_;have hx:mz 2 zfa zfa (bD (t+1:Nat) t)=i2 t:=N8;rw[hx];simp only[pkA,seval,hw];exact bL (i+1,cur++[i2 t]) _ ⟨bE,by rw[aI];exact hT⟩ (by simp only;omega) (le1 rfl (ab _) (ab _) (by simp[FL,ah]) (by simp[]))
 have mc:i=(fgN p 1 p.types.length).length:=by simp at fH;omega
 subst mc;rw[ep,ff,br] at hT;subst hT;simp only[pkA];refine bO _ _ ?_;simp only[pkA,seval];refine eL rfl (rO p (es++t1 p none++t2 p none) 5 (by omega)) rfl rfl (by simp[bxs]) ?_;have hL3:(ruR p 5 p.rules.length).length<=1000:=b9 qO (by omega);simp only[pkA,seval];have hf3:(ruR p 5 p.rules.length).flatMap (λr:Ru=>(λa b=>m3 p none a b) r.a.toNat r.b.toNat)=t3 p none:=qa (D:=λa b=>m3 p none a b);refine bw (λx:Nat×List In=>hdS [(0,.bp 0 0),(5,.c (.sl ((ruR p 5 p.rules.length).map ruC))),(6,i64 x.1)] [lbx p x.2]) (λx=>(ruR p 5 p.rules.length).length - x.1) (λx=>x.1<=(ruR p 5 p.rules.length).length/\x.2++((ruR p 5 p.rules.length).drop x.1).flatMap (λr:Ru=>(λa b=>m3 p none a b) r.a.toNat r.b.toNat)=es++t1 p none++t2 p none++t3 p none) (0,es++t1 p none++t2 p none) ⟨ar _,by rw[ct,hf3]⟩ ?_ ?_
 .exact(le1 rfl (ab _) (ab _) (by simp[FL,ah]) (by simp[]))
 rintro⟨i,cur⟩ ⟨hi,hT⟩ R bL bO c8;simp only at hi hT;simp only[KO,seval];refine aD (λbE=>?_) (λfH=>?_)
 .have bE:i<(ruR p 5 p.rules.length).length:=by simpa using bE
  rw[iW bE] at hT;have hw:=bn (n:=(i:Int)+1) (k:=i+1) (by omega) (by omega);have hl:=dJ List.length hT;simp only[ae] at hl;obtain⟨r,hr⟩:∃ r,r=(ruR p 5 p.rules.length)[i]:=⟨_,rfl⟩;obtain⟨a,b,ha,hb,han,UC⟩:=wR bE;have ha:r.a=(a:Int):=by rw[hr];exact ha
  have hb:r.b=(b:Int):=by rw[hr];exact hb
  rw[<- hr,ha,hb,cC,cC] at hT hl;have hws:=bn (n:=(b:Int)+1) (k:=b+1) (by omega) (by omega);simp only[pkA,seval];rw[show m3 p none a b=cd p.types.length (λs0=>emL none (i3 a b s0)) 1 from rfl] at hT hl;refine bw (λx:Nat×List In=>hdS [(0,.bp 0 0),(5,.c (.sl ((ruR p 5 p.rules.length).map ruC))),(6,i64 i),(7,i64 x.1)] [lbx p x.2]) (λx=>p.types.length+1 - x.1) (λx=>(1<=x.1/\x.1<=p.types.length+1)/\x.2++cd p.types.length (λs0=>emL none (i3 a b s0)) x.1=cur++cd p.types.length (λs0=>emL none (i3 a b s0)) 1) (1,cur) ⟨⟨ab _,by omega⟩,rfl⟩ ?_ ?_
  .exact(le1 rfl (ab _) (ab _) (by simp[FL,ah]) (by simp[bxs]))
  rintro⟨s0,c0⟩ ⟨⟨sV,sW⟩,lF⟩ R0 kz kL uK;simp only at sV sW lF;have oM:=dJ List.length lF;simp only[ae] at oM;simp only[Dc,seval];refine aD (λkK=>?_) (λsS=>?_)
  .have kK:s0<=p.types.length:=by simp at kK;omega
   rw[fA kK] at lF oM;simp only[ae] at oM;have xh:=bn (n:=(s0:Int)+1) (k:=s0+1) (by omega) (by omega);simp only[pkA,seval];have hd:(emL none (i3 a b s0)).length=1:=rfl
   repeat first
    |(simp only[Dc,seval,ha,hb,hws])
    |refine dQ mq rfl fU (by decide) (ay i) (c:=ruC r) (by simp[hr,bE]) rfl ?_
    |refine az rfl (fV _ _) (λ_=>rfl) ?_
    |refine az rfl (iK _ _) (λ_=>rfl) ?_
    |refine az rfl (iL _) (λ_=>rfl) ?_
    |refine az rfl (jE _) (λ_=>rfl) ?_
   refine eL rfl (nv p c0 3 (bD s0 a) zfa (bD (b+1:Nat) b) (by omega)) rfl rfl (by simp[bxs]) ?_;have hx:mz 3 (bD s0 a) zfa (bD (b+1:Nat) b)=i3 a b s0:=zh (by simp[bD]);rw[hx];simp only[pkA,seval,xh];exact kz (s0+1,c0++[i3 a b s0]) _ ⟨⟨by omega,by omega⟩,by rw[aI];exact lF⟩ (by simp only;omega) (le1 rfl (ab _) (ab _) (by simp[FL,ah]) (by simp[]))
  have sU:s0=p.types.length+1:=by simp at sS;omega
  subst sU;rw[gB (ck _),br] at lF;subst lF;simp only[pkA];refine kL _ _ ?_;simp only[pkA,seval,hw];exact bL (i+1,cur++cd p.types.length (λs0=>emL none (i3 a b s0)) 1) _ ⟨bE,by rw[aI];exact hT⟩ (by simp only;omega) (le1 rfl (ab _) (ab _) (by simp[FL,ah]) (by simp[bxs]))
 have mc:i=(ruR p 5 p.rules.length).length:=by simp at fH;omega
 subst mc;rw[ep,ff,br] at hT;subst hT;simp only[pkA];refine bO _ _ ?_;simp only[pkA,seval];have hL4:(ruR p 5 p.rules.length).length<=1000:=b9 qO (by omega);have hf4:(ruR p 5 p.rules.length).flatMap (λr:Ru=>(λa b=>emL none (i4 a b)) r.a.toNat r.b.toNat)=t4 p none:=qa (D:=λa b=>emL none (i4 a b));refine bw (λx:Nat×List In=>hdS [(0,.bp 0 0),(5,.c (.sl ((ruR p 5 p.rules.length).map ruC))),(8,i64 x.1)] [lbx p x.2]) (λx=>(ruR p 5 p.rules.length).length - x.1) (λx=>x.1<=(ruR p 5 p.rules.length).length/\x.2++((ruR p 5 p.rules.length).drop x.1).flatMap (λr:Ru=>(λa b=>emL none (i4 a b)) r.a.toNat r.b.toNat)=es++t1 p none++t2 p none++t3 p none++t4 p none) (0,es++t1 p none++t2 p none++t3 p none) ⟨ar _,by rw[ct,hf4]⟩ ?_ ?_
 .exact(le1 rfl (ab _) (ab _) (by simp[FL,ah]) (by simp[bxs]))
 rintro⟨i,cur⟩ ⟨hi,hT⟩ R bL bO c8;simp only at hi hT;simp only[KO,seval];refine aD (λbE=>?_) (λfH=>?_)
 .have bE:i<(ruR p 5 p.rules.length).length:=by simpa using bE
  rw[iW bE] at hT;have hw:=bn (n:=(i:Int)+1) (k:=i+1) (by omega) (by omega);have hl:=dJ List.length hT;simp only[ae] at hl;obtain⟨r,hr⟩:∃ r,r=(ruR p 5 p.rules.length)[i]:=⟨_,rfl⟩;obtain⟨a,b,ha,hb,han,UC⟩:=wR bE;have ha:r.a=(a:Int):=by rw[hr];exact ha
  have hb:r.b=(b:Int):=by rw[hr];exact hb
  rw[<- hr,ha,hb,cC,cC] at hT hl;simp only[pkA,seval];have hd:(emL none (i4 a b)).length=1:=rfl
  repeat first
   |(simp only[Dc,seval,ha,hb])
   |refine dQ mq rfl fU (by decide) (ay i) (c:=ruC r) (by simp[hr,bE]) rfl ?_
   |refine az rfl (fV _ _) (λ_=>rfl) ?_
   |refine az rfl (iK _ _) (λ_=>rfl) ?_
   |refine az rfl (iL _) (λ_=>rfl) ?_
   |refine az rfl (jE _) (λ_=>rfl) ?_
  refine eL rfl (nv p cur 4 (bD 0 a) zfa (bD 0 b) (by omega)) rfl rfl (by simp[bxs]) ?_;have hx:mz 4 (bD 0 a) zfa (bD 0 b)=i4 a b:=zh (by simp[bD]);rw[hx];simp only[pkA,seval,hw];exact bL (i+1,cur++[i4 a b]) _ ⟨bE,by rw[aI];exact hT⟩ (by simp only;omega) (le1 rfl (ab _) (ab _) (by simp[FL,ah]) (by simp[]))
 have mc:i=(ruR p 5 p.rules.length).length:=by simp at fH;omega
 subst mc;rw[ep,ff,br] at hT;subst hT;simp only[pkA];refine bO _ _ ?_;simp only[pkA,seval];have hL5:(ruR p 5 p.rules.length).length<=1000:=b9 qO (by omega);have hf5:(ruR p 5 p.rules.length).flatMap (λr:Ru=>(λa b=>m5 p none a b) r.a.toNat r.b.toNat)=t5 p none:=qa (D:=λa b=>m5 p none a b);refine bw (λx:Nat×List In=>hdS [(0,.bp 0 0),(5,.c (.sl ((ruR p 5 p.rules.length).map ruC))),(9,i64 x.1)] [lbx p x.2]) (λx=>(ruR p 5 p.rules.length).length - x.1) (λx=>x.1<=(ruR p 5 p.rules.length).length/\x.2++((ruR p 5 p.rules.length).drop x.1).flatMap (λr:Ru=>(λa b=>m5 p none a b) r.a.toNat r.b.toNat)=es++t1 p none++t2 p none++t3 p none++t4 p none++t5 p none) (0,es++t1 p none++t2 p none++t3 p none++t4 p none) ⟨ar _,by rw[ct,hf5]⟩ ?_ ?_
 .exact(le1 rfl (ab _) (ab _) (by simp[FL,ah]) (by simp[bxs]))
 rintro⟨i,cur⟩ ⟨hi,hT⟩ R bL bO c8;simp only at hi hT;simp only[KO,seval];refine aD (λbE=>?_) (λfH=>?_)
 .have bE:i<(ruR p 5 p.rules.length).length:=by simpa using bE
  rw[iW bE] at hT;have hw:=bn (n:=(i:Int)+1) (k:=i+1) (by omega) (by omega);have hl:=dJ List.length hT;simp only[ae] at hl;obtain⟨r,hr⟩:∃ r,r=(ruR p 5 p.rules.length)[i]:=⟨_,rfl⟩;obtain⟨a,b,ha,hb,han,UC⟩:=wR bE;have ha:r.a=(a:Int):=by rw[hr];exact ha
  have hb:r.b=(b:Int):=by rw[hr];exact hb
  rw[<- hr,ha,hb,cC,cC] at hT hl;have hws:=bn (n:=(b:Int)+1) (k:=b+1) (by omega) (by omega);simp only[pkA,seval];rw[show m5 p none a b=cd p.types.length (λs0=>emL none (i5 a b s0)) 1 from rfl] at hT hl;refine bw (λx:Nat×List In=>hdS [(0,.bp 0 0),(5,.c (.sl ((ruR p 5 p.rules.length).map ruC))),(9,i64 i),(10,i64 x.1)] [lbx p x.2]) (λx=>p.types.length+1 - x.1) (λx=>(1<=x.1/\x.1<=p.types.length+1)/\x.2++cd p.types.length (λs0=>emL none (i5 a b s0)) x.1=cur++cd p.types.length (λs0=>emL none (i5 a b s0)) 1) (1,cur) ⟨⟨ab _,by omega⟩,rfl⟩ ?_ ?_
  .exact(le1 rfl (ab _) (ab _) (by simp[FL,ah]) (by simp[bxs]))
  rintro⟨s0,c0⟩ ⟨⟨sV,sW⟩,lF⟩ R0 kz kL uK;simp only at sV sW lF;have oM:=dJ List.length lF;simp only[ae] at oM;simp only[Dc,seval];refine aD (λkK=>?_) (λsS=>?_)
  .have kK:s0<=p.types.length:=by simp at kK;omega
   rw[fA kK] at lF oM;simp only[ae] at oM;have xh:=bn (n:=(s0:Int)+1) (k:=s0+1) (by omega) (by omega);simp only[pkA,seval];have hd:(emL none (i5 a b s0)).length=1:=rfl
   repeat first
    |(simp only[Dc,seval,ha,hb,hws])
    |refine dQ mq rfl fU (by decide) (ay i) (c:=ruC r) (by simp[hr,bE]) rfl ?_
    |refine az rfl (fV _ _) (λ_=>rfl) ?_
    |refine az rfl (iK _ _) (λ_=>rfl) ?_
    |refine az rfl (iL _) (λ_=>rfl) ?_
    |refine az rfl (jE _) (λ_=>rfl) ?_
   refine eL rfl (nv p c0 5 (bD s0 a) (iJ s0) (iJ (b+1:Nat)) (by omega)) rfl rfl (by simp[bxs]) ?_;have hx:mz 5 (bD s0 a) (iJ s0) (iJ (b+1:Nat))=i5 a b s0:=Da (by simp[bD]) (by simp[iJ]);rw[hx];simp only[pkA,seval,xh];exact kz (s0+1,c0++[i5 a b s0]) _ ⟨⟨by omega,by omega⟩,by rw[aI];exact lF⟩ (by simp only;omega) (le1 rfl (ab _) (ab _) (by simp[FL,ah]) (by simp[]))
  have sU:s0=p.types.length+1:=by simp at sS;omega
  subst sU;rw[gB (ck _),br] at lF;subst lF;simp only[pkA];refine kL _ _ ?_;simp only[pkA,seval,hw];exact bL (i+1,cur++cd p.types.length (λs0=>emL none (i5 a b s0)) 1) _ ⟨bE,by rw[aI];exact hT⟩ (by simp only;omega) (le1 rfl (ab _) (ab _) (by simp[FL,ah]) (by simp[bxs]))
 have mc:i=(ruR p 5 p.rules.length).length:=by simp at fH;omega
 subst mc;rw[ep,ff,br] at hT;subst hT;simp only[pkA];refine bO _ _ ?_;simp only[pkA,seval];exact C7 rfl (ab _) (by simp[bxs])
