/- The errors of types, rules and quorums; Check and Valid; layer 13. -/
import Derived.Test.YtloppcgcepgbnaaGreatDoorKpVlShape
import Derived.Test.YtloppcgcepgbnaaGreatDoorVlFlb
set_option maxHeartbeats 4000000
set_option linter.all false
namespace Go.Proofs.YtloppcgcepgbnaaGreatDoor.Kp
open Go Go.Vl
set_option maxRecDepth 10000
def O8 (n lo hi:Int):Bool:=decide (lo<=n)&&decide (n<=hi)
theorem uV (n lo hi:Int):AW ⟨n,lo,hi⟩=!O8 n lo hi:=by unfold AW O8;rw[kY];simp
def uW (l:List Ty) (k:Nat) (t:Ty):Int:=
 if decide (32<=(k:Int))=true then 2 else if(!nA t.name)=true then 4 else if((l.take k).any λo=>decide (o.name=t.name))=true then 4 else if([⟨t.flags,0,127⟩,⟨t.life,0,1099511627776⟩].any AW)=true then 1 else 0
def uX (l:List Ru) (k:Nat) (nt:Int) (r:Ru):Int:=
 if decide (256<=(k:Int))=true then 2 else if([⟨r.kind,1,5⟩,⟨r.a,0,nt - 1⟩,⟨r.b,0,nt - 1⟩].any AW)=true then 1 else if((l.take k).any λo=>decide (r=o))=true then 12 else 0
def wa (l:List Qu) (k:Nat) (q:Qu):Int:=
 if([⟨q.cmd,1,27⟩,⟨q.count,1,16⟩,⟨q.delay,0,1099511627776⟩,⟨q.valid,q.delay,1099511627776⟩,⟨q.uses,1,1048576⟩].any AW)=true then 1
 else if([23,24,25].any λe:Int=>decide (q.cmd=e))=true then 10 else if((l.take k).any λo=>decide (o.cmd=q.cmd))=true then 12 else 0
theorem DI {α:Type} (f:α->List C) (l:List α) (k:Nat):(l.map f).take k=(l.take k).map f:=List.map_take.symm
theorem zD {T e:TypeId} {i j:TI} {P:Program} {es:List (List C)} {k:Nat} {KV:V->Prop} (hT:ti P T=some i) (hk:i.kd=.slice e) (hE:ti P e=some j) (hl:k<=es.length) (hs:∀ x∈es,x.length=j.size) (hK:KV (.c (.sl (es.take k)))) :
 jl P T (.c (.sl es)) none (some (i64 k)) none KV:=by
 obtain⟨kd,a,b,c,d,f,g⟩:=i;subst hk;simp only[jl,hT,hE,iW];refine⟨⟨Int.le_refl _,ay k,by omega,hs⟩,?_⟩;simpa using hK
theorem uO {l ds:List V} (h:l.length=ds.length):eQ l 0 ds=ds:=by simp[eQ,h]
def lx:=jj @pkA (jj @ptA @pkP)
theorem Is {G:Gl} (l:List Ty) (k:Nat) (hk:k<l.length) (hl:l.length<=9223372036854775807) (hn:∀ t∈l,t.name.size<=9223372036854775807) :
 FnOK Tryz.prog G 86 [.c (.sl (l.map tyC)),i64 k] (i64 (uW l k l[k])):=by
 refine bJ (rs:=[.tmp 4]) false [] mixed Tryz.func86 rfl rfl rfl rfl (by kernel_rfl) (by simp) rfl rfl ?_;have hnk:=hn l[k] (bT hk);simp only[pkA,seval];refine dP pf rfl kC (by decide) (ay k) (c:=tyC l[k]) (by simp[hk]) rfl ?_;generalize ht:l[k]=t at *
 repeat' first
  |(simp only[lx,seval,au,uO,au])
  |refine fy (λh=>?_) (λh=>?_)
  |refine aD (λh=>?_) (λh=>?_)
  |refine aC rfl (QM _ hnk) (by simp[V.boxy]) ?_
  |(refine zD pf rfl kC (by simp;omega) (by simp[Bf]) ?_;rw[DI])
  |refine aC rfl (AS (l.take k) (by simp;omega) _ _ (λo=>decide (o.name=t.name)) (λe _=>afF t e)) (λ_=>rfl) ?_
  |refine aC rfl (DF [⟨t.flags,0,127⟩,⟨t.life,0,1099511627776⟩] (by simp)) (λ_=>rfl) ?_
 all_goals (unfold uW;simp only[*,↓reduceIte,aM,lS])
theorem Iu {G:Gl} (l:List Ru) (k:Nat) (nt:Int) (hk:k<l.length) (hl:l.length<=9223372036854775807) (hnt:0<=nt/\nt<=9223372036854775807) :
 FnOK Tryz.prog G 87 [.c (.sl (l.map ruC)),i64 k,i64 nt] (i64 (uX l k nt l[k])):=by
 refine bJ (rs:=[.tmp 6]) false [] mixed Tryz.func87 rfl rfl rfl rfl (by kernel_rfl) (by simp) rfl rfl ?_;have hw:=wrap_i64 (nt - 1) (by omega);simp only[pkA,seval];refine dP kV rfl fQ (by decide) (ay k) (c:=ruC l[k]) (by simp[hk]) rfl ?_;generalize ht:l[k]=t at *
 repeat' first
  |(simp only[lx,seval,au,uO,au,hw])
  |refine fy (λh=>?_) (λh=>?_)
  |refine aD (λh=>?_) (λh=>?_)
  |(refine zD kV rfl fQ (by simp;omega) (by simp[yj]) ?_;rw[DI])
  |refine aC rfl (LM (l.take k) (by simp;omega) t) (λ_=>rfl) ?_
  |refine aC rfl (DF [⟨t.kind,1,5⟩,⟨t.a,0,nt - 1⟩,⟨t.b,0,nt - 1⟩] (by simp)) (λ_=>rfl) ?_
 all_goals (unfold uX;simp only[*,↓reduceIte,aM])
theorem DJ {G:Gl} (hG:G 0=some [.lit (.int .i64 23),.lit (.int .i64 24),.lit (.int .i64 25)]) (l:List Qu) (k:Nat) (hk:k<l.length) (hl:l.length<=9223372036854775807) :
 FnOK Tryz.prog G 88 [.c (.sl (l.map quC)),i64 k] (i64 (wa l k l[k])):=by
 refine bJ (rs:=[.tmp 4]) false [] mixed Tryz.func88 rfl rfl rfl rfl (by kernel_rfl) (by simp) rfl rfl ?_;simp only[pkA,seval];refine dP uA rfl jA (by decide) (ay k) (c:=quC l[k]) (by simp[hk]) rfl ?_;generalize ht:l[k]=t at *;have gj:∀ K,jl Tryz.prog 65 (.c (.rp [.lit (.int .i64 23),.lit (.int .i64 24),.lit (.int .i64 25)] 0)) none none none K=K (.c (.sl (([23,24,25]:List Int).map inC))):=λK=>by simp only[jl,Qf,nH];simp[nP,inC,cI]
 have tM:∀ fr bx nb,ev G ⟨fr,bx,nb⟩ (.global 0)=.c (.rp [.lit (.int .i64 23),.lit (.int .i64 24),.lit (.int .i64 25)] 0):=λfr bx nb=>by simp[ev,gat,hG]
 repeat' first
  |(simp only[lx,seval,au,uO,au,gj,tM,kZ])
  |refine fy (λh=>?_) (λh=>?_)
  |refine aD (λh=>?_) (λh=>?_)
  |(refine zD uA rfl jA (by simp;omega) (by simp[ym]) ?_;rw[DI])
  |refine aC rfl (LN [23,24,25] (by simp) t.cmd) (λ_=>rfl) ?_
  |refine aC rfl (AU (l.take k) (by simp;omega) _ _ (λo=>decide (o.cmd=t.cmd)) (λe _=>afG t e)) (λ_=>rfl) ?_
  |refine aC rfl (DF [⟨t.cmd,1,27⟩,⟨t.count,1,16⟩,⟨t.delay,0,1099511627776⟩,⟨t.valid,t.delay,1099511627776⟩,⟨t.uses,1,1048576⟩] (by simp)) (λ_=>rfl) ?_
 all_goals (unfold wa;simp only[*,↓reduceIte,aM])
theorem uY {α:Type} {p:α->Bool} {l:List α} {i k:Nat} (hi:i<l.length) (hk:i<k) (h:p l[i]=true):(l.take k).any p=true:=
 eI.2 ⟨l[i],fP.2 ⟨i,by omega,rfl⟩,h⟩
theorem rH {α:Type} {p:α->Bool} {l:List α} {k:Nat} (h:∀ j (hj:j<l.length),j<k->p l[j]=false):(l.take k).any p=false:=
 List.any_eq_false.2 λx hx=>by obtain⟨j,hj,rfl⟩:=fP.1 hx;simp[h j (by omega) (by omega)]
theorem QN (n:Int):([23,24,25].any λe:Int=>decide (n=e))=(decide (23<=n)&&decide (n<=25)):=by rw[kY];simp;omega
theorem UP {G:Gl} (l:List Ty) (k:Nat) (hk:k<l.length) (hl:l.length<=9223372036854775807) (hn:∀ t∈l,t.name.size<=9223372036854775807) :
 FnOK Tryz.prog G 65 [.c (.sl (l.map tyC)),i64 k] (i64 (uW l k l[k])):=by
 refine bJ (rs:=[.tmp 4]) false [] mixed Tryz.func65 rfl rfl rfl rfl (by kernel_rfl) (by simp) rfl rfl ?_;have hnk:=hn l[k] (bT hk);obtain⟨t,ht⟩:∃ t,l[k]=t:=⟨_,rfl⟩;rw[ht] at hnk ⊢
 simp only[pkA,seval];refine aD (λh0=>?_) (λh0=>?_)
 .simp only[pkA,seval]
  unfold uW;simp only[h0,↓reduceIte]
 simp only[pkA,seval];refine dP pf rfl kC (by decide) (ay k) (c:=tyC t) (by simp[hk,ht]) rfl ?_;simp only[lx,seval];refine aC rfl (DG _ hnk) (λ_=>rfl) ?_;simp only[pkA,seval];refine aD (λh1=>?_) (λh1=>?_)
 .simp only[pkA,seval]
  unfold uW;simp only[h0,h1,↓reduceIte,aM]
 simp only[pkA,seval];refine bz (λi:Nat=>hdS [(0,.c (.sl (l.map tyC))),(1,i64 k),(6,i64 i)] []) (λi=>k - i) (λi=>i<=k/\∀ j (h:j<l.length),j<i->decide (l[j].name=t.name)=false) 0 ⟨ar _,by simp⟩ ?_ ?_
 .refine cg rfl (ar _) (by simp) ?_ trivial
  simp[FL,aj]
 rintro i ⟨hi,gw⟩ R bL bQ dq;simp only[pkA,seval];refine aD (λbF=>?_) (λfO=>?_)
 .have bF:i<k:=by simpa using bF
  have PC:i<l.length:=by omega
  have hw:=br (n:=(i:Int)+1) (k:=i+1) (by omega) (by omega);simp only[pkA,seval];refine dP pf rfl kC (by decide) (ay i) (c:=tyC l[i]) (by simp[PC]) rfl ?_;simp only[lx,seval];refine dP pf rfl kC (by decide) (ay k) (c:=tyC t) (by simp[hk,ht]) rfl ?_;simp only[lx,seval];refine aD (λhy=>?_) (λhn=>?_)
  .simp only[pkA,seval]
   refine dq _ ?_;simp only[pkA,seval];have:=uY (p:=λo:Ty=>decide (o.name=t.name)) PC bF hy;unfold uW;simp only[h0,h1,this,↓reduceIte,aM]
  .simp only[pkA,seval,hw]
   refine bL (i+1) _ ⟨bF,λj h hj=>?_⟩ (by omega) (cg rfl (ar _) (by simp) (by simp[FL,aj]) trivial);rcases bZ j i with q | q
   .exact gw j h q
   .have:j=i:=by omega
    subst this;exact hn
 .have:i=k:=by simp at fO;omega
  subst this;have h2:=rH (p:=λo:Ty=>decide (o.name=t.name)) (k:=i) gw;simp only[pkA];refine bQ _ _ ?_;clear bQ dq bL gw
  repeat' first
   |(simp only[lx,seval])
   |refine fy (λh=>?_) (λh=>?_)
   |refine aD (λh=>?_) (λh=>?_)
   |refine dP pf rfl kC (by decide) (ay i) (c:=tyC t) (by simp[hk,ht]) rfl ?_
   |refine aC rfl (zB _ _ _) (λ_=>rfl) ?_
  all_goals (unfold uW;simp only[*,List.any_cons,List.any_nil,uV,O8,lk,Bool.true_or,jX,↓reduceIte,aM,lS])
theorem UQ {G:Gl} (l:List Ru) (k:Nat) (nt:Int) (hk:k<l.length) (hl:l.length<=9223372036854775807) (hnt:0<=nt/\nt<=9223372036854775807) :
 FnOK Tryz.prog G 66 [.c (.sl (l.map ruC)),i64 k,i64 nt] (i64 (uX l k nt l[k])):=by
 refine bJ (rs:=[.tmp 6]) false [] mixed Tryz.func66 rfl rfl rfl rfl (by kernel_rfl) (by simp) rfl rfl ?_;have xu:=wrap_i64 (nt - 1) (by omega);obtain⟨t,ht⟩:∃ t,l[k]=t:=⟨_,rfl⟩;rw[ht];simp only[pkA,seval];refine aD (λh0=>?_) (λh0=>?_)
 .simp only[pkA,seval]
  unfold uX;simp only[h0,↓reduceIte]
 have loopk:([⟨t.kind,1,5⟩,⟨t.a,0,nt - 1⟩,⟨t.b,0,nt - 1⟩].any AW)=false->∀ (Q:VE->S->Prop) (body:Code),True:=λ_ _ _=>trivial;clear loopk
 repeat' first
  |(simp only[lx,seval,xu])
  |refine fy (λh=>?_) (λh=>?_)
  |refine aD (λh=>?_) (λh=>?_)
  |refine dP kV rfl fQ (by decide) (ay k) (c:=ruC t) (by simp[hk,ht]) rfl ?_
  |refine aC rfl (zB _ _ _) (λ_=>rfl) ?_
 all_goals first
  |(unfold uX;simp only[*,List.any_cons,List.any_nil,uV,O8,lk,Bool.true_or,jX,↓reduceIte,aM,lS];done)
  |have h2:([⟨t.kind,1,5⟩,⟨t.a,0,nt - 1⟩,⟨t.b,0,nt - 1⟩].any AW)=false:=by simp only[*,List.any_cons,List.any_nil,uV,O8,lk]
   refine bz (λi:Nat=>hdS [(0,.c (.sl (l.map ruC))),(1,i64 k),(7,i64 i)] []) (λi=>k - i) (λi=>i<=k/\∀ j (h:j<l.length),j<i->decide (t=l[j])=false) 0 ⟨ar _,by simp⟩ ?_ ?_
   .refine cg rfl (ar _) (by simp) ?_ trivial
    simp[FL,aj]
   rintro i ⟨hi,gw⟩ R bL bQ dq;simp only[pkA,seval];refine aD (λbF=>?_) (λfO=>?_)
   .have bF:i<k:=by simpa using bF
    have PC:i<l.length:=(by omega);have hw:=br (n:=(i:Int)+1) (k:=i+1) (by omega) (by omega);simp only[pkA,seval];refine dP kV rfl fQ (by decide) (ay i) (c:=ruC l[i]) (by simp[PC]) rfl ?_;simp only[lx,seval];refine dP kV rfl fQ (by decide) (ay k) (c:=ruC t) (by simp[hk,ht]) rfl ?_;simp only[lx,seval];refine aD (λhy=>?_) (λhn=>?_)
    .simp only[pkA,seval]
     refine dq _ ?_;simp only[pkA,seval];have hy:decide (t=l[i])=true:=(by simp at hy ⊢;exact hy.symm);have:=uY (p:=λo:Ru=>decide (t=o)) PC bF hy;unfold uX;simp only[h0,h2,this,↓reduceIte,aM]
    .simp only[pkA,seval,hw]
     refine bL (i+1) _ ⟨bF,λj h hj=>?_⟩ (by omega) (cg rfl (ar _) (by simp) (by simp[FL,aj]) trivial);rcases bZ j i with q | q
     .exact gw j h q
     .have:j=i:=by omega
      subst this;simp at hn ⊢;exact λe=>hn e.symm
   .have:i=k:=by simp at fO;omega
    subst this;have h3:=rH (p:=λo:Ru=>decide (t=o)) (k:=i) gw;simp only[pkA];refine bQ _ _ ?_;simp only[pkA,seval];unfold uX;simp only[h0,h2,h3,↓reduceIte,aM]
theorem LO {G:Gl} (l:List Qu) (k:Nat) (hk:k<l.length) (hl:l.length<=9223372036854775807) :
 FnOK Tryz.prog G 67 [.c (.sl (l.map quC)),i64 k] (i64 (wa l k l[k])):=by
 refine bJ (rs:=[.tmp 4]) false [] mixed Tryz.func67 rfl rfl rfl rfl (by kernel_rfl) (by simp) rfl rfl ?_;obtain⟨t,ht⟩:∃ t,l[k]=t:=⟨_,rfl⟩;rw[ht];simp only[pkA,seval];refine dP uA rfl jA (by decide) (ay k) (c:=quC t) (by simp[hk,ht]) rfl ?_;have qx:∀ x:List V,x.length=5->eQ x 0 ((quC t).map .c)=(quC t).map .c:=λx hx=>uO (by simp[ym,hx])
 repeat' first
  |(simp only[lx,seval,qx])
  |refine fy (λh=>?_) (λh=>?_)
  |refine aD (λh=>?_) (λh=>?_)
  |refine aC rfl (zB _ _ _) (λ_=>rfl) ?_
 all_goals first
  |(unfold wa;rw[QN];simp only[*,List.any_cons,List.any_nil,uV,O8,lk,Bool.true_or,jX,↓reduceIte,aM,lS];done)
  |have h2:([⟨t.cmd,1,27⟩,⟨t.count,1,16⟩,⟨t.delay,0,1099511627776⟩,⟨t.valid,t.delay,1099511627776⟩,⟨t.uses,1,1048576⟩].any AW)=false:=by simp only[*,List.any_cons,List.any_nil,uV,O8,lk]
   have h4:([23,24,25].any λe:Int=>decide (t.cmd=e))=false:=(by rw[QN];assumption);refine bz (λi:Nat=>hdS [(0,.c (.sl (l.map quC))),(1,i64 k),(5,.bp 0 0),(6,i64 i)] [(quC t).map .c]) (λi=>k - i) (λi=>i<=k/\∀ j (h:j<l.length),j<i->decide (l[j].cmd=t.cmd)=false) 0 ⟨ar _,by simp⟩ ?_ ?_
   .refine cg (by simp only[gz,aY,bn,gQ,aB,aF];rfl) (ar _) (by simp) ?_ ?_
    .simp[FL,aj]
    .simp[BL]
   rintro i ⟨hi,gw⟩ R bL bQ dq;simp only[pkA,seval];refine aD (λbF=>?_) (λfO=>?_)
   .have bF:i<k:=by simpa using bF
    have PC:i<l.length:=(by omega);have hw:=br (n:=(i:Int)+1) (k:=i+1) (by omega) (by omega);simp only[pkA,seval];refine dP uA rfl jA (by decide) (ay i) (c:=quC l[i]) (by simp[PC]) rfl ?_;simp only[lx,seval];refine aD (λhy=>?_) (λhn=>?_)
    .simp only[pkA,seval]
     refine dq _ ?_;simp only[pkA,seval];have:=uY (p:=λo:Qu=>decide (o.cmd=t.cmd)) PC bF hy;unfold wa;simp only[h2,h4,this,↓reduceIte,aM]
    .simp only[pkA,seval,hw]
     refine bL (i+1) _ ⟨bF,λj h hj=>?_⟩ (by omega) (cg (by simp only[gz,aY,bn,gQ,aB,aF];rfl) (ar _) (by simp) (by simp[FL,aj]) (by simp[BL,bxs]));rcases bZ j i with q | q
     .exact gw j h q
     .have:j=i:=by omega
      subst this;exact hn
   .have:i=k:=by simp at fO;omega
    subst this;have h3:=rH (p:=λo:Qu=>decide (o.cmd=t.cmd)) (k:=i) gw;simp only[pkA];refine bQ _ _ ?_;simp only[pkA,seval];unfold wa;simp only[h2,h3,h4,↓reduceIte,aM]
def tyE (l:List Ty) (k:Nat):Int:=match l[k]? with
 |some t=>uW l k t
 |none=>0
def ruE (l:List Ru) (k:Nat) (nt:Int):Int:=match l[k]? with
 |some t=>uX l k nt t
 |none=>0
def quE (l:List Qu) (k:Nat):Int:=match l[k]? with
 |some t=>wa l k t
 |none=>0
theorem aau {l:List Ty} {k:Nat} (h:k<l.length):tyE l k=uW l k l[k]:=by simp[tyE,h]
theorem aav {l:List Ru} {k:Nat} {nt:Int} (h:k<l.length):ruE l k nt=uX l k nt l[k]:=by simp[ruE,h]
theorem aaw {l:List Qu} {k:Nat} (h:k<l.length):quE l k=wa l k l[k]:=by simp[quE,h]
def mi (p:Pol):Nat:=p.types.length+p.rules.length+p.quorums.length
def itE (p:Pol) (k:Nat):Int:=if k<p.types.length then tyE p.types k else if k<p.types.length+p.rules.length then ruE p.rules (k - p.types.length) p.types.length else quE p.quorums (k - p.types.length - p.rules.length)
def chk (p:Pol):Int×Int:=if nA p.name=true then(match(List.range (mi p)).find? (λk=>!decide (itE p k=0)) with
 |some k=>((k:Int),itE p k)
 |none=>(0,0)) else(-1,4)
theorem Iw {p:Pol} {k:Nat} (hn:nA p.name=true) (hk:k<mi p) (h:itE p k≠0) (gw:∀ j,j<k->itE p j=0):chk p=((k:Int),itE p k):=by
 have:(List.range (mi p)).find? (λk=>!decide (itE p k=0))=some k:=by rw[List.find?_range_eq_some];exact⟨by simpa using h,by simpa using hk,λj hj=>by simp[gw j hj]⟩
 simp[chk,hn,this]
theorem LP {p:Pol} (hn:nA p.name=true) (gw:∀ j,j<mi p->itE p j=0):chk p=(0,0):=by
 have:(List.range (mi p)).find? (λk=>!decide (itE p k=0))=none:=by rw[List.find?_eq_none];intro j hj;simp[gw j (by simpa using hj)]
 simp[chk,hn,this]
theorem LQ {p:Pol} (hn:nA p.name=false):chk p=(-1,4):=by simp[chk,hn]
theorem PolIn.nm {p:Pol} (h:PolIn p):p.name.size<=9223372036854775807:=by have:=h.name;unfold maxLen at this;omega
theorem PolIn.tn {p:Pol} (h:PolIn p):∀ t∈p.types,t.name.size<=9223372036854775807:=λt ht=>by have:=(h.types t ht).1;unfold maxLen at this;omega
theorem aax {G:Gl} (hG:G 0=some [.lit (.int .i64 23),.lit (.int .i64 24),.lit (.int .i64 25)]) (p:Pol) (hp:PolIn p) (hsm:mi p<=4611686018427387904) :
 FnOK Tryz.prog G 61 [.agg (poC p)] (.tup [i64 (chk p).1,i64 (chk p).2]):=by
 refine bJ (rs:=[.tmp 2,.tmp 3]) false [] mixed Tryz.func61 rfl rfl rfl rfl (by kernel_rfl) (by simp) rfl rfl ?_;obtain⟨o1,o2,o3⟩:=hp.ok;have hit:mi p=p.types.length+p.rules.length+p.quorums.length:=rfl;simp only[lx,seval];refine aC rfl (QM _ hp.nm) (λ_=>rfl) ?_;simp only[pkA,seval];refine aD (λhn=>?_) (λhn=>?_)
 .have hn:nA p.name=false:=by simpa using hn
  simp only[pkA,seval];rw[LQ hn];refine jb ?_ ?_<;>simp only[pkA,seval]
 have hn:nA p.name=true:=by simpa using hn
 have w1:=br (n:=(p.types.length:Int)+p.rules.length) (k:=p.types.length+p.rules.length) (by omega) (by omega);have w2:=br (n:=((p.types.length+p.rules.length:Nat):Int)+p.quorums.length) (k:=mi p) (by unfold mi;omega) (by unfold mi;omega);simp only[lx,seval,au,w1,w2];refine bz (λi:Nat=>hdS [(1,.bp 0 0),(4,i64 p.types.length),(5,i64 p.rules.length),(24,i64 (mi p)),(25,i64 i)] [(poC p).map .c]) (λi=>mi p - i) (λi=>i<=mi p/\∀ j,j<i->itE p j=0) 0 ⟨ar _,by simp⟩ ?_ ?_
 .refine cg (by simp only[gz,aY,bn,gQ,aB,aF];rfl) (ar _) (by simp) ?_ ?_
  .simp[FL,aj]
  .simp[BL]
 rintro i ⟨hi,gw⟩ R bL bQ dq;simp only[pkA,seval];refine aD (λbF=>?_) (λfO=>?_)
 .have bF:i<mi p:=by simpa using bF
  have hw:=br (n:=(i:Int)+1) (k:=i+1) (by omega) (by omega);have bad:itE p i≠0->chk p=((i:Int),itE p i):=λh=>Iw hn bF h gw;have good:itE p i=0->∀ j,j<i+1->itE p j=0:=λh j hj=>by
   rcases bZ j i with q | q
   .exact gw j q
   .have:j=i:=by omega
    subst this;exact h
  simp only[pkA,seval];refine aD (λht=>?_) (λht=>?_)
  .have ht:i<p.types.length:=by simpa using ht
   have e:itE p i=uW p.types i p.types[i]:=(by unfold itE;rw[if_pos ht,aau ht]);rw[e] at bad good;simp only[lx,seval];refine aC rfl (Is p.types i ht o1 hp.tn) (λ_=>rfl) ?_;simp only[pkA,seval];refine aD (λhb=>?_) (λhg=>?_)
   .simp only[pkA,seval]
    refine dq _ ?_;simp only[pkA];rw[bad (by simpa using hb)];refine jb ?_ ?_<;>simp only[pkA,seval]
   .simp only[pkA,seval,hw]
    exact bL (i+1) _ ⟨bF,good (by simpa using hg)⟩ (by omega) (cg (by simp only[gz,aY,bn,gQ,aB,aF];rfl) (ar _) (by simp) (by simp[FL,aj]) (by simp[BL,bxs]))
  have ht:p.types.length<=i:=by simpa using ht
  have v1:=br (n:=(i:Int) - p.types.length) (k:=i - p.types.length) (by omega) (by omega);simp only[pkA,seval,w1];refine aD (λhr=>?_) (λhr=>?_)
  .have hr:i<p.types.length+p.rules.length:=by simp at hr;omega
   have MP:i - p.types.length<p.rules.length:=(by omega);have e:itE p i=uX p.rules (i - p.types.length) p.types.length p.rules[i - p.types.length]:=(by unfold itE;rw[if_neg (by omega),if_pos hr,aav MP]);rw[e] at bad good;simp only[lx,seval,v1];refine aC rfl (Iu p.rules (i - p.types.length) p.types.length MP o2 (by omega)) (λ_=>rfl) ?_;simp only[pkA,seval];refine aD (λhb=>?_) (λhg=>?_)
   .simp only[pkA,seval]
    refine dq _ ?_;simp only[pkA];rw[bad (by simpa using hb)];refine jb ?_ ?_<;>simp only[pkA,seval]
   .simp only[pkA,seval,hw]
    exact bL (i+1) _ ⟨bF,good (by simpa using hg)⟩ (by omega) (cg (by simp only[gz,aY,bn,gQ,aB,aF];rfl) (ar _) (by simp) (by simp[FL,aj]) (by simp[BL,bxs]))
  have hr:p.types.length+p.rules.length<=i:=by simp at hr;omega
  have MP:i - p.types.length - p.rules.length<p.quorums.length:=by unfold mi at bF;omega
  have v2:=br (n:=((i - p.types.length:Nat):Int) - p.rules.length) (k:=i - p.types.length - p.rules.length) (by omega) (by omega);have e:itE p i=wa p.quorums (i - p.types.length - p.rules.length) p.quorums[i - p.types.length - p.rules.length]:=by unfold itE;rw[if_neg (by omega),if_neg (by omega),aaw MP]
  rw[e] at bad good;simp only[lx,seval,v1,v2];refine aC rfl (DJ hG p.quorums (i - p.types.length - p.rules.length) MP o3) (λ_=>rfl) ?_;simp only[pkA,seval];refine aD (λhb=>?_) (λhg=>?_)
  .simp only[pkA,seval]
   refine dq _ ?_;simp only[pkA];rw[bad (by simpa using hb)];refine jb ?_ ?_<;>simp only[pkA,seval]
  .simp only[pkA,seval,hw]
   exact bL (i+1) _ ⟨bF,good (by simpa using hg)⟩ (by omega) (cg (by simp only[gz,aY,bn,gQ,aB,aF];rfl) (ar _) (by simp) (by simp[FL,aj]) (by simp[BL,bxs]))
 .have:i=mi p:=by simp at fO;omega
  subst this;simp only[pkA];refine bQ _ _ ?_;simp only[pkA,seval];rw[LP hn gw];refine jb ?_ ?_<;>simp only[pkA,seval]
def O9 (p:Pol):Bool:=decide ((chk p).2=0)
theorem C4 {G:Gl} (hG:G 0=some [.lit (.int .i64 23),.lit (.int .i64 24),.lit (.int .i64 25)]) (p:Pol) (hp:PolIn p) (hsm:mi p<=4611686018427387904) :
 FnOK Tryz.prog G 42 [.agg (poC p)] (bo (O9 p)):=by
 refine bJ (rs:=[.tmp 2]) false [] mixed Tryz.func42 rfl rfl rfl rfl (by kernel_rfl) (by simp) rfl rfl ?_;simp only[lx,seval];refine aC rfl (aax hG p hp hsm) (λh=>by cases h) ?_;simp only[pkA,seval];rfl
