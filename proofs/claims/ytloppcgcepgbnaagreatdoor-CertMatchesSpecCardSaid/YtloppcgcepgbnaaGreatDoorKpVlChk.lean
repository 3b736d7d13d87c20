/- The errors of types, rules and quorums; Check and Valid; layer 13. -/
import Derived.Test.YtloppcgcepgbnaaGreatDoorKpVlShape
import Derived.Test.YtloppcgcepgbnaaGreatDoorVlFlb
set_option maxHeartbeats 4000000
set_option linter.all false
namespace Go.Proofs.YtloppcgcepgbnaaGreatDoor.Kp
open Go Go.Vl
set_option maxRecDepth 10000
def OE (n lo hi:Int):Bool:=decide (lo<=n)&&decide (n<=hi)
theorem uB (n lo hi:Int):AS ⟨n,lo,hi⟩=!OE n lo hi:=by unfold AS OE;rw[jO];simp
def uC (l:List Ty) (k:Nat) (t:Ty):Int:=
 if decide (32<=(k:Int))=true then 2 else if(!nz t.name)=true then 4 else if((l.take k).any λo=>decide (o.name=t.name))=true then 4 else if([⟨t.flags,0,127⟩,⟨t.life,0,1099511627776⟩].any AS)=true then 1 else 0
def uD (l:List Ru) (k:Nat) (nt:Int) (r:Ru):Int:=
 if decide (256<=(k:Int))=true then 2 else if([⟨r.kind,1,5⟩,⟨r.a,0,nt - 1⟩,⟨r.b,0,nt - 1⟩].any AS)=true then 1 else if((l.take k).any λo=>decide (r=o))=true then 12 else 0
def vU (l:List Qu) (k:Nat) (q:Qu):Int:=
 if([⟨q.cmd,1,27⟩,⟨q.count,1,16⟩,⟨q.delay,0,1099511627776⟩,⟨q.valid,q.delay,1099511627776⟩,⟨q.uses,1,1048576⟩].any AS)=true then 1
 else if([23,24,25].any λe:Int=>decide (q.cmd=e))=true then 10 else if((l.take k).any λo=>decide (o.cmd=q.cmd))=true then 12 else 0
theorem DO {α:Type} (f:α->List C) (l:List α) (k:Nat):(l.map f).take k=(l.take k).map f:=List.map_take.symm
theorem zx {T e:TypeId} {i j:TI} {P:Program} {es:List (List C)} {k:Nat} {KV:V->Prop} (hT:ti P T=some i) (hk:i.kd=.slice e) (hE:ti P e=some j) (hl:k<=es.length) (hs:∀ x∈es,x.length=j.size) (hK:KV (.c (.sl (es.take k)))) :
 jl P T (.c (.sl es)) none (some (i64 k)) none KV:=by
 obtain⟨kd,a,b,c,d,f,g⟩:=i;subst hk;simp only[jl,hT,hE,iU];refine⟨⟨Int.le_refl _,ay k,by omega,hs⟩,?_⟩;simpa using hK
theorem uw {l ds:List V} (h:l.length=ds.length):eP l 0 ds=ds:=by simp[eP,h]
def ln:=jj @pkA (jj @ptA @pkP)
theorem Ii {G:Gl} (l:List Ty) (k:Nat) (hk:k<l.length) (hl:l.length<=9223372036854775807) (hn:∀ t∈l,t.name.size<=9223372036854775807) :
 FnOK Tryz.prog G 86 [.c (.sl (l.map tyC)),i64 k] (i64 (uC l k l[k])):=by
 refine bI (rs:=[.tmp 4]) false [] mixed Tryz.func86 rfl rfl rfl rfl (by kernel_rfl) (by simp) rfl rfl ?_;have hnk:=hn l[k] (bR hk);simp only[pkA,seval];refine dQ rJ rfl lE (by decide) (ay k) (c:=tyC l[k]) (by simp[hk]) rfl ?_;generalize ht:l[k]=t at *
 repeat' first
  |(simp only[ln,seval,au,uw,au])
  |refine eT (λh=>?_) (λh=>?_)
  |refine aD (λh=>?_) (λh=>?_)
  |refine az rfl (Qg _ hnk) (by simp[V.boxy]) ?_
  |(refine zx rJ rfl lE (by simp;omega) (by simp[HL]) ?_;rw[DO])
  |refine az rfl (AO (l.take k) (by simp;omega) _ _ (λo=>decide (o.name=t.name)) (λe _=>ady t e)) (λ_=>rfl) ?_
  |refine az rfl (DL [⟨t.flags,0,127⟩,⟨t.life,0,1099511627776⟩] (by simp)) (λ_=>rfl) ?_
 all_goals (unfold uC;simp only[*,↓reduceIte,aM,lT])
theorem Ij {G:Gl} (l:List Ru) (k:Nat) (nt:Int) (hk:k<l.length) (hl:l.length<=9223372036854775807) (hnt:0<=nt/\nt<=9223372036854775807) :
 FnOK Tryz.prog G 87 [.c (.sl (l.map ruC)),i64 k,i64 nt] (i64 (uD l k nt l[k])):=by
 refine bI (rs:=[.tmp 6]) false [] mixed Tryz.func87 rfl rfl rfl rfl (by kernel_rfl) (by simp) rfl rfl ?_;have hw:=wrap_i64 (nt - 1) (by omega);simp only[pkA,seval];refine dQ mq rfl fU (by decide) (ay k) (c:=ruC l[k]) (by simp[hk]) rfl ?_;generalize ht:l[k]=t at *
 repeat' first
  |(simp only[ln,seval,au,uw,au,hw])
  |refine eT (λh=>?_) (λh=>?_)
  |refine aD (λh=>?_) (λh=>?_)
  |(refine zx mq rfl fU (by simp;omega) (by simp[x9]) ?_;rw[DO])
  |refine az rfl (Lu (l.take k) (by simp;omega) t) (λ_=>rfl) ?_
  |refine az rfl (DL [⟨t.kind,1,5⟩,⟨t.a,0,nt - 1⟩,⟨t.b,0,nt - 1⟩] (by simp)) (λ_=>rfl) ?_
 all_goals (unfold uD;simp only[*,↓reduceIte,aM])
theorem DT {G:Gl} (hG:G 0=some [.lit (.int .i64 23),.lit (.int .i64 24),.lit (.int .i64 25)]) (l:List Qu) (k:Nat) (hk:k<l.length) (hl:l.length<=9223372036854775807) :
 FnOK Tryz.prog G 88 [.c (.sl (l.map quC)),i64 k] (i64 (vU l k l[k])):=by
 refine bI (rs:=[.tmp 4]) false [] mixed Tryz.func88 rfl rfl rfl rfl (by kernel_rfl) (by simp) rfl rfl ?_;simp only[pkA,seval];refine dQ CQ rfl ll (by decide) (ay k) (c:=quC l[k]) (by simp[hk]) rfl ?_;generalize ht:l[k]=t at *;have gk:∀ K,jl Tryz.prog 65 (.c (.rp [.lit (.int .i64 23),.lit (.int .i64 24),.lit (.int .i64 25)] 0)) none none none K=K (.c (.sl (([23,24,25]:List Int).map inC))):=λK=>by simp only[jl,Ag,mo];simp[nL,inC,cI]
 have tj:∀ fr bx nb,ev G ⟨fr,bx,nb⟩ (.global 0)=.c (.rp [.lit (.int .i64 23),.lit (.int .i64 24),.lit (.int .i64 25)] 0):=λfr bx nb=>by simp[ev,gat,hG]
 repeat' first
  |(simp only[ln,seval,au,uw,au,gk,tj,kZ])
  |refine eT (λh=>?_) (λh=>?_)
  |refine aD (λh=>?_) (λh=>?_)
  |(refine zx CQ rfl ll (by simp;omega) (by simp[Bd]) ?_;rw[DO])
  |refine az rfl (Lx [23,24,25] (by simp) t.cmd) (λ_=>rfl) ?_
  |refine az rfl (AP (l.take k) (by simp;omega) _ _ (λo=>decide (o.cmd=t.cmd)) (λe _=>adz t e)) (λ_=>rfl) ?_
  |refine az rfl (DL [⟨t.cmd,1,27⟩,⟨t.count,1,16⟩,⟨t.delay,0,1099511627776⟩,⟨t.valid,t.delay,1099511627776⟩,⟨t.uses,1,1048576⟩] (by simp)) (λ_=>rfl) ?_
 all_goals (unfold vU;simp only[*,↓reduceIte,aM])
theorem uE {α:Type} {p:α->Bool} {l:List α} {i k:Nat} (hi:i<l.length) (hk:i<k) (h:p l[i]=true):(l.take k).any p=true:=
 eJ.2 ⟨l[i],fk.2 ⟨i,by omega,rfl⟩,h⟩
theorem rk {α:Type} {p:α->Bool} {l:List α} {k:Nat} (h:∀ j (hj:j<l.length),j<k->p l[j]=false):(l.take k).any p=false:=
 List.any_eq_false.2 λx hx=>by obtain⟨j,hj,rfl⟩:=fk.1 hx;simp[h j (by omega) (by omega)]
theorem Qh (n:Int):([23,24,25].any λe:Int=>decide (n=e))=(decide (23<=n)&&decide (n<=25)):=by rw[jO];simp;omega
theorem Uf {G:Gl} (l:List Ty) (k:Nat) (hk:k<l.length) (hl:l.length<=9223372036854775807) (hn:∀ t∈l,t.name.size<=9223372036854775807) :
 FnOK Tryz.prog G 65 [.c (.sl (l.map tyC)),i64 k] (i64 (uC l k l[k])):=by
 refine bI (rs:=[.tmp 4]) false [] mixed Tryz.func65 rfl rfl rfl rfl (by kernel_rfl) (by simp) rfl rfl ?_;have hnk:=hn l[k] (bR hk);obtain⟨t,ht⟩:∃ t,l[k]=t:=⟨_,rfl⟩;rw[ht] at hnk ⊢
 simp only[pkA,seval];refine aD (λh0=>?_) (λh0=>?_)
 .simp only[pkA,seval]
  unfold uC;simp only[h0,↓reduceIte]
 simp only[pkA,seval];refine dQ rJ rfl lE (by decide) (ay k) (c:=tyC t) (by simp[hk,ht]) rfl ?_;simp only[ln,seval];refine az rfl (DN _ hnk) (λ_=>rfl) ?_;simp only[pkA,seval];refine aD (λh1=>?_) (λh1=>?_)
 .simp only[pkA,seval]
  unfold uC;simp only[h0,h1,↓reduceIte,aM]
 simp only[pkA,seval];refine bw (λi:Nat=>hdS [(0,.c (.sl (l.map tyC))),(1,i64 k),(6,i64 i)] []) (λi=>k - i) (λi=>i<=k/\∀ j (h:j<l.length),j<i->decide (l[j].name=t.name)=false) 0 ⟨ar _,by simp⟩ ?_ ?_
 .refine cm rfl (ar _) (by simp) ?_ trivial
  simp[FL,ah]
 rintro i ⟨hi,gy⟩ R bL bO c8;simp only[pkA,seval];refine aD (λbE=>?_) (λfH=>?_)
 .have bE:i<k:=by simpa using bE
  have Qz:i<l.length:=by omega
  have hw:=bn (n:=(i:Int)+1) (k:=i+1) (by omega) (by omega);simp only[pkA,seval];refine dQ rJ rfl lE (by decide) (ay i) (c:=tyC l[i]) (by simp[Qz]) rfl ?_;simp only[ln,seval];refine dQ rJ rfl lE (by decide) (ay k) (c:=tyC t) (by simp[hk,ht]) rfl ?_;simp only[ln,seval];refine aD (λhy=>?_) (λhn=>?_)
  .simp only[pkA,seval]
   refine c8 _ ?_;simp only[pkA,seval];have:=uE (p:=λo:Ty=>decide (o.name=t.name)) Qz bE hy;unfold uC;simp only[h0,h1,this,↓reduceIte,aM]
  .simp only[pkA,seval,hw]
   refine bL (i+1) _ ⟨bE,λj h hj=>?_⟩ (by omega) (cm rfl (ar _) (by simp) (by simp[FL,ah]) trivial);rcases bX j i with q | q
   .exact gy j h q
   .have:j=i:=by omega
    subst this;exact hn
 .have:i=k:=by simp at fH;omega
  subst this;have h2:=rk (p:=λo:Ty=>decide (o.name=t.name)) (k:=i) gy;simp only[pkA];refine bO _ _ ?_;clear bO c8 bL gy
  repeat' first
   |(simp only[ln,seval])
   |refine eT (λh=>?_) (λh=>?_)
   |refine aD (λh=>?_) (λh=>?_)
   |refine dQ rJ rfl lE (by decide) (ay i) (c:=tyC t) (by simp[hk,ht]) rfl ?_
   |refine az rfl (zw _ _ _) (λ_=>rfl) ?_
  all_goals (unfold uC;simp only[*,List.any_cons,List.any_nil,uB,OE,lg,Bool.true_or,jX,↓reduceIte,aM,lT])
theorem Ug {G:Gl} (l:List Ru) (k:Nat) (nt:Int) (hk:k<l.length) (hl:l.length<=9223372036854775807) (hnt:0<=nt/\nt<=9223372036854775807) :
 FnOK Tryz.prog G 66 [.c (.sl (l.map ruC)),i64 k,i64 nt] (i64 (uD l k nt l[k])):=by
 refine bI (rs:=[.tmp 6]) false [] mixed Tryz.func66 rfl rfl rfl rfl (by kernel_rfl) (by simp) rfl rfl ?_;have xi:=wrap_i64 (nt - 1) (by omega);obtain⟨t,ht⟩:∃ t,l[k]=t:=⟨_,rfl⟩;rw[ht];simp only[pkA,seval];refine aD (λh0=>?_) (λh0=>?_)
 .simp only[pkA,seval]
  unfold uD;simp only[h0,↓reduceIte]
 have loopk:([⟨t.kind,1,5⟩,⟨t.a,0,nt - 1⟩,⟨t.b,0,nt - 1⟩].any AS)=false->∀ (Q:VE->S->Prop) (body:Code),True:=λ_ _ _=>trivial;clear loopk
 repeat' first
  |(simp only[ln,seval,xi])
  |refine eT (λh=>?_) (λh=>?_)
  |refine aD (λh=>?_) (λh=>?_)
  |refine dQ mq rfl fU (by decide) (ay k) (c:=ruC t) (by simp[hk,ht]) rfl ?_
  |refine az rfl (zw _ _ _) (λ_=>rfl) ?_
 all_goals first
  |(unfold uD;simp only[*,List.any_cons,List.any_nil,uB,OE,lg,Bool.true_or,jX,↓reduceIte,aM,lT];done)
  |have h2:([⟨t.kind,1,5⟩,⟨t.a,0,nt - 1⟩,⟨t.b,0,nt - 1⟩].any AS)=false:=by simp only[*,List.any_cons,List.any_nil,uB,OE,lg]
   refine bw (λi:Nat=>hdS [(0,.c (.sl (l.map ruC))),(1,i64 k),(7,i64 i)] []) (λi=>k - i) (λi=>i<=k/\∀ j (h:j<l.length),j<i->decide (t=l[j])=false) 0 ⟨ar _,by simp⟩ ?_ ?_
   .refine cm rfl (ar _) (by simp) ?_ trivial
    simp[FL,ah]
   rintro i ⟨hi,gy⟩ R bL bO c8;simp only[pkA,seval];refine aD (λbE=>?_) (λfH=>?_)
   .have bE:i<k:=by simpa using bE
    have Qz:i<l.length:=(by omega);have hw:=bn (n:=(i:Int)+1) (k:=i+1) (by omega) (by omega);simp only[pkA,seval];refine dQ mq rfl fU (by decide) (ay i) (c:=ruC l[i]) (by simp[Qz]) rfl ?_;simp only[ln,seval];refine dQ mq rfl fU (by decide) (ay k) (c:=ruC t) (by simp[hk,ht]) rfl ?_;simp only[ln,seval];refine aD (λhy=>?_) (λhn=>?_)
    .simp only[pkA,seval]
     refine c8 _ ?_;simp only[pkA,seval];have hy:decide (t=l[i])=true:=(by simp at hy ⊢;exact hy.symm);have:=uE (p:=λo:Ru=>decide (t=o)) Qz bE hy;unfold uD;simp only[h0,h2,this,↓reduceIte,aM]
    .simp only[pkA,seval,hw]
     refine bL (i+1) _ ⟨bE,λj h hj=>?_⟩ (by omega) (cm rfl (ar _) (by simp) (by simp[FL,ah]) trivial);rcases bX j i with q | q
     .exact gy j h q
     .have:j=i:=by omega
      subst this;simp at hn ⊢;exact λe=>hn e.symm
   .have:i=k:=by simp at fH;omega
    subst this;have h3:=rk (p:=λo:Ru=>decide (t=o)) (k:=i) gy;simp only[pkA];refine bO _ _ ?_;simp only[pkA,seval];unfold uD;simp only[h0,h2,h3,↓reduceIte,aM]
theorem Ly {G:Gl} (l:List Qu) (k:Nat) (hk:k<l.length) (hl:l.length<=9223372036854775807) :
 FnOK Tryz.prog G 67 [.c (.sl (l.map quC)),i64 k] (i64 (vU l k l[k])):=by
 refine bI (rs:=[.tmp 4]) false [] mixed Tryz.func67 rfl rfl rfl rfl (by kernel_rfl) (by simp) rfl rfl ?_;obtain⟨t,ht⟩:∃ t,l[k]=t:=⟨_,rfl⟩;rw[ht];simp only[pkA,seval];refine dQ CQ rfl ll (by decide) (ay k) (c:=quC t) (by simp[hk,ht]) rfl ?_;have qm:∀ x:List V,x.length=5->eP x 0 ((quC t).map .c)=(quC t).map .c:=λx hx=>uw (by simp[Bd,hx])
 repeat' first
  |(simp only[ln,seval,qm])
  |refine eT (λh=>?_) (λh=>?_)
  |refine aD (λh=>?_) (λh=>?_)
  |refine az rfl (zw _ _ _) (λ_=>rfl) ?_
 all_goals first
  |(unfold vU;rw[Qh];simp only[*,List.any_cons,List.any_nil,uB,OE,lg,Bool.true_or,jX,↓reduceIte,aM,lT];done)
  |have h2:([⟨t.cmd,1,27⟩,⟨t.count,1,16⟩,⟨t.delay,0,1099511627776⟩,⟨t.valid,t.delay,1099511627776⟩,⟨t.uses,1,1048576⟩].any AS)=false:=by simp only[*,List.any_cons,List.any_nil,uB,OE,lg]
   have h4:([23,24,25].any λe:Int=>decide (t.cmd=e))=false:=(by rw[Qh];assumption);refine bw (λi:Nat=>hdS [(0,.c (.sl (l.map quC))),(1,i64 k),(5,.bp 0 0),(6,i64 i)] [(quC t).map .c]) (λi=>k - i) (λi=>i<=k/\∀ j (h:j<l.length),j<i->decide (l[j].cmd=t.cmd)=false) 0 ⟨ar _,by simp⟩ ?_ ?_
   .refine cm (by simp only[iV,bh,bB,gP,aC,aG];rfl) (ar _) (by simp) ?_ ?_
    .simp[FL,ah]
    .simp[BL]
   rintro i ⟨hi,gy⟩ R bL bO c8;simp only[pkA,seval];refine aD (λbE=>?_) (λfH=>?_)
   .have bE:i<k:=by simpa using bE
    have Qz:i<l.length:=(by omega);have hw:=bn (n:=(i:Int)+1) (k:=i+1) (by omega) (by omega);simp only[pkA,seval];refine dQ CQ rfl ll (by decide) (ay i) (c:=quC l[i]) (by simp[Qz]) rfl ?_;simp only[ln,seval];refine aD (λhy=>?_) (λhn=>?_)
    .simp only[pkA,seval]
     refine c8 _ ?_;simp only[pkA,seval];have:=uE (p:=λo:Qu=>decide (o.cmd=t.cmd)) Qz bE hy;unfold vU;simp only[h2,h4,this,↓reduceIte,aM]
    .simp only[pkA,seval,hw]
     refine bL (i+1) _ ⟨bE,λj h hj=>?_⟩ (by omega) (cm (by simp only[iV,bh,bB,gP,aC,aG];rfl) (ar _) (by simp) (by simp[FL,ah]) (by simp[BL,bxs]));rcases bX j i with q | q
     .exact gy j h q
     .have:j=i:=by omega
      subst this;exact hn
   .have:i=k:=by simp at fH;omega
    subst this;have h3:=rk (p:=λo:Qu=>decide (o.cmd=t.cmd)) (k:=i) gy;simp only[pkA];refine bO _ _ ?_;simp only[pkA,seval];unfold vU;simp only[h2,h3,h4,↓reduceIte,aM]
def tyE (l:List Ty) (k:Nat):Int:=match l[k]? with
 |some t=>uC l k t
 |none=>0
def ruE (l:List Ru) (k:Nat) (nt:Int):Int:=match l[k]? with
 |some t=>uD l k nt t
 |none=>0
def quE (l:List Qu) (k:Nat):Int:=match l[k]? with
 |some t=>vU l k t
 |none=>0
theorem Zj {l:List Ty} {k:Nat} (h:k<l.length):tyE l k=uC l k l[k]:=by simp[tyE,h]
theorem Zk {l:List Ru} {k:Nat} {nt:Int} (h:k<l.length):ruE l k nt=uD l k nt l[k]:=by simp[ruE,h]
theorem Zl {l:List Qu} {k:Nat} (h:k<l.length):quE l k=vU l k l[k]:=by simp[quE,h]
def mb (p:Pol):Nat:=p.types.length+p.rules.length+p.quorums.length
def itE (p:Pol) (k:Nat):Int:=if k<p.types.length then tyE p.types k else if k<p.types.length+p.rules.length then ruE p.rules (k - p.types.length) p.types.length else quE p.quorums (k - p.types.length - p.rules.length)
def chk (p:Pol):Int×Int:=if nz p.name=true then(match(List.range (mb p)).find? (λk=>!decide (itE p k=0)) with
 |some k=>((k:Int),itE p k)
 |none=>(0,0)) else(-1,4)
theorem Ik {p:Pol} {k:Nat} (hn:nz p.name=true) (hk:k<mb p) (h:itE p k≠0) (gy:∀ j,j<k->itE p j=0):chk p=((k:Int),itE p k):=by
 have:(List.range (mb p)).find? (λk=>!decide (itE p k=0))=some k:=by rw[List.find?_range_eq_some];exact⟨by simpa using h,by simpa using hk,λj hj=>by simp[gy j hj]⟩
 simp[chk,hn,this]
theorem LA {p:Pol} (hn:nz p.name=true) (gy:∀ j,j<mb p->itE p j=0):chk p=(0,0):=by
 have:(List.range (mb p)).find? (λk=>!decide (itE p k=0))=none:=by rw[List.find?_eq_none];intro j hj;simp[gy j (by simpa using hj)]
 simp[chk,hn,this]
theorem LC {p:Pol} (hn:nz p.name=false):chk p=(-1,4):=by simp[chk,hn]
theorem PolIn.nm {p:Pol} (h:PolIn p):p.name.size<=9223372036854775807:=by have:=h.name;unfold maxLen at this;omega
theorem PolIn.tn {p:Pol} (h:PolIn p):∀ t∈p.types,t.name.size<=9223372036854775807:=λt ht=>by have:=(h.types t ht).1;unfold maxLen at this;omega
theorem Zm {G:Gl} (hG:G 0=some [.lit (.int .i64 23),.lit (.int .i64 24),.lit (.int .i64 25)]) (p:Pol) (hp:PolIn p) (hsm:mb p<=4611686018427387904) :
 FnOK Tryz.prog G 61 [.agg (poC p)] (.tup [i64 (chk p).1,i64 (chk p).2]):=by
 refine bI (rs:=[.tmp 2,.tmp 3]) false [] mixed Tryz.func61 rfl rfl rfl rfl (by kernel_rfl) (by simp) rfl rfl ?_;obtain⟨o1,o2,o3⟩:=hp.ok;have hit:mb p=p.types.length+p.rules.length+p.quorums.length:=rfl;simp only[ln,seval];refine az rfl (Qg _ hp.nm) (λ_=>rfl) ?_;simp only[pkA,seval];refine aD (λhn=>?_) (λhn=>?_)
 .have hn:nz p.name=false:=by simpa using hn
  simp only[pkA,seval];rw[LC hn];refine fi ?_ ?_<;>simp only[pkA,seval]
 have hn:nz p.name=true:=by simpa using hn
 have w1:=bn (n:=(p.types.length:Int)+p.rules.length) (k:=p.types.length+p.rules.length) (by omega) (by omega);have w2:=bn (n:=((p.types.length+p.rules.length:Nat):Int)+p.quorums.length) (k:=mb p) (by unfold mb;omega) (by unfold mb;omega);simp only[ln,seval,au,w1,w2];refine bw (λi:Nat=>hdS [(1,.bp 0 0),(4,i64 p.types.length),(5,i64 p.rules.length),(24,i64 (mb p)),(25,i64 i)] [(poC p).map .c]) (λi=>mb p - i) (λi=>i<=mb p/\∀ j,j<i->itE p j=0) 0 ⟨ar _,by simp⟩ ?_ ?_
 .refine cm (by simp only[iV,bh,bB,gP,aC,aG];rfl) (ar _) (by simp) ?_ ?_
  .simp[FL,ah]
  .simp[BL]
 rintro i ⟨hi,gy⟩ R bL bO c8;simp only[pkA,seval];refine aD (λbE=>?_) (λfH=>?_)
 .have bE:i<mb p:=by simpa using bE
  have hw:=bn (n:=(i:Int)+1) (k:=i+1) (by omega) (by omega);have bad:itE p i≠0->chk p=((i:Int),itE p i):=λh=>Ik hn bE h gy;have good:itE p i=0->∀ j,j<i+1->itE p j=0:=λh j hj=>by
   rcases bX j i with q | q
   .exact gy j q
   .have:j=i:=by omega
    subst this;exact h
  simp only[pkA,seval];refine aD (λht=>?_) (λht=>?_)
  .have ht:i<p.types.length:=by simpa using ht
   have e:itE p i=uC p.types i p.types[i]:=(by unfold itE;rw[if_pos ht,Zj ht]);rw[e] at bad good;simp only[ln,seval];refine az rfl (Ii p.types i ht o1 hp.tn) (λ_=>rfl) ?_;simp only[pkA,seval];refine aD (λhb=>?_) (λhg=>?_)
   .simp only[pkA,seval]
    refine c8 _ ?_;simp only[pkA];rw[bad (by simpa using hb)];refine fi ?_ ?_<;>simp only[pkA,seval]
   .simp only[pkA,seval,hw]
    exact bL (i+1) _ ⟨bE,good (by simpa using hg)⟩ (by omega) (cm (by simp only[iV,bh,bB,gP,aC,aG];rfl) (ar _) (by simp) (by simp[FL,ah]) (by simp[BL,bxs]))
  have ht:p.types.length<=i:=by simpa using ht
  have v1:=bn (n:=(i:Int) - p.types.length) (k:=i - p.types.length) (by omega) (by omega);simp only[pkA,seval,w1];refine aD (λhr=>?_) (λhr=>?_)
  .have hr:i<p.types.length+p.rules.length:=by simp at hr;omega
   have Md:i - p.types.length<p.rules.length:=(by omega);have e:itE p i=uD p.rules (i - p.types.length) p.types.length p.rules[i - p.types.length]:=(by unfold itE;rw[if_neg (by omega),if_pos hr,Zk Md]);rw[e] at bad good;simp only[ln,seval,v1];refine az rfl (Ij p.rules (i - p.types.length) p.types.length Md o2 (by omega)) (λ_=>rfl) ?_;simp only[pkA,seval];refine aD (λhb=>?_) (λhg=>?_)
   .simp only[pkA,seval]
    refine c8 _ ?_;simp only[pkA];rw[bad (by simpa using hb)];refine fi ?_ ?_<;>simp only[pkA,seval]
   .simp only[pkA,seval,hw]
    exact bL (i+1) _ ⟨bE,good (by simpa using hg)⟩ (by omega) (cm (by simp only[iV,bh,bB,gP,aC,aG];rfl) (ar _) (by simp) (by simp[FL,ah]) (by simp[BL,bxs]))
  have hr:p.types.length+p.rules.length<=i:=by simp at hr;omega
  have Md:i - p.types.length - p.rules.length<p.quorums.length:=by unfold mb at bE;omega
  have v2:=bn (n:=((i - p.types.length:Nat):Int) - p.rules.length) (k:=i - p.types.length - p.rules.length) (by omega) (by omega);have e:itE p i=vU p.quorums (i - p.types.length - p.rules.length) p.quorums[i - p.types.length - p.rules.length]:=by unfold itE;rw[if_neg (by omega),if_neg (by omega),Zl Md]
  rw[e] at bad good;simp only[ln,seval,v1,v2];refine az rfl (DT hG p.quorums (i - p.types.length - p.rules.length) Md o3) (λ_=>rfl) ?_;simp only[pkA,seval];refine aD (λhb=>?_) (λhg=>?_)
  .simp only[pkA,seval]
   refine c8 _ ?_;simp only[pkA];rw[bad (by simpa using hb)];refine fi ?_ ?_<;>simp only[pkA,seval]
  .simp only[pkA,seval,hw]
   exact bL (i+1) _ ⟨bE,good (by simpa using hg)⟩ (by omega) (cm (by simp only[iV,bh,bB,gP,aC,aG];rfl) (ar _) (by simp) (by simp[FL,ah]) (by simp[BL,bxs]))
 .have:i=mb p:=by simp at fH;omega
  subst this;simp only[pkA];refine bO _ _ ?_;simp only[pkA,seval];rw[LA hn gy];refine fi ?_ ?_<;>simp only[pkA,seval]
def OF (p:Pol):Bool:=decide ((chk p).2=0)
theorem C3 {G:Gl} (hG:G 0=some [.lit (.int .i64 23),.lit (.int .i64 24),.lit (.int .i64 25)]) (p:Pol) (hp:PolIn p) (hsm:mb p<=4611686018427387904) :
 FnOK Tryz.prog G 42 [.agg (poC p)] (bo (OF p)):=by
 refine bI (rs:=[.tmp 2]) false [] mixed Tryz.func42 rfl rfl rfl rfl (by kernel_rfl) (by simp) rfl rfl ?_;simp only[ln,seval];refine az rfl (Zm hG p hp hsm) (λh=>by cases h) ?_;simp only[pkA,seval];rfl
