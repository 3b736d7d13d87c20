/- Check and Valid of layer 13, and of its reference: what they answer. -/
import Derived.Test.YtegbpjodbjhjeaaGreatDoorKpVlErr
import Derived.Test.YtegbpjodbjhjeaaGreatDoorVlFlb
set_option maxHeartbeats 4000000
set_option linter.all false
namespace Go.Proofs.YtegbpjodbjhjeaaGreatDoor.Kp
open Go Go.Vl
set_option maxRecDepth 10000
theorem t8 {α:Type} {p:α->Bool} {l:List α} {i k:Nat} (hi:i<l.length) (hk:i<k) (h:p l[i]=true):(l.take k).any p=true:=
 dN.2 ⟨l[i],fH.2 ⟨i,by omega,rfl⟩,h⟩
theorem qI {α:Type} {p:α->Bool} {l:List α} {k:Nat} (h:∀ j (hj:j<l.length),j<k->p l[j]=false):(l.take k).any p=false:=
 List.any_eq_false.2 λx hx=>by obtain⟨j,hj,rfl⟩:=fH.1 hx;simp[h j (by omega) (by omega)]
theorem No (n:Int):([23,24,25].any λe:Int=>decide (n=e))=(decide (23<=n)&&decide (n<=25)):=by rw[jv];simp;omega
def fX:=jj @pkA (jj @ptA @pkP)
theorem uL {G:Gl} (l:List Ty) (k:Nat) (hk:k<l.length) (hl:l.length<=9223372036854775807) (hn:∀ t∈l,t.name.size<=9223372036854775807) :
 FnOK Tryz.prog G 106 [.c (.sl (l.map tyC)),i64 k] (i64 (t6 l k l[k])):=by
 refine bD (rs:=[.tmp 4]) false [] mixed Tryz.func106 rfl rfl rfl rfl (by kernel_rfl) (by simp) rfl rfl ?_;have hnk:=hn l[k] (aH hk);obtain⟨t,ht⟩:∃ t,l[k]=t:=⟨_,rfl⟩;rw[ht] at hnk ⊢
 simp only[pkA,seval];refine aJ (λh0=>?_) (λh0=>?_)
 .simp only[pkA,seval]
  unfold t6;simp only[h0,↓reduceIte]
 simp only[pkA,seval];refine cR sD rfl mz (by decide) (aC k) (c:=tyC t) (by simp[hk,ht]) rfl ?_;simp only[fX,seval];refine ax rfl (BY _ hnk) (λ_=>rfl) ?_;simp only[pkA,seval];refine aJ (λh1=>?_) (λh1=>?_)
 .simp only[pkA,seval]
  unfold t6;simp only[h0,h1,↓reduceIte,ay]
 simp only[pkA,seval];refine cm (λi:Nat=>hdS [(0,.c (.sl (l.map tyC))),(1,i64 k),(6,i64 i)] []) (λi=>k - i) (λi=>i<=k/\∀ j (h:j<l.length),j<i->decide (l[j].name=t.name)=false) 0 ⟨ar _,by simp⟩ ?_ ?_
 .refine bT rfl (ar _) (by simp) ?_ trivial
  simp[FL,aw]
 rintro i ⟨hi,eX⟩ R bN b8 db;simp only[pkA,seval];refine aJ (λbF=>?_) (λfu=>?_)
 .have bF:i<k:=by simpa using bF
  have N1:i<l.length:=by omega
  have hw:=dM (n:=(i:Int)+1) (k:=i+1) (by omega) (by omega);simp only[pkA,seval];refine cR sD rfl mz (by decide) (aC i) (c:=tyC l[i]) (by simp[N1]) rfl ?_;simp only[fX,seval];refine cR sD rfl mz (by decide) (aC k) (c:=tyC t) (by simp[hk,ht]) rfl ?_;simp only[fX,seval];refine aJ (λhy=>?_) (λhn=>?_)
  .simp only[pkA,seval]
   refine db _ ?_;simp only[pkA,seval];have:=t8 (p:=λo:Ty=>decide (o.name=t.name)) N1 bF hy;unfold t6;simp only[h0,h1,this,↓reduceIte,ay]
  .simp only[pkA,seval,hw]
   refine bN (i+1) _ ⟨bF,λj h hj=>?_⟩ (by omega) (bT rfl (ar _) (by simp) (by simp[FL,aw]) trivial);rcases cd j i with q | q
   .exact eX j h q
   .have:j=i:=by omega
    subst this;exact hn
 .have:i=k:=by simp at fu;omega
  subst this;have h2:=qI (p:=λo:Ty=>decide (o.name=t.name)) (k:=i) eX;simp only[pkA];refine b8 _ _ ?_;clear b8 db bN eX
  repeat' first
   |(simp only[fX,seval])
   |refine fQ (λh=>?_) (λh=>?_)
   |refine aJ (λh=>?_) (λh=>?_)
   |refine cR sD rfl mz (by decide) (aC i) (c:=tyC t) (by simp[hk,ht]) rfl ?_
   |refine ax rfl (yL _ _ _) (λ_=>rfl) ?_
  all_goals (unfold t6;simp only[*,List.any_cons,List.any_nil,tZ,Lz,g9,Bool.true_or,ky,↓reduceIte,ay,cO])
theorem Qe {G:Gl} (l:List Ru) (k:Nat) (nt:Int) (hk:k<l.length) (hl:l.length<=9223372036854775807) (hnt:0<=nt/\nt<=9223372036854775807) :
 FnOK Tryz.prog G 107 [.c (.sl (l.map ruC)),i64 k,i64 nt] (i64 (t7 l k nt l[k])):=by
 refine bD (rs:=[.tmp 6]) false [] mixed Tryz.func107 rfl rfl rfl rfl (by kernel_rfl) (by simp) rfl rfl ?_;have hw1:=wrap_i64 (nt - 1) (by omega);obtain⟨t,ht⟩:∃ t,l[k]=t:=⟨_,rfl⟩;rw[ht];simp only[pkA,seval];refine aJ (λh0=>?_) (λh0=>?_)
 .simp only[pkA,seval]
  unfold t7;simp only[h0,↓reduceIte]
 have loopk:([⟨t.kind,1,5⟩,⟨t.a,0,nt - 1⟩,⟨t.b,0,nt - 1⟩].any Af)=false->∀ (Q:VE->S->Prop) (body:Code),True:=λ_ _ _=>trivial;clear loopk
 repeat' first
  |(simp only[fX,seval,hw1])
  |refine fQ (λh=>?_) (λh=>?_)
  |refine aJ (λh=>?_) (λh=>?_)
  |refine cR vg rfl mA (by decide) (aC k) (c:=ruC t) (by simp[hk,ht]) rfl ?_
  |refine ax rfl (yL _ _ _) (λ_=>rfl) ?_
 all_goals first
  |(unfold t7;simp only[*,List.any_cons,List.any_nil,tZ,Lz,g9,Bool.true_or,ky,↓reduceIte,ay,cO];done)
  |have h2:([⟨t.kind,1,5⟩,⟨t.a,0,nt - 1⟩,⟨t.b,0,nt - 1⟩].any Af)=false:=by simp only[*,List.any_cons,List.any_nil,tZ,Lz,g9]
   refine cm (λi:Nat=>hdS [(0,.c (.sl (l.map ruC))),(1,i64 k),(7,i64 i)] []) (λi=>k - i) (λi=>i<=k/\∀ j (h:j<l.length),j<i->decide (t=l[j])=false) 0 ⟨ar _,by simp⟩ ?_ ?_
   .refine bT rfl (ar _) (by simp) ?_ trivial
    simp[FL,aw]
   rintro i ⟨hi,eX⟩ R bN b8 db;simp only[pkA,seval];refine aJ (λbF=>?_) (λfu=>?_)
   .have bF:i<k:=by simpa using bF
    have N1:i<l.length:=(by omega);have hw:=dM (n:=(i:Int)+1) (k:=i+1) (by omega) (by omega);simp only[pkA,seval];refine cR vg rfl mA (by decide) (aC i) (c:=ruC l[i]) (by simp[N1]) rfl ?_;simp only[fX,seval];refine cR vg rfl mA (by decide) (aC k) (c:=ruC t) (by simp[hk,ht]) rfl ?_;simp only[fX,seval];refine aJ (λhy=>?_) (λhn=>?_)
    .simp only[pkA,seval]
     refine db _ ?_;simp only[pkA,seval];have hy:decide (t=l[i])=true:=(by simp at hy ⊢;exact hy.symm);have:=t8 (p:=λo:Ru=>decide (t=o)) N1 bF hy;unfold t7;simp only[h0,h2,this,↓reduceIte,ay]
    .simp only[pkA,seval,hw]
     refine bN (i+1) _ ⟨bF,λj h hj=>?_⟩ (by omega) (bT rfl (ar _) (by simp) (by simp[FL,aw]) trivial);rcases cd j i with q | q
     .exact eX j h q
     .have:j=i:=by omega
      subst this;simp at hn ⊢;exact λe=>hn e.symm
   .have:i=k:=by simp at fu;omega
    subst this;have h3:=qI (p:=λo:Ru=>decide (t=o)) (k:=i) eX;simp only[pkA];refine b8 _ _ ?_;simp only[pkA,seval];unfold t7;simp only[h0,h2,h3,↓reduceIte,ay]
theorem IW {G:Gl} (l:List Qu) (k:Nat) (hk:k<l.length) (hl:l.length<=9223372036854775807) :
 FnOK Tryz.prog G 108 [.c (.sl (l.map quC)),i64 k] (i64 (vl l k l[k])):=by
 refine bD (rs:=[.tmp 4]) false [] mixed Tryz.func108 rfl rfl rfl rfl (by kernel_rfl) (by simp) rfl rfl ?_;obtain⟨t,ht⟩:∃ t,l[k]=t:=⟨_,rfl⟩;rw[ht];simp only[pkA,seval];refine cR BC rfl mZ (by decide) (aC k) (c:=quC t) (by simp[hk,ht]) rfl ?_;have nI:∀ x:List V,x.length=5->fW x 0 ((quC t).map .c)=(quC t).map .c:=λx hx=>xp (by simp[Gd,hx])
 repeat' first
  |(simp only[fX,seval,nI])
  |refine fQ (λh=>?_) (λh=>?_)
  |refine aJ (λh=>?_) (λh=>?_)
  |refine ax rfl (yL _ _ _) (λ_=>rfl) ?_
 all_goals first
  |(unfold vl;rw[No];simp only[*,List.any_cons,List.any_nil,tZ,Lz,g9,Bool.true_or,ky,↓reduceIte,ay,cO];done)
  |have h2:([⟨t.cmd,1,27⟩,⟨t.count,1,16⟩,⟨t.delay,0,1099511627776⟩,⟨t.valid,t.delay,1099511627776⟩,⟨t.uses,1,1048576⟩].any Af)=false:=by simp only[*,List.any_cons,List.any_nil,tZ,Lz,g9]
   have h4:([23,24,25].any λe:Int=>decide (t.cmd=e))=false:=(by rw[No];assumption);refine cm (λi:Nat=>hdS [(0,.c (.sl (l.map quC))),(1,i64 k),(5,.bp 0 0),(6,i64 i)] [(quC t).map .c]) (λi=>k - i) (λi=>i<=k/\∀ j (h:j<l.length),j<i->decide (l[j].cmd=t.cmd)=false) 0 ⟨ar _,by simp⟩ ?_ ?_
   .refine bT (by simp only[eu,aK,aQ,fa,aI,aL];rfl) (ar _) (by simp) ?_ ?_
    .simp[FL,aw]
    .simp[BL]
   rintro i ⟨hi,eX⟩ R bN b8 db;simp only[pkA,seval];refine aJ (λbF=>?_) (λfu=>?_)
   .have bF:i<k:=by simpa using bF
    have N1:i<l.length:=(by omega);have hw:=dM (n:=(i:Int)+1) (k:=i+1) (by omega) (by omega);simp only[pkA,seval];refine cR BC rfl mZ (by decide) (aC i) (c:=quC l[i]) (by simp[N1]) rfl ?_;simp only[fX,seval];refine aJ (λhy=>?_) (λhn=>?_)
    .simp only[pkA,seval]
     refine db _ ?_;simp only[pkA,seval];have:=t8 (p:=λo:Qu=>decide (o.cmd=t.cmd)) N1 bF hy;unfold vl;simp only[h2,h4,this,↓reduceIte,ay]
    .simp only[pkA,seval,hw]
     refine bN (i+1) _ ⟨bF,λj h hj=>?_⟩ (by omega) (bT (by simp only[eu,aK,aQ,fa,aI,aL];rfl) (ar _) (by simp) (by simp[FL,aw]) (by simp[BL,bxs]));rcases cd j i with q | q
     .exact eX j h q
     .have:j=i:=by omega
      subst this;exact hn
   .have:i=k:=by simp at fu;omega
    subst this;have h3:=qI (p:=λo:Qu=>decide (o.cmd=t.cmd)) (k:=i) eX;simp only[pkA];refine b8 _ _ ?_;simp only[pkA,seval];unfold vl;simp only[h2,h3,h4,↓reduceIte,ay]
def tyE (l:List Ty) (k:Nat):Int:=match l[k]? with
 |some t=>t6 l k t
 |none=>0
def ruE (l:List Ru) (k:Nat) (nt:Int):Int:=match l[k]? with
 |some t=>t7 l k nt t
 |none=>0
def quE (l:List Qu) (k:Nat):Int:=match l[k]? with
 |some t=>vl l k t
 |none=>0
theorem Vi {l:List Ty} {k:Nat} (h:k<l.length):tyE l k=t6 l k l[k]:=by simp[tyE,h]
theorem Vj {l:List Ru} {k:Nat} {nt:Int} (h:k<l.length):ruE l k nt=t7 l k nt l[k]:=by simp[ruE,h]
theorem Vk {l:List Qu} {k:Nat} (h:k<l.length):quE l k=vl l k l[k]:=by simp[quE,h]
def lh (p:Pol):Nat:=p.types.length+p.rules.length+p.quorums.length
def itE (p:Pol) (k:Nat):Int:=if k<p.types.length then tyE p.types k else if k<p.types.length+p.rules.length then ruE p.rules (k - p.types.length) p.types.length else quE p.quorums (k - p.types.length - p.rules.length)
def chk (p:Pol):Int×Int:=if m4 p.name=true then(match(List.range (lh p)).find? (λk=>!decide (itE p k=0)) with
 |some k=>((k:Int),itE p k)
 |none=>(0,0)) else(-1,4)
theorem Gk {p:Pol} {k:Nat} (hn:m4 p.name=true) (hk:k<lh p) (h:itE p k≠0) (eX:∀ j,j<k->itE p j=0):chk p=((k:Int),itE p k):=by
 have:(List.range (lh p)).find? (λk=>!decide (itE p k=0))=some k:=by rw[List.find?_range_eq_some];exact⟨by simpa using h,by simpa using hk,λj hj=>by simp[eX j hj]⟩
 simp[chk,hn,this]
theorem IX {p:Pol} (hn:m4 p.name=true) (eX:∀ j,j<lh p->itE p j=0):chk p=(0,0):=by
 have:(List.range (lh p)).find? (λk=>!decide (itE p k=0))=none:=by rw[List.find?_eq_none];intro j hj;simp[eX j (by simpa using hj)]
 simp[chk,hn,this]
theorem IY {p:Pol} (hn:m4 p.name=false):chk p=(-1,4):=by simp[chk,hn]
theorem PolIn.nm {p:Pol} (h:PolIn p):p.name.size<=9223372036854775807:=by have:=h.name;unfold maxLen at this;omega
theorem PolIn.tn {p:Pol} (h:PolIn p):∀ t∈p.types,t.name.size<=9223372036854775807:=λt ht=>by have:=(h.types t ht).1;unfold maxLen at this;omega
theorem Vm {G:Gl} (hG:G 0=some [.lit (.int .i64 23),.lit (.int .i64 24),.lit (.int .i64 25)]) (p:Pol) (hp:PolIn p) (NV:lh p<=4611686018427387904) :
 FnOK Tryz.prog G 120 [.agg (poC p)] (.tup [i64 (chk p).1,i64 (chk p).2]):=by
 refine bD (rs:=[.tmp 2,.tmp 3]) false [] mixed Tryz.func120 rfl rfl rfl rfl (by kernel_rfl) (by simp) rfl rfl ?_;obtain⟨o1,o2,o3⟩:=hp.ok;have hit:lh p=p.types.length+p.rules.length+p.quorums.length:=rfl;simp only[fX,seval];refine ax rfl (Nm _ hp.nm) (λ_=>rfl) ?_;simp only[pkA,seval];refine aJ (λhn=>?_) (λhn=>?_)
 .have hn:m4 p.name=false:=by simpa using hn
  simp only[pkA,seval];rw[IY hn];refine lX ?_ ?_<;>simp only[pkA,seval]
 have hn:m4 p.name=true:=by simpa using hn
 have w1:=dM (n:=(p.types.length:Int)+p.rules.length) (k:=p.types.length+p.rules.length) (by omega) (by omega);have w2:=dM (n:=((p.types.length+p.rules.length:Nat):Int)+p.quorums.length) (k:=lh p) (by unfold lh;omega) (by unfold lh;omega);simp only[fX,seval,aj,w1,w2];refine cm (λi:Nat=>hdS [(1,.bp 0 0),(4,i64 p.types.length),(5,i64 p.rules.length),(24,i64 (lh p)),(25,i64 i)] [(poC p).map .c]) (λi=>lh p - i) (λi=>i<=lh p/\∀ j,j<i->itE p j=0) 0 ⟨ar _,by simp⟩ ?_ ?_
 .refine bT (by simp only[eu,aK,aQ,fa,aI,aL];rfl) (ar _) (by simp) ?_ ?_
  .simp[FL,aw]
  .simp[BL]
 rintro i ⟨hi,eX⟩ R bN b8 db;simp only[pkA,seval];refine aJ (λbF=>?_) (λfu=>?_)
 .have bF:i<lh p:=by simpa using bF
  have hw:=dM (n:=(i:Int)+1) (k:=i+1) (by omega) (by omega);have bad:itE p i≠0->chk p=((i:Int),itE p i):=λh=>Gk hn bF h eX;have good:itE p i=0->∀ j,j<i+1->itE p j=0:=λh j hj=>by
   rcases cd j i with q | q
   .exact eX j q
   .have:j=i:=by omega
    subst this;exact h
  simp only[pkA,seval];refine aJ (λht=>?_) (λht=>?_)
  .have ht:i<p.types.length:=by simpa using ht
   have e:itE p i=t6 p.types i p.types[i]:=(by unfold itE;rw[if_pos ht,Vi ht]);rw[e] at bad good;simp only[fX,seval];refine ax rfl (Gi p.types i ht o1 hp.tn) (λ_=>rfl) ?_;simp only[pkA,seval];refine aJ (λhb=>?_) (λhg=>?_)
   .simp only[pkA,seval]
    refine db _ ?_;simp only[pkA];rw[bad (by simpa using hb)];refine lX ?_ ?_<;>simp only[pkA,seval]
   .simp only[pkA,seval,hw]
    exact bN (i+1) _ ⟨bF,good (by simpa using hg)⟩ (by omega) (bT (by simp only[eu,aK,aQ,fa,aI,aL];rfl) (ar _) (by simp) (by simp[FL,aw]) (by simp[BL,bxs]))
  have ht:p.types.length<=i:=by simpa using ht
  have v1:=dM (n:=(i:Int) - p.types.length) (k:=i - p.types.length) (by omega) (by omega);simp only[pkA,seval,w1];refine aJ (λhr=>?_) (λhr=>?_)
  .have hr:i<p.types.length+p.rules.length:=by simp at hr;omega
   have QO:i - p.types.length<p.rules.length:=(by omega);have e:itE p i=t7 p.rules (i - p.types.length) p.types.length p.rules[i - p.types.length]:=(by unfold itE;rw[if_neg (by omega),if_pos hr,Vj QO]);rw[e] at bad good;simp only[fX,seval,v1];refine ax rfl (Gj p.rules (i - p.types.length) p.types.length QO o2 (by omega)) (λ_=>rfl) ?_;simp only[pkA,seval];refine aJ (λhb=>?_) (λhg=>?_)
   .simp only[pkA,seval]
    refine db _ ?_;simp only[pkA];rw[bad (by simpa using hb)];refine lX ?_ ?_<;>simp only[pkA,seval]
   .simp only[pkA,seval,hw]
    exact bN (i+1) _ ⟨bF,good (by simpa using hg)⟩ (by omega) (bT (by simp only[eu,aK,aQ,fa,aI,aL];rfl) (ar _) (by simp) (by simp[FL,aw]) (by simp[BL,bxs]))
  have hr:p.types.length+p.rules.length<=i:=by simp at hr;omega
  have QO:i - p.types.length - p.rules.length<p.quorums.length:=by unfold lh at bF;omega
  have v2:=dM (n:=((i - p.types.length:Nat):Int) - p.rules.length) (k:=i - p.types.length - p.rules.length) (by omega) (by omega);have e:itE p i=vl p.quorums (i - p.types.length - p.rules.length) p.quorums[i - p.types.length - p.rules.length]:=by unfold itE;rw[if_neg (by omega),if_neg (by omega),Vk QO]
  rw[e] at bad good;simp only[fX,seval,v1,v2];refine ax rfl (B0 hG p.quorums (i - p.types.length - p.rules.length) QO o3) (λ_=>rfl) ?_;simp only[pkA,seval];refine aJ (λhb=>?_) (λhg=>?_)
  .simp only[pkA,seval]
   refine db _ ?_;simp only[pkA];rw[bad (by simpa using hb)];refine lX ?_ ?_<;>simp only[pkA,seval]
  .simp only[pkA,seval,hw]
   exact bN (i+1) _ ⟨bF,good (by simpa using hg)⟩ (by omega) (bT (by simp only[eu,aK,aQ,fa,aI,aL];rfl) (ar _) (by simp) (by simp[FL,aw]) (by simp[BL,bxs]))
 .have:i=lh p:=by simp at fu;omega
  subst this;simp only[pkA];refine b8 _ _ ?_;simp only[pkA,seval];rw[IX hn eX];refine lX ?_ ?_<;>simp only[pkA,seval]
def mh (p:Pol):Bool:=decide ((chk p).2=0)
theorem IZ {G:Gl} (hG:G 0=some [.lit (.int .i64 23),.lit (.int .i64 24),.lit (.int .i64 25)]) (p:Pol) (hp:PolIn p) (NV:lh p<=4611686018427387904) :
 FnOK Tryz.prog G 86 [.agg (poC p)] (bo (mh p)):=by
 refine bD (rs:=[.tmp 2]) false [] mixed Tryz.func86 rfl rfl rfl rfl (by kernel_rfl) (by simp) rfl rfl ?_;simp only[fX,seval];refine ax rfl (Vm hG p hp NV) (λh=>by cases h) ?_;simp only[pkA,seval];rfl
theorem I4 {G:Gl} (p:Pol) (hp:PolIn p) (NV:lh p<=4611686018427387904) :
 FnOK Tryz.prog G 65 [.agg (poC p)] (.tup [i64 (chk p).1,i64 (chk p).2]):=by
 refine bD (rs:=[.tmp 2,.tmp 3]) false [] mixed Tryz.func65 rfl rfl rfl rfl (by kernel_rfl) (by simp) rfl rfl ?_;obtain⟨o1,o2,o3⟩:=hp.ok;have hit:lh p=p.types.length+p.rules.length+p.quorums.length:=rfl;simp only[fX,seval];refine ax rfl (BY _ hp.nm) (λ_=>rfl) ?_;simp only[pkA,seval];refine aJ (λhn=>?_) (λhn=>?_)
 .have hn:m4 p.name=false:=by simpa using hn
  simp only[pkA,seval];rw[IY hn];refine lX ?_ ?_<;>simp only[pkA,seval]
 have hn:m4 p.name=true:=by simpa using hn
 simp only[pkA,seval];refine cm (λi:Nat=>hdS [(1,.bp 0 0),(5,i64 i)] [(poC p).map .c]) (λi=>p.types.length - i) (λi=>i<=p.types.length/\∀ j,j<i->itE p j=0) 0 ⟨ar _,by simp⟩ ?_ ?_
 .refine bT (by simp only[eu,aK,aQ,fa,aI,aL];rfl) (ar _) (by simp) (by simp[FL,aw]) (by simp[BL])
 rintro i ⟨hi,eX⟩ R bN b8 db;simp only[fX,seval,aj];refine aJ (λbF=>?_) (λfu=>?_)
 .have ht:i<p.types.length:=by simpa using bF
  have hw:=dM (n:=(i:Int)+1) (k:=i+1) (by omega) (by omega);have bad:itE p i≠0->chk p=((i:Int),itE p i):=λh=>Gk hn (by omega) h eX;have good:itE p i=0->∀ j,j<i+1->itE p j=0:=λh j hj=>by
   rcases cd j i with q | q
   .exact eX j q
   .have:j=i:=by omega
    subst this;exact h
  have e:itE p i=t6 p.types i p.types[i]:=by unfold itE;rw[if_pos ht,Vi ht]
  rw[e] at bad good;simp only[fX,seval];refine ax rfl (uL p.types i ht o1 hp.tn) (λ_=>rfl) ?_;simp only[pkA,seval];refine aJ (λhb=>?_) (λhg=>?_)
  .simp only[pkA,seval]
   refine db _ ?_;simp only[pkA];rw[bad (by simpa using hb)];refine lX ?_ ?_<;>simp only[pkA,seval]
  .simp only[pkA,seval,hw]
   exact bN (i+1) _ ⟨ht,good (by simpa using hg)⟩ (by omega) (bT (by simp only[eu,aK,aQ,fa,aI,aL];rfl) (ar _) (by simp) (by simp[FL,aw]) (by simp[BL,bxs]))
 have:i=p.types.length:=by simp at fu;omega
 subst this;simp only[pkA];refine b8 _ _ ?_;clear b8 db bN fu hi;simp only[pkA,seval];refine cm (λi:Nat=>hdS [(1,.bp 0 0),(7,i64 i)] [(poC p).map .c]) (λi=>p.rules.length - i) (λi=>i<=p.rules.length/\∀ j,j<p.types.length+i->itE p j=0) 0 ⟨ar _,eX⟩ ?_ ?_
 .refine bT (by simp only[eu,aK,aQ,fa,aI,aL];rfl) (ar _) (by simp) (by simp[FL,aw]) (by simp[BL,bxs])
 clear eX;rintro i ⟨hi,eX⟩ R bN b8 db;simp only[fX,seval,aj];refine aJ (λbF=>?_) (λfu=>?_)
 .have ht:i<p.rules.length:=by simpa using bF
  have hw:=dM (n:=(i:Int)+1) (k:=i+1) (by omega) (by omega);have sW:=dM (n:=(p.types.length:Int)+i) (k:=p.types.length+i) (by omega) (by omega);have bad:itE p (p.types.length+i)≠0->chk p=(((p.types.length+i:Nat):Int),itE p (p.types.length+i)):=λh=>Gk hn (by omega) h eX;have good:itE p (p.types.length+i)=0->∀ j,j<p.types.length+(i+1)->itE p j=0:=λh j hj=>by
   rcases cd j (p.types.length+i) with q | q
   .exact eX j q
   .have:j=p.types.length+i:=by omega
    subst this;exact h
  have e:itE p (p.types.length+i)=t7 p.rules i p.types.length p.rules[i]:=by unfold itE;rw[if_neg (by omega),if_pos (by omega),Nat.add_sub_cancel_left,Vj ht]
  rw[e] at bad good;simp only[fX,seval,aj];refine ax rfl (Qe p.rules i p.types.length ht o2 (by omega)) (λ_=>rfl) ?_;simp only[pkA,seval];refine aJ (λhb=>?_) (λhg=>?_)
  .simp only[fX,seval,aj,sW]
   refine db _ ?_;simp only[pkA];rw[bad (by simpa using hb)];refine lX ?_ ?_<;>simp only[pkA,seval]
  .simp only[pkA,seval,hw]
   exact bN (i+1) _ ⟨ht,good (by simpa using hg)⟩ (by omega) (bT (by simp only[eu,aK,aQ,fa,aI,aL];rfl) (ar _) (by simp) (by simp[FL,aw]) (by simp[BL,bxs]))
 have:i=p.rules.length:=by simp at fu;omega
 subst this;simp only[pkA];refine b8 _ _ ?_;clear b8 db bN fu hi;simp only[pkA,seval];refine cm (λi:Nat=>hdS [(1,.bp 0 0),(9,i64 i)] [(poC p).map .c]) (λi=>p.quorums.length - i) (λi=>i<=p.quorums.length/\∀ j,j<p.types.length+p.rules.length+i->itE p j=0) 0 ⟨ar _,eX⟩ ?_ ?_
 .refine bT (by simp only[eu,aK,aQ,fa,aI,aL];rfl) (ar _) (by simp) (by simp[FL,aw]) (by simp[BL,bxs])
 clear eX;rintro i ⟨hi,eX⟩ R bN b8 db;simp only[fX,seval,aj];refine aJ (λbF=>?_) (λfu=>?_)
 .have ht:i<p.quorums.length:=by simpa using bF
  have hw:=dM (n:=(i:Int)+1) (k:=i+1) (by omega) (by omega);have sW:=dM (n:=(p.types.length:Int)+p.rules.length) (k:=p.types.length+p.rules.length) (by omega) (by omega);have hw3:=dM (n:=((p.types.length+p.rules.length:Nat):Int)+i) (k:=p.types.length+p.rules.length+i) (by omega) (by omega);have bad:itE p (p.types.length+p.rules.length+i)≠0->chk p=(((p.types.length+p.rules.length+i:Nat):Int),itE p (p.types.length+p.rules.length+i)):=λh=>Gk hn (by omega) h eX;have good:itE p (p.types.length+p.rules.length+i)=0->∀ j,j<p.types.length+p.rules.length+(i+1)->itE p j=0:=λh j hj=>by
   rcases cd j (p.types.length+p.rules.length+i) with q | q
   .exact eX j q
   .have:j=p.types.length+p.rules.length+i:=by omega
    subst this;exact h
  have e:itE p (p.types.length+p.rules.length+i)=vl p.quorums i p.quorums[i]:=by have:p.types.length+p.rules.length+i - p.types.length - p.rules.length=i:=(by omega);unfold itE;rw[if_neg (by omega),if_neg (by omega),this,Vk ht]
  rw[e] at bad good;simp only[fX,seval];refine ax rfl (IW p.quorums i ht o3) (λ_=>rfl) ?_;simp only[pkA,seval];refine aJ (λhb=>?_) (λhg=>?_)
  .simp only[fX,seval,aj,sW,hw3]
   refine db _ ?_;simp only[pkA];rw[bad (by simpa using hb)];refine lX ?_ ?_<;>simp only[pkA,seval]
  .simp only[pkA,seval,hw]
   exact bN (i+1) _ ⟨ht,good (by simpa using hg)⟩ (by omega) (bT (by simp only[eu,aK,aQ,fa,aI,aL];rfl) (ar _) (by simp) (by simp[FL,aw]) (by simp[BL,bxs]))
 have:i=p.quorums.length:=by simp at fu;omega
 subst this;simp only[pkA];refine b8 _ _ ?_;simp only[pkA,seval];rw[IX hn eX];refine lX ?_ ?_<;>simp only[pkA,seval]
theorem I5 {G:Gl} (p:Pol) (hp:PolIn p) (NV:lh p<=4611686018427387904):FnOK Tryz.prog G 29 [.agg (poC p)] (bo (mh p)):=by refine bD (rs:=[.tmp 2]) false [] mixed Tryz.func29 rfl rfl rfl rfl (by kernel_rfl) (by simp) rfl rfl ?_;simp only[fX,seval];refine ax rfl (I4 p hp NV) (λh=>by cases h) ?_;simp only[pkA,seval];rfl
