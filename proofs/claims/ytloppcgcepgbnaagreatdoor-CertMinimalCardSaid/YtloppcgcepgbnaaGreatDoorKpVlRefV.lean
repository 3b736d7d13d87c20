/- Check and Valid of layer 13, and of its reference: what they answer. -/
import Derived.Test.YtloppcgcepgbnaaGreatDoorKpVlErr
import Derived.Test.YtloppcgcepgbnaaGreatDoorVlFlb
set_option maxHeartbeats 4000000
set_option linter.all false
namespace Go.Proofs.YtloppcgcepgbnaaGreatDoor.Kp
open Go Go.Vl
set_option maxRecDepth 10000
theorem uA {α:Type} {p:α→Bool} {l:List α} {i k:Nat} (hi:i<l.length) (hk:i<k) (h:p l[i]=true):(l.take k).any p=true:=
 dL.2 ⟨l[i],cT.2 ⟨i,by omega,rfl⟩,h⟩
theorem qV {α:Type} {p:α→Bool} {l:List α} {k:Nat} (h:∀ j (hj:j<l.length),j<k→p l[j]=false):(l.take k).any p=false:=
 List.any_eq_false.2 fun x hx=>by
  obtain⟨j,hj,rfl⟩:=cT.1 hx
  simp[h j (by omega) (by omega)]
theorem P4 (n:Int):([23,24,25].any fun e:Int=>decide (n=e))=(decide (23≤n)&&decide (n≤25)):=by
 rw[jL];simp;omega
def ga:=jj @pkA (jj @ptA @pkP)
theorem TW {G:Gl} (l:List Ty) (k:Nat) (hk:k<l.length) (hl:l.length≤9223372036854775807) (hn:∀ t∈l,t.name.size≤9223372036854775807) :
 FnOK Tryz.prog G 65 [.c (.sl (l.map tyC)),i64 k] (i64 (oS l k l[k])):=by
 refine bR (rs:=[.tmp 4]) false [] mixed Tryz.func65 rfl rfl rfl rfl (by kernel_rfl) (by simp) rfl rfl ?_
 have hnk:=hn l[k] (bM hk)
 obtain⟨t,ht⟩:∃ t,l[k]=t:=⟨_,rfl⟩
 rw[ht] at hnk ⊢
 simp only[pkA,seval]
 refine aS (fun h0=>?_) (fun h0=>?_)
 ·simp only[pkA,seval]
  unfold oS;simp only[h0,↓reduceIte]
 simp only[pkA,seval]
 refine fE mD rfl j9 (by decide) (aJ k) (c:=tyC t) (by simp[hk,ht]) rfl ?_
 simp only[ga,seval]
 refine aN rfl (CX _ hnk) (fun _=>rfl) ?_
 simp only[pkA,seval]
 refine aS (fun h1=>?_) (fun h1=>?_)
 ·simp only[pkA,seval]
  unfold oS;simp only[h0,h1,↓reduceIte,aI]
 simp only[pkA,seval]
 refine cx (fun i:Nat=>hdS [(0,.c (.sl (l.map tyC))),(1,i64 k),(6,i64 i)] []) (fun i=>k - i) (fun i=>i≤k∧∀ j (h:j<l.length),j<i→decide (l[j].name=t.name)=false) 0 ⟨au _,by simp⟩ ?_ ?_
 ·refine cL rfl (au _) (by simp) ?_ trivial
  simp[FL,ao]
 rintro i ⟨hi,fS⟩ R cE cC dV
 simp only[pkA,seval]
 refine aS (fun bV=>?_) (fun jA=>?_)
 ·have bV:i<k:=by simpa using bV
  have Qk:i<l.length:=by omega
  have hw:=cd (n:=(i:Int)+1) (k:=i+1) (by omega) (by omega)
  simp only[pkA,seval]
  refine fE mD rfl j9 (by decide) (aJ i) (c:=tyC l[i]) (by simp[Qk]) rfl ?_
  simp only[ga,seval]
  refine fE mD rfl j9 (by decide) (aJ k) (c:=tyC t) (by simp[hk,ht]) rfl ?_
  simp only[ga,seval]
  refine aS (fun hy=>?_) (fun hn=>?_)
  ·simp only[pkA,seval]
   refine dV _ ?_
   simp only[pkA,seval]
   have:=uA (p:=fun o:Ty=>decide (o.name=t.name)) Qk bV hy
   unfold oS;simp only[h0,h1,this,↓reduceIte,aI]
  ·simp only[pkA,seval,hw]
   refine cE (i+1) _ ⟨bV,fun j h hj=>?_⟩ (by omega) (cL rfl (au _) (by simp) (by simp[FL,ao]) trivial)
   rcases bS j i with q | q
   ·exact fS j h q
   ·have:j=i:=by omega
    subst this;exact hn
 ·have:i=k:=by simp at jA;omega
  subst this
  have h2:=qV (p:=fun o:Ty=>decide (o.name=t.name)) (k:=i) fS
  simp only[pkA]
  refine cC _ _ ?_
  clear cC dV cE fS
  repeat' first
   |(simp only[ga,seval])
   |refine fA (fun h=>?_) (fun h=>?_)
   |refine aS (fun h=>?_) (fun h=>?_)
   |refine fE mD rfl j9 (by decide) (aJ i) (c:=tyC t) (by simp[hk,ht]) rfl ?_
   |refine aN rfl (zi _ _ _) (fun _=>rfl) ?_
  all_goals (unfold oS;simp only[*,kX,List.any_nil,rL,K7,j6,Bool.true_or,jS,↓reduceIte,aI,lK])
theorem TX {G:Gl} (l:List Ru) (k:Nat) (nt:Int) (hk:k<l.length) (hl:l.length≤9223372036854775807) (hnt:0≤nt∧nt≤9223372036854775807) :
 FnOK Tryz.prog G 66 [.c (.sl (l.map ruC)),i64 k,i64 nt] (i64 (rM l k nt l[k])):=by
 refine bR (rs:=[.tmp 6]) false [] mixed Tryz.func66 rfl rfl rfl rfl (by kernel_rfl) (by simp) rfl rfl ?_
 have Ae:=wrap_i64 (nt - 1) (by omega)
 obtain⟨t,ht⟩:∃ t,l[k]=t:=⟨_,rfl⟩
 rw[ht]
 simp only[pkA,seval]
 refine aS (fun h0=>?_) (fun h0=>?_)
 ·simp only[pkA,seval]
  unfold rM;simp only[h0,↓reduceIte]
 have loopk:([⟨t.kind,1,5⟩,⟨t.a,0,nt - 1⟩,⟨t.b,0,nt - 1⟩].any wX)=false→∀ (Q:VE→S→Prop) (body:Code),True:=fun _ _ _=>trivial
 clear loopk
 repeat' first
  |(simp only[ga,seval,Ae])
  |refine fA (fun h=>?_) (fun h=>?_)
  |refine aS (fun h=>?_) (fun h=>?_)
  |refine fE mY rfl iR (by decide) (aJ k) (c:=ruC t) (by simp[hk,ht]) rfl ?_
  |refine aN rfl (zi _ _ _) (fun _=>rfl) ?_
 all_goals first
  |(unfold rM;simp only[*,kX,List.any_nil,rL,K7,j6,Bool.true_or,jS,↓reduceIte,aI,lK];done)
  |have h2:([⟨t.kind,1,5⟩,⟨t.a,0,nt - 1⟩,⟨t.b,0,nt - 1⟩].any wX)=false:=by
    simp only[*,kX,List.any_nil,rL,K7,j6]
   refine cx (fun i:Nat=>hdS [(0,.c (.sl (l.map ruC))),(1,i64 k),(7,i64 i)] []) (fun i=>k - i) (fun i=>i≤k∧∀ j (h:j<l.length),j<i→decide (t=l[j])=false) 0 ⟨au _,by simp⟩ ?_ ?_
   ·refine cL rfl (au _) (by simp) ?_ trivial
    simp[FL,ao]
   rintro i ⟨hi,fS⟩ R cE cC dV
   simp only[pkA,seval]
   refine aS (fun bV=>?_) (fun jA=>?_)
   ·have bV:i<k:=by simpa using bV
    have Qk:i<l.length:=by omega
    have hw:=cd (n:=(i:Int)+1) (k:=i+1) (by omega) (by omega)
    simp only[pkA,seval]
    refine fE mY rfl iR (by decide) (aJ i) (c:=ruC l[i]) (by simp[Qk]) rfl ?_
    simp only[ga,seval]
    refine fE mY rfl iR (by decide) (aJ k) (c:=ruC t) (by simp[hk,ht]) rfl ?_
    simp only[ga,seval]
    refine aS (fun hy=>?_) (fun hn=>?_)
    ·simp only[pkA,seval]
     refine dV _ ?_
     simp only[pkA,seval]
     have hy:decide (t=l[i])=true:=by simp at hy ⊢;exact hy.symm
     have:=uA (p:=fun o:Ru=>decide (t=o)) Qk bV hy
     unfold rM;simp only[h0,h2,this,↓reduceIte,aI]
    ·simp only[pkA,seval,hw]
     refine cE (i+1) _ ⟨bV,fun j h hj=>?_⟩ (by omega) (cL rfl (au _) (by simp) (by simp[FL,ao]) trivial)
     rcases bS j i with q | q
     ·exact fS j h q
     ·have:j=i:=by omega
      subst this;simp at hn ⊢;exact fun e=>hn e.symm
   ·have:i=k:=by simp at jA;omega
    subst this
    have h3:=qV (p:=fun o:Ru=>decide (t=o)) (k:=i) fS
    simp only[pkA]
    refine cC _ _ ?_
    simp only[pkA,seval]
    unfold rM;simp only[h0,h2,h3,↓reduceIte,aI]
theorem K8 {G:Gl} (l:List Qu) (k:Nat) (hk:k<l.length) (hl:l.length≤9223372036854775807) :
 FnOK Tryz.prog G 67 [.c (.sl (l.map quC)),i64 k] (i64 (vS l k l[k])):=by
 refine bR (rs:=[.tmp 4]) false [] mixed Tryz.func67 rfl rfl rfl rfl (by kernel_rfl) (by simp) rfl rfl ?_
 obtain⟨t,ht⟩:∃ t,l[k]=t:=⟨_,rfl⟩
 rw[ht]
 simp only[pkA,seval]
 refine fE ub rfl jy (by decide) (aJ k) (c:=quC t) (by simp[hk,ht]) rfl ?_
 have pZ:∀ x:List V,x.length=5→eS x 0 ((quC t).map .c)=(quC t).map .c:=fun x hx=>uu (by simp[xX,hx])
 repeat' first
  |(simp only[ga,seval,pZ])
  |refine fA (fun h=>?_) (fun h=>?_)
  |refine aS (fun h=>?_) (fun h=>?_)
  |refine aN rfl (zi _ _ _) (fun _=>rfl) ?_
 all_goals first
  |(unfold vS;rw[P4];simp only[*,kX,List.any_nil,rL,K7,j6,Bool.true_or,jS,↓reduceIte,aI,lK];done)
  |have h2:([⟨t.cmd,1,27⟩,⟨t.count,1,16⟩,⟨t.delay,0,1099511627776⟩,⟨t.valid,t.delay,1099511627776⟩,⟨t.uses,1,1048576⟩].any wX)=false:=by
    simp only[*,kX,List.any_nil,rL,K7,j6]
   have h4:([23,24,25].any fun e:Int=>decide (t.cmd=e))=false:=by rw[P4];assumption
   refine cx (fun i:Nat=>hdS [(0,.c (.sl (l.map quC))),(1,i64 k),(5,.bp 0 0),(6,i64 i)] [(quC t).map .c]) (fun i=>k - i) (fun i=>i≤k∧∀ j (h:j<l.length),j<i→decide (l[j].cmd=t.cmd)=false) 0 ⟨au _,by simp⟩ ?_ ?_
   ·refine cL (by simp only[jq,bh,bG,fR,aA,aB];rfl) (au _) (by simp) ?_ ?_
    ·simp[FL,ao]
    ·simp[BL]
   rintro i ⟨hi,fS⟩ R cE cC dV
   simp only[pkA,seval]
   refine aS (fun bV=>?_) (fun jA=>?_)
   ·have bV:i<k:=by simpa using bV
    have Qk:i<l.length:=by omega
    have hw:=cd (n:=(i:Int)+1) (k:=i+1) (by omega) (by omega)
    simp only[pkA,seval]
    refine fE ub rfl jy (by decide) (aJ i) (c:=quC l[i]) (by simp[Qk]) rfl ?_
    simp only[ga,seval]
    refine aS (fun hy=>?_) (fun hn=>?_)
    ·simp only[pkA,seval]
     refine dV _ ?_
     simp only[pkA,seval]
     have:=uA (p:=fun o:Qu=>decide (o.cmd=t.cmd)) Qk bV hy
     unfold vS;simp only[h2,h4,this,↓reduceIte,aI]
    ·simp only[pkA,seval,hw]
     refine cE (i+1) _ ⟨bV,fun j h hj=>?_⟩ (by omega) (cL (by simp only[jq,bh,bG,fR,aA,aB];rfl) (au _) (by simp) (by simp[FL,ao]) (by simp[BL,bxs]))
     rcases bS j i with q | q
     ·exact fS j h q
     ·have:j=i:=by omega
      subst this;exact hn
   ·have:i=k:=by simp at jA;omega
    subst this
    have h3:=qV (p:=fun o:Qu=>decide (o.cmd=t.cmd)) (k:=i) fS
    simp only[pkA]
    refine cC _ _ ?_
    simp only[pkA,seval]
    unfold vS;simp only[h2,h3,h4,↓reduceIte,aI]
def tyE (l:List Ty) (k:Nat):Int:=match l[k]? with
 |some t=>oS l k t
 |none=>0
def ruE (l:List Ru) (k:Nat) (nt:Int):Int:=match l[k]? with
 |some t=>rM l k nt t
 |none=>0
def quE (l:List Qu) (k:Nat):Int:=match l[k]? with
 |some t=>vS l k t
 |none=>0
theorem HK {l:List Ty} {k:Nat} (h:k<l.length):tyE l k=oS l k l[k]:=by simp[tyE,h]
theorem HL {l:List Ru} {k:Nat} {nt:Int} (h:k<l.length):ruE l k nt=rM l k nt l[k]:=by simp[ruE,h]
theorem ZE {l:List Qu} {k:Nat} (h:k<l.length):quE l k=vS l k l[k]:=by simp[quE,h]
def jf (p:Pol):Nat:=p.types.length+p.rules.length+p.quorums.length
def itE (p:Pol) (k:Nat):Int:=if k<p.types.length then tyE p.types k else if k<p.types.length+p.rules.length then ruE p.rules (k - p.types.length) p.types.length else quE p.quorums (k - p.types.length - p.rules.length)
def chk (p:Pol):Int×Int:=if kA p.name=true then(match(List.range (jf p)).find? (fun k=>!decide (itE p k=0)) with
 |some k=>((k:Int),itE p k)
 |none=>(0,0)) else(-1,4)
theorem C0 {p:Pol} {k:Nat} (hn:kA p.name=true) (hk:k<jf p) (h:itE p k≠0) (fS:∀ j,j<k→itE p j=0):chk p=((k:Int),itE p k):=by
 have:(List.range (jf p)).find? (fun k=>!decide (itE p k=0))=some k:=by
  rw[List.find?_range_eq_some]
  exact⟨by simpa using h,by simpa using hk,fun j hj=>by simp[fS j hj]⟩
 simp[chk,hn,this]
theorem C2 {p:Pol} (hn:kA p.name=true) (fS:∀ j,j<jf p→itE p j=0):chk p=(0,0):=by
 have:(List.range (jf p)).find? (fun k=>!decide (itE p k=0))=none:=by
  rw[List.find?_eq_none]
  intro j hj
  simp[fS j (by simpa using hj)]
 simp[chk,hn,this]
theorem C3 {p:Pol} (hn:kA p.name=false):chk p=(-1,4):=by simp[chk,hn]
theorem PolIn.nm {p:Pol} (h:PolIn p):p.name.size≤9223372036854775807:=by have:=h.name;unfold maxLen at this;omega
theorem PolIn.tn {p:Pol} (h:PolIn p):∀ t∈p.types,t.name.size≤9223372036854775807:=fun t ht=>by have:=(h.types t ht).1;unfold maxLen at this;omega
theorem ZF {G:Gl} (hG:G 0=some [.lit (.int .i64 23),.lit (.int .i64 24),.lit (.int .i64 25)]) (p:Pol) (hp:PolIn p) (hsm:jf p≤4611686018427387904) :
 FnOK Tryz.prog G 61 [.agg (poC p)] (.tup [i64 (chk p).1,i64 (chk p).2]):=by
 refine bR (rs:=[.tmp 2,.tmp 3]) false [] mixed Tryz.func61 rfl rfl rfl rfl (by kernel_rfl) (by simp) rfl rfl ?_
 obtain⟨o1,o2,o3⟩:=hp.ok
 have hit:jf p=p.types.length+p.rules.length+p.quorums.length:=rfl
 simp only[ga,seval]
 refine aN rfl (P3 _ hp.nm) (fun _=>rfl) ?_
 simp only[pkA,seval]
 refine aS (fun hn=>?_) (fun hn=>?_)
 ·have hn:kA p.name=false:=by simpa using hn
  simp only[pkA,seval]
  rw[C3 hn]
  refine iZ ?_ ?_<;>simp only[pkA,seval]
 have hn:kA p.name=true:=by simpa using hn
 have w1:=cd (n:=(p.types.length:Int)+p.rules.length) (k:=p.types.length+p.rules.length) (by omega) (by omega)
 have w2:=cd (n:=((p.types.length+p.rules.length:Nat):Int)+p.quorums.length) (k:=jf p) (by unfold jf;omega) (by unfold jf;omega)
 simp only[ga,seval,ak,w1,w2]
 refine cx (fun i:Nat=>hdS [(1,.bp 0 0),(4,i64 p.types.length),(5,i64 p.rules.length),(24,i64 (jf p)),(25,i64 i)] [(poC p).map .c]) (fun i=>jf p - i) (fun i=>i≤jf p∧∀ j,j<i→itE p j=0) 0 ⟨au _,by simp⟩ ?_ ?_
 ·refine cL (by simp only[jq,bh,bG,fR,aA,aB];rfl) (au _) (by simp) ?_ ?_
  ·simp[FL,ao]
  ·simp[BL]
 rintro i ⟨hi,fS⟩ R cE cC dV
 simp only[pkA,seval]
 refine aS (fun bV=>?_) (fun jA=>?_)
 ·have bV:i<jf p:=by simpa using bV
  have hw:=cd (n:=(i:Int)+1) (k:=i+1) (by omega) (by omega)
  have bad:itE p i≠0→chk p=((i:Int),itE p i):=fun h=>C0 hn bV h fS
  have good:itE p i=0→∀ j,j<i+1→itE p j=0:=fun h j hj=>by
   rcases bS j i with q | q
   ·exact fS j q
   ·have:j=i:=by omega
    subst this;exact h
  simp only[pkA,seval]
  refine aS (fun ht=>?_) (fun ht=>?_)
  ·have ht:i<p.types.length:=by simpa using ht
   have e:itE p i=oS p.types i p.types[i]:=by unfold itE;rw[if_pos ht,HK ht]
   rw[e] at bad good
   simp only[ga,seval]
   refine aN rfl (HI p.types i ht o1 hp.tn) (fun _=>rfl) ?_
   simp only[pkA,seval]
   refine aS (fun hb=>?_) (fun hg=>?_)
   ·simp only[pkA,seval]
    refine dV _ ?_
    simp only[pkA]
    rw[bad (by simpa using hb)]
    refine iZ ?_ ?_<;>simp only[pkA,seval]
   ·simp only[pkA,seval,hw]
    exact cE (i+1) _ ⟨bV,good (by simpa using hg)⟩ (by omega) (cL (by simp only[jq,bh,bG,fR,aA,aB];rfl) (au _) (by simp) (by simp[FL,ao]) (by simp[BL,bxs]))
  have ht:p.types.length≤i:=by simpa using ht
  have v1:=cd (n:=(i:Int) - p.types.length) (k:=i - p.types.length) (by omega) (by omega)
  simp only[pkA,seval,w1]
  refine aS (fun hr=>?_) (fun hr=>?_)
  ·have hr:i<p.types.length+p.rules.length:=by simp at hr;omega
   have LU:i - p.types.length<p.rules.length:=by omega
   have e:itE p i=rM p.rules (i - p.types.length) p.types.length p.rules[i - p.types.length]:=by unfold itE;rw[if_neg (by omega),if_pos hr,HL LU]
   rw[e] at bad good
   simp only[ga,seval,v1]
   refine aN rfl (HJ p.rules (i - p.types.length) p.types.length LU o2 (by omega)) (fun _=>rfl) ?_
   simp only[pkA,seval]
   refine aS (fun hb=>?_) (fun hg=>?_)
   ·simp only[pkA,seval]
    refine dV _ ?_
    simp only[pkA]
    rw[bad (by simpa using hb)]
    refine iZ ?_ ?_<;>simp only[pkA,seval]
   ·simp only[pkA,seval,hw]
    exact cE (i+1) _ ⟨bV,good (by simpa using hg)⟩ (by omega) (cL (by simp only[jq,bh,bG,fR,aA,aB];rfl) (au _) (by simp) (by simp[FL,ao]) (by simp[BL,bxs]))
  have hr:p.types.length+p.rules.length≤i:=by simp at hr;omega
  have LU:i - p.types.length - p.rules.length<p.quorums.length:=by unfold jf at bV;omega
  have v2:=cd (n:=((i - p.types.length:Nat):Int) - p.rules.length) (k:=i - p.types.length - p.rules.length) (by omega) (by omega)
  have e:itE p i=vS p.quorums (i - p.types.length - p.rules.length) p.quorums[i - p.types.length - p.rules.length]:=by unfold itE;rw[if_neg (by omega),if_neg (by omega),ZE LU]
  rw[e] at bad good
  simp only[ga,seval,v1,v2]
  refine aN rfl (CZ hG p.quorums (i - p.types.length - p.rules.length) LU o3) (fun _=>rfl) ?_
  simp only[pkA,seval]
  refine aS (fun hb=>?_) (fun hg=>?_)
  ·simp only[pkA,seval]
   refine dV _ ?_
   simp only[pkA]
   rw[bad (by simpa using hb)]
   refine iZ ?_ ?_<;>simp only[pkA,seval]
  ·simp only[pkA,seval,hw]
   exact cE (i+1) _ ⟨bV,good (by simpa using hg)⟩ (by omega) (cL (by simp only[jq,bh,bG,fR,aA,aB];rfl) (au _) (by simp) (by simp[FL,ao]) (by simp[BL,bxs]))
 ·have:i=jf p:=by simp at jA;omega
  subst this
  simp only[pkA]
  refine cC _ _ ?_
  simp only[pkA,seval]
  rw[C2 hn fS]
  refine iZ ?_ ?_<;>simp only[pkA,seval]
def qW (p:Pol):Bool:=decide ((chk p).2=0)
theorem Cm {G:Gl} (hG:G 0=some [.lit (.int .i64 23),.lit (.int .i64 24),.lit (.int .i64 25)]) (p:Pol) (hp:PolIn p) (hsm:jf p≤4611686018427387904) :
 FnOK Tryz.prog G 42 [.agg (poC p)] (bo (qW p)):=by
 refine bR (rs:=[.tmp 2]) false [] mixed Tryz.func42 rfl rfl rfl rfl (by kernel_rfl) (by simp) rfl rfl ?_
 simp only[ga,seval]
 refine aN rfl (ZF hG p hp hsm) (fun h=>by cases h) ?_
 simp only[pkA,seval]
 rfl
theorem K9 {G:Gl} (p:Pol) (hp:PolIn p) (hsm:jf p≤4611686018427387904) :
 FnOK Tryz.prog G 46 [.agg (poC p)] (.tup [i64 (chk p).1,i64 (chk p).2]):=by
 refine bR (rs:=[.tmp 2,.tmp 3]) false [] mixed Tryz.func46 rfl rfl rfl rfl (by kernel_rfl) (by simp) rfl rfl ?_
 obtain⟨o1,o2,o3⟩:=hp.ok
 have hit:jf p=p.types.length+p.rules.length+p.quorums.length:=rfl
 simp only[ga,seval]
 refine aN rfl (CX _ hp.nm) (fun _=>rfl) ?_
 simp only[pkA,seval]
 refine aS (fun hn=>?_) (fun hn=>?_)
 ·have hn:kA p.name=false:=by simpa using hn
  simp only[pkA,seval]
  rw[C3 hn]
  refine iZ ?_ ?_<;>simp only[pkA,seval]
 have hn:kA p.name=true:=by simpa using hn
 simp only[pkA,seval]
 refine cx (fun i:Nat=>hdS [(1,.bp 0 0),(5,i64 i)] [(poC p).map .c]) (fun i=>p.types.length - i) (fun i=>i≤p.types.length∧∀ j,j<i→itE p j=0) 0 ⟨au _,by simp⟩ ?_ ?_
 ·refine cL (by simp only[jq,bh,bG,fR,aA,aB];rfl) (au _) (by simp) (by simp[FL,ao]) (by simp[BL])
 rintro i ⟨hi,fS⟩ R cE cC dV
 simp only[ga,seval,ak]
 refine aS (fun bV=>?_) (fun jA=>?_)
 ·have ht:i<p.types.length:=by simpa using bV
  have hw:=cd (n:=(i:Int)+1) (k:=i+1) (by omega) (by omega)
  have bad:itE p i≠0→chk p=((i:Int),itE p i):=fun h=>C0 hn (by omega) h fS
  have good:itE p i=0→∀ j,j<i+1→itE p j=0:=fun h j hj=>by
   rcases bS j i with q | q
   ·exact fS j q
   ·have:j=i:=by omega
    subst this;exact h
  have e:itE p i=oS p.types i p.types[i]:=by unfold itE;rw[if_pos ht,HK ht]
  rw[e] at bad good
  simp only[ga,seval]
  refine aN rfl (TW p.types i ht o1 hp.tn) (fun _=>rfl) ?_
  simp only[pkA,seval]
  refine aS (fun hb=>?_) (fun hg=>?_)
  ·simp only[pkA,seval]
   refine dV _ ?_
   simp only[pkA]
   rw[bad (by simpa using hb)]
   refine iZ ?_ ?_<;>simp only[pkA,seval]
  ·simp only[pkA,seval,hw]
   exact cE (i+1) _ ⟨ht,good (by simpa using hg)⟩ (by omega) (cL (by simp only[jq,bh,bG,fR,aA,aB];rfl) (au _) (by simp) (by simp[FL,ao]) (by simp[BL,bxs]))
 have:i=p.types.length:=by simp at jA;omega
 subst this
 simp only[pkA]
 refine cC _ _ ?_
 clear cC dV cE jA hi
 simp only[pkA,seval]
 refine cx (fun i:Nat=>hdS [(1,.bp 0 0),(7,i64 i)] [(poC p).map .c]) (fun i=>p.rules.length - i) (fun i=>i≤p.rules.length∧∀ j,j<p.types.length+i→itE p j=0) 0 ⟨au _,fS⟩ ?_ ?_
 ·refine cL (by simp only[jq,bh,bG,fR,aA,aB];rfl) (au _) (by simp) (by simp[FL,ao]) (by simp[BL,bxs])
 clear fS
 rintro i ⟨hi,fS⟩ R cE cC dV
 simp only[ga,seval,ak]
 refine aS (fun bV=>?_) (fun jA=>?_)
 ·have ht:i<p.rules.length:=by simpa using bV
  have hw:=cd (n:=(i:Int)+1) (k:=i+1) (by omega) (by omega)
  have FG:=cd (n:=(p.types.length:Int)+i) (k:=p.types.length+i) (by omega) (by omega)
  have bad:itE p (p.types.length+i)≠0→chk p=(((p.types.length+i:Nat):Int),itE p (p.types.length+i)):=fun h=>C0 hn (by omega) h fS
  have good:itE p (p.types.length+i)=0→∀ j,j<p.types.length+(i+1)→itE p j=0:=fun h j hj=>by
   rcases bS j (p.types.length+i) with q | q
   ·exact fS j q
   ·have:j=p.types.length+i:=by omega
    subst this;exact h
  have e:itE p (p.types.length+i)=rM p.rules i p.types.length p.rules[i]:=by
   unfold itE;rw[if_neg (by omega),if_pos (by omega),iP,HL ht]
  rw[e] at bad good
  simp only[ga,seval,ak]
  refine aN rfl (TX p.rules i p.types.length ht o2 (by omega)) (fun _=>rfl) ?_
  simp only[pkA,seval]
  refine aS (fun hb=>?_) (fun hg=>?_)
  ·simp only[ga,seval,ak,FG]
   refine dV _ ?_
   simp only[pkA]
   rw[bad (by simpa using hb)]
   refine iZ ?_ ?_<;>simp only[pkA,seval]
  ·simp only[pkA,seval,hw]
   exact cE (i+1) _ ⟨ht,good (by simpa using hg)⟩ (by omega) (cL (by simp only[jq,bh,bG,fR,aA,aB];rfl) (au _) (by simp) (by simp[FL,ao]) (by simp[BL,bxs]))
 have:i=p.rules.length:=by simp at jA;omega
 subst this
 simp only[pkA]
 refine cC _ _ ?_
 clear cC dV cE jA hi
 simp only[pkA,seval]
 refine cx (fun i:Nat=>hdS [(1,.bp 0 0),(9,i64 i)] [(poC p).map .c]) (fun i=>p.quorums.length - i) (fun i=>i≤p.quorums.length∧∀ j,j<p.types.length+p.rules.length+i→itE p j=0) 0 ⟨au _,fS⟩ ?_ ?_
 ·refine cL (by simp only[jq,bh,bG,fR,aA,aB];rfl) (au _) (by simp) (by simp[FL,ao]) (by simp[BL,bxs])
 clear fS
 rintro i ⟨hi,fS⟩ R cE cC dV
 simp only[ga,seval,ak]
 refine aS (fun bV=>?_) (fun jA=>?_)
 ·have ht:i<p.quorums.length:=by simpa using bV
  have hw:=cd (n:=(i:Int)+1) (k:=i+1) (by omega) (by omega)
  have FG:=cd (n:=(p.types.length:Int)+p.rules.length) (k:=p.types.length+p.rules.length) (by omega) (by omega)
  have hw3:=cd (n:=((p.types.length+p.rules.length:Nat):Int)+i) (k:=p.types.length+p.rules.length+i) (by omega) (by omega)
  have bad:itE p (p.types.length+p.rules.length+i)≠0→chk p=(((p.types.length+p.rules.length+i:Nat):Int),itE p (p.types.length+p.rules.length+i)):=fun h=>C0 hn (by omega) h fS
  have good:itE p (p.types.length+p.rules.length+i)=0→∀ j,j<p.types.length+p.rules.length+(i+1)→itE p j=0:=fun h j hj=>by
   rcases bS j (p.types.length+p.rules.length+i) with q | q
   ·exact fS j q
   ·have:j=p.types.length+p.rules.length+i:=by omega
    subst this;exact h
  have e:itE p (p.types.length+p.rules.length+i)=vS p.quorums i p.quorums[i]:=by
   have:p.types.length+p.rules.length+i - p.types.length - p.rules.length=i:=by omega
   unfold itE;rw[if_neg (by omega),if_neg (by omega),this,ZE ht]
  rw[e] at bad good
  simp only[ga,seval]
  refine aN rfl (K8 p.quorums i ht o3) (fun _=>rfl) ?_
  simp only[pkA,seval]
  refine aS (fun hb=>?_) (fun hg=>?_)
  ·simp only[ga,seval,ak,FG,hw3]
   refine dV _ ?_
   simp only[pkA]
   rw[bad (by simpa using hb)]
   refine iZ ?_ ?_<;>simp only[pkA,seval]
  ·simp only[pkA,seval,hw]
   exact cE (i+1) _ ⟨ht,good (by simpa using hg)⟩ (by omega) (cL (by simp only[jq,bh,bG,fR,aA,aB];rfl) (au _) (by simp) (by simp[FL,ao]) (by simp[BL,bxs]))
 have:i=p.quorums.length:=by simp at jA;omega
 subst this
 simp only[pkA]
 refine cC _ _ ?_
 simp only[pkA,seval]
 rw[C2 hn fS]
 refine iZ ?_ ?_<;>simp only[pkA,seval]
theorem La {G:Gl} (p:Pol) (hp:PolIn p) (hsm:jf p≤4611686018427387904):FnOK Tryz.prog G 25 [.agg (poC p)] (bo (qW p)):=by
 refine bR (rs:=[.tmp 2]) false [] mixed Tryz.func25 rfl rfl rfl rfl (by kernel_rfl) (by simp) rfl rfl ?_
 simp only[ga,seval]
 refine aN rfl (K9 p hp hsm) (fun h=>by cases h) ?_
 simp only[pkA,seval]
 rfl
