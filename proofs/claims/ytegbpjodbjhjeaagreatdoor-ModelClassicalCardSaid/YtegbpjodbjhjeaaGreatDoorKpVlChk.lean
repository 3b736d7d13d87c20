/- Check and Valid of layer 13, and of its reference: what they answer. -/
import Derived.Test.YtegbpjodbjhjeaaGreatDoorKpVlErr
import Derived.Test.YtegbpjodbjhjeaaGreatDoorVlFlb
set_option linter.all false
namespace Go.Proofs.YtegbpjodbjhjeaaGreatDoor.Kp
open Go Go.Vl
set_option maxRecDepth 10000
theorem tH {α:Type} {p:α→Bool} {l:List α} {i k:Nat} (hi:i<l.length) (hk:i<k) (h:p l[i]=true):(l.take k).any p=true:=
 dt.2 ⟨l[i],gw.2 ⟨i,by omega,rfl⟩,h⟩
theorem qz {α:Type} {p:α→Bool} {l:List α} {k:Nat} (h:∀ j (hj:j<l.length),j<k→p l[j]=false):(l.take k).any p=false:=
 kS.2 fun x hx=>by
  obtain⟨j,hj,rfl⟩:=gw.1 hx
  simp[h j (by omega) (by omega)]
theorem MN (n:Int):([23,24,25].any fun e:Int=>decide (n=e))=(decide (23≤n)&&decide (n≤25)):=by
 rw[iL];simp;omega
def mb:=jj @pkA (jj @ptA @pkP)
set_option maxHeartbeats 4000000 in
theorem uv {G:Gl} (l:List Ty) (k:Nat) (hk:k<l.length) (hl:l.length≤9223372036854775807) (hn:∀ t∈l,t.name.size≤9223372036854775807) :
 FnOK Tryz.prog G 106 [.c (.sl (l.map tyC)),i64 k] (i64 (tD l k l[k])):=by
 refine bE (rs:=[.tmp 4]) false [] mixed Tryz.func106 rfl rfl rfl rfl (by kernel_rfl) (by simp) rfl rfl ?_
 have hnk:=hn l[k] (aF hk)
 obtain⟨t,ht⟩:∃ t,l[k]=t:=⟨_,rfl⟩
 rw[ht] at hnk ⊢
 simp only[pkA,seval]
 refine aL (fun h0=>?_) (fun h0=>?_)
 ·simp only[pkA,seval]
  unfold tD;simp only[h0,↓reduceIte]
 simp only[pkA,seval]
 refine df ng rfl kO (by decide) (aD k) (c:=tyC t) (by simp[hk,ht]) rfl ?_
 simp only[mb,seval]
 refine ay rfl (Bs _ hnk) (fun _=>rfl) ?_
 simp only[pkA,seval]
 refine aL (fun h1=>?_) (fun h1=>?_)
 ·simp only[pkA,seval]
  unfold tD;simp only[h0,h1,↓reduceIte,aM]
 simp only[pkA,seval]
 refine ck (fun i:Nat=>hdS [(0,.c (.sl (l.map tyC))),(1,i64 k),(6,i64 i)] []) (fun i=>k - i) (fun i=>i≤k∧∀ j (h:j<l.length),j<i→decide (l[j].name=t.name)=false) 0 ⟨ar _,by simp⟩ ?_ ?_
 ·refine bT rfl (ar _) (by simp) ?_ trivial
  simp[FL,au]
 rintro i ⟨hi,fm⟩ R bS cd cX
 simp only[pkA,seval]
 refine aL (fun bB=>?_) (fun fA=>?_)
 ·have bB:i<k:=by simpa using bB
  have Ny:i<l.length:=by omega
  have hw:=ei (n:=(i:Int)+1) (k:=i+1) (by omega) (by omega)
  simp only[pkA,seval]
  refine df ng rfl kO (by decide) (aD i) (c:=tyC l[i]) (by simp[Ny]) rfl ?_
  simp only[mb,seval]
  refine df ng rfl kO (by decide) (aD k) (c:=tyC t) (by simp[hk,ht]) rfl ?_
  simp only[mb,seval]
  refine aL (fun hy=>?_) (fun hn=>?_)
  ·simp only[pkA,seval]
   refine cX _ ?_
   simp only[pkA,seval]
   have:=tH (p:=fun o:Ty=>decide (o.name=t.name)) Ny bB hy
   unfold tD;simp only[h0,h1,this,↓reduceIte,aM]
  ·simp only[pkA,seval,hw]
   refine bS (i+1) _ ⟨bB,fun j h hj=>?_⟩ (by omega) (bT rfl (ar _) (by simp) (by simp[FL,au]) trivial)
   rcases ct j i with q | q
   ·exact fm j h q
   ·have:j=i:=by omega
    subst this;exact hn
 ·have:i=k:=by simp at fA;omega
  subst this
  have h2:=qz (p:=fun o:Ty=>decide (o.name=t.name)) (k:=i) fm
  simp only[pkA]
  refine cd _ _ ?_
  clear cd cX bS fm
  repeat' first
   |(simp only[mb,seval])
   |refine iK (fun h=>?_) (fun h=>?_)
   |refine aL (fun h=>?_) (fun h=>?_)
   |refine df ng rfl kO (by decide) (aD i) (c:=tyC t) (by simp[hk,ht]) rfl ?_
   |refine ay rfl (yw _ _ _) (fun _=>rfl) ?_
  all_goals (unfold tD;simp only[*,List.any_cons,List.any_nil,tC,K5,kG,lC,lD,↓reduceIte,aM,fC])
set_option maxHeartbeats 4000000 in
theorem PE {G:Gl} (l:List Ru) (k:Nat) (nt:Int) (hk:k<l.length) (hl:l.length≤9223372036854775807) (hnt:0≤nt∧nt≤9223372036854775807) :
 FnOK Tryz.prog G 107 [.c (.sl (l.map ruC)),i64 k,i64 nt] (i64 (tG l k nt l[k])):=by
 refine bE (rs:=[.tmp 6]) false [] mixed Tryz.func107 rfl rfl rfl rfl (by kernel_rfl) (by simp) rfl rfl ?_
 have hw1:=wrap_i64 (nt - 1) (by omega)
 obtain⟨t,ht⟩:∃ t,l[k]=t:=⟨_,rfl⟩
 rw[ht]
 simp only[pkA,seval]
 refine aL (fun h0=>?_) (fun h0=>?_)
 ·simp only[pkA,seval]
  unfold tG;simp only[h0,↓reduceIte]
 have loopk:([⟨t.kind,1,5⟩,⟨t.a,0,nt - 1⟩,⟨t.b,0,nt - 1⟩].any zy)=false→∀ (Q:VE→S→Prop) (body:Code),True:=fun _ _ _=>trivial
 clear loopk
 repeat' first
  |(simp only[mb,seval,hw1])
  |refine iK (fun h=>?_) (fun h=>?_)
  |refine aL (fun h=>?_) (fun h=>?_)
  |refine df tf rfl mz (by decide) (aD k) (c:=ruC t) (by simp[hk,ht]) rfl ?_
  |refine ay rfl (yw _ _ _) (fun _=>rfl) ?_
 all_goals first
  |(unfold tG;simp only[*,List.any_cons,List.any_nil,tC,K5,kG,lC,lD,↓reduceIte,aM,fC];done)
  |have h2:([⟨t.kind,1,5⟩,⟨t.a,0,nt - 1⟩,⟨t.b,0,nt - 1⟩].any zy)=false:=by
    simp only[*,List.any_cons,List.any_nil,tC,K5,kG]
   refine ck (fun i:Nat=>hdS [(0,.c (.sl (l.map ruC))),(1,i64 k),(7,i64 i)] []) (fun i=>k - i) (fun i=>i≤k∧∀ j (h:j<l.length),j<i→decide (t=l[j])=false) 0 ⟨ar _,by simp⟩ ?_ ?_
   ·refine bT rfl (ar _) (by simp) ?_ trivial
    simp[FL,au]
   rintro i ⟨hi,fm⟩ R bS cd cX
   simp only[pkA,seval]
   refine aL (fun bB=>?_) (fun fA=>?_)
   ·have bB:i<k:=by simpa using bB
    have Ny:i<l.length:=by omega
    have hw:=ei (n:=(i:Int)+1) (k:=i+1) (by omega) (by omega)
    simp only[pkA,seval]
    refine df tf rfl mz (by decide) (aD i) (c:=ruC l[i]) (by simp[Ny]) rfl ?_
    simp only[mb,seval]
    refine df tf rfl mz (by decide) (aD k) (c:=ruC t) (by simp[hk,ht]) rfl ?_
    simp only[mb,seval]
    refine aL (fun hy=>?_) (fun hn=>?_)
    ·simp only[pkA,seval]
     refine cX _ ?_
     simp only[pkA,seval]
     have hy:decide (t=l[i])=true:=by simp at hy ⊢;exact hy.symm
     have:=tH (p:=fun o:Ru=>decide (t=o)) Ny bB hy
     unfold tG;simp only[h0,h2,this,↓reduceIte,aM]
    ·simp only[pkA,seval,hw]
     refine bS (i+1) _ ⟨bB,fun j h hj=>?_⟩ (by omega) (bT rfl (ar _) (by simp) (by simp[FL,au]) trivial)
     rcases ct j i with q | q
     ·exact fm j h q
     ·have:j=i:=by omega
      subst this;simp at hn ⊢;exact fun e=>hn e.symm
   ·have:i=k:=by simp at fA;omega
    subst this
    have h3:=qz (p:=fun o:Ru=>decide (t=o)) (k:=i) fm
    simp only[pkA]
    refine cd _ _ ?_
    simp only[pkA,seval]
    unfold tG;simp only[h0,h2,h3,↓reduceIte,aM]
set_option maxHeartbeats 4000000 in
theorem It {G:Gl} (l:List Qu) (k:Nat) (hk:k<l.length) (hl:l.length≤9223372036854775807) :
 FnOK Tryz.prog G 108 [.c (.sl (l.map quC)),i64 k] (i64 (u6 l k l[k])):=by
 refine bE (rs:=[.tmp 4]) false [] mixed Tryz.func108 rfl rfl rfl rfl (by kernel_rfl) (by simp) rfl rfl ?_
 obtain⟨t,ht⟩:∃ t,l[k]=t:=⟨_,rfl⟩
 rw[ht]
 simp only[pkA,seval]
 refine df A6 rfl mU (by decide) (aD k) (c:=quC t) (by simp[hk,ht]) rfl ?_
 have gv:∀ x:List V,x.length=5→eU x 0 ((quC t).map .c)=(quC t).map .c:=fun x hx=>xb (by simp[FG,hx])
 repeat' first
  |(simp only[mb,seval,gv])
  |refine iK (fun h=>?_) (fun h=>?_)
  |refine aL (fun h=>?_) (fun h=>?_)
  |refine ay rfl (yw _ _ _) (fun _=>rfl) ?_
 all_goals first
  |(unfold u6;rw[MN];simp only[*,List.any_cons,List.any_nil,tC,K5,kG,lC,lD,↓reduceIte,aM,fC];done)
  |have h2:([⟨t.cmd,1,27⟩,⟨t.count,1,16⟩,⟨t.delay,0,1099511627776⟩,⟨t.valid,t.delay,1099511627776⟩,⟨t.uses,1,1048576⟩].any zy)=false:=by
    simp only[*,List.any_cons,List.any_nil,tC,K5,kG]
   have h4:([23,24,25].any fun e:Int=>decide (t.cmd=e))=false:=by rw[MN];assumption
   refine ck (fun i:Nat=>hdS [(0,.c (.sl (l.map quC))),(1,i64 k),(5,.bp 0 0),(6,i64 i)] [(quC t).map .c]) (fun i=>k - i) (fun i=>i≤k∧∀ j (h:j<l.length),j<i→decide (l[j].cmd=t.cmd)=false) 0 ⟨ar _,by simp⟩ ?_ ?_
   ·refine bT (by simp only[eQ,aN,aX,eM,aC,aH];rfl) (ar _) (by simp) ?_ ?_
    ·simp[FL,au]
    ·simp[BL]
   rintro i ⟨hi,fm⟩ R bS cd cX
   simp only[pkA,seval]
   refine aL (fun bB=>?_) (fun fA=>?_)
   ·have bB:i<k:=by simpa using bB
    have Ny:i<l.length:=by omega
    have hw:=ei (n:=(i:Int)+1) (k:=i+1) (by omega) (by omega)
    simp only[pkA,seval]
    refine df A6 rfl mU (by decide) (aD i) (c:=quC l[i]) (by simp[Ny]) rfl ?_
    simp only[mb,seval]
    refine aL (fun hy=>?_) (fun hn=>?_)
    ·simp only[pkA,seval]
     refine cX _ ?_
     simp only[pkA,seval]
     have:=tH (p:=fun o:Qu=>decide (o.cmd=t.cmd)) Ny bB hy
     unfold u6;simp only[h2,h4,this,↓reduceIte,aM]
    ·simp only[pkA,seval,hw]
     refine bS (i+1) _ ⟨bB,fun j h hj=>?_⟩ (by omega) (bT (by simp only[eQ,aN,aX,eM,aC,aH];rfl) (ar _) (by simp) (by simp[FL,au]) (by simp[BL,bxs]))
     rcases ct j i with q | q
     ·exact fm j h q
     ·have:j=i:=by omega
      subst this;exact hn
   ·have:i=k:=by simp at fA;omega
    subst this
    have h3:=qz (p:=fun o:Qu=>decide (o.cmd=t.cmd)) (k:=i) fm
    simp only[pkA]
    refine cd _ _ ?_
    simp only[pkA,seval]
    unfold u6;simp only[h2,h3,h4,↓reduceIte,aM]
def tyE (l:List Ty) (k:Nat):Int:=match l[k]? with
 |some t=>tD l k t
 |none=>0
def ruE (l:List Ru) (k:Nat) (nt:Int):Int:=match l[k]? with
 |some t=>tG l k nt t
 |none=>0
def quE (l:List Qu) (k:Nat):Int:=match l[k]? with
 |some t=>u6 l k t
 |none=>0
theorem Ux {l:List Ty} {k:Nat} (h:k<l.length):tyE l k=tD l k l[k]:=by simp[tyE,h]
theorem Uy {l:List Ru} {k:Nat} {nt:Int} (h:k<l.length):ruE l k nt=tG l k nt l[k]:=by simp[ruE,h]
theorem Uz {l:List Qu} {k:Nat} (h:k<l.length):quE l k=u6 l k l[k]:=by simp[quE,h]
def gj (p:Pol):Nat:=p.types.length+p.rules.length+p.quorums.length
def itE (p:Pol) (k:Nat):Int:=if k<p.types.length then tyE p.types k else if k<p.types.length+p.rules.length then ruE p.rules (k - p.types.length) p.types.length else quE p.quorums (k - p.types.length - p.rules.length)
def chk (p:Pol):Int×Int:=if mY p.name=true then(match(List.range (gj p)).find? (fun k=>!decide (itE p k=0)) with
 |some k=>((k:Int),itE p k)
 |none=>(0,0)) else(-1,4)
theorem FQ {p:Pol} {k:Nat} (hn:mY p.name=true) (hk:k<gj p) (h:itE p k≠0) (fm:∀ j,j<k→itE p j=0):chk p=((k:Int),itE p k):=by
 have:(List.range (gj p)).find? (fun k=>!decide (itE p k=0))=some k:=by
  rw[List.find?_range_eq_some]
  exact⟨by simpa using h,by simpa using hk,fun j hj=>by simp[fm j hj]⟩
 simp[chk,hn,this]
theorem Iu {p:Pol} (hn:mY p.name=true) (fm:∀ j,j<gj p→itE p j=0):chk p=(0,0):=by
 have:(List.range (gj p)).find? (fun k=>!decide (itE p k=0))=none:=by
  rw[List.find?_eq_none]
  intro j hj
  simp[fm j (by simpa using hj)]
 simp[chk,hn,this]
theorem Iv {p:Pol} (hn:mY p.name=false):chk p=(-1,4):=by simp[chk,hn]
theorem PolIn.nm {p:Pol} (h:PolIn p):p.name.size≤9223372036854775807:=by have:=h.name;unfold maxLen at this;omega
theorem PolIn.tn {p:Pol} (h:PolIn p):∀ t∈p.types,t.name.size≤9223372036854775807:=fun t ht=>by have:=(h.types t ht).1;unfold maxLen at this;omega
set_option maxHeartbeats 4000000 in
theorem UA {G:Gl} (hG:G 0=some [.lit (.int .i64 23),.lit (.int .i64 24),.lit (.int .i64 25)]) (p:Pol) (hp:PolIn p) (Jl:gj p≤4611686018427387904) :
 FnOK Tryz.prog G 120 [.agg (poC p)] (.tup [i64 (chk p).1,i64 (chk p).2]):=by
 refine bE (rs:=[.tmp 2,.tmp 3]) false [] mixed Tryz.func120 rfl rfl rfl rfl (by kernel_rfl) (by simp) rfl rfl ?_
 obtain⟨o1,o2,o3⟩:=hp.ok
 have hit:gj p=p.types.length+p.rules.length+p.quorums.length:=rfl
 simp only[mb,seval]
 refine ay rfl (MM _ hp.nm) (fun _=>rfl) ?_
 simp only[pkA,seval]
 refine aL (fun hn=>?_) (fun hn=>?_)
 ·have hn:mY p.name=false:=by simpa using hn
  simp only[pkA,seval]
  rw[Iv hn]
  refine lW ?_ ?_<;>simp only[pkA,seval]
 have hn:mY p.name=true:=by simpa using hn
 have w1:=ei (n:=(p.types.length:Int)+p.rules.length) (k:=p.types.length+p.rules.length) (by omega) (by omega)
 have w2:=ei (n:=((p.types.length+p.rules.length:Nat):Int)+p.quorums.length) (k:=gj p) (by unfold gj;omega) (by unfold gj;omega)
 simp only[mb,seval,am,w1,w2]
 refine ck (fun i:Nat=>hdS [(1,.bp 0 0),(4,i64 p.types.length),(5,i64 p.rules.length),(24,i64 (gj p)),(25,i64 i)] [(poC p).map .c]) (fun i=>gj p - i) (fun i=>i≤gj p∧∀ j,j<i→itE p j=0) 0 ⟨ar _,by simp⟩ ?_ ?_
 ·refine bT (by simp only[eQ,aN,aX,eM,aC,aH];rfl) (ar _) (by simp) ?_ ?_
  ·simp[FL,au]
  ·simp[BL]
 rintro i ⟨hi,fm⟩ R bS cd cX
 simp only[pkA,seval]
 refine aL (fun bB=>?_) (fun fA=>?_)
 ·have bB:i<gj p:=by simpa using bB
  have hw:=ei (n:=(i:Int)+1) (k:=i+1) (by omega) (by omega)
  have bad:itE p i≠0→chk p=((i:Int),itE p i):=fun h=>FQ hn bB h fm
  have good:itE p i=0→∀ j,j<i+1→itE p j=0:=fun h j hj=>by
   rcases ct j i with q | q
   ·exact fm j q
   ·have:j=i:=by omega
    subst this;exact h
  simp only[pkA,seval]
  refine aL (fun ht=>?_) (fun ht=>?_)
  ·have ht:i<p.types.length:=by simpa using ht
   have e:itE p i=tD p.types i p.types[i]:=by unfold itE;rw[if_pos ht,Ux ht]
   rw[e] at bad good
   simp only[mb,seval]
   refine ay rfl (FO p.types i ht o1 hp.tn) (fun _=>rfl) ?_
   simp only[pkA,seval]
   refine aL (fun hb=>?_) (fun hg=>?_)
   ·simp only[pkA,seval]
    refine cX _ ?_
    simp only[pkA]
    rw[bad (by simpa using hb)]
    refine lW ?_ ?_<;>simp only[pkA,seval]
   ·simp only[pkA,seval,hw]
    exact bS (i+1) _ ⟨bB,good (by simpa using hg)⟩ (by omega) (bT (by simp only[eQ,aN,aX,eM,aC,aH];rfl) (ar _) (by simp) (by simp[FL,au]) (by simp[BL,bxs]))
  have ht:p.types.length≤i:=by simpa using ht
  have v1:=ei (n:=(i:Int) - p.types.length) (k:=i - p.types.length) (by omega) (by omega)
  simp only[pkA,seval,w1]
  refine aL (fun hr=>?_) (fun hr=>?_)
  ·have hr:i<p.types.length+p.rules.length:=by simp at hr;omega
   have Js:i - p.types.length<p.rules.length:=by omega
   have e:itE p i=tG p.rules (i - p.types.length) p.types.length p.rules[i - p.types.length]:=by unfold itE;rw[if_neg (by omega),if_pos hr,Uy Js]
   rw[e] at bad good
   simp only[mb,seval,v1]
   refine ay rfl (FP p.rules (i - p.types.length) p.types.length Js o2 (by omega)) (fun _=>rfl) ?_
   simp only[pkA,seval]
   refine aL (fun hb=>?_) (fun hg=>?_)
   ·simp only[pkA,seval]
    refine cX _ ?_
    simp only[pkA]
    rw[bad (by simpa using hb)]
    refine lW ?_ ?_<;>simp only[pkA,seval]
   ·simp only[pkA,seval,hw]
    exact bS (i+1) _ ⟨bB,good (by simpa using hg)⟩ (by omega) (bT (by simp only[eQ,aN,aX,eM,aC,aH];rfl) (ar _) (by simp) (by simp[FL,au]) (by simp[BL,bxs]))
  have hr:p.types.length+p.rules.length≤i:=by simp at hr;omega
  have Js:i - p.types.length - p.rules.length<p.quorums.length:=by unfold gj at bB;omega
  have v2:=ei (n:=((i - p.types.length:Nat):Int) - p.rules.length) (k:=i - p.types.length - p.rules.length) (by omega) (by omega)
  have e:itE p i=u6 p.quorums (i - p.types.length - p.rules.length) p.quorums[i - p.types.length - p.rules.length]:=by unfold itE;rw[if_neg (by omega),if_neg (by omega),Uz Js]
  rw[e] at bad good
  simp only[mb,seval,v1,v2]
  refine ay rfl (Bv hG p.quorums (i - p.types.length - p.rules.length) Js o3) (fun _=>rfl) ?_
  simp only[pkA,seval]
  refine aL (fun hb=>?_) (fun hg=>?_)
  ·simp only[pkA,seval]
   refine cX _ ?_
   simp only[pkA]
   rw[bad (by simpa using hb)]
   refine lW ?_ ?_<;>simp only[pkA,seval]
  ·simp only[pkA,seval,hw]
   exact bS (i+1) _ ⟨bB,good (by simpa using hg)⟩ (by omega) (bT (by simp only[eQ,aN,aX,eM,aC,aH];rfl) (ar _) (by simp) (by simp[FL,au]) (by simp[BL,bxs]))
 ·have:i=gj p:=by simp at fA;omega
  subst this
  simp only[pkA]
  refine cd _ _ ?_
  simp only[pkA,seval]
  rw[Iu hn fm]
  refine lW ?_ ?_<;>simp only[pkA,seval]
def gu (p:Pol):Bool:=decide ((chk p).2=0)
set_option maxHeartbeats 1000000 in
theorem ib {G:Gl} (hG:G 0=some [.lit (.int .i64 23),.lit (.int .i64 24),.lit (.int .i64 25)]) (p:Pol) (hp:PolIn p) (Jl:gj p≤4611686018427387904) :
 FnOK Tryz.prog G 86 [.agg (poC p)] (bo (gu p)):=by
 refine bE (rs:=[.tmp 2]) false [] mixed Tryz.func86 rfl rfl rfl rfl (by kernel_rfl) (by simp) rfl rfl ?_
 simp only[mb,seval]
 refine ay rfl (UA hG p hp Jl) (fun h=>by cases h) ?_
 simp only[pkA,seval]
 rfl
