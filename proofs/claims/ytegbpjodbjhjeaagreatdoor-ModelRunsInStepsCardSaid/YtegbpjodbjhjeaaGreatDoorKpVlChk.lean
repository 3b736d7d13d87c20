/- Check and Valid of layer 13, and of its reference: what they answer. -/
import Derived.Test.YtegbpjodbjhjeaaGreatDoorKpVlErr
import Derived.Test.YtegbpjodbjhjeaaGreatDoorVlFlb
set_option linter.all false
namespace Go.Proofs.YtegbpjodbjhjeaaGreatDoor.Kp
open Go Go.Vl
set_option maxRecDepth 10000
theorem DL {α:Type} {p:α→Bool} {l:List α} {i k:Nat} (hi:i<l.length) (hk:i<k) (h:p l[i]=true):(l.take k).any p=true:=
 dE.2 ⟨l[i],fx.2 ⟨i,by omega,rfl⟩,h⟩
theorem x8 {α:Type} {p:α→Bool} {l:List α} {k:Nat} (h:∀ j (hj:j<l.length),j<k→p l[j]=false):(l.take k).any p=false:=
 List.any_eq_false.2 fun x hx=>by
  obtain⟨j,hj,rfl⟩:=fx.1 hx
  simp[h j (by omega) (by omega)]
def n0:=jj @pkA (jj @ptA @pkP)
set_option maxHeartbeats 4000000 in
theorem uh {G:Gl} (l:List Ty) (k:Nat) (hk:k<l.length) (hl:l.length≤9223372036854775807) (hn:∀ t∈l,t.name.size≤9223372036854775807) :
 FnOK Tryz.prog G 106 [.c (.sl (l.map tyC)),i64 k] (i64 (qW l k l[k])):=by
 refine bP (rs:=[.tmp 4]) false [] mixed Tryz.func106 rfl rfl rfl rfl (by kernel_rfl) (by simp) rfl rfl ?_
 have hnk:=hn l[k] (aL hk)
 obtain⟨t,ht⟩:∃ t,l[k]=t:=⟨_,rfl⟩
 rw[ht] at hnk ⊢
 simp only[pkA,seval]
 refine aZ (fun h0=>?_) (fun h0=>?_)
 ·simp only[pkA,seval]
  unfold qW;simp only[h0,↓reduceIte]
 simp only[pkA,seval]
 refine dL mF rfl jN (by decide) (aM k) (c:=tyC t) (by simp[hk,ht]) rfl ?_
 simp only[n0,seval]
 refine aD rfl (Ge _ hnk) (fun _=>rfl) ?_
 simp only[pkA,seval]
 refine aZ (fun h1=>?_) (fun h1=>?_)
 ·simp only[pkA,seval]
  unfold qW;simp only[h0,h1,↓reduceIte,aS]
 simp only[pkA,seval]
 refine cZ (fun i:Nat=>hdS [(0,.c (.sl (l.map tyC))),(1,i64 k),(6,i64 i)] []) (fun i=>k - i) (fun i=>i≤k∧∀ j (h:j<l.length),j<i→decide (l[j].name=t.name)=false) 0 ⟨aA _,by simp⟩ ?_ ?_
 ·refine cR rfl (aA _) (by simp) ?_ trivial
  simp[FL,ar]
 rintro i ⟨hi,hno⟩ R hnorm hexit hret
 simp only[pkA,seval]
 refine aZ (fun hlt=>?_) (fun hge=>?_)
 ·have hlt:i<k:=by simpa using hlt
  have hil:i<l.length:=by omega
  have hw:=fj (n:=(i:Int)+1) (k:=i+1) (by omega) (by omega)
  simp only[pkA,seval]
  refine dL mF rfl jN (by decide) (aM i) (c:=tyC l[i]) (by simp[hil]) rfl ?_
  simp only[n0,seval]
  refine dL mF rfl jN (by decide) (aM k) (c:=tyC t) (by simp[hk,ht]) rfl ?_
  simp only[n0,seval]
  refine aZ (fun hy=>?_) (fun hn=>?_)
  ·simp only[pkA,seval]
   refine hret _ ?_
   simp only[pkA,seval]
   have:=DL (p:=fun o:Ty=>decide (o.name=t.name)) hil hlt hy
   unfold qW;simp only[h0,h1,this,↓reduceIte,aS]
  ·simp only[pkA,seval,hw]
   refine hnorm (i+1) _ ⟨hlt,fun j h hj=>?_⟩ (by omega) (cR rfl (aA _) (by simp) (by simp[FL,ar]) trivial)
   rcases cx j i with q | q
   ·exact hno j h q
   ·have:j=i:=by omega
    subst this;exact hn
 ·have:i=k:=by simp at hge;omega
  subst this
  have h2:=x8 (p:=fun o:Ty=>decide (o.name=t.name)) (k:=i) hno
  simp only[pkA]
  refine hexit _ _ ?_
  clear hexit hret hnorm hno
  repeat' first
   |(simp only[n0,seval])
   |refine jc (fun h=>?_) (fun h=>?_)
   |refine aZ (fun h=>?_) (fun h=>?_)
   |refine dL mF rfl jN (by decide) (aM i) (c:=tyC t) (by simp[hk,ht]) rfl ?_
   |refine aD rfl (Kl _ _ _) (fun _=>rfl) ?_
  all_goals (unfold qW;simp only[*,List.any_cons,List.any_nil,Pj,X7,Bool.or_false,Bool.true_or,Bool.or_true,↓reduceIte,aS,Bool.not_false])
def tyE (l:List Ty) (k:Nat):Int:=match l[k]? with
 |some t=>qW l k t
 |none=>0
def ruE (l:List Ru) (k:Nat) (nt:Int):Int:=match l[k]? with
 |some t=>DJ l k nt t
 |none=>0
def quE (l:List Qu) (k:Nat):Int:=match l[k]? with
 |some t=>DK l k t
 |none=>0
theorem X8 {l:List Ty} {k:Nat} (h:k<l.length):tyE l k=qW l k l[k]:=by simp[tyE,h]
theorem X9 {l:List Ru} {k:Nat} {nt:Int} (h:k<l.length):ruE l k nt=DJ l k nt l[k]:=by simp[ruE,h]
theorem Ya {l:List Qu} {k:Nat} (h:k<l.length):quE l k=DK l k l[k]:=by simp[quE,h]
def gr (p:Pol):Nat:=p.types.length+p.rules.length+p.quorums.length
def itE (p:Pol) (k:Nat):Int:=if k<p.types.length then tyE p.types k else if k<p.types.length+p.rules.length then ruE p.rules (k - p.types.length) p.types.length else quE p.quorums (k - p.types.length - p.rules.length)
def chk (p:Pol):Int×Int:=if mg p.name=true then(match(List.range (gr p)).find? (fun k=>!decide (itE p k=0)) with
 |some k=>((k:Int),itE p k)
 |none=>(0,0)) else(-1,4)
theorem Yb {p:Pol} {k:Nat} (hn:mg p.name=true) (hk:k<gr p) (h:itE p k≠0) (hno:∀ j,j<k→itE p j=0):chk p=((k:Int),itE p k):=by
 have:(List.range (gr p)).find? (fun k=>!decide (itE p k=0))=some k:=by
  rw[List.find?_range_eq_some]
  exact⟨by simpa using h,by simpa using hk,fun j hj=>by simp[hno j hj]⟩
 simp[chk,hn,this]
theorem Pk {p:Pol} (hn:mg p.name=true) (hno:∀ j,j<gr p→itE p j=0):chk p=(0,0):=by
 have:(List.range (gr p)).find? (fun k=>!decide (itE p k=0))=none:=by
  rw[List.find?_eq_none]
  intro j hj
  simp[hno j (by simpa using hj)]
 simp[chk,hn,this]
theorem Pl {p:Pol} (hn:mg p.name=false):chk p=(-1,4):=by simp[chk,hn]
theorem PolIn.nm {p:Pol} (h:PolIn p):p.name.size≤9223372036854775807:=by have:=h.name;unfold maxLen at this;omega
theorem PolIn.tn {p:Pol} (h:PolIn p):∀ t∈p.types,t.name.size≤9223372036854775807:=fun t ht=>by have:=(h.types t ht).1;unfold maxLen at this;omega
set_option maxHeartbeats 4000000 in
theorem Pm {G:Gl} (hG:G 0=some [.lit (.int .i64 23),.lit (.int .i64 24),.lit (.int .i64 25)]) (p:Pol) (hp:PolIn p) (hsm:gr p≤4611686018427387904) :
 FnOK Tryz.prog G 120 [.agg (poC p)] (.tup [i64 (chk p).1,i64 (chk p).2]):=by
 refine bP (rs:=[.tmp 2,.tmp 3]) false [] mixed Tryz.func120 rfl rfl rfl rfl (by kernel_rfl) (by simp) rfl rfl ?_
 obtain⟨o1,o2,o3⟩:=hp.ok
 have hit:gr p=p.types.length+p.rules.length+p.quorums.length:=rfl
 simp only[n0,seval]
 refine aD rfl (Hu _ hp.nm) (fun _=>rfl) ?_
 simp only[pkA,seval]
 refine aZ (fun hn=>?_) (fun hn=>?_)
 ·have hn:mg p.name=false:=by simpa using hn
  simp only[pkA,seval]
  rw[Pl hn]
  refine pP ?_ ?_<;>simp only[pkA,seval]
 have hn:mg p.name=true:=by simpa using hn
 have w1:=fj (n:=(p.types.length:Int)+p.rules.length) (k:=p.types.length+p.rules.length) (by omega) (by omega)
 have w2:=fj (n:=((p.types.length+p.rules.length:Nat):Int)+p.quorums.length) (k:=gr p) (by unfold gr;omega) (by unfold gr;omega)
 simp only[n0,seval,ap,w1,w2]
 refine cZ (fun i:Nat=>hdS [(1,.bp 0 0),(4,i64 p.types.length),(5,i64 p.rules.length),(24,i64 (gr p)),(25,i64 i)] [(poC p).map .c]) (fun i=>gr p - i) (fun i=>i≤gr p∧∀ j,j<i→itE p j=0) 0 ⟨aA _,by simp⟩ ?_ ?_
 ·refine cR (by simp only[fC,bh,bq,hZ,aC,aJ];rfl) (aA _) (by simp) ?_ ?_
  ·simp[FL,ar]
  ·simp[BL]
 rintro i ⟨hi,hno⟩ R hnorm hexit hret
 simp only[pkA,seval]
 refine aZ (fun hlt=>?_) (fun hge=>?_)
 ·have hlt:i<gr p:=by simpa using hlt
  have hw:=fj (n:=(i:Int)+1) (k:=i+1) (by omega) (by omega)
  have bad:itE p i≠0→chk p=((i:Int),itE p i):=fun h=>Yb hn hlt h hno
  have good:itE p i=0→∀ j,j<i+1→itE p j=0:=fun h j hj=>by
   rcases cx j i with q | q
   ·exact hno j q
   ·have:j=i:=by omega
    subst this;exact h
  simp only[pkA,seval]
  refine aZ (fun ht=>?_) (fun ht=>?_)
  ·have ht:i<p.types.length:=by simpa using ht
   have e:itE p i=qW p.types i p.types[i]:=by unfold itE;rw[if_pos ht,X8 ht]
   rw[e] at bad good
   simp only[n0,seval]
   refine aD rfl (Bi p.types i ht o1 hp.tn) (fun _=>rfl) ?_
   simp only[pkA,seval]
   refine aZ (fun hb=>?_) (fun hg=>?_)
   ·simp only[pkA,seval]
    refine hret _ ?_
    simp only[pkA]
    rw[bad (by simpa using hb)]
    refine pP ?_ ?_<;>simp only[pkA,seval]
   ·simp only[pkA,seval,hw]
    exact hnorm (i+1) _ ⟨hlt,good (by simpa using hg)⟩ (by omega) (cR (by simp only[fC,bh,bq,hZ,aC,aJ];rfl) (aA _) (by simp) (by simp[FL,ar]) (by simp[BL,bxs]))
  have ht:p.types.length≤i:=by simpa using ht
  have v1:=fj (n:=(i:Int) - p.types.length) (k:=i - p.types.length) (by omega) (by omega)
  simp only[pkA,seval,w1]
  refine aZ (fun hr=>?_) (fun hr=>?_)
  ·have hr:i<p.types.length+p.rules.length:=by simp at hr;omega
   have hr2:i - p.types.length<p.rules.length:=by omega
   have e:itE p i=DJ p.rules (i - p.types.length) p.types.length p.rules[i - p.types.length]:=by unfold itE;rw[if_neg (by omega),if_pos hr,X9 hr2]
   rw[e] at bad good
   simp only[n0,seval,v1]
   refine aD rfl (Bj p.rules (i - p.types.length) p.types.length hr2 o2 (by omega)) (fun _=>rfl) ?_
   simp only[pkA,seval]
   refine aZ (fun hb=>?_) (fun hg=>?_)
   ·simp only[pkA,seval]
    refine hret _ ?_
    simp only[pkA]
    rw[bad (by simpa using hb)]
    refine pP ?_ ?_<;>simp only[pkA,seval]
   ·simp only[pkA,seval,hw]
    exact hnorm (i+1) _ ⟨hlt,good (by simpa using hg)⟩ (by omega) (cR (by simp only[fC,bh,bq,hZ,aC,aJ];rfl) (aA _) (by simp) (by simp[FL,ar]) (by simp[BL,bxs]))
  have hr:p.types.length+p.rules.length≤i:=by simp at hr;omega
  have hr2:i - p.types.length - p.rules.length<p.quorums.length:=by unfold gr at hlt;omega
  have v2:=fj (n:=((i - p.types.length:Nat):Int) - p.rules.length) (k:=i - p.types.length - p.rules.length) (by omega) (by omega)
  have e:itE p i=DK p.quorums (i - p.types.length - p.rules.length) p.quorums[i - p.types.length - p.rules.length]:=by unfold itE;rw[if_neg (by omega),if_neg (by omega),Ya hr2]
  rw[e] at bad good
  simp only[n0,seval,v1,v2]
  refine aD rfl (xd hG p.quorums (i - p.types.length - p.rules.length) hr2 o3) (fun _=>rfl) ?_
  simp only[pkA,seval]
  refine aZ (fun hb=>?_) (fun hg=>?_)
  ·simp only[pkA,seval]
   refine hret _ ?_
   simp only[pkA]
   rw[bad (by simpa using hb)]
   refine pP ?_ ?_<;>simp only[pkA,seval]
  ·simp only[pkA,seval,hw]
   exact hnorm (i+1) _ ⟨hlt,good (by simpa using hg)⟩ (by omega) (cR (by simp only[fC,bh,bq,hZ,aC,aJ];rfl) (aA _) (by simp) (by simp[FL,ar]) (by simp[BL,bxs]))
 ·have:i=gr p:=by simp at hge;omega
  subst this
  simp only[pkA]
  refine hexit _ _ ?_
  simp only[pkA,seval]
  rw[Pk hn hno]
  refine pP ?_ ?_<;>simp only[pkA,seval]
def gB (p:Pol):Bool:=decide ((chk p).2=0)
set_option maxHeartbeats 1000000 in
theorem fV {G:Gl} (hG:G 0=some [.lit (.int .i64 23),.lit (.int .i64 24),.lit (.int .i64 25)]) (p:Pol) (hp:PolIn p) (hsm:gr p≤4611686018427387904) :
 FnOK Tryz.prog G 86 [.agg (poC p)] (bo (gB p)):=by
 refine bP (rs:=[.tmp 2]) false [] mixed Tryz.func86 rfl rfl rfl rfl (by kernel_rfl) (by simp) rfl rfl ?_
 simp only[n0,seval]
 refine aD rfl (Pm hG p hp hsm) (fun h=>by cases h) ?_
 simp only[pkA,seval]
 rfl
