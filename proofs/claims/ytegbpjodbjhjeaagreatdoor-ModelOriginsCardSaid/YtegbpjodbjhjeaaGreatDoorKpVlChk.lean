/- Check and Valid of layer 13, and of its reference: what they answer. -/
import Derived.Test.YtegbpjodbjhjeaaGreatDoorKpVlErr
import Derived.Test.YtegbpjodbjhjeaaGreatDoorVlFlb
set_option maxHeartbeats 4000000
set_option linter.all false
namespace Go.Proofs.YtegbpjodbjhjeaaGreatDoor.Kp
open Go Go.Vl
set_option maxRecDepth 10000
theorem Hm {α:Type} {p:α→Bool} {l:List α} {i k:Nat} (hi:i<l.length) (hk:i<k) (h:p l[i]=true):(l.take k).any p=true:=
 dp.2 ⟨l[i],fV.2 ⟨i,by omega,rfl⟩,h⟩
theorem Bl {α:Type} {p:α→Bool} {l:List α} {k:Nat} (h:∀ j (hj:j<l.length),j<k→p l[j]=false):(l.take k).any p=false:=
 List.any_eq_false.2 fun x hx=>by
  obtain⟨j,hj,rfl⟩:=fV.1 hx
  simp[h j (by omega) (by omega)]
def qc:=jj @pkA (jj @ptA @pkP)
theorem xr {G:Gl} (l:List Ty) (k:Nat) (hk:k<l.length) (hl:l.length≤9223372036854775807) (hn:∀ t∈l,t.name.size≤9223372036854775807) :
 FnOK Tryz.prog G 106 [.c (.sl (l.map tyC)),i64 k] (i64 (uh l k l[k])):=by
 refine bP (rs:=[.tmp 4]) false [] mixed Tryz.func106 rfl rfl rfl rfl (by kernel_rfl) (by simp) rfl rfl ?_
 have hnk:=hn l[k] (aF hk)
 obtain⟨t,ht⟩:∃ t,l[k]=t:=⟨_,rfl⟩
 rw[ht] at hnk ⊢
 simp only[pkA,seval]
 refine aV (fun h0=>?_) (fun h0=>?_)
 ·simp only[pkA,seval]
  unfold uh;simp only[h0,↓reduceIte]
 simp only[pkA,seval]
 refine dz nw rfl kM (by decide) (aI k) (c:=tyC t) (by simp[hk,ht]) rfl ?_
 simp only[qc,seval]
 refine aD rfl (JR _ hnk) (fun _=>rfl) ?_
 simp only[pkA,seval]
 refine aV (fun h1=>?_) (fun h1=>?_)
 ·simp only[pkA,seval]
  unfold uh;simp only[h0,h1,↓reduceIte,aS]
 simp only[pkA,seval]
 refine cF (fun i:Nat=>hdS [(0,.c (.sl (l.map tyC))),(1,i64 k),(6,i64 i)] []) (fun i=>k - i) (fun i=>i≤k∧∀ j (h:j<l.length),j<i→decide (l[j].name=t.name)=false) 0 ⟨au _,by simp⟩ ?_ ?_
 ·refine cj rfl (au _) (by simp) ?_ trivial
  simp[FL,ar]
 rintro i ⟨hi,fU⟩ R ck cG dn
 simp only[pkA,seval]
 refine aV (fun bF=>?_) (fun ga=>?_)
 ·have bF:i<k:=by simpa using bF
  have Y1:i<l.length:=by omega
  have hw:=fa (n:=(i:Int)+1) (k:=i+1) (by omega) (by omega)
  simp only[pkA,seval]
  refine dz nw rfl kM (by decide) (aI i) (c:=tyC l[i]) (by simp[Y1]) rfl ?_
  simp only[qc,seval]
  refine dz nw rfl kM (by decide) (aI k) (c:=tyC t) (by simp[hk,ht]) rfl ?_
  simp only[qc,seval]
  refine aV (fun hy=>?_) (fun hn=>?_)
  ·simp only[pkA,seval]
   refine dn _ ?_
   simp only[pkA,seval]
   have:=Hm (p:=fun o:Ty=>decide (o.name=t.name)) Y1 bF hy
   unfold uh;simp only[h0,h1,this,↓reduceIte,aS]
  ·simp only[pkA,seval,hw]
   refine ck (i+1) _ ⟨bF,fun j h hj=>?_⟩ (by omega) (cj rfl (au _) (by simp) (by simp[FL,ar]) trivial)
   rcases cN j i with q | q
   ·exact fU j h q
   ·have:j=i:=by omega
    subst this;exact hn
 ·have:i=k:=by simp at ga;omega
  subst this
  have h2:=Bl (p:=fun o:Ty=>decide (o.name=t.name)) (k:=i) fU
  simp only[pkA]
  refine cG _ _ ?_
  clear cG dn ck fU
  repeat' first
   |(simp only[qc,seval])
   |refine jc (fun h=>?_) (fun h=>?_)
   |refine aV (fun h=>?_) (fun h=>?_)
   |refine dz nw rfl kM (by decide) (aI i) (c:=tyC t) (by simp[hk,ht]) rfl ?_
   |refine aD rfl (Ov _ _ _) (fun _=>rfl) ?_
  all_goals (unfold uh;simp only[*,List.any_cons,List.any_nil,Tf,aa1,Bool.or_false,Bool.true_or,Bool.or_true,↓reduceIte,aS,j3])
def tyE (l:List Ty) (k:Nat):Int:=match l[k]? with
 |some t=>uh l k t
 |none=>0
def ruE (l:List Ru) (k:Nat) (nt:Int):Int:=match l[k]? with
 |some t=>Hk l k nt t
 |none=>0
def quE (l:List Qu) (k:Nat):Int:=match l[k]? with
 |some t=>Hl l k t
 |none=>0
theorem aa2 {l:List Ty} {k:Nat} (h:k<l.length):tyE l k=uh l k l[k]:=by simp[tyE,h]
theorem aa3 {l:List Ru} {k:Nat} {nt:Int} (h:k<l.length):ruE l k nt=Hk l k nt l[k]:=by simp[ruE,h]
theorem aa4 {l:List Qu} {k:Nat} (h:k<l.length):quE l k=Hl l k l[k]:=by simp[quE,h]
def ij (p:Pol):Nat:=p.types.length+p.rules.length+p.quorums.length
def itE (p:Pol) (k:Nat):Int:=if k<p.types.length then tyE p.types k else if k<p.types.length+p.rules.length then ruE p.rules (k - p.types.length) p.types.length else quE p.quorums (k - p.types.length - p.rules.length)
def chk (p:Pol):Int×Int:=if nC p.name=true then(match(List.range (ij p)).find? (fun k=>!decide (itE p k=0)) with
 |some k=>((k:Int),itE p k)
 |none=>(0,0)) else(-1,4)
theorem aa5 {p:Pol} {k:Nat} (hn:nC p.name=true) (hk:k<ij p) (h:itE p k≠0) (fU:∀ j,j<k→itE p j=0):chk p=((k:Int),itE p k):=by
 have:(List.range (ij p)).find? (fun k=>!decide (itE p k=0))=some k:=by
  rw[List.find?_range_eq_some]
  exact⟨by simpa using h,by simpa using hk,fun j hj=>by simp[fU j hj]⟩
 simp[chk,hn,this]
theorem Tg {p:Pol} (hn:nC p.name=true) (fU:∀ j,j<ij p→itE p j=0):chk p=(0,0):=by
 have:(List.range (ij p)).find? (fun k=>!decide (itE p k=0))=none:=by
  rw[List.find?_eq_none]
  intro j hj
  simp[fU j (by simpa using hj)]
 simp[chk,hn,this]
theorem Ti {p:Pol} (hn:nC p.name=false):chk p=(-1,4):=by simp[chk,hn]
theorem PolIn.nm {p:Pol} (h:PolIn p):p.name.size≤9223372036854775807:=by have:=h.name;unfold maxLen at this;omega
theorem PolIn.tn {p:Pol} (h:PolIn p):∀ t∈p.types,t.name.size≤9223372036854775807:=fun t ht=>by have:=(h.types t ht).1;unfold maxLen at this;omega
theorem Tj {G:Gl} (hG:G 0=some [.lit (.int .i64 23),.lit (.int .i64 24),.lit (.int .i64 25)]) (p:Pol) (hp:PolIn p) (OT:ij p≤4611686018427387904) :
 FnOK Tryz.prog G 120 [.agg (poC p)] (.tup [i64 (chk p).1,i64 (chk p).2]):=by
 refine bP (rs:=[.tmp 2,.tmp 3]) false [] mixed Tryz.func120 rfl rfl rfl rfl (by kernel_rfl) (by simp) rfl rfl ?_
 obtain⟨o1,o2,o3⟩:=hp.ok
 have hit:ij p=p.types.length+p.rules.length+p.quorums.length:=rfl
 simp only[qc,seval]
 refine aD rfl (Ly _ hp.nm) (fun _=>rfl) ?_
 simp only[pkA,seval]
 refine aV (fun hn=>?_) (fun hn=>?_)
 ·have hn:nC p.name=false:=by simpa using hn
  simp only[pkA,seval]
  rw[Ti hn]
  refine sd ?_ ?_<;>simp only[pkA,seval]
 have hn:nC p.name=true:=by simpa using hn
 have w1:=fa (n:=(p.types.length:Int)+p.rules.length) (k:=p.types.length+p.rules.length) (by omega) (by omega)
 have w2:=fa (n:=((p.types.length+p.rules.length:Nat):Int)+p.quorums.length) (k:=ij p) (by unfold ij;omega) (by unfold ij;omega)
 simp only[qc,seval,ap,w1,w2]
 refine cF (fun i:Nat=>hdS [(1,.bp 0 0),(4,i64 p.types.length),(5,i64 p.rules.length),(24,i64 (ij p)),(25,i64 i)] [(poC p).map .c]) (fun i=>ij p - i) (fun i=>i≤ij p∧∀ j,j<i→itE p j=0) 0 ⟨au _,by simp⟩ ?_ ?_
 ·refine cj (by simp only[eW,aR,bb,gd,aB,aK];rfl) (au _) (by simp) ?_ ?_
  ·simp[FL,ar]
  ·simp[BL]
 rintro i ⟨hi,fU⟩ R ck cG dn
 simp only[pkA,seval]
 refine aV (fun bF=>?_) (fun ga=>?_)
 ·have bF:i<ij p:=by simpa using bF
  have hw:=fa (n:=(i:Int)+1) (k:=i+1) (by omega) (by omega)
  have bad:itE p i≠0→chk p=((i:Int),itE p i):=fun h=>aa5 hn bF h fU
  have good:itE p i=0→∀ j,j<i+1→itE p j=0:=fun h j hj=>by
   rcases cN j i with q | q
   ·exact fU j q
   ·have:j=i:=by omega
    subst this;exact h
  simp only[pkA,seval]
  refine aV (fun ht=>?_) (fun ht=>?_)
  ·have ht:i<p.types.length:=by simpa using ht
   have e:itE p i=uh p.types i p.types[i]:=by unfold itE;rw[if_pos ht,aa2 ht]
   rw[e] at bad good
   simp only[qc,seval]
   refine aD rfl (EB p.types i ht o1 hp.tn) (fun _=>rfl) ?_
   simp only[pkA,seval]
   refine aV (fun hb=>?_) (fun hg=>?_)
   ·simp only[pkA,seval]
    refine dn _ ?_
    simp only[pkA]
    rw[bad (by simpa using hb)]
    refine sd ?_ ?_<;>simp only[pkA,seval]
   ·simp only[pkA,seval,hw]
    exact ck (i+1) _ ⟨bF,good (by simpa using hg)⟩ (by omega) (cj (by simp only[eW,aR,bb,gd,aB,aK];rfl) (au _) (by simp) (by simp[FL,ar]) (by simp[BL,bxs]))
  have ht:p.types.length≤i:=by simpa using ht
  have v1:=fa (n:=(i:Int) - p.types.length) (k:=i - p.types.length) (by omega) (by omega)
  simp only[pkA,seval,w1]
  refine aV (fun hr=>?_) (fun hr=>?_)
  ·have hr:i<p.types.length+p.rules.length:=by simp at hr;omega
   have Ij:i - p.types.length<p.rules.length:=by omega
   have e:itE p i=Hk p.rules (i - p.types.length) p.types.length p.rules[i - p.types.length]:=by unfold itE;rw[if_neg (by omega),if_pos hr,aa3 Ij]
   rw[e] at bad good
   simp only[qc,seval,v1]
   refine aD rfl (EC p.rules (i - p.types.length) p.types.length Ij o2 (by omega)) (fun _=>rfl) ?_
   simp only[pkA,seval]
   refine aV (fun hb=>?_) (fun hg=>?_)
   ·simp only[pkA,seval]
    refine dn _ ?_
    simp only[pkA]
    rw[bad (by simpa using hb)]
    refine sd ?_ ?_<;>simp only[pkA,seval]
   ·simp only[pkA,seval,hw]
    exact ck (i+1) _ ⟨bF,good (by simpa using hg)⟩ (by omega) (cj (by simp only[eW,aR,bb,gd,aB,aK];rfl) (au _) (by simp) (by simp[FL,ar]) (by simp[BL,bxs]))
  have hr:p.types.length+p.rules.length≤i:=by simp at hr;omega
  have Ij:i - p.types.length - p.rules.length<p.quorums.length:=by unfold ij at bF;omega
  have v2:=fa (n:=((i - p.types.length:Nat):Int) - p.rules.length) (k:=i - p.types.length - p.rules.length) (by omega) (by omega)
  have e:itE p i=Hl p.quorums (i - p.types.length - p.rules.length) p.quorums[i - p.types.length - p.rules.length]:=by unfold itE;rw[if_neg (by omega),if_neg (by omega),aa4 Ij]
  rw[e] at bad good
  simp only[qc,seval,v1,v2]
  refine aD rfl (Ax hG p.quorums (i - p.types.length - p.rules.length) Ij o3) (fun _=>rfl) ?_
  simp only[pkA,seval]
  refine aV (fun hb=>?_) (fun hg=>?_)
  ·simp only[pkA,seval]
   refine dn _ ?_
   simp only[pkA]
   rw[bad (by simpa using hb)]
   refine sd ?_ ?_<;>simp only[pkA,seval]
  ·simp only[pkA,seval,hw]
   exact ck (i+1) _ ⟨bF,good (by simpa using hg)⟩ (by omega) (cj (by simp only[eW,aR,bb,gd,aB,aK];rfl) (au _) (by simp) (by simp[FL,ar]) (by simp[BL,bxs]))
 ·have:i=ij p:=by simp at ga;omega
  subst this
  simp only[pkA]
  refine cG _ _ ?_
  simp only[pkA,seval]
  rw[Tg hn fU]
  refine sd ?_ ?_<;>simp only[pkA,seval]
def gQ (p:Pol):Bool:=decide ((chk p).2=0)
theorem gR {G:Gl} (hG:G 0=some [.lit (.int .i64 23),.lit (.int .i64 24),.lit (.int .i64 25)]) (p:Pol) (hp:PolIn p) (OT:ij p≤4611686018427387904) :
 FnOK Tryz.prog G 86 [.agg (poC p)] (bo (gQ p)):=by
 refine bP (rs:=[.tmp 2]) false [] mixed Tryz.func86 rfl rfl rfl rfl (by kernel_rfl) (by simp) rfl rfl ?_
 simp only[qc,seval]
 refine aD rfl (Tj hG p hp OT) (fun h=>by cases h) ?_
 simp only[pkA,seval]
 rfl
