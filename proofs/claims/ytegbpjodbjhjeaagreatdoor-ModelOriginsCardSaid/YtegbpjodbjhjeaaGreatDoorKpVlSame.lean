/- Contracts of the look-ups in slices, over the values of layer 13. -/
import Derived.Test.YtegbpjodbjhjeaaGreatDoorKpVlFun2
set_option maxHeartbeats 2000000
set_option linter.all false
namespace Go.Proofs.YtegbpjodbjhjeaaGreatDoor.Kp
open Go Go.Vl
set_option maxRecDepth 10000
variable {G:Gl}
structure Wi where
 n:Int
 lo:Int
 hi:Int
def wiC (t:Wi):List C:=[cI t.n,cI t.lo,cI t.hi]
theorem W7 (t:Wi):(wiC t).length=3:=rfl
theorem agd {t:Wi} {K:V→Prop} {sz:Nat}:eB false sz 0 (wiC t) K=K (i64 t.n):=rfl
theorem age {t:Wi} {K:V→Prop} {sz:Nat}:eB false sz 1 (wiC t) K=K (i64 t.lo):=rfl
theorem agf {t:Wi} {K:V→Prop} {sz:Nat}:eB false sz 2 (wiC t) K=K (i64 t.hi):=rfl
def inC (n:Int):List C:=[cI n]
theorem agh {t:Int} {K:V→Prop} {sz:Nat}:eB false sz 0 (inC t) K=K (i64 t):=rfl
def kC:=jj @pkA @ptA
def ra:=jj @pkA (jj @ptA @pkP)
theorem Ex (es:List Ty) (hm:es.length≤9223372036854775807) (g:FuncId) (caps:List C) (p:Ty→Bool) (hp:∀ e∈es,FnOK Tryz.prog G g (.agg (tyC e)::caps.map .c) (bo (p e))) :
 FnOK Tryz.prog G 176 [.c (.sl (es.map tyC)),.c (.fn (.func g) [] caps)] (i64 (mo p es)):=by
 refine bP (rs:=[.tmp 4]) false [] mixed Tryz.func176 rfl rfl rfl rfl (by kernel_rfl) (by simp) rfl rfl ?_
 simp -implicitDefEqProofs only[kC,seval,ap]
 refine cF (fun i:Nat=>hdS [(0,.c (.sl (es.map tyC))),(1,.c (.fn (.func g) [] caps)),(7,i64 es.length),(8,i64 i)] []) (fun i=>es.length - i) (fun i=>i≤es.length∧∀ j (h:j<es.length),j<i→p es[j]=false) 0 ⟨au _,by simp⟩ ?_ ?_
 ·refine cj rfl (au _) (ae _) ?_ trivial
  simp[FL,ar]
 rintro i ⟨hi,fU⟩ R ck cG dn
 simp -implicitDefEqProofs only[pkA,seval]
 refine aV (fun bF=>?_) (fun ga=>?_)
 ·have bF:i<es.length:=by simpa using bF
  simp -implicitDefEqProofs only[pkA,seval]
  refine dz nw rfl kM (by decide) (aI i) (c:=tyC es[i]) (by simp[bF]) rfl ?_
  simp -implicitDefEqProofs only[ra,seval]
  refine aD rfl (hp _ (aF bF)) (by simp[V.boxy]) ?_
  simp -implicitDefEqProofs only[pkA,seval]
  refine aV (fun hy=>?_) (fun hn=>?_)
  ·simp -implicitDefEqProofs only[pkA,seval]
   refine dn _ ?_
   simp -implicitDefEqProofs only[pkA,seval]
   rw[nv bF hy fU]
  ·simp -implicitDefEqProofs only[pkA,seval]
   refine ck (i+1) _ ⟨bF,fun j h hj=>?_⟩ (by omega) (cj rfl (au _) (ae _) ?_ trivial)
   ·rcases cN j i with h1 | h1
    ·exact fU j h h1
    ·have:j=i:=by omega
     subst this;exact hn
   ·have hw:=wrap_i64 (i+1) (by omega)
    simp[FL,ar,hw]
 ·have:i=es.length:=by simp at ga;omega
  subst this
  simp -implicitDefEqProofs only[pkA]
  refine cG _ _ ?_
  simp -implicitDefEqProofs only[pkA,seval]
  rw[kH fU]
theorem yE (es:List Ty) (hm:es.length≤9223372036854775807) (g:FuncId) (caps:List C) (p:Ty→Bool) (hp:∀ e∈es,FnOK Tryz.prog G g (.agg (tyC e)::caps.map .c) (bo (p e))) :
 FnOK Tryz.prog G 163 [.c (.sl (es.map tyC)),.c (.fn (.func g) [] caps)] (bo (es.any p)):=by
 refine bP (rs:=[.tmp 4]) false [] mixed Tryz.func163 rfl rfl rfl rfl (by kernel_rfl) (by simp) rfl rfl ?_
 simp -implicitDefEqProofs only[pkA,seval]
 refine aD rfl (Ex es hm g caps p hp) (by simp[V.boxy]) ?_
 simp -implicitDefEqProofs only[pkA,seval]
 rw[← ka]
theorem Ey (es:List Qu) (hm:es.length≤9223372036854775807) (g:FuncId) (caps:List C) (p:Qu→Bool) (hp:∀ e∈es,FnOK Tryz.prog G g (.agg (quC e)::caps.map .c) (bo (p e))) :
 FnOK Tryz.prog G 179 [.c (.sl (es.map quC)),.c (.fn (.func g) [] caps)] (i64 (mo p es)):=by
 refine bP (rs:=[.tmp 4]) false [] mixed Tryz.func179 rfl rfl rfl rfl (by kernel_rfl) (by simp) rfl rfl ?_
 simp -implicitDefEqProofs only[kC,seval,ap]
 refine cF (fun i:Nat=>hdS [(0,.c (.sl (es.map quC))),(1,.c (.fn (.func g) [] caps)),(7,i64 es.length),(8,i64 i)] []) (fun i=>es.length - i) (fun i=>i≤es.length∧∀ j (h:j<es.length),j<i→p es[j]=false) 0 ⟨au _,by simp⟩ ?_ ?_
 ·refine cj rfl (au _) (ae _) ?_ trivial
  simp[FL,ar]
 rintro i ⟨hi,fU⟩ R ck cG dn
 simp -implicitDefEqProofs only[pkA,seval]
 refine aV (fun bF=>?_) (fun ga=>?_)
 ·have bF:i<es.length:=by simpa using bF
  simp -implicitDefEqProofs only[pkA,seval]
  refine dz GU rfl nO (by decide) (aI i) (c:=quC es[i]) (by simp[bF]) rfl ?_
  simp -implicitDefEqProofs only[ra,seval]
  refine aD rfl (hp _ (aF bF)) (by simp[V.boxy]) ?_
  simp -implicitDefEqProofs only[pkA,seval]
  refine aV (fun hy=>?_) (fun hn=>?_)
  ·simp -implicitDefEqProofs only[pkA,seval]
   refine dn _ ?_
   simp -implicitDefEqProofs only[pkA,seval]
   rw[nv bF hy fU]
  ·simp -implicitDefEqProofs only[pkA,seval]
   refine ck (i+1) _ ⟨bF,fun j h hj=>?_⟩ (by omega) (cj rfl (au _) (ae _) ?_ trivial)
   ·rcases cN j i with h1 | h1
    ·exact fU j h h1
    ·have:j=i:=by omega
     subst this;exact hn
   ·have hw:=wrap_i64 (i+1) (by omega)
    simp[FL,ar,hw]
 ·have:i=es.length:=by simp at ga;omega
  subst this
  simp -implicitDefEqProofs only[pkA]
  refine cG _ _ ?_
  simp -implicitDefEqProofs only[pkA,seval]
  rw[kH fU]
theorem yF (es:List Qu) (hm:es.length≤9223372036854775807) (g:FuncId) (caps:List C) (p:Qu→Bool) (hp:∀ e∈es,FnOK Tryz.prog G g (.agg (quC e)::caps.map .c) (bo (p e))) :
 FnOK Tryz.prog G 166 [.c (.sl (es.map quC)),.c (.fn (.func g) [] caps)] (bo (es.any p)):=by
 refine bP (rs:=[.tmp 4]) false [] mixed Tryz.func166 rfl rfl rfl rfl (by kernel_rfl) (by simp) rfl rfl ?_
 simp -implicitDefEqProofs only[pkA,seval]
 refine aD rfl (Ey es hm g caps p hp) (by simp[V.boxy]) ?_
 simp -implicitDefEqProofs only[pkA,seval]
 rw[← ka]
theorem Ez (es:List Wi) (hm:es.length≤9223372036854775807) (g:FuncId) (caps:List C) (p:Wi→Bool) (hp:∀ e∈es,FnOK Tryz.prog G g (.agg (wiC e)::caps.map .c) (bo (p e))) :
 FnOK Tryz.prog G 191 [.c (.sl (es.map wiC)),.c (.fn (.func g) [] caps)] (i64 (mo p es)):=by
 refine bP (rs:=[.tmp 4]) false [] mixed Tryz.func191 rfl rfl rfl rfl (by kernel_rfl) (by simp) rfl rfl ?_
 simp -implicitDefEqProofs only[kC,seval,ap]
 refine cF (fun i:Nat=>hdS [(0,.c (.sl (es.map wiC))),(1,.c (.fn (.func g) [] caps)),(7,i64 es.length),(8,i64 i)] []) (fun i=>es.length - i) (fun i=>i≤es.length∧∀ j (h:j<es.length),j<i→p es[j]=false) 0 ⟨au _,by simp⟩ ?_ ?_
 ·refine cj rfl (au _) (ae _) ?_ trivial
  simp[FL,ar]
 rintro i ⟨hi,fU⟩ R ck cG dn
 simp -implicitDefEqProofs only[pkA,seval]
 refine aV (fun bF=>?_) (fun ga=>?_)
 ·have bF:i<es.length:=by simpa using bF
  simp -implicitDefEqProofs only[pkA,seval]
  refine dz Jw rfl uJ (by decide) (aI i) (c:=wiC es[i]) (by simp[bF]) rfl ?_
  simp -implicitDefEqProofs only[kC,seval,W7]
  refine aD rfl (hp _ (aF bF)) (by simp[V.boxy]) ?_
  simp -implicitDefEqProofs only[pkA,seval]
  refine aV (fun hy=>?_) (fun hn=>?_)
  ·simp -implicitDefEqProofs only[pkA,seval]
   refine dn _ ?_
   simp -implicitDefEqProofs only[pkA,seval]
   rw[nv bF hy fU]
  ·simp -implicitDefEqProofs only[pkA,seval]
   refine ck (i+1) _ ⟨bF,fun j h hj=>?_⟩ (by omega) (cj rfl (au _) (ae _) ?_ trivial)
   ·rcases cN j i with h1 | h1
    ·exact fU j h h1
    ·have:j=i:=by omega
     subst this;exact hn
   ·have hw:=wrap_i64 (i+1) (by omega)
    simp[FL,ar,hw]
 ·have:i=es.length:=by simp at ga;omega
  subst this
  simp -implicitDefEqProofs only[pkA]
  refine cG _ _ ?_
  simp -implicitDefEqProofs only[pkA,seval]
  rw[kH fU]
theorem yG (es:List Wi) (hm:es.length≤9223372036854775807) (g:FuncId) (caps:List C) (p:Wi→Bool) (hp:∀ e∈es,FnOK Tryz.prog G g (.agg (wiC e)::caps.map .c) (bo (p e))) :
 FnOK Tryz.prog G 177 [.c (.sl (es.map wiC)),.c (.fn (.func g) [] caps)] (bo (es.any p)):=by
 refine bP (rs:=[.tmp 4]) false [] mixed Tryz.func177 rfl rfl rfl rfl (by kernel_rfl) (by simp) rfl rfl ?_
 simp -implicitDefEqProofs only[pkA,seval]
 refine aD rfl (Ez es hm g caps p hp) (by simp[V.boxy]) ?_
 simp -implicitDefEqProofs only[pkA,seval]
 rw[← ka]
theorem S5 (es:List Ru) (hm:es.length≤9223372036854775807) (x:Ru) :
 FnOK Tryz.prog G 175 [.c (.sl (es.map ruC)),.agg (ruC x)] (i64 (mo (fun e=>decide (x=e)) es)):=by
 refine bP (rs:=[.tmp 4]) false [] mixed Tryz.func175 rfl rfl rfl rfl (by kernel_rfl) (by simp) rfl rfl ?_
 simp -implicitDefEqProofs only[kC,seval,ap]
 refine cF (fun i:Nat=>hdS [(0,.c (.sl (es.map ruC))),(3,.bp 0 0),(7,i64 es.length),(8,i64 i)] [(ruC x).map .c]) (fun i=>es.length - i) (fun i=>i≤es.length∧∀ j (h:j<es.length),j<i→(fun e=>decide (x=e)) es[j]=false) 0 ⟨au _,by simp⟩ ?_ ?_
 ·refine cj rfl (au _) (by simp) ?_ ?_
  ·simp[FL,ar]
  ·simp[BL]
 rintro i ⟨hi,fU⟩ R ck cG dn
 simp -implicitDefEqProofs only[pkA,seval]
 refine aV (fun bF=>?_) (fun ga=>?_)
 ·have bF:i<es.length:=by simpa using bF
  simp -implicitDefEqProofs only[ra,seval]
  refine dz Aa rfl nV (by decide) (aI i) (c:=ruC es[i]) (by simp[bF]) rfl ?_
  simp -implicitDefEqProofs only[ra,seval]
  refine aV (fun hy=>?_) (fun hn=>?_)
  ·simp -implicitDefEqProofs only[pkA,seval]
   refine dn _ ?_
   simp -implicitDefEqProofs only[pkA,seval]
   rw[nv bF hy fU]
  ·simp -implicitDefEqProofs only[pkA,seval]
   refine ck (i+1) _ ⟨bF,fun j h hj=>?_⟩ (by omega) (cj rfl (au _) (by simp) ?_ ?_)
   ·rcases cN j i with h1 | h1
    ·exact fU j h h1
    ·have:j=i:=by omega
     subst this;exact hn
   ·have hw:=wrap_i64 (i+1) (by omega)
    simp[FL,ar,hw]
   ·simp[BL,bxs]
 ·have:i=es.length:=by simp at ga;omega
  subst this
  simp -implicitDefEqProofs only[pkA]
  refine cG _ _ ?_
  simp -implicitDefEqProofs only[pkA,seval]
  rw[kH fU]
theorem yf (es:List Ru) (hm:es.length≤9223372036854775807) (x:Ru) :
 FnOK Tryz.prog G 162 [.c (.sl (es.map ruC)),.agg (ruC x)] (bo (es.any fun e=>decide (x=e))):=by
 refine bP (rs:=[.tmp 4]) false [] mixed Tryz.func162 rfl rfl rfl rfl (by kernel_rfl) (by simp) rfl rfl ?_
 simp -implicitDefEqProofs only[ra,seval]
 refine aD rfl (S5 es hm x) (by simp[V.boxy]) ?_
 simp -implicitDefEqProofs only[pkA,seval]
 rw[← ka]
theorem S6 (es:List Int) (hm:es.length≤9223372036854775807) (x:Int) :
 FnOK Tryz.prog G 161 [.c (.sl (es.map inC)),i64 x] (i64 (mo (fun e=>decide (x=e)) es)):=by
 refine bP (rs:=[.tmp 4]) false [] mixed Tryz.func161 rfl rfl rfl rfl (by kernel_rfl) (by simp) rfl rfl ?_
 simp -implicitDefEqProofs only[kC,seval,ap]
 refine cF (fun i:Nat=>hdS [(0,.c (.sl (es.map inC))),(1,i64 x),(7,i64 es.length),(8,i64 i)] []) (fun i=>es.length - i) (fun i=>i≤es.length∧∀ j (h:j<es.length),j<i→(fun e=>decide (x=e)) es[j]=false) 0 ⟨au _,by simp⟩ ?_ ?_
 ·refine cj rfl (au _) (by simp) ?_ ?_
  ·simp[FL,ar]
  ·simp[BL]
 rintro i ⟨hi,fU⟩ R ck cG dn
 simp -implicitDefEqProofs only[pkA,seval]
 refine aV (fun bF=>?_) (fun ga=>?_)
 ·have bF:i<es.length:=by simpa using bF
  simp -implicitDefEqProofs only[pkA,seval]
  refine dz Ea rfl D8 (by decide) (aI i) (c:=inC es[i]) (by simp[bF]) rfl ?_
  simp -implicitDefEqProofs only[kC,seval,agh]
  refine aV (fun hy=>?_) (fun hn=>?_)
  ·simp -implicitDefEqProofs only[pkA,seval]
   refine dn _ ?_
   simp -implicitDefEqProofs only[pkA,seval]
   rw[nv bF hy fU]
  ·simp -implicitDefEqProofs only[pkA,seval]
   refine ck (i+1) _ ⟨bF,fun j h hj=>?_⟩ (by omega) (cj rfl (au _) (by simp) ?_ ?_)
   ·rcases cN j i with h1 | h1
    ·exact fU j h h1
    ·have:j=i:=by omega
     subst this;exact hn
   ·have hw:=wrap_i64 (i+1) (by omega)
    simp[FL,ar,hw]
   ·simp[BL]
 ·have:i=es.length:=by simp at ga;omega
  subst this
  simp -implicitDefEqProofs only[pkA]
  refine cG _ _ ?_
  simp -implicitDefEqProofs only[pkA,seval]
  rw[kH fU]
theorem yg (es:List Int) (hm:es.length≤9223372036854775807) (x:Int) :
 FnOK Tryz.prog G 142 [.c (.sl (es.map inC)),i64 x] (bo (es.any fun e=>decide (x=e))):=by
 refine bP (rs:=[.tmp 4]) false [] mixed Tryz.func142 rfl rfl rfl rfl (by kernel_rfl) (by simp) rfl rfl ?_
 simp -implicitDefEqProofs only[pkA,seval]
 refine aD rfl (S6 es hm x) (by simp[V.boxy]) ?_
 simp -implicitDefEqProofs only[pkA,seval]
 rw[← ka]
theorem W8 (t o:Ty):FnOK Tryz.prog G 164 [.agg (tyC o),.c (.rp (tyC t) 0)] (bo (decide (o.name=t.name))):=by
 refine bP (rs:=[.tmp 3]) false [] mixed Tryz.func164 rfl rfl rfl rfl (by kernel_rfl) (by simp) rfl rfl ?_
 simp -implicitDefEqProofs only[ra,seval]
theorem W9 (t o:Qu):FnOK Tryz.prog G 167 [.agg (quC o),.c (.rp (quC t) 0)] (bo (decide (o.cmd=t.cmd))):=by
 refine bP (rs:=[.tmp 3]) false [] mixed Tryz.func167 rfl rfl rfl rfl (by kernel_rfl) (by simp) rfl rfl ?_
 simp -implicitDefEqProofs only[ra,seval]
def EA (x:Wi):Bool:=decide (x.n<x.lo)||decide (x.hi<x.n)
theorem Ow (x:Wi):FnOK Tryz.prog G 178 [.agg (wiC x)] (bo (EA x)):=by
 refine bP (rs:=[.tmp 2]) false [] mixed Tryz.func178 rfl rfl rfl rfl (by kernel_rfl) (by simp) rfl rfl ?_
 repeat' first
  |(simp -implicitDefEqProofs only[kC,seval,agd,age,agf])
  |refine jc (fun h=>?_) (fun h=>?_)
  |refine aV (fun h=>?_) (fun h=>?_)
 all_goals (unfold EA;first | (simp_all;done) | (simp_all;omega))
theorem Au (es:List Wi) (hm:es.length≤9223372036854775807):FnOK Tryz.prog G 165 [.c (.sl (es.map wiC))] (bo (es.any EA)):=by
 refine bP (rs:=[.tmp 2]) false [] mixed Tryz.func165 rfl rfl rfl rfl (by kernel_rfl) (by simp) rfl rfl ?_
 simp -implicitDefEqProofs only[pkA,seval]
 refine aD rfl (yG es hm _ [] EA (fun e _=>Ow e)) (by simp[V.boxy]) ?_
 simp -implicitDefEqProofs only[pkA,seval]
def nmC (k:Nat) (c:Int):Bool:=(decide (97≤c)&&decide (c≤122))||(decide (0<k)&&(decide (48≤c)&&decide (c≤57)))
def nC (s:ByteArray):Bool:=decide (∀ k (h:k<s.data.size),nmC k s.data[k].toNat=true)&&decide (1≤s.size)&&decide (s.size≤12)
theorem Cm {s:ByteArray} {k:Nat} (h:k<s.data.size) (hc:nmC k s.data[k].toNat=false):nC s=false:=by
 have:decide (∀ k (h:k<s.data.size),nmC k s.data[k].toNat=true)=false:=fu fun hh=>by rw[hh k h] at hc;cases hc
 unfold nC;rw[this];simp only[Bool.false_and]
theorem Cn {s:ByteArray} (hk:∀ j (h:j<s.data.size),nmC j s.data[j].toNat=true):nC s=(decide (1≤s.size)&&decide (s.size≤12)):=by
 have:decide (∀ k (h:k<s.data.size),nmC k s.data[k].toNat=true)=true:=eZ hk
 unfold nC;rw[this,Bool.true_and]
theorem S7 (s:ByteArray) {k:Nat} (h:k<s.data.size):(j8 s)[k]?=some [.lit (.int .u8 s.data[k].toNat)]:=by simp only[j8,ba,aQ,ay h,bK]
theorem S8 (s:ByteArray):(j8 s).length=s.data.size:=by simp[j8]
theorem K9 {s:ByteArray} {K:V→Prop}:nU Tryz.prog 9 173 (.c (.lit (.string s))) K=K (.c (.sl (j8 s))):=by
 simp only[nU,D9,Jv,ZN]
theorem aaZ {s:ByteArray} {k:Nat} {K:V→Prop} (h:k<s.data.size):mR Tryz.prog 9 (.c (.lit (.string s))) (i64 k) K=K (.c (.lit (.int .u8 s.data[k].toNat))):=
 Jb D9 rfl (aI k) (by simp[])
theorem Ly (s:ByteArray) (hs:s.size≤9223372036854775807):FnOK Tryz.prog G 144 [.c (.lit (.string s))] (bo (nC s)):=by
 have dR:s.size=s.data.size:=rfl
 refine bP (rs:=[.tmp 2]) false [] mixed Tryz.func144 rfl rfl rfl rfl (by kernel_rfl) (by simp) rfl rfl ?_
 simp only[kC,seval,K9,S8]
 refine cF (fun i:Nat=>hdS [(0,.c (.lit (.string s))),(6,.c (.sl (j8 s))),(7,i64 s.data.size),(8,i64 i)] []) (fun i=>s.data.size - i) (fun i=>i≤s.data.size∧∀ j (h:j<s.data.size),j<i→nmC j s.data[j].toNat=true) 0 ⟨au _,by simp⟩ ?_ ?_
 ·refine cj rfl (au _) (by simp) ?_ ?_
  ·simp[FL,ar]
  ·simp[BL]
 rintro i ⟨hi,fU⟩ R ck cG dn
 simp only[pkA,seval]
 refine aV (fun bF=>?_) (fun ga=>?_)
 ·have bF:i<s.data.size:=by simpa using bF
  have hw:=wrap_i64 (i+1) (by omega)
  simp only[pkA,seval]
  refine dz Jv rfl ZN (by decide) (aI i) (c:=[.lit (.int .u8 s.data[i].toNat)]) (S7 s bF) rfl ?_
  generalize hc:(s.data[i].toNat:Int)=c
  have good:nmC i c=true→∀ s',S.Le (nL []) (hdS [(0,.c (.lit (.string s))),(6,.c (.sl (j8 s))),(7,i64 s.data.size),(8,i64 (i+1:Nat))] []) s'→R .normal s':=fun hg s' fx=>
   ck (i+1) s' ⟨bF,fun j h hj=>by
    rcases cN j i with h1 | h1
    ·exact fU j h h1
    ·have:j=i:=by omega
     subst this;rw[hc];exact hg⟩ (by omega) fx
  have bad:nmC i c=false→nC s=false:=fun hb=>Cm bF (by rw[hc];exact hb)
  clear fU ck
  repeat' first
   |(simp only[kC,seval])
   |refine jc (fun h=>?_) (fun h=>?_)
   |refine aV (fun h=>?_) (fun h=>?_)
  all_goals first
   |(refine dn _ ?_
     simp only[pkA,seval]
     rw[bad (by clear dR dn cG good bad;simp_all[nmC]<;>omega)])
   |(refine good (by clear dR dn cG bad good;simp_all[nmC]<;>omega) _ (cj rfl (au _) (by simp) ?_ trivial)
     simp[FL,ar,hw])
 ·have:i=s.data.size:=by simp at ga;omega
  subst this
  simp only[pkA]
  refine cG _ _ ?_
  clear cG dn ck
  repeat' first
   |(simp only[kC,seval])
   |refine jc (fun h=>?_) (fun h=>?_)
   |refine aV (fun h=>?_) (fun h=>?_)
  all_goals
   rw[Cn (fun j h=>fU j h h)]
   clear fU dR
   first | (simp_all;done) | (simp_all;omega) | (simp_all;rw[jm];simp;omega)
set_option maxRecDepth 100000 in
theorem JR (s:ByteArray) (hs:s.size≤9223372036854775807):FnOK Tryz.prog G 105 [.c (.lit (.string s))] (bo (nC s)):=by
 have dR:s.size=s.data.size:=rfl
 refine bP (rs:=[.tmp 2]) false [] mixed Tryz.func105 rfl rfl rfl rfl (by kernel_rfl) (by simp) rfl rfl ?_
 by_cases hl:1≤s.size∧s.size≤12
 ·have h1:decide ((s.size:Int)<1)=false:=by simp;omega
  have h2:decide ((12:Int)<(s.size:Int))=false:=by simp;omega
  simp only[kC,seval,h1,h2]
  refine cF (fun i:Nat=>hdS [(0,.c (.lit (.string s))),(3,i64 i)] []) (fun i=>s.data.size - i) (fun i=>i≤s.data.size∧∀ j (h:j<s.data.size),j<i→nmC j s.data[j].toNat=true) 0 ⟨au _,by simp⟩ ?_ ?_
  ·refine cj rfl (au _) (by simp) ?_ ?_
   ·simp[FL,ar]
   ·simp[BL]
  rintro i ⟨hi,fU⟩ R ck cG dn
  simp only[kC,seval]
  refine aV (fun bF=>?_) (fun ga=>?_)
  ·have bF:i<s.data.size:=by rw[dR] at bF;simpa using bF
   have hw:=wrap_i64 (i+1) (by omega)
   have XJ:∀ K,mR Tryz.prog 9 (.c (.lit (.string s))) (i64 i) K=K (.c (.lit (.int .u8 s.data[i].toNat))):=fun K=>aaZ bF
   generalize hc:(s.data[i].toNat:Int)=c at XJ
   have good:nmC i c=true→∀ s',S.Le (nL []) (hdS [(0,.c (.lit (.string s))),(3,i64 (i+1:Nat))] []) s'→R .normal s':=fun hg s' fx=>
    ck (i+1) s' ⟨bF,fun j h hj=>by
     rcases cN j i with h1 | h1
     ·exact fU j h h1
     ·have:j=i:=by omega
      subst this;rw[hc];exact hg⟩ (by omega) fx
   have bad:nmC i c=false→nC s=false:=fun hb=>Cm bF (by rw[hc];exact hb)
   clear fU ck h1 h2
   repeat' first
    |(simp only[pkA,seval,XJ])
    |refine jc (fun h=>?_) (fun h=>?_)
    |refine aV (fun h=>?_) (fun h=>?_)
   all_goals first
    |(refine dn _ ?_
      simp only[pkA,seval]
      rw[bad (by clear dR dn cG good bad;simp_all[nmC]<;>omega)])
    |(refine good (by clear dR dn cG bad good;simp_all[nmC]<;>omega) _ (cj rfl (au _) (by simp) ?_ trivial)
      simp[FL,ar,hw])
  ·have:i=s.data.size:=by rw[dR] at ga;simp at ga;omega
   subst this
   simp only[pkA]
   refine cG _ _ ?_
   simp only[pkA,seval]
   rw[Cn (fun j h=>fU j h h)]
   simp[hl]
 ·have hb:nC s=false:=by
   unfold nC
   by_cases h1:1≤s.size
   ·have:¬ s.size≤12:=fun h=>hl ⟨h1,h⟩
    simp[this]
   ·simp[h1]
  repeat' first
   |(simp only[kC,seval])
   |refine jc (fun h=>?_) (fun h=>?_)
   |refine aV (fun h=>?_) (fun h=>?_)
  all_goals first | (rw[hb];done) | (exfalso;clear dR hb;simp_all;omega) | (rw[hb])
def adF (p:Pol):Prop:=p.types.length≤9223372036854775807∧p.rules.length≤9223372036854775807∧p.quorums.length≤9223372036854775807
