/- Contracts of the look-ups in slices, over the values of layer 13. -/
import Derived.Test.YtegbpjodbjhjeaaGreatDoorKpVlFun2
set_option linter.all false
namespace Go.Proofs.YtegbpjodbjhjeaaGreatDoor.Kp
open Go Go.Vl
set_option maxRecDepth 10000
variable {G:Gl}
structure Wi where
 n:Int
 lo:Int
 hi:Int
def wiC (t:Wi):List C:=[cI t.n,cI t.lo,cI t.hi]
theorem Ud (t:Wi):(wiC t).length=3:=rfl
theorem aa7 {t:Wi} {K:V→Prop} {sz:Nat}:cU false sz 0 (wiC t) K=K (i64 t.n):=rfl
theorem aa8 {t:Wi} {K:V→Prop} {sz:Nat}:cU false sz 1 (wiC t) K=K (i64 t.lo):=rfl
theorem aa9 {t:Wi} {K:V→Prop} {sz:Nat}:cU false sz 2 (wiC t) K=K (i64 t.hi):=rfl
def inC (n:Int):List C:=[cI n]
theorem aba {t:Int} {K:V→Prop} {sz:Nat}:cU false sz 0 (inC t) K=K (i64 t):=rfl
def jE:=jj @pkA @ptA
def pg:=jj @pkA (jj @ptA @pkP)
set_option maxHeartbeats 1000000 in
theorem Be (es:List Ty) (hm:es.length≤9223372036854775807) (g:FuncId) (caps:List C) (p:Ty→Bool) (hp:∀ e∈es,FnOK Tryz.prog G g (.agg (tyC e)::caps.map .c) (bo (p e))) :
 FnOK Tryz.prog G 176 [.c (.sl (es.map tyC)),.c (.fn (.func g) [] caps)] (i64 (k7 p es)):=by
 refine bP (rs:=[.tmp 4]) false [] mixed Tryz.func176 rfl rfl rfl rfl (by kernel_rfl) (by simp) rfl rfl ?_
 simp -implicitDefEqProofs only[jE,seval,ap]
 refine cZ (fun i:Nat=>hdS [(0,.c (.sl (es.map tyC))),(1,.c (.fn (.func g) [] caps)),(7,i64 es.length),(8,i64 i)] []) (fun i=>es.length - i) (fun i=>i≤es.length∧∀ j (h:j<es.length),j<i→p es[j]=false) 0 ⟨aA _,by simp⟩ ?_ ?_
 ·refine cR rfl (aA _) (ae _) ?_ trivial
  simp[FL,ar]
 rintro i ⟨hi,hno⟩ R hnorm hexit hret
 simp -implicitDefEqProofs only[pkA,seval]
 refine aZ (fun hlt=>?_) (fun hge=>?_)
 ·have hlt:i<es.length:=by simpa using hlt
  simp -implicitDefEqProofs only[pkA,seval]
  refine dL mF rfl jN (by decide) (aM i) (c:=tyC es[i]) (by simp[hlt]) rfl ?_
  simp -implicitDefEqProofs only[pg,seval]
  refine aD rfl (hp _ (aL hlt)) (by simp[V.boxy]) ?_
  simp -implicitDefEqProofs only[pkA,seval]
  refine aZ (fun hy=>?_) (fun hn=>?_)
  ·simp -implicitDefEqProofs only[pkA,seval]
   refine hret _ ?_
   simp -implicitDefEqProofs only[pkA,seval]
   rw[ma hlt hy hno]
  ·simp -implicitDefEqProofs only[pkA,seval]
   refine hnorm (i+1) _ ⟨hlt,fun j h hj=>?_⟩ (by omega) (cR rfl (aA _) (ae _) ?_ trivial)
   ·rcases cx j i with h1 | h1
    ·exact hno j h h1
    ·have:j=i:=by omega
     subst this;exact hn
   ·have hw:=wrap_i64 (i+1) (by omega)
    simp[FL,ar,hw]
 ·have:i=es.length:=by simp at hge;omega
  subst this
  simp -implicitDefEqProofs only[pkA]
  refine hexit _ _ ?_
  simp -implicitDefEqProofs only[pkA,seval]
  rw[jI hno]
set_option maxHeartbeats 1000000 in
theorem vd (es:List Ty) (hm:es.length≤9223372036854775807) (g:FuncId) (caps:List C) (p:Ty→Bool) (hp:∀ e∈es,FnOK Tryz.prog G g (.agg (tyC e)::caps.map .c) (bo (p e))) :
 FnOK Tryz.prog G 163 [.c (.sl (es.map tyC)),.c (.fn (.func g) [] caps)] (bo (es.any p)):=by
 refine bP (rs:=[.tmp 4]) false [] mixed Tryz.func163 rfl rfl rfl rfl (by kernel_rfl) (by simp) rfl rfl ?_
 simp -implicitDefEqProofs only[pkA,seval]
 refine aD rfl (Be es hm g caps p hp) (by simp[V.boxy]) ?_
 simp -implicitDefEqProofs only[pkA,seval]
 rw[← jo]
set_option maxHeartbeats 1000000 in
theorem Bf (es:List Qu) (hm:es.length≤9223372036854775807) (g:FuncId) (caps:List C) (p:Qu→Bool) (hp:∀ e∈es,FnOK Tryz.prog G g (.agg (quC e)::caps.map .c) (bo (p e))) :
 FnOK Tryz.prog G 179 [.c (.sl (es.map quC)),.c (.fn (.func g) [] caps)] (i64 (k7 p es)):=by
 refine bP (rs:=[.tmp 4]) false [] mixed Tryz.func179 rfl rfl rfl rfl (by kernel_rfl) (by simp) rfl rfl ?_
 simp -implicitDefEqProofs only[jE,seval,ap]
 refine cZ (fun i:Nat=>hdS [(0,.c (.sl (es.map quC))),(1,.c (.fn (.func g) [] caps)),(7,i64 es.length),(8,i64 i)] []) (fun i=>es.length - i) (fun i=>i≤es.length∧∀ j (h:j<es.length),j<i→p es[j]=false) 0 ⟨aA _,by simp⟩ ?_ ?_
 ·refine cR rfl (aA _) (ae _) ?_ trivial
  simp[FL,ar]
 rintro i ⟨hi,hno⟩ R hnorm hexit hret
 simp -implicitDefEqProofs only[pkA,seval]
 refine aZ (fun hlt=>?_) (fun hge=>?_)
 ·have hlt:i<es.length:=by simpa using hlt
  simp -implicitDefEqProofs only[pkA,seval]
  refine dL sK rfl jp (by decide) (aM i) (c:=quC es[i]) (by simp[hlt]) rfl ?_
  simp -implicitDefEqProofs only[pg,seval]
  refine aD rfl (hp _ (aL hlt)) (by simp[V.boxy]) ?_
  simp -implicitDefEqProofs only[pkA,seval]
  refine aZ (fun hy=>?_) (fun hn=>?_)
  ·simp -implicitDefEqProofs only[pkA,seval]
   refine hret _ ?_
   simp -implicitDefEqProofs only[pkA,seval]
   rw[ma hlt hy hno]
  ·simp -implicitDefEqProofs only[pkA,seval]
   refine hnorm (i+1) _ ⟨hlt,fun j h hj=>?_⟩ (by omega) (cR rfl (aA _) (ae _) ?_ trivial)
   ·rcases cx j i with h1 | h1
    ·exact hno j h h1
    ·have:j=i:=by omega
     subst this;exact hn
   ·have hw:=wrap_i64 (i+1) (by omega)
    simp[FL,ar,hw]
 ·have:i=es.length:=by simp at hge;omega
  subst this
  simp -implicitDefEqProofs only[pkA]
  refine hexit _ _ ?_
  simp -implicitDefEqProofs only[pkA,seval]
  rw[jI hno]
set_option maxHeartbeats 1000000 in
theorem ve (es:List Qu) (hm:es.length≤9223372036854775807) (g:FuncId) (caps:List C) (p:Qu→Bool) (hp:∀ e∈es,FnOK Tryz.prog G g (.agg (quC e)::caps.map .c) (bo (p e))) :
 FnOK Tryz.prog G 166 [.c (.sl (es.map quC)),.c (.fn (.func g) [] caps)] (bo (es.any p)):=by
 refine bP (rs:=[.tmp 4]) false [] mixed Tryz.func166 rfl rfl rfl rfl (by kernel_rfl) (by simp) rfl rfl ?_
 simp -implicitDefEqProofs only[pkA,seval]
 refine aD rfl (Bf es hm g caps p hp) (by simp[V.boxy]) ?_
 simp -implicitDefEqProofs only[pkA,seval]
 rw[← jo]
set_option maxHeartbeats 1000000 in
theorem Bg (es:List Wi) (hm:es.length≤9223372036854775807) (g:FuncId) (caps:List C) (p:Wi→Bool) (hp:∀ e∈es,FnOK Tryz.prog G g (.agg (wiC e)::caps.map .c) (bo (p e))) :
 FnOK Tryz.prog G 191 [.c (.sl (es.map wiC)),.c (.fn (.func g) [] caps)] (i64 (k7 p es)):=by
 refine bP (rs:=[.tmp 4]) false [] mixed Tryz.func191 rfl rfl rfl rfl (by kernel_rfl) (by simp) rfl rfl ?_
 simp -implicitDefEqProofs only[jE,seval,ap]
 refine cZ (fun i:Nat=>hdS [(0,.c (.sl (es.map wiC))),(1,.c (.fn (.func g) [] caps)),(7,i64 es.length),(8,i64 i)] []) (fun i=>es.length - i) (fun i=>i≤es.length∧∀ j (h:j<es.length),j<i→p es[j]=false) 0 ⟨aA _,by simp⟩ ?_ ?_
 ·refine cR rfl (aA _) (ae _) ?_ trivial
  simp[FL,ar]
 rintro i ⟨hi,hno⟩ R hnorm hexit hret
 simp -implicitDefEqProofs only[pkA,seval]
 refine aZ (fun hlt=>?_) (fun hge=>?_)
 ·have hlt:i<es.length:=by simpa using hlt
  simp -implicitDefEqProofs only[pkA,seval]
  refine dL wH rfl mz (by decide) (aM i) (c:=wiC es[i]) (by simp[hlt]) rfl ?_
  simp -implicitDefEqProofs only[jE,seval,Ud]
  refine aD rfl (hp _ (aL hlt)) (by simp[V.boxy]) ?_
  simp -implicitDefEqProofs only[pkA,seval]
  refine aZ (fun hy=>?_) (fun hn=>?_)
  ·simp -implicitDefEqProofs only[pkA,seval]
   refine hret _ ?_
   simp -implicitDefEqProofs only[pkA,seval]
   rw[ma hlt hy hno]
  ·simp -implicitDefEqProofs only[pkA,seval]
   refine hnorm (i+1) _ ⟨hlt,fun j h hj=>?_⟩ (by omega) (cR rfl (aA _) (ae _) ?_ trivial)
   ·rcases cx j i with h1 | h1
    ·exact hno j h h1
    ·have:j=i:=by omega
     subst this;exact hn
   ·have hw:=wrap_i64 (i+1) (by omega)
    simp[FL,ar,hw]
 ·have:i=es.length:=by simp at hge;omega
  subst this
  simp -implicitDefEqProofs only[pkA]
  refine hexit _ _ ?_
  simp -implicitDefEqProofs only[pkA,seval]
  rw[jI hno]
set_option maxHeartbeats 1000000 in
theorem vg (es:List Wi) (hm:es.length≤9223372036854775807) (g:FuncId) (caps:List C) (p:Wi→Bool) (hp:∀ e∈es,FnOK Tryz.prog G g (.agg (wiC e)::caps.map .c) (bo (p e))) :
 FnOK Tryz.prog G 177 [.c (.sl (es.map wiC)),.c (.fn (.func g) [] caps)] (bo (es.any p)):=by
 refine bP (rs:=[.tmp 4]) false [] mixed Tryz.func177 rfl rfl rfl rfl (by kernel_rfl) (by simp) rfl rfl ?_
 simp -implicitDefEqProofs only[pkA,seval]
 refine aD rfl (Bg es hm g caps p hp) (by simp[V.boxy]) ?_
 simp -implicitDefEqProofs only[pkA,seval]
 rw[← jo]
set_option maxHeartbeats 1000000 in
theorem O9 (es:List Ru) (hm:es.length≤9223372036854775807) (x:Ru) :
 FnOK Tryz.prog G 175 [.c (.sl (es.map ruC)),.agg (ruC x)] (i64 (k7 (fun e=>decide (x=e)) es)):=by
 refine bP (rs:=[.tmp 4]) false [] mixed Tryz.func175 rfl rfl rfl rfl (by kernel_rfl) (by simp) rfl rfl ?_
 simp -implicitDefEqProofs only[jE,seval,ap]
 refine cZ (fun i:Nat=>hdS [(0,.c (.sl (es.map ruC))),(3,.bp 0 0),(7,i64 es.length),(8,i64 i)] [(ruC x).map .c]) (fun i=>es.length - i) (fun i=>i≤es.length∧∀ j (h:j<es.length),j<i→(fun e=>decide (x=e)) es[j]=false) 0 ⟨aA _,by simp⟩ ?_ ?_
 ·refine cR rfl (aA _) (by simp) ?_ ?_
  ·simp[FL,ar]
  ·simp[BL]
 rintro i ⟨hi,hno⟩ R hnorm hexit hret
 simp -implicitDefEqProofs only[pkA,seval]
 refine aZ (fun hlt=>?_) (fun hge=>?_)
 ·have hlt:i<es.length:=by simpa using hlt
  simp -implicitDefEqProofs only[pg,seval]
  refine dL pY rfl lx (by decide) (aM i) (c:=ruC es[i]) (by simp[hlt]) rfl ?_
  simp -implicitDefEqProofs only[pg,seval]
  refine aZ (fun hy=>?_) (fun hn=>?_)
  ·simp -implicitDefEqProofs only[pkA,seval]
   refine hret _ ?_
   simp -implicitDefEqProofs only[pkA,seval]
   rw[ma hlt hy hno]
  ·simp -implicitDefEqProofs only[pkA,seval]
   refine hnorm (i+1) _ ⟨hlt,fun j h hj=>?_⟩ (by omega) (cR rfl (aA _) (by simp) ?_ ?_)
   ·rcases cx j i with h1 | h1
    ·exact hno j h h1
    ·have:j=i:=by omega
     subst this;exact hn
   ·have hw:=wrap_i64 (i+1) (by omega)
    simp[FL,ar,hw]
   ·simp[BL,bxs]
 ·have:i=es.length:=by simp at hge;omega
  subst this
  simp -implicitDefEqProofs only[pkA]
  refine hexit _ _ ?_
  simp -implicitDefEqProofs only[pkA,seval]
  rw[jI hno]
set_option maxHeartbeats 1000000 in
theorem uN (es:List Ru) (hm:es.length≤9223372036854775807) (x:Ru) :
 FnOK Tryz.prog G 162 [.c (.sl (es.map ruC)),.agg (ruC x)] (bo (es.any fun e=>decide (x=e))):=by
 refine bP (rs:=[.tmp 4]) false [] mixed Tryz.func162 rfl rfl rfl rfl (by kernel_rfl) (by simp) rfl rfl ?_
 simp -implicitDefEqProofs only[pg,seval]
 refine aD rfl (O9 es hm x) (by simp[V.boxy]) ?_
 simp -implicitDefEqProofs only[pkA,seval]
 rw[← jo]
set_option maxHeartbeats 1000000 in
theorem Pa (es:List Int) (hm:es.length≤9223372036854775807) (x:Int) :
 FnOK Tryz.prog G 161 [.c (.sl (es.map inC)),i64 x] (i64 (k7 (fun e=>decide (x=e)) es)):=by
 refine bP (rs:=[.tmp 4]) false [] mixed Tryz.func161 rfl rfl rfl rfl (by kernel_rfl) (by simp) rfl rfl ?_
 simp -implicitDefEqProofs only[jE,seval,ap]
 refine cZ (fun i:Nat=>hdS [(0,.c (.sl (es.map inC))),(1,i64 x),(7,i64 es.length),(8,i64 i)] []) (fun i=>es.length - i) (fun i=>i≤es.length∧∀ j (h:j<es.length),j<i→(fun e=>decide (x=e)) es[j]=false) 0 ⟨aA _,by simp⟩ ?_ ?_
 ·refine cR rfl (aA _) (by simp) ?_ ?_
  ·simp[FL,ar]
  ·simp[BL]
 rintro i ⟨hi,hno⟩ R hnorm hexit hret
 simp -implicitDefEqProofs only[pkA,seval]
 refine aZ (fun hlt=>?_) (fun hge=>?_)
 ·have hlt:i<es.length:=by simpa using hlt
  simp -implicitDefEqProofs only[pkA,seval]
  refine dL t7 rfl xW (by decide) (aM i) (c:=inC es[i]) (by simp[hlt]) rfl ?_
  simp -implicitDefEqProofs only[jE,seval,aba]
  refine aZ (fun hy=>?_) (fun hn=>?_)
  ·simp -implicitDefEqProofs only[pkA,seval]
   refine hret _ ?_
   simp -implicitDefEqProofs only[pkA,seval]
   rw[ma hlt hy hno]
  ·simp -implicitDefEqProofs only[pkA,seval]
   refine hnorm (i+1) _ ⟨hlt,fun j h hj=>?_⟩ (by omega) (cR rfl (aA _) (by simp) ?_ ?_)
   ·rcases cx j i with h1 | h1
    ·exact hno j h h1
    ·have:j=i:=by omega
     subst this;exact hn
   ·have hw:=wrap_i64 (i+1) (by omega)
    simp[FL,ar,hw]
   ·simp[BL]
 ·have:i=es.length:=by simp at hge;omega
  subst this
  simp -implicitDefEqProofs only[pkA]
  refine hexit _ _ ?_
  simp -implicitDefEqProofs only[pkA,seval]
  rw[jI hno]
set_option maxHeartbeats 1000000 in
theorem uO (es:List Int) (hm:es.length≤9223372036854775807) (x:Int) :
 FnOK Tryz.prog G 142 [.c (.sl (es.map inC)),i64 x] (bo (es.any fun e=>decide (x=e))):=by
 refine bP (rs:=[.tmp 4]) false [] mixed Tryz.func142 rfl rfl rfl rfl (by kernel_rfl) (by simp) rfl rfl ?_
 simp -implicitDefEqProofs only[pkA,seval]
 refine aD rfl (Pa es hm x) (by simp[V.boxy]) ?_
 simp -implicitDefEqProofs only[pkA,seval]
 rw[← jo]
set_option maxHeartbeats 1000000 in
theorem Ue (t o:Ty):FnOK Tryz.prog G 164 [.agg (tyC o),.c (.rp (tyC t) 0)] (bo (decide (o.name=t.name))):=by
 refine bP (rs:=[.tmp 3]) false [] mixed Tryz.func164 rfl rfl rfl rfl (by kernel_rfl) (by simp) rfl rfl ?_
 simp -implicitDefEqProofs only[pg,seval]
set_option maxHeartbeats 1000000 in
theorem Uf (t o:Qu):FnOK Tryz.prog G 167 [.agg (quC o),.c (.rp (quC t) 0)] (bo (decide (o.cmd=t.cmd))):=by
 refine bP (rs:=[.tmp 3]) false [] mixed Tryz.func167 rfl rfl rfl rfl (by kernel_rfl) (by simp) rfl rfl ?_
 simp -implicitDefEqProofs only[pg,seval]
def Bh (x:Wi):Bool:=decide (x.n<x.lo)||decide (x.hi<x.n)
set_option maxHeartbeats 1000000 in
theorem Km (x:Wi):FnOK Tryz.prog G 178 [.agg (wiC x)] (bo (Bh x)):=by
 refine bP (rs:=[.tmp 2]) false [] mixed Tryz.func178 rfl rfl rfl rfl (by kernel_rfl) (by simp) rfl rfl ?_
 repeat' first
  |(simp -implicitDefEqProofs only[jE,seval,aa7,aa8,aa9])
  |refine jc (fun h=>?_) (fun h=>?_)
  |refine aZ (fun h=>?_) (fun h=>?_)
 all_goals (unfold Bh;first | (simp_all;done) | (simp_all;omega))
set_option maxHeartbeats 1000000 in
theorem wZ (es:List Wi) (hm:es.length≤9223372036854775807):FnOK Tryz.prog G 165 [.c (.sl (es.map wiC))] (bo (es.any Bh)):=by
 refine bP (rs:=[.tmp 2]) false [] mixed Tryz.func165 rfl rfl rfl rfl (by kernel_rfl) (by simp) rfl rfl ?_
 simp -implicitDefEqProofs only[pkA,seval]
 refine aD rfl (vg es hm _ [] Bh (fun e _=>Km e)) (by simp[V.boxy]) ?_
 simp -implicitDefEqProofs only[pkA,seval]
def nmC (k:Nat) (c:Int):Bool:=(decide (97≤c)&&decide (c≤122))||(decide (0<k)&&(decide (48≤c)&&decide (c≤57)))
def mg (s:ByteArray):Bool:=decide (∀ k (h:k<s.data.size),nmC k s.data[k].toNat=true)&&decide (1≤s.size)&&decide (s.size≤12)
theorem y6 {s:ByteArray} {k:Nat} (h:k<s.data.size) (hc:nmC k s.data[k].toNat=false):mg s=false:=by
 have:decide (∀ k (h:k<s.data.size),nmC k s.data[k].toNat=true)=false:=en fun hh=>by rw[hh k h] at hc;cases hc
 unfold mg;rw[this];simp only[Bool.false_and]
theorem y7 {s:ByteArray} (hk:∀ j (h:j<s.data.size),nmC j s.data[j].toNat=true):mg s=(decide (1≤s.size)&&decide (s.size≤12)):=by
 have:decide (∀ k (h:k<s.data.size),nmC k s.data[k].toNat=true)=true:=eI hk
 unfold mg;rw[this,Bool.true_and]
theorem Pb (s:ByteArray) {k:Nat} (h:k<s.data.size):(jl s)[k]?=some [.lit (.int .u8 s.data[k].toNat)]:=by simp only[jl,ba,aQ,ax h,bI]
theorem Pd (s:ByteArray):(jl s).length=s.data.size:=by simp[jl]
theorem G6 {s:ByteArray} {K:V→Prop}:mD Tryz.prog 9 173 (.c (.lit (.string s))) K=K (.c (.sl (jl s))):=by
 simp only[mD,AP,pa,NC]
theorem X4 {s:ByteArray} {k:Nat} {K:V→Prop} (h:k<s.data.size):lC Tryz.prog 9 (.c (.lit (.string s))) (i64 k) K=K (.c (.lit (.int .u8 s.data[k].toNat))):=
 Ff AP rfl (aM k) (by simp[])
set_option maxHeartbeats 1000000 in
theorem Hu (s:ByteArray) (hs:s.size≤9223372036854775807):FnOK Tryz.prog G 144 [.c (.lit (.string s))] (bo (mg s)):=by
 have hsz:s.size=s.data.size:=rfl
 refine bP (rs:=[.tmp 2]) false [] mixed Tryz.func144 rfl rfl rfl rfl (by kernel_rfl) (by simp) rfl rfl ?_
 simp only[jE,seval,G6,Pd]
 refine cZ (fun i:Nat=>hdS [(0,.c (.lit (.string s))),(6,.c (.sl (jl s))),(7,i64 s.data.size),(8,i64 i)] []) (fun i=>s.data.size - i) (fun i=>i≤s.data.size∧∀ j (h:j<s.data.size),j<i→nmC j s.data[j].toNat=true) 0 ⟨aA _,by simp⟩ ?_ ?_
 ·refine cR rfl (aA _) (by simp) ?_ ?_
  ·simp[FL,ar]
  ·simp[BL]
 rintro i ⟨hi,hno⟩ R hnorm hexit hret
 simp only[pkA,seval]
 refine aZ (fun hlt=>?_) (fun hge=>?_)
 ·have hlt:i<s.data.size:=by simpa using hlt
  have hw:=wrap_i64 (i+1) (by omega)
  simp only[pkA,seval]
  refine dL pa rfl NC (by decide) (aM i) (c:=[.lit (.int .u8 s.data[i].toNat)]) (Pb s hlt) rfl ?_
  generalize hc:(s.data[i].toNat:Int)=c
  have good:nmC i c=true→∀ s',S.Le (mo []) (hdS [(0,.c (.lit (.string s))),(6,.c (.sl (jl s))),(7,i64 s.data.size),(8,i64 (i+1:Nat))] []) s'→R .normal s':=fun hg s' hle=>
   hnorm (i+1) s' ⟨hlt,fun j h hj=>by
    rcases cx j i with h1 | h1
    ·exact hno j h h1
    ·have:j=i:=by omega
     subst this;rw[hc];exact hg⟩ (by omega) hle
  have bad:nmC i c=false→mg s=false:=fun hb=>y6 hlt (by rw[hc];exact hb)
  clear hno hnorm
  repeat' first
   |(simp only[jE,seval])
   |refine jc (fun h=>?_) (fun h=>?_)
   |refine aZ (fun h=>?_) (fun h=>?_)
  all_goals first
   |(refine hret _ ?_
     simp only[pkA,seval]
     rw[bad (by clear hsz hret hexit good bad;simp_all[nmC]<;>omega)])
   |(refine good (by clear hsz hret hexit bad good;simp_all[nmC]<;>omega) _ (cR rfl (aA _) (by simp) ?_ trivial)
     simp[FL,ar,hw])
 ·have:i=s.data.size:=by simp at hge;omega
  subst this
  simp only[pkA]
  refine hexit _ _ ?_
  clear hexit hret hnorm
  repeat' first
   |(simp only[jE,seval])
   |refine jc (fun h=>?_) (fun h=>?_)
   |refine aZ (fun h=>?_) (fun h=>?_)
  all_goals
   rw[y7 (fun j h=>hno j h h)]
   clear hno hsz
   first | (simp_all;done) | (simp_all;omega) | (simp_all;rw[jw];simp;omega)
set_option maxRecDepth 100000 in
set_option maxHeartbeats 2000000 in
theorem Ge (s:ByteArray) (hs:s.size≤9223372036854775807):FnOK Tryz.prog G 105 [.c (.lit (.string s))] (bo (mg s)):=by
 have hsz:s.size=s.data.size:=rfl
 refine bP (rs:=[.tmp 2]) false [] mixed Tryz.func105 rfl rfl rfl rfl (by kernel_rfl) (by simp) rfl rfl ?_
 by_cases hl:1≤s.size∧s.size≤12
 ·have h1:decide ((s.size:Int)<1)=false:=by simp;omega
  have h2:decide ((12:Int)<(s.size:Int))=false:=by simp;omega
  simp only[jE,seval,h1,h2]
  refine cZ (fun i:Nat=>hdS [(0,.c (.lit (.string s))),(3,i64 i)] []) (fun i=>s.data.size - i) (fun i=>i≤s.data.size∧∀ j (h:j<s.data.size),j<i→nmC j s.data[j].toNat=true) 0 ⟨aA _,by simp⟩ ?_ ?_
  ·refine cR rfl (aA _) (by simp) ?_ ?_
   ·simp[FL,ar]
   ·simp[BL]
  rintro i ⟨hi,hno⟩ R hnorm hexit hret
  simp only[jE,seval]
  refine aZ (fun hlt=>?_) (fun hge=>?_)
  ·have hlt:i<s.data.size:=by rw[hsz] at hlt;simpa using hlt
   have hw:=wrap_i64 (i+1) (by omega)
   have hix:∀ K,lC Tryz.prog 9 (.c (.lit (.string s))) (i64 i) K=K (.c (.lit (.int .u8 s.data[i].toNat))):=fun K=>X4 hlt
   generalize hc:(s.data[i].toNat:Int)=c at hix
   have good:nmC i c=true→∀ s',S.Le (mo []) (hdS [(0,.c (.lit (.string s))),(3,i64 (i+1:Nat))] []) s'→R .normal s':=fun hg s' hle=>
    hnorm (i+1) s' ⟨hlt,fun j h hj=>by
     rcases cx j i with h1 | h1
     ·exact hno j h h1
     ·have:j=i:=by omega
      subst this;rw[hc];exact hg⟩ (by omega) hle
   have bad:nmC i c=false→mg s=false:=fun hb=>y6 hlt (by rw[hc];exact hb)
   clear hno hnorm h1 h2
   repeat' first
    |(simp only[pkA,seval,hix])
    |refine jc (fun h=>?_) (fun h=>?_)
    |refine aZ (fun h=>?_) (fun h=>?_)
   all_goals first
    |(refine hret _ ?_
      simp only[pkA,seval]
      rw[bad (by clear hsz hret hexit good bad;simp_all[nmC]<;>omega)])
    |(refine good (by clear hsz hret hexit bad good;simp_all[nmC]<;>omega) _ (cR rfl (aA _) (by simp) ?_ trivial)
      simp[FL,ar,hw])
  ·have:i=s.data.size:=by rw[hsz] at hge;simp at hge;omega
   subst this
   simp only[pkA]
   refine hexit _ _ ?_
   simp only[pkA,seval]
   rw[y7 (fun j h=>hno j h h)]
   simp[hl]
 ·have hb:mg s=false:=by
   unfold mg
   by_cases h1:1≤s.size
   ·have:¬ s.size≤12:=fun h=>hl ⟨h1,h⟩
    simp[this]
   ·simp[h1]
  repeat' first
   |(simp only[jE,seval])
   |refine jc (fun h=>?_) (fun h=>?_)
   |refine aZ (fun h=>?_) (fun h=>?_)
  all_goals first | (rw[hb];done) | (exfalso;clear hsz hb;simp_all;omega) | (rw[hb])
def ZR (p:Pol):Prop:=p.types.length≤9223372036854775807∧p.rules.length≤9223372036854775807∧p.quorums.length≤9223372036854775807
