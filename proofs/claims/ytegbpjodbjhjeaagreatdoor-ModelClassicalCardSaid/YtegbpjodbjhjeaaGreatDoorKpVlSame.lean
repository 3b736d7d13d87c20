/- Contracts of the look-ups in slices, over the values of layer 13. -/
import Derived.Test.YtegbpjodbjhjeaaGreatDoorKpVlFun2
set_option linter.all false
namespace Go.Proofs.YtegbpjodbjhjeaaGreatDoor.Kp
open Go Go.Vl
set_option maxRecDepth 10000
variable {G:Gl}
structure Wi where
 n:Int
 lo:Int
 hi:Int
def wiC (t:Wi):List C:=[cI t.n,cI t.lo,cI t.hi]
theorem Yn (t:Wi):(wiC t).length=3:=rfl
theorem ahl {t:Wi} {K:V→Prop} {sz:Nat}:eA false sz 0 (wiC t) K=K (i64 t.n):=rfl
theorem ahm {t:Wi} {K:V→Prop} {sz:Nat}:eA false sz 1 (wiC t) K=K (i64 t.lo):=rfl
theorem ahn {t:Wi} {K:V→Prop} {sz:Nat}:eA false sz 2 (wiC t) K=K (i64 t.hi):=rfl
def inC (n:Int):List C:=[cI n]
theorem aho {t:Int} {K:V→Prop} {sz:Nat}:eA false sz 0 (inC t) K=K (i64 t):=rfl
def kQ:=jj @pkA @ptA
def rJ:=jj @pkA (jj @ptA @pkP)
set_option maxHeartbeats 1000000 in
theorem FH (es:List Ty) (hm:es.length≤9223372036854775807) (g:FuncId) (caps:List C) (p:Ty→Bool) (hp:∀ e∈es,FnOK Tryz.prog G g (.agg (tyC e)::caps.map .c) (bo (p e))) :
 FnOK Tryz.prog G 176 [.c (.sl (es.map tyC)),.c (.fn (.func g) [] caps)] (i64 (mP p es)):=by
 refine bE (rs:=[.tmp 4]) false [] mixed Tryz.func176 rfl rfl rfl rfl (by kernel_rfl) (by simp) rfl rfl ?_
 simp -implicitDefEqProofs only[kQ,seval,am]
 refine ck (fun i:Nat=>hdS [(0,.c (.sl (es.map tyC))),(1,.c (.fn (.func g) [] caps)),(7,i64 es.length),(8,i64 i)] []) (fun i=>es.length - i) (fun i=>i≤es.length∧∀ j (h:j<es.length),j<i→p es[j]=false) 0 ⟨ar _,by simp⟩ ?_ ?_
 ·refine bT rfl (ar _) (ae _) ?_ trivial
  simp[FL,au]
 rintro i ⟨hi,fm⟩ R bS cd cX
 simp -implicitDefEqProofs only[pkA,seval]
 refine aL (fun bB=>?_) (fun fA=>?_)
 ·have bB:i<es.length:=by simpa using bB
  simp -implicitDefEqProofs only[pkA,seval]
  refine df ng rfl kO (by decide) (aD i) (c:=tyC es[i]) (by simp[bB]) rfl ?_
  simp -implicitDefEqProofs only[rJ,seval]
  refine ay rfl (hp _ (aF bB)) (by simp[V.boxy]) ?_
  simp -implicitDefEqProofs only[pkA,seval]
  refine aL (fun hy=>?_) (fun hn=>?_)
  ·simp -implicitDefEqProofs only[pkA,seval]
   refine cX _ ?_
   simp -implicitDefEqProofs only[pkA,seval]
   rw[nS bB hy fm]
  ·simp -implicitDefEqProofs only[pkA,seval]
   refine bS (i+1) _ ⟨bB,fun j h hj=>?_⟩ (by omega) (bT rfl (ar _) (ae _) ?_ trivial)
   ·rcases ct j i with h1 | h1
    ·exact fm j h h1
    ·have:j=i:=by omega
     subst this;exact hn
   ·have hw:=wrap_i64 (i+1) (by omega)
    simp[FL,au,hw]
 ·have:i=es.length:=by simp at fA;omega
  subst this
  simp -implicitDefEqProofs only[pkA]
  refine cd _ _ ?_
  simp -implicitDefEqProofs only[pkA,seval]
  rw[kY fm]
set_option maxHeartbeats 1000000 in
theorem zu (es:List Ty) (hm:es.length≤9223372036854775807) (g:FuncId) (caps:List C) (p:Ty→Bool) (hp:∀ e∈es,FnOK Tryz.prog G g (.agg (tyC e)::caps.map .c) (bo (p e))) :
 FnOK Tryz.prog G 163 [.c (.sl (es.map tyC)),.c (.fn (.func g) [] caps)] (bo (es.any p)):=by
 refine bE (rs:=[.tmp 4]) false [] mixed Tryz.func163 rfl rfl rfl rfl (by kernel_rfl) (by simp) rfl rfl ?_
 simp -implicitDefEqProofs only[pkA,seval]
 refine ay rfl (FH es hm g caps p hp) (by simp[V.boxy]) ?_
 simp -implicitDefEqProofs only[pkA,seval]
 rw[← kw]
set_option maxHeartbeats 1000000 in
theorem FI (es:List Qu) (hm:es.length≤9223372036854775807) (g:FuncId) (caps:List C) (p:Qu→Bool) (hp:∀ e∈es,FnOK Tryz.prog G g (.agg (quC e)::caps.map .c) (bo (p e))) :
 FnOK Tryz.prog G 179 [.c (.sl (es.map quC)),.c (.fn (.func g) [] caps)] (i64 (mP p es)):=by
 refine bE (rs:=[.tmp 4]) false [] mixed Tryz.func179 rfl rfl rfl rfl (by kernel_rfl) (by simp) rfl rfl ?_
 simp -implicitDefEqProofs only[kQ,seval,am]
 refine ck (fun i:Nat=>hdS [(0,.c (.sl (es.map quC))),(1,.c (.fn (.func g) [] caps)),(7,i64 es.length),(8,i64 i)] []) (fun i=>es.length - i) (fun i=>i≤es.length∧∀ j (h:j<es.length),j<i→p es[j]=false) 0 ⟨ar _,by simp⟩ ?_ ?_
 ·refine bT rfl (ar _) (ae _) ?_ trivial
  simp[FL,au]
 rintro i ⟨hi,fm⟩ R bS cd cX
 simp -implicitDefEqProofs only[pkA,seval]
 refine aL (fun bB=>?_) (fun fA=>?_)
 ·have bB:i<es.length:=by simpa using bB
  simp -implicitDefEqProofs only[pkA,seval]
  refine df A6 rfl mU (by decide) (aD i) (c:=quC es[i]) (by simp[bB]) rfl ?_
  simp -implicitDefEqProofs only[rJ,seval]
  refine ay rfl (hp _ (aF bB)) (by simp[V.boxy]) ?_
  simp -implicitDefEqProofs only[pkA,seval]
  refine aL (fun hy=>?_) (fun hn=>?_)
  ·simp -implicitDefEqProofs only[pkA,seval]
   refine cX _ ?_
   simp -implicitDefEqProofs only[pkA,seval]
   rw[nS bB hy fm]
  ·simp -implicitDefEqProofs only[pkA,seval]
   refine bS (i+1) _ ⟨bB,fun j h hj=>?_⟩ (by omega) (bT rfl (ar _) (ae _) ?_ trivial)
   ·rcases ct j i with h1 | h1
    ·exact fm j h h1
    ·have:j=i:=by omega
     subst this;exact hn
   ·have hw:=wrap_i64 (i+1) (by omega)
    simp[FL,au,hw]
 ·have:i=es.length:=by simp at fA;omega
  subst this
  simp -implicitDefEqProofs only[pkA]
  refine cd _ _ ?_
  simp -implicitDefEqProofs only[pkA,seval]
  rw[kY fm]
set_option maxHeartbeats 1000000 in
theorem zw (es:List Qu) (hm:es.length≤9223372036854775807) (g:FuncId) (caps:List C) (p:Qu→Bool) (hp:∀ e∈es,FnOK Tryz.prog G g (.agg (quC e)::caps.map .c) (bo (p e))) :
 FnOK Tryz.prog G 166 [.c (.sl (es.map quC)),.c (.fn (.func g) [] caps)] (bo (es.any p)):=by
 refine bE (rs:=[.tmp 4]) false [] mixed Tryz.func166 rfl rfl rfl rfl (by kernel_rfl) (by simp) rfl rfl ?_
 simp -implicitDefEqProofs only[pkA,seval]
 refine ay rfl (FI es hm g caps p hp) (by simp[V.boxy]) ?_
 simp -implicitDefEqProofs only[pkA,seval]
 rw[← kw]
set_option maxHeartbeats 1000000 in
theorem FK (es:List Wi) (hm:es.length≤9223372036854775807) (g:FuncId) (caps:List C) (p:Wi→Bool) (hp:∀ e∈es,FnOK Tryz.prog G g (.agg (wiC e)::caps.map .c) (bo (p e))) :
 FnOK Tryz.prog G 191 [.c (.sl (es.map wiC)),.c (.fn (.func g) [] caps)] (i64 (mP p es)):=by
 refine bE (rs:=[.tmp 4]) false [] mixed Tryz.func191 rfl rfl rfl rfl (by kernel_rfl) (by simp) rfl rfl ?_
 simp -implicitDefEqProofs only[kQ,seval,am]
 refine ck (fun i:Nat=>hdS [(0,.c (.sl (es.map wiC))),(1,.c (.fn (.func g) [] caps)),(7,i64 es.length),(8,i64 i)] []) (fun i=>es.length - i) (fun i=>i≤es.length∧∀ j (h:j<es.length),j<i→p es[j]=false) 0 ⟨ar _,by simp⟩ ?_ ?_
 ·refine bT rfl (ar _) (ae _) ?_ trivial
  simp[FL,au]
 rintro i ⟨hi,fm⟩ R bS cd cX
 simp -implicitDefEqProofs only[pkA,seval]
 refine aL (fun bB=>?_) (fun fA=>?_)
 ·have bB:i<es.length:=by simpa using bB
  simp -implicitDefEqProofs only[pkA,seval]
  refine df KC rfl vG (by decide) (aD i) (c:=wiC es[i]) (by simp[bB]) rfl ?_
  simp -implicitDefEqProofs only[kQ,seval,Yn]
  refine ay rfl (hp _ (aF bB)) (by simp[V.boxy]) ?_
  simp -implicitDefEqProofs only[pkA,seval]
  refine aL (fun hy=>?_) (fun hn=>?_)
  ·simp -implicitDefEqProofs only[pkA,seval]
   refine cX _ ?_
   simp -implicitDefEqProofs only[pkA,seval]
   rw[nS bB hy fm]
  ·simp -implicitDefEqProofs only[pkA,seval]
   refine bS (i+1) _ ⟨bB,fun j h hj=>?_⟩ (by omega) (bT rfl (ar _) (ae _) ?_ trivial)
   ·rcases ct j i with h1 | h1
    ·exact fm j h h1
    ·have:j=i:=by omega
     subst this;exact hn
   ·have hw:=wrap_i64 (i+1) (by omega)
    simp[FL,au,hw]
 ·have:i=es.length:=by simp at fA;omega
  subst this
  simp -implicitDefEqProofs only[pkA]
  refine cd _ _ ?_
  simp -implicitDefEqProofs only[pkA,seval]
  rw[kY fm]
set_option maxHeartbeats 1000000 in
theorem zx (es:List Wi) (hm:es.length≤9223372036854775807) (g:FuncId) (caps:List C) (p:Wi→Bool) (hp:∀ e∈es,FnOK Tryz.prog G g (.agg (wiC e)::caps.map .c) (bo (p e))) :
 FnOK Tryz.prog G 177 [.c (.sl (es.map wiC)),.c (.fn (.func g) [] caps)] (bo (es.any p)):=by
 refine bE (rs:=[.tmp 4]) false [] mixed Tryz.func177 rfl rfl rfl rfl (by kernel_rfl) (by simp) rfl rfl ?_
 simp -implicitDefEqProofs only[pkA,seval]
 refine ay rfl (FK es hm g caps p hp) (by simp[V.boxy]) ?_
 simp -implicitDefEqProofs only[pkA,seval]
 rw[← kw]
set_option maxHeartbeats 1000000 in
theorem Uo (es:List Ru) (hm:es.length≤9223372036854775807) (x:Ru) :
 FnOK Tryz.prog G 175 [.c (.sl (es.map ruC)),.agg (ruC x)] (i64 (mP (fun e=>decide (x=e)) es)):=by
 refine bE (rs:=[.tmp 4]) false [] mixed Tryz.func175 rfl rfl rfl rfl (by kernel_rfl) (by simp) rfl rfl ?_
 simp -implicitDefEqProofs only[kQ,seval,am]
 refine ck (fun i:Nat=>hdS [(0,.c (.sl (es.map ruC))),(3,.bp 0 0),(7,i64 es.length),(8,i64 i)] [(ruC x).map .c]) (fun i=>es.length - i) (fun i=>i≤es.length∧∀ j (h:j<es.length),j<i→(fun e=>decide (x=e)) es[j]=false) 0 ⟨ar _,by simp⟩ ?_ ?_
 ·refine bT rfl (ar _) (by simp) ?_ ?_
  ·simp[FL,au]
  ·simp[BL]
 rintro i ⟨hi,fm⟩ R bS cd cX
 simp -implicitDefEqProofs only[pkA,seval]
 refine aL (fun bB=>?_) (fun fA=>?_)
 ·have bB:i<es.length:=by simpa using bB
  simp -implicitDefEqProofs only[rJ,seval]
  refine df tf rfl mz (by decide) (aD i) (c:=ruC es[i]) (by simp[bB]) rfl ?_
  simp -implicitDefEqProofs only[rJ,seval]
  refine aL (fun hy=>?_) (fun hn=>?_)
  ·simp -implicitDefEqProofs only[pkA,seval]
   refine cX _ ?_
   simp -implicitDefEqProofs only[pkA,seval]
   rw[nS bB hy fm]
  ·simp -implicitDefEqProofs only[pkA,seval]
   refine bS (i+1) _ ⟨bB,fun j h hj=>?_⟩ (by omega) (bT rfl (ar _) (by simp) ?_ ?_)
   ·rcases ct j i with h1 | h1
    ·exact fm j h h1
    ·have:j=i:=by omega
     subst this;exact hn
   ·have hw:=wrap_i64 (i+1) (by omega)
    simp[FL,au,hw]
   ·simp[BL,bxs]
 ·have:i=es.length:=by simp at fA;omega
  subst this
  simp -implicitDefEqProofs only[pkA]
  refine cd _ _ ?_
  simp -implicitDefEqProofs only[pkA,seval]
  rw[kY fm]
set_option maxHeartbeats 1000000 in
theorem y7 (es:List Ru) (hm:es.length≤9223372036854775807) (x:Ru) :
 FnOK Tryz.prog G 162 [.c (.sl (es.map ruC)),.agg (ruC x)] (bo (es.any fun e=>decide (x=e))):=by
 refine bE (rs:=[.tmp 4]) false [] mixed Tryz.func162 rfl rfl rfl rfl (by kernel_rfl) (by simp) rfl rfl ?_
 simp -implicitDefEqProofs only[rJ,seval]
 refine ay rfl (Uo es hm x) (by simp[V.boxy]) ?_
 simp -implicitDefEqProofs only[pkA,seval]
 rw[← kw]
set_option maxHeartbeats 1000000 in
theorem Up (es:List Int) (hm:es.length≤9223372036854775807) (x:Int) :
 FnOK Tryz.prog G 161 [.c (.sl (es.map inC)),i64 x] (i64 (mP (fun e=>decide (x=e)) es)):=by
 refine bE (rs:=[.tmp 4]) false [] mixed Tryz.func161 rfl rfl rfl rfl (by kernel_rfl) (by simp) rfl rfl ?_
 simp -implicitDefEqProofs only[kQ,seval,am]
 refine ck (fun i:Nat=>hdS [(0,.c (.sl (es.map inC))),(1,i64 x),(7,i64 es.length),(8,i64 i)] []) (fun i=>es.length - i) (fun i=>i≤es.length∧∀ j (h:j<es.length),j<i→(fun e=>decide (x=e)) es[j]=false) 0 ⟨ar _,by simp⟩ ?_ ?_
 ·refine bT rfl (ar _) (by simp) ?_ ?_
  ·simp[FL,au]
  ·simp[BL]
 rintro i ⟨hi,fm⟩ R bS cd cX
 simp -implicitDefEqProofs only[pkA,seval]
 refine aL (fun bB=>?_) (fun fA=>?_)
 ·have bB:i<es.length:=by simpa using bB
  simp -implicitDefEqProofs only[pkA,seval]
  refine df Fb rfl E8 (by decide) (aD i) (c:=inC es[i]) (by simp[bB]) rfl ?_
  simp -implicitDefEqProofs only[kQ,seval,aho]
  refine aL (fun hy=>?_) (fun hn=>?_)
  ·simp -implicitDefEqProofs only[pkA,seval]
   refine cX _ ?_
   simp -implicitDefEqProofs only[pkA,seval]
   rw[nS bB hy fm]
  ·simp -implicitDefEqProofs only[pkA,seval]
   refine bS (i+1) _ ⟨bB,fun j h hj=>?_⟩ (by omega) (bT rfl (ar _) (by simp) ?_ ?_)
   ·rcases ct j i with h1 | h1
    ·exact fm j h h1
    ·have:j=i:=by omega
     subst this;exact hn
   ·have hw:=wrap_i64 (i+1) (by omega)
    simp[FL,au,hw]
   ·simp[BL]
 ·have:i=es.length:=by simp at fA;omega
  subst this
  simp -implicitDefEqProofs only[pkA]
  refine cd _ _ ?_
  simp -implicitDefEqProofs only[pkA,seval]
  rw[kY fm]
set_option maxHeartbeats 1000000 in
theorem y8 (es:List Int) (hm:es.length≤9223372036854775807) (x:Int) :
 FnOK Tryz.prog G 142 [.c (.sl (es.map inC)),i64 x] (bo (es.any fun e=>decide (x=e))):=by
 refine bE (rs:=[.tmp 4]) false [] mixed Tryz.func142 rfl rfl rfl rfl (by kernel_rfl) (by simp) rfl rfl ?_
 simp -implicitDefEqProofs only[pkA,seval]
 refine ay rfl (Up es hm x) (by simp[V.boxy]) ?_
 simp -implicitDefEqProofs only[pkA,seval]
 rw[← kw]
set_option maxHeartbeats 1000000 in
theorem Yo (t o:Ty):FnOK Tryz.prog G 164 [.agg (tyC o),.c (.rp (tyC t) 0)] (bo (decide (o.name=t.name))):=by
 refine bE (rs:=[.tmp 3]) false [] mixed Tryz.func164 rfl rfl rfl rfl (by kernel_rfl) (by simp) rfl rfl ?_
 simp -implicitDefEqProofs only[rJ,seval]
set_option maxHeartbeats 1000000 in
theorem Yp (t o:Qu):FnOK Tryz.prog G 167 [.agg (quC o),.c (.rp (quC t) 0)] (bo (decide (o.cmd=t.cmd))):=by
 refine bE (rs:=[.tmp 3]) false [] mixed Tryz.func167 rfl rfl rfl rfl (by kernel_rfl) (by simp) rfl rfl ?_
 simp -implicitDefEqProofs only[rJ,seval]
def zy (x:Wi):Bool:=decide (x.n<x.lo)||decide (x.hi<x.n)
set_option maxHeartbeats 1000000 in
theorem Py (x:Wi):FnOK Tryz.prog G 178 [.agg (wiC x)] (bo (zy x)):=by
 refine bE (rs:=[.tmp 2]) false [] mixed Tryz.func178 rfl rfl rfl rfl (by kernel_rfl) (by simp) rfl rfl ?_
 repeat' first
  |(simp -implicitDefEqProofs only[kQ,seval,ahl,ahm,ahn])
  |refine iK (fun h=>?_) (fun h=>?_)
  |refine aL (fun h=>?_) (fun h=>?_)
 all_goals (unfold zy;first | (simp_all;done) | (simp_all;omega))
set_option maxHeartbeats 1000000 in
theorem Br (es:List Wi) (hm:es.length≤9223372036854775807):FnOK Tryz.prog G 165 [.c (.sl (es.map wiC))] (bo (es.any zy)):=by
 refine bE (rs:=[.tmp 2]) false [] mixed Tryz.func165 rfl rfl rfl rfl (by kernel_rfl) (by simp) rfl rfl ?_
 simp -implicitDefEqProofs only[pkA,seval]
 refine ay rfl (zx es hm _ [] zy (fun e _=>Py e)) (by simp[V.boxy]) ?_
 simp -implicitDefEqProofs only[pkA,seval]
def nmC (k:Nat) (c:Int):Bool:=(decide (97≤c)&&decide (c≤122))||(decide (0<k)&&(decide (48≤c)&&decide (c≤57)))
def mY (s:ByteArray):Bool:=decide (∀ k (h:k<s.data.size),nmC k s.data[k].toNat=true)&&decide (1≤s.size)&&decide (s.size≤12)
theorem Ds {s:ByteArray} {k:Nat} (h:k<s.data.size) (hc:nmC k s.data[k].toNat=false):mY s=false:=by
 have:decide (∀ k (h:k<s.data.size),nmC k s.data[k].toNat=true)=false:=cR fun hh=>by rw[hh k h] at hc;cases hc
 unfold mY;rw[this];simp only[Bool.false_and]
theorem Dt {s:ByteArray} (hk:∀ j (h:j<s.data.size),nmC j s.data[j].toNat=true):mY s=(decide (1≤s.size)&&decide (s.size≤12)):=by
 have:decide (∀ k (h:k<s.data.size),nmC k s.data[k].toNat=true)=true:=cZ hk
 unfold mY;rw[this,Bool.true_and]
theorem Uq (s:ByteArray) {k:Nat} (h:k<s.data.size):(kq s)[k]?=some [.lit (.int .u8 s.data[k].toNat)]:=by simp only[kq,bb,aV,aA h,bO]
theorem Ur (s:ByteArray):(kq s).length=s.data.size:=by simp[kq]
theorem Mo {s:ByteArray} {K:V→Prop}:oD Tryz.prog 9 173 (.c (.lit (.string s))) K=K (.c (.sl (kq s))):=by
 simp only[oD,E9,KB,aa2]
theorem acg {s:ByteArray} {k:Nat} {K:V→Prop} (h:k<s.data.size):nj Tryz.prog 9 (.c (.lit (.string s))) (i64 k) K=K (.c (.lit (.int .u8 s.data[k].toNat))):=
 Kf E9 rfl (aD k) (by simp[])
set_option maxHeartbeats 1000000 in
theorem MM (s:ByteArray) (hs:s.size≤9223372036854775807):FnOK Tryz.prog G 144 [.c (.lit (.string s))] (bo (mY s)):=by
 have dZ:s.size=s.data.size:=rfl
 refine bE (rs:=[.tmp 2]) false [] mixed Tryz.func144 rfl rfl rfl rfl (by kernel_rfl) (by simp) rfl rfl ?_
 simp only[kQ,seval,Mo,Ur]
 refine ck (fun i:Nat=>hdS [(0,.c (.lit (.string s))),(6,.c (.sl (kq s))),(7,i64 s.data.size),(8,i64 i)] []) (fun i=>s.data.size - i) (fun i=>i≤s.data.size∧∀ j (h:j<s.data.size),j<i→nmC j s.data[j].toNat=true) 0 ⟨ar _,by simp⟩ ?_ ?_
 ·refine bT rfl (ar _) (by simp) ?_ ?_
  ·simp[FL,au]
  ·simp[BL]
 rintro i ⟨hi,fm⟩ R bS cd cX
 simp only[pkA,seval]
 refine aL (fun bB=>?_) (fun fA=>?_)
 ·have bB:i<s.data.size:=by simpa using bB
  have hw:=wrap_i64 (i+1) (by omega)
  simp only[pkA,seval]
  refine df KB rfl aa2 (by decide) (aD i) (c:=[.lit (.int .u8 s.data[i].toNat)]) (Uq s bB) rfl ?_
  generalize hc:(s.data[i].toNat:Int)=c
  have good:nmC i c=true→∀ s',S.Le (ol []) (hdS [(0,.c (.lit (.string s))),(6,.c (.sl (kq s))),(7,i64 s.data.size),(8,i64 (i+1:Nat))] []) s'→R .normal s':=fun hg s' fy=>
   bS (i+1) s' ⟨bB,fun j h hj=>by
    rcases ct j i with h1 | h1
    ·exact fm j h h1
    ·have:j=i:=by omega
     subst this;rw[hc];exact hg⟩ (by omega) fy
  have bad:nmC i c=false→mY s=false:=fun hb=>Ds bB (by rw[hc];exact hb)
  clear fm bS
  repeat' first
   |(simp only[kQ,seval])
   |refine iK (fun h=>?_) (fun h=>?_)
   |refine aL (fun h=>?_) (fun h=>?_)
  all_goals first
   |(refine cX _ ?_
     simp only[pkA,seval]
     rw[bad (by clear dZ cX cd good bad;simp_all[nmC]<;>omega)])
   |(refine good (by clear dZ cX cd bad good;simp_all[nmC]<;>omega) _ (bT rfl (ar _) (by simp) ?_ trivial)
     simp[FL,au,hw])
 ·have:i=s.data.size:=by simp at fA;omega
  subst this
  simp only[pkA]
  refine cd _ _ ?_
  clear cd cX bS
  repeat' first
   |(simp only[kQ,seval])
   |refine iK (fun h=>?_) (fun h=>?_)
   |refine aL (fun h=>?_) (fun h=>?_)
  all_goals
   rw[Dt (fun j h=>fm j h h)]
   clear fm dZ
   first | (simp_all;done) | (simp_all;omega) | (simp_all;rw[iL];simp;omega)
set_option maxRecDepth 100000 in
set_option maxHeartbeats 2000000 in
theorem Bs (s:ByteArray) (hs:s.size≤9223372036854775807):FnOK Tryz.prog G 105 [.c (.lit (.string s))] (bo (mY s)):=by
 have dZ:s.size=s.data.size:=rfl
 refine bE (rs:=[.tmp 2]) false [] mixed Tryz.func105 rfl rfl rfl rfl (by kernel_rfl) (by simp) rfl rfl ?_
 by_cases hl:1≤s.size∧s.size≤12
 ·have h1:decide ((s.size:Int)<1)=false:=by simp;omega
  have h2:decide ((12:Int)<(s.size:Int))=false:=by simp;omega
  simp only[kQ,seval,h1,h2]
  refine ck (fun i:Nat=>hdS [(0,.c (.lit (.string s))),(3,i64 i)] []) (fun i=>s.data.size - i) (fun i=>i≤s.data.size∧∀ j (h:j<s.data.size),j<i→nmC j s.data[j].toNat=true) 0 ⟨ar _,by simp⟩ ?_ ?_
  ·refine bT rfl (ar _) (by simp) ?_ ?_
   ·simp[FL,au]
   ·simp[BL]
  rintro i ⟨hi,fm⟩ R bS cd cX
  simp only[kQ,seval]
  refine aL (fun bB=>?_) (fun fA=>?_)
  ·have bB:i<s.data.size:=by rw[dZ] at bB;simpa using bB
   have hw:=wrap_i64 (i+1) (by omega)
   have Y1:∀ K,nj Tryz.prog 9 (.c (.lit (.string s))) (i64 i) K=K (.c (.lit (.int .u8 s.data[i].toNat))):=fun K=>acg bB
   generalize hc:(s.data[i].toNat:Int)=c at Y1
   have good:nmC i c=true→∀ s',S.Le (ol []) (hdS [(0,.c (.lit (.string s))),(3,i64 (i+1:Nat))] []) s'→R .normal s':=fun hg s' fy=>
    bS (i+1) s' ⟨bB,fun j h hj=>by
     rcases ct j i with h1 | h1
     ·exact fm j h h1
     ·have:j=i:=by omega
      subst this;rw[hc];exact hg⟩ (by omega) fy
   have bad:nmC i c=false→mY s=false:=fun hb=>Ds bB (by rw[hc];exact hb)
   clear fm bS h1 h2
   repeat' first
    |(simp only[pkA,seval,Y1])
    |refine iK (fun h=>?_) (fun h=>?_)
    |refine aL (fun h=>?_) (fun h=>?_)
   all_goals first
    |(refine cX _ ?_
      simp only[pkA,seval]
      rw[bad (by clear dZ cX cd good bad;simp_all[nmC]<;>omega)])
    |(refine good (by clear dZ cX cd bad good;simp_all[nmC]<;>omega) _ (bT rfl (ar _) (by simp) ?_ trivial)
      simp[FL,au,hw])
  ·have:i=s.data.size:=by rw[dZ] at fA;simp at fA;omega
   subst this
   simp only[pkA]
   refine cd _ _ ?_
   simp only[pkA,seval]
   rw[Dt (fun j h=>fm j h h)]
   simp[hl]
 ·have hb:mY s=false:=by
   unfold mY
   by_cases h1:1≤s.size
   ·have:¬ s.size≤12:=fun h=>hl ⟨h1,h⟩
    simp[this]
   ·simp[h1]
  repeat' first
   |(simp only[kQ,seval])
   |refine iK (fun h=>?_) (fun h=>?_)
   |refine aL (fun h=>?_) (fun h=>?_)
  all_goals first | (rw[hb];done) | (exfalso;clear dZ hb;simp_all;omega) | (rw[hb])
def aeP (p:Pol):Prop:=p.types.length≤9223372036854775807∧p.rules.length≤9223372036854775807∧p.quorums.length≤9223372036854775807
