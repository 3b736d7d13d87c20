/- Contracts of the look-ups in slices, over the values of layer 13. -/
import Derived.Test.YtegbpjodbjhjeaaGreatDoorKpVlFun2
set_option maxHeartbeats 2000000
set_option linter.all false
namespace Go.Proofs.YtegbpjodbjhjeaaGreatDoor.Kp
open Go Go.Vl
set_option maxRecDepth 10000
variable {G:Gl}
structure Wi where
 n:Int
 lo:Int
 hi:Int
def wiC (t:Wi):List C:=[cI t.n,cI t.lo,cI t.hi]
theorem Zm (t:Wi):(wiC t).length=3:=rfl
theorem aiO {t:Wi} {K:V->Prop} {sz:Nat}:dZ false sz 0 (wiC t) K=K (i64 t.n):=rfl
theorem aiP {t:Wi} {K:V->Prop} {sz:Nat}:dZ false sz 1 (wiC t) K=K (i64 t.lo):=rfl
theorem aiQ {t:Wi} {K:V->Prop} {sz:Nat}:dZ false sz 2 (wiC t) K=K (i64 t.hi):=rfl
def inC (n:Int):List C:=[cI n]
theorem aiR {t:Int} {K:V->Prop} {sz:Nat}:dZ false sz 0 (inC t) K=K (i64 t):=rfl
def kU:=jj @pkA @ptA
def rU:=jj @pkA (jj @ptA @pkP)
theorem Ge (es:List Ty) (hm:es.length<=9223372036854775807) (g:FuncId) (caps:List C) (p:Ty->Bool) (hp:∀ e∈es,FnOK Tryz.prog G g (.agg (tyC e)::caps.map .c) (bo (p e))) :
 FnOK Tryz.prog G 176 [.c (.sl (es.map tyC)),.c (.fn (.func g) [] caps)] (i64 (mU p es)):=by
 refine bD (rs:=[.tmp 4]) false [] mixed Tryz.func176 rfl rfl rfl rfl (by kernel_rfl) (by simp) rfl rfl ?_;simp -implicitDefEqProofs only[kU,seval,aj];refine cm (λi:Nat=>hdS [(0,.c (.sl (es.map tyC))),(1,.c (.fn (.func g) [] caps)),(7,i64 es.length),(8,i64 i)] []) (λi=>es.length - i) (λi=>i<=es.length/\∀ j (h:j<es.length),j<i->p es[j]=false) 0 ⟨ar _,by simp⟩ ?_ ?_
 .refine bT rfl (ar _) (ai _) ?_ trivial
  simp[FL,aw]
 rintro i ⟨hi,eX⟩ R bN b8 db;simp -implicitDefEqProofs only[pkA,seval];refine aJ (λbF=>?_) (λfu=>?_)
 .have bF:i<es.length:=by simpa using bF
  simp -implicitDefEqProofs only[pkA,seval];refine cR sD rfl mz (by decide) (aC i) (c:=tyC es[i]) (by simp[bF]) rfl ?_;simp -implicitDefEqProofs only[rU,seval];refine ax rfl (hp _ (aH bF)) (by simp[V.boxy]) ?_;simp -implicitDefEqProofs only[pkA,seval];refine aJ (λhy=>?_) (λhn=>?_)
  .simp -implicitDefEqProofs only[pkA,seval]
   refine db _ ?_;simp -implicitDefEqProofs only[pkA,seval];rw[oa bF hy eX]
  .simp -implicitDefEqProofs only[pkA,seval]
   refine bN (i+1) _ ⟨bF,λj h hj=>?_⟩ (by omega) (bT rfl (ar _) (ai _) ?_ trivial)
   .rcases cd j i with h1 | h1
    .exact eX j h h1
    .have:j=i:=by omega
     subst this;exact hn
   .have hw:=wrap_i64 (i+1) (by omega)
    simp[FL,aw,hw]
 .have:i=es.length:=by simp at fu;omega
  subst this;simp -implicitDefEqProofs only[pkA];refine b8 _ _ ?_;simp -implicitDefEqProofs only[pkA,seval];rw[k6 eX]
theorem Ac (es:List Ty) (hm:es.length<=9223372036854775807) (g:FuncId) (caps:List C) (p:Ty->Bool) (hp:∀ e∈es,FnOK Tryz.prog G g (.agg (tyC e)::caps.map .c) (bo (p e))) :
 FnOK Tryz.prog G 163 [.c (.sl (es.map tyC)),.c (.fn (.func g) [] caps)] (bo (es.any p)):=by
 refine bD (rs:=[.tmp 4]) false [] mixed Tryz.func163 rfl rfl rfl rfl (by kernel_rfl) (by simp) rfl rfl ?_;simp -implicitDefEqProofs only[pkA,seval];refine ax rfl (Ge es hm g caps p hp) (by simp[V.boxy]) ?_;simp -implicitDefEqProofs only[pkA,seval];rw[<- kq]
theorem Gf (es:List Qu) (hm:es.length<=9223372036854775807) (g:FuncId) (caps:List C) (p:Qu->Bool) (hp:∀ e∈es,FnOK Tryz.prog G g (.agg (quC e)::caps.map .c) (bo (p e))) :
 FnOK Tryz.prog G 179 [.c (.sl (es.map quC)),.c (.fn (.func g) [] caps)] (i64 (mU p es)):=by
 refine bD (rs:=[.tmp 4]) false [] mixed Tryz.func179 rfl rfl rfl rfl (by kernel_rfl) (by simp) rfl rfl ?_;simp -implicitDefEqProofs only[kU,seval,aj];refine cm (λi:Nat=>hdS [(0,.c (.sl (es.map quC))),(1,.c (.fn (.func g) [] caps)),(7,i64 es.length),(8,i64 i)] []) (λi=>es.length - i) (λi=>i<=es.length/\∀ j (h:j<es.length),j<i->p es[j]=false) 0 ⟨ar _,by simp⟩ ?_ ?_
 .refine bT rfl (ar _) (ai _) ?_ trivial
  simp[FL,aw]
 rintro i ⟨hi,eX⟩ R bN b8 db;simp -implicitDefEqProofs only[pkA,seval];refine aJ (λbF=>?_) (λfu=>?_)
 .have bF:i<es.length:=by simpa using bF
  simp -implicitDefEqProofs only[pkA,seval];refine cR BC rfl mZ (by decide) (aC i) (c:=quC es[i]) (by simp[bF]) rfl ?_;simp -implicitDefEqProofs only[rU,seval];refine ax rfl (hp _ (aH bF)) (by simp[V.boxy]) ?_;simp -implicitDefEqProofs only[pkA,seval];refine aJ (λhy=>?_) (λhn=>?_)
  .simp -implicitDefEqProofs only[pkA,seval]
   refine db _ ?_;simp -implicitDefEqProofs only[pkA,seval];rw[oa bF hy eX]
  .simp -implicitDefEqProofs only[pkA,seval]
   refine bN (i+1) _ ⟨bF,λj h hj=>?_⟩ (by omega) (bT rfl (ar _) (ai _) ?_ trivial)
   .rcases cd j i with h1 | h1
    .exact eX j h h1
    .have:j=i:=by omega
     subst this;exact hn
   .have hw:=wrap_i64 (i+1) (by omega)
    simp[FL,aw,hw]
 .have:i=es.length:=by simp at fu;omega
  subst this;simp -implicitDefEqProofs only[pkA];refine b8 _ _ ?_;simp -implicitDefEqProofs only[pkA,seval];rw[k6 eX]
theorem Ad (es:List Qu) (hm:es.length<=9223372036854775807) (g:FuncId) (caps:List C) (p:Qu->Bool) (hp:∀ e∈es,FnOK Tryz.prog G g (.agg (quC e)::caps.map .c) (bo (p e))) :
 FnOK Tryz.prog G 166 [.c (.sl (es.map quC)),.c (.fn (.func g) [] caps)] (bo (es.any p)):=by
 refine bD (rs:=[.tmp 4]) false [] mixed Tryz.func166 rfl rfl rfl rfl (by kernel_rfl) (by simp) rfl rfl ?_;simp -implicitDefEqProofs only[pkA,seval];refine ax rfl (Gf es hm g caps p hp) (by simp[V.boxy]) ?_;simp -implicitDefEqProofs only[pkA,seval];rw[<- kq]
theorem Gg (es:List Wi) (hm:es.length<=9223372036854775807) (g:FuncId) (caps:List C) (p:Wi->Bool) (hp:∀ e∈es,FnOK Tryz.prog G g (.agg (wiC e)::caps.map .c) (bo (p e))) :
 FnOK Tryz.prog G 191 [.c (.sl (es.map wiC)),.c (.fn (.func g) [] caps)] (i64 (mU p es)):=by
 refine bD (rs:=[.tmp 4]) false [] mixed Tryz.func191 rfl rfl rfl rfl (by kernel_rfl) (by simp) rfl rfl ?_;simp -implicitDefEqProofs only[kU,seval,aj];refine cm (λi:Nat=>hdS [(0,.c (.sl (es.map wiC))),(1,.c (.fn (.func g) [] caps)),(7,i64 es.length),(8,i64 i)] []) (λi=>es.length - i) (λi=>i<=es.length/\∀ j (h:j<es.length),j<i->p es[j]=false) 0 ⟨ar _,by simp⟩ ?_ ?_
 .refine bT rfl (ar _) (ai _) ?_ trivial
  simp[FL,aw]
 rintro i ⟨hi,eX⟩ R bN b8 db;simp -implicitDefEqProofs only[pkA,seval];refine aJ (λbF=>?_) (λfu=>?_)
 .have bF:i<es.length:=by simpa using bF
  simp -implicitDefEqProofs only[pkA,seval];refine cR Lf rfl vR (by decide) (aC i) (c:=wiC es[i]) (by simp[bF]) rfl ?_;simp -implicitDefEqProofs only[kU,seval,Zm];refine ax rfl (hp _ (aH bF)) (by simp[V.boxy]) ?_;simp -implicitDefEqProofs only[pkA,seval];refine aJ (λhy=>?_) (λhn=>?_)
  .simp -implicitDefEqProofs only[pkA,seval]
   refine db _ ?_;simp -implicitDefEqProofs only[pkA,seval];rw[oa bF hy eX]
  .simp -implicitDefEqProofs only[pkA,seval]
   refine bN (i+1) _ ⟨bF,λj h hj=>?_⟩ (by omega) (bT rfl (ar _) (ai _) ?_ trivial)
   .rcases cd j i with h1 | h1
    .exact eX j h h1
    .have:j=i:=by omega
     subst this;exact hn
   .have hw:=wrap_i64 (i+1) (by omega)
    simp[FL,aw,hw]
 .have:i=es.length:=by simp at fu;omega
  subst this;simp -implicitDefEqProofs only[pkA];refine b8 _ _ ?_;simp -implicitDefEqProofs only[pkA,seval];rw[k6 eX]
theorem Ae (es:List Wi) (hm:es.length<=9223372036854775807) (g:FuncId) (caps:List C) (p:Wi->Bool) (hp:∀ e∈es,FnOK Tryz.prog G g (.agg (wiC e)::caps.map .c) (bo (p e))) :
 FnOK Tryz.prog G 177 [.c (.sl (es.map wiC)),.c (.fn (.func g) [] caps)] (bo (es.any p)):=by
 refine bD (rs:=[.tmp 4]) false [] mixed Tryz.func177 rfl rfl rfl rfl (by kernel_rfl) (by simp) rfl rfl ?_;simp -implicitDefEqProofs only[pkA,seval];refine ax rfl (Gg es hm g caps p hp) (by simp[V.boxy]) ?_;simp -implicitDefEqProofs only[pkA,seval];rw[<- kq]
theorem U8 (es:List Ru) (hm:es.length<=9223372036854775807) (x:Ru) :
 FnOK Tryz.prog G 175 [.c (.sl (es.map ruC)),.agg (ruC x)] (i64 (mU (λe=>decide (x=e)) es)):=by
 refine bD (rs:=[.tmp 4]) false [] mixed Tryz.func175 rfl rfl rfl rfl (by kernel_rfl) (by simp) rfl rfl ?_;simp -implicitDefEqProofs only[kU,seval,aj];refine cm (λi:Nat=>hdS [(0,.c (.sl (es.map ruC))),(3,.bp 0 0),(7,i64 es.length),(8,i64 i)] [(ruC x).map .c]) (λi=>es.length - i) (λi=>i<=es.length/\∀ j (h:j<es.length),j<i->(λe=>decide (x=e)) es[j]=false) 0 ⟨ar _,by simp⟩ ?_ ?_
 .refine bT rfl (ar _) (by simp) ?_ ?_
  .simp[FL,aw]
  .simp[BL]
 rintro i ⟨hi,eX⟩ R bN b8 db;simp -implicitDefEqProofs only[pkA,seval];refine aJ (λbF=>?_) (λfu=>?_)
 .have bF:i<es.length:=by simpa using bF
  simp -implicitDefEqProofs only[rU,seval];refine cR vg rfl mA (by decide) (aC i) (c:=ruC es[i]) (by simp[bF]) rfl ?_;simp -implicitDefEqProofs only[rU,seval];refine aJ (λhy=>?_) (λhn=>?_)
  .simp -implicitDefEqProofs only[pkA,seval]
   refine db _ ?_;simp -implicitDefEqProofs only[pkA,seval];rw[oa bF hy eX]
  .simp -implicitDefEqProofs only[pkA,seval]
   refine bN (i+1) _ ⟨bF,λj h hj=>?_⟩ (by omega) (bT rfl (ar _) (by simp) ?_ ?_)
   .rcases cd j i with h1 | h1
    .exact eX j h h1
    .have:j=i:=by omega
     subst this;exact hn
   .have hw:=wrap_i64 (i+1) (by omega)
    simp[FL,aw,hw]
   .simp[BL,bxs]
 .have:i=es.length:=by simp at fu;omega
  subst this;simp -implicitDefEqProofs only[pkA];refine b8 _ _ ?_;simp -implicitDefEqProofs only[pkA,seval];rw[k6 eX]
theorem zu (es:List Ru) (hm:es.length<=9223372036854775807) (x:Ru) :
 FnOK Tryz.prog G 162 [.c (.sl (es.map ruC)),.agg (ruC x)] (bo (es.any λe=>decide (x=e))):=by
 refine bD (rs:=[.tmp 4]) false [] mixed Tryz.func162 rfl rfl rfl rfl (by kernel_rfl) (by simp) rfl rfl ?_;simp -implicitDefEqProofs only[rU,seval];refine ax rfl (U8 es hm x) (by simp[V.boxy]) ?_;simp -implicitDefEqProofs only[pkA,seval];rw[<- kq]
theorem U9 (es:List Int) (hm:es.length<=9223372036854775807) (x:Int) :
 FnOK Tryz.prog G 161 [.c (.sl (es.map inC)),i64 x] (i64 (mU (λe=>decide (x=e)) es)):=by
 refine bD (rs:=[.tmp 4]) false [] mixed Tryz.func161 rfl rfl rfl rfl (by kernel_rfl) (by simp) rfl rfl ?_;simp -implicitDefEqProofs only[kU,seval,aj];refine cm (λi:Nat=>hdS [(0,.c (.sl (es.map inC))),(1,i64 x),(7,i64 es.length),(8,i64 i)] []) (λi=>es.length - i) (λi=>i<=es.length/\∀ j (h:j<es.length),j<i->(λe=>decide (x=e)) es[j]=false) 0 ⟨ar _,by simp⟩ ?_ ?_
 .refine bT rfl (ar _) (by simp) ?_ ?_
  .simp[FL,aw]
  .simp[BL]
 rintro i ⟨hi,eX⟩ R bN b8 db;simp -implicitDefEqProofs only[pkA,seval];refine aJ (λbF=>?_) (λfu=>?_)
 .have bF:i<es.length:=by simpa using bF
  simp -implicitDefEqProofs only[pkA,seval];refine cR FN rfl FK (by decide) (aC i) (c:=inC es[i]) (by simp[bF]) rfl ?_;simp -implicitDefEqProofs only[kU,seval,aiR];refine aJ (λhy=>?_) (λhn=>?_)
  .simp -implicitDefEqProofs only[pkA,seval]
   refine db _ ?_;simp -implicitDefEqProofs only[pkA,seval];rw[oa bF hy eX]
  .simp -implicitDefEqProofs only[pkA,seval]
   refine bN (i+1) _ ⟨bF,λj h hj=>?_⟩ (by omega) (bT rfl (ar _) (by simp) ?_ ?_)
   .rcases cd j i with h1 | h1
    .exact eX j h h1
    .have:j=i:=by omega
     subst this;exact hn
   .have hw:=wrap_i64 (i+1) (by omega)
    simp[FL,aw,hw]
   .simp[BL]
 .have:i=es.length:=by simp at fu;omega
  subst this;simp -implicitDefEqProofs only[pkA];refine b8 _ _ ?_;simp -implicitDefEqProofs only[pkA,seval];rw[k6 eX]
theorem zw (es:List Int) (hm:es.length<=9223372036854775807) (x:Int) :
 FnOK Tryz.prog G 142 [.c (.sl (es.map inC)),i64 x] (bo (es.any λe=>decide (x=e))):=by
 refine bD (rs:=[.tmp 4]) false [] mixed Tryz.func142 rfl rfl rfl rfl (by kernel_rfl) (by simp) rfl rfl ?_;simp -implicitDefEqProofs only[pkA,seval];refine ax rfl (U9 es hm x) (by simp[V.boxy]) ?_;simp -implicitDefEqProofs only[pkA,seval];rw[<- kq]
theorem Zn (t o:Ty):FnOK Tryz.prog G 164 [.agg (tyC o),.c (.rp (tyC t) 0)] (bo (decide (o.name=t.name))):=by refine bD (rs:=[.tmp 3]) false [] mixed Tryz.func164 rfl rfl rfl rfl (by kernel_rfl) (by simp) rfl rfl ?_;simp -implicitDefEqProofs only[rU,seval]
theorem Zo (t o:Qu):FnOK Tryz.prog G 167 [.agg (quC o),.c (.rp (quC t) 0)] (bo (decide (o.cmd=t.cmd))):=by refine bD (rs:=[.tmp 3]) false [] mixed Tryz.func167 rfl rfl rfl rfl (by kernel_rfl) (by simp) rfl rfl ?_;simp -implicitDefEqProofs only[rU,seval]
def Af (x:Wi):Bool:=decide (x.n<x.lo)||decide (x.hi<x.n)
theorem Qa (x:Wi):FnOK Tryz.prog G 178 [.agg (wiC x)] (bo (Af x)):=by
 refine bD (rs:=[.tmp 2]) false [] mixed Tryz.func178 rfl rfl rfl rfl (by kernel_rfl) (by simp) rfl rfl ?_
 repeat' first
  |(simp -implicitDefEqProofs only[kU,seval,aiO,aiP,aiQ])
  |refine fQ (λh=>?_) (λh=>?_)
  |refine aJ (λh=>?_) (λh=>?_)
 all_goals (unfold Af;first | (simp_all;done) | (simp_all;omega))
theorem BX (es:List Wi) (hm:es.length<=9223372036854775807):FnOK Tryz.prog G 165 [.c (.sl (es.map wiC))] (bo (es.any Af)):=by refine bD (rs:=[.tmp 2]) false [] mixed Tryz.func165 rfl rfl rfl rfl (by kernel_rfl) (by simp) rfl rfl ?_;simp -implicitDefEqProofs only[pkA,seval];refine ax rfl (Ae es hm _ [] Af (λe _=>Qa e)) (by simp[V.boxy]) ?_;simp -implicitDefEqProofs only[pkA,seval]
def nmC (k:Nat) (c:Int):Bool:=(decide (97<=c)&&decide (c<=122))||(decide (0<k)&&(decide (48<=c)&&decide (c<=57)))
def m4 (s:ByteArray):Bool:=decide (∀ k (h:k<s.data.size),nmC k s.data[k].toNat=true)&&decide (1<=s.size)&&decide (s.size<=12)
theorem D2 {s:ByteArray} {k:Nat} (h:k<s.data.size) (hc:nmC k s.data[k].toNat=false):m4 s=false:=by
 have:decide (∀ k (h:k<s.data.size),nmC k s.data[k].toNat=true)=false:=eY λhh=>by rw[hh k h] at hc;cases hc
 unfold m4;rw[this];simp only[eJ]
theorem D3 {s:ByteArray} (hk:∀ j (h:j<s.data.size),nmC j s.data[j].toNat=true):m4 s=(decide (1<=s.size)&&decide (s.size<=12)):=by have:decide (∀ k (h:k<s.data.size),nmC k s.data[k].toNat=true)=true:=dU hk;unfold m4;rw[this,dI]
theorem Va (s:ByteArray) {k:Nat} (h:k<s.data.size):(oN s)[k]?=some [.lit (.int .u8 s.data[k].toNat)]:=by simp only[oN,bw,aY,aF h,bQ]
theorem Vb (s:ByteArray):(oN s).length=s.data.size:=by simp[oN]
theorem MU {s:ByteArray} {K:V->Prop}:oK Tryz.prog 9 173 (.c (.lit (.string s))) K=K (.c (.sl (oN s))):=by simp only[oK,FM,Ld,acl]
theorem adF {s:ByteArray} {k:Nat} {K:V->Prop} (h:k<s.data.size):nu Tryz.prog 9 (.c (.lit (.string s))) (i64 k) K=K (.c (.lit (.int .u8 s.data[k].toNat))):=
 KH FM rfl (aC k) (by simp[])
theorem Nm (s:ByteArray) (hs:s.size<=9223372036854775807):FnOK Tryz.prog G 144 [.c (.lit (.string s))] (bo (m4 s)):=by
 have ej:s.size=s.data.size:=rfl;refine bD (rs:=[.tmp 2]) false [] mixed Tryz.func144 rfl rfl rfl rfl (by kernel_rfl) (by simp) rfl rfl ?_;simp only[kU,seval,MU,Vb];refine cm (λi:Nat=>hdS [(0,.c (.lit (.string s))),(6,.c (.sl (oN s))),(7,i64 s.data.size),(8,i64 i)] []) (λi=>s.data.size - i) (λi=>i<=s.data.size/\∀ j (h:j<s.data.size),j<i->nmC j s.data[j].toNat=true) 0 ⟨ar _,by simp⟩ ?_ ?_
 .refine bT rfl (ar _) (by simp) ?_ ?_
  .simp[FL,aw]
  .simp[BL]
 rintro i ⟨hi,eX⟩ R bN b8 db;simp only[pkA,seval];refine aJ (λbF=>?_) (λfu=>?_)
 .have bF:i<s.data.size:=by simpa using bF
  have hw:=wrap_i64 (i+1) (by omega);simp only[pkA,seval];refine cR Ld rfl acl (by decide) (aC i) (c:=[.lit (.int .u8 s.data[i].toNat)]) (Va s bF) rfl ?_;generalize hc:(s.data[i].toNat:Int)=c;have good:nmC i c=true->∀ s',S.Le (ou []) (hdS [(0,.c (.lit (.string s))),(6,.c (.sl (oN s))),(7,i64 s.data.size),(8,i64 (i+1:Nat))] []) s'->R .normal s':=λhg s' fO=>
   bN (i+1) s' ⟨bF,λj h hj=>by
    rcases cd j i with h1 | h1
    .exact eX j h h1
    .have:j=i:=by omega
     subst this;rw[hc];exact hg⟩ (by omega) fO
  have bad:nmC i c=false->m4 s=false:=λhb=>D2 bF (by rw[hc];exact hb);clear eX bN
  repeat' first
   |(simp only[kU,seval])
   |refine fQ (λh=>?_) (λh=>?_)
   |refine aJ (λh=>?_) (λh=>?_)
  all_goals first
   |(refine db _ ?_
     simp only[pkA,seval];rw[bad (by clear ej db b8 good bad;simp_all[nmC]<;>omega)])
   |(refine good (by clear ej db b8 bad good;simp_all[nmC]<;>omega) _ (bT rfl (ar _) (by simp) ?_ trivial)
     simp[FL,aw,hw])
 .have:i=s.data.size:=by simp at fu;omega
  subst this;simp only[pkA];refine b8 _ _ ?_;clear b8 db bN
  repeat' first
   |(simp only[kU,seval])
   |refine fQ (λh=>?_) (λh=>?_)
   |refine aJ (λh=>?_) (λh=>?_)
  all_goals
   rw[D3 (λj h=>eX j h h)];clear eX ej
   first | (simp_all;done) | (simp_all;omega) | (simp_all;rw[jv];simp;omega)
set_option maxRecDepth 100000 in
theorem BY (s:ByteArray) (hs:s.size<=9223372036854775807):FnOK Tryz.prog G 105 [.c (.lit (.string s))] (bo (m4 s)):=by
 have ej:s.size=s.data.size:=rfl;refine bD (rs:=[.tmp 2]) false [] mixed Tryz.func105 rfl rfl rfl rfl (by kernel_rfl) (by simp) rfl rfl ?_;by_cases hl:1<=s.size/\s.size<=12
 .have h1:decide ((s.size:Int)<1)=false:=by simp;omega
  have h2:decide ((12:Int)<(s.size:Int))=false:=by simp;omega
  simp only[kU,seval,h1,h2];refine cm (λi:Nat=>hdS [(0,.c (.lit (.string s))),(3,i64 i)] []) (λi=>s.data.size - i) (λi=>i<=s.data.size/\∀ j (h:j<s.data.size),j<i->nmC j s.data[j].toNat=true) 0 ⟨ar _,by simp⟩ ?_ ?_
  .refine bT rfl (ar _) (by simp) ?_ ?_
   .simp[FL,aw]
   .simp[BL]
  rintro i ⟨hi,eX⟩ R bN b8 db;simp only[kU,seval];refine aJ (λbF=>?_) (λfu=>?_)
  .have bF:i<s.data.size:=by rw[ej] at bF;simpa using bF
   have hw:=wrap_i64 (i+1) (by omega);have hix:∀ K,nu Tryz.prog 9 (.c (.lit (.string s))) (i64 i) K=K (.c (.lit (.int .u8 s.data[i].toNat))):=λK=>adF bF;generalize hc:(s.data[i].toNat:Int)=c at hix;have good:nmC i c=true->∀ s',S.Le (ou []) (hdS [(0,.c (.lit (.string s))),(3,i64 (i+1:Nat))] []) s'->R .normal s':=λhg s' fO=>
    bN (i+1) s' ⟨bF,λj h hj=>by
     rcases cd j i with h1 | h1
     .exact eX j h h1
     .have:j=i:=by omega
      subst this;rw[hc];exact hg⟩ (by omega) fO
   have bad:nmC i c=false->m4 s=false:=λhb=>D2 bF (by rw[hc];exact hb);clear eX bN h1 h2
   repeat' first
    |(simp only[pkA,seval,hix])
    |refine fQ (λh=>?_) (λh=>?_)
    |refine aJ (λh=>?_) (λh=>?_)
   all_goals first
    |(refine db _ ?_
      simp only[pkA,seval];rw[bad (by clear ej db b8 good bad;simp_all[nmC]<;>omega)])
    |(refine good (by clear ej db b8 bad good;simp_all[nmC]<;>omega) _ (bT rfl (ar _) (by simp) ?_ trivial)
      simp[FL,aw,hw])
  .have:i=s.data.size:=by rw[ej] at fu;simp at fu;omega
   subst this;simp only[pkA];refine b8 _ _ ?_;simp only[pkA,seval];rw[D3 (λj h=>eX j h h)];simp[hl]
 .have hb:m4 s=false:=by
   unfold m4;by_cases h1:1<=s.size
   .have:¬ s.size<=12:=λh=>hl ⟨h1,h⟩
    simp[this]
   .simp[h1]
  repeat' first
   |(simp only[kU,seval])
   |refine fQ (λh=>?_) (λh=>?_)
   |refine aJ (λh=>?_) (λh=>?_)
  all_goals first | (rw[hb];done) | (exfalso;clear ej hb;simp_all;omega) | (rw[hb])
def agh (p:Pol):Prop:=p.types.length<=9223372036854775807/\p.rules.length<=9223372036854775807/\p.quorums.length<=9223372036854775807
