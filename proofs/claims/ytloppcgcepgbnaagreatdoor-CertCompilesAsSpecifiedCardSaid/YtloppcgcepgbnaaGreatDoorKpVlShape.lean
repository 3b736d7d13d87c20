/- Contracts of the look-ups in slices, over the values of layer 13. -/
import Derived.Test.YtloppcgcepgbnaaGreatDoorKpVlFun2
import Derived.Test.YtloppcgcepgbnaaGreatDoorVlLaw
set_option maxHeartbeats 2000000
set_option linter.all false
namespace Go.Proofs.YtloppcgcepgbnaaGreatDoor.Kp
open Go Go.Vl
set_option maxRecDepth 10000
variable {G:Gl}
structure Wi where
 n:Int
 lo:Int
 hi:Int
def wiC (t:Wi):List C:=[cI t.n,cI t.lo,cI t.hi]
theorem afE (t:Wi):(wiC t).length=3:=rfl
theorem ap0 {t:Wi} {K:V->Prop} {sz:Nat}:cQ false sz 0 (wiC t) K=K (i64 t.n):=rfl
theorem ap2 {t:Wi} {K:V->Prop} {sz:Nat}:cQ false sz 1 (wiC t) K=K (i64 t.lo):=rfl
theorem ap3 {t:Wi} {K:V->Prop} {sz:Nat}:cQ false sz 2 (wiC t) K=K (i64 t.hi):=rfl
def inC (n:Int):List C:=[cI n]
theorem ajz {t:Int} {K:V->Prop} {sz:Nat}:cQ false sz 0 (inC t) K=K (i64 t):=rfl
def jV:=jj @pkA @ptA
def qp:=jj @pkA (jj @ptA @pkP)
theorem Ip (es:List Ty) (hm:es.length<=9223372036854775807) (g:FuncId) (caps:List C) (p:Ty->Bool) (hp:∀ e∈es,FnOK Tryz.prog G g (.agg (tyC e)::caps.map .c) (bo (p e))) :
 FnOK Tryz.prog G 175 [.c (.sl (es.map tyC)),.c (.fn (.func g) [] caps)] (i64 (qO p es)):=by
 refine bJ (rs:=[.tmp 4]) false [] mixed Tryz.func175 rfl rfl rfl rfl (by kernel_rfl) (by simp) rfl rfl ?_;simp -implicitDefEqProofs only[jV,seval,au];refine bz (λi:Nat=>hdS [(0,.c (.sl (es.map tyC))),(1,.c (.fn (.func g) [] caps)),(7,i64 es.length),(8,i64 i)] []) (λi=>es.length - i) (λi=>i<=es.length/\∀ j (h:j<es.length),j<i->p es[j]=false) 0 ⟨ar _,by simp⟩ ?_ ?_
 .refine cg rfl (ar _) (ab _) ?_ trivial
  simp[FL,aj]
 rintro i ⟨hi,gw⟩ R bL bQ dq;simp -implicitDefEqProofs only[pkA,seval];refine aD (λbF=>?_) (λfO=>?_)
 .have bF:i<es.length:=by simpa using bF
  simp -implicitDefEqProofs only[pkA,seval];refine dP pf rfl kC (by decide) (ay i) (c:=tyC es[i]) (by simp[bF]) rfl ?_;simp -implicitDefEqProofs only[qp,seval];refine aC rfl (hp _ (bT bF)) (by simp[V.boxy]) ?_;simp -implicitDefEqProofs only[pkA,seval];refine aD (λhy=>?_) (λhn=>?_)
  .simp -implicitDefEqProofs only[pkA,seval]
   refine dq _ ?_;simp -implicitDefEqProofs only[pkA,seval];rw[oI bF hy gw]
  .simp -implicitDefEqProofs only[pkA,seval]
   refine bL (i+1) _ ⟨bF,λj h hj=>?_⟩ (by omega) (cg rfl (ar _) (ab _) ?_ trivial)
   .rcases bZ j i with h1 | h1
    .exact gw j h h1
    .have:j=i:=by omega
     subst this;exact hn
   .have hw:=wrap_i64 (i+1) (by omega)
    simp[FL,aj,hw]
 .have:i=es.length:=by simp at fO;omega
  subst this;simp -implicitDefEqProofs only[pkA];refine bQ _ _ ?_;simp -implicitDefEqProofs only[pkA,seval];rw[lM gw]
theorem AS (es:List Ty) (hm:es.length<=9223372036854775807) (g:FuncId) (caps:List C) (p:Ty->Bool) (hp:∀ e∈es,FnOK Tryz.prog G g (.agg (tyC e)::caps.map .c) (bo (p e))) :
 FnOK Tryz.prog G 128 [.c (.sl (es.map tyC)),.c (.fn (.func g) [] caps)] (bo (es.any p)):=by
 refine bJ (rs:=[.tmp 4]) false [] mixed Tryz.func128 rfl rfl rfl rfl (by kernel_rfl) (by simp) rfl rfl ?_;simp -implicitDefEqProofs only[pkA,seval];refine aC rfl (Ip es hm g caps p hp) (by simp[V.boxy]) ?_;simp -implicitDefEqProofs only[pkA,seval];rw[<- jT]
theorem Iq (es:List Qu) (hm:es.length<=9223372036854775807) (g:FuncId) (caps:List C) (p:Qu->Bool) (hp:∀ e∈es,FnOK Tryz.prog G g (.agg (quC e)::caps.map .c) (bo (p e))) :
 FnOK Tryz.prog G 180 [.c (.sl (es.map quC)),.c (.fn (.func g) [] caps)] (i64 (qO p es)):=by
 refine bJ (rs:=[.tmp 4]) false [] mixed Tryz.func180 rfl rfl rfl rfl (by kernel_rfl) (by simp) rfl rfl ?_;simp -implicitDefEqProofs only[jV,seval,au];refine bz (λi:Nat=>hdS [(0,.c (.sl (es.map quC))),(1,.c (.fn (.func g) [] caps)),(7,i64 es.length),(8,i64 i)] []) (λi=>es.length - i) (λi=>i<=es.length/\∀ j (h:j<es.length),j<i->p es[j]=false) 0 ⟨ar _,by simp⟩ ?_ ?_
 .refine cg rfl (ar _) (ab _) ?_ trivial
  simp[FL,aj]
 rintro i ⟨hi,gw⟩ R bL bQ dq;simp -implicitDefEqProofs only[pkA,seval];refine aD (λbF=>?_) (λfO=>?_)
 .have bF:i<es.length:=by simpa using bF
  simp -implicitDefEqProofs only[pkA,seval];refine dP uA rfl jA (by decide) (ay i) (c:=quC es[i]) (by simp[bF]) rfl ?_;simp -implicitDefEqProofs only[qp,seval];refine aC rfl (hp _ (bT bF)) (by simp[V.boxy]) ?_;simp -implicitDefEqProofs only[pkA,seval];refine aD (λhy=>?_) (λhn=>?_)
  .simp -implicitDefEqProofs only[pkA,seval]
   refine dq _ ?_;simp -implicitDefEqProofs only[pkA,seval];rw[oI bF hy gw]
  .simp -implicitDefEqProofs only[pkA,seval]
   refine bL (i+1) _ ⟨bF,λj h hj=>?_⟩ (by omega) (cg rfl (ar _) (ab _) ?_ trivial)
   .rcases bZ j i with h1 | h1
    .exact gw j h h1
    .have:j=i:=by omega
     subst this;exact hn
   .have hw:=wrap_i64 (i+1) (by omega)
    simp[FL,aj,hw]
 .have:i=es.length:=by simp at fO;omega
  subst this;simp -implicitDefEqProofs only[pkA];refine bQ _ _ ?_;simp -implicitDefEqProofs only[pkA,seval];rw[lM gw]
theorem AU (es:List Qu) (hm:es.length<=9223372036854775807) (g:FuncId) (caps:List C) (p:Qu->Bool) (hp:∀ e∈es,FnOK Tryz.prog G g (.agg (quC e)::caps.map .c) (bo (p e))) :
 FnOK Tryz.prog G 133 [.c (.sl (es.map quC)),.c (.fn (.func g) [] caps)] (bo (es.any p)):=by
 refine bJ (rs:=[.tmp 4]) false [] mixed Tryz.func133 rfl rfl rfl rfl (by kernel_rfl) (by simp) rfl rfl ?_;simp -implicitDefEqProofs only[pkA,seval];refine aC rfl (Iq es hm g caps p hp) (by simp[V.boxy]) ?_;simp -implicitDefEqProofs only[pkA,seval];rw[<- jT]
theorem Ir (es:List Wi) (hm:es.length<=9223372036854775807) (g:FuncId) (caps:List C) (p:Wi->Bool) (hp:∀ e∈es,FnOK Tryz.prog G g (.agg (wiC e)::caps.map .c) (bo (p e))) :
 FnOK Tryz.prog G 188 [.c (.sl (es.map wiC)),.c (.fn (.func g) [] caps)] (i64 (qO p es)):=by
 refine bJ (rs:=[.tmp 4]) false [] mixed Tryz.func188 rfl rfl rfl rfl (by kernel_rfl) (by simp) rfl rfl ?_;simp -implicitDefEqProofs only[jV,seval,au];refine bz (λi:Nat=>hdS [(0,.c (.sl (es.map wiC))),(1,.c (.fn (.func g) [] caps)),(7,i64 es.length),(8,i64 i)] []) (λi=>es.length - i) (λi=>i<=es.length/\∀ j (h:j<es.length),j<i->p es[j]=false) 0 ⟨ar _,by simp⟩ ?_ ?_
 .refine cg rfl (ar _) (ab _) ?_ trivial
  simp[FL,aj]
 rintro i ⟨hi,gw⟩ R bL bQ dq;simp -implicitDefEqProofs only[pkA,seval];refine aD (λbF=>?_) (λfO=>?_)
 .have bF:i<es.length:=by simpa using bF
  simp -implicitDefEqProofs only[pkA,seval];refine dP CX rfl o7 (by decide) (ay i) (c:=wiC es[i]) (by simp[bF]) rfl ?_;simp -implicitDefEqProofs only[jV,seval,afE];refine aC rfl (hp _ (bT bF)) (by simp[V.boxy]) ?_;simp -implicitDefEqProofs only[pkA,seval];refine aD (λhy=>?_) (λhn=>?_)
  .simp -implicitDefEqProofs only[pkA,seval]
   refine dq _ ?_;simp -implicitDefEqProofs only[pkA,seval];rw[oI bF hy gw]
  .simp -implicitDefEqProofs only[pkA,seval]
   refine bL (i+1) _ ⟨bF,λj h hj=>?_⟩ (by omega) (cg rfl (ar _) (ab _) ?_ trivial)
   .rcases bZ j i with h1 | h1
    .exact gw j h h1
    .have:j=i:=by omega
     subst this;exact hn
   .have hw:=wrap_i64 (i+1) (by omega)
    simp[FL,aj,hw]
 .have:i=es.length:=by simp at fO;omega
  subst this;simp -implicitDefEqProofs only[pkA];refine bQ _ _ ?_;simp -implicitDefEqProofs only[pkA,seval];rw[lM gw]
theorem AV (es:List Wi) (hm:es.length<=9223372036854775807) (g:FuncId) (caps:List C) (p:Wi->Bool) (hp:∀ e∈es,FnOK Tryz.prog G g (.agg (wiC e)::caps.map .c) (bo (p e))) :
 FnOK Tryz.prog G 176 [.c (.sl (es.map wiC)),.c (.fn (.func g) [] caps)] (bo (es.any p)):=by
 refine bJ (rs:=[.tmp 4]) false [] mixed Tryz.func176 rfl rfl rfl rfl (by kernel_rfl) (by simp) rfl rfl ?_;simp -implicitDefEqProofs only[pkA,seval];refine aC rfl (Ir es hm g caps p hp) (by simp[V.boxy]) ?_;simp -implicitDefEqProofs only[pkA,seval];rw[<- jT]
theorem aal (es:List Ru) (hm:es.length<=9223372036854775807) (x:Ru) :
 FnOK Tryz.prog G 178 [.c (.sl (es.map ruC)),.agg (ruC x)] (i64 (qO (λe=>decide (x=e)) es)):=by
 refine bJ (rs:=[.tmp 4]) false [] mixed Tryz.func178 rfl rfl rfl rfl (by kernel_rfl) (by simp) rfl rfl ?_;simp -implicitDefEqProofs only[jV,seval,au];refine bz (λi:Nat=>hdS [(0,.c (.sl (es.map ruC))),(3,.bp 0 0),(7,i64 es.length),(8,i64 i)] [(ruC x).map .c]) (λi=>es.length - i) (λi=>i<=es.length/\∀ j (h:j<es.length),j<i->(λe=>decide (x=e)) es[j]=false) 0 ⟨ar _,by simp⟩ ?_ ?_
 .refine cg rfl (ar _) (by simp) ?_ ?_
  .simp[FL,aj]
  .simp[BL]
 rintro i ⟨hi,gw⟩ R bL bQ dq;simp -implicitDefEqProofs only[pkA,seval];refine aD (λbF=>?_) (λfO=>?_)
 .have bF:i<es.length:=by simpa using bF
  simp -implicitDefEqProofs only[qp,seval];refine dP kV rfl fQ (by decide) (ay i) (c:=ruC es[i]) (by simp[bF]) rfl ?_;simp -implicitDefEqProofs only[qp,seval];refine aD (λhy=>?_) (λhn=>?_)
  .simp -implicitDefEqProofs only[pkA,seval]
   refine dq _ ?_;simp -implicitDefEqProofs only[pkA,seval];rw[oI bF hy gw]
  .simp -implicitDefEqProofs only[pkA,seval]
   refine bL (i+1) _ ⟨bF,λj h hj=>?_⟩ (by omega) (cg rfl (ar _) (by simp) ?_ ?_)
   .rcases bZ j i with h1 | h1
    .exact gw j h h1
    .have:j=i:=by omega
     subst this;exact hn
   .have hw:=wrap_i64 (i+1) (by omega)
    simp[FL,aj,hw]
   .simp[BL,bxs]
 .have:i=es.length:=by simp at fO;omega
  subst this;simp -implicitDefEqProofs only[pkA];refine bQ _ _ ?_;simp -implicitDefEqProofs only[pkA,seval];rw[lM gw]
theorem LM (es:List Ru) (hm:es.length<=9223372036854775807) (x:Ru) :
 FnOK Tryz.prog G 131 [.c (.sl (es.map ruC)),.agg (ruC x)] (bo (es.any λe=>decide (x=e))):=by
 refine bJ (rs:=[.tmp 4]) false [] mixed Tryz.func131 rfl rfl rfl rfl (by kernel_rfl) (by simp) rfl rfl ?_;simp -implicitDefEqProofs only[qp,seval];refine aC rfl (aal es hm x) (by simp[V.boxy]) ?_;simp -implicitDefEqProofs only[pkA,seval];rw[<- jT]
theorem aam (es:List Int) (hm:es.length<=9223372036854775807) (x:Int) :
 FnOK Tryz.prog G 179 [.c (.sl (es.map inC)),i64 x] (i64 (qO (λe=>decide (x=e)) es)):=by
 refine bJ (rs:=[.tmp 4]) false [] mixed Tryz.func179 rfl rfl rfl rfl (by kernel_rfl) (by simp) rfl rfl ?_;simp -implicitDefEqProofs only[jV,seval,au];refine bz (λi:Nat=>hdS [(0,.c (.sl (es.map inC))),(1,i64 x),(7,i64 es.length),(8,i64 i)] []) (λi=>es.length - i) (λi=>i<=es.length/\∀ j (h:j<es.length),j<i->(λe=>decide (x=e)) es[j]=false) 0 ⟨ar _,by simp⟩ ?_ ?_
 .refine cg rfl (ar _) (by simp) ?_ ?_
  .simp[FL,aj]
  .simp[BL]
 rintro i ⟨hi,gw⟩ R bL bQ dq;simp -implicitDefEqProofs only[pkA,seval];refine aD (λbF=>?_) (λfO=>?_)
 .have bF:i<es.length:=by simpa using bF
  simp -implicitDefEqProofs only[pkA,seval];refine dP oJ rfl nH (by decide) (ay i) (c:=inC es[i]) (by simp[bF]) rfl ?_;simp -implicitDefEqProofs only[jV,seval,ajz];refine aD (λhy=>?_) (λhn=>?_)
  .simp -implicitDefEqProofs only[pkA,seval]
   refine dq _ ?_;simp -implicitDefEqProofs only[pkA,seval];rw[oI bF hy gw]
  .simp -implicitDefEqProofs only[pkA,seval]
   refine bL (i+1) _ ⟨bF,λj h hj=>?_⟩ (by omega) (cg rfl (ar _) (by simp) ?_ ?_)
   .rcases bZ j i with h1 | h1
    .exact gw j h h1
    .have:j=i:=by omega
     subst this;exact hn
   .have hw:=wrap_i64 (i+1) (by omega)
    simp[FL,aj,hw]
   .simp[BL]
 .have:i=es.length:=by simp at fO;omega
  subst this;simp -implicitDefEqProofs only[pkA];refine bQ _ _ ?_;simp -implicitDefEqProofs only[pkA,seval];rw[lM gw]
theorem LN (es:List Int) (hm:es.length<=9223372036854775807) (x:Int) :
 FnOK Tryz.prog G 132 [.c (.sl (es.map inC)),i64 x] (bo (es.any λe=>decide (x=e))):=by
 refine bJ (rs:=[.tmp 4]) false [] mixed Tryz.func132 rfl rfl rfl rfl (by kernel_rfl) (by simp) rfl rfl ?_;simp -implicitDefEqProofs only[pkA,seval];refine aC rfl (aam es hm x) (by simp[V.boxy]) ?_;simp -implicitDefEqProofs only[pkA,seval];rw[<- jT]
theorem afF (t o:Ty):FnOK Tryz.prog G 129 [.agg (tyC o),.c (.rp (tyC t) 0)] (bo (decide (o.name=t.name))):=by refine bJ (rs:=[.tmp 3]) false [] mixed Tryz.func129 rfl rfl rfl rfl (by kernel_rfl) (by simp) rfl rfl ?_;simp -implicitDefEqProofs only[qp,seval]
theorem afG (t o:Qu):FnOK Tryz.prog G 134 [.agg (quC o),.c (.rp (quC t) 0)] (bo (decide (o.cmd=t.cmd))):=by refine bJ (rs:=[.tmp 3]) false [] mixed Tryz.func134 rfl rfl rfl rfl (by kernel_rfl) (by simp) rfl rfl ?_;simp -implicitDefEqProofs only[qp,seval]
def AW (x:Wi):Bool:=decide (x.n<x.lo)||decide (x.hi<x.n)
theorem UL (x:Wi):FnOK Tryz.prog G 177 [.agg (wiC x)] (bo (AW x)):=by
 refine bJ (rs:=[.tmp 2]) false [] mixed Tryz.func177 rfl rfl rfl rfl (by kernel_rfl) (by simp) rfl rfl ?_
 repeat' first
  |(simp -implicitDefEqProofs only[jV,seval,ap0,ap2,ap3])
  |refine fy (λh=>?_) (λh=>?_)
  |refine aD (λh=>?_) (λh=>?_)
 all_goals (unfold AW;first | (simp_all;done) | (simp_all;omega))
theorem DF (es:List Wi) (hm:es.length<=9223372036854775807):FnOK Tryz.prog G 130 [.c (.sl (es.map wiC))] (bo (es.any AW)):=by refine bJ (rs:=[.tmp 2]) false [] mixed Tryz.func130 rfl rfl rfl rfl (by kernel_rfl) (by simp) rfl rfl ?_;simp -implicitDefEqProofs only[pkA,seval];refine aC rfl (AV es hm _ [] AW (λe _=>UL e)) (by simp[V.boxy]) ?_;simp -implicitDefEqProofs only[pkA,seval]
def nmC (k:Nat) (c:Int):Bool:=(decide (97<=c)&&decide (c<=122))||(decide (0<k)&&(decide (48<=c)&&decide (c<=57)))
def nA (s:ByteArray):Bool:=decide (∀ k (h:k<s.data.size),nmC k s.data[k].toNat=true)&&decide (1<=s.size)&&decide (s.size<=12)
theorem F7 {s:ByteArray} {k:Nat} (h:k<s.data.size) (hc:nmC k s.data[k].toNat=false):nA s=false:=by
 have:decide (∀ k (h:k<s.data.size),nmC k s.data[k].toNat=true)=false:=fj λhh=>by rw[hh k h] at hc;cases hc
 unfold nA;rw[this];simp only[Bool.false_and]
theorem F8 {s:ByteArray} (hk:∀ j (h:j<s.data.size),nmC j s.data[j].toNat=true):nA s=(decide (1<=s.size)&&decide (s.size<=12)):=by have:decide (∀ k (h:k<s.data.size),nmC k s.data[k].toNat=true)=true:=dD hk;unfold nA;rw[this,j9]
theorem aan (s:ByteArray) {k:Nat} (h:k<s.data.size):(pt s)[k]?=some [.lit (.int .u8 s.data[k].toNat)]:=by simp only[pt,bj,aS,ax h,cU]
theorem aao (s:ByteArray):(pt s).length=s.data.size:=by simp[pt]
theorem Qb {s:ByteArray} {K:V->Prop}:jQ Tryz.prog 9 27 (.c (.lit (.string s))) K=K (.c (.sl (pt s))):=by simp only[jQ,X2,lE,ry]
theorem akD {s:ByteArray} {k:Nat} {K:V->Prop} (h:k<s.data.size):mI Tryz.prog 9 (.c (.lit (.string s))) (i64 k) K=K (.c (.lit (.int .u8 s.data[k].toNat))):=
 NR X2 rfl (ay k) (by simp[])
theorem QM (s:ByteArray) (hs:s.size<=9223372036854775807):FnOK Tryz.prog G 85 [.c (.lit (.string s))] (bo (nA s)):=by
 have fK:s.size=s.data.size:=rfl;refine bJ (rs:=[.tmp 2]) false [] mixed Tryz.func85 rfl rfl rfl rfl (by kernel_rfl) (by simp) rfl rfl ?_;simp only[jV,seval,Qb,aao];refine bz (λi:Nat=>hdS [(0,.c (.lit (.string s))),(6,.c (.sl (pt s))),(7,i64 s.data.size),(8,i64 i)] []) (λi=>s.data.size - i) (λi=>i<=s.data.size/\∀ j (h:j<s.data.size),j<i->nmC j s.data[j].toNat=true) 0 ⟨ar _,by simp⟩ ?_ ?_
 .refine cg rfl (ar _) (by simp) ?_ ?_
  .simp[FL,aj]
  .simp[BL]
 rintro i ⟨hi,gw⟩ R bL bQ dq;simp only[pkA,seval];refine aD (λbF=>?_) (λfO=>?_)
 .have bF:i<s.data.size:=by simpa using bF
  have hw:=wrap_i64 (i+1) (by omega);simp only[pkA,seval];refine dP lE rfl ry (by decide) (ay i) (c:=[.lit (.int .u8 s.data[i].toNat)]) (aan s bF) rfl ?_;generalize hc:(s.data[i].toNat:Int)=c;have good:nmC i c=true->∀ s',S.Le (Vv []) (hdS [(0,.c (.lit (.string s))),(6,.c (.sl (pt s))),(7,i64 s.data.size),(8,i64 (i+1:Nat))] []) s'->R .normal s':=λhg s' kg=>
   bL (i+1) s' ⟨bF,λj h hj=>by
    rcases bZ j i with h1 | h1
    .exact gw j h h1
    .have:j=i:=by omega
     subst this;rw[hc];exact hg⟩ (by omega) kg
  have bad:nmC i c=false->nA s=false:=λhb=>F7 bF (by rw[hc];exact hb);clear gw bL
  repeat' first
   |(simp only[jV,seval])
   |refine fy (λh=>?_) (λh=>?_)
   |refine aD (λh=>?_) (λh=>?_)
  all_goals first
   |(refine dq _ ?_
     simp only[pkA,seval];rw[bad (by clear fK dq bQ good bad;simp_all[nmC]<;>omega)])
   |(refine good (by clear fK dq bQ bad good;simp_all[nmC]<;>omega) _ (cg rfl (ar _) (by simp) ?_ trivial)
     simp[FL,aj,hw])
 .have:i=s.data.size:=by simp at fO;omega
  subst this;simp only[pkA];refine bQ _ _ ?_;clear bQ dq bL
  repeat' first
   |(simp only[jV,seval])
   |refine fy (λh=>?_) (λh=>?_)
   |refine aD (λh=>?_) (λh=>?_)
  all_goals
   rw[F8 (λj h=>gw j h h)];clear gw fK
   first | (simp_all;done) | (simp_all;omega) | (simp_all;rw[kY];simp;omega)
set_option maxRecDepth 100000 in
theorem DG (s:ByteArray) (hs:s.size<=9223372036854775807):FnOK Tryz.prog G 64 [.c (.lit (.string s))] (bo (nA s)):=by
 have fK:s.size=s.data.size:=rfl;refine bJ (rs:=[.tmp 2]) false [] mixed Tryz.func64 rfl rfl rfl rfl (by kernel_rfl) (by simp) rfl rfl ?_;by_cases hl:1<=s.size/\s.size<=12
 .have h1:decide ((s.size:Int)<1)=false:=by simp;omega
  have h2:decide ((12:Int)<(s.size:Int))=false:=by simp;omega
  simp only[jV,seval,h1,h2];refine bz (λi:Nat=>hdS [(0,.c (.lit (.string s))),(3,i64 i)] []) (λi=>s.data.size - i) (λi=>i<=s.data.size/\∀ j (h:j<s.data.size),j<i->nmC j s.data[j].toNat=true) 0 ⟨ar _,by simp⟩ ?_ ?_
  .refine cg rfl (ar _) (by simp) ?_ ?_
   .simp[FL,aj]
   .simp[BL]
  rintro i ⟨hi,gw⟩ R bL bQ dq;simp only[jV,seval];refine aD (λbF=>?_) (λfO=>?_)
  .have bF:i<s.data.size:=by rw[fK] at bF;simpa using bF
   have hw:=wrap_i64 (i+1) (by omega);have hix:∀ K,mI Tryz.prog 9 (.c (.lit (.string s))) (i64 i) K=K (.c (.lit (.int .u8 s.data[i].toNat))):=λK=>akD bF;generalize hc:(s.data[i].toNat:Int)=c at hix;have good:nmC i c=true->∀ s',S.Le (Vv []) (hdS [(0,.c (.lit (.string s))),(3,i64 (i+1:Nat))] []) s'->R .normal s':=λhg s' kg=>
    bL (i+1) s' ⟨bF,λj h hj=>by
     rcases bZ j i with h1 | h1
     .exact gw j h h1
     .have:j=i:=by omega
      subst this;rw[hc];exact hg⟩ (by omega) kg
   have bad:nmC i c=false->nA s=false:=λhb=>F7 bF (by rw[hc];exact hb);clear gw bL h1 h2
   repeat' first
    |(simp only[pkA,seval,hix])
    |refine fy (λh=>?_) (λh=>?_)
    |refine aD (λh=>?_) (λh=>?_)
   all_goals first
    |(refine dq _ ?_
      simp only[pkA,seval];rw[bad (by clear fK dq bQ good bad;simp_all[nmC]<;>omega)])
    |(refine good (by clear fK dq bQ bad good;simp_all[nmC]<;>omega) _ (cg rfl (ar _) (by simp) ?_ trivial)
      simp[FL,aj,hw])
  .have:i=s.data.size:=by rw[fK] at fO;simp at fO;omega
   subst this;simp only[pkA];refine bQ _ _ ?_;simp only[pkA,seval];rw[F8 (λj h=>gw j h h)];simp[hl]
 .have hb:nA s=false:=by
   unfold nA;by_cases h1:1<=s.size
   .have:¬ s.size<=12:=λh=>hl ⟨h1,h⟩
    simp[this]
   .simp[h1]
  repeat' first
   |(simp only[jV,seval])
   |refine fy (λh=>?_) (λh=>?_)
   |refine aD (λh=>?_) (λh=>?_)
  all_goals first | (rw[hb];done) | (exfalso;clear fK hb;simp_all;omega) | (rw[hb])
def anI (p:Pol):Prop:=p.types.length<=9223372036854775807/\p.rules.length<=9223372036854775807/\p.quorums.length<=9223372036854775807
theorem aap:Tryz.prog.cellsOf 57=3:=by kernel_rfl
theorem aaq:Tryz.prog.cellsOf 120=3:=by kernel_rfl
theorem aar:Tryz.prog.cellsOf 122=5:=by kernel_rfl
theorem aas:Tryz.prog.cellsOf 26=4:=by kernel_rfl
theorem zC:Tryz.prog.cellsOf 3=1:=by kernel_rfl
theorem F9:Tryz.prog.cellsOf 9=1:=by kernel_rfl
theorem UM:Tryz.prog.cellsOf 22=1:=by kernel_rfl
theorem UN:Tryz.prog.cellsOf 23=1:=by kernel_rfl
theorem UO:Tryz.prog.cellsOf 24=1:=by kernel_rfl
def anJ (t:Ty):Prop:=t.name.size<=maxLen/\I64 t.flags/\I64 t.life
def anK (t:Ru):Prop:=I64 t.kind/\I64 t.a/\I64 t.b
def anL (t:Qu):Prop:=I64 t.cmd/\I64 t.count/\I64 t.delay/\I64 t.valid/\I64 t.uses
theorem rG {xs:List C} (h:AP Tryz.prog 3 xs):∃ n,xs=[cI n]/\I64 n:=by obtain⟨m,rfl,hm⟩:=adh Tryz.underlying3 h;exact⟨m,rfl,ahY hm⟩
theorem aat {xs:List C} (h:AP Tryz.prog 9 xs):∃ s,xs=[cS s]/\s.size<=maxLen:=by obtain⟨m,rfl,hm⟩:=adi Tryz.underlying9 h;exact⟨m,rfl,hm⟩
theorem anM {xs:List C} (h:AP Tryz.prog 57 xs):∃ t:Ty,xs=tyC t/\anJ t:=by
 obtain⟨hl,hf⟩:=sS Tryz.underlying57 h;rw[aap] at hl
 match xs,hl with
 |[x0,x1,x2],_=>have h0:=hf _ (by simp;exact .inl rfl);have h1:=hf _ (by simp;exact .inr (.inl rfl));have h2:=hf _ (by simp;exact .inr (.inr rfl));simp only[F9,zC,cx,jh,fS,ky] at h0 h1 h2;obtain⟨s,e0,hs⟩:=aat h0;obtain⟨a,e1,ha⟩:=rG h1;obtain⟨b,e2,hb⟩:=rG h2;cases e0;cases e1;cases e2;exact⟨⟨s,a,b⟩,rfl,hs,ha,hb⟩
theorem anN {xs:List C} (h:AP Tryz.prog 120 xs):∃ t:Ru,xs=ruC t/\anK t:=by
 obtain⟨hl,hf⟩:=sS Tryz.underlying120 h;rw[aaq] at hl
 match xs,hl with
 |[x0,x1,x2],_=>have h0:=hf _ (by simp;exact .inl rfl);have h1:=hf _ (by simp;exact .inr (.inl rfl));have h2:=hf _ (by simp;exact .inr (.inr rfl));simp only[zC,cx,jh,fS,ky] at h0 h1 h2;obtain⟨s,e0,hs⟩:=rG h0;obtain⟨a,e1,ha⟩:=rG h1;obtain⟨b,e2,hb⟩:=rG h2;cases e0;cases e1;cases e2;exact⟨⟨s,a,b⟩,rfl,hs,ha,hb⟩
theorem anO {xs:List C} (h:AP Tryz.prog 122 xs):∃ t:Qu,xs=quC t/\anL t:=by
 obtain⟨hl,hf⟩:=sS Tryz.underlying122 h;rw[aar] at hl
 match xs,hl with
 |[x0,x1,x2,x3,x4],_=>have h0:=hf _ (by simp;exact .inl rfl);have h1:=hf _ (by simp;exact .inr (.inl rfl));have h2:=hf _ (by simp;exact .inr (.inr (.inl rfl)));have h3:=hf _ (by simp;exact .inr (.inr (.inr (.inl rfl))));have h4:=hf _ (by simp;exact .inr (.inr (.inr (.inr rfl))));simp only[zC,cx,jh,fS,ky] at h0 h1 h2 h3 h4;obtain⟨a0,e0,k0⟩:=rG h0;obtain⟨a1,e1,k1⟩:=rG h1;obtain⟨a2,e2,k2⟩:=rG h2;obtain⟨a3,e3,k3⟩:=rG h3;obtain⟨a4,e4,k4⟩:=rG h4;cases e0;cases e1;cases e2;cases e3;cases e4;exact⟨⟨a0,a1,a2,a3,a4⟩,rfl,k0,k1,k2,k3,k4⟩
structure PolIn (p:Pol):Prop where
 name:p.name.size<=maxLen
 lt:p.types.length<=maxLen
 lr:p.rules.length<=maxLen
 lq:p.quorums.length<=maxLen
 types:∀ t∈p.types,anJ t
 rules:∀ t∈p.rules,anK t
 quorums:∀ t∈p.quorums,anL t
theorem PolIn.ok {p:Pol} (h:PolIn p):anI p:=by have h1:=h.lt;have h2:=h.lr;have h3:=h.lq;unfold maxLen at h1 h2 h3;exact⟨by omega,by omega,by omega⟩
theorem anP {xs:List C} (h:AP Tryz.prog 26 xs):∃ p:Pol,xs=poC p/\PolIn p:=by
 obtain⟨hl,hf⟩:=sS Tryz.underlying26 h;rw[aas] at hl
 match xs,hl with
 |[x0,x1,x2,x3],_=>have h0:=hf _ (by simp;exact .inl rfl);have h1:=hf _ (by simp;exact .inr (.inl rfl));have h2:=hf _ (by simp;exact .inr (.inr (.inl rfl)));have h3:=hf _ (by simp;exact .inr (.inr (.inr rfl)));simp only[F9,UM,UN,UO,cx,jh,fS,ky] at h0 h1 h2 h3;obtain⟨s,e0,hs⟩:=aat h0;obtain⟨es1,e1,l1,k1⟩:=zi Tryz.underlying22 h1;obtain⟨es2,e2,l2,k2⟩:=zi Tryz.underlying23 h2;obtain⟨es3,e3,l3,k3⟩:=zi Tryz.underlying24 h3;obtain⟨ts,rfl,t1⟩:=Be λx hx=>anM (k1 x hx);obtain⟨rs,rfl,t2⟩:=Be λx hx=>anN (k2 x hx);obtain⟨qs,rfl,t3⟩:=Be λx hx=>anO (k3 x hx);cases e0;cases e1;cases e2;cases e3;exact⟨⟨s,ts,rs,qs⟩,rfl,hs,by simpa using l1,by simpa using l2,by simpa using l3,t1,t2,t3⟩
theorem akE:dt Tryz.prog 26=true:=by kernel_rfl
theorem O7 {x:V} (h:∃ n cs,Shp Tryz.prog n 26 cs/\x=KD Tryz.prog 26 cs):∃ p:Pol,x=.agg (poC p)/\PolIn p:=by obtain⟨n,cs,h,rfl⟩:=h;obtain⟨p,rfl,hp⟩:=anP ⟨n,h⟩;exact⟨p,by unfold KD;rw[akE,if_pos rfl],hp⟩
