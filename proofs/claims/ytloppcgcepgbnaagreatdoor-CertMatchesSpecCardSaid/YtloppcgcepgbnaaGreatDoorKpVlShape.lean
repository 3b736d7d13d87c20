/- Contracts of the look-ups in slices, over the values of layer 13. -/
import Derived.Test.YtloppcgcepgbnaaGreatDoorKpVlFun2
import Derived.Test.YtloppcgcepgbnaaGreatDoorVlLaw
set_option maxHeartbeats 2000000
set_option linter.all false
namespace Go.Proofs.YtloppcgcepgbnaaGreatDoor.Kp
open Go Go.Vl
set_option maxRecDepth 10000
variable {G:Gl}
structure Wi where
 n:Int
 lo:Int
 hi:Int
def wiC (t:Wi):List C:=[cI t.n,cI t.lo,cI t.hi]
theorem adx (t:Wi):(wiC t).length=3:=rfl
theorem amV {t:Wi} {K:V->Prop} {sz:Nat}:dI false sz 0 (wiC t) K=K (i64 t.n):=rfl
theorem amW {t:Wi} {K:V->Prop} {sz:Nat}:dI false sz 1 (wiC t) K=K (i64 t.lo):=rfl
theorem amX {t:Wi} {K:V->Prop} {sz:Nat}:dI false sz 2 (wiC t) K=K (i64 t.hi):=rfl
def inC (n:Int):List C:=[cI n]
theorem ag4 {t:Int} {K:V->Prop} {sz:Nat}:dI false sz 0 (inC t) K=K (i64 t):=rfl
def jU:=jj @pkA @ptA
def qg:=jj @pkA (jj @ptA @pkP)
theorem Ie (es:List Ty) (hm:es.length<=9223372036854775807) (g:FuncId) (caps:List C) (p:Ty->Bool) (hp:∀ e∈es,FnOK Tryz.prog G g (.agg (tyC e)::caps.map .c) (bo (p e))) :
 FnOK Tryz.prog G 175 [.c (.sl (es.map tyC)),.c (.fn (.func g) [] caps)] (i64 (qG p es)):=by
 refine bI (rs:=[.tmp 4]) false [] mixed Tryz.func175 rfl rfl rfl rfl (by kernel_rfl) (by simp) rfl rfl ?_;simp -implicitDefEqProofs only[jU,seval,au];refine bw (λi:Nat=>hdS [(0,.c (.sl (es.map tyC))),(1,.c (.fn (.func g) [] caps)),(7,i64 es.length),(8,i64 i)] []) (λi=>es.length - i) (λi=>i<=es.length/\∀ j (h:j<es.length),j<i->p es[j]=false) 0 ⟨ar _,by simp⟩ ?_ ?_
 .refine cm rfl (ar _) (ab _) ?_ trivial
  simp[FL,ah]
 rintro i ⟨hi,gy⟩ R bL bO c8;simp -implicitDefEqProofs only[pkA,seval];refine aD (λbE=>?_) (λfH=>?_)
 .have bE:i<es.length:=by simpa using bE
  simp -implicitDefEqProofs only[pkA,seval];refine dQ rJ rfl lE (by decide) (ay i) (c:=tyC es[i]) (by simp[bE]) rfl ?_;simp -implicitDefEqProofs only[qg,seval];refine az rfl (hp _ (bR bE)) (by simp[V.boxy]) ?_;simp -implicitDefEqProofs only[pkA,seval];refine aD (λhy=>?_) (λhn=>?_)
  .simp -implicitDefEqProofs only[pkA,seval]
   refine c8 _ ?_;simp -implicitDefEqProofs only[pkA,seval];rw[ou bE hy gy]
  .simp -implicitDefEqProofs only[pkA,seval]
   refine bL (i+1) _ ⟨bE,λj h hj=>?_⟩ (by omega) (cm rfl (ar _) (ab _) ?_ trivial)
   .rcases bX j i with h1 | h1
    .exact gy j h h1
    .have:j=i:=by omega
     subst this;exact hn
   .have hw:=wrap_i64 (i+1) (by omega)
    simp[FL,ah,hw]
 .have:i=es.length:=by simp at fH;omega
  subst this;simp -implicitDefEqProofs only[pkA];refine bO _ _ ?_;simp -implicitDefEqProofs only[pkA,seval];rw[lL gy]
theorem AO (es:List Ty) (hm:es.length<=9223372036854775807) (g:FuncId) (caps:List C) (p:Ty->Bool) (hp:∀ e∈es,FnOK Tryz.prog G g (.agg (tyC e)::caps.map .c) (bo (p e))) :
 FnOK Tryz.prog G 128 [.c (.sl (es.map tyC)),.c (.fn (.func g) [] caps)] (bo (es.any p)):=by
 refine bI (rs:=[.tmp 4]) false [] mixed Tryz.func128 rfl rfl rfl rfl (by kernel_rfl) (by simp) rfl rfl ?_;simp -implicitDefEqProofs only[pkA,seval];refine az rfl (Ie es hm g caps p hp) (by simp[V.boxy]) ?_;simp -implicitDefEqProofs only[pkA,seval];rw[<- jT]
theorem Ig (es:List Qu) (hm:es.length<=9223372036854775807) (g:FuncId) (caps:List C) (p:Qu->Bool) (hp:∀ e∈es,FnOK Tryz.prog G g (.agg (quC e)::caps.map .c) (bo (p e))) :
 FnOK Tryz.prog G 180 [.c (.sl (es.map quC)),.c (.fn (.func g) [] caps)] (i64 (qG p es)):=by
 refine bI (rs:=[.tmp 4]) false [] mixed Tryz.func180 rfl rfl rfl rfl (by kernel_rfl) (by simp) rfl rfl ?_;simp -implicitDefEqProofs only[jU,seval,au];refine bw (λi:Nat=>hdS [(0,.c (.sl (es.map quC))),(1,.c (.fn (.func g) [] caps)),(7,i64 es.length),(8,i64 i)] []) (λi=>es.length - i) (λi=>i<=es.length/\∀ j (h:j<es.length),j<i->p es[j]=false) 0 ⟨ar _,by simp⟩ ?_ ?_
 .refine cm rfl (ar _) (ab _) ?_ trivial
  simp[FL,ah]
 rintro i ⟨hi,gy⟩ R bL bO c8;simp -implicitDefEqProofs only[pkA,seval];refine aD (λbE=>?_) (λfH=>?_)
 .have bE:i<es.length:=by simpa using bE
  simp -implicitDefEqProofs only[pkA,seval];refine dQ CQ rfl ll (by decide) (ay i) (c:=quC es[i]) (by simp[bE]) rfl ?_;simp -implicitDefEqProofs only[qg,seval];refine az rfl (hp _ (bR bE)) (by simp[V.boxy]) ?_;simp -implicitDefEqProofs only[pkA,seval];refine aD (λhy=>?_) (λhn=>?_)
  .simp -implicitDefEqProofs only[pkA,seval]
   refine c8 _ ?_;simp -implicitDefEqProofs only[pkA,seval];rw[ou bE hy gy]
  .simp -implicitDefEqProofs only[pkA,seval]
   refine bL (i+1) _ ⟨bE,λj h hj=>?_⟩ (by omega) (cm rfl (ar _) (ab _) ?_ trivial)
   .rcases bX j i with h1 | h1
    .exact gy j h h1
    .have:j=i:=by omega
     subst this;exact hn
   .have hw:=wrap_i64 (i+1) (by omega)
    simp[FL,ah,hw]
 .have:i=es.length:=by simp at fH;omega
  subst this;simp -implicitDefEqProofs only[pkA];refine bO _ _ ?_;simp -implicitDefEqProofs only[pkA,seval];rw[lL gy]
theorem AP (es:List Qu) (hm:es.length<=9223372036854775807) (g:FuncId) (caps:List C) (p:Qu->Bool) (hp:∀ e∈es,FnOK Tryz.prog G g (.agg (quC e)::caps.map .c) (bo (p e))) :
 FnOK Tryz.prog G 133 [.c (.sl (es.map quC)),.c (.fn (.func g) [] caps)] (bo (es.any p)):=by
 refine bI (rs:=[.tmp 4]) false [] mixed Tryz.func133 rfl rfl rfl rfl (by kernel_rfl) (by simp) rfl rfl ?_;simp -implicitDefEqProofs only[pkA,seval];refine az rfl (Ig es hm g caps p hp) (by simp[V.boxy]) ?_;simp -implicitDefEqProofs only[pkA,seval];rw[<- jT]
theorem Ih (es:List Wi) (hm:es.length<=9223372036854775807) (g:FuncId) (caps:List C) (p:Wi->Bool) (hp:∀ e∈es,FnOK Tryz.prog G g (.agg (wiC e)::caps.map .c) (bo (p e))) :
 FnOK Tryz.prog G 188 [.c (.sl (es.map wiC)),.c (.fn (.func g) [] caps)] (i64 (qG p es)):=by
 refine bI (rs:=[.tmp 4]) false [] mixed Tryz.func188 rfl rfl rfl rfl (by kernel_rfl) (by simp) rfl rfl ?_;simp -implicitDefEqProofs only[jU,seval,au];refine bw (λi:Nat=>hdS [(0,.c (.sl (es.map wiC))),(1,.c (.fn (.func g) [] caps)),(7,i64 es.length),(8,i64 i)] []) (λi=>es.length - i) (λi=>i<=es.length/\∀ j (h:j<es.length),j<i->p es[j]=false) 0 ⟨ar _,by simp⟩ ?_ ?_
 .refine cm rfl (ar _) (ab _) ?_ trivial
  simp[FL,ah]
 rintro i ⟨hi,gy⟩ R bL bO c8;simp -implicitDefEqProofs only[pkA,seval];refine aD (λbE=>?_) (λfH=>?_)
 .have bE:i<es.length:=by simpa using bE
  simp -implicitDefEqProofs only[pkA,seval];refine dQ NS rfl wJ (by decide) (ay i) (c:=wiC es[i]) (by simp[bE]) rfl ?_;simp -implicitDefEqProofs only[jU,seval,adx];refine az rfl (hp _ (bR bE)) (by simp[V.boxy]) ?_;simp -implicitDefEqProofs only[pkA,seval];refine aD (λhy=>?_) (λhn=>?_)
  .simp -implicitDefEqProofs only[pkA,seval]
   refine c8 _ ?_;simp -implicitDefEqProofs only[pkA,seval];rw[ou bE hy gy]
  .simp -implicitDefEqProofs only[pkA,seval]
   refine bL (i+1) _ ⟨bE,λj h hj=>?_⟩ (by omega) (cm rfl (ar _) (ab _) ?_ trivial)
   .rcases bX j i with h1 | h1
    .exact gy j h h1
    .have:j=i:=by omega
     subst this;exact hn
   .have hw:=wrap_i64 (i+1) (by omega)
    simp[FL,ah,hw]
 .have:i=es.length:=by simp at fH;omega
  subst this;simp -implicitDefEqProofs only[pkA];refine bO _ _ ?_;simp -implicitDefEqProofs only[pkA,seval];rw[lL gy]
theorem AQ (es:List Wi) (hm:es.length<=9223372036854775807) (g:FuncId) (caps:List C) (p:Wi->Bool) (hp:∀ e∈es,FnOK Tryz.prog G g (.agg (wiC e)::caps.map .c) (bo (p e))) :
 FnOK Tryz.prog G 176 [.c (.sl (es.map wiC)),.c (.fn (.func g) [] caps)] (bo (es.any p)):=by
 refine bI (rs:=[.tmp 4]) false [] mixed Tryz.func176 rfl rfl rfl rfl (by kernel_rfl) (by simp) rfl rfl ?_;simp -implicitDefEqProofs only[pkA,seval];refine az rfl (Ih es hm g caps p hp) (by simp[V.boxy]) ?_;simp -implicitDefEqProofs only[pkA,seval];rw[<- jT]
theorem Za (es:List Ru) (hm:es.length<=9223372036854775807) (x:Ru) :
 FnOK Tryz.prog G 178 [.c (.sl (es.map ruC)),.agg (ruC x)] (i64 (qG (λe=>decide (x=e)) es)):=by
 refine bI (rs:=[.tmp 4]) false [] mixed Tryz.func178 rfl rfl rfl rfl (by kernel_rfl) (by simp) rfl rfl ?_;simp -implicitDefEqProofs only[jU,seval,au];refine bw (λi:Nat=>hdS [(0,.c (.sl (es.map ruC))),(3,.bp 0 0),(7,i64 es.length),(8,i64 i)] [(ruC x).map .c]) (λi=>es.length - i) (λi=>i<=es.length/\∀ j (h:j<es.length),j<i->(λe=>decide (x=e)) es[j]=false) 0 ⟨ar _,by simp⟩ ?_ ?_
 .refine cm rfl (ar _) (by simp) ?_ ?_
  .simp[FL,ah]
  .simp[BL]
 rintro i ⟨hi,gy⟩ R bL bO c8;simp -implicitDefEqProofs only[pkA,seval];refine aD (λbE=>?_) (λfH=>?_)
 .have bE:i<es.length:=by simpa using bE
  simp -implicitDefEqProofs only[qg,seval];refine dQ mq rfl fU (by decide) (ay i) (c:=ruC es[i]) (by simp[bE]) rfl ?_;simp -implicitDefEqProofs only[qg,seval];refine aD (λhy=>?_) (λhn=>?_)
  .simp -implicitDefEqProofs only[pkA,seval]
   refine c8 _ ?_;simp -implicitDefEqProofs only[pkA,seval];rw[ou bE hy gy]
  .simp -implicitDefEqProofs only[pkA,seval]
   refine bL (i+1) _ ⟨bE,λj h hj=>?_⟩ (by omega) (cm rfl (ar _) (by simp) ?_ ?_)
   .rcases bX j i with h1 | h1
    .exact gy j h h1
    .have:j=i:=by omega
     subst this;exact hn
   .have hw:=wrap_i64 (i+1) (by omega)
    simp[FL,ah,hw]
   .simp[BL,bxs]
 .have:i=es.length:=by simp at fH;omega
  subst this;simp -implicitDefEqProofs only[pkA];refine bO _ _ ?_;simp -implicitDefEqProofs only[pkA,seval];rw[lL gy]
theorem Lu (es:List Ru) (hm:es.length<=9223372036854775807) (x:Ru) :
 FnOK Tryz.prog G 131 [.c (.sl (es.map ruC)),.agg (ruC x)] (bo (es.any λe=>decide (x=e))):=by
 refine bI (rs:=[.tmp 4]) false [] mixed Tryz.func131 rfl rfl rfl rfl (by kernel_rfl) (by simp) rfl rfl ?_;simp -implicitDefEqProofs only[qg,seval];refine az rfl (Za es hm x) (by simp[V.boxy]) ?_;simp -implicitDefEqProofs only[pkA,seval];rw[<- jT]
theorem Zb (es:List Int) (hm:es.length<=9223372036854775807) (x:Int) :
 FnOK Tryz.prog G 179 [.c (.sl (es.map inC)),i64 x] (i64 (qG (λe=>decide (x=e)) es)):=by
 refine bI (rs:=[.tmp 4]) false [] mixed Tryz.func179 rfl rfl rfl rfl (by kernel_rfl) (by simp) rfl rfl ?_;simp -implicitDefEqProofs only[jU,seval,au];refine bw (λi:Nat=>hdS [(0,.c (.sl (es.map inC))),(1,i64 x),(7,i64 es.length),(8,i64 i)] []) (λi=>es.length - i) (λi=>i<=es.length/\∀ j (h:j<es.length),j<i->(λe=>decide (x=e)) es[j]=false) 0 ⟨ar _,by simp⟩ ?_ ?_
 .refine cm rfl (ar _) (by simp) ?_ ?_
  .simp[FL,ah]
  .simp[BL]
 rintro i ⟨hi,gy⟩ R bL bO c8;simp -implicitDefEqProofs only[pkA,seval];refine aD (λbE=>?_) (λfH=>?_)
 .have bE:i<es.length:=by simpa using bE
  simp -implicitDefEqProofs only[pkA,seval];refine dQ pX rfl mo (by decide) (ay i) (c:=inC es[i]) (by simp[bE]) rfl ?_;simp -implicitDefEqProofs only[jU,seval,ag4];refine aD (λhy=>?_) (λhn=>?_)
  .simp -implicitDefEqProofs only[pkA,seval]
   refine c8 _ ?_;simp -implicitDefEqProofs only[pkA,seval];rw[ou bE hy gy]
  .simp -implicitDefEqProofs only[pkA,seval]
   refine bL (i+1) _ ⟨bE,λj h hj=>?_⟩ (by omega) (cm rfl (ar _) (by simp) ?_ ?_)
   .rcases bX j i with h1 | h1
    .exact gy j h h1
    .have:j=i:=by omega
     subst this;exact hn
   .have hw:=wrap_i64 (i+1) (by omega)
    simp[FL,ah,hw]
   .simp[BL]
 .have:i=es.length:=by simp at fH;omega
  subst this;simp -implicitDefEqProofs only[pkA];refine bO _ _ ?_;simp -implicitDefEqProofs only[pkA,seval];rw[lL gy]
theorem Lx (es:List Int) (hm:es.length<=9223372036854775807) (x:Int) :
 FnOK Tryz.prog G 132 [.c (.sl (es.map inC)),i64 x] (bo (es.any λe=>decide (x=e))):=by
 refine bI (rs:=[.tmp 4]) false [] mixed Tryz.func132 rfl rfl rfl rfl (by kernel_rfl) (by simp) rfl rfl ?_;simp -implicitDefEqProofs only[pkA,seval];refine az rfl (Zb es hm x) (by simp[V.boxy]) ?_;simp -implicitDefEqProofs only[pkA,seval];rw[<- jT]
theorem ady (t o:Ty):FnOK Tryz.prog G 129 [.agg (tyC o),.c (.rp (tyC t) 0)] (bo (decide (o.name=t.name))):=by refine bI (rs:=[.tmp 3]) false [] mixed Tryz.func129 rfl rfl rfl rfl (by kernel_rfl) (by simp) rfl rfl ?_;simp -implicitDefEqProofs only[qg,seval]
theorem adz (t o:Qu):FnOK Tryz.prog G 134 [.agg (quC o),.c (.rp (quC t) 0)] (bo (decide (o.cmd=t.cmd))):=by refine bI (rs:=[.tmp 3]) false [] mixed Tryz.func134 rfl rfl rfl rfl (by kernel_rfl) (by simp) rfl rfl ?_;simp -implicitDefEqProofs only[qg,seval]
def AS (x:Wi):Bool:=decide (x.n<x.lo)||decide (x.hi<x.n)
theorem Ub (x:Wi):FnOK Tryz.prog G 177 [.agg (wiC x)] (bo (AS x)):=by
 refine bI (rs:=[.tmp 2]) false [] mixed Tryz.func177 rfl rfl rfl rfl (by kernel_rfl) (by simp) rfl rfl ?_
 repeat' first
  |(simp -implicitDefEqProofs only[jU,seval,amV,amW,amX])
  |refine eT (λh=>?_) (λh=>?_)
  |refine aD (λh=>?_) (λh=>?_)
 all_goals (unfold AS;first | (simp_all;done) | (simp_all;omega))
theorem DL (es:List Wi) (hm:es.length<=9223372036854775807):FnOK Tryz.prog G 130 [.c (.sl (es.map wiC))] (bo (es.any AS)):=by refine bI (rs:=[.tmp 2]) false [] mixed Tryz.func130 rfl rfl rfl rfl (by kernel_rfl) (by simp) rfl rfl ?_;simp -implicitDefEqProofs only[pkA,seval];refine az rfl (AQ es hm _ [] AS (λe _=>Ub e)) (by simp[V.boxy]) ?_;simp -implicitDefEqProofs only[pkA,seval]
def nmC (k:Nat) (c:Int):Bool:=(decide (97<=c)&&decide (c<=122))||(decide (0<k)&&(decide (48<=c)&&decide (c<=57)))
def nz (s:ByteArray):Bool:=decide (∀ k (h:k<s.data.size),nmC k s.data[k].toNat=true)&&decide (1<=s.size)&&decide (s.size<=12)
theorem FY {s:ByteArray} {k:Nat} (h:k<s.data.size) (hc:nmC k s.data[k].toNat=false):nz s=false:=by
 have:decide (∀ k (h:k<s.data.size),nmC k s.data[k].toNat=true)=false:=eK λhh=>by rw[hh k h] at hc;cases hc
 unfold nz;rw[this];simp only[Bool.false_and]
theorem FZ {s:ByteArray} (hk:∀ j (h:j<s.data.size),nmC j s.data[j].toNat=true):nz s=(decide (1<=s.size)&&decide (s.size<=12)):=by have:decide (∀ k (h:k<s.data.size),nmC k s.data[k].toNat=true)=true:=dn hk;unfold nz;rw[this,ke]
theorem Zc (s:ByteArray) {k:Nat} (h:k<s.data.size):(pa s)[k]?=some [.lit (.int .u8 s.data[k].toNat)]:=by simp only[pa,bj,aQ,ax h,cT]
theorem Zd (s:ByteArray):(pa s).length=s.data.size:=by simp[pa]
theorem PH {s:ByteArray} {K:V->Prop}:jR Tryz.prog 9 27 (.c (.lit (.string s))) K=K (.c (.sl (pa s))):=by simp only[jR,Xa,kU,pw]
theorem ah3 {s:ByteArray} {k:Nat} {K:V->Prop} (h:k<s.data.size):mI Tryz.prog 9 (.c (.lit (.string s))) (i64 k) K=K (.c (.lit (.int .u8 s.data[k].toNat))):=
 Ns Xa rfl (ay k) (by simp[])
theorem Qg (s:ByteArray) (hs:s.size<=9223372036854775807):FnOK Tryz.prog G 85 [.c (.lit (.string s))] (bo (nz s)):=by
 have fO:s.size=s.data.size:=rfl;refine bI (rs:=[.tmp 2]) false [] mixed Tryz.func85 rfl rfl rfl rfl (by kernel_rfl) (by simp) rfl rfl ?_;simp only[jU,seval,PH,Zd];refine bw (λi:Nat=>hdS [(0,.c (.lit (.string s))),(6,.c (.sl (pa s))),(7,i64 s.data.size),(8,i64 i)] []) (λi=>s.data.size - i) (λi=>i<=s.data.size/\∀ j (h:j<s.data.size),j<i->nmC j s.data[j].toNat=true) 0 ⟨ar _,by simp⟩ ?_ ?_
 .refine cm rfl (ar _) (by simp) ?_ ?_
  .simp[FL,ah]
  .simp[BL]
 rintro i ⟨hi,gy⟩ R bL bO c8;simp only[pkA,seval];refine aD (λbE=>?_) (λfH=>?_)
 .have bE:i<s.data.size:=by simpa using bE
  have hw:=wrap_i64 (i+1) (by omega);simp only[pkA,seval];refine dQ kU rfl pw (by decide) (ay i) (c:=[.lit (.int .u8 s.data[i].toNat)]) (Zc s bE) rfl ?_;generalize hc:(s.data[i].toNat:Int)=c;have good:nmC i c=true->∀ s',S.Le (UY []) (hdS [(0,.c (.lit (.string s))),(6,.c (.sl (pa s))),(7,i64 s.data.size),(8,i64 (i+1:Nat))] []) s'->R .normal s':=λhg s' ko=>
   bL (i+1) s' ⟨bE,λj h hj=>by
    rcases bX j i with h1 | h1
    .exact gy j h h1
    .have:j=i:=by omega
     subst this;rw[hc];exact hg⟩ (by omega) ko
  have bad:nmC i c=false->nz s=false:=λhb=>FY bE (by rw[hc];exact hb);clear gy bL
  repeat' first
   |(simp only[jU,seval])
   |refine eT (λh=>?_) (λh=>?_)
   |refine aD (λh=>?_) (λh=>?_)
  all_goals first
   |(refine c8 _ ?_
     simp only[pkA,seval];rw[bad (by clear fO c8 bO good bad;simp_all[nmC]<;>omega)])
   |(refine good (by clear fO c8 bO bad good;simp_all[nmC]<;>omega) _ (cm rfl (ar _) (by simp) ?_ trivial)
     simp[FL,ah,hw])
 .have:i=s.data.size:=by simp at fH;omega
  subst this;simp only[pkA];refine bO _ _ ?_;clear bO c8 bL
  repeat' first
   |(simp only[jU,seval])
   |refine eT (λh=>?_) (λh=>?_)
   |refine aD (λh=>?_) (λh=>?_)
  all_goals
   rw[FZ (λj h=>gy j h h)];clear gy fO
   first | (simp_all;done) | (simp_all;omega) | (simp_all;rw[jO];simp;omega)
set_option maxRecDepth 100000 in
theorem DN (s:ByteArray) (hs:s.size<=9223372036854775807):FnOK Tryz.prog G 64 [.c (.lit (.string s))] (bo (nz s)):=by
 have fO:s.size=s.data.size:=rfl;refine bI (rs:=[.tmp 2]) false [] mixed Tryz.func64 rfl rfl rfl rfl (by kernel_rfl) (by simp) rfl rfl ?_;by_cases hl:1<=s.size/\s.size<=12
 .have h1:decide ((s.size:Int)<1)=false:=by simp;omega
  have h2:decide ((12:Int)<(s.size:Int))=false:=by simp;omega
  simp only[jU,seval,h1,h2];refine bw (λi:Nat=>hdS [(0,.c (.lit (.string s))),(3,i64 i)] []) (λi=>s.data.size - i) (λi=>i<=s.data.size/\∀ j (h:j<s.data.size),j<i->nmC j s.data[j].toNat=true) 0 ⟨ar _,by simp⟩ ?_ ?_
  .refine cm rfl (ar _) (by simp) ?_ ?_
   .simp[FL,ah]
   .simp[BL]
  rintro i ⟨hi,gy⟩ R bL bO c8;simp only[jU,seval];refine aD (λbE=>?_) (λfH=>?_)
  .have bE:i<s.data.size:=by rw[fO] at bE;simpa using bE
   have hw:=wrap_i64 (i+1) (by omega);have hix:∀ K,mI Tryz.prog 9 (.c (.lit (.string s))) (i64 i) K=K (.c (.lit (.int .u8 s.data[i].toNat))):=λK=>ah3 bE;generalize hc:(s.data[i].toNat:Int)=c at hix;have good:nmC i c=true->∀ s',S.Le (UY []) (hdS [(0,.c (.lit (.string s))),(3,i64 (i+1:Nat))] []) s'->R .normal s':=λhg s' ko=>
    bL (i+1) s' ⟨bE,λj h hj=>by
     rcases bX j i with h1 | h1
     .exact gy j h h1
     .have:j=i:=by omega
      subst this;rw[hc];exact hg⟩ (by omega) ko
   have bad:nmC i c=false->nz s=false:=λhb=>FY bE (by rw[hc];exact hb);clear gy bL h1 h2
   repeat' first
    |(simp only[pkA,seval,hix])
    |refine eT (λh=>?_) (λh=>?_)
    |refine aD (λh=>?_) (λh=>?_)
   all_goals first
    |(refine c8 _ ?_
      simp only[pkA,seval];rw[bad (by clear fO c8 bO good bad;simp_all[nmC]<;>omega)])
    |(refine good (by clear fO c8 bO bad good;simp_all[nmC]<;>omega) _ (cm rfl (ar _) (by simp) ?_ trivial)
      simp[FL,ah,hw])
  .have:i=s.data.size:=by rw[fO] at fH;simp at fH;omega
   subst this;simp only[pkA];refine bO _ _ ?_;simp only[pkA,seval];rw[FZ (λj h=>gy j h h)];simp[hl]
 .have hb:nz s=false:=by
   unfold nz;by_cases h1:1<=s.size
   .have:¬ s.size<=12:=λh=>hl ⟨h1,h⟩
    simp[this]
   .simp[h1]
  repeat' first
   |(simp only[jU,seval])
   |refine eT (λh=>?_) (λh=>?_)
   |refine aD (λh=>?_) (λh=>?_)
  all_goals first | (rw[hb];done) | (exfalso;clear fO hb;simp_all;omega) | (rw[hb])
def akU (p:Pol):Prop:=p.types.length<=9223372036854775807/\p.rules.length<=9223372036854775807/\p.quorums.length<=9223372036854775807
theorem Ze:Tryz.prog.cellsOf 57=3:=by kernel_rfl
theorem Zf:Tryz.prog.cellsOf 120=3:=by kernel_rfl
theorem Zg:Tryz.prog.cellsOf 122=5:=by kernel_rfl
theorem Zh:Tryz.prog.cellsOf 26=4:=by kernel_rfl
theorem vj:Tryz.prog.cellsOf 3=1:=by kernel_rfl
theorem F2:Tryz.prog.cellsOf 9=1:=by kernel_rfl
theorem Uc:Tryz.prog.cellsOf 22=1:=by kernel_rfl
theorem Ud:Tryz.prog.cellsOf 23=1:=by kernel_rfl
theorem Ue:Tryz.prog.cellsOf 24=1:=by kernel_rfl
def akV (t:Ty):Prop:=t.name.size<=maxLen/\I64 t.flags/\I64 t.life
def akW (t:Ru):Prop:=I64 t.kind/\I64 t.a/\I64 t.b
def akX (t:Qu):Prop:=I64 t.cmd/\I64 t.count/\I64 t.delay/\I64 t.valid/\I64 t.uses
theorem nY {xs:List C} (h:vB Tryz.prog 3 xs):∃ n,xs=[cI n]/\I64 n:=by obtain⟨m,rfl,hm⟩:=PK Tryz.underlying3 h;exact⟨m,rfl,afR hm⟩
theorem Zi {xs:List C} (h:vB Tryz.prog 9 xs):∃ s,xs=[cS s]/\s.size<=maxLen:=by obtain⟨m,rfl,hm⟩:=abL Tryz.underlying9 h;exact⟨m,rfl,hm⟩
theorem akY {xs:List C} (h:vB Tryz.prog 57 xs):∃ t:Ty,xs=tyC t/\akV t:=by
 obtain⟨hl,hf⟩:=pW Tryz.underlying57 h;rw[Ze] at hl
 match xs,hl with
 |[x0,x1,x2],_=>have h0:=hf _ (by simp;exact .inl rfl);have h1:=hf _ (by simp;exact .inr (.inl rfl));have h2:=hf _ (by simp;exact .inr (.inr rfl));simp only[F2,vj,ct,gU,eZ,jC] at h0 h1 h2;obtain⟨s,e0,hs⟩:=Zi h0;obtain⟨a,e1,ha⟩:=nY h1;obtain⟨b,e2,hb⟩:=nY h2;cases e0;cases e1;cases e2;exact⟨⟨s,a,b⟩,rfl,hs,ha,hb⟩
theorem akZ {xs:List C} (h:vB Tryz.prog 120 xs):∃ t:Ru,xs=ruC t/\akW t:=by
 obtain⟨hl,hf⟩:=pW Tryz.underlying120 h;rw[Zf] at hl
 match xs,hl with
 |[x0,x1,x2],_=>have h0:=hf _ (by simp;exact .inl rfl);have h1:=hf _ (by simp;exact .inr (.inl rfl));have h2:=hf _ (by simp;exact .inr (.inr rfl));simp only[vj,ct,gU,eZ,jC] at h0 h1 h2;obtain⟨s,e0,hs⟩:=nY h0;obtain⟨a,e1,ha⟩:=nY h1;obtain⟨b,e2,hb⟩:=nY h2;cases e0;cases e1;cases e2;exact⟨⟨s,a,b⟩,rfl,hs,ha,hb⟩
theorem ak0 {xs:List C} (h:vB Tryz.prog 122 xs):∃ t:Qu,xs=quC t/\akX t:=by
 obtain⟨hl,hf⟩:=pW Tryz.underlying122 h;rw[Zg] at hl
 match xs,hl with
 |[x0,x1,x2,x3,x4],_=>have h0:=hf _ (by simp;exact .inl rfl);have h1:=hf _ (by simp;exact .inr (.inl rfl));have h2:=hf _ (by simp;exact .inr (.inr (.inl rfl)));have h3:=hf _ (by simp;exact .inr (.inr (.inr (.inl rfl))));have h4:=hf _ (by simp;exact .inr (.inr (.inr (.inr rfl))));simp only[vj,ct,gU,eZ,jC] at h0 h1 h2 h3 h4;obtain⟨a0,e0,k0⟩:=nY h0;obtain⟨a1,e1,k1⟩:=nY h1;obtain⟨a2,e2,k2⟩:=nY h2;obtain⟨a3,e3,k3⟩:=nY h3;obtain⟨a4,e4,k4⟩:=nY h4;cases e0;cases e1;cases e2;cases e3;cases e4;exact⟨⟨a0,a1,a2,a3,a4⟩,rfl,k0,k1,k2,k3,k4⟩
structure PolIn (p:Pol):Prop where
 name:p.name.size<=maxLen
 lt:p.types.length<=maxLen
 lr:p.rules.length<=maxLen
 lq:p.quorums.length<=maxLen
 types:∀ t∈p.types,akV t
 rules:∀ t∈p.rules,akW t
 quorums:∀ t∈p.quorums,akX t
theorem PolIn.ok {p:Pol} (h:PolIn p):akU p:=by have h1:=h.lt;have h2:=h.lr;have h3:=h.lq;unfold maxLen at h1 h2 h3;exact⟨by omega,by omega,by omega⟩
theorem ak1 {xs:List C} (h:vB Tryz.prog 26 xs):∃ p:Pol,xs=poC p/\PolIn p:=by
 obtain⟨hl,hf⟩:=pW Tryz.underlying26 h;rw[Zh] at hl
 match xs,hl with
 |[x0,x1,x2,x3],_=>have h0:=hf _ (by simp;exact .inl rfl);have h1:=hf _ (by simp;exact .inr (.inl rfl));have h2:=hf _ (by simp;exact .inr (.inr (.inl rfl)));have h3:=hf _ (by simp;exact .inr (.inr (.inr rfl)));simp only[F2,Uc,Ud,Ue,ct,gU,eZ,jC] at h0 h1 h2 h3;obtain⟨s,e0,hs⟩:=Zi h0;obtain⟨es1,e1,l1,k1⟩:=rH Tryz.underlying22 h1;obtain⟨es2,e2,l2,k2⟩:=rH Tryz.underlying23 h2;obtain⟨es3,e3,l3,k3⟩:=rH Tryz.underlying24 h3;obtain⟨ts,rfl,t1⟩:=u4 λx hx=>akY (k1 x hx);obtain⟨rs,rfl,t2⟩:=u4 λx hx=>akZ (k2 x hx);obtain⟨qs,rfl,t3⟩:=u4 λx hx=>ak0 (k3 x hx);cases e0;cases e1;cases e2;cases e3;exact⟨⟨s,ts,rs,qs⟩,rfl,hs,by simpa using l1,by simpa using l2,by simpa using l3,t1,t2,t3⟩
theorem ah4:dh Tryz.prog 26=true:=by kernel_rfl
theorem OD {x:V} (h:∃ n cs,Shp Tryz.prog n 26 cs/\x=x7 Tryz.prog 26 cs):∃ p:Pol,x=.agg (poC p)/\PolIn p:=by obtain⟨n,cs,h,rfl⟩:=h;obtain⟨p,rfl,hp⟩:=ak1 ⟨n,h⟩;exact⟨p,by unfold x7;rw[ah4,if_pos rfl],hp⟩
