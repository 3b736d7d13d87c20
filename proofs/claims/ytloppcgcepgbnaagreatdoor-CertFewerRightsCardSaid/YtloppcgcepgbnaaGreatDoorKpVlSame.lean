/- Policies, as values: what the functions of layer 13 read. -/
import Derived.Test.YtloppcgcepgbnaaGreatDoorKpVlFun1
set_option maxHeartbeats 2000000
set_option linter.all false
namespace Go.Proofs.YtloppcgcepgbnaaGreatDoor.Kp
open Go Go.Vl
set_option maxRecDepth 10000
structure Ty where
 name:ByteArray
 flags:Int
 life:Int
 deriving DecidableEq
structure Ru where
 kind:Int
 a:Int
 b:Int
 deriving DecidableEq
structure Qu where
 cmd:Int
 count:Int
 delay:Int
 valid:Int
 uses:Int
 deriving DecidableEq
structure Pol where
 name:ByteArray
 types:List Ty
 rules:List Ru
 quorums:List Qu
 deriving DecidableEq
def cS (b:ByteArray):C:=.lit (.string b)
def cI (n:Int):C:=.lit (.int .i64 n)
def tyC (t:Ty):List C:=[cS t.name,cI t.flags,cI t.life]
def ruC (r:Ru):List C:=[cI r.kind,cI r.a,cI r.b]
def quC (q:Qu):List C:=[cI q.cmd,cI q.count,cI q.delay,cI q.valid,cI q.uses]
def poC (p:Pol):List C:=[cS p.name,.sl (p.types.map tyC),.sl (p.rules.map ruC),.sl (p.quorums.map quC)]
theorem nQ (t:Ty):(tyC t).length=3:=rfl
theorem qu (t:Ru):(ruC t).length=3:=rfl
theorem xX (t:Qu):(quC t).length=5:=rfl
theorem Hg (t:Pol):(poC t).length=4:=rfl
section
variable {K:V→Prop} {sz:Nat}
theorem aiE {t:Ty}:cJ false sz 0 (tyC t) K=K (.c (.lit (.string t.name))):=rfl
theorem aiF {t:Ty}:cJ false sz 1 (tyC t) K=K (i64 t.flags):=rfl
theorem aiG {t:Ty}:cJ false sz 2 (tyC t) K=K (i64 t.life):=rfl
theorem aiH {t:Ru}:cJ false sz 0 (ruC t) K=K (i64 t.kind):=rfl
theorem aiI {t:Ru}:cJ false sz 1 (ruC t) K=K (i64 t.a):=rfl
theorem aiJ {t:Ru}:cJ false sz 2 (ruC t) K=K (i64 t.b):=rfl
theorem aiK {t:Qu}:cJ false sz 0 (quC t) K=K (i64 t.cmd):=rfl
theorem aiL {t:Qu}:cJ false sz 1 (quC t) K=K (i64 t.count):=rfl
theorem aiM {t:Qu}:cJ false sz 2 (quC t) K=K (i64 t.delay):=rfl
theorem aiN {t:Qu}:cJ false sz 3 (quC t) K=K (i64 t.valid):=rfl
theorem aiO {t:Qu}:cJ false sz 4 (quC t) K=K (i64 t.uses):=rfl
theorem aiP {t:Pol}:cJ false sz 0 (poC t) K=K (.c (.lit (.string t.name))):=rfl
theorem aiQ {t:Pol}:cJ false sz 1 (poC t) K=K (.c (.sl (t.types.map tyC))):=rfl
theorem aiR {t:Pol}:cJ false sz 2 (poC t) K=K (.c (.sl (t.rules.map ruC))):=rfl
theorem aiS {t:Pol}:cJ false sz 3 (poC t) K=K (.c (.sl (t.quorums.map quC))):=rfl
end
theorem JW (x y:Ty):iC [.str,.int,.int] (tyC x) (tyC y)=some (decide (x=y)):=by
 cases x;cases y;simp[iC,eqC,tyC,cS,cI,Ty.mk.injEq,jM]
theorem JX (x y:Ru):iC [.int,.int,.int] (ruC x) (ruC y)=some (decide (x=y)):=by
 cases x;cases y;simp[iC,eqC,ruC,cI,Ru.mk.injEq,jM]
theorem JY (x y:Qu):iC [.int,.int,.int,.int,.int] (quC x) (quC y)=some (decide (x=y)):=by
 cases x;cases y;simp[iC,eqC,quC,cI,Qu.mk.injEq,jM]
section
variable {K:V→Prop}
theorem NK {x y:Ty}:jX Tryz.prog .eql 57 (.agg (tyC x)) (.agg (tyC y)) K=K (bo (decide (x=y))):=pI j9 rfl rfl (JW x y) rfl rfl
theorem NL {x y:Ty}:jX Tryz.prog .neq 57 (.agg (tyC x)) (.agg (tyC y)) K=K (bo (!decide (x=y))):=pJ j9 rfl rfl (JW x y) rfl rfl
theorem NM {x y:Ru}:jX Tryz.prog .eql 120 (.agg (ruC x)) (.agg (ruC y)) K=K (bo (decide (x=y))):=pI iR rfl rfl (JX x y) rfl rfl
theorem NN {x y:Ru}:jX Tryz.prog .neq 120 (.agg (ruC x)) (.agg (ruC y)) K=K (bo (!decide (x=y))):=pJ iR rfl rfl (JX x y) rfl rfl
theorem NP {x y:Qu}:jX Tryz.prog .eql 122 (.agg (quC x)) (.agg (quC y)) K=K (bo (decide (x=y))):=pI jy rfl rfl (JY x y) rfl rfl
theorem NQ {x y:Qu}:jX Tryz.prog .neq 122 (.agg (quC x)) (.agg (quC y)) K=K (bo (!decide (x=y))):=pJ jy rfl rfl (JY x y) rfl rfl
theorem NR {x y:Bool}:jX Tryz.prog .eql 4 (.c (.lit (.bool x))) (.c (.lit (.bool y))) K=K (bo (x==y)):=ED DX rfl
theorem NS {x y:Bool}:jX Tryz.prog .neq 4 (.c (.lit (.bool x))) (.c (.lit (.bool y))) K=K (bo (!(x==y))):=EE DX rfl
end
def pkP:=jj @nQ (jj @qu (jj @xX (jj @Hg (jj @aiE (jj @aiF (jj @aiG (jj @aiH (jj @aiI (jj @aiJ (jj @aiK (jj @aiL (jj @aiM (jj @aiN (jj @aiO (jj @aiP (jj @aiQ (jj @aiR (jj @aiS (jj @NK (jj @NL (jj @NM (jj @NN (jj @NP (jj @NQ (jj @NR @NS)))))))))))))))))))))))))
variable {G:Gl}
structure Wi where
 n:Int
 lo:Int
 hi:Int
def wiC (t:Wi):List C:=[cI t.n,cI t.lo,cI t.hi]
theorem aeN (t:Wi):(wiC t).length=3:=rfl
theorem ao1 {t:Wi} {K:V→Prop} {sz:Nat}:cJ false sz 0 (wiC t) K=K (i64 t.n):=rfl
theorem ao2 {t:Wi} {K:V→Prop} {sz:Nat}:cJ false sz 1 (wiC t) K=K (i64 t.lo):=rfl
theorem ao3 {t:Wi} {K:V→Prop} {sz:Nat}:cJ false sz 2 (wiC t) K=K (i64 t.hi):=rfl
def inC (n:Int):List C:=[cI n]
theorem aiT {t:Int} {K:V→Prop} {sz:Nat}:cJ false sz 0 (inC t) K=K (i64 t):=rfl
def lv:=jj @pkA @ptA
def sJ:=jj @pkA (jj @ptA @pkP)
theorem HE (es:List Ty) (hm:es.length≤9223372036854775807) (g:FuncId) (caps:List C) (p:Ty→Bool) (hp:∀ e∈es,FnOK Tryz.prog G g (.agg (tyC e)::caps.map .c) (bo (p e))) :
 FnOK Tryz.prog G 175 [.c (.sl (es.map tyC)),.c (.fn (.func g) [] caps)] (i64 (qn p es)):=by
 refine bR (rs:=[.tmp 4]) false [] mixed Tryz.func175 rfl rfl rfl rfl (by kernel_rfl) (by simp) rfl rfl ?_
 simp -implicitDefEqProofs only[lv,seval,ak]
 refine cx (fun i:Nat=>hdS [(0,.c (.sl (es.map tyC))),(1,.c (.fn (.func g) [] caps)),(7,i64 es.length),(8,i64 i)] []) (fun i=>es.length - i) (fun i=>i≤es.length∧∀ j (h:j<es.length),j<i→p es[j]=false) 0 ⟨au _,by simp⟩ ?_ ?_
 ·refine cL rfl (au _) (ar _) ?_ trivial
  simp[FL,ao]
 rintro i ⟨hi,fS⟩ R cE cC dV
 simp -implicitDefEqProofs only[pkA,seval]
 refine aS (fun bV=>?_) (fun jA=>?_)
 ·have bV:i<es.length:=by simpa using bV
  simp -implicitDefEqProofs only[pkA,seval]
  refine fE mD rfl j9 (by decide) (aJ i) (c:=tyC es[i]) (by simp[bV]) rfl ?_
  simp -implicitDefEqProofs only[sJ,seval]
  refine aN rfl (hp _ (bM bV)) (by simp[V.boxy]) ?_
  simp -implicitDefEqProofs only[pkA,seval]
  refine aS (fun hy=>?_) (fun hn=>?_)
  ·simp -implicitDefEqProofs only[pkA,seval]
   refine dV _ ?_
   simp -implicitDefEqProofs only[pkA,seval]
   rw[og bV hy fS]
  ·simp -implicitDefEqProofs only[pkA,seval]
   refine cE (i+1) _ ⟨bV,fun j h hj=>?_⟩ (by omega) (cL rfl (au _) (ar _) ?_ trivial)
   ·rcases bS j i with h1 | h1
    ·exact fS j h h1
    ·have:j=i:=by omega
     subst this;exact hn
   ·have hw:=wrap_i64 (i+1) (by omega)
    simp[FL,ao,hw]
 ·have:i=es.length:=by simp at jA;omega
  subst this
  simp -implicitDefEqProofs only[pkA]
  refine cC _ _ ?_
  simp -implicitDefEqProofs only[pkA,seval]
  rw[lz fS]
theorem Au (es:List Ty) (hm:es.length≤9223372036854775807) (g:FuncId) (caps:List C) (p:Ty→Bool) (hp:∀ e∈es,FnOK Tryz.prog G g (.agg (tyC e)::caps.map .c) (bo (p e))) :
 FnOK Tryz.prog G 128 [.c (.sl (es.map tyC)),.c (.fn (.func g) [] caps)] (bo (es.any p)):=by
 refine bR (rs:=[.tmp 4]) false [] mixed Tryz.func128 rfl rfl rfl rfl (by kernel_rfl) (by simp) rfl rfl ?_
 simp -implicitDefEqProofs only[pkA,seval]
 refine aN rfl (HE es hm g caps p hp) (by simp[V.boxy]) ?_
 simp -implicitDefEqProofs only[pkA,seval]
 rw[← jP]
theorem HF (es:List Qu) (hm:es.length≤9223372036854775807) (g:FuncId) (caps:List C) (p:Qu→Bool) (hp:∀ e∈es,FnOK Tryz.prog G g (.agg (quC e)::caps.map .c) (bo (p e))) :
 FnOK Tryz.prog G 180 [.c (.sl (es.map quC)),.c (.fn (.func g) [] caps)] (i64 (qn p es)):=by
 refine bR (rs:=[.tmp 4]) false [] mixed Tryz.func180 rfl rfl rfl rfl (by kernel_rfl) (by simp) rfl rfl ?_
 simp -implicitDefEqProofs only[lv,seval,ak]
 refine cx (fun i:Nat=>hdS [(0,.c (.sl (es.map quC))),(1,.c (.fn (.func g) [] caps)),(7,i64 es.length),(8,i64 i)] []) (fun i=>es.length - i) (fun i=>i≤es.length∧∀ j (h:j<es.length),j<i→p es[j]=false) 0 ⟨au _,by simp⟩ ?_ ?_
 ·refine cL rfl (au _) (ar _) ?_ trivial
  simp[FL,ao]
 rintro i ⟨hi,fS⟩ R cE cC dV
 simp -implicitDefEqProofs only[pkA,seval]
 refine aS (fun bV=>?_) (fun jA=>?_)
 ·have bV:i<es.length:=by simpa using bV
  simp -implicitDefEqProofs only[pkA,seval]
  refine fE ub rfl jy (by decide) (aJ i) (c:=quC es[i]) (by simp[bV]) rfl ?_
  simp -implicitDefEqProofs only[sJ,seval]
  refine aN rfl (hp _ (bM bV)) (by simp[V.boxy]) ?_
  simp -implicitDefEqProofs only[pkA,seval]
  refine aS (fun hy=>?_) (fun hn=>?_)
  ·simp -implicitDefEqProofs only[pkA,seval]
   refine dV _ ?_
   simp -implicitDefEqProofs only[pkA,seval]
   rw[og bV hy fS]
  ·simp -implicitDefEqProofs only[pkA,seval]
   refine cE (i+1) _ ⟨bV,fun j h hj=>?_⟩ (by omega) (cL rfl (au _) (ar _) ?_ trivial)
   ·rcases bS j i with h1 | h1
    ·exact fS j h h1
    ·have:j=i:=by omega
     subst this;exact hn
   ·have hw:=wrap_i64 (i+1) (by omega)
    simp[FL,ao,hw]
 ·have:i=es.length:=by simp at jA;omega
  subst this
  simp -implicitDefEqProofs only[pkA]
  refine cC _ _ ?_
  simp -implicitDefEqProofs only[pkA,seval]
  rw[lz fS]
theorem Av (es:List Qu) (hm:es.length≤9223372036854775807) (g:FuncId) (caps:List C) (p:Qu→Bool) (hp:∀ e∈es,FnOK Tryz.prog G g (.agg (quC e)::caps.map .c) (bo (p e))) :
 FnOK Tryz.prog G 133 [.c (.sl (es.map quC)),.c (.fn (.func g) [] caps)] (bo (es.any p)):=by
 refine bR (rs:=[.tmp 4]) false [] mixed Tryz.func133 rfl rfl rfl rfl (by kernel_rfl) (by simp) rfl rfl ?_
 simp -implicitDefEqProofs only[pkA,seval]
 refine aN rfl (HF es hm g caps p hp) (by simp[V.boxy]) ?_
 simp -implicitDefEqProofs only[pkA,seval]
 rw[← jP]
theorem HG (es:List Wi) (hm:es.length≤9223372036854775807) (g:FuncId) (caps:List C) (p:Wi→Bool) (hp:∀ e∈es,FnOK Tryz.prog G g (.agg (wiC e)::caps.map .c) (bo (p e))) :
 FnOK Tryz.prog G 188 [.c (.sl (es.map wiC)),.c (.fn (.func g) [] caps)] (i64 (qn p es)):=by
 refine bR (rs:=[.tmp 4]) false [] mixed Tryz.func188 rfl rfl rfl rfl (by kernel_rfl) (by simp) rfl rfl ?_
 simp -implicitDefEqProofs only[lv,seval,ak]
 refine cx (fun i:Nat=>hdS [(0,.c (.sl (es.map wiC))),(1,.c (.fn (.func g) [] caps)),(7,i64 es.length),(8,i64 i)] []) (fun i=>es.length - i) (fun i=>i≤es.length∧∀ j (h:j<es.length),j<i→p es[j]=false) 0 ⟨au _,by simp⟩ ?_ ?_
 ·refine cL rfl (au _) (ar _) ?_ trivial
  simp[FL,ao]
 rintro i ⟨hi,fS⟩ R cE cC dV
 simp -implicitDefEqProofs only[pkA,seval]
 refine aS (fun bV=>?_) (fun jA=>?_)
 ·have bV:i<es.length:=by simpa using bV
  simp -implicitDefEqProofs only[pkA,seval]
  refine fE Cb rfl oI (by decide) (aJ i) (c:=wiC es[i]) (by simp[bV]) rfl ?_
  simp -implicitDefEqProofs only[lv,seval,aeN]
  refine aN rfl (hp _ (bM bV)) (by simp[V.boxy]) ?_
  simp -implicitDefEqProofs only[pkA,seval]
  refine aS (fun hy=>?_) (fun hn=>?_)
  ·simp -implicitDefEqProofs only[pkA,seval]
   refine dV _ ?_
   simp -implicitDefEqProofs only[pkA,seval]
   rw[og bV hy fS]
  ·simp -implicitDefEqProofs only[pkA,seval]
   refine cE (i+1) _ ⟨bV,fun j h hj=>?_⟩ (by omega) (cL rfl (au _) (ar _) ?_ trivial)
   ·rcases bS j i with h1 | h1
    ·exact fS j h h1
    ·have:j=i:=by omega
     subst this;exact hn
   ·have hw:=wrap_i64 (i+1) (by omega)
    simp[FL,ao,hw]
 ·have:i=es.length:=by simp at jA;omega
  subst this
  simp -implicitDefEqProofs only[pkA]
  refine cC _ _ ?_
  simp -implicitDefEqProofs only[pkA,seval]
  rw[lz fS]
theorem Aw (es:List Wi) (hm:es.length≤9223372036854775807) (g:FuncId) (caps:List C) (p:Wi→Bool) (hp:∀ e∈es,FnOK Tryz.prog G g (.agg (wiC e)::caps.map .c) (bo (p e))) :
 FnOK Tryz.prog G 176 [.c (.sl (es.map wiC)),.c (.fn (.func g) [] caps)] (bo (es.any p)):=by
 refine bR (rs:=[.tmp 4]) false [] mixed Tryz.func176 rfl rfl rfl rfl (by kernel_rfl) (by simp) rfl rfl ?_
 simp -implicitDefEqProofs only[pkA,seval]
 refine aN rfl (HG es hm g caps p hp) (by simp[V.boxy]) ?_
 simp -implicitDefEqProofs only[pkA,seval]
 rw[← jP]
theorem Zv (es:List Ru) (hm:es.length≤9223372036854775807) (x:Ru) :
 FnOK Tryz.prog G 178 [.c (.sl (es.map ruC)),.agg (ruC x)] (i64 (qn (fun e=>decide (x=e)) es)):=by
 refine bR (rs:=[.tmp 4]) false [] mixed Tryz.func178 rfl rfl rfl rfl (by kernel_rfl) (by simp) rfl rfl ?_
 simp -implicitDefEqProofs only[lv,seval,ak]
 refine cx (fun i:Nat=>hdS [(0,.c (.sl (es.map ruC))),(3,.bp 0 0),(7,i64 es.length),(8,i64 i)] [(ruC x).map .c]) (fun i=>es.length - i) (fun i=>i≤es.length∧∀ j (h:j<es.length),j<i→(fun e=>decide (x=e)) es[j]=false) 0 ⟨au _,by simp⟩ ?_ ?_
 ·refine cL rfl (au _) (by simp) ?_ ?_
  ·simp[FL,ao]
  ·simp[BL]
 rintro i ⟨hi,fS⟩ R cE cC dV
 simp -implicitDefEqProofs only[pkA,seval]
 refine aS (fun bV=>?_) (fun jA=>?_)
 ·have bV:i<es.length:=by simpa using bV
  simp -implicitDefEqProofs only[sJ,seval]
  refine fE mY rfl iR (by decide) (aJ i) (c:=ruC es[i]) (by simp[bV]) rfl ?_
  simp -implicitDefEqProofs only[sJ,seval]
  refine aS (fun hy=>?_) (fun hn=>?_)
  ·simp -implicitDefEqProofs only[pkA,seval]
   refine dV _ ?_
   simp -implicitDefEqProofs only[pkA,seval]
   rw[og bV hy fS]
  ·simp -implicitDefEqProofs only[pkA,seval]
   refine cE (i+1) _ ⟨bV,fun j h hj=>?_⟩ (by omega) (cL rfl (au _) (by simp) ?_ ?_)
   ·rcases bS j i with h1 | h1
    ·exact fS j h h1
    ·have:j=i:=by omega
     subst this;exact hn
   ·have hw:=wrap_i64 (i+1) (by omega)
    simp[FL,ao,hw]
   ·simp[BL,bxs]
 ·have:i=es.length:=by simp at jA;omega
  subst this
  simp -implicitDefEqProofs only[pkA]
  refine cC _ _ ?_
  simp -implicitDefEqProofs only[pkA,seval]
  rw[lz fS]
theorem K5 (es:List Ru) (hm:es.length≤9223372036854775807) (x:Ru) :
 FnOK Tryz.prog G 131 [.c (.sl (es.map ruC)),.agg (ruC x)] (bo (es.any fun e=>decide (x=e))):=by
 refine bR (rs:=[.tmp 4]) false [] mixed Tryz.func131 rfl rfl rfl rfl (by kernel_rfl) (by simp) rfl rfl ?_
 simp -implicitDefEqProofs only[sJ,seval]
 refine aN rfl (Zv es hm x) (by simp[V.boxy]) ?_
 simp -implicitDefEqProofs only[pkA,seval]
 rw[← jP]
theorem Zw (es:List Int) (hm:es.length≤9223372036854775807) (x:Int) :
 FnOK Tryz.prog G 179 [.c (.sl (es.map inC)),i64 x] (i64 (qn (fun e=>decide (x=e)) es)):=by
 refine bR (rs:=[.tmp 4]) false [] mixed Tryz.func179 rfl rfl rfl rfl (by kernel_rfl) (by simp) rfl rfl ?_
 simp -implicitDefEqProofs only[lv,seval,ak]
 refine cx (fun i:Nat=>hdS [(0,.c (.sl (es.map inC))),(1,i64 x),(7,i64 es.length),(8,i64 i)] []) (fun i=>es.length - i) (fun i=>i≤es.length∧∀ j (h:j<es.length),j<i→(fun e=>decide (x=e)) es[j]=false) 0 ⟨au _,by simp⟩ ?_ ?_
 ·refine cL rfl (au _) (by simp) ?_ ?_
  ·simp[FL,ao]
  ·simp[BL]
 rintro i ⟨hi,fS⟩ R cE cC dV
 simp -implicitDefEqProofs only[pkA,seval]
 refine aS (fun bV=>?_) (fun jA=>?_)
 ·have bV:i<es.length:=by simpa using bV
  simp -implicitDefEqProofs only[pkA,seval]
  refine fE uc rfl pe (by decide) (aJ i) (c:=inC es[i]) (by simp[bV]) rfl ?_
  simp -implicitDefEqProofs only[lv,seval,aiT]
  refine aS (fun hy=>?_) (fun hn=>?_)
  ·simp -implicitDefEqProofs only[pkA,seval]
   refine dV _ ?_
   simp -implicitDefEqProofs only[pkA,seval]
   rw[og bV hy fS]
  ·simp -implicitDefEqProofs only[pkA,seval]
   refine cE (i+1) _ ⟨bV,fun j h hj=>?_⟩ (by omega) (cL rfl (au _) (by simp) ?_ ?_)
   ·rcases bS j i with h1 | h1
    ·exact fS j h h1
    ·have:j=i:=by omega
     subst this;exact hn
   ·have hw:=wrap_i64 (i+1) (by omega)
    simp[FL,ao,hw]
   ·simp[BL]
 ·have:i=es.length:=by simp at jA;omega
  subst this
  simp -implicitDefEqProofs only[pkA]
  refine cC _ _ ?_
  simp -implicitDefEqProofs only[pkA,seval]
  rw[lz fS]
theorem K6 (es:List Int) (hm:es.length≤9223372036854775807) (x:Int) :
 FnOK Tryz.prog G 132 [.c (.sl (es.map inC)),i64 x] (bo (es.any fun e=>decide (x=e))):=by
 refine bR (rs:=[.tmp 4]) false [] mixed Tryz.func132 rfl rfl rfl rfl (by kernel_rfl) (by simp) rfl rfl ?_
 simp -implicitDefEqProofs only[pkA,seval]
 refine aN rfl (Zw es hm x) (by simp[V.boxy]) ?_
 simp -implicitDefEqProofs only[pkA,seval]
 rw[← jP]
theorem aeO (t o:Ty):FnOK Tryz.prog G 129 [.agg (tyC o),.c (.rp (tyC t) 0)] (bo (decide (o.name=t.name))):=by
 refine bR (rs:=[.tmp 3]) false [] mixed Tryz.func129 rfl rfl rfl rfl (by kernel_rfl) (by simp) rfl rfl ?_
 simp -implicitDefEqProofs only[sJ,seval]
theorem aeP (t o:Qu):FnOK Tryz.prog G 134 [.agg (quC o),.c (.rp (quC t) 0)] (bo (decide (o.cmd=t.cmd))):=by
 refine bR (rs:=[.tmp 3]) false [] mixed Tryz.func134 rfl rfl rfl rfl (by kernel_rfl) (by simp) rfl rfl ?_
 simp -implicitDefEqProofs only[sJ,seval]
def wX (x:Wi):Bool:=decide (x.n<x.lo)||decide (x.hi<x.n)
theorem TR (x:Wi):FnOK Tryz.prog G 177 [.agg (wiC x)] (bo (wX x)):=by
 refine bR (rs:=[.tmp 2]) false [] mixed Tryz.func177 rfl rfl rfl rfl (by kernel_rfl) (by simp) rfl rfl ?_
 repeat' first
  |(simp -implicitDefEqProofs only[lv,seval,ao1,ao2,ao3])
  |refine fA (fun h=>?_) (fun h=>?_)
  |refine aS (fun h=>?_) (fun h=>?_)
 all_goals (unfold wX;first | (simp_all;done) | (simp_all;omega))
theorem CW (es:List Wi) (hm:es.length≤9223372036854775807):FnOK Tryz.prog G 130 [.c (.sl (es.map wiC))] (bo (es.any wX)):=by
 refine bR (rs:=[.tmp 2]) false [] mixed Tryz.func130 rfl rfl rfl rfl (by kernel_rfl) (by simp) rfl rfl ?_
 simp -implicitDefEqProofs only[pkA,seval]
 refine aN rfl (Aw es hm _ [] wX (fun e _=>TR e)) (by simp[V.boxy]) ?_
 simp -implicitDefEqProofs only[pkA,seval]
def nmC (k:Nat) (c:Int):Bool:=(decide (97≤c)&&decide (c≤122))||(decide (0<k)&&(decide (48≤c)&&decide (c≤57)))
def kA (s:ByteArray):Bool:=decide (∀ k (h:k<s.data.size),nmC k s.data[k].toNat=true)&&decide (1≤s.size)&&decide (s.size≤12)
theorem Ff {s:ByteArray} {k:Nat} (h:k<s.data.size) (hc:nmC k s.data[k].toNat=false):kA s=false:=by
 have:decide (∀ k (h:k<s.data.size),nmC k s.data[k].toNat=true)=false:=gd fun hh=>by rw[hh k h] at hc;cases hc
 unfold kA;rw[this];simp -implicitDefEqProofs only[Bool.false_and]
theorem Fg {s:ByteArray} (hk:∀ j (h:j<s.data.size),nmC j s.data[j].toNat=true):kA s=(decide (1≤s.size)&&decide (s.size≤12)):=by
 have:decide (∀ k (h:k<s.data.size),nmC k s.data[k].toNat=true)=true:=ey hk
 unfold kA;rw[this,j5]
theorem Zx (s:ByteArray) {k:Nat} (h:k<s.data.size):(kC s)[k]?=some [.lit (.int .u8 s.data[k].toNat)]:=by simp -implicitDefEqProofs only[kC,ba,aO,ax h,cD]
theorem Zy (s:ByteArray):(kC s).length=s.data.size:=by simp[kC]
theorem Pl {s:ByteArray} {K:V→Prop}:iW Tryz.prog 9 27 (.c (.lit (.string s))) K=K (.c (.sl (kC s))):=by
 simp -implicitDefEqProofs only[iW,Xf,kN,qP]
theorem ajH {s:ByteArray} {k:Nat} {K:V→Prop} (h:k<s.data.size):mb Tryz.prog 9 (.c (.lit (.string s))) (i64 k) K=K (.c (.lit (.int .u8 s.data[k].toNat))):=
 Nn Xf rfl (aJ k) (by simp[])
theorem P3 (s:ByteArray) (hs:s.size≤9223372036854775807):FnOK Tryz.prog G 85 [.c (.lit (.string s))] (bo (kA s)):=by
 have fC:s.size=s.data.size:=rfl
 refine bR (rs:=[.tmp 2]) false [] mixed Tryz.func85 rfl rfl rfl rfl (by kernel_rfl) (by simp) rfl rfl ?_
 simp -implicitDefEqProofs only[lv,seval,Pl,Zy]
 refine cx (fun i:Nat=>hdS [(0,.c (.lit (.string s))),(6,.c (.sl (kC s))),(7,i64 s.data.size),(8,i64 i)] []) (fun i=>s.data.size - i) (fun i=>i≤s.data.size∧∀ j (h:j<s.data.size),j<i→nmC j s.data[j].toNat=true) 0 ⟨au _,by simp⟩ ?_ ?_
 ·refine cL rfl (au _) (by simp) ?_ ?_
  ·simp[FL,ao]
  ·simp[BL]
 rintro i ⟨hi,fS⟩ R cE cC dV
 simp -implicitDefEqProofs only[pkA,seval]
 refine aS (fun bV=>?_) (fun jA=>?_)
 ·have bV:i<s.data.size:=by simpa using bV
  have hw:=wrap_i64 (i+1) (by omega)
  simp -implicitDefEqProofs only[pkA,seval]
  refine fE kN rfl qP (by decide) (aJ i) (c:=[.lit (.int .u8 s.data[i].toNat)]) (Zx s bV) rfl ?_
  generalize hc:(s.data[i].toNat:Int)=c
  have good:nmC i c=true→∀ s',S.Le (UJ []) (hdS [(0,.c (.lit (.string s))),(6,.c (.sl (kC s))),(7,i64 s.data.size),(8,i64 (i+1:Nat))] []) s'→R .normal s':=fun hg s' ke=>
   cE (i+1) s' ⟨bV,fun j h hj=>by
    rcases bS j i with h1 | h1
    ·exact fS j h h1
    ·have:j=i:=by omega
     subst this;rw[hc];exact hg⟩ (by omega) ke
  have bad:nmC i c=false→kA s=false:=fun hb=>Ff bV (by rw[hc];exact hb)
  clear fS cE
  repeat' first
   |(simp -implicitDefEqProofs only[lv,seval])
   |refine fA (fun h=>?_) (fun h=>?_)
   |refine aS (fun h=>?_) (fun h=>?_)
  all_goals first
   |(refine dV _ ?_
     simp -implicitDefEqProofs only[pkA,seval]
     rw[bad (by clear fC dV cC good bad;simp_all[nmC]<;>omega)])
   |(refine good (by clear fC dV cC bad good;simp_all[nmC]<;>omega) _ (cL rfl (au _) (by simp) ?_ trivial)
     simp[FL,ao,hw])
 ·have:i=s.data.size:=by simp at jA;omega
  subst this
  simp -implicitDefEqProofs only[pkA]
  refine cC _ _ ?_
  clear cC dV cE
  repeat' first
   |(simp -implicitDefEqProofs only[lv,seval])
   |refine fA (fun h=>?_) (fun h=>?_)
   |refine aS (fun h=>?_) (fun h=>?_)
  all_goals
   rw[Fg (fun j h=>fS j h h)]
   clear fS fC
   first | (simp_all;done) | (simp_all;omega) | (simp_all;rw[jL];simp;omega)
set_option maxRecDepth 100000 in
theorem CX (s:ByteArray) (hs:s.size≤9223372036854775807):FnOK Tryz.prog G 64 [.c (.lit (.string s))] (bo (kA s)):=by
 have fC:s.size=s.data.size:=rfl
 refine bR (rs:=[.tmp 2]) false [] mixed Tryz.func64 rfl rfl rfl rfl (by kernel_rfl) (by simp) rfl rfl ?_
 by_cases hl:1≤s.size∧s.size≤12
 ·have h1:decide ((s.size:Int)<1)=false:=by simp;omega
  have h2:decide ((12:Int)<(s.size:Int))=false:=by simp;omega
  simp -implicitDefEqProofs only[lv,seval,h1,h2]
  refine cx (fun i:Nat=>hdS [(0,.c (.lit (.string s))),(3,i64 i)] []) (fun i=>s.data.size - i) (fun i=>i≤s.data.size∧∀ j (h:j<s.data.size),j<i→nmC j s.data[j].toNat=true) 0 ⟨au _,by simp⟩ ?_ ?_
  ·refine cL rfl (au _) (by simp) ?_ ?_
   ·simp[FL,ao]
   ·simp[BL]
  rintro i ⟨hi,fS⟩ R cE cC dV
  simp -implicitDefEqProofs only[lv,seval]
  refine aS (fun bV=>?_) (fun jA=>?_)
  ·have bV:i<s.data.size:=by rw[fC] at bV;simpa using bV
   have hw:=wrap_i64 (i+1) (by omega)
   have hix:∀ K,mb Tryz.prog 9 (.c (.lit (.string s))) (i64 i) K=K (.c (.lit (.int .u8 s.data[i].toNat))):=fun K=>ajH bV
   generalize hc:(s.data[i].toNat:Int)=c at hix
   have good:nmC i c=true→∀ s',S.Le (UJ []) (hdS [(0,.c (.lit (.string s))),(3,i64 (i+1:Nat))] []) s'→R .normal s':=fun hg s' ke=>
    cE (i+1) s' ⟨bV,fun j h hj=>by
     rcases bS j i with h1 | h1
     ·exact fS j h h1
     ·have:j=i:=by omega
      subst this;rw[hc];exact hg⟩ (by omega) ke
   have bad:nmC i c=false→kA s=false:=fun hb=>Ff bV (by rw[hc];exact hb)
   clear fS cE h1 h2
   repeat' first
    |(simp -implicitDefEqProofs only[pkA,seval,hix])
    |refine fA (fun h=>?_) (fun h=>?_)
    |refine aS (fun h=>?_) (fun h=>?_)
   all_goals first
    |(refine dV _ ?_
      simp -implicitDefEqProofs only[pkA,seval]
      rw[bad (by clear fC dV cC good bad;simp_all[nmC]<;>omega)])
    |(refine good (by clear fC dV cC bad good;simp_all[nmC]<;>omega) _ (cL rfl (au _) (by simp) ?_ trivial)
      simp[FL,ao,hw])
  ·have:i=s.data.size:=by rw[fC] at jA;simp at jA;omega
   subst this
   simp -implicitDefEqProofs only[pkA]
   refine cC _ _ ?_
   simp -implicitDefEqProofs only[pkA,seval]
   rw[Fg (fun j h=>fS j h h)]
   simp[hl]
 ·have hb:kA s=false:=by
   unfold kA
   by_cases h1:1≤s.size
   ·have:¬ s.size≤12:=fun h=>hl ⟨h1,h⟩
    simp[this]
   ·simp[h1]
  repeat' first
   |(simp -implicitDefEqProofs only[lv,seval])
   |refine fA (fun h=>?_) (fun h=>?_)
   |refine aS (fun h=>?_) (fun h=>?_)
  all_goals first | (rw[hb];done) | (exfalso;clear fC hb;simp_all;omega) | (rw[hb])
def amE (p:Pol):Prop:=p.types.length≤9223372036854775807∧p.rules.length≤9223372036854775807∧p.quorums.length≤9223372036854775807
