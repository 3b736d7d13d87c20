/- Policies and facts, as values (layer 17). -/
import Derived.Test.YtloppcgcepgbnaaGreatDoorVlTypes
import Derived.Test.YtloppcgcepgbnaaGreatDoorVlRunB
import Derived.Test.YtloppcgcepgbnaaGreatDoorVlEnv
import Derived.Test.YtloppcgcepgbnaaGreatDoorVlFlb
import Derived.Eval
import Derived.Test.YtloppcgcepgbnaaGreatDoorSrt
import Derived.Test.YtloppcgcepgbnaaGreatDoorVlSrt
set_option maxHeartbeats 2000000
set_option linter.all false
namespace Go.Proofs.YtloppcgcepgbnaaGreatDoor
open Go Go.Vl
theorem mixed:Tryz.prog.follows .mixedOrders=true:=Tryz.checked.mixed
abbrev i64 (n:Int):V:=.c (.lit (.int .i64 n))
abbrev bo (b:Bool):V:=.c (.lit (.bool b))
structure Ty where
 name:ByteArray
 flags:Int
 life:Int
 deriving DecidableEq
structure Ru where
 kind:Int
 a:Int
 b:Int
 deriving DecidableEq
structure Qu where
 cmd:Int
 count:Int
 delay:Int
 valid:Int
 uses:Int
 deriving DecidableEq
structure Pol where
 name:ByteArray
 types:List Ty
 rules:List Ru
 quorums:List Qu
 deriving DecidableEq
def cS (b:ByteArray):C:=.lit (.string b)
def cI (n:Int):C:=.lit (.int .i64 n)
def tyC (t:Ty):List C:=[cS t.name,cI t.flags,cI t.life]
def ruC (r:Ru):List C:=[cI r.kind,cI r.a,cI r.b]
def quC (q:Qu):List C:=[cI q.cmd,cI q.count,cI q.delay,cI q.valid,cI q.uses]
def poC (p:Pol):List C:=[cS p.name,.sl (p.types.map tyC),.sl (p.rules.map ruC),.sl (p.quorums.map quC)]
theorem nQ (t:Ty):(tyC t).length=3:=rfl
theorem qu (t:Ru):(ruC t).length=3:=rfl
theorem xX (t:Qu):(quC t).length=5:=rfl
theorem Hg (t:Pol):(poC t).length=4:=rfl
section
variable {K:V→Prop} {sz:Nat}
theorem aiE {t:Ty}:cJ false sz 0 (tyC t) K=K (.c (.lit (.string t.name))):=rfl
theorem aiF {t:Ty}:cJ false sz 1 (tyC t) K=K (i64 t.flags):=rfl
theorem aiG {t:Ty}:cJ false sz 2 (tyC t) K=K (i64 t.life):=rfl
theorem aiH {t:Ru}:cJ false sz 0 (ruC t) K=K (i64 t.kind):=rfl
theorem aiI {t:Ru}:cJ false sz 1 (ruC t) K=K (i64 t.a):=rfl
theorem aiJ {t:Ru}:cJ false sz 2 (ruC t) K=K (i64 t.b):=rfl
theorem aiK {t:Qu}:cJ false sz 0 (quC t) K=K (i64 t.cmd):=rfl
theorem aiL {t:Qu}:cJ false sz 1 (quC t) K=K (i64 t.count):=rfl
theorem aiM {t:Qu}:cJ false sz 2 (quC t) K=K (i64 t.delay):=rfl
theorem aiN {t:Qu}:cJ false sz 3 (quC t) K=K (i64 t.valid):=rfl
theorem aiO {t:Qu}:cJ false sz 4 (quC t) K=K (i64 t.uses):=rfl
theorem aiP {t:Pol}:cJ false sz 0 (poC t) K=K (.c (.lit (.string t.name))):=rfl
theorem aiQ {t:Pol}:cJ false sz 1 (poC t) K=K (.c (.sl (t.types.map tyC))):=rfl
theorem aiR {t:Pol}:cJ false sz 2 (poC t) K=K (.c (.sl (t.rules.map ruC))):=rfl
theorem aiS {t:Pol}:cJ false sz 3 (poC t) K=K (.c (.sl (t.quorums.map quC))):=rfl
end
theorem JW (x y:Ty):iC [.str,.int,.int] (tyC x) (tyC y)=some (decide (x=y)):=by
 cases x;cases y;simp[iC,eqC,tyC,cS,cI,Ty.mk.injEq,jM]
theorem JX (x y:Ru):iC [.int,.int,.int] (ruC x) (ruC y)=some (decide (x=y)):=by
 cases x;cases y;simp[iC,eqC,ruC,cI,Ru.mk.injEq,jM]
theorem JY (x y:Qu):iC [.int,.int,.int,.int,.int] (quC x) (quC y)=some (decide (x=y)):=by
 cases x;cases y;simp[iC,eqC,quC,cI,Qu.mk.injEq,jM]
section
variable {K:V→Prop}
theorem NK {x y:Ty}:jX Tryz.prog .eql 57 (.agg (tyC x)) (.agg (tyC y)) K=K (bo (decide (x=y))):=pI j9 rfl rfl (JW x y) rfl rfl
theorem NL {x y:Ty}:jX Tryz.prog .neq 57 (.agg (tyC x)) (.agg (tyC y)) K=K (bo (!decide (x=y))):=pJ j9 rfl rfl (JW x y) rfl rfl
theorem NM {x y:Ru}:jX Tryz.prog .eql 120 (.agg (ruC x)) (.agg (ruC y)) K=K (bo (decide (x=y))):=pI iR rfl rfl (JX x y) rfl rfl
theorem NN {x y:Ru}:jX Tryz.prog .neq 120 (.agg (ruC x)) (.agg (ruC y)) K=K (bo (!decide (x=y))):=pJ iR rfl rfl (JX x y) rfl rfl
theorem NP {x y:Qu}:jX Tryz.prog .eql 122 (.agg (quC x)) (.agg (quC y)) K=K (bo (decide (x=y))):=pI jy rfl rfl (JY x y) rfl rfl
theorem NQ {x y:Qu}:jX Tryz.prog .neq 122 (.agg (quC x)) (.agg (quC y)) K=K (bo (!decide (x=y))):=pJ jy rfl rfl (JY x y) rfl rfl
theorem NR {x y:Bool}:jX Tryz.prog .eql 4 (.c (.lit (.bool x))) (.c (.lit (.bool y))) K=K (bo (x==y)):=ED DX rfl
theorem NS {x y:Bool}:jX Tryz.prog .neq 4 (.c (.lit (.bool x))) (.c (.lit (.bool y))) K=K (bo (!(x==y))):=EE DX rfl
end
def pkP:=jj @nQ (jj @qu (jj @xX (jj @Hg (jj @aiE (jj @aiF (jj @aiG (jj @aiH (jj @aiI (jj @aiJ (jj @aiK (jj @aiL (jj @aiM (jj @aiN (jj @aiO (jj @aiP (jj @aiQ (jj @aiR (jj @aiS (jj @NK (jj @NL (jj @NM (jj @NN (jj @NP (jj @NQ (jj @NR @NS)))))))))))))))))))))))))
structure Fa where
 kind:Int
 a:Int
 b:Int
 deriving DecidableEq
def faC (f:Fa):List C:=[cI f.kind,cI f.a,cI f.b]
theorem jQ (f:Fa):(faC f).length=3:=rfl
def fsC (l:List Fa):C:=.sl (l.map faC)
structure In where
 rule:Int
 pre:List Fa
 con:List Fa
 deriving DecidableEq
def inC (x:In):List C:=[cI x.rule,fsC x.pre,fsC x.con]
theorem adI (x:In):(inC x).length=3:=rfl
section
variable {K:V→Prop} {sz:Nat}
theorem aoz {t:Fa}:cJ false sz 0 (faC t) K=K (i64 t.kind):=rfl
theorem aoA {t:Fa}:cJ false sz 1 (faC t) K=K (i64 t.a):=rfl
theorem aoB {t:Fa}:cJ false sz 2 (faC t) K=K (i64 t.b):=rfl
theorem aiT {t:In}:cJ false sz 0 (inC t) K=K (i64 t.rule):=rfl
theorem aoC {t:In}:cJ false sz 1 (inC t) K=K (.c (fsC t.pre)):=rfl
theorem aoD {t:In}:cJ false sz 2 (inC t) K=K (.c (fsC t.con)):=rfl
theorem Cd (x y:Fa):iC [.int,.int,.int] (faC x) (faC y)=some (decide (x=y)):=by
 cases x;cases y;simp[iC,eqC,faC,cI,Fa.mk.injEq,jM]
theorem aiU {x y:Fa}:jX Tryz.prog .eql 54 (.agg (faC x)) (.agg (faC y)) K=K (bo (decide (x=y))):=pI eV rfl rfl (Cd x y) rfl rfl
theorem aiV {x y:Fa}:jX Tryz.prog .neq 54 (.agg (faC x)) (.agg (faC y)) K=K (bo (!decide (x=y))):=pJ eV rfl rfl (Cd x y) rfl rfl
end
def pkF:=jj @pkP (jj @jQ (jj @adI (jj @aoz (jj @aoA (jj @aoB (jj @aiT (jj @aoC (jj @aoD (jj @aiU @aiV)))))))))
variable {G:Gl}
def fZ (v t:Int):Fa:=⟨1,v,t⟩
def ue (v w:Int):Fa:=⟨2,v,w⟩
def qw (s:Int):Fa:=⟨3,s,0⟩
def Hh (s:Int):Fa:=⟨4,s,0⟩
set_option maxRecDepth 4000
def oO:=jj @pkA @ptA
theorem fi (v t:Int):FnOK Tryz.prog G 143 [i64 v,i64 t] (.agg (faC (fZ v t))):=by
 refine bR (rs:=[.cell 4 54]) false [] mixed Tryz.func143 rfl rfl rfl rfl (by kernel_rfl) (by simp) rfl rfl ?_
 simp only[oO,seval]
 exact⟨rfl,by decide,⟨rfl,rfl⟩,rfl⟩
theorem sq (v t:Int):FnOK Tryz.prog G 156 [i64 v,i64 t] (.agg (faC (ue v t))):=by
 refine bR (rs:=[.cell 4 54]) false [] mixed Tryz.func156 rfl rfl rfl rfl (by kernel_rfl) (by simp) rfl rfl ?_
 simp only[oO,seval]
 exact⟨rfl,by decide,⟨rfl,rfl⟩,rfl⟩
theorem qx (s:Int):FnOK Tryz.prog G 78 [i64 s] (.agg (faC (qw s))):=by
 refine bR (rs:=[.cell 2 54]) false [] mixed Tryz.func78 rfl rfl rfl rfl (by kernel_rfl) (by simp) rfl rfl ?_
 simp only[oO,seval]
 exact⟨rfl,by decide,⟨rfl,rfl⟩,rfl⟩
theorem Yd (s:Int):FnOK Tryz.prog G 79 [i64 s] (.agg (faC (Hh s))):=by
 refine bR (rs:=[.cell 2 54]) false [] mixed Tryz.func79 rfl rfl rfl rfl (by kernel_rfl) (by simp) rfl rfl ?_
 simp only[oO,seval]
 exact⟨rfl,by decide,⟨rfl,rfl⟩,rfl⟩
def DY (a b:Int):Bool:=decide (bits .andNot .i64 a b=0)
theorem Td (a b:Int):FnOK Tryz.prog G 115 [i64 a,i64 b] (bo (DY a b)):=by
 refine bR (rs:=[.tmp 4]) false [] mixed Tryz.func115 rfl rfl rfl rfl (by kernel_rfl) (by simp) rfl rfl ?_
 have hN:∀ K,mO .andNot .i64 a b K=K (i64 (bits .andNot .i64 a b)):=fun _=>rfl
 simp only[pkA,seval,hN]
 rfl
def Ce:=jj @pkA (jj @ptA @pkF)
theorem Tf (p:Pol) (t:Int):FnOK Tryz.prog G 114 [.agg (poC p),i64 t] (bo (decide (0≤t)&&decide (t<p.types.length))):=by
 refine bR (rs:=[.tmp 4]) false [] mixed Tryz.func114 rfl rfl rfl rfl (by kernel_rfl) (by simp) rfl rfl ?_
 repeat' first
  |(simp only[Ce,seval])
  |refine fA (fun h=>?_) (fun h=>?_)
 all_goals (simp_all<;>omega)
def uf (p:Pol) (t:Nat) (flags:Int):Bool:=match p.types[t]? with | some x=>DY flags x.flags | none=>false
theorem Ye (p:Pol) (t:Nat) (flags:Int) (hm:p.types.length≤9223372036854775807):FnOK Tryz.prog G 77 [.agg (poC p),i64 t,i64 flags] (bo (uf p t flags)):=by
 refine bR (rs:=[.tmp 6]) false [] mixed Tryz.func77 rfl rfl rfl rfl (by kernel_rfl) (by simp) rfl rfl ?_
 simp only[Ce,seval]
 refine aN rfl (Tf p t) (fun _=>rfl) ?_
 simp only[pkA,seval]
 refine fA (fun h=>?_) (fun h=>?_)
 ·have ht:t<p.types.length:=by simpa using h
  simp only[Ce,seval]
  refine fE mD rfl j9 (by decide) (aJ t) (c:=tyC p.types[t]) (by simp[ht]) rfl ?_
  simp only[Ce,seval]
  refine aN rfl (Td _ _) (fun _=>rfl) ?_
  simp only[pkA,seval]
  unfold uf
  rw[ab ht]
 ·have ht:¬ t<p.types.length:=by simpa using h
  simp only[pkA,seval]
  unfold uf
  rw[bq (by omega)]
theorem Ti (l:List Fa) (x:Fa) (hm:l.length≤9223372036854775807):FnOK Tryz.prog G 205 [.c (fsC l),.agg (faC x)] (i64 (qn (fun y=>decide (x=y)) l)):=by
 refine bR (rs:=[.tmp 4]) false [] mixed Tryz.func205 rfl rfl rfl rfl (by kernel_rfl) (by simp) rfl rfl ?_
 simp only[oO,seval,fsC]
 refine cx (fun i:Nat=>hdS [(0,.c (.sl (l.map faC))),(3,.bp 0 0),(7,i64 l.length),(8,i64 i)] [(faC x).map .c]) (fun i=>l.length - i) (fun i=>i≤l.length∧∀ j (h:j<l.length),j<i→decide (x=l[j])=false) 0 ⟨au _,fun j h h'=>absurd h' (gQ _)⟩ ?_ ?_
 ·refine cL rfl (au _) (ar _) ?_ (by simp[BL])
  simp[FL,ao]
 rintro i ⟨hi,fS⟩ R cE cC dV
 simp only[pkA,seval]
 refine aS (fun bV=>?_) (fun jA=>?_)
 ·have bV:i<l.length:=by simpa using bV
  simp only[Ce,seval]
  refine fE eO rfl eV (by decide) (aJ i) (c:=faC l[i]) (by simp[bV]) rfl ?_
  simp only[Ce,seval]
  refine aS (fun hy=>?_) (fun hn=>?_)
  ·simp only[pkA,seval]
   refine dV _ ?_
   simp only[pkA,seval]
   rw[og bV hy fS]
  ·have hw:=cd (n:=(i:Int)+1) (k:=i+1) (by omega) (by omega)
   simp only[pkA,seval]
   refine cE (i+1) _ ⟨bV,fun j h hj=>?_⟩ (by omega) (cL rfl (au _) (ar _) ?_ (by simp[BL,bxs]))
   ·rcases bS j i with h1 | h1
    ·exact fS j h h1
    ·have:j=i:=by omega
     subst this;exact hn
   ·simp[FL,ao,hw]
 ·have:i=l.length:=by simp at jA;omega
  subst this
  simp only[pkA]
  refine cC _ _ ?_
  simp only[pkA,seval]
  rw[lz (fun j h _=>fS j h h)]
theorem Hi (l:List Fa) (x:Fa) (hm:l.length≤9223372036854775807):FnOK Tryz.prog G 184 [.c (fsC l),.agg (faC x)] (bo (l.any fun y=>decide (x=y))):=by
 refine bR (rs:=[.tmp 4]) false [] mixed Tryz.func184 rfl rfl rfl rfl (by kernel_rfl) (by simp) rfl rfl ?_
 simp only[Ce,seval]
 refine aN rfl (Ti l x hm) (fun _=>rfl) ?_
 simp only[pkA,seval]
 rw[jP]
theorem Tj (l:List Int) (x:Int) (hm:l.length≤9223372036854775807):FnOK Tryz.prog G 179 [.c (.sl (l.map fun y=>[cI y])),i64 x] (i64 (qn (fun y=>decide (x=y)) l)):=by
 refine bR (rs:=[.tmp 4]) false [] mixed Tryz.func179 rfl rfl rfl rfl (by kernel_rfl) (by simp) rfl rfl ?_
 simp only[oO,seval]
 refine cx (fun i:Nat=>hdS [(0,.c (.sl (l.map fun y=>[cI y]))),(1,i64 x),(7,i64 l.length),(8,i64 i)] []) (fun i=>l.length - i) (fun i=>i≤l.length∧∀ j (h:j<l.length),j<i→decide (x=l[j])=false) 0 ⟨au _,fun j h h'=>absurd h' (gQ _)⟩ ?_ ?_
 ·refine cL rfl (au _) (ar _) ?_ trivial
  simp[FL,ao]
 rintro i ⟨hi,fS⟩ R cE cC dV
 simp only[pkA,seval]
 refine aS (fun bV=>?_) (fun jA=>?_)
 ·have bV:i<l.length:=by simpa using bV
  simp only[pkA,seval]
  refine fE uc rfl pe (by decide) (aJ i) (c:=[cI l[i]]) (by simp[bV]) rfl ?_
  have e0:∀ K,cJ false 1 0 [cI l[i]] K=K (i64 l[i]):=fun _=>rfl
  simp only[oO,seval,e0]
  refine aS (fun hy=>?_) (fun hn=>?_)
  ·simp only[pkA,seval]
   refine dV _ ?_
   simp only[pkA,seval]
   rw[og bV hy fS]
  ·have hw:=cd (n:=(i:Int)+1) (k:=i+1) (by omega) (by omega)
   simp only[pkA,seval]
   refine cE (i+1) _ ⟨bV,fun j h hj=>?_⟩ (by omega) (cL rfl (au _) (ar _) ?_ trivial)
   ·rcases bS j i with h1 | h1
    ·exact fS j h h1
    ·have:j=i:=by omega
     subst this;exact hn
   ·simp[FL,ao,hw]
 ·have:i=l.length:=by simp at jA;omega
  subst this
  simp only[pkA]
  refine cC _ _ ?_
  simp only[pkA,seval]
  rw[lz (fun j h _=>fS j h h)]
theorem Hj (l:List Int) (x:Int) (hm:l.length≤9223372036854775807):FnOK Tryz.prog G 132 [.c (.sl (l.map fun y=>[cI y])),i64 x] (bo (l.any fun y=>decide (x=y))):=by
 refine bR (rs:=[.tmp 4]) false [] mixed Tryz.func132 rfl rfl rfl rfl (by kernel_rfl) (by simp) rfl rfl ?_
 simp only[pkA,seval]
 refine aN rfl (Tj l x hm) (fun _=>rfl) ?_
 simp only[pkA,seval]
 rw[jP]
theorem ug (a:Int):FnOK Tryz.prog G 68 [i64 a] (bo false):=by
 refine bR (rs:=[.tmp 2]) false [] mixed Tryz.func68 rfl rfl rfl rfl (by kernel_rfl) (by simp) rfl rfl ?_
 repeat' first
  |(simp only[pkA,seval])
  |refine fA (fun h=>?_) (fun h=>?_)
  |refine aS (fun h=>?_) (fun h=>?_)
 all_goals simp_all
def qf (a b:Int):Int:=if a<b then -1 else if b<a then 1 else 0
theorem qy (a b:Int):FnOK Tryz.prog G 48 [i64 a,i64 b] (i64 (qf a b)):=by
 refine bR (rs:=[.tmp 4]) false [] mixed Tryz.func48 rfl rfl rfl rfl (by kernel_rfl) (by simp) rfl rfl ?_
 simp only[pkA,seval]
 refine aN rfl (ug a) (by simp[V.boxy]) ?_
 simp only[pkA,seval]
 refine aN rfl (ug b) (by simp[V.boxy]) ?_
 repeat' first
  |(simp only[pkA,seval])
  |refine fA (fun h=>?_) (fun h=>?_)
  |refine aS (fun h=>?_) (fun h=>?_)
 all_goals (simp_all[qf]<;>omega)
def orL:List Int→Int
 |[]=>0
 |x::l=>if x=0 then orL l else x
theorem alV (l:List Int) (hm:l.length≤9223372036854775807):FnOK Tryz.prog G 47 [.c (.sl (l.map fun y=>[cI y]))] (i64 (orL l)):=by
 refine bR (rs:=[.tmp 2]) false [] mixed Tryz.func47 rfl rfl rfl rfl (by kernel_rfl) (by simp) rfl rfl ?_
 simp only[oO,seval]
 refine cx (fun i:Nat=>hdS [(3,i64 0),(6,.c (.sl (l.map fun y=>[cI y]))),(7,i64 l.length),(8,i64 i)] []) (fun i=>l.length - i) (fun i=>i≤l.length∧orL l=orL (l.drop i)) 0 ⟨au _,rfl⟩ ?_ ?_
 ·refine cL rfl (au _) (ar _) ?_ trivial
  simp[FL,ao]
 rintro i ⟨hi,fS⟩ R cE cC dV
 simp only[pkA,seval]
 refine aS (fun bV=>?_) (fun jA=>?_)
 ·have bV:i<l.length:=by simpa using bV
  rw[dD bV] at fS
  simp only[pkA,seval]
  refine fE uc rfl pe (by decide) (aJ i) (c:=[cI l[i]]) (by simp[bV]) rfl ?_
  have e0:∀ K,cJ false 1 0 [cI l[i]] K=K (i64 l[i]):=fun _=>rfl
  simp only[oO,seval,e0]
  refine aS (fun hy=>?_) (fun hn=>?_)
  ·have hy:¬ l[i]=0:=by simpa using hy
   simp only[pkA,seval]
   refine dV _ ?_
   simp only[pkA,seval]
   rw[fS];simp only[orL];rw[if_neg hy]
  ·have hn:l[i]=0:=by simpa using hn
   have hw:=cd (n:=(i:Int)+1) (k:=i+1) (by omega) (by omega)
   simp only[pkA,seval]
   refine cE (i+1) _ ⟨bV,?_⟩ (by omega) (cL rfl (au _) (ar _) ?_ trivial)
   ·rw[fS];simp only[orL];rw[if_pos hn]
   ·simp[FL,ao,hw]
 ·have:i=l.length:=by simp at jA;omega
  subst this
  simp only[pkA]
  refine cC _ _ ?_
  simp only[pkA,seval]
  rw[fS];simp[orL]
def wJ (a b:Fa):Int:=orL [qf a.kind b.kind,qf a.a b.a,qf a.b b.b]
theorem sr (a b:Fa):FnOK Tryz.prog G 30 [.agg (faC a),.agg (faC b)] (i64 (wJ a b)):=by
 refine bR (rs:=[.tmp 4]) false [] mixed Tryz.func30 rfl rfl rfl rfl (by kernel_rfl) (by simp) rfl rfl ?_
 have g0:∀ (nb q:Nat) (f:Fa) K,ldB nb q ((faC f).map .c) 0 K=(q<nb∧K (i64 f.kind)):=fun _ _ _ _=>rfl
 have g1:∀ (nb q:Nat) (f:Fa) K,ldB nb q ((faC f).map .c) 1 K=(q<nb∧K (i64 f.a)):=fun _ _ _ _=>rfl
 have g2:∀ (nb q:Nat) (f:Fa) K,ldB nb q ((faC f).map .c) 2 K=(q<nb∧K (i64 f.b)):=fun _ _ _ _=>rfl
 have gm:∀ f:Fa,bY ((faC f).map V.c)=false:=fun _=>rfl
 simp only[oO,seval,g0,gm]
 refine aN rfl (qy _ _) (fun _=>rfl) ?_
 simp only[oO,seval,g1,gm]
 refine aN rfl (qy _ _) (fun _=>rfl) ?_
 simp only[oO,seval,g2,gm]
 refine aN rfl (qy _ _) (fun _=>rfl) ?_
 simp only[oO,seval]
 refine aN rfl (alV [qf a.kind b.kind,qf a.a b.a,qf a.b b.b] (by simp)) (fun _=>rfl) ?_
 simp only[pkA,seval,wJ]
def ltF (x y:Fa):Bool:=decide (x.kind<y.kind∨(x.kind=y.kind∧(x.a<y.a∨(x.a=y.a∧x.b<y.b))))
theorem mE (x y:Fa):ltOf wJ x y=ltF x y:=by
 have h:wJ x y<0↔(x.kind<y.kind∨(x.kind=y.kind∧(x.a<y.a∨(x.a=y.a∧x.b<y.b)))):=by
  unfold wJ
  simp only[orL,qf]
  repeat' split
  all_goals omega
 unfold ltOf ltF
 exact decide_eq_decide.2 h
theorem aiW {x y:Fa} (h1:x.kind=y.kind) (h2:x.a=y.a) (h3:x.b=y.b):x=y:=by cases x;cases y;simp_all
theorem ltF_swo:Go.Sort.SWO (ltOf wJ) where
 irrefl x:=by rw[mE];unfold ltF;simp
 trans x y z h1 h2:=by rw[mE] at *;unfold ltF at *;simp only[bF] at *;omega
 ntrans x y z h1 h2:=by rw[mE] at *;unfold ltF at *;simp only[dc] at *;omega
theorem xY {x y:Fa} (h1:ltF x y=false) (h2:ltF y x=false):x=y:=by
 unfold ltF at *
 simp only[dc] at *
 exact aiW (by omega) (by omega) (by omega)
def leF (x y:Fa):Bool:=!ltF y x
def qz (l:List Fa):List Fa:=l.mergeSort leF
theorem wK (l:List Fa):(qz l).Perm l:=List.mergeSort_perm l leF
theorem rC (l:List Fa):(qz l).length=l.length:=(wK l).length_eq
theorem xZ (l:List Fa):(qz l).Pairwise fun x y=>ltF y x=false:=by
 have:=List.pairwise_mergeSort (le:=leF) (fun x y z h1 h2=>by unfold leF ltF at *;simp only[dM,dc] at *;omega) (fun x y=>by
  unfold leF ltF;simp only[eT,dM,dc];omega) l
 exact this.imp fun h=>by unfold leF at h;simpa using h
theorem PD:∃ fn,Tryz.prog.funcs[59]?=some fn∧(fn.name== "runtime.NumGoroutine")=false∧∃ b,fn.body=some b:=⟨_,Tryz.func59,rfl,_,rfl⟩
def afN (G:Gl) (g:FuncId) (cs:List C):Prop:=(∀ args w,(callFunc g args).run Tryz.prog w=.ok (.enter g args) w)∧∀ x y:Fa,FnOK Tryz.prog G g ([.agg (faC x),.agg (faC y)]++cs.map .c) (i64 (wJ x y))
theorem JZ:afN G 30 []:=⟨enters_of Tryz.func30 (by kernel_rfl) rfl,fun x y=>sr x y⟩
theorem adJ {g:FuncId} {cs:List C} (h:afN gl0 g cs) (l:List Fa) (hl:l.length<4611686018427387904) (cap:Nat) (hc:l.length≤cap) :
 FnB Tryz.prog G 59 [.ms 0 0 l.length cap 3,.c (.fn (.func g) [] cs)] [flb faC l] (.tup []) [flb faC (qz l)]:=
 JJ (ρ:=Tryz.sortFa_ren) Tryz.sortFa PD Tryz.isAgg54 Tryz.sizeOf54 jQ (by decide) ⟨0,0,0⟩ [.int .i64 0,.int .i64 0,.int .i64 0] rfl (fun v hv=>by simp at hv;rcases hv with rfl | rfl | rfl<;>rfl)
  (fun I w j x hx=>by
   match j with
   |0 | 1 | 2=>simp only[faC,cI,bJ,ct,ai] at hx;subst hx;exact .lit _ rfl
   |j+3=>simp[faC] at hx)
  wJ ltF_swo g cs h.1 h.2 l (qz l) hl (wK l) ((xZ l).imp fun h=>by rw[mE];exact h) (fun x _ y _ h1 h2=>by rw[mE] at h1 h2;exact xY h1 h2) cap hc
theorem Yf {x:C}:FnOK Tryz.prog G 59 [.c (.sl []),.c x] (.tup []):=
 vO (ρ:=Tryz.sortFa_ren) Tryz.sortFa PD
theorem Tm (es:List (List C)) (gK:es≠[]) (hl:∀ e∈es,e.length=3) (hm:es.length<1000000000) :
 FnB Tryz.prog G 58 [.c (.sl es)] [] (.ms 0 0 es.length es.length 3) [es.flatten.map .c]:=by
 refine mc (rs:=[.tmp 2]) (k:=0) [2000007] mixed Tryz.func58 rfl rfl rfl rfl (by kernel_rfl) (by simp) rfl rfl rfl rfl (by simp) ?_
 have ra:es.isEmpty=false:=by simpa using gK
 simp only[oO,seval,O6 eO rfl gK]
 rw[Cc]
 refine⟨⟨.inl rfl,by simp⟩,⟨by simp only[aB,aK];omega,by simp only[aB,aK];omega,hl⟩,?_⟩
 simp only[pkA,seval,ra]
 refine pL [(2,.ms 0 0 es.length es.length 3)] rfl ?_ (by simp) (by simp) (by simp[FL]) (by simp[BL]) rfl
 simp only[jq,bh,bG,fR,aA,aB];rfl
theorem ET (es:List (List C)) (hl:∀ e∈es,e.length=3) (hm:es.length<1000000000) :
 FnOK Tryz.prog G 58 [.c (.sl es)] (.ow (if es.isEmpty then none else some (54,3)) es):=by
 refine bR (rs:=[.tmp 2]) false [7] mixed Tryz.func58 rfl rfl rfl rfl (by kernel_rfl) (by simp) rfl rfl ?_
 by_cases gK:es=[]
 ·subst gK
  simp only[oO,seval,WH eO rfl]
  rw[Cc]
  refine⟨⟨.inl rfl,by simp⟩,⟨by simp,by simp,by simp⟩,?_⟩
  simp only[pkA,seval]
 ·have ra:es.isEmpty=false:=by simpa using gK
  simp only[oO,seval,O6 eO rfl gK]
  rw[Cc]
  refine⟨⟨.inl rfl,by simp⟩,⟨by simp only[aB,aK];omega,by simp only[aB,aK];omega,hl⟩,?_⟩
  simp only[pkA,seval,ra]
