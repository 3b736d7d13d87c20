/- Policies and facts, as values (layer 17). -/
import Derived.Test.YtloppcgcepgbnaaGreatDoorVlTypes
import Derived.Test.YtloppcgcepgbnaaGreatDoorVlRunB
import Derived.Test.YtloppcgcepgbnaaGreatDoorVlEnv
import Derived.Test.YtloppcgcepgbnaaGreatDoorVlFlb
import Derived.Eval
import Derived.Test.YtloppcgcepgbnaaGreatDoorSrt
import Derived.Test.YtloppcgcepgbnaaGreatDoorVlSrt
set_option maxHeartbeats 2000000
set_option linter.all false
namespace Go.Proofs.YtloppcgcepgbnaaGreatDoor
open Go Go.Vl
theorem mixed:Tryz.prog.follows .mixedOrders=true:=Tryz.checked.mixed
abbrev i64 (n:Int):V:=.c (.lit (.int .i64 n))
abbrev bo (b:Bool):V:=.c (.lit (.bool b))
structure Ty where
 name:ByteArray
 flags:Int
 life:Int
 deriving DecidableEq
structure Ru where
 kind:Int
 a:Int
 b:Int
 deriving DecidableEq
structure Qu where
 cmd:Int
 count:Int
 delay:Int
 valid:Int
 uses:Int
 deriving DecidableEq
structure Pol where
 name:ByteArray
 types:List Ty
 rules:List Ru
 quorums:List Qu
 deriving DecidableEq
def cS (b:ByteArray):C:=.lit (.string b)
def cI (n:Int):C:=.lit (.int .i64 n)
def tyC (t:Ty):List C:=[cS t.name,cI t.flags,cI t.life]
def ruC (r:Ru):List C:=[cI r.kind,cI r.a,cI r.b]
def quC (q:Qu):List C:=[cI q.cmd,cI q.count,cI q.delay,cI q.valid,cI q.uses]
def poC (p:Pol):List C:=[cS p.name,.sl (p.types.map tyC),.sl (p.rules.map ruC),.sl (p.quorums.map quC)]
theorem Bf (t:Ty):(tyC t).length=3:=rfl
theorem yj (t:Ru):(ruC t).length=3:=rfl
theorem ym (t:Qu):(quC t).length=5:=rfl
theorem HW (t:Pol):(poC t).length=4:=rfl
section
variable {K:V->Prop} {sz:Nat}
theorem ajk {t:Ty}:cQ false sz 0 (tyC t) K=K (.c (.lit (.string t.name))):=rfl
theorem ajl {t:Ty}:cQ false sz 1 (tyC t) K=K (i64 t.flags):=rfl
theorem ajm {t:Ty}:cQ false sz 2 (tyC t) K=K (i64 t.life):=rfl
theorem ajn {t:Ru}:cQ false sz 0 (ruC t) K=K (i64 t.kind):=rfl
theorem ajo {t:Ru}:cQ false sz 1 (ruC t) K=K (i64 t.a):=rfl
theorem ajp {t:Ru}:cQ false sz 2 (ruC t) K=K (i64 t.b):=rfl
theorem ajq {t:Qu}:cQ false sz 0 (quC t) K=K (i64 t.cmd):=rfl
theorem ajr {t:Qu}:cQ false sz 1 (quC t) K=K (i64 t.count):=rfl
theorem ajs {t:Qu}:cQ false sz 2 (quC t) K=K (i64 t.delay):=rfl
theorem ajt {t:Qu}:cQ false sz 3 (quC t) K=K (i64 t.valid):=rfl
theorem aju {t:Qu}:cQ false sz 4 (quC t) K=K (i64 t.uses):=rfl
theorem ajv {t:Pol}:cQ false sz 0 (poC t) K=K (.c (.lit (.string t.name))):=rfl
theorem ajw {t:Pol}:cQ false sz 1 (poC t) K=K (.c (.sl (t.types.map tyC))):=rfl
theorem ajx {t:Pol}:cQ false sz 2 (poC t) K=K (.c (.sl (t.rules.map ruC))):=rfl
theorem ajy {t:Pol}:cQ false sz 3 (poC t) K=K (.c (.sl (t.quorums.map quC))):=rfl
end
theorem KH (x y:Ty):iG [.str,.int,.int] (tyC x) (tyC y)=some (decide (x=y)):=by cases x;cases y;simp[iG,eqC,tyC,cS,cI,Ty.mk.injEq,jP]
theorem KI (x y:Ru):iG [.int,.int,.int] (ruC x) (ruC y)=some (decide (x=y)):=by cases x;cases y;simp[iG,eqC,ruC,cI,Ru.mk.injEq,jP]
theorem KJ (x y:Qu):iG [.int,.int,.int,.int,.int] (quC x) (quC y)=some (decide (x=y)):=by cases x;cases y;simp[iG,eqC,quC,cI,Qu.mk.injEq,jP]
section
variable {K:V->Prop}
theorem Og {x y:Ty}:j3 Tryz.prog .eql 57 (.agg (tyC x)) (.agg (tyC y)) K=K (bo (decide (x=y))):=qa kC rfl rfl (KH x y) rfl rfl
theorem Oh {x y:Ty}:j3 Tryz.prog .neq 57 (.agg (tyC x)) (.agg (tyC y)) K=K (bo (!decide (x=y))):=qb kC rfl rfl (KH x y) rfl rfl
theorem Oi {x y:Ru}:j3 Tryz.prog .eql 120 (.agg (ruC x)) (.agg (ruC y)) K=K (bo (decide (x=y))):=qa fQ rfl rfl (KI x y) rfl rfl
theorem Oj {x y:Ru}:j3 Tryz.prog .neq 120 (.agg (ruC x)) (.agg (ruC y)) K=K (bo (!decide (x=y))):=qb fQ rfl rfl (KI x y) rfl rfl
theorem Ol {x y:Qu}:j3 Tryz.prog .eql 122 (.agg (quC x)) (.agg (quC y)) K=K (bo (decide (x=y))):=qa jA rfl rfl (KJ x y) rfl rfl
theorem Om {x y:Qu}:j3 Tryz.prog .neq 122 (.agg (quC x)) (.agg (quC y)) K=K (bo (!decide (x=y))):=qb jA rfl rfl (KJ x y) rfl rfl
theorem On {x y:Bool}:j3 Tryz.prog .eql 4 (.c (.lit (.bool x))) (.c (.lit (.bool y))) K=K (bo (x==y)):=E7 EA rfl
theorem Oo {x y:Bool}:j3 Tryz.prog .neq 4 (.c (.lit (.bool x))) (.c (.lit (.bool y))) K=K (bo (!(x==y))):=E8 EA rfl
end
def pkP:=jj @Bf (jj @yj (jj @ym (jj @HW (jj @ajk (jj @ajl (jj @ajm (jj @ajn (jj @ajo (jj @ajp (jj @ajq (jj @ajr (jj @ajs (jj @ajt (jj @aju (jj @ajv (jj @ajw (jj @ajx (jj @ajy (jj @Og (jj @Oh (jj @Oi (jj @Oj (jj @Ol (jj @Om (jj @On @Oo)))))))))))))))))))))))))
structure Fa where
 kind:Int
 a:Int
 b:Int
 deriving DecidableEq
def faC (f:Fa):List C:=[cI f.kind,cI f.a,cI f.b]
theorem kf (f:Fa):(faC f).length=3:=rfl
def fsC (l:List Fa):C:=.sl (l.map faC)
structure In where
 rule:Int
 pre:List Fa
 con:List Fa
 deriving DecidableEq
def inC (x:In):List C:=[cI x.rule,fsC x.pre,fsC x.con]
theorem Bg (x:In):(inC x).length=3:=rfl
section
variable {K:V->Prop} {sz:Nat}
theorem apn {t:Fa}:cQ false sz 0 (faC t) K=K (i64 t.kind):=rfl
theorem apo {t:Fa}:cQ false sz 1 (faC t) K=K (i64 t.a):=rfl
theorem apq {t:Fa}:cQ false sz 2 (faC t) K=K (i64 t.b):=rfl
theorem ajz {t:In}:cQ false sz 0 (inC t) K=K (i64 t.rule):=rfl
theorem apr {t:In}:cQ false sz 1 (inC t) K=K (.c (fsC t.pre)):=rfl
theorem aps {t:In}:cQ false sz 2 (inC t) K=K (.c (fsC t.con)):=rfl
theorem CY (x y:Fa):iG [.int,.int,.int] (faC x) (faC y)=some (decide (x=y)):=by cases x;cases y;simp[iG,eqC,faC,cI,Fa.mk.injEq,jP]
theorem ajA {x y:Fa}:j3 Tryz.prog .eql 54 (.agg (faC x)) (.agg (faC y)) K=K (bo (decide (x=y))):=qa eK rfl rfl (CY x y) rfl rfl
theorem ajB {x y:Fa}:j3 Tryz.prog .neq 54 (.agg (faC x)) (.agg (faC y)) K=K (bo (!decide (x=y))):=qb eK rfl rfl (CY x y) rfl rfl
end
def pkF:=jj @pkP (jj @kf (jj @Bg (jj @apn (jj @apo (jj @apq (jj @ajz (jj @apr (jj @aps (jj @ajA @ajB)))))))))
variable {G:Gl}
def bE (v t:Int):Fa:=⟨1,v,t⟩
def iI (v w:Int):Fa:=⟨2,v,w⟩
def iJ (s:Int):Fa:=⟨3,s,0⟩
def wT (s:Int):Fa:=⟨4,s,0⟩
set_option maxRecDepth 4000
def pg:=jj @pkA @ptA
theorem ft (v t:Int):FnOK Tryz.prog G 143 [i64 v,i64 t] (.agg (faC (bE v t))):=by refine bJ (rs:=[.cell 4 54]) false [] mixed Tryz.func143 rfl rfl rfl rfl (by kernel_rfl) (by simp) rfl rfl ?_;simp only[pg,seval];exact⟨rfl,by decide,⟨rfl,rfl⟩,rfl⟩
theorem sU (v t:Int):FnOK Tryz.prog G 156 [i64 v,i64 t] (.agg (faC (iI v t))):=by refine bJ (rs:=[.cell 4 54]) false [] mixed Tryz.func156 rfl rfl rfl rfl (by kernel_rfl) (by simp) rfl rfl ?_;simp only[pg,seval];exact⟨rfl,by decide,⟨rfl,rfl⟩,rfl⟩
theorem qS (s:Int):FnOK Tryz.prog G 78 [i64 s] (.agg (faC (iJ s))):=by refine bJ (rs:=[.cell 2 54]) false [] mixed Tryz.func78 rfl rfl rfl rfl (by kernel_rfl) (by simp) rfl rfl ?_;simp only[pg,seval];exact⟨rfl,by decide,⟨rfl,rfl⟩,rfl⟩
theorem Y3 (s:Int):FnOK Tryz.prog G 79 [i64 s] (.agg (faC (wT s))):=by refine bJ (rs:=[.cell 2 54]) false [] mixed Tryz.func79 rfl rfl rfl rfl (by kernel_rfl) (by simp) rfl rfl ?_;simp only[pg,seval];exact⟨rfl,by decide,⟨rfl,rfl⟩,rfl⟩
def KL (a b:Int):Bool:=decide (bits .andNot .i64 a b=0)
theorem Ub (a b:Int):FnOK Tryz.prog G 115 [i64 a,i64 b] (bo (KL a b)):=by refine bJ (rs:=[.tmp 4]) false [] mixed Tryz.func115 rfl rfl rfl rfl (by kernel_rfl) (by simp) rfl rfl ?_;have hN:∀ K,nF .andNot .i64 a b K=K (i64 (bits .andNot .i64 a b)):=λ_=>rfl;simp only[pkA,seval,hN];rfl
def CZ:=jj @pkA (jj @ptA @pkF)
theorem Uc (p:Pol) (t:Int):FnOK Tryz.prog G 114 [.agg (poC p),i64 t] (bo (decide (0<=t)&&decide (t<p.types.length))):=by
 refine bJ (rs:=[.tmp 4]) false [] mixed Tryz.func114 rfl rfl rfl rfl (by kernel_rfl) (by simp) rfl rfl ?_
 repeat' first
  |(simp only[CZ,seval])
  |refine fy (λh=>?_) (λh=>?_)
 all_goals (simp_all<;>omega)
def sV (p:Pol) (t:Nat) (flags:Int):Bool:=match p.types[t]? with | some x=>KL flags x.flags | none=>false
theorem Y4 (p:Pol) (t:Nat) (flags:Int) (hm:p.types.length<=9223372036854775807):FnOK Tryz.prog G 77 [.agg (poC p),i64 t,i64 flags] (bo (sV p t flags)):=by
 refine bJ (rs:=[.tmp 6]) false [] mixed Tryz.func77 rfl rfl rfl rfl (by kernel_rfl) (by simp) rfl rfl ?_;simp only[CZ,seval];refine aC rfl (Uc p t) (λ_=>rfl) ?_;simp only[pkA,seval];refine fy (λh=>?_) (λh=>?_)
 .have ht:t<p.types.length:=by simpa using h
  simp only[CZ,seval];refine dP pf rfl kC (by decide) (ay t) (c:=tyC p.types[t]) (by simp[ht]) rfl ?_;simp only[CZ,seval];refine aC rfl (Ub _ _) (λ_=>rfl) ?_;simp only[pkA,seval];unfold sV;rw[ah ht]
 .have ht:¬ t<p.types.length:=by simpa using h
  simp only[pkA,seval];unfold sV;rw[bG (by omega)]
theorem Ud (l:List Fa) (x:Fa) (hm:l.length<=9223372036854775807):FnOK Tryz.prog G 205 [.c (fsC l),.agg (faC x)] (i64 (qO (λy=>decide (x=y)) l)):=by
 refine bJ (rs:=[.tmp 4]) false [] mixed Tryz.func205 rfl rfl rfl rfl (by kernel_rfl) (by simp) rfl rfl ?_;simp only[pg,seval,fsC];refine bz (λi:Nat=>hdS [(0,.c (.sl (l.map faC))),(3,.bp 0 0),(7,i64 l.length),(8,i64 i)] [(faC x).map .c]) (λi=>l.length - i) (λi=>i<=l.length/\∀ j (h:j<l.length),j<i->decide (x=l[j])=false) 0 ⟨ar _,λj h h'=>absurd h' (gW _)⟩ ?_ ?_
 .refine cg rfl (ar _) (ab _) ?_ (by simp[BL])
  simp[FL,aj]
 rintro i ⟨hi,gw⟩ R bL bQ dq;simp only[pkA,seval];refine aD (λbF=>?_) (λfO=>?_)
 .have bF:i<l.length:=by simpa using bF
  simp only[CZ,seval];refine dP dY rfl eK (by decide) (ay i) (c:=faC l[i]) (by simp[bF]) rfl ?_;simp only[CZ,seval];refine aD (λhy=>?_) (λhn=>?_)
  .simp only[pkA,seval]
   refine dq _ ?_;simp only[pkA,seval];rw[oI bF hy gw]
  .have hw:=br (n:=(i:Int)+1) (k:=i+1) (by omega) (by omega)
   simp only[pkA,seval];refine bL (i+1) _ ⟨bF,λj h hj=>?_⟩ (by omega) (cg rfl (ar _) (ab _) ?_ (by simp[BL,bxs]))
   .rcases bZ j i with h1 | h1
    .exact gw j h h1
    .have:j=i:=by omega
     subst this;exact hn
   .simp[FL,aj,hw]
 .have:i=l.length:=by simp at fO;omega
  subst this;simp only[pkA];refine bQ _ _ ?_;simp only[pkA,seval];rw[lM (λj h _=>gw j h h)]
theorem HY (l:List Fa) (x:Fa) (hm:l.length<=9223372036854775807):FnOK Tryz.prog G 184 [.c (fsC l),.agg (faC x)] (bo (l.any λy=>decide (x=y))):=by refine bJ (rs:=[.tmp 4]) false [] mixed Tryz.func184 rfl rfl rfl rfl (by kernel_rfl) (by simp) rfl rfl ?_;simp only[CZ,seval];refine aC rfl (Ud l x hm) (λ_=>rfl) ?_;simp only[pkA,seval];rw[jT]
theorem Ue (l:List Int) (x:Int) (hm:l.length<=9223372036854775807):FnOK Tryz.prog G 179 [.c (.sl (l.map λy=>[cI y])),i64 x] (i64 (qO (λy=>decide (x=y)) l)):=by
 refine bJ (rs:=[.tmp 4]) false [] mixed Tryz.func179 rfl rfl rfl rfl (by kernel_rfl) (by simp) rfl rfl ?_;simp only[pg,seval];refine bz (λi:Nat=>hdS [(0,.c (.sl (l.map λy=>[cI y]))),(1,i64 x),(7,i64 l.length),(8,i64 i)] []) (λi=>l.length - i) (λi=>i<=l.length/\∀ j (h:j<l.length),j<i->decide (x=l[j])=false) 0 ⟨ar _,λj h h'=>absurd h' (gW _)⟩ ?_ ?_
 .refine cg rfl (ar _) (ab _) ?_ trivial
  simp[FL,aj]
 rintro i ⟨hi,gw⟩ R bL bQ dq;simp only[pkA,seval];refine aD (λbF=>?_) (λfO=>?_)
 .have bF:i<l.length:=by simpa using bF
  simp only[pkA,seval];refine dP oJ rfl nH (by decide) (ay i) (c:=[cI l[i]]) (by simp[bF]) rfl ?_;have e0:∀ K,cQ false 1 0 [cI l[i]] K=K (i64 l[i]):=λ_=>rfl;simp only[pg,seval,e0];refine aD (λhy=>?_) (λhn=>?_)
  .simp only[pkA,seval]
   refine dq _ ?_;simp only[pkA,seval];rw[oI bF hy gw]
  .have hw:=br (n:=(i:Int)+1) (k:=i+1) (by omega) (by omega)
   simp only[pkA,seval];refine bL (i+1) _ ⟨bF,λj h hj=>?_⟩ (by omega) (cg rfl (ar _) (ab _) ?_ trivial)
   .rcases bZ j i with h1 | h1
    .exact gw j h h1
    .have:j=i:=by omega
     subst this;exact hn
   .simp[FL,aj,hw]
 .have:i=l.length:=by simp at fO;omega
  subst this;simp only[pkA];refine bQ _ _ ?_;simp only[pkA,seval];rw[lM (λj h _=>gw j h h)]
theorem HZ (l:List Int) (x:Int) (hm:l.length<=9223372036854775807):FnOK Tryz.prog G 132 [.c (.sl (l.map λy=>[cI y])),i64 x] (bo (l.any λy=>decide (x=y))):=by refine bJ (rs:=[.tmp 4]) false [] mixed Tryz.func132 rfl rfl rfl rfl (by kernel_rfl) (by simp) rfl rfl ?_;simp only[pkA,seval];refine aC rfl (Ue l x hm) (λ_=>rfl) ?_;simp only[pkA,seval];rw[jT]
theorem uC (a:Int):FnOK Tryz.prog G 68 [i64 a] (bo false):=by
 refine bJ (rs:=[.tmp 2]) false [] mixed Tryz.func68 rfl rfl rfl rfl (by kernel_rfl) (by simp) rfl rfl ?_
 repeat' first
  |(simp only[pkA,seval])
  |refine fy (λh=>?_) (λh=>?_)
  |refine aD (λh=>?_) (λh=>?_)
 all_goals simp_all
def qF (a b:Int):Int:=if a<b then -1 else if b<a then 1 else 0
theorem qT (a b:Int):FnOK Tryz.prog G 48 [i64 a,i64 b] (i64 (qF a b)):=by
 refine bJ (rs:=[.tmp 4]) false [] mixed Tryz.func48 rfl rfl rfl rfl (by kernel_rfl) (by simp) rfl rfl ?_;simp only[pkA,seval];refine aC rfl (uC a) (by simp[V.boxy]) ?_;simp only[pkA,seval];refine aC rfl (uC b) (by simp[V.boxy]) ?_
 repeat' first
  |(simp only[pkA,seval])
  |refine fy (λh=>?_) (λh=>?_)
  |refine aD (λh=>?_) (λh=>?_)
 all_goals (simp_all[qF]<;>omega)
def orL:List Int->Int
 |[]=>0
 |x::l=>if x=0 then orL l else x
theorem amO (l:List Int) (hm:l.length<=9223372036854775807):FnOK Tryz.prog G 47 [.c (.sl (l.map λy=>[cI y]))] (i64 (orL l)):=by
 refine bJ (rs:=[.tmp 2]) false [] mixed Tryz.func47 rfl rfl rfl rfl (by kernel_rfl) (by simp) rfl rfl ?_;simp only[pg,seval];refine bz (λi:Nat=>hdS [(3,i64 0),(6,.c (.sl (l.map λy=>[cI y]))),(7,i64 l.length),(8,i64 i)] []) (λi=>l.length - i) (λi=>i<=l.length/\orL l=orL (l.drop i)) 0 ⟨ar _,rfl⟩ ?_ ?_
 .refine cg rfl (ar _) (ab _) ?_ trivial
  simp[FL,aj]
 rintro i ⟨hi,gw⟩ R bL bQ dq;simp only[pkA,seval];refine aD (λbF=>?_) (λfO=>?_)
 .have bF:i<l.length:=by simpa using bF
  rw[dn bF] at gw;simp only[pkA,seval];refine dP oJ rfl nH (by decide) (ay i) (c:=[cI l[i]]) (by simp[bF]) rfl ?_;have e0:∀ K,cQ false 1 0 [cI l[i]] K=K (i64 l[i]):=λ_=>rfl;simp only[pg,seval,e0];refine aD (λhy=>?_) (λhn=>?_)
  .have hy:¬ l[i]=0:=by simpa using hy
   simp only[pkA,seval];refine dq _ ?_;simp only[pkA,seval];rw[gw];simp only[orL];rw[if_neg hy]
  .have hn:l[i]=0:=by simpa using hn
   have hw:=br (n:=(i:Int)+1) (k:=i+1) (by omega) (by omega);simp only[pkA,seval];refine bL (i+1) _ ⟨bF,?_⟩ (by omega) (cg rfl (ar _) (ab _) ?_ trivial)
   .rw[gw];simp only[orL];rw[if_pos hn]
   .simp[FL,aj,hw]
 .have:i=l.length:=by simp at fO;omega
  subst this;simp only[pkA];refine bQ _ _ ?_;simp only[pkA,seval];rw[gw];simp[orL]
def wU (a b:Fa):Int:=orL [qF a.kind b.kind,qF a.a b.a,qF a.b b.b]
theorem sW (a b:Fa):FnOK Tryz.prog G 30 [.agg (faC a),.agg (faC b)] (i64 (wU a b)):=by refine bJ (rs:=[.tmp 4]) false [] mixed Tryz.func30 rfl rfl rfl rfl (by kernel_rfl) (by simp) rfl rfl ?_;have g0:∀ (nb q:Nat) (f:Fa) K,ldB nb q ((faC f).map .c) 0 K=(q<nb/\K (i64 f.kind)):=λ_ _ _ _=>rfl;have g1:∀ (nb q:Nat) (f:Fa) K,ldB nb q ((faC f).map .c) 1 K=(q<nb/\K (i64 f.a)):=λ_ _ _ _=>rfl;have g2:∀ (nb q:Nat) (f:Fa) K,ldB nb q ((faC f).map .c) 2 K=(q<nb/\K (i64 f.b)):=λ_ _ _ _=>rfl;have gm:∀ f:Fa,ck ((faC f).map V.c)=false:=λ_=>rfl;simp only[pg,seval,g0,gm];refine aC rfl (qT _ _) (λ_=>rfl) ?_;simp only[pg,seval,g1,gm];refine aC rfl (qT _ _) (λ_=>rfl) ?_;simp only[pg,seval,g2,gm];refine aC rfl (qT _ _) (λ_=>rfl) ?_;simp only[pg,seval];refine aC rfl (amO [qF a.kind b.kind,qF a.a b.a,qF a.b b.b] (by simp)) (λ_=>rfl) ?_;simp only[pkA,seval,wU]
def ltF (x y:Fa):Bool:=decide (x.kind<y.kind∨(x.kind=y.kind/\(x.a<y.a∨(x.a=y.a/\x.b<y.b))))
theorem mU (x y:Fa):ltOf wU x y=ltF x y:=by
 have h:wU x y<0↔(x.kind<y.kind∨(x.kind=y.kind/\(x.a<y.a∨(x.a=y.a/\x.b<y.b)))):=by
  unfold wU;simp only[orL,qF]
  repeat' split
  all_goals omega
 unfold ltOf ltF;exact jt.2 h
theorem ajC {x y:Fa} (h1:x.kind=y.kind) (h2:x.a=y.a) (h3:x.b=y.b):x=y:=by cases x;cases y;simp_all
theorem ltF_swo:Go.Sort.SWO (ltOf wU) where
 irrefl x:=by rw[mU];unfold ltF;simp
 trans x y z h1 h2:=by rw[mU] at *;unfold ltF at *;simp only[bI] at *;omega
 ntrans x y z h1 h2:=by rw[mU] at *;unfold ltF at *;simp only[dI] at *;omega
theorem yo {x y:Fa} (h1:ltF x y=false) (h2:ltF y x=false):x=y:=by unfold ltF at *;simp only[dI] at *;exact ajC (by omega) (by omega) (by omega)
def leF (x y:Fa):Bool:=!ltF y x
def qU (l:List Fa):List Fa:=l.mergeSort leF
theorem wV (l:List Fa):(qU l).Perm l:=List.mergeSort_perm l leF
theorem rZ (l:List Fa):(qU l).length=l.length:=(wV l).length_eq
theorem yp (l:List Fa):(qU l).Pairwise λx y=>ltF y x=false:=by have:=List.pairwise_mergeSort (le:=leF) (λx y z h1 h2=>by unfold leF ltF at *;simp only[ew,dI] at *;omega) (λx y=>by unfold leF ltF;simp only[fm,ew,dI];omega) l;exact this.imp λh=>by unfold leF at h;simpa using h
theorem Qj:∃ fn,Tryz.prog.funcs[59]?=some fn/\(fn.name== "runtime.NumGoroutine")=false/\∃ b,fn.body=some b:=⟨_,Tryz.func59,rfl,_,rfl⟩
def agm (G:Gl) (g:FuncId) (cs:List C):Prop:=(∀ args w,(callFunc g args).run Tryz.prog w=.ok (.enter g args) w)/\∀ x y:Fa,FnOK Tryz.prog G g ([.agg (faC x),.agg (faC y)]++cs.map .c) (i64 (wU x y))
theorem KN:agm G 30 []:=⟨enters_of Tryz.func30 (by kernel_rfl) rfl,λx y=>sW x y⟩
theorem aeu {g:FuncId} {cs:List C} (h:agm gl0 g cs) (l:List Fa) (hl:l.length<4611686018427387904) (cap:Nat) (hc:l.length<=cap) :
 FnB Tryz.prog G 59 [.ms 0 0 l.length cap 3,.c (.fn (.func g) [] cs)] [flb faC l] (.tup []) [flb faC (qU l)]:=
 Kv (ρ:=Tryz.sortFa_ren) Tryz.sortFa Qj Tryz.isAgg54 Tryz.sizeOf54 kf (by decide) ⟨0,0,0⟩ [.int .i64 0,.int .i64 0,.int .i64 0] rfl (λv hv=>by simp at hv;rcases hv with rfl | rfl | rfl<;>rfl)
  (λI w j x hx=>by
   match j with
   |0 | 1 | 2=>simp only[faC,cI,bP,cF,ao] at hx;subst hx;exact .lit _ rfl
   |j+3=>simp[faC] at hx)
  wU ltF_swo g cs h.1 h.2 l (qU l) hl (wV l) ((yp l).imp λh=>by rw[mU];exact h) (λx _ y _ h1 h2=>by rw[mU] at h1 h2;exact yo h1 h2) cap hc
theorem Y5 {x:C}:FnOK Tryz.prog G 59 [.c (.sl []),.c x] (.tup []):=
 vX (ρ:=Tryz.sortFa_ren) Tryz.sortFa Qj
theorem Uf (es:List (List C)) (gZ:es≠[]) (hl:∀ e∈es,e.length=3) (hm:es.length<1000000000) :
 FnB Tryz.prog G 58 [.c (.sl es)] [] (.ms 0 0 es.length es.length 3) [es.flatten.map .c]:=by
 refine jL (rs:=[.tmp 2]) (k:=0) [2000007] mixed Tryz.func58 rfl rfl rfl rfl (by kernel_rfl) (by simp) rfl rfl rfl rfl (by simp) ?_;have mj:es.isEmpty=false:=by simpa using gZ
 simp only[pg,seval,P4 dY rfl gZ];rw[zj];refine⟨⟨.inl rfl,by simp⟩,⟨by simp only[aF,aJ];omega,by simp only[aF,aJ];omega,hl⟩,?_⟩;simp only[pkA,seval,mj];refine nO [(2,.ms 0 0 es.length es.length 3)] rfl ?_ (by simp) (by simp) (by simp[FL]) (by simp[BL]) rfl;simp only[gz,aY,bn,gQ,aB,aF];rfl
theorem FC (es:List (List C)) (hl:∀ e∈es,e.length=3) (hm:es.length<1000000000) :
 FnOK Tryz.prog G 58 [.c (.sl es)] (.ow (if es.isEmpty then none else some (54,3)) es):=by
 refine bJ (rs:=[.tmp 2]) false [7] mixed Tryz.func58 rfl rfl rfl rfl (by kernel_rfl) (by simp) rfl rfl ?_;by_cases gZ:es=[]
 .subst gZ
  simp only[pg,seval,Xt dY rfl];rw[zj];refine⟨⟨.inl rfl,by simp⟩,⟨by simp,by simp,by simp⟩,?_⟩;simp only[pkA,seval]
 .have mj:es.isEmpty=false:=by simpa using gZ
  simp only[pg,seval,P4 dY rfl gZ];rw[zj];refine⟨⟨.inl rfl,by simp⟩,⟨by simp only[aF,aJ];omega,by simp only[aF,aJ];omega,hl⟩,?_⟩;simp only[pkA,seval,mj]
