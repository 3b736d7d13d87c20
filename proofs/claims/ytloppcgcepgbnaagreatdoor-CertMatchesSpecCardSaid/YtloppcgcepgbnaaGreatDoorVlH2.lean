/- Policies and facts, as values (layer 17). -/
import Derived.Test.YtloppcgcepgbnaaGreatDoorVlTypes
import Derived.Test.YtloppcgcepgbnaaGreatDoorVlRunB
import Derived.Test.YtloppcgcepgbnaaGreatDoorVlEnv
import Derived.Test.YtloppcgcepgbnaaGreatDoorVlFlb
import Derived.Eval
import Derived.Test.YtloppcgcepgbnaaGreatDoorSrt
import Derived.Test.YtloppcgcepgbnaaGreatDoorVlSrt
set_option maxHeartbeats 2000000
set_option linter.all false
namespace Go.Proofs.YtloppcgcepgbnaaGreatDoor
open Go Go.Vl
theorem mixed:Tryz.prog.follows .mixedOrders=true:=Tryz.checked.mixed
abbrev i64 (n:Int):V:=.c (.lit (.int .i64 n))
abbrev bo (b:Bool):V:=.c (.lit (.bool b))
structure Ty where
 name:ByteArray
 flags:Int
 life:Int
 deriving DecidableEq
structure Ru where
 kind:Int
 a:Int
 b:Int
 deriving DecidableEq
structure Qu where
 cmd:Int
 count:Int
 delay:Int
 valid:Int
 uses:Int
 deriving DecidableEq
structure Pol where
 name:ByteArray
 types:List Ty
 rules:List Ru
 quorums:List Qu
 deriving DecidableEq
def cS (b:ByteArray):C:=.lit (.string b)
def cI (n:Int):C:=.lit (.int .i64 n)
def tyC (t:Ty):List C:=[cS t.name,cI t.flags,cI t.life]
def ruC (r:Ru):List C:=[cI r.kind,cI r.a,cI r.b]
def quC (q:Qu):List C:=[cI q.cmd,cI q.count,cI q.delay,cI q.valid,cI q.uses]
def poC (p:Pol):List C:=[cS p.name,.sl (p.types.map tyC),.sl (p.rules.map ruC),.sl (p.quorums.map quC)]
theorem HL (t:Ty):(tyC t).length=3:=rfl
theorem x9 (t:Ru):(ruC t).length=3:=rfl
theorem Bd (t:Qu):(quC t).length=5:=rfl
theorem HM (t:Pol):(poC t).length=4:=rfl
section
variable {K:V->Prop} {sz:Nat}
theorem ajU {t:Ty}:dI false sz 0 (tyC t) K=K (.c (.lit (.string t.name))):=rfl
theorem agX {t:Ty}:dI false sz 1 (tyC t) K=K (i64 t.flags):=rfl
theorem ajV {t:Ty}:dI false sz 2 (tyC t) K=K (i64 t.life):=rfl
theorem agY {t:Ru}:dI false sz 0 (ruC t) K=K (i64 t.kind):=rfl
theorem agZ {t:Ru}:dI false sz 1 (ruC t) K=K (i64 t.a):=rfl
theorem ag0 {t:Ru}:dI false sz 2 (ruC t) K=K (i64 t.b):=rfl
theorem ajW {t:Qu}:dI false sz 0 (quC t) K=K (i64 t.cmd):=rfl
theorem ajX {t:Qu}:dI false sz 1 (quC t) K=K (i64 t.count):=rfl
theorem ajY {t:Qu}:dI false sz 2 (quC t) K=K (i64 t.delay):=rfl
theorem ajZ {t:Qu}:dI false sz 3 (quC t) K=K (i64 t.valid):=rfl
theorem aj0 {t:Qu}:dI false sz 4 (quC t) K=K (i64 t.uses):=rfl
theorem aj1 {t:Pol}:dI false sz 0 (poC t) K=K (.c (.lit (.string t.name))):=rfl
theorem ag1 {t:Pol}:dI false sz 1 (poC t) K=K (.c (.sl (t.types.map tyC))):=rfl
theorem ag2 {t:Pol}:dI false sz 2 (poC t) K=K (.c (.sl (t.rules.map ruC))):=rfl
theorem ag3 {t:Pol}:dI false sz 3 (poC t) K=K (.c (.sl (t.quorums.map quC))):=rfl
end
theorem Ko (x y:Ty):iG [.str,.int,.int] (tyC x) (tyC y)=some (decide (x=y)):=by cases x;cases y;simp[iG,eqC,tyC,cS,cI,Ty.mk.injEq,jQ]
theorem Kq (x y:Ru):iG [.int,.int,.int] (ruC x) (ruC y)=some (decide (x=y)):=by cases x;cases y;simp[iG,eqC,ruC,cI,Ru.mk.injEq,jQ]
theorem Kr (x y:Qu):iG [.int,.int,.int,.int,.int] (quC x) (quC y)=some (decide (x=y)):=by cases x;cases y;simp[iG,eqC,quC,cI,Qu.mk.injEq,jQ]
section
variable {K:V->Prop}
theorem XG {x y:Ty}:j5 Tryz.prog .eql 57 (.agg (tyC x)) (.agg (tyC y)) K=K (bo (decide (x=y))):=pS lE rfl rfl (Ko x y) rfl rfl
theorem XH {x y:Ty}:j5 Tryz.prog .neq 57 (.agg (tyC x)) (.agg (tyC y)) K=K (bo (!decide (x=y))):=pT lE rfl rfl (Ko x y) rfl rfl
theorem XI {x y:Ru}:j5 Tryz.prog .eql 120 (.agg (ruC x)) (.agg (ruC y)) K=K (bo (decide (x=y))):=pS fU rfl rfl (Kq x y) rfl rfl
theorem XJ {x y:Ru}:j5 Tryz.prog .neq 120 (.agg (ruC x)) (.agg (ruC y)) K=K (bo (!decide (x=y))):=pT fU rfl rfl (Kq x y) rfl rfl
theorem XK {x y:Qu}:j5 Tryz.prog .eql 122 (.agg (quC x)) (.agg (quC y)) K=K (bo (decide (x=y))):=pS ll rfl rfl (Kr x y) rfl rfl
theorem XL {x y:Qu}:j5 Tryz.prog .neq 122 (.agg (quC x)) (.agg (quC y)) K=K (bo (!decide (x=y))):=pT ll rfl rfl (Kr x y) rfl rfl
theorem XM {x y:Bool}:j5 Tryz.prog .eql 4 (.c (.lit (.bool x))) (.c (.lit (.bool y))) K=K (bo (x==y)):=E5 HI rfl
theorem XN {x y:Bool}:j5 Tryz.prog .neq 4 (.c (.lit (.bool x))) (.c (.lit (.bool y))) K=K (bo (!(x==y))):=E6 HI rfl
end
def pkP:=jj @x9 (jj @HM (jj @agX (jj @agY (jj @agZ (jj @ag0 (jj @ag1 (jj @ag2 @ag3)))))))
structure Fa where
 kind:Int
 a:Int
 b:Int
 deriving DecidableEq
def faC (f:Fa):List C:=[cI f.kind,cI f.a,cI f.b]
theorem kj (f:Fa):(faC f).length=3:=rfl
def fsC (l:List Fa):C:=.sl (l.map faC)
structure In where
 rule:Int
 pre:List Fa
 con:List Fa
 deriving DecidableEq
def inC (x:In):List C:=[cI x.rule,fsC x.pre,fsC x.con]
theorem Be (x:In):(inC x).length=3:=rfl
section
variable {K:V->Prop} {sz:Nat}
theorem amE {t:Fa}:dI false sz 0 (faC t) K=K (i64 t.kind):=rfl
theorem amF {t:Fa}:dI false sz 1 (faC t) K=K (i64 t.a):=rfl
theorem amG {t:Fa}:dI false sz 2 (faC t) K=K (i64 t.b):=rfl
theorem ag4 {t:In}:dI false sz 0 (inC t) K=K (i64 t.rule):=rfl
theorem amH {t:In}:dI false sz 1 (inC t) K=K (.c (fsC t.pre)):=rfl
theorem amI {t:In}:dI false sz 2 (inC t) K=K (.c (fsC t.con)):=rfl
theorem CX (x y:Fa):iG [.int,.int,.int] (faC x) (faC y)=some (decide (x=y)):=by cases x;cases y;simp[iG,eqC,faC,cI,Fa.mk.injEq,jQ]
theorem ag5 {x y:Fa}:j5 Tryz.prog .eql 54 (.agg (faC x)) (.agg (faC y)) K=K (bo (decide (x=y))):=pS eS rfl rfl (CX x y) rfl rfl
theorem ag6 {x y:Fa}:j5 Tryz.prog .neq 54 (.agg (faC x)) (.agg (faC y)) K=K (bo (!decide (x=y))):=pT eS rfl rfl (CX x y) rfl rfl
end
def pkF:=jj @pkP (jj @kj (jj @Be (jj @amE (jj @amF (jj @amG (jj @ag4 (jj @amH (jj @amI (jj @ag5 @ag6)))))))))
variable {G:Gl}
def bD (v t:Int):Fa:=⟨1,v,t⟩
def iI (v w:Int):Fa:=⟨2,v,w⟩
def iJ (s:Int):Fa:=⟨3,s,0⟩
def wK (s:Int):Fa:=⟨4,s,0⟩
set_option maxRecDepth 4000
def o5:=jj @pkA @ptA
theorem fx (v t:Int):FnOK Tryz.prog G 143 [i64 v,i64 t] (.agg (faC (bD v t))):=by refine bI (rs:=[.cell 4 54]) false [] mixed Tryz.func143 rfl rfl rfl rfl (by kernel_rfl) (by simp) rfl rfl ?_;simp only[o5,seval];exact⟨rfl,by decide,⟨rfl,rfl⟩,rfl⟩
theorem sw (v t:Int):FnOK Tryz.prog G 156 [i64 v,i64 t] (.agg (faC (iI v t))):=by refine bI (rs:=[.cell 4 54]) false [] mixed Tryz.func156 rfl rfl rfl rfl (by kernel_rfl) (by simp) rfl rfl ?_;simp only[o5,seval];exact⟨rfl,by decide,⟨rfl,rfl⟩,rfl⟩
theorem qI (s:Int):FnOK Tryz.prog G 78 [i64 s] (.agg (faC (iJ s))):=by refine bI (rs:=[.cell 2 54]) false [] mixed Tryz.func78 rfl rfl rfl rfl (by kernel_rfl) (by simp) rfl rfl ?_;simp only[o5,seval];exact⟨rfl,by decide,⟨rfl,rfl⟩,rfl⟩
theorem XO (s:Int):FnOK Tryz.prog G 79 [i64 s] (.agg (faC (wK s))):=by refine bI (rs:=[.cell 2 54]) false [] mixed Tryz.func79 rfl rfl rfl rfl (by kernel_rfl) (by simp) rfl rfl ?_;simp only[o5,seval];exact⟨rfl,by decide,⟨rfl,rfl⟩,rfl⟩
def Ks (a b:Int):Bool:=decide (bits .andNot .i64 a b=0)
theorem Tc (a b:Int):FnOK Tryz.prog G 115 [i64 a,i64 b] (bo (Ks a b)):=by refine bI (rs:=[.tmp 4]) false [] mixed Tryz.func115 rfl rfl rfl rfl (by kernel_rfl) (by simp) rfl rfl ?_;have hN:∀ K,nD .andNot .i64 a b K=K (i64 (bits .andNot .i64 a b)):=λ_=>rfl;simp only[pkA,seval,hN];rfl
def CY:=jj @pkA (jj @ptA @pkF)
theorem Td (p:Pol) (t:Int):FnOK Tryz.prog G 114 [.agg (poC p),i64 t] (bo (decide (0<=t)&&decide (t<p.types.length))):=by
 refine bI (rs:=[.tmp 4]) false [] mixed Tryz.func114 rfl rfl rfl rfl (by kernel_rfl) (by simp) rfl rfl ?_
 repeat' first
  |(simp only[CY,seval])
  |refine eT (λh=>?_) (λh=>?_)
 all_goals (simp_all<;>omega)
def sy (p:Pol) (t:Nat) (flags:Int):Bool:=match p.types[t]? with | some x=>Ks flags x.flags | none=>false
theorem XQ (p:Pol) (t:Nat) (flags:Int) (hm:p.types.length<=9223372036854775807):FnOK Tryz.prog G 77 [.agg (poC p),i64 t,i64 flags] (bo (sy p t flags)):=by
 refine bI (rs:=[.tmp 6]) false [] mixed Tryz.func77 rfl rfl rfl rfl (by kernel_rfl) (by simp) rfl rfl ?_;simp only[CY,seval];refine az rfl (Td p t) (λ_=>rfl) ?_;simp only[pkA,seval];refine eT (λh=>?_) (λh=>?_)
 .have ht:t<p.types.length:=by simpa using h
  simp only[CY,seval];refine dQ rJ rfl lE (by decide) (ay t) (c:=tyC p.types[t]) (by simp[ht]) rfl ?_;simp only[CY,seval];refine az rfl (Tc _ _) (λ_=>rfl) ?_;simp only[pkA,seval];unfold sy;rw[ai ht]
 .have ht:¬ t<p.types.length:=by simpa using h
  simp only[pkA,seval];unfold sy;rw[bG (by omega)]
theorem Tf (l:List Fa) (x:Fa) (hm:l.length<=9223372036854775807):FnOK Tryz.prog G 205 [.c (fsC l),.agg (faC x)] (i64 (qG (λy=>decide (x=y)) l)):=by
 refine bI (rs:=[.tmp 4]) false [] mixed Tryz.func205 rfl rfl rfl rfl (by kernel_rfl) (by simp) rfl rfl ?_;simp only[o5,seval,fsC];refine bw (λi:Nat=>hdS [(0,.c (.sl (l.map faC))),(3,.bp 0 0),(7,i64 l.length),(8,i64 i)] [(faC x).map .c]) (λi=>l.length - i) (λi=>i<=l.length/\∀ j (h:j<l.length),j<i->decide (x=l[j])=false) 0 ⟨ar _,λj h h'=>absurd h' (gf _)⟩ ?_ ?_
 .refine cm rfl (ar _) (ab _) ?_ (by simp[BL])
  simp[FL,ah]
 rintro i ⟨hi,gy⟩ R bL bO c8;simp only[pkA,seval];refine aD (λbE=>?_) (λfH=>?_)
 .have bE:i<l.length:=by simpa using bE
  simp only[CY,seval];refine dQ eC rfl eS (by decide) (ay i) (c:=faC l[i]) (by simp[bE]) rfl ?_;simp only[CY,seval];refine aD (λhy=>?_) (λhn=>?_)
  .simp only[pkA,seval]
   refine c8 _ ?_;simp only[pkA,seval];rw[ou bE hy gy]
  .have hw:=bn (n:=(i:Int)+1) (k:=i+1) (by omega) (by omega)
   simp only[pkA,seval];refine bL (i+1) _ ⟨bE,λj h hj=>?_⟩ (by omega) (cm rfl (ar _) (ab _) ?_ (by simp[BL,bxs]))
   .rcases bX j i with h1 | h1
    .exact gy j h h1
    .have:j=i:=by omega
     subst this;exact hn
   .simp[FL,ah,hw]
 .have:i=l.length:=by simp at fH;omega
  subst this;simp only[pkA];refine bO _ _ ?_;simp only[pkA,seval];rw[lL (λj h _=>gy j h h)]
theorem HN (l:List Fa) (x:Fa) (hm:l.length<=9223372036854775807):FnOK Tryz.prog G 184 [.c (fsC l),.agg (faC x)] (bo (l.any λy=>decide (x=y))):=by refine bI (rs:=[.tmp 4]) false [] mixed Tryz.func184 rfl rfl rfl rfl (by kernel_rfl) (by simp) rfl rfl ?_;simp only[CY,seval];refine az rfl (Tf l x hm) (λ_=>rfl) ?_;simp only[pkA,seval];rw[jT]
theorem Ti (l:List Int) (x:Int) (hm:l.length<=9223372036854775807):FnOK Tryz.prog G 179 [.c (.sl (l.map λy=>[cI y])),i64 x] (i64 (qG (λy=>decide (x=y)) l)):=by
 refine bI (rs:=[.tmp 4]) false [] mixed Tryz.func179 rfl rfl rfl rfl (by kernel_rfl) (by simp) rfl rfl ?_;simp only[o5,seval];refine bw (λi:Nat=>hdS [(0,.c (.sl (l.map λy=>[cI y]))),(1,i64 x),(7,i64 l.length),(8,i64 i)] []) (λi=>l.length - i) (λi=>i<=l.length/\∀ j (h:j<l.length),j<i->decide (x=l[j])=false) 0 ⟨ar _,λj h h'=>absurd h' (gf _)⟩ ?_ ?_
 .refine cm rfl (ar _) (ab _) ?_ trivial
  simp[FL,ah]
 rintro i ⟨hi,gy⟩ R bL bO c8;simp only[pkA,seval];refine aD (λbE=>?_) (λfH=>?_)
 .have bE:i<l.length:=by simpa using bE
  simp only[pkA,seval];refine dQ pX rfl mo (by decide) (ay i) (c:=[cI l[i]]) (by simp[bE]) rfl ?_;have e0:∀ K,dI false 1 0 [cI l[i]] K=K (i64 l[i]):=λ_=>rfl;simp only[o5,seval,e0];refine aD (λhy=>?_) (λhn=>?_)
  .simp only[pkA,seval]
   refine c8 _ ?_;simp only[pkA,seval];rw[ou bE hy gy]
  .have hw:=bn (n:=(i:Int)+1) (k:=i+1) (by omega) (by omega)
   simp only[pkA,seval];refine bL (i+1) _ ⟨bE,λj h hj=>?_⟩ (by omega) (cm rfl (ar _) (ab _) ?_ trivial)
   .rcases bX j i with h1 | h1
    .exact gy j h h1
    .have:j=i:=by omega
     subst this;exact hn
   .simp[FL,ah,hw]
 .have:i=l.length:=by simp at fH;omega
  subst this;simp only[pkA];refine bO _ _ ?_;simp only[pkA,seval];rw[lL (λj h _=>gy j h h)]
theorem HO (l:List Int) (x:Int) (hm:l.length<=9223372036854775807):FnOK Tryz.prog G 132 [.c (.sl (l.map λy=>[cI y])),i64 x] (bo (l.any λy=>decide (x=y))):=by refine bI (rs:=[.tmp 4]) false [] mixed Tryz.func132 rfl rfl rfl rfl (by kernel_rfl) (by simp) rfl rfl ?_;simp only[pkA,seval];refine az rfl (Ti l x hm) (λ_=>rfl) ?_;simp only[pkA,seval];rw[jT]
theorem uj (a:Int):FnOK Tryz.prog G 68 [i64 a] (bo false):=by
 refine bI (rs:=[.tmp 2]) false [] mixed Tryz.func68 rfl rfl rfl rfl (by kernel_rfl) (by simp) rfl rfl ?_
 repeat' first
  |(simp only[pkA,seval])
  |refine eT (λh=>?_) (λh=>?_)
  |refine aD (λh=>?_) (λh=>?_)
 all_goals simp_all
def qw (a b:Int):Int:=if a<b then -1 else if b<a then 1 else 0
theorem qJ (a b:Int):FnOK Tryz.prog G 48 [i64 a,i64 b] (i64 (qw a b)):=by
 refine bI (rs:=[.tmp 4]) false [] mixed Tryz.func48 rfl rfl rfl rfl (by kernel_rfl) (by simp) rfl rfl ?_;simp only[pkA,seval];refine az rfl (uj a) (by simp[V.boxy]) ?_;simp only[pkA,seval];refine az rfl (uj b) (by simp[V.boxy]) ?_
 repeat' first
  |(simp only[pkA,seval])
  |refine eT (λh=>?_) (λh=>?_)
  |refine aD (λh=>?_) (λh=>?_)
 all_goals (simp_all[qw]<;>omega)
def orL:List Int->Int
 |[]=>0
 |x::l=>if x=0 then orL l else x
theorem aj2 (l:List Int) (hm:l.length<=9223372036854775807):FnOK Tryz.prog G 47 [.c (.sl (l.map λy=>[cI y]))] (i64 (orL l)):=by
 refine bI (rs:=[.tmp 2]) false [] mixed Tryz.func47 rfl rfl rfl rfl (by kernel_rfl) (by simp) rfl rfl ?_;simp only[o5,seval];refine bw (λi:Nat=>hdS [(3,i64 0),(6,.c (.sl (l.map λy=>[cI y]))),(7,i64 l.length),(8,i64 i)] []) (λi=>l.length - i) (λi=>i<=l.length/\orL l=orL (l.drop i)) 0 ⟨ar _,rfl⟩ ?_ ?_
 .refine cm rfl (ar _) (ab _) ?_ trivial
  simp[FL,ah]
 rintro i ⟨hi,gy⟩ R bL bO c8;simp only[pkA,seval];refine aD (λbE=>?_) (λfH=>?_)
 .have bE:i<l.length:=by simpa using bE
  rw[dj bE] at gy;simp only[pkA,seval];refine dQ pX rfl mo (by decide) (ay i) (c:=[cI l[i]]) (by simp[bE]) rfl ?_;have e0:∀ K,dI false 1 0 [cI l[i]] K=K (i64 l[i]):=λ_=>rfl;simp only[o5,seval,e0];refine aD (λhy=>?_) (λhn=>?_)
  .have hy:¬ l[i]=0:=by simpa using hy
   simp only[pkA,seval];refine c8 _ ?_;simp only[pkA,seval];rw[gy];simp only[orL];rw[if_neg hy]
  .have hn:l[i]=0:=by simpa using hn
   have hw:=bn (n:=(i:Int)+1) (k:=i+1) (by omega) (by omega);simp only[pkA,seval];refine bL (i+1) _ ⟨bE,?_⟩ (by omega) (cm rfl (ar _) (ab _) ?_ trivial)
   .rw[gy];simp only[orL];rw[if_pos hn]
   .simp[FL,ah,hw]
 .have:i=l.length:=by simp at fH;omega
  subst this;simp only[pkA];refine bO _ _ ?_;simp only[pkA,seval];rw[gy];simp[orL]
def vC (a b:Fa):Int:=orL [qw a.kind b.kind,qw a.a b.a,qw a.b b.b]
theorem sA (a b:Fa):FnOK Tryz.prog G 30 [.agg (faC a),.agg (faC b)] (i64 (vC a b)):=by refine bI (rs:=[.tmp 4]) false [] mixed Tryz.func30 rfl rfl rfl rfl (by kernel_rfl) (by simp) rfl rfl ?_;have g0:∀ (nb q:Nat) (f:Fa) K,ldB nb q ((faC f).map .c) 0 K=(q<nb/\K (i64 f.kind)):=λ_ _ _ _=>rfl;have g1:∀ (nb q:Nat) (f:Fa) K,ldB nb q ((faC f).map .c) 1 K=(q<nb/\K (i64 f.a)):=λ_ _ _ _=>rfl;have g2:∀ (nb q:Nat) (f:Fa) K,ldB nb q ((faC f).map .c) 2 K=(q<nb/\K (i64 f.b)):=λ_ _ _ _=>rfl;have gm:∀ f:Fa,cL ((faC f).map V.c)=false:=λ_=>rfl;simp only[o5,seval,g0,gm];refine az rfl (qJ _ _) (λ_=>rfl) ?_;simp only[o5,seval,g1,gm];refine az rfl (qJ _ _) (λ_=>rfl) ?_;simp only[o5,seval,g2,gm];refine az rfl (qJ _ _) (λ_=>rfl) ?_;simp only[o5,seval];refine az rfl (aj2 [qw a.kind b.kind,qw a.a b.a,qw a.b b.b] (by simp)) (λ_=>rfl) ?_;simp only[pkA,seval,vC]
def ltF (x y:Fa):Bool:=decide (x.kind<y.kind∨(x.kind=y.kind/\(x.a<y.a∨(x.a=y.a/\x.b<y.b))))
theorem mW (x y:Fa):ltOf vC x y=ltF x y:=by
 have h:vC x y<0↔(x.kind<y.kind∨(x.kind=y.kind/\(x.a<y.a∨(x.a=y.a/\x.b<y.b)))):=by
  unfold vC;simp only[orL,qw]
  repeat' split
  all_goals omega
 unfold ltOf ltF;exact ir.2 h
theorem ag7 {x y:Fa} (h1:x.kind=y.kind) (h2:x.a=y.a) (h3:x.b=y.b):x=y:=by cases x;cases y;simp_all
theorem ltF_swo:Go.Sort.SWO (ltOf vC) where
 irrefl x:=by rw[mW];unfold ltF;simp
 trans x y z h1 h2:=by rw[mW] at *;unfold ltF at *;simp only[bF] at *;omega
 ntrans x y z h1 h2:=by rw[mW] at *;unfold ltF at *;simp only[dq] at *;omega
theorem yd {x y:Fa} (h1:ltF x y=false) (h2:ltF y x=false):x=y:=by unfold ltF at *;simp only[dq] at *;exact ag7 (by omega) (by omega) (by omega)
def leF (x y:Fa):Bool:=!ltF y x
def qK (l:List Fa):List Fa:=l.mergeSort leF
theorem wL (l:List Fa):(qK l).Perm l:=List.mergeSort_perm l leF
theorem rK (l:List Fa):(qK l).length=l.length:=(wL l).length_eq
theorem ye (l:List Fa):(qK l).Pairwise λx y=>ltF y x=false:=by have:=List.pairwise_mergeSort (le:=leF) (λx y z h1 h2=>by unfold leF ltF at *;simp only[ew,dq] at *;omega) (λx y=>by unfold leF ltF;simp only[fu,ew,dq];omega) l;exact this.imp λh=>by unfold leF at h;simpa using h
theorem PO:∃ fn,Tryz.prog.funcs[59]?=some fn/\(fn.name== "runtime.NumGoroutine")=false/\∃ b,fn.body=some b:=⟨_,Tryz.func59,rfl,_,rfl⟩
def aeh (G:Gl) (g:FuncId) (cs:List C):Prop:=(∀ args w,(callFunc g args).run Tryz.prog w=.ok (.enter g args) w)/\∀ x y:Fa,FnOK Tryz.prog G g ([.agg (faC x),.agg (faC y)]++cs.map .c) (i64 (vC x y))
theorem Kt:aeh G 30 []:=⟨enters_of Tryz.func30 (by kernel_rfl) rfl,λx y=>sA x y⟩
theorem aco {g:FuncId} {cs:List C} (h:aeh gl0 g cs) (l:List Fa) (hl:l.length<4611686018427387904) (cap:Nat) (hc:l.length<=cap) :
 FnB Tryz.prog G 59 [.ms 0 0 l.length cap 3,.c (.fn (.func g) [] cs)] [flb faC l] (.tup []) [flb faC (qK l)]:=
 J0 (ρ:=Tryz.sortFa_ren) Tryz.sortFa PO Tryz.isAgg54 Tryz.sizeOf54 kj (by decide) ⟨0,0,0⟩ [.int .i64 0,.int .i64 0,.int .i64 0] rfl (λv hv=>by simp at hv;rcases hv with rfl | rfl | rfl<;>rfl)
  (λI w j x hx=>by
   match j with
   |0 | 1 | 2=>simp only[faC,cI,bQ,cB,ao] at hx;subst hx;exact .lit _ rfl
   |j+3=>simp[faC] at hx)
  vC ltF_swo g cs h.1 h.2 l (qK l) hl (wL l) ((ye l).imp λh=>by rw[mW];exact h) (λx _ y _ h1 h2=>by rw[mW] at h1 h2;exact yd h1 h2) cap hc
theorem XR {x:C}:FnOK Tryz.prog G 59 [.c (.sl []),.c x] (.tup []):=
 vP (ρ:=Tryz.sortFa_ren) Tryz.sortFa PO
theorem Tj (es:List (List C)) (gY:es≠[]) (hl:∀ e∈es,e.length=3) (hm:es.length<1000000000) :
 FnB Tryz.prog G 58 [.c (.sl es)] [] (.ms 0 0 es.length es.length 3) [es.flatten.map .c]:=by
 refine jM (rs:=[.tmp 2]) (k:=0) [2000007] mixed Tryz.func58 rfl rfl rfl rfl (by kernel_rfl) (by simp) rfl rfl rfl rfl (by simp) ?_;have mc:es.isEmpty=false:=by simpa using gY
 simp only[o5,seval,Pq eC rfl gY];rw[zd];refine⟨⟨.inl rfl,by simp⟩,⟨by simp only[aG,aF];omega,by simp only[aG,aF];omega,hl⟩,?_⟩;simp only[pkA,seval,mc];refine nK [(2,.ms 0 0 es.length es.length 3)] rfl ?_ (by simp) (by simp) (by simp[FL]) (by simp[BL]) rfl;simp only[iV,bh,bB,gP,aC,aG];rfl
theorem Fq (es:List (List C)) (hl:∀ e∈es,e.length=3) (hm:es.length<1000000000) :
 FnOK Tryz.prog G 58 [.c (.sl es)] (.ow (if es.isEmpty then none else some (54,3)) es):=by
 refine bI (rs:=[.tmp 2]) false [7] mixed Tryz.func58 rfl rfl rfl rfl (by kernel_rfl) (by simp) rfl rfl ?_;by_cases gY:es=[]
 .subst gY
  simp only[o5,seval,WC eC rfl];rw[zd];refine⟨⟨.inl rfl,by simp⟩,⟨by simp,by simp,by simp⟩,?_⟩;simp only[pkA,seval]
 .have mc:es.isEmpty=false:=by simpa using gY
  simp only[o5,seval,Pq eC rfl gY];rw[zd];refine⟨⟨.inl rfl,by simp⟩,⟨by simp only[aG,aF];omega,by simp only[aG,aF];omega,hl⟩,?_⟩;simp only[pkA,seval,mc]
