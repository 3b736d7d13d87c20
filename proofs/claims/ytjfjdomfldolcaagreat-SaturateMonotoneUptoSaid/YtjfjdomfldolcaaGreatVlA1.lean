/- Policies and facts, as values (layer 17). -/
import Derived.Test.YtjfjdomfldolcaaGreatVlTypes
import Derived.Test.YtjfjdomfldolcaaGreatVlRunB
import Derived.Test.YtjfjdomfldolcaaGreatVlEnv
import Derived.Test.YtjfjdomfldolcaaGreatVlFlb
import Derived.Eval
import Derived.Test.YtjfjdomfldolcaaGreatVlLaw
import Derived.Test.YtjfjdomfldolcaaGreatRows
import Derived.JoinedOf
import Derived.MakeChecks
set_option maxHeartbeats 1000000
set_option linter.all false
namespace Go.Proofs.YtjfjdomfldolcaaGreat
open Go Go.Vl
theorem mixed:Tryz.prog.follows .mixedOrders=true:=Tryz.checked.mixed
abbrev i64 (n:Int):V:=.c (.lit (.int .i64 n))
abbrev bo (b:Bool):V:=.c (.lit (.bool b))
structure Ty where
 name:ByteArray
 flags:Int
 life:Int
 deriving DecidableEq
structure Ru where
 kind:Int
 a:Int
 b:Int
 deriving DecidableEq
structure Qu where
 cmd:Int
 count:Int
 delay:Int
 valid:Int
 uses:Int
 deriving DecidableEq
structure Pol where
 name:ByteArray
 types:List Ty
 rules:List Ru
 quorums:List Qu
 deriving DecidableEq
def cS (b:ByteArray):C:=.lit (.string b)
def cI (n:Int):C:=.lit (.int .i64 n)
def tyC (t:Ty):List C:=[cS t.name,cI t.flags,cI t.life]
def ruC (r:Ru):List C:=[cI r.kind,cI r.a,cI r.b]
def quC (q:Qu):List C:=[cI q.cmd,cI q.count,cI q.delay,cI q.valid,cI q.uses]
def poC (p:Pol):List C:=[cS p.name,.sl (p.types.map tyC),.sl (p.rules.map ruC),.sl (p.quorums.map quC)]
theorem F9 (t:Ty):(tyC t).length=3:=rfl
theorem AP (t:Ru):(ruC t).length=3:=rfl
theorem Zy (t:Qu):(quC t).length=5:=rfl
theorem Zz (t:Pol):(poC t).length=4:=rfl
section
variable {K:V→Prop} {sz:Nat}
theorem aki {t:Ty}:dC false sz 0 (tyC t) K=K (.c (.lit (.string t.name))):=rfl
theorem akj {t:Ty}:dC false sz 1 (tyC t) K=K (i64 t.flags):=rfl
theorem akk {t:Ty}:dC false sz 2 (tyC t) K=K (i64 t.life):=rfl
theorem akl {t:Ru}:dC false sz 0 (ruC t) K=K (i64 t.kind):=rfl
theorem akm {t:Ru}:dC false sz 1 (ruC t) K=K (i64 t.a):=rfl
theorem akn {t:Ru}:dC false sz 2 (ruC t) K=K (i64 t.b):=rfl
theorem ako {t:Qu}:dC false sz 0 (quC t) K=K (i64 t.cmd):=rfl
theorem akp {t:Qu}:dC false sz 1 (quC t) K=K (i64 t.count):=rfl
theorem akq {t:Qu}:dC false sz 2 (quC t) K=K (i64 t.delay):=rfl
theorem akr {t:Qu}:dC false sz 3 (quC t) K=K (i64 t.valid):=rfl
theorem aks {t:Qu}:dC false sz 4 (quC t) K=K (i64 t.uses):=rfl
theorem akt {t:Pol}:dC false sz 0 (poC t) K=K (.c (.lit (.string t.name))):=rfl
theorem aku {t:Pol}:dC false sz 1 (poC t) K=K (.c (.sl (t.types.map tyC))):=rfl
theorem akv {t:Pol}:dC false sz 2 (poC t) K=K (.c (.sl (t.rules.map ruC))):=rfl
theorem akw {t:Pol}:dC false sz 3 (poC t) K=K (.c (.sl (t.quorums.map quC))):=rfl
end
theorem abj (x y:Ty):jB [.str,.int,.int] (tyC x) (tyC y)=some (decide (x=y)):=by
 cases x;cases y;simp[jB,eqC,tyC,cS,cI,Ty.mk.injEq,Bool.decide_and]
theorem abk (x y:Ru):jB [.int,.int,.int] (ruC x) (ruC y)=some (decide (x=y)):=by
 cases x;cases y;simp[jB,eqC,ruC,cI,Ru.mk.injEq,Bool.decide_and]
theorem abl (x y:Qu):jB [.int,.int,.int,.int,.int] (quC x) (quC y)=some (decide (x=y)):=by
 cases x;cases y;simp[jB,eqC,quC,cI,Qu.mk.injEq,Bool.decide_and]
section
variable {K:V→Prop}
theorem aeB {x y:Ty}:lv Tryz.prog .eql 51 (.agg (tyC x)) (.agg (tyC y)) K=K (bo (decide (x=y))):=xJ oS rfl rfl (abj x y) rfl rfl
theorem aeC {x y:Ty}:lv Tryz.prog .neq 51 (.agg (tyC x)) (.agg (tyC y)) K=K (bo (!decide (x=y))):=xK oS rfl rfl (abj x y) rfl rfl
theorem aeD {x y:Ru}:lv Tryz.prog .eql 52 (.agg (ruC x)) (.agg (ruC y)) K=K (bo (decide (x=y))):=xJ jZ rfl rfl (abk x y) rfl rfl
theorem aeE {x y:Ru}:lv Tryz.prog .neq 52 (.agg (ruC x)) (.agg (ruC y)) K=K (bo (!decide (x=y))):=xK jZ rfl rfl (abk x y) rfl rfl
theorem aeF {x y:Qu}:lv Tryz.prog .eql 169 (.agg (quC x)) (.agg (quC y)) K=K (bo (decide (x=y))):=xJ TY rfl rfl (abl x y) rfl rfl
theorem aeG {x y:Qu}:lv Tryz.prog .neq 169 (.agg (quC x)) (.agg (quC y)) K=K (bo (!decide (x=y))):=xK TY rfl rfl (abl x y) rfl rfl
theorem aeH {x y:Bool}:lv Tryz.prog .eql 4 (.c (.lit (.bool x))) (.c (.lit (.bool y))) K=K (bo (x==y)):=O6 ahE rfl
theorem aeI {x y:Bool}:lv Tryz.prog .neq 4 (.c (.lit (.bool x))) (.c (.lit (.bool y))) K=K (bo (!(x==y))):=O7 ahE rfl
end
def pkP:=jj @F9 (jj @AP (jj @Zy (jj @Zz (jj @aki (jj @akj (jj @akk (jj @akl (jj @akm (jj @akn (jj @ako (jj @akp (jj @akq (jj @akr (jj @aks (jj @akt (jj @aku (jj @akv (jj @akw (jj @aeB (jj @aeC (jj @aeD (jj @aeE (jj @aeF (jj @aeG (jj @aeH @aeI)))))))))))))))))))))))))
structure Fa where
 kind:Int
 a:Int
 b:Int
 deriving DecidableEq
def faC (f:Fa):List C:=[cI f.kind,cI f.a,cI f.b]
theorem j0 (f:Fa):(faC f).length=3:=rfl
def fsC (l:List Fa):C:=.sl (l.map faC)
structure In where
 rule:Int
 pre:List Fa
 con:List Fa
 deriving DecidableEq
def inC (x:In):List C:=[cI x.rule,fsC x.pre,fsC x.con]
theorem AQ (x:In):(inC x).length=3:=rfl
section
variable {K:V→Prop} {sz:Nat}
theorem akx {t:Fa}:dC false sz 0 (faC t) K=K (i64 t.kind):=rfl
theorem aky {t:Fa}:dC false sz 1 (faC t) K=K (i64 t.a):=rfl
theorem akz {t:Fa}:dC false sz 2 (faC t) K=K (i64 t.b):=rfl
theorem akA {t:In}:dC false sz 0 (inC t) K=K (i64 t.rule):=rfl
theorem akB {t:In}:dC false sz 1 (inC t) K=K (.c (fsC t.pre)):=rfl
theorem akC {t:In}:dC false sz 2 (inC t) K=K (.c (fsC t.con)):=rfl
theorem D7 (x y:Fa):jB [.int,.int,.int] (faC x) (faC y)=some (decide (x=y)):=by
 cases x;cases y;simp[jB,eqC,faC,cI,Fa.mk.injEq,Bool.decide_and]
theorem aeJ {x y:Fa}:lv Tryz.prog .eql 28 (.agg (faC x)) (.agg (faC y)) K=K (bo (decide (x=y))):=xJ eY rfl rfl (D7 x y) rfl rfl
theorem aeK {x y:Fa}:lv Tryz.prog .neq 28 (.agg (faC x)) (.agg (faC y)) K=K (bo (!decide (x=y))):=xK eY rfl rfl (D7 x y) rfl rfl
end
def pkF:=jj @pkP (jj @j0 (jj @AQ (jj @akx (jj @aky (jj @akz (jj @akA (jj @akB (jj @akC (jj @aeJ @aeK)))))))))
variable {G:Gl}
def bu (v t:Int):Fa:=⟨1,v,t⟩
def gi (v w:Int):Fa:=⟨2,v,w⟩
def fC (s:Int):Fa:=⟨3,s,0⟩
def pR (s:Int):Fa:=⟨4,s,0⟩
set_option maxRecDepth 100000
theorem T0:Tryz.prog.cellsOf 51=3:=by kernel_rfl
theorem T8:Tryz.prog.cellsOf 52=3:=by kernel_rfl
theorem T9:Tryz.prog.cellsOf 169=5:=by kernel_rfl
theorem Ua:Tryz.prog.cellsOf 26=4:=by kernel_rfl
theorem vn:Tryz.prog.cellsOf 3=1:=by kernel_rfl
theorem D8:Tryz.prog.cellsOf 9=1:=by kernel_rfl
theorem Pz:Tryz.prog.cellsOf 22=1:=by kernel_rfl
theorem PC:Tryz.prog.cellsOf 23=1:=by kernel_rfl
theorem PD:Tryz.prog.cellsOf 24=1:=by kernel_rfl
def ah1 (t:Ty):Prop:=t.name.size≤maxLen∧I64 t.flags∧I64 t.life
def ah2 (t:Ru):Prop:=I64 t.kind∧I64 t.a∧I64 t.b
def ah3 (t:Qu):Prop:=I64 t.cmd∧I64 t.count∧I64 t.delay∧I64 t.valid∧I64 t.uses
theorem nB {xs:List C} (h:vG Tryz.prog 3 xs):∃ n,xs=[cI n]∧I64 n:=by
 obtain⟨m,rfl,hm⟩:=MW Tryz.underlying3 h
 exact⟨m,rfl,ada hm⟩
theorem Ub {xs:List C} (h:vG Tryz.prog 9 xs):∃ s,xs=[cS s]∧s.size≤maxLen:=by
 obtain⟨m,rfl,hm⟩:=YG Tryz.underlying9 h
 exact⟨m,rfl,hm⟩
theorem abm {xs:List C} (h:vG Tryz.prog 51 xs):∃ t:Ty,xs=tyC t∧ah1 t:=by
 obtain⟨hl,hf⟩:=pP Tryz.underlying51 h
 rw[T0] at hl
 match xs,hl with
 |[x0,x1,x2],_=>
  have h0:=hf _ (by simp;exact .inl rfl)
  have h1:=hf _ (by simp;exact .inr (.inl rfl))
  have h2:=hf _ (by simp;exact .inr (.inr rfl))
  simp only[D8,vn,cd,iU,fR,jv] at h0 h1 h2
  obtain⟨s,e0,hs⟩:=Ub h0
  obtain⟨a,e1,ha⟩:=nB h1
  obtain⟨b,e2,hb⟩:=nB h2
  cases e0;cases e1;cases e2
  exact⟨⟨s,a,b⟩,rfl,hs,ha,hb⟩
theorem abn {xs:List C} (h:vG Tryz.prog 52 xs):∃ t:Ru,xs=ruC t∧ah2 t:=by
 obtain⟨hl,hf⟩:=pP Tryz.underlying52 h
 rw[T8] at hl
 match xs,hl with
 |[x0,x1,x2],_=>
  have h0:=hf _ (by simp;exact .inl rfl)
  have h1:=hf _ (by simp;exact .inr (.inl rfl))
  have h2:=hf _ (by simp;exact .inr (.inr rfl))
  simp only[vn,cd,iU,fR,jv] at h0 h1 h2
  obtain⟨s,e0,hs⟩:=nB h0
  obtain⟨a,e1,ha⟩:=nB h1
  obtain⟨b,e2,hb⟩:=nB h2
  cases e0;cases e1;cases e2
  exact⟨⟨s,a,b⟩,rfl,hs,ha,hb⟩
theorem ah4 {xs:List C} (h:vG Tryz.prog 169 xs):∃ t:Qu,xs=quC t∧ah3 t:=by
 obtain⟨hl,hf⟩:=pP Tryz.underlying169 h
 rw[T9] at hl
 match xs,hl with
 |[x0,x1,x2,x3,x4],_=>
  have h0:=hf _ (by simp;exact .inl rfl)
  have h1:=hf _ (by simp;exact .inr (.inl rfl))
  have h2:=hf _ (by simp;exact .inr (.inr (.inl rfl)))
  have h3:=hf _ (by simp;exact .inr (.inr (.inr (.inl rfl))))
  have h4:=hf _ (by simp;exact .inr (.inr (.inr (.inr rfl))))
  simp only[vn,cd,iU,fR,jv] at h0 h1 h2 h3 h4
  obtain⟨a0,e0,k0⟩:=nB h0
  obtain⟨a1,e1,k1⟩:=nB h1
  obtain⟨a2,e2,k2⟩:=nB h2
  obtain⟨a3,e3,k3⟩:=nB h3
  obtain⟨a4,e4,k4⟩:=nB h4
  cases e0;cases e1;cases e2;cases e3;cases e4
  exact⟨⟨a0,a1,a2,a3,a4⟩,rfl,k0,k1,k2,k3,k4⟩
structure abo (p:Pol):Prop where
 name:p.name.size≤maxLen
 lt:p.types.length≤maxLen
 lr:p.rules.length≤maxLen
 lq:p.quorums.length≤maxLen
 types:∀ t∈p.types,ah1 t
 rules:∀ t∈p.rules,ah2 t
 quorums:∀ t∈p.quorums,ah3 t
theorem abp {xs:List C} (h:vG Tryz.prog 26 xs):∃ p:Pol,xs=poC p∧abo p:=by
 obtain⟨hl,hf⟩:=pP Tryz.underlying26 h
 rw[Ua] at hl
 match xs,hl with
 |[x0,x1,x2,x3],_=>
  have h0:=hf _ (by simp;exact .inl rfl)
  have h1:=hf _ (by simp;exact .inr (.inl rfl))
  have h2:=hf _ (by simp;exact .inr (.inr (.inl rfl)))
  have h3:=hf _ (by simp;exact .inr (.inr (.inr rfl)))
  simp only[D8,Pz,PC,PD,cd,iU,fR,jv] at h0 h1 h2 h3
  obtain⟨s,e0,hs⟩:=Ub h0
  obtain⟨es1,e1,l1,k1⟩:=px Tryz.underlying22 h1
  obtain⟨es2,e2,l2,k2⟩:=px Tryz.underlying23 h2
  obtain⟨es3,e3,l3,k3⟩:=px Tryz.underlying24 h3
  obtain⟨ts,rfl,t1⟩:=sP fun x hx=>abm (k1 x hx)
  obtain⟨rs,rfl,t2⟩:=sP fun x hx=>abn (k2 x hx)
  obtain⟨qs,rfl,t3⟩:=sP fun x hx=>ah4 (k3 x hx)
  cases e0;cases e1;cases e2;cases e3
  exact⟨⟨s,ts,rs,qs⟩,rfl,hs,by simpa using l1,by simpa using l2,by simpa using l3,t1,t2,t3⟩
theorem Uc:cZ Tryz.prog 26=true:=by kernel_rfl
theorem Ga {x:V} (h:∃ n cs,Shp Tryz.prog n 26 cs∧x=oc Tryz.prog 26 cs):∃ p:Pol,x=.agg (poC p)∧abo p:=by
 obtain⟨n,cs,h,rfl⟩:=h
 obtain⟨p,rfl,hp⟩:=abp ⟨n,h⟩
 exact⟨p,by unfold oc;rw[Uc,if_pos rfl],hp⟩
theorem Ud:Tryz.prog.cellsOf 28=3:=by kernel_rfl
def ah5 (t:Fa):Prop:=I64 t.kind∧I64 t.a∧I64 t.b
theorem ah6 {xs:List C} (h:vG Tryz.prog 28 xs):∃ t:Fa,xs=faC t∧ah5 t:=by
 obtain⟨hl,hf⟩:=pP Tryz.underlying28 h
 rw[Ud] at hl
 match xs,hl with
 |[x0,x1,x2],_=>
  have h0:=hf _ (by simp;exact .inl rfl)
  have h1:=hf _ (by simp;exact .inr (.inl rfl))
  have h2:=hf _ (by simp;exact .inr (.inr rfl))
  simp only[vn,cd,iU,fR,jv] at h0 h1 h2
  obtain⟨s,e0,hs⟩:=nB h0
  obtain⟨a,e1,ha⟩:=nB h1
  obtain⟨b,e2,hb⟩:=nB h2
  cases e0;cases e1;cases e2
  exact⟨⟨s,a,b⟩,rfl,hs,ha,hb⟩
theorem aeL:cZ Tryz.prog 28=true:=by kernel_rfl
theorem aeM {x:V} (h:∃ n cs,Shp Tryz.prog n 28 cs∧x=oc Tryz.prog 28 cs):∃ p:Fa,x=.agg (faC p)∧ah5 p:=by
 obtain⟨n,cs,h,rfl⟩:=h
 obtain⟨p,rfl,hp⟩:=ah6 ⟨n,h⟩
 exact⟨p,by unfold oc;rw[aeL,if_pos rfl],hp⟩
open Go Go.Vl Go.RowKit Go.ChangeShapes
def argTypes:List TypeId:=[26,9,3,22,23,24,51,52,169,37,28,5,49]
theorem pS:sO Tryz.prog argTypes=true:=by kernel_rfl
theorem rT:laidOutB Tryz.prog=true:=by kernel_rfl
theorem Il:ownKnob Tryz.prog.godebug=none:=by kernel_rfl
def rU:List (String×DataW Unit):=[]
def gl:Gl:=fun _=>none
theorem Im {W:World}:GOK gl (xU W) W:=by
 intro g cs hg
 unfold gat at hg
 split at hg<;>cases hg
theorem xZ (os:Os) (args:Array Value):laidMetH Tryz.prog rU ((World.doorLaid Tryz.prog 400 os).forCall (fun _ _=>0) ⟨#[],args,[]⟩).memory:=
 laidMetH_of_parts3 (fuel:=8) (laidMet_of_run' 8 (by kernel_rfl) (by kernel_rfl)) (by kernel_rfl) (by kernel_rfl)
def Ln:Value:=.agg #[.string ⟨#[]⟩,.slice none 0 0,.slice none 0 0,.slice none 0 0]
def akD:Value:=.agg #[.int .i64 0,.int .i64 0,.int .i64 0]
theorem BS {x:List V} {a:TypeId} (h:vm Tryz.prog [a] x):∃ u,x=[u]∧(∃ n cs,Shp Tryz.prog n a cs∧u=oc Tryz.prog a cs):=by
 match x,h with
 |[u],h=>exact⟨u,rfl,h.1⟩
theorem Ue {x:List V} {a b:TypeId} (h:vm Tryz.prog [a,b] x):∃ u v,x=[u,v]∧(∃ n cs,Shp Tryz.prog n a cs∧u=oc Tryz.prog a cs)∧(∃ n cs,Shp Tryz.prog n b cs∧v=oc Tryz.prog b cs):=by
 match x,h with
 |[u,v],h=>exact⟨u,v,rfl,h.1,h.2.1⟩
set_option maxRecDepth 4000
def BU:=jj @pkA @ptA
theorem fq (v t:Int):FnOK Tryz.prog G 112 [i64 v,i64 t] (.agg (faC (bu v t))):=by
 refine cL (rs:=[.cell 4 28]) false [] mixed Tryz.func112 rfl rfl rfl rfl (by kernel_rfl) (by simp) rfl rfl ?_
 simp only[BU,seval]
 exact⟨rfl,by decide,⟨rfl,rfl⟩,rfl⟩
theorem sQ (v t:Int):FnOK Tryz.prog G 125 [i64 v,i64 t] (.agg (faC (gi v t))):=by
 refine cL (rs:=[.cell 4 28]) false [] mixed Tryz.func125 rfl rfl rfl rfl (by kernel_rfl) (by simp) rfl rfl ?_
 simp only[BU,seval]
 exact⟨rfl,by decide,⟨rfl,rfl⟩,rfl⟩
theorem qN (s:Int):FnOK Tryz.prog G 56 [i64 s] (.agg (faC (fC s))):=by
 refine cL (rs:=[.cell 2 28]) false [] mixed Tryz.func56 rfl rfl rfl rfl (by kernel_rfl) (by simp) rfl rfl ?_
 simp only[BU,seval]
 exact⟨rfl,by decide,⟨rfl,rfl⟩,rfl⟩
theorem Uf (s:Int):FnOK Tryz.prog G 57 [i64 s] (.agg (faC (pR s))):=by
 refine cL (rs:=[.cell 2 28]) false [] mixed Tryz.func57 rfl rfl rfl rfl (by kernel_rfl) (by simp) rfl rfl ?_
 simp only[BU,seval]
 exact⟨rfl,by decide,⟨rfl,rfl⟩,rfl⟩
def Aq (a b:Int):Bool:=decide (bits .andNot .i64 a b=0)
theorem PE (a b:Int):FnOK Tryz.prog G 70 [i64 a,i64 b] (bo (Aq a b)):=by
 refine cL (rs:=[.tmp 4]) false [] mixed Tryz.func70 rfl rfl rfl rfl (by kernel_rfl) (by simp) rfl rfl ?_
 have hN:∀ K,pA .andNot .i64 a b K=K (i64 (bits .andNot .i64 a b)):=fun _=>rfl
 simp only[pkA,seval,hN]
 rfl
def BV:=jj @pkA (jj @ptA @pkF)
theorem PG (p:Pol) (t:Int):FnOK Tryz.prog G 69 [.agg (poC p),i64 t] (bo (decide (0≤t)&&decide (t<p.types.length))):=by
 refine cL (rs:=[.tmp 4]) false [] mixed Tryz.func69 rfl rfl rfl rfl (by kernel_rfl) (by simp) rfl rfl ?_
 repeat' first
  |(simp only[BV,seval])
  |refine fY (fun h=>?_) (fun h=>?_)
 all_goals (simp_all<;>omega)
def pT (p:Pol) (t:Nat) (flags:Int):Bool:=match p.types[t]? with | some x=>Aq flags x.flags | none=>false
theorem Ug (p:Pol) (t:Nat) (flags:Int) (hm:p.types.length≤9223372036854775807):FnOK Tryz.prog G 55 [.agg (poC p),i64 t,i64 flags] (bo (pT p t flags)):=by
 refine cL (rs:=[.tmp 6]) false [] mixed Tryz.func55 rfl rfl rfl rfl (by kernel_rfl) (by simp) rfl rfl ?_
 simp only[BV,seval]
 refine aB rfl (PG p t) (fun _=>rfl) ?_
 simp only[pkA,seval]
 refine fY (fun h=>?_) (fun h=>?_)
 ·have ht:t<p.types.length:=by simpa using h
  simp only[BV,seval]
  refine dR pQ rfl oS (by decide) (aA t) (c:=tyC p.types[t]) (by simp[ht]) rfl ?_
  simp only[BV,seval]
  refine aB rfl (PE _ _) (fun _=>rfl) ?_
  simp only[pkA,seval]
  unfold pT
  rw[ae ht]
 ·have ht:¬ t<p.types.length:=by simpa using h
  simp only[pkA,seval]
  unfold pT
  rw[bw (by omega)]
theorem PH (l:List Fa) (x:Fa) (hm:l.length≤9223372036854775807):FnOK Tryz.prog G 165 [.c (fsC l),.agg (faC x)] (i64 (zI (fun y=>decide (x=y)) l)):=by
 refine cL (rs:=[.tmp 4]) false [] mixed Tryz.func165 rfl rfl rfl rfl (by kernel_rfl) (by simp) rfl rfl ?_
 simp only[BU,seval,fsC]
 refine bE (fun i:Nat=>hdS [(0,.c (.sl (l.map faC))),(3,.bp 0 0),(7,i64 l.length),(8,i64 i)] [(faC x).map .c]) (fun i=>l.length - i) (fun i=>i≤l.length∧∀ j (h:j<l.length),j<i→decide (x=l[j])=false) 0 ⟨ar _,fun j h h'=>absurd h' (fL _)⟩ ?_ ?_
 ·refine cD rfl (ar _) (ab _) ?_ (by simp[BL])
  simp[FL,ak]
 rintro i ⟨hi,mH⟩ R cj cJ eP
 simp only[pkA,seval]
 refine aT (fun bK=>?_) (fun gr=>?_)
 ·have bK:i<l.length:=by simpa using bK
  simp only[BV,seval]
  refine dR fk rfl eY (by decide) (aA i) (c:=faC l[i]) (by simp[bK]) rfl ?_
  simp only[BV,seval]
  refine aT (fun hy=>?_) (fun hn=>?_)
  ·simp only[pkA,seval]
   refine eP _ ?_
   simp only[pkA,seval]
   rw[H0 bK hy mH]
  ·have hw:=bG (n:=(i:Int)+1) (k:=i+1) (by omega) (by omega)
   simp only[pkA,seval]
   refine cj (i+1) _ ⟨bK,fun j h hj=>?_⟩ (by omega) (cD rfl (ar _) (ab _) ?_ (by simp[BL,bxs]))
   ·rcases dG j i with h1 | h1
    ·exact mH j h h1
    ·have:j=i:=by omega
     subst this;exact hn
   ·simp[FL,ak,hw]
 ·have:i=l.length:=by simp at gr;omega
  subst this
  simp only[pkA]
  refine cJ _ _ ?_
  simp only[pkA,seval]
  rw[BH (fun j h _=>mH j h h)]
theorem Gb (l:List Fa) (x:Fa) (hm:l.length≤9223372036854775807):FnOK Tryz.prog G 156 [.c (fsC l),.agg (faC x)] (bo (l.any fun y=>decide (x=y))):=by
 refine cL (rs:=[.tmp 4]) false [] mixed Tryz.func156 rfl rfl rfl rfl (by kernel_rfl) (by simp) rfl rfl ?_
 simp only[BV,seval]
 refine aB rfl (PH l x hm) (fun _=>rfl) ?_
 simp only[pkA,seval]
 rw[xN]
theorem PI (l:List Int) (x:Int) (hm:l.length≤9223372036854775807):FnOK Tryz.prog G 167 [.c (.sl (l.map fun y=>[cI y])),i64 x] (i64 (zI (fun y=>decide (x=y)) l)):=by
 refine cL (rs:=[.tmp 4]) false [] mixed Tryz.func167 rfl rfl rfl rfl (by kernel_rfl) (by simp) rfl rfl ?_
 simp only[BU,seval]
 refine bE (fun i:Nat=>hdS [(0,.c (.sl (l.map fun y=>[cI y]))),(1,i64 x),(7,i64 l.length),(8,i64 i)] []) (fun i=>l.length - i) (fun i=>i≤l.length∧∀ j (h:j<l.length),j<i→decide (x=l[j])=false) 0 ⟨ar _,fun j h h'=>absurd h' (fL _)⟩ ?_ ?_
 ·refine cD rfl (ar _) (ab _) ?_ trivial
  simp[FL,ak]
 rintro i ⟨hi,mH⟩ R cj cJ eP
 simp only[pkA,seval]
 refine aT (fun bK=>?_) (fun gr=>?_)
 ·have bK:i<l.length:=by simpa using bK
  simp only[pkA,seval]
  refine dR oT rfl rS (by decide) (aA i) (c:=[cI l[i]]) (by simp[bK]) rfl ?_
  have e0:∀ K,dC false 1 0 [cI l[i]] K=K (i64 l[i]):=fun _=>rfl
  simp only[BU,seval,e0]
  refine aT (fun hy=>?_) (fun hn=>?_)
  ·simp only[pkA,seval]
   refine eP _ ?_
   simp only[pkA,seval]
   rw[H0 bK hy mH]
  ·have hw:=bG (n:=(i:Int)+1) (k:=i+1) (by omega) (by omega)
   simp only[pkA,seval]
   refine cj (i+1) _ ⟨bK,fun j h hj=>?_⟩ (by omega) (cD rfl (ar _) (ab _) ?_ trivial)
   ·rcases dG j i with h1 | h1
    ·exact mH j h h1
    ·have:j=i:=by omega
     subst this;exact hn
   ·simp[FL,ak,hw]
 ·have:i=l.length:=by simp at gr;omega
  subst this
  simp only[pkA]
  refine cJ _ _ ?_
  simp only[pkA,seval]
  rw[BH (fun j h _=>mH j h h)]
theorem Gc (l:List Int) (x:Int) (hm:l.length≤9223372036854775807):FnOK Tryz.prog G 164 [.c (.sl (l.map fun y=>[cI y])),i64 x] (bo (l.any fun y=>decide (x=y))):=by
 refine cL (rs:=[.tmp 4]) false [] mixed Tryz.func164 rfl rfl rfl rfl (by kernel_rfl) (by simp) rfl rfl ?_
 simp only[pkA,seval]
 refine aB rfl (PI l x hm) (fun _=>rfl) ?_
 simp only[pkA,seval]
 rw[xN]
