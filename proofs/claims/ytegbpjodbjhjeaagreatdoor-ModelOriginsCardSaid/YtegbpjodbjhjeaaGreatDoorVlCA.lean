/- Check, Valid of the reference of layer 13. -/
import Derived.Test.YtegbpjodbjhjeaaGreatDoorKpVlChk
import Derived.Test.YtegbpjodbjhjeaaGreatDoorKpVlFun2
import Derived.Test.YtegbpjodbjhjeaaGreatDoorVlPanicB
import Derived.Test.YtegbpjodbjhjeaaGreatDoorVlWord
import Derived.WalkKit
import Derived.Recover
import Derived.Tactics
import Derived.Test.YtegbpjodbjhjeaaGreatDoorKpVlErr
import Derived.Test.YtegbpjodbjhjeaaGreatDoorVlBridge
set_option linter.all false
namespace Go.Proofs.YtegbpjodbjhjeaaGreatDoor.Kp
open Go Go.Vl
set_option maxRecDepth 10000
end Go.Proofs.YtegbpjodbjhjeaaGreatDoor.Kp
namespace Go.Proofs.YtegbpjodbjhjeaaGreatDoor
open Go Go.Vl
open Kp (Pol Ty Ru Qu)
structure Hd where
 ty:Int
 va:Tm
 deriving DecidableEq
structure Sy where
 hs:List Hd
 its:List Tm
 os:List Hd
 rs:List Tm
 fresh:Int
 deriving DecidableEq
structure Cl where
 kind:Int
 a:Int
 b:Int
 m:Int
 t:Int
 deriving DecidableEq
def sy0:Sy:=⟨[],[],[],[],0⟩
def vY {α:Type} (l:List α) (k:Int):Option α:=if 0≤k then l[k.toNat]? else none
theorem ED {α:Type} {l:List α} {k:Nat} (h:k<l.length):vY l (k:Int)=some l[k]:=by simp[vY,h]
theorem Cp {α:Type} {l:List α} {k:Int} {x:α} (h:vY l k=some x):∃ i:Nat,k=i∧∃ h:i<l.length,l[i]=x:=by
 unfold vY at h
 split at h
 ·rename_i h0
  obtain⟨h1,h2⟩:=ak.1 h
  exact⟨k.toNat,by omega,h1,h2⟩
 ·cases h
theorem oG {α:Type} {l:List α} {k:Int}:vY l k=none↔¬ (0≤k∧k<l.length):=by
 unfold vY
 split
 ·rename_i h0
  rw[List.getElem?_eq_none_iff];omega
 ·simp;omega
def inI (k n:Int):Bool:=decide (0≤k)&&decide (k<n)
theorem Tk {α:Type} {l:List α} {k:Int}:inI k l.length=(vY l k).isSome:=by
 cases h:vY l k with
 |none=>
  have:=oG.1 h
  simp only[inI,kg,Bool.and_eq_false_iff,cm];omega
 |some x=>
  obtain⟨i,rfl,hi,_⟩:=Cp h
  simp[inI,hi]
def knS (s:Sy) (t:Tm):Bool:=knT s.its t
def orS (s:Sy) (t:Tm):Int:=match s.os.find? (fun o=>decide (o.va=t)) with
 |some o=>o.ty
 |none=>-1
def qd (s:Sy) (t:Tm):Int:=if ej t=true then(if knS s t=true then 0 else orS s t+1) else -1
def JU (a b:Int):Bool:=decide (bits .andNot .i64 a b=0)
def kw (p:Pol) (t flags:Int):Bool:=match vY p.types t with | some x=>JU flags x.flags | none=>false
def oh (p:Pol) (k a b:Int):Bool:=decide ((⟨k,a,b⟩:Ru)∈p.rules)
abbrev Ou:=Except Int Sy
def er (b:Bool) (e:Int):Except Int Unit:=if b=true then .ok () else .error e
def ofI {α:Type} (l:List α) (k:Int):Except Int α:=match vY l k with | some x=>.ok x | none=>.error 1
def mJ (s:Sy) (t:Int) (v:Tm):Ou:=if s.hs.length<100∧br v≤100 then .ok { s with hs:=s.hs++[⟨t,v⟩] } else .error 2
def fP (s:Sy) (v:Tm):Ou:=if s.its.length<100∧br v≤100 then .ok { s with its:=s.its++[v] } else .error 2
def mkM (s:Sy) (t:Int) (v:Tm):Sy:={ s with os:=s.os++[⟨t,v⟩] }
def iS (t key:Tm) (kinds:List Int):Except Int Tm:=if t.kind∈kinds∧t.l[0]?=some key then .ok (t.l.getD 1 lN) else .error 8
def o7 (p:Pol) (t:Int):Except Int Unit:=er (inI t p.types.length) 1
def im (a b:Tm):Tm:=.mk 3 0 [a,b]
def doM (p:Pol) (s:Sy) (c:Cl):Nat→Ou
 |1=>do o7 p c.t;er (kw p c.t 1) 10;let s1 ← mJ s c.t (.mk 2 s.fresh []);.ok { mkM s1 c.t (.mk 2 s.fresh []) with fresh:=s.fresh+1 }
 |2=>do let x ← ofI s.its c.m;o7 p c.t;er (ej x) 1;er (kw p c.t 2) 10;mJ s c.t x
 |3=>do let a ← ofI s.hs c.a;er (kw p a.ty 4) 10;fP s a.va
 |4=>do let a ← ofI s.hs c.a;let x ← ofI s.its c.m;er (kw p a.ty 8) 10;fP s (im a.va x)
 |5=>do let a ← ofI s.hs c.a;let x ← ofI s.its c.m;er (kw p a.ty 16) 10;let y ← iS x a.va [3];fP s y
 |6=>do let a ← ofI s.hs c.a;let x ← ofI s.its c.m;er (kw p a.ty 32) 10;fP s (.mk 6 0 [a.va,x])
 |7=>do let a ← ofI s.hs c.a;let b ← ofI s.hs c.b;er (oh p 1 a.ty b.ty) 10;fP s (.mk 4 b.ty [a.va,b.va])
 |8=>do let a ← ofI s.hs c.a;let x ← ofI s.its c.m;let y ← iS x a.va [4];er (oh p 2 a.ty x.n) 10;mJ s x.n y
 |9=>do let a ← ofI s.hs c.a;let b ← ofI s.hs c.b;er (oh p 3 a.ty b.ty) 10;fP s (im a.va b.va)
 |10=>do
   let a ← ofI s.hs c.a;let x ← ofI s.its c.m;o7 p c.t;er (oh p 4 a.ty c.t) 10;let y ← iS x a.va [3];er (ej y) 1
   let s1 ← mJ s c.t y;.ok (if knS s1 y=true then s1 else { s1 with rs:=s1.rs++[y] })
 |11=>do
   let a ← ofI s.hs c.a;o7 p c.t;er (oh p 5 a.ty c.t) 10
   let s1 ← mJ s c.t (.mk 5 c.t [a.va]);.ok (if knS s a.va=false∧orS s (.mk 5 c.t [a.va])<0 then mkM s1 c.t (.mk 5 c.t [a.va]) else s1)
 |12=>do er (inI c.t 2147483648) 1;fP s (.mk 1 c.t [])
 |13=>do let a ← ofI s.its c.a;let x ← ofI s.its c.m;er (ej a) 1;fP s (im a x)
 |14=>do let a ← ofI s.its c.a;let x ← ofI s.its c.m;o7 p c.t;er (ej a) 1;er (ej x) 1;fP s (.mk 4 c.t [a,x])
 |15=>do let a ← ofI s.its c.a;o7 p c.t;er (ej a) 1;fP s (.mk 5 c.t [a])
 |16=>do let a ← ofI s.its c.a;let x ← ofI s.its c.m;let y ← iS x a [3,4];fP s y
 |_=>.error 1
def bN (p:Pol) (s:Sy) (c:Cl):Ou:=do er (inI (c.kind - 1) 16&&Kp.gQ p) 1;doM p s c c.kind.toNat
def stR (o:Ou):Sy×Int:=match o with
 | .ok s=>(s,0)
 | .error e=>(sy0,e)
def mE (p:Pol):Sy→Nat→List Cl→Sy×Nat×Int
 |s,n,[]=>(s,n,0)
 |s,n,c::l=>match bN p s c with
  | .ok s'=>mE p s' (n+1) l
  | .error e=>(s,n,e)
open Kp (Pol Ty Ru Qu poC tyC ruC quC)
variable {G:Gl}
set_option maxRecDepth 10000
def hdC (h:Hd):List C:=[cI h.ty,cI h.va.kind,cI h.va.n,tsC h.va.l]
def hsC (l:List Hd):C:=.sl (l.map hdC)
def syC (s:Sy):List C:=[hsC s.hs,tsC s.its,hsC s.os,tsC s.rs,cI s.fresh]
def clC (c:Cl):List C:=[cI c.kind,cI c.a,cI c.b,cI c.m,cI c.t]
theorem Tl (h:Hd):hdC h=cI h.ty::tmC h.va:=by rw[jX];rfl
theorem fi (h:Hd):(hdC h).length=4:=rfl
theorem Xa (s:Sy):(syC s).length=5:=rfl
theorem Lz (c:Cl):(clC c).length=5:=rfl
def mC (p:Pol) (s:Sy) (c:Cl):List C:=[.lit (.string p.name),.sl (p.types.map tyC),.sl (p.rules.map ruC),.sl (p.quorums.map quC),hsC s.hs,tsC s.its,hsC s.os,tsC s.rs,cI s.fresh,cI c.kind,cI c.a,cI c.b,cI c.m,cI c.t]
def mB (p:Pol) (s:Sy) (c:Cl):List V:=(mC p s c).map .c
section
variable {p:Pol} {s:Sy} {c:Cl} {nb q:Nat} {K:V→Prop}
theorem Yh:cX (mB p s c)=false:=rfl
theorem agi:ldA nb q (mB p s c) 0 4 K=(q<nb∧K (.agg (poC p))):=by
 unfold ldA
 exact propext ⟨fun h=>⟨h.1,h.2.2⟩,fun h=>⟨h.1,⟨rfl,rfl⟩,h.2⟩⟩
theorem agj:ldB nb q (mB p s c) 1 K=(q<nb∧K (.c (.sl (p.types.map tyC)))):=rfl
theorem agk:ldB nb q (mB p s c) 4 K=(q<nb∧K (.c (hsC s.hs))):=rfl
theorem agl:ldB nb q (mB p s c) 5 K=(q<nb∧K (.c (tsC s.its))):=rfl
theorem agm:ldB nb q (mB p s c) 6 K=(q<nb∧K (.c (hsC s.os))):=rfl
theorem agn:ldB nb q (mB p s c) 7 K=(q<nb∧K (.c (tsC s.rs))):=rfl
theorem ago:ldB nb q (mB p s c) 8 K=(q<nb∧K (i64 s.fresh)):=rfl
theorem agp:ldB nb q (mB p s c) 9 K=(q<nb∧K (i64 c.kind)):=rfl
theorem adN:ldB nb q (mB p s c) 10 K=(q<nb∧K (i64 c.a)):=rfl
theorem adO:ldB nb q (mB p s c) 11 K=(q<nb∧K (i64 c.b)):=rfl
theorem adP:ldB nb q (mB p s c) 12 K=(q<nb∧K (i64 c.m)):=rfl
theorem adQ:ldB nb q (mB p s c) 13 K=(q<nb∧K (i64 c.t)):=rfl
theorem xt {m:Nat}:(mB p s c).all (fun x=>x.ltB m)=true:=rfl
theorem aa6 {ρ:Nat→Nat}:(mB p s c).map (V.ren ρ)=mB p s c:=rfl
end
def pkM:=jj @Yh (jj @agi (jj @agj (jj @agk (jj @agl (jj @agm (jj @agn (jj @ago (jj @agp (jj @adN (jj @adO (jj @adP (jj @adQ @fi))))))))))))
theorem dA {p:Pol} {s:Sy} {c:Cl} {xs:List V} (h:xs.all (fun x=>x.ltB 1)=true):eC xs [mB p s c]=true:=by
 simp only[eC,aR,bb,xt,aB,aK,h];rfl
theorem agq:KU Tryz.prog 95:=fun u w=>by
 unfold Instr.makeInterface
 simp[aH]
def pnV (e:Int):Value:=.iface 95 (.int .i64 e)
theorem gU (e:Int):FnOK Tryz.prog G 85 [bo true,i64 e] (.tup []):=by
 refine bP (rs:=[]) false [] mixed Tryz.func85 rfl rfl rfl rfl (by kernel_rfl) (by simp) rfl rfl ?_
 simp only[pkA,seval]
 exact dl
theorem jY (e:Int):FnX Tryz.prog G 85 [bo false,i64 e] [] (pnV e) []:=by
 refine Ra (k:=0) [3000000,2900001] mixed Tryz.func85 rfl rfl rfl (by kernel_rfl) (by simp) rfl rfl rfl (by simp) ?_
 simp only[pkX,pkA,a8,seval,ah]
 refine V2 agq rfl ?_
 exact cT (by simp) rfl (by simp) trivial
set_option maxRecDepth 100000
theorem Tn:Tryz.prog.cellsOf 29=5:=by kernel_rfl
def adR (c:Cl):Prop:=I64 c.kind∧I64 c.a∧I64 c.b∧I64 c.m∧I64 c.t
theorem adS {xs:List C} (h:xh Tryz.prog 29 xs):∃ c:Cl,xs=clC c∧adR c:=by
 obtain⟨hl,hf⟩:=o0 Tryz.underlying29 h
 rw[Tn] at hl
 match xs,hl with
 |[x0,x1,x2,x3,x4],_=>
  have h0:=hf _ (by simp;exact .inl rfl)
  have h1:=hf _ (by simp;exact .inr (.inl rfl))
  have h2:=hf _ (by simp;exact .inr (.inr (.inl rfl)))
  have h3:=hf _ (by simp;exact .inr (.inr (.inr (.inl rfl))))
  have h4:=hf _ (by simp;exact .inr (.inr (.inr (.inr rfl))))
  simp only[Kp.tC,eM,iI,fe,kV] at h0 h1 h2 h3 h4
  obtain⟨a0,e0,k0⟩:=Kp.lO h0
  obtain⟨a1,e1,k1⟩:=Kp.lO h1
  obtain⟨a2,e2,k2⟩:=Kp.lO h2
  obtain⟨a3,e3,k3⟩:=Kp.lO h3
  obtain⟨a4,e4,k4⟩:=Kp.lO h4
  cases e0;cases e1;cases e2;cases e3;cases e4
  exact⟨⟨a0,a1,a2,a3,a4⟩,rfl,k0,k1,k2,k3,k4⟩
theorem Xb:c9 Tryz.prog 27=false:=by kernel_rfl
theorem LA {x:V} (h:∃ n cs,Shp Tryz.prog n 27 cs∧x=Bg Tryz.prog 27 cs):∃ l:List Cl,x=.c (.sl (l.map clC))∧l.length≤maxLen∧∀ c∈l,adR c:=by
 obtain⟨n,cs,h,rfl⟩:=h
 obtain⟨es,e,hl,hk⟩:=tw Tryz.underlying27 ⟨n,h⟩
 obtain⟨l,rfl,hq⟩:=vO fun x hx=>adS (hk x hx)
 cases e
 exact⟨l,by unfold Bg;rw[Xb,if_neg (by decide)];rfl,by simpa using hl,hq⟩
