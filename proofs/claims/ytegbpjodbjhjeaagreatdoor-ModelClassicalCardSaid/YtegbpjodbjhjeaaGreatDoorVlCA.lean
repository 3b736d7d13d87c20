/- Check, Valid of the reference of layer 13. -/
import Derived.Test.YtegbpjodbjhjeaaGreatDoorKpVlChk
import Derived.Test.YtegbpjodbjhjeaaGreatDoorKpVlFun2
import Derived.Test.YtegbpjodbjhjeaaGreatDoorVlPanicB
import Derived.Test.YtegbpjodbjhjeaaGreatDoorVlWord
import Derived.WalkKit
import Derived.Recover
import Derived.Tactics
import Derived.Test.YtegbpjodbjhjeaaGreatDoorKpVlErr
import Derived.Test.YtegbpjodbjhjeaaGreatDoorVlBridge
set_option linter.all false
namespace Go.Proofs.YtegbpjodbjhjeaaGreatDoor.Kp
open Go Go.Vl
set_option maxRecDepth 10000
def u7:=jj @pkA (jj @ptA @pkP)
set_option maxHeartbeats 4000000 in
theorem Iw {G:Gl} (p:Pol) (hp:PolIn p) (Jl:gj p≤4611686018427387904) :
 FnOK Tryz.prog G 65 [.agg (poC p)] (.tup [i64 (chk p).1,i64 (chk p).2]):=by
 refine bE (rs:=[.tmp 2,.tmp 3]) false [] mixed Tryz.func65 rfl rfl rfl rfl (by kernel_rfl) (by simp) rfl rfl ?_
 obtain⟨o1,o2,o3⟩:=hp.ok
 have hit:gj p=p.types.length+p.rules.length+p.quorums.length:=rfl
 simp only[u7,seval]
 refine ay rfl (Bs _ hp.nm) (fun _=>rfl) ?_
 simp only[pkA,seval]
 refine aL (fun hn=>?_) (fun hn=>?_)
 ·have hn:mY p.name=false:=by simpa using hn
  simp only[pkA,seval]
  rw[Iv hn]
  refine lW ?_ ?_<;>simp only[pkA,seval]
 have hn:mY p.name=true:=by simpa using hn
 simp only[pkA,seval]
 refine ck (fun i:Nat=>hdS [(1,.bp 0 0),(5,i64 i)] [(poC p).map .c]) (fun i=>p.types.length - i) (fun i=>i≤p.types.length∧∀ j,j<i→itE p j=0) 0 ⟨ar _,by simp⟩ ?_ ?_
 ·refine bT (by simp only[eQ,aN,aX,eM,aC,aH];rfl) (ar _) (by simp) (by simp[FL,au]) (by simp[BL])
 rintro i ⟨hi,fm⟩ R bS cd cX
 simp only[u7,seval,am]
 refine aL (fun bB=>?_) (fun fA=>?_)
 ·have ht:i<p.types.length:=by simpa using bB
  have hw:=ei (n:=(i:Int)+1) (k:=i+1) (by omega) (by omega)
  have bad:itE p i≠0→chk p=((i:Int),itE p i):=fun h=>FQ hn (by omega) h fm
  have good:itE p i=0→∀ j,j<i+1→itE p j=0:=fun h j hj=>by
   rcases ct j i with q | q
   ·exact fm j q
   ·have:j=i:=by omega
    subst this;exact h
  have e:itE p i=tD p.types i p.types[i]:=by unfold itE;rw[if_pos ht,Ux ht]
  rw[e] at bad good
  simp only[u7,seval]
  refine ay rfl (uv p.types i ht o1 hp.tn) (fun _=>rfl) ?_
  simp only[pkA,seval]
  refine aL (fun hb=>?_) (fun hg=>?_)
  ·simp only[pkA,seval]
   refine cX _ ?_
   simp only[pkA]
   rw[bad (by simpa using hb)]
   refine lW ?_ ?_<;>simp only[pkA,seval]
  ·simp only[pkA,seval,hw]
   exact bS (i+1) _ ⟨ht,good (by simpa using hg)⟩ (by omega) (bT (by simp only[eQ,aN,aX,eM,aC,aH];rfl) (ar _) (by simp) (by simp[FL,au]) (by simp[BL,bxs]))
 have:i=p.types.length:=by simp at fA;omega
 subst this
 simp only[pkA]
 refine cd _ _ ?_
 clear cd cX bS fA hi
 simp only[pkA,seval]
 refine ck (fun i:Nat=>hdS [(1,.bp 0 0),(7,i64 i)] [(poC p).map .c]) (fun i=>p.rules.length - i) (fun i=>i≤p.rules.length∧∀ j,j<p.types.length+i→itE p j=0) 0 ⟨ar _,fm⟩ ?_ ?_
 ·refine bT (by simp only[eQ,aN,aX,eM,aC,aH];rfl) (ar _) (by simp) (by simp[FL,au]) (by simp[BL,bxs])
 clear fm
 rintro i ⟨hi,fm⟩ R bS cd cX
 simp only[u7,seval,am]
 refine aL (fun bB=>?_) (fun fA=>?_)
 ·have ht:i<p.rules.length:=by simpa using bB
  have hw:=ei (n:=(i:Int)+1) (k:=i+1) (by omega) (by omega)
  have ll:=ei (n:=(p.types.length:Int)+i) (k:=p.types.length+i) (by omega) (by omega)
  have bad:itE p (p.types.length+i)≠0→chk p=(((p.types.length+i:Nat):Int),itE p (p.types.length+i)):=fun h=>FQ hn (by omega) h fm
  have good:itE p (p.types.length+i)=0→∀ j,j<p.types.length+(i+1)→itE p j=0:=fun h j hj=>by
   rcases ct j (p.types.length+i) with q | q
   ·exact fm j q
   ·have:j=p.types.length+i:=by omega
    subst this;exact h
  have e:itE p (p.types.length+i)=tG p.rules i p.types.length p.rules[i]:=by
   unfold itE;rw[if_neg (by omega),if_pos (by omega),Nat.add_sub_cancel_left,Uy ht]
  rw[e] at bad good
  simp only[u7,seval,am]
  refine ay rfl (PE p.rules i p.types.length ht o2 (by omega)) (fun _=>rfl) ?_
  simp only[pkA,seval]
  refine aL (fun hb=>?_) (fun hg=>?_)
  ·simp only[u7,seval,am,ll]
   refine cX _ ?_
   simp only[pkA]
   rw[bad (by simpa using hb)]
   refine lW ?_ ?_<;>simp only[pkA,seval]
  ·simp only[pkA,seval,hw]
   exact bS (i+1) _ ⟨ht,good (by simpa using hg)⟩ (by omega) (bT (by simp only[eQ,aN,aX,eM,aC,aH];rfl) (ar _) (by simp) (by simp[FL,au]) (by simp[BL,bxs]))
 have:i=p.rules.length:=by simp at fA;omega
 subst this
 simp only[pkA]
 refine cd _ _ ?_
 clear cd cX bS fA hi
 simp only[pkA,seval]
 refine ck (fun i:Nat=>hdS [(1,.bp 0 0),(9,i64 i)] [(poC p).map .c]) (fun i=>p.quorums.length - i) (fun i=>i≤p.quorums.length∧∀ j,j<p.types.length+p.rules.length+i→itE p j=0) 0 ⟨ar _,fm⟩ ?_ ?_
 ·refine bT (by simp only[eQ,aN,aX,eM,aC,aH];rfl) (ar _) (by simp) (by simp[FL,au]) (by simp[BL,bxs])
 clear fm
 rintro i ⟨hi,fm⟩ R bS cd cX
 simp only[u7,seval,am]
 refine aL (fun bB=>?_) (fun fA=>?_)
 ·have ht:i<p.quorums.length:=by simpa using bB
  have hw:=ei (n:=(i:Int)+1) (k:=i+1) (by omega) (by omega)
  have ll:=ei (n:=(p.types.length:Int)+p.rules.length) (k:=p.types.length+p.rules.length) (by omega) (by omega)
  have hw3:=ei (n:=((p.types.length+p.rules.length:Nat):Int)+i) (k:=p.types.length+p.rules.length+i) (by omega) (by omega)
  have bad:itE p (p.types.length+p.rules.length+i)≠0→chk p=(((p.types.length+p.rules.length+i:Nat):Int),itE p (p.types.length+p.rules.length+i)):=fun h=>FQ hn (by omega) h fm
  have good:itE p (p.types.length+p.rules.length+i)=0→∀ j,j<p.types.length+p.rules.length+(i+1)→itE p j=0:=fun h j hj=>by
   rcases ct j (p.types.length+p.rules.length+i) with q | q
   ·exact fm j q
   ·have:j=p.types.length+p.rules.length+i:=by omega
    subst this;exact h
  have e:itE p (p.types.length+p.rules.length+i)=u6 p.quorums i p.quorums[i]:=by
   have:p.types.length+p.rules.length+i - p.types.length - p.rules.length=i:=by omega
   unfold itE;rw[if_neg (by omega),if_neg (by omega),this,Uz ht]
  rw[e] at bad good
  simp only[u7,seval]
  refine ay rfl (It p.quorums i ht o3) (fun _=>rfl) ?_
  simp only[pkA,seval]
  refine aL (fun hb=>?_) (fun hg=>?_)
  ·simp only[u7,seval,am,ll,hw3]
   refine cX _ ?_
   simp only[pkA]
   rw[bad (by simpa using hb)]
   refine lW ?_ ?_<;>simp only[pkA,seval]
  ·simp only[pkA,seval,hw]
   exact bS (i+1) _ ⟨ht,good (by simpa using hg)⟩ (by omega) (bT (by simp only[eQ,aN,aX,eM,aC,aH];rfl) (ar _) (by simp) (by simp[FL,au]) (by simp[BL,bxs]))
 have:i=p.quorums.length:=by simp at fA;omega
 subst this
 simp only[pkA]
 refine cd _ _ ?_
 simp only[pkA,seval]
 rw[Iu hn fm]
 refine lW ?_ ?_<;>simp only[pkA,seval]
set_option maxHeartbeats 1000000 in
theorem Ix {G:Gl} (p:Pol) (hp:PolIn p) (Jl:gj p≤4611686018427387904):FnOK Tryz.prog G 29 [.agg (poC p)] (bo (gu p)):=by
 refine bE (rs:=[.tmp 2]) false [] mixed Tryz.func29 rfl rfl rfl rfl (by kernel_rfl) (by simp) rfl rfl ?_
 simp only[u7,seval]
 refine ay rfl (Iw p hp Jl) (fun h=>by cases h) ?_
 simp only[pkA,seval]
 rfl
end Go.Proofs.YtegbpjodbjhjeaaGreatDoor.Kp
namespace Go.Proofs.YtegbpjodbjhjeaaGreatDoor
open Go Go.Vl
open Kp (Pol Ty Ru Qu)
structure Hd where
 ty:Int
 va:Tm
 deriving DecidableEq
structure Sy where
 hs:List Hd
 its:List Tm
 os:List Hd
 rs:List Tm
 fresh:Int
 deriving DecidableEq
structure Cl where
 kind:Int
 a:Int
 b:Int
 m:Int
 t:Int
 deriving DecidableEq
def sy0:Sy:=⟨[],[],[],[],0⟩
def uL {α:Type} (l:List α) (k:Int):Option α:=if 0≤k then l[k.toNat]? else none
theorem zS {α:Type} {l:List α} {k:Nat} (h:k<l.length):uL l (k:Int)=some l[k]:=by simp[uL,h]
theorem yz {α:Type} {l:List α} {k:Int} {x:α} (h:uL l k=some x):∃ i:Nat,k=i∧∃ h:i<l.length,l[i]=x:=by
 unfold uL at h
 split at h
 ·rename_i h0
  obtain⟨h1,h2⟩:=ak.1 h
  exact⟨k.toNat,by omega,h1,h2⟩
 ·cases h
theorem o8 {α:Type} {l:List α} {k:Int}:uL l k=none↔¬ (0≤k∧k<l.length):=by
 unfold uL
 split
 ·rename_i h0
  rw[List.getElem?_eq_none_iff];omega
 ·simp;omega
def inI (k n:Int):Bool:=decide (0≤k)&&decide (k<n)
theorem Iy {α:Type} {l:List α} {k:Int}:inI k l.length=(uL l k).isSome:=by
 cases h:uL l k with
 |none=>
  have:=o8.1 h
  simp only[inI,kA,Bool.and_eq_false_iff,b9];omega
 |some x=>
  obtain⟨i,rfl,hi,_⟩:=yz h
  simp[inI,hi]
def knS (s:Sy) (t:Tm):Bool:=knT s.its t
def orS (s:Sy) (t:Tm):Int:=match s.os.find? (fun o=>decide (o.va=t)) with
 |some o=>o.ty
 |none=>-1
def qA (s:Sy) (t:Tm):Int:=if eC t=true then(if knS s t=true then 0 else orS s t+1) else -1
def FR (a b:Int):Bool:=decide (bits .andNot .i64 a b=0)
def jE (p:Pol) (t flags:Int):Bool:=match uL p.types t with | some x=>FR flags x.flags | none=>false
def mH (p:Pol) (k a b:Int):Bool:=decide ((⟨k,a,b⟩:Ru)∈p.rules)
abbrev Ou:=Except Int Sy
def eH (b:Bool) (e:Int):Except Int Unit:=if b=true then .ok () else .error e
def ofI {α:Type} (l:List α) (k:Int):Except Int α:=match uL l k with | some x=>.ok x | none=>.error 1
def m7 (s:Sy) (t:Int) (v:Tm):Ou:=if s.hs.length<100∧bq v≤100 then .ok { s with hs:=s.hs++[⟨t,v⟩] } else .error 2
def gk (s:Sy) (v:Tm):Ou:=if s.its.length<100∧bq v≤100 then .ok { s with its:=s.its++[v] } else .error 2
def mkM (s:Sy) (t:Int) (v:Tm):Sy:={ s with os:=s.os++[⟨t,v⟩] }
def jc (t key:Tm) (kinds:List Int):Except Int Tm:=if t.kind∈kinds∧t.l[0]?=some key then .ok (t.l.getD 1 ma) else .error 8
def pC (p:Pol) (t:Int):Except Int Unit:=eH (inI t p.types.length) 1
def iC (a b:Tm):Tm:=.mk 3 0 [a,b]
def doM (p:Pol) (s:Sy) (c:Cl):Nat→Ou
 |1=>do pC p c.t;eH (jE p c.t 1) 10;let s1 ← m7 s c.t (.mk 2 s.fresh []);.ok { mkM s1 c.t (.mk 2 s.fresh []) with fresh:=s.fresh+1 }
 |2=>do let x ← ofI s.its c.m;pC p c.t;eH (eC x) 1;eH (jE p c.t 2) 10;m7 s c.t x
 |3=>do let a ← ofI s.hs c.a;eH (jE p a.ty 4) 10;gk s a.va
 |4=>do let a ← ofI s.hs c.a;let x ← ofI s.its c.m;eH (jE p a.ty 8) 10;gk s (iC a.va x)
 |5=>do let a ← ofI s.hs c.a;let x ← ofI s.its c.m;eH (jE p a.ty 16) 10;let y ← jc x a.va [3];gk s y
 |6=>do let a ← ofI s.hs c.a;let x ← ofI s.its c.m;eH (jE p a.ty 32) 10;gk s (.mk 6 0 [a.va,x])
 |7=>do let a ← ofI s.hs c.a;let b ← ofI s.hs c.b;eH (mH p 1 a.ty b.ty) 10;gk s (.mk 4 b.ty [a.va,b.va])
 |8=>do let a ← ofI s.hs c.a;let x ← ofI s.its c.m;let y ← jc x a.va [4];eH (mH p 2 a.ty x.n) 10;m7 s x.n y
 |9=>do let a ← ofI s.hs c.a;let b ← ofI s.hs c.b;eH (mH p 3 a.ty b.ty) 10;gk s (iC a.va b.va)
 |10=>do
   let a ← ofI s.hs c.a;let x ← ofI s.its c.m;pC p c.t;eH (mH p 4 a.ty c.t) 10;let y ← jc x a.va [3];eH (eC y) 1
   let s1 ← m7 s c.t y;.ok (if knS s1 y=true then s1 else { s1 with rs:=s1.rs++[y] })
 |11=>do
   let a ← ofI s.hs c.a;pC p c.t;eH (mH p 5 a.ty c.t) 10
   let s1 ← m7 s c.t (.mk 5 c.t [a.va]);.ok (if knS s a.va=false∧orS s (.mk 5 c.t [a.va])<0 then mkM s1 c.t (.mk 5 c.t [a.va]) else s1)
 |12=>do eH (inI c.t 2147483648) 1;gk s (.mk 1 c.t [])
 |13=>do let a ← ofI s.its c.a;let x ← ofI s.its c.m;eH (eC a) 1;gk s (iC a x)
 |14=>do let a ← ofI s.its c.a;let x ← ofI s.its c.m;pC p c.t;eH (eC a) 1;eH (eC x) 1;gk s (.mk 4 c.t [a,x])
 |15=>do let a ← ofI s.its c.a;pC p c.t;eH (eC a) 1;gk s (.mk 5 c.t [a])
 |16=>do let a ← ofI s.its c.a;let x ← ofI s.its c.m;let y ← jc x a [3,4];gk s y
 |_=>.error 1
def bM (p:Pol) (s:Sy) (c:Cl):Ou:=do eH (inI (c.kind - 1) 16&&Kp.gu p) 1;doM p s c c.kind.toNat
def stR (o:Ou):Sy×Int:=match o with
 | .ok s=>(s,0)
 | .error e=>(sy0,e)
def ji (p:Pol):Sy→Nat→List Cl→Sy×Nat×Int
 |s,n,[]=>(s,n,0)
 |s,n,c::l=>match bM p s c with
  | .ok s'=>ji p s' (n+1) l
  | .error e=>(s,n,e)
open Kp (Pol Ty Ru Qu poC tyC ruC quC)
variable {G:Gl}
set_option maxRecDepth 10000
def hdC (h:Hd):List C:=[cI h.ty,cI h.va.kind,cI h.va.n,tsC h.va.l]
def hsC (l:List Hd):C:=.sl (l.map hdC)
def syC (s:Sy):List C:=[hsC s.hs,tsC s.its,hsC s.os,tsC s.rs,cI s.fresh]
def clC (c:Cl):List C:=[cI c.kind,cI c.a,cI c.b,cI c.m,cI c.t]
theorem UB (h:Hd):hdC h=cI h.ty::tmC h.va:=by rw[j8];rfl
theorem fi (h:Hd):(hdC h).length=4:=rfl
theorem Yq (s:Sy):(syC s).length=5:=rfl
theorem xd (c:Cl):(clC c).length=5:=rfl
def mC (p:Pol) (s:Sy) (c:Cl):List C:=[.lit (.string p.name),.sl (p.types.map tyC),.sl (p.rules.map ruC),.sl (p.quorums.map quC),hsC s.hs,tsC s.its,hsC s.os,tsC s.rs,cI s.fresh,cI c.kind,cI c.a,cI c.b,cI c.m,cI c.t]
def mB (p:Pol) (s:Sy) (c:Cl):List V:=(mC p s c).map .c
section
variable {p:Pol} {s:Sy} {c:Cl} {nb q:Nat} {K:V→Prop}
theorem Zw:dc (mB p s c)=false:=rfl
theorem ahp:ldA nb q (mB p s c) 0 4 K=(q<nb∧K (.agg (poC p))):=by
 unfold ldA
 exact propext ⟨fun h=>⟨h.1,h.2.2⟩,fun h=>⟨h.1,⟨rfl,rfl⟩,h.2⟩⟩
theorem ahq:ldB nb q (mB p s c) 1 K=(q<nb∧K (.c (.sl (p.types.map tyC)))):=rfl
theorem ahr:ldB nb q (mB p s c) 4 K=(q<nb∧K (.c (hsC s.hs))):=rfl
theorem ahs:ldB nb q (mB p s c) 5 K=(q<nb∧K (.c (tsC s.its))):=rfl
theorem aht:ldB nb q (mB p s c) 6 K=(q<nb∧K (.c (hsC s.os))):=rfl
theorem ahu:ldB nb q (mB p s c) 7 K=(q<nb∧K (.c (tsC s.rs))):=rfl
theorem ahv:ldB nb q (mB p s c) 8 K=(q<nb∧K (i64 s.fresh)):=rfl
theorem ahw:ldB nb q (mB p s c) 9 K=(q<nb∧K (i64 c.kind)):=rfl
theorem aeX:ldB nb q (mB p s c) 10 K=(q<nb∧K (i64 c.a)):=rfl
theorem aeY:ldB nb q (mB p s c) 11 K=(q<nb∧K (i64 c.b)):=rfl
theorem aeZ:ldB nb q (mB p s c) 12 K=(q<nb∧K (i64 c.m)):=rfl
theorem ae0:ldB nb q (mB p s c) 13 K=(q<nb∧K (i64 c.t)):=rfl
theorem yA {m:Nat}:(mB p s c).all (fun x=>x.ltB m)=true:=rfl
theorem aci {ρ:Nat→Nat}:(mB p s c).map (V.ren ρ)=mB p s c:=rfl
end
def pkM:=jj @Zw (jj @ahp (jj @ahq (jj @ahr (jj @ahs (jj @aht (jj @ahu (jj @ahv (jj @ahw (jj @aeX (jj @aeY (jj @aeZ (jj @ae0 @fi))))))))))))
theorem dI {p:Pol} {s:Sy} {c:Cl} {xs:List V} (h:xs.all (fun x=>x.ltB 1)=true):eN xs [mB p s c]=true:=by
 simp only[eN,aN,aX,yA,aC,aH,h];rfl
theorem ahx:Md Tryz.prog 95:=fun u w=>by
 unfold Instr.makeInterface
 simp[aJ]
def pnV (e:Int):Value:=.iface 95 (.int .i64 e)
theorem ic (e:Int):FnOK Tryz.prog G 85 [bo true,i64 e] (.tup []):=by
 refine bE (rs:=[]) false [] mixed Tryz.func85 rfl rfl rfl rfl (by kernel_rfl) (by simp) rfl rfl ?_
 simp only[pkA,seval]
 exact dx
theorem j9 (e:Int):FnX Tryz.prog G 85 [bo false,i64 e] [] (pnV e) []:=by
 refine Sx (k:=0) [3000000,2900001] mixed Tryz.func85 rfl rfl rfl (by kernel_rfl) (by simp) rfl rfl rfl (by simp) ?_
 simp only[pkX,pkA,ba,seval,ah]
 refine Xk ahx rfl ?_
 exact cY (by simp) rfl (by simp) trivial
set_option maxRecDepth 100000
theorem UC:Tryz.prog.cellsOf 29=5:=by kernel_rfl
def acj (c:Cl):Prop:=I64 c.kind∧I64 c.a∧I64 c.b∧I64 c.m∧I64 c.t
theorem Zx {xs:List C} (h:yn Tryz.prog 29 xs):∃ c:Cl,xs=clC c∧acj c:=by
 obtain⟨hl,hf⟩:=pz Tryz.underlying29 h
 rw[UC] at hl
 match xs,hl with
 |[x0,x1,x2,x3,x4],_=>
  have h0:=hf _ (by simp;exact .inl rfl)
  have h1:=hf _ (by simp;exact .inr (.inl rfl))
  have h2:=hf _ (by simp;exact .inr (.inr (.inl rfl)))
  have h3:=hf _ (by simp;exact .inr (.inr (.inr (.inl rfl))))
  have h4:=hf _ (by simp;exact .inr (.inr (.inr (.inr rfl))))
  simp only[Kp.uu,ep,iZ,eZ,lu] at h0 h1 h2 h3 h4
  obtain⟨a0,e0,k0⟩:=Kp.k9 h0
  obtain⟨a1,e1,k1⟩:=Kp.k9 h1
  obtain⟨a2,e2,k2⟩:=Kp.k9 h2
  obtain⟨a3,e3,k3⟩:=Kp.k9 h3
  obtain⟨a4,e4,k4⟩:=Kp.k9 h4
  cases e0;cases e1;cases e2;cases e3;cases e4
  exact⟨⟨a0,a1,a2,a3,a4⟩,rfl,k0,k1,k2,k3,k4⟩
theorem ack:c9 Tryz.prog 29=true:=by kernel_rfl
theorem acl {x:V} (h:∃ n cs,Shp Tryz.prog n 29 cs∧x=rE Tryz.prog 29 cs):∃ c:Cl,x=.agg (clC c)∧acj c:=by
 obtain⟨n,cs,h,rfl⟩:=h
 obtain⟨p,rfl,hp⟩:=Zx ⟨n,h⟩
 exact⟨p,by unfold rE;rw[ack,if_pos rfl],hp⟩
theorem Yr:c9 Tryz.prog 27=false:=by kernel_rfl
theorem zT {x:V} (h:∃ n cs,Shp Tryz.prog n 27 cs∧x=rE Tryz.prog 27 cs):∃ l:List Cl,x=.c (.sl (l.map clC))∧l.length≤maxLen∧∀ c∈l,acj c:=by
 obtain⟨n,cs,h,rfl⟩:=h
 obtain⟨es,e,hl,hk⟩:=uo Tryz.underlying27 ⟨n,h⟩
 obtain⟨l,rfl,hq⟩:=wR fun x hx=>Zx (hk x hx)
 cases e
 exact⟨l,by unfold rE;rw[Yr,if_neg (by decide)];rfl,by simpa using hl,hq⟩
theorem FM:c9 Tryz.prog 3=false:=by kernel_rfl
theorem FN {x:V} (h:∃ n cs,Shp Tryz.prog n 3 cs∧x=rE Tryz.prog 3 cs):∃ k:Int,x=i64 k∧I64 k:=by
 obtain⟨n,cs,h,rfl⟩:=h
 obtain⟨k,rfl,hk⟩:=Kp.k9 ⟨n,h⟩
 exact⟨k,by unfold rE;rw[FM,if_neg (by decide)];rfl,hk⟩
