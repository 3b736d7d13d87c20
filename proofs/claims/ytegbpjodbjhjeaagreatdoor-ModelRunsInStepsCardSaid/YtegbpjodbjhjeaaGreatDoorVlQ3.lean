/- Layer 16: the specification: permissions, look-ups, Class, Same. -/
import Derived.Test.YtegbpjodbjhjeaaGreatDoorVlMh
import Derived.Test.YtegbpjodbjhjeaaGreatDoorVlCA
import Derived.Test.YtegbpjodbjhjeaaGreatDoorVlQ1
import Derived.Test.YtegbpjodbjhjeaaGreatDoorVlBridge
set_option linter.all false
namespace Go.Proofs.YtegbpjodbjhjeaaGreatDoor
open Go Go.Vl
open Kp (Pol Ty Ru Qu poC tyC ruC quC)
variable {G:Gl}
set_option maxRecDepth 10000
theorem PW (t u:Tm) (ht:bu t≤1000000000) (hu:bu u≤1000000000):FnOK Tryz.prog G 60 [.agg (tmC t),.agg (tmC u)] (bo (decide (t=u))):=by
 refine bP (rs:=[.tmp 4]) false [] mixed Tryz.func60 rfl rfl rfl rfl (by kernel_rfl) (by simp) rfl rfl ?_
 simp only[pkA,ptA,pkT,seval]
 refine aD rfl (qb t u ht hu) (fun _=>rfl) ?_
 simp only[pkA,seval]
 simp[jx]
open Kp (Pol Ty Ru Qu)
inductive Clean:Tm→Prop
 |leaf {k n:Int} {l:List Tm}:k≠2→k≠3→k≠4→Clean (.mk k n l)
 |wrap {k n:Int} {a b:Tm}:k=3∨k=4→Clean b→Clean (.mk k n [a,b])
theorem Clean.out {k n:Int} {a b:Tm} (hk:k=3∨k=4) (h:Clean (.mk k n [a,b])):Clean b:=by
 cases h with
 |leaf _ h1 h2=>omega
 |wrap _ h=>exact h
structure Sec (s:Sy):Prop where
 rs:s.rs=[]
 os:∀ o∈s.os,∃ n,o.va=.mk 2 n []
 its:∀ t∈s.its,Clean t
inductive Good (O I:List Tm):Tm→Prop
 |leaf {k n:Int} {l:List Tm}:k≠3→k≠4→Good O I (.mk k n l)
 |sealO {n:Int} {a b:Tm}:b∈O→Good O I (.mk 3 n [a,b])
 |sealK {n:Int} {a b:Tm}:Kn I true b→Good O I b→Good O I (.mk 3 n [a,b])
 |boxO {n:Int} {a b:Tm}:ey b=true→b∈O→Good O I (.mk 4 n [a,b])
 |boxK {n:Int} {a b:Tm}:ey b=true→Kn I true b→Good O I b→Good O I (.mk 4 n [a,b])
theorem Good.mono {O I O' I':List Tm} (hO:∀ t∈O,t∈O') (hI:∀ t∈I,t∈I') {t:Tm} (h:Good O I t):Good O' I' t:=by
 induction h with
 |leaf h1 h2=>exact .leaf h1 h2
 |sealO h=>exact .sealO (hO _ h)
 |sealK h _ ih=>exact .sealK (h.mono hI) ih
 |boxO h h1=>exact .boxO h (hO _ h1)
 |boxK h h1 _ ih=>exact .boxK h (h1.mono hI) ih
theorem Good.key {O I:List Tm} {t:Tm} (h:ey t=true):Good O I t:=by
 obtain⟨k,n,l⟩:=t
 simp only[ey,Tm.kind,aF] at h
 exact .leaf (iL h.1) (iL h.2)
theorem Good.out {O I:List Tm} {k n:Int} {a b:Tm} (hk:k=3∨k=4) (h:Good O I (.mk k n [a,b])):b∈O∨(Kn I true b∧Good O I b):=by
 cases h with
 |leaf h1 h2=>omega
 |sealO h=>exact .inl h
 |sealK h h1=>exact .inr ⟨h,h1⟩
 |boxO _ h=>exact .inl h
 |boxK _ h h1=>exact .inr ⟨h,h1⟩
abbrev UA (s:Sy):List Tm:=s.os.map (·.va)
structure abE (s:Sy):Prop where
 hs:∀ h∈s.hs,ey h.va=true∧(Kn s.its true h.va∨h.va∈UA s)
 its:∀ t∈s.its,Good (UA s) s.its t
 nd:(UA s).Nodup
 keys:∀ n l,.mk 2 n l∈UA s→n<s.fresh
structure Beg (a b:Sy):Prop where
 hs:a.hs <+: b.hs
 its:a.its <+: b.its
 os:a.os <+: b.os
 rs:a.rs <+: b.rs
 fr:a.fresh≤b.fresh
 one:b.hs.length+b.its.length=a.hs.length+a.its.length+1
def Eg (s:Sy) (k n:Int):Bool:=decide ((⟨k,n,0⟩:Fa)∈nr s)
theorem zn {s:Sy} {f:Fa}:f∈nr s↔(∃ h∈s.hs,nq s h=f)∨(∃ t∈eb s.its,f∈kE s t)∨∃ o∈s.os,f∈lO s o:=by
 unfold nr
 rw[Ec]
 unfold Bz
 rw[bf,bf,bF,List.mem_flatMap,List.mem_flatMap]
def abB (f:Int):Int:=bits .andNot .i64 f 4
theorem PX {a b f:Int} (hab:BitVec.ofInt 64 a &&&BitVec.ofInt 64 b=BitVec.ofInt 64 b) (h:Po a f=true):Po b f=true:=by
 unfold Po at *
 rw[bi,Dg] at *
 have h0:BitVec.ofInt 64 a &&&~~~BitVec.ofInt 64 f=0:=BitVec.eq_of_toInt_eq (by rw[h];rfl)
 rw[← hab,BitVec.and_comm (BitVec.ofInt 64 a),BitVec.and_assoc,h0]
 simp
theorem Eh {p:Pol} {t a b:Int} (hab:BitVec.ofInt 64 a &&&BitVec.ofInt 64 b=BitVec.ofInt 64 b) (h:j9 p t a=true):j9 p t b=true:=by
 unfold j9 at *
 split at h
 ·exact PX hab h
 ·cases h
theorem PY {p:Pol} {t f:Int} (h:j9 p t f=true):inI t p.types.length=true:=by
 unfold j9 at h
 rw[Pn]
 cases hx:vh p.types t with
 |none=>rw[hx] at h;cases h
 |some x=>rfl
def clL (a b:Int):List Cl:=[⟨1,0,0,0,a⟩,⟨1,0,0,0,b⟩,⟨9,0,1,0,0⟩,⟨5,0,0,0,0⟩]
def clK (n:Int):Tm:=.mk 2 n []
def BA (a b:Int):Sy:=⟨[⟨a,clK 0⟩,⟨b,clK 1⟩],[gQ (clK 0) (clK 1)],[⟨a,clK 0⟩,⟨b,clK 1⟩],[],2⟩
def Ei (a b:Int):Sy:=⟨[⟨a,clK 0⟩,⟨b,clK 1⟩],[gQ (clK 0) (clK 1),clK 1],[⟨a,clK 0⟩,⟨b,clK 1⟩],[],2⟩
theorem tg {p:Pol} {s s':Sy} {c:Cl} {k:Nat} (hv:Kp.gB p=true) (hk:inI (c.kind - 1) 16=true) (hn:c.kind.toNat=k) (h:doM p s c k=.ok s'):bG p s c=.ok s':=by
 unfold bG dR
 rw[hv,hk,hn,h];rfl
theorem YC {p:Pol} {a b:Int} (hv:Kp.gB p=true) (ha:j9 p a 17=true) (hb:j9 p b 1=true) (hr:nA p 3 a b=true) :
 ji p sy0 0 ((clL a b).take 3)=(BA a b,3,0)∧ji p sy0 0 (clL a b)=(Ei a b,4,0):=by
 have ha1:j9 p a 1=true:=Eh (by decide) ha
 have ha16:j9 p a 16=true:=Eh (by decide) ha
 have hia:=PY ha
 have hib:=PY hb
 have e1:bG p sy0 ⟨1,0,0,0,a⟩=.ok ⟨[⟨a,clK 0⟩],[],[⟨a,clK 0⟩],[],1⟩:=tg (k:=1) hv rfl rfl (by simp only[doM,ni,hia,ha1,dR,cA];rfl)
 have e2:bG p ⟨[⟨a,clK 0⟩],[],[⟨a,clK 0⟩],[],1⟩ ⟨1,0,0,0,b⟩=.ok ⟨[⟨a,clK 0⟩,⟨b,clK 1⟩],[],[⟨a,clK 0⟩,⟨b,clK 1⟩],[],2⟩:=tg (k:=1) hv rfl rfl (by simp only[doM,ni,hib,hb,dR,cA];rfl)
 have e3:bG p ⟨[⟨a,clK 0⟩,⟨b,clK 1⟩],[],[⟨a,clK 0⟩,⟨b,clK 1⟩],[],2⟩ ⟨9,0,1,0,0⟩=.ok (BA a b):=tg (k:=9) hv rfl rfl (by
  have h0:ofI [(⟨a,clK 0⟩:Hd),⟨b,clK 1⟩] 0=.ok ⟨a,clK 0⟩:=rfl
  have h1:ofI [(⟨a,clK 0⟩:Hd),⟨b,clK 1⟩] 1=.ok ⟨b,clK 1⟩:=rfl
  simp only[doM,okb,h0,h1,hr,dR,cA];rfl)
 have e4:bG p (BA a b) ⟨5,0,0,0,0⟩=.ok (Ei a b):=tg (k:=5) hv rfl rfl (by
  have h0:ofI (BA a b).hs 0=.ok ⟨a,clK 0⟩:=rfl
  have h1:ofI (BA a b).its 0=.ok (gQ (clK 0) (clK 1)):=rfl
  have h2:g8 (gQ (clK 0) (clK 1)) (clK 0) [3]=.ok (clK 1):=rfl
  simp only[doM,okb,h0,h1,h2,ha16,dR,cA];rfl)
 constructor
 ·simp only[clL,List.take,ji,e1,e2,e3]
 ·simp only[clL,ji,e1,e2,e3,e4]
theorem Vd {b:Bool} {t:Tm} (h:Kn [gQ (clK 0) (clK 1)] b t):(b=false→t=gQ (clK 0) (clK 1))∧∀ n,t≠clK n:=by
 induction h with
 |item h=>rw[a8] at h;subst h;exact⟨fun _=>rfl,fun n e=>(by cases e)⟩
 |opn _ hk _ i1 i2=>
  have:=i1.1 rfl
  unfold gQ at this
  cases this
  exact absurd rfl (i2.2 0)
 |of _ ih=>exact⟨fun h=>(by cases h),ih.2⟩
 |data=>exact⟨fun h=>(by cases h),fun n e=>by cases e⟩
 |make h _ _=>exact⟨fun h=>(by cases h),fun n e=>by cases e;exact h rfl⟩
def pn (p:Pol):Sy→List Cl→Option Sy
 |s,[]=>some s
 |s,c::l=>match bG p s c with
  | .ok s'=>pn p s' l
  | .error _=>none
theorem zo {p:Pol}:∀ (l:List Cl) (s:Sy),(ji p s 0 l).2.1≤l.length∧((ji p s 0 l).2.2=0↔(ji p s 0 l).2.1=l.length)∧pn p s (l.take (ji p s 0 l).2.1)=some (ji p s 0 l).1∧
 ((ji p s 0 l).2.2≠0→∃ c,l[(ji p s 0 l).2.1]?=some c∧bG p (ji p s 0 l).1 c=.error (ji p s 0 l).2.2)
 |[],s=>by simp[ji,pn]
 |c::l,s=>by
  cases h:bG p s c with
  |error e=>
   have he:=Bv h
   rw[HO h]
   simp only[aC]
   refine⟨by omega,⟨fun h=>absurd h he,fun h=>by omega⟩,by simp[pn],fun _=>⟨c,rfl,h⟩⟩
  |ok s'=>
   obtain⟨h1,h2,h3,h4⟩:=zo l s'
   rw[HN h,xj]
   simp only[aC]
   have e:0+1+(ji p s' 0 l).2.1=(ji p s' 0 l).2.1+1:=by omega
   rw[e]
   refine⟨by omega,⟨fun h=>by rw[h2.1 h],fun h=>h2.2 (by omega)⟩,?_,fun hn=>?_⟩
   ·rw[eu];simp only[pn,h];exact h3
   ·obtain⟨c',q1,q2⟩:=h4 hn
    exact⟨c',by simpa using q1,q2⟩
