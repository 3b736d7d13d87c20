/- Layer 16: the specification: permissions, look-ups, Class, Same. -/
import Derived.Test.YtegbpjodbjhjeaaGreatDoorVlMh
import Derived.Test.YtegbpjodbjhjeaaGreatDoorKpVlRefV
import Derived.Test.YtegbpjodbjhjeaaGreatDoorVlQ1
import Derived.Test.YtegbpjodbjhjeaaGreatDoorVlBridge
set_option linter.all false
namespace Go.Proofs.YtegbpjodbjhjeaaGreatDoor
open Go Go.Vl
open Kp (Pol Ty Ru Qu poC tyC ruC quC)
variable {G:Gl}
set_option maxRecDepth 10000
theorem ZF {s:Sy} (hS:SyOk s) (t:Tm) (ht:bi t<=900000000):FnOK Tryz.prog G 27 [.c (tsC s.its),.agg (tmC t)] (bo (knS s t)):=
 P0 s.its t (λt ht=>(hS.iv t ht).1) (by have:=pI hS;omega) ht
theorem uQ {s:Sy} (hS:SyOk s) (t:Tm) (ht:bi t<=900000000):FnOK Tryz.prog G 41 [.agg (syC s),.agg (tmC t)] (bo (knS s t)):=by refine bD (rs:=[.tmp 4]) false [] mixed Tryz.func41 rfl rfl rfl rfl (by kernel_rfl) (by simp) rfl rfl ?_;simp only[pkA,ptA,pkT,pkS,seval];refine ax rfl (ZF hS t ht) (λ_=>rfl) ?_;simp only[pkA,seval]
def VO:=jj @pkA (jj @ptA @pkT)
theorem xF (t u:Tm) (ht:bi t<=1000000000) (hu:bi u<=1000000000):FnOK Tryz.prog G 60 [.agg (tmC t),.agg (tmC u)] (bo (decide (t=u))):=by refine bD (rs:=[.tmp 4]) false [] mixed Tryz.func60 rfl rfl rfl rfl (by kernel_rfl) (by simp) rfl rfl ?_;simp only[VO,seval];refine ax rfl (ol t u ht hu) (λ_=>rfl) ?_;simp only[pkA,seval];simp[iF]
theorem gB (k n:Int):FnOK Tryz.prog G 88 [i64 k,i64 n] (bo (inI k n)):=by
 refine bD (rs:=[.tmp 4]) false [] mixed Tryz.func88 rfl rfl rfl rfl (by kernel_rfl) (by simp) rfl rfl ?_;by_cases h:0<=k
 .simp only[pkA,seval,h,ah]
  simp[inI,h]
 .simp only[pkA,seval,h,aO]
  simp[inI,h]
theorem re (k n:Int) (a b:Tm):FnOK Tryz.prog G 89 [i64 k,i64 n,.agg (tmC a),.agg (tmC b)] (.agg (tmC (.mk k n [a,b]))):=by refine bD (rs:=[.cell 8 47]) false [] mixed Tryz.func89 rfl rfl rfl rfl (by kernel_rfl) (by simp) rfl rfl ?_;simp only[VO,seval];refine⟨rfl,?_⟩;rw[fx (.mk k n [a,b])];unfold ldA;exact⟨by decide,⟨rfl,rfl⟩,rfl⟩
def VP:=jj @pkA (jj @ptA @pkS)
set_option maxHeartbeats 1000000 in
theorem B7 {s:Sy} (hS:SyOk s) (t:Tm) (ht:bi t<=1000000000):FnOK Tryz.prog G 42 [.agg (syC s),.agg (tmC t)] (i64 (orS s t)):=by
 have Cn:s.os.length<=100:=by have:=hS.on;have:=hS.hn;omega
 have ej:∀ o∈s.os,bi o.va<=1000000000:=λo ho=>ci (hS.hv o (hS.ov o ho)).2.1 (by decide);obtain⟨tk,tn,tl⟩:=t;generalize N2:Tm.mk tk tn tl=t at ht ⊢
 have WL:∀ i:Nat,eu [(2,V.bp 0 0),(3,.bp 1 0),(5,i64 i)] [(syC s).map .c,(tmC t).map .c]=true:=λi=>by subst N2;rfl
 refine bD (rs:=[.tmp 4]) false [] mixed Tryz.func42 rfl rfl rfl rfl (by kernel_rfl) (by simp) rfl rfl ?_;simp only[pkA,seval];refine cm (λi:Nat=>hdS [(2,.bp 0 0),(3,.bp 1 0),(5,i64 i)] [(syC s).map .c,(tmC t).map .c]) (λi=>s.os.length - i) (λi=>i<=s.os.length/\∀ j (h:j<s.os.length),j<i->s.os[j].va≠t) 0 ⟨ar _,by simp⟩ ?_ ?_
 .refine bT (WL _) (ar _) (by simp) ?_ ?_
  .simp[FL,aw]
  .simp[BL,aw]
 rintro i ⟨hi,eX⟩ R bN b8 db;have nth:∀ o,s.os.find? (λo=>decide (o.va=t))=o->orS s t=(match o with | some o=>o.ty | none=>-1):=λo h=>by subst h;rfl
 simp only[VP,seval,hsC,aj];refine aJ (λbF=>?_) (λfu=>?_)
 .have bF:i<s.os.length:=by simpa using bF
  have ia:∀ K,K (.c (.rp (hdC s.os[i]) 0))->bK Tryz.prog 32 (.c (.sl (s.os.map hdC))) (i64 (i:Int)) K:=λK hK=>
   cR ko rfl iT (by decide) (aC i) (c:=hdC s.os[i]) (by simp[bF]) (ek _) hK
  simp only[VP,seval,hsC];refine ia _ ?_;simp only[VO,seval,m8];refine ax rfl (xF _ t (ej _ (aH bF)) ht) (λ_=>rfl) ?_;simp only[pkA,seval];refine aJ (λhy=>?_) (λhn=>?_)
  .have hy:s.os[i].va=t:=by simpa using hy
   have hf:s.os.find? (λo=>decide (o.va=t))=some s.os[i]:=(by rw[List.find?_eq_some_iff_getElem];exact⟨by simp[hy],i,bF,rfl,λj hj=>by simp[eX j (by omega) hj]⟩);simp only[VP,seval,hsC];refine ia _ ?_;simp only[pkA,ptA,pkH,seval];refine db _ ?_;simp only[pkA,seval];rw[nth _ hf]
  .have hn:s.os[i].va≠t:=by simpa using hn
   have hw:=wrap_i64 (i+1) (by omega);simp only[pkA,seval];refine bN (i+1) _ ⟨bF,λj h hj=>?_⟩ (by omega) (bT (WL _) (ar _) (by simp) ?_ ?_)
   .rcases cd j i with h1 | h1
    .exact eX j h h1
    .have:j=i:=by omega
     subst this;exact hn
   .simp[FL,aw,hw]
   .simp[BL,bxs]
 .have:i=s.os.length:=by simp at fu;omega
  subst this;have hf:s.os.find? (λo=>decide (o.va=t))=none:=by rw[List.find?_eq_none];intro o ho;obtain⟨j,hj,rfl⟩:=eo ho;simp[eX j hj hj]
  simp only[pkA];refine b8 _ _ ?_;simp only[pkA,seval];rw[nth _ hf]
open Kp (Pol Ty Ru Qu)
inductive Clean:Tm->Prop
 |leaf {k n:Int} {l:List Tm}:k≠2->k≠3->k≠4->Clean (.mk k n l)
 |wrap {k n:Int} {a b:Tm}:k=3∨k=4->Clean b->Clean (.mk k n [a,b])
theorem Clean.out {k n:Int} {a b:Tm} (hk:k=3∨k=4) (h:Clean (.mk k n [a,b])):Clean b:=by
 cases h with
 |leaf _ h1 h2=>omega
 |wrap _ h=>exact h
structure Sec (s:Sy):Prop where
 rs:s.rs=[]
 os:∀ o∈s.os,∃ n,o.va=.mk 2 n []
 its:∀ t∈s.its,Clean t
inductive Good (O I:List Tm):Tm->Prop
 |leaf {k n:Int} {l:List Tm}:k≠3->k≠4->Good O I (.mk k n l)
 |sealO {n:Int} {a b:Tm}:b∈O->Good O I (.mk 3 n [a,b])
 |sealK {n:Int} {a b:Tm}:Kn I true b->Good O I b->Good O I (.mk 3 n [a,b])
 |boxO {n:Int} {a b:Tm}:dF b=true->b∈O->Good O I (.mk 4 n [a,b])
 |boxK {n:Int} {a b:Tm}:dF b=true->Kn I true b->Good O I b->Good O I (.mk 4 n [a,b])
theorem Good.mono {O I O' I':List Tm} (hO:∀ t∈O,t∈O') (hI:∀ t∈I,t∈I') {t:Tm} (h:Good O I t):Good O' I' t:=by
 induction h with
 |leaf h1 h2=>exact .leaf h1 h2
 |sealO h=>exact .sealO (hO _ h)
 |sealK h _ ih=>exact .sealK (h.mono hI) ih
 |boxO h h1=>exact .boxO h (hO _ h1)
 |boxK h h1 _ ih=>exact .boxK h (h1.mono hI) ih
theorem Good.key {O I:List Tm} {t:Tm} (h:dF t=true):Good O I t:=by obtain⟨k,n,l⟩:=t;simp only[dF,Tm.kind,aA] at h;exact .leaf (fM h.1) (fM h.2)
theorem Good.out {O I:List Tm} {k n:Int} {a b:Tm} (hk:k=3∨k=4) (h:Good O I (.mk k n [a,b])):b∈O∨(Kn I true b/\Good O I b):=by
 cases h with
 |leaf h1 h2=>omega
 |sealO h=>exact .inl h
 |sealK h h1=>exact .inr ⟨h,h1⟩
 |boxO _ h=>exact .inl h
 |boxK _ h h1=>exact .inr ⟨h,h1⟩
abbrev ZG (s:Sy):List Tm:=s.os.map (·.va)
structure aly (s:Sy):Prop where
 hs:∀ h∈s.hs,dF h.va=true/\(Kn s.its true h.va∨h.va∈ZG s)
 its:∀ t∈s.its,Good (ZG s) s.its t
 nd:(ZG s).Nodup
 keys:∀ n l,.mk 2 n l∈ZG s->n<s.fresh
structure Beg (a b:Sy):Prop where
 hs:a.hs <+: b.hs
 its:a.its <+: b.its
 os:a.os <+: b.os
 rs:a.rs <+: b.rs
 fr:a.fresh<=b.fresh
 one:b.hs.length+b.its.length=a.hs.length+a.its.length+1
def CP (s:Sy) (k n:Int):Bool:=decide ((⟨k,n,0⟩:Fa)∈kP s)
theorem Ej {s:Sy} {f:Fa}:f∈kP s↔(∃ h∈s.hs,kX s h=f)∨(∃ t∈c9 s.its,f∈iy s t)∨∃ o∈s.os,f∈m7 s o:=by unfold kP;rw[zB];unfold CO;rw[bh,bh,ce,j7,j7]
theorem VQ {a b f:Int} (mI:BitVec.ofInt 64 a &&&BitVec.ofInt 64 b=BitVec.ofInt 64 b) (h:LC a f=true):LC b f=true:=by unfold LC at *;rw[br,zp] at *;have h0:BitVec.ofInt 64 a &&&~~~BitVec.ofInt 64 f=0:=BitVec.eq_of_toInt_eq (by rw[h];rfl);rw[<- mI,BitVec.and_comm (BitVec.ofInt 64 a),BitVec.and_assoc,h0];simp
theorem Jr {p:Pol} {t a b:Int} (mI:BitVec.ofInt 64 a &&&BitVec.ofInt 64 b=BitVec.ofInt 64 b) (h:jO p t a=true):jO p t b=true:=by
 unfold jO at *;split at h
 .exact VQ mI h
 .cases h
theorem VR {p:Pol} {t f:Int} (h:jO p t f=true):inI t p.types.length=true:=by
 unfold jO at h;rw[cT];cases hx:eD p.types t with
 |none=>rw[hx] at h;cases h
 |some x=>rfl
def clL (a b:Int):List Cl:=[⟨1,0,0,0,a⟩,⟨1,0,0,0,b⟩,⟨9,0,1,0,0⟩,⟨5,0,0,0,0⟩]
def clK (n:Int):Tm:=.mk 2 n []
def Gy (a b:Int):Sy:=⟨[⟨a,clK 0⟩,⟨b,clK 1⟩],[gr (clK 0) (clK 1)],[⟨a,clK 0⟩,⟨b,clK 1⟩],[],2⟩
def Js (a b:Int):Sy:=⟨[⟨a,clK 0⟩,⟨b,clK 1⟩],[gr (clK 0) (clK 1),clK 1],[⟨a,clK 0⟩,⟨b,clK 1⟩],[],2⟩
theorem xG {p:Pol} {s s':Sy} {c:Cl} {k:Nat} (hv:Kp.mh p=true) (hk:inI (c.kind - 1) 16=true) (hn:c.kind.toNat=k) (h:doM p s c k=.ok s'):fp p s c=.ok s':=by unfold fp fw;rw[hv,hk,hn,h];rfl
theorem ad6 {p:Pol} {a b:Int} (hv:Kp.mh p=true) (ha:jO p a 17=true) (hb:jO p b 1=true) (hr:li p 3 a b=true) :
 lZ p sy0 0 ((clL a b).take 3)=(Gy a b,3,0)/\lZ p sy0 0 (clL a b)=(Js a b,4,0):=by
 have ha1:jO p a 1=true:=Jr (by decide) ha;have akQ:jO p a 16=true:=Jr (by decide) ha;have hia:=VR ha;have uk:=VR hb;have e1:fp p sy0 ⟨1,0,0,0,a⟩=.ok ⟨[⟨a,clK 0⟩],[],[⟨a,clK 0⟩],[],1⟩:=xG (k:=1) hv rfl rfl (by simp only[doM,m5,hia,ha1,fw,bY];rfl);have e2:fp p ⟨[⟨a,clK 0⟩],[],[⟨a,clK 0⟩],[],1⟩ ⟨1,0,0,0,b⟩=.ok ⟨[⟨a,clK 0⟩,⟨b,clK 1⟩],[],[⟨a,clK 0⟩,⟨b,clK 1⟩],[],2⟩:=xG (k:=1) hv rfl rfl (by simp only[doM,m5,uk,hb,fw,bY];rfl);have e3:fp p ⟨[⟨a,clK 0⟩,⟨b,clK 1⟩],[],[⟨a,clK 0⟩,⟨b,clK 1⟩],[],2⟩ ⟨9,0,1,0,0⟩=.ok (Gy a b):=xG (k:=9) hv rfl rfl (by have h0:ofI [(⟨a,clK 0⟩:Hd),⟨b,clK 1⟩] 0=.ok ⟨a,clK 0⟩:=rfl;have h1:ofI [(⟨a,clK 0⟩:Hd),⟨b,clK 1⟩] 1=.ok ⟨b,clK 1⟩:=rfl;simp only[doM,okb,h0,h1,hr,fw,bY];rfl);have e4:fp p (Gy a b) ⟨5,0,0,0,0⟩=.ok (Js a b):=xG (k:=5) hv rfl rfl (by have h0:ofI (Gy a b).hs 0=.ok ⟨a,clK 0⟩:=rfl;have h1:ofI (Gy a b).its 0=.ok (gr (clK 0) (clK 1)):=rfl;have h2:iH (gr (clK 0) (clK 1)) (clK 0) [3]=.ok (clK 1):=rfl;simp only[doM,okb,h0,h1,h2,akQ,fw,bY];rfl);constructor
 .simp only[clL,List.take,lZ,e1,e2,e3]
 .simp only[clL,lZ,e1,e2,e3,e4]
theorem aaP {b:Bool} {t:Tm} (h:Kn [gr (clK 0) (clK 1)] b t):(b=false->t=gr (clK 0) (clK 1))/\∀ n,t≠clK n:=by
 induction h with
 |item h=>rw[bu] at h;subst h;exact⟨λ_=>rfl,λn e=>(by cases e)⟩
 |opn _ hk _ i1 i2=>have:=i1.1 rfl;unfold gr at this;cases this;exact absurd rfl (i2.2 0)
 |of _ ih=>exact⟨λh=>(by cases h),ih.2⟩
 |data=>exact⟨λh=>(by cases h),λn e=>by cases e⟩
 |make h _ _=>exact⟨λh=>(by cases h),λn e=>by cases e;exact h rfl⟩
