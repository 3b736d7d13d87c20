/- Layer 16, plain: the specification's step is the machine's. -/
import Derived.Test.YtegbpjodbjhjeaaGreatDoorVlMl
set_option linter.all false
namespace Go.Proofs.YtegbpjodbjhjeaaGreatDoor
open Go Go.Vl
open Kp (Pol Ty Ru Qu)
structure Us where
 a:Bool
 b:Bool
 m:Bool
 t:Bool
 host:Bool
def us0:Us:=⟨false,false,false,false,false⟩
def usL:List Us:=[us0,⟨false,false,false,true,false⟩,⟨false,false,true,true,false⟩,⟨true,false,false,false,false⟩,⟨true,false,true,false,false⟩,⟨true,false,true,false,false⟩,⟨true,false,true,false,false⟩,
 ⟨true,true,false,false,false⟩,⟨true,false,true,false,false⟩,⟨true,true,false,false,false⟩,⟨true,false,true,true,false⟩,⟨true,false,false,true,false⟩,us0,⟨true,false,true,false,true⟩,⟨true,false,true,true,true⟩,
 ⟨true,false,false,true,true⟩,⟨true,false,true,false,true⟩]
def rh (s:Sy) (k:Int):Bool:=match eD s.its k with | some x=>dF x | none=>false
def hAt (s:Sy) (k:Int):Hd:=(eD s.hs k).getD ⟨0,gV⟩
def iAt (s:Sy) (k:Int):Tm:=(eD s.its k).getD gV
def gC (p:Pol) (s:Sy) (c:Cl):Nat->Bool
 |1=>inI c.t p.types.length
 |2=>inI c.m s.its.length&&(inI c.t p.types.length&&rh s c.m)
 |3=>inI c.a s.hs.length
 |4=>inI c.a s.hs.length&&inI c.m s.its.length
 |5=>inI c.a s.hs.length&&inI c.m s.its.length
 |6=>inI c.a s.hs.length&&inI c.m s.its.length
 |7=>inI c.a s.hs.length&&inI c.b s.hs.length
 |8=>inI c.a s.hs.length&&inI c.m s.its.length
 |9=>inI c.a s.hs.length&&inI c.b s.hs.length
 |10=>inI c.a s.hs.length&&(inI c.m s.its.length&&inI c.t p.types.length)
 |11=>inI c.a s.hs.length&&inI c.t p.types.length
 |12=>inI c.t 2147483648
 |13=>inI c.a s.its.length&&(inI c.m s.its.length&&rh s c.a)
 |14=>inI c.a s.its.length&&(inI c.m s.its.length&&(inI c.t p.types.length&&(rh s c.a&&rh s c.m)))
 |15=>inI c.a s.its.length&&(inI c.t p.types.length&&rh s c.a)
 |16=>inI c.a s.its.length&&inI c.m s.its.length
 |_=>false
def m9 (p:Pol) (s:Sy) (c:Cl):Bool:=inI (c.kind - 1) 16&&(Kp.mh p&&gC p s c c.kind.toNat)
def gY (p:Pol) (s:Sy) (c:Cl):Nat->Bool
 |1=>jO p c.t 1
 |2=>jO p c.t 2
 |3=>jO p (hAt s c.a).ty 4
 |4=>jO p (hAt s c.a).ty 8
 |5=>jO p (hAt s c.a).ty 16
 |6=>jO p (hAt s c.a).ty 32
 |7=>li p 1 (hAt s c.a).ty (hAt s c.b).ty
 |9=>li p 3 (hAt s c.a).ty (hAt s c.b).ty
 |10=>li p 4 (hAt s c.a).ty c.t
 |11=>li p 5 (hAt s c.a).ty c.t
 |_=>true
structure Rs where
 handle:Bool
 h:Hd
 item:Tm
 e:Int
def rsH (t:Int) (v:Tm):Rs:=⟨true,⟨t,v⟩,gV,0⟩
def rsI (v:Tm):Rs:=⟨false,⟨0,gV⟩,v,0⟩
def rsE (e:Int):Rs:=⟨false,⟨0,gV⟩,gV,e⟩
def lR (t key:Tm) (x y:Bool):Bool:=(x&&decide (t.kind=3)||y&&decide (t.kind=4))&&decide (t.l[0]?=some key)
def pX (t:Tm):Tm:=t.l.getD 1 gV
def fD (p:Pol) (s:Sy) (c:Cl):Nat->Rs
 |1=>rsH c.t (.mk 2 s.fresh [])
 |2=>rsH c.t (iAt s c.m)
 |3=>rsI (hAt s c.a).va
 |4=>rsI (gr (hAt s c.a).va (iAt s c.m))
 |5=>if lR (iAt s c.m) (hAt s c.a).va true false=true then rsI (pX (iAt s c.m)) else rsE 8
 |6=>rsI (.mk 6 0 [(hAt s c.a).va,iAt s c.m])
 |7=>rsI (.mk 4 (hAt s c.b).ty [(hAt s c.a).va,(hAt s c.b).va])
 |8=>if lR (iAt s c.m) (hAt s c.a).va false true=true then(if li p 2 (hAt s c.a).ty (iAt s c.m).n=true then rsH (iAt s c.m).n (pX (iAt s c.m)) else rsE 10) else rsE 8
 |9=>rsI (gr (hAt s c.a).va (hAt s c.b).va)
 |10=>if lR (iAt s c.m) (hAt s c.a).va true false=true then(if dF (pX (iAt s c.m))=true then rsH c.t (pX (iAt s c.m)) else rsE 1) else rsE 8
 |11=>rsH c.t (.mk 5 c.t [(hAt s c.a).va])
 |12=>rsI (.mk 1 c.t [])
 |13=>rsI (gr (iAt s c.a) (iAt s c.m))
 |14=>rsI (.mk 4 c.t [iAt s c.a,iAt s c.m])
 |15=>rsI (.mk 5 c.t [iAt s c.a])
 |_=>if lR (iAt s c.m) (iAt s c.a) true true=true then rsI (pX (iAt s c.m)) else rsE 8
def pM (s:Sy) (c:Cl) (h:Hd):Sy:=
 let s1:Sy:={ s with hs:=s.hs++[h] }
 let s2:Sy:=if c.kind=1 then { s1 with fresh:=s.fresh+1,os:=s.os++[h] } else s1
 let s3:Sy:=if(decide (c.kind=10)&&!knS s h.va)=true then { s2 with rs:=s.rs++[h.va] } else s2
 if((decide (c.kind=11)&&!knS s (hAt s c.a).va)&&decide (orS s h.va<0))=true then { s3 with os:=s2.os++[h] } else s3
def uY (s:Sy) (c:Cl) (r:Rs):Sy×Int:=
 if r.e≠0 then(sy0,r.e)
 else if r.handle=true then(if s.hs.length<100/\bi r.h.va<=100 then(pM s c r.h,0) else(sy0,2))
 else if s.its.length<100/\bi r.item<=100 then({ s with its:=s.its++[r.item] },0) else(sy0,2)
def vd (p:Pol) (s:Sy) (c:Cl):Sy×Int:=
 if m9 p s c=true then(if gY p s c c.kind.toNat=true then uY s c (fD p s c c.kind.toNat) else(sy0,10)) else(sy0,1)
theorem fJ {α:Type} {b:Bool} {e:Int} {f:Unit->Except Int α}:(fw b e >>=f)=if b=true then f () else .error e:=by unfold fw;cases b<;>rfl
theorem iJ {α β:Type} {l:List α} {k:Int} {f:α->Except Int β}:(ofI l k >>=f)=match eD l k with | some x=>f x | none=>.error 1:=by unfold ofI;cases eD l k<;>rfl
theorem qo {α:Type} {t key:Tm} {ks:List Int} {f:Tm->Except Int α}:(iH t key ks >>=f)=if t.kind∈ks/\t.l[0]?=some key then f (pX t) else .error 8:=by unfold iH;split<;>rfl
theorem v7 {s:Sy} {t:Int} {v:Tm} {f:Sy->Ou}:(lY s t v >>=f)=if s.hs.length<100/\bi v<=100 then f { s with hs:=s.hs++[⟨t,v⟩] } else .error 2:=by unfold lY;split<;>rfl
theorem agR {t key:Tm}:(lR t key true false=true)=(t.kind∈[3]/\t.l[0]?=some key):=by simp[lR]
theorem ai9 {t key:Tm}:(lR t key false true=true)=(t.kind∈[4]/\t.l[0]?=some key):=by simp[lR]
theorem agS {t key:Tm}:(lR t key true true=true)=(t.kind∈[3,4]/\t.l[0]?=some key):=by simp[lR]
theorem lS {b:Prop} [Decidable b] {x y:Ou}:stR (if b then x else y)=if b then stR x else stR y:=by split<;>rfl
theorem na {s:Sy}:stR (.ok s)=(s,0):=rfl
theorem lT {e:Int}:stR (.error e)=(sy0,e):=rfl
theorem lu {s:Sy} {v:Tm}:gy s v=if s.its.length<100/\bi v<=100 then .ok { s with its:=s.its++[v] } else .error 2:=rfl
theorem pN {s:Sy} {c:Cl} {v:Tm}:uY s c (rsI v)=if s.its.length<100/\bi v<=100 then({ s with its:=s.its++[v] },0) else(sy0,2):=rfl
theorem Cc {s:Sy} {c:Cl} {t:Int} {v:Tm}:uY s c (rsH t v)=if s.hs.length<100/\bi v<=100 then(pM s c ⟨t,v⟩,0) else(sy0,2):=rfl
theorem Ax {s:Sy} {c:Cl} {b:Prop} [Decidable b] {x y:Rs}:uY s c (if b then x else y)=if b then uY s c x else uY s c y:=by split<;>rfl
theorem GE {s:Sy} {c:Cl}:uY s c (rsE 8)=(sy0,8):=rfl
theorem ZK {s:Sy} {c:Cl}:uY s c (rsE 10)=(sy0,10):=rfl
theorem aed {s:Sy} {c:Cl}:uY s c (rsE 1)=(sy0,1):=rfl
theorem NN {s:Sy} {t:Int} {v:Tm}:stR (lY s t v)=if s.hs.length<100/\bi v<=100 then({ s with hs:=s.hs++[⟨t,v⟩] },0) else(sy0,2):=by unfold lY;split<;>rfl
theorem VZ {s:Sy} {k a b m t:Int} {h:Hd} (h1:k≠1) (h2:k≠10) (h3:k≠11):pM s ⟨k,a,b,m,t⟩ h={ s with hs:=s.hs++[h] }:=by simp only[pM,h1,h2,h3,aO,eJ,cD,ay]
theorem ZL {s:Sy} {a b m t:Int} {h:Hd}:pM s ⟨((10:Nat):Int),a,b,m,t⟩ h=if knS s h.va=true then { s with hs:=s.hs++[h] } else { s with hs:=s.hs++[h],rs:=s.rs++[h.va] }:=by unfold pM;cases knS s h.va<;>rfl
theorem ZM {s:Sy} {a b m t:Int} {h:Hd}:pM s ⟨((11:Nat):Int),a,b,m,t⟩ h=if knS s (hAt s a).va=false/\orS s h.va<0 then { s with hs:=s.hs++[h],os:=s.os++[h] } else { s with hs:=s.hs++[h] }:=by unfold pM;cases h1:knS s (hAt s a).va<;>by_cases h2:orS s h.va<0<;>simp[h2]
theorem V0 {p:Pol} {s:Sy} {c:Cl}:vd p s c=stR (fp p s c):=by
 obtain⟨k,a,b,m,t⟩:=c;unfold vd m9 fp;rw[fJ];cases hk:inI (k - 1) 16 with
 |false=>rfl
 |true=>
  cases hv:Kp.mh p with
  |false=>rfl
  |true=>
   obtain⟨h0,h1⟩:=D6 hk;obtain⟨n,rfl⟩:∃ n:Nat,k=n:=⟨k.toNat,by omega⟩;have hn:n=1∨n=2∨n=3∨n=4∨n=5∨n=6∨n=7∨n=8∨n=9∨n=10∨n=11∨n=12∨n=13∨n=14∨n=15∨n=16:=(by omega);simp only[dI,fq,Bool.and_self,bY];clear h0 h1 hk;rcases hn with rfl | rfl | rfl | rfl | rfl | rfl | rfl | rfl | rfl | rfl | rfl | rfl | rfl | rfl | rfl | rfl
   .rcases e0:eD p.types t with _ | x0<;>simp only[doM,gC,gY,fD,m5,fJ,cT,aS,aW,ay,bY,cD,lT,v7,lS,na,e0]
    all_goals (simp only[Cc,mkM];try rfl)
   .rcases e0:eD s.its m with _ | x0<;>rcases e1:eD p.types t with _ | x1<;>simp only[doM,gC,gY,fD,m5,fJ,iJ,cT,rh,iAt,aS,aW,eJ,cv,dI,ay,bY,cD,ba,dG,lT,lS,e0,e1]
    all_goals (simp only[Cc,NN,VZ (k:=2) (by decide) (by decide) (by decide)];try rfl)
   .rcases e0:eD s.hs a with _ | x0<;>simp only[doM,gC,gY,fD,fJ,iJ,cT,hAt,aS,aW,ay,bY,cD,ba,dG,lT,lu,lS,na,e0]
    all_goals (simp only[pN];try rfl)
   .rcases e0:eD s.hs a with _ | x0<;>rcases e1:eD s.its m with _ | x1<;>simp only[doM,gC,gY,fD,fJ,iJ,cT,hAt,iAt,aS,aW,cv,cK,ay,bY,cD,ba,dG,lT,lu,lS,na,e0,e1]
    all_goals (simp only[pN];try rfl)
   .rcases e0:eD s.hs a with _ | x0<;>rcases e1:eD s.its m with _ | x1<;>simp only[doM,gC,gY,fD,fJ,iJ,cT,hAt,iAt,aS,aW,cv,cK,ay,bY,cD,ba,dG,lT,qo,lu,lS,na,e0,e1]
    all_goals (simp only[Ax,pN,GE,agR];try rfl)
   .rcases e0:eD s.hs a with _ | x0<;>rcases e1:eD s.its m with _ | x1<;>simp only[doM,gC,gY,fD,fJ,iJ,cT,hAt,iAt,aS,aW,cv,cK,ay,bY,cD,ba,dG,lT,lu,lS,na,e0,e1]
    all_goals (simp only[pN];try rfl)
   .rcases e0:eD s.hs a with _ | x0<;>rcases e1:eD s.hs b with _ | x1<;>simp only[doM,gC,gY,fD,fJ,iJ,cT,hAt,aS,aW,cv,cK,ay,bY,cD,ba,dG,lT,lu,lS,na,e0,e1]
    all_goals (simp only[pN];try rfl)
   .rcases e0:eD s.hs a with _ | x0<;>rcases e1:eD s.its m with _ | x1<;>simp only[doM,gC,gY,fD,fJ,iJ,cT,hAt,iAt,aS,aW,cv,cK,ay,bY,cD,ba,dG,lT,qo,lS,e0,e1]
    all_goals (simp only[Ax,Cc,GE,ZK,NN,ai9,VZ (k:=8) (by decide) (by decide) (by decide)];try rfl)
   .rcases e0:eD s.hs a with _ | x0<;>rcases e1:eD s.hs b with _ | x1<;>simp only[doM,gC,gY,fD,fJ,iJ,cT,hAt,aS,aW,cv,cK,ay,bY,cD,ba,dG,lT,lu,lS,na,e0,e1]
    all_goals (simp only[pN];try rfl)
   .rcases e0:eD s.hs a with _ | x0<;>rcases e1:eD s.its m with _ | x1<;>rcases e2:eD p.types t with _ | x2<;>simp only[doM,gC,gY,fD,m5,fJ,iJ,cT,hAt,iAt,aS,aW,cv,cK,ay,bY,cD,ba,dG,lT,qo,v7,lS,na,e0,e1,e2]
    all_goals (simp only[Ax,Cc,GE,aed,agR,ZL,knS];try rfl)
   .rcases e0:eD s.hs a with _ | x0<;>rcases e1:eD p.types t with _ | x1<;>simp only[doM,gC,gY,fD,m5,fJ,iJ,cT,hAt,aS,aW,cv,cK,ay,bY,cD,ba,dG,lT,v7,lS,na,e0,e1]
    all_goals (simp only[Cc,ZM,hAt,e0,ba,mkM];try rfl)
   .simp only[doM,gC,gY,fD,fJ,bY,lT,lu,lS,na]
    all_goals (simp only[pN];try rfl)
   .rcases e0:eD s.its a with _ | x0<;>rcases e1:eD s.its m with _ | x1<;>simp only[doM,gC,gY,fD,fJ,iJ,cT,rh,iAt,aS,aW,eJ,cv,dI,ay,bY,cD,ba,dG,lT,lu,lS,na,e0,e1]
    all_goals (simp only[pN];try rfl)
   .rcases e0:eD s.its a with _ | x0<;>rcases e1:eD s.its m with _ | x1<;>rcases e2:eD p.types t with _ | x2<;>simp only[doM,gC,gY,fD,m5,fJ,iJ,cT,rh,iAt,aS,aW,eJ,cv,dI,ay,bY,cD,ba,dG,lT,lu,lS,na,e0,e1,e2]
    all_goals (simp only[pN];try rfl)
    all_goals (cases dF x0<;>rfl)
   .rcases e0:eD s.its a with _ | x0<;>rcases e1:eD p.types t with _ | x1<;>simp only[doM,gC,gY,fD,m5,fJ,iJ,cT,rh,iAt,aS,aW,eJ,cv,dI,ay,bY,cD,ba,dG,lT,lu,lS,na,e0,e1]
    all_goals (simp only[pN];try rfl)
   .rcases e0:eD s.its a with _ | x0<;>rcases e1:eD s.its m with _ | x1<;>simp only[doM,gC,gY,fD,iJ,cT,iAt,aS,aW,cv,cK,ay,bY,cD,ba,dG,lT,qo,lu,lS,na,e0,e1]
    all_goals (simp only[Ax,pN,GE,agS];try rfl)
open Kp (Pol Ty Ru Qu poC tyC ruC quC)
variable {G:Gl}
set_option maxRecDepth 10000
def usC (u:Us):List C:=[.lit (.bool u.a),.lit (.bool u.b),.lit (.bool u.m),.lit (.bool u.t),.lit (.bool u.host)]
theorem oZ {t:Tm} (h:bW t=true):FnOK Tryz.prog G 59 [.agg (tmC t)] (bo (dF t)):=by
 have:=PW (G:=G) t;have e:decide (t.kind=1∨t.kind=2∨t.kind=5∨t.kind=6)=dF t:=by
  obtain⟨k,n,l⟩:=t;have h1:=(fe h).1;unfold okK at h1;rcases h1 with rfl | rfl | rfl | rfl | rfl | rfl<;>rfl
 rwa [e] at this
section
variable {u:Us} {nb q:Nat} {K:V->Prop} {a b c d e:V}
theorem agT:dZ false 1 0 (usC u) K=K (bo u.a):=rfl
theorem agU:dZ false 1 1 (usC u) K=K (bo u.b):=rfl
theorem agV:dZ false 1 2 (usC u) K=K (bo u.m):=rfl
theorem agW:dZ false 1 3 (usC u) K=K (bo u.t):=rfl
theorem agX:dZ false 1 4 (usC u) K=K (bo u.host):=rfl
theorem aee:fW [a,b,c,d,e] 0 ((usC u).map V.c)=(usC u).map V.c:=rfl
theorem ZN:(usC u).length=5:=rfl
end
def Cd:=jj @agT (jj @agU (jj @agV (jj @agW (jj @agX (jj @aee @ZN)))))
theorem im (n:Nat) (hn:n<=16):FnOK Tryz.prog G 87 [i64 n] (.agg (usC (usL.getD n us0))):=by
 refine bD (rs:=[.cell 2 100]) false [] mixed Tryz.func87 rfl rfl rfl rfl (by kernel_rfl) (by simp) rfl rfl ?_;simp only[pkA,ptA,seval];refine cR (es:=usL.map usC) Up rfl oC (by decide) (aC n) (c:=usC (usL.getD n us0)) ?_ rfl ?_
 .have hl:n<usL.length:=Nat.lt_of_le_of_lt hn (by decide)
  simp only[fq,bw,ak hl,bQ,aG,ba]
 simp only[pkA,ptA,Cd,seval]
def V1:=jj @pkA (jj @ptA @pkT)
theorem uR (t key:Tm) (x y:Bool) (hx:(x&&decide (t.kind=3)||y&&decide (t.kind=4))=true->∃ a b,t.l=[a,b]) (ht:bi t<=1000000000) (hk:bi key<=1000000000) :
 FnOK Tryz.prog G 90 [.agg (tmC t),.agg (tmC key),bo x,bo y] (bo (lR t key x y)):=by
 refine bD (rs:=[.tmp 8]) false [] mixed Tryz.func90 rfl rfl rfl rfl (by kernel_rfl) (by simp) rfl rfl ?_;have no:(x&&decide (t.kind=3)||y&&decide (t.kind=4))=false->lR t key x y=false:=λh=>by unfold lR;rw[h];rfl
 have yes:(x&&decide (t.kind=3)||y&&decide (t.kind=4))=true->∃ a b,t.l=[a,b]/\bi a<=1000000000/\lR t key x y=decide (a=key):=λh=>by
  obtain⟨a,b,e⟩:=hx h;refine⟨a,b,e,?_,?_⟩
  .obtain⟨k,n,l⟩:=t
   simp only[Tm.l] at e;subst e;simp only[bi,cz] at ht;omega
  .unfold lR;rw[h,e,dI,bJ];exact fb.2 (ap a key▸Iff.rfl)
 cases x<;>cases y<;>cases h3:decide (t.kind=3)<;>cases h4:decide (t.kind=4)
 all_goals simp only[h3,h4,cK,cv,g9,ky,forall_const,Bool.true_eq_false,ay,false_implies] at no yes
 all_goals first
  |(simp only[V1,seval,h3,h4,ah,no];done)
  |exact absurd ((fM h3).symm.trans (fM h4)) (by decide)
  |skip
 all_goals (
  obtain⟨a,b,e,ha,hu⟩:=yes;have la:bK Tryz.prog 33 (.c (tsC t.l)) (i64 0)=λK=>bK Tryz.prog 33 (.c (.sl [tmC a,tmC b])) (i64 0) K:=by rw[e];rfl
  have ia:∀ K,K (.c (.rp (tmC a) 0))->bK Tryz.prog 33 (.c (tsC t.l)) (i64 0) K:=λK hK=>by rw[la];exact cR dc rfl cV (by decide) (mG 0) (c:=tmC a) rfl (bG a) hK
  simp only[V1,seval,h3,h4,ah];refine ia _ ?_;simp only[V1,seval];refine ax rfl (xF a key ha hk) (λ_=>rfl) ?_;simp only[pkA,seval,hu])
