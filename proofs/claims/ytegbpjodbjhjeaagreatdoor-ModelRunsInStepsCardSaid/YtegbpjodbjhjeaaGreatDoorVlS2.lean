/- Layer 16: Has, May of the specification, SameFacts, Class of the specification. -/
import Derived.Test.YtegbpjodbjhjeaaGreatDoorVlMk
set_option linter.all false
namespace Go.Proofs.YtegbpjodbjhjeaaGreatDoor
open Go Go.Vl
open Kp (Pol Ty Ru Qu poC tyC ruC quC)
variable {G:Gl}
set_option maxRecDepth 10000
def Ek:=jj @pkA @ptA
def Vh:=jj @pkA (jj @ptA @pkF)
set_option maxHeartbeats 1000000 in
theorem tq (xs ys:List Fa) (hx:xs.length≤1000000000) (hy:ys.length≤1000000000):FnOK Tryz.prog G 17 [.c (fsC xs),.c (fsC ys)] (bo (decide (xs=ys))):=by
 refine bP (rs:=[.tmp 4]) false [] mixed Tryz.func17 rfl rfl rfl rfl (by kernel_rfl) (by simp) rfl rfl ?_
 simp only[Ek,seval,fsC,ap]
 refine aZ (fun hne=>?_) (fun hle=>?_)
 ·have:¬ xs=ys:=fun e=>by subst e;simp at hne
  simp only[pkA,seval,this,bE]
 ·have hle:xs.length=ys.length:=by simp at hle;omega
  simp only[pkA,seval]
  refine cZ (fun i:Nat=>hdS [(0,.c (fsC xs)),(1,.c (fsC ys)),(5,i64 i)] []) (fun i=>xs.length - i) (fun i=>i≤xs.length∧xs.take i=ys.take i) 0 ⟨aA _,rfl⟩ ?_ ?_
  ·refine cR rfl (aA _) (ae _) ?_ trivial
   simp[FL,ar,fsC]
  rintro i ⟨hi,hno⟩ R hnorm hexit hret
  simp only[Ek,seval,fsC,ap]
  refine aZ (fun hlt=>?_) (fun hge=>?_)
  ·have hlt:i<xs.length:=by simpa using hlt
   have hlt2:i<ys.length:=by omega
   have hw:=wrap_i64 (i+1) (by omega)
   simp only[pkA,seval]
   refine dL lv rfl iY (by decide) (aM i) (c:=faC xs[i]) (by simp[hlt]) (iZ _) ?_
   simp only[Vh,seval]
   refine dL lv rfl iY (by decide) (aM i) (c:=faC ys[i]) (by simp[hlt2]) (iZ _) ?_
   simp only[Vh,seval]
   refine aZ (fun hd=>?_) (fun he=>?_)
   ·have hd:xs[i]≠ys[i]:=by simpa using hd
    have:¬ xs=ys:=fun e=>by subst e;exact hd rfl
    simp only[pkA,seval]
    refine hret _ ?_
    simp only[pkA,seval,this,bE]
   ·have he:xs[i]=ys[i]:=by simpa using he
    simp only[pkA,seval]
    refine hnorm (i+1) _ ⟨hlt,?_⟩ (by omega) (cR rfl (aA _) (aA _) ?_ trivial)
    ·rw[bg hlt,bg hlt2,hno,he]
    ·simp[FL,ar,hw,fsC]
  ·have:i=xs.length:=by simp at hge;omega
   subst this
   have:xs=ys:=by rw[cY,hle,cY] at hno;exact hno
   simp only[pkA]
   refine hexit _ _ ?_
   simp only[pkA,seval,this,ai]
def few (p:Pol) (n:Nat):Bool:=decide (p.types.length≤8)&&(decide (p.rules.length≤40)&&(decide (p.quorums.length≤8)&&decide (n≤40)))
def HU:=jj @pkA (jj @ptA @Kp.pkP)
theorem YE (p:Pol) (l:List Cl):FnOK Tryz.prog G 9 [.agg (poC p),.c (qh l)] (bo (few p l.length)):=by
 have c8:∀ n:Nat,decide ((n:Int)≤8)=decide (n≤8):=fun n=>ib.2 (by omega)
 have c40:∀ n:Nat,decide ((n:Int)≤40)=decide (n≤40):=fun n=>ib.2 (by omega)
 unfold few
 refine bP (rs:=[.tmp 4]) false [] mixed Tryz.func9 rfl rfl rfl rfl (by kernel_rfl) (by simp) rfl rfl ?_
 simp only[HU,seval,qh,ap,c8]
 by_cases h1:p.types.length≤8
 case neg=>simp only[pkA,seval,h1,bE]
 by_cases h2:p.rules.length≤40
 case neg=>simp only[HU,seval,ap,c40,h1,h2,ai,bE]
 by_cases h3:p.quorums.length≤8
 case neg=>simp only[HU,seval,ap,c8,c40,h1,h2,h3,ai,bE]
 simp only[HU,seval,ap,c8,c40,h1,h2,h3,ai]
theorem UB {p:Pol} {n:Nat} (hP:Kp.PolIn p) (h:few p n=true):POk p∧n≤40:=by
 unfold few at h
 simp only[aF,bi] at h
 exact⟨⟨h.1,h.2.1,by omega,hP⟩,h.2.2.2⟩
def nv:Pol:=⟨⟨#[112]⟩,[⟨⟨#[97]⟩,17,0⟩],[⟨3,0,0⟩],[]⟩
theorem KE:FnOK Tryz.prog G 32 [] (.agg (poC nv)):=by
 refine bP (rs:=[.cell 0 26]) false [] mixed Tryz.func32 rfl rfl rfl rfl (by kernel_rfl) (by simp) rfl rfl ?_
 simp only[Ek,seval]
 refine⟨rfl,?_⟩;unfold ldA;exact⟨by decide,⟨rfl,rfl⟩,rfl⟩
theorem El:POk nv:=⟨by decide,by decide,by decide,by
 have i:∀ n:Nat,n<100→I64 (n:Int):=fun n h=>⟨by omega,by omega⟩
 constructor
 all_goals simp only[nv,bw,eo,jT,forall_eq,aC,aJ]
 all_goals first
  |exact⟨by decide,i 17 (by decide),i 0 (by decide)⟩
  |exact⟨i 3 (by decide),i 0 (by decide),i 0 (by decide)⟩
  |decide
  |exact fun t h=>False.elim h⟩
theorem qk:Kp.gB nv=true:=by decide
abbrev s2E:Sy:=BA 0 0
abbrev s6E:Sy:=Ei 0 0
theorem Vi:ji nv sy0 0 [⟨1,0,0,0,0⟩,⟨1,0,0,0,0⟩,⟨9,0,1,0,0⟩]=(s2E,3,0):=(YC (p:=nv) (a:=0) (b:=0) qk (by decide) (by decide) (by decide)).1
theorem e_ok2:SyOk s2E:=by
 have:=Bo (p:=nv) (by decide) [⟨1,0,0,0,0⟩,⟨1,0,0,0,0⟩,⟨9,0,1,0,0⟩] sy0 0 Uk
 rw[Vi] at this;exact this
theorem Vj:bG nv s2E ⟨5,0,0,0,0⟩=.ok s6E:=by
 refine tg (k:=5) qk rfl rfl ?_
 have h0:ofI s2E.hs 0=.ok ⟨0,clK 0⟩:=rfl
 have h1:ofI s2E.its 0=.ok (gQ (clK 0) (clK 1)):=rfl
 have h2:g8 (gQ (clK 0) (clK 1)) (clK 0) [3]=.ok (clK 1):=rfl
 have h3:j9 nv 0 16=true:=by decide
 simp only[doM,okb,h0,h1,h2,h3,dR,cA];rfl
theorem e_ok6:SyOk s6E:=sX e_ok2 (by decide) Vj
theorem aar:bG nv s2E ⟨3,0,0,0,0⟩=.error 10:=by
 unfold bG
 rw[qk]
 have h0:ofI s2E.hs 0=.ok ⟨0,clK 0⟩:=rfl
 have h3:j9 nv 0 4=false:=by decide
 show doM nv s2E ⟨3,0,0,0,0⟩ 3=_
 simp only[doM,okb,h0,h3,dR];rfl
theorem YF:bG nv s6E ⟨5,0,0,1,0⟩=.error 8:=by
 unfold bG
 rw[qk]
 have h0:ofI s6E.hs 0=.ok ⟨0,clK 0⟩:=rfl
 have h1:ofI s6E.its 1=.ok (clK 1):=rfl
 have h2:g8 (clK 1) (clK 0) [3]=.error 8:=rfl
 have h3:j9 nv 0 16=true:=by decide
 show doM nv s6E ⟨5,0,0,1,0⟩ 5=_
 simp only[doM,okb,h0,h1,h2,h3,dR,cA];rfl
theorem YG:bG nv s2E ⟨3,2,0,0,0⟩=.error 1:=by
 unfold bG
 rw[qk]
 have h0:ofI s2E.hs 2=.error 1:=rfl
 show doM nv s2E ⟨3,2,0,0,0⟩ 3=_
 simp only[doM,h0];rfl
theorem Vk (n:Int):knS s2E (clK n)=false:=by
 cases hk:knS s2E (clK n) with
 |false=>rfl
 |true=>exact absurd rfl ((Vd ((Bd fun t ht=>(e_ok2.iv t ht).1).1 hk)).2 n)
theorem Vm:knS s6E (clK 1)=true:=(Bd fun t ht=>(e_ok6.iv t ht).1).2 (.of (.item (by simp[Ei])))
theorem cl6 {b:Bool} {t:Tm} (h:Kn s6E.its b t):(b=false→t=gQ (clK 0) (clK 1)∨t=clK 1)∧t≠clK 0:=by
 induction h with
 |item h=>
   simp only[Ei,bw,eo,jT] at h;rcases h with rfl | rfl
   ·exact⟨fun _=>.inl rfl,fun e=>by cases e⟩
   ·exact⟨fun _=>.inr rfl,fun e=>by cases e⟩
 |opn _ hk _ i1 i2=>
  rcases i1.1 rfl with e | e
  ·unfold gQ at e;cases e;exact absurd rfl i2.2
  ·cases e
 |of _ ih=>exact⟨fun h=>(by cases h),ih.2⟩
 |data=>exact⟨fun h=>(by cases h),fun e=>by cases e⟩
 |make h _ _=>exact⟨fun h=>(by cases h),fun e=>by cases e;exact h rfl⟩
theorem P1:knS s6E (clK 0)=false:=by
 cases hk:knS s6E (clK 0) with
 |false=>rfl
 |true=>exact absurd rfl (cl6 ((Bd fun t ht=>(e_ok6.iv t ht).1).1 hk)).2
theorem YH:eb s2E.its=[gQ (clK 0) (clK 1)]:=by
 have hv:∀ t∈s2E.its,bR t=true:=fun t ht=>(e_ok2.iv t ht).1
 refine nK (kR hv).1.st (List.pairwise_singleton _ _) fun x=>?_
 rw[wY hv,a8]
 exact⟨fun h=>(Vd h).1 rfl,fun h=>by subst h;exact .item (by simp[BA])⟩
theorem YI:∀ x,x∈eb s6E.its↔x=gQ (clK 0) (clK 1)∨x=clK 1:=fun x=>by
 have hv:∀ t∈s6E.its,bR t=true:=fun t ht=>(e_ok6.iv t ht).1
 rw[wY hv]
 exact⟨fun h=>(cl6 h).1 rfl,fun h=>.item (by rcases h with rfl | rfl<;>simp[Ei])⟩
theorem aas (n:Int) (h:n=0∨n=1):orS s2E (clK n)=0∧orS s6E (clK n)=0:=by rcases h with rfl | rfl<;>exact⟨rfl,rfl⟩
theorem xp (n:Int) (h:n=0∨n=1):oa s2E (clK n)=1:=by
 unfold oa
 rw[Vk,(aas n h).1];rfl
theorem BB:oa s6E (clK 1)=0:=by unfold oa;rw[Vm];rfl
theorem HV:oa s6E (clK 0)=1:=by unfold oa;rw[P1,(aas 0 (.inl rfl)).2];rfl
theorem Em:nr s2E=[⟨1,1,0⟩,⟨2,1,1⟩]:=by
 refine xl (qi _) (by decide) fun f=>?_
 rw[zn,YH]
 simp only[BA,bw,eo,jT,exists_eq_or_imp,exists_eq_left]
 have h1:nq s2E ⟨0,clK 0⟩=⟨1,1,0⟩:=by unfold nq;rw[xp 0 (.inl rfl)]
 have h2:nq s2E ⟨0,clK 1⟩=⟨1,1,0⟩:=by unfold nq;rw[xp 1 (.inr rfl)]
 have h3:kE s2E (gQ (clK 0) (clK 1))=[⟨2,1,1⟩]:=by
  have e1:=xp 0 (.inl rfl)
  have e2:=xp 1 (.inr rfl)
  show[(⟨2,oa s2E (clK 0),oa s2E (clK 1)⟩:Fa)]=_
  rw[e1,e2]
 have h4:∀ n,lO s2E ⟨0,clK n⟩=[]:=fun n=>by unfold lO;rw[Vk];rfl
 simp only[BA] at h1 h2 h3 h4
 rw[h1,h2,h3,h4,h4]
 simp[eq_comm]
theorem xq:nr s6E=[⟨1,0,0⟩,⟨1,1,0⟩,⟨2,1,0⟩,⟨3,1,0⟩]:=by
 refine xl (qi _) (by decide) fun f=>?_
 rw[zn]
 simp only[YI]
 simp only[Ei,bw,eo,jT,exists_eq_or_imp,exists_eq_left]
 have h1:nq s6E ⟨0,clK 0⟩=⟨1,1,0⟩:=by unfold nq;rw[HV]
 have h2:nq s6E ⟨0,clK 1⟩=⟨1,0,0⟩:=by unfold nq;rw[BB]
 have h3:kE s6E (gQ (clK 0) (clK 1))=[⟨2,1,0⟩]:=by
  have e1:=HV
  have e2:=BB
  show[(⟨2,oa s6E (clK 0),oa s6E (clK 1)⟩:Fa)]=_
  rw[e1,e2]
 have h5:kE s6E (clK 1)=[]:=rfl
 have h4:lO s6E ⟨0,clK 0⟩=[]:=by unfold lO;rw[P1];rfl
 have h6:lO s6E ⟨0,clK 1⟩=[⟨3,1,0⟩]:=by unfold lO;rw[Vm];rfl
 simp only[Ei] at h1 h2 h3 h4 h5 h6
 rw[h1,h2,h3,h4,h5,h6]
 simp only[bw,eo,jT,false_or,eq_comm (b:=f)]
 constructor
 ·rintro((h | h) | h | h)<;>simp[h]
 ·rintro(h | h | h | h)<;>simp[h]
open Kp (Pol poC)
theorem aat:eF [i64 0,i64 0,V.ow none []] 0 [i64 2,i64 1,V.c (C.sl [])]=(tmC (clK 1)).map V.c:=rfl
def zq:=jj @pkA (jj @ptA (jj @pkS @D3))
def ra:=jj @pkA (jj @ptA @D3)
def Vn:=jj @pkA (jj @ptA @pkS)
def Vo:=jj @pkA (jj @ptA @pkT)
def Vp:=jj @pkA (jj @ptA (jj @pkT @D3))
set_option maxHeartbeats 8000000 in
theorem KF:FnOK Tryz.prog glM 10 [] (bo true):=by
 have pol:=KE (G:=glM)
 have run:FnOK Tryz.prog glM 11 [.agg (poC nv),.c (qh [⟨1,0,0,0,0⟩,⟨1,0,0,0,0⟩,⟨9,0,1,0,0⟩])] (.tup [.agg (syC s2E),i64 3,i64 0]):=by
  have:=PP (p:=nv) El [⟨1,0,0,0,0⟩,⟨1,0,0,0,0⟩,⟨9,0,1,0,0⟩] (by decide)
  rw[Vi] at this;exact this
 have st6:=pj (p:=nv) (s:=s2E) (c:=⟨5,0,0,0,0⟩) El e_ok2
 rw[Vj] at st6
 have st8:=pj (p:=nv) (s:=s2E) (c:=⟨3,0,0,0,0⟩) El e_ok2
 rw[aar] at st8
 have st10:=pj (p:=nv) (s:=s6E) (c:=⟨5,0,0,1,0⟩) El e_ok6
 rw[YF] at st10
 have st12:=pj (p:=nv) (s:=s2E) (c:=⟨3,2,0,0,0⟩) El e_ok2
 rw[YG] at st12
 simp only[stR] at st6 st8 st10 st12
 have f2:=tf e_ok2
 rw[Em] at f2
 have f6:=tf e_ok6
 rw[xq] at f6
 have l1:s2E.hs.length=2:=rfl
 have l2:s2E.its.length=1:=rfl
 have l3:s2E.os.length=2:=rfl
 have l4:s6E.its.length=2:=rfl
 have l5:s2E.fresh=2:=rfl
 have i6:s6E.its=[gQ (clK 0) (clK 1),clK 1]:=rfl
 have i2:s2E.its=[gQ (clK 0) (clK 1)]:=rfl
 have sf2:=tq (G:=glM) [⟨1,1,0⟩,⟨2,1,1⟩] [⟨1,1,0⟩,⟨2,1,1⟩] (by decide) (by decide)
 rw[eI rfl] at sf2
 have sf6:=tq (G:=glM) [⟨1,0,0⟩,⟨1,1,0⟩,⟨2,1,0⟩,⟨3,1,0⟩] [⟨1,0,0⟩,⟨1,1,0⟩,⟨2,1,0⟩,⟨3,1,0⟩] (by decide) (by decide)
 rw[eI rfl] at sf6
 have k1:=oG e_ok2 (clK 1) (by decide) (by decide)
 rw[xp 1 (.inr rfl)] at k1
 have k2:=oG e_ok6 (clK 1) (by decide) (by decide)
 rw[BB] at k2
 have k3:=oG e_ok2 (gQ (clK 0) (clK 1)) (by decide) (by decide)
 rw[show oa s2E (gQ (clK 0) (clK 1))=-1 from rfl] at k3
 have r1:=xn e_ok6 1
 rw[show Eg s6E 3 1=true by unfold Eg;rw[xq];decide] at r1
 have r2:=xn e_ok2 1
 rw[show Eg s2E 3 1=false by unfold Eg;rw[Em];decide] at r2
 have r3:=YD e_ok6 1
 rw[show Eg s6E 4 1=false by unfold Eg;rw[xq];decide] at r3
 have m1:=HT (G:=glM) e_ok2.b e_ok2.b
 rw[eI rfl] at m1
 have m2:=HT (G:=glM) e_ok2.b e_ok6.b
 rw[en (show s2E≠s6E from fun h=>absurd (kr (fun s=>s.its.length) h) (by decide))] at m2
 have n2:((2:Nat):Int)=2:=rfl
 have n1:((1:Nat):Int)=1:=rfl
 have c0:=qb (G:=glM) (clK 1) (clK 1) (by decide) (by decide)
 rw[show jO (clK 1) (clK 1)=0 by decide] at c0
 generalize hs2:s2E=s2 at *
 generalize hs6:s6E=s6 at *
 refine bP (rs:=[.tmp 0]) false [] mixed Tryz.func10 rfl rfl rfl rfl (by kernel_rfl) (by simp) rfl rfl ?_
 simp only[Ek,seval,List.append_eq]
 refine aD rfl pol (by first | exact(fun h=>by cases h) | exact fun _=>rfl) ?_
 simp only[pkA,seval]
 refine aD rfl run (by first | exact(fun h=>by cases h) | exact fun _=>rfl) ?_
 simp only[zq,seval,hsC,tsC,ap,l1,l2,l3,n2,n1,ai]
 refine aD rfl f2 (by first | exact(fun h=>by cases h) | exact fun _=>rfl) ?_
 simp only[pkA,seval]
 refine aD rfl pol (by first | exact(fun h=>by cases h) | exact fun _=>rfl) ?_
 simp only[ra,seval,ai]
 refine aD rfl st6 (by first | exact(fun h=>by cases h) | exact fun _=>rfl) ?_
 simp only[zq,seval,ai]
 refine aD rfl pol (by first | exact(fun h=>by cases h) | exact fun _=>rfl) ?_
 simp only[ra,seval,ai]
 refine aD rfl st8 (by first | exact(fun h=>by cases h) | exact fun _=>rfl) ?_
 simp only[zq,seval,tsC,ap,l4,n2,ai]
 refine aD rfl pol (by first | exact(fun h=>by cases h) | exact fun _=>rfl) ?_
 simp only[ra,seval,ai]
 refine aD rfl st10 (by first | exact(fun h=>by cases h) | exact fun _=>rfl) ?_
 simp only[zq,seval,ai]
 refine aD rfl pol (by first | exact(fun h=>by cases h) | exact fun _=>rfl) ?_
 simp only[ra,seval,ai]
 refine aD rfl st12 (by first | exact(fun h=>by cases h) | exact fun _=>rfl) ?_
 simp only[zq,seval,aat,ai]
 refine aD rfl sf2 (by first | exact(fun h=>by cases h) | exact fun _=>rfl) ?_
 simp only[ra,seval,ai]
 refine aD rfl f6 (by first | exact(fun h=>by cases h) | exact fun _=>rfl) ?_
 simp only[Ek,seval]
 refine aD rfl sf6 (by first | exact(fun h=>by cases h) | exact fun _=>rfl) ?_
 simp only[Vn,seval,tsC,ai]
 refine dL dm rfl dc (by decide) (by decide) (c:=tmC (clK 1)) (by rw[i6];rfl) (by rfl) ?_
 simp only[Vo,seval,ai]
 refine aD rfl c0 (by first | exact(fun h=>by cases h) | exact fun _=>rfl) ?_
 simp only[Vp,seval,ai]
 refine aD rfl k1 (by first | exact(fun h=>by cases h) | exact fun _=>rfl) ?_
 simp only[Vp,seval,ai]
 refine aD rfl k2 (by first | exact(fun h=>by cases h) | exact fun _=>rfl) ?_
 simp only[zq,seval,tsC,ai]
 refine dL dm rfl dc (by decide) (by decide) (c:=tmC (gQ (clK 0) (clK 1))) (by rw[i2];rfl) (by rfl) ?_
 simp only[Vo,seval]
 refine aD rfl k3 (by first | exact(fun h=>by cases h) | exact fun _=>rfl) ?_
 simp only[ra,seval,ai]
 refine aD rfl r1 (by first | exact(fun h=>by cases h) | exact fun _=>rfl) ?_
 simp only[ra,seval,ai]
 refine aD rfl r2 (by first | exact(fun h=>by cases h) | exact fun _=>rfl) ?_
 simp only[ra,seval,ai]
 refine aD rfl r3 (by first | exact(fun h=>by cases h) | exact fun _=>rfl) ?_
 simp only[ra,seval,ai]
 refine aD rfl m1 (by first | exact(fun h=>by cases h) | exact fun _=>rfl) ?_
 simp only[ra,seval,ai]
 refine aD rfl m2 (by first | exact(fun h=>by cases h) | exact fun _=>rfl) ?_
 simp only[Vn,seval,l5,ai]
