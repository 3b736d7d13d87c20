/- Layer 16: Has, May of the specification, SameFacts, Class of the specification. -/
import Derived.Test.YtegbpjodbjhjeaaGreatDoorVlMk
set_option maxHeartbeats 8000000
set_option linter.all false
namespace Go.Proofs.YtegbpjodbjhjeaaGreatDoor
open Go Go.Vl
open Kp (Pol Ty Ru Qu poC tyC ruC quC)
variable {G:Gl}
set_option maxRecDepth 10000
def HS:=jj @pkA @ptA
def Yx:=jj @pkA (jj @ptA @pkF)
theorem wt (xs ys:List Fa) (hx:xs.length≤1000000000) (hy:ys.length≤1000000000):FnOK Tryz.prog G 17 [.c (fsC xs),.c (fsC ys)] (bo (decide (xs=ys))):=by
 refine bP (rs:=[.tmp 4]) false [] mixed Tryz.func17 rfl rfl rfl rfl (by kernel_rfl) (by simp) rfl rfl ?_
 simp only[HS,seval,fsC,ap]
 refine aV (fun gv=>?_) (fun fx=>?_)
 ·have:¬ xs=ys:=fun e=>by subst e;simp at gv
  simp only[pkA,seval,this,cd]
 ·have fx:xs.length=ys.length:=by simp at fx;omega
  simp only[pkA,seval]
  refine cF (fun i:Nat=>hdS [(0,.c (fsC xs)),(1,.c (fsC ys)),(5,i64 i)] []) (fun i=>xs.length - i) (fun i=>i≤xs.length∧xs.take i=ys.take i) 0 ⟨au _,rfl⟩ ?_ ?_
  ·refine cj rfl (au _) (ae _) ?_ trivial
   simp[FL,ar,fsC]
  rintro i ⟨hi,fU⟩ R ck cG dn
  simp only[HS,seval,fsC,ap]
  refine aV (fun bF=>?_) (fun ga=>?_)
  ·have bF:i<xs.length:=by simpa using bF
   have nS:i<ys.length:=by omega
   have hw:=wrap_i64 (i+1) (by omega)
   simp only[pkA,seval]
   refine dz ny rfl kB (by decide) (aI i) (c:=faC xs[i]) (by simp[bF]) (jM _) ?_
   simp only[Yx,seval]
   refine dz ny rfl kB (by decide) (aI i) (c:=faC ys[i]) (by simp[nS]) (jM _) ?_
   simp only[Yx,seval]
   refine aV (fun hd=>?_) (fun he=>?_)
   ·have hd:xs[i]≠ys[i]:=by simpa using hd
    have:¬ xs=ys:=fun e=>by subst e;exact hd rfl
    simp only[pkA,seval]
    refine dn _ ?_
    simp only[pkA,seval,this,cd]
   ·have he:xs[i]=ys[i]:=by simpa using he
    simp only[pkA,seval]
    refine ck (i+1) _ ⟨bF,?_⟩ (by omega) (cj rfl (au _) (au _) ?_ trivial)
    ·rw[aU bF,aU nS,fU,he]
    ·simp[FL,ar,hw,fsC]
  ·have:i=xs.length:=by simp at ga;omega
   subst this
   have:xs=ys:=by rw[cx,fx,cx] at fU;exact fU
   simp only[pkA]
   refine cG _ _ ?_
   simp only[pkA,seval,this,ai]
def few (p:Pol) (n:Nat):Bool:=decide (p.types.length≤8)&&(decide (p.rules.length≤40)&&(decide (p.quorums.length≤8)&&decide (n≤40)))
def Ma:=jj @pkA (jj @ptA @Kp.pkP)
theorem Kc (p:Pol) (l:List Cl):FnOK Tryz.prog G 9 [.agg (poC p),.c (lP l)] (bo (few p l.length)):=by
 have c8:∀ n:Nat,decide ((n:Int)≤8)=decide (n≤8):=fun n=>i8.2 (by omega)
 have c40:∀ n:Nat,decide ((n:Int)≤40)=decide (n≤40):=fun n=>i8.2 (by omega)
 unfold few
 refine bP (rs:=[.tmp 4]) false [] mixed Tryz.func9 rfl rfl rfl rfl (by kernel_rfl) (by simp) rfl rfl ?_
 simp only[Ma,seval,lP,ap,c8]
 by_cases h1:p.types.length≤8
 case neg=>simp only[pkA,seval,h1,cd]
 by_cases h2:p.rules.length≤40
 case neg=>simp only[Ma,seval,ap,c40,h1,h2,ai,cd]
 by_cases h3:p.quorums.length≤8
 case neg=>simp only[Ma,seval,ap,c8,c40,h1,h2,h3,ai,cd]
 simp only[Ma,seval,ap,c8,c40,h1,h2,h3,ai]
theorem ER {p:Pol} {n:Nat} (hP:Kp.PolIn p) (h:few p n=true):POk p∧n≤40:=by
 unfold few at h
 simp only[aG,bi] at h
 exact⟨⟨h.1,h.2.1,by omega,hP⟩,h.2.2.2⟩
def pj:Pol:=⟨⟨#[112]⟩,[⟨⟨#[97]⟩,17,0⟩],[⟨3,0,0⟩],[]⟩
theorem ON:FnOK Tryz.prog G 32 [] (.agg (poC pj)):=by
 refine bP (rs:=[.cell 0 26]) false [] mixed Tryz.func32 rfl rfl rfl rfl (by kernel_rfl) (by simp) rfl rfl ?_
 simp only[HS,seval]
 refine⟨rfl,?_⟩;unfold ldA;exact⟨by decide,⟨rfl,rfl⟩,rfl⟩
theorem HT:POk pj:=⟨by decide,by decide,by decide,by
 have i:∀ n:Nat,n<100→I64 (n:Int):=fun n h=>⟨by omega,by omega⟩
 constructor
 all_goals simp only[pj,bw,eO,kT,forall_eq,aB,aK]
 all_goals first
  |exact⟨by decide,i 17 (by decide),i 0 (by decide)⟩
  |exact⟨i 3 (by decide),i 0 (by decide),i 0 (by decide)⟩
  |decide
  |exact fun t h=>False.elim h⟩
theorem sN:Kp.gQ pj=true:=by decide
abbrev s2E:Sy:=EQ 0 0
abbrev s6E:Sy:=HO 0 0
theorem Yy:mE pj sy0 0 [⟨1,0,0,0,0⟩,⟨1,0,0,0,0⟩,⟨9,0,1,0,0⟩]=(s2E,3,0):=(abv (p:=pj) (a:=0) (b:=0) sN (by decide) (by decide) (by decide)).1
theorem e_ok2:SyOk s2E:=by
 have:=v7 (p:=pj) (by decide) [⟨1,0,0,0,0⟩,⟨1,0,0,0,0⟩,⟨9,0,1,0,0⟩] sy0 0 JV
 rw[Yy] at this;exact this
theorem Yz:bN pj s2E ⟨5,0,0,0,0⟩=.ok s6E:=by
 refine wm (k:=5) sN rfl rfl ?_
 have h0:ofI s2E.hs 0=.ok ⟨0,clK 0⟩:=rfl
 have h1:ofI s2E.its 0=.ok (im (clK 0) (clK 1)):=rfl
 have h2:iS (im (clK 0) (clK 1)) (clK 0) [3]=.ok (clK 1):=rfl
 have h3:kw pj 0 16=true:=by decide
 simp only[doM,okb,h0,h1,h2,h3,er,cJ];rfl
theorem e_ok6:SyOk s6E:=v6 e_ok2 (by decide) Yz
theorem aec:bN pj s2E ⟨3,0,0,0,0⟩=.error 10:=by
 unfold bN
 rw[sN]
 have h0:ofI s2E.hs 0=.ok ⟨0,clK 0⟩:=rfl
 have h3:kw pj 0 4=false:=by decide
 show doM pj s2E ⟨3,0,0,0,0⟩ 3=_
 simp only[doM,okb,h0,h3,er];rfl
theorem abw:bN pj s6E ⟨5,0,0,1,0⟩=.error 8:=by
 unfold bN
 rw[sN]
 have h0:ofI s6E.hs 0=.ok ⟨0,clK 0⟩:=rfl
 have h1:ofI s6E.its 1=.ok (clK 1):=rfl
 have h2:iS (clK 1) (clK 0) [3]=.error 8:=rfl
 have h3:kw pj 0 16=true:=by decide
 show doM pj s6E ⟨5,0,0,1,0⟩ 5=_
 simp only[doM,okb,h0,h1,h2,h3,er,cJ];rfl
theorem abx:bN pj s2E ⟨3,2,0,0,0⟩=.error 1:=by
 unfold bN
 rw[sN]
 have h0:ofI s2E.hs 2=.error 1:=rfl
 show doM pj s2E ⟨3,2,0,0,0⟩ 3=_
 simp only[doM,h0];rfl
theorem YA (n:Int):knS s2E (clK n)=false:=by
 cases hk:knS s2E (clK n) with
 |false=>rfl
 |true=>exact absurd rfl ((Yu ((tB fun t ht=>(e_ok2.iv t ht).1).1 hk)).2 n)
theorem YC:knS s6E (clK 1)=true:=(tB fun t ht=>(e_ok6.iv t ht).1).2 (.of (.item (by simp[HO])))
theorem cl6 {b:Bool} {t:Tm} (h:Kn s6E.its b t):(b=false→t=im (clK 0) (clK 1)∨t=clK 1)∧t≠clK 0:=by
 induction h with
 |item h=>
   simp only[HO,bw,eO,kT] at h;rcases h with rfl | rfl
   ·exact⟨fun _=>.inl rfl,fun e=>by cases e⟩
   ·exact⟨fun _=>.inr rfl,fun e=>by cases e⟩
 |opn _ hk _ i1 i2=>
  rcases i1.1 rfl with e | e
  ·unfold im at e;cases e;exact absurd rfl i2.2
  ·cases e
 |of _ ih=>exact⟨fun h=>(by cases h),ih.2⟩
 |data=>exact⟨fun h=>(by cases h),fun e=>by cases e⟩
 |make h _ _=>exact⟨fun h=>(by cases h),fun e=>by cases e;exact h rfl⟩
theorem TV:knS s6E (clK 0)=false:=by
 cases hk:knS s6E (clK 0) with
 |false=>rfl
 |true=>exact absurd rfl (cl6 ((tB fun t ht=>(e_ok6.iv t ht).1).1 hk)).2
theorem aby:d4 s2E.its=[im (clK 0) (clK 1)]:=by
 have hv:∀ t∈s2E.its,bT t=true:=fun t ht=>(e_ok2.iv t ht).1
 refine pO (k7 hv).1.st (List.pairwise_singleton _ _) fun x=>?_
 rw[As hv,aN]
 exact⟨fun h=>(Yu h).1 rfl,fun h=>by subst h;exact .item (by simp[EQ])⟩
theorem abz:∀ x,x∈d4 s6E.its↔x=im (clK 0) (clK 1)∨x=clK 1:=fun x=>by
 have hv:∀ t∈s6E.its,bT t=true:=fun t ht=>(e_ok6.iv t ht).1
 rw[As hv]
 exact⟨fun h=>(cl6 h).1 rfl,fun h=>.item (by rcases h with rfl | rfl<;>simp[HO])⟩
theorem aed (n:Int) (h:n=0∨n=1):orS s2E (clK n)=0∧orS s6E (clK n)=0:=by rcases h with rfl | rfl<;>exact⟨rfl,rfl⟩
theorem AG (n:Int) (h:n=0∨n=1):qd s2E (clK n)=1:=by
 unfold qd
 rw[YA,(aed n h).1];rfl
theorem ES:qd s6E (clK 1)=0:=by unfold qd;rw[YC];rfl
theorem Mb:qd s6E (clK 0)=1:=by unfold qd;rw[TV,(aed 0 (.inl rfl)).2];rfl
theorem HU:pf s2E=[⟨1,1,0⟩,⟨2,1,1⟩]:=by
 refine AC (sM _) (by decide) fun f=>?_
 rw[tI,aby]
 simp only[EQ,bw,eO,kT,exists_eq_or_imp,exists_eq_left]
 have h1:nP s2E ⟨0,clK 0⟩=⟨1,1,0⟩:=by unfold nP;rw[AG 0 (.inl rfl)]
 have h2:nP s2E ⟨0,clK 1⟩=⟨1,1,0⟩:=by unfold nP;rw[AG 1 (.inr rfl)]
 have h3:lw s2E (im (clK 0) (clK 1))=[⟨2,1,1⟩]:=by
  have e1:=AG 0 (.inl rfl)
  have e2:=AG 1 (.inr rfl)
  show[(⟨2,qd s2E (clK 0),qd s2E (clK 1)⟩:Fa)]=_
  rw[e1,e2]
 have h4:∀ n,mf s2E ⟨0,clK n⟩=[]:=fun n=>by unfold mf;rw[YA];rfl
 simp only[EQ] at h1 h2 h3 h4
 rw[h1,h2,h3,h4,h4]
 simp[eq_comm]
theorem AH:pf s6E=[⟨1,0,0⟩,⟨1,1,0⟩,⟨2,1,0⟩,⟨3,1,0⟩]:=by
 refine AC (sM _) (by decide) fun f=>?_
 rw[tI]
 simp only[abz]
 simp only[HO,bw,eO,kT,exists_eq_or_imp,exists_eq_left]
 have h1:nP s6E ⟨0,clK 0⟩=⟨1,1,0⟩:=by unfold nP;rw[Mb]
 have h2:nP s6E ⟨0,clK 1⟩=⟨1,0,0⟩:=by unfold nP;rw[ES]
 have h3:lw s6E (im (clK 0) (clK 1))=[⟨2,1,0⟩]:=by
  have e1:=Mb
  have e2:=ES
  show[(⟨2,qd s6E (clK 0),qd s6E (clK 1)⟩:Fa)]=_
  rw[e1,e2]
 have h5:lw s6E (clK 1)=[]:=rfl
 have h4:mf s6E ⟨0,clK 0⟩=[]:=by unfold mf;rw[TV];rfl
 have h6:mf s6E ⟨0,clK 1⟩=[⟨3,1,0⟩]:=by unfold mf;rw[YC];rfl
 simp only[HO] at h1 h2 h3 h4 h5 h6
 rw[h1,h2,h3,h4,h5,h6]
 simp only[bw,eO,kT,false_or,eq_comm (b:=f)]
 constructor
 ·rintro((h | h) | h | h)<;>simp[h]
 ·rintro(h | h | h | h)<;>simp[h]
open Kp (Pol poC)
theorem aee:eU [i64 0,i64 0,V.ow none []] 0 [i64 2,i64 1,V.c (C.sl [])]=(tmC (clK 1)).map V.c:=rfl
def CG:=jj @pkA (jj @ptA (jj @pkS @HA))
def um:=jj @pkA (jj @ptA @HA)
def YD:=jj @pkA (jj @ptA @pkS)
def YE:=jj @pkA (jj @ptA @pkT)
def YF:=jj @pkA (jj @ptA (jj @pkT @HA))
theorem xw:FnOK Tryz.prog glM 10 [] (bo true):=by
 have pol:=ON (G:=glM)
 have run:FnOK Tryz.prog glM 11 [.agg (poC pj),.c (lP [⟨1,0,0,0,0⟩,⟨1,0,0,0,0⟩,⟨9,0,1,0,0⟩])] (.tup [.agg (syC s2E),i64 3,i64 0]):=by
  have:=EN (p:=pj) HT [⟨1,0,0,0,0⟩,⟨1,0,0,0,0⟩,⟨9,0,1,0,0⟩] (by decide)
  rw[Yy] at this;exact this
 have st6:=wd (p:=pj) (s:=s2E) (c:=⟨5,0,0,0,0⟩) HT e_ok2
 rw[Yz] at st6
 have st8:=wd (p:=pj) (s:=s2E) (c:=⟨3,0,0,0,0⟩) HT e_ok2
 rw[aec] at st8
 have st10:=wd (p:=pj) (s:=s6E) (c:=⟨5,0,0,1,0⟩) HT e_ok6
 rw[abw] at st10
 have st12:=wd (p:=pj) (s:=s2E) (c:=⟨3,2,0,0,0⟩) HT e_ok2
 rw[abx] at st12
 simp only[stR] at st6 st8 st10 st12
 have f2:=wi e_ok2
 rw[HU] at f2
 have f6:=wi e_ok6
 rw[AH] at f6
 have l1:s2E.hs.length=2:=rfl
 have l2:s2E.its.length=1:=rfl
 have l3:s2E.os.length=2:=rfl
 have l4:s6E.its.length=2:=rfl
 have l5:s2E.fresh=2:=rfl
 have i6:s6E.its=[im (clK 0) (clK 1),clK 1]:=rfl
 have i2:s2E.its=[im (clK 0) (clK 1)]:=rfl
 have sf2:=wt (G:=glM) [⟨1,1,0⟩,⟨2,1,1⟩] [⟨1,1,0⟩,⟨2,1,1⟩] (by decide) (by decide)
 rw[eZ rfl] at sf2
 have sf6:=wt (G:=glM) [⟨1,0,0⟩,⟨1,1,0⟩,⟨2,1,0⟩,⟨3,1,0⟩] [⟨1,0,0⟩,⟨1,1,0⟩,⟨2,1,0⟩,⟨3,1,0⟩] (by decide) (by decide)
 rw[eZ rfl] at sf6
 have k1:=qu e_ok2 (clK 1) (by decide) (by decide)
 rw[AG 1 (.inr rfl)] at k1
 have k2:=qu e_ok6 (clK 1) (by decide) (by decide)
 rw[ES] at k2
 have k3:=qu e_ok2 (im (clK 0) (clK 1)) (by decide) (by decide)
 rw[show qd s2E (im (clK 0) (clK 1))=-1 from rfl] at k3
 have r1:=rc e_ok6 1
 rw[show wl s6E 3 1=true by unfold wl;rw[AH];decide] at r1
 have r2:=rc e_ok2 1
 rw[show wl s2E 3 1=false by unfold wl;rw[HU];decide] at r2
 have r3:=Ka e_ok6 1
 rw[show wl s6E 4 1=false by unfold wl;rw[AH];decide] at r3
 have m1:=L9 (G:=glM) e_ok2.b e_ok2.b
 rw[eZ rfl] at m1
 have m2:=L9 (G:=glM) e_ok2.b e_ok6.b
 rw[fu (show s2E≠s6E from fun h=>absurd (jz (fun s=>s.its.length) h) (by decide))] at m2
 have n2:((2:Nat):Int)=2:=rfl
 have n1:((1:Nat):Int)=1:=rfl
 have c0:=mb (G:=glM) (clK 1) (clK 1) (by decide) (by decide)
 rw[show jK (clK 1) (clK 1)=0 by decide] at c0
 generalize hs2:s2E=s2 at *
 generalize hs6:s6E=s6 at *
 refine bP (rs:=[.tmp 0]) false [] mixed Tryz.func10 rfl rfl rfl rfl (by kernel_rfl) (by simp) rfl rfl ?_
 simp only[HS,seval,List.append_eq]
 refine aD rfl pol (by first | exact(fun h=>by cases h) | exact fun _=>rfl) ?_
 simp only[pkA,seval]
 refine aD rfl run (by first | exact(fun h=>by cases h) | exact fun _=>rfl) ?_
 simp only[CG,seval,hsC,tsC,ap,l1,l2,l3,n2,n1,ai]
 refine aD rfl f2 (by first | exact(fun h=>by cases h) | exact fun _=>rfl) ?_
 simp only[pkA,seval]
 refine aD rfl pol (by first | exact(fun h=>by cases h) | exact fun _=>rfl) ?_
 simp only[um,seval,ai]
 refine aD rfl st6 (by first | exact(fun h=>by cases h) | exact fun _=>rfl) ?_
 simp only[CG,seval,ai]
 refine aD rfl pol (by first | exact(fun h=>by cases h) | exact fun _=>rfl) ?_
 simp only[um,seval,ai]
 refine aD rfl st8 (by first | exact(fun h=>by cases h) | exact fun _=>rfl) ?_
 simp only[CG,seval,tsC,ap,l4,n2,ai]
 refine aD rfl pol (by first | exact(fun h=>by cases h) | exact fun _=>rfl) ?_
 simp only[um,seval,ai]
 refine aD rfl st10 (by first | exact(fun h=>by cases h) | exact fun _=>rfl) ?_
 simp only[CG,seval,ai]
 refine aD rfl pol (by first | exact(fun h=>by cases h) | exact fun _=>rfl) ?_
 simp only[um,seval,ai]
 refine aD rfl st12 (by first | exact(fun h=>by cases h) | exact fun _=>rfl) ?_
 simp only[CG,seval,aee,ai]
 refine aD rfl sf2 (by first | exact(fun h=>by cases h) | exact fun _=>rfl) ?_
 simp only[um,seval,ai]
 refine aD rfl f6 (by first | exact(fun h=>by cases h) | exact fun _=>rfl) ?_
 simp only[HS,seval]
 refine aD rfl sf6 (by first | exact(fun h=>by cases h) | exact fun _=>rfl) ?_
 simp only[YD,seval,tsC,ai]
 refine dz dq rfl di (by decide) (by decide) (c:=tmC (clK 1)) (by rw[i6];rfl) (by rfl) ?_
 simp only[YE,seval,ai]
 refine aD rfl c0 (by first | exact(fun h=>by cases h) | exact fun _=>rfl) ?_
 simp only[YF,seval,ai]
 refine aD rfl k1 (by first | exact(fun h=>by cases h) | exact fun _=>rfl) ?_
 simp only[YF,seval,ai]
 refine aD rfl k2 (by first | exact(fun h=>by cases h) | exact fun _=>rfl) ?_
 simp only[CG,seval,tsC,ai]
 refine dz dq rfl di (by decide) (by decide) (c:=tmC (im (clK 0) (clK 1))) (by rw[i2];rfl) (by rfl) ?_
 simp only[YE,seval]
 refine aD rfl k3 (by first | exact(fun h=>by cases h) | exact fun _=>rfl) ?_
 simp only[um,seval,ai]
 refine aD rfl r1 (by first | exact(fun h=>by cases h) | exact fun _=>rfl) ?_
 simp only[um,seval,ai]
 refine aD rfl r2 (by first | exact(fun h=>by cases h) | exact fun _=>rfl) ?_
 simp only[um,seval,ai]
 refine aD rfl r3 (by first | exact(fun h=>by cases h) | exact fun _=>rfl) ?_
 simp only[um,seval,ai]
 refine aD rfl m1 (by first | exact(fun h=>by cases h) | exact fun _=>rfl) ?_
 simp only[um,seval,ai]
 refine aD rfl m2 (by first | exact(fun h=>by cases h) | exact fun _=>rfl) ?_
 simp only[YD,seval,l5,ai]
theorem abA {P:Program} {T e:TypeId} {i j:TI} {es:List (List C)} {lo hi:Option V} {l h:Nat} {K:V→Prop} (hT:ti P T=some i) (hk:i.kd=.slice e) (hE:ti P e=some j) (h1:gC 0 lo=some (l:Nat)) (h2:gC es.length hi=some (h:Nat)) (hlh:l≤h) (hhe:h≤es.length) (hx:∀ x∈es,x.length=j.size)
 (hK:K (.c (.sl ((es.take h).drop l)))):gG P T (.c (.sl es)) lo hi none K:=by
 obtain⟨kd,a,b,c,d,f,g⟩:=i;simp only at hk;subst hk
 simp only[gG,hT,hE,h1,h2]
 exact⟨⟨by omega,by omega,by omega,hx⟩,hK⟩
theorem abB {l:List Hd}:∀ x∈l.map hdC,x.length=4:=fun x hx=>by
 obtain⟨c,_,rfl⟩:=bu.1 hx;exact fi c
