/- Layer 16: Has, May of the specification, SameFacts, Class of the specification. -/
import Derived.Test.YtegbpjodbjhjeaaGreatDoorVlMk
set_option linter.all false
namespace Go.Proofs.YtegbpjodbjhjeaaGreatDoor
open Go Go.Vl
open Kp (Pol Ty Ru Qu poC tyC ruC quC)
variable {G:Gl}
set_option maxRecDepth 10000
def tO:=jj @pkA (jj @ptA @Kp.pkP)
theorem afi (p:Pol) (t:Int):FnOK Tryz.prog G 66 [.agg (poC p),i64 t] (bo (inI t p.types.length)):=by
 refine bE (rs:=[.tmp 4]) false [] mixed Tryz.func66 rfl rfl rfl rfl (by kernel_rfl) (by simp) rfl rfl ?_
 by_cases h:0≤t
 ·simp only[tO,seval,am,h,ai]
  simp[inI,h]
 ·simp only[pkA,seval,h,bK]
  simp[inI,h]
theorem Ln (a b:Int) (ha:I64 a):FnOK Tryz.prog G 67 [i64 a,i64 b] (bo (FR a b)):=by
 refine bE (rs:=[.tmp 4]) false [] mixed Tryz.func67 rfl rfl rfl rfl (by kernel_rfl) (by simp) rfl rfl ?_
 have hN:∀ K,qD .and .i64 a b K=K (i64 (bits .and .i64 a b)):=fun _=>rfl
 simp only[pkA,seval,hN]
 unfold FR
 rw[fR.2 (Kz ha)]
theorem IZ (p:Pol) (t f:Int) (hf:I64 f):FnOK Tryz.prog G 30 [.agg (poC p),i64 t,i64 f] (bo (jE p t f)):=by
 refine bE (rs:=[.tmp 6]) false [] mixed Tryz.func30 rfl rfl rfl rfl (by kernel_rfl) (by simp) rfl rfl ?_
 simp only[tO,seval]
 refine ay rfl (afi p t) (fun _=>rfl) ?_
 cases h:inI t p.types.length with
 |true=>
  obtain⟨h0,h1⟩:=MW h
  obtain⟨i,rfl⟩:∃ i:Nat,t=i:=⟨t.toNat,by omega⟩
  have ht:i<p.types.length:=by omega
  simp only[tO,seval]
  refine df ng rfl kO (by decide) (aD i) (c:=tyC p.types[i]) (by simp[ht]) rfl ?_
  simp only[tO,seval]
  refine ay rfl (Ln _ _ hf) (fun _=>rfl) ?_
  simp only[pkA,seval]
  unfold jE
  rw[zS ht]
 |false=>
  have:uL p.types t=none:=by
   cases hx:uL p.types t with
   |none=>rfl
   |some x=>rw[Iy,hx] at h;cases h
  simp only[pkA,seval]
  unfold jE
  rw[this]
theorem acJ {r:Ru} {k a b:Int} {K:V→Prop}:m5 Tryz.prog .eql 94 (.agg (ruC r)) (.agg [C.lit (.int .i64 k),C.lit (.int .i64 a),C.lit (.int .i64 b)]) K=K (bo (decide (r=⟨k,a,b⟩))):=
 Kp.Un (x:=r) (y:=⟨k,a,b⟩)
set_option maxHeartbeats 1000000 in
theorem YN (p:Pol) (k a b:Int) (hr:p.rules.length≤1000000):FnOK Tryz.prog G 31 [.agg (poC p),i64 k,i64 a,i64 b] (bo (mH p k a b)):=by
 refine bE (rs:=[.tmp 8]) false [] mixed Tryz.func31 rfl rfl rfl rfl (by kernel_rfl) (by simp) rfl rfl ?_
 simp only[pkA,seval]
 refine ck (fun i:Nat=>hdS [(1,i64 k),(2,i64 a),(3,i64 b),(4,.bp 0 0),(9,i64 i)] [(poC p).map .c]) (fun i=>p.rules.length - i) (fun i=>i≤p.rules.length∧∀ j (h:j<p.rules.length),j<i→p.rules[j]≠⟨k,a,b⟩) 0 ⟨ar _,by simp⟩ ?_ ?_
 ·refine bT rfl (ar _) (by simp) ?_ ?_
  ·simp[FL,au]
  ·simp[BL]
 rintro i ⟨hi,fm⟩ R bS cd cX
 simp only[tO,seval,am]
 refine aL (fun bB=>?_) (fun fA=>?_)
 ·have bB:i<p.rules.length:=by simpa using bB
  have hw:=wrap_i64 (i+1) (by omega)
  simp only[tO,seval]
  refine df tf rfl mz (by decide) (aD i) (c:=ruC p.rules[i]) (by simp[bB]) rfl ?_
  simp only[tO,seval,acJ]
  refine aL (fun hy=>?_) (fun hn=>?_)
  ·have hy:p.rules[i]=⟨k,a,b⟩:=by simpa using hy
   simp only[pkA,seval]
   refine cX _ ?_
   have:mH p k a b=true:=by unfold mH;rw[decide_eq_true_iff,← hy];exact aF bB
   simp only[pkA,seval,this]
  ·have hn:p.rules[i]≠⟨k,a,b⟩:=by simpa using hn
   simp only[pkA,seval]
   refine bS (i+1) _ ⟨bB,fun j h hj=>?_⟩ (by omega) (bT rfl (ar _) (by simp) ?_ ?_)
   ·rcases ct j i with h1 | h1
    ·exact fm j h h1
    ·have:j=i:=by omega
     subst this;exact hn
   ·simp[FL,au,hw]
   ·simp[BL,bxs]
 ·have:i=p.rules.length:=by simp at fA;omega
  subst this
  have:mH p k a b=false:=by
   unfold mH
   rw[b9]
   intro hm
   obtain⟨j,hj,e⟩:=gi hm
   exact fm j hj hj e
  simp only[pkA]
  refine cd _ _ ?_
  simp only[pkA,seval,this]
def I4:=jj @pkA @ptA
def ZN:=jj @pkA (jj @ptA @pkF)
set_option maxHeartbeats 1000000 in
theorem xr (xs ys:List Fa) (hx:xs.length≤1000000000) (hy:ys.length≤1000000000):FnOK Tryz.prog G 17 [.c (fsC xs),.c (fsC ys)] (bo (decide (xs=ys))):=by
 refine bE (rs:=[.tmp 4]) false [] mixed Tryz.func17 rfl rfl rfl rfl (by kernel_rfl) (by simp) rfl rfl ?_
 simp only[I4,seval,fsC,am]
 refine aL (fun fO=>?_) (fun fy=>?_)
 ·have:¬ xs=ys:=fun e=>by subst e;simp at fO
  simp only[pkA,seval,this,bK]
 ·have fy:xs.length=ys.length:=by simp at fy;omega
  simp only[pkA,seval]
  refine ck (fun i:Nat=>hdS [(0,.c (fsC xs)),(1,.c (fsC ys)),(5,i64 i)] []) (fun i=>xs.length - i) (fun i=>i≤xs.length∧xs.take i=ys.take i) 0 ⟨ar _,rfl⟩ ?_ ?_
  ·refine bT rfl (ar _) (ae _) ?_ trivial
   simp[FL,au,fsC]
  rintro i ⟨hi,fm⟩ R bS cd cX
  simp only[I4,seval,fsC,am]
  refine aL (fun bB=>?_) (fun fA=>?_)
  ·have bB:i<xs.length:=by simpa using bB
   have m4:i<ys.length:=by omega
   have hw:=wrap_i64 (i+1) (by omega)
   simp only[pkA,seval]
   refine df nU rfl kP (by decide) (aD i) (c:=faC xs[i]) (by simp[bB]) (jX _) ?_
   simp only[ZN,seval]
   refine df nU rfl kP (by decide) (aD i) (c:=faC ys[i]) (by simp[m4]) (jX _) ?_
   simp only[ZN,seval]
   refine aL (fun hd=>?_) (fun he=>?_)
   ·have hd:xs[i]≠ys[i]:=by simpa using hd
    have:¬ xs=ys:=fun e=>by subst e;exact hd rfl
    simp only[pkA,seval]
    refine cX _ ?_
    simp only[pkA,seval,this,bK]
   ·have he:xs[i]=ys[i]:=by simpa using he
    simp only[pkA,seval]
    refine bS (i+1) _ ⟨bB,?_⟩ (by omega) (bT rfl (ar _) (ar _) ?_ trivial)
    ·rw[aQ bB,aQ m4,fm,he]
    ·simp[FL,au,hw,fsC]
  ·have:i=xs.length:=by simp at fA;omega
   subst this
   have:xs=ys:=by rw[cw,fy,cw] at fm;exact fm
   simp only[pkA]
   refine cd _ _ ?_
   simp only[pkA,seval,this,ai]
def few (p:Pol) (n:Nat):Bool:=decide (p.types.length≤8)&&(decide (p.rules.length≤40)&&(decide (p.quorums.length≤8)&&decide (n≤40)))
theorem yD (p:Pol) (l:List Cl):FnOK Tryz.prog G 9 [.agg (poC p),.c (jr l)] (bo (few p l.length)):=by
 have c8:∀ n:Nat,decide ((n:Int)≤8)=decide (n≤8):=fun n=>fR.2 (by omega)
 have c40:∀ n:Nat,decide ((n:Int)≤40)=decide (n≤40):=fun n=>fR.2 (by omega)
 unfold few
 refine bE (rs:=[.tmp 4]) false [] mixed Tryz.func9 rfl rfl rfl rfl (by kernel_rfl) (by simp) rfl rfl ?_
 simp only[tO,seval,jr,am,c8]
 by_cases h1:p.types.length≤8
 case neg=>simp only[pkA,seval,h1,bK]
 by_cases h2:p.rules.length≤40
 case neg=>simp only[tO,seval,am,c40,h1,h2,ai,bK]
 by_cases h3:p.quorums.length≤8
 case neg=>simp only[tO,seval,am,c8,c40,h1,h2,h3,ai,bK]
 simp only[tO,seval,am,c8,c40,h1,h2,h3,ai]
theorem uB {p:Pol} {n:Nat} (hP:Kp.PolIn p) (h:few p n=true):POk p∧n≤40:=by
 unfold few at h
 simp only[aI,bj] at h
 exact⟨⟨h.1,h.2.1,by omega,hP⟩,h.2.2.2⟩
def pK:Pol:=⟨⟨#[112]⟩,[⟨⟨#[97]⟩,17,0⟩],[⟨3,0,0⟩],[]⟩
theorem PU:FnOK Tryz.prog G 32 [] (.agg (poC pK)):=by
 refine bE (rs:=[.cell 0 26]) false [] mixed Tryz.func32 rfl rfl rfl rfl (by kernel_rfl) (by simp) rfl rfl ?_
 simp only[I4,seval]
 refine⟨rfl,?_⟩;unfold ldA;exact⟨by decide,⟨rfl,rfl⟩,rfl⟩
theorem I5:POk pK:=⟨by decide,by decide,by decide,by
 have i:∀ n:Nat,n<100→I64 (n:Int):=fun n h=>⟨by omega,by omega⟩
 constructor
 all_goals simp only[pK,bu,dW,jK,forall_eq,aC,aH]
 all_goals first
  |exact⟨by decide,i 17 (by decide),i 0 (by decide)⟩
  |exact⟨i 3 (by decide),i 0 (by decide),i 0 (by decide)⟩
  |decide
  |exact fun t h=>False.elim h⟩
theorem tP:Kp.gu pK=true:=by decide
abbrev s2E:Sy:=uO 0 0
abbrev s6E:Sy:=vN 0 0
theorem ZO:ji pK sy0 0 [⟨1,0,0,0,0⟩,⟨1,0,0,0,0⟩,⟨9,0,1,0,0⟩]=(s2E,3,0):=(U5 (p:=pK) (a:=0) (b:=0) tP (by decide) (by decide) (by decide)).1
theorem e_ok2:SyOk s2E:=by
 have:=oU (p:=pK) (by decide) [⟨1,0,0,0,0⟩,⟨1,0,0,0,0⟩,⟨9,0,1,0,0⟩] sy0 0 sok0
 rw[ZO] at this;exact this
theorem ZP:bM pK s2E ⟨5,0,0,0,0⟩=.ok s6E:=by
 refine xo (k:=5) tP rfl rfl ?_
 have h0:ofI s2E.hs 0=.ok ⟨0,clK 0⟩:=rfl
 have h1:ofI s2E.its 0=.ok (iC (clK 0) (clK 1)):=rfl
 have h2:jc (iC (clK 0) (clK 1)) (clK 0) [3]=.ok (clK 1):=rfl
 have h3:jE pK 0 16=true:=by decide
 simp only[doM,okb,h0,h1,h2,h3,eH,cL];rfl
theorem e_ok6:SyOk s6E:=qO e_ok2 (by decide) ZP
theorem afj:bM pK s2E ⟨3,0,0,0,0⟩=.error 10:=by
 unfold bM
 rw[tP]
 have h0:ofI s2E.hs 0=.ok ⟨0,clK 0⟩:=rfl
 have h3:jE pK 0 4=false:=by decide
 show doM pK s2E ⟨3,0,0,0,0⟩ 3=_
 simp only[doM,okb,h0,h3,eH];rfl
theorem acK:bM pK s6E ⟨5,0,0,1,0⟩=.error 8:=by
 unfold bM
 rw[tP]
 have h0:ofI s6E.hs 0=.ok ⟨0,clK 0⟩:=rfl
 have h1:ofI s6E.its 1=.ok (clK 1):=rfl
 have h2:jc (clK 1) (clK 0) [3]=.error 8:=rfl
 have h3:jE pK 0 16=true:=by decide
 show doM pK s6E ⟨5,0,0,1,0⟩ 5=_
 simp only[doM,okb,h0,h1,h2,h3,eH,cL];rfl
theorem acL:bM pK s2E ⟨3,2,0,0,0⟩=.error 1:=by
 unfold bM
 rw[tP]
 have h0:ofI s2E.hs 2=.error 1:=rfl
 show doM pK s2E ⟨3,2,0,0,0⟩ 3=_
 simp only[doM,h0];rfl
theorem ZQ (n:Int):knS s2E (clK n)=false:=by
 cases hk:knS s2E (clK n) with
 |false=>rfl
 |true=>exact absurd rfl ((U6 ((oS fun t ht=>(e_ok2.iv t ht).1).1 hk)).2 n)
theorem ZR:knS s6E (clK 1)=true:=(oS fun t ht=>(e_ok6.iv t ht).1).2 (.of (.item (by simp[vN])))
theorem cl6 {b:Bool} {t:Tm} (h:Kn s6E.its b t):(b=false→t=iC (clK 0) (clK 1)∨t=clK 1)∧t≠clK 0:=by
 induction h with
 |item h=>
   simp only[vN,bu,dW,jK] at h;rcases h with rfl | rfl
   ·exact⟨fun _=>.inl rfl,fun e=>by cases e⟩
   ·exact⟨fun _=>.inr rfl,fun e=>by cases e⟩
 |opn _ hk _ i1 i2=>
  rcases i1.1 rfl with e | e
  ·unfold iC at e;cases e;exact absurd rfl i2.2
  ·cases e
 |of _ ih=>exact⟨fun h=>(by cases h),ih.2⟩
 |data=>exact⟨fun h=>(by cases h),fun e=>by cases e⟩
 |make h _ _=>exact⟨fun h=>(by cases h),fun e=>by cases e;exact h rfl⟩
theorem U9:knS s6E (clK 0)=false:=by
 cases hk:knS s6E (clK 0) with
 |false=>rfl
 |true=>exact absurd rfl (cl6 ((oS fun t ht=>(e_ok6.iv t ht).1).1 hk)).2
theorem acM:en s2E.its=[iC (clK 0) (clK 1)]:=by
 have hv:∀ t∈s2E.its,bY t=true:=fun t ht=>(e_ok2.iv t ht).1
 refine qh (ly hv).1.st (List.pairwise_singleton _ _) fun x=>?_
 rw[Bq hv,aP]
 exact⟨fun h=>(U6 h).1 rfl,fun h=>by subst h;exact .item (by simp[uO])⟩
theorem acN:∀ x,x∈en s6E.its↔x=iC (clK 0) (clK 1)∨x=clK 1:=fun x=>by
 have hv:∀ t∈s6E.its,bY t=true:=fun t ht=>(e_ok6.iv t ht).1
 rw[Bq hv]
 exact⟨fun h=>(cl6 h).1 rfl,fun h=>.item (by rcases h with rfl | rfl<;>simp[vN])⟩
theorem afk (n:Int) (h:n=0∨n=1):orS s2E (clK n)=0∧orS s6E (clK n)=0:=by rcases h with rfl | rfl<;>exact⟨rfl,rfl⟩
theorem BH (n:Int) (h:n=0∨n=1):qA s2E (clK n)=1:=by
 unfold qA
 rw[ZQ,(afk n h).1];rfl
theorem F6:qA s6E (clK 1)=0:=by unfold qA;rw[ZR];rfl
theorem Nk:qA s6E (clK 0)=1:=by unfold qA;rw[U9,(afk 0 (.inl rfl)).2];rfl
theorem I6:pI s2E=[⟨1,1,0⟩,⟨2,1,1⟩]:=by
 refine BE (tM _) (by decide) fun f=>?_
 rw[uz,acM]
 simp only[uO,bu,dW,jK,exists_eq_or_imp,exists_eq_left]
 have h1:oq s2E ⟨0,clK 0⟩=⟨1,1,0⟩:=by unfold oq;rw[BH 0 (.inl rfl)]
 have h2:oq s2E ⟨0,clK 1⟩=⟨1,1,0⟩:=by unfold oq;rw[BH 1 (.inr rfl)]
 have h3:lQ s2E (iC (clK 0) (clK 1))=[⟨2,1,1⟩]:=by
  have e1:=BH 0 (.inl rfl)
  have e2:=BH 1 (.inr rfl)
  show[(⟨2,qA s2E (clK 0),qA s2E (clK 1)⟩:Fa)]=_
  rw[e1,e2]
 have h4:∀ n,mI s2E ⟨0,clK n⟩=[]:=fun n=>by unfold mI;rw[ZQ];rfl
 simp only[uO] at h1 h2 h3 h4
 rw[h1,h2,h3,h4,h4]
 simp[eq_comm]
theorem BI:pI s6E=[⟨1,0,0⟩,⟨1,1,0⟩,⟨2,1,0⟩,⟨3,1,0⟩]:=by
 refine BE (tM _) (by decide) fun f=>?_
 rw[uz]
 simp only[acN]
 simp only[vN,bu,dW,jK,exists_eq_or_imp,exists_eq_left]
 have h1:oq s6E ⟨0,clK 0⟩=⟨1,1,0⟩:=by unfold oq;rw[Nk]
 have h2:oq s6E ⟨0,clK 1⟩=⟨1,0,0⟩:=by unfold oq;rw[F6]
 have h3:lQ s6E (iC (clK 0) (clK 1))=[⟨2,1,0⟩]:=by
  have e1:=Nk
  have e2:=F6
  show[(⟨2,qA s6E (clK 0),qA s6E (clK 1)⟩:Fa)]=_
  rw[e1,e2]
 have h5:lQ s6E (clK 1)=[]:=rfl
 have h4:mI s6E ⟨0,clK 0⟩=[]:=by unfold mI;rw[U9];rfl
 have h6:mI s6E ⟨0,clK 1⟩=[⟨3,1,0⟩]:=by unfold mI;rw[ZR];rfl
 simp only[vN] at h1 h2 h3 h4 h5 h6
 rw[h1,h2,h3,h4,h5,h6]
 simp only[bu,dW,jK,false_or,eq_comm (b:=f)]
 constructor
 ·rintro((h | h) | h | h)<;>simp[h]
 ·rintro(h | h | h | h)<;>simp[h]
open Kp (Pol poC)
theorem afl:eU [i64 0,i64 0,V.ow none []] 0 [i64 2,i64 1,V.c (C.sl [])]=(tmC (clK 1)).map V.c:=rfl
def DU:=jj @pkA (jj @ptA (jj @pkS @tK))
def vg:=jj @pkA (jj @ptA @tK)
def ZS:=jj @pkA (jj @ptA @pkS)
def ZT:=jj @pkA (jj @ptA @pkT)
def ZU:=jj @pkA (jj @ptA (jj @pkT @tK))
set_option maxHeartbeats 8000000 in
theorem o9:FnOK Tryz.prog glM 10 [] (bo true):=by
 have pol:=PU (G:=glM)
 have run:FnOK Tryz.prog glM 11 [.agg (poC pK),.c (jr [⟨1,0,0,0,0⟩,⟨1,0,0,0,0⟩,⟨9,0,1,0,0⟩])] (.tup [.agg (syC s2E),i64 3,i64 0]):=by
  have:=tL (p:=pK) I5 [⟨1,0,0,0,0⟩,⟨1,0,0,0,0⟩,⟨9,0,1,0,0⟩] (by decide)
  rw[ZO] at this;exact this
 have st6:=qk (p:=pK) (s:=s2E) (c:=⟨5,0,0,0,0⟩) I5 e_ok2
 rw[ZP] at st6
 have st8:=qk (p:=pK) (s:=s2E) (c:=⟨3,0,0,0,0⟩) I5 e_ok2
 rw[afj] at st8
 have st10:=qk (p:=pK) (s:=s6E) (c:=⟨5,0,0,1,0⟩) I5 e_ok6
 rw[acK] at st10
 have st12:=qk (p:=pK) (s:=s2E) (c:=⟨3,2,0,0,0⟩) I5 e_ok2
 rw[acL] at st12
 simp only[stR] at st6 st8 st10 st12
 have f2:=xm e_ok2
 rw[I6] at f2
 have f6:=xm e_ok6
 rw[BI] at f6
 have l1:s2E.hs.length=2:=rfl
 have l2:s2E.its.length=1:=rfl
 have l3:s2E.os.length=2:=rfl
 have l4:s6E.its.length=2:=rfl
 have l5:s2E.fresh=2:=rfl
 have i6:s6E.its=[iC (clK 0) (clK 1),clK 1]:=rfl
 have i2:s2E.its=[iC (clK 0) (clK 1)]:=rfl
 have sf2:=xr (G:=glM) [⟨1,1,0⟩,⟨2,1,1⟩] [⟨1,1,0⟩,⟨2,1,1⟩] (by decide) (by decide)
 rw[cZ rfl] at sf2
 have sf6:=xr (G:=glM) [⟨1,0,0⟩,⟨1,1,0⟩,⟨2,1,0⟩,⟨3,1,0⟩] [⟨1,0,0⟩,⟨1,1,0⟩,⟨2,1,0⟩,⟨3,1,0⟩] (by decide) (by decide)
 rw[cZ rfl] at sf6
 have k1:=qR e_ok2 (clK 1) (by decide) (by decide)
 rw[BH 1 (.inr rfl)] at k1
 have k2:=qR e_ok6 (clK 1) (by decide) (by decide)
 rw[F6] at k2
 have k3:=qR e_ok2 (iC (clK 0) (clK 1)) (by decide) (by decide)
 rw[show qA s2E (iC (clK 0) (clK 1))=-1 from rfl] at k3
 have r1:=ny e_ok6 1
 rw[show uN s6E 3 1=true by unfold uN;rw[BI];decide] at r1
 have r2:=ny e_ok2 1
 rw[show uN s2E 3 1=false by unfold uN;rw[I6];decide] at r2
 have r3:=Lm e_ok6 1
 rw[show uN s6E 4 1=false by unfold uN;rw[BI];decide] at r3
 have m1:=Nj (G:=glM) e_ok2.b e_ok2.b
 rw[cZ rfl] at m1
 have m2:=Nj (G:=glM) e_ok2.b e_ok6.b
 rw[cR (show s2E≠s6E from fun h=>absurd (iY (fun s=>s.its.length) h) (by decide))] at m2
 have n2:((2:Nat):Int)=2:=rfl
 have n1:((1:Nat):Int)=1:=rfl
 have c0:=ko (G:=glM) (clK 1) (clK 1) (by decide) (by decide)
 rw[show jB (clK 1) (clK 1)=0 by decide] at c0
 generalize hs2:s2E=s2 at *
 generalize hs6:s6E=s6 at *
 refine bE (rs:=[.tmp 0]) false [] mixed Tryz.func10 rfl rfl rfl rfl (by kernel_rfl) (by simp) rfl rfl ?_
 simp only[I4,seval,List.append_eq]
 refine ay rfl pol (by first | exact(fun h=>by cases h) | exact fun _=>rfl) ?_
 simp only[pkA,seval]
 refine ay rfl run (by first | exact(fun h=>by cases h) | exact fun _=>rfl) ?_
 simp only[DU,seval,hsC,tsC,am,l1,l2,l3,n2,n1,ai]
 refine ay rfl f2 (by first | exact(fun h=>by cases h) | exact fun _=>rfl) ?_
 simp only[pkA,seval]
 refine ay rfl pol (by first | exact(fun h=>by cases h) | exact fun _=>rfl) ?_
 simp only[vg,seval,ai]
 refine ay rfl st6 (by first | exact(fun h=>by cases h) | exact fun _=>rfl) ?_
 simp only[DU,seval,ai]
 refine ay rfl pol (by first | exact(fun h=>by cases h) | exact fun _=>rfl) ?_
 simp only[vg,seval,ai]
 refine ay rfl st8 (by first | exact(fun h=>by cases h) | exact fun _=>rfl) ?_
 simp only[DU,seval,tsC,am,l4,n2,ai]
 refine ay rfl pol (by first | exact(fun h=>by cases h) | exact fun _=>rfl) ?_
 simp only[vg,seval,ai]
 refine ay rfl st10 (by first | exact(fun h=>by cases h) | exact fun _=>rfl) ?_
 simp only[DU,seval,ai]
 refine ay rfl pol (by first | exact(fun h=>by cases h) | exact fun _=>rfl) ?_
 simp only[vg,seval,ai]
 refine ay rfl st12 (by first | exact(fun h=>by cases h) | exact fun _=>rfl) ?_
 simp only[DU,seval,afl,ai]
 refine ay rfl sf2 (by first | exact(fun h=>by cases h) | exact fun _=>rfl) ?_
 simp only[vg,seval,ai]
 refine ay rfl f6 (by first | exact(fun h=>by cases h) | exact fun _=>rfl) ?_
 simp only[I4,seval]
 refine ay rfl sf6 (by first | exact(fun h=>by cases h) | exact fun _=>rfl) ?_
 simp only[ZS,seval,tsC,ai]
 refine df du rfl dl (by decide) (by decide) (c:=tmC (clK 1)) (by rw[i6];rfl) (by rfl) ?_
 simp only[ZT,seval,ai]
 refine ay rfl c0 (by first | exact(fun h=>by cases h) | exact fun _=>rfl) ?_
 simp only[ZU,seval,ai]
 refine ay rfl k1 (by first | exact(fun h=>by cases h) | exact fun _=>rfl) ?_
 simp only[ZU,seval,ai]
 refine ay rfl k2 (by first | exact(fun h=>by cases h) | exact fun _=>rfl) ?_
 simp only[DU,seval,tsC,ai]
 refine df du rfl dl (by decide) (by decide) (c:=tmC (iC (clK 0) (clK 1))) (by rw[i2];rfl) (by rfl) ?_
 simp only[ZT,seval]
 refine ay rfl k3 (by first | exact(fun h=>by cases h) | exact fun _=>rfl) ?_
 simp only[vg,seval,ai]
 refine ay rfl r1 (by first | exact(fun h=>by cases h) | exact fun _=>rfl) ?_
 simp only[vg,seval,ai]
 refine ay rfl r2 (by first | exact(fun h=>by cases h) | exact fun _=>rfl) ?_
 simp only[vg,seval,ai]
 refine ay rfl r3 (by first | exact(fun h=>by cases h) | exact fun _=>rfl) ?_
 simp only[vg,seval,ai]
 refine ay rfl m1 (by first | exact(fun h=>by cases h) | exact fun _=>rfl) ?_
 simp only[vg,seval,ai]
 refine ay rfl m2 (by first | exact(fun h=>by cases h) | exact fun _=>rfl) ?_
 simp only[ZS,seval,l5,ai]
theorem vO {P:Program} {T e:TypeId} {i j:TI} {es:List (List C)} {lo hi:Option V} {l h:Nat} {K:V→Prop} (hT:ti P T=some i) (hk:i.kd=.slice e) (hE:ti P e=some j) (h1:gX 0 lo=some (l:Nat)) (h2:gX es.length hi=some (h:Nat)) (hlh:l≤h) (hhe:h≤es.length) (hx:∀ x∈es,x.length=j.size)
 (hK:K (.c (.sl ((es.take h).drop l)))):gY P T (.c (.sl es)) lo hi none K:=by
 obtain⟨kd,a,b,c,d,f,g⟩:=i;simp only at hk;subst hk
 simp only[gY,hT,hE,h1,h2]
 exact⟨⟨by omega,by omega,by omega,hx⟩,hK⟩
theorem Lo {l:List Hd}:∀ x∈l.map hdC,x.length=4:=fun x hx=>by
 obtain⟨c,_,rfl⟩:=br.1 hx;exact fi c
