/- Layer 15: the specification's Put, built. -/
import Derived.Test.YtegbpjodbjhjeaaGreatDoorVlT6
set_option maxHeartbeats 8000000
set_option linter.all false
namespace Go.Proofs.YtegbpjodbjhjeaaGreatDoor
open Go Go.Vl
variable {G:Gl}
set_option maxRecDepth 4000
def owT (l:List Tm):V:=.ow (if l.isEmpty then none else some (47,3)) (l.map tmC)
theorem Su {l:List Tm}:(owT l).fz=.c (.sl (l.map tmC)):=rfl
theorem qZ {l:List Tm}:(owT l).isOw=true:=rfl
theorem Ak {l:List Tm}:∀ x∈l.map tmC,x.length=3:=fun x hx=>by
 obtain⟨t,_,rfl⟩:=bu.1 hx;exact bI t
theorem Ni {l m:List Tm} {K:V→Prop} (h:l.length+m.length≤1000000000) (hK:K (owT (l++m))):dX Tryz.prog 33 (owT l) (.c (.sl (m.map tmC))) K:=by
 unfold owT
 rw[aaM]
 refine⟨⟨by cases l<;>simp,Ak⟩,⟨by simp only[ap];omega,by simp only[ap];omega,Ak⟩,?_⟩
 have e:(if(m.map tmC).isEmpty=true then(if l.isEmpty=true then none else some (47,3)) else some (47,3))=if(l++m).isEmpty=true then none else some (47,3):=by
  cases l<;>cases m<;>simp
 rw[e,← dG];exact hK
theorem G0 {l:List Tm} {x:Tm} {K:V→Prop} (h:l.length+1≤1000000000) (hK:K (owT (l++[x]))):dX Tryz.prog 33 (owT l) (.c (.sl [tmC x])) K:=Ni (m:=[x]) h hK
def lg (t:Tm) (m:List Tm):Bool:=m.all fun x=>ltT x t
def Al (t:Tm) (m:List Tm):List Tm:=if lg t m=true then m else m.takeWhile (fun x=>ltT x t)++t::m.dropWhile (fun x=>ltT x t)
theorem aaP {t:Tm} {m:List Tm} (h:lg t m=true):m.takeWhile (fun x=>ltT x t)=m∧m.dropWhile (fun x=>ltT x t)=[]:=by
 induction m with
 |nil=>exact⟨rfl,rfl⟩
 |cons x m ih=>
  simp only[lg,aR,aG] at h
  obtain⟨i1,i2⟩:=ih h.2
  simp only[jN,jO,h.1,cJ,i1,i2,and_self]
theorem Lg {t x:Tm}:∀ {m:List Tm},(m++[x]).takeWhile (fun x=>ltT x t)=(if lg t m=true then m++(if ltT x t=true then[x] else[]) else m.takeWhile (fun x=>ltT x t))∧(m++[x]).dropWhile (fun x=>ltT x t)=(if lg t m=true then(if ltT x t=true then[] else[x]) else m.dropWhile (fun x=>ltT x t)++[x])
 |[]=>by
  simp only[fS,jN,jO,lg,bb,cJ,List.takeWhile_nil,List.dropWhile_nil]
  exact⟨trivial,trivial⟩
 |y::m=>by
  obtain⟨i1,i2⟩:=@Lg t x m
  simp only[dC,jN,jO,i1,i2,lg,aR]
  cases h:ltT y t
  ·simp
  ·simp only[cJ,Bool.true_and]
   rcases Bool.eq_false_or_eq_true (m.all fun x=>ltT x t) with h2 | h2
   ·simp only[h2,↓reduceIte,and_self]
   ·simp only[h2,↓reduceIte,aS,and_self]
theorem Oe {t x:Tm} {m:List Tm}:Al t (m++[x])=if lg t m=true∧ltT x t=false then Al t m++[t]++[x] else Al t m++[x]:=by
 unfold Al
 obtain⟨h1,h2⟩:=@Lg t x m
 rw[h1,h2]
 have ha:lg t (m++[x])=(lg t m&&ltT x t):=by simp[lg]
 rw[ha]
 cases hm:lg t m<;>cases hx:ltT x t<;>simp
theorem Sv {l:List Tm} {t:Tm} (h:t∉l):sA l t=if lg t l=true then Al t l++[t] else Al t l:=by
 unfold sA Al
 rw[if_neg h]
 split
 ·rename_i ha
  obtain⟨h1,h2⟩:=aaP ha
  rw[h1,h2]
 ·rfl
theorem Sw {t:Tm} {m:List Tm}:(Al t m).length≤m.length+1:=by
 unfold Al
 split
 ·omega
 ·have:=jz List.length (List.takeWhile_append_dropWhile (p:=fun x=>ltT x t) (l:=m))
  rw[ax] at this
  rw[ax,aB];omega
theorem G1 {l:List Tm} {t:Tm} {i:Nat} (h:i<l.length) (h1:t∉l.take i) (h2:l[i]≠t):t∉l.take (i+1):=by
 rw[aU h,aY,aN]
 rintro(h3 | h3)
 ·exact h1 h3
 ·exact h2 h3.symm
def sD:=jj @pkA (jj @ptA @pkT)
theorem Ei (l:List Tm) (t:Tm) (hs:cD l≤900000000) (ht:br t≤900000000):FnOK Tryz.prog G 100 [.c (tsC l),.agg (tmC t)] (.c (tsC (sA l t))):=by
 have Mo:=jl l
 refine bP (rs:=[.tmp 4]) true [30,34,43] mixed Tryz.func100 rfl rfl rfl rfl (by kernel_rfl) (by simp) rfl rfl ?_
 simp only[pkA,seval,tsC]
 refine cF (fun i:Nat=>hdS [(0,.c (.sl (l.map tmC))),(3,.bp 0 0),(5,owT (Al t (l.take i))),(6,bo (!lg t (l.take i))),(7,i64 i)] [(tmC t).map .c]) (fun i=>l.length - i) (fun i=>i≤l.length∧t∉l.take i) 0 ⟨au _,by simp⟩ ?_ ?_
 ·exact cj (by simp only[eW,aR,bb,jt];rfl) (au _) (ae _) (by simp[FL,ar,Al,lg,owT]) ⟨by simp[],trivial⟩
 rintro i ⟨hi,Y0⟩ R ck cG dn
 have wy:=@Sw t (l.take i)
 rw[aZ] at wy
 simp only[pkA,ptA,seval]
 refine aV (fun bF=>?_) (fun ga=>?_)
 ·have bF:i<l.length:=by simpa using bF
  simp only[sD,seval]
  refine dz dq rfl di (by decide) (aI i) (c:=tmC l[i]) (by simp[bF]) (bI _) ?_
  simp only[pkA,seval,jT (bI _)]
  have q1:=fO (aF bF)
  refine aD rfl (mb t l[i] (by omega) (by omega)) (fun h=>by cases h) ?_
  have lG:=fa (n:=(i:Int)+1) (k:=i+1) (by omega) (by omega)
  simp only[pkA,seval]
  refine aV (fun lx=>?_) (fun gv=>?_)
  ·have lx:jK t l[i]=0:=by simpa using lx
   rw[jk] at lx
   simp only[pkA,seval]
   refine dn _ ?_
   simp only[pkA]
   have:t∈l:=lx▸aF bF
   unfold sA;rw[if_pos this];rfl
  have gv:¬ jK t l[i]=0:=by simpa using gv
  have ahL:l[i]≠t:=fun h=>gv (jk.2 h.symm)
  have acg:=G1 bF Y0 ahL
  have hlx:ltT l[i] t=!decide (jK t l[i]<0):=by
   have h1:=@Ac l[i] t
   unfold ltT
   cases h:decide (jK t l[i]<0)<;>simp at h ⊢<;>omega
  have Ku:=@Oe t l[i] (l.take i)
  rw[← aU bF] at Ku
  have Pa:lg t (l.take (i+1))=(lg t (l.take i)&&ltT l[i] t):=by rw[aU bF];unfold lg;rw[List.all_append];simp
  have hm1:(l.take i).length≤i:=List.length_take_le ..
  simp only[pkA,seval]
  refine jc (fun ach=>?_) (fun qB=>?_)
  ·have ach:decide (jK t l[i]<0)=true:=ach
   rw[ach,iU] at hlx
   rw[hlx,Bool.and_false] at Pa
   simp only[pkA,seval]
   refine aV (fun hnp=>?_) (fun hp=>?_)
   ·have hnp:lg t (l.take i)=true:=by simpa using hnp
    rw[if_pos ⟨hnp,hlx⟩] at Ku
    simp only[sD,seval,qZ]
    refine G0 (by omega) ?_
    simp only[pkA,seval,qZ]
    refine dz dq rfl di (by decide) (aI i) (c:=tmC l[i]) (by simp[bF]) (bI _) ?_
    simp only[sD,seval,jT (bI _)]
    refine G0 (by(try simp only[ax,da]);omega) ?_
    simp only[pkA,seval,qZ]
    refine ck (i+1) _ ⟨bF,acg⟩ (by omega) (cj (by simp only[eW,aR,bb,jt];rfl) (au _) (ae _) ?_ ⟨by simp[bxs],trivial⟩)
    simp only[FL,ar,seval,lG,Ku,Pa,j3,and_self]
   ·have hp:lg t (l.take i)=false:=by simpa using hp
    rw[if_neg (by simp[hp])] at Ku
    simp only[pkA,seval,qZ]
    refine dz dq rfl di (by decide) (aI i) (c:=tmC l[i]) (by simp[bF]) (bI _) ?_
    simp only[sD,seval,jT (bI _)]
    refine G0 (by(try simp only[ax,da]);omega) ?_
    simp only[pkA,seval,qZ]
    refine ck (i+1) _ ⟨bF,acg⟩ (by omega) (cj (by simp only[eW,aR,bb,jt];rfl) (au _) (ae _) ?_ ⟨by simp[bxs],trivial⟩)
    simp only[FL,ar,seval,lG,Ku,Pa,hp,j3,and_self]
  ·have qB:decide (jK t l[i]<0)=false:=qB
   rw[qB,j3] at hlx
   rw[hlx,iV] at Pa
   rw[if_neg (by simp[hlx])] at Ku
   ·simp only[pkA,seval,qZ]
    refine dz dq rfl di (by decide) (aI i) (c:=tmC l[i]) (by simp[bF]) (bI _) ?_
    simp only[sD,seval,jT (bI _)]
    refine G0 (by(try simp only[ax,da]);omega) ?_
    simp only[pkA,seval,qZ]
    refine ck (i+1) _ ⟨bF,acg⟩ (by omega) (cj (by simp only[eW,aR,bb,jt];rfl) (au _) (ae _) ?_ ⟨by simp[bxs],trivial⟩)
    simp only[FL,ar,seval,lG,Ku,Pa,and_self]
 ·have:i=l.length:=by simp at ga;omega
  subst this
  rw[cx] at Y0 wy
  have hpo:=Sv Y0
  simp only[pkA]
  refine cG _ _ ?_
  simp only[pkA,seval]
  refine aV (fun hnp=>?_) (fun hp=>?_)
  ·have hnp:lg t l=true:=by simpa using hnp
   rw[if_pos hnp] at hpo
   simp only[sD,seval,qZ]
   refine G0 (by rw[cx];omega) ?_
   simp only[pkA,seval,qZ,Su]
   rw[hpo,cx];rfl
  ·have hp:lg t l=false:=by simpa using hp
   rw[if_neg (by simp[hp])] at hpo
   simp only[pkA,seval,Su]
   rw[hpo,cx];rfl
theorem G2 {p:Tm→Bool} {l:List Tm} {i:Nat} (h:i<l.length):lm p (l.drop i)=(dt p l[i]&&lm p (l.drop (i+1))):=by
 rw[cE h];rfl
theorem xn (S:List Tm) (hS:cD S≤900000000):∀ t:Tm,br t≤900000000→FnOK Tryz.prog G 64 [.c (tsC S),.agg (tmC t)] (bo (dt (inP S) t)):=by
 refine Tm.ind fun k n l ih hs=>?_
 have dR:cD l+1≤900000000:=by simp only[br] at hs;omega
 have Mo:=jl l
 have hT:dt (inP S) (.mk k n l)=((decide (Tm.mk k n l∈S)||decide (k=1))||(!decide (k=2)&&lm (inP S) l)):=rfl
 have hH:=WU (G:=G) S (.mk k n l) (by omega) (by omega)
 obtain⟨t0,Pf⟩:∃ t0,t0=Tm.mk k n l:=⟨_,rfl⟩
 have e0:t0.kind=k:=by rw[Pf];rfl
 have e2:t0.l=l:=by rw[Pf];rfl
 rw[← Pf] at hT hH ⊢
 clear Pf
 refine bP (rs:=[.tmp 4]) false [] mixed Tryz.func64 rfl rfl rfl rfl (by kernel_rfl) (by simp) rfl rfl ?_
 simp only[sD,seval,tsC,e0]
 refine jc (fun h1=>?_) (fun h1=>?_)
 ·have h1:¬ k=1:=by simpa using h1
  simp only[sD,seval]
  refine aD rfl hH (fun h=>by cases h) ?_
  simp only[pkA,seval]
  refine aV (fun hm=>?_) (fun hm=>?_)
  ·simp only[pkA,seval]
   rw[hT,hm];rfl
  have Y0:decide (t0∈S)=false:=hm
  simp only[sD,seval,e0]
  refine aV (fun h2=>?_) (fun h2=>?_)
  ·have h2:k=2:=by simpa using h2
   simp only[pkA,seval]
   rw[hT,Y0];simp[h2]
  have h2:¬ k=2:=by simpa using h2
  have hT':dt (inP S) t0=lm (inP S) l:=by rw[hT,Y0];simp[h1,h2]
  simp only[pkA,seval]
  refine cF (fun i:Nat=>hdS [(0,.c (.sl (S.map tmC))),(3,.bp 0 0),(5,i64 i)] [(tmC t0).map .c]) (fun i=>l.length - i) (fun i=>i≤l.length∧lm (inP S) l=lm (inP S) (l.drop i)) 0 ⟨au _,rfl⟩ ?_ ?_
  ·exact cj (by simp only[eW,aR,bb,jt];rfl) (au _) (ae _) (by simp[FL,ar]) ⟨by simp[],trivial⟩
  rintro i ⟨hi,he⟩ R ck cG dn
  simp only[sD,seval,tsC,e2]
  refine aV (fun bF=>?_) (fun ga=>?_)
  ·have bF:i<l.length:=by simpa using bF
   simp only[sD,seval,tsC,e2]
   refine dz dq rfl di (by decide) (aI i) (c:=tmC l[i]) (by simp[bF]) (bI _) ?_
   simp only[pkA,seval,jT (bI _)]
   refine aD rfl (ih l[i] (aF bF) (by have:=fO (aF bF);omega)) (fun h=>by cases h) ?_
   have e1:=G2 (p:=inP S) bF
   have lG:=fa (n:=(i:Int)+1) (k:=i+1) (by omega) (by omega)
   simp only[pkA,seval]
   refine aV (fun gv=>?_) (fun lx=>?_)
   ·have gv:dt (inP S) l[i]=false:=by simpa using gv
    simp only[pkA,seval]
    refine dn _ ?_
    simp only[pkA,seval]
    rw[hT',he,e1,gv];rfl
   ·have lx:dt (inP S) l[i]=true:=by simpa using lx
    simp only[pkA,seval]
    refine ck (i+1) _ ⟨bF,?_⟩ (by omega) (cj (by simp only[eW,aR,bb,jt];rfl) (au _) (ae _) ?_ ⟨by simp[bxs],trivial⟩)
    ·rw[he,e1,lx];rfl
    ·simp[FL,ar,lG]
  ·have:i=l.length:=by simp at ga;omega
   subst this
   simp only[pkA]
   refine cG _ _ ?_
   simp only[pkA,seval]
   rw[hT',he,i7];rfl
 ·have h1:k=1:=by simpa using h1
  simp only[pkA,seval]
  rw[hT];simp[h1]
theorem sE:∀ (l out:List Tm),o6 out l=l.foldl (fun o t=>jF o (qY t)) out
 |[],_=>rfl
 |t::l,out=>by simp only[o6,iz];exact sE l _
theorem G3 {l out:List Tm} {i:Nat} (h:i<l.length):o6 out (l.take (i+1))=jF (o6 out (l.take i)) (qY l[i]):=by
 rw[sE,sE,aU h,kD];rfl
theorem G4 {l out:List Tm} {i:Nat} (h:i<l.length):jF out (l.take (i+1))=sA (jF out (l.take i)) l[i]:=by
 unfold jF
 rw[aU h,kD];rfl
theorem Ca:∀ t:Tm,∀ x∈jV t,br x≤br t:=by
 refine Tm.ind fun k n l ih=>?_
 intro x hx
 simp only[jV,bw] at hx
 rcases hx with rfl | hx
 ·exact ae _
 ·obtain⟨t,ht,hx⟩:=l8.1 hx
  have h1:=ih t ht x hx
  have h2:=fO ht
  simp only[br];omega
theorem G5 {l:List Tm} {m:Nat} (h:∀ x∈l,br x≤m):cD l≤l.length*m:=by
 induction l with
 |nil=>simp[cD]
 |cons t l ih=>
  have h1:=h t (aT ..)
  have h2:=ih fun x hx=>h x (aM _ hx)
  simp only[cD,aB,dD];omega
theorem JF {k n:Int} {l:List Tm} {i:Nat} (h:i<l.length) {x:Tm} (hx:x∈jV l[i]):x∈jV (.mk k n l):=by
 simp only[jV,bw]
 exact .inr (l8.2 ⟨_,aF h,hx⟩)
structure PutS (t:Tm) (out:List Tm):Prop where
 st:StT out
 sub:∀ x∈out,x∈jV t
theorem PutS.put {t u:Tm} {out:List Tm} (h:PutS t out) (hu:u∈jV t):PutS t (sA out u):=
 ⟨sB h.st u,fun x hx=>by rcases Ag.1 hx with hx | rfl;exact h.sub x hx;exact hu⟩
theorem PutS.all {t:Tm}:∀ {us out:List Tm},PutS t out→(∀ u∈us,u∈jV t)→PutS t (jF out us)
 |[],_,h,_=>h
 |u::us,out,h,hu=>by
  show PutS t (jF (sA out u) us)
  exact PutS.all (h.put (hu u (aT ..))) fun v hv=>hu v (aM _ hv)
theorem PutS.start (t:Tm):PutS t [t]:=⟨List.pairwise_singleton _ _,fun x hx=>by rw[aN] at hx;subst hx;exact xj x⟩
theorem PutS.rounds {k n:Int} {l:List Tm}:∀ i,i≤l.length→PutS (.mk k n l) (o6 [.mk k n l] (l.take i))
 |0,_=>PutS.start _
 |i+1,h=>by
  rw[G3 h]
  exact(PutS.rounds i (Nat.le_of_succ_le h)).all fun u hu=>JF h ((So l[i]).2 u |>.1 hu)
theorem Sx {v:V} {l:List Tm} (h:v=owT l∨v=.c (tsC l)):v.fz=.c (.sl (l.map tmC)):=by rcases h with rfl | rfl<;>rfl
theorem q0 {v:V} {l:List Tm} (h:v=owT l∨v=.c (tsC l)) {m:Nat}:v.ltB m=true:=by rcases h with rfl | rfl<;>rfl
