/- Layer 15: the specification's Put, built. -/
import Derived.Test.YtegbpjodbjhjeaaGreatDoorVlT6
set_option linter.all false
namespace Go.Proofs.YtegbpjodbjhjeaaGreatDoor
open Go Go.Vl
variable {G:Gl}
set_option maxRecDepth 4000
def owT (l:List Tm):V:=.ow (if l.isEmpty then none else some (47,3)) (l.map tmC)
theorem TM {l:List Tm}:(owT l).fz=.c (.sl (l.map tmC)):=rfl
theorem rH {l:List Tm}:(owT l).isOw=true:=rfl
theorem Bh {l:List Tm}:∀ x∈l.map tmC,x.length=3:=fun x hx=>by
 obtain⟨t,_,rfl⟩:=br.1 hx;exact bG t
theorem Om {l m:List Tm} {K:V→Prop} (h:l.length+m.length≤1000000000) (hK:K (owT (l++m))):ee Tryz.prog 33 (owT l) (.c (.sl (m.map tmC))) K:=by
 unfold owT
 rw[ab3]
 refine⟨⟨by cases l<;>simp,Bh⟩,⟨by simp only[am];omega,by simp only[am];omega,Bh⟩,?_⟩
 have e:(if(m.map tmC).isEmpty=true then(if l.isEmpty=true then none else some (47,3)) else some (47,3))=if(l++m).isEmpty=true then none else some (47,3):=by
  cases l<;>cases m<;>simp
 rw[e,← dL];exact hK
theorem H7 {l:List Tm} {x:Tm} {K:V→Prop} (h:l.length+1≤1000000000) (hK:K (owT (l++[x]))):ee Tryz.prog 33 (owT l) (.c (.sl [tmC x])) K:=Om (m:=[x]) h hK
def lG (t:Tm) (m:List Tm):Bool:=m.all fun x=>ltT x t
def Bi (t:Tm) (m:List Tm):List Tm:=if lG t m=true then m else m.takeWhile (fun x=>ltT x t)++t::m.dropWhile (fun x=>ltT x t)
theorem ab6 {t:Tm} {m:List Tm} (h:lG t m=true):m.takeWhile (fun x=>ltT x t)=m∧m.dropWhile (fun x=>ltT x t)=[]:=by
 induction m with
 |nil=>exact⟨rfl,rfl⟩
 |cons x m ih=>
  simp only[lG,aN,aI] at h
  obtain⟨i1,i2⟩:=ih h.2
  simp only[jY,jZ,h.1,cL,i1,i2,and_self]
theorem Mt {t x:Tm}:∀ {m:List Tm},(m++[x]).takeWhile (fun x=>ltT x t)=(if lG t m=true then m++(if ltT x t=true then[x] else[]) else m.takeWhile (fun x=>ltT x t))∧(m++[x]).dropWhile (fun x=>ltT x t)=(if lG t m=true then(if ltT x t=true then[] else[x]) else m.dropWhile (fun x=>ltT x t)++[x])
 |[]=>by
  simp only[gr,jY,jZ,lG,aX,cL,List.takeWhile_nil,List.dropWhile_nil]
  exact⟨trivial,trivial⟩
 |y::m=>by
  obtain⟨i1,i2⟩:=@Mt t x m
  simp only[dK,jY,jZ,i1,i2,lG,aN]
  cases h:ltT y t
  ·simp
  ·simp only[cL,Bool.true_and]
   rcases Bool.eq_false_or_eq_true (m.all fun x=>ltT x t) with h2 | h2
   ·simp only[h2,↓reduceIte,and_self]
   ·simp only[h2,↓reduceIte,aM,and_self]
theorem Pl {t x:Tm} {m:List Tm}:Bi t (m++[x])=if lG t m=true∧ltT x t=false then Bi t m++[t]++[x] else Bi t m++[x]:=by
 unfold Bi
 obtain⟨h1,h2⟩:=@Mt t x m
 rw[h1,h2]
 have ha:lG t (m++[x])=(lG t m&&ltT x t):=by simp[lG]
 rw[ha]
 cases hm:lG t m<;>cases hx:ltT x t<;>simp
theorem TN {l:List Tm} {t:Tm} (h:t∉l):tg l t=if lG t l=true then Bi t l++[t] else Bi t l:=by
 unfold tg Bi
 rw[if_neg h]
 split
 ·rename_i ha
  obtain⟨h1,h2⟩:=ab6 ha
  rw[h1,h2]
 ·rfl
theorem TO {t:Tm} {m:List Tm}:(Bi t m).length≤m.length+1:=by
 unfold Bi
 split
 ·omega
 ·have:=iY List.length (List.takeWhile_append_dropWhile (p:=fun x=>ltT x t) (l:=m))
  rw[ax] at this
  rw[ax,aC];omega
theorem H8 {l:List Tm} {t:Tm} {i:Nat} (h:i<l.length) (h1:t∉l.take i) (h2:l[i]≠t):t∉l.take (i+1):=by
 rw[aQ h,aZ,aP]
 rintro(h3 | h3)
 ·exact h1 h3
 ·exact h2 h3.symm
def tq:=jj @pkA (jj @ptA @pkT)
set_option maxHeartbeats 8000000 in
theorem Fj (l:List Tm) (t:Tm) (hs:cF l≤900000000) (ht:bq t≤900000000):FnOK Tryz.prog G 100 [.c (tsC l),.agg (tmC t)] (.c (tsC (tg l t))):=by
 have LG:=jh l
 refine bE (rs:=[.tmp 4]) true [30,34,43] mixed Tryz.func100 rfl rfl rfl rfl (by kernel_rfl) (by simp) rfl rfl ?_
 simp only[pkA,seval,tsC]
 refine ck (fun i:Nat=>hdS [(0,.c (.sl (l.map tmC))),(3,.bp 0 0),(5,owT (Bi t (l.take i))),(6,bo (!lG t (l.take i))),(7,i64 i)] [(tmC t).map .c]) (fun i=>l.length - i) (fun i=>i≤l.length∧t∉l.take i) 0 ⟨ar _,by simp⟩ ?_ ?_
 ·exact bT (by simp only[eQ,aN,aX,jD];rfl) (ar _) (ae _) (by simp[FL,au,Bi,lG,owT]) ⟨by simp[],trivial⟩
 rintro i ⟨hi,hnm⟩ R bS cd cX
 have xA:=@TO t (l.take i)
 rw[a8] at xA
 simp only[pkA,ptA,seval]
 refine aL (fun bB=>?_) (fun fA=>?_)
 ·have bB:i<l.length:=by simpa using bB
  simp only[tq,seval]
  refine df du rfl dl (by decide) (aD i) (c:=tmC l[i]) (by simp[bB]) (bG _) ?_
  simp only[pkA,seval,jA (bG _)]
  have q1:=fx (aF bB)
  refine ay rfl (ko t l[i] (by omega) (by omega)) (fun h=>by cases h) ?_
  have ll:=ei (n:=(i:Int)+1) (k:=i+1) (by omega) (by omega)
  simp only[pkA,seval]
  refine aL (fun kR=>?_) (fun fO=>?_)
  ·have kR:jB t l[i]=0:=by simpa using kR
   rw[gB] at kR
   simp only[pkA,seval]
   refine cX _ ?_
   simp only[pkA]
   have:t∈l:=kR▸aF bB
   unfold tg;rw[if_pos this];rfl
  have fO:¬ jB t l[i]=0:=by simpa using fO
  have aiU:l[i]≠t:=fun h=>fO (gB.2 h.symm)
  have ads:=H8 bB hnm aiU
  have hlx:ltT l[i] t=!decide (jB t l[i]<0):=by
   have h1:=@A9 l[i] t
   unfold ltT
   cases h:decide (jB t l[i]<0)<;>simp at h ⊢<;>omega
  have LJ:=@Pl t l[i] (l.take i)
  rw[← aQ bB] at LJ
  have Qj:lG t (l.take (i+1))=(lG t (l.take i)&&ltT l[i] t):=by rw[aQ bB];unfold lG;rw[List.all_append];simp
  have hm1:(l.take i).length≤i:=List.length_take_le ..
  simp only[pkA,seval]
  refine iK (fun adt=>?_) (fun q0=>?_)
  ·have adt:decide (jB t l[i]<0)=true:=adt
   rw[adt,fV] at hlx
   rw[hlx,Bool.and_false] at Qj
   simp only[pkA,seval]
   refine aL (fun hnp=>?_) (fun hp=>?_)
   ·have hnp:lG t (l.take i)=true:=by simpa using hnp
    rw[if_pos ⟨hnp,hlx⟩] at LJ
    simp only[tq,seval,rH]
    refine H7 (by omega) ?_
    simp only[pkA,seval,rH]
    refine df du rfl dl (by decide) (aD i) (c:=tmC l[i]) (by simp[bB]) (bG _) ?_
    simp only[tq,seval,jA (bG _)]
    refine H7 (by(try simp only[ax,dm]);omega) ?_
    simp only[pkA,seval,rH]
    refine bS (i+1) _ ⟨bB,ads⟩ (by omega) (bT (by simp only[eQ,aN,aX,jD];rfl) (ar _) (ae _) ?_ ⟨by simp[bxs],trivial⟩)
    simp only[FL,au,seval,ll,LJ,Qj,fC,and_self]
   ·have hp:lG t (l.take i)=false:=by simpa using hp
    rw[if_neg (by simp[hp])] at LJ
    simp only[pkA,seval,rH]
    refine df du rfl dl (by decide) (aD i) (c:=tmC l[i]) (by simp[bB]) (bG _) ?_
    simp only[tq,seval,jA (bG _)]
    refine H7 (by(try simp only[ax,dm]);omega) ?_
    simp only[pkA,seval,rH]
    refine bS (i+1) _ ⟨bB,ads⟩ (by omega) (bT (by simp only[eQ,aN,aX,jD];rfl) (ar _) (ae _) ?_ ⟨by simp[bxs],trivial⟩)
    simp only[FL,au,seval,ll,LJ,Qj,hp,fC,and_self]
  ·have q0:decide (jB t l[i]<0)=false:=q0
   rw[q0,fC] at hlx
   rw[hlx,jd] at Qj
   rw[if_neg (by simp[hlx])] at LJ
   ·simp only[pkA,seval,rH]
    refine df du rfl dl (by decide) (aD i) (c:=tmC l[i]) (by simp[bB]) (bG _) ?_
    simp only[tq,seval,jA (bG _)]
    refine H7 (by(try simp only[ax,dm]);omega) ?_
    simp only[pkA,seval,rH]
    refine bS (i+1) _ ⟨bB,ads⟩ (by omega) (bT (by simp only[eQ,aN,aX,jD];rfl) (ar _) (ae _) ?_ ⟨by simp[bxs],trivial⟩)
    simp only[FL,au,seval,ll,LJ,Qj,and_self]
 ·have:i=l.length:=by simp at fA;omega
  subst this
  rw[cw] at hnm xA
  have hpo:=TN hnm
  simp only[pkA]
  refine cd _ _ ?_
  simp only[pkA,seval]
  refine aL (fun hnp=>?_) (fun hp=>?_)
  ·have hnp:lG t l=true:=by simpa using hnp
   rw[if_pos hnp] at hpo
   simp only[tq,seval,rH]
   refine H7 (by rw[cw];omega) ?_
   simp only[pkA,seval,rH,TM]
   rw[hpo,cw];rfl
  ·have hp:lG t l=false:=by simpa using hp
   rw[if_neg (by simp[hp])] at hpo
   simp only[pkA,seval,TM]
   rw[hpo,cw];rfl
theorem H9 {p:Tm→Bool} {l:List Tm} {i:Nat} (h:i<l.length):lM p (l.drop i)=(dD p l[i]&&lM p (l.drop (i+1))):=by
 rw[bX h];rfl
set_option maxHeartbeats 4000000 in
theorem yt (S:List Tm) (hS:cF S≤900000000):∀ t:Tm,bq t≤900000000→FnOK Tryz.prog G 64 [.c (tsC S),.agg (tmC t)] (bo (dD (inP S) t)):=by
 refine Tm.ind fun k n l ih hs=>?_
 have dZ:cF l+1≤900000000:=by simp only[bq] at hs;omega
 have LG:=jh l
 have hT:dD (inP S) (.mk k n l)=((decide (Tm.mk k n l∈S)||decide (k=1))||(!decide (k=2)&&lM (inP S) l)):=rfl
 have hH:=Ya (G:=G) S (.mk k n l) (by omega) (by omega)
 obtain⟨t0,Qn⟩:∃ t0,t0=Tm.mk k n l:=⟨_,rfl⟩
 have e0:t0.kind=k:=by rw[Qn];rfl
 have e2:t0.l=l:=by rw[Qn];rfl
 rw[← Qn] at hT hH ⊢
 clear Qn
 refine bE (rs:=[.tmp 4]) false [] mixed Tryz.func64 rfl rfl rfl rfl (by kernel_rfl) (by simp) rfl rfl ?_
 simp only[tq,seval,tsC,e0]
 refine iK (fun h1=>?_) (fun h1=>?_)
 ·have h1:¬ k=1:=by simpa using h1
  simp only[tq,seval]
  refine ay rfl hH (fun h=>by cases h) ?_
  simp only[pkA,seval]
  refine aL (fun hm=>?_) (fun hm=>?_)
  ·simp only[pkA,seval]
   rw[hT,hm];rfl
  have hnm:decide (t0∈S)=false:=hm
  simp only[tq,seval,e0]
  refine aL (fun h2=>?_) (fun h2=>?_)
  ·have h2:k=2:=by simpa using h2
   simp only[pkA,seval]
   rw[hT,hnm];simp[h2]
  have h2:¬ k=2:=by simpa using h2
  have hT':dD (inP S) t0=lM (inP S) l:=by rw[hT,hnm];simp[h1,h2]
  simp only[pkA,seval]
  refine ck (fun i:Nat=>hdS [(0,.c (.sl (S.map tmC))),(3,.bp 0 0),(5,i64 i)] [(tmC t0).map .c]) (fun i=>l.length - i) (fun i=>i≤l.length∧lM (inP S) l=lM (inP S) (l.drop i)) 0 ⟨ar _,rfl⟩ ?_ ?_
  ·exact bT (by simp only[eQ,aN,aX,jD];rfl) (ar _) (ae _) (by simp[FL,au]) ⟨by simp[],trivial⟩
  rintro i ⟨hi,he⟩ R bS cd cX
  simp only[tq,seval,tsC,e2]
  refine aL (fun bB=>?_) (fun fA=>?_)
  ·have bB:i<l.length:=by simpa using bB
   simp only[tq,seval,tsC,e2]
   refine df du rfl dl (by decide) (aD i) (c:=tmC l[i]) (by simp[bB]) (bG _) ?_
   simp only[pkA,seval,jA (bG _)]
   refine ay rfl (ih l[i] (aF bB) (by have:=fx (aF bB);omega)) (fun h=>by cases h) ?_
   have e1:=H9 (p:=inP S) bB
   have ll:=ei (n:=(i:Int)+1) (k:=i+1) (by omega) (by omega)
   simp only[pkA,seval]
   refine aL (fun fO=>?_) (fun kR=>?_)
   ·have fO:dD (inP S) l[i]=false:=by simpa using fO
    simp only[pkA,seval]
    refine cX _ ?_
    simp only[pkA,seval]
    rw[hT',he,e1,fO];rfl
   ·have kR:dD (inP S) l[i]=true:=by simpa using kR
    simp only[pkA,seval]
    refine bS (i+1) _ ⟨bB,?_⟩ (by omega) (bT (by simp only[eQ,aN,aX,jD];rfl) (ar _) (ae _) ?_ ⟨by simp[bxs],trivial⟩)
    ·rw[he,e1,kR];rfl
    ·simp[FL,au,ll]
  ·have:i=l.length:=by simp at fA;omega
   subst this
   simp only[pkA]
   refine cd _ _ ?_
   simp only[pkA,seval]
   rw[hT',he,fp];rfl
 ·have h1:k=1:=by simpa using h1
  simp only[pkA,seval]
  rw[hT];simp[h1]
theorem tu:∀ (l out:List Tm),pB out l=l.foldl (fun o t=>jR o (rG t)) out
 |[],_=>rfl
 |t::l,out=>by simp only[pB,iP];exact tu l _
theorem Ia {l out:List Tm} {i:Nat} (h:i<l.length):pB out (l.take (i+1))=jR (pB out (l.take i)) (rG l[i]):=by
 rw[tu,tu,aQ h,kT];rfl
theorem Ib {l out:List Tm} {i:Nat} (h:i<l.length):jR out (l.take (i+1))=tg (jR out (l.take i)) l[i]:=by
 unfold jR
 rw[aQ h,kT];rfl
theorem Dg:∀ t:Tm,∀ x∈j6 t,bq x≤bq t:=by
 refine Tm.ind fun k n l ih=>?_
 intro x hx
 simp only[j6,bu] at hx
 rcases hx with rfl | hx
 ·exact ae _
 ·obtain⟨t,ht,hx⟩:=mD.1 hx
  have h1:=ih t ht x hx
  have h2:=fx ht
  simp only[bq];omega
theorem Ie {l:List Tm} {m:Nat} (h:∀ x∈l,bq x≤m):cF l≤l.length*m:=by
 induction l with
 |nil=>simp[cF]
 |cons t l ih=>
  have h1:=h t (aW ..)
  have h2:=ih fun x hx=>h x (aR _ hx)
  simp only[cF,aC,dJ];omega
theorem KN {k n:Int} {l:List Tm} {i:Nat} (h:i<l.length) {x:Tm} (hx:x∈j6 l[i]):x∈j6 (.mk k n l):=by
 simp only[j6,bu]
 exact .inr (mD.2 ⟨_,aF h,hx⟩)
structure PutS (t:Tm) (out:List Tm):Prop where
 st:StT out
 sub:∀ x∈out,x∈j6 t
theorem PutS.put {t u:Tm} {out:List Tm} (h:PutS t out) (hu:u∈j6 t):PutS t (tg out u):=
 ⟨tj h.st u,fun x hx=>by rcases Bd.1 hx with hx | rfl;exact h.sub x hx;exact hu⟩
theorem PutS.all {t:Tm}:∀ {us out:List Tm},PutS t out→(∀ u∈us,u∈j6 t)→PutS t (jR out us)
 |[],_,h,_=>h
 |u::us,out,h,hu=>by
  show PutS t (jR (tg out u) us)
  exact PutS.all (h.put (hu u (aW ..))) fun v hv=>hu v (aR _ hv)
theorem PutS.start (t:Tm):PutS t [t]:=⟨List.pairwise_singleton _ _,fun x hx=>by rw[aP] at hx;subst hx;exact yp x⟩
theorem PutS.rounds {k n:Int} {l:List Tm}:∀ i,i≤l.length→PutS (.mk k n l) (pB [.mk k n l] (l.take i))
 |0,_=>PutS.start _
 |i+1,h=>by
  rw[Ia h]
  exact(PutS.rounds i (Nat.le_of_succ_le h)).all fun u hu=>KN h ((TF l[i]).2 u |>.1 hu)
theorem TP {v:V} {l:List Tm} (h:v=owT l∨v=.c (tsC l)):v.fz=.c (.sl (l.map tmC)):=by rcases h with rfl | rfl<;>rfl
theorem rI {v:V} {l:List Tm} (h:v=owT l∨v=.c (tsC l)) {m:Nat}:v.ltB m=true:=by rcases h with rfl | rfl<;>rfl
