/- Layer 15: the specification's Close, Knows. -/
import Derived.Test.YtegbpjodbjhjeaaGreatDoorVlT9
import Derived.Test.YtegbpjodbjhjeaaGreatDoorVlFlb
set_option linter.all false
namespace Go.Proofs.YtegbpjodbjhjeaaGreatDoor
open Go Go.Vl
variable {G:Gl}
set_option maxRecDepth 4000
def tw:Nat→List Tm→List Tm
 |0,o=>o
 |n+1,o=>if(lN o).length=o.length then o else tw n (lN o)
def en (I:List Tm):List Tm:=tw (cF I+1) (kF I)
theorem Dh {I:List Tm} (hv:∀ t∈I,bY t=true):∀ (n:Nat) (o:List Tm),zr I o→cF I<n+o.length→zr I (tw n o)∧qg (tw n o)
 |0,o,h,hn=>by have:=TK h;omega
 |n+1,o,h,hn=>by
  unfold tw
  split
  ·rename_i he;exact⟨h,TJ h he⟩
  ·rename_i he
   have hr:=vI hv h
   have fy:o.length≤(lN o).length:=mE h.st.nodup fun x hx=>((qM h.st).2 x).2 (.inl hx)
   exact Dh hv n _ hr (by omega)
theorem ly {I:List Tm} (hv:∀ t∈I,bY t=true):zr I (en I)∧qg (en I):=Dh hv _ _ (Bf I) (by omega)
theorem o7 {I out:List Tm} (hv:∀ t∈I,bY t=true) (hs:StT out) (hk:∀ t∈out,Kn I false t):out.length≤cF I∧cF out≤cF I*cF I∧(∀ t∈out,bY t=true)∧∀ t∈out,bq t≤cF I:=by
 have eJ:∀ x∈out,∃ u∈I,x∈j6 u:=fun x hx=>(hk x hx).loc rfl
 have h1:out.length≤cF I:=by
  have:=mE hs.nodup (m:=mA I) fun x hx=>mD.2 (eJ x hx)
  have e:(mA I).length=cF I:=by
   clear eJ this hk hv
   induction I with
   |nil=>rfl
   |cons t l ih=>simp only[mA,cF,ax,Bc,ih]
  omega
 have h2:∀ x∈out,bq x≤cF I:=fun x hx=>by
  obtain⟨u,hu,h⟩:=eJ x hx
  have:=Dg u x h
  have:=fx hu
  omega
 refine⟨h1,cj (Ie h2) (aS _ h1),fun t ht=>?_,h2⟩
 obtain⟨u,hu,h⟩:=eJ t ht
 exact pA u (hv u hu) t h
theorem Fl {t:Tm} (hv:bY t=true) (hk:t.kind=3∨t.kind=4):∃ a b,t=.mk t.kind t.n [a,b]:=by
 obtain⟨k,n,l⟩:=t
 have hk:k=3∨k=4:=hk
 have:=(fw hv).2.2.1
 have h2:l.length=2:=by rcases hk with rfl | rfl<;>simp[gA] at this<;>omega
 match l,h2 with
 |[a,b],_=>exact⟨a,b,rfl⟩
theorem Di {out next:List Tm} {k n:Int} {a b:Tm}:j7 out next (.mk k n [a,b])=if decide (k=3∨k=4)=true∧dD (inP out) a=true then tg next b else next:=rfl
theorem TQ {out next:List Tm} {t:Tm} (hk:¬ (t.kind=3∨t.kind=4)):j7 out next t=next:=by
 obtain⟨k,n,l⟩:=t
 have Nx:¬ (k=3∨k=4):=hk
 clear hk
 match l with
 |[]=>rfl
 |[_]=>rfl
 |a::b::r=>exact if_neg fun h=>Nx (dA h.1)
theorem TR {I out:List Tm} (hv:∀ t∈I,bY t=true) (h:zr I out) (j:Nat):StT ((out.take j).foldl (j7 out) out)∧∀ t∈(out.take j).foldl (j7 out) out,Kn I false t:=by
 obtain⟨h1,h2⟩:=TG (out:=out) (out.take j) h.st
 refine⟨h1,fun t ht=>?_⟩
 rcases(h2 t).1 ht with ht | ⟨u,hu,k,n,a,b,r,rfl,hk,hb,rfl⟩
 ·exact h.kn t ht
 ·refine (vI hv h).kn _ ((qM h.st).2 _ |>.2 (.inr ⟨_,cJ hu,k,n,a,_,r,rfl,hk,hb,rfl⟩))
def u5:=jj @pkA @ptA
def Bj:=jj @pkA (jj @ptA @pkT)
set_option maxHeartbeats 16000000 in
theorem Pm (I:List Tm) (hv:∀ t∈I,bY t=true) (hs:cF I≤20000):FnOK Tryz.prog G 58 [.c (tsC I)] (.c (tsC (en I))):=by
 have LG:=jh I
 have hq:cF I*cF I≤20000*20000:=Nat.mul_le_mul hs hs
 refine bE (rs:=[.tmp 2]) true [] mixed Tryz.func58 rfl rfl rfl rfl (by kernel_rfl) (by simp) rfl rfl ?_
 simp only[pkA,seval,tsC]
 refine ck (fun q:Nat×V=>hdS [(0,.c (.sl (I.map tmC))),(3,q.2),(4,i64 q.1)] []) (fun q=>I.length - q.1) (fun q=>q.1≤I.length∧(q.2=owT (jR [] (I.take q.1))∨q.2=.c (tsC (jR [] (I.take q.1))))) (0,owT []) ⟨ar _,.inl rfl⟩ ?_ ?_
 ·exact bT rfl (ar _) (ae _) (by simp[FL,au,owT]) trivial
 rintro⟨i,v⟩ ⟨hi,sA⟩ R bS cd cX
 simp only at hi sA bS
 have LF:=TP sA
 simp only[u5,seval]
 refine aL (fun bB=>?_) (fun fA=>?_)
 ·have bB:i<I.length:=by simpa using bB
  have ll:=ei (n:=(i:Int)+1) (k:=i+1) (by omega) (by omega)
  have aiV:cF (jR [] (I.take i))≤900000000:=by
   have hst:StT (jR [] (I.take i)):=jC (I.take i)
   have hk:∀ t∈jR [] (I.take i),Kn I false t:=fun t ht=>.item (cJ (jg.1 ht))
   have:=(o7 hv hst hk).2.1
   omega
  have hti:=fx (aF bB)
  have hpt:=Ib (out:=[]) bB
  simp only[pkA,seval,LF]
  refine df du rfl dl (by decide) (aD i) (c:=tmC I[i]) (by simp[bB]) (bG _) ?_
  simp only[pkA,seval,jA (bG _)]
  refine ay rfl (Fj (jR [] (I.take i)) I[i] aiV (by omega)) (fun h=>by cases h) ?_
  simp only[pkA,seval,tsC]
  refine bS (i+1,.c (tsC (jR [] (I.take (i+1))))) _ ⟨bB,.inr rfl⟩ (by simp only;omega) (bT rfl (ar _) (ar _) ?_ trivial)
  simp[FL,au,ll,hpt,tsC]
 have:i=I.length:=by simp at fA;omega
 subst this
 rw[cw] at sA
 have Gk:jR [] I=kF I:=rfl
 rw[Gk] at sA
 clear LF bS
 simp only[pkA]
 refine cd _ _ ?_
 simp only[pkA,seval]
 refine ck (fun q:List Tm×V×Nat=>hdS [(3,q.2.1)] []) (fun q=>q.2.2) (fun q=>zr I q.1∧(q.2.1=owT q.1∨q.2.1=.c (tsC q.1))∧en I=tw q.2.2 q.1∧cF I<q.2.2+q.1.length) (kF I,v,cF I+1) ⟨Bf I,sA,rfl,by simp only;omega⟩ ?_ ?_
 ·exact bT (by simp only[eQ,aN,aX,rI sA];rfl) (ar _) (ae _) (by simp[FL,au]) trivial
 clear sA cd cX
 rintro⟨out,v,n⟩ ⟨hC,sA,m9,hn⟩ R2 bS cd cX
 simp only at hC sA m9 hn bS
 have LF:=TP sA
 obtain⟨k1,k2,k3,k4⟩:=o7 hv hC.st hC.kn
 simp only[pkA,seval,LF]
 refine ck (fun j:Nat=>hdS [(3,v),(5,.c (.sl (((out.take j).foldl (j7 out) out).map tmC))),(6,i64 j)] []) (fun j=>out.length - j) (fun j=>j≤out.length) 0 (ar _) ?_ ?_
 ·exact bT (by simp only[eQ,aN,aX,rI sA];rfl) (ar _) (ae _) (by simp[FL,au]) trivial
 intro j hj R3 BQ adv ajC
 simp only[u5,seval,LF]
 refine aL (fun bB=>?_) (fun fA=>?_)
 ·have bB:j<out.length:=by simpa using bB
  have ll:=ei (n:=(j:Int)+1) (k:=j+1) (by omega) (by omega)
  have hvj:=k3 _ (aF bB)
  have hsj:=k4 _ (aF bB)
  obtain⟨o1,o2⟩:=TR hv hC j
  obtain⟨o3,o4,_,_⟩:=o7 hv o1 o2
  have sf:(out.take (j+1)).foldl (j7 out) out=j7 out ((out.take j).foldl (j7 out) out) out[j]:=by
   rw[aQ bB,kT];rfl
  have ia:∀ K,K (.c (.rp (tmC out[j]) 0))→cA Tryz.prog 33 (.c (.sl (out.map tmC))) (i64 (j:Int)) K:=fun K hK=>
   df du rfl dl (by decide) (aD j) (c:=tmC out[j]) (by simp[bB]) (bG _) hK
  simp only[pkA,seval,LF]
  refine ia _ ?_
  simp only[Bj,seval]
  refine iK (fun h3=>?_) (fun h3=>?_)
  ·simp only[pkA,seval,LF]
   refine ia _ ?_
   simp only[Bj,seval]
   refine aL (fun h4=>?_) (fun h4=>?_)
   ·have hk:out[j].kind=4:=by simpa using h4
    simp only[pkA,seval,LF]
    obtain⟨a,b,qn⟩:=Fl hvj (by simp[hk])
    have eL:out[j].l=[a,b]:=by rw[qn];rfl
    have tZ:j7 out ((out.take j).foldl (j7 out) out) out[j]=if dD (inP out) a=true then tg ((out.take j).foldl (j7 out) out) b else(out.take j).foldl (j7 out) out:=by
     rw[qn,Di];simp[hk]
    have LK:bq a≤bq out[j]∧bq b≤bq out[j]:=by rw[qn];simp only[bq,cF];omega
    have ia0:∀ K,K (.c (.rp (tmC a) 0))→cA Tryz.prog 33 (.c (.sl (List.map tmC [a,b]))) (i64 0) K:=fun K hK=>
     df du rfl dl (by decide) (by decide) (c:=tmC a) rfl (bG _) hK
    have ia1:∀ K,K (.c (.rp (tmC b) 0))→cA Tryz.prog 33 (.c (.sl (List.map tmC [a,b]))) (i64 1) K:=fun K hK=>
     df du rfl dl (by decide) (by decide) (c:=tmC b) rfl (bG _) hK
    refine ia _ ?_
    simp only[Bj,seval,tsC,eL]
    refine ia0 _ ?_
    simp only[pkA,seval,jA (bG _)]
    refine ay rfl (yt out (by omega) a (by omega)) (fun h=>by cases h) ?_
    simp only[pkA,seval]
    refine aL (fun hb=>?_) (fun hb=>?_)
    ·rw[if_pos hb] at tZ
     simp only[pkA,seval,LF]
     refine ia _ ?_
     simp only[Bj,seval,tsC,eL]
     refine ia1 _ ?_
     simp only[pkA,seval,jA (bG _)]
     refine ay rfl (Fj ((out.take j).foldl (j7 out) out) b (by omega) (by omega)) (fun h=>by cases h) ?_
     simp only[pkA,seval,tsC]
     refine BQ (j+1) _ bB (by omega) (bT (by simp only[eQ,aN,aX,rI sA];rfl) (ar _) (ar _) ?_ trivial)
     simp[FL,au,ll,sf,tZ]
    ·rw[if_neg (by simp[hb])] at tZ
     simp only[pkA,seval]
     refine BQ (j+1) _ bB (by omega) (bT (by simp only[eQ,aN,aX,rI sA];rfl) (ar _) (ar _) ?_ trivial)
     simp[FL,au,ll,sf,tZ]
   ·have hk:¬ (out[j].kind=3∨out[j].kind=4):=by
     have h3:¬ out[j].kind=3:=by simpa using h3
     have h4:¬ out[j].kind=4:=by simpa using h4
     rintro(h | h)
     ·exact h3 h
     ·exact h4 h
    have tZ:=TQ (out:=out) (next:=(out.take j).foldl (j7 out) out) hk
    simp only[pkA,seval]
    refine BQ (j+1) _ bB (by omega) (bT (by simp only[eQ,aN,aX,rI sA];rfl) (ar _) (ar _) ?_ trivial)
    simp[FL,au,ll,sf,tZ]
  ·by_cases hk:out[j].kind=3
   ·simp only[pkA,seval,LF]
    obtain⟨a,b,qn⟩:=Fl hvj (by simp[hk])
    have eL:out[j].l=[a,b]:=by rw[qn];rfl
    have tZ:j7 out ((out.take j).foldl (j7 out) out) out[j]=if dD (inP out) a=true then tg ((out.take j).foldl (j7 out) out) b else(out.take j).foldl (j7 out) out:=by
     rw[qn,Di];simp[hk]
    have LK:bq a≤bq out[j]∧bq b≤bq out[j]:=by rw[qn];simp only[bq,cF];omega
    have ia0:∀ K,K (.c (.rp (tmC a) 0))→cA Tryz.prog 33 (.c (.sl (List.map tmC [a,b]))) (i64 0) K:=fun K hK=>
     df du rfl dl (by decide) (by decide) (c:=tmC a) rfl (bG _) hK
    have ia1:∀ K,K (.c (.rp (tmC b) 0))→cA Tryz.prog 33 (.c (.sl (List.map tmC [a,b]))) (i64 1) K:=fun K hK=>
     df du rfl dl (by decide) (by decide) (c:=tmC b) rfl (bG _) hK
    refine ia _ ?_
    simp only[Bj,seval,tsC,eL]
    refine ia0 _ ?_
    simp only[pkA,seval,jA (bG _)]
    refine ay rfl (yt out (by omega) a (by omega)) (fun h=>by cases h) ?_
    simp only[pkA,seval]
    refine aL (fun hb=>?_) (fun hb=>?_)
    ·rw[if_pos hb] at tZ
     simp only[pkA,seval,LF]
     refine ia _ ?_
     simp only[Bj,seval,tsC,eL]
     refine ia1 _ ?_
     simp only[pkA,seval,jA (bG _)]
     refine ay rfl (Fj ((out.take j).foldl (j7 out) out) b (by omega) (by omega)) (fun h=>by cases h) ?_
     simp only[pkA,seval,tsC]
     refine BQ (j+1) _ bB (by omega) (bT (by simp only[eQ,aN,aX,rI sA];rfl) (ar _) (ar _) ?_ trivial)
     simp[FL,au,ll,sf,tZ]
    ·rw[if_neg (by simp[hb])] at tZ
     simp only[pkA,seval]
     refine BQ (j+1) _ bB (by omega) (bT (by simp only[eQ,aN,aX,rI sA];rfl) (ar _) (ar _) ?_ trivial)
     simp[FL,au,ll,sf,tZ]
   ·exact absurd (by simpa using h3) hk
 ·have:j=out.length:=by simp at fA;omega
  subst this
  simp only[pkA]
  refine adv _ _ ?_
  rw[cw]
  have LC:out.foldl (j7 out) out=lN out:=rfl
  rw[LC]
  simp only[u5,seval,LF]
  refine aL (fun kR=>?_) (fun fO=>?_)
  ·have kR:(lN out).length=out.length:=by simp at kR;omega
   simp only[pkA,seval,LF]
   refine cX _ ?_
   simp only[pkA]
   have Lz:en I=out:=by
    rw[m9]
    cases n with
    |zero=>rfl
    |succ n=>unfold tw;rw[if_pos kR]
   rw[Lz];rfl
  ·have fO:¬ (lN out).length=out.length:=fun h=>by rw[am,am,h] at fO;simp at fO
   have hr:=vI hv hC
   have fy:out.length≤(lN out).length:=mE hC.st.nodup fun x hx=>((qM hC.st).2 x).2 (.inl hx)
   obtain⟨m,rfl⟩:∃ m,n=m+1:=by
    cases n with
    |zero=>omega
    |succ m=>exact⟨m,rfl⟩
   have Lz:en I=tw m (lN out):=by rw[m9];show(if _ then _ else _)=_;rw[if_neg fO]
   simp only[pkA,seval]
   refine bS (lN out,.c (tsC (lN out)),m) _ ⟨hr,.inr rfl,Lz,by simp only;omega⟩ (by simp only;omega) (bT rfl (ar _) (ar _) ?_ trivial)
   simp[FL,tsC]
theorem Pn (I:List Tm) (t:Tm) (hv:∀ t∈I,bY t=true) (hs:cF I≤20000) (ht:bq t≤900000000):FnOK Tryz.prog G 27 [.c (tsC I),.agg (tmC t)] (bo (dD (inP (en I)) t)):=by
 have hq:cF I*cF I≤20000*20000:=Nat.mul_le_mul hs hs
 obtain⟨hC,_⟩:=ly hv
 obtain⟨k1,k2,k3,k4⟩:=o7 hv hC.st hC.kn
 refine bE (rs:=[.tmp 4]) false [] mixed Tryz.func27 rfl rfl rfl rfl (by kernel_rfl) (by simp) rfl rfl ?_
 simp only[pkA,seval]
 refine ay rfl (Pm I hv hs) (fun h=>by cases h) ?_
 simp only[Bj,seval]
 refine ay rfl (yt (en I) (by omega) t ht) (fun h=>by cases h) ?_
 simp only[pkA,seval]
theorem eqI (a b:Int):jM [.int] [cI a] [cI b]=some (decide (a=b)):=by
 show some (decide (a=b)&&true)=_;rw[jd]
def cS (b:By):C:=.lit (.string (bs8 b))
theorem eqS (a b:By):jM [.str] [cS a] [cS b]=some (decide (a=b)):=by
 show some (decide (bs8 a=bs8 b)&&true)=_;rw[jd,Xv]
def shC (k:Int):List C:=[cS (u3 k),cI (max 0 (gA k)),.lit (.bool (qy k))]
def shV (k:Int):V:=.agg (shC k)
def shL:List (Int×Int):=[(1,1),(2,2),(3,3),(4,4),(5,5),(6,6)]
def shM:List V:=px i64 shV shL
theorem yu {l m:List (Int×Int)} {k:Int} {s:Vl.S} {i:Nat} {x:V} {K:Vl.S→Prop} (hb:s.bx i=px i64 shV l) (hi:i<s.nb) (hx:x=shV k) (hm:SI l k k=m) (hK:K { s with bx:=up s.bx i (px i64 shV m) }):ix Tryz.prog 158 s (.mr i) (i64 k) x K:=by
 subst hx;subst hm
 exact HO (f:=i64) (h:=shV) (c:=fun a=>[cI a]) KA rfl E8 rfl vF rfl Tx (fun _=>rfl) (fun _=>rfl) eqI rfl rfl hb hi hK
def shZ:V:=.agg [cS [],cI 0,.lit (.bool false)]
theorem TS {l:List (Int×Int)} {k:Int} {s:Vl.S} {i:Nat} {K:V→Prop} (hb:s.bx i=px i64 shV l) (hi:i<s.nb) (hK:K (((wN l k).map shV).getD shZ)):fG Tryz.prog 158 s (.mr i) (i64 k) false K:=
 Ks (f:=i64) (h:=shV) (c:=fun a=>[cI a]) KA rfl E8 rfl vF rfl Tx (fun _=>rfl) (fun _=>rfl) eqI hb hi hK
def TU (k:Int):Bool:=decide (1≤k)&&decide (k≤6)
theorem ab7 {k:Int}:wN shL k=if TU k=true then some k else none:=by
 by_cases h:TU k=true
 ·rw[if_pos h]
  simp only[TU,aI,bj] at h
  have:k=1∨k=2∨k=3∨k=4∨k=5∨k=6:=by omega
  rcases this with rfl | rfl | rfl | rfl | rfl | rfl<;>decide
 ·rw[if_neg h]
  simp only[TU,aI,bj] at h
  have hn:k∉shL.map (·.1):=by simp[shL];omega
  have:=SJ (l:=shL) (a:=k)
  rw[cR hn] at this
  cases hg:wN shL k with
  |none=>rfl
  |some x=>rw[hg] at this;cases this
theorem Yc {m:Nat}:shM.all (fun x=>x.ltB m)=true:=HS (fun _=>rfl) (fun _=>rfl)
theorem Yd {ρ:Nat→Nat}:shM.map (V.ren ρ)=shM:=HQ (fun _=>rfl) (fun _=>rfl)
set_option maxHeartbeats 4000000 in
theorem Po:FnB Tryz.prog G 148 [] [] (.mr 0) [shM]:=by
 refine nq (rs:=[.tmp 0]) (k:=0) [] mixed Tryz.func148 rfl rfl rfl rfl (by kernel_rfl) (by simp) rfl rfl rfl rfl (ar _) ?_
 simp only[u5,seval,XX]
 refine yu (l:=[]) (m:=[(1,1)]) rfl (show 0<1 by decide) rfl rfl ?_
 simp only[u5,seval]
 refine yu (l:=[(1,1)]) (m:=[(1,1),(2,2)]) (by simp[]) (show 0<1 by decide) rfl rfl ?_
 simp only[u5,seval]
 refine yu (l:=[(1,1),(2,2)]) (m:=[(1,1),(2,2),(3,3)]) (by simp[]) (show 0<1 by decide) rfl rfl ?_
 simp only[u5,seval]
 refine yu (l:=[(1,1),(2,2),(3,3)]) (m:=[(1,1),(2,2),(3,3),(4,4)]) (by simp[]) (show 0<1 by decide) rfl rfl ?_
 simp only[u5,seval]
 refine yu (l:=[(1,1),(2,2),(3,3),(4,4)]) (m:=[(1,1),(2,2),(3,3),(4,4),(5,5)]) (by simp[]) (show 0<1 by decide) rfl rfl ?_
 simp only[u5,seval]
 refine yu (l:=[(1,1),(2,2),(3,3),(4,4),(5,5)]) (m:=shL) (by simp[]) (show 0<1 by decide) rfl rfl ?_
 simp only[pkA,seval]
 exact dP [(0,.mr 0)] rfl (by simp only[eQ,aN,aX,Yc,aC,aH];rfl) (ar _) (ae _) ⟨by simp[],trivial⟩ ⟨by simp[shM],trivial⟩ rfl
def Ck (p:Tm→Bool) (l:List Tm):Int:=match l.findIdx? p with
 |some i=>(i:Int)
 |none=>-1
theorem Mv {p:Tm→Bool} {l:List Tm} {i:Nat} (h:i<l.length) (hp:p l[i]=true) (hn:∀ j (hj:j<l.length),j<i→p l[j]=false):Ck p l=(i:Int):=by
 have:l.findIdx? p=some i:=bW.2 ⟨h,hp,fun j hj=>by rw[hn j (by omega) hj];simp⟩
 unfold Ck;rw[this]
theorem Dj {p:Tm→Bool} {l:List Tm} (hn:∀ j (hj:j<l.length),p l[j]=false):Ck p l=-1:=by
 have:l.findIdx? p=none:=dN.2 fun x hx=>by
  obtain⟨j,hj,rfl⟩:=gi hx
  exact hn j hj
 unfold Ck;rw[this]
theorem TV {p:Tm→Bool} {l:List Tm}:decide (Ck p l≥0)=l.any p:=by
 unfold Ck
 cases h:l.findIdx? p with
 |none=>
  have:=dN.1 h
  have h2:l.any p=false:=by rw[kS];exact fun x hx=>by rw[this x hx];simp
  rw[h2];decide
 |some i=>
  obtain⟨h1,h2,_⟩:=bW.1 h
  have h2:l.any p=true:=dt.2 ⟨_,aF h1,h2⟩
  rw[h2];simp
structure Ask (G:Gl) (Y:List (List V)) (f:V) (R:Tm→Prop) (p:Tm→Bool) where
 g:FuncId
 caps:List V
 eq:f=.clo (.func g) [] caps
 lt:∀ x∈caps,x.ltP Y.length
 ltY:ltL Y.length Y
 fz:caps.map V.fz=caps
 ok:∀ t,R t→FnB Tryz.prog G g (.agg (tmC t)::caps) Y (bo (p t)) Y
theorem Dk {Y:List (List V)} {g:FuncId} {f:V} {args all cargs:List V} {fr:Nat→V} {K:S→V→Prop} {r:V} (hc:eI f args=some (g,all)) (hf:FnB Tryz.prog G g cargs Y r Y) (dh:all.map V.fz=cargs) (bB:ltL Y.length Y) (hr:∀ ρ,r.ren ρ=r)
 (hK:K ⟨fr,bxs Y,kx Y.length 0⟩ r):vcallB Tryz.prog G ⟨fr,bxs Y,kx Y.length 0⟩ f args K:=by
 have:=OS (Y:=Y) (Y':=Y) (ls:=[]) (rest:=[]) (n:=0) (k:=Y.length) (fr:=fr) (K:=K) hc (by simpa using hf) dh rfl rfl bB rfl hr (by simpa using hK)
 simpa using this
theorem TW {Y:List (List V)} {l:List (Nat×V)} {fr:Nat→V} (bB:ltL Y.length Y) (hl:∀ q∈l,q.2.lt (kx Y.length 0)) (h1:FL l fr):S.Le (kx Y.length 0) (hdS l Y) ⟨fr,bxs Y,kx Y.length 0⟩:=by
 have:=aei (Y:=Y) (ls:=[]) (rest:=[]) (k:=Y.length) (m:=0) (n:=0) (j:=0) (l:=l) (fr:=fr) rfl bB rfl rfl (fun b hb=>by cases hb) hl h1 (ae _)
 simpa using this
theorem Fo {Y:List (List V)} {e:VE} {r:V} {t:Nat} {fr:Nat→V} (he:CU e=true) (bB:ltL Y.length Y) (hr:r.lt (kx Y.length 0)) (Js:qt Tryz.prog false (hdS [(t,r)] Y) r [.tmp t]) (h:fr t=r):vt Tryz.prog (kx Y.length 0) r Y [.tmp t] e ⟨fr,bxs Y,kx Y.length 0⟩:=by
 have:=aej (P:=Tryz.prog) (Y:=Y) (ls:=[]) (rest:=[]) (k:=Y.length) (m:=0) (n:=0) (e:=e) (r:=r) (rs:=[.tmp t]) (fr:=fr) [(t,r)] he rfl bB rfl rfl (fun b hb=>by cases hb) (by simpa using hr) (by simp[FL,h]) (by simpa using Js)
 simpa using this
set_option maxHeartbeats 4000000 in
theorem Fp {Y:List (List V)} {f:V} {R:Tm→Prop} {p:Tm→Bool} (h:Ask G Y f R p) (l:List Tm) (hl:∀ t∈l,R t) (hm:l.length≤1000000000):FnB Tryz.prog G 95 [.c (tsC l),f] Y (i64 (Ck p l)) Y:=by
 obtain⟨g,caps,rfl,m9,Cs,hcf,dC⟩:=h
 have Vw:(V.clo (.func g) [] caps).lt (kx Y.length 0):=⟨fun x hx=>(by cases hx),m9⟩
 have hcz:(V.clo (.func g) [] caps).fz=V.clo (.func g) [] caps:=rfl
 have key:FnB Tryz.prog G 95 [.c (tsC l),.clo (.func g) [] caps] (Y++[]) (i64 (Ck p l)) (Y++[]):=by
  refine Mh (k:=Y.length) (m:=0) (rs:=[.tmp 4]) [1000016] mixed Tryz.func95 rfl rfl rfl rfl (by kernel_rfl) (by simp) rfl rfl rfl Cs rfl (fun b hb=>by cases hb) (fun x hx=>?_) ?_
  ·simp only[bu,dW,jK] at hx
   rcases hx with rfl | rfl
   ·trivial
   ·exact Vw
  simp only[u5,seval,tsC,eK]
  refine ck (fun i:Nat=>hdS [(0,.c (.sl (l.map tmC))),(1,.clo (.func g) [] caps),(7,i64 l.length),(8,i64 i)] Y) (fun i=>l.length - i) (fun i=>i≤l.length∧∀ j (h:j<l.length),j<i→p l[j]=false) 0 ⟨ar _,fun j h h'=>absurd h' (Nat.not_lt_zero _)⟩ ?_ ?_
  ·exact TW Cs (by simp[V.lt];exact m9) (by simp[FL,au])
  rintro i ⟨hi,fm⟩ R bS cd cX
  have cu:Y.length=kx Y.length 0:=rfl
  simp only[pkA,seval]
  refine aL (fun bB=>?_) (fun fA=>?_)
  ·have bB:i<l.length:=by simpa using bB
   have hw:=ei (n:=(i:Int)+1) (k:=i+1) (by omega) (by omega)
   simp only[pkA,seval,hcz]
   refine df du rfl dl (by decide) (aD i) (c:=tmC l[i]) (by simp[bB]) (bG _) ?_
   simp only[pkA,seval,jA (bG _)]
   refine Dk rfl (dC _ (hl _ (aF bB))) (by simp[V.fz,hcf]) Cs (fun _=>rfl) ?_
   simp only[pkA,seval]
   refine aL (fun hy=>?_) (fun hn=>?_)
   ·simp only[pkA,seval]
    refine cX _ ?_
    simp only[pkA]
    rw[Mv bB hy fm]
    exact Fo rfl Cs trivial (by simp[hdS,frs,gx,up]) (by simp[])
   ·simp only[pkA,seval]
    refine bS (i+1) _ ⟨bB,fun j h hj=>?_⟩ (by omega) (TW Cs (by simp[V.lt];exact m9) (by simp[FL,au,hw]))
    rcases ct j i with h1 | h1
    ·exact fm j h h1
    ·have:j=i:=by omega
     subst this;exact hn
  ·have:i=l.length:=by simp at fA;omega
   subst this
   simp only[pkA]
   refine cd _ _ ?_
   simp only[pkA,seval]
   rw[Dj (fun j h=>fm j h h)]
   exact Fo rfl Cs trivial (by simp[hdS,frs,gx,up]) (by simp[])
 simpa using key
set_option maxHeartbeats 4000000 in
theorem zt {Y:List (List V)} {f:V} {R:Tm→Prop} {p:Tm→Bool} (h:Ask G Y f R p) (l:List Tm) (hl:∀ t∈l,R t) (hm:l.length≤1000000000):FnB Tryz.prog G 50 [.c (tsC l),f] Y (bo (l.any p)) Y:=by
 have Y1:=Fp h l hl hm
 obtain⟨g,caps,rfl,m9,Cs,hcf,dC⟩:=h
 have Vw:(V.clo (.func g) [] caps).lt (kx Y.length 0):=⟨fun x hx=>(by cases hx),m9⟩
 have hcz:(V.clo (.func g) [] caps).fz=V.clo (.func g) [] caps:=rfl
 have key:FnB Tryz.prog G 50 [.c (tsC l),.clo (.func g) [] caps] (Y++[]) (bo (l.any p)) (Y++[]):=by
  refine Mh (k:=Y.length) (m:=0) (rs:=[.tmp 4]) [1000007] mixed Tryz.func50 rfl rfl rfl rfl (by kernel_rfl) (by simp) rfl rfl rfl Cs rfl (fun b hb=>by cases hb) (fun x hx=>?_) ?_
  ·simp only[bu,dW,jK] at hx
   rcases hx with rfl | rfl
   ·trivial
   ·exact Vw
  simp only[pkA,seval,tsC,eK,hcz]
  refine Dk rfl Y1 (by simp[V.fz,tsC]) Cs (fun _=>rfl) ?_
  simp only[pkA,seval,TV]
  exact Fo rfl Cs trivial (by simp[hdS,frs,gx,up]) (by simp[])
 simpa using key
