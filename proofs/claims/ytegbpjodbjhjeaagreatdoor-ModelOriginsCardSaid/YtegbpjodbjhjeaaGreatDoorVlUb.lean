/- Layer 15: the specification's Close, Knows. -/
import Derived.Test.YtegbpjodbjhjeaaGreatDoorVlT9
import Derived.Test.YtegbpjodbjhjeaaGreatDoorVlFlb
set_option maxHeartbeats 16000000
set_option linter.all false
namespace Go.Proofs.YtegbpjodbjhjeaaGreatDoor
open Go Go.Vl
variable {G:Gl}
set_option maxRecDepth 4000
def sF:Nat→List Tm→List Tm
 |0,o=>o
 |n+1,o=>if(ln o).length=o.length then o else sF n (ln o)
def d4 (I:List Tm):List Tm:=sF (cD I+1) (kr I)
theorem Cb {I:List Tm} (hv:∀ t∈I,bT t=true):∀ (n:Nat) (o:List Tm),yC I o→cD I<n+o.length→yC I (sF n o)∧pN (sF n o)
 |0,o,h,hn=>by have:=Sr h;omega
 |n+1,o,h,hn=>by
  unfold sF
  split
  ·rename_i he;exact⟨h,Sq h he⟩
  ·rename_i he
   have hr:=uL hv h
   have fx:o.length≤(ln o).length:=ma h.st.nodup fun x hx=>((qo h.st).2 x).2 (.inl hx)
   exact Cb hv n _ hr (by omega)
theorem k7 {I:List Tm} (hv:∀ t∈I,bT t=true):yC I (d4 I)∧pN (d4 I):=Cb hv _ _ (Ai I) (by omega)
theorem oD {I out:List Tm} (hv:∀ t∈I,bT t=true) (hs:StT out) (hk:∀ t∈out,Kn I false t):out.length≤cD I∧cD out≤cD I*cD I∧(∀ t∈out,bT t=true)∧∀ t∈out,br t≤cD I:=by
 have ey:∀ x∈out,∃ u∈I,x∈jV u:=fun x hx=>(hk x hx).loc rfl
 have h1:out.length≤cD I:=by
  have:=ma hs.nodup (m:=l7 I) fun x hx=>l8.2 (ey x hx)
  have e:(l7 I).length=cD I:=by
   clear ey this hk hv
   induction I with
   |nil=>rfl
   |cons t l ih=>simp only[l7,cD,ax,Af,ih]
  omega
 have h2:∀ x∈out,br x≤cD I:=fun x hx=>by
  obtain⟨u,hu,h⟩:=ey x hx
  have:=Ca u x h
  have:=fO hu
  omega
 refine⟨h1,bY (G5 h2) (aP _ h1),fun t ht=>?_,h2⟩
 obtain⟨u,hu,h⟩:=ey t ht
 exact o5 u (hv u hu) t h
theorem Ej {t:Tm} (hv:bT t=true) (hk:t.kind=3∨t.kind=4):∃ a b,t=.mk t.kind t.n [a,b]:=by
 obtain⟨k,n,l⟩:=t
 have hk:k=3∨k=4:=hk
 have:=(fh hv).2.2.1
 have h2:l.length=2:=by rcases hk with rfl | rfl<;>simp[gi] at this<;>omega
 match l,h2 with
 |[a,b],_=>exact⟨a,b,rfl⟩
theorem Cc {out next:List Tm} {k n:Int} {a b:Tm}:jW out next (.mk k n [a,b])=if decide (k=3∨k=4)=true∧dt (inP out) a=true then sA next b else next:=rfl
theorem Sz {out next:List Tm} {t:Tm} (hk:¬ (t.kind=3∨t.kind=4)):jW out next t=next:=by
 obtain⟨k,n,l⟩:=t
 have Mn:¬ (k=3∨k=4):=hk
 clear hk
 match l with
 |[]=>rfl
 |[_]=>rfl
 |a::b::r=>exact if_neg fun h=>Mn (fj h.1)
theorem SA {I out:List Tm} (hv:∀ t∈I,bT t=true) (h:yC I out) (j:Nat):StT ((out.take j).foldl (jW out) out)∧∀ t∈(out.take j).foldl (jW out) out,Kn I false t:=by
 obtain⟨h1,h2⟩:=Sp (out:=out) (out.take j) h.st
 refine⟨h1,fun t ht=>?_⟩
 rcases(h2 t).1 ht with ht | ⟨u,hu,k,n,a,b,r,rfl,hk,hb,rfl⟩
 ·exact h.kn t ht
 ·refine (uL hv h).kn _ ((qo h.st).2 _ |>.2 (.inr ⟨_,cz hu,k,n,a,_,r,rfl,hk,hb,rfl⟩))
def ug:=jj @pkA @ptA
def Am:=jj @pkA (jj @ptA @pkT)
theorem Of (I:List Tm) (hv:∀ t∈I,bT t=true) (hs:cD I≤20000):FnOK Tryz.prog G 58 [.c (tsC I)] (.c (tsC (d4 I))):=by
 have Mo:=jl I
 have hq:cD I*cD I≤20000*20000:=Nat.mul_le_mul hs hs
 refine bP (rs:=[.tmp 2]) true [] mixed Tryz.func58 rfl rfl rfl rfl (by kernel_rfl) (by simp) rfl rfl ?_
 simp only[pkA,seval,tsC]
 refine cF (fun q:Nat×V=>hdS [(0,.c (.sl (I.map tmC))),(3,q.2),(4,i64 q.1)] []) (fun q=>I.length - q.1) (fun q=>q.1≤I.length∧(q.2=owT (jF [] (I.take q.1))∨q.2=.c (tsC (jF [] (I.take q.1))))) (0,owT []) ⟨au _,.inl rfl⟩ ?_ ?_
 ·exact cj rfl (au _) (ae _) (by simp[FL,ar,owT]) trivial
 rintro⟨i,v⟩ ⟨hi,rP⟩ R ck cG dn
 simp only at hi rP ck
 have Ks:=Sx rP
 simp only[ug,seval]
 refine aV (fun bF=>?_) (fun ga=>?_)
 ·have bF:i<I.length:=by simpa using bF
  have lG:=fa (n:=(i:Int)+1) (k:=i+1) (by omega) (by omega)
  have ahM:cD (jF [] (I.take i))≤900000000:=by
   have hst:StT (jF [] (I.take i)):=js (I.take i)
   have hk:∀ t∈jF [] (I.take i),Kn I false t:=fun t ht=>.item (cz (iW.1 ht))
   have:=(oD hv hst hk).2.1
   omega
  have hti:=fO (aF bF)
  have hpt:=G4 (out:=[]) bF
  simp only[pkA,seval,Ks]
  refine dz dq rfl di (by decide) (aI i) (c:=tmC I[i]) (by simp[bF]) (bI _) ?_
  simp only[pkA,seval,jT (bI _)]
  refine aD rfl (Ei (jF [] (I.take i)) I[i] ahM (by omega)) (fun h=>by cases h) ?_
  simp only[pkA,seval,tsC]
  refine ck (i+1,.c (tsC (jF [] (I.take (i+1))))) _ ⟨bF,.inr rfl⟩ (by simp only;omega) (cj rfl (au _) (au _) ?_ trivial)
  simp[FL,ar,lG,hpt,tsC]
 have:i=I.length:=by simp at ga;omega
 subst this
 rw[cx] at rP
 have E6:jF [] I=kr I:=rfl
 rw[E6] at rP
 clear Ks ck
 simp only[pkA]
 refine cG _ _ ?_
 simp only[pkA,seval]
 refine cF (fun q:List Tm×V×Nat=>hdS [(3,q.2.1)] []) (fun q=>q.2.2) (fun q=>yC I q.1∧(q.2.1=owT q.1∨q.2.1=.c (tsC q.1))∧d4 I=sF q.2.2 q.1∧cD I<q.2.2+q.1.length) (kr I,v,cD I+1) ⟨Ai I,rP,rfl,by simp only;omega⟩ ?_ ?_
 ·exact cj (by simp only[eW,aR,bb,q0 rP];rfl) (au _) (ae _) (by simp[FL,ar]) trivial
 clear rP cG dn
 rintro⟨out,v,n⟩ ⟨hC,rP,mL,hn⟩ R2 ck cG dn
 simp only at hC rP mL hn ck
 have Ks:=Sx rP
 obtain⟨k1,k2,k3,k4⟩:=oD hv hC.st hC.kn
 simp only[pkA,seval,Ks]
 refine cF (fun j:Nat=>hdS [(3,v),(5,.c (.sl (((out.take j).foldl (jW out) out).map tmC))),(6,i64 j)] []) (fun j=>out.length - j) (fun j=>j≤out.length) 0 (au _) ?_ ?_
 ·exact cj (by simp only[eW,aR,bb,q0 rP];rfl) (au _) (ae _) (by simp[FL,ar]) trivial
 intro j hj R3 AO acj aiu
 simp only[ug,seval,Ks]
 refine aV (fun bF=>?_) (fun ga=>?_)
 ·have bF:j<out.length:=by simpa using bF
  have lG:=fa (n:=(j:Int)+1) (k:=j+1) (by omega) (by omega)
  have hvj:=k3 _ (aF bF)
  have hsj:=k4 _ (aF bF)
  obtain⟨o1,o2⟩:=SA hv hC j
  obtain⟨o3,o4,_,_⟩:=oD hv o1 o2
  have rD:(out.take (j+1)).foldl (jW out) out=jW out ((out.take j).foldl (jW out) out) out[j]:=by
   rw[aU bF,kD];rfl
  have ia:∀ K,K (.c (.rp (tmC out[j]) 0))→cC Tryz.prog 33 (.c (.sl (out.map tmC))) (i64 (j:Int)) K:=fun K hK=>
   dz dq rfl di (by decide) (aI j) (c:=tmC out[j]) (by simp[bF]) (bI _) hK
  simp only[pkA,seval,Ks]
  refine ia _ ?_
  simp only[Am,seval]
  refine jc (fun h3=>?_) (fun h3=>?_)
  ·simp only[pkA,seval,Ks]
   refine ia _ ?_
   simp only[Am,seval]
   refine aV (fun h4=>?_) (fun h4=>?_)
   ·have hk:out[j].kind=4:=by simpa using h4
    simp only[pkA,seval,Ks]
    obtain⟨a,b,pT⟩:=Ej hvj (by simp[hk])
    have eL:out[j].l=[a,b]:=by rw[pT];rfl
    have sU:jW out ((out.take j).foldl (jW out) out) out[j]=if dt (inP out) a=true then sA ((out.take j).foldl (jW out) out) b else(out.take j).foldl (jW out) out:=by
     rw[pT,Cc];simp[hk]
    have Kv:br a≤br out[j]∧br b≤br out[j]:=by rw[pT];simp only[br,cD];omega
    have ia0:∀ K,K (.c (.rp (tmC a) 0))→cC Tryz.prog 33 (.c (.sl (List.map tmC [a,b]))) (i64 0) K:=fun K hK=>
     dz dq rfl di (by decide) (by decide) (c:=tmC a) rfl (bI _) hK
    have ia1:∀ K,K (.c (.rp (tmC b) 0))→cC Tryz.prog 33 (.c (.sl (List.map tmC [a,b]))) (i64 1) K:=fun K hK=>
     dz dq rfl di (by decide) (by decide) (c:=tmC b) rfl (bI _) hK
    refine ia _ ?_
    simp only[Am,seval,tsC,eL]
    refine ia0 _ ?_
    simp only[pkA,seval,jT (bI _)]
    refine aD rfl (xn out (by omega) a (by omega)) (fun h=>by cases h) ?_
    simp only[pkA,seval]
    refine aV (fun hb=>?_) (fun hb=>?_)
    ·rw[if_pos hb] at sU
     simp only[pkA,seval,Ks]
     refine ia _ ?_
     simp only[Am,seval,tsC,eL]
     refine ia1 _ ?_
     simp only[pkA,seval,jT (bI _)]
     refine aD rfl (Ei ((out.take j).foldl (jW out) out) b (by omega) (by omega)) (fun h=>by cases h) ?_
     simp only[pkA,seval,tsC]
     refine AO (j+1) _ bF (by omega) (cj (by simp only[eW,aR,bb,q0 rP];rfl) (au _) (au _) ?_ trivial)
     simp[FL,ar,lG,rD,sU]
    ·rw[if_neg (by simp[hb])] at sU
     simp only[pkA,seval]
     refine AO (j+1) _ bF (by omega) (cj (by simp only[eW,aR,bb,q0 rP];rfl) (au _) (au _) ?_ trivial)
     simp[FL,ar,lG,rD,sU]
   ·have hk:¬ (out[j].kind=3∨out[j].kind=4):=by
     have h3:¬ out[j].kind=3:=by simpa using h3
     have h4:¬ out[j].kind=4:=by simpa using h4
     rintro(h | h)
     ·exact h3 h
     ·exact h4 h
    have sU:=Sz (out:=out) (next:=(out.take j).foldl (jW out) out) hk
    simp only[pkA,seval]
    refine AO (j+1) _ bF (by omega) (cj (by simp only[eW,aR,bb,q0 rP];rfl) (au _) (au _) ?_ trivial)
    simp[FL,ar,lG,rD,sU]
  ·by_cases hk:out[j].kind=3
   ·simp only[pkA,seval,Ks]
    obtain⟨a,b,pT⟩:=Ej hvj (by simp[hk])
    have eL:out[j].l=[a,b]:=by rw[pT];rfl
    have sU:jW out ((out.take j).foldl (jW out) out) out[j]=if dt (inP out) a=true then sA ((out.take j).foldl (jW out) out) b else(out.take j).foldl (jW out) out:=by
     rw[pT,Cc];simp[hk]
    have Kv:br a≤br out[j]∧br b≤br out[j]:=by rw[pT];simp only[br,cD];omega
    have ia0:∀ K,K (.c (.rp (tmC a) 0))→cC Tryz.prog 33 (.c (.sl (List.map tmC [a,b]))) (i64 0) K:=fun K hK=>
     dz dq rfl di (by decide) (by decide) (c:=tmC a) rfl (bI _) hK
    have ia1:∀ K,K (.c (.rp (tmC b) 0))→cC Tryz.prog 33 (.c (.sl (List.map tmC [a,b]))) (i64 1) K:=fun K hK=>
     dz dq rfl di (by decide) (by decide) (c:=tmC b) rfl (bI _) hK
    refine ia _ ?_
    simp only[Am,seval,tsC,eL]
    refine ia0 _ ?_
    simp only[pkA,seval,jT (bI _)]
    refine aD rfl (xn out (by omega) a (by omega)) (fun h=>by cases h) ?_
    simp only[pkA,seval]
    refine aV (fun hb=>?_) (fun hb=>?_)
    ·rw[if_pos hb] at sU
     simp only[pkA,seval,Ks]
     refine ia _ ?_
     simp only[Am,seval,tsC,eL]
     refine ia1 _ ?_
     simp only[pkA,seval,jT (bI _)]
     refine aD rfl (Ei ((out.take j).foldl (jW out) out) b (by omega) (by omega)) (fun h=>by cases h) ?_
     simp only[pkA,seval,tsC]
     refine AO (j+1) _ bF (by omega) (cj (by simp only[eW,aR,bb,q0 rP];rfl) (au _) (au _) ?_ trivial)
     simp[FL,ar,lG,rD,sU]
    ·rw[if_neg (by simp[hb])] at sU
     simp only[pkA,seval]
     refine AO (j+1) _ bF (by omega) (cj (by simp only[eW,aR,bb,q0 rP];rfl) (au _) (au _) ?_ trivial)
     simp[FL,ar,lG,rD,sU]
   ·exact absurd (by simpa using h3) hk
 ·have:j=out.length:=by simp at ga;omega
  subst this
  simp only[pkA]
  refine acj _ _ ?_
  rw[cx]
  have Kq:out.foldl (jW out) out=ln out:=rfl
  rw[Kq]
  simp only[ug,seval,Ks]
  refine aV (fun lx=>?_) (fun gv=>?_)
  ·have lx:(ln out).length=out.length:=by simp at lx;omega
   simp only[pkA,seval,Ks]
   refine dn _ ?_
   simp only[pkA]
   have Km:d4 I=out:=by
    rw[mL]
    cases n with
    |zero=>rfl
    |succ n=>unfold sF;rw[if_pos lx]
   rw[Km];rfl
  ·have gv:¬ (ln out).length=out.length:=fun h=>by rw[ap,ap,h] at gv;simp at gv
   have hr:=uL hv hC
   have fx:out.length≤(ln out).length:=ma hC.st.nodup fun x hx=>((qo hC.st).2 x).2 (.inl hx)
   obtain⟨m,rfl⟩:∃ m,n=m+1:=by
    cases n with
    |zero=>omega
    |succ m=>exact⟨m,rfl⟩
   have Km:d4 I=sF m (ln out):=by rw[mL];show(if _ then _ else _)=_;rw[if_neg gv]
   simp only[pkA,seval]
   refine ck (ln out,.c (tsC (ln out)),m) _ ⟨hr,.inr rfl,Km,by simp only;omega⟩ (by simp only;omega) (cj rfl (au _) (au _) ?_ trivial)
   simp[FL,tsC]
theorem Og (I:List Tm) (t:Tm) (hv:∀ t∈I,bT t=true) (hs:cD I≤20000) (ht:br t≤900000000):FnOK Tryz.prog G 27 [.c (tsC I),.agg (tmC t)] (bo (dt (inP (d4 I)) t)):=by
 have hq:cD I*cD I≤20000*20000:=Nat.mul_le_mul hs hs
 obtain⟨hC,_⟩:=k7 hv
 obtain⟨k1,k2,k3,k4⟩:=oD hv hC.st hC.kn
 refine bP (rs:=[.tmp 4]) false [] mixed Tryz.func27 rfl rfl rfl rfl (by kernel_rfl) (by simp) rfl rfl ?_
 simp only[pkA,seval]
 refine aD rfl (Of I hv hs) (fun h=>by cases h) ?_
 simp only[Am,seval]
 refine aD rfl (xn (d4 I) (by omega) t ht) (fun h=>by cases h) ?_
 simp only[pkA,seval]
theorem eqI (a b:Int):jA [.int] [cI a] [cI b]=some (decide (a=b)):=by
 show some (decide (a=b)&&true)=_;rw[iV]
def cS (b:By):C:=.lit (.string (bs8 b))
theorem eqS (a b:By):jA [.str] [cS a] [cS b]=some (decide (a=b)):=by
 show some (decide (bs8 a=bs8 b)&&true)=_;rw[iV,Wd]
def shC (k:Int):List C:=[cS (ue k),cI (max 0 (gi k)),.lit (.bool (qb k))]
def shV (k:Int):V:=.agg (shC k)
def shL:List (Int×Int):=[(1,1),(2,2),(3,3),(4,4),(5,5),(6,6)]
def shM:List V:=oZ i64 shV shL
theorem xo {l m:List (Int×Int)} {k:Int} {s:Vl.S} {i:Nat} {x:V} {K:Vl.S→Prop} (hb:s.bx i=oZ i64 shV l) (hi:i<s.nb) (hx:x=shV k) (hm:Rk l k k=m) (hK:K { s with bx:=up s.bx i (oZ i64 shV m) }):ib Tryz.prog 158 s (.mr i) (i64 k) x K:=by
 subst hx;subst hm
 exact GK (f:=i64) (h:=shV) (c:=fun a=>[cI a]) Ju rfl D8 rfl uI rfl Sf (fun _=>rfl) (fun _=>rfl) eqI rfl rfl hb hi hK
def shZ:V:=.agg [cS [],cI 0,.lit (.bool false)]
theorem SB {l:List (Int×Int)} {k:Int} {s:Vl.S} {i:Nat} {K:V→Prop} (hb:s.bx i=oZ i64 shV l) (hi:i<s.nb) (hK:K (((vJ l k).map shV).getD shZ)):ft Tryz.prog 158 s (.mr i) (i64 k) false K:=
 Jm (f:=i64) (h:=shV) (c:=fun a=>[cI a]) Ju rfl D8 rfl uI rfl Sf (fun _=>rfl) (fun _=>rfl) eqI hb hi hK
def SC (k:Int):Bool:=decide (1≤k)&&decide (k≤6)
theorem aaQ {k:Int}:vJ shL k=if SC k=true then some k else none:=by
 by_cases h:SC k=true
 ·rw[if_pos h]
  simp only[SC,aG,bi] at h
  have:k=1∨k=2∨k=3∨k=4∨k=5∨k=6:=by omega
  rcases this with rfl | rfl | rfl | rfl | rfl | rfl<;>decide
 ·rw[if_neg h]
  simp only[SC,aG,bi] at h
  have hn:k∉shL.map (·.1):=by simp[shL];omega
  have:=Rl (l:=shL) (a:=k)
  rw[fu hn] at this
  cases hg:vJ shL k with
  |none=>rfl
  |some x=>rw[hg] at this;cases this
theorem WW {m:Nat}:shM.all (fun x=>x.ltB m)=true:=GM (fun _=>rfl) (fun _=>rfl)
theorem WX {ρ:Nat→Nat}:shM.map (V.ren ρ)=shM:=GL (fun _=>rfl) (fun _=>rfl)
theorem Oh:FnB Tryz.prog G 148 [] [] (.mr 0) [shM]:=by
 refine mY (rs:=[.tmp 0]) (k:=0) [] mixed Tryz.func148 rfl rfl rfl rfl (by kernel_rfl) (by simp) rfl rfl rfl rfl (au _) ?_
 simp only[ug,seval,WH]
 refine xo (l:=[]) (m:=[(1,1)]) rfl (show 0<1 by decide) rfl rfl ?_
 simp only[ug,seval]
 refine xo (l:=[(1,1)]) (m:=[(1,1),(2,2)]) (by simp[]) (show 0<1 by decide) rfl rfl ?_
 simp only[ug,seval]
 refine xo (l:=[(1,1),(2,2)]) (m:=[(1,1),(2,2),(3,3)]) (by simp[]) (show 0<1 by decide) rfl rfl ?_
 simp only[ug,seval]
 refine xo (l:=[(1,1),(2,2),(3,3)]) (m:=[(1,1),(2,2),(3,3),(4,4)]) (by simp[]) (show 0<1 by decide) rfl rfl ?_
 simp only[ug,seval]
 refine xo (l:=[(1,1),(2,2),(3,3),(4,4)]) (m:=[(1,1),(2,2),(3,3),(4,4),(5,5)]) (by simp[]) (show 0<1 by decide) rfl rfl ?_
 simp only[ug,seval]
 refine xo (l:=[(1,1),(2,2),(3,3),(4,4),(5,5)]) (m:=shL) (by simp[]) (show 0<1 by decide) rfl rfl ?_
 simp only[pkA,seval]
 exact dJ [(0,.mr 0)] rfl (by simp only[eW,aR,bb,WW,aB,aK];rfl) (au _) (ae _) ⟨by simp[],trivial⟩ ⟨by simp[shM],trivial⟩ rfl
def Bi (p:Tm→Bool) (l:List Tm):Int:=match l.findIdx? p with
 |some i=>(i:Int)
 |none=>-1
theorem Lh {p:Tm→Bool} {l:List Tm} {i:Nat} (h:i<l.length) (hp:p l[i]=true) (hn:∀ j (hj:j<l.length),j<i→p l[j]=false):Bi p l=(i:Int):=by
 have:l.findIdx? p=some i:=bS.2 ⟨h,hp,fun j hj=>by rw[hn j (by omega) hj];simp⟩
 unfold Bi;rw[this]
theorem Cd {p:Tm→Bool} {l:List Tm} (hn:∀ j (hj:j<l.length),p l[j]=false):Bi p l=-1:=by
 have:l.findIdx? p=none:=dH.2 fun x hx=>by
  obtain⟨j,hj,rfl⟩:=iJ hx
  exact hn j hj
 unfold Bi;rw[this]
theorem SD {p:Tm→Bool} {l:List Tm}:decide (Bi p l≥0)=l.any p:=by
 unfold Bi
 cases h:l.findIdx? p with
 |none=>
  have:=dH.1 h
  have h2:l.any p=false:=by rw[List.any_eq_false];exact fun x hx=>by rw[this x hx];simp
  rw[h2];decide
 |some i=>
  obtain⟨h1,h2,_⟩:=bS.1 h
  have h2:l.any p=true:=dp.2 ⟨_,aF h1,h2⟩
  rw[h2];simp
structure Ask (G:Gl) (Y:List (List V)) (f:V) (R:Tm→Prop) (p:Tm→Bool) where
 g:FuncId
 caps:List V
 eq:f=.clo (.func g) [] caps
 lt:∀ x∈caps,x.ltP Y.length
 ltY:ltL Y.length Y
 fz:caps.map V.fz=caps
 ok:∀ t,R t→FnB Tryz.prog G g (.agg (tmC t)::caps) Y (bo (p t)) Y
theorem Ce {Y:List (List V)} {g:FuncId} {f:V} {args all cargs:List V} {fr:Nat→V} {K:S→V→Prop} {r:V} (hc:ew f args=some (g,all)) (hf:FnB Tryz.prog G g cargs Y r Y) (dh:all.map V.fz=cargs) (bF:ltL Y.length Y) (hr:∀ ρ,r.ren ρ=r)
 (hK:K ⟨fr,bxs Y,kx Y.length 0⟩ r):vcallB Tryz.prog G ⟨fr,bxs Y,kx Y.length 0⟩ f args K:=by
 have:=NK (Y:=Y) (Y':=Y) (ls:=[]) (rest:=[]) (n:=0) (k:=Y.length) (fr:=fr) (K:=K) hc (by simpa using hf) dh rfl rfl bF rfl hr (by simpa using hK)
 simpa using this
theorem SG {Y:List (List V)} {l:List (Nat×V)} {fr:Nat→V} (bF:ltL Y.length Y) (hl:∀ q∈l,q.2.lt (kx Y.length 0)) (h1:FL l fr):S.Le (kx Y.length 0) (hdS l Y) ⟨fr,bxs Y,kx Y.length 0⟩:=by
 have:=ac6 (Y:=Y) (ls:=[]) (rest:=[]) (k:=Y.length) (m:=0) (n:=0) (j:=0) (l:=l) (fr:=fr) rfl bF rfl rfl (fun b hb=>by cases hb) hl h1 (ae _)
 simpa using this
theorem Ek {Y:List (List V)} {e:VE} {r:V} {t:Nat} {fr:Nat→V} (he:BP e=true) (bF:ltL Y.length Y) (hr:r.lt (kx Y.length 0)) (Ij:pX Tryz.prog false (hdS [(t,r)] Y) r [.tmp t]) (h:fr t=r):uA Tryz.prog (kx Y.length 0) r Y [.tmp t] e ⟨fr,bxs Y,kx Y.length 0⟩:=by
 have:=ac7 (P:=Tryz.prog) (Y:=Y) (ls:=[]) (rest:=[]) (k:=Y.length) (m:=0) (n:=0) (e:=e) (r:=r) (rs:=[.tmp t]) (fr:=fr) [(t,r)] he rfl bF rfl rfl (fun b hb=>by cases hb) (by simpa using hr) (by simp[FL,h]) (by simpa using Ij)
 simpa using this
theorem El {Y:List (List V)} {f:V} {R:Tm→Prop} {p:Tm→Bool} (h:Ask G Y f R p) (l:List Tm) (hl:∀ t∈l,R t) (hm:l.length≤1000000000):FnB Tryz.prog G 95 [.c (tsC l),f] Y (i64 (Bi p l)) Y:=by
 obtain⟨g,caps,rfl,mL,Br,hcf,dI⟩:=h
 have Ui:(V.clo (.func g) [] caps).lt (kx Y.length 0):=⟨fun x hx=>(by cases hx),mL⟩
 have hcz:(V.clo (.func g) [] caps).fz=V.clo (.func g) [] caps:=rfl
 have key:FnB Tryz.prog G 95 [.c (tsC l),.clo (.func g) [] caps] (Y++[]) (i64 (Bi p l)) (Y++[]):=by
  refine K1 (k:=Y.length) (m:=0) (rs:=[.tmp 4]) [1000016] mixed Tryz.func95 rfl rfl rfl rfl (by kernel_rfl) (by simp) rfl rfl rfl Br rfl (fun b hb=>by cases hb) (fun x hx=>?_) ?_
  ·simp only[bw,eO,kT] at hx
   rcases hx with rfl | rfl
   ·trivial
   ·exact Ui
  simp only[ug,seval,tsC,eA]
  refine cF (fun i:Nat=>hdS [(0,.c (.sl (l.map tmC))),(1,.clo (.func g) [] caps),(7,i64 l.length),(8,i64 i)] Y) (fun i=>l.length - i) (fun i=>i≤l.length∧∀ j (h:j<l.length),j<i→p l[j]=false) 0 ⟨au _,fun j h h'=>absurd h' (Nat.not_lt_zero _)⟩ ?_ ?_
  ·exact SG Br (by simp[V.lt];exact mL) (by simp[FL,ar])
  rintro i ⟨hi,fU⟩ R ck cG dn
  have ce:Y.length=kx Y.length 0:=rfl
  simp only[pkA,seval]
  refine aV (fun bF=>?_) (fun ga=>?_)
  ·have bF:i<l.length:=by simpa using bF
   have hw:=fa (n:=(i:Int)+1) (k:=i+1) (by omega) (by omega)
   simp only[pkA,seval,hcz]
   refine dz dq rfl di (by decide) (aI i) (c:=tmC l[i]) (by simp[bF]) (bI _) ?_
   simp only[pkA,seval,jT (bI _)]
   refine Ce rfl (dI _ (hl _ (aF bF))) (by simp[V.fz,hcf]) Br (fun _=>rfl) ?_
   simp only[pkA,seval]
   refine aV (fun hy=>?_) (fun hn=>?_)
   ·simp only[pkA,seval]
    refine dn _ ?_
    simp only[pkA]
    rw[Lh bF hy fU]
    exact Ek rfl Br trivial (by simp[hdS,frs,fW,up]) (by simp[])
   ·simp only[pkA,seval]
    refine ck (i+1) _ ⟨bF,fun j h hj=>?_⟩ (by omega) (SG Br (by simp[V.lt];exact mL) (by simp[FL,ar,hw]))
    rcases cN j i with h1 | h1
    ·exact fU j h h1
    ·have:j=i:=by omega
     subst this;exact hn
  ·have:i=l.length:=by simp at ga;omega
   subst this
   simp only[pkA]
   refine cG _ _ ?_
   simp only[pkA,seval]
   rw[Cd (fun j h=>fU j h h)]
   exact Ek rfl Br trivial (by simp[hdS,frs,fW,up]) (by simp[])
 simpa using key
theorem yD {Y:List (List V)} {f:V} {R:Tm→Prop} {p:Tm→Bool} (h:Ask G Y f R p) (l:List Tm) (hl:∀ t∈l,R t) (hm:l.length≤1000000000):FnB Tryz.prog G 50 [.c (tsC l),f] Y (bo (l.any p)) Y:=by
 have XJ:=El h l hl hm
 obtain⟨g,caps,rfl,mL,Br,hcf,dI⟩:=h
 have Ui:(V.clo (.func g) [] caps).lt (kx Y.length 0):=⟨fun x hx=>(by cases hx),mL⟩
 have hcz:(V.clo (.func g) [] caps).fz=V.clo (.func g) [] caps:=rfl
 have key:FnB Tryz.prog G 50 [.c (tsC l),.clo (.func g) [] caps] (Y++[]) (bo (l.any p)) (Y++[]):=by
  refine K1 (k:=Y.length) (m:=0) (rs:=[.tmp 4]) [1000007] mixed Tryz.func50 rfl rfl rfl rfl (by kernel_rfl) (by simp) rfl rfl rfl Br rfl (fun b hb=>by cases hb) (fun x hx=>?_) ?_
  ·simp only[bw,eO,kT] at hx
   rcases hx with rfl | rfl
   ·trivial
   ·exact Ui
  simp only[pkA,seval,tsC,eA,hcz]
  refine Ce rfl XJ (by simp[V.fz,tsC]) Br (fun _=>rfl) ?_
  simp only[pkA,seval,SD]
  exact Ek rfl Br trivial (by simp[hdS,frs,fW,up]) (by simp[])
 simpa using key
