/- Layer 15: Compare. -/
import Derived.Test.YtegbpjodbjhjeaaGreatDoorVlT1
import Derived.Test.YtegbpjodbjhjeaaGreatDoorVlWord
set_option linter.all false
namespace Go.Proofs.YtegbpjodbjhjeaaGreatDoor
open Go Go.Vl
variable {G:Gl}
set_option maxRecDepth 4000
theorem Da {l m:List Tm} {i:Nat} (h1:i<l.length) (h2:i<m.length):l8 (l.drop i) (m.drop i)=orJ (jB l[i] m[i]) (l8 (l.drop (i+1)) (m.drop (i+1))):=by
 rw[bX h1,bX h2];rfl
theorem H4 {l m:List Tm}:l8 (l.drop m.length) []=if m.length<l.length then 1 else 0:=by
 rcases ct m.length l.length with h | h
 ·rw[bX h,if_pos h];rfl
 ·rw[i7 h,if_neg (by omega)];rfl
theorem yq {m:List Tm}:l8 [] m=if 0<m.length then -1 else 0:=by cases m<;>simp[l8]
def Db:=jj @pkA @ptA
def oI:=jj @pkA (jj @ptA @pkT)
set_option maxHeartbeats 2000000 in
theorem Bg (l m:List Tm) (hl:l.length≤1000000000) (hm:m.length≤1000000000) (ih:∀ t∈l,∀ u∈m,FnOK Tryz.prog G 91 [.agg (tmC t),.agg (tmC u)] (i64 (jB t u))) :
 FnOK Tryz.prog G 121 [.c (tsC l),.c (tsC m),.c (.fn (.func 91) [] [])] (i64 (l8 l m)):=by
 refine bE (rs:=[.tmp 6]) false [] mixed Tryz.func121 rfl rfl rfl rfl (by kernel_rfl) (by simp) rfl rfl ?_
 simp only[Db,seval,tsC]
 refine ck (fun i:Nat=>hdS [(0,.c (.sl (l.map tmC))),(1,.c (.sl (m.map tmC))),(2,.c (.fn (.func 91) [] [])),(11,.c (.sl (l.map tmC))),(12,i64 l.length),(13,i64 i)] []) (fun i=>l.length - i) (fun i=>i≤l.length∧i≤m.length∧l8 l m=l8 (l.drop i) (m.drop i)) 0 ⟨ar _,ar _,rfl⟩ ?_ ?_
 ·exact bT rfl (ar _) (ae _) (by simp[FL,au]) trivial
 rintro i ⟨hi,him,he⟩ R bS cd cX
 simp only[pkA,seval]
 refine aL (fun bB=>?_) (fun fA=>?_)
 ·have bB:i<l.length:=by simpa using bB
  simp only[pkA,seval]
  refine df du rfl dl (by decide) (aD i) (c:=tmC l[i]) (by simp[bB]) (bG _) ?_
  simp only[oI,seval,jA (bG _)]
  refine aL (fun fA=>?_) (fun sr=>?_)
  ·have hml:i=m.length:=by simp at fA;omega
   simp only[pkA,seval]
   refine cX _ ?_
   simp only[pkA,seval]
   have:m.drop i=[]:=i7 (by omega)
   rw[he,this,hml,H4,if_pos (by omega)]
  ·have sr:i<m.length:=by simp at sr;omega
   simp only[pkA,seval]
   refine df du rfl dl (by decide) (aD i) (c:=tmC m[i]) (by simp[sr]) (bG _) ?_
   simp only[oI,seval,jA (bG _)]
   refine ay rfl (ih l[i] (aF bB) m[i] (aF sr)) (fun h=>by cases h) ?_
   have e1:=Da bB sr
   have ll:=ei (n:=(i:Int)+1) (k:=i+1) (by omega) (by omega)
   simp only[pkA,seval]
   refine aL (fun fO=>?_) (fun kR=>?_)
   ·have fO:¬ jB l[i] m[i]=0:=by simpa using fO
    simp only[pkA,seval]
    refine cX _ ?_
    simp only[pkA,seval]
    rw[he,e1,orJ,if_neg fO]
   ·have kR:jB l[i] m[i]=0:=by simpa using kR
    simp only[pkA,seval]
    refine bS (i+1) _ ⟨bB,sr,?_⟩ (by omega) (bT rfl (ar _) (ar _) ?_ trivial)
    ·rw[he,e1,orJ,if_pos kR]
    ·simp[FL,au,ll]
 ·have:i=l.length:=by simp at fA;omega
  subst this
  simp only[pkA]
  refine cd _ _ ?_
  simp only[Db,seval]
  have e0:l.drop l.length=[]:=fp
  refine aL (fun bB=>?_) (fun fA=>?_)
  ·have bB:l.length<m.length:=by simpa using bB
   simp only[pkA,seval]
   rw[he,e0,yq,if_pos (by simp;omega)]
  ·have fA:¬ l.length<m.length:=by simpa using fA
   simp only[pkA,seval]
   rw[he,e0,yq,if_neg (by simp;omega)]
set_option maxHeartbeats 2000000 in
theorem vJ:∀ t u:Tm,bq t≤1000000000→bq u≤1000000000→FnOK Tryz.prog G 91 [.agg (tmC t),.agg (tmC u)] (i64 (jB t u)):=by
 refine Tm.ind fun k n l ih=>?_
 intro u hs hu
 obtain⟨k',n',l'⟩:=u
 have dZ:cF l+1≤1000000000:=by simp only[bq] at hs;omega
 have eD:cF l'+1≤1000000000:=by simp only[bq] at hu;omega
 have LG:=jh l
 have aiT:=jh l'
 refine bE (rs:=[.tmp 4]) false [] mixed Tryz.func91 rfl rfl rfl rfl (by kernel_rfl) (by simp) rfl rfl ?_
 simp only[oI,seval]
 refine ay rfl (nX _ _) (fun _=>rfl) ?_
 simp only[oI,seval]
 refine ay rfl (nX _ _) (fun _=>rfl) ?_
 simp only[oI,seval]
 refine ay rfl (Bg l l' (by omega) (by omega) (fun t ht u hu=>ih t ht u (by have:=fx ht;omega) (by have:=fx hu;omega))) (fun _=>rfl) ?_
 simp only[Db,seval]
 refine ay rfl (Zt [l7 k k',l7 n n',l8 l l'] (by simp)) (fun _=>rfl) ?_
 simp only[pkA,seval]
 rw[ag3];rfl
set_option maxHeartbeats 4000000 in
theorem ko:∀ t u:Tm,bq t≤1000000000→bq u≤1000000000→FnOK Tryz.prog G 28 [.agg (tmC t),.agg (tmC u)] (i64 (jB t u)):=by
 refine Tm.ind fun k n l ih=>?_
 intro u hs hu
 obtain⟨k',n',m⟩:=u
 have dZ:cF l+1≤1000000000:=by simp only[bq] at hs;omega
 have eD:cF m+1≤1000000000:=by simp only[bq] at hu;omega
 have LG:=jh l
 have aiT:=jh m
 have ec:jB (.mk k n l) (.mk k' n' m)=orJ (l7 k k') (orJ (l7 n n') (l8 l m)):=rfl
 refine bE (rs:=[.tmp 4]) false [] mixed Tryz.func28 rfl rfl rfl rfl (by kernel_rfl) (by simp) rfl rfl ?_
 simp only[oI,seval]
 refine aL (fun hk=>?_) (fun hk=>?_)
 ·have hk:¬ k=k':=by simpa using hk
  simp only[oI,seval]
  refine aL (fun h=>?_) (fun h=>?_)
  ·have h:k<k':=by simpa using h
   simp only[pkA,seval]
   rw[ec];simp[orJ,l7,h]
  ·have h:¬ k<k':=by simpa using h
   simp only[pkA,seval]
   rw[ec];simp[orJ,l7,h];omega
 have hk:k=k':=by simpa using hk
 subst hk
 simp only[oI,seval]
 refine aL (fun hn=>?_) (fun hn=>?_)
 ·have hn:¬ n=n':=by simpa using hn
  simp only[oI,seval]
  refine aL (fun h=>?_) (fun h=>?_)
  ·have h:n<n':=by simpa using h
   simp only[pkA,seval]
   rw[ec];simp[orJ,l7,h]
  ·have h:¬ n<n':=by simpa using h
   simp only[pkA,seval]
   rw[ec];simp[orJ,l7,h];omega
 have hn:n=n':=by simpa using hn
 subst hn
 have ec':jB (.mk k n l) (.mk k n m)=l8 l m:=by rw[ec];simp[orJ,l7]
 simp only[pkA,seval]
 refine ck (fun i:Nat=>hdS [(2,.bp 0 0),(3,.bp 1 0),(5,i64 i)] [(tmC (.mk k n l)).map .c,(tmC (.mk k n m)).map .c]) (fun i=>l.length - i) (fun i=>i≤l.length∧i≤m.length∧l8 l m=l8 (l.drop i) (m.drop i)) 0 ⟨ar _,ar _,rfl⟩ ?_ ?_
 ·exact bT (by simp only[eQ,aN,aX,jD];rfl) (ar _) (ae _) (by simp[FL,au]) ⟨by simp[au],by simp[],trivial⟩
 rintro i ⟨hi,him,he⟩ R bS cd cX
 have LA:(i=l.length∨i=m.length)→l8 l m=if l.length<m.length then -1 else if m.length<l.length then 1 else 0:=by
  rintro(h | h)
  ·rw[he,h,fp,yq,di]
   by_cases h2:l.length<m.length
   ·rw[if_pos (by omega),if_pos h2]
   ·rw[if_neg (by omega),if_neg h2,if_neg (by omega)]
  ·rw[he,h,fp,H4]
   by_cases h2:m.length<l.length
   ·rw[if_pos h2,if_neg (by omega)]
   ·rw[if_neg h2,if_neg (by omega)]
 have aam:(i=l.length∨i=m.length)→∀ fr,fr 2=.bp 0 0→fr 3=.bp 1 0→R (.exit 0) ⟨fr,bxs [(tmC (.mk k n l)).map .c,(tmC (.mk k n m)).map .c],2⟩:=by
  intro h fr f2 f3
  have hf:=LA h
  refine cd _ _ ?_
  simp only[oI,seval,tsC,f2,f3]
  refine aL (fun bB=>?_) (fun fA=>?_)
  ·have bB:l.length<m.length:=by simpa using bB
   simp only[pkA,seval]
   rw[ec',hf,if_pos bB]
  ·have fA:¬ l.length<m.length:=by simpa using fA
   simp only[oI,seval,tsC,f2,f3]
   refine aL (fun bB=>?_) (fun VP=>?_)
   ·have bB:m.length<l.length:=by simpa using bB
    simp only[pkA,seval]
    rw[ec',hf,if_neg fA,if_pos bB]
   ·have VP:¬ m.length<l.length:=by simpa using VP
    simp only[pkA,seval]
    rw[ec',hf,if_neg fA,if_neg VP]
 simp only[oI,seval,tsC]
 refine iK (fun bB=>?_) (fun fA=>?_)
 ·have bB:i<l.length:=by simpa using bB
  simp only[oI,seval,tsC]
  refine aL (fun sr=>?_) (fun fA=>?_)
  ·have sr:i<m.length:=by simpa using sr
   simp only[oI,seval,tsC]
   refine df du rfl dl (by decide) (aD i) (c:=tmC l[i]) (by simp[bB]) (bG _) ?_
   simp only[oI,seval,tsC,jA (bG _)]
   refine df du rfl dl (by decide) (aD i) (c:=tmC m[i]) (by simp[sr]) (bG _) ?_
   simp only[pkA,seval,jA (bG _)]
   refine ay rfl (ih l[i] (aF bB) m[i] (by have:=fx (aF bB);omega) (by have:=fx (aF sr);omega)) (fun h=>by cases h) ?_
   have e1:=Da bB sr
   have ll:=ei (n:=(i:Int)+1) (k:=i+1) (by omega) (by omega)
   simp only[pkA,seval]
   refine aL (fun fO=>?_) (fun kR=>?_)
   ·have fO:¬ jB l[i] m[i]=0:=by simpa using fO
    simp only[pkA,seval]
    refine cX _ ?_
    simp only[pkA,seval]
    rw[ec',he,e1,orJ,if_neg fO]
   ·have kR:jB l[i] m[i]=0:=by simpa using kR
    simp only[pkA,seval]
    refine bS (i+1) _ ⟨bB,sr,?_⟩ (by omega) (bT (by simp only[eQ,aN,aX,jD];rfl) (ar _) (ae _) ?_ ⟨by simp[bxs],by simp[bxs],trivial⟩)
    ·rw[he,e1,orJ,if_pos kR]
    ·simp[FL,au,ll]
  ·have fA:i=m.length:=by simp[] at fA;omega
   simp only[pkA]
   exact aam (.inr fA) _ (by simp[au]) (by simp[au])
 ·have fA:i=l.length:=by simp[] at fA;omega
  simp only[pkA,seval]
  exact aam (.inl fA) _ (by simp[au]) (by simp[au])
theorem X9 {l m:List Tm} {i:Nat} (h1:i<l.length) (h2:i<m.length):(l.drop i=m.drop i)↔(l[i]=m[i]∧l.drop (i+1)=m.drop (i+1)):=by
 rw[bX h1,bX h2,bP]
set_option maxHeartbeats 4000000 in
theorem H5 (l m:List Tm) (hs:cF l≤1000000000) (xx:cF m≤1000000000):FnOK Tryz.prog G 34 [.c (tsC l),.c (tsC m)] (bo (decide (l=m))):=by
 have LG:=jh l
 refine bE (rs:=[.tmp 4]) false [] mixed Tryz.func34 rfl rfl rfl rfl (by kernel_rfl) (by simp) rfl rfl ?_
 simp only[Db,seval,tsC]
 refine aL (fun fO=>?_) (fun kR=>?_)
 ·have fO:¬ l.length=m.length:=fun h=>by simp[h] at fO
  simp only[pkA,seval]
  have:¬ l=m:=fun h=>fO (by rw[h])
  rw[cR this]
 have kR:l.length=m.length:=by simp at kR;omega
 simp only[pkA,seval]
 refine ck (fun i:Nat=>hdS [(0,.c (.sl (l.map tmC))),(1,.c (.sl (m.map tmC))),(5,i64 i)] []) (fun i=>l.length - i) (fun i=>i≤l.length∧(l=m↔l.drop i=m.drop i)) 0 ⟨ar _,Iff.rfl⟩ ?_ ?_
 ·exact bT rfl (ar _) (ae _) (by simp[FL,au]) trivial
 rintro i ⟨hi,he⟩ R bS cd cX
 simp only[Db,seval]
 refine aL (fun bB=>?_) (fun fA=>?_)
 ·have bB:i<l.length:=by simpa using bB
  have sr:i<m.length:=by omega
  simp only[pkA,seval]
  refine df du rfl dl (by decide) (aD i) (c:=tmC l[i]) (by simp[bB]) (bG _) ?_
  simp only[pkA,seval,jA (bG _)]
  refine df du rfl dl (by decide) (aD i) (c:=tmC m[i]) (by simp[sr]) (bG _) ?_
  simp only[pkA,seval,jA (bG _)]
  have q1:=fx (aF bB)
  have q2:=fx (aF sr)
  refine ay rfl (ko l[i] m[i] (by omega) (by omega)) (fun h=>by cases h) ?_
  have e1:=X9 bB sr
  have ll:=ei (n:=(i:Int)+1) (k:=i+1) (by omega) (by omega)
  simp only[pkA,seval]
  refine aL (fun fO=>?_) (fun na=>?_)
  ·have fO:¬ jB l[i] m[i]=0:=by simpa using fO
   rw[gB] at fO
   simp only[pkA,seval]
   refine cX _ ?_
   simp only[pkA,seval]
   have:¬ l=m:=fun h=>fO (e1.1 (he.1 h)).1
   rw[cR this]
  ·have na:jB l[i] m[i]=0:=by simpa using na
   rw[gB] at na
   simp only[pkA,seval]
   refine bS (i+1) _ ⟨bB,?_⟩ (by omega) (bT rfl (ar _) (ar _) ?_ trivial)
   ·rw[he,e1];simp[na]
   ·simp[FL,au,ll]
 ·have:i=l.length:=by simp at fA;omega
  subst this
  simp only[pkA]
  refine cd _ _ ?_
  simp only[pkA,seval]
  have:l=m:=he.2 (by rw[fp,kR,fp])
  rw[cZ this]
theorem Cj {l:List Tm} {t:Tm} {i:Nat} (h:i<l.length):t∈l.drop i↔(l[i]=t∨t∈l.drop (i+1)):=by
 rw[bX h,bu]
 constructor<;>(rintro(h | h);exact .inl h.symm;exact .inr h)
set_option maxHeartbeats 4000000 in
theorem Ya (l:List Tm) (t:Tm) (hs:cF l≤1000000000) (ht:bq t≤1000000000):FnOK Tryz.prog G 104 [.c (tsC l),.agg (tmC t)] (bo (decide (t∈l))):=by
 have LG:=jh l
 refine bE (rs:=[.tmp 4]) false [] mixed Tryz.func104 rfl rfl rfl rfl (by kernel_rfl) (by simp) rfl rfl ?_
 simp only[pkA,seval,tsC]
 refine ck (fun i:Nat=>hdS [(0,.c (.sl (l.map tmC))),(3,.bp 0 0),(5,i64 i)] [(tmC t).map .c]) (fun i=>l.length - i) (fun i=>i≤l.length∧(t∈l↔t∈l.drop i)) 0 ⟨ar _,Iff.rfl⟩ ?_ ?_
 ·exact bT (by simp only[eQ,aN,aX,jD];rfl) (ar _) (ae _) (by simp[FL,au]) ⟨by simp[],trivial⟩
 rintro i ⟨hi,he⟩ R bS cd cX
 simp only[Db,seval]
 refine aL (fun bB=>?_) (fun fA=>?_)
 ·have bB:i<l.length:=by simpa using bB
  simp only[pkA,seval]
  refine df du rfl dl (by decide) (aD i) (c:=tmC l[i]) (by simp[bB]) (bG _) ?_
  simp only[oI,seval,jA (bG _)]
  have q1:=fx (aF bB)
  refine ay rfl (ko l[i] t (by omega) ht) (fun h=>by cases h) ?_
  have e1:=Cj (t:=t) bB
  have ll:=ei (n:=(i:Int)+1) (k:=i+1) (by omega) (by omega)
  simp only[pkA,seval]
  refine aL (fun kR=>?_) (fun fO=>?_)
  ·have kR:jB l[i] t=0:=by simpa using kR
   rw[gB] at kR
   simp only[pkA,seval]
   refine cX _ ?_
   simp only[pkA,seval]
   rw[cZ (he.2 (e1.2 (.inl kR)))]
  ·have fO:¬ jB l[i] t=0:=by simpa using fO
   rw[gB] at fO
   simp only[pkA,seval]
   refine bS (i+1) _ ⟨bB,?_⟩ (by omega) (bT (by simp only[eQ,aN,aX,jD];rfl) (ar _) (ae _) ?_ ⟨by simp[bxs],trivial⟩)
   ·rw[he,e1];simp[fO]
   ·simp[FL,au,ll]
 ·have:i=l.length:=by simp at fA;omega
  subst this
  simp only[pkA]
  refine cd _ _ ?_
  simp only[pkA,seval]
  have:¬ t∈l:=fun h=>by have:=he.1 h;rw[fp] at this;cases this
  rw[cR this]
theorem aeD {a b:B} {K:V→Prop} (h:a.length+b.length≤9223372036854775807) (hK:K (sv (a++b))):zZ .add (bs8 a) (bs8 b) K:=by
 unfold zZ
 have e:bs8 a++bs8 b=bs8 (a++b):=by unfold bs8;apply ByteArray.ext;simp
 rw[e]
 exact⟨by simpa[bs8,ByteArray.size] using h,hK⟩
theorem Dc:∀ (f g n:Nat),n<10 ^ f→n<10 ^ g→0<f→0<g→vH f n=vH g n
 |0,_,_,_,_,h,_=>absurd h (Nat.lt_irrefl _)
 |_,0,_,_,_,_,h=>absurd h (Nat.lt_irrefl _)
 |f+1,g+1,n,hf,hg,_,_=>by
  unfold vH
  split
  ·rfl
  ·rename_i hn
   rw[Nat.pow_succ] at hf hg
   have hf0:0<f:=by
    rcases Nat.eq_zero_or_pos f with h | h
    ·subst h;simp at hf;omega
    ·exact h
   have hg0:0<g:=by
    rcases Nat.eq_zero_or_pos g with h | h
    ·subst h;simp at hg;omega
    ·exact h
   rw[Dc f g (n / 10) (by omega) (by omega) hf0 hg0]
theorem aeE:(10:Nat) ^ 20=100000000000000000000:=by decide
theorem aeF:(10:Nat) ^ 19=10000000000000000000:=by decide
theorem Yb {n:Nat} (h:n<10000000000000000000):dec n=if n<10 then[UInt8.ofNat (48+n)] else dec (n / 10)++[UInt8.ofNat (48+n % 10)]:=by
 have e:dec n=if n<10 then[UInt8.ofNat (48+n)] else vH 19 (n / 10)++[UInt8.ofNat (48+n % 10)]:=rfl
 rw[e]
 split
 ·rfl
 ·unfold dec
  rw[Dc 19 20 (n / 10) (by rw[aeF];omega) (by rw[aeE];omega) (by decide) (by decide)]
theorem H6:∀ (f n:Nat),(vH f n).length≤f
 |0,_=>ae _
 |f+1,n=>by
  unfold vH
  split
  ·simp
  ·have:=H6 f (n / 10)
   simp;omega
theorem Ms (n:Nat):(dec n).length≤20:=H6 20 n
theorem Dd (k n:Int):(nh k n).length≤24:=by
 unfold nh
 rw[ax]
 have h1:(u3 k).length≤4:=by
  unfold u3
  repeat' split
  all_goals simp
 have h2:(if qy k=true then dec n.toNat else[]).length≤20:=by split;exact Ms _;simp
 omega
theorem yr:∀ l:List By,(mV l).length≤(l.map fun x=>x.length+1).sum
 |[]=>by simp[mV]
 |[a]=>by simp[mV]
 |a::b::l=>by
  have:=yr (b::l)
  simp only[mV,ax,aC,aO,List.sum_cons] at *
  omega
theorem De {l:List Tm} (h:∀ t∈l,(jq t).length+1≤31*bq t):((jb l).map fun x=>x.length+1).sum≤31*cF l:=by
 induction l with
 |nil=>simp[jb]
 |cons t l ih=>
  have h1:=h t (aW ..)
  have h2:=ih fun t ht=>h t (aR _ ht)
  simp only[jb,aO,List.sum_cons,cF]
  omega
theorem Pk:∀ t:Tm,(jq t).length+1≤31*bq t:=by
 refine Tm.ind fun k n l ih=>?_
 have h1:=Dd k n
 have h2:=yr (jb l)
 have h3:=De ih
 simp only[jq,bq,ax]
 split
 ·simp;omega
 ·simp only[aC,ax,aH];omega
theorem Df (l:List Tm) (i:Nat):(mV (jb (l.take i))).length≤31*cF l:=by
 have h1:=yr (jb (l.take i))
 have h2:=De (l:=l.take i) fun t _=>Pk t
 have h3:=H3 l i
 omega
