/- Layer 15: Compare. -/
import Derived.Test.YtegbpjodbjhjeaaGreatDoorVlT1
import Derived.Test.YtegbpjodbjhjeaaGreatDoorVlWord
set_option maxHeartbeats 4000000
set_option linter.all false
namespace Go.Proofs.YtegbpjodbjhjeaaGreatDoor
open Go Go.Vl
variable {G:Gl}
set_option maxRecDepth 4000
theorem B5 {l m:List Tm} {i:Nat} (h1:i<l.length) (h2:i<m.length):lM (l.drop i) (m.drop i)=orJ (jK l[i] m[i]) (lM (l.drop (i+1)) (m.drop (i+1))):=by
 rw[cE h1,cE h2];rfl
theorem GY {l m:List Tm}:lM (l.drop m.length) []=if m.length<l.length then 1 else 0:=by
 rcases cN m.length l.length with h | h
 ·rw[cE h,if_pos h];rfl
 ·rw[iP h,if_neg (by omega)];rfl
theorem xl {m:List Tm}:lM [] m=if 0<m.length then -1 else 0:=by cases m<;>simp[lM]
def Ld:=jj @pkA @ptA
def nX:=jj @pkA (jj @ptA @pkT)
theorem Aj (l m:List Tm) (hl:l.length≤1000000000) (hm:m.length≤1000000000) (ih:∀ t∈l,∀ u∈m,FnOK Tryz.prog G 91 [.agg (tmC t),.agg (tmC u)] (i64 (jK t u))) :
 FnOK Tryz.prog G 121 [.c (tsC l),.c (tsC m),.c (.fn (.func 91) [] [])] (i64 (lM l m)):=by
 refine bP (rs:=[.tmp 6]) false [] mixed Tryz.func121 rfl rfl rfl rfl (by kernel_rfl) (by simp) rfl rfl ?_
 simp only[Ld,seval,tsC]
 refine cF (fun i:Nat=>hdS [(0,.c (.sl (l.map tmC))),(1,.c (.sl (m.map tmC))),(2,.c (.fn (.func 91) [] [])),(11,.c (.sl (l.map tmC))),(12,i64 l.length),(13,i64 i)] []) (fun i=>l.length - i) (fun i=>i≤l.length∧i≤m.length∧lM l m=lM (l.drop i) (m.drop i)) 0 ⟨au _,au _,rfl⟩ ?_ ?_
 ·exact cj rfl (au _) (ae _) (by simp[FL,ar]) trivial
 rintro i ⟨hi,him,he⟩ R ck cG dn
 simp only[pkA,seval]
 refine aV (fun bF=>?_) (fun ga=>?_)
 ·have bF:i<l.length:=by simpa using bF
  simp only[pkA,seval]
  refine dz dq rfl di (by decide) (aI i) (c:=tmC l[i]) (by simp[bF]) (bI _) ?_
  simp only[nX,seval,jT (bI _)]
  refine aV (fun ga=>?_) (fun tP=>?_)
  ·have hml:i=m.length:=by simp at ga;omega
   simp only[pkA,seval]
   refine dn _ ?_
   simp only[pkA,seval]
   have:m.drop i=[]:=iP (by omega)
   rw[he,this,hml,GY,if_pos (by omega)]
  ·have tP:i<m.length:=by simp at tP;omega
   simp only[pkA,seval]
   refine dz dq rfl di (by decide) (aI i) (c:=tmC m[i]) (by simp[tP]) (bI _) ?_
   simp only[nX,seval,jT (bI _)]
   refine aD rfl (ih l[i] (aF bF) m[i] (aF tP)) (fun h=>by cases h) ?_
   have e1:=B5 bF tP
   have lG:=fa (n:=(i:Int)+1) (k:=i+1) (by omega) (by omega)
   simp only[pkA,seval]
   refine aV (fun gv=>?_) (fun lx=>?_)
   ·have gv:¬ jK l[i] m[i]=0:=by simpa using gv
    simp only[pkA,seval]
    refine dn _ ?_
    simp only[pkA,seval]
    rw[he,e1,orJ,if_neg gv]
   ·have lx:jK l[i] m[i]=0:=by simpa using lx
    simp only[pkA,seval]
    refine ck (i+1) _ ⟨bF,tP,?_⟩ (by omega) (cj rfl (au _) (au _) ?_ trivial)
    ·rw[he,e1,orJ,if_pos lx]
    ·simp[FL,ar,lG]
 ·have:i=l.length:=by simp at ga;omega
  subst this
  simp only[pkA]
  refine cG _ _ ?_
  simp only[Ld,seval]
  have e0:l.drop l.length=[]:=i7
  refine aV (fun bF=>?_) (fun ga=>?_)
  ·have bF:l.length<m.length:=by simpa using bF
   simp only[pkA,seval]
   rw[he,e0,xl,if_pos (by simp;omega)]
  ·have ga:¬ l.length<m.length:=by simpa using ga
   simp only[pkA,seval]
   rw[he,e0,xl,if_neg (by simp;omega)]
theorem uM:∀ t u:Tm,br t≤1000000000→br u≤1000000000→FnOK Tryz.prog G 91 [.agg (tmC t),.agg (tmC u)] (i64 (jK t u)):=by
 refine Tm.ind fun k n l ih=>?_
 intro u hs hu
 obtain⟨k',n',l'⟩:=u
 have dR:cD l+1≤1000000000:=by simp only[br] at hs;omega
 have ek:cD l'+1≤1000000000:=by simp only[br] at hu;omega
 have Mo:=jl l
 have ahK:=jl l'
 refine bP (rs:=[.tmp 4]) false [] mixed Tryz.func91 rfl rfl rfl rfl (by kernel_rfl) (by simp) rfl rfl ?_
 simp only[nX,seval]
 refine aD rfl (nB _ _) (fun _=>rfl) ?_
 simp only[nX,seval]
 refine aD rfl (nB _ _) (fun _=>rfl) ?_
 simp only[nX,seval]
 refine aD rfl (Aj l l' (by omega) (by omega) (fun t ht u hu=>ih t ht u (by have:=fO ht;omega) (by have:=fO hu;omega))) (fun _=>rfl) ?_
 simp only[Ld,seval]
 refine aD rfl (Ye [lL k k',lL n n',lM l l'] (by simp)) (fun _=>rfl) ?_
 simp only[pkA,seval]
 rw[afU];rfl
theorem mb:∀ t u:Tm,br t≤1000000000→br u≤1000000000→FnOK Tryz.prog G 28 [.agg (tmC t),.agg (tmC u)] (i64 (jK t u)):=by
 refine Tm.ind fun k n l ih=>?_
 intro u hs hu
 obtain⟨k',n',m⟩:=u
 have dR:cD l+1≤1000000000:=by simp only[br] at hs;omega
 have ek:cD m+1≤1000000000:=by simp only[br] at hu;omega
 have Mo:=jl l
 have ahK:=jl m
 have ec:jK (.mk k n l) (.mk k' n' m)=orJ (lL k k') (orJ (lL n n') (lM l m)):=rfl
 refine bP (rs:=[.tmp 4]) false [] mixed Tryz.func28 rfl rfl rfl rfl (by kernel_rfl) (by simp) rfl rfl ?_
 simp only[nX,seval]
 refine aV (fun hk=>?_) (fun hk=>?_)
 ·have hk:¬ k=k':=by simpa using hk
  simp only[nX,seval]
  refine aV (fun h=>?_) (fun h=>?_)
  ·have h:k<k':=by simpa using h
   simp only[pkA,seval]
   rw[ec];simp[orJ,lL,h]
  ·have h:¬ k<k':=by simpa using h
   simp only[pkA,seval]
   rw[ec];simp[orJ,lL,h];omega
 have hk:k=k':=by simpa using hk
 subst hk
 simp only[nX,seval]
 refine aV (fun hn=>?_) (fun hn=>?_)
 ·have hn:¬ n=n':=by simpa using hn
  simp only[nX,seval]
  refine aV (fun h=>?_) (fun h=>?_)
  ·have h:n<n':=by simpa using h
   simp only[pkA,seval]
   rw[ec];simp[orJ,lL,h]
  ·have h:¬ n<n':=by simpa using h
   simp only[pkA,seval]
   rw[ec];simp[orJ,lL,h];omega
 have hn:n=n':=by simpa using hn
 subst hn
 have ec':jK (.mk k n l) (.mk k n m)=lM l m:=by rw[ec];simp[orJ,lL]
 simp only[pkA,seval]
 refine cF (fun i:Nat=>hdS [(2,.bp 0 0),(3,.bp 1 0),(5,i64 i)] [(tmC (.mk k n l)).map .c,(tmC (.mk k n m)).map .c]) (fun i=>l.length - i) (fun i=>i≤l.length∧i≤m.length∧lM l m=lM (l.drop i) (m.drop i)) 0 ⟨au _,au _,rfl⟩ ?_ ?_
 ·exact cj (by simp only[eW,aR,bb,jt];rfl) (au _) (ae _) (by simp[FL,ar]) ⟨by simp[ar],by simp[],trivial⟩
 rintro i ⟨hi,him,he⟩ R ck cG dn
 have Ko:(i=l.length∨i=m.length)→lM l m=if l.length<m.length then -1 else if m.length<l.length then 1 else 0:=by
  rintro(h | h)
  ·rw[he,h,i7,xl,cY]
   by_cases h2:l.length<m.length
   ·rw[if_pos (by omega),if_pos h2]
   ·rw[if_neg (by omega),if_neg h2,if_neg (by omega)]
  ·rw[he,h,i7,GY]
   by_cases h2:m.length<l.length
   ·rw[if_pos h2,if_neg (by omega)]
   ·rw[if_neg h2,if_neg (by omega)]
 have Y7:(i=l.length∨i=m.length)→∀ fr,fr 2=.bp 0 0→fr 3=.bp 1 0→R (.exit 0) ⟨fr,bxs [(tmC (.mk k n l)).map .c,(tmC (.mk k n m)).map .c],2⟩:=by
  intro h fr f2 f3
  have hf:=Ko h
  refine cG _ _ ?_
  simp only[nX,seval,tsC,f2,f3]
  refine aV (fun bF=>?_) (fun ga=>?_)
  ·have bF:l.length<m.length:=by simpa using bF
   simp only[pkA,seval]
   rw[ec',hf,if_pos bF]
  ·have ga:¬ l.length<m.length:=by simpa using ga
   simp only[nX,seval,tsC,f2,f3]
   refine aV (fun bF=>?_) (fun UA=>?_)
   ·have bF:m.length<l.length:=by simpa using bF
    simp only[pkA,seval]
    rw[ec',hf,if_neg ga,if_pos bF]
   ·have UA:¬ m.length<l.length:=by simpa using UA
    simp only[pkA,seval]
    rw[ec',hf,if_neg ga,if_neg UA]
 simp only[nX,seval,tsC]
 refine jc (fun bF=>?_) (fun ga=>?_)
 ·have bF:i<l.length:=by simpa using bF
  simp only[nX,seval,tsC]
  refine aV (fun tP=>?_) (fun ga=>?_)
  ·have tP:i<m.length:=by simpa using tP
   simp only[nX,seval,tsC]
   refine dz dq rfl di (by decide) (aI i) (c:=tmC l[i]) (by simp[bF]) (bI _) ?_
   simp only[nX,seval,tsC,jT (bI _)]
   refine dz dq rfl di (by decide) (aI i) (c:=tmC m[i]) (by simp[tP]) (bI _) ?_
   simp only[pkA,seval,jT (bI _)]
   refine aD rfl (ih l[i] (aF bF) m[i] (by have:=fO (aF bF);omega) (by have:=fO (aF tP);omega)) (fun h=>by cases h) ?_
   have e1:=B5 bF tP
   have lG:=fa (n:=(i:Int)+1) (k:=i+1) (by omega) (by omega)
   simp only[pkA,seval]
   refine aV (fun gv=>?_) (fun lx=>?_)
   ·have gv:¬ jK l[i] m[i]=0:=by simpa using gv
    simp only[pkA,seval]
    refine dn _ ?_
    simp only[pkA,seval]
    rw[ec',he,e1,orJ,if_neg gv]
   ·have lx:jK l[i] m[i]=0:=by simpa using lx
    simp only[pkA,seval]
    refine ck (i+1) _ ⟨bF,tP,?_⟩ (by omega) (cj (by simp only[eW,aR,bb,jt];rfl) (au _) (ae _) ?_ ⟨by simp[bxs],by simp[bxs],trivial⟩)
    ·rw[he,e1,orJ,if_pos lx]
    ·simp[FL,ar,lG]
  ·have ga:i=m.length:=by simp[] at ga;omega
   simp only[pkA]
   exact Y7 (.inr ga) _ (by simp[ar]) (by simp[ar])
 ·have ga:i=l.length:=by simp[] at ga;omega
  simp only[pkA,seval]
  exact Y7 (.inl ga) _ (by simp[ar]) (by simp[ar])
theorem Bh {l:List Tm} {t:Tm} {i:Nat} (h:i<l.length):t∈l.drop i↔(l[i]=t∨t∈l.drop (i+1)):=by
 rw[cE h,bw]
 constructor<;>(rintro(h | h);exact .inl h.symm;exact .inr h)
theorem WU (l:List Tm) (t:Tm) (hs:cD l≤1000000000) (ht:br t≤1000000000):FnOK Tryz.prog G 104 [.c (tsC l),.agg (tmC t)] (bo (decide (t∈l))):=by
 have Mo:=jl l
 refine bP (rs:=[.tmp 4]) false [] mixed Tryz.func104 rfl rfl rfl rfl (by kernel_rfl) (by simp) rfl rfl ?_
 simp only[pkA,seval,tsC]
 refine cF (fun i:Nat=>hdS [(0,.c (.sl (l.map tmC))),(3,.bp 0 0),(5,i64 i)] [(tmC t).map .c]) (fun i=>l.length - i) (fun i=>i≤l.length∧(t∈l↔t∈l.drop i)) 0 ⟨au _,Iff.rfl⟩ ?_ ?_
 ·exact cj (by simp only[eW,aR,bb,jt];rfl) (au _) (ae _) (by simp[FL,ar]) ⟨by simp[],trivial⟩
 rintro i ⟨hi,he⟩ R ck cG dn
 simp only[Ld,seval]
 refine aV (fun bF=>?_) (fun ga=>?_)
 ·have bF:i<l.length:=by simpa using bF
  simp only[pkA,seval]
  refine dz dq rfl di (by decide) (aI i) (c:=tmC l[i]) (by simp[bF]) (bI _) ?_
  simp only[nX,seval,jT (bI _)]
  have q1:=fO (aF bF)
  refine aD rfl (mb l[i] t (by omega) ht) (fun h=>by cases h) ?_
  have e1:=Bh (t:=t) bF
  have lG:=fa (n:=(i:Int)+1) (k:=i+1) (by omega) (by omega)
  simp only[pkA,seval]
  refine aV (fun lx=>?_) (fun gv=>?_)
  ·have lx:jK l[i] t=0:=by simpa using lx
   rw[jk] at lx
   simp only[pkA,seval]
   refine dn _ ?_
   simp only[pkA,seval]
   rw[eZ (he.2 (e1.2 (.inl lx)))]
  ·have gv:¬ jK l[i] t=0:=by simpa using gv
   rw[jk] at gv
   simp only[pkA,seval]
   refine ck (i+1) _ ⟨bF,?_⟩ (by omega) (cj (by simp only[eW,aR,bb,jt];rfl) (au _) (ae _) ?_ ⟨by simp[bxs],trivial⟩)
   ·rw[he,e1];simp[gv]
   ·simp[FL,ar,lG]
 ·have:i=l.length:=by simp at ga;omega
  subst this
  simp only[pkA]
  refine cG _ _ ?_
  simp only[pkA,seval]
  have:¬ t∈l:=fun h=>by have:=he.1 h;rw[i7] at this;cases this
  rw[fu this]
theorem adt {a b:B} {K:V→Prop} (h:a.length+b.length≤9223372036854775807) (hK:K (sv (a++b))):y2 .add (bs8 a) (bs8 b) K:=by
 unfold y2
 have e:bs8 a++bs8 b=bs8 (a++b):=by unfold bs8;apply ByteArray.ext;simp
 rw[e]
 exact⟨by simpa[bs8,ByteArray.size] using h,hK⟩
theorem B6:∀ (f g n:Nat),n<10 ^ f→n<10 ^ g→0<f→0<g→uK f n=uK g n
 |0,_,_,_,_,h,_=>absurd h (Nat.lt_irrefl _)
 |_,0,_,_,_,_,h=>absurd h (Nat.lt_irrefl _)
 |f+1,g+1,n,hf,hg,_,_=>by
  unfold uK
  split
  ·rfl
  ·rename_i hn
   rw[Nat.pow_succ] at hf hg
   have hf0:0<f:=by
    rcases Nat.eq_zero_or_pos f with h | h
    ·subst h;simp at hf;omega
    ·exact h
   have hg0:0<g:=by
    rcases Nat.eq_zero_or_pos g with h | h
    ·subst h;simp at hg;omega
    ·exact h
   rw[B6 f g (n / 10) (by omega) (by omega) hf0 hg0]
theorem adu:(10:Nat) ^ 20=100000000000000000000:=by decide
theorem adv:(10:Nat) ^ 19=10000000000000000000:=by decide
theorem WV {n:Nat} (h:n<10000000000000000000):dec n=if n<10 then[UInt8.ofNat (48+n)] else dec (n / 10)++[UInt8.ofNat (48+n % 10)]:=by
 have e:dec n=if n<10 then[UInt8.ofNat (48+n)] else uK 19 (n / 10)++[UInt8.ofNat (48+n % 10)]:=rfl
 rw[e]
 split
 ·rfl
 ·unfold dec
  rw[B6 19 20 (n / 10) (by rw[adv];omega) (by rw[adu];omega) (by decide) (by decide)]
theorem GZ:∀ (f n:Nat),(uK f n).length≤f
 |0,_=>ae _
 |f+1,n=>by
  unfold uK
  split
  ·simp
  ·have:=GZ f (n / 10)
   simp;omega
theorem Lf (n:Nat):(dec n).length≤20:=GZ 20 n
theorem B7 (k n:Int):(mO k n).length≤24:=by
 unfold mO
 rw[ax]
 have h1:(ue k).length≤4:=by
  unfold ue
  repeat' split
  all_goals simp
 have h2:(if qb k=true then dec n.toNat else[]).length≤20:=by split;exact Lf _;simp
 omega
theorem xm:∀ l:List By,(mA l).length≤(l.map fun x=>x.length+1).sum
 |[]=>by simp[mA]
 |[a]=>by simp[mA]
 |a::b::l=>by
  have:=xm (b::l)
  simp only[mA,ax,aB,aL,List.sum_cons] at *
  omega
theorem B8 {l:List Tm} (h:∀ t∈l,(jf t).length+1≤31*br t):((iR l).map fun x=>x.length+1).sum≤31*cD l:=by
 induction l with
 |nil=>simp[iR]
 |cons t l ih=>
  have h1:=h t (aT ..)
  have h2:=ih fun t ht=>h t (aM _ ht)
  simp only[iR,aL,List.sum_cons,cD]
  omega
theorem Od:∀ t:Tm,(jf t).length+1≤31*br t:=by
 refine Tm.ind fun k n l ih=>?_
 have h1:=B7 k n
 have h2:=xm (iR l)
 have h3:=B8 ih
 simp only[jf,br,ax]
 split
 ·simp;omega
 ·simp only[aB,ax,aK];omega
theorem B9 (l:List Tm) (i:Nat):(mA (iR (l.take i))).length≤31*cD l:=by
 have h1:=xm (iR (l.take i))
 have h2:=B8 (l:=l.take i) fun t _=>Od t
 have h3:=GX l i
 omega
