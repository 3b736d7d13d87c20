/- Layer 15: Compare. -/
import Derived.Test.YtegbpjodbjhjeaaGreatDoorVlT1
import Derived.Test.YtegbpjodbjhjeaaGreatDoorVlWord
set_option linter.all false
namespace Go.Proofs.YtegbpjodbjhjeaaGreatDoor
open Go Go.Vl
variable {G:Gl}
set_option maxRecDepth 4000
theorem yO {l m:List Tm} {i:Nat} (h1:i<l.length) (h2:i<m.length):kB (l.drop i) (m.drop i)=orJ (jO l[i] m[i]) (kB (l.drop (i+1)) (m.drop (i+1))):=by
 rw[cm h1,cm h2];rfl
theorem Dl {l m:List Tm}:kB (l.drop m.length) []=if m.length<l.length then 1 else 0:=by
 rcases cx m.length l.length with h | h
 ·rw[cm h,if_pos h];rfl
 ·rw[List.drop_eq_nil_of_le h,if_neg (by omega)];rfl
theorem uc {m:List Tm}:kB [] m=if 0<m.length then -1 else 0:=by cases m<;>simp[kB]
def Dm:=jj @pkA @ptA
def nh:=jj @pkA (jj @ptA @pkT)
set_option maxHeartbeats 2000000 in
theorem wP (l m:List Tm) (hl:l.length≤1000000000) (hm:m.length≤1000000000) (ih:∀ t∈l,∀ u∈m,FnOK Tryz.prog G 91 [.agg (tmC t),.agg (tmC u)] (i64 (jO t u))) :
 FnOK Tryz.prog G 121 [.c (tsC l),.c (tsC m),.c (.fn (.func 91) [] [])] (i64 (kB l m)):=by
 refine bP (rs:=[.tmp 6]) false [] mixed Tryz.func121 rfl rfl rfl rfl (by kernel_rfl) (by simp) rfl rfl ?_
 simp only[Dm,seval,tsC]
 refine cZ (fun i:Nat=>hdS [(0,.c (.sl (l.map tmC))),(1,.c (.sl (m.map tmC))),(2,.c (.fn (.func 91) [] [])),(11,.c (.sl (l.map tmC))),(12,i64 l.length),(13,i64 i)] []) (fun i=>l.length - i) (fun i=>i≤l.length∧i≤m.length∧kB l m=kB (l.drop i) (m.drop i)) 0 ⟨aA _,aA _,rfl⟩ ?_ ?_
 ·exact cR rfl (aA _) (ae _) (by simp[FL,ar]) trivial
 rintro i ⟨hi,him,he⟩ R hnorm hexit hret
 simp only[pkA,seval]
 refine aZ (fun hlt=>?_) (fun hge=>?_)
 ·have hlt:i<l.length:=by simpa using hlt
  simp only[pkA,seval]
  refine dL dm rfl dc (by decide) (aM i) (c:=tmC l[i]) (by simp[hlt]) (b8 _) ?_
  simp only[nh,seval,lw (b8 _)]
  refine aZ (fun hge=>?_) (fun hlm=>?_)
  ·have hml:i=m.length:=by simp at hge;omega
   simp only[pkA,seval]
   refine hret _ ?_
   simp only[pkA,seval]
   have:m.drop i=[]:=List.drop_eq_nil_of_le (by omega)
   rw[he,this,hml,Dl,if_pos (by omega)]
  ·have hlm:i<m.length:=by simp at hlm;omega
   simp only[pkA,seval]
   refine dL dm rfl dc (by decide) (aM i) (c:=tmC m[i]) (by simp[hlm]) (b8 _) ?_
   simp only[nh,seval,lw (b8 _)]
   refine aD rfl (ih l[i] (aL hlt) m[i] (aL hlm)) (fun h=>by cases h) ?_
   have e1:=yO hlt hlm
   have hw2:=fj (n:=(i:Int)+1) (k:=i+1) (by omega) (by omega)
   simp only[pkA,seval]
   refine aZ (fun hne=>?_) (fun heq=>?_)
   ·have hne:¬ jO l[i] m[i]=0:=by simpa using hne
    simp only[pkA,seval]
    refine hret _ ?_
    simp only[pkA,seval]
    rw[he,e1,orJ,if_neg hne]
   ·have heq:jO l[i] m[i]=0:=by simpa using heq
    simp only[pkA,seval]
    refine hnorm (i+1) _ ⟨hlt,hlm,?_⟩ (by omega) (cR rfl (aA _) (aA _) ?_ trivial)
    ·rw[he,e1,orJ,if_pos heq]
    ·simp[FL,ar,hw2]
 ·have:i=l.length:=by simp at hge;omega
  subst this
  simp only[pkA]
  refine hexit _ _ ?_
  simp only[Dm,seval]
  have e0:l.drop l.length=[]:=ic
  refine aZ (fun hlt=>?_) (fun hge=>?_)
  ·have hlt:l.length<m.length:=by simpa using hlt
   simp only[pkA,seval]
   rw[he,e0,uc,if_pos (by simp;omega)]
  ·have hge:¬ l.length<m.length:=by simpa using hge
   simp only[pkA,seval]
   rw[he,e0,uc,if_neg (by simp;omega)]
set_option maxHeartbeats 2000000 in
theorem rE:∀ t u:Tm,bu t≤1000000000→bu u≤1000000000→FnOK Tryz.prog G 91 [.agg (tmC t),.agg (tmC u)] (i64 (jO t u)):=by
 refine Tm.ind fun k n l ih=>?_
 intro u hs hu
 obtain⟨k',n',l'⟩:=u
 have hsz:cH l+1≤1000000000:=by simp only[bu] at hs;omega
 have hsz':cH l'+1≤1000000000:=by simp only[bu] at hu;omega
 have hll:=j3 l
 have hll':=j3 l'
 refine bP (rs:=[.tmp 4]) false [] mixed Tryz.func91 rfl rfl rfl rfl (by kernel_rfl) (by simp) rfl rfl ?_
 simp only[nh,seval]
 refine aD rfl (mf _ _) (fun _=>rfl) ?_
 simp only[nh,seval]
 refine aD rfl (mf _ _) (fun _=>rfl) ?_
 simp only[nh,seval]
 refine aD rfl (wP l l' (by omega) (by omega) (fun t ht u hu=>ih t ht u (by have:=gq ht;omega) (by have:=gq hu;omega))) (fun _=>rfl) ?_
 simp only[Dm,seval]
 refine aD rfl (UR [kA k k',kA n n',kB l l'] (by simp)) (fun _=>rfl) ?_
 simp only[pkA,seval]
 rw[aaP];rfl
set_option maxHeartbeats 4000000 in
theorem qb:∀ t u:Tm,bu t≤1000000000→bu u≤1000000000→FnOK Tryz.prog G 28 [.agg (tmC t),.agg (tmC u)] (i64 (jO t u)):=by
 refine Tm.ind fun k n l ih=>?_
 intro u hs hu
 obtain⟨k',n',m⟩:=u
 have hsz:cH l+1≤1000000000:=by simp only[bu] at hs;omega
 have hsz':cH m+1≤1000000000:=by simp only[bu] at hu;omega
 have hll:=j3 l
 have hll':=j3 m
 have ec:jO (.mk k n l) (.mk k' n' m)=orJ (kA k k') (orJ (kA n n') (kB l m)):=rfl
 refine bP (rs:=[.tmp 4]) false [] mixed Tryz.func28 rfl rfl rfl rfl (by kernel_rfl) (by simp) rfl rfl ?_
 simp only[nh,seval]
 refine aZ (fun hk=>?_) (fun hk=>?_)
 ·have hk:¬ k=k':=by simpa using hk
  simp only[nh,seval]
  refine aZ (fun h=>?_) (fun h=>?_)
  ·have h:k<k':=by simpa using h
   simp only[pkA,seval]
   rw[ec];simp[orJ,kA,h]
  ·have h:¬ k<k':=by simpa using h
   simp only[pkA,seval]
   rw[ec];simp[orJ,kA,h];omega
 have hk:k=k':=by simpa using hk
 subst hk
 simp only[nh,seval]
 refine aZ (fun hn=>?_) (fun hn=>?_)
 ·have hn:¬ n=n':=by simpa using hn
  simp only[nh,seval]
  refine aZ (fun h=>?_) (fun h=>?_)
  ·have h:n<n':=by simpa using h
   simp only[pkA,seval]
   rw[ec];simp[orJ,kA,h]
  ·have h:¬ n<n':=by simpa using h
   simp only[pkA,seval]
   rw[ec];simp[orJ,kA,h];omega
 have hn:n=n':=by simpa using hn
 subst hn
 have ec':jO (.mk k n l) (.mk k n m)=kB l m:=by rw[ec];simp[orJ,kA]
 simp only[pkA,seval]
 refine cZ (fun i:Nat=>hdS [(2,.bp 0 0),(3,.bp 1 0),(5,i64 i)] [(tmC (.mk k n l)).map .c,(tmC (.mk k n m)).map .c]) (fun i=>l.length - i) (fun i=>i≤l.length∧i≤m.length∧kB l m=kB (l.drop i) (m.drop i)) 0 ⟨aA _,aA _,rfl⟩ ?_ ?_
 ·exact cR (by simp only[fC,bh,bq,mM];rfl) (aA _) (ae _) (by simp[FL,ar]) ⟨by simp[ar],by simp[],trivial⟩
 rintro i ⟨hi,him,he⟩ R hnorm hexit hret
 have hfin:(i=l.length∨i=m.length)→kB l m=if l.length<m.length then -1 else if m.length<l.length then 1 else 0:=by
  rintro(h | h)
  ·rw[he,h,ic,uc,cL]
   by_cases h2:l.length<m.length
   ·rw[if_pos (by omega),if_pos h2]
   ·rw[if_neg (by omega),if_neg h2,if_neg (by omega)]
  ·rw[he,h,ic,Dl]
   by_cases h2:m.length<l.length
   ·rw[if_pos h2,if_neg (by omega)]
   ·rw[if_neg h2,if_neg (by omega)]
 have hpost:(i=l.length∨i=m.length)→∀ fr,fr 2=.bp 0 0→fr 3=.bp 1 0→R (.exit 0) ⟨fr,bxs [(tmC (.mk k n l)).map .c,(tmC (.mk k n m)).map .c],2⟩:=by
  intro h fr f2 f3
  have hf:=hfin h
  refine hexit _ _ ?_
  simp only[nh,seval,tsC,f2,f3]
  refine aZ (fun hlt=>?_) (fun hge=>?_)
  ·have hlt:l.length<m.length:=by simpa using hlt
   simp only[pkA,seval]
   rw[ec',hf,if_pos hlt]
  ·have hge:¬ l.length<m.length:=by simpa using hge
   simp only[nh,seval,tsC,f2,f3]
   refine aZ (fun hlt=>?_) (fun hge2=>?_)
   ·have hlt:m.length<l.length:=by simpa using hlt
    simp only[pkA,seval]
    rw[ec',hf,if_neg hge,if_pos hlt]
   ·have hge2:¬ m.length<l.length:=by simpa using hge2
    simp only[pkA,seval]
    rw[ec',hf,if_neg hge,if_neg hge2]
 simp only[nh,seval,tsC]
 refine jc (fun hlt=>?_) (fun hge=>?_)
 ·have hlt:i<l.length:=by simpa using hlt
  simp only[nh,seval,tsC]
  refine aZ (fun hlm=>?_) (fun hge=>?_)
  ·have hlm:i<m.length:=by simpa using hlm
   simp only[nh,seval,tsC]
   refine dL dm rfl dc (by decide) (aM i) (c:=tmC l[i]) (by simp[hlt]) (b8 _) ?_
   simp only[nh,seval,tsC,lw (b8 _)]
   refine dL dm rfl dc (by decide) (aM i) (c:=tmC m[i]) (by simp[hlm]) (b8 _) ?_
   simp only[pkA,seval,lw (b8 _)]
   refine aD rfl (ih l[i] (aL hlt) m[i] (by have:=gq (aL hlt);omega) (by have:=gq (aL hlm);omega)) (fun h=>by cases h) ?_
   have e1:=yO hlt hlm
   have hw2:=fj (n:=(i:Int)+1) (k:=i+1) (by omega) (by omega)
   simp only[pkA,seval]
   refine aZ (fun hne=>?_) (fun heq=>?_)
   ·have hne:¬ jO l[i] m[i]=0:=by simpa using hne
    simp only[pkA,seval]
    refine hret _ ?_
    simp only[pkA,seval]
    rw[ec',he,e1,orJ,if_neg hne]
   ·have heq:jO l[i] m[i]=0:=by simpa using heq
    simp only[pkA,seval]
    refine hnorm (i+1) _ ⟨hlt,hlm,?_⟩ (by omega) (cR (by simp only[fC,bh,bq,mM];rfl) (aA _) (ae _) ?_ ⟨by simp[bxs],by simp[bxs],trivial⟩)
    ·rw[he,e1,orJ,if_pos heq]
    ·simp[FL,ar,hw2]
  ·have hge:i=m.length:=by simp[] at hge;omega
   simp only[pkA]
   exact hpost (.inr hge) _ (by simp[ar]) (by simp[ar])
 ·have hge:i=l.length:=by simp[] at hge;omega
  simp only[pkA,seval]
  exact hpost (.inl hge) _ (by simp[ar]) (by simp[ar])
theorem TS {l m:List Tm} {i:Nat} (h1:i<l.length) (h2:i<m.length):(l.drop i=m.drop i)↔(l[i]=m[i]∧l.drop (i+1)=m.drop (i+1)):=by
 rw[cm h1,cm h2,bJ]
set_option maxHeartbeats 4000000 in
theorem Dn (l m:List Tm) (hs:cH l≤1000000000) (hs':cH m≤1000000000):FnOK Tryz.prog G 34 [.c (tsC l),.c (tsC m)] (bo (decide (l=m))):=by
 have hll:=j3 l
 refine bP (rs:=[.tmp 4]) false [] mixed Tryz.func34 rfl rfl rfl rfl (by kernel_rfl) (by simp) rfl rfl ?_
 simp only[Dm,seval,tsC]
 refine aZ (fun hne=>?_) (fun heq=>?_)
 ·have hne:¬ l.length=m.length:=fun h=>by simp[h] at hne
  simp only[pkA,seval]
  have:¬ l=m:=fun h=>hne (by rw[h])
  rw[en this]
 have heq:l.length=m.length:=by simp at heq;omega
 simp only[pkA,seval]
 refine cZ (fun i:Nat=>hdS [(0,.c (.sl (l.map tmC))),(1,.c (.sl (m.map tmC))),(5,i64 i)] []) (fun i=>l.length - i) (fun i=>i≤l.length∧(l=m↔l.drop i=m.drop i)) 0 ⟨aA _,Iff.rfl⟩ ?_ ?_
 ·exact cR rfl (aA _) (ae _) (by simp[FL,ar]) trivial
 rintro i ⟨hi,he⟩ R hnorm hexit hret
 simp only[Dm,seval]
 refine aZ (fun hlt=>?_) (fun hge=>?_)
 ·have hlt:i<l.length:=by simpa using hlt
  have hlm:i<m.length:=by omega
  simp only[pkA,seval]
  refine dL dm rfl dc (by decide) (aM i) (c:=tmC l[i]) (by simp[hlt]) (b8 _) ?_
  simp only[pkA,seval,lw (b8 _)]
  refine dL dm rfl dc (by decide) (aM i) (c:=tmC m[i]) (by simp[hlm]) (b8 _) ?_
  simp only[pkA,seval,lw (b8 _)]
  have q1:=gq (aL hlt)
  have q2:=gq (aL hlm)
  refine aD rfl (qb l[i] m[i] (by omega) (by omega)) (fun h=>by cases h) ?_
  have e1:=TS hlt hlm
  have hw2:=fj (n:=(i:Int)+1) (k:=i+1) (by omega) (by omega)
  simp only[pkA,seval]
  refine aZ (fun hne=>?_) (fun heq2=>?_)
  ·have hne:¬ jO l[i] m[i]=0:=by simpa using hne
   rw[jx] at hne
   simp only[pkA,seval]
   refine hret _ ?_
   simp only[pkA,seval]
   have:¬ l=m:=fun h=>hne (e1.1 (he.1 h)).1
   rw[en this]
  ·have heq2:jO l[i] m[i]=0:=by simpa using heq2
   rw[jx] at heq2
   simp only[pkA,seval]
   refine hnorm (i+1) _ ⟨hlt,?_⟩ (by omega) (cR rfl (aA _) (aA _) ?_ trivial)
   ·rw[he,e1];simp[heq2]
   ·simp[FL,ar,hw2]
 ·have:i=l.length:=by simp at hge;omega
  subst this
  simp only[pkA]
  refine hexit _ _ ?_
  simp only[pkA,seval]
  have:l=m:=he.2 (by rw[ic,heq,ic])
  rw[eI this]
theorem ZG {a b:B} {K:V→Prop} (h:a.length+b.length≤9223372036854775807) (hK:K (sv (a++b))):uV .add (bs8 a) (bs8 b) K:=by
 unfold uV
 have e:bs8 a++bs8 b=bs8 (a++b):=by unfold bs8;apply ByteArray.ext;simp
 rw[e]
 exact⟨by simpa[bs8,ByteArray.size] using h,hK⟩
theorem yP:∀ (f g n:Nat),n<10 ^ f→n<10 ^ g→0<f→0<g→rD f n=rD g n
 |0,_,_,_,_,h,_=>absurd h (Nat.lt_irrefl _)
 |_,0,_,_,_,_,h=>absurd h (Nat.lt_irrefl _)
 |f+1,g+1,n,hf,hg,_,_=>by
  unfold rD
  split
  ·rfl
  ·rename_i hn
   rw[Nat.pow_succ] at hf hg
   have hf0:0<f:=by
    rcases Nat.eq_zero_or_pos f with h | h
    ·subst h;simp at hf;omega
    ·exact h
   have hg0:0<g:=by
    rcases Nat.eq_zero_or_pos g with h | h
    ·subst h;simp at hg;omega
    ·exact h
   rw[yP f g (n / 10) (by omega) (by omega) hf0 hg0]
theorem ZH:(10:Nat) ^ 20=100000000000000000000:=by decide
theorem ZI:(10:Nat) ^ 19=10000000000000000000:=by decide
theorem TU {n:Nat} (h:n<10000000000000000000):dec n=if n<10 then[UInt8.ofNat (48+n)] else dec (n / 10)++[UInt8.ofNat (48+n % 10)]:=by
 have e:dec n=if n<10 then[UInt8.ofNat (48+n)] else rD 19 (n / 10)++[UInt8.ofNat (48+n % 10)]:=rfl
 rw[e]
 split
 ·rfl
 ·unfold dec
  rw[yP 19 20 (n / 10) (by rw[ZI];omega) (by rw[ZH];omega) (by decide) (by decide)]
theorem Do:∀ (f n:Nat),(rD f n).length≤f
 |0,_=>ae _
 |f+1,n=>by
  unfold rD
  split
  ·simp
  ·have:=Do f (n / 10)
   simp;omega
theorem G9 (n:Nat):(dec n).length≤20:=Do 20 n
theorem yQ (k n:Int):(ly k n).length≤24:=by
 unfold ly
 rw[aw]
 have h1:(qU k).length≤4:=by
  unfold qU
  repeat' split
  all_goals simp
 have h2:(if nX k=true then dec n.toNat else[]).length≤20:=by split;exact G9 _;simp
 omega
theorem ud:∀ l:List By,(lg l).length≤(l.map fun x=>x.length+1).sum
 |[]=>by simp[lg]
 |[a]=>by simp[lg]
 |a::b::l=>by
  have:=ud (b::l)
  simp only[lg,aw,aC,aI,List.sum_cons] at *
  omega
theorem yR {l:List Tm} (h:∀ t∈l,(ip t).length+1≤31*bu t):((gZ l).map fun x=>x.length+1).sum≤31*cH l:=by
 induction l with
 |nil=>simp[gZ]
 |cons t l ih=>
  have h1:=h t (aR ..)
  have h2:=ih fun t ht=>h t (aN _ ht)
  simp only[gZ,aI,List.sum_cons,cH]
  omega
theorem Ka:∀ t:Tm,(ip t).length+1≤31*bu t:=by
 refine Tm.ind fun k n l ih=>?_
 have h1:=yQ k n
 have h2:=ud (gZ l)
 have h3:=yR ih
 simp only[ip,bu,aw]
 split
 ·simp;omega
 ·simp only[aC,aw,aJ];omega
theorem yS (l:List Tm) (i:Nat):(lg (gZ (l.take i))).length≤31*cH l:=by
 have h1:=ud (gZ (l.take i))
 have h2:=yR (l:=l.take i) fun t _=>Ka t
 have h3:=Dk l i
 omega
