/- Layer 15, plain: terms, their order, their texts. -/
import Derived.Test.YtegbpjodbjhjeaaGreatDoorVlTypes
import Derived.Test.YtegbpjodbjhjeaaGreatDoorVlRunB
import Derived.Test.YtegbpjodbjhjeaaGreatDoorVlFlb
import Derived.Eval
set_option linter.all false
namespace Go.Proofs.YtegbpjodbjhjeaaGreatDoor
open Go Go.Vl
inductive Tm where
 |mk (kind n:Int) (l:List Tm)
def Tm.kind:Tm→Int | .mk k _ _=>k
def Tm.n:Tm→Int | .mk _ n _=>n
def Tm.l:Tm→List Tm | .mk _ _ l=>l
abbrev By:=List UInt8
mutual
def br:Tm→Nat
 | .mk _ _ l=>1+cD l
def cD:List Tm→Nat
 |[]=>0
 |t::l=>br t+cD l
end
theorem Tm.ind {p:Tm→Prop} (h:∀ k n l,(∀ t∈l,p t)→p (.mk k n l)):∀ t,p t:=fun t=>
 Tm.rec (motive_1:=p) (motive_2:=fun l=>∀ t∈l,p t) (fun k n l ih=>h k n l ih) (fun t ht=>by cases ht) (fun t l h1 h2 u hu=>by
  rcases bw.1 hu with rfl | hu
  ·exact h1
  ·exact h2 u hu) t
def gi (k:Int):Int:=if k=1∨k=2 then 0 else if k=3∨k=4∨k=6 then 2 else if k=5 then 1 else -1
mutual
def bT:Tm→Bool
 | .mk k n l=>decide (0≤n)&&decide (n≤2147483647)&&decide ((l.length:Int)=gi k)&&(!decide (k=3∨k=6)||decide (n=0))&&qa l
def qa:List Tm→Bool
 |[]=>true
 |t::l=>bT t&&qa l
end
theorem Jx {l:List Tm}:qa l=true↔∀ t∈l,bT t=true:=by
 induction l with
 |nil=>simp[qa]
 |cons t l ih=>simp[qa,ih]
def lL (a b:Int):Int:=if a<b then -1 else if b<a then 1 else 0
def orJ (a b:Int):Int:=if a=0 then b else a
mutual
def jK:Tm→Tm→Int
 | .mk k n l,.mk k' n' l'=>orJ (lL k k') (orJ (lL n n') (lM l l'))
def lM:List Tm→List Tm→Int
 |[],[]=>0
 |[],_::_=>-1
 |_::_,[]=>1
 |a::l,b::m=>orJ (jK a b) (lM l m)
end
theorem oC {a b:Int}:lL a b=0↔a=b:=by unfold lL;split<;>(try split)<;>omega
theorem GV {a b:Int}:lL a b=- lL b a:=by unfold lL;split<;>(try split)<;>(try split)<;>omega
theorem Ab {a b:Int}:orJ a b=0↔a=0∧b=0:=by unfold orJ;split<;>simp_all
theorem Eb {a b:Int}:orJ (-a) (-b)=- orJ a b:=by unfold orJ;split<;>split<;>omega
theorem WQ {l:List Tm} (h:∀ t∈l,∀ u,(jK t u=0↔t=u)∧jK t u=- jK u t):∀ m,(lM l m=0↔l=m)∧lM l m=- lM m l:=by
 induction l with
 |nil=>intro m;cases m<;>simp[lM]
 |cons t l ih=>
  intro m
  cases m with
  |nil=>simp[lM]
  |cons u m=>
   obtain⟨h1,h2⟩:=h t (aT ..) u
   obtain⟨i1,i2⟩:=ih (fun t ht=>h t (aM _ ht)) m
   simp only[lM]
   refine⟨?_,?_⟩
   ·rw[Ab,h1,i1];simp
   ·rw[h2,i2,Eb]
theorem BZ:∀ t u:Tm,(jK t u=0↔t=u)∧jK t u=- jK u t:=by
 refine Tm.ind fun k n l ih=>?_
 intro u
 obtain⟨k',n',l'⟩:=u
 obtain⟨h1,h2⟩:=WQ ih l'
 simp only[jK]
 refine⟨?_,?_⟩
 ·rw[Ab,Ab,oC,oC,h1]
  simp
 ·rw[h2,@GV k k',@GV n n',Eb,Eb]
theorem jk {t u:Tm}:jK t u=0↔t=u:=(BZ t u).1
theorem Ac {t u:Tm}:jK t u=- jK u t:=(BZ t u).2
theorem B0 {t:Tm}:jK t t=0:=jk.2 rfl
instance:DecidableEq Tm:=fun t u=>decidable_of_iff (jK t u=0) jk
theorem B1 (a b:Int):lL a b=-1∧a<b∨lL a b=0∧a=b∨lL a b=1∧b<a:=by unfold lL;split<;>(try split)<;>omega
theorem Si {a b c a' b' c':Int} (h1:orJ a b<0) (h2:orJ a' b'<0) (ha:a<0→a'≤0→c<0) (ha':a=0→a'<0→c<0) (h0:a=0→a'=0→c=0) (hb:b<0→b'<0→c'<0):orJ c c'<0:=by
 unfold orJ at *
 split at h1<;>split at h2
 ·rename_i e1 e2
  rw[if_pos (h0 e1 e2)];exact hb h1 h2
 ·rename_i e1 e2
  have:=ha' e1 h2
  rw[if_neg (by omega)];exact this
 ·rename_i e1 e2
  have:=ha h1 (by omega)
  rw[if_neg (by omega)];exact this
 ·rename_i e1 e2
  have:=ha h1 (by omega)
  rw[if_neg (by omega)];exact this
theorem yS {a b:Int}:lL a b<0↔a<b:=by rcases B1 a b with h | h | h<;>omega
theorem Lb {a b:Int}:lL a b≤0↔a≤b:=by rcases B1 a b with h | h | h<;>omega
theorem Jy:∀ t u v:Tm,jK t u<0→jK u v<0→jK t v<0:=by
 refine Tm.ind fun k n l ih=>?_
 intro u v
 obtain⟨k1,n1,l1⟩:=u
 obtain⟨k2,n2,l2⟩:=v
 simp only[jK]
 have hl:∀ (l:List Tm),(∀ t∈l,∀ u v,jK t u<0→jK u v<0→jK t v<0)→∀ m o,lM l m<0→lM m o<0→lM l o<0:=by
  intro l
  induction l with
  |nil=>
   intro _ m o h1 h2
   cases m with
   |nil=>simp[lM] at h1
   |cons u m=>cases o with
    |nil=>simp[lM] at h2
    |cons v o=>simp[lM]
  |cons t l ihl=>
   intro h m o h1 h2
   cases m with
   |nil=>simp[lM] at h1
   |cons u m=>cases o with
    |nil=>simp[lM] at h2
    |cons v o=>
     simp only[lM] at h1 h2 ⊢
     refine Si h1 h2 (fun a b=>?_) (fun a b=>?_) (fun a b=>?_) (fun a b=>ihl (fun t ht=>h t (aM _ ht)) m o a b)
     ·rcases Int.lt_or_eq_of_le b with b | b
      ·exact h t (aT ..) u v a b
      ·rw[jk] at b;subst b;exact a
     ·rw[jk] at a;subst a;exact b
     ·rw[jk] at a b;subst a;subst b;exact B0
 intro h1 h2
 refine Si h1 h2 (fun a b=>?_) (fun a b=>?_) (fun a b=>?_) (fun a b=>Si a b (fun a b=>?_) (fun a b=>?_) (fun a b=>?_) (fun a b=>hl l ih l1 l2 a b))
 ·rw[yS] at a ⊢;rw[Lb] at b;omega
 ·rw[oC] at a;rw[yS] at b ⊢;omega
 ·rw[oC] at a b ⊢;omega
 ·rw[yS] at a ⊢;rw[Lb] at b;omega
 ·rw[oC] at a;rw[yS] at b ⊢;omega
 ·rw[oC] at a b ⊢;omega
def ltT (t u:Tm):Bool:=decide (jK t u<0)
theorem qX (t:Tm):ltT t t=false:=by simp[ltT,B0]
theorem tz {t u v:Tm} (h1:ltT t u=true) (h2:ltT u v=true):ltT t v=true:=by
 simp only[ltT,bi] at *;exact Jy _ _ _ h1 h2
theorem Ec {t u:Tm} (h1:ltT t u=false) (h2:ltT u t=false):t=u:=by
 simp only[ltT,cm] at *
 rw[← jk]
 have:=@Ac t u
 omega
theorem B2 {t u:Tm} (h:ltT t u=true):ltT u t=false:=by
 simp only[ltT,bi,cm] at *
 have:=@Ac t u
 omega
def uK:Nat→Nat→By
 |0,_=>[]
 |f+1,n=>if n<10 then[UInt8.ofNat (48+n)] else uK f (n / 10)++[UInt8.ofNat (48+n % 10)]
def dec (n:Nat):By:=uK 20 n
def vP (c:UInt8):Bool:=decide (48≤c.toNat)&&decide (c.toNat≤57)
def WR (l:By):Nat:=l.foldl (fun a c=>a*10+(c.toNat - 48)) 0
theorem Ed {d:Nat} (h:d<10):vP (UInt8.ofNat (48+d))=true∧(UInt8.ofNat (48+d)).toNat - 48=d:=by
 have:(UInt8.ofNat (48+d)).toNat=48+d:=by rw[UInt8.toNat_ofNat'];omega
 unfold vP
 rw[this]
 simp;omega
theorem vQ:∀ (f n:Nat),∀ c∈uK f n,vP c=true
 |0,_,c,h=>by cases h
 |f+1,n,c,h=>by
  unfold uK at h
  split at h
  ·rename_i hn
   rw[aN] at h;subst h;exact(Ed hn).1
  ·rcases aY.1 h with h | h
   ·exact vQ f _ c h
   ·rw[aN] at h;subst h;exact(Ed (kU _ (by decide))).1
theorem Ad:∀ (f n:Nat),n<10 ^ f→WR (uK f n)=n
 |0,n,h=>by simp at h;subst h;rfl
 |f+1,n,h=>by
  unfold uK
  split
  ·rename_i hn
   show 0*10+((UInt8.ofNat (48+n)).toNat - 48)=n
   rw[(Ed hn).2,Nat.zero_mul,ah]
  ·unfold WR
   rw[kD,← WR,Ad f (n / 10) (by rw[Nat.pow_succ] at h;omega)]
   simp only[iz,List.foldl_nil,(Ed (kU n (by decide:0<10))).2]
   omega
theorem WS:∀ (f n:Nat),uK (f+1) n≠[]
 |f,n=>by unfold uK;split<;>simp
def nW (s:By):Prop:=∀ c,s.head?=some c→vP c=false
theorem GW:nW []:=fun c h=>by cases h
theorem xi {c:UInt8} {s:By} (h:vP c=false):nW (c::s):=fun d hd=>by simp at hd;subst hd;exact h
theorem Sj {l s:By} (hl:∀ c∈l,vP c=true) (hs:nW s):(l++s).takeWhile vP=l∧(l++s).dropWhile vP=s:=by
 induction l with
 |nil=>
  cases s with
  |nil=>exact⟨rfl,rfl⟩
  |cons c s=>simp[hs c rfl]
 |cons d l ih=>
  obtain⟨i1,i2⟩:=ih fun c hc=>hl c (aM _ hc)
  have hd:=hl d (aT ..)
  simp only[dC,jN,jO,hd,cJ,i1,i2,and_self]
theorem N7 {n m:Nat} {s s':By} (hn:n≤2147483647) (hm:m≤2147483647) (hs:nW s) (wF:nW s') (h:dec n++s=dec m++s'):n=m∧s=s':=by
 obtain⟨a1,a2⟩:=Sj (l:=dec n) (vQ 20 n) hs
 obtain⟨b1,b2⟩:=Sj (l:=dec m) (vQ 20 m) wF
 rw[h] at a1 a2
 refine⟨?_,a2.symm.trans b2⟩
 have e:dec n=dec m:=a1.symm.trans b1
 have:=jz WR e
 unfold dec at this
 have h20:(10:Nat) ^ 20=100000000000000000000:=by decide
 rw[Ad 20 n (by omega),Ad 20 m (by omega)] at this
 exact this
def ue (k:Int):By:=
 if k=1 then[100] else if k=2 then[107] else if k=3 then[115,101,97,108] else if k=4 then[98,111,120] else if k=5 then[107,100,102] else if k=6 then[109,97,99] else[]
def qb (k:Int):Bool:=decide (k=1∨k=2∨k=4∨k=5)
def mA:List By→By
 |[]=>[]
 |[a]=>a
 |a::b::l=>a++(44::mA (b::l))
def mO (k n:Int):By:=ue k++(if qb k=true then dec n.toNat else[])
mutual
def jf:Tm→By
 | .mk k n l=>mO k n++(if decide (gi k=0)=true then[] else 40::(mA (iR l)++[41]))
def iR:List Tm→List By
 |[]=>[]
 |t::l=>jf t::iR l
end
theorem nz {l:List Tm}:iR l=l.map jf:=by
 induction l with
 |nil=>rfl
 |cons t l ih=>simp[iR,ih]
theorem Sk (n:Nat):∃ c l,dec n=c::l∧vP c=true:=by
 have h:=WS 19 n
 have hd:=vQ 20 n
 unfold dec
 generalize uK 20 n=x at h hd
 cases x with
 |nil=>exact absurd rfl h
 |cons c l=>exact⟨c,l,rfl,hd c (aT ..)⟩
def okK (k:Int):Prop:=k=1∨k=2∨k=3∨k=4∨k=5∨k=6
theorem Jz {k n k' n':Int} {s s':By} (hk:okK k) (Mn:okK k') (hn:0≤n∧n≤2147483647∧(qb k=false→n=0)) (hn':0≤n'∧n'≤2147483647∧(qb k'=false→n'=0))
 (hs:nW s) (wF:nW s') (h:mO k n++s=mO k' n'++s'):k=k'∧n=n'∧s=s':=by
 have num:∀ {r r':By},qb k=true→dec n.toNat++r=dec n'.toNat++r'→nW r→nW r'→n=n'∧r=r':=fun hc h h1 h2=>by
  obtain⟨e1,e2⟩:=N7 (by omega) (by omega) h1 h2 h
  exact⟨by omega,e2⟩
 have key:∀ (m:Nat) (r:By) (r':By),dec m++r≠100::r':=fun m r r' h=>by
  obtain⟨c,l,e,hd⟩:=Sk m
  rw[e,dC,bO] at h
  rw[h.1] at hd;revert hd;decide
 unfold mO at h
 rcases hk with rfl | rfl | rfl | rfl | rfl | rfl<;>rcases Mn with rfl | rfl | rfl | rfl | rfl | rfl<;>simp[ue,qb] at h hn hn'<;>
  first
  |(exact absurd h (key _ _ _))
  |(exact absurd h.symm (key _ _ _))
  |(obtain⟨e1,e2⟩:=num rfl h hs wF;exact⟨rfl,e1,e2⟩)
  |(exact⟨rfl,by omega,h⟩)
theorem fh {k n:Int} {l:List Tm} (h:bT (.mk k n l)=true):okK k∧(0≤n∧n≤2147483647∧(qb k=false→n=0))∧(l.length:Int)=gi k∧∀ t∈l,bT t=true:=by
 simp only[bT,aG,bi,dF,eb,cm,Jx] at h
 obtain⟨⟨⟨⟨h1,h2⟩,h3⟩,h4⟩,h5⟩:=h
 have hk:okK k:=by
  unfold gi at h3
  unfold okK
  split at h3
  ·omega
  ·split at h3
   ·omega
   ·split at h3
    ·omega
    ·omega
 refine⟨hk,⟨h1,h2,fun hc=>?_⟩,h3,h5⟩
 rcases h4 with h4 | h4
 ·rcases hk with rfl | rfl | rfl | rfl | rfl | rfl<;>simp[qb] at hc h4
 ·exact h4
theorem aaO {s:By}:nW (40::s):=xi (by decide)
theorem Ee {s:By}:nW (41::s):=xi (by decide)
theorem Sl {s:By}:nW (44::s):=xi (by decide)
theorem JA:∀ (t u:Tm) (s s':By),bT t=true→bT u=true→nW s→nW s'→jf t++s=jf u++s'→t=u∧s=s':=by
 refine Tm.ind fun k n l ih=>?_
 intro u s s' hv hu hs wF h
 obtain⟨k',n',l'⟩:=u
 obtain⟨hk,hn,hl,sP⟩:=fh hv
 obtain⟨Mn,hn',Ia,hul⟩:=fh hu
 simp only[jf,bU] at h
 have st:∀ (k:Int) (l:List Tm) (s:By),nW s→nW ((if decide (gi k=0)=true then[] else 40::(mA (iR l)++[41]))++s):=fun k l s hs=>by
  split
  ·exact hs
  ·exact aaO
 obtain⟨rfl,rfl,hr⟩:=Jz hk Mn hn hn' (st k l s hs) (st k' l' s' wF) h
 by_cases ha:gi k=0
 ·rw[if_pos (eZ ha),if_pos (eZ ha)] at hr
  have e1:l=[]:=co (by omega)
  have e2:l'=[]:=co (by omega)
  subst e1;subst e2
  exact⟨rfl,hr⟩
 ·rw[if_neg (by simpa using ha),if_neg (by simpa using ha)] at hr
  simp only[dC,bU,bO,fZ,fS] at hr
  have hc:(l.length=1∧l'.length=1)∨(l.length=2∧l'.length=2):=by
   rcases hk with rfl | rfl | rfl | rfl | rfl | rfl<;>simp[gi] at hl Ia ha<;>omega
  rcases hc with⟨c1,c2⟩ | ⟨c1,c2⟩
  ·obtain⟨a,rfl⟩:=eH.1 c1
   obtain⟨b,rfl⟩:=eH.1 c2
   simp only[iR,mA] at hr
   obtain⟨rfl,e⟩:=ih a (aT ..) b _ _ (sP _ (aT ..)) (hul _ (aT ..)) Ee Ee hr
   simp only[bO,fZ] at e
   exact⟨rfl,e⟩
  ·match l,l',c1,c2 with
   |[a,a2],[b,b2],_,_=>
    simp only[iR,mA,bU,dC] at hr
    obtain⟨rfl,e⟩:=ih a (by simp) b _ _ (sP _ (by simp)) (hul _ (by simp)) Sl Sl hr
    simp only[bO,fZ] at e
    obtain⟨rfl,e2⟩:=ih a2 (by simp) b2 _ _ (sP _ (by simp)) (hul _ (by simp)) Ee Ee e
    simp only[bO,fZ] at e2
    exact⟨rfl,e2⟩
theorem Sm {t u:Tm} (ht:bT t=true) (hu:bT u=true) (h:jf t=jf u):t=u:=
 (JA t u [] [] ht hu GW GW (by rw[h])).1
mutual
def dt (p:Tm→Bool):Tm→Bool
 | .mk k n l=>(p (.mk k n l)||decide (k=1))||(!decide (k=2)&&lm p l)
def lm (p:Tm→Bool):List Tm→Bool
 |[]=>true
 |t::l=>dt p t&&lm p l
end
theorem Ae {p:Tm→Bool} {l:List Tm}:lm p l=true↔∀ t∈l,dt p t=true:=by
 induction l with
 |nil=>simp[lm]
 |cons t l ih=>simp[lm,ih]
abbrev inP (S:List Tm) (t:Tm):Bool:=decide (t∈S)
inductive Kn (S:List Tm):Bool→Tm→Prop
 |item {t:Tm}:t∈S→Kn S false t
 |opn {k n:Int} {a b:Tm}:Kn S false (.mk k n [a,b])→(k=3∨k=4)→Kn S true a→Kn S false b
 |of {t:Tm}:Kn S false t→Kn S true t
 |data {n:Int} {l:List Tm}:Kn S true (.mk 1 n l)
 |make {k n:Int} {l:List Tm}:k≠2→(∀ t∈l,Kn S true t)→Kn S true (.mk k n l)
def pN (S:List Tm):Prop:=∀ k n a b,Tm.mk k n [a,b]∈S→(k=3∨k=4)→dt (inP S) a=true→b∈S
theorem nA {I S:List Tm} (h:∀ t∈S,Kn I false t):∀ t,dt (inP S) t=true→Kn I true t:=by
 refine Tm.ind fun k n l ih=>?_
 intro hb
 simp only[dt,dF,aG,bi,eb,cm,Ae] at hb
 rcases hb with(hb | hb) | ⟨h2,hb⟩
 ·exact .of (h _ hb)
 ·subst hb;exact .data
 ·exact .make h2 fun t ht=>ih t ht (hb t ht)
theorem ye {I S:List Tm} (h0:∀ t∈I,t∈S) (hc:pN S) {b:Bool} {t:Tm} (h:Kn I b t):if b=true then dt (inP S) t=true else t∈S:=by
 induction h with
 |item h=>exact h0 _ h
 |opn _ hk _ i1 i2=>exact hc _ _ _ _ i1 hk i2
 |@of t _ i1=>
  obtain⟨k,n,l⟩:=t
  simp only[cJ,dt,dF]
  exact .inl (.inl (eZ i1))
 |data=>simp[dt]
 |make h2 _ ih=>
  simp only[cJ,dt,dF,aG]
  exact .inr ⟨by simp[h2],Ae.2 fun t ht=>ih t ht⟩
theorem Eg {I S:List Tm} (h0:∀ t∈I,t∈S) (hs:∀ t∈S,Kn I false t) (hc:pN S) {t:Tm}:t∈S↔Kn I false t:=
 ⟨hs t,fun h=>ye h0 hc h⟩
theorem N8 {I S:List Tm} (h0:∀ t∈I,t∈S) (hs:∀ t∈S,Kn I false t) (hc:pN S) {t:Tm}:dt (inP S) t=true↔Kn I true t:=
 ⟨nA hs t,fun h=>ye h0 hc h⟩
theorem Kn.mono {I J:List Tm} (h:∀ t∈I,t∈J) {b:Bool} {t:Tm} (hk:Kn I b t):Kn J b t:=by
 induction hk with
 |item h'=>exact .item (h _ h')
 |opn _ hk _ i1 i2=>exact .opn i1 hk i2
 |of _ ih=>exact .of ih
 |data=>exact .data
 |make h2 _ ih=>exact .make h2 ih
mutual
def jV:Tm→List Tm
 | .mk k n l=>.mk k n l::l7 l
def l7:List Tm→List Tm
 |[]=>[]
 |t::l=>jV t++l7 l
end
theorem l8 {l:List Tm} {x:Tm}:x∈l7 l↔∃ t∈l,x∈jV t:=by
 induction l with
 |nil=>simp[l7]
 |cons t l ih=>simp[l7,ih]
theorem xj (t:Tm):t∈jV t:=by cases t;simp[jV]
theorem JB:∀ (t u x:Tm),u∈jV t→x∈jV u→x∈jV t:=by
 refine Tm.ind fun k n l ih=>?_
 intro u x hu hx
 simp only[jV,bw] at hu
 rcases hu with rfl | hu
 ·exact hx
 ·obtain⟨t,ht,hu⟩:=l8.1 hu
  simp only[jV,bw]
  exact .inr (l8.2 ⟨t,ht,ih t ht u x hu hx⟩)
theorem Af:∀ t:Tm,(jV t).length=br t:=by
 refine Tm.ind fun k n l ih=>?_
 simp only[jV,br,aB]
 have:(l7 l).length=cD l:=by
  induction l with
  |nil=>rfl
  |cons t l ihl=>simp only[l7,cD,ax,ih t (aT ..),ihl fun t ht=>ih t (aM _ ht)]
 omega
theorem o5:∀ (t:Tm),bT t=true→∀ x∈jV t,bT x=true:=by
 refine Tm.ind fun k n l ih=>?_
 intro hv x hx
 simp only[jV,bw] at hx
 rcases hx with rfl | hx
 ·exact hv
 ·obtain⟨t,ht,hx⟩:=l8.1 hx
  exact ih t ht ((fh hv).2.2.2 t ht) x hx
theorem Kn.loc {I:List Tm} {b:Bool} {t:Tm} (h:Kn I b t):(b=false→∃ u∈I,t∈jV u):=by
 induction h with
 |@item t h=>exact fun _=>⟨t,h,xj t⟩
 |@opn k n a b _ hk _ i1 i2=>
  intro _
  obtain⟨u,hu,h⟩:=i1 rfl
  exact⟨u,hu,JB u _ b h (by simp only[jV,bw,l7,aY];exact .inr (.inr (.inl (xj b))))⟩
 |of _ _=>intro h;cases h
 |data=>intro h;cases h
 |make _ _ _=>intro h;cases h
theorem Kn.key {I:List Tm} {n:Int} {l:List Tm} (h:Kn I true (.mk 2 n l)):Kn I false (.mk 2 n l):=by
 cases h with
 |of h=>exact h
 |make h _=>exact absurd rfl h
