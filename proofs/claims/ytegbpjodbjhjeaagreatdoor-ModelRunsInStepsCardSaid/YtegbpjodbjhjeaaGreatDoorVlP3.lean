/- Layer 15, plain: terms, their order, their texts. -/
import Derived.Test.YtegbpjodbjhjeaaGreatDoorVlTypes
import Derived.Test.YtegbpjodbjhjeaaGreatDoorVlRunB
import Derived.Test.YtegbpjodbjhjeaaGreatDoorVlFlb
import Derived.Eval
set_option linter.all false
namespace Go.Proofs.YtegbpjodbjhjeaaGreatDoor
open Go Go.Vl
inductive Tm where
 |mk (kind n:Int) (l:List Tm)
def Tm.kind:Tm→Int | .mk k _ _=>k
def Tm.n:Tm→Int | .mk _ n _=>n
def Tm.l:Tm→List Tm | .mk _ _ l=>l
abbrev By:=List UInt8
mutual
def bu:Tm→Nat
 | .mk _ _ l=>1+cH l
def cH:List Tm→Nat
 |[]=>0
 |t::l=>bu t+cH l
end
theorem Tm.ind {p:Tm→Prop} (h:∀ k n l,(∀ t∈l,p t)→p (.mk k n l)):∀ t,p t:=fun t=>
 Tm.rec (motive_1:=p) (motive_2:=fun l=>∀ t∈l,p t) (fun k n l ih=>h k n l ih) (fun t ht=>by cases ht) (fun t l h1 h2 u hu=>by
  rcases bw.1 hu with rfl | hu
  ·exact h1
  ·exact h2 u hu) t
def fD (k:Int):Int:=if k=1∨k=2 then 0 else if k=3∨k=4∨k=6 then 2 else if k=5 then 1 else -1
mutual
def bR:Tm→Bool
 | .mk k n l=>decide (0≤n)&&decide (n≤2147483647)&&decide ((l.length:Int)=fD k)&&(!decide (k=3∨k=6)||decide (n=0))&&nW l
def nW:List Tm→Bool
 |[]=>true
 |t::l=>bR t&&nW l
end
theorem FQ {l:List Tm}:nW l=true↔∀ t∈l,bR t=true:=by
 induction l with
 |nil=>simp[nW]
 |cons t l ih=>simp[nW,ih]
def kA (a b:Int):Int:=if a<b then -1 else if b<a then 1 else 0
def orJ (a b:Int):Int:=if a=0 then b else a
mutual
def jO:Tm→Tm→Int
 | .mk k n l,.mk k' n' l'=>orJ (kA k k') (orJ (kA n n') (kB l l'))
def kB:List Tm→List Tm→Int
 |[],[]=>0
 |[],_::_=>-1
 |_::_,[]=>1
 |a::l,b::m=>orJ (jO a b) (kB l m)
end
theorem mT {a b:Int}:kA a b=0↔a=b:=by unfold kA;split<;>(try split)<;>omega
theorem Dh {a b:Int}:kA a b=- kA b a:=by unfold kA;split<;>(try split)<;>(try split)<;>omega
theorem wI {a b:Int}:orJ a b=0↔a=0∧b=0:=by unfold orJ;split<;>simp_all
theorem AS {a b:Int}:orJ (-a) (-b)=- orJ a b:=by unfold orJ;split<;>split<;>omega
theorem TO {l:List Tm} (h:∀ t∈l,∀ u,(jO t u=0↔t=u)∧jO t u=- jO u t):∀ m,(kB l m=0↔l=m)∧kB l m=- kB m l:=by
 induction l with
 |nil=>intro m;cases m<;>simp[kB]
 |cons t l ih=>
  intro m
  cases m with
  |nil=>simp[kB]
  |cons u m=>
   obtain⟨h1,h2⟩:=h t (aR ..) u
   obtain⟨i1,i2⟩:=ih (fun t ht=>h t (aN _ ht)) m
   simp only[kB]
   refine⟨?_,?_⟩
   ·rw[wI,h1,i1];simp
   ·rw[h2,i2,AS]
theorem yK:∀ t u:Tm,(jO t u=0↔t=u)∧jO t u=- jO u t:=by
 refine Tm.ind fun k n l ih=>?_
 intro u
 obtain⟨k',n',l'⟩:=u
 obtain⟨h1,h2⟩:=TO ih l'
 simp only[jO]
 refine⟨?_,?_⟩
 ·rw[wI,wI,mT,mT,h1]
  simp
 ·rw[h2,@Dh k k',@Dh n n',AS,AS]
theorem jx {t u:Tm}:jO t u=0↔t=u:=(yK t u).1
theorem Di {t u:Tm}:jO t u=- jO u t:=(yK t u).2
theorem yL {t:Tm}:jO t t=0:=jx.2 rfl
instance:DecidableEq Tm:=fun t u=>decidable_of_iff (jO t u=0) jx
theorem yM (a b:Int):kA a b=-1∧a<b∨kA a b=0∧a=b∨kA a b=1∧b<a:=by unfold kA;split<;>(try split)<;>omega
theorem OC {a b c a' b' c':Int} (h1:orJ a b<0) (h2:orJ a' b'<0) (ha:a<0→a'≤0→c<0) (ha':a=0→a'<0→c<0) (h0:a=0→a'=0→c=0) (hb:b<0→b'<0→c'<0):orJ c c'<0:=by
 unfold orJ at *
 split at h1<;>split at h2
 ·rename_i e1 e2
  rw[if_pos (h0 e1 e2)];exact hb h1 h2
 ·rename_i e1 e2
  have:=ha' e1 h2
  rw[if_neg (by omega)];exact this
 ·rename_i e1 e2
  have:=ha h1 (by omega)
  rw[if_neg (by omega)];exact this
 ·rename_i e1 e2
  have:=ha h1 (by omega)
  rw[if_neg (by omega)];exact this
theorem vq {a b:Int}:kA a b<0↔a<b:=by rcases yM a b with h | h | h<;>omega
theorem G7 {a b:Int}:kA a b≤0↔a≤b:=by rcases yM a b with h | h | h<;>omega
theorem FR:∀ t u v:Tm,jO t u<0→jO u v<0→jO t v<0:=by
 refine Tm.ind fun k n l ih=>?_
 intro u v
 obtain⟨k1,n1,l1⟩:=u
 obtain⟨k2,n2,l2⟩:=v
 simp only[jO]
 have hl:∀ (l:List Tm),(∀ t∈l,∀ u v,jO t u<0→jO u v<0→jO t v<0)→∀ m o,kB l m<0→kB m o<0→kB l o<0:=by
  intro l
  induction l with
  |nil=>
   intro _ m o h1 h2
   cases m with
   |nil=>simp[kB] at h1
   |cons u m=>cases o with
    |nil=>simp[kB] at h2
    |cons v o=>simp[kB]
  |cons t l ihl=>
   intro h m o h1 h2
   cases m with
   |nil=>simp[kB] at h1
   |cons u m=>cases o with
    |nil=>simp[kB] at h2
    |cons v o=>
     simp only[kB] at h1 h2 ⊢
     refine OC h1 h2 (fun a b=>?_) (fun a b=>?_) (fun a b=>?_) (fun a b=>ihl (fun t ht=>h t (aN _ ht)) m o a b)
     ·rcases Int.lt_or_eq_of_le b with b | b
      ·exact h t (aR ..) u v a b
      ·rw[jx] at b;subst b;exact a
     ·rw[jx] at a;subst a;exact b
     ·rw[jx] at a b;subst a;subst b;exact yL
 intro h1 h2
 refine OC h1 h2 (fun a b=>?_) (fun a b=>?_) (fun a b=>?_) (fun a b=>OC a b (fun a b=>?_) (fun a b=>?_) (fun a b=>?_) (fun a b=>hl l ih l1 l2 a b))
 ·rw[vq] at a ⊢;rw[G7] at b;omega
 ·rw[mT] at a;rw[vq] at b ⊢;omega
 ·rw[mT] at a b ⊢;omega
 ·rw[vq] at a ⊢;rw[G7] at b;omega
 ·rw[mT] at a;rw[vq] at b ⊢;omega
 ·rw[mT] at a b ⊢;omega
def ltT (t u:Tm):Bool:=decide (jO t u<0)
theorem pd (t:Tm):ltT t t=false:=by simp[ltT,yL]
theorem qD {t u v:Tm} (h1:ltT t u=true) (h2:ltT u v=true):ltT t v=true:=by
 simp only[ltT,bi] at *;exact FR _ _ _ h1 h2
theorem AU {t u:Tm} (h1:ltT t u=false) (h2:ltT u t=false):t=u:=by
 simp only[ltT,co] at *
 rw[← jx]
 have:=@Di t u
 omega
theorem yN {t u:Tm} (h:ltT t u=true):ltT u t=false:=by
 simp only[ltT,bi,co] at *
 have:=@Di t u
 omega
def rD:Nat→Nat→By
 |0,_=>[]
 |f+1,n=>if n<10 then[UInt8.ofNat (48+n)] else rD f (n / 10)++[UInt8.ofNat (48+n % 10)]
def dec (n:Nat):By:=rD 20 n
def sL (c:UInt8):Bool:=decide (48≤c.toNat)&&decide (c.toNat≤57)
def TP (l:By):Nat:=l.foldl (fun a c=>a*10+(c.toNat - 48)) 0
theorem AV {d:Nat} (h:d<10):sL (UInt8.ofNat (48+d))=true∧(UInt8.ofNat (48+d)).toNat - 48=d:=by
 have:(UInt8.ofNat (48+d)).toNat=48+d:=by rw[UInt8.toNat_ofNat'];omega
 unfold sL
 rw[this]
 simp;omega
theorem sM:∀ (f n:Nat),∀ c∈rD f n,sL c=true
 |0,_,c,h=>by cases h
 |f+1,n,c,h=>by
  unfold rD at h
  split at h
  ·rename_i hn
   rw[a8] at h;subst h;exact(AV hn).1
  ·rcases bf.1 h with h | h
   ·exact sM f _ c h
   ·rw[a8] at h;subst h;exact(AV (jW _ (by decide))).1
theorem wJ:∀ (f n:Nat),n<10 ^ f→TP (rD f n)=n
 |0,n,h=>by simp at h;subst h;rfl
 |f+1,n,h=>by
  unfold rD
  split
  ·rename_i hn
   show 0*10+((UInt8.ofNat (48+n)).toNat - 48)=n
   rw[(AV hn).2,Nat.zero_mul,ah]
  ·unfold TP
   rw[List.foldl_append,← TP,wJ f (n / 10) (by rw[Nat.pow_succ] at h;omega)]
   simp only[gG,List.foldl_nil,(AV (jW n (by decide:0<10))).2]
   omega
theorem TQ:∀ (f n:Nat),rD (f+1) n≠[]
 |f,n=>by unfold rD;split<;>simp
def mG (s:By):Prop:=∀ c,s.head?=some c→sL c=false
theorem Dj:mG []:=fun c h=>by cases h
theorem t8 {c:UInt8} {s:By} (h:sL c=false):mG (c::s):=fun d hd=>by simp at hd;subst hd;exact h
theorem OD {l s:By} (hl:∀ c∈l,sL c=true) (hs:mG s):(l++s).takeWhile sL=l∧(l++s).dropWhile sL=s:=by
 induction l with
 |nil=>
  cases s with
  |nil=>exact⟨rfl,rfl⟩
  |cons c s=>simp[hs c rfl]
 |cons d l ih=>
  obtain⟨i1,i2⟩:=ih fun c hc=>hl c (aN _ hc)
  have hd:=hl d (aR ..)
  simp only[dt,List.takeWhile_cons,List.dropWhile_cons,hd,cA,i1,i2,and_self]
theorem J4 {n m:Nat} {s s':By} (hn:n≤2147483647) (hm:m≤2147483647) (hs:mG s) (hs':mG s') (h:dec n++s=dec m++s'):n=m∧s=s':=by
 obtain⟨a1,a2⟩:=OD (l:=dec n) (sM 20 n) hs
 obtain⟨b1,b2⟩:=OD (l:=dec m) (sM 20 m) hs'
 rw[h] at a1 a2
 refine⟨?_,a2.symm.trans b2⟩
 have e:dec n=dec m:=a1.symm.trans b1
 have:=kr TP e
 unfold dec at this
 have h20:(10:Nat) ^ 20=100000000000000000000:=by decide
 rw[wJ 20 n (by omega),wJ 20 m (by omega)] at this
 exact this
def qU (k:Int):By:=
 if k=1 then[100] else if k=2 then[107] else if k=3 then[115,101,97,108] else if k=4 then[98,111,120] else if k=5 then[107,100,102] else if k=6 then[109,97,99] else[]
def nX (k:Int):Bool:=decide (k=1∨k=2∨k=4∨k=5)
def lg:List By→By
 |[]=>[]
 |[a]=>a
 |a::b::l=>a++(44::lg (b::l))
def ly (k n:Int):By:=qU k++(if nX k=true then dec n.toNat else[])
mutual
def ip:Tm→By
 | .mk k n l=>ly k n++(if decide (fD k=0)=true then[] else 40::(lg (gZ l)++[41]))
def gZ:List Tm→List By
 |[]=>[]
 |t::l=>ip t::gZ l
end
theorem mc {l:List Tm}:gZ l=l.map ip:=by
 induction l with
 |nil=>rfl
 |cons t l ih=>simp[gZ,ih]
theorem OE (n:Nat):∃ c l,dec n=c::l∧sL c=true:=by
 have h:=TQ 19 n
 have hd:=sM 20 n
 unfold dec
 generalize rD 20 n=x at h hd
 cases x with
 |nil=>exact absurd rfl h
 |cons c l=>exact⟨c,l,rfl,hd c (aR ..)⟩
def okK (k:Int):Prop:=k=1∨k=2∨k=3∨k=4∨k=5∨k=6
theorem FS {k n k' n':Int} {s s':By} (hk:okK k) (hk':okK k') (hn:0≤n∧n≤2147483647∧(nX k=false→n=0)) (hn':0≤n'∧n'≤2147483647∧(nX k'=false→n'=0))
 (hs:mG s) (hs':mG s') (h:ly k n++s=ly k' n'++s'):k=k'∧n=n'∧s=s':=by
 have num:∀ {r r':By},nX k=true→dec n.toNat++r=dec n'.toNat++r'→mG r→mG r'→n=n'∧r=r':=fun hc h h1 h2=>by
  obtain⟨e1,e2⟩:=J4 (by omega) (by omega) h1 h2 h
  exact⟨by omega,e2⟩
 have key:∀ (m:Nat) (r:By) (r':By),dec m++r≠100::r':=fun m r r' h=>by
  obtain⟨c,l,e,hd⟩:=OE m
  rw[e,dt,bJ] at h
  rw[h.1] at hd;revert hd;decide
 unfold ly at h
 rcases hk with rfl | rfl | rfl | rfl | rfl | rfl<;>rcases hk' with rfl | rfl | rfl | rfl | rfl | rfl<;>simp[qU,nX] at h hn hn'<;>
  first
  |(exact absurd h (key _ _ _))
  |(exact absurd h.symm (key _ _ _))
  |(obtain⟨e1,e2⟩:=num rfl h hs hs';exact⟨rfl,e1,e2⟩)
  |(exact⟨rfl,by omega,h⟩)
theorem eR {k n:Int} {l:List Tm} (h:bR (.mk k n l)=true):okK k∧(0≤n∧n≤2147483647∧(nX k=false→n=0))∧(l.length:Int)=fD k∧∀ t∈l,bR t=true:=by
 simp only[bR,aF,bi,dx,dI,co,FQ] at h
 obtain⟨⟨⟨⟨h1,h2⟩,h3⟩,h4⟩,h5⟩:=h
 have hk:okK k:=by
  unfold fD at h3
  unfold okK
  split at h3
  ·omega
  ·split at h3
   ·omega
   ·split at h3
    ·omega
    ·omega
 refine⟨hk,⟨h1,h2,fun hc=>?_⟩,h3,h5⟩
 rcases h4 with h4 | h4
 ·rcases hk with rfl | rfl | rfl | rfl | rfl | rfl<;>simp[nX] at hc h4
 ·exact h4
theorem XM {s:By}:mG (40::s):=t8 (by decide)
theorem AW {s:By}:mG (41::s):=t8 (by decide)
theorem OF {s:By}:mG (44::s):=t8 (by decide)
theorem FT:∀ (t u:Tm) (s s':By),bR t=true→bR u=true→mG s→mG s'→ip t++s=ip u++s'→t=u∧s=s':=by
 refine Tm.ind fun k n l ih=>?_
 intro u s s' hv hu hs hs' h
 obtain⟨k',n',l'⟩:=u
 obtain⟨hk,hn,hl,hvl⟩:=eR hv
 obtain⟨hk',hn',hl',hul⟩:=eR hu
 simp only[ip,bV] at h
 have st:∀ (k:Int) (l:List Tm) (s:By),mG s→mG ((if decide (fD k=0)=true then[] else 40::(lg (gZ l)++[41]))++s):=fun k l s hs=>by
  split
  ·exact hs
  ·exact XM
 obtain⟨rfl,rfl,hr⟩:=FS hk hk' hn hn' (st k l s hs) (st k' l' s' hs') h
 by_cases ha:fD k=0
 ·rw[if_pos (eI ha),if_pos (eI ha)] at hr
  have e1:l=[]:=b9 (by omega)
  have e2:l'=[]:=b9 (by omega)
  subst e1;subst e2
  exact⟨rfl,hr⟩
 ·rw[if_neg (by simpa using ha),if_neg (by simpa using ha)] at hr
  simp only[dt,bV,bJ,fm,gC] at hr
  have hc:(l.length=1∧l'.length=1)∨(l.length=2∧l'.length=2):=by
   rcases hk with rfl | rfl | rfl | rfl | rfl | rfl<;>simp[fD] at hl hl' ha<;>omega
  rcases hc with⟨c1,c2⟩ | ⟨c1,c2⟩
  ·obtain⟨a,rfl⟩:=d5.1 c1
   obtain⟨b,rfl⟩:=d5.1 c2
   simp only[gZ,lg] at hr
   obtain⟨rfl,e⟩:=ih a (aR ..) b _ _ (hvl _ (aR ..)) (hul _ (aR ..)) AW AW hr
   simp only[bJ,fm] at e
   exact⟨rfl,e⟩
  ·match l,l',c1,c2 with
   |[a,a2],[b,b2],_,_=>
    simp only[gZ,lg,bV,dt] at hr
    obtain⟨rfl,e⟩:=ih a (by simp) b _ _ (hvl _ (by simp)) (hul _ (by simp)) OF OF hr
    simp only[bJ,fm] at e
    obtain⟨rfl,e2⟩:=ih a2 (by simp) b2 _ _ (hvl _ (by simp)) (hul _ (by simp)) AW AW e
    simp only[bJ,fm] at e2
    exact⟨rfl,e2⟩
theorem OG {t u:Tm} (ht:bR t=true) (hu:bR u=true) (h:ip t=ip u):t=u:=
 (FT t u [] [] ht hu Dj Dj (by rw[h])).1
mutual
def dH (p:Tm→Bool):Tm→Bool
 | .mk k n l=>(p (.mk k n l)||decide (k=1))||(!decide (k=2)&&nY p l)
def nY (p:Tm→Bool):List Tm→Bool
 |[]=>true
 |t::l=>dH p t&&nY p l
end
theorem wK {p:Tm→Bool} {l:List Tm}:nY p l=true↔∀ t∈l,dH p t=true:=by
 induction l with
 |nil=>simp[nY]
 |cons t l ih=>simp[nY,ih]
abbrev inP (S:List Tm) (t:Tm):Bool:=decide (t∈S)
inductive Kn (S:List Tm):Bool→Tm→Prop
 |item {t:Tm}:t∈S→Kn S false t
 |opn {k n:Int} {a b:Tm}:Kn S false (.mk k n [a,b])→(k=3∨k=4)→Kn S true a→Kn S false b
 |of {t:Tm}:Kn S false t→Kn S true t
 |data {n:Int} {l:List Tm}:Kn S true (.mk 1 n l)
 |make {k n:Int} {l:List Tm}:k≠2→(∀ t∈l,Kn S true t)→Kn S true (.mk k n l)
def nJ (S:List Tm):Prop:=∀ k n a b,Tm.mk k n [a,b]∈S→(k=3∨k=4)→dH (inP S) a=true→b∈S
theorem me {I S:List Tm} (h:∀ t∈S,Kn I false t):∀ t,dH (inP S) t=true→Kn I true t:=by
 refine Tm.ind fun k n l ih=>?_
 intro hb
 simp only[dH,dx,aF,bi,dI,co,wK] at hb
 rcases hb with(hb | hb) | ⟨h2,hb⟩
 ·exact .of (h _ hb)
 ·subst hb;exact .data
 ·exact .make h2 fun t ht=>ih t ht (hb t ht)
theorem uM {I S:List Tm} (h0:∀ t∈I,t∈S) (hc:nJ S) {b:Bool} {t:Tm} (h:Kn I b t):if b=true then dH (inP S) t=true else t∈S:=by
 induction h with
 |item h=>exact h0 _ h
 |opn _ hk _ i1 i2=>exact hc _ _ _ _ i1 hk i2
 |@of t _ i1=>
  obtain⟨k,n,l⟩:=t
  simp only[cA,dH,dx]
  exact .inl (.inl (eI i1))
 |data=>simp[dH]
 |make h2 _ ih=>
  simp only[cA,dH,dx,aF]
  exact .inr ⟨by simp[h2],wK.2 fun t ht=>ih t ht⟩
theorem AX {I S:List Tm} (h0:∀ t∈I,t∈S) (hs:∀ t∈S,Kn I false t) (hc:nJ S) {t:Tm}:t∈S↔Kn I false t:=
 ⟨hs t,fun h=>uM h0 hc h⟩
theorem J5 {I S:List Tm} (h0:∀ t∈I,t∈S) (hs:∀ t∈S,Kn I false t) (hc:nJ S) {t:Tm}:dH (inP S) t=true↔Kn I true t:=
 ⟨me hs t,fun h=>uM h0 hc h⟩
theorem Kn.mono {I J:List Tm} (h:∀ t∈I,t∈J) {b:Bool} {t:Tm} (hk:Kn I b t):Kn J b t:=by
 induction hk with
 |item h'=>exact .item (h _ h')
 |opn _ hk _ i1 i2=>exact .opn i1 hk i2
 |of _ ih=>exact .of ih
 |data=>exact .data
 |make h2 _ ih=>exact .make h2 ih
mutual
def jd:Tm→List Tm
 | .mk k n l=>.mk k n l::kP l
def kP:List Tm→List Tm
 |[]=>[]
 |t::l=>jd t++kP l
end
theorem kQ {l:List Tm} {x:Tm}:x∈kP l↔∃ t∈l,x∈jd t:=by
 induction l with
 |nil=>simp[kP]
 |cons t l ih=>simp[kP,ih]
theorem ua (t:Tm):t∈jd t:=by cases t;simp[jd]
theorem FU:∀ (t u x:Tm),u∈jd t→x∈jd u→x∈jd t:=by
 refine Tm.ind fun k n l ih=>?_
 intro u x hu hx
 simp only[jd,bw] at hu
 rcases hu with rfl | hu
 ·exact hx
 ·obtain⟨t,ht,hu⟩:=kQ.1 hu
  simp only[jd,bw]
  exact .inr (kQ.2 ⟨t,ht,ih t ht u x hu hx⟩)
theorem wL:∀ t:Tm,(jd t).length=bu t:=by
 refine Tm.ind fun k n l ih=>?_
 simp only[jd,bu,aC]
 have:(kP l).length=cH l:=by
  induction l with
  |nil=>rfl
  |cons t l ihl=>simp only[kP,cH,aw,ih t (aR ..),ihl fun t ht=>ih t (aN _ ht)]
 omega
theorem nf:∀ (t:Tm),bR t=true→∀ x∈jd t,bR x=true:=by
 refine Tm.ind fun k n l ih=>?_
 intro hv x hx
 simp only[jd,bw] at hx
 rcases hx with rfl | hx
 ·exact hv
 ·obtain⟨t,ht,hx⟩:=kQ.1 hx
  exact ih t ht ((eR hv).2.2.2 t ht) x hx
theorem Kn.loc {I:List Tm} {b:Bool} {t:Tm} (h:Kn I b t):(b=false→∃ u∈I,t∈jd u):=by
 induction h with
 |@item t h=>exact fun _=>⟨t,h,ua t⟩
 |@opn k n a b _ hk _ i1 i2=>
  intro _
  obtain⟨u,hu,h⟩:=i1 rfl
  exact⟨u,hu,FU u _ b h (by simp only[jd,bw,kP,bf];exact .inr (.inr (.inl (ua b))))⟩
 |of _ _=>intro h;cases h
 |data=>intro h;cases h
 |make _ _ _=>intro h;cases h
theorem Kn.key {I:List Tm} {n:Int} {l:List Tm} (h:Kn I true (.mk 2 n l)):Kn I false (.mk 2 n l):=by
 cases h with
 |of h=>exact h
 |make h _=>exact absurd rfl h
