/- Layer 15, plain: terms, their order, their texts. -/
import Derived.Test.YtegbpjodbjhjeaaGreatDoorVlTypes
import Derived.Test.YtegbpjodbjhjeaaGreatDoorVlRunB
import Derived.Test.YtegbpjodbjhjeaaGreatDoorVlFlb
import Derived.Eval
set_option linter.all false
namespace Go.Proofs.YtegbpjodbjhjeaaGreatDoor
open Go Go.Vl
inductive Tm where
 |mk (kind n:Int) (l:List Tm)
def Tm.kind:Tm→Int | .mk k _ _=>k
def Tm.n:Tm→Int | .mk _ n _=>n
def Tm.l:Tm→List Tm | .mk _ _ l=>l
abbrev By:=List UInt8
mutual
def bq:Tm→Nat
 | .mk _ _ l=>1+cF l
def cF:List Tm→Nat
 |[]=>0
 |t::l=>bq t+cF l
end
theorem Tm.ind {p:Tm→Prop} (h:∀ k n l,(∀ t∈l,p t)→p (.mk k n l)):∀ t,p t:=fun t=>
 Tm.rec (motive_1:=p) (motive_2:=fun l=>∀ t∈l,p t) (fun k n l ih=>h k n l ih) (fun t ht=>by cases ht) (fun t l h1 h2 u hu=>by
  rcases bu.1 hu with rfl | hu
  ·exact h1
  ·exact h2 u hu) t
def gA (k:Int):Int:=if k=1∨k=2 then 0 else if k=3∨k=4∨k=6 then 2 else if k=5 then 1 else -1
mutual
def bY:Tm→Bool
 | .mk k n l=>decide (0≤n)&&decide (n≤2147483647)&&decide ((l.length:Int)=gA k)&&(!decide (k=3∨k=6)||decide (n=0))&&qx l
def qx:List Tm→Bool
 |[]=>true
 |t::l=>bY t&&qx l
end
theorem KD {l:List Tm}:qx l=true↔∀ t∈l,bY t=true:=by
 induction l with
 |nil=>simp[qx]
 |cons t l ih=>simp[qx,ih]
def l7 (a b:Int):Int:=if a<b then -1 else if b<a then 1 else 0
def orJ (a b:Int):Int:=if a=0 then b else a
mutual
def jB:Tm→Tm→Int
 | .mk k n l,.mk k' n' l'=>orJ (l7 k k') (orJ (l7 n n') (l8 l l'))
def l8:List Tm→List Tm→Int
 |[],[]=>0
 |[],_::_=>-1
 |_::_,[]=>1
 |a::l,b::m=>orJ (jB a b) (l8 l m)
end
theorem o6 {a b:Int}:l7 a b=0↔a=b:=by unfold l7;split<;>(try split)<;>omega
theorem HZ {a b:Int}:l7 a b=- l7 b a:=by unfold l7;split<;>(try split)<;>(try split)<;>omega
theorem A8 {a b:Int}:orJ a b=0↔a=0∧b=0:=by unfold orJ;split<;>simp_all
theorem Fc {a b:Int}:orJ (-a) (-b)=- orJ a b:=by unfold orJ;split<;>split<;>omega
theorem X5 {l:List Tm} (h:∀ t∈l,∀ u,(jB t u=0↔t=u)∧jB t u=- jB u t):∀ m,(l8 l m=0↔l=m)∧l8 l m=- l8 m l:=by
 induction l with
 |nil=>intro m;cases m<;>simp[l8]
 |cons t l ih=>
  intro m
  cases m with
  |nil=>simp[l8]
  |cons u m=>
   obtain⟨h1,h2⟩:=h t (aW ..) u
   obtain⟨i1,i2⟩:=ih (fun t ht=>h t (aR _ ht)) m
   simp only[l8]
   refine⟨?_,?_⟩
   ·rw[A8,h1,i1];simp
   ·rw[h2,i2,Fc]
theorem C5:∀ t u:Tm,(jB t u=0↔t=u)∧jB t u=- jB u t:=by
 refine Tm.ind fun k n l ih=>?_
 intro u
 obtain⟨k',n',l'⟩:=u
 obtain⟨h1,h2⟩:=X5 ih l'
 simp only[jB]
 refine⟨?_,?_⟩
 ·rw[A8,A8,o6,o6,h1]
  simp
 ·rw[h2,@HZ k k',@HZ n n',Fc,Fc]
theorem gB {t u:Tm}:jB t u=0↔t=u:=(C5 t u).1
theorem A9 {t u:Tm}:jB t u=- jB u t:=(C5 t u).2
theorem C6 {t:Tm}:jB t t=0:=gB.2 rfl
instance:DecidableEq Tm:=fun t u=>decidable_of_iff (jB t u=0) gB
theorem C7 (a b:Int):l7 a b=-1∧a<b∨l7 a b=0∧a=b∨l7 a b=1∧b<a:=by unfold l7;split<;>(try split)<;>omega
theorem TA {a b c a' b' c':Int} (h1:orJ a b<0) (h2:orJ a' b'<0) (ha:a<0→a'≤0→c<0) (ha':a=0→a'<0→c<0) (h0:a=0→a'=0→c=0) (hb:b<0→b'<0→c'<0):orJ c c'<0:=by
 unfold orJ at *
 split at h1<;>split at h2
 ·rename_i e1 e2
  rw[if_pos (h0 e1 e2)];exact hb h1 h2
 ·rename_i e1 e2
  have:=ha' e1 h2
  rw[if_neg (by omega)];exact this
 ·rename_i e1 e2
  have:=ha h1 (by omega)
  rw[if_neg (by omega)];exact this
 ·rename_i e1 e2
  have:=ha h1 (by omega)
  rw[if_neg (by omega)];exact this
theorem zN {a b:Int}:l7 a b<0↔a<b:=by rcases C7 a b with h | h | h<;>omega
theorem Mq {a b:Int}:l7 a b≤0↔a≤b:=by rcases C7 a b with h | h | h<;>omega
theorem KE:∀ t u v:Tm,jB t u<0→jB u v<0→jB t v<0:=by
 refine Tm.ind fun k n l ih=>?_
 intro u v
 obtain⟨k1,n1,l1⟩:=u
 obtain⟨k2,n2,l2⟩:=v
 simp only[jB]
 have hl:∀ (l:List Tm),(∀ t∈l,∀ u v,jB t u<0→jB u v<0→jB t v<0)→∀ m o,l8 l m<0→l8 m o<0→l8 l o<0:=by
  intro l
  induction l with
  |nil=>
   intro _ m o h1 h2
   cases m with
   |nil=>simp[l8] at h1
   |cons u m=>cases o with
    |nil=>simp[l8] at h2
    |cons v o=>simp[l8]
  |cons t l ihl=>
   intro h m o h1 h2
   cases m with
   |nil=>simp[l8] at h1
   |cons u m=>cases o with
    |nil=>simp[l8] at h2
    |cons v o=>
     simp only[l8] at h1 h2 ⊢
     refine TA h1 h2 (fun a b=>?_) (fun a b=>?_) (fun a b=>?_) (fun a b=>ihl (fun t ht=>h t (aR _ ht)) m o a b)
     ·rcases Int.lt_or_eq_of_le b with b | b
      ·exact h t (aW ..) u v a b
      ·rw[gB] at b;subst b;exact a
     ·rw[gB] at a;subst a;exact b
     ·rw[gB] at a b;subst a;subst b;exact C6
 intro h1 h2
 refine TA h1 h2 (fun a b=>?_) (fun a b=>?_) (fun a b=>?_) (fun a b=>TA a b (fun a b=>?_) (fun a b=>?_) (fun a b=>?_) (fun a b=>hl l ih l1 l2 a b))
 ·rw[zN] at a ⊢;rw[Mq] at b;omega
 ·rw[o6] at a;rw[zN] at b ⊢;omega
 ·rw[o6] at a b ⊢;omega
 ·rw[zN] at a ⊢;rw[Mq] at b;omega
 ·rw[o6] at a;rw[zN] at b ⊢;omega
 ·rw[o6] at a b ⊢;omega
def ltT (t u:Tm):Bool:=decide (jB t u<0)
theorem rF (t:Tm):ltT t t=false:=by simp[ltT,C6]
theorem uq {t u v:Tm} (h1:ltT t u=true) (h2:ltT u v=true):ltT t v=true:=by
 simp only[ltT,bj] at *;exact KE _ _ _ h1 h2
theorem Fe {t u:Tm} (h1:ltT t u=false) (h2:ltT u t=false):t=u:=by
 simp only[ltT,b9] at *
 rw[← gB]
 have:=@A9 t u
 omega
theorem C9 {t u:Tm} (h:ltT t u=true):ltT u t=false:=by
 simp only[ltT,bj,b9] at *
 have:=@A9 t u
 omega
def vH:Nat→Nat→By
 |0,_=>[]
 |f+1,n=>if n<10 then[UInt8.ofNat (48+n)] else vH f (n / 10)++[UInt8.ofNat (48+n % 10)]
def dec (n:Nat):By:=vH 20 n
def wS (c:UInt8):Bool:=decide (48≤c.toNat)&&decide (c.toNat≤57)
def X6 (l:By):Nat:=l.foldl (fun a c=>a*10+(c.toNat - 48)) 0
theorem Ff {d:Nat} (h:d<10):wS (UInt8.ofNat (48+d))=true∧(UInt8.ofNat (48+d)).toNat - 48=d:=by
 have:(UInt8.ofNat (48+d)).toNat=48+d:=by rw[UInt8.toNat_ofNat'];omega
 unfold wS
 rw[this]
 simp;omega
theorem wT:∀ (f n:Nat),∀ c∈vH f n,wS c=true
 |0,_,c,h=>by cases h
 |f+1,n,c,h=>by
  unfold vH at h
  split at h
  ·rename_i hn
   rw[aP] at h;subst h;exact(Ff hn).1
  ·rcases aZ.1 h with h | h
   ·exact wT f _ c h
   ·rw[aP] at h;subst h;exact(Ff (lm _ (by decide))).1
theorem Ba:∀ (f n:Nat),n<10 ^ f→X6 (vH f n)=n
 |0,n,h=>by simp at h;subst h;rfl
 |f+1,n,h=>by
  unfold vH
  split
  ·rename_i hn
   show 0*10+((UInt8.ofNat (48+n)).toNat - 48)=n
   rw[(Ff hn).2,Nat.zero_mul,ah]
  ·unfold X6
   rw[kT,← X6,Ba f (n / 10) (by rw[Nat.pow_succ] at h;omega)]
   simp only[iP,List.foldl_nil,(Ff (lm n (by decide:0<10))).2]
   omega
theorem X7:∀ (f n:Nat),vH (f+1) n≠[]
 |f,n=>by unfold vH;split<;>simp
def oH (s:By):Prop:=∀ c,s.head?=some c→wS c=false
theorem H2:oH []:=fun c h=>by cases h
theorem yo {c:UInt8} {s:By} (h:wS c=false):oH (c::s):=fun d hd=>by simp at hd;subst hd;exact h
theorem TB {l s:By} (hl:∀ c∈l,wS c=true) (hs:oH s):(l++s).takeWhile wS=l∧(l++s).dropWhile wS=s:=by
 induction l with
 |nil=>
  cases s with
  |nil=>exact⟨rfl,rfl⟩
  |cons c s=>simp[hs c rfl]
 |cons d l ih=>
  obtain⟨i1,i2⟩:=ih fun c hc=>hl c (aR _ hc)
  have hd:=hl d (aW ..)
  simp only[dK,jY,jZ,hd,cL,i1,i2,and_self]
theorem Pe {n m:Nat} {s s':By} (hn:n≤2147483647) (hm:m≤2147483647) (hs:oH s) (xx:oH s') (h:dec n++s=dec m++s'):n=m∧s=s':=by
 obtain⟨a1,a2⟩:=TB (l:=dec n) (wT 20 n) hs
 obtain⟨b1,b2⟩:=TB (l:=dec m) (wT 20 m) xx
 rw[h] at a1 a2
 refine⟨?_,a2.symm.trans b2⟩
 have e:dec n=dec m:=a1.symm.trans b1
 have:=iY X6 e
 unfold dec at this
 have h20:(10:Nat) ^ 20=100000000000000000000:=by decide
 rw[Ba 20 n (by omega),Ba 20 m (by omega)] at this
 exact this
def u3 (k:Int):By:=
 if k=1 then[100] else if k=2 then[107] else if k=3 then[115,101,97,108] else if k=4 then[98,111,120] else if k=5 then[107,100,102] else if k=6 then[109,97,99] else[]
def qy (k:Int):Bool:=decide (k=1∨k=2∨k=4∨k=5)
def mV:List By→By
 |[]=>[]
 |[a]=>a
 |a::b::l=>a++(44::mV (b::l))
def nh (k n:Int):By:=u3 k++(if qy k=true then dec n.toNat else[])
mutual
def jq:Tm→By
 | .mk k n l=>nh k n++(if decide (gA k=0)=true then[] else 40::(mV (jb l)++[41]))
def jb:List Tm→List By
 |[]=>[]
 |t::l=>jq t::jb l
end
theorem nV {l:List Tm}:jb l=l.map jq:=by
 induction l with
 |nil=>rfl
 |cons t l ih=>simp[jb,ih]
theorem TC (n:Nat):∃ c l,dec n=c::l∧wS c=true:=by
 have h:=X7 19 n
 have hd:=wT 20 n
 unfold dec
 generalize vH 20 n=x at h hd
 cases x with
 |nil=>exact absurd rfl h
 |cons c l=>exact⟨c,l,rfl,hd c (aW ..)⟩
def okK (k:Int):Prop:=k=1∨k=2∨k=3∨k=4∨k=5∨k=6
theorem KF {k n k' n':Int} {s s':By} (hk:okK k) (Nx:okK k') (hn:0≤n∧n≤2147483647∧(qy k=false→n=0)) (hn':0≤n'∧n'≤2147483647∧(qy k'=false→n'=0))
 (hs:oH s) (xx:oH s') (h:nh k n++s=nh k' n'++s'):k=k'∧n=n'∧s=s':=by
 have num:∀ {r r':By},qy k=true→dec n.toNat++r=dec n'.toNat++r'→oH r→oH r'→n=n'∧r=r':=fun hc h h1 h2=>by
  obtain⟨e1,e2⟩:=Pe (by omega) (by omega) h1 h2 h
  exact⟨by omega,e2⟩
 have key:∀ (m:Nat) (r:By) (r':By),dec m++r≠100::r':=fun m r r' h=>by
  obtain⟨c,l,e,hd⟩:=TC m
  rw[e,dK,bP] at h
  rw[h.1] at hd;revert hd;decide
 unfold nh at h
 rcases hk with rfl | rfl | rfl | rfl | rfl | rfl<;>rcases Nx with rfl | rfl | rfl | rfl | rfl | rfl<;>simp[u3,qy] at h hn hn'<;>
  first
  |(exact absurd h (key _ _ _))
  |(exact absurd h.symm (key _ _ _))
  |(obtain⟨e1,e2⟩:=num rfl h hs xx;exact⟨rfl,e1,e2⟩)
  |(exact⟨rfl,by omega,h⟩)
theorem fw {k n:Int} {l:List Tm} (h:bY (.mk k n l)=true):okK k∧(0≤n∧n≤2147483647∧(qy k=false→n=0))∧(l.length:Int)=gA k∧∀ t∈l,bY t=true:=by
 simp only[bY,aI,bj,dM,ew,b9,KD] at h
 obtain⟨⟨⟨⟨h1,h2⟩,h3⟩,h4⟩,h5⟩:=h
 have hk:okK k:=by
  unfold gA at h3
  unfold okK
  split at h3
  ·omega
  ·split at h3
   ·omega
   ·split at h3
    ·omega
    ·omega
 refine⟨hk,⟨h1,h2,fun hc=>?_⟩,h3,h5⟩
 rcases h4 with h4 | h4
 ·rcases hk with rfl | rfl | rfl | rfl | rfl | rfl<;>simp[qy] at hc h4
 ·exact h4
theorem ab5 {s:By}:oH (40::s):=yo (by decide)
theorem Fg {s:By}:oH (41::s):=yo (by decide)
theorem TD {s:By}:oH (44::s):=yo (by decide)
theorem KG:∀ (t u:Tm) (s s':By),bY t=true→bY u=true→oH s→oH s'→jq t++s=jq u++s'→t=u∧s=s':=by
 refine Tm.ind fun k n l ih=>?_
 intro u s s' hv hu hs xx h
 obtain⟨k',n',l'⟩:=u
 obtain⟨hk,hn,hl,tV⟩:=fw hv
 obtain⟨Nx,hn',Jk,hul⟩:=fw hu
 simp only[jq,bZ] at h
 have st:∀ (k:Int) (l:List Tm) (s:By),oH s→oH ((if decide (gA k=0)=true then[] else 40::(mV (jb l)++[41]))++s):=fun k l s hs=>by
  split
  ·exact hs
  ·exact ab5
 obtain⟨rfl,rfl,hr⟩:=KF hk Nx hn hn' (st k l s hs) (st k' l' s' xx) h
 by_cases ha:gA k=0
 ·rw[if_pos (cZ ha),if_pos (cZ ha)] at hr
  have e1:l=[]:=cy (by omega)
  have e2:l'=[]:=cy (by omega)
  subst e1;subst e2
  exact⟨rfl,hr⟩
 ·rw[if_neg (by simpa using ha),if_neg (by simpa using ha)] at hr
  simp only[dK,bZ,bP,fZ,gr] at hr
  have hc:(l.length=1∧l'.length=1)∨(l.length=2∧l'.length=2):=by
   rcases hk with rfl | rfl | rfl | rfl | rfl | rfl<;>simp[gA] at hl Jk ha<;>omega
  rcases hc with⟨c1,c2⟩ | ⟨c1,c2⟩
  ·obtain⟨a,rfl⟩:=eS.1 c1
   obtain⟨b,rfl⟩:=eS.1 c2
   simp only[jb,mV] at hr
   obtain⟨rfl,e⟩:=ih a (aW ..) b _ _ (tV _ (aW ..)) (hul _ (aW ..)) Fg Fg hr
   simp only[bP,fZ] at e
   exact⟨rfl,e⟩
  ·match l,l',c1,c2 with
   |[a,a2],[b,b2],_,_=>
    simp only[jb,mV,bZ,dK] at hr
    obtain⟨rfl,e⟩:=ih a (by simp) b _ _ (tV _ (by simp)) (hul _ (by simp)) TD TD hr
    simp only[bP,fZ] at e
    obtain⟨rfl,e2⟩:=ih a2 (by simp) b2 _ _ (tV _ (by simp)) (hul _ (by simp)) Fg Fg e
    simp only[bP,fZ] at e2
    exact⟨rfl,e2⟩
theorem TE {t u:Tm} (ht:bY t=true) (hu:bY u=true) (h:jq t=jq u):t=u:=
 (KG t u [] [] ht hu H2 H2 (by rw[h])).1
mutual
def dD (p:Tm→Bool):Tm→Bool
 | .mk k n l=>(p (.mk k n l)||decide (k=1))||(!decide (k=2)&&lM p l)
def lM (p:Tm→Bool):List Tm→Bool
 |[]=>true
 |t::l=>dD p t&&lM p l
end
theorem Bb {p:Tm→Bool} {l:List Tm}:lM p l=true↔∀ t∈l,dD p t=true:=by
 induction l with
 |nil=>simp[lM]
 |cons t l ih=>simp[lM,ih]
abbrev inP (S:List Tm) (t:Tm):Bool:=decide (t∈S)
inductive Kn (S:List Tm):Bool→Tm→Prop
 |item {t:Tm}:t∈S→Kn S false t
 |opn {k n:Int} {a b:Tm}:Kn S false (.mk k n [a,b])→(k=3∨k=4)→Kn S true a→Kn S false b
 |of {t:Tm}:Kn S false t→Kn S true t
 |data {n:Int} {l:List Tm}:Kn S true (.mk 1 n l)
 |make {k n:Int} {l:List Tm}:k≠2→(∀ t∈l,Kn S true t)→Kn S true (.mk k n l)
def qg (S:List Tm):Prop:=∀ k n a b,Tm.mk k n [a,b]∈S→(k=3∨k=4)→dD (inP S) a=true→b∈S
theorem nW {I S:List Tm} (h:∀ t∈S,Kn I false t):∀ t,dD (inP S) t=true→Kn I true t:=by
 refine Tm.ind fun k n l ih=>?_
 intro hb
 simp only[dD,dM,aI,bj,ew,b9,Bb] at hb
 rcases hb with(hb | hb) | ⟨h2,hb⟩
 ·exact .of (h _ hb)
 ·subst hb;exact .data
 ·exact .make h2 fun t ht=>ih t ht (hb t ht)
theorem y6 {I S:List Tm} (h0:∀ t∈I,t∈S) (hc:qg S) {b:Bool} {t:Tm} (h:Kn I b t):if b=true then dD (inP S) t=true else t∈S:=by
 induction h with
 |item h=>exact h0 _ h
 |opn _ hk _ i1 i2=>exact hc _ _ _ _ i1 hk i2
 |@of t _ i1=>
  obtain⟨k,n,l⟩:=t
  simp only[cL,dD,dM]
  exact .inl (.inl (cZ i1))
 |data=>simp[dD]
 |make h2 _ ih=>
  simp only[cL,dD,dM,aI]
  exact .inr ⟨by simp[h2],Bb.2 fun t ht=>ih t ht⟩
theorem Fh {I S:List Tm} (h0:∀ t∈I,t∈S) (hs:∀ t∈S,Kn I false t) (hc:qg S) {t:Tm}:t∈S↔Kn I false t:=
 ⟨hs t,fun h=>y6 h0 hc h⟩
theorem Pf {I S:List Tm} (h0:∀ t∈I,t∈S) (hs:∀ t∈S,Kn I false t) (hc:qg S) {t:Tm}:dD (inP S) t=true↔Kn I true t:=
 ⟨nW hs t,fun h=>y6 h0 hc h⟩
theorem Kn.mono {I J:List Tm} (h:∀ t∈I,t∈J) {b:Bool} {t:Tm} (hk:Kn I b t):Kn J b t:=by
 induction hk with
 |item h'=>exact .item (h _ h')
 |opn _ hk _ i1 i2=>exact .opn i1 hk i2
 |of _ ih=>exact .of ih
 |data=>exact .data
 |make h2 _ ih=>exact .make h2 ih
mutual
def j6:Tm→List Tm
 | .mk k n l=>.mk k n l::mA l
def mA:List Tm→List Tm
 |[]=>[]
 |t::l=>j6 t++mA l
end
theorem mD {l:List Tm} {x:Tm}:x∈mA l↔∃ t∈l,x∈j6 t:=by
 induction l with
 |nil=>simp[mA]
 |cons t l ih=>simp[mA,ih]
theorem yp (t:Tm):t∈j6 t:=by cases t;simp[j6]
theorem KH:∀ (t u x:Tm),u∈j6 t→x∈j6 u→x∈j6 t:=by
 refine Tm.ind fun k n l ih=>?_
 intro u x hu hx
 simp only[j6,bu] at hu
 rcases hu with rfl | hu
 ·exact hx
 ·obtain⟨t,ht,hu⟩:=mD.1 hu
  simp only[j6,bu]
  exact .inr (mD.2 ⟨t,ht,ih t ht u x hu hx⟩)
theorem Bc:∀ t:Tm,(j6 t).length=bq t:=by
 refine Tm.ind fun k n l ih=>?_
 simp only[j6,bq,aC]
 have:(mA l).length=cF l:=by
  induction l with
  |nil=>rfl
  |cons t l ihl=>simp only[mA,cF,ax,ih t (aW ..),ihl fun t ht=>ih t (aR _ ht)]
 omega
theorem pA:∀ (t:Tm),bY t=true→∀ x∈j6 t,bY x=true:=by
 refine Tm.ind fun k n l ih=>?_
 intro hv x hx
 simp only[j6,bu] at hx
 rcases hx with rfl | hx
 ·exact hv
 ·obtain⟨t,ht,hx⟩:=mD.1 hx
  exact ih t ht ((fw hv).2.2.2 t ht) x hx
theorem Kn.loc {I:List Tm} {b:Bool} {t:Tm} (h:Kn I b t):(b=false→∃ u∈I,t∈j6 u):=by
 induction h with
 |@item t h=>exact fun _=>⟨t,h,yp t⟩
 |@opn k n a b _ hk _ i1 i2=>
  intro _
  obtain⟨u,hu,h⟩:=i1 rfl
  exact⟨u,hu,KH u _ b h (by simp only[j6,bu,mA,aZ];exact .inr (.inr (.inl (yp b))))⟩
 |of _ _=>intro h;cases h
 |data=>intro h;cases h
 |make _ _ _=>intro h;cases h
theorem Kn.key {I:List Tm} {n:Int} {l:List Tm} (h:Kn I true (.mk 2 n l)):Kn I false (.mk 2 n l):=by
 cases h with
 |of h=>exact h
 |make h _=>exact absurd rfl h
