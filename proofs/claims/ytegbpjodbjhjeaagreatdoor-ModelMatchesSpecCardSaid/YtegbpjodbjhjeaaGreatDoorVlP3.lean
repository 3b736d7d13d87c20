/- Layer 15, plain: terms, their order, their texts. -/
import Derived.Test.YtegbpjodbjhjeaaGreatDoorVlTypes
import Derived.Test.YtegbpjodbjhjeaaGreatDoorVlRunB
import Derived.Test.YtegbpjodbjhjeaaGreatDoorVlFlb
import Derived.Eval
set_option linter.all false
namespace Go.Proofs.YtegbpjodbjhjeaaGreatDoor
open Go Go.Vl
inductive Tm where
 |mk (kind n:Int) (l:List Tm)
def Tm.kind:Tm->Int | .mk k _ _=>k
def Tm.n:Tm->Int | .mk _ n _=>n
def Tm.l:Tm->List Tm | .mk _ _ l=>l
abbrev By:=List UInt8
mutual
def bi:Tm->Nat
 | .mk _ _ l=>1+cz l
def cz:List Tm->Nat
 |[]=>0
 |t::l=>bi t+cz l
end
theorem Tm.ind {p:Tm->Prop} (h:∀ k n l,(∀ t∈l,p t)->p (.mk k n l)):∀ t,p t:=λt=>
 Tm.rec (motive_1:=p) (motive_2:=λl=>∀ t∈l,p t) (λk n l ih=>h k n l ih) (λt ht=>by cases ht) (λt l h1 h2 u hu=>by
  rcases bI.1 hu with rfl | hu
  .exact h1
  .exact h2 u hu) t
def gR (k:Int):Int:=if k=1∨k=2 then 0 else if k=3∨k=4∨k=6 then 2 else if k=5 then 1 else -1
mutual
def bW:Tm->Bool
 | .mk k n l=>decide (0<=n)&&decide (n<=2147483647)&&decide ((l.length:Int)=gR k)&&(!decide (k=3∨k=6)||decide (n=0))&&qG l
def qG:List Tm->Bool
 |[]=>true
 |t::l=>bW t&&qG l
end
theorem Lg {l:List Tm}:qG l=true↔∀ t∈l,bW t=true:=by
 induction l with
 |nil=>simp[qG]
 |cons t l ih=>simp[qG,ih]
def me (a b:Int):Int:=if a<b then -1 else if b<a then 1 else 0
def orJ (a b:Int):Int:=if a=0 then b else a
mutual
def jJ:Tm->Tm->Int
 | .mk k n l,.mk k' n' l'=>orJ (me k k') (orJ (me n n') (mf l l'))
def mf:List Tm->List Tm->Int
 |[],[]=>0
 |[],_::_=>-1
 |_::_,[]=>1
 |a::l,b::m=>orJ (jJ a b) (mf l m)
end
theorem o9 {a b:Int}:me a b=0↔a=b:=by unfold me;split<;>(try split)<;>omega
theorem Iw {a b:Int}:me a b=- me b a:=by unfold me;split<;>(try split)<;>(try split)<;>omega
theorem BD {a b:Int}:orJ a b=0↔a=0/\b=0:=by unfold orJ;split<;>simp_all
theorem FO {a b:Int}:orJ (-a) (-b)=- orJ a b:=by unfold orJ;split<;>split<;>omega
theorem Y4 {l:List Tm} (h:∀ t∈l,∀ u,(jJ t u=0↔t=u)/\jJ t u=- jJ u t):∀ m,(mf l m=0↔l=m)/\mf l m=- mf m l:=by
 induction l with
 |nil=>intro m;cases m<;>simp[mf]
 |cons t l ih=>
  intro m;cases m with
  |nil=>simp[mf]
  |cons u m=>
   obtain⟨h1,h2⟩:=h t (aX ..) u;obtain⟨i1,i2⟩:=ih (λt ht=>h t (aT _ ht)) m;simp only[mf];refine⟨?_,?_⟩
   .rw[BD,h1,i1];simp
   .rw[h2,i2,FO]
theorem Dv:∀ t u:Tm,(jJ t u=0↔t=u)/\jJ t u=- jJ u t:=by
 refine Tm.ind λk n l ih=>?_;intro u;obtain⟨k',n',l'⟩:=u;obtain⟨h1,h2⟩:=Y4 ih l';simp only[jJ];refine⟨?_,?_⟩
 .rw[BD,BD,o9,o9,h1]
  simp
 .rw[h2,@Iw k k',@Iw n n',FO,FO]
theorem iF {t u:Tm}:jJ t u=0↔t=u:=(Dv t u).1
theorem BE {t u:Tm}:jJ t u=- jJ u t:=(Dv t u).2
theorem Dw {t:Tm}:jJ t t=0:=iF.2 rfl
instance:DecidableEq Tm:=λt u=>decidable_of_iff (jJ t u=0) iF
theorem Dx (a b:Int):me a b=-1/\a<b∨me a b=0/\a=b∨me a b=1/\b<a:=by unfold me;split<;>(try split)<;>omega
theorem Uu {a b c a' b' c':Int} (h1:orJ a b<0) (h2:orJ a' b'<0) (ha:a<0->a'<=0->c<0) (ha':a=0->a'<0->c<0) (h0:a=0->a'=0->c=0) (hb:b<0->b'<0->c'<0):orJ c c'<0:=by
 unfold orJ at *;split at h1<;>split at h2
 .rename_i e1 e2
  rw[if_pos (h0 e1 e2)];exact hb h1 h2
 .rename_i e1 e2
  have:=ha' e1 h2;rw[if_neg (by omega)];exact this
 .rename_i e1 e2
  have:=ha h1 (by omega);rw[if_neg (by omega)];exact this
 .rename_i e1 e2
  have:=ha h1 (by omega);rw[if_neg (by omega)];exact this
theorem Ap {a b:Int}:me a b<0↔a<b:=by rcases Dx a b with h | h | h<;>omega
theorem MX {a b:Int}:me a b<=0↔a<=b:=by rcases Dx a b with h | h | h<;>omega
theorem Lh:∀ t u v:Tm,jJ t u<0->jJ u v<0->jJ t v<0:=by
 refine Tm.ind λk n l ih=>?_;intro u v;obtain⟨k1,n1,l1⟩:=u;obtain⟨k2,n2,l2⟩:=v;simp only[jJ];have hl:∀ (l:List Tm),(∀ t∈l,∀ u v,jJ t u<0->jJ u v<0->jJ t v<0)->∀ m o,mf l m<0->mf m o<0->mf l o<0:=by
  intro l;induction l with
  |nil=>
   intro _ m o h1 h2;cases m with
   |nil=>simp[mf] at h1
   |cons u m=>cases o with
    |nil=>simp[mf] at h2
    |cons v o=>simp[mf]
  |cons t l ihl=>
   intro h m o h1 h2;cases m with
   |nil=>simp[mf] at h1
   |cons u m=>cases o with
    |nil=>simp[mf] at h2
    |cons v o=>
     simp only[mf] at h1 h2 ⊢
     refine Uu h1 h2 (λa b=>?_) (λa b=>?_) (λa b=>?_) (λa b=>ihl (λt ht=>h t (aT _ ht)) m o a b)
     .rcases Int.lt_or_eq_of_le b with b | b
      .exact h t (aX ..) u v a b
      .rw[iF] at b;subst b;exact a
     .rw[iF] at a;subst a;exact b
     .rw[iF] at a b;subst a;subst b;exact Dw
 intro h1 h2;refine Uu h1 h2 (λa b=>?_) (λa b=>?_) (λa b=>?_) (λa b=>Uu a b (λa b=>?_) (λa b=>?_) (λa b=>?_) (λa b=>hl l ih l1 l2 a b))
 .rw[Ap] at a ⊢;rw[MX] at b;omega
 .rw[o9] at a;rw[Ap] at b ⊢;omega
 .rw[o9] at a b ⊢;omega
 .rw[Ap] at a ⊢;rw[MX] at b;omega
 .rw[o9] at a;rw[Ap] at b ⊢;omega
 .rw[o9] at a b ⊢;omega
def ltT (t u:Tm):Bool:=decide (jJ t u<0)
theorem rP (t:Tm):ltT t t=false:=by simp[ltT,Dw]
theorem uI {t u v:Tm} (h1:ltT t u=true) (h2:ltT u v=true):ltT t v=true:=by simp only[ltT,br] at *;exact Lh _ _ _ h1 h2
theorem FP {t u:Tm} (h1:ltT t u=false) (h2:ltT u t=false):t=u:=by simp only[ltT,cJ] at *;rw[<- iF];have:=@BE t u;omega
theorem Dy {t u:Tm} (h:ltT t u=true):ltT u t=false:=by simp only[ltT,br,cJ] at *;have:=@BE t u;omega
def vS:Nat->Nat->By
 |0,_=>[]
 |f+1,n=>if n<10 then[UInt8.ofNat (48+n)] else vS f (n / 10)++[UInt8.ofNat (48+n % 10)]
def dec (n:Nat):By:=vS 20 n
def wZ (c:UInt8):Bool:=decide (48<=c.toNat)&&decide (c.toNat<=57)
def Y5 (l:By):Nat:=l.foldl (λa c=>a*10+(c.toNat - 48)) 0
theorem FQ {d:Nat} (h:d<10):wZ (UInt8.ofNat (48+d))=true/\(UInt8.ofNat (48+d)).toNat - 48=d:=by
 have:(UInt8.ofNat (48+d)).toNat=48+d:=by rw[UInt8.toNat_ofNat'];omega
 unfold wZ;rw[this];simp;omega
theorem w9:∀ (f n:Nat),∀ c∈vS f n,wZ c=true
 |0,_,c,h=>by cases h
 |f+1,n,c,h=>by
  unfold vS at h;split at h
  .rename_i hn
   rw[bu] at h;subst h;exact(FQ hn).1
  .rcases bh.1 h with h | h
   .exact w9 f _ c h
   .rw[bu] at h;subst h;exact(FQ (lz _ (by decide))).1
theorem BF:∀ (f n:Nat),n<10 ^ f->Y5 (vS f n)=n
 |0,n,h=>by simp at h;subst h;rfl
 |f+1,n,h=>by
  unfold vS;split
  .rename_i hn
   show 0*10+((UInt8.ofNat (48+n)).toNat - 48)=n;rw[(FQ hn).2,Nat.zero_mul,ao]
  .unfold Y5
   rw[jD,<- Y5,BF f (n / 10) (by rw[Nat.pow_succ] at h;omega)];simp only[fY,List.foldl_nil,(FQ (lz n (by decide:0<10))).2];omega
theorem Y6:∀ (f n:Nat),vS (f+1) n≠[]
 |f,n=>by unfold vS;split<;>simp
def oL (s:By):Prop:=∀ c,s.head?=some c->wZ c=false
theorem Ix:oL []:=λc h=>by cases h
theorem yE {c:UInt8} {s:By} (h:wZ c=false):oL (c::s):=λd hd=>by simp at hd;subst hd;exact h
theorem Uv {l s:By} (hl:∀ c∈l,wZ c=true) (hs:oL s):(l++s).takeWhile wZ=l/\(l++s).dropWhile wZ=s:=by
 induction l with
 |nil=>
  cases s with
  |nil=>exact⟨rfl,rfl⟩
  |cons c s=>simp[hs c rfl]
 |cons d l ih=>obtain⟨i1,i2⟩:=ih λc hc=>hl c (aT _ hc);have hd:=hl d (aX ..);simp only[dP,jS,jT,hd,bY,i1,i2,and_self]
theorem PQ {n m:Nat} {s s':By} (hn:n<=2147483647) (hm:m<=2147483647) (hs:oL s) (xP:oL s') (h:dec n++s=dec m++s'):n=m/\s=s':=by
 obtain⟨a1,a2⟩:=Uv (l:=dec n) (w9 20 n) hs;obtain⟨b1,b2⟩:=Uv (l:=dec m) (w9 20 m) xP;rw[h] at a1 a2;refine⟨?_,a2.symm.trans b2⟩;have e:dec n=dec m:=a1.symm.trans b1;have:=kK Y5 e;unfold dec at this;have h20:(10:Nat) ^ 20=100000000000000000000:=by decide
 rw[BF 20 n (by omega),BF 20 m (by omega)] at this;exact this
def vh (k:Int):By:=
 if k=1 then[100] else if k=2 then[107] else if k=3 then[115,101,97,108] else if k=4 then[98,111,120] else if k=5 then[107,100,102] else if k=6 then[109,97,99] else[]
def qH (k:Int):Bool:=decide (k=1∨k=2∨k=4∨k=5)
def m0:List By->By
 |[]=>[]
 |[a]=>a
 |a::b::l=>a++(44::m0 (b::l))
def np (k n:Int):By:=vh k++(if qH k=true then dec n.toNat else[])
mutual
def jo:Tm->By
 | .mk k n l=>np k n++(if decide (gR k=0)=true then[] else 40::(m0 (jc l)++[41]))
def jc:List Tm->List By
 |[]=>[]
 |t::l=>jo t::jc l
end
theorem oc {l:List Tm}:jc l=l.map jo:=by
 induction l with
 |nil=>rfl
 |cons t l ih=>simp[jc,ih]
theorem Uw (n:Nat):∃ c l,dec n=c::l/\wZ c=true:=by
 have h:=Y6 19 n;have hd:=w9 20 n;unfold dec;generalize vS 20 n=x at h hd;cases x with
 |nil=>exact absurd rfl h
 |cons c l=>exact⟨c,l,rfl,hd c (aX ..)⟩
def okK (k:Int):Prop:=k=1∨k=2∨k=3∨k=4∨k=5∨k=6
theorem Li {k n k' n':Int} {s s':By} (hk:okK k) (GQ:okK k') (hn:0<=n/\n<=2147483647/\(qH k=false->n=0)) (hn':0<=n'/\n'<=2147483647/\(qH k'=false->n'=0))
 (hs:oL s) (xP:oL s') (h:np k n++s=np k' n'++s'):k=k'/\n=n'/\s=s':=by
 have num:∀ {r r':By},qH k=true->dec n.toNat++r=dec n'.toNat++r'->oL r->oL r'->n=n'/\r=r':=λhc h h1 h2=>by obtain⟨e1,e2⟩:=PQ (by omega) (by omega) h1 h2 h;exact⟨by omega,e2⟩
 have key:∀ (m:Nat) (r:By) (r':By),dec m++r≠100::r':=λm r r' h=>by obtain⟨c,l,e,hd⟩:=Uw m;rw[e,dP,cj] at h;rw[h.1] at hd;revert hd;decide
 unfold np at h;rcases hk with rfl | rfl | rfl | rfl | rfl | rfl<;>rcases GQ with rfl | rfl | rfl | rfl | rfl | rfl<;>simp[vh,qH] at h hn hn'<;>
  first
  |(exact absurd h (key _ _ _))
  |(exact absurd h.symm (key _ _ _))
  |(obtain⟨e1,e2⟩:=num rfl h hs xP;exact⟨rfl,e1,e2⟩)
  |(exact⟨rfl,by omega,h⟩)
theorem fe {k n:Int} {l:List Tm} (h:bW (.mk k n l)=true):okK k/\(0<=n/\n<=2147483647/\(qH k=false->n=0))/\(l.length:Int)=gR k/\∀ t∈l,bW t=true:=by
 simp only[bW,aA,br,dS,d5,cJ,Lg] at h;obtain⟨⟨⟨⟨h1,h2⟩,h3⟩,h4⟩,h5⟩:=h;have hk:okK k:=by
  unfold gR at h3;unfold okK;split at h3
  .omega
  .split at h3
   .omega
   .split at h3
    .omega
    .omega
 refine⟨hk,⟨h1,h2,λhc=>?_⟩,h3,h5⟩;rcases h4 with h4 | h4
 .rcases hk with rfl | rfl | rfl | rfl | rfl | rfl<;>simp[qH] at hc h4
 .exact h4
theorem adw {s:By}:oL (40::s):=yE (by decide)
theorem FR {s:By}:oL (41::s):=yE (by decide)
theorem Ux {s:By}:oL (44::s):=yE (by decide)
theorem Lj:∀ (t u:Tm) (s s':By),bW t=true->bW u=true->oL s->oL s'->jo t++s=jo u++s'->t=u/\s=s':=by
 refine Tm.ind λk n l ih=>?_;intro u s s' hv hu hs xP h;obtain⟨k',n',l'⟩:=u;obtain⟨hk,hn,hl,ui⟩:=fe hv;obtain⟨GQ,hn',JO,hul⟩:=fe hu;simp only[jo,bU] at h;have st:∀ (k:Int) (l:List Tm) (s:By),oL s->oL ((if decide (gR k=0)=true then[] else 40::(m0 (jc l)++[41]))++s):=λk l s hs=>by
  split
  .exact hs
  .exact adw
 obtain⟨rfl,rfl,hr⟩:=Li hk GQ hn hn' (st k l s hs) (st k' l' s' xP) h;by_cases ha:gR k=0
 .rw[if_pos (dU ha),if_pos (dU ha)] at hr
  have e1:l=[]:=cQ (by omega);have e2:l'=[]:=cQ (by omega);subst e1;subst e2;exact⟨rfl,hr⟩
 .rw[if_neg (by simpa using ha),if_neg (by simpa using ha)] at hr
  simp only[dP,bU,cj,bX,fZ] at hr;have hc:(l.length=1/\l'.length=1)∨(l.length=2/\l'.length=2):=by
   rcases hk with rfl | rfl | rfl | rfl | rfl | rfl<;>simp[gR] at hl JO ha<;>omega
  rcases hc with⟨c1,c2⟩ | ⟨c1,c2⟩
  .obtain⟨a,rfl⟩:=eR.1 c1
   obtain⟨b,rfl⟩:=eR.1 c2;simp only[jc,m0] at hr;obtain⟨rfl,e⟩:=ih a (aX ..) b _ _ (ui _ (aX ..)) (hul _ (aX ..)) FR FR hr;simp only[cj,bX] at e;exact⟨rfl,e⟩
  .match l,l',c1,c2 with
   |[a,a2],[b,b2],_,_=>simp only[jc,m0,bU,dP] at hr;obtain⟨rfl,e⟩:=ih a (by simp) b _ _ (ui _ (by simp)) (hul _ (by simp)) Ux Ux hr;simp only[cj,bX] at e;obtain⟨rfl,e2⟩:=ih a2 (by simp) b2 _ _ (ui _ (by simp)) (hul _ (by simp)) FR FR e;simp only[cj,bX] at e2;exact⟨rfl,e2⟩
theorem Uy {t u:Tm} (ht:bW t=true) (hu:bW u=true) (h:jo t=jo u):t=u:=
 (Lj t u [] [] ht hu Ix Ix (by rw[h])).1
mutual
def dH (p:Tm->Bool):Tm->Bool
 | .mk k n l=>(p (.mk k n l)||decide (k=1))||(!decide (k=2)&&lN p l)
def lN (p:Tm->Bool):List Tm->Bool
 |[]=>true
 |t::l=>dH p t&&lN p l
end
theorem BG {p:Tm->Bool} {l:List Tm}:lN p l=true↔∀ t∈l,dH p t=true:=by
 induction l with
 |nil=>simp[lN]
 |cons t l ih=>simp[lN,ih]
abbrev inP (S:List Tm) (t:Tm):Bool:=decide (t∈S)
inductive Kn (S:List Tm):Bool->Tm->Prop
 |item {t:Tm}:t∈S->Kn S false t
 |opn {k n:Int} {a b:Tm}:Kn S false (.mk k n [a,b])->(k=3∨k=4)->Kn S true a->Kn S false b
 |of {t:Tm}:Kn S false t->Kn S true t
 |data {n:Int} {l:List Tm}:Kn S true (.mk 1 n l)
 |make {k n:Int} {l:List Tm}:k≠2->(∀ t∈l,Kn S true t)->Kn S true (.mk k n l)
def qh (S:List Tm):Prop:=∀ k n a b,Tm.mk k n [a,b]∈S->(k=3∨k=4)->dH (inP S) a=true->b∈S
theorem oe {I S:List Tm} (h:∀ t∈S,Kn I false t):∀ t,dH (inP S) t=true->Kn I true t:=by
 refine Tm.ind λk n l ih=>?_;intro hb;simp only[dH,dS,aA,br,d5,cJ,BG] at hb;rcases hb with(hb | hb) | ⟨h2,hb⟩
 .exact .of (h _ hb)
 .subst hb;exact .data
 .exact .make h2 λt ht=>ih t ht (hb t ht)
theorem zt {I S:List Tm} (h0:∀ t∈I,t∈S) (hc:qh S) {b:Bool} {t:Tm} (h:Kn I b t):if b=true then dH (inP S) t=true else t∈S:=by
 induction h with
 |item h=>exact h0 _ h
 |opn _ hk _ i1 i2=>exact hc _ _ _ _ i1 hk i2
 |@of t _ i1=>obtain⟨k,n,l⟩:=t;simp only[bY,dH,dS];exact .inl (.inl (dU i1))
 |data=>simp[dH]
 |make h2 _ ih=>simp only[bY,dH,dS,aA];exact .inr ⟨by simp[h2],BG.2 λt ht=>ih t ht⟩
theorem FS {I S:List Tm} (h0:∀ t∈I,t∈S) (hs:∀ t∈S,Kn I false t) (hc:qh S) {t:Tm}:t∈S↔Kn I false t:=
 ⟨hs t,λh=>zt h0 hc h⟩
theorem PS {I S:List Tm} (h0:∀ t∈I,t∈S) (hs:∀ t∈S,Kn I false t) (hc:qh S) {t:Tm}:dH (inP S) t=true↔Kn I true t:=
 ⟨oe hs t,λh=>zt h0 hc h⟩
theorem Kn.mono {I J:List Tm} (h:∀ t∈I,t∈J) {b:Bool} {t:Tm} (hk:Kn I b t):Kn J b t:=by
 induction hk with
 |item h'=>exact .item (h _ h')
 |opn _ hk _ i1 i2=>exact .opn i1 hk i2
 |of _ ih=>exact .of ih
 |data=>exact .data
 |make h2 _ ih=>exact .make h2 ih
mutual
def j0:Tm->List Tm
 | .mk k n l=>.mk k n l::mD l
def mD:List Tm->List Tm
 |[]=>[]
 |t::l=>j0 t++mD l
end
theorem mE {l:List Tm} {x:Tm}:x∈mD l↔∃ t∈l,x∈j0 t:=by
 induction l with
 |nil=>simp[mD]
 |cons t l ih=>simp[mD,ih]
theorem yF (t:Tm):t∈j0 t:=by cases t;simp[j0]
theorem Lk:∀ (t u x:Tm),u∈j0 t->x∈j0 u->x∈j0 t:=by
 refine Tm.ind λk n l ih=>?_;intro u x hu hx;simp only[j0,bI] at hu;rcases hu with rfl | hu
 .exact hx
 .obtain⟨t,ht,hu⟩:=mE.1 hu
  simp only[j0,bI];exact .inr (mE.2 ⟨t,ht,ih t ht u x hu hx⟩)
theorem BH:∀ t:Tm,(j0 t).length=bi t:=by
 refine Tm.ind λk n l ih=>?_;simp only[j0,bi,aI];have:(mD l).length=cz l:=by
  induction l with
  |nil=>rfl
  |cons t l ihl=>simp only[mD,cz,aB,ih t (aX ..),ihl λt ht=>ih t (aT _ ht)]
 omega
theorem pD:∀ (t:Tm),bW t=true->∀ x∈j0 t,bW x=true:=by
 refine Tm.ind λk n l ih=>?_;intro hv x hx;simp only[j0,bI] at hx;rcases hx with rfl | hx
 .exact hv
 .obtain⟨t,ht,hx⟩:=mE.1 hx
  exact ih t ht ((fe hv).2.2.2 t ht) x hx
theorem Kn.loc {I:List Tm} {b:Bool} {t:Tm} (h:Kn I b t):(b=false->∃ u∈I,t∈j0 u):=by
 induction h with
 |@item t h=>exact λ_=>⟨t,h,yF t⟩
 |@opn k n a b _ hk _ i1 i2=>intro _;obtain⟨u,hu,h⟩:=i1 rfl;exact⟨u,hu,Lk u _ b h (by simp only[j0,bI,mD,bh];exact .inr (.inr (.inl (yF b))))⟩
 |of _ _=>intro h;cases h
 |data=>intro h;cases h
 |make _ _ _=>intro h;cases h
theorem Kn.key {I:List Tm} {n:Int} {l:List Tm} (h:Kn I true (.mk 2 n l)):Kn I false (.mk 2 n l):=by
 cases h with
 |of h=>exact h
 |make h _=>exact absurd rfl h
