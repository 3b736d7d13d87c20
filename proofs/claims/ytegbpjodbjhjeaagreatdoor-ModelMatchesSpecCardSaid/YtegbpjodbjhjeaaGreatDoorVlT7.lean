/- Layer 15: the specification's Compare, Valid, Small, Same, Has. -/
import Derived.Test.YtegbpjodbjhjeaaGreatDoorVlT2
import Derived.Test.YtegbpjodbjhjeaaGreatDoorVlWord
set_option maxHeartbeats 8000000
set_option linter.all false
namespace Go.Proofs.YtegbpjodbjhjeaaGreatDoor
open Go Go.Vl
variable {G:Gl}
set_option maxRecDepth 4000
def oh:=jj @pkA (jj @ptA @pkT)
theorem ol:∀ t u:Tm,bi t<=1000000000->bi u<=1000000000->FnOK Tryz.prog G 28 [.agg (tmC t),.agg (tmC u)] (i64 (jJ t u)):=by
 refine Tm.ind λk n l ih=>?_;intro u hs hu;obtain⟨k',n',m⟩:=u;have ej:cz l+1<=1000000000:=by simp only[bi] at hs;omega
 have fB:cz m+1<=1000000000:=by simp only[bi] at hu;omega
 have JU:=iG l;have akA:=iG m;have ec:jJ (.mk k n l) (.mk k' n' m)=orJ (me k k') (orJ (me n n') (mf l m)):=rfl;refine bD (rs:=[.tmp 4]) false [] mixed Tryz.func28 rfl rfl rfl rfl (by kernel_rfl) (by simp) rfl rfl ?_;simp only[oh,seval];refine aJ (λhk=>?_) (λhk=>?_)
 .have hk:¬ k=k':=by simpa using hk
  simp only[oh,seval];refine aJ (λh=>?_) (λh=>?_)
  .have h:k<k':=by simpa using h
   simp only[pkA,seval];rw[ec];simp[orJ,me,h]
  .have h:¬ k<k':=by simpa using h
   simp only[pkA,seval];rw[ec];simp[orJ,me,h];omega
 have hk:k=k':=by simpa using hk
 subst hk;simp only[oh,seval];refine aJ (λhn=>?_) (λhn=>?_)
 .have hn:¬ n=n':=by simpa using hn
  simp only[oh,seval];refine aJ (λh=>?_) (λh=>?_)
  .have h:n<n':=by simpa using h
   simp only[pkA,seval];rw[ec];simp[orJ,me,h]
  .have h:¬ n<n':=by simpa using h
   simp only[pkA,seval];rw[ec];simp[orJ,me,h];omega
 have hn:n=n':=by simpa using hn
 subst hn;have ec':jJ (.mk k n l) (.mk k n m)=mf l m:=by rw[ec];simp[orJ,me]
 simp only[pkA,seval];refine cm (λi:Nat=>hdS [(2,.bp 0 0),(3,.bp 1 0),(5,i64 i)] [(tmC (.mk k n l)).map .c,(tmC (.mk k n m)).map .c]) (λi=>l.length - i) (λi=>i<=l.length/\i<=m.length/\mf l m=mf (l.drop i) (m.drop i)) 0 ⟨ar _,ar _,rfl⟩ ?_ ?_
 .exact bT (by simp only[eu,aK,aQ,iY];rfl) (ar _) (ai _) (by simp[FL,aw]) ⟨by simp[aw],by simp[],trivial⟩
 rintro i ⟨hi,him,he⟩ R bN b8 db;have Wy:(i=l.length∨i=m.length)->mf l m=if l.length<m.length then -1 else if m.length<l.length then 1 else 0:=by
  rintro(h | h)
  .rw[he,h,gd,yG,dh]
   by_cases h2:l.length<m.length
   .rw[if_pos (by omega),if_pos h2]
   .rw[if_neg (by omega),if_neg h2,if_neg (by omega)]
  .rw[he,h,gd,IA]
   by_cases h2:m.length<l.length
   .rw[if_pos h2,if_neg (by omega)]
   .rw[if_neg h2,if_neg (by omega)]
 have abx:(i=l.length∨i=m.length)->∀ fr,fr 2=.bp 0 0->fr 3=.bp 1 0->R (.exit 0) ⟨fr,bxs [(tmC (.mk k n l)).map .c,(tmC (.mk k n m)).map .c],2⟩:=by
  intro h fr f2 f3;have hf:=Wy h;refine b8 _ _ ?_;simp only[oh,seval,tsC,f2,f3];refine aJ (λbF=>?_) (λfu=>?_)
  .have bF:l.length<m.length:=by simpa using bF
   simp only[pkA,seval];rw[ec',hf,if_pos bF]
  .have fu:¬ l.length<m.length:=by simpa using fu
   simp only[oh,seval,tsC,f2,f3];refine aJ (λbF=>?_) (λMh=>?_)
   .have bF:m.length<l.length:=by simpa using bF
    simp only[pkA,seval];rw[ec',hf,if_neg fu,if_pos bF]
   .have Mh:¬ m.length<l.length:=by simpa using Mh
    simp only[pkA,seval];rw[ec',hf,if_neg fu,if_neg Mh]
 simp only[oh,seval,tsC];refine fQ (λbF=>?_) (λfu=>?_)
 .have bF:i<l.length:=by simpa using bF
  simp only[oh,seval,tsC];refine aJ (λsP=>?_) (λfu=>?_)
  .have sP:i<m.length:=by simpa using sP
   simp only[oh,seval,tsC];refine cR dc rfl cV (by decide) (aC i) (c:=tmC l[i]) (by simp[bF]) (bG _) ?_;simp only[oh,seval,tsC,jr (bG _)];refine cR dc rfl cV (by decide) (aC i) (c:=tmC m[i]) (by simp[sP]) (bG _) ?_;simp only[pkA,seval,jr (bG _)];refine ax rfl (ih l[i] (aH bF) m[i] (by have:=fE (aH bF);omega) (by have:=fE (aH sP);omega)) (λh=>by cases h) ?_;have e1:=Dz bF sP;have sW:=dM (n:=(i:Int)+1) (k:=i+1) (by omega) (by omega);simp only[pkA,seval];refine aJ (λgu=>?_) (λkL=>?_)
   .have gu:¬ jJ l[i] m[i]=0:=by simpa using gu
    simp only[pkA,seval];refine db _ ?_;simp only[pkA,seval];rw[ec',he,e1,orJ,if_neg gu]
   .have kL:jJ l[i] m[i]=0:=by simpa using kL
    simp only[pkA,seval];refine bN (i+1) _ ⟨bF,sP,?_⟩ (by omega) (bT (by simp only[eu,aK,aQ,iY];rfl) (ar _) (ai _) ?_ ⟨by simp[bxs],by simp[bxs],trivial⟩)
    .rw[he,e1,orJ,if_pos kL]
    .simp[FL,aw,sW]
  .have fu:i=m.length:=by simp[] at fu;omega
   simp only[pkA];exact abx (.inr fu) _ (by simp[aw]) (by simp[aw])
 .have fu:i=l.length:=by simp[] at fu;omega
  simp only[pkA,seval];exact abx (.inl fu) _ (by simp[aw]) (by simp[aw])
theorem Y8 {l m:List Tm} {i:Nat} (h1:i<l.length) (h2:i<m.length):(l.drop i=m.drop i)↔(l[i]=m[i]/\l.drop (i+1)=m.drop (i+1)):=by rw[cw h1,cw h2,cj]
def MZ:=jj @pkA @ptA
theorem IB (l m:List Tm) (hs:cz l<=1000000000) (xP:cz m<=1000000000):FnOK Tryz.prog G 34 [.c (tsC l),.c (tsC m)] (bo (decide (l=m))):=by
 have JU:=iG l;refine bD (rs:=[.tmp 4]) false [] mixed Tryz.func34 rfl rfl rfl rfl (by kernel_rfl) (by simp) rfl rfl ?_;simp only[MZ,seval,tsC];refine aJ (λgu=>?_) (λkL=>?_)
 .have gu:¬ l.length=m.length:=λh=>by simp[h] at gu
  simp only[pkA,seval];have:¬ l=m:=λh=>gu (by rw[h]);rw[eY this]
 have kL:l.length=m.length:=by simp at kL;omega
 simp only[pkA,seval];refine cm (λi:Nat=>hdS [(0,.c (.sl (l.map tmC))),(1,.c (.sl (m.map tmC))),(5,i64 i)] []) (λi=>l.length - i) (λi=>i<=l.length/\(l=m↔l.drop i=m.drop i)) 0 ⟨ar _,Iff.rfl⟩ ?_ ?_
 .exact bT rfl (ar _) (ai _) (by simp[FL,aw]) trivial
 rintro i ⟨hi,he⟩ R bN b8 db;simp only[MZ,seval];refine aJ (λbF=>?_) (λfu=>?_)
 .have bF:i<l.length:=by simpa using bF
  have sP:i<m.length:=by omega
  simp only[pkA,seval];refine cR dc rfl cV (by decide) (aC i) (c:=tmC l[i]) (by simp[bF]) (bG _) ?_;simp only[pkA,seval,jr (bG _)];refine cR dc rfl cV (by decide) (aC i) (c:=tmC m[i]) (by simp[sP]) (bG _) ?_;simp only[pkA,seval,jr (bG _)];have q1:=fE (aH bF);have q2:=fE (aH sP);refine ax rfl (ol l[i] m[i] (by omega) (by omega)) (λh=>by cases h) ?_;have e1:=Y8 bF sP;have sW:=dM (n:=(i:Int)+1) (k:=i+1) (by omega) (by omega);simp only[pkA,seval];refine aJ (λgu=>?_) (λoH=>?_)
  .have gu:¬ jJ l[i] m[i]=0:=by simpa using gu
   rw[iF] at gu;simp only[pkA,seval];refine db _ ?_;simp only[pkA,seval];have:¬ l=m:=λh=>gu (e1.1 (he.1 h)).1;rw[eY this]
  .have oH:jJ l[i] m[i]=0:=by simpa using oH
   rw[iF] at oH;simp only[pkA,seval];refine bN (i+1) _ ⟨bF,?_⟩ (by omega) (bT rfl (ar _) (ar _) ?_ trivial)
   .rw[he,e1];simp[oH]
   .simp[FL,aw,sW]
 .have:i=l.length:=by simp at fu;omega
  subst this;simp only[pkA];refine b8 _ _ ?_;simp only[pkA,seval];have:l=m:=he.2 (by rw[gd,kL,gd]);rw[dU this]
theorem CL {l:List Tm} {t:Tm} {i:Nat} (h:i<l.length):t∈l.drop i↔(l[i]=t∨t∈l.drop (i+1)):=by rw[cw h,bI];constructor<;>(rintro(h | h);exact .inl h.symm;exact .inr h)
theorem Y9 (l:List Tm) (t:Tm) (hs:cz l<=1000000000) (ht:bi t<=1000000000):FnOK Tryz.prog G 104 [.c (tsC l),.agg (tmC t)] (bo (decide (t∈l))):=by
 have JU:=iG l;refine bD (rs:=[.tmp 4]) false [] mixed Tryz.func104 rfl rfl rfl rfl (by kernel_rfl) (by simp) rfl rfl ?_;simp only[pkA,seval,tsC];refine cm (λi:Nat=>hdS [(0,.c (.sl (l.map tmC))),(3,.bp 0 0),(5,i64 i)] [(tmC t).map .c]) (λi=>l.length - i) (λi=>i<=l.length/\(t∈l↔t∈l.drop i)) 0 ⟨ar _,Iff.rfl⟩ ?_ ?_
 .exact bT (by simp only[eu,aK,aQ,iY];rfl) (ar _) (ai _) (by simp[FL,aw]) ⟨by simp[],trivial⟩
 rintro i ⟨hi,he⟩ R bN b8 db;simp only[MZ,seval];refine aJ (λbF=>?_) (λfu=>?_)
 .have bF:i<l.length:=by simpa using bF
  simp only[pkA,seval];refine cR dc rfl cV (by decide) (aC i) (c:=tmC l[i]) (by simp[bF]) (bG _) ?_;simp only[oh,seval,jr (bG _)];have q1:=fE (aH bF);refine ax rfl (ol l[i] t (by omega) ht) (λh=>by cases h) ?_;have e1:=CL (t:=t) bF;have sW:=dM (n:=(i:Int)+1) (k:=i+1) (by omega) (by omega);simp only[pkA,seval];refine aJ (λkL=>?_) (λgu=>?_)
  .have kL:jJ l[i] t=0:=by simpa using kL
   rw[iF] at kL;simp only[pkA,seval];refine db _ ?_;simp only[pkA,seval];rw[dU (he.2 (e1.2 (.inl kL)))]
  .have gu:¬ jJ l[i] t=0:=by simpa using gu
   rw[iF] at gu;simp only[pkA,seval];refine bN (i+1) _ ⟨bF,?_⟩ (by omega) (bT (by simp only[eu,aK,aQ,iY];rfl) (ar _) (ai _) ?_ ⟨by simp[bxs],trivial⟩)
   .rw[he,e1];simp[gu]
   .simp[FL,aw,sW]
 .have:i=l.length:=by simp at fu;omega
  subst this;simp only[pkA];refine b8 _ _ ?_;simp only[pkA,seval];have:¬ t∈l:=λh=>by have:=he.1 h;rw[gd] at this;cases this
  rw[eY this]
theorem af4 {a b:B} {K:V->Prop} (h:a.length+b.length<=9223372036854775807) (hK:K (sv (a++b))):AA .add (bs8 a) (bs8 b) K:=by
 unfold AA;have e:bs8 a++bs8 b=bs8 (a++b):=by unfold bs8;apply ByteArray.ext;simp
 rw[e];exact⟨by simpa[bs8,ByteArray.size] using h,hK⟩
theorem DD:∀ (f g n:Nat),n<10 ^ f->n<10 ^ g->0<f->0<g->vS f n=vS g n
 |0,_,_,_,_,h,_=>absurd h (Nat.lt_irrefl _)
 |_,0,_,_,_,_,h=>absurd h (Nat.lt_irrefl _)
 |f+1,g+1,n,hf,hg,_,_=>by
  unfold vS;split
  .rfl
  .rename_i hn
   rw[Nat.pow_succ] at hf hg;have hf0:0<f:=by
    rcases kz f with h | h
    .subst h;simp at hf;omega
    .exact h
   have hg0:0<g:=by
    rcases kz g with h | h
    .subst h;simp at hg;omega
    .exact h
   rw[DD f g (n / 10) (by omega) (by omega) hf0 hg0]
theorem af5:(10:Nat) ^ 20=100000000000000000000:=by decide
theorem af6:(10:Nat) ^ 19=10000000000000000000:=by decide
theorem Za {n:Nat} (h:n<10000000000000000000):dec n=if n<10 then[UInt8.ofNat (48+n)] else dec (n / 10)++[UInt8.ofNat (48+n % 10)]:=by
 have e:dec n=if n<10 then[UInt8.ofNat (48+n)] else vS 19 (n / 10)++[UInt8.ofNat (48+n % 10)]:=rfl
 rw[e];split
 .rfl
 .unfold dec
  rw[DD 19 20 (n / 10) (by rw[af6];omega) (by rw[af5];omega) (by decide) (by decide)]
theorem IC:∀ (f n:Nat),(vS f n).length<=f
 |0,_=>ai _
 |f+1,n=>by
  unfold vS;split
  .simp
  .have:=IC f (n / 10)
   simp;omega
theorem M3 (n:Nat):(dec n).length<=20:=IC 20 n
theorem DF (k n:Int):(np k n).length<=24:=by
 unfold np;rw[aB];have h1:(vh k).length<=4:=by
  unfold vh
  repeat' split
  all_goals simp
 have h2:(if qH k=true then dec n.toNat else[]).length<=20:=by split;exact M3 _;simp
 omega
theorem yH:∀ l:List By,(m0 l).length<=(l.map λx=>x.length+1).sum
 |[]=>by simp[m0]
 |[a]=>by simp[m0]
 |a::b::l=>by have:=yH (b::l);simp only[m0,aB,aI,aN,List.sum_cons] at *;omega
theorem DG {l:List Tm} (h:∀ t∈l,(jo t).length+1<=31*bi t):((jc l).map λx=>x.length+1).sum<=31*cz l:=by
 induction l with
 |nil=>simp[jc]
 |cons t l ih=>have h1:=h t (aX ..);have h2:=ih λt ht=>h t (aT _ ht);simp only[jc,aN,List.sum_cons,cz];omega
theorem PY:∀ t:Tm,(jo t).length+1<=31*bi t:=by
 refine Tm.ind λk n l ih=>?_;have h1:=DF k n;have h2:=yH (jc l);have h3:=DG ih;simp only[jo,bi,aB];split
 .simp;omega
 .simp only[aI,aB,aL];omega
theorem DI (l:List Tm) (i:Nat):(m0 (jc (l.take i))).length<=31*cz l:=by have h1:=yH (jc (l.take i));have h2:=DG (l:=l.take i) λt _=>PY t;have h3:=BN l i;omega
def owT (l:List Tm):V:=.ow (if l.isEmpty then none else some (47,3)) (l.map tmC)
theorem UD {l:List Tm}:(owT l).fz=.c (.sl (l.map tmC)):=rfl
theorem rR {l:List Tm}:(owT l).isOw=true:=rfl
theorem BP {l:List Tm}:∀ x∈l.map tmC,x.length=3:=λx hx=>by obtain⟨t,_,rfl⟩:=ce.1 hx;exact bG t
theorem OO {l m:List Tm} {K:V->Prop} (h:l.length+m.length<=1000000000) (hK:K (owT (l++m))):dL Tryz.prog 33 (owT l) (.c (.sl (m.map tmC))) K:=by
 unfold owT;rw[adt];refine⟨⟨by cases l<;>simp,BP⟩,⟨by simp only[aj];omega,by simp only[aj];omega,BP⟩,?_⟩;have e:(if(m.map tmC).isEmpty=true then(if l.isEmpty=true then none else some (47,3)) else some (47,3))=if(l++m).isEmpty=true then none else some (47,3):=by cases l<;>cases m<;>simp
 rw[e,<- dl];exact hK
theorem ID {l:List Tm} {x:Tm} {K:V->Prop} (h:l.length+1<=1000000000) (hK:K (owT (l++[x]))):dL Tryz.prog 33 (owT l) (.c (.sl [tmC x])) K:=OO (m:=[x]) h hK
def lJ (t:Tm) (m:List Tm):Bool:=m.all λx=>ltT x t
def BQ (t:Tm) (m:List Tm):List Tm:=if lJ t m=true then m else m.takeWhile (λx=>ltT x t)++t::m.dropWhile (λx=>ltT x t)
theorem adx {t:Tm} {m:List Tm} (h:lJ t m=true):m.takeWhile (λx=>ltT x t)=m/\m.dropWhile (λx=>ltT x t)=[]:=by
 induction m with
 |nil=>exact⟨rfl,rfl⟩
 |cons x m ih=>simp only[lJ,aK,aA] at h;obtain⟨i1,i2⟩:=ih h.2;simp only[jS,jT,h.1,bY,i1,i2,and_self]
theorem M4 {t x:Tm}:∀ {m:List Tm},(m++[x]).takeWhile (λx=>ltT x t)=(if lJ t m=true then m++(if ltT x t=true then[x] else[]) else m.takeWhile (λx=>ltT x t))/\(m++[x]).dropWhile (λx=>ltT x t)=(if lJ t m=true then(if ltT x t=true then[] else[x]) else m.dropWhile (λx=>ltT x t)++[x])
 |[]=>by simp only[fZ,jS,jT,lJ,aQ,bY,List.takeWhile_nil,List.dropWhile_nil];exact⟨trivial,trivial⟩
 |y::m=>by
  obtain⟨i1,i2⟩:=@M4 t x m;simp only[dP,jS,jT,i1,i2,lJ,aK];cases h:ltT y t
  .simp
  .simp only[bY,dI]
   rcases Bool.eq_false_or_eq_true (m.all λx=>ltT x t) with h2 | h2
   .simp only[h2,↓reduceIte,and_self]
   .simp only[h2,↓reduceIte,ay,and_self]
theorem PZ {t x:Tm} {m:List Tm}:BQ t (m++[x])=if lJ t m=true/\ltT x t=false then BQ t m++[t]++[x] else BQ t m++[x]:=by
 unfold BQ;obtain⟨h1,h2⟩:=@M4 t x m;rw[h1,h2];have ha:lJ t (m++[x])=(lJ t m&&ltT x t):=by simp[lJ]
 rw[ha];cases hm:lJ t m<;>cases hx:ltT x t<;>simp
theorem UE {l:List Tm} {t:Tm} (h:t∉l):tO l t=if lJ t l=true then BQ t l++[t] else BQ t l:=by
 unfold tO BQ;rw[if_neg h];split
 .rename_i ha
  obtain⟨h1,h2⟩:=adx ha;rw[h1,h2]
 .rfl
theorem UF {t:Tm} {m:List Tm}:(BQ t m).length<=m.length+1:=by
 unfold BQ;split
 .omega
 .have:=kK List.length (List.takeWhile_append_dropWhile (p:=λx=>ltT x t) (l:=m))
  rw[aB] at this;rw[aB,aI];omega
theorem IE {l:List Tm} {t:Tm} {i:Nat} (h:i<l.length) (h1:t∉l.take i) (h2:l[i]≠t):t∉l.take (i+1):=by
 rw[aR h,bh,bu];rintro(h3 | h3)
 .exact h1 h3
 .exact h2 h3.symm
theorem FU (l:List Tm) (t:Tm) (hs:cz l<=900000000) (ht:bi t<=900000000):FnOK Tryz.prog G 100 [.c (tsC l),.agg (tmC t)] (.c (tsC (tO l t))):=by
 have JU:=iG l;refine bD (rs:=[.tmp 4]) true [30,34,43] mixed Tryz.func100 rfl rfl rfl rfl (by kernel_rfl) (by simp) rfl rfl ?_;simp only[pkA,seval,tsC];refine cm (λi:Nat=>hdS [(0,.c (.sl (l.map tmC))),(3,.bp 0 0),(5,owT (BQ t (l.take i))),(6,bo (!lJ t (l.take i))),(7,i64 i)] [(tmC t).map .c]) (λi=>l.length - i) (λi=>i<=l.length/\t∉l.take i) 0 ⟨ar _,by simp⟩ ?_ ?_
 .exact bT (by simp only[eu,aK,aQ,iY];rfl) (ar _) (ai _) (by simp[FL,aw,BQ,lJ,owT]) ⟨by simp[],trivial⟩
 rintro i ⟨hi,hnm⟩ R bN b8 db;have Cn:=@UF t (l.take i);rw[bb] at Cn;simp only[MZ,seval];refine aJ (λbF=>?_) (λfu=>?_)
 .have bF:i<l.length:=by simpa using bF
  simp only[oh,seval];refine cR dc rfl cV (by decide) (aC i) (c:=tmC l[i]) (by simp[bF]) (bG _) ?_;simp only[pkA,seval,jr (bG _)];have q1:=fE (aH bF);refine ax rfl (ol t l[i] (by omega) (by omega)) (λh=>by cases h) ?_;have sW:=dM (n:=(i:Int)+1) (k:=i+1) (by omega) (by omega);simp only[pkA,seval];refine aJ (λkL=>?_) (λgu=>?_)
  .have kL:jJ t l[i]=0:=by simpa using kL
   rw[iF] at kL;simp only[pkA,seval];refine db _ ?_;simp only[pkA];have:t∈l:=kL▸aH bF;unfold tO;rw[if_pos this];rfl
  have gu:¬ jJ t l[i]=0:=by simpa using gu
  have akB:l[i]≠t:=λh=>gu (iF.2 h.symm);have aeN:=IE bF hnm akB;have hlx:ltT l[i] t=!decide (jJ t l[i]<0):=by have h1:=@BE l[i] t;unfold ltT;cases h:decide (jJ t l[i]<0)<;>simp at h ⊢<;>omega
  have Mi:=@PZ t l[i] (l.take i);rw[<- aR bF] at Mi;have QM:lJ t (l.take (i+1))=(lJ t (l.take i)&&ltT l[i] t):=by rw[aR bF];unfold lJ;rw[List.all_append];simp
  have hm1:(l.take i).length<=i:=List.length_take_le ..
  simp only[pkA,seval];refine fQ (λaeO=>?_) (λsg=>?_)
  .have aeO:decide (jJ t l[i]<0)=true:=aeO
   rw[aeO,dq] at hlx;rw[hlx,cv] at QM;simp only[pkA,seval];refine aJ (λhnp=>?_) (λhp=>?_)
   .have hnp:lJ t (l.take i)=true:=by simpa using hnp
    rw[if_pos ⟨hnp,hlx⟩] at Mi;simp only[oh,seval,rR];refine ID (by omega) ?_;simp only[pkA,seval,rR];refine cR dc rfl cV (by decide) (aC i) (c:=tmC l[i]) (by simp[bF]) (bG _) ?_;simp only[oh,seval,jr (bG _)];refine ID (by(try simp only[aB,dR]);omega) ?_
    simp only[pkA,seval,rR];refine bN (i+1) _ ⟨bF,aeN⟩ (by omega) (bT (by simp only[eu,aK,aQ,iY];rfl) (ar _) (ai _) ?_ ⟨by simp[bxs],trivial⟩);simp only[FL,aw,seval,sW,Mi,QM,cO,and_self]
   .have hp:lJ t (l.take i)=false:=by simpa using hp
    rw[if_neg (by simp[hp])] at Mi;simp only[pkA,seval,rR];refine cR dc rfl cV (by decide) (aC i) (c:=tmC l[i]) (by simp[bF]) (bG _) ?_;simp only[oh,seval,jr (bG _)];refine ID (by(try simp only[aB,dR]);omega) ?_
    simp only[pkA,seval,rR];refine bN (i+1) _ ⟨bF,aeN⟩ (by omega) (bT (by simp only[eu,aK,aQ,iY];rfl) (ar _) (ai _) ?_ ⟨by simp[bxs],trivial⟩);simp only[FL,aw,seval,sW,Mi,QM,hp,cO,and_self]
  .have sg:decide (jJ t l[i]<0)=false:=sg
   rw[sg,cO] at hlx;rw[hlx,cK] at QM;rw[if_neg (by simp[hlx])] at Mi
   .simp only[pkA,seval,rR]
    refine cR dc rfl cV (by decide) (aC i) (c:=tmC l[i]) (by simp[bF]) (bG _) ?_;simp only[oh,seval,jr (bG _)];refine ID (by(try simp only[aB,dR]);omega) ?_
    simp only[pkA,seval,rR];refine bN (i+1) _ ⟨bF,aeN⟩ (by omega) (bT (by simp only[eu,aK,aQ,iY];rfl) (ar _) (ai _) ?_ ⟨by simp[bxs],trivial⟩);simp only[FL,aw,seval,sW,Mi,QM,and_self]
 .have:i=l.length:=by simp at fu;omega
  subst this;rw[ct] at hnm Cn;have hpo:=UE hnm;simp only[pkA];refine b8 _ _ ?_;simp only[pkA,seval];refine aJ (λhnp=>?_) (λhp=>?_)
  .have hnp:lJ t l=true:=by simpa using hnp
   rw[if_pos hnp] at hpo;simp only[oh,seval,rR];refine ID (by rw[ct];omega) ?_;simp only[pkA,seval,rR,UD];rw[hpo,ct];rfl
  .have hp:lJ t l=false:=by simpa using hp
   rw[if_neg (by simp[hp])] at hpo;simp only[pkA,seval,UD];rw[hpo,ct];rfl
