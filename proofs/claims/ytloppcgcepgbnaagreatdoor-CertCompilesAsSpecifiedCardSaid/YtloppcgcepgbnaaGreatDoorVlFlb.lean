/- Maps, fifth part: maps that are sets, and maps that count. -/
import Derived.Test.YtloppcgcepgbnaaGreatDoorVlPack
import Derived.Test.YtloppcgcepgbnaaGreatDoorVlEnv
set_option linter.all false
namespace Go.Vl
open Go Go.RowKit
section
variable {P:Program} {α:Type} [DecidableEq α] {c:α->List C} {s:S} {T kt et:TypeId} {tT tk te:TI} {ks:List EK} {K:S->Prop} {KV:V->Prop} {i:Nat}
def pE (l:List α) (a:α):List α:=if a∈l then l else l++[a]
theorem J7 {l:List α} {a b:α}:b∈pE l a↔b∈l∨b=a:=by
 unfold pE;split
 .rename_i h
  exact⟨.inl,λh'=>by rcases h' with h' | rfl;exact h';exact h⟩
 .simp
theorem uu {l:List α} {a:α}:(l.findIdx? (λb=>decide (a=b))).isSome=decide (a∈l):=by rw[List.findIdx?_isSome,kY];simp only[eI,bI];exact⟨λ⟨x,h1,h2⟩=>h2▸h1,λh=>⟨a,h,rfl⟩⟩
theorem wP {l:List α} {a:α} {j:Nat} (h:l.findIdx? (λb=>decide (a=b))=some j):l[j]?=some a:=by obtain⟨h1,h2,_⟩:=eF.1 h;rw[ah h1,bw h2]
def Tm {β:Type} (c:α->List C) (h:β->V) (bs:List Nat) (cl:Nat) (l:List (α×β)):List V:=.mk bs cl::nf (λa=>.agg (c a)) h l
theorem XC {β:Type} {h:β->V} (hh:∀ b m,(h b).ltB m=true) {bs:List Nat} {cl m:Nat}:∀ {l:List (α×β)},(Tm c h bs cl l).all (λx=>x.ltB m)=true:=by
 intro l;have:∀ l:List (α×β),(nf (λa=>V.agg (c a)) h l).all (λx=>x.ltB m)=true:=λl=>by
  induction l with
  |nil=>rfl
  |cons p l ih=>obtain⟨a,b⟩:=p;simp only[nf,aY,ih,hh];rfl
 simp only[Tm,aY,this];rfl
theorem P8 {β:Type} {h:β->V} {z:β} (hT:ti P T=some tT) (hm:tT.kd=.map kt et) (hk:ti P kt=some tk) (kK:tk.agg=true) (Q8:tk.eqs=some ks) (he:ti P et=some te) (hz:oZ te=some (h z)) (ha:zaB P et=true)
 (hl:∀ a,(c a).length=ks.length) (yQ:∀ a b,iG ks (c a) (c b)=some (decide (a=b))) {a:α} {bs:List Nat} {cl:Nat} {l:List (α×β)} (hb:s.bx i=Tm c h bs cl l) (hi:i<s.nb)
 {KM:Nat->List Nat->Nat->List V->Option Nat->V->Prop} (hK:KM i bs cl (nf (λa=>.agg (c a)) h l) (((l.map (·.1)).findIdx? (λb=>decide (a=b)))) (h z)):gX P T s (.mr i) (.agg (c a)) KM:=by
 refine pK (ks:=ks) (kc:=c a) (kcs:=(l.map (·.1)).map c) hT hm hk Q8 he (by simp[V.kcs,kK]) hz hb ?_ (ze hl yQ a _ 0) hi (hl a) (by rw[yQ];simp) ha ?_
 .rw[uo (c:=c) (λa=>by simp[V.kcs,kK]),eU];rfl
 .have:(Option.map (0+·) ((l.map (·.1)).findIdx? (λb=>decide (a=b))))=(l.map (·.1)).findIdx? (λb=>decide (a=b)):=by cases(l.map (·.1)).findIdx? (λb=>decide (a=b))<;>simp
  rw[this];exact hK
def boV (b:Bool):V:=.c (.lit (.bool b))
def XD (c:α->List C) (bs:List Nat) (cl:Nat) (l:List α):List V:=Tm c boV bs cl (l.map λa=>(a,true))
theorem XE {bs:List Nat} {cl m:Nat} {l:List α}:(XD c bs cl l).all (λx=>x.ltB m)=true:=XC λ_ _=>rfl
theorem J8 {l:List α}:(l.map λa=>(a,true)).map (·.1)=l:=by
 rw[eU];conv=>rhs;rw[<- List.map_id l]
 rfl
theorem Tn (hT:ti P T=some tT) (hm:tT.kd=.map kt et) (hk:ti P kt=some tk) (kK:tk.agg=true) (Q8:tk.eqs=some ks) (he:ti P et=some te) (hz:oZ te=some (boV false)) (ha:zaB P et=true)
 (hl:∀ a,(c a).length=ks.length) (yQ:∀ a b,iG ks (c a) (c b)=some (decide (a=b))) {a:α} {bs:List Nat} {cl:Nat} {l:List α} (hb:s.bx i=XD c bs cl l) (hi:i<s.nb)
 (hK:KV (.c (.lit (.bool (decide (a∈l)))))):fH P T s (.mr i) (.agg (c a)) false KV:=by
 unfold fH;refine P8 (h:=boV) (z:=false) hT hm hk kK Q8 he hz ha hl yQ hb hi ?_;rw[J8];have jF:=uu (l:=l) (a:=a);cases hf:l.findIdx? (λb=>decide (a=b)) with
 |none=>rw[hf] at jF;rw[<- jF] at hK;exact hK
 |some j=>rw[hf] at jF;rw[<- jF] at hK;have hj:=wP hf;have e:=(rW (f:=λa=>V.agg (c a)) (h:=boV) (l.map λa=>(a,true)) j (a,true) (by simp[hj])).1;simp only[e];exact hK
structure MOk (bs:List Nat) (cl:Nat) (kl:List α):Prop where
 len:bs.length=kl.length
 bnd:bs.Nodup
 lt:∀ b∈bs,b<cl
 knd:kl.Nodup
theorem MOk.nil:MOk [] 0 ([]:List α):=⟨rfl,gI,by simp,gI⟩
theorem N4 {l:List α} {a:α} (h:l.Nodup):(pE l a).Nodup:=by
 unfold pE;split
 .exact h
 .rename_i hn
  rw[iV];exact⟨h,by simp,λx hx y hy=>by simp at hy;subst hy;rintro rfl;exact hn hx⟩
def P9 (bs seen:List Nat):Nat:=(bs.filter λb=>!decide (b∈seen)).length
theorem XG {bs seen:List Nat} {b:Nat} (hb:b∈bs) (hn:b∉seen):P9 bs (seen++[b])<P9 bs seen:=by
 unfold P9;have e:(λx=>!decide (x∈seen++[b]))=λx=>(!decide (x=b))&&(!decide (x∈seen)):=by funext x;by_cases h1:x∈seen<;>by_cases h2:x=b<;>simp[h1,h2]
 rw[e,<- List.filter_filter];have hm:b∈bs.filter (λx=>!decide (x∈seen)):=eW.2 ⟨hb,by simp[hn]⟩;refine Nat.lt_of_le_of_ne (du _ _) λh=>?_;have:=List.length_filter_eq_length_iff.1 h b hm;simp at this
end
section
variable {P:Program} {G:Gl} {tr:List Nat} {fr:Nat->V} {bx:Nat->List V} {nb:Nat} {K:S->Prop} {KV:V->Prop} {Q:VE->S->Prop}
variable {α:Type} {c:α->List C} {sz:Nat}
theorem ac1 {P S:List α} {x y:α} {k:Nat} (hk:P.length=k):(P++x::S).set k y=P++y::S:=by subst hk;simp
def flb (c:α->List C) (l:List α):List V:=(l.map c).flatten.map .c
theorem uv {x:α} {l:List α}:flb c (x::l)=(c x).map .c++flb c l:=by simp[flb]
theorem nY {l m:List α}:flb c (l++m)=flb c l++flb c m:=by simp[flb]
theorem lX (hc:∀ x,(c x).length=sz):∀ l:List α,(flb c l).length=l.length*sz
 |[]=>by simp[flb]
 |x::l=>by rw[uv,ae,lX hc l];simp[hc,eA,Nat.add_comm]
theorem Qa {l:List α} {i:Nat} {x:α} (h:l[i]?=some x):∃ a b,l=a++x::b/\a.length=i:=by obtain⟨hi,hx⟩:=ai.1 h;refine⟨l.take i,l.drop (i+1),?_,by simp;omega⟩;rw[<- hx,List.getElem_cons_drop,dK]
theorem XH (hc:∀ x,(c x).length=sz) {l:List α} {i:Nat} {x:α} (h:l[i]?=some x):((flb c l).drop (i*sz)).take sz=(c x).map .c:=by obtain⟨a,b,rfl,rfl⟩:=Qa h;rw[nY,<- lX hc a,List.drop_left,uv];exact k9 (by simp[hc])
theorem ac2 (hc:∀ x,(c x).length=sz) {l:List α} {i:Nat} {y:α} (h:i<l.length):eQ (flb c l) (i*sz) ((c y).map .c)=flb c (l.set i y):=by
 obtain⟨a,b,e,rfl⟩:=Qa (ah h);rw[e,ac1 rfl];simp only[nY,uv,eQ];rw[<- lX hc a,List.take_left];have e1:(flb c a).length+((c y).map V.c).length=(flb c a).length+((c l[a.length]).map V.c).length:=by simp[hc]
 rw[e1,<- gd,List.drop_left,List.drop_left];simp
theorem CB (hc:∀ x,(c x).length=sz) {b i o:Nat} {l:List α} {x:α} (ho:o=i*sz) (hb:b<nb) (h:l[i]?=some x) (hK:KV (.agg (c x))):ldA nb b (flb c l) o sz KV:=by
 subst ho;unfold ldA;rw[XH hc h];have h2:((c x).map V.c).map V.fz=(c x).map V.c:=by simp[eU,j0,V.fz]
 have h3:((c x).map V.c).all V.isPO=true:=by simp[List.all_map,j0,V.isPO]
 rw[h2,h3,xZ];exact⟨hb,⟨by simp[hc],rfl⟩,hK⟩
theorem HI {T e:TypeId} {i j:TI} {k:Nat} {n:Int} {b l cp z:Nat} (hT:ti P T=some i) (hk:i.kd=.slice e) (hj:ti P e=some j) (hs:j.size=z) (hz:z≠0) (hn:n=(k:Nat)) (hl:k<l)
 (hK:KV (.bp b (k*z))):dW P T (.ms b 0 l cp z) (.c (.lit (.int .i64 n))) KV:=by
 subst hn;refine Xd hT hk hj hs hz (ay k) (by omega) ?_;simpa using hK
theorem jc {α:Type} {c:α->List C} {l:List α}:ck (flb c l)=false:=J3
theorem stq (hc:∀ x,(c x).length=sz) {i:Nat} {y:α} {l l':List α} (hi:i<l.length) (h:l.set i y=l'):((i*sz+sz<=(flb c l).length)=True)/\eQ (flb c l) (i*sz) ((c y).map .c)=flb c l':=by
 subst h;refine⟨?_,ac2 hc hi⟩;rw[lX hc,eq_iff_iff,iff_true];have:i*sz+sz=(i+1)*sz:=by rw[eA]
 rw[this];exact aO _ hi
theorem CC {l:List (Nat×V)} {k:Nat} {L:List α} (eG:l.all (λp=>p.2.ltB 1)=true) (hk:k<=1) (hn:1<=nb) (h1:FL l fr) (h2:bx 0=flb c L):S.Le k (hdS l [flb c L]) ⟨fr,bx,nb⟩:=by refine cg ?_ hk hn h1 ⟨h2,trivial⟩;simp only[gz,aY,bn,Bool.and_true,aZ];exact⟨eG,gQ _ _⟩
theorem eJ {s:S} {f:V} {args all cargs:List V} {g:FuncId} {K:S->V->Prop} {r:V} {b0 b1:List V} (hc:gx f args=some (g,all)) (hf:FnB P G g cargs [b0] r [b1]) (eE:all.map V.fz=cargs)
 (hn:s.nb=1) (hb:s.bx 0=b0) (hK:K ⟨s.fr,up s.bx 0 b1,1⟩ r):vcallB P G s f args K:=by
 refine vl hc hf eE (by simp[hn]) ⟨hb,trivial⟩ ?_;have e:(λi=>if i<[b1].length then[b1].getD i [] else s.bx i)=up s.bx 0 b1:=by
  funext i;cases i with
  |zero=>simp
  |succ i=>simp[up]
 rw[e];exact hK
theorem XI {L:List α} {args:List V} (h:args.all (λv=>v.ltB 1)=true):lD args [flb c L]=true:=by simp only[lD,aY,bn,Bool.and_true,aZ];exact⟨h,gQ _ _⟩
end
section
variable {α:Type} {c:α->List C} {sz:Nat}
theorem ac3 {fr:Nat->V} {bx:Nat->List V} {nb b:Nat} {l:List α} (hb:b<nb) (h:bx b=flb c l):AD ⟨fr,bx,nb⟩ b=some (l.map c).flatten:=by
 unfold AD;simp only[hb,cZ,h,flb];generalize (l.map c).flatten=cs;induction cs with
 |nil=>rfl
 |cons x cs ih=>simp only[bB,fk,ih];rfl
theorem XJ (hc:∀ x,(c x).length=sz) {l:List α} {i:Nat} (h:i<=l.length):(flb c l).take (i*sz)=flb c (l.take i):=by
 have e:flb c l=flb c (l.take i)++flb c (l.drop i):=by rw[<- nY,dK]
 rw[e];exact k9 (by rw[lX hc,aQ,bR h])
theorem To (hc:∀ x,(c x).length=sz) {l:List α} {i:Nat} (h:i<=l.length):(flb c l).drop (i*sz)=flb c (l.drop i):=by
 have e:flb c l=flb c (l.take i)++flb c (l.drop i):=by rw[<- nY,dK]
 rw[e];exact List.drop_left' (by rw[lX hc,aQ,bR h])
theorem ac4 (hc:∀ x,(c x).length=sz) {l m:List α} {i:Nat} (h:i+m.length<=l.length):eQ (flb c l) (i*sz) (flb c m)=flb c (l.take i++m++l.drop (i+m.length)):=by
 unfold eQ;have e:i*sz+(flb c m).length=(i+m.length)*sz:=by rw[lX hc,df]
 rw[e,XJ hc (by omega),To hc (by omega),<- nY,<- nY]
theorem Tq (hc:∀ x,(c x).length=sz) {l:List α} {a:Nat} (h:a<=l.length):(l.map c).flatten.drop (a*sz)=((l.drop a).map c).flatten:=by
 have e:(l.map c).flatten=((l.take a).map c).flatten++((l.drop a).map c).flatten:=by rw[<- dm,<- dh,dK]
 have hl:∀ m:List α,(m.map c).flatten.length=m.length*sz:=λm=>by have:=lX hc m;unfold flb at this;rwa [au] at this
 rw[e];exact List.drop_left' (by rw[hl,aQ,bR h])
theorem ye (hc:∀ x,(c x).length=sz):∀ (n:Nat) (l:List α),n<=l.length->nP sz n (l.map c).flatten=(l.take n).map c
 |0,_,_=>rfl
 |n+1,[],h=>by simp at h
 |n+1,x::l,h=>by simp only[bB,cE,nP,fS];rw[k9 (hc x),List.drop_left' (hc x),ye hc n l (by simpa using h)]
theorem Fb (hc:∀ x,(c x).length=sz) {fr:Nat->V} {bx:Nat->List V} {nb b o a n:Nat} {l:List α} (hb:b<nb) (h:bx b=flb c l) (ho:o=a*sz) (hn:a+n<=l.length):nJ ⟨fr,bx,nb⟩ b o n sz=some (.sl (((l.drop a).take n).map c)):=by
 subst ho;unfold nJ;rw[ac3 hb h];have hl:(l.map c).flatten.length=l.length*sz:=by have:=lX hc l;unfold flb at this;rwa [au] at this
 have hm:a*sz+n*sz<=l.length*sz:=by rw[<- df];exact aO _ hn
 simp only[hl,hm,cZ];rw[Tq hc (by omega),ye hc n _ (by rw[cG];omega)]
end
theorem XK {P:Program} {T e:TypeId} {i j:TI} {b off len cap sz l h m:Nat} {lo hi mx:Option V} {K:V->Prop} (hT:ti P T=some i) (hk:i.kd=.slice e) (hE:ti P e=some j) (hs:j.size=sz) (h1:iW 0 lo=some (l:Nat)) (h2:iW len hi=some (h:Nat)) (h3:iW cap mx=some (m:Nat))
 (hlh:l<=h) (hhm:h<=m) (hmc:m<=cap) (hx:mx.isSome=true->hi.isSome=true) (hK:K (.ms b (off+l*sz) (h - l) (m - l) sz)):jl P T (.ms b off len cap sz) lo hi mx K:=by
 obtain⟨kd,a,b',c,d,f,g⟩:=i;simp only at hk;subst hk;simp only[jl,hT,hE,h1,h2,h3,cz];exact⟨⟨hs,by omega,by omega,by omega,by omega,hx⟩,hK⟩
section
variable {P:Program} {G:Gl} {α:Type} {c:α->List C} {sz:Nat} {KV:V->Prop} {nb:Nat}
theorem XL {T e:TypeId} {i j:TI} {n:Int} {b o a k l cp z:Nat} (hT:ti P T=some i) (hk:i.kd=.slice e) (hj:ti P e=some j) (hs:j.size=z) (hz:z≠0) (ho:o=a*z) (hn:n=(k:Nat)) (hl:k<l)
 (hK:KV (.bp b ((a+k)*z))):dW P T (.ms b o l cp z) (.c (.lit (.int .i64 n))) KV:=by
 subst hn;subst ho;refine Xd hT hk hj hs hz (ay k) (by omega) ?_;rw[cz,<- df];exact hK
theorem vo {ρ:Nat->Nat} {l:List α}:(flb c l).map (V.ren ρ)=flb c l:=by unfold flb;rw[eU];rfl
theorem cells_ren {ρ:Nat->Nat} {l:List C}:(l.map V.c).map (V.ren ρ)=l.map V.c:=by rw[eU];rfl
theorem J9 {α:Type} {L:List α} {k:Nat} {x:α} (h:k<L.length):(L.set k x).take (k+1)=L.take k++[x]:=by rw[aT (by simpa using h),List.getElem_set_self,List.take_set_of_le (ab _)]
end
section
variable {P:Program} {α:Type} [DecidableEq α] {c:α->List C} {s:S} {T kt et:TypeId} {tT tk te:TI} {ks:List EK} {K:S->Prop} {i:Nat}
def ln (c:α->List C) (l:List α):List V:=XD c (List.range l.length) l.length l
theorem Ko:ln c ([]:List α)=[.mk [] 0]:=rfl
theorem jd {m:Nat} {l:List α}:(ln c l).all (λx=>x.ltB m)=true:=XE
theorem XM (hT:ti P T=some tT) (hm:tT.kd=.map kt et) (hk:ti P kt=some tk) (kK:tk.agg=true) (Q8:tk.eqs=some ks) (he:ti P et=some te) (hz:oZ te=some (boV false)) (ha:zaB P et=true)
 (hl:∀ a,(c a).length=ks.length) (yQ:∀ a b,iG ks (c a) (c b)=some (decide (a=b))) {a:α} {l:List α} (hb:s.bx i=ln c l) (hi:i<s.nb)
 (hK:K { s with bx:=up s.bx i (ln c (pE l a)) }):gY P T s (.mr i) (.agg (c a)) (.c (.lit (.bool true))) K:=by
 unfold gY;refine P8 (h:=boV) (z:=false) hT hm hk kK Q8 he hz ha hl yQ hb hi ?_;rw[J8];have jF:=uu (l:=l) (a:=a);cases hf:l.findIdx? (λb=>decide (a=b)) with
 |none=>
  rw[hf] at jF;have hn:a∉l:=by simpa using jF.symm
  rw[show pE l a=l++[a] by simp[pE,hn]] at hK;have e:List.range (l++[a]).length=List.range l.length++[l.length]:=by rw[ae,bA,List.range_succ]
  simp only[ln,XD,Tm,dh,bB,jW,qP,nf,e] at hK;rw[ae,bA] at hK;exact hK
 |some j=>
  rw[hf] at jF;have hn:a∈l:=by simpa using jF.symm
  rw[show pE l a=l by simp[pE,hn]] at hK;have hj:=wP hf;have e:=yd (f:=λa=>V.agg (c a)) (h:=boV) (l.map λa=>(a,true)) j a true true (by simp[hj]);have e2:(l.map λa=>(a,true)).set j (a,true)=l.map λa=>(a,true):=by
   apply fW;intro k;rw[List.getElem?_set];split
   .rename_i h;subst h;split<;>simp_all
   .rfl
  rw[e2] at e;simp only[V.fz];rw[show(V.c (.lit (.bool true)))=boV true from rfl,e];exact hK
theorem uw {ρ:Nat->Nat} {l:List α}:(ln c l).map (V.ren ρ)=ln c l:=by
 have:∀ l:List (α×Bool),(nf (λa=>V.agg (c a)) boV l).map (V.ren ρ)=nf (λa=>V.agg (c a)) boV l:=λl=>by
  induction l with
  |nil=>rfl
  |cons p l ih=>obtain⟨a,b⟩:=p;simp only[nf,bB,ih];rfl
 simp only[ln,XD,Tm,bB,this];rfl
end
theorem jM {P:Program} {G:Gl} {s:S} {f:V} {args all cargs:List V} {g:FuncId} {K:S->V->Prop} {r:V} {b0 b1:List (List V)} (ρ:List Nat) (hc:gx f args=some (g,all)) (hf:FnB P G g cargs b0 r b1)
 (eE:all.map V.fz=cargs.map (V.ren (rho ρ s.nb))) (hl:ρ.length=b0.length) (qA:ρ.Nodup) (h1:b1.length=b0.length) (hb:rf s.bx s.nb (rho ρ s.nb) 0 b0)
 (hK:∀ bx':Nat->List V,(∀ j,j∉ρ->bx' j=s.bx j)->(∀ (i j:Nat) (b:List V),ρ[i]?=some j->b1[i]?=some b->bx' j=b.map (V.ren (rho ρ s.nb)))->K ⟨s.fr,bx',s.nb⟩ (r.ren (rho ρ s.nb))):vcallB P G s f args K:=by
 unfold vcallB kE;simp only[hc];refine⟨ρ,cargs,b0,r,b1,hf,eE,⟨hl,qA⟩,hb,?_⟩;have oW:∀ i,i<b1.length->∃ j,ρ[i]?=some j/\rho ρ s.nb i=j:=λi hi=>by
  have:i<ρ.length:=by omega
  exact⟨ρ[i],ah this,by unfold rho;rw[if_pos this];simp[this]⟩
 have hn:s.nb+(b1.length - b0.length)=s.nb:=by omega
 rw[hn];refine hK _ (λj hj=>oC b1 0 s.bx j λi hi=>?_) λi j b hi hb=>?_
 .obtain⟨k,h2,h3⟩:=oW i hi
  rw[aJ,h3];rintro rfl;exact hj (aV h2)
 .have qz:=(ai.1 hb).1
  obtain⟨k,h2,h3⟩:=oW i qz;rw[hi] at h2;cases h2;have:=uf (ρ:=rho ρ s.nb) b1 0 s.bx i b hb (λi i' hi tu h=>by obtain⟨k,h4,h5⟩:=oW i hi;obtain⟨k',h6,h7⟩:=oW i' tu;rw[aJ,aJ,h5,h7] at h;subst h;obtain⟨q1,q2⟩:=ai.1 h4;obtain⟨q3,q4⟩:=ai.1 h6;exact(List.getElem_inj qA).1 (q2.trans q4.symm));rw[aJ,h3] at this;exact this
theorem N5 {P:Program} {G:Gl} {s:S} {f:V} {args all cargs:List V} {g:FuncId} {K:S->V->Prop} {r:V} {b0 b1:List (List V)} {c:List V} (ρ:List Nat) (hc:gx f args=some (g,all)) (hf:FnB P G g cargs b0 r (b1++[c]))
 (eE:all.map V.fz=cargs.map (V.ren (rho ρ s.nb))) (hl:ρ.length=b0.length) (qA:ρ.Nodup) (h1:b1.length=b0.length) (hb:rf s.bx s.nb (rho ρ s.nb) 0 b0) (bF:∀ j∈ρ,j<s.nb)
 (hK:∀ bx':Nat->List V,(∀ j,j∉ρ->j≠s.nb->bx' j=s.bx j)->(∀ (i j:Nat) (b:List V),ρ[i]?=some j->b1[i]?=some b->bx' j=b.map (V.ren (rho ρ s.nb)))->bx' s.nb=c.map (V.ren (rho ρ s.nb))->K ⟨s.fr,bx',s.nb+1⟩ (r.ren (rho ρ s.nb))):vcallB P G s f args K:=by
 unfold vcallB kE;simp only[hc];refine⟨ρ,cargs,b0,r,b1++[c],hf,eE,⟨hl,qA⟩,hb,?_⟩;have oW:∀ i,i<b1.length->∃ j,ρ[i]?=some j/\rho ρ s.nb i=j:=λi hi=>by
  have:i<ρ.length:=by omega
  exact⟨ρ[i],ah this,by unfold rho;rw[if_pos this];simp[this]⟩
 have Rb:rho ρ s.nb b1.length=s.nb:=by unfold rho;rw[if_neg (by omega),h1,<- hl];omega
 have qy:∀ i i',i<(b1++[c]).length->i'<(b1++[c]).length->rho ρ s.nb (0+i)=rho ρ s.nb (0+i')->i=i':=λi i' hi tu h=>by
  rw[aJ,aJ] at h;rw[ae,bA] at hi tu;have iT:∀ i,i<b1.length->rho ρ s.nb i<s.nb:=λi hi=>by obtain⟨k,h4,h5⟩:=oW i hi;rw[h5];exact bF k (aV h4)
  rcases bZ i b1.length with h2 | h2
  .rcases bZ i' b1.length with h3 | h3
   .obtain⟨k,h4,h5⟩:=oW i h2
    obtain⟨k',h6,h7⟩:=oW i' h3;rw[h5,h7] at h;subst h;obtain⟨q1,q2⟩:=ai.1 h4;obtain⟨q3,q4⟩:=ai.1 h6;exact(List.getElem_inj qA).1 (q2.trans q4.symm)
   .have:i'=b1.length:=by omega
    subst this;rw[Rb] at h;have:=iT i h2;omega
  .have:i=b1.length:=by omega
   subst this;rw[Rb] at h;rcases bZ i' b1.length with h3 | h3
   .have:=iT i' h3;omega
   .omega
 have hn:s.nb+((b1++[c]).length - b0.length)=s.nb+1:=by rw[ae,bA];omega
 rw[hn];refine hK _ (λj hj hjn=>oC (b1++[c]) 0 s.bx j λi hi=>?_) (λi j b hi hb=>?_) ?_
 .rw[aJ]
  rw[ae,bA] at hi;rcases bZ i b1.length with h2 | h2
  .obtain⟨k,h4,h3⟩:=oW i h2
   rw[h3];rintro rfl;exact hj (aV h4)
  .have:i=b1.length:=by omega
   subst this;rw[Rb];exact λe=>hjn e.symm
 .have qz:=(ai.1 hb).1
  obtain⟨k,h2,h3⟩:=oW i qz;rw[hi] at h2;cases h2;have:=uf (ρ:=rho ρ s.nb) (b1++[c]) 0 s.bx i b (by rw[az qz];exact hb) qy;rw[aJ,h3] at this;exact this
 .have:=uf (ρ:=rho ρ s.nb) (b1++[c]) 0 s.bx b1.length c (by simp) qy
  rw[aJ,Rb] at this;exact this
section
variable {P:Program} {α β:Type} [DecidableEq α] {f:α->V} {c:α->List C} {h:β->V} {s:S} {T kt et:TypeId} {tT tk te:TI} {ks:List EK} {K:S->Prop} {KV:V->Prop} {i:Nat} {z:V}
def qE (f:α->V) (h:β->V) (l:List (α×β)):List V:=.mk (List.range l.length) l.length::nf f h l
def wQ (l:List (α×β)) (a:α):Option Nat:=(l.map (·.1)).findIdx? (λb=>decide (a=b))
def ac5 (l:List (α×β)) (a:α) (b:β):List (α×β):=match wQ l a with
 |some j=>l.set j (a,b)
 |none=>l++[(a,b)]
def Kq (l:List (α×β)) (a:α):Option β:=match wQ l a with
 |some j=>(l[j]?).map (·.2)
 |none=>none
theorem pM {l:List (α×β)} {a:α} {j:Nat} (hj:wQ l a=some j):∃ b,l[j]?=some (a,b):=by have:=wP hj;rw[bj,aW] at this;obtain⟨⟨a',b⟩,h1,rfl⟩:=this;exact⟨b,h1⟩
theorem zg {l:List (α×β)} {a:α} (hj:wQ l a=none):a∉l.map (·.1):=λhm=>by have:=uu (l:=l.map (·.1)) (a:=a);unfold wQ at hj;rw[hj] at this;simp[hm] at this
theorem XN {l:List (α×β)} {a:α}:(Kq l a).isSome=decide (a∈l.map (·.1)):=by
 unfold Kq;cases hj:wQ l a with
 |none=>have:=zg hj;simp only[Option.isSome_none];exact(fj this).symm
 |some j=>obtain⟨b,hb⟩:=pM hj;have:a∈l.map (·.1):=bM.2 ⟨_,aV hb,rfl⟩;simp only[hb,cU,Option.isSome_some];exact(dD this).symm
theorem HJ (hT:ti P T=some tT) (hm:tT.kd=.map kt et) (hk:ti P kt=some tk) (Q8:tk.eqs=some ks) (he:ti P et=some te) (hz:oZ te=some z) (ha:zaB P et=true) (hf:∀ a,(f a).kcs tk.agg=some (c a))
 (hl:∀ a,(c a).length=ks.length) (yQ:∀ a b,iG ks (c a) (c b)=some (decide (a=b))) {a:α} {l:List (α×β)} (hb:s.bx i=qE f h l) (hi:i<s.nb)
 {KM:Nat->List Nat->Nat->List V->Option Nat->V->Prop} (hK:KM i (List.range l.length) l.length (nf f h l) (wQ l a) z):gX P T s (.mr i) (f a) KM:=by
 refine pK (ks:=ks) (kc:=c a) (kcs:=(l.map (·.1)).map c) hT hm hk Q8 he (hf a) hz hb ?_ (ze hl yQ a _ 0) hi (hl a) (by rw[yQ];simp) ha ?_
 .rw[uo (c:=c) hf,eU];rfl
 .have:(Option.map (0+·) ((l.map (·.1)).findIdx? (λb=>decide (a=b))))=wQ l a:=by unfold wQ;cases(l.map (·.1)).findIdx? (λb=>decide (a=b))<;>simp
  rw[this];exact hK
theorem Tt (hT:ti P T=some tT) (hm:tT.kd=.map kt et) (hk:ti P kt=some tk) (Q8:tk.eqs=some ks) (he:ti P et=some te) (hz:oZ te=some z) (ha:zaB P et=true) (hf:∀ a,(f a).kcs tk.agg=some (c a))
 (hl:∀ a,(c a).length=ks.length) (yQ:∀ a b,iG ks (c a) (c b)=some (decide (a=b))) {a:α} {l:List (α×β)} (hb:s.bx i=qE f h l) (hi:i<s.nb)
 (hK:KV (.tup [(((Kq l a).map h).getD z).dr,.c (.lit (.bool (Kq l a).isSome))])):fH P T s (.mr i) (f a) true KV:=by
 unfold fH;refine HJ hT hm hk Q8 he hz ha hf hl yQ hb hi ?_;unfold Kq at hK;cases hj:wQ l a with
 |none=>simp only[hj,kZ,Option.getD_none,Option.isSome_none] at hK;exact hK
 |some j=>obtain⟨b,hjb⟩:=pM hj;simp only[hj,hjb,cU,cX,Option.isSome_some] at hK;have e:=(rW (f:=f) (h:=h) l j (a,b) hjb).1;simp only[e,cZ];exact hK
theorem XO (hT:ti P T=some tT) (hm:tT.kd=.map kt et) (hk:ti P kt=some tk) (Q8:tk.eqs=some ks) (he:ti P et=some te) (hz:oZ te=some z) (ha:zaB P et=true) (hf:∀ a,(f a).kcs tk.agg=some (c a))
 (hl:∀ a,(c a).length=ks.length) (yQ:∀ a b,iG ks (c a) (c b)=some (decide (a=b))) {a:α} {b:β} {x:V} (hx:x.fz=h b) (hfa:(f a).fz=f a) {l:List (α×β)} (hb:s.bx i=qE f h l) (hi:i<s.nb)
 (hK:K { s with bx:=up s.bx i (qE f h (ac5 l a b)) }):gY P T s (.mr i) (f a) x K:=by
 unfold gY;refine HJ hT hm hk Q8 he hz ha hf hl yQ hb hi ?_;unfold ac5 at hK;cases hj:wQ l a with
 |none=>
  simp only[hj] at hK;have e:List.range (l++[(a,b)]).length=List.range l.length++[l.length]:=by rw[ae,bA,List.range_succ]
  unfold qE at hK;rw[e,qP,ae,bA] at hK;simp only[hx,hfa];exact hK
 |some j=>obtain⟨b',hjb⟩:=pM hj;simp only[hj] at hK;unfold qE at hK;rw[gi] at hK;simp only[hx];rw[yd l j a b' b hjb];exact hK
theorem CE {l:List (α×β)} (hT:ti P T=some tT) (hm:tT.kd=.map kt et) (hb:s.bx i=qE f h l) (hi:i<s.nb) (hK:KV (.it i l.length l.length [])):o0 P T s (.mr i) KV:=by obtain⟨kd,a1,a2,a3,a4,a5,a6⟩:=tT;simp only at hm;subst hm;unfold o0;simp only[hT,hb,qE];exact⟨hi,hK⟩
theorem Fe {l:List (α×β)} {seen:List Nat} (hb:s.bx i=qE f h l) (hi:i<s.nb) {K:Option V->V->Prop}
 (h0:(∀ b,b<l.length->b∈seen)->K none (.tup [.c (.lit (.bool false))])) (h1:∀ b,b<l.length->b∉seen->∀ x y,K (some (.it i l.length l.length (seen++[b]))) (.tup [.c (.lit (.bool true)),x,y])):EL s (.it i l.length l.length seen) K:=by
 unfold EL;simp only[hb,qE];exact⟨⟨hi,ab _,λb h=>dc.1 h⟩,λh=>h0 λb hb=>h b (dc.2 hb),λj b hj hb=>h1 b (dc.1 (aV hj)) hb _ _⟩
theorem N6 {l:List (α×β)} {seen:List Nat} {b:Nat} (hb:s.bx i=qE f h l) (hi:i<s.nb) (hm:b<l.length) (hK:KV (.tup [(f l[b].1).dr,(h l[b].2).dr])):o5 s (.it i l.length l.length (seen++[b])) KV:=by
 unfold o5;simp only[hb,qE,List.getLast?_append,List.getLast?_singleton,Option.some_or];have hf:(List.range l.length).findIdx? (·==b)=some b:=by rw[eF];refine⟨by simpa using hm,by simp,λk hk=>by simp;omega⟩
 have e:=rW (f:=f) (h:=h) l b l[b] (ah hm);simp only[hf,e.1,e.2];exact⟨⟨hi,trivial⟩,hK⟩
theorem XQ {ρ:Nat->Nat} (hf:∀ a,(f a).ren ρ=f a) (hh:∀ b,(h b).ren ρ=h b):∀ {l:List (α×β)},(nf f h l).map (V.ren ρ)=nf f h l:=by
 intro l;induction l with
 |nil=>rfl
 |cons p l ih=>obtain⟨a,b⟩:=p;simp only[nf,bB,ih,hf,hh]
theorem Kr {ρ:Nat->Nat} (hf:∀ a,(f a).ren ρ=f a) (hh:∀ b,(h b).ren ρ=h b) {l:List (α×β)}:(qE f h l).map (V.ren ρ)=qE f h l:=by simp only[qE,bB,XQ hf hh];rfl
theorem Ks {m:Nat} (hf:∀ a,(f a).ltB m=true) (hh:∀ b,(h b).ltB m=true) {l:List (α×β)}:(qE f h l).all (λx=>x.ltB m)=true:=by
 have:∀ l:List (α×β),(nf f h l).all (λx=>x.ltB m)=true:=λl=>by
  induction l with
  |nil=>rfl
  |cons p l ih=>obtain⟨a,b⟩:=p;simp only[nf,aY,ih,hf,hh];rfl
 simp only[qE,aY,this];rfl
