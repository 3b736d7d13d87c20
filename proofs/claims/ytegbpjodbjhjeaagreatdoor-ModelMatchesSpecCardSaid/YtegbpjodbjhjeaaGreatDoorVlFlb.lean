/- Maps, fifth part: maps that are sets, and maps that count. -/
import Derived.Test.YtegbpjodbjhjeaaGreatDoorVlPack
import Derived.Test.YtegbpjodbjhjeaaGreatDoorVlEnv
set_option linter.all false
namespace Go.Vl
open Go Go.RowKit
section
variable {P:Program} {α:Type} [DecidableEq α] {c:α->List C} {s:S} {T kt et:TypeId} {tT tk te:TI} {ks:List EK} {K:S->Prop} {KV:V->Prop} {i:Nat}
def Ih (l:List α) (a:α):List α:=if a∈l then l else l++[a]
theorem Ii {l:List α} {a:α}:(l.findIdx? (λb=>decide (a=b))).isSome=decide (a∈l):=by rw[List.findIdx?_isSome,jv];simp only[dN,br];exact⟨λ⟨x,h1,h2⟩=>h2▸h1,λh=>⟨a,h,rfl⟩⟩
theorem K1 {l:List α} {a:α} {j:Nat} (h:l.findIdx? (λb=>decide (a=b))=some j):l[j]?=some a:=by obtain⟨h1,h2,_⟩:=b9.1 h;rw[ak h1,fM h2]
structure MOk (bs:List Nat) (cl:Nat) (kl:List α):Prop where
 len:bs.length=kl.length
 bnd:bs.Nodup
 lt:∀ b∈bs,b<cl
 knd:kl.Nodup
theorem MOk.nil:MOk [] 0 ([]:List α):=⟨rfl,ir,by simp,ir⟩
end
section
variable {P:Program} {G:Gl} {tr:List Nat} {fr:Nat->V} {bx:Nat->List V} {nb:Nat} {K:S->Prop} {KV:V->Prop} {Q:VE->S->Prop}
variable {α:Type} {c:α->List C} {sz:Nat}
theorem Yi {P S:List α} {x y:α} {k:Nat} (hk:P.length=k):(P++x::S).set k y=P++y::S:=by subst hk;simp
def flb (c:α->List C) (l:List α):List V:=(l.map c).flatten.map .c
theorem tL {x:α} {l:List α}:flb c (x::l)=(c x).map .c++flb c l:=by simp[flb]
theorem nE {l m:List α}:flb c (l++m)=flb c l++flb c m:=by simp[flb]
theorem kT (hc:∀ x,(c x).length=sz):∀ l:List α,(flb c l).length=l.length*sz
 |[]=>by simp[flb]
 |x::l=>by rw[tL,aB,kT hc l];simp[hc,dX,lG]
theorem MN {l:List α} {i:Nat} {x:α} (h:l[i]?=some x):∃ a b,l=a++x::b/\a.length=i:=by obtain⟨hi,hx⟩:=am.1 h;refine⟨l.take i,l.drop (i+1),?_,by simp;omega⟩;rw[<- hx,List.getElem_cons_drop,dQ]
theorem Tl (hc:∀ x,(c x).length=sz) {l:List α} {i:Nat} {x:α} (h:l[i]?=some x):((flb c l).drop (i*sz)).take sz=(c x).map .c:=by obtain⟨a,b,rfl,rfl⟩:=MN h;rw[nE,<- kT hc a,List.drop_left,tL];exact gG (by simp[hc])
theorem Yj (hc:∀ x,(c x).length=sz) {l:List α} {i:Nat} {y:α} (h:i<l.length):fW (flb c l) (i*sz) ((c y).map .c)=flb c (l.set i y):=by
 obtain⟨a,b,e,rfl⟩:=MN (ak h);rw[e,Yi rfl];simp only[nE,tL,fW];rw[<- kT hc a,List.take_left];have e1:(flb c a).length+((c y).map V.c).length=(flb c a).length+((c l[a.length]).map V.c).length:=by simp[hc]
 rw[e1,<- fS,List.drop_left,List.drop_left];simp
theorem Bt (hc:∀ x,(c x).length=sz) {b i o:Nat} {l:List α} {x:α} (ho:o=i*sz) (hb:b<nb) (h:l[i]?=some x) (hK:KV (.agg (c x))):ldA nb b (flb c l) o sz KV:=by
 subst ho;unfold ldA;rw[Tl hc h];have h2:((c x).map V.c).map V.fz=(c x).map V.c:=by simp[jE,Function.comp_def,V.fz]
 have h3:((c x).map V.c).all V.isPO=true:=by simp[List.all_map,Function.comp_def,V.isPO]
 rw[h2,h3,Bl];exact⟨hb,⟨by simp[hc],rfl⟩,hK⟩
theorem K3 {T e:TypeId} {i j:TI} {k:Nat} {n:Int} {b l cp z:Nat} (hT:ti P T=some i) (hk:i.kd=.slice e) (hj:ti P e=some j) (hs:j.size=z) (hz:z≠0) (hn:n=(k:Nat)) (hl:k<l)
 (hK:KV (.bp b (k*z))):bK P T (.ms b 0 l cp z) (.c (.lit (.int .i64 n))) KV:=by
 subst hn;refine aaq hT hk hj hs hz (aC k) (by omega) ?_;simpa using hK
theorem jn {α:Type} {c:α->List C} {l:List α}:dE (flb c l)=false:=H3
theorem stq (hc:∀ x,(c x).length=sz) {i:Nat} {y:α} {l l':List α} (hi:i<l.length) (h:l.set i y=l'):((i*sz+sz<=(flb c l).length)=True)/\fW (flb c l) (i*sz) ((c y).map .c)=flb c l':=by
 subst h;refine⟨?_,Yj hc hi⟩;rw[kT hc,eq_iff_iff,iff_true];have:i*sz+sz=(i+1)*sz:=by rw[dX]
 rw[this];exact bf _ hi
theorem Bu {l:List (Nat×V)} {k:Nat} {L:List α} (dV:l.all (λp=>p.2.ltB 1)=true) (hk:k<=1) (hn:1<=nb) (h1:FL l fr) (h2:bx 0=flb c L):S.Le k (hdS l [flb c L]) ⟨fr,bx,nb⟩:=by refine bT ?_ hk hn h1 ⟨h2,trivial⟩;simp only[eu,aK,aQ,cK,aA];exact⟨dV,fa _ _⟩
theorem Tn {L:List α} {args:List V} (h:args.all (λv=>v.ltB 1)=true):eM args [flb c L]=true:=by simp only[eM,aK,aQ,cK,aA];exact⟨h,fa _ _⟩
end
section
variable {α:Type} {c:α->List C} {sz:Nat}
theorem zn (hc:∀ x,(c x).length=sz):∀ l:List α,ma sz l.length (l.map c).flatten=l.map c
 |[]=>rfl
 |x::l=>by simp only[aI,aN,eN,ma];rw[gG (hc x),List.drop_left' (hc x),zn hc l]
theorem MO {fr:Nat->V} {bx:Nat->List V} {nb b:Nat} {l:List α} (hb:b<nb) (h:bx b=flb c l):zP ⟨fr,bx,nb⟩ b=some (l.map c).flatten:=by
 unfold zP;simp only[hb,bY,h,flb];generalize (l.map c).flatten=cs;induction cs with
 |nil=>rfl
 |cons x cs ih=>simp only[aN,fR,ih];rfl
theorem To (hc:∀ x,(c x).length=sz) {fr:Nat->V} {bx:Nat->List V} {nb b n:Nat} {l:List α} (hb:b<nb) (h:bx b=flb c l) (hn:n=l.length):mi ⟨fr,bx,nb⟩ b 0 n sz=some (.sl (l.map c)):=by
 subst hn;unfold mi;rw[MO hb h];have:(l.map c).flatten.length=l.length*sz:=by have:=kT hc l;unfold flb at this;rwa [aj] at this
 simp only[this,ao,ai,bY,eZ,zn hc]
theorem Tp (hc:∀ x,(c x).length=sz) {l:List α} {i:Nat} (h:i<=l.length):(flb c l).take (i*sz)=flb c (l.take i):=by
 have e:flb c l=flb c (l.take i)++flb c (l.drop i):=by rw[<- nE,dQ]
 rw[e];exact gG (by rw[kT hc,bb,cA h])
theorem Pm (hc:∀ x,(c x).length=sz) {l:List α} {i:Nat} (h:i<=l.length):(flb c l).drop (i*sz)=flb c (l.drop i):=by
 have e:flb c l=flb c (l.take i)++flb c (l.drop i):=by rw[<- nE,dQ]
 rw[e];exact List.drop_left' (by rw[kT hc,bb,cA h])
theorem Yk (hc:∀ x,(c x).length=sz) {l m:List α} {i:Nat} (h:i+m.length<=l.length):fW (flb c l) (i*sz) (flb c m)=flb c (l.take i++m++l.drop (i+m.length)):=by
 unfold fW;have e:i*sz+(flb c m).length=(i+m.length)*sz:=by rw[kT hc,dy]
 rw[e,Tp hc (by omega),Pm hc (by omega),<- nE,<- nE]
theorem Pn (hc:∀ x,(c x).length=sz) {l:List α} {a:Nat} (h:a<=l.length):(l.map c).flatten.drop (a*sz)=((l.drop a).map c).flatten:=by
 have e:(l.map c).flatten=((l.take a).map c).flatten++((l.drop a).map c).flatten:=by rw[<- fh,<- dl,dQ]
 have hl:∀ m:List α,(m.map c).flatten.length=m.length*sz:=λm=>by have:=kT hc m;unfold flb at this;rwa [aj] at this
 rw[e];exact List.drop_left' (by rw[hl,bb,cA h])
theorem wR (hc:∀ x,(c x).length=sz):∀ (n:Nat) (l:List α),n<=l.length->ma sz n (l.map c).flatten=(l.take n).map c
 |0,_,_=>rfl
 |n+1,[],h=>by simp at h
 |n+1,x::l,h=>by simp only[aN,eN,ma,fK];rw[gG (hc x),List.drop_left' (hc x),wR hc n l (by simpa using h)]
theorem Po (hc:∀ x,(c x).length=sz) {fr:Nat->V} {bx:Nat->List V} {nb b o a n:Nat} {l:List α} (hb:b<nb) (h:bx b=flb c l) (ho:o=a*sz) (hn:a+n<=l.length):mi ⟨fr,bx,nb⟩ b o n sz=some (.sl (((l.drop a).take n).map c)):=by
 subst ho;unfold mi;rw[MO hb h];have hl:(l.map c).flatten.length=l.length*sz:=by have:=kT hc l;unfold flb at this;rwa [aj] at this
 have hm:a*sz+n*sz<=l.length*sz:=by rw[<- dy];exact bf _ hn
 simp only[hl,hm,bY];rw[Pn hc (by omega),wR hc n _ (by rw[dh];omega)]
end
theorem Tq {P:Program} {T e:TypeId} {i j:TI} {b off len cap sz l h m:Nat} {lo hi mx:Option V} {K:V->Prop} (hT:ti P T=some i) (hk:i.kd=.slice e) (hE:ti P e=some j) (hs:j.size=sz) (h1:ic 0 lo=some (l:Nat)) (h2:ic len hi=some (h:Nat)) (h3:ic cap mx=some (m:Nat))
 (hlh:l<=h) (hhm:h<=m) (hmc:m<=cap) (hx:mx.isSome=true->hi.isSome=true) (hK:K (.ms b (off+l*sz) (h - l) (m - l) sz)):ig P T (.ms b off len cap sz) lo hi mx K:=by
 obtain⟨kd,a,b',c,d,f,g⟩:=i;simp only at hk;subst hk;simp only[ig,hT,hE,h1,h2,h3,fq];exact⟨⟨hs,by omega,by omega,by omega,by omega,hx⟩,hK⟩
section
variable {P:Program} {G:Gl} {α:Type} {c:α->List C} {sz:Nat} {KV:V->Prop} {nb:Nat}
theorem Tt {T e:TypeId} {i j:TI} {n:Int} {b o a k l cp z:Nat} (hT:ti P T=some i) (hk:i.kd=.slice e) (hj:ti P e=some j) (hs:j.size=z) (hz:z≠0) (ho:o=a*z) (hn:n=(k:Nat)) (hl:k<l)
 (hK:KV (.bp b ((a+k)*z))):bK P T (.ms b o l cp z) (.c (.lit (.int .i64 n))) KV:=by
 subst hn;subst ho;refine aaq hT hk hj hs hz (aC k) (by omega) ?_;rw[fq,<- dy];exact hK
theorem MP {ρ:Nat->Nat} {l:List α}:(flb c l).map (V.ren ρ)=flb c l:=by unfold flb;rw[jE];rfl
theorem Ij {α:Type} {L:List α} {k:Nat} {x:α} (h:k<L.length):(L.set k x).take (k+1)=L.take k++[x]:=by rw[aR (by simpa using h),List.getElem_set_self,List.take_set_of_le (ai _)]
end
section
variable {P:Program} {α:Type} [DecidableEq α] {c:α->List C} {s:S} {T kt et:TypeId} {tT tk te:TI} {ks:List EK} {K:S->Prop} {i:Nat}
end
theorem uE {P:Program} {G:Gl} {s:S} {f:V} {args all cargs:List V} {g:FuncId} {K:S->V->Prop} {r:V} {b0 b1:List (List V)} (ρ:List Nat) (hc:eB f args=some (g,all)) (hf:FnB P G g cargs b0 r b1)
 (dC:all.map V.fz=cargs.map (V.ren (rho ρ s.nb))) (hl:ρ.length=b0.length) (qw:ρ.Nodup) (h1:b1.length=b0.length) (hb:pV s.bx s.nb (rho ρ s.nb) 0 b0)
 (hK:∀ bx':Nat->List V,(∀ j,j∉ρ->bx' j=s.bx j)->(∀ (i j:Nat) (b:List V),ρ[i]?=some j->b1[i]?=some b->bx' j=b.map (V.ren (rho ρ s.nb)))->K ⟨s.fr,bx',s.nb⟩ (r.ren (rho ρ s.nb))):vcallB P G s f args K:=by
 unfold vcallB jX;simp only[hc];refine⟨ρ,cargs,b0,r,b1,hf,dC,⟨hl,qw⟩,hb,?_⟩;have hat:∀ i,i<b1.length->∃ j,ρ[i]?=some j/\rho ρ s.nb i=j:=λi hi=>by
  have:i<ρ.length:=by omega
  exact⟨ρ[i],ak this,by unfold rho;rw[if_pos this];simp[this]⟩
 have hn:s.nb+(b1.length - b0.length)=s.nb:=by omega
 rw[hn];refine hK _ (λj hj=>qe b1 0 s.bx j λi hi=>?_) λi j b hi hb=>?_
 .obtain⟨k,h2,h3⟩:=hat i hi
  rw[ao,h3];rintro rfl;exact hj (bn h2)
 .have uk:=(am.1 hb).1
  obtain⟨k,h2,h3⟩:=hat i uk;rw[hi] at h2;cases h2;have:=AX (ρ:=rho ρ s.nb) b1 0 s.bx i b hb (λi i' hi sS h=>by obtain⟨k,h4,h5⟩:=hat i hi;obtain⟨k',h6,h7⟩:=hat i' sS;rw[ao,ao,h5,h7] at h;subst h;obtain⟨q1,q2⟩:=am.1 h4;obtain⟨q3,q4⟩:=am.1 h6;exact(List.getElem_inj qw).1 (q2.trans q4.symm));rw[ao,h3] at this;exact this
section
variable {P:Program} {α β:Type} [DecidableEq α] {f:α->V} {c:α->List C} {h:β->V} {s:S} {T kt et:TypeId} {tT tk te:TI} {ks:List EK} {K:S->Prop} {KV:V->Prop} {i:Nat} {z:V}
def pB (f:α->V) (h:β->V) (l:List (α×β)):List V:=.mk (List.range l.length) l.length::qD f h l
def wS (l:List (α×β)) (a:α):Option Nat:=(l.map (·.1)).findIdx? (λb=>decide (a=b))
def Tu (l:List (α×β)) (a:α) (b:β):List (α×β):=match wS l a with
 |some j=>l.set j (a,b)
 |none=>l++[(a,b)]
def wT (l:List (α×β)) (a:α):Option β:=match wS l a with
 |some j=>(l[j]?).map (·.2)
 |none=>none
theorem uF {l:List (α×β)} {a:α} {j:Nat} (hj:wS l a=some j):∃ b,l[j]?=some (a,b):=by have:=K1 hj;rw[bw,aZ] at this;obtain⟨⟨a',b⟩,h1,rfl⟩:=this;exact⟨b,h1⟩
theorem Pp {l:List (α×β)} {a:α} (hj:wS l a=none):a∉l.map (·.1):=λhm=>by have:=Ii (l:=l.map (·.1)) (a:=a);unfold wS at hj;rw[hj] at this;simp[hm] at this
theorem Tv {l:List (α×β)} {a:α}:(wT l a).isSome=decide (a∈l.map (·.1)):=by
 unfold wT;cases hj:wS l a with
 |none=>have:=Pp hj;simp only[aS];exact(eY this).symm
 |some j=>obtain⟨b,hb⟩:=uF hj;have:a∈l.map (·.1):=ce.2 ⟨_,bn hb,rfl⟩;simp only[hb,bQ,aW];exact(dU this).symm
theorem FG (hT:ti P T=some tT) (hm:tT.kd=.map kt et) (hk:ti P kt=some tk) (WU:tk.eqs=some ks) (he:ti P et=some te) (hz:qz te=some z) (ha:zaB P et=true) (hf:∀ a,(f a).kcs tk.agg=some (c a))
 (hl:∀ a,(c a).length=ks.length) (kL:∀ a b,jF ks (c a) (c b)=some (decide (a=b))) {a:α} {l:List (α×β)} (hb:s.bx i=pB f h l) (hi:i<s.nb)
 {KM:Nat->List Nat->Nat->List V->Option Nat->V->Prop} (hK:KM i (List.range l.length) l.length (qD f h l) (wS l a) z):iP P T s (.mr i) (f a) KM:=by
 refine qR (ks:=ks) (kc:=c a) (kcs:=(l.map (·.1)).map c) hT hm hk WU he (hf a) hz hb ?_ (Dl hl kL a _ 0) hi (hl a) (by rw[kL];simp) ha ?_
 .rw[zk (c:=c) hf,jE];rfl
 .have:(Option.map (0+·) ((l.map (·.1)).findIdx? (λb=>decide (a=b))))=wS l a:=by unfold wS;cases(l.map (·.1)).findIdx? (λb=>decide (a=b))<;>simp
  rw[this];exact hK
theorem Pq (hT:ti P T=some tT) (hm:tT.kd=.map kt et) (hk:ti P kt=some tk) (WU:tk.eqs=some ks) (he:ti P et=some te) (hz:qz te=some z) (ha:zaB P et=true) (hf:∀ a,(f a).kcs tk.agg=some (c a))
 (hl:∀ a,(c a).length=ks.length) (kL:∀ a b,jF ks (c a) (c b)=some (decide (a=b))) {a:α} {l:List (α×β)} (hb:s.bx i=pB f h l) (hi:i<s.nb)
 (hK:KV (.tup [(((wT l a).map h).getD z).dr,.c (.lit (.bool (wT l a).isSome))])):fV P T s (.mr i) (f a) true KV:=by
 unfold fV;refine FG hT hm hk WU he hz ha hf hl kL hb hi ?_;unfold wT at hK;cases hj:wS l a with
 |none=>simp only[hj,jw,dG,aS] at hK;exact hK
 |some j=>obtain⟨b,Z9⟩:=uF hj;simp only[hj,Z9,bQ,ba,aW] at hK;have e:=(tD (f:=f) (h:=h) l j (a,b) Z9).1;simp only[e,bY];exact hK
theorem K4 (hT:ti P T=some tT) (hm:tT.kd=.map kt et) (hk:ti P kt=some tk) (WU:tk.eqs=some ks) (he:ti P et=some te) (hz:qz te=some z) (ha:zaB P et=true) (hf:∀ a,(f a).kcs tk.agg=some (c a))
 (hl:∀ a,(c a).length=ks.length) (kL:∀ a b,jF ks (c a) (c b)=some (decide (a=b))) {a:α} {l:List (α×β)} (hb:s.bx i=pB f h l) (hi:i<s.nb)
 (hK:KV (((wT l a).map λb=>(h b).fz).getD z)):fV P T s (.mr i) (f a) false KV:=by
 unfold fV;refine FG hT hm hk WU he hz ha hf hl kL hb hi ?_;unfold wT at hK;cases hj:wS l a with
 |none=>simp only[hj,jw,dG] at hK;exact hK
 |some j=>obtain⟨b,Z9⟩:=uF hj;simp only[hj,Z9,bQ,ba] at hK;have e:=(tD (f:=f) (h:=h) l j (a,b) Z9).1;simp only[e,ay,cD];exact hK
theorem Ik (hT:ti P T=some tT) (hm:tT.kd=.map kt et) (hk:ti P kt=some tk) (WU:tk.eqs=some ks) (he:ti P et=some te) (hz:qz te=some z) (ha:zaB P et=true) (hf:∀ a,(f a).kcs tk.agg=some (c a))
 (hl:∀ a,(c a).length=ks.length) (kL:∀ a b,jF ks (c a) (c b)=some (decide (a=b))) {a:α} {b:β} {x:V} (hx:x.fz=h b) (hfa:(f a).fz=f a) {l:List (α×β)} (hb:s.bx i=pB f h l) (hi:i<s.nb)
 (hK:K { s with bx:=up s.bx i (pB f h (Tu l a b)) }):iC P T s (.mr i) (f a) x K:=by
 unfold iC;refine FG hT hm hk WU he hz ha hf hl kL hb hi ?_;unfold Tu at hK;cases hj:wS l a with
 |none=>
  simp only[hj] at hK;have e:List.range (l++[(a,b)]).length=List.range l.length++[l.length]:=by rw[aB,dR,List.range_succ]
  unfold pB at hK;rw[e,zj,aB,dR] at hK;simp only[hx,hfa];exact hK
 |some j=>obtain⟨b',Z9⟩:=uF hj;simp only[hj] at hK;unfold pB at hK;rw[jx] at hK;simp only[hx];rw[H5 l j a b' b Z9];exact hK
theorem K5 {l:List (α×β)} (hT:ti P T=some tT) (hm:tT.kd=.map kt et) (hb:s.bx i=pB f h l) (hi:i<s.nb) (hK:KV (.it i l.length l.length [])):ot P T s (.mr i) KV:=by obtain⟨kd,a1,a2,a3,a4,a5,a6⟩:=tT;simp only at hm;subst hm;unfold ot;simp only[hT,hb,pB];exact⟨hi,hK⟩
theorem K6 {l:List (α×β)} {seen:List Nat} (hb:s.bx i=pB f h l) (hi:i<s.nb) {K:Option V->V->Prop}
 (h0:(∀ b,b<l.length->b∈seen)->K none (.tup [.c (.lit (.bool false))])) (h1:∀ j (hj:j<l.length),j∉seen->K (some (.it i l.length l.length (seen++[j]))) (.tup [.c (.lit (.bool true)),(f l[j].1).dr,(h l[j].2).dr])):AB s (.it i l.length l.length seen) K:=by
 unfold AB;simp only[hb,pB];refine⟨⟨hi,ai _,λb h=>df.1 h⟩,λh=>h0 λb hb=>h b (df.2 hb),λj b hj hb=>?_⟩;obtain⟨hj1,WO⟩:=am.1 hj;rw[List.getElem_range] at WO;subst WO;have hjl:j<l.length:=by simpa using hj1
 have e:=tD (f:=f) (h:=h) l j l[j] (ak hjl);rw[e.1,e.2];exact h1 j hjl hb
theorem K7 {l:List (α×β)} {seen:List Nat} {b:Nat} (hb:s.bx i=pB f h l) (hi:i<s.nb) (hm:b<l.length) (hK:KV (.tup [(f l[b].1).dr,(h l[b].2).dr])):nv s (.it i l.length l.length (seen++[b])) KV:=by
 unfold nv;simp only[hb,pB,List.getLast?_append,List.getLast?_singleton,Option.some_or];have hf:(List.range l.length).findIdx? (·==b)=some b:=by rw[b9];refine⟨by simpa using hm,by simp,λk hk=>by simp;omega⟩
 have e:=tD (f:=f) (h:=h) l b l[b] (ak hm);simp only[hf,e.1,e.2];exact⟨⟨hi,trivial⟩,hK⟩
theorem Tw {ρ:Nat->Nat} (hf:∀ a,(f a).ren ρ=f a) (hh:∀ b,(h b).ren ρ=h b):∀ {l:List (α×β)},(qD f h l).map (V.ren ρ)=qD f h l:=by
 intro l;induction l with
 |nil=>rfl
 |cons p l ih=>obtain⟨a,b⟩:=p;simp only[qD,aN,ih,hf,hh]
theorem Il {ρ:Nat->Nat} (hf:∀ a,(f a).ren ρ=f a) (hh:∀ b,(h b).ren ρ=h b) {l:List (α×β)}:(pB f h l).map (V.ren ρ)=pB f h l:=by simp only[pB,aN,Tw hf hh];rfl
theorem Im {m:Nat} (hf:∀ a,(f a).ltB m=true) (hh:∀ b,(h b).ltB m=true) {l:List (α×β)}:(pB f h l).all (λx=>x.ltB m)=true:=by
 have:∀ l:List (α×β),(qD f h l).all (λx=>x.ltB m)=true:=λl=>by
  induction l with
  |nil=>rfl
  |cons p l ih=>obtain⟨a,b⟩:=p;simp only[qD,aK,ih,hf,hh];rfl
 simp only[pB,aK,this];rfl
end
theorem yz {P:Program} {G:Gl} {s:S} {f:V} {args all cargs:List V} {g:FuncId} {K:S->V->Prop} {r:V} {Y Y':List (List V)} (hc:eB f args=some (g,all)) (hf:FnB P G g cargs Y r Y') (dC:all.map V.fz=cargs)
 (cH:Y'.length=Y.length) (bF:ltL Y.length Y') (hn:Y.length<=s.nb) (hb:BL 0 Y s.bx) (hr:∀ ρ:Nat->Nat,(∀ i,i<Y.length->ρ i=i)->r.ren ρ=r)
 (hK:∀ bx':Nat->List V,(∀ j,Y.length<=j->bx' j=s.bx j)->BL 0 Y' bx'->K ⟨s.fr,bx',s.nb⟩ r):vcallB P G s f args K:=by
 unfold vcallB jX;simp only[hc];have hρ:∀ i,i<Y.length->rho (List.range Y.length) s.nb i=i:=λi hi=>FD hi;have ng:∀ i b,Y[i]?=some b->s.bx i=b:=λi b h=>by have hi:=(am.1 h).1;have:=BL.get hb i hi;rw[ao] at this;rw[<- this,aG,h];rfl
 refine⟨List.range Y.length,cargs,Y,r,Y',hf,?_,⟨by simp,j6⟩,?_,?_⟩
 .rw[dC,iS λx hx=>tK (hf.2.1.1 x hx) hρ]
 .refine uD hρ _ 0 (by omega) hf.2.1.2.1 (uB _ _ _ _ λi b h=>?_)
  have hi:=(am.1 h).1;rw[ao];exact⟨by omega,ng i b h⟩
 .rw[rM hρ Y' 0 _ (by omega) bF,qT,hr _ hρ,cH,kw,en]
  refine hK _ (λj hj=>?_) (Fo _ _ _ λi b h=>?_)
  .simp only[ar,bX,ao]
   rw[if_neg (by omega)]
  .have hi:=(am.1 h).1
   simp only[ar,bX,ao,lF];rw[if_pos (by omega),aG,h];rfl
theorem k7 {P:Program} {G:Gl} {s:S} {f:V} {args all cargs:List V} {g:FuncId} {K:S->V->Prop} {r:V} {Y:List (List V)} (hc:eB f args=some (g,all)) (hf:FnB P G g cargs Y r Y) (dC:all.map V.fz=cargs)
 (hn:Y.length<=s.nb) (hb:BL 0 Y s.bx) (hr:∀ ρ:Nat->Nat,(∀ i,i<Y.length->ρ i=i)->r.ren ρ=r) (hK:K s r):vcallB P G s f args K:=by
 refine yz hc hf dC rfl hf.2.1.2.1 hn hb hr λbx' h1 h2=>?_;have:bx'=s.bx:=funext λj=>by
  by_cases h:j<Y.length
  .have a:=BL.get h2 j h
   have b:=BL.get hb j h;rw[ao] at a b;rw[<- a,<- b]
  .exact h1 j (by omega)
 subst this;exact hK
