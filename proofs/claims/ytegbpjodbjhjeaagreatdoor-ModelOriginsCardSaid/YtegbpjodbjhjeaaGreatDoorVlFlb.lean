/- Maps, fifth part: maps that are sets, and maps that count. -/
import Derived.Test.YtegbpjodbjhjeaaGreatDoorVlPack
import Derived.Test.YtegbpjodbjhjeaaGreatDoorVlEnv
set_option linter.all false
namespace Go.Vl
open Go Go.RowKit
section
variable {P:Program} {α:Type} [DecidableEq α] {c:α→List C} {s:S} {T kt et:TypeId} {tT tk te:TI} {ks:List EK} {K:S→Prop} {KV:V→Prop} {i:Nat}
def GE (l:List α) (a:α):List α:=if a∈l then l else l++[a]
theorem GF {l:List α} {a:α}:(l.findIdx? (fun b=>decide (a=b))).isSome=decide (a∈l):=by
 rw[List.findIdx?_isSome,jm]
 simp only[dp,bi]
 exact⟨fun⟨x,h1,h2⟩=>h2▸h1,fun h=>⟨a,h,rfl⟩⟩
theorem Jk {l:List α} {a:α} {j:Nat} (h:l.findIdx? (fun b=>decide (a=b))=some j):l[j]?=some a:=by
 obtain⟨h1,h2,_⟩:=bS.1 h
 rw[aj h1,fj h2]
structure MOk (bs:List Nat) (cl:Nat) (kl:List α):Prop where
 len:bs.length=kl.length
 bnd:bs.Nodup
 lt:∀ b∈bs,b<cl
 knd:kl.Nodup
theorem MOk.nil:MOk [] 0 ([]:List α):=⟨rfl,g8,by simp,g8⟩
end
section
variable {P:Program} {G:Gl} {tr:List Nat} {fr:Nat→V} {bx:Nat→List V} {nb:Nat} {K:S→Prop} {KV:V→Prop} {Q:VE→S→Prop}
variable {α:Type} {c:α→List C} {sz:Nat}
theorem V5 {P S:List α} {x y:α} {k:Nat} (hk:P.length=k):(P++x::S).set k y=P++y::S:=by
 subst hk;simp
def flb (c:α→List C) (l:List α):List V:=(l.map c).flatten.map .c
theorem sr {x:α} {l:List α}:flb c (x::l)=(c x).map .c++flb c l:=by simp[flb]
theorem m0 {l m:List α}:flb c (l++m)=flb c l++flb c m:=by simp[flb]
theorem ke (hc:∀ x,(c x).length=sz):∀ l:List α,(flb c l).length=l.length*sz
 |[]=>by simp[flb]
 |x::l=>by rw[sr,ax,ke hc l];simp[hc,dD,lc]
theorem K3 {l:List α} {i:Nat} {x:α} (h:l[i]?=some x):∃ a b,l=a++x::b∧a.length=i:=by
 obtain⟨hi,hx⟩:=ak.1 h
 refine⟨l.take i,l.drop (i+1),?_,by simp;omega⟩
 rw[← hx,List.getElem_cons_drop,dS]
theorem Rf (hc:∀ x,(c x).length=sz) {l:List α} {i:Nat} {x:α} (h:l[i]?=some x):((flb c l).drop (i*sz)).take sz=(c x).map .c:=by
 obtain⟨a,b,rfl,rfl⟩:=K3 h
 rw[m0,← ke hc a,List.drop_left,sr]
 exact fR (by simp[hc])
theorem V6 (hc:∀ x,(c x).length=sz) {l:List α} {i:Nat} {y:α} (h:i<l.length):eU (flb c l) (i*sz) ((c y).map .c)=flb c (l.set i y):=by
 obtain⟨a,b,e,rfl⟩:=K3 (aj h)
 rw[e,V5 rfl]
 simp only[m0,sr,eU]
 rw[← ke hc a,List.take_left]
 have e1:(flb c a).length+((c y).map V.c).length=(flb c a).length+((c l[a.length]).map V.c).length:=by simp[hc]
 rw[e1,← fp,List.drop_left,List.drop_left]
 simp
theorem zT (hc:∀ x,(c x).length=sz) {b i o:Nat} {l:List α} {x:α} (ho:o=i*sz) (hb:b<nb) (h:l[i]?=some x) (hK:KV (.agg (c x))):ldA nb b (flb c l) o sz KV:=by
 subst ho
 unfold ldA
 rw[Rf hc h]
 have h2:((c x).map V.c).map V.fz=(c x).map V.c:=by simp[gA,Function.comp_def,V.fz]
 have h3:((c x).map V.c).all V.isPO=true:=by simp[List.all_map,Function.comp_def,V.isPO]
 rw[h2,h3,zL]
 exact⟨hb,⟨by simp[hc],rfl⟩,hK⟩
theorem Jl {T e:TypeId} {i j:TI} {k:Nat} {n:Int} {b l cp z:Nat} (hT:ti P T=some i) (hk:i.kd=.slice e) (hj:ti P e=some j) (hs:j.size=z) (hz:z≠0) (hn:n=(k:Nat)) (hl:k<l)
 (hK:KV (.bp b (k*z))):cC P T (.ms b 0 l cp z) (.c (.lit (.int .i64 n))) KV:=by
 subst hn
 refine X8 hT hk hj hs hz (aI k) (by omega) ?_
 simpa using hK
theorem gK {α:Type} {c:α→List C} {l:List α}:cX (flb c l)=false:=Gs
theorem stq (hc:∀ x,(c x).length=sz) {i:Nat} {y:α} {l l':List α} (hi:i<l.length) (h:l.set i y=l'):((i*sz+sz≤(flb c l).length)=True)∧eU (flb c l) (i*sz) ((c y).map .c)=flb c l':=by
 subst h
 refine⟨?_,V6 hc hi⟩
 rw[ke hc,eq_iff_iff,iff_true]
 have:i*sz+sz=(i+1)*sz:=by rw[dD]
 rw[this];exact aP _ hi
theorem zU {l:List (Nat×V)} {k:Nat} {L:List α} (dI:l.all (fun p=>p.2.ltB 1)=true) (hk:k≤1) (hn:1≤nb) (h1:FL l fr) (h2:bx 0=flb c L):S.Le k (hdS l [flb c L]) ⟨fr,bx,nb⟩:=by
 refine cj ?_ hk hn h1 ⟨h2,trivial⟩
 simp only[eW,aR,bb,iV,aG]
 exact⟨dI,gd _ _⟩
theorem Rh {L:List α} {args:List V} (h:args.all (fun v=>v.ltB 1)=true):eC args [flb c L]=true:=by
 simp only[eC,aR,bb,iV,aG]
 exact⟨h,gd _ _⟩
end
section
variable {α:Type} {c:α→List C} {sz:Nat}
theorem x8 (hc:∀ x,(c x).length=sz):∀ l:List α,lJ sz l.length (l.map c).flatten=l.map c
 |[]=>rfl
 |x::l=>by
  simp only[aB,aL,dQ,lJ]
  rw[fR (hc x),List.drop_left' (hc x),x8 hc l]
theorem K4 {fr:Nat→V} {bx:Nat→List V} {nb b:Nat} {l:List α} (hb:b<nb) (h:bx b=flb c l):yq ⟨fr,bx,nb⟩ b=some (l.map c).flatten:=by
 unfold yq;simp only[hb,cJ,h,flb]
 generalize (l.map c).flatten=cs
 induction cs with
 |nil=>rfl
 |cons x cs ih=>simp only[aL,fm,ih];rfl
theorem GG (hc:∀ x,(c x).length=sz) {fr:Nat→V} {bx:Nat→List V} {nb b n:Nat} {l:List α} (hb:b<nb) (h:bx b=flb c l) (hn:n=l.length):lT ⟨fr,bx,nb⟩ b 0 n sz=some (.sl (l.map c)):=by
 subst hn
 unfold lT;rw[K4 hb h]
 have:(l.map c).flatten.length=l.length*sz:=by have:=ke hc l;unfold flb at this;rwa [ap] at this
 simp only[this,ah,ae,cJ,eM,x8 hc]
theorem Ri (hc:∀ x,(c x).length=sz) {l:List α} {i:Nat} (h:i≤l.length):(flb c l).take (i*sz)=flb c (l.take i):=by
 have e:flb c l=flb c (l.take i)++flb c (l.drop i):=by rw[← m0,dS]
 rw[e]
 exact fR (by rw[ke hc,aZ,ci h])
theorem NL (hc:∀ x,(c x).length=sz) {l:List α} {i:Nat} (h:i≤l.length):(flb c l).drop (i*sz)=flb c (l.drop i):=by
 have e:flb c l=flb c (l.take i)++flb c (l.drop i):=by rw[← m0,dS]
 rw[e]
 exact List.drop_left' (by rw[ke hc,aZ,ci h])
theorem V7 (hc:∀ x,(c x).length=sz) {l m:List α} {i:Nat} (h:i+m.length≤l.length):eU (flb c l) (i*sz) (flb c m)=flb c (l.take i++m++l.drop (i+m.length)):=by
 unfold eU
 have e:i*sz+(flb c m).length=(i+m.length)*sz:=by rw[ke hc,cR]
 rw[e,Ri hc (by omega),NL hc (by omega),← m0,← m0]
theorem NM (hc:∀ x,(c x).length=sz) {l:List α} {a:Nat} (h:a≤l.length):(l.map c).flatten.drop (a*sz)=((l.drop a).map c).flatten:=by
 have e:(l.map c).flatten=((l.take a).map c).flatten++((l.drop a).map c).flatten:=by rw[← dW,← dG,dS]
 have hl:∀ m:List α,(m.map c).flatten.length=m.length*sz:=fun m=>by have:=ke hc m;unfold flb at this;rwa [ap] at this
 rw[e]
 exact List.drop_left' (by rw[hl,aZ,ci h])
theorem vH (hc:∀ x,(c x).length=sz):∀ (n:Nat) (l:List α),n≤l.length→lJ sz n (l.map c).flatten=(l.take n).map c
 |0,_,_=>rfl
 |n+1,[],h=>by simp at h
 |n+1,x::l,h=>by
  simp only[aL,dQ,lJ,fe]
  rw[fR (hc x),List.drop_left' (hc x),vH hc n l (by simpa using h)]
theorem NN (hc:∀ x,(c x).length=sz) {fr:Nat→V} {bx:Nat→List V} {nb b o a n:Nat} {l:List α} (hb:b<nb) (h:bx b=flb c l) (ho:o=a*sz) (hn:a+n≤l.length):lT ⟨fr,bx,nb⟩ b o n sz=some (.sl (((l.drop a).take n).map c)):=by
 subst ho
 unfold lT;rw[K4 hb h]
 have hl:(l.map c).flatten.length=l.length*sz:=by have:=ke hc l;unfold flb at this;rwa [ap] at this
 have hm:a*sz+n*sz≤l.length*sz:=by rw[← cR];exact aP _ hn
 simp only[hl,hm,cJ]
 rw[NM hc (by omega),vH hc n _ (by rw[cY];omega)]
end
theorem Rj {P:Program} {T e:TypeId} {i j:TI} {b off len cap sz l h m:Nat} {lo hi mx:Option V} {K:V→Prop} (hT:ti P T=some i) (hk:i.kd=.slice e) (hE:ti P e=some j) (hs:j.size=sz) (h1:gC 0 lo=some (l:Nat)) (h2:gC len hi=some (h:Nat)) (h3:gC cap mx=some (m:Nat))
 (hlh:l≤h) (hhm:h≤m) (hmc:m≤cap) (hx:mx.isSome=true→hi.isSome=true) (hK:K (.ms b (off+l*sz) (h - l) (m - l) sz)):gG P T (.ms b off len cap sz) lo hi mx K:=by
 obtain⟨kd,a,b',c,d,f,g⟩:=i;simp only at hk;subst hk
 simp only[gG,hT,hE,h1,h2,h3,iw]
 exact⟨⟨hs,by omega,by omega,by omega,by omega,hx⟩,hK⟩
section
variable {P:Program} {G:Gl} {α:Type} {c:α→List C} {sz:Nat} {KV:V→Prop} {nb:Nat}
theorem GH {T e:TypeId} {i j:TI} {n:Int} {b o a k l cp z:Nat} (hT:ti P T=some i) (hk:i.kd=.slice e) (hj:ti P e=some j) (hs:j.size=z) (hz:z≠0) (ho:o=a*z) (hn:n=(k:Nat)) (hl:k<l)
 (hK:KV (.bp b ((a+k)*z))):cC P T (.ms b o l cp z) (.c (.lit (.int .i64 n))) KV:=by
 subst hn;subst ho
 refine X8 hT hk hj hs hz (aI k) (by omega) ?_
 rw[iw,← cR];exact hK
theorem K5 {ρ:Nat→Nat} {l:List α}:(flb c l).map (V.ren ρ)=flb c l:=by
 unfold flb;rw[gA];rfl
theorem GI {α:Type} {L:List α} {k:Nat} {x:α} (h:k<L.length):(L.set k x).take (k+1)=L.take k++[x]:=by
 rw[aU (by simpa using h),List.getElem_set_self,List.take_set_of_le (ae _)]
end
section
variable {P:Program} {α:Type} [DecidableEq α] {c:α→List C} {s:S} {T kt et:TypeId} {tT tk te:TI} {ks:List EK} {K:S→Prop} {i:Nat}
end
theorem tp {P:Program} {G:Gl} {s:S} {f:V} {args all cargs:List V} {g:FuncId} {K:S→V→Prop} {r:V} {b0 b1:List (List V)} (ρ:List Nat) (hc:ew f args=some (g,all)) (hf:FnB P G g cargs b0 r b1)
 (dh:all.map V.fz=cargs.map (V.ren (rho ρ s.nb))) (hl:ρ.length=b0.length) (pA:ρ.Nodup) (h1:b1.length=b0.length) (hb:pB s.bx s.nb (rho ρ s.nb) 0 b0)
 (hK:∀ bx':Nat→List V,(∀ j,j∉ρ→bx' j=s.bx j)→(∀ (i j:Nat) (b:List V),ρ[i]?=some j→b1[i]?=some b→bx' j=b.map (V.ren (rho ρ s.nb)))→K ⟨s.fr,bx',s.nb⟩ (r.ren (rho ρ s.nb))):vcallB P G s f args K:=by
 unfold vcallB jR
 simp only[hc]
 refine⟨ρ,cargs,b0,r,b1,hf,dh,⟨hl,pA⟩,hb,?_⟩
 have Y3:∀ i,i<b1.length→∃ j,ρ[i]?=some j∧rho ρ s.nb i=j:=fun i hi=>by
  have:i<ρ.length:=by omega
  exact⟨ρ[i],aj this,by unfold rho;rw[if_pos this];simp[this]⟩
 have hn:s.nb+(b1.length - b0.length)=s.nb:=by omega
 rw[hn]
 refine hK _ (fun j hj=>pJ b1 0 s.bx j fun i hi=>?_) fun i j b hi hb=>?_
 ·obtain⟨k,h2,h3⟩:=Y3 i hi
  rw[ah,h3]
  rintro rfl
  exact hj (bg h2)
 ·have sR:=(ak.1 hb).1
  obtain⟨k,h2,h3⟩:=Y3 i sR
  rw[hi] at h2;cases h2
  have:=zk (ρ:=rho ρ s.nb) b1 0 s.bx i b hb (fun i i' hi rj h=>by
   obtain⟨k,h4,h5⟩:=Y3 i hi
   obtain⟨k',h6,h7⟩:=Y3 i' rj
   rw[ah,ah,h5,h7] at h
   subst h
   obtain⟨q1,q2⟩:=ak.1 h4
   obtain⟨q3,q4⟩:=ak.1 h6
   exact(List.getElem_inj pA).1 (q2.trans q4.symm))
  rw[ah,h3] at this
  exact this
section
variable {P:Program} {α β:Type} [DecidableEq α] {f:α→V} {c:α→List C} {h:β→V} {s:S} {T kt et:TypeId} {tT tk te:TI} {ks:List EK} {K:S→Prop} {KV:V→Prop} {i:Nat} {z:V}
def oZ (f:α→V) (h:β→V) (l:List (α×β)):List V:=.mk (List.range l.length) l.length::pY f h l
def vI (l:List (α×β)) (a:α):Option Nat:=(l.map (·.1)).findIdx? (fun b=>decide (a=b))
def Rk (l:List (α×β)) (a:α) (b:β):List (α×β):=match vI l a with
 |some j=>l.set j (a,b)
 |none=>l++[(a,b)]
def vJ (l:List (α×β)) (a:α):Option β:=match vI l a with
 |some j=>(l[j]?).map (·.2)
 |none=>none
theorem tq {l:List (α×β)} {a:α} {j:Nat} (hj:vI l a=some j):∃ b,l[j]?=some (a,b):=by
 have:=Jk hj
 rw[ba,aX] at this
 obtain⟨⟨a',b⟩,h1,rfl⟩:=this
 exact⟨b,h1⟩
theorem NP {l:List (α×β)} {a:α} (hj:vI l a=none):a∉l.map (·.1):=fun hm=>by
 have:=GF (l:=l.map (·.1)) (a:=a)
 unfold vI at hj
 rw[hj] at this
 simp[hm] at this
theorem Rl {l:List (α×β)} {a:α}:(vJ l a).isSome=decide (a∈l.map (·.1)):=by
 unfold vJ
 cases hj:vI l a with
 |none=>have:=NP hj;simp only[kg];exact(fu this).symm
 |some j=>
  obtain⟨b,hb⟩:=tq hj
  have:a∈l.map (·.1):=bu.2 ⟨_,bg hb,rfl⟩
  simp only[hb,bK,Option.isSome_some];exact(eZ this).symm
theorem D5 (hT:ti P T=some tT) (hm:tT.kd=.map kt et) (hk:ti P kt=some tk) (UH:tk.eqs=some ks) (he:ti P et=some te) (hz:pU te=some z) (ha:zaB P et=true) (hf:∀ a,(f a).kcs tk.agg=some (c a))
 (hl:∀ a,(c a).length=ks.length) (lx:∀ a b,jA ks (c a) (c b)=some (decide (a=b))) {a:α} {l:List (α×β)} (hb:s.bx i=oZ f h l) (hi:i<s.nb)
 {KM:Nat→List Nat→Nat→List V→Option Nat→V→Prop} (hK:KM i (List.range l.length) l.length (pY f h l) (vI l a) z):ix P T s (.mr i) (f a) KM:=by
 refine ql (ks:=ks) (kc:=c a) (kcs:=(l.map (·.1)).map c) hT hm hk UH he (hf a) hz hb ?_ (BQ hl lx a _ 0) hi (hl a) (by rw[lx];simp) ha ?_
 ·rw[xX (c:=c) hf,gA];rfl
 ·have:(Option.map (0+·) ((l.map (·.1)).findIdx? (fun b=>decide (a=b))))=vI l a:=by
   unfold vI
   cases(l.map (·.1)).findIdx? (fun b=>decide (a=b))<;>simp
  rw[this];exact hK
theorem NQ (hT:ti P T=some tT) (hm:tT.kd=.map kt et) (hk:ti P kt=some tk) (UH:tk.eqs=some ks) (he:ti P et=some te) (hz:pU te=some z) (ha:zaB P et=true) (hf:∀ a,(f a).kcs tk.agg=some (c a))
 (hl:∀ a,(c a).length=ks.length) (lx:∀ a b,jA ks (c a) (c b)=some (decide (a=b))) {a:α} {l:List (α×β)} (hb:s.bx i=oZ f h l) (hi:i<s.nb)
 (hK:KV (.tup [(((vJ l a).map h).getD z).dr,.c (.lit (.bool (vJ l a).isSome))])):ft P T s (.mr i) (f a) true KV:=by
 unfold ft
 refine D5 hT hm hk UH he hz ha hf hl lx hb hi ?_
 unfold vJ at hK
 cases hj:vI l a with
 |none=>simp only[hj,jo,Option.getD_none,kg] at hK;exact hK
 |some j=>
  obtain⟨b,XL⟩:=tq hj
  simp only[hj,XL,bK,bQ,Option.isSome_some] at hK
  have e:=(sh (f:=f) (h:=h) l j (a,b) XL).1
  simp only[e,cJ]
  exact hK
theorem Jm (hT:ti P T=some tT) (hm:tT.kd=.map kt et) (hk:ti P kt=some tk) (UH:tk.eqs=some ks) (he:ti P et=some te) (hz:pU te=some z) (ha:zaB P et=true) (hf:∀ a,(f a).kcs tk.agg=some (c a))
 (hl:∀ a,(c a).length=ks.length) (lx:∀ a b,jA ks (c a) (c b)=some (decide (a=b))) {a:α} {l:List (α×β)} (hb:s.bx i=oZ f h l) (hi:i<s.nb)
 (hK:KV (((vJ l a).map fun b=>(h b).fz).getD z)):ft P T s (.mr i) (f a) false KV:=by
 unfold ft
 refine D5 hT hm hk UH he hz ha hf hl lx hb hi ?_
 unfold vJ at hK
 cases hj:vI l a with
 |none=>simp only[hj,jo,Option.getD_none] at hK;exact hK
 |some j=>
  obtain⟨b,XL⟩:=tq hj
  simp only[hj,XL,bK,bQ] at hK
  have e:=(sh (f:=f) (h:=h) l j (a,b) XL).1
  simp only[e,aS,dm]
  exact hK
theorem GK (hT:ti P T=some tT) (hm:tT.kd=.map kt et) (hk:ti P kt=some tk) (UH:tk.eqs=some ks) (he:ti P et=some te) (hz:pU te=some z) (ha:zaB P et=true) (hf:∀ a,(f a).kcs tk.agg=some (c a))
 (hl:∀ a,(c a).length=ks.length) (lx:∀ a b,jA ks (c a) (c b)=some (decide (a=b))) {a:α} {b:β} {x:V} (hx:x.fz=h b) (hfa:(f a).fz=f a) {l:List (α×β)} (hb:s.bx i=oZ f h l) (hi:i<s.nb)
 (hK:K { s with bx:=up s.bx i (oZ f h (Rk l a b)) }):ib P T s (.mr i) (f a) x K:=by
 unfold ib
 refine D5 hT hm hk UH he hz ha hf hl lx hb hi ?_
 unfold Rk at hK
 cases hj:vI l a with
 |none=>
  simp only[hj] at hK
  have e:List.range (l++[(a,b)]).length=List.range l.length++[l.length]:=by rw[ax,da,List.range_succ]
  unfold oZ at hK
  rw[e,xW,ax,da] at hK
  simp only[hx,hfa]
  exact hK
 |some j=>
  obtain⟨b',XL⟩:=tq hj
  simp only[hj] at hK
  unfold oZ at hK
  rw[iC] at hK
  simp only[hx]
  rw[Gu l j a b' b XL]
  exact hK
theorem Jn {l:List (α×β)} (hT:ti P T=some tT) (hm:tT.kd=.map kt et) (hb:s.bx i=oZ f h l) (hi:i<s.nb) (hK:KV (.it i l.length l.length [])):nK P T s (.mr i) KV:=by
 obtain⟨kd,a1,a2,a3,a4,a5,a6⟩:=tT
 simp only at hm;subst hm
 unfold nK
 simp only[hT,hb,oZ]
 exact⟨hi,hK⟩
theorem Jo {l:List (α×β)} {seen:List Nat} (hb:s.bx i=oZ f h l) (hi:i<s.nb) {K:Option V→V→Prop}
 (h0:(∀ b,b<l.length→b∈seen)→K none (.tup [.c (.lit (.bool false))])) (h1:∀ j (hj:j<l.length),j∉seen→K (some (.it i l.length l.length (seen++[j]))) (.tup [.c (.lit (.bool true)),(f l[j].1).dr,(h l[j].2).dr])):y3 s (.it i l.length l.length seen) K:=by
 unfold y3
 simp only[hb,oZ]
 refine⟨⟨hi,ae _,fun b h=>cO.1 h⟩,fun h=>h0 fun b hb=>h b (cO.2 hb),fun j b hj hb=>?_⟩
 obtain⟨hj1,Uz⟩:=ak.1 hj
 rw[List.getElem_range] at Uz
 subst Uz
 have YN:j<l.length:=by simpa using hj1
 have e:=sh (f:=f) (h:=h) l j l[j] (aj YN)
 rw[e.1,e.2]
 exact h1 j YN hb
theorem Jp {l:List (α×β)} {seen:List Nat} {b:Nat} (hb:s.bx i=oZ f h l) (hi:i<s.nb) (hm:b<l.length) (hK:KV (.tup [(f l[b].1).dr,(h l[b].2).dr])):mT s (.it i l.length l.length (seen++[b])) KV:=by
 unfold mT
 simp only[hb,oZ,List.getLast?_append,List.getLast?_singleton,Option.some_or]
 have hf:(List.range l.length).findIdx? (·==b)=some b:=by
  rw[bS]
  refine⟨by simpa using hm,by simp,fun k hk=>by simp;omega⟩
 have e:=sh (f:=f) (h:=h) l b l[b] (aj hm)
 simp only[hf,e.1,e.2]
 exact⟨⟨hi,trivial⟩,hK⟩
theorem Rm {ρ:Nat→Nat} (hf:∀ a,(f a).ren ρ=f a) (hh:∀ b,(h b).ren ρ=h b):∀ {l:List (α×β)},(pY f h l).map (V.ren ρ)=pY f h l:=by
 intro l
 induction l with
 |nil=>rfl
 |cons p l ih=>obtain⟨a,b⟩:=p;simp only[pY,aL,ih,hf,hh]
theorem GL {ρ:Nat→Nat} (hf:∀ a,(f a).ren ρ=f a) (hh:∀ b,(h b).ren ρ=h b) {l:List (α×β)}:(oZ f h l).map (V.ren ρ)=oZ f h l:=by
 simp only[oZ,aL,Rm hf hh];rfl
theorem GM {m:Nat} (hf:∀ a,(f a).ltB m=true) (hh:∀ b,(h b).ltB m=true) {l:List (α×β)}:(oZ f h l).all (fun x=>x.ltB m)=true:=by
 have:∀ l:List (α×β),(pY f h l).all (fun x=>x.ltB m)=true:=fun l=>by
  induction l with
  |nil=>rfl
  |cons p l ih=>obtain⟨a,b⟩:=p;simp only[pY,aR,ih,hf,hh];rfl
 simp only[oZ,aR,this];rfl
end
theorem xd {P:Program} {G:Gl} {s:S} {f:V} {args all cargs:List V} {g:FuncId} {K:S→V→Prop} {r:V} {Y Y':List (List V)} (hc:ew f args=some (g,all)) (hf:FnB P G g cargs Y r Y') (dh:all.map V.fz=cargs)
 (ce:Y'.length=Y.length) (bF:ltL Y.length Y') (hn:Y.length≤s.nb) (hb:BL 0 Y s.bx) (hr:∀ ρ:Nat→Nat,(∀ i,i<Y.length→ρ i=i)→r.ren ρ=r)
 (hK:∀ bx':Nat→List V,(∀ j,Y.length≤j→bx' j=s.bx j)→BL 0 Y' bx'→K ⟨s.fr,bx',s.nb⟩ r):vcallB P G s f args K:=by
 unfold vcallB jR
 simp only[hc]
 have hρ:∀ i,i<Y.length→rho (List.range Y.length) s.nb i=i:=fun i hi=>D4 hi
 have ly:∀ i b,Y[i]?=some b→s.bx i=b:=fun i b h=>by
  have hi:=(ak.1 h).1
  have:=BL.get hb i hi
  rw[ah] at this
  rw[← this,aA,h];rfl
 refine⟨List.range Y.length,cargs,Y,r,Y',hf,?_,⟨by simp,j0⟩,?_,?_⟩
 ·rw[dh,iG fun x hx=>sq (hf.2.1.1 x hx) hρ]
 ·refine tj hρ _ 0 (by omega) hf.2.1.2.1 (tf _ _ _ _ fun i b h=>?_)
  have hi:=(ak.1 h).1
  rw[ah]
  exact⟨by omega,ly i b h⟩
 ·rw[qV hρ Y' 0 _ (by omega) bF,qn,hr _ hρ,ce,kj,dL]
  refine hK _ (fun j hj=>?_) (DO _ _ _ fun i b h=>?_)
  ·simp only[au,fZ,ah]
   rw[if_neg (by omega)]
  ·have hi:=(ak.1 h).1
   simp only[au,fZ,ah,lb]
   rw[if_pos (by omega),aA,h];rfl
theorem kJ {P:Program} {G:Gl} {s:S} {f:V} {args all cargs:List V} {g:FuncId} {K:S→V→Prop} {r:V} {Y:List (List V)} (hc:ew f args=some (g,all)) (hf:FnB P G g cargs Y r Y) (dh:all.map V.fz=cargs)
 (hn:Y.length≤s.nb) (hb:BL 0 Y s.bx) (hr:∀ ρ:Nat→Nat,(∀ i,i<Y.length→ρ i=i)→r.ren ρ=r) (hK:K s r):vcallB P G s f args K:=by
 refine xd hc hf dh rfl hf.2.1.2.1 hn hb hr fun bx' h1 h2=>?_
 have:bx'=s.bx:=funext fun j=>by
  by_cases h:j<Y.length
  ·have a:=BL.get h2 j h
   have b:=BL.get hb j h
   rw[ah] at a b
   rw[← a,← b]
  ·exact h1 j (by omega)
 subst this;exact hK
