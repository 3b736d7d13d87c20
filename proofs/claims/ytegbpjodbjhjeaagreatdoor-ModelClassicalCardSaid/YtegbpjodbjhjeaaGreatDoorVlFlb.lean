/- Maps, fifth part: maps that are sets, and maps that count. -/
import Derived.Test.YtegbpjodbjhjeaaGreatDoorVlPack
import Derived.Test.YtegbpjodbjhjeaaGreatDoorVlEnv
set_option linter.all false
namespace Go.Vl
open Go Go.RowKit
section
variable {P:Program} {α:Type} [DecidableEq α] {c:α→List C} {s:S} {T kt et:TypeId} {tT tk te:TI} {ks:List EK} {K:S→Prop} {KV:V→Prop} {i:Nat}
def HJ (l:List α) (a:α):List α:=if a∈l then l else l++[a]
theorem HK {l:List α} {a:α}:(l.findIdx? (fun b=>decide (a=b))).isSome=decide (a∈l):=by
 rw[List.findIdx?_isSome,iL]
 simp only[dt,bj]
 exact⟨fun⟨x,h1,h2⟩=>h2▸h1,fun h=>⟨a,h,rfl⟩⟩
theorem Kq {l:List α} {a:α} {j:Nat} (h:l.findIdx? (fun b=>decide (a=b))=some j):l[j]?=some a:=by
 obtain⟨h1,h2,_⟩:=bW.1 h
 rw[aj h1,dA h2]
structure MOk (bs:List Nat) (cl:Nat) (kl:List α):Prop where
 len:bs.length=kl.length
 bnd:bs.Nodup
 lt:∀ b∈bs,b<cl
 knd:kl.Nodup
theorem MOk.nil:MOk [] 0 ([]:List α):=⟨rfl,ip,by simp,ip⟩
end
section
variable {P:Program} {G:Gl} {tr:List Nat} {fr:Nat→V} {bx:Nat→List V} {nb:Nat} {K:S→Prop} {KV:V→Prop} {Q:VE→S→Prop}
variable {α:Type} {c:α→List C} {sz:Nat}
theorem Xn {P S:List α} {x y:α} {k:Nat} (hk:P.length=k):(P++x::S).set k y=P++y::S:=by
 subst hk;simp
def flb (c:α→List C) (l:List α):List V:=(l.map c).flatten.map .c
theorem s0 {x:α} {l:List α}:flb c (x::l)=(c x).map .c++flb c l:=by simp[flb]
theorem nu {l m:List α}:flb c (l++m)=flb c l++flb c m:=by simp[flb]
theorem ky (hc:∀ x,(c x).length=sz):∀ l:List α,(flb c l).length=l.length*sz
 |[]=>by simp[flb]
 |x::l=>by rw[s0,ax,ky hc l];simp[hc,dJ,lE]
theorem Mi {l:List α} {i:Nat} {x:α} (h:l[i]?=some x):∃ a b,l=a++x::b∧a.length=i:=by
 obtain⟨hi,hx⟩:=ak.1 h
 refine⟨l.take i,l.drop (i+1),?_,by simp;omega⟩
 rw[← hx,List.getElem_cons_drop,d6]
theorem SC (hc:∀ x,(c x).length=sz) {l:List α} {i:Nat} {x:α} (h:l[i]?=some x):((flb c l).drop (i*sz)).take sz=(c x).map .c:=by
 obtain⟨a,b,rfl,rfl⟩:=Mi h
 rw[nu,← ky hc a,List.drop_left,s0]
 exact gq (by simp[hc])
theorem Xo (hc:∀ x,(c x).length=sz) {l:List α} {i:Nat} {y:α} (h:i<l.length):eU (flb c l) (i*sz) ((c y).map .c)=flb c (l.set i y):=by
 obtain⟨a,b,e,rfl⟩:=Mi (aj h)
 rw[e,Xn rfl]
 simp only[nu,s0,eU]
 rw[← ky hc a,List.take_left]
 have e1:(flb c a).length+((c y).map V.c).length=(flb c a).length+((c l[a.length]).map V.c).length:=by simp[hc]
 rw[e1,← fD,List.drop_left,List.drop_left]
 simp
theorem AY (hc:∀ x,(c x).length=sz) {b i o:Nat} {l:List α} {x:α} (ho:o=i*sz) (hb:b<nb) (h:l[i]?=some x) (hK:KV (.agg (c x))):ldA nb b (flb c l) o sz KV:=by
 subst ho
 unfold ldA
 rw[SC hc h]
 have h2:((c x).map V.c).map V.fz=(c x).map V.c:=by simp[gV,Function.comp_def,V.fz]
 have h3:((c x).map V.c).all V.isPO=true:=by simp[List.all_map,Function.comp_def,V.isPO]
 rw[h2,h3,AO]
 exact⟨hb,⟨by simp[hc],rfl⟩,hK⟩
theorem Kr {T e:TypeId} {i j:TI} {k:Nat} {n:Int} {b l cp z:Nat} (hT:ti P T=some i) (hk:i.kd=.slice e) (hj:ti P e=some j) (hs:j.size=z) (hz:z≠0) (hn:n=(k:Nat)) (hl:k<l)
 (hK:KV (.bp b (k*z))):cA P T (.ms b 0 l cp z) (.c (.lit (.int .i64 n))) KV:=by
 subst hn
 refine Zn hT hk hj hs hz (aD k) (by omega) ?_
 simpa using hK
theorem g9 {α:Type} {c:α→List C} {l:List α}:dc (flb c l)=false:=Hy
theorem stq (hc:∀ x,(c x).length=sz) {i:Nat} {y:α} {l l':List α} (hi:i<l.length) (h:l.set i y=l'):((i*sz+sz≤(flb c l).length)=True)∧eU (flb c l) (i*sz) ((c y).map .c)=flb c l':=by
 subst h
 refine⟨?_,Xo hc hi⟩
 rw[ky hc,eq_iff_iff,iff_true]
 have:i*sz+sz=(i+1)*sz:=by rw[dJ]
 rw[this];exact aS _ hi
theorem AZ {l:List (Nat×V)} {k:Nat} {L:List α} (dC:l.all (fun p=>p.2.ltB 1)=true) (hk:k≤1) (hn:1≤nb) (h1:FL l fr) (h2:bx 0=flb c L):S.Le k (hdS l [flb c L]) ⟨fr,bx,nb⟩:=by
 refine bT ?_ hk hn h1 ⟨h2,trivial⟩
 simp only[eQ,aN,aX,jd,aI]
 exact⟨dC,eM _ _⟩
theorem SD {L:List α} {args:List V} (h:args.all (fun v=>v.ltB 1)=true):eN args [flb c L]=true:=by
 simp only[eN,aN,aX,jd,aI]
 exact⟨h,eM _ _⟩
end
section
variable {α:Type} {c:α→List C} {sz:Nat}
theorem y3 (hc:∀ x,(c x).length=sz):∀ l:List α,l0 sz l.length (l.map c).flatten=l.map c
 |[]=>rfl
 |x::l=>by
  simp only[aC,aO,dY,l0]
  rw[gq (hc x),List.drop_left' (hc x),y3 hc l]
theorem Mj {fr:Nat→V} {bx:Nat→List V} {nb b:Nat} {l:List α} (hb:b<nb) (h:bx b=flb c l):zh ⟨fr,bx,nb⟩ b=some (l.map c).flatten:=by
 unfold zh;simp only[hb,cL,h,flb]
 generalize (l.map c).flatten=cs
 induction cs with
 |nil=>rfl
 |cons x cs ih=>simp only[aO,fE,ih];rfl
theorem HL (hc:∀ x,(c x).length=sz) {fr:Nat→V} {bx:Nat→List V} {nb b n:Nat} {l:List α} (hb:b<nb) (h:bx b=flb c l) (hn:n=l.length):mh ⟨fr,bx,nb⟩ b 0 n sz=some (.sl (l.map c)):=by
 subst hn
 unfold mh;rw[Mj hb h]
 have:(l.map c).flatten.length=l.length*sz:=by have:=ky hc l;unfold flb at this;rwa [am] at this
 simp only[this,ah,ae,cL,ep,y3 hc]
theorem SG (hc:∀ x,(c x).length=sz) {l:List α} {i:Nat} (h:i≤l.length):(flb c l).take (i*sz)=flb c (l.take i):=by
 have e:flb c l=flb c (l.take i)++flb c (l.drop i):=by rw[← nu,d6]
 rw[e]
 exact gq (by rw[ky hc,a8,cv h])
theorem OT (hc:∀ x,(c x).length=sz) {l:List α} {i:Nat} (h:i≤l.length):(flb c l).drop (i*sz)=flb c (l.drop i):=by
 have e:flb c l=flb c (l.take i)++flb c (l.drop i):=by rw[← nu,d6]
 rw[e]
 exact List.drop_left' (by rw[ky hc,a8,cv h])
theorem Xp (hc:∀ x,(c x).length=sz) {l m:List α} {i:Nat} (h:i+m.length≤l.length):eU (flb c l) (i*sz) (flb c m)=flb c (l.take i++m++l.drop (i+m.length)):=by
 unfold eU
 have e:i*sz+(flb c m).length=(i+m.length)*sz:=by rw[ky hc,cU]
 rw[e,SG hc (by omega),OT hc (by omega),← nu,← nu]
theorem OU (hc:∀ x,(c x).length=sz) {l:List α} {a:Nat} (h:a≤l.length):(l.map c).flatten.drop (a*sz)=((l.drop a).map c).flatten:=by
 have e:(l.map c).flatten=((l.take a).map c).flatten++((l.drop a).map c).flatten:=by rw[← ea,← dL,d6]
 have hl:∀ m:List α,(m.map c).flatten.length=m.length*sz:=fun m=>by have:=ky hc m;unfold flb at this;rwa [am] at this
 rw[e]
 exact List.drop_left' (by rw[hl,a8,cv h])
theorem wL (hc:∀ x,(c x).length=sz):∀ (n:Nat) (l:List α),n≤l.length→l0 sz n (l.map c).flatten=(l.take n).map c
 |0,_,_=>rfl
 |n+1,[],h=>by simp at h
 |n+1,x::l,h=>by
  simp only[aO,dY,l0,eZ]
  rw[gq (hc x),List.drop_left' (hc x),wL hc n l (by simpa using h)]
theorem OV (hc:∀ x,(c x).length=sz) {fr:Nat→V} {bx:Nat→List V} {nb b o a n:Nat} {l:List α} (hb:b<nb) (h:bx b=flb c l) (ho:o=a*sz) (hn:a+n≤l.length):mh ⟨fr,bx,nb⟩ b o n sz=some (.sl (((l.drop a).take n).map c)):=by
 subst ho
 unfold mh;rw[Mj hb h]
 have hl:(l.map c).flatten.length=l.length*sz:=by have:=ky hc l;unfold flb at this;rwa [am] at this
 have hm:a*sz+n*sz≤l.length*sz:=by rw[← cU];exact aS _ hn
 simp only[hl,hm,cL]
 rw[OU hc (by omega),wL hc n _ (by rw[di];omega)]
end
theorem SH {P:Program} {T e:TypeId} {i j:TI} {b off len cap sz l h m:Nat} {lo hi mx:Option V} {K:V→Prop} (hT:ti P T=some i) (hk:i.kd=.slice e) (hE:ti P e=some j) (hs:j.size=sz) (h1:gX 0 lo=some (l:Nat)) (h2:gX len hi=some (h:Nat)) (h3:gX cap mx=some (m:Nat))
 (hlh:l≤h) (hhm:h≤m) (hmc:m≤cap) (hx:mx.isSome=true→hi.isSome=true) (hK:K (.ms b (off+l*sz) (h - l) (m - l) sz)):gY P T (.ms b off len cap sz) lo hi mx K:=by
 obtain⟨kd,a,b',c,d,f,g⟩:=i;simp only at hk;subst hk
 simp only[gY,hT,hE,h1,h2,h3,iE]
 exact⟨⟨hs,by omega,by omega,by omega,by omega,hx⟩,hK⟩
section
variable {P:Program} {G:Gl} {α:Type} {c:α→List C} {sz:Nat} {KV:V→Prop} {nb:Nat}
theorem HM {T e:TypeId} {i j:TI} {n:Int} {b o a k l cp z:Nat} (hT:ti P T=some i) (hk:i.kd=.slice e) (hj:ti P e=some j) (hs:j.size=z) (hz:z≠0) (ho:o=a*z) (hn:n=(k:Nat)) (hl:k<l)
 (hK:KV (.bp b ((a+k)*z))):cA P T (.ms b o l cp z) (.c (.lit (.int .i64 n))) KV:=by
 subst hn;subst ho
 refine Zn hT hk hj hs hz (aD k) (by omega) ?_
 rw[iE,← cU];exact hK
theorem Mk {ρ:Nat→Nat} {l:List α}:(flb c l).map (V.ren ρ)=flb c l:=by
 unfold flb;rw[gV];rfl
theorem HN {α:Type} {L:List α} {k:Nat} {x:α} (h:k<L.length):(L.set k x).take (k+1)=L.take k++[x]:=by
 rw[aQ (by simpa using h),List.getElem_set_self,List.take_set_of_le (ae _)]
end
section
variable {P:Program} {α:Type} [DecidableEq α] {c:α→List C} {s:S} {T kt et:TypeId} {tT tk te:TI} {ks:List EK} {K:S→Prop} {i:Nat}
end
theorem uj {P:Program} {G:Gl} {s:S} {f:V} {args all cargs:List V} {g:FuncId} {K:S→V→Prop} {r:V} {b0 b1:List (List V)} (ρ:List Nat) (hc:eI f args=some (g,all)) (hf:FnB P G g cargs b0 r b1)
 (dh:all.map V.fz=cargs.map (V.ren (rho ρ s.nb))) (hl:ρ.length=b0.length) (pU:ρ.Nodup) (h1:b1.length=b0.length) (hb:pV s.bx s.nb (rho ρ s.nb) 0 b0)
 (hK:∀ bx':Nat→List V,(∀ j,j∉ρ→bx' j=s.bx j)→(∀ (i j:Nat) (b:List V),ρ[i]?=some j→b1[i]?=some b→bx' j=b.map (V.ren (rho ρ s.nb)))→K ⟨s.fr,bx',s.nb⟩ (r.ren (rho ρ s.nb))):vcallB P G s f args K:=by
 unfold vcallB j4
 simp only[hc]
 refine⟨ρ,cargs,b0,r,b1,hf,dh,⟨hl,pU⟩,hb,?_⟩
 have hat:∀ i,i<b1.length→∃ j,ρ[i]?=some j∧rho ρ s.nb i=j:=fun i hi=>by
  have:i<ρ.length:=by omega
  exact⟨ρ[i],aj this,by unfold rho;rw[if_pos this];simp[this]⟩
 have hn:s.nb+(b1.length - b0.length)=s.nb:=by omega
 rw[hn]
 refine hK _ (fun j hj=>qd b1 0 s.bx j fun i hi=>?_) fun i j b hi hb=>?_
 ·obtain⟨k,h2,h3⟩:=hat i hi
  rw[ah,h3]
  rintro rfl
  exact hj (bh h2)
 ·have tX:=(ak.1 hb).1
  obtain⟨k,h2,h3⟩:=hat i tX
  rw[hi] at h2;cases h2
  have:=Ap (ρ:=rho ρ s.nb) b1 0 s.bx i b hb (fun i i' hi rS h=>by
   obtain⟨k,h4,h5⟩:=hat i hi
   obtain⟨k',h6,h7⟩:=hat i' rS
   rw[ah,ah,h5,h7] at h
   subst h
   obtain⟨q1,q2⟩:=ak.1 h4
   obtain⟨q3,q4⟩:=ak.1 h6
   exact(List.getElem_inj pU).1 (q2.trans q4.symm))
  rw[ah,h3] at this
  exact this
section
variable {P:Program} {α β:Type} [DecidableEq α] {f:α→V} {c:α→List C} {h:β→V} {s:S} {T kt et:TypeId} {tT tk te:TI} {ks:List EK} {K:S→Prop} {KV:V→Prop} {i:Nat} {z:V}
def px (f:α→V) (h:β→V) (l:List (α×β)):List V:=.mk (List.range l.length) l.length::qu f h l
def wM (l:List (α×β)) (a:α):Option Nat:=(l.map (·.1)).findIdx? (fun b=>decide (a=b))
def SI (l:List (α×β)) (a:α) (b:β):List (α×β):=match wM l a with
 |some j=>l.set j (a,b)
 |none=>l++[(a,b)]
def wN (l:List (α×β)) (a:α):Option β:=match wM l a with
 |some j=>(l[j]?).map (·.2)
 |none=>none
theorem uk {l:List (α×β)} {a:α} {j:Nat} (hj:wM l a=some j):∃ b,l[j]?=some (a,b):=by
 have:=Kq hj
 rw[bb,aY] at this
 obtain⟨⟨a',b⟩,h1,rfl⟩:=this
 exact⟨b,h1⟩
theorem OW {l:List (α×β)} {a:α} (hj:wM l a=none):a∉l.map (·.1):=fun hm=>by
 have:=HK (l:=l.map (·.1)) (a:=a)
 unfold wM at hj
 rw[hj] at this
 simp[hm] at this
theorem SJ {l:List (α×β)} {a:α}:(wN l a).isSome=decide (a∈l.map (·.1)):=by
 unfold wN
 cases hj:wM l a with
 |none=>have:=OW hj;simp only[kA];exact(cR this).symm
 |some j=>
  obtain⟨b,hb⟩:=uk hj
  have:a∈l.map (·.1):=br.2 ⟨_,bh hb,rfl⟩
  simp only[hb,bO,Option.isSome_some];exact(cZ this).symm
theorem E5 (hT:ti P T=some tT) (hm:tT.kd=.map kt et) (hk:ti P kt=some tk) (VX:tk.eqs=some ks) (he:ti P et=some te) (hz:qo te=some z) (ha:zaB P et=true) (hf:∀ a,(f a).kcs tk.agg=some (c a))
 (hl:∀ a,(c a).length=ks.length) (kR:∀ a b,jM ks (c a) (c b)=some (decide (a=b))) {a:α} {l:List (α×β)} (hb:s.bx i=px f h l) (hi:i<s.nb)
 {KM:Nat→List Nat→Nat→List V→Option Nat→V→Prop} (hK:KM i (List.range l.length) l.length (qu f h l) (wM l a) z):iI P T s (.mr i) (f a) KM:=by
 refine qJ (ks:=ks) (kc:=c a) (kcs:=(l.map (·.1)).map c) hT hm hk VX he (hf a) hz hb ?_ (CV hl kR a _ 0) hi (hl a) (by rw[kR];simp) ha ?_
 ·rw[yZ (c:=c) hf,gV];rfl
 ·have:(Option.map (0+·) ((l.map (·.1)).findIdx? (fun b=>decide (a=b))))=wM l a:=by
   unfold wM
   cases(l.map (·.1)).findIdx? (fun b=>decide (a=b))<;>simp
  rw[this];exact hK
theorem OX (hT:ti P T=some tT) (hm:tT.kd=.map kt et) (hk:ti P kt=some tk) (VX:tk.eqs=some ks) (he:ti P et=some te) (hz:qo te=some z) (ha:zaB P et=true) (hf:∀ a,(f a).kcs tk.agg=some (c a))
 (hl:∀ a,(c a).length=ks.length) (kR:∀ a b,jM ks (c a) (c b)=some (decide (a=b))) {a:α} {l:List (α×β)} (hb:s.bx i=px f h l) (hi:i<s.nb)
 (hK:KV (.tup [(((wN l a).map h).getD z).dr,.c (.lit (.bool (wN l a).isSome))])):fG P T s (.mr i) (f a) true KV:=by
 unfold fG
 refine E5 hT hm hk VX he hz ha hf hl kR hb hi ?_
 unfold wN at hK
 cases hj:wM l a with
 |none=>simp only[hj,jv,Option.getD_none,kA] at hK;exact hK
 |some j=>
  obtain⟨b,Y3⟩:=uk hj
  simp only[hj,Y3,bO,bU,Option.isSome_some] at hK
  have e:=(sV (f:=f) (h:=h) l j (a,b) Y3).1
  simp only[e,cL]
  exact hK
theorem Ks (hT:ti P T=some tT) (hm:tT.kd=.map kt et) (hk:ti P kt=some tk) (VX:tk.eqs=some ks) (he:ti P et=some te) (hz:qo te=some z) (ha:zaB P et=true) (hf:∀ a,(f a).kcs tk.agg=some (c a))
 (hl:∀ a,(c a).length=ks.length) (kR:∀ a b,jM ks (c a) (c b)=some (decide (a=b))) {a:α} {l:List (α×β)} (hb:s.bx i=px f h l) (hi:i<s.nb)
 (hK:KV (((wN l a).map fun b=>(h b).fz).getD z)):fG P T s (.mr i) (f a) false KV:=by
 unfold fG
 refine E5 hT hm hk VX he hz ha hf hl kR hb hi ?_
 unfold wN at hK
 cases hj:wM l a with
 |none=>simp only[hj,jv,Option.getD_none] at hK;exact hK
 |some j=>
  obtain⟨b,Y3⟩:=uk hj
  simp only[hj,Y3,bO,bU] at hK
  have e:=(sV (f:=f) (h:=h) l j (a,b) Y3).1
  simp only[e,aM,dy]
  exact hK
theorem HO (hT:ti P T=some tT) (hm:tT.kd=.map kt et) (hk:ti P kt=some tk) (VX:tk.eqs=some ks) (he:ti P et=some te) (hz:qo te=some z) (ha:zaB P et=true) (hf:∀ a,(f a).kcs tk.agg=some (c a))
 (hl:∀ a,(c a).length=ks.length) (kR:∀ a b,jM ks (c a) (c b)=some (decide (a=b))) {a:α} {b:β} {x:V} (hx:x.fz=h b) (hfa:(f a).fz=f a) {l:List (α×β)} (hb:s.bx i=px f h l) (hi:i<s.nb)
 (hK:K { s with bx:=up s.bx i (px f h (SI l a b)) }):ix P T s (.mr i) (f a) x K:=by
 unfold ix
 refine E5 hT hm hk VX he hz ha hf hl kR hb hi ?_
 unfold SI at hK
 cases hj:wM l a with
 |none=>
  simp only[hj] at hK
  have e:List.range (l++[(a,b)]).length=List.range l.length++[l.length]:=by rw[ax,dm,List.range_succ]
  unfold px at hK
  rw[e,yY,ax,dm] at hK
  simp only[hx,hfa]
  exact hK
 |some j=>
  obtain⟨b',Y3⟩:=uk hj
  simp only[hj] at hK
  unfold px at hK
  rw[iM] at hK
  simp only[hx]
  rw[HA l j a b' b Y3]
  exact hK
theorem Kt {l:List (α×β)} (hT:ti P T=some tT) (hm:tT.kd=.map kt et) (hb:s.bx i=px f h l) (hi:i<s.nb) (hK:KV (.it i l.length l.length [])):oh P T s (.mr i) KV:=by
 obtain⟨kd,a1,a2,a3,a4,a5,a6⟩:=tT
 simp only at hm;subst hm
 unfold oh
 simp only[hT,hb,px]
 exact⟨hi,hK⟩
theorem Ku {l:List (α×β)} {seen:List Nat} (hb:s.bx i=px f h l) (hi:i<s.nb) {K:Option V→V→Prop}
 (h0:(∀ b,b<l.length→b∈seen)→K none (.tup [.c (.lit (.bool false))])) (h1:∀ j (hj:j<l.length),j∉seen→K (some (.it i l.length l.length (seen++[j]))) (.tup [.c (.lit (.bool true)),(f l[j].1).dr,(h l[j].2).dr])):Aa s (.it i l.length l.length seen) K:=by
 unfold Aa
 simp only[hb,px]
 refine⟨⟨hi,ae _,fun b h=>cQ.1 h⟩,fun h=>h0 fun b hb=>h b (cQ.2 hb),fun j b hj hb=>?_⟩
 obtain⟨hj1,VO⟩:=ak.1 hj
 rw[List.getElem_range] at VO
 subst VO
 have Z3:j<l.length:=by simpa using hj1
 have e:=sV (f:=f) (h:=h) l j l[j] (aj Z3)
 rw[e.1,e.2]
 exact h1 j Z3 hb
theorem Kv {l:List (α×β)} {seen:List Nat} {b:Nat} (hb:s.bx i=px f h l) (hi:i<s.nb) (hm:b<l.length) (hK:KV (.tup [(f l[b].1).dr,(h l[b].2).dr])):nk s (.it i l.length l.length (seen++[b])) KV:=by
 unfold nk
 simp only[hb,px,List.getLast?_append,List.getLast?_singleton,Option.some_or]
 have hf:(List.range l.length).findIdx? (·==b)=some b:=by
  rw[bW]
  refine⟨by simpa using hm,by simp,fun k hk=>by simp;omega⟩
 have e:=sV (f:=f) (h:=h) l b l[b] (aj hm)
 simp only[hf,e.1,e.2]
 exact⟨⟨hi,trivial⟩,hK⟩
theorem SK {ρ:Nat→Nat} (hf:∀ a,(f a).ren ρ=f a) (hh:∀ b,(h b).ren ρ=h b):∀ {l:List (α×β)},(qu f h l).map (V.ren ρ)=qu f h l:=by
 intro l
 induction l with
 |nil=>rfl
 |cons p l ih=>obtain⟨a,b⟩:=p;simp only[qu,aO,ih,hf,hh]
theorem HQ {ρ:Nat→Nat} (hf:∀ a,(f a).ren ρ=f a) (hh:∀ b,(h b).ren ρ=h b) {l:List (α×β)}:(px f h l).map (V.ren ρ)=px f h l:=by
 simp only[px,aO,SK hf hh];rfl
theorem HS {m:Nat} (hf:∀ a,(f a).ltB m=true) (hh:∀ b,(h b).ltB m=true) {l:List (α×β)}:(px f h l).all (fun x=>x.ltB m)=true:=by
 have:∀ l:List (α×β),(qu f h l).all (fun x=>x.ltB m)=true:=fun l=>by
  induction l with
  |nil=>rfl
  |cons p l ih=>obtain⟨a,b⟩:=p;simp only[qu,aN,ih,hf,hh];rfl
 simp only[px,aN,this];rfl
end
theorem yi {P:Program} {G:Gl} {s:S} {f:V} {args all cargs:List V} {g:FuncId} {K:S→V→Prop} {r:V} {Y Y':List (List V)} (hc:eI f args=some (g,all)) (hf:FnB P G g cargs Y r Y') (dh:all.map V.fz=cargs)
 (cu:Y'.length=Y.length) (bB:ltL Y.length Y') (hn:Y.length≤s.nb) (hb:BL 0 Y s.bx) (hr:∀ ρ:Nat→Nat,(∀ i,i<Y.length→ρ i=i)→r.ren ρ=r)
 (hK:∀ bx':Nat→List V,(∀ j,Y.length≤j→bx' j=s.bx j)→BL 0 Y' bx'→K ⟨s.fr,bx',s.nb⟩ r):vcallB P G s f args K:=by
 unfold vcallB j4
 simp only[hc]
 have hρ:∀ i,i<Y.length→rho (List.range Y.length) s.nb i=i:=fun i hi=>E4 hi
 have lR:∀ i b,Y[i]?=some b→s.bx i=b:=fun i b h=>by
  have hi:=(ak.1 h).1
  have:=BL.get hb i hi
  rw[ah] at this
  rw[← this,aB,h];rfl
 refine⟨List.range Y.length,cargs,Y,r,Y',hf,?_,⟨by simp,ke⟩,?_,?_⟩
 ·rw[dh,iT fun x hx=>sZ (hf.2.1.1 x hx) hρ]
 ·refine ui hρ _ 0 (by omega) hf.2.1.2.1 (ug _ _ _ _ fun i b h=>?_)
  have hi:=(ak.1 h).1
  rw[ah]
  exact⟨by omega,lR i b h⟩
 ·rw[rC hρ Y' 0 _ (by omega) bB,qL,hr _ hρ,cu,kB,dR]
  refine hK _ (fun j hj=>?_) (ET _ _ _ fun i b h=>?_)
  ·simp only[ar,fZ,ah]
   rw[if_neg (by omega)]
  ·have hi:=(ak.1 h).1
   simp only[ar,fZ,ah,lF]
   rw[if_pos (by omega),aB,h];rfl
theorem kZ {P:Program} {G:Gl} {s:S} {f:V} {args all cargs:List V} {g:FuncId} {K:S→V→Prop} {r:V} {Y:List (List V)} (hc:eI f args=some (g,all)) (hf:FnB P G g cargs Y r Y) (dh:all.map V.fz=cargs)
 (hn:Y.length≤s.nb) (hb:BL 0 Y s.bx) (hr:∀ ρ:Nat→Nat,(∀ i,i<Y.length→ρ i=i)→r.ren ρ=r) (hK:K s r):vcallB P G s f args K:=by
 refine yi hc hf dh rfl hf.2.1.2.1 hn hb hr fun bx' h1 h2=>?_
 have:bx'=s.bx:=funext fun j=>by
  by_cases h:j<Y.length
  ·have a:=BL.get h2 j h
   have b:=BL.get hb j h
   rw[ah] at a b
   rw[← a,← b]
  ·exact h1 j (by omega)
 subst this;exact hK
