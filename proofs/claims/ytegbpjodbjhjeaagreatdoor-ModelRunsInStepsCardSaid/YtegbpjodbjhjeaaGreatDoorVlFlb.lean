/- Maps, fifth part: maps that are sets, and maps that count. -/
import Derived.Test.YtegbpjodbjhjeaaGreatDoorVlPack
import Derived.Test.YtegbpjodbjhjeaaGreatDoorVlEnv
set_option linter.all false
namespace Go.Vl
open Go Go.RowKit
section
variable {P:Program} {α:Type} [DecidableEq α] {c:α→List C} {s:S} {T kt et:TypeId} {tT tk te:TI} {ks:List EK} {K:S→Prop} {KV:V→Prop} {i:Nat}
def C5 (l:List α) (a:α):List α:=if a∈l then l else l++[a]
theorem C6 {l:List α} {a:α}:(l.findIdx? (fun b=>decide (a=b))).isSome=decide (a∈l):=by
 rw[List.findIdx?_isSome,jw]
 simp only[dE,bi]
 exact⟨fun⟨x,h1,h2⟩=>h2▸h1,fun h=>⟨a,h,rfl⟩⟩
theorem FA {l:List α} {a:α} {j:Nat} (h:l.findIdx? (fun b=>decide (a=b))=some j):l[j]?=some a:=by
 obtain⟨h1,h2,_⟩:=bO.1 h
 rw[ak h1,iL h2]
structure MOk (bs:List Nat) (cl:Nat) (kl:List α):Prop where
 len:bs.length=kl.length
 bnd:bs.Nodup
 lt:∀ b∈bs,b<cl
 knd:kl.Nodup
theorem MOk.nil:MOk [] 0 ([]:List α):=⟨rfl,iq,by simp,iq⟩
end
section
variable {P:Program} {G:Gl} {tr:List Nat} {fr:Nat→V} {bx:Nat→List V} {nb:Nat} {K:S→Prop} {KV:V→Prop} {Q:VE→S→Prop}
variable {α:Type} {c:α→List C} {sz:Nat}
theorem RR {P S:List α} {x y:α} {k:Nat} (hk:P.length=k):(P++x::S).set k y=P++y::S:=by
 subst hk;simp
def flb (c:α→List C) (l:List α):List V:=(l.map c).flatten.map .c
theorem pV {x:α} {l:List α}:flb c (x::l)=(c x).map .c++flb c l:=by simp[flb]
theorem lK {l m:List α}:flb c (l++m)=flb c l++flb c m:=by simp[flb]
theorem jC (hc:∀ x,(c x).length=sz):∀ l:List α,(flb c l).length=l.length*sz
 |[]=>by simp[flb]
 |x::l=>by rw[pV,aw,jC hc l];simp[hc,dh,j4]
theorem G0 {l:List α} {i:Nat} {x:α} (h:l[i]?=some x):∃ a b,l=a++x::b∧a.length=i:=by
 obtain⟨hi,hx⟩:=aj.1 h
 refine⟨l.take i,l.drop (i+1),?_,by simp;omega⟩
 rw[← hx,List.getElem_cons_drop,dy]
theorem Nm (hc:∀ x,(c x).length=sz) {l:List α} {i:Nat} {x:α} (h:l[i]?=some x):((flb c l).drop (i*sz)).take sz=(c x).map .c:=by
 obtain⟨a,b,rfl,rfl⟩:=G0 h
 rw[lK,← jC hc a,List.drop_left,pV]
 exact fu (by simp[hc])
theorem RS (hc:∀ x,(c x).length=sz) {l:List α} {i:Nat} {y:α} (h:i<l.length):eF (flb c l) (i*sz) ((c y).map .c)=flb c (l.set i y):=by
 obtain⟨a,b,e,rfl⟩:=G0 (ak h)
 rw[e,RR rfl]
 simp only[lK,pV,eF]
 rw[← jC hc a,List.take_left]
 have e1:(flb c a).length+((c y).map V.c).length=(flb c a).length+((c l[a.length]).map V.c).length:=by simp[hc]
 rw[e1,← eU,List.drop_left,List.drop_left]
 simp
theorem wx (hc:∀ x,(c x).length=sz) {b i o:Nat} {l:List α} {x:α} (ho:o=i*sz) (hb:b<nb) (h:l[i]?=some x) (hK:KV (.agg (c x))):ldA nb b (flb c l) o sz KV:=by
 subst ho
 unfold ldA
 rw[Nm hc h]
 have h2:((c x).map V.c).map V.fz=(c x).map V.c:=by simp[fM,Function.comp_def,V.fz]
 have h3:((c x).map V.c).all V.isPO=true:=by simp[List.all_map,Function.comp_def,V.isPO]
 rw[h2,h3,sr]
 exact⟨hb,⟨by simp[hc],rfl⟩,hK⟩
theorem FB {T e:TypeId} {i j:TI} {k:Nat} {n:Int} {b l cp z:Nat} (hT:ti P T=some i) (hk:i.kd=.slice e) (hj:ti P e=some j) (hs:j.size=z) (hz:z≠0) (hn:n=(k:Nat)) (hl:k<l)
 (hK:KV (.bp b (k*z))):cw P T (.ms b 0 l cp z) (.c (.lit (.int .i64 n))) KV:=by
 subst hn
 refine UM hT hk hj hs hz (aM k) (by omega) ?_
 simpa using hK
theorem im {α:Type} {c:α→List C} {l:List α}:ck (flb c l)=false:=CQ
theorem stq (hc:∀ x,(c x).length=sz) {i:Nat} {y:α} {l l':List α} (hi:i<l.length) (h:l.set i y=l'):((i*sz+sz≤(flb c l).length)=True)∧eF (flb c l) (i*sz) ((c y).map .c)=flb c l':=by
 subst h
 refine⟨?_,RS hc hi⟩
 rw[jC hc,eq_iff_iff,iff_true]
 have:i*sz+sz=(i+1)*sz:=by rw[dh]
 rw[this];exact aO _ hi
theorem wy {l:List (Nat×V)} {k:Nat} {L:List α} (hok:l.all (fun p=>p.2.ltB 1)=true) (hk:k≤1) (hn:1≤nb) (h1:FL l fr) (h2:bx 0=flb c L):S.Le k (hdS l [flb c L]) ⟨fr,bx,nb⟩:=by
 refine cR ?_ hk hn h1 ⟨h2,trivial⟩
 simp only[fC,bh,bq,iU,aF]
 exact⟨hok,hZ _ _⟩
theorem Nn {L:List α} {args:List V} (h:args.all (fun v=>v.ltB 1)=true):dU args [flb c L]=true:=by
 simp only[dU,bh,bq,iU,aF]
 exact⟨h,hZ _ _⟩
end
section
variable {α:Type} {c:α→List C} {sz:Nat}
theorem uI (hc:∀ x,(c x).length=sz):∀ l:List α,ky sz l.length (l.map c).flatten=l.map c
 |[]=>rfl
 |x::l=>by
  simp only[aC,aI,dw,ky]
  rw[fu (hc x),List.drop_left' (hc x),uI hc l]
theorem G1 {fr:Nat→V} {bx:Nat→List V} {nb b:Nat} {l:List α} (hb:b<nb) (h:bx b=flb c l):uU ⟨fr,bx,nb⟩ b=some (l.map c).flatten:=by
 unfold uU;simp only[hb,cA,h,flb]
 generalize (l.map c).flatten=cs
 induction cs with
 |nil=>rfl
 |cons x cs ih=>simp only[aI,ek,ih];rfl
theorem No (hc:∀ x,(c x).length=sz) {fr:Nat→V} {bx:Nat→List V} {nb b n:Nat} {l:List α} (hb:b<nb) (h:bx b=flb c l) (hn:n=l.length):kF ⟨fr,bx,nb⟩ b 0 n sz=some (.sl (l.map c)):=by
 subst hn
 unfold kF;rw[G1 hb h]
 have:(l.map c).flatten.length=l.length*sz:=by have:=jC hc l;unfold flb at this;rwa [ap] at this
 simp only[this,ah,ae,cA,ei,uI hc]
theorem Np (hc:∀ x,(c x).length=sz) {l:List α} {i:Nat} (h:i≤l.length):(flb c l).take (i*sz)=flb c (l.take i):=by
 have e:flb c l=flb c (l.take i)++flb c (l.drop i):=by rw[← lK,dy]
 rw[e]
 exact fu (by rw[jC hc,aW,bY h])
theorem JG (hc:∀ x,(c x).length=sz) {l:List α} {i:Nat} (h:i≤l.length):(flb c l).drop (i*sz)=flb c (l.drop i):=by
 have e:flb c l=flb c (l.take i)++flb c (l.drop i):=by rw[← lK,dy]
 rw[e]
 exact List.drop_left' (by rw[jC hc,aW,bY h])
theorem RU (hc:∀ x,(c x).length=sz) {l m:List α} {i:Nat} (h:i+m.length≤l.length):eF (flb c l) (i*sz) (flb c m)=flb c (l.take i++m++l.drop (i+m.length)):=by
 unfold eF
 have e:i*sz+(flb c m).length=(i+m.length)*sz:=by rw[jC hc,cE]
 rw[e,Np hc (by omega),JG hc (by omega),← lK,← lK]
theorem JH (hc:∀ x,(c x).length=sz) {l:List α} {a:Nat} (h:a≤l.length):(l.map c).flatten.drop (a*sz)=((l.drop a).map c).flatten:=by
 have e:(l.map c).flatten=((l.take a).map c).flatten++((l.drop a).map c).flatten:=by rw[← dA,← eK,dy]
 have hl:∀ m:List α,(m.map c).flatten.length=m.length*sz:=fun m=>by have:=jC hc m;unfold flb at this;rwa [ap] at this
 rw[e]
 exact List.drop_left' (by rw[hl,aW,bY h])
theorem sB (hc:∀ x,(c x).length=sz):∀ (n:Nat) (l:List α),n≤l.length→ky sz n (l.map c).flatten=(l.take n).map c
 |0,_,_=>rfl
 |n+1,[],h=>by simp at h
 |n+1,x::l,h=>by
  simp only[aI,dw,ky,eu]
  rw[fu (hc x),List.drop_left' (hc x),sB hc n l (by simpa using h)]
theorem JI (hc:∀ x,(c x).length=sz) {fr:Nat→V} {bx:Nat→List V} {nb b o a n:Nat} {l:List α} (hb:b<nb) (h:bx b=flb c l) (ho:o=a*sz) (hn:a+n≤l.length):kF ⟨fr,bx,nb⟩ b o n sz=some (.sl (((l.drop a).take n).map c)):=by
 subst ho
 unfold kF;rw[G1 hb h]
 have hl:(l.map c).flatten.length=l.length*sz:=by have:=jC hc l;unfold flb at this;rwa [ap] at this
 have hm:a*sz+n*sz≤l.length*sz:=by rw[← cE];exact aO _ hn
 simp only[hl,hm,cA]
 rw[JH hc (by omega),sB hc n _ (by rw[cL];omega)]
end
theorem Nq {P:Program} {T e:TypeId} {i j:TI} {b off len cap sz l h m:Nat} {lo hi mx:Option V} {K:V→Prop} (hT:ti P T=some i) (hk:i.kd=.slice e) (hE:ti P e=some j) (hs:j.size=sz) (h1:fO 0 lo=some (l:Nat)) (h2:fO len hi=some (h:Nat)) (h3:fO cap mx=some (m:Nat))
 (hlh:l≤h) (hhm:h≤m) (hmc:m≤cap) (hx:mx.isSome=true→hi.isSome=true) (hK:K (.ms b (off+l*sz) (h - l) (m - l) sz)):fP P T (.ms b off len cap sz) lo hi mx K:=by
 obtain⟨kd,a,b',c,d,f,g⟩:=i;simp only at hk;subst hk
 simp only[fP,hT,hE,h1,h2,h3,iK]
 exact⟨⟨hs,by omega,by omega,by omega,by omega,hx⟩,hK⟩
section
variable {P:Program} {G:Gl} {α:Type} {c:α→List C} {sz:Nat} {KV:V→Prop} {nb:Nat}
theorem Nr {T e:TypeId} {i j:TI} {n:Int} {b o a k l cp z:Nat} (hT:ti P T=some i) (hk:i.kd=.slice e) (hj:ti P e=some j) (hs:j.size=z) (hz:z≠0) (ho:o=a*z) (hn:n=(k:Nat)) (hl:k<l)
 (hK:KV (.bp b ((a+k)*z))):cw P T (.ms b o l cp z) (.c (.lit (.int .i64 n))) KV:=by
 subst hn;subst ho
 refine UM hT hk hj hs hz (aM k) (by omega) ?_
 rw[iK,← cE];exact hK
theorem G2 {ρ:Nat→Nat} {l:List α}:(flb c l).map (V.ren ρ)=flb c l:=by
 unfold flb;rw[fM];rfl
theorem C7 {α:Type} {L:List α} {k:Nat} {x:α} (h:k<L.length):(L.set k x).take (k+1)=L.take k++[x]:=by
 rw[bg (by simpa using h),List.getElem_set_self,List.take_set_of_le (ae _)]
end
section
variable {P:Program} {α:Type} [DecidableEq α] {c:α→List C} {s:S} {T kt et:TypeId} {tT tk te:TI} {ks:List EK} {K:S→Prop} {i:Nat}
end
theorem qz {P:Program} {G:Gl} {s:S} {f:V} {args all cargs:List V} {g:FuncId} {K:S→V→Prop} {r:V} {b0 b1:List (List V)} (ρ:List Nat) (hc:dS f args=some (g,all)) (hf:FnB P G g cargs b0 r b1)
 (hall:all.map V.fz=cargs.map (V.ren (rho ρ s.nb))) (hl:ρ.length=b0.length) (hnd:ρ.Nodup) (h1:b1.length=b0.length) (hb:nw s.bx s.nb (rho ρ s.nb) 0 b0)
 (hK:∀ bx':Nat→List V,(∀ j,j∉ρ→bx' j=s.bx j)→(∀ (i j:Nat) (b:List V),ρ[i]?=some j→b1[i]?=some b→bx' j=b.map (V.ren (rho ρ s.nb)))→K ⟨s.fr,bx',s.nb⟩ (r.ren (rho ρ s.nb))):vcallB P G s f args K:=by
 unfold vcallB ja
 simp only[hc]
 refine⟨ρ,cargs,b0,r,b1,hf,hall,⟨hl,hnd⟩,hb,?_⟩
 have hat:∀ i,i<b1.length→∃ j,ρ[i]?=some j∧rho ρ s.nb i=j:=fun i hi=>by
  have:i<ρ.length:=by omega
  exact⟨ρ[i],ak this,by unfold rho;rw[if_pos this];simp[this]⟩
 have hn:s.nb+(b1.length - b0.length)=s.nb:=by omega
 rw[hn]
 refine hK _ (fun j hj=>nF b1 0 s.bx j fun i hi=>?_) fun i j b hi hb=>?_
 ·obtain⟨k,h2,h3⟩:=hat i hi
  rw[ah,h3]
  rintro rfl
  exact hj (bb h2)
 ·have hib:=(aj.1 hb).1
  obtain⟨k,h2,h3⟩:=hat i hib
  rw[hi] at h2;cases h2
  have:=vO (ρ:=rho ρ s.nb) b1 0 s.bx i b hb (fun i i' hi hi' h=>by
   obtain⟨k,h4,h5⟩:=hat i hi
   obtain⟨k',h6,h7⟩:=hat i' hi'
   rw[ah,ah,h5,h7] at h
   subst h
   obtain⟨q1,q2⟩:=aj.1 h4
   obtain⟨q3,q4⟩:=aj.1 h6
   exact(List.getElem_inj hnd).1 (q2.trans q4.symm))
  rw[ah,h3] at this
  exact this
section
variable {P:Program} {α β:Type} [DecidableEq α] {f:α→V} {c:α→List C} {h:β→V} {s:S} {T kt et:TypeId} {tT tk te:TI} {ks:List EK} {K:S→Prop} {KV:V→Prop} {i:Nat} {z:V}
def na (f:α→V) (h:β→V) (l:List (α×β)):List V:=.mk (List.range l.length) l.length::nU f h l
def sC (l:List (α×β)) (a:α):Option Nat:=(l.map (·.1)).findIdx? (fun b=>decide (a=b))
def Ns (l:List (α×β)) (a:α) (b:β):List (α×β):=match sC l a with
 |some j=>l.set j (a,b)
 |none=>l++[(a,b)]
def sD (l:List (α×β)) (a:α):Option β:=match sC l a with
 |some j=>(l[j]?).map (·.2)
 |none=>none
theorem qA {l:List (α×β)} {a:α} {j:Nat} (hj:sC l a=some j):∃ b,l[j]?=some (a,b):=by
 have:=FA hj
 rw[ba,aT] at this
 obtain⟨⟨a',b⟩,h1,rfl⟩:=this
 exact⟨b,h1⟩
theorem JJ {l:List (α×β)} {a:α} (hj:sC l a=none):a∉l.map (·.1):=fun hm=>by
 have:=C6 (l:=l.map (·.1)) (a:=a)
 unfold sC at hj
 rw[hj] at this
 simp[hm] at this
theorem Nt {l:List (α×β)} {a:α}:(sD l a).isSome=decide (a∈l.map (·.1)):=by
 unfold sD
 cases hj:sC l a with
 |none=>have:=JJ hj;simp only[jt];exact(en this).symm
 |some j=>
  obtain⟨b,hb⟩:=qA hj
  have:a∈l.map (·.1):=bF.2 ⟨_,bb hb,rfl⟩
  simp only[hb,bI,Option.isSome_some];exact(eI this).symm
theorem AM (hT:ti P T=some tT) (hm:tT.kd=.map kt et) (hk:ti P kt=some tk) (hks:tk.eqs=some ks) (he:ti P et=some te) (hz:nP te=some z) (ha:zaB P et=true) (hf:∀ a,(f a).kcs tk.agg=some (c a))
 (hl:∀ a,(c a).length=ks.length) (heq:∀ a b,ig ks (c a) (c b)=some (decide (a=b))) {a:α} {l:List (α×β)} (hb:s.bx i=na f h l) (hi:i<s.nb)
 {KM:Nat→List Nat→Nat→List V→Option Nat→V→Prop} (hK:KM i (List.range l.length) l.length (nU f h l) (sC l a) z):gy P T s (.mr i) (f a) KM:=by
 refine ol (ks:=ks) (kc:=c a) (kcs:=(l.map (·.1)).map c) hT hm hk hks he (hf a) hz hb ?_ (yC hl heq a _ 0) hi (hl a) (by rw[heq];simp) ha ?_
 ·rw[uF (c:=c) hf,fM];rfl
 ·have:(Option.map (0+·) ((l.map (·.1)).findIdx? (fun b=>decide (a=b))))=sC l a:=by
   unfold sC
   cases(l.map (·.1)).findIdx? (fun b=>decide (a=b))<;>simp
  rw[this];exact hK
theorem JK (hT:ti P T=some tT) (hm:tT.kd=.map kt et) (hk:ti P kt=some tk) (hks:tk.eqs=some ks) (he:ti P et=some te) (hz:nP te=some z) (ha:zaB P et=true) (hf:∀ a,(f a).kcs tk.agg=some (c a))
 (hl:∀ a,(c a).length=ks.length) (heq:∀ a b,ig ks (c a) (c b)=some (decide (a=b))) {a:α} {l:List (α×β)} (hb:s.bx i=na f h l) (hi:i<s.nb)
 (hK:KV (.tup [(((sD l a).map h).getD z).dr,.c (.lit (.bool (sD l a).isSome))])):eW P T s (.mr i) (f a) true KV:=by
 unfold eW
 refine AM hT hm hk hks he hz ha hf hl heq hb hi ?_
 unfold sD at hK
 cases hj:sC l a with
 |none=>simp only[hj,iC,Option.getD_none,jt] at hK;exact hK
 |some j=>
  obtain⟨b,hjb⟩:=qA hj
  simp only[hj,hjb,bI,bM,Option.isSome_some] at hK
  have e:=(pQ (f:=f) (h:=h) l j (a,b) hjb).1
  simp only[e,cA]
  exact hK
theorem FC (hT:ti P T=some tT) (hm:tT.kd=.map kt et) (hk:ti P kt=some tk) (hks:tk.eqs=some ks) (he:ti P et=some te) (hz:nP te=some z) (ha:zaB P et=true) (hf:∀ a,(f a).kcs tk.agg=some (c a))
 (hl:∀ a,(c a).length=ks.length) (heq:∀ a b,ig ks (c a) (c b)=some (decide (a=b))) {a:α} {l:List (α×β)} (hb:s.bx i=na f h l) (hi:i<s.nb)
 (hK:KV (((sD l a).map fun b=>(h b).fz).getD z)):eW P T s (.mr i) (f a) false KV:=by
 unfold eW
 refine AM hT hm hk hks he hz ha hf hl heq hb hi ?_
 unfold sD at hK
 cases hj:sC l a with
 |none=>simp only[hj,iC,Option.getD_none] at hK;exact hK
 |some j=>
  obtain⟨b,hjb⟩:=qA hj
  simp only[hj,hjb,bI,bM] at hK
  have e:=(pQ (f:=f) (h:=h) l j (a,b) hjb).1
  simp only[e,aS,cX]
  exact hK
theorem C9 (hT:ti P T=some tT) (hm:tT.kd=.map kt et) (hk:ti P kt=some tk) (hks:tk.eqs=some ks) (he:ti P et=some te) (hz:nP te=some z) (ha:zaB P et=true) (hf:∀ a,(f a).kcs tk.agg=some (c a))
 (hl:∀ a,(c a).length=ks.length) (heq:∀ a b,ig ks (c a) (c b)=some (decide (a=b))) {a:α} {b:β} {x:V} (hx:x.fz=h b) (hfa:(f a).fz=f a) {l:List (α×β)} (hb:s.bx i=na f h l) (hi:i<s.nb)
 (hK:K { s with bx:=up s.bx i (na f h (Ns l a b)) }):gj P T s (.mr i) (f a) x K:=by
 unfold gj
 refine AM hT hm hk hks he hz ha hf hl heq hb hi ?_
 unfold Ns at hK
 cases hj:sC l a with
 |none=>
  simp only[hj] at hK
  have e:List.range (l++[(a,b)]).length=List.range l.length++[l.length]:=by rw[aw,dz,List.range_succ]
  unfold na at hK
  rw[e,uE,aw,dz] at hK
  simp only[hx,hfa]
  exact hK
 |some j=>
  obtain⟨b',hjb⟩:=qA hj
  simp only[hj] at hK
  unfold na at hK
  rw[gJ] at hK
  simp only[hx]
  rw[CV l j a b' b hjb]
  exact hK
theorem FD {l:List (α×β)} (hT:ti P T=some tT) (hm:tT.kd=.map kt et) (hb:s.bx i=na f h l) (hi:i<s.nb) (hK:KV (.it i l.length l.length [])):ml P T s (.mr i) KV:=by
 obtain⟨kd,a1,a2,a3,a4,a5,a6⟩:=tT
 simp only at hm;subst hm
 unfold ml
 simp only[hT,hb,na]
 exact⟨hi,hK⟩
theorem FG {l:List (α×β)} {seen:List Nat} (hb:s.bx i=na f h l) (hi:i<s.nb) {K:Option V→V→Prop}
 (h0:(∀ b,b<l.length→b∈seen)→K none (.tup [.c (.lit (.bool false))])) (h1:∀ j (hj:j<l.length),j∉seen→K (some (.it i l.length l.length (seen++[j]))) (.tup [.c (.lit (.bool true)),(f l[j].1).dr,(h l[j].2).dr])):vA s (.it i l.length l.length seen) K:=by
 unfold vA
 simp only[hb,na]
 refine⟨⟨hi,ae _,fun b h=>cz.1 h⟩,fun h=>h0 fun b hb=>h b (cz.2 hb),fun j b hj hb=>?_⟩
 obtain⟨hj1,hj2⟩:=aj.1 hj
 rw[List.getElem_range] at hj2
 subst hj2
 have hjl:j<l.length:=by simpa using hj1
 have e:=pQ (f:=f) (h:=h) l j l[j] (ak hjl)
 rw[e.1,e.2]
 exact h1 j hjl hb
theorem FH {l:List (α×β)} {seen:List Nat} {b:Nat} (hb:s.bx i=na f h l) (hi:i<s.nb) (hm:b<l.length) (hK:KV (.tup [(f l[b].1).dr,(h l[b].2).dr])):lD s (.it i l.length l.length (seen++[b])) KV:=by
 unfold lD
 simp only[hb,na,List.getLast?_append,List.getLast?_singleton,Option.some_or]
 have hf:(List.range l.length).findIdx? (·==b)=some b:=by
  rw[bO]
  refine⟨by simpa using hm,by simp,fun k hk=>by simp;omega⟩
 have e:=pQ (f:=f) (h:=h) l b l[b] (ak hm)
 simp only[hf,e.1,e.2]
 exact⟨⟨hi,trivial⟩,hK⟩
theorem Nu {ρ:Nat→Nat} (hf:∀ a,(f a).ren ρ=f a) (hh:∀ b,(h b).ren ρ=h b):∀ {l:List (α×β)},(nU f h l).map (V.ren ρ)=nU f h l:=by
 intro l
 induction l with
 |nil=>rfl
 |cons p l ih=>obtain⟨a,b⟩:=p;simp only[nU,aI,ih,hf,hh]
theorem Da {ρ:Nat→Nat} (hf:∀ a,(f a).ren ρ=f a) (hh:∀ b,(h b).ren ρ=h b) {l:List (α×β)}:(na f h l).map (V.ren ρ)=na f h l:=by
 simp only[na,aI,Nu hf hh];rfl
theorem Db {m:Nat} (hf:∀ a,(f a).ltB m=true) (hh:∀ b,(h b).ltB m=true) {l:List (α×β)}:(na f h l).all (fun x=>x.ltB m)=true:=by
 have:∀ l:List (α×β),(nU f h l).all (fun x=>x.ltB m)=true:=fun l=>by
  induction l with
  |nil=>rfl
  |cons p l ih=>obtain⟨a,b⟩:=p;simp only[nU,bh,ih,hf,hh];rfl
 simp only[na,bh,this];rfl
end
theorem tX {P:Program} {G:Gl} {s:S} {f:V} {args all cargs:List V} {g:FuncId} {K:S→V→Prop} {r:V} {Y Y':List (List V)} (hc:dS f args=some (g,all)) (hf:FnB P G g cargs Y r Y') (hall:all.map V.fz=cargs)
 (hlen:Y'.length=Y.length) (hlt:ltL Y.length Y') (hn:Y.length≤s.nb) (hb:BL 0 Y s.bx) (hr:∀ ρ:Nat→Nat,(∀ i,i<Y.length→ρ i=i)→r.ren ρ=r)
 (hK:∀ bx':Nat→List V,(∀ j,Y.length≤j→bx' j=s.bx j)→BL 0 Y' bx'→K ⟨s.fr,bx',s.nb⟩ r):vcallB P G s f args K:=by
 unfold vcallB ja
 simp only[hc]
 have hρ:∀ i,i<Y.length→rho (List.range Y.length) s.nb i=i:=fun i hi=>AL hi
 have hget:∀ i b,Y[i]?=some b→s.bx i=b:=fun i b h=>by
  have hi:=(aj.1 h).1
  have:=BL.get hb i hi
  rw[ah] at this
  rw[← this,ay,h];rfl
 refine⟨List.range Y.length,cargs,Y,r,Y',hf,?_,⟨by simp,jg⟩,?_,?_⟩
 ·rw[hall,gP fun x hx=>pU (hf.2.1.1 x hx) hρ]
 ·refine qy hρ _ 0 (by omega) hf.2.1.2.1 (qw _ _ _ _ fun i b h=>?_)
  have hi:=(aj.1 h).1
  rw[ah]
  exact⟨by omega,hget i b h⟩
 ·rw[o8 hρ Y' 0 _ (by omega) hlt,oo,hr _ hρ,hlen,jr,dn]
  refine hK _ (fun j hj=>?_) (Ay _ _ _ fun i b h=>?_)
  ·simp only[aA,fm,ah]
   rw[if_neg (by omega)]
  ·have hi:=(aj.1 h).1
   simp only[aA,fm,ah,j5]
   rw[if_pos (by omega),ay,h];rfl
theorem jJ {P:Program} {G:Gl} {s:S} {f:V} {args all cargs:List V} {g:FuncId} {K:S→V→Prop} {r:V} {Y:List (List V)} (hc:dS f args=some (g,all)) (hf:FnB P G g cargs Y r Y) (hall:all.map V.fz=cargs)
 (hn:Y.length≤s.nb) (hb:BL 0 Y s.bx) (hr:∀ ρ:Nat→Nat,(∀ i,i<Y.length→ρ i=i)→r.ren ρ=r) (hK:K s r):vcallB P G s f args K:=by
 refine tX hc hf hall rfl hf.2.1.2.1 hn hb hr fun bx' h1 h2=>?_
 have:bx'=s.bx:=funext fun j=>by
  by_cases h:j<Y.length
  ·have a:=BL.get h2 j h
   have b:=BL.get hb j h
   rw[ah] at a b
   rw[← a,← b]
  ·exact h1 j (by omega)
 subst this;exact hK
