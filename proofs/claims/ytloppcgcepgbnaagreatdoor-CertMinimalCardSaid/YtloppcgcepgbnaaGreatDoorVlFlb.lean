/- Maps, fifth part: maps that are sets, and maps that count. -/
import Derived.Test.YtloppcgcepgbnaaGreatDoorVlPack
import Derived.Test.YtloppcgcepgbnaaGreatDoorVlEnv
set_option linter.all false
namespace Go.Vl
open Go Go.RowKit
section
variable {P:Program} {α:Type} [DecidableEq α] {c:α→List C} {s:S} {T kt et:TypeId} {tT tk te:TI} {ks:List EK} {K:S→Prop} {KV:V→Prop} {i:Nat}
def o9 (l:List α) (a:α):List α:=if a∈l then l else l++[a]
theorem Jy {l:List α} {a b:α}:b∈o9 l a↔b∈l∨b=a:=by
 unfold o9
 split
 ·rename_i h
  exact⟨.inl,fun h'=>by rcases h' with h' | rfl;exact h';exact h⟩
 ·simp
theorem tW {l:List α} {a:α}:(l.findIdx? (fun b=>decide (a=b))).isSome=decide (a∈l):=by
 rw[List.findIdx?_isSome,jL]
 simp only[dL,bF]
 exact⟨fun⟨x,h1,h2⟩=>h2▸h1,fun h=>⟨a,h,rfl⟩⟩
theorem wE {l:List α} {a:α} {j:Nat} (h:l.findIdx? (fun b=>decide (a=b))=some j):l[j]?=some a:=by
 obtain⟨h1,h2,_⟩:=eG.1 h
 rw[ab h1,bn h2]
def Sj {β:Type} (c:α→List C) (h:β→V) (bs:List Nat) (cl:Nat) (l:List (α×β)):List V:=.mk bs cl::mM (fun a=>.agg (c a)) h l
theorem WS {β:Type} {h:β→V} (hh:∀ b m,(h b).ltB m=true) {bs:List Nat} {cl m:Nat}:∀ {l:List (α×β)},(Sj c h bs cl l).all (fun x=>x.ltB m)=true:=by
 intro l
 have:∀ l:List (α×β),(mM (fun a=>V.agg (c a)) h l).all (fun x=>x.ltB m)=true:=fun l=>by
  induction l with
  |nil=>rfl
  |cons p l ih=>obtain⟨a,b⟩:=p;simp only[mM,bh,ih,hh];rfl
 simp only[Sj,bh,this];rfl
theorem Pe {β:Type} {h:β→V} {z:β} (hT:ti P T=some tT) (hm:tT.kd=.map kt et) (hk:ti P kt=some tk) (kO:tk.agg=true) (Ql:tk.eqs=some ks) (he:ti P et=some te) (hz:oC te=some (h z)) (ha:zaB P et=true)
 (hl:∀ a,(c a).length=ks.length) (yC:∀ a b,iC ks (c a) (c b)=some (decide (a=b))) {a:α} {bs:List Nat} {cl:Nat} {l:List (α×β)} (hb:s.bx i=Sj c h bs cl l) (hi:i<s.nb)
 {KM:Nat→List Nat→Nat→List V→Option Nat→V→Prop} (hK:KM i bs cl (mM (fun a=>.agg (c a)) h l) (((l.map (·.1)).findIdx? (fun b=>decide (a=b)))) (h z)):gR P T s (.mr i) (.agg (c a)) KM:=by
 refine pq (ks:=ks) (kc:=c a) (kcs:=(l.map (·.1)).map c) hT hm hk Ql he (by simp[V.kcs,kO]) hz hb ?_ (yU hl yC a _ 0) hi (hl a) (by rw[yC];simp) ha ?_
 ·rw[tU (c:=c) (fun a=>by simp[V.kcs,kO]),fu];rfl
 ·have:(Option.map (0+·) ((l.map (·.1)).findIdx? (fun b=>decide (a=b))))=(l.map (·.1)).findIdx? (fun b=>decide (a=b)):=by
   cases(l.map (·.1)).findIdx? (fun b=>decide (a=b))<;>simp
  rw[this];exact hK
def boV (b:Bool):V:=.c (.lit (.bool b))
def WT (c:α→List C) (bs:List Nat) (cl:Nat) (l:List α):List V:=Sj c boV bs cl (l.map fun a=>(a,true))
theorem WU {bs:List Nat} {cl m:Nat} {l:List α}:(WT c bs cl l).all (fun x=>x.ltB m)=true:=WS fun _ _=>rfl
theorem Jz {l:List α}:(l.map fun a=>(a,true)).map (·.1)=l:=by
 rw[fu];conv=>rhs;rw[← List.map_id l]
 rfl
theorem Sl (hT:ti P T=some tT) (hm:tT.kd=.map kt et) (hk:ti P kt=some tk) (kO:tk.agg=true) (Ql:tk.eqs=some ks) (he:ti P et=some te) (hz:oC te=some (boV false)) (ha:zaB P et=true)
 (hl:∀ a,(c a).length=ks.length) (yC:∀ a b,iC ks (c a) (c b)=some (decide (a=b))) {a:α} {bs:List Nat} {cl:Nat} {l:List α} (hb:s.bx i=WT c bs cl l) (hi:i<s.nb)
 (hK:KV (.c (.lit (.bool (decide (a∈l)))))):fF P T s (.mr i) (.agg (c a)) false KV:=by
 unfold fF
 refine Pe (h:=boV) (z:=false) hT hm hk kO Ql he hz ha hl yC hb hi ?_
 rw[Jz]
 have jE:=tW (l:=l) (a:=a)
 cases hf:l.findIdx? (fun b=>decide (a=b)) with
 |none=>
  rw[hf] at jE
  rw[← jE] at hK
  exact hK
 |some j=>
  rw[hf] at jE
  rw[← jE] at hK
  have hj:=wE hf
  have e:=(rn (f:=fun a=>V.agg (c a)) (h:=boV) (l.map fun a=>(a,true)) j (a,true) (by simp[hj])).1
  simp only[e]
  exact hK
structure MOk (bs:List Nat) (cl:Nat) (kl:List α):Prop where
 len:bs.length=kl.length
 bnd:bs.Nodup
 lt:∀ b∈bs,b<cl
 knd:kl.Nodup
theorem MOk.nil:MOk [] 0 ([]:List α):=⟨rfl,gy,by simp,gy⟩
theorem Nz {l:List α} {a:α} (h:l.Nodup):(o9 l a).Nodup:=by
 unfold o9
 split
 ·exact h
 ·rename_i hn
  rw[iN]
  exact⟨h,by simp,fun x hx y hy=>by simp at hy;subst hy;rintro rfl;exact hn hx⟩
def Pg (bs seen:List Nat):Nat:=(bs.filter fun b=>!decide (b∈seen)).length
theorem WV {bs seen:List Nat} {b:Nat} (hb:b∈bs) (hn:b∉seen):Pg bs (seen++[b])<Pg bs seen:=by
 unfold Pg
 have e:(fun x=>!decide (x∈seen++[b]))=fun x=>(!decide (x=b))&&(!decide (x∈seen)):=by
  funext x;by_cases h1:x∈seen<;>by_cases h2:x=b<;>simp[h1,h2]
 rw[e,← List.filter_filter]
 have hm:b∈bs.filter (fun x=>!decide (x∈seen)):=gb.2 ⟨hb,by simp[hn]⟩
 refine Nat.lt_of_le_of_ne (eD _ _) fun h=>?_
 have:=List.length_filter_eq_length_iff.1 h b hm
 simp at this
end
section
variable {P:Program} {G:Gl} {tr:List Nat} {fr:Nat→V} {bx:Nat→List V} {nb:Nat} {K:S→Prop} {KV:V→Prop} {Q:VE→S→Prop}
variable {α:Type} {c:α→List C} {sz:Nat}
theorem acf {P S:List α} {x y:α} {k:Nat} (hk:P.length=k):(P++x::S).set k y=P++y::S:=by
 subst hk;simp
def flb (c:α→List C) (l:List α):List V:=(l.map c).flatten.map .c
theorem pM {x:α} {l:List α}:flb c (x::l)=(c x).map .c++flb c l:=by simp[flb]
theorem lC {l m:List α}:flb c (l++m)=flb c l++flb c m:=by simp[flb]
theorem kg (hc:∀ x,(c x).length=sz):∀ l:List α,(flb c l).length=l.length*sz
 |[]=>by simp[flb]
 |x::l=>by rw[pM,aj,kg hc l];simp[hc,eC,Nat.add_comm]
theorem Ph {l:List α} {i:Nat} {x:α} (h:l[i]?=some x):∃ a b,l=a++x::b∧a.length=i:=by
 obtain⟨hi,hx⟩:=ae.1 h
 refine⟨l.take i,l.drop (i+1),?_,by simp;omega⟩
 rw[← hx,List.getElem_cons_drop,dh]
theorem WW (hc:∀ x,(c x).length=sz) {l:List α} {i:Nat} {x:α} (h:l[i]?=some x):((flb c l).drop (i*sz)).take sz=(c x).map .c:=by
 obtain⟨a,b,rfl,rfl⟩:=Ph h
 rw[lC,← kg hc a,List.drop_left,pM]
 exact iV (by simp[hc])
theorem acg (hc:∀ x,(c x).length=sz) {l:List α} {i:Nat} {y:α} (h:i<l.length):eS (flb c l) (i*sz) ((c y).map .c)=flb c (l.set i y):=by
 obtain⟨a,b,e,rfl⟩:=Ph (ab h)
 rw[e,acf rfl]
 simp only[lC,pM,eS]
 rw[← kg hc a,List.take_left]
 have e1:(flb c a).length+((c y).map V.c).length=(flb c a).length+((c l[a.length]).map V.c).length:=by simp[hc]
 rw[e1,← fX,List.drop_left,List.drop_left]
 simp
theorem BS (hc:∀ x,(c x).length=sz) {b i o:Nat} {l:List α} {x:α} (ho:o=i*sz) (hb:b<nb) (h:l[i]?=some x) (hK:KV (.agg (c x))):ldA nb b (flb c l) o sz KV:=by
 subst ho
 unfold ldA
 rw[WW hc h]
 have h2:((c x).map V.c).map V.fz=(c x).map V.c:=by simp[fu,jW,V.fz]
 have h3:((c x).map V.c).all V.isPO=true:=by simp[List.all_map,jW,V.isPO]
 rw[h2,h3,xK]
 exact⟨hb,⟨by simp[hc],rfl⟩,hK⟩
theorem yV {T e:TypeId} {i j:TI} {k:Nat} {n:Int} {b l cp z:Nat} (hT:ti P T=some i) (hk:i.kd=.slice e) (hj:ti P e=some j) (hs:j.size=z) (hz:z≠0) (hn:n=(k:Nat)) (hl:k<l)
 (hK:KV (.bp b (k*z))):dS P T (.ms b 0 l cp z) (.c (.lit (.int .i64 n))) KV:=by
 subst hn
 refine Wj hT hk hj hs hz (aJ k) (by omega) ?_
 simpa using hK
theorem gw {α:Type} {c:α→List C} {l:List α}:bY (flb c l)=false:=Ju
theorem stq (hc:∀ x,(c x).length=sz) {i:Nat} {y:α} {l l':List α} (hi:i<l.length) (h:l.set i y=l'):((i*sz+sz≤(flb c l).length)=True)∧eS (flb c l) (i*sz) ((c y).map .c)=flb c l':=by
 subst h
 refine⟨?_,acg hc hi⟩
 rw[kg hc,eq_iff_iff,iff_true]
 have:i*sz+sz=(i+1)*sz:=by rw[eC]
 rw[this];exact aL _ hi
theorem BU {l:List (Nat×V)} {k:Nat} {L:List α} (eK:l.all (fun p=>p.2.ltB 1)=true) (hk:k≤1) (hn:1≤nb) (h1:FL l fr) (h2:bx 0=flb c L):S.Le k (hdS l [flb c L]) ⟨fr,bx,nb⟩:=by
 refine cL ?_ hk hn h1 ⟨h2,trivial⟩
 simp only[jq,bh,bG,Bool.and_true,aX]
 exact⟨eK,fR _ _⟩
theorem JA {s:S} {f:V} {args all cargs:List V} {g:FuncId} {K:S→V→Prop} {r:V} {b0 b1:List V} (hc:gu f args=some (g,all)) (hf:FnB P G g cargs [b0] r [b1]) (en:all.map V.fz=cargs)
 (hn:s.nb=1) (hb:s.bx 0=b0) (hK:K ⟨s.fr,up s.bx 0 b1,1⟩ r):vcallB P G s f args K:=by
 refine uV hc hf en (by simp[hn]) ⟨hb,trivial⟩ ?_
 have e:(fun i=>if i<[b1].length then[b1].getD i [] else s.bx i)=up s.bx 0 b1:=by
  funext i
  cases i with
  |zero=>simp
  |succ i=>simp[up]
 rw[e];exact hK
theorem WX {L:List α} {args:List V} (h:args.all (fun v=>v.ltB 1)=true):l0 args [flb c L]=true:=by
 simp only[l0,bh,bG,Bool.and_true,aX]
 exact⟨h,fR _ _⟩
theorem BV {T U:TypeId} {i j:TI} {n:Nat} {k:IntKind} (hT:ti P T=some i) (hU:ti P U=some j) (hj:j.kd=.int .i64) (hn:n≤9223372036854775807):iW P T U (.c (.lit (.int k n))) KV=KV (.c (.lit (.int .i64 n))):=by
 obtain⟨kd,a,b,cc,d,f,g⟩:=j;simp only at hj;subst hj
 have:IntKind.i64.wrap (n:Int)=n:=wrap_i64 _ (by omega)
 simp only[iW,hT,hU,this]
end
section
variable {α:Type} {c:α→List C} {sz:Nat}
theorem zS (hc:∀ x,(c x).length=sz):∀ l:List α,ma sz l.length (l.map c).flatten=l.map c
 |[]=>rfl
 |x::l=>by
  simp only[aA,br,cu,ma]
  rw[iV (hc x),kT (hc x),zS hc l]
theorem Pj {fr:Nat→V} {bx:Nat→List V} {nb b:Nat} {l:List α} (hb:b<nb) (h:bx b=flb c l):Ah ⟨fr,bx,nb⟩ b=some (l.map c).flatten:=by
 unfold Ah;simp only[hb,dn,h,flb]
 generalize (l.map c).flatten=cs
 induction cs with
 |nil=>rfl
 |cons x cs ih=>simp only[br,fe,ih];rfl
theorem JB (hc:∀ x,(c x).length=sz) {fr:Nat→V} {bx:Nat→List V} {nb b n:Nat} {l:List α} (hb:b<nb) (h:bx b=flb c l) (hn:n=l.length):mn ⟨fr,bx,nb⟩ b 0 n sz=some (.sl (l.map c)):=by
 subst hn
 unfold mn;rw[Pj hb h]
 have:(l.map c).flatten.length=l.length*sz:=by have:=kg hc l;unfold flb at this;rwa [ak] at this
 simp only[this,aK,ar,dn,dE,zS hc]
theorem WY (hc:∀ x,(c x).length=sz) {l:List α} {i:Nat} (h:i≤l.length):(flb c l).take (i*sz)=flb c (l.take i):=by
 have e:flb c l=flb c (l.take i)++flb c (l.drop i):=by rw[← lC,dh]
 rw[e]
 exact iV (by rw[kg hc,aG,bI h])
theorem Sm (hc:∀ x,(c x).length=sz) {l:List α} {i:Nat} (h:i≤l.length):(flb c l).drop (i*sz)=flb c (l.drop i):=by
 have e:flb c l=flb c (l.take i)++flb c (l.drop i):=by rw[← lC,dh]
 rw[e]
 exact kT (by rw[kg hc,aG,bI h])
theorem ach (hc:∀ x,(c x).length=sz) {l m:List α} {i:Nat} (h:i+m.length≤l.length):eS (flb c l) (i*sz) (flb c m)=flb c (l.take i++m++l.drop (i+m.length)):=by
 unfold eS
 have e:i*sz+(flb c m).length=(i+m.length)*sz:=by rw[kg hc,c8]
 rw[e,WY hc (by omega),Sm hc (by omega),← lC,← lC]
theorem Sr (hc:∀ x,(c x).length=sz) {l:List α} {a:Nat} (h:a≤l.length):(l.map c).flatten.drop (a*sz)=((l.drop a).map c).flatten:=by
 have e:(l.map c).flatten=((l.take a).map c).flatten++((l.drop a).map c).flatten:=by rw[← dG,← dA,dh]
 have hl:∀ m:List α,(m.map c).flatten.length=m.length*sz:=fun m=>by have:=kg hc m;unfold flb at this;rwa [ak] at this
 rw[e]
 exact kT (by rw[hl,aG,bI h])
theorem xP (hc:∀ x,(c x).length=sz):∀ (n:Nat) (l:List α),n≤l.length→ma sz n (l.map c).flatten=(l.take n).map c
 |0,_,_=>rfl
 |n+1,[],h=>by simp at h
 |n+1,x::l,h=>by
  simp only[br,cu,ma,fp]
  rw[iV (hc x),kT (hc x),xP hc n l (by simpa using h)]
theorem EG (hc:∀ x,(c x).length=sz) {fr:Nat→V} {bx:Nat→List V} {nb b o a n:Nat} {l:List α} (hb:b<nb) (h:bx b=flb c l) (ho:o=a*sz) (hn:a+n≤l.length):mn ⟨fr,bx,nb⟩ b o n sz=some (.sl (((l.drop a).take n).map c)):=by
 subst ho
 unfold mn;rw[Pj hb h]
 have hl:(l.map c).flatten.length=l.length*sz:=by have:=kg hc l;unfold flb at this;rwa [ak] at this
 have hm:a*sz+n*sz≤l.length*sz:=by rw[← c8];exact aL _ hn
 simp only[hl,hm,dn]
 rw[Sr hc (by omega),xP hc n _ (by rw[b9];omega)]
end
theorem WZ {P:Program} {T e:TypeId} {i j:TI} {b off len cap sz l h m:Nat} {lo hi mx:Option V} {K:V→Prop} (hT:ti P T=some i) (hk:i.kd=.slice e) (hE:ti P e=some j) (hs:j.size=sz) (h1:iQ 0 lo=some (l:Nat)) (h2:iQ len hi=some (h:Nat)) (h3:iQ cap mx=some (m:Nat))
 (hlh:l≤h) (hhm:h≤m) (hmc:m≤cap) (hx:mx.isSome=true→hi.isSome=true) (hK:K (.ms b (off+l*sz) (h - l) (m - l) sz)):jl P T (.ms b off len cap sz) lo hi mx K:=by
 obtain⟨kd,a,b',c,d,f,g⟩:=i;simp only at hk;subst hk
 simp only[jl,hT,hE,h1,h2,h3,gB]
 exact⟨⟨hs,by omega,by omega,by omega,by omega,hx⟩,hK⟩
section
variable {P:Program} {G:Gl} {α:Type} {c:α→List C} {sz:Nat} {KV:V→Prop} {nb:Nat}
theorem W1 {T e:TypeId} {i j:TI} {n:Int} {b o a k l cp z:Nat} (hT:ti P T=some i) (hk:i.kd=.slice e) (hj:ti P e=some j) (hs:j.size=z) (hz:z≠0) (ho:o=a*z) (hn:n=(k:Nat)) (hl:k<l)
 (hK:KV (.bp b ((a+k)*z))):dS P T (.ms b o l cp z) (.c (.lit (.int .i64 n))) KV:=by
 subst hn;subst ho
 refine Wj hT hk hj hs hz (aJ k) (by omega) ?_
 rw[gB,← c8];exact hK
theorem uY {ρ:Nat→Nat} {l:List α}:(flb c l).map (V.ren ρ)=flb c l:=by
 unfold flb;rw[fu];rfl
theorem cells_ren {ρ:Nat→Nat} {l:List C}:(l.map V.c).map (V.ren ρ)=l.map V.c:=by rw[fu];rfl
theorem JC {α:Type} {L:List α} {k:Nat} {x:α} (h:k<L.length):(L.set k x).take (k+1)=L.take k++[x]:=by
 rw[bg (by simpa using h),List.getElem_set_self,List.take_set_of_le (ar _)]
end
section
variable {P:Program} {α:Type} [DecidableEq α] {c:α→List C} {s:S} {T kt et:TypeId} {tT tk te:TI} {ks:List EK} {K:S→Prop} {i:Nat}
def k9 (c:α→List C) (l:List α):List V:=WT c (List.range l.length) l.length l
theorem JD:k9 c ([]:List α)=[.mk [] 0]:=rfl
theorem ja {m:Nat} {l:List α}:(k9 c l).all (fun x=>x.ltB m)=true:=WU
theorem W2 (hT:ti P T=some tT) (hm:tT.kd=.map kt et) (hk:ti P kt=some tk) (kO:tk.agg=true) (Ql:tk.eqs=some ks) (he:ti P et=some te) (hz:oC te=some (boV false)) (ha:zaB P et=true)
 (hl:∀ a,(c a).length=ks.length) (yC:∀ a b,iC ks (c a) (c b)=some (decide (a=b))) {a:α} {l:List α} (hb:s.bx i=k9 c l) (hi:i<s.nb)
 (hK:K { s with bx:=up s.bx i (k9 c (o9 l a)) }):gV P T s (.mr i) (.agg (c a)) (.c (.lit (.bool true))) K:=by
 unfold gV
 refine Pe (h:=boV) (z:=false) hT hm hk kO Ql he hz ha hl yC hb hi ?_
 rw[Jz]
 have jE:=tW (l:=l) (a:=a)
 cases hf:l.findIdx? (fun b=>decide (a=b)) with
 |none=>
  rw[hf] at jE
  have hn:a∉l:=by simpa using jE.symm
  rw[show o9 l a=l++[a] by simp[o9,hn]] at hK
  have e:List.range (l++[a]).length=List.range l.length++[l.length]:=by rw[aj,bN,List.range_succ]
  simp only[k9,WT,Sj,dA,br,lO,qo,mM,e] at hK
  rw[aj,bN] at hK
  exact hK
 |some j=>
  rw[hf] at jE
  have hn:a∈l:=by simpa using jE.symm
  rw[show o9 l a=l by simp[o9,hn]] at hK
  have hj:=wE hf
  have e:=xO (f:=fun a=>V.agg (c a)) (h:=boV) (l.map fun a=>(a,true)) j a true true (by simp[hj])
  have e2:(l.map fun a=>(a,true)).set j (a,true)=l.map fun a=>(a,true):=by
   apply fP
   intro k
   rw[List.getElem?_set]
   split
   ·rename_i h;subst h;split<;>simp_all
   ·rfl
  rw[e2] at e
  simp only[V.fz]
  rw[show(V.c (.lit (.bool true)))=boV true from rfl,e]
  exact hK
theorem tX {ρ:Nat→Nat} {l:List α}:(k9 c l).map (V.ren ρ)=k9 c l:=by
 have:∀ l:List (α×Bool),(mM (fun a=>V.agg (c a)) boV l).map (V.ren ρ)=mM (fun a=>V.agg (c a)) boV l:=fun l=>by
  induction l with
  |nil=>rfl
  |cons p l ih=>obtain⟨a,b⟩:=p;simp only[mM,br,ih];rfl
 simp only[k9,WT,Sj,br,this];rfl
end
theorem ko {P:Program} {G:Gl} {s:S} {f:V} {args all cargs:List V} {g:FuncId} {K:S→V→Prop} {r:V} {b0 b1:List (List V)} (ρ:List Nat) (hc:gu f args=some (g,all)) (hf:FnB P G g cargs b0 r b1)
 (en:all.map V.fz=cargs.map (V.ren (rho ρ s.nb))) (hl:ρ.length=b0.length) (oV:ρ.Nodup) (h1:b1.length=b0.length) (hb:qH s.bx s.nb (rho ρ s.nb) 0 b0)
 (hK:∀ bx':Nat→List V,(∀ j,j∉ρ→bx' j=s.bx j)→(∀ (i j:Nat) (b:List V),ρ[i]?=some j→b1[i]?=some b→bx' j=b.map (V.ren (rho ρ s.nb)))→K ⟨s.fr,bx',s.nb⟩ (r.ren (rho ρ s.nb))):vcallB P G s f args K:=by
 unfold vcallB kD
 simp only[hc]
 refine⟨ρ,cargs,b0,r,b1,hf,en,⟨hl,oV⟩,hb,?_⟩
 have qc:∀ i,i<b1.length→∃ j,ρ[i]?=some j∧rho ρ s.nb i=j:=fun i hi=>by
  have:i<ρ.length:=by omega
  exact⟨ρ[i],ab this,by unfold rho;rw[if_pos this];simp[this]⟩
 have hn:s.nb+(b1.length - b0.length)=s.nb:=by omega
 rw[hn]
 refine hK _ (fun j hj=>n0 b1 0 s.bx j fun i hi=>?_) fun i j b hi hb=>?_
 ·obtain⟨k,h2,h3⟩:=qc i hi
  rw[aK,h3]
  rintro rfl
  exact hj (aT h2)
 ·have qb:=(ae.1 hb).1
  obtain⟨k,h2,h3⟩:=qc i qb
  rw[hi] at h2;cases h2
  have:=tK (ρ:=rho ρ s.nb) b1 0 s.bx i b hb (fun i i' hi rQ h=>by
   obtain⟨k,h4,h5⟩:=qc i hi
   obtain⟨k',h6,h7⟩:=qc i' rQ
   rw[aK,aK,h5,h7] at h
   subst h
   obtain⟨q1,q2⟩:=ae.1 h4
   obtain⟨q3,q4⟩:=ae.1 h6
   exact(List.getElem_inj oV).1 (q2.trans q4.symm))
  rw[aK,h3] at this
  exact this
theorem NA {P:Program} {G:Gl} {s:S} {f:V} {args all cargs:List V} {g:FuncId} {K:S→V→Prop} {r:V} {b0 b1:List (List V)} {c:List V} (ρ:List Nat) (hc:gu f args=some (g,all)) (hf:FnB P G g cargs b0 r (b1++[c]))
 (en:all.map V.fz=cargs.map (V.ren (rho ρ s.nb))) (hl:ρ.length=b0.length) (oV:ρ.Nodup) (h1:b1.length=b0.length) (hb:qH s.bx s.nb (rho ρ s.nb) 0 b0) (bV:∀ j∈ρ,j<s.nb)
 (hK:∀ bx':Nat→List V,(∀ j,j∉ρ→j≠s.nb→bx' j=s.bx j)→(∀ (i j:Nat) (b:List V),ρ[i]?=some j→b1[i]?=some b→bx' j=b.map (V.ren (rho ρ s.nb)))→bx' s.nb=c.map (V.ren (rho ρ s.nb))→K ⟨s.fr,bx',s.nb+1⟩ (r.ren (rho ρ s.nb))):vcallB P G s f args K:=by
 unfold vcallB kD
 simp only[hc]
 refine⟨ρ,cargs,b0,r,b1++[c],hf,en,⟨hl,oV⟩,hb,?_⟩
 have qc:∀ i,i<b1.length→∃ j,ρ[i]?=some j∧rho ρ s.nb i=j:=fun i hi=>by
  have:i<ρ.length:=by omega
  exact⟨ρ[i],ab this,by unfold rho;rw[if_pos this];simp[this]⟩
 have Qn:rho ρ s.nb b1.length=s.nb:=by unfold rho;rw[if_neg (by omega),h1,← hl];omega
 have qa:∀ i i',i<(b1++[c]).length→i'<(b1++[c]).length→rho ρ s.nb (0+i)=rho ρ s.nb (0+i')→i=i':=fun i i' hi rQ h=>by
  rw[aK,aK] at h
  rw[aj,bN] at hi rQ
  have jg:∀ i,i<b1.length→rho ρ s.nb i<s.nb:=fun i hi=>by
   obtain⟨k,h4,h5⟩:=qc i hi
   rw[h5];exact bV k (aT h4)
  rcases bS i b1.length with h2 | h2
  ·rcases bS i' b1.length with h3 | h3
   ·obtain⟨k,h4,h5⟩:=qc i h2
    obtain⟨k',h6,h7⟩:=qc i' h3
    rw[h5,h7] at h
    subst h
    obtain⟨q1,q2⟩:=ae.1 h4
    obtain⟨q3,q4⟩:=ae.1 h6
    exact(List.getElem_inj oV).1 (q2.trans q4.symm)
   ·have:i'=b1.length:=by omega
    subst this
    rw[Qn] at h
    have:=jg i h2;omega
  ·have:i=b1.length:=by omega
   subst this
   rw[Qn] at h
   rcases bS i' b1.length with h3 | h3
   ·have:=jg i' h3;omega
   ·omega
 have hn:s.nb+((b1++[c]).length - b0.length)=s.nb+1:=by rw[aj,bN];omega
 rw[hn]
 refine hK _ (fun j hj hjn=>n0 (b1++[c]) 0 s.bx j fun i hi=>?_) (fun i j b hi hb=>?_) ?_
 ·rw[aK]
  rw[aj,bN] at hi
  rcases bS i b1.length with h2 | h2
  ·obtain⟨k,h4,h3⟩:=qc i h2
   rw[h3]
   rintro rfl
   exact hj (aT h4)
  ·have:i=b1.length:=by omega
   subst this
   rw[Qn];exact fun e=>hjn e.symm
 ·have qb:=(ae.1 hb).1
  obtain⟨k,h2,h3⟩:=qc i qb
  rw[hi] at h2;cases h2
  have:=tK (ρ:=rho ρ s.nb) (b1++[c]) 0 s.bx i b (by rw[az qb];exact hb) qa
  rw[aK,h3] at this
  exact this
 ·have:=tK (ρ:=rho ρ s.nb) (b1++[c]) 0 s.bx b1.length c (by simp) qa
  rw[aK,Qn] at this
  exact this
section
variable {P:Program} {α β:Type} [DecidableEq α] {f:α→V} {c:α→List C} {h:β→V} {s:S} {T kt et:TypeId} {tT tk te:TI} {ks:List EK} {K:S→Prop} {KV:V→Prop} {i:Nat} {z:V}
def qe (f:α→V) (h:β→V) (l:List (α×β)):List V:=.mk (List.range l.length) l.length::mM f h l
def wF (l:List (α×β)) (a:α):Option Nat:=(l.map (·.1)).findIdx? (fun b=>decide (a=b))
def aci (l:List (α×β)) (a:α) (b:β):List (α×β):=match wF l a with
 |some j=>l.set j (a,b)
 |none=>l++[(a,b)]
def JE (l:List (α×β)) (a:α):Option β:=match wF l a with
 |some j=>(l[j]?).map (·.2)
 |none=>none
theorem pw {l:List (α×β)} {a:α} {j:Nat} (hj:wF l a=some j):∃ b,l[j]?=some (a,b):=by
 have:=wE hj
 rw[ba,aU] at this
 obtain⟨⟨a',b⟩,h1,rfl⟩:=this
 exact⟨b,h1⟩
theorem yW {l:List (α×β)} {a:α} (hj:wF l a=none):a∉l.map (·.1):=fun hm=>by
 have:=tW (l:=l.map (·.1)) (a:=a)
 unfold wF at hj
 rw[hj] at this
 simp[hm] at this
theorem W3 {l:List (α×β)} {a:α}:(JE l a).isSome=decide (a∈l.map (·.1)):=by
 unfold JE
 cases hj:wF l a with
 |none=>have:=yW hj;simp only[Option.isSome_none];exact(gd this).symm
 |some j=>
  obtain⟨b,hb⟩:=pw hj
  have:a∈l.map (·.1):=bA.2 ⟨_,aT hb,rfl⟩
  simp only[hb,cD,Option.isSome_some];exact(ey this).symm
theorem G4 (hT:ti P T=some tT) (hm:tT.kd=.map kt et) (hk:ti P kt=some tk) (Ql:tk.eqs=some ks) (he:ti P et=some te) (hz:oC te=some z) (ha:zaB P et=true) (hf:∀ a,(f a).kcs tk.agg=some (c a))
 (hl:∀ a,(c a).length=ks.length) (yC:∀ a b,iC ks (c a) (c b)=some (decide (a=b))) {a:α} {l:List (α×β)} (hb:s.bx i=qe f h l) (hi:i<s.nb)
 {KM:Nat→List Nat→Nat→List V→Option Nat→V→Prop} (hK:KM i (List.range l.length) l.length (mM f h l) (wF l a) z):gR P T s (.mr i) (f a) KM:=by
 refine pq (ks:=ks) (kc:=c a) (kcs:=(l.map (·.1)).map c) hT hm hk Ql he (hf a) hz hb ?_ (yU hl yC a _ 0) hi (hl a) (by rw[yC];simp) ha ?_
 ·rw[tU (c:=c) hf,fu];rfl
 ·have:(Option.map (0+·) ((l.map (·.1)).findIdx? (fun b=>decide (a=b))))=wF l a:=by
   unfold wF
   cases(l.map (·.1)).findIdx? (fun b=>decide (a=b))<;>simp
  rw[this];exact hK
theorem Ss (hT:ti P T=some tT) (hm:tT.kd=.map kt et) (hk:ti P kt=some tk) (Ql:tk.eqs=some ks) (he:ti P et=some te) (hz:oC te=some z) (ha:zaB P et=true) (hf:∀ a,(f a).kcs tk.agg=some (c a))
 (hl:∀ a,(c a).length=ks.length) (yC:∀ a b,iC ks (c a) (c b)=some (decide (a=b))) {a:α} {l:List (α×β)} (hb:s.bx i=qe f h l) (hi:i<s.nb)
 (hK:KV (.tup [(((JE l a).map h).getD z).dr,.c (.lit (.bool (JE l a).isSome))])):fF P T s (.mr i) (f a) true KV:=by
 unfold fF
 refine G4 hT hm hk Ql he hz ha hf hl yC hb hi ?_
 unfold JE at hK
 cases hj:wF l a with
 |none=>simp only[hj,kS,Option.getD_none,Option.isSome_none] at hK;exact hK
 |some j=>
  obtain⟨b,hjb⟩:=pw hj
  simp only[hj,hjb,cD,cG,Option.isSome_some] at hK
  have e:=(rn (f:=f) (h:=h) l j (a,b) hjb).1
  simp only[e,dn]
  exact hK
theorem W5 (hT:ti P T=some tT) (hm:tT.kd=.map kt et) (hk:ti P kt=some tk) (Ql:tk.eqs=some ks) (he:ti P et=some te) (hz:oC te=some z) (ha:zaB P et=true) (hf:∀ a,(f a).kcs tk.agg=some (c a))
 (hl:∀ a,(c a).length=ks.length) (yC:∀ a b,iC ks (c a) (c b)=some (decide (a=b))) {a:α} {b:β} {x:V} (hx:x.fz=h b) (hfa:(f a).fz=f a) {l:List (α×β)} (hb:s.bx i=qe f h l) (hi:i<s.nb)
 (hK:K { s with bx:=up s.bx i (qe f h (aci l a b)) }):gV P T s (.mr i) (f a) x K:=by
 unfold gV
 refine G4 hT hm hk Ql he hz ha hf hl yC hb hi ?_
 unfold aci at hK
 cases hj:wF l a with
 |none=>
  simp only[hj] at hK
  have e:List.range (l++[(a,b)]).length=List.range l.length++[l.length]:=by rw[aj,bN,List.range_succ]
  unfold qe at hK
  rw[e,qo,aj,bN] at hK
  simp only[hx,hfa]
  exact hK
 |some j=>
  obtain⟨b',hjb⟩:=pw hj
  simp only[hj] at hK
  unfold qe at hK
  rw[fD] at hK
  simp only[hx]
  rw[xO l j a b' b hjb]
  exact hK
theorem BW {l:List (α×β)} (hT:ti P T=some tT) (hm:tT.kd=.map kt et) (hb:s.bx i=qe f h l) (hi:i<s.nb) (hK:KV (.it i l.length l.length [])):oD P T s (.mr i) KV:=by
 obtain⟨kd,a1,a2,a3,a4,a5,a6⟩:=tT
 simp only at hm;subst hm
 unfold oD
 simp only[hT,hb,qe]
 exact⟨hi,hK⟩
theorem EH {l:List (α×β)} {seen:List Nat} (hb:s.bx i=qe f h l) (hi:i<s.nb) {K:Option V→V→Prop}
 (h0:(∀ b,b<l.length→b∈seen)→K none (.tup [.c (.lit (.bool false))])) (h1:∀ b,b<l.length→b∉seen→∀ x y,K (some (.it i l.length l.length (seen++[b]))) (.tup [.c (.lit (.bool true)),x,y])):Eb s (.it i l.length l.length seen) K:=by
 unfold Eb
 simp only[hb,qe]
 exact⟨⟨hi,ar _,fun b h=>db.1 h⟩,fun h=>h0 fun b hb=>h b (db.2 hb),fun j b hj hb=>h1 b (db.1 (aT hj)) hb _ _⟩
theorem NB {l:List (α×β)} {seen:List Nat} {b:Nat} (hb:s.bx i=qe f h l) (hi:i<s.nb) (hm:b<l.length) (hK:KV (.tup [(f l[b].1).dr,(h l[b].2).dr])):oG s (.it i l.length l.length (seen++[b])) KV:=by
 unfold oG
 simp only[hb,qe,List.getLast?_append,List.getLast?_singleton,Option.some_or]
 have hf:(List.range l.length).findIdx? (·==b)=some b:=by
  rw[eG]
  refine⟨by simpa using hm,by simp,fun k hk=>by simp;omega⟩
 have e:=rn (f:=f) (h:=h) l b l[b] (ab hm)
 simp only[hf,e.1,e.2]
 exact⟨⟨hi,trivial⟩,hK⟩
theorem W6 {ρ:Nat→Nat} (hf:∀ a,(f a).ren ρ=f a) (hh:∀ b,(h b).ren ρ=h b):∀ {l:List (α×β)},(mM f h l).map (V.ren ρ)=mM f h l:=by
 intro l
 induction l with
 |nil=>rfl
 |cons p l ih=>obtain⟨a,b⟩:=p;simp only[mM,br,ih,hf,hh]
theorem JF {ρ:Nat→Nat} (hf:∀ a,(f a).ren ρ=f a) (hh:∀ b,(h b).ren ρ=h b) {l:List (α×β)}:(qe f h l).map (V.ren ρ)=qe f h l:=by
 simp only[qe,br,W6 hf hh];rfl
theorem JG {m:Nat} (hf:∀ a,(f a).ltB m=true) (hh:∀ b,(h b).ltB m=true) {l:List (α×β)}:(qe f h l).all (fun x=>x.ltB m)=true:=by
 have:∀ l:List (α×β),(mM f h l).all (fun x=>x.ltB m)=true:=fun l=>by
  induction l with
  |nil=>rfl
  |cons p l ih=>obtain⟨a,b⟩:=p;simp only[mM,bh,ih,hf,hh];rfl
 simp only[qe,bh,this];rfl
