/- Maps, fifth part: maps that are sets, and maps that count. -/
import Derived.Test.YtloppcgcepgbnaaGreatDoorVlPack
import Derived.Test.YtloppcgcepgbnaaGreatDoorVlEnv
set_option linter.all false
namespace Go.Vl
open Go Go.RowKit
section
variable {P:Program} {α:Type} [DecidableEq α] {c:α->List C} {s:S} {T kt et:TypeId} {tT tk te:TI} {ks:List EK} {K:S->Prop} {KV:V->Prop} {i:Nat}
def pt (l:List α) (a:α):List α:=if a∈l then l else l++[a]
theorem JQ {l:List α} {a b:α}:b∈pt l a↔b∈l∨b=a:=by
 unfold pt;split
 .rename_i h
  exact⟨.inl,λh'=>by rcases h' with h' | rfl;exact h';exact h⟩
 .simp
theorem ub {l:List α} {a:α}:(l.findIdx? (λb=>decide (a=b))).isSome=decide (a∈l):=by rw[List.findIdx?_isSome,jO];simp only[eJ,bF];exact⟨λ⟨x,h1,h2⟩=>h2▸h1,λh=>⟨a,h,rfl⟩⟩
theorem wF {l:List α} {a:α} {j:Nat} (h:l.findIdx? (λb=>decide (a=b))=some j):l[j]?=some a:=by obtain⟨h1,h2,_⟩:=eG.1 h;rw[ai h1,a8 h2]
def Su {β:Type} (c:α->List C) (h:β->V) (bs:List Nat) (cl:Nat) (l:List (α×β)):List V:=.mk bs cl::ng (λa=>.agg (c a)) h l
theorem WM {β:Type} {h:β->V} (hh:∀ b m,(h b).ltB m=true) {bs:List Nat} {cl m:Nat}:∀ {l:List (α×β)},(Su c h bs cl l).all (λx=>x.ltB m)=true:=by
 intro l;have:∀ l:List (α×β),(ng (λa=>V.agg (c a)) h l).all (λx=>x.ltB m)=true:=λl=>by
  induction l with
  |nil=>rfl
  |cons p l ih=>obtain⟨a,b⟩:=p;simp only[ng,bh,ih,hh];rfl
 simp only[Su,bh,this];rfl
theorem Pz {β:Type} {h:β->V} {z:β} (hT:ti P T=some tT) (hm:tT.kd=.map kt et) (hk:ti P kt=some tk) (kJ:tk.agg=true) (QA:tk.eqs=some ks) (he:ti P et=some te) (hz:oO te=some (h z)) (ha:zaB P et=true)
 (hl:∀ a,(c a).length=ks.length) (yJ:∀ a b,iG ks (c a) (c b)=some (decide (a=b))) {a:α} {bs:List Nat} {cl:Nat} {l:List (α×β)} (hb:s.bx i=Su c h bs cl l) (hi:i<s.nb)
 {KM:Nat->List Nat->Nat->List V->Option Nat->V->Prop} (hK:KM i bs cl (ng (λa=>.agg (c a)) h l) (((l.map (·.1)).findIdx? (λb=>decide (a=b)))) (h z)):gW P T s (.mr i) (.agg (c a)) KM:=by
 refine pC (ks:=ks) (kc:=c a) (kcs:=(l.map (·.1)).map c) hT hm hk QA he (by simp[V.kcs,kJ]) hz hb ?_ (y6 hl yJ a _ 0) hi (hl a) (by rw[yJ];simp) ha ?_
 .rw[tZ (c:=c) (λa=>by simp[V.kcs,kJ]),eW];rfl
 .have:(Option.map (0+·) ((l.map (·.1)).findIdx? (λb=>decide (a=b))))=(l.map (·.1)).findIdx? (λb=>decide (a=b)):=by cases(l.map (·.1)).findIdx? (λb=>decide (a=b))<;>simp
  rw[this];exact hK
def boV (b:Bool):V:=.c (.lit (.bool b))
def WN (c:α->List C) (bs:List Nat) (cl:Nat) (l:List α):List V:=Su c boV bs cl (l.map λa=>(a,true))
theorem WO {bs:List Nat} {cl m:Nat} {l:List α}:(WN c bs cl l).all (λx=>x.ltB m)=true:=WM λ_ _=>rfl
theorem JR {l:List α}:(l.map λa=>(a,true)).map (·.1)=l:=by
 rw[eW];conv=>rhs;rw[<- List.map_id l]
 rfl
theorem Sv (hT:ti P T=some tT) (hm:tT.kd=.map kt et) (hk:ti P kt=some tk) (kJ:tk.agg=true) (QA:tk.eqs=some ks) (he:ti P et=some te) (hz:oO te=some (boV false)) (ha:zaB P et=true)
 (hl:∀ a,(c a).length=ks.length) (yJ:∀ a b,iG ks (c a) (c b)=some (decide (a=b))) {a:α} {bs:List Nat} {cl:Nat} {l:List α} (hb:s.bx i=WN c bs cl l) (hi:i<s.nb)
 (hK:KV (.c (.lit (.bool (decide (a∈l)))))):fL P T s (.mr i) (.agg (c a)) false KV:=by
 unfold fL;refine Pz (h:=boV) (z:=false) hT hm hk kJ QA he hz ha hl yJ hb hi ?_;rw[JR];have jG:=ub (l:=l) (a:=a);cases hf:l.findIdx? (λb=>decide (a=b)) with
 |none=>rw[hf] at jG;rw[<- jG] at hK;exact hK
 |some j=>rw[hf] at jG;rw[<- jG] at hK;have hj:=wF hf;have e:=(rG (f:=λa=>V.agg (c a)) (h:=boV) (l.map λa=>(a,true)) j (a,true) (by simp[hj])).1;simp only[e];exact hK
structure MOk (bs:List Nat) (cl:Nat) (kl:List α):Prop where
 len:bs.length=kl.length
 bnd:bs.Nodup
 lt:∀ b∈bs,b<cl
 knd:kl.Nodup
theorem MOk.nil:MOk [] 0 ([]:List α):=⟨rfl,gG,by simp,gG⟩
theorem NF {l:List α} {a:α} (h:l.Nodup):(pt l a).Nodup:=by
 unfold pt;split
 .exact h
 .rename_i hn
  rw[iT];exact⟨h,by simp,λx hx y hy=>by simp at hy;subst hy;rintro rfl;exact hn hx⟩
def PC (bs seen:List Nat):Nat:=(bs.filter λb=>!decide (b∈seen)).length
theorem WQ {bs seen:List Nat} {b:Nat} (hb:b∈bs) (hn:b∉seen):PC bs (seen++[b])<PC bs seen:=by
 unfold PC;have e:(λx=>!decide (x∈seen++[b]))=λx=>(!decide (x=b))&&(!decide (x∈seen)):=by funext x;by_cases h1:x∈seen<;>by_cases h2:x=b<;>simp[h1,h2]
 rw[e,<- List.filter_filter];have hm:b∈bs.filter (λx=>!decide (x∈seen)):=fJ.2 ⟨hb,by simp[hn]⟩;refine Nat.lt_of_le_of_ne (dK _ _) λh=>?_;have:=List.length_filter_eq_length_iff.1 h b hm;simp at this
end
section
variable {P:Program} {G:Gl} {tr:List Nat} {fr:Nat->V} {bx:Nat->List V} {nb:Nat} {K:S->Prop} {KV:V->Prop} {Q:VE->S->Prop}
variable {α:Type} {c:α->List C} {sz:Nat}
theorem aby {P S:List α} {x y:α} {k:Nat} (hk:P.length=k):(P++x::S).set k y=P++y::S:=by subst hk;simp
def flb (c:α->List C) (l:List α):List V:=(l.map c).flatten.map .c
theorem uc {x:α} {l:List α}:flb c (x::l)=(c x).map .c++flb c l:=by simp[flb]
theorem nS {l m:List α}:flb c (l++m)=flb c l++flb c m:=by simp[flb]
theorem lV (hc:∀ x,(c x).length=sz):∀ l:List α,(flb c l).length=l.length*sz
 |[]=>by simp[flb]
 |x::l=>by rw[uc,ae,lV hc l];simp[hc,eB,Nat.add_comm]
theorem PD {l:List α} {i:Nat} {x:α} (h:l[i]?=some x):∃ a b,l=a++x::b/\a.length=i:=by obtain⟨hi,hx⟩:=aj.1 h;refine⟨l.take i,l.drop (i+1),?_,by simp;omega⟩;rw[<- hx,List.getElem_cons_drop,du]
theorem WR (hc:∀ x,(c x).length=sz) {l:List α} {i:Nat} {x:α} (h:l[i]?=some x):((flb c l).drop (i*sz)).take sz=(c x).map .c:=by obtain⟨a,b,rfl,rfl⟩:=PD h;rw[nS,<- lV hc a,List.drop_left,uc];exact kY (by simp[hc])
theorem abz (hc:∀ x,(c x).length=sz) {l:List α} {i:Nat} {y:α} (h:i<l.length):eP (flb c l) (i*sz) ((c y).map .c)=flb c (l.set i y):=by
 obtain⟨a,b,e,rfl⟩:=PD (ai h);rw[e,aby rfl];simp only[nS,uc,eP];rw[<- lV hc a,List.take_left];have e1:(flb c a).length+((c y).map V.c).length=(flb c a).length+((c l[a.length]).map V.c).length:=by simp[hc]
 rw[e1,<- fG,List.drop_left,List.drop_left];simp
theorem CB (hc:∀ x,(c x).length=sz) {b i o:Nat} {l:List α} {x:α} (ho:o=i*sz) (hb:b<nb) (h:l[i]?=some x) (hK:KV (.agg (c x))):ldA nb b (flb c l) o sz KV:=by
 subst ho;unfold ldA;rw[WR hc h];have h2:((c x).map V.c).map V.fz=(c x).map V.c:=by simp[eW,j3,V.fz]
 have h3:((c x).map V.c).all V.isPO=true:=by simp[List.all_map,j3,V.isPO]
 rw[h2,h3,Ci];exact⟨hb,⟨by simp[hc],rfl⟩,hK⟩
theorem Hz {T e:TypeId} {i j:TI} {k:Nat} {n:Int} {b l cp z:Nat} (hT:ti P T=some i) (hk:i.kd=.slice e) (hj:ti P e=some j) (hs:j.size=z) (hz:z≠0) (hn:n=(k:Nat)) (hl:k<l)
 (hK:KV (.bp b (k*z))):dF P T (.ms b 0 l cp z) (.c (.lit (.int .i64 n))) KV:=by
 subst hn;refine Wl hT hk hj hs hz (ay k) (by omega) ?_;simpa using hK
theorem jb {α:Type} {c:α->List C} {l:List α}:cL (flb c l)=false:=JM
theorem stq (hc:∀ x,(c x).length=sz) {i:Nat} {y:α} {l l':List α} (hi:i<l.length) (h:l.set i y=l'):((i*sz+sz<=(flb c l).length)=True)/\eP (flb c l) (i*sz) ((c y).map .c)=flb c l':=by
 subst h;refine⟨?_,abz hc hi⟩;rw[lV hc,eq_iff_iff,iff_true];have:i*sz+sz=(i+1)*sz:=by rw[eB]
 rw[this];exact aO _ hi
theorem CC {l:List (Nat×V)} {k:Nat} {L:List α} (eH:l.all (λp=>p.2.ltB 1)=true) (hk:k<=1) (hn:1<=nb) (h1:FL l fr) (h2:bx 0=flb c L):S.Le k (hdS l [flb c L]) ⟨fr,bx,nb⟩:=by refine cm ?_ hk hn h1 ⟨h2,trivial⟩;simp only[iV,bh,bB,Bool.and_true,aW];exact⟨eH,gP _ _⟩
theorem eL {s:S} {f:V} {args all cargs:List V} {g:FuncId} {K:S->V->Prop} {r:V} {b0 b1:List V} (hc:gz f args=some (g,all)) (hf:FnB P G g cargs [b0] r [b1]) (eF:all.map V.fz=cargs)
 (hn:s.nb=1) (hb:s.bx 0=b0) (hK:K ⟨s.fr,up s.bx 0 b1,1⟩ r):vcallB P G s f args K:=by
 refine uX hc hf eF (by simp[hn]) ⟨hb,trivial⟩ ?_;have e:(λi=>if i<[b1].length then[b1].getD i [] else s.bx i)=up s.bx 0 b1:=by
  funext i;cases i with
  |zero=>simp
  |succ i=>simp[up]
 rw[e];exact hK
theorem WS {L:List α} {args:List V} (h:args.all (λv=>v.ltB 1)=true):lC args [flb c L]=true:=by simp only[lC,bh,bB,Bool.and_true,aW];exact⟨h,gP _ _⟩
end
section
variable {α:Type} {c:α->List C} {sz:Nat}
theorem abA {fr:Nat->V} {bx:Nat->List V} {nb b:Nat} {l:List α} (hb:b<nb) (h:bx b=flb c l):AA ⟨fr,bx,nb⟩ b=some (l.map c).flatten:=by
 unfold AA;simp only[hb,cZ,h,flb];generalize (l.map c).flatten=cs;induction cs with
 |nil=>rfl
 |cons x cs ih=>simp only[bA,gb,ih];rfl
theorem WT (hc:∀ x,(c x).length=sz) {l:List α} {i:Nat} (h:i<=l.length):(flb c l).take (i*sz)=flb c (l.take i):=by
 have e:flb c l=flb c (l.take i)++flb c (l.drop i):=by rw[<- nS,du]
 rw[e];exact kY (by rw[lV hc,aN,bS h])
theorem Sz (hc:∀ x,(c x).length=sz) {l:List α} {i:Nat} (h:i<=l.length):(flb c l).drop (i*sz)=flb c (l.drop i):=by
 have e:flb c l=flb c (l.take i)++flb c (l.drop i):=by rw[<- nS,du]
 rw[e];exact List.drop_left' (by rw[lV hc,aN,bS h])
theorem abB (hc:∀ x,(c x).length=sz) {l m:List α} {i:Nat} (h:i+m.length<=l.length):eP (flb c l) (i*sz) (flb c m)=flb c (l.take i++m++l.drop (i+m.length)):=by
 unfold eP;have e:i*sz+(flb c m).length=(i+m.length)*sz:=by rw[lV hc,da]
 rw[e,WT hc (by omega),Sz hc (by omega),<- nS,<- nS]
theorem SA (hc:∀ x,(c x).length=sz) {l:List α} {a:Nat} (h:a<=l.length):(l.map c).flatten.drop (a*sz)=((l.drop a).map c).flatten:=by
 have e:(l.map c).flatten=((l.take a).map c).flatten++((l.drop a).map c).flatten:=by rw[<- di,<- db,du]
 have hl:∀ m:List α,(m.map c).flatten.length=m.length*sz:=λm=>by have:=lV hc m;unfold flb at this;rwa [au] at this
 rw[e];exact List.drop_left' (by rw[hl,aN,bS h])
theorem xR (hc:∀ x,(c x).length=sz):∀ (n:Nat) (l:List α),n<=l.length->nL sz n (l.map c).flatten=(l.take n).map c
 |0,_,_=>rfl
 |n+1,[],h=>by simp at h
 |n+1,x::l,h=>by simp only[bA,cF,nL,eZ];rw[kY (hc x),List.drop_left' (hc x),xR hc n l (by simpa using h)]
theorem E9 (hc:∀ x,(c x).length=sz) {fr:Nat->V} {bx:Nat->List V} {nb b o a n:Nat} {l:List α} (hb:b<nb) (h:bx b=flb c l) (ho:o=a*sz) (hn:a+n<=l.length):nF ⟨fr,bx,nb⟩ b o n sz=some (.sl (((l.drop a).take n).map c)):=by
 subst ho;unfold nF;rw[abA hb h];have hl:(l.map c).flatten.length=l.length*sz:=by have:=lV hc l;unfold flb at this;rwa [au] at this
 have hm:a*sz+n*sz<=l.length*sz:=by rw[<- da];exact aO _ hn
 simp only[hl,hm,cZ];rw[SA hc (by omega),xR hc n _ (by rw[cw];omega)]
end
theorem WU {P:Program} {T e:TypeId} {i j:TI} {b off len cap sz l h m:Nat} {lo hi mx:Option V} {K:V->Prop} (hT:ti P T=some i) (hk:i.kd=.slice e) (hE:ti P e=some j) (hs:j.size=sz) (h1:iU 0 lo=some (l:Nat)) (h2:iU len hi=some (h:Nat)) (h3:iU cap mx=some (m:Nat))
 (hlh:l<=h) (hhm:h<=m) (hmc:m<=cap) (hx:mx.isSome=true->hi.isSome=true) (hK:K (.ms b (off+l*sz) (h - l) (m - l) sz)):jl P T (.ms b off len cap sz) lo hi mx K:=by
 obtain⟨kd,a,b',c,d,f,g⟩:=i;simp only at hk;subst hk;simp only[jl,hT,hE,h1,h2,h3,cC];exact⟨⟨hs,by omega,by omega,by omega,by omega,hx⟩,hK⟩
section
variable {P:Program} {G:Gl} {α:Type} {c:α->List C} {sz:Nat} {KV:V->Prop} {nb:Nat}
theorem WV {T e:TypeId} {i j:TI} {n:Int} {b o a k l cp z:Nat} (hT:ti P T=some i) (hk:i.kd=.slice e) (hj:ti P e=some j) (hs:j.size=z) (hz:z≠0) (ho:o=a*z) (hn:n=(k:Nat)) (hl:k<l)
 (hK:KV (.bp b ((a+k)*z))):dF P T (.ms b o l cp z) (.c (.lit (.int .i64 n))) KV:=by
 subst hn;subst ho;refine Wl hT hk hj hs hz (ay k) (by omega) ?_;rw[cC,<- da];exact hK
theorem u3 {ρ:Nat->Nat} {l:List α}:(flb c l).map (V.ren ρ)=flb c l:=by unfold flb;rw[eW];rfl
theorem cells_ren {ρ:Nat->Nat} {l:List C}:(l.map V.c).map (V.ren ρ)=l.map V.c:=by rw[eW];rfl
theorem JS {α:Type} {L:List α} {k:Nat} {x:α} (h:k<L.length):(L.set k x).take (k+1)=L.take k++[x]:=by rw[aU (by simpa using h),List.getElem_set_self,List.take_set_of_le (ab _)]
end
section
variable {P:Program} {α:Type} [DecidableEq α] {c:α->List C} {s:S} {T kt et:TypeId} {tT tk te:TI} {ks:List EK} {K:S->Prop} {i:Nat}
def lk (c:α->List C) (l:List α):List V:=WN c (List.range l.length) l.length l
theorem JU:lk c ([]:List α)=[.mk [] 0]:=rfl
theorem jc {m:Nat} {l:List α}:(lk c l).all (λx=>x.ltB m)=true:=WO
theorem WW (hT:ti P T=some tT) (hm:tT.kd=.map kt et) (hk:ti P kt=some tk) (kJ:tk.agg=true) (QA:tk.eqs=some ks) (he:ti P et=some te) (hz:oO te=some (boV false)) (ha:zaB P et=true)
 (hl:∀ a,(c a).length=ks.length) (yJ:∀ a b,iG ks (c a) (c b)=some (decide (a=b))) {a:α} {l:List α} (hb:s.bx i=lk c l) (hi:i<s.nb)
 (hK:K { s with bx:=up s.bx i (lk c (pt l a)) }):iC P T s (.mr i) (.agg (c a)) (.c (.lit (.bool true))) K:=by
 unfold iC;refine Pz (h:=boV) (z:=false) hT hm hk kJ QA he hz ha hl yJ hb hi ?_;rw[JR];have jG:=ub (l:=l) (a:=a);cases hf:l.findIdx? (λb=>decide (a=b)) with
 |none=>
  rw[hf] at jG;have hn:a∉l:=by simpa using jG.symm
  rw[show pt l a=l++[a] by simp[pt,hn]] at hK;have e:List.range (l++[a]).length=List.range l.length++[l.length]:=by rw[ae,bz,List.range_succ]
  simp only[lk,WN,Su,db,bA,jY,qH,ng,e] at hK;rw[ae,bz] at hK;exact hK
 |some j=>
  rw[hf] at jG;have hn:a∈l:=by simpa using jG.symm
  rw[show pt l a=l by simp[pt,hn]] at hK;have hj:=wF hf;have e:=xQ (f:=λa=>V.agg (c a)) (h:=boV) (l.map λa=>(a,true)) j a true true (by simp[hj]);have e2:(l.map λa=>(a,true)).set j (a,true)=l.map λa=>(a,true):=by
   apply fY;intro k;rw[List.getElem?_set];split
   .rename_i h;subst h;split<;>simp_all
   .rfl
  rw[e2] at e;simp only[V.fz];rw[show(V.c (.lit (.bool true)))=boV true from rfl,e];exact hK
theorem ud {ρ:Nat->Nat} {l:List α}:(lk c l).map (V.ren ρ)=lk c l:=by
 have:∀ l:List (α×Bool),(ng (λa=>V.agg (c a)) boV l).map (V.ren ρ)=ng (λa=>V.agg (c a)) boV l:=λl=>by
  induction l with
  |nil=>rfl
  |cons p l ih=>obtain⟨a,b⟩:=p;simp only[ng,bA,ih];rfl
 simp only[lk,WN,Su,bA,this];rfl
end
theorem jN {P:Program} {G:Gl} {s:S} {f:V} {args all cargs:List V} {g:FuncId} {K:S->V->Prop} {r:V} {b0 b1:List (List V)} (ρ:List Nat) (hc:gz f args=some (g,all)) (hf:FnB P G g cargs b0 r b1)
 (eF:all.map V.fz=cargs.map (V.ren (rho ρ s.nb))) (hl:ρ.length=b0.length) (qp:ρ.Nodup) (h1:b1.length=b0.length) (hb:qV s.bx s.nb (rho ρ s.nb) 0 b0)
 (hK:∀ bx':Nat->List V,(∀ j,j∉ρ->bx' j=s.bx j)->(∀ (i j:Nat) (b:List V),ρ[i]?=some j->b1[i]?=some b->bx' j=b.map (V.ren (rho ρ s.nb)))->K ⟨s.fr,bx',s.nb⟩ (r.ren (rho ρ s.nb))):vcallB P G s f args K:=by
 unfold vcallB kF;simp only[hc];refine⟨ρ,cargs,b0,r,b1,hf,eF,⟨hl,qp⟩,hb,?_⟩;have oa:∀ i,i<b1.length->∃ j,ρ[i]?=some j/\rho ρ s.nb i=j:=λi hi=>by
  have:i<ρ.length:=by omega
  exact⟨ρ[i],ai this,by unfold rho;rw[if_pos this];simp[this]⟩
 have hn:s.nb+(b1.length - b0.length)=s.nb:=by omega
 rw[hn];refine hK _ (λj hj=>oo b1 0 s.bx j λi hi=>?_) λi j b hi hb=>?_
 .obtain⟨k,h2,h3⟩:=oa i hi
  rw[aF,h3];rintro rfl;exact hj (aS h2)
 .have qo:=(aj.1 hb).1
  obtain⟨k,h2,h3⟩:=oa i qo;rw[hi] at h2;cases h2;have:=tP (ρ:=rho ρ s.nb) b1 0 s.bx i b hb (λi i' hi sQ h=>by obtain⟨k,h4,h5⟩:=oa i hi;obtain⟨k',h6,h7⟩:=oa i' sQ;rw[aF,aF,h5,h7] at h;subst h;obtain⟨q1,q2⟩:=aj.1 h4;obtain⟨q3,q4⟩:=aj.1 h6;exact(List.getElem_inj qp).1 (q2.trans q4.symm));rw[aF,h3] at this;exact this
theorem NG {P:Program} {G:Gl} {s:S} {f:V} {args all cargs:List V} {g:FuncId} {K:S->V->Prop} {r:V} {b0 b1:List (List V)} {c:List V} (ρ:List Nat) (hc:gz f args=some (g,all)) (hf:FnB P G g cargs b0 r (b1++[c]))
 (eF:all.map V.fz=cargs.map (V.ren (rho ρ s.nb))) (hl:ρ.length=b0.length) (qp:ρ.Nodup) (h1:b1.length=b0.length) (hb:qV s.bx s.nb (rho ρ s.nb) 0 b0) (bE:∀ j∈ρ,j<s.nb)
 (hK:∀ bx':Nat->List V,(∀ j,j∉ρ->j≠s.nb->bx' j=s.bx j)->(∀ (i j:Nat) (b:List V),ρ[i]?=some j->b1[i]?=some b->bx' j=b.map (V.ren (rho ρ s.nb)))->bx' s.nb=c.map (V.ren (rho ρ s.nb))->K ⟨s.fr,bx',s.nb+1⟩ (r.ren (rho ρ s.nb))):vcallB P G s f args K:=by
 unfold vcallB kF;simp only[hc];refine⟨ρ,cargs,b0,r,b1++[c],hf,eF,⟨hl,qp⟩,hb,?_⟩;have oa:∀ i,i<b1.length->∃ j,ρ[i]?=some j/\rho ρ s.nb i=j:=λi hi=>by
  have:i<ρ.length:=by omega
  exact⟨ρ[i],ai this,by unfold rho;rw[if_pos this];simp[this]⟩
 have QC:rho ρ s.nb b1.length=s.nb:=by unfold rho;rw[if_neg (by omega),h1,<- hl];omega
 have qn:∀ i i',i<(b1++[c]).length->i'<(b1++[c]).length->rho ρ s.nb (0+i)=rho ρ s.nb (0+i')->i=i':=λi i' hi sQ h=>by
  rw[aF,aF] at h;rw[ae,bz] at hi sQ;have jg:∀ i,i<b1.length->rho ρ s.nb i<s.nb:=λi hi=>by obtain⟨k,h4,h5⟩:=oa i hi;rw[h5];exact bE k (aS h4)
  rcases bX i b1.length with h2 | h2
  .rcases bX i' b1.length with h3 | h3
   .obtain⟨k,h4,h5⟩:=oa i h2
    obtain⟨k',h6,h7⟩:=oa i' h3;rw[h5,h7] at h;subst h;obtain⟨q1,q2⟩:=aj.1 h4;obtain⟨q3,q4⟩:=aj.1 h6;exact(List.getElem_inj qp).1 (q2.trans q4.symm)
   .have:i'=b1.length:=by omega
    subst this;rw[QC] at h;have:=jg i h2;omega
  .have:i=b1.length:=by omega
   subst this;rw[QC] at h;rcases bX i' b1.length with h3 | h3
   .have:=jg i' h3;omega
   .omega
 have hn:s.nb+((b1++[c]).length - b0.length)=s.nb+1:=by rw[ae,bz];omega
 rw[hn];refine hK _ (λj hj hjn=>oo (b1++[c]) 0 s.bx j λi hi=>?_) (λi j b hi hb=>?_) ?_
 .rw[aF]
  rw[ae,bz] at hi;rcases bX i b1.length with h2 | h2
  .obtain⟨k,h4,h3⟩:=oa i h2
   rw[h3];rintro rfl;exact hj (aS h4)
  .have:i=b1.length:=by omega
   subst this;rw[QC];exact λe=>hjn e.symm
 .have qo:=(aj.1 hb).1
  obtain⟨k,h2,h3⟩:=oa i qo;rw[hi] at h2;cases h2;have:=tP (ρ:=rho ρ s.nb) (b1++[c]) 0 s.bx i b (by rw[aA qo];exact hb) qn;rw[aF,h3] at this;exact this
 .have:=tP (ρ:=rho ρ s.nb) (b1++[c]) 0 s.bx b1.length c (by simp) qn
  rw[aF,QC] at this;exact this
section
variable {P:Program} {α β:Type} [DecidableEq α] {f:α->V} {c:α->List C} {h:β->V} {s:S} {T kt et:TypeId} {tT tk te:TI} {ks:List EK} {K:S->Prop} {KV:V->Prop} {i:Nat} {z:V}
def qu (f:α->V) (h:β->V) (l:List (α×β)):List V:=.mk (List.range l.length) l.length::ng f h l
def wG (l:List (α×β)) (a:α):Option Nat:=(l.map (·.1)).findIdx? (λb=>decide (a=b))
def abC (l:List (α×β)) (a:α) (b:β):List (α×β):=match wG l a with
 |some j=>l.set j (a,b)
 |none=>l++[(a,b)]
def JV (l:List (α×β)) (a:α):Option β:=match wG l a with
 |some j=>(l[j]?).map (·.2)
 |none=>none
theorem pE {l:List (α×β)} {a:α} {j:Nat} (hj:wG l a=some j):∃ b,l[j]?=some (a,b):=by have:=wF hj;rw[bj,aV] at this;obtain⟨⟨a',b⟩,h1,rfl⟩:=this;exact⟨b,h1⟩
theorem y7 {l:List (α×β)} {a:α} (hj:wG l a=none):a∉l.map (·.1):=λhm=>by have:=ub (l:=l.map (·.1)) (a:=a);unfold wG at hj;rw[hj] at this;simp[hm] at this
theorem WX {l:List (α×β)} {a:α}:(JV l a).isSome=decide (a∈l.map (·.1)):=by
 unfold JV;cases hj:wG l a with
 |none=>have:=y7 hj;simp only[Option.isSome_none];exact(eK this).symm
 |some j=>obtain⟨b,hb⟩:=pE hj;have:a∈l.map (·.1):=bU.2 ⟨_,aS hb,rfl⟩;simp only[hb,cT,Option.isSome_some];exact(dn this).symm
theorem HA (hT:ti P T=some tT) (hm:tT.kd=.map kt et) (hk:ti P kt=some tk) (QA:tk.eqs=some ks) (he:ti P et=some te) (hz:oO te=some z) (ha:zaB P et=true) (hf:∀ a,(f a).kcs tk.agg=some (c a))
 (hl:∀ a,(c a).length=ks.length) (yJ:∀ a b,iG ks (c a) (c b)=some (decide (a=b))) {a:α} {l:List (α×β)} (hb:s.bx i=qu f h l) (hi:i<s.nb)
 {KM:Nat->List Nat->Nat->List V->Option Nat->V->Prop} (hK:KM i (List.range l.length) l.length (ng f h l) (wG l a) z):gW P T s (.mr i) (f a) KM:=by
 refine pC (ks:=ks) (kc:=c a) (kcs:=(l.map (·.1)).map c) hT hm hk QA he (hf a) hz hb ?_ (y6 hl yJ a _ 0) hi (hl a) (by rw[yJ];simp) ha ?_
 .rw[tZ (c:=c) hf,eW];rfl
 .have:(Option.map (0+·) ((l.map (·.1)).findIdx? (λb=>decide (a=b))))=wG l a:=by unfold wG;cases(l.map (·.1)).findIdx? (λb=>decide (a=b))<;>simp
  rw[this];exact hK
theorem SB (hT:ti P T=some tT) (hm:tT.kd=.map kt et) (hk:ti P kt=some tk) (QA:tk.eqs=some ks) (he:ti P et=some te) (hz:oO te=some z) (ha:zaB P et=true) (hf:∀ a,(f a).kcs tk.agg=some (c a))
 (hl:∀ a,(c a).length=ks.length) (yJ:∀ a b,iG ks (c a) (c b)=some (decide (a=b))) {a:α} {l:List (α×β)} (hb:s.bx i=qu f h l) (hi:i<s.nb)
 (hK:KV (.tup [(((JV l a).map h).getD z).dr,.c (.lit (.bool (JV l a).isSome))])):fL P T s (.mr i) (f a) true KV:=by
 unfold fL;refine HA hT hm hk QA he hz ha hf hl yJ hb hi ?_;unfold JV at hK;cases hj:wG l a with
 |none=>simp only[hj,kZ,Option.getD_none,Option.isSome_none] at hK;exact hK
 |some j=>obtain⟨b,hjb⟩:=pE hj;simp only[hj,hjb,cT,cV,Option.isSome_some] at hK;have e:=(rG (f:=f) (h:=h) l j (a,b) hjb).1;simp only[e,cZ];exact hK
theorem WY (hT:ti P T=some tT) (hm:tT.kd=.map kt et) (hk:ti P kt=some tk) (QA:tk.eqs=some ks) (he:ti P et=some te) (hz:oO te=some z) (ha:zaB P et=true) (hf:∀ a,(f a).kcs tk.agg=some (c a))
 (hl:∀ a,(c a).length=ks.length) (yJ:∀ a b,iG ks (c a) (c b)=some (decide (a=b))) {a:α} {b:β} {x:V} (hx:x.fz=h b) (hfa:(f a).fz=f a) {l:List (α×β)} (hb:s.bx i=qu f h l) (hi:i<s.nb)
 (hK:K { s with bx:=up s.bx i (qu f h (abC l a b)) }):iC P T s (.mr i) (f a) x K:=by
 unfold iC;refine HA hT hm hk QA he hz ha hf hl yJ hb hi ?_;unfold abC at hK;cases hj:wG l a with
 |none=>
  simp only[hj] at hK;have e:List.range (l++[(a,b)]).length=List.range l.length++[l.length]:=by rw[ae,bz,List.range_succ]
  unfold qu at hK;rw[e,qH,ae,bz] at hK;simp only[hx,hfa];exact hK
 |some j=>obtain⟨b',hjb⟩:=pE hj;simp only[hj] at hK;unfold qu at hK;rw[gd] at hK;simp only[hx];rw[xQ l j a b' b hjb];exact hK
theorem CE {l:List (α×β)} (hT:ti P T=some tT) (hm:tT.kd=.map kt et) (hb:s.bx i=qu f h l) (hi:i<s.nb) (hK:KV (.it i l.length l.length [])):oP P T s (.mr i) KV:=by obtain⟨kd,a1,a2,a3,a4,a5,a6⟩:=tT;simp only at hm;subst hm;unfold oP;simp only[hT,hb,qu];exact⟨hi,hK⟩
theorem Fb {l:List (α×β)} {seen:List Nat} (hb:s.bx i=qu f h l) (hi:i<s.nb) {K:Option V->V->Prop}
 (h0:(∀ b,b<l.length->b∈seen)->K none (.tup [.c (.lit (.bool false))])) (h1:∀ b,b<l.length->b∉seen->∀ x y,K (some (.it i l.length l.length (seen++[b]))) (.tup [.c (.lit (.bool true)),x,y])):EH s (.it i l.length l.length seen) K:=by
 unfold EH;simp only[hb,qu];exact⟨⟨hi,ab _,λb h=>c9.1 h⟩,λh=>h0 λb hb=>h b (c9.2 hb),λj b hj hb=>h1 b (c9.1 (aS hj)) hb _ _⟩
theorem NH {l:List (α×β)} {seen:List Nat} {b:Nat} (hb:s.bx i=qu f h l) (hi:i<s.nb) (hm:b<l.length) (hK:KV (.tup [(f l[b].1).dr,(h l[b].2).dr])):oR s (.it i l.length l.length (seen++[b])) KV:=by
 unfold oR;simp only[hb,qu,List.getLast?_append,List.getLast?_singleton,Option.some_or];have hf:(List.range l.length).findIdx? (·==b)=some b:=by rw[eG];refine⟨by simpa using hm,by simp,λk hk=>by simp;omega⟩
 have e:=rG (f:=f) (h:=h) l b l[b] (ai hm);simp only[hf,e.1,e.2];exact⟨⟨hi,trivial⟩,hK⟩
theorem WZ {ρ:Nat->Nat} (hf:∀ a,(f a).ren ρ=f a) (hh:∀ b,(h b).ren ρ=h b):∀ {l:List (α×β)},(ng f h l).map (V.ren ρ)=ng f h l:=by
 intro l;induction l with
 |nil=>rfl
 |cons p l ih=>obtain⟨a,b⟩:=p;simp only[ng,bA,ih,hf,hh]
theorem JW {ρ:Nat->Nat} (hf:∀ a,(f a).ren ρ=f a) (hh:∀ b,(h b).ren ρ=h b) {l:List (α×β)}:(qu f h l).map (V.ren ρ)=qu f h l:=by simp only[qu,bA,WZ hf hh];rfl
theorem JX {m:Nat} (hf:∀ a,(f a).ltB m=true) (hh:∀ b,(h b).ltB m=true) {l:List (α×β)}:(qu f h l).all (λx=>x.ltB m)=true:=by
 have:∀ l:List (α×β),(ng f h l).all (λx=>x.ltB m)=true:=λl=>by
  induction l with
  |nil=>rfl
  |cons p l ih=>obtain⟨a,b⟩:=p;simp only[ng,bh,ih,hf,hh];rfl
 simp only[qu,bh,this];rfl
