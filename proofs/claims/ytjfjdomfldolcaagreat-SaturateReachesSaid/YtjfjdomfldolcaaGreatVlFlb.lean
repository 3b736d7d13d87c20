/- Maps, fifth part: maps that are sets, and maps that count. -/
import Derived.Test.YtjfjdomfldolcaaGreatVlPack
import Derived.Test.YtjfjdomfldolcaaGreatVlEnv
set_option linter.all false
namespace Go.Vl
open Go Go.RowKit
section
variable {P:Program} {α:Type} [DecidableEq α] {c:α→List C} {s:S} {T kt et:TypeId} {tT tk te:TI} {ks:List EK} {K:S→Prop} {KV:V→Prop} {i:Nat}
def nc (l:List α) (a:α):List α:=if a∈l then l else l++[a]
theorem H6 {l:List α} {a b:α}:b∈nc l a↔b∈l∨b=a:=by
 unfold nc
 split
 ·rename_i h
  exact⟨.inl,fun h'=>by rcases h' with h' | rfl;exact h';exact h⟩
 ·simp
theorem H7 {l:List α} {a:α}:(l.findIdx? (fun b=>decide (a=b))).isSome=decide (a∈l):=by
 rw[List.findIdx?_isSome,kF]
 simp only[dU,bJ]
 exact⟨fun⟨x,h1,h2⟩=>h2▸h1,fun h=>⟨a,h,rfl⟩⟩
theorem Ld {l:List α} {a:α} {j:Nat} (h:l.findIdx? (fun b=>decide (a=b))=some j):l[j]?=some a:=by
 obtain⟨h1,h2,_⟩:=eG.1 h
 rw[ae h1,bX h2]
structure MOk (bs:List Nat) (cl:Nat) (kl:List α):Prop where
 len:bs.length=kl.length
 bnd:bs.Nodup
 lt:∀ b∈bs,b<cl
 knd:kl.Nodup
theorem MOk.nil:MOk [] 0 ([]:List α):=⟨rfl,fH,by simp,fH⟩
theorem BM {l:List α} {a:α} (h:l.Nodup):(nc l a).Nodup:=by
 unfold nc
 split
 ·exact h
 ·rename_i hn
  rw[fU]
  exact⟨h,by simp,fun x hx y hy=>by simp at hy;subst hy;rintro rfl;exact hn hx⟩
def MS (bs seen:List Nat):Nat:=(bs.filter fun b=>!decide (b∈seen)).length
theorem S3 {bs seen:List Nat} {b:Nat} (hb:b∈bs) (hn:b∉seen):MS bs (seen++[b])<MS bs seen:=by
 unfold MS
 have e:(fun x=>!decide (x∈seen++[b]))=fun x=>(!decide (x=b))&&(!decide (x∈seen)):=by
  funext x;by_cases h1:x∈seen<;>by_cases h2:x=b<;>simp[h1,h2]
 rw[e,← List.filter_filter]
 have hm:b∈bs.filter (fun x=>!decide (x∈seen)):=cH.2 ⟨hb,by simp[hn]⟩
 refine Nat.lt_of_le_of_ne (ck _ _) fun h=>?_
 have:=List.length_filter_eq_length_iff.1 h b hm
 simp at this
end
section
variable {P:Program} {G:Gl} {tr:List Nat} {fr:Nat→V} {bx:Nat→List V} {nb:Nat} {K:S→Prop} {KV:V→Prop} {Q:VE→S→Prop}
variable {α:Type} {c:α→List C} {sz:Nat}
theorem Yv {P S:List α} {x y:α} {k:Nat} (hk:P.length=k):(P++x::S).set k y=P++y::S:=by
 subst hk;simp
def flb (c:α→List C) (l:List α):List V:=(l.map c).flatten.map .c
theorem uz {x:α} {l:List α}:flb c (x::l)=(c x).map .c++flb c l:=by simp[flb]
theorem nA {l m:List α}:flb c (l++m)=flb c l++flb c m:=by simp[flb]
theorem ly (hc:∀ x,(c x).length=sz):∀ l:List α,(flb c l).length=l.length*sz
 |[]=>by simp[flb]
 |x::l=>by rw[uz,ai,ly hc l];simp[hc,dZ,lF]
theorem MU {l:List α} {i:Nat} {x:α} (h:l[i]?=some x):∃ a b,l=a++x::b∧a.length=i:=by
 obtain⟨hi,hx⟩:=ah.1 h
 refine⟨l.take i,l.drop (i+1),?_,by simp;omega⟩
 rw[← hx,List.getElem_cons_drop,dI]
theorem S4 (hc:∀ x,(c x).length=sz) {l:List α} {i:Nat} {x:α} (h:l[i]?=some x):((flb c l).drop (i*sz)).take sz=(c x).map .c:=by
 obtain⟨a,b,rfl,rfl⟩:=MU h
 rw[nA,← ly hc a,List.drop_left,uz]
 exact List.take_left' (by simp[hc])
theorem Yx (hc:∀ x,(c x).length=sz) {l:List α} {i:Nat} {y:α} (h:i<l.length):fj (flb c l) (i*sz) ((c y).map .c)=flb c (l.set i y):=by
 obtain⟨a,b,e,rfl⟩:=MU (ae h)
 rw[e,Yv rfl]
 simp only[nA,uz,fj]
 rw[← ly hc a,List.take_left]
 have e1:(flb c a).length+((c y).map V.c).length=(flb c a).length+((c l[a.length]).map V.c).length:=by simp[hc]
 rw[e1,← gb,List.drop_left,List.drop_left]
 simp
theorem BN (hc:∀ x,(c x).length=sz) {b i o:Nat} {l:List α} {x:α} (ho:o=i*sz) (hb:b<nb) (h:l[i]?=some x) (hK:KV (.agg (c x))):ldA nb b (flb c l) o sz KV:=by
 subst ho
 unfold ldA
 rw[S4 hc h]
 have h2:((c x).map V.c).map V.fz=(c x).map V.c:=by simp[gG,Function.comp_def,V.fz]
 have h3:((c x).map V.c).all V.isPO=true:=by simp[List.all_map,Function.comp_def,V.isPO]
 rw[h2,h3,xM]
 exact⟨hb,⟨by simp[hc],rfl⟩,hK⟩
theorem F3 {T e:TypeId} {i j:TI} {k:Nat} {n:Int} {b l cp z:Nat} (hT:ti P T=some i) (hk:i.kd=.slice e) (hj:ti P e=some j) (hs:j.size=z) (hz:z≠0) (hn:n=(k:Nat)) (hl:k<l)
 (hK:KV (.bp b (k*z))):cE P T (.ms b 0 l cp z) (.c (.lit (.int .i64 n))) KV:=by
 subst hn
 refine Sw hT hk hj hs hz (aA k) (by omega) ?_
 simpa using hK
theorem iQ {α:Type} {c:α→List C} {l:List α}:cy (flb c l)=false:=HZ
theorem stq (hc:∀ x,(c x).length=sz) {i:Nat} {y:α} {l l':List α} (hi:i<l.length) (h:l.set i y=l'):((i*sz+sz≤(flb c l).length)=True)∧fj (flb c l) (i*sz) ((c y).map .c)=flb c l':=by
 subst h
 refine⟨?_,Yx hc hi⟩
 rw[ly hc,eq_iff_iff,iff_true]
 have:i*sz+sz=(i+1)*sz:=by rw[dZ]
 rw[this];exact aO _ hi
theorem BO {l:List (Nat×V)} {k:Nat} {L:List α} (eH:l.all (fun p=>p.2.ltB 1)=true) (hk:k≤1) (hn:1≤nb) (h1:FL l fr) (h2:bx 0=flb c L):S.Le k (hdS l [flb c L]) ⟨fr,bx,nb⟩:=by
 refine cD ?_ hk hn h1 ⟨h2,trivial⟩
 simp only[kR,bR,cz,jd,aS]
 exact⟨eH,vh _ _⟩
theorem eK {s:S} {f:V} {args all cargs:List V} {g:FuncId} {K:S→V→Prop} {r:V} {b0 b1:List V} (hc:gv f args=some (g,all)) (hf:FnB P G g cargs [b0] r [b1]) (eF:all.map V.fz=cargs)
 (hn:s.nb=1) (hb:s.bx 0=b0) (hK:K ⟨s.fr,up s.bx 0 b1,1⟩ r):vcallB P G s f args K:=by
 refine Pd hc hf eF (by simp[hn]) ⟨hb,trivial⟩ ?_
 have e:(fun i=>if i<[b1].length then[b1].getD i [] else s.bx i)=up s.bx 0 b1:=by
  funext i
  cases i with
  |zero=>simp
  |succ i=>simp[up]
 rw[e];exact hK
theorem S5 {L:List α} {args:List V} (h:args.all (fun v=>v.ltB 1)=true):nO args [flb c L]=true:=by
 simp only[nO,bR,cz,jd,aS]
 exact⟨h,vh _ _⟩
end
section
variable {α:Type} {c:α→List C} {sz:Nat}
theorem Yy {fr:Nat→V} {bx:Nat→List V} {nb b:Nat} {l:List α} (hb:b<nb) (h:bx b=flb c l):Af ⟨fr,bx,nb⟩ b=some (l.map c).flatten:=by
 unfold Af;simp only[hb,db,h,flb]
 generalize (l.map c).flatten=cs
 induction cs with
 |nil=>rfl
 |cons x cs ih=>simp only[bA,fm,ih];rfl
theorem S6 (hc:∀ x,(c x).length=sz) {l:List α} {i:Nat} (h:i≤l.length):(flb c l).take (i*sz)=flb c (l.take i):=by
 have e:flb c l=flb c (l.take i)++flb c (l.drop i):=by rw[← nA,dI]
 rw[e]
 exact List.take_left' (by rw[ly hc,aN,bO h])
theorem Po (hc:∀ x,(c x).length=sz) {l:List α} {i:Nat} (h:i≤l.length):(flb c l).drop (i*sz)=flb c (l.drop i):=by
 have e:flb c l=flb c (l.take i)++flb c (l.drop i):=by rw[← nA,dI]
 rw[e]
 exact List.drop_left' (by rw[ly hc,aN,bO h])
theorem Yz (hc:∀ x,(c x).length=sz) {l m:List α} {i:Nat} (h:i+m.length≤l.length):fj (flb c l) (i*sz) (flb c m)=flb c (l.take i++m++l.drop (i+m.length)):=by
 unfold fj
 have e:i*sz+(flb c m).length=(i+m.length)*sz:=by rw[ly hc,di]
 rw[e,S6 hc (by omega),Po hc (by omega),← nA,← nA]
theorem Pp (hc:∀ x,(c x).length=sz) {l:List α} {a:Nat} (h:a≤l.length):(l.map c).flatten.drop (a*sz)=((l.drop a).map c).flatten:=by
 have e:(l.map c).flatten=((l.take a).map c).flatten++((l.drop a).map c).flatten:=by rw[← dX,← dj,dI]
 have hl:∀ m:List α,(m.map c).flatten.length=m.length*sz:=fun m=>by have:=ly hc m;unfold flb at this;rwa [au] at this
 rw[e]
 exact List.drop_left' (by rw[hl,aN,bO h])
theorem xQ (hc:∀ x,(c x).length=sz):∀ (n:Nat) (l:List α),n≤l.length→oF sz n (l.map c).flatten=(l.take n).map c
 |0,_,_=>rfl
 |n+1,[],h=>by simp at h
 |n+1,x::l,h=>by
  simp only[bA,cU,oF,fR]
  rw[List.take_left' (hc x),List.drop_left' (hc x),xQ hc n l (by simpa using h)]
theorem yZ (hc:∀ x,(c x).length=sz) {fr:Nat→V} {bx:Nat→List V} {nb b o a n:Nat} {l:List α} (hb:b<nb) (h:bx b=flb c l) (ho:o=a*sz) (hn:a+n≤l.length):mJ ⟨fr,bx,nb⟩ b o n sz=some (.sl (((l.drop a).take n).map c)):=by
 subst ho
 unfold mJ;rw[Yy hb h]
 have hl:(l.map c).flatten.length=l.length*sz:=by have:=ly hc l;unfold flb at this;rwa [au] at this
 have hm:a*sz+n*sz≤l.length*sz:=by rw[← di];exact aO _ hn
 simp only[hl,hm,db]
 rw[Pp hc (by omega),xQ hc n _ (by rw[cW];omega)]
end
theorem S7 {P:Program} {T e:TypeId} {i j:TI} {b off len cap sz l h m:Nat} {lo hi mx:Option V} {K:V→Prop} (hT:ti P T=some i) (hk:i.kd=.slice e) (hE:ti P e=some j) (hs:j.size=sz) (h1:jP 0 lo=some (l:Nat)) (h2:jP len hi=some (h:Nat)) (h3:jP cap mx=some (m:Nat))
 (hlh:l≤h) (hhm:h≤m) (hmc:m≤cap) (hx:mx.isSome=true→hi.isSome=true) (hK:K (.ms b (off+l*sz) (h - l) (m - l) sz)):kI P T (.ms b off len cap sz) lo hi mx K:=by
 obtain⟨kd,a,b',c,d,f,g⟩:=i;simp only at hk;subst hk
 simp only[kI,hT,hE,h1,h2,h3,c7]
 exact⟨⟨hs,by omega,by omega,by omega,by omega,hx⟩,hK⟩
section
variable {P:Program} {G:Gl} {α:Type} {c:α→List C} {sz:Nat} {KV:V→Prop} {nb:Nat}
theorem S8 {T e:TypeId} {i j:TI} {n:Int} {b o a k l cp z:Nat} (hT:ti P T=some i) (hk:i.kd=.slice e) (hj:ti P e=some j) (hs:j.size=z) (hz:z≠0) (ho:o=a*z) (hn:n=(k:Nat)) (hl:k<l)
 (hK:KV (.bp b ((a+k)*z))):cE P T (.ms b o l cp z) (.c (.lit (.int .i64 n))) KV:=by
 subst hn;subst ho
 refine Sw hT hk hj hs hz (aA k) (by omega) ?_
 rw[c7,← di];exact hK
theorem vl {ρ:Nat→Nat} {l:List α}:(flb c l).map (V.ren ρ)=flb c l:=by
 unfold flb;rw[gG];rfl
theorem cells_ren {ρ:Nat→Nat} {l:List C}:(l.map V.c).map (V.ren ρ)=l.map V.c:=by rw[gG];rfl
theorem H8 {α:Type} {L:List α} {k:Nat} {x:α} (h:k<L.length):(L.set k x).take (k+1)=L.take k++[x]:=by
 rw[aC (by simpa using h),List.getElem_set_self,List.take_set_of_le (ab _)]
end
section
variable {P:Program} {α:Type} [DecidableEq α] {c:α→List C} {s:S} {T kt et:TypeId} {tT tk te:TI} {ks:List EK} {K:S→Prop} {i:Nat}
end
theorem ml {P:Program} {G:Gl} {s:S} {f:V} {args all cargs:List V} {g:FuncId} {K:S→V→Prop} {r:V} {b0 b1:List (List V)} (ρ:List Nat) (hc:gv f args=some (g,all)) (hf:FnB P G g cargs b0 r b1)
 (eF:all.map V.fz=cargs.map (V.ren (rho ρ s.nb))) (hl:ρ.length=b0.length) (oZ:ρ.Nodup) (h1:b1.length=b0.length) (hb:rb s.bx s.nb (rho ρ s.nb) 0 b0)
 (hK:∀ bx':Nat→List V,(∀ j,j∉ρ→bx' j=s.bx j)→(∀ (i j:Nat) (b:List V),ρ[i]?=some j→b1[i]?=some b→bx' j=b.map (V.ren (rho ρ s.nb)))→K ⟨s.fr,bx',s.nb⟩ (r.ren (rho ρ s.nb))):vcallB P G s f args K:=by
 unfold vcallB ke
 simp only[hc]
 refine⟨ρ,cargs,b0,r,b1,hf,eF,⟨hl,oZ⟩,hb,?_⟩
 have vA:∀ i,i<b1.length→∃ j,ρ[i]?=some j∧rho ρ s.nb i=j:=fun i hi=>by
  have:i<ρ.length:=by omega
  exact⟨ρ[i],ae this,by unfold rho;rw[if_pos this];simp[this]⟩
 have hn:s.nb+(b1.length - b0.length)=s.nb:=by omega
 rw[hn]
 refine hK _ (fun j hj=>nZ b1 0 s.bx j fun i hi=>?_) fun i j b hi hb=>?_
 ·obtain⟨k,h2,h3⟩:=vA i hi
  rw[aX,h3]
  rintro rfl
  exact hj (aQ h2)
 ·have qy:=(ah.1 hb).1
  obtain⟨k,h2,h3⟩:=vA i qy
  rw[hi] at h2;cases h2
  have:=uk (ρ:=rho ρ s.nb) b1 0 s.bx i b hb (fun i i' hi sy h=>by
   obtain⟨k,h4,h5⟩:=vA i hi
   obtain⟨k',h6,h7⟩:=vA i' sy
   rw[aX,aX,h5,h7] at h
   subst h
   obtain⟨q1,q2⟩:=ah.1 h4
   obtain⟨q3,q4⟩:=ah.1 h6
   exact(List.getElem_inj oZ).1 (q2.trans q4.symm))
  rw[aX,h3] at this
  exact this
theorem Lf {P:Program} {G:Gl} {s:S} {f:V} {args all cargs:List V} {g:FuncId} {K:S→V→Prop} {r:V} {b0 b1:List (List V)} {c:List V} (ρ:List Nat) (hc:gv f args=some (g,all)) (hf:FnB P G g cargs b0 r (b1++[c]))
 (eF:all.map V.fz=cargs.map (V.ren (rho ρ s.nb))) (hl:ρ.length=b0.length) (oZ:ρ.Nodup) (h1:b1.length=b0.length) (hb:rb s.bx s.nb (rho ρ s.nb) 0 b0) (bK:∀ j∈ρ,j<s.nb)
 (hK:∀ bx':Nat→List V,(∀ j,j∉ρ→j≠s.nb→bx' j=s.bx j)→(∀ (i j:Nat) (b:List V),ρ[i]?=some j→b1[i]?=some b→bx' j=b.map (V.ren (rho ρ s.nb)))→bx' s.nb=c.map (V.ren (rho ρ s.nb))→K ⟨s.fr,bx',s.nb+1⟩ (r.ren (rho ρ s.nb))):vcallB P G s f args K:=by
 unfold vcallB ke
 simp only[hc]
 refine⟨ρ,cargs,b0,r,b1++[c],hf,eF,⟨hl,oZ⟩,hb,?_⟩
 have vA:∀ i,i<b1.length→∃ j,ρ[i]?=some j∧rho ρ s.nb i=j:=fun i hi=>by
  have:i<ρ.length:=by omega
  exact⟨ρ[i],ae this,by unfold rho;rw[if_pos this];simp[this]⟩
 have NQ:rho ρ s.nb b1.length=s.nb:=by unfold rho;rw[if_neg (by omega),h1,← hl];omega
 have qw:∀ i i',i<(b1++[c]).length→i'<(b1++[c]).length→rho ρ s.nb (0+i)=rho ρ s.nb (0+i')→i=i':=fun i i' hi sy h=>by
  rw[aX,aX] at h
  rw[ai,bF] at hi sy
  have gC:∀ i,i<b1.length→rho ρ s.nb i<s.nb:=fun i hi=>by
   obtain⟨k,h4,h5⟩:=vA i hi
   rw[h5];exact bK k (aQ h4)
  rcases dG i b1.length with h2 | h2
  ·rcases dG i' b1.length with h3 | h3
   ·obtain⟨k,h4,h5⟩:=vA i h2
    obtain⟨k',h6,h7⟩:=vA i' h3
    rw[h5,h7] at h
    subst h
    obtain⟨q1,q2⟩:=ah.1 h4
    obtain⟨q3,q4⟩:=ah.1 h6
    exact(List.getElem_inj oZ).1 (q2.trans q4.symm)
   ·have:i'=b1.length:=by omega
    subst this
    rw[NQ] at h
    have:=gC i h2;omega
  ·have:i=b1.length:=by omega
   subst this
   rw[NQ] at h
   rcases dG i' b1.length with h3 | h3
   ·have:=gC i' h3;omega
   ·omega
 have hn:s.nb+((b1++[c]).length - b0.length)=s.nb+1:=by rw[ai,bF];omega
 rw[hn]
 refine hK _ (fun j hj hjn=>nZ (b1++[c]) 0 s.bx j fun i hi=>?_) (fun i j b hi hb=>?_) ?_
 ·rw[aX]
  rw[ai,bF] at hi
  rcases dG i b1.length with h2 | h2
  ·obtain⟨k,h4,h3⟩:=vA i h2
   rw[h3]
   rintro rfl
   exact hj (aQ h4)
  ·have:i=b1.length:=by omega
   subst this
   rw[NQ];exact fun e=>hjn e.symm
 ·have qy:=(ah.1 hb).1
  obtain⟨k,h2,h3⟩:=vA i qy
  rw[hi] at h2;cases h2
  have:=uk (ρ:=rho ρ s.nb) (b1++[c]) 0 s.bx i b (by rw[az qy];exact hb) qw
  rw[aX,h3] at this
  exact this
 ·have:=uk (ρ:=rho ρ s.nb) (b1++[c]) 0 s.bx b1.length c (by simp) qw
  rw[aX,NQ] at this
  exact this
section
variable {P:Program} {α β:Type} [DecidableEq α] {f:α→V} {c:α→List C} {h:β→V} {s:S} {T kt et:TypeId} {tT tk te:TI} {ks:List EK} {K:S→Prop} {KV:V→Prop} {i:Nat} {z:V}
def pN (f:α→V) (h:β→V) (l:List (α×β)):List V:=.mk (List.range l.length) l.length::qD f h l
def uA (l:List (α×β)) (a:α):Option Nat:=(l.map (·.1)).findIdx? (fun b=>decide (a=b))
def YA (l:List (α×β)) (a:α) (b:β):List (α×β):=match uA l a with
 |some j=>l.set j (a,b)
 |none=>l++[(a,b)]
def xR (l:List (α×β)) (a:α):Option β:=match uA l a with
 |some j=>(l[j]?).map (·.2)
 |none=>none
theorem mn {l:List (α×β)} {a:α} {j:Nat} (hj:uA l a=some j):∃ b,l[j]?=some (a,b):=by
 have:=Ld hj
 rw[bb,aW] at this
 obtain⟨⟨a',b⟩,h1,rfl⟩:=this
 exact⟨b,h1⟩
theorem y4 {l:List (α×β)} {a:α} (hj:uA l a=none):a∉l.map (·.1):=fun hm=>by
 have:=H7 (l:=l.map (·.1)) (a:=a)
 unfold uA at hj
 rw[hj] at this
 simp[hm] at this
theorem S9 {l:List (α×β)} {a:α}:(xR l a).isSome=decide (a∈l.map (·.1)):=by
 unfold xR
 cases hj:uA l a with
 |none=>have:=y4 hj;simp only[Option.isSome_none];exact(dM this).symm
 |some j=>
  obtain⟨b,hb⟩:=mn hj
  have:a∈l.map (·.1):=bj.2 ⟨_,aQ hb,rfl⟩
  simp only[hb,b8,Option.isSome_some];exact(cu this).symm
theorem Pq {l:List (α×β)} {a:α} {b:β} (hg:xR l a=some b):(a,b)∈l:=by
 unfold xR at hg
 cases hj:uA l a with
 |none=>rw[hj] at hg;cases hg
 |some j=>
  obtain⟨b',hb⟩:=mn hj
  simp only[hj,hb,b8,ao] at hg
  subst hg;exact aQ hb
theorem AO (hT:ti P T=some tT) (hm:tT.kd=.map kt et) (hk:ti P kt=some tk) (WE:tk.eqs=some ks) (he:ti P et=some te) (hz:re te=some z) (ha:zaB P et=true) (hf:∀ a,(f a).kcs tk.agg=some (c a))
 (hl:∀ a,(c a).length=ks.length) (wX:∀ a b,jB ks (c a) (c b)=some (decide (a=b))) {a:α} {l:List (α×β)} (hb:s.bx i=pN f h l) (hi:i<s.nb)
 {KM:Nat→List Nat→Nat→List V→Option Nat→V→Prop} (hK:KM i (List.range l.length) l.length (qD f h l) (uA l a) z):ij P T s (.mr i) (f a) KM:=by
 refine rJ (ks:=ks) (kc:=c a) (kcs:=(l.map (·.1)).map c) hT hm hk WE he (hf a) hz hb ?_ (DX hl wX a _ 0) hi (hl a) (by rw[wX];simp) ha ?_
 ·rw[zJ (c:=c) hf,gG];rfl
 ·have:(Option.map (0+·) ((l.map (·.1)).findIdx? (fun b=>decide (a=b))))=uA l a:=by
   unfold uA
   cases(l.map (·.1)).findIdx? (fun b=>decide (a=b))<;>simp
  rw[this];exact hK
theorem Pr (hT:ti P T=some tT) (hm:tT.kd=.map kt et) (hk:ti P kt=some tk) (WE:tk.eqs=some ks) (he:ti P et=some te) (hz:re te=some z) (ha:zaB P et=true) (hf:∀ a,(f a).kcs tk.agg=some (c a))
 (hl:∀ a,(c a).length=ks.length) (wX:∀ a b,jB ks (c a) (c b)=some (decide (a=b))) {a:α} {l:List (α×β)} (hb:s.bx i=pN f h l) (hi:i<s.nb)
 (hK:KV (.tup [(((xR l a).map h).getD z).dr,.c (.lit (.bool (xR l a).isSome))])):fM P T s (.mr i) (f a) true KV:=by
 unfold fM
 refine AO hT hm hk WE he hz ha hf hl wX hb hi ?_
 unfold xR at hK
 cases hj:uA l a with
 |none=>simp only[hj,jJ,Option.getD_none,Option.isSome_none] at hK;exact hK
 |some j=>
  obtain⟨b,hjb⟩:=mn hj
  simp only[hj,hjb,b8,cx,Option.isSome_some] at hK
  have e:=(rN (f:=f) (h:=h) l j (a,b) hjb).1
  simp only[e,db]
  exact hK
theorem Lg (hT:ti P T=some tT) (hm:tT.kd=.map kt et) (hk:ti P kt=some tk) (WE:tk.eqs=some ks) (he:ti P et=some te) (hz:re te=some z) (ha:zaB P et=true) (hf:∀ a,(f a).kcs tk.agg=some (c a))
 (hl:∀ a,(c a).length=ks.length) (wX:∀ a b,jB ks (c a) (c b)=some (decide (a=b))) {a:α} {l:List (α×β)} (hb:s.bx i=pN f h l) (hi:i<s.nb)
 (hK:KV (((xR l a).map fun b=>(h b).fz).getD z)):fM P T s (.mr i) (f a) false KV:=by
 unfold fM
 refine AO hT hm hk WE he hz ha hf hl wX hb hi ?_
 unfold xR at hK
 cases hj:uA l a with
 |none=>simp only[hj,jJ,Option.getD_none] at hK;exact hK
 |some j=>
  obtain⟨b,hjb⟩:=mn hj
  simp only[hj,hjb,b8,cx] at hK
  have e:=(rN (f:=f) (h:=h) l j (a,b) hjb).1
  simp only[e,aY,dm]
  exact hK
theorem Ta (hT:ti P T=some tT) (hm:tT.kd=.map kt et) (hk:ti P kt=some tk) (WE:tk.eqs=some ks) (he:ti P et=some te) (hz:re te=some z) (ha:zaB P et=true) (hf:∀ a,(f a).kcs tk.agg=some (c a))
 (hl:∀ a,(c a).length=ks.length) (wX:∀ a b,jB ks (c a) (c b)=some (decide (a=b))) {a:α} {b:β} {x:V} (hx:x.fz=h b) (hfa:(f a).fz=f a) {l:List (α×β)} (hb:s.bx i=pN f h l) (hi:i<s.nb)
 (hK:K { s with bx:=up s.bx i (pN f h (YA l a b)) }):iJ P T s (.mr i) (f a) x K:=by
 unfold iJ
 refine AO hT hm hk WE he hz ha hf hl wX hb hi ?_
 unfold YA at hK
 cases hj:uA l a with
 |none=>
  simp only[hj] at hK
  have e:List.range (l++[(a,b)]).length=List.range l.length++[l.length]:=by rw[ai,bF,List.range_succ]
  unfold pN at hK
  rw[e,uy,ai,bF] at hK
  simp only[hx,hfa]
  exact hK
 |some j=>
  obtain⟨b',hjb⟩:=mn hj
  simp only[hj] at hK
  unfold pN at hK
  rw[gf] at hK
  simp only[hx]
  rw[BJ l j a b' b hjb]
  exact hK
theorem BP {l:List (α×β)} (hT:ti P T=some tT) (hm:tT.kd=.map kt et) (hb:s.bx i=pN f h l) (hi:i<s.nb) (hK:KV (.it i l.length l.length [])):oH P T s (.mr i) KV:=by
 obtain⟨kd,a1,a2,a3,a4,a5,a6⟩:=tT
 simp only at hm;subst hm
 unfold oH
 simp only[hT,hb,pN]
 exact⟨hi,hK⟩
theorem DZ {l:List (α×β)} {seen:List Nat} (hb:s.bx i=pN f h l) (hi:i<s.nb) {K:Option V→V→Prop}
 (h0:(∀ b,b<l.length→b∈seen)→K none (.tup [.c (.lit (.bool false))])) (h1:∀ b,b<l.length→b∉seen→∀ x y,K (some (.it i l.length l.length (seen++[b]))) (.tup [.c (.lit (.bool true)),x,y])):Dq s (.it i l.length l.length seen) K:=by
 unfold Dq
 simp only[hb,pN]
 exact⟨⟨hi,ab _,fun b h=>df.1 h⟩,fun h=>h0 fun b hb=>h b (df.2 hb),fun j b hj hb=>h1 b (df.1 (aQ hj)) hb _ _⟩
theorem Lh {l:List (α×β)} {seen:List Nat} {b:Nat} (hb:s.bx i=pN f h l) (hi:i<s.nb) (hm:b<l.length) (hK:KV (.tup [(f l[b].1).dr,(h l[b].2).dr])):oI s (.it i l.length l.length (seen++[b])) KV:=by
 unfold oI
 simp only[hb,pN,List.getLast?_append,List.getLast?_singleton,Option.some_or]
 have hf:(List.range l.length).findIdx? (·==b)=some b:=by
  rw[eG]
  refine⟨by simpa using hm,by simp,fun k hk=>by simp;omega⟩
 have e:=rN (f:=f) (h:=h) l b l[b] (ae hm)
 simp only[hf,e.1,e.2]
 exact⟨⟨hi,trivial⟩,hK⟩
theorem Tb {ρ:Nat→Nat} (hf:∀ a,(f a).ren ρ=f a) (hh:∀ b,(h b).ren ρ=h b):∀ {l:List (α×β)},(qD f h l).map (V.ren ρ)=qD f h l:=by
 intro l
 induction l with
 |nil=>rfl
 |cons p l ih=>obtain⟨a,b⟩:=p;simp only[qD,bA,ih,hf,hh]
theorem H9 {ρ:Nat→Nat} (hf:∀ a,(f a).ren ρ=f a) (hh:∀ b,(h b).ren ρ=h b) {l:List (α×β)}:(pN f h l).map (V.ren ρ)=pN f h l:=by
 simp only[pN,bA,Tb hf hh];rfl
theorem Ia {m:Nat} (hf:∀ a,(f a).ltB m=true) (hh:∀ b,(h b).ltB m=true) {l:List (α×β)}:(pN f h l).all (fun x=>x.ltB m)=true:=by
 have:∀ l:List (α×β),(qD f h l).all (fun x=>x.ltB m)=true:=fun l=>by
  induction l with
  |nil=>rfl
  |cons p l ih=>obtain⟨a,b⟩:=p;simp only[qD,bR,ih,hf,hh];rfl
 simp only[pN,bR,this];rfl
end
theorem Pt {P:Program} {G:Gl} {s:S} {f:V} {args all cargs:List V} {g:FuncId} {K:S→V→Prop} {r:V} {Y Y':List (List V)} (hc:gv f args=some (g,all)) (hf:FnB P G g cargs Y r Y') (eF:all.map V.fz=cargs)
 (cg:Y'.length=Y.length) (bK:ltL Y.length Y') (hn:Y.length≤s.nb) (hb:BL 0 Y s.bx) (hr:∀ ρ:Nat→Nat,(∀ i,i<Y.length→ρ i=i)→r.ren ρ=r)
 (hK:∀ bx':Nat→List V,(∀ j,Y.length≤j→bx' j=s.bx j)→BL 0 Y' bx'→K ⟨s.fr,bx',s.nb⟩ r):vcallB P G s f args K:=by
 unfold vcallB ke
 simp only[hc]
 have hρ:∀ i,i<Y.length→rho (List.range Y.length) s.nb i=i:=fun i hi=>AN hi
 have nM:∀ i b,Y[i]?=some b→s.bx i=b:=fun i b h=>by
  have hi:=(ah.1 h).1
  have:=BL.get hb i hi
  rw[aX] at this
  rw[← this,aw,h];rfl
 refine⟨List.range Y.length,cargs,Y,r,Y',hf,?_,⟨by simp,jh⟩,?_,?_⟩
 ·rw[eF,iP fun x hx=>rP (hf.2.1.1 x hx) hρ]
 ·refine rQ hρ _ 0 (by omega) hf.2.1.2.1 (vg _ _ _ _ fun i b h=>?_)
  have hi:=(ah.1 h).1
  rw[aX]
  exact⟨by omega,nM i b h⟩
 ·rw[pM hρ Y' 0 _ (by omega) bK,rM,hr _ hρ,cg,lE,eC]
  refine hK _ (fun j hj=>?_) (MO _ _ _ fun i b h=>?_)
  ·simp only[ar,jt,aX]
   rw[if_neg (by omega)]
  ·have hi:=(ah.1 h).1
   simp only[ar,jt,aX,Nat.sub_zero]
   rw[if_pos (by omega),aw,h];rfl
