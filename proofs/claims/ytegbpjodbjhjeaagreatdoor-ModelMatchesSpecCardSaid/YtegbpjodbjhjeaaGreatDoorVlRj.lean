/- Layer 16: the specification: Run, Class, Holds. -/
import Derived.Test.YtegbpjodbjhjeaaGreatDoorVlRh
import Derived.Test.YtegbpjodbjhjeaaGreatDoorVlCB
set_option maxHeartbeats 2000000
set_option linter.all false
namespace Go.Proofs.YtegbpjodbjhjeaaGreatDoor
open Go Go.Vl
open Kp (Pol Ty Ru Qu poC tyC ruC quC)
variable {G:Gl}
set_option maxRecDepth 10000
theorem El {p:Pol} {s:Sy} {c:Cl} (hp:POk p) (hS:SyOk s):FnOK Tryz.prog glM 15 [.agg (poC p),.agg (syC s),.agg (clC c)] (.tup [.agg (syC (stR (fp p s c)).1),i64 (stR (fp p s c)).2]):=by have:=V8 (c:=c) hp hS;rwa [V0] at this
def zJ:=jj @pkA @ptA
def aa4:=jj @pkA (jj @ptA @xz)
def NR:=jj @pkA (jj @ptA (jj @pkS @xz))
theorem ZQ {p:Pol} (hp:POk p) (l:List Cl) (hl:l.length<=1000):FnOK Tryz.prog glM 12 [.agg (poC p),.c (sR l)] (.tup [.agg (syC (lZ p sy0 0 l).1),i64 (lZ p sy0 0 l).2.1,i64 (lZ p sy0 0 l).2.2]):=by
 refine bD (rs:=[.cell 4 35,.tmp 5,.tmp 6]) false [] mixed Tryz.func12 rfl rfl rfl rfl (by kernel_rfl) (by simp) rfl rfl ?_;have hz:fW [V.ow none [],.ow none [],.ow none [],.ow none [],i64 0] 0 [V.c (.sl []),.c (.sl []),.c (.sl []),.c (.sl []),i64 0]=(syC sy0).map .c:=rfl;simp only[zJ,seval,hz,sR];refine cm (λx:Nat×Sy=>hdS [(1,.c (sR l)),(2,.bp 0 0),(4,.bp 1 0),(7,.bp 2 0),(8,i64 x.1)] [(poC p).map .c,[.ow none [],.ow none [],.ow none [],.ow none [],i64 0],(syC x.2).map .c]) (λx=>l.length - x.1)
  (λx=>x.1<=l.length/\SyOk x.2/\lZ p sy0 0 l=lZ p x.2 x.1 (l.drop x.1)) (0,sy0) ⟨ar _,sok0,rfl⟩ ?_ ?_
 .refine bT rfl (ar _) (by simp) ?_ ?_
  .simp[FL,aw,sR]
  .simp[BL,aw]
 rintro⟨i,s⟩ ⟨hi,hS,bO⟩ R bN b8 db;simp only at hi hS bO;simp only[zJ,seval,sR,aj];refine aJ (λbF=>?_) (λfu=>?_)
 .have bF:i<l.length:=by simpa using bF
  rw[cw bF] at bO;simp only[aa4,seval];refine cR MV rfl qU (by decide) (aC i) (c:=clC l[i]) (by simp[bF]) (Gm _) ?_;simp only[aa4,seval];refine ax («as»:=[.agg (poC p),.agg (syC s),.agg (clC l[i])]) rfl (El (c:=l[i]) hp hS) (λh=>(by cases h)) ?_;simp only[NR,seval];cases hD:fp p s l[i] with
  |error e=>have he:e≠0:=Gw hD;have hr:lZ p sy0 0 l=(s,i,e):=(by rw[bO,NG hD]);simp only[NR,seval,stR,he,aO];refine db _ ?_;simp only[pkA];rw[hr];exact xA (l6 (by rfl) (ae rfl) (by rfl)) (by rfl) (by rfl)
  |ok s'=>
   have hr:lZ p sy0 0 l=lZ p s' (i+1) (l.drop (i+1)):=(by rw[bO,NF hD]);simp only[NR,seval,stR,ah];have hw:=wrap_i64 (i+1) (by omega);refine bN (i+1,s') _ ⟨bF,ub hS hp.t hD,hr⟩ (by simp only;omega) (bT rfl (ar _) (by simp) ?_ ?_)
   .simp[FL,aw,sR,hw]
   .simp[BL,aw,bxs,VG]
 .have:i=l.length:=by simp at fu;omega
  subst this;have hr:lZ p sy0 0 l=(s,l.length,0):=by rw[bO,gd];rfl
  simp only[pkA];refine b8 _ _ ?_;simp only[NR,seval,aj];rw[hr];exact xA (l6 (by rfl) (ae rfl) (by rfl)) (by rfl) (by rfl)
def aa5:=jj @pkA (jj @ptA (jj @pkT @pkS))
theorem ri {s:Sy} (hS:SyOk s) (t:Tm) (hv:bW t=true) (ht:bi t<=900000000):FnOK Tryz.prog glM 25 [.agg (syC s),.agg (tmC t)] (i64 (ni s t)):=by
 have hw:∀ o:Int,-1<=o->o<=2147483647->IntKind.i64.wrap (o+1)=o+1:=λo h1 h2=>by
  rcases Int.lt_or_le o 0 with h | h
  .have:o=-1:=by omega
   subst this;rfl
  .obtain⟨k,rfl⟩:∃ k:Nat,o=k:=⟨o.toNat,by omega⟩
   exact wrap_i64 (k+1) (by omega)
 have hb:-1<=orS s t/\orS s t<=2147483647:=by
  unfold orS;split
  .rename_i o ho
   have:=hS.hv o (hS.ov o (List.mem_of_find?_eq_some ho));omega
  .omega
 refine bD (rs:=[.tmp 4]) false [] mixed Tryz.func25 rfl rfl rfl rfl (by kernel_rfl) (by simp) rfl rfl ?_;simp only[pkA,ptA,pkT,seval];refine ax rfl (oZ hv) (λ_=>rfl) ?_;unfold ni;cases hk:dF t with
 |false=>simp only[pkA,seval]
 |true=>
  simp only[aa5,seval];refine ax («as»:=[.agg (syC s),.agg (tmC t)]) rfl (uQ hS t ht) (λ_=>rfl) ?_;cases hn:knS s t with
  |true=>simp only[pkA,seval]
  |false=>simp only[aa5,seval];refine ax («as»:=[.agg (syC s),.agg (tmC t)]) rfl (B7 hS t (by omega)) (λ_=>rfl) ?_;simp only[pkA,seval,hw _ hb.1 hb.2]
def Jx:=jj @pkA (jj @ptA @pkF)
theorem Em (es:List Fa) (hm:es.length<=1000000000) (x:Fa):FnOK Tryz.prog G 62 [.c (fsC es),.agg (faC x)] (bo (decide (x∈es))):=by
 have g:∀ (nb q:Nat) (f:Fa) K,ldA nb q ((faC f).map .c) 0 3 K=(q<nb/\K (.agg (faC f))):=λnb q f K=>by unfold ldA;exact propext ⟨λh=>⟨h.1,h.2.2⟩,λh=>⟨h.1,⟨rfl,rfl⟩,h.2⟩⟩
 have gp:∀ (f:Fa) K,dZ true 3 0 (faC f) K=K (.agg (faC f)):=λf K=>propext ⟨λh=>h.2,λh=>⟨ae rfl,h⟩⟩;have gm:∀ f:Fa,dE ((faC f).map V.c)=false:=λ_=>rfl;refine bD (rs:=[.tmp 4]) false [] mixed Tryz.func62 rfl rfl rfl rfl (by kernel_rfl) (by simp) rfl rfl ?_;simp only[pkA,seval,fsC];refine cm (λi:Nat=>hdS [(0,.c (fsC es)),(3,.bp 0 0),(5,i64 i)] [(faC x).map .c]) (λi=>es.length - i) (λi=>i<=es.length/\∀ j (h:j<es.length),j<i->es[j]≠x) 0 ⟨ar _,by simp⟩ ?_ ?_
 .refine bT rfl (ar _) (by simp) ?_ ?_
  .simp[FL,aw,fsC]
  .simp[BL]
 rintro i ⟨hi,eX⟩ R bN b8 db;simp only[zJ,seval,fsC,aj];refine aJ (λbF=>?_) (λfu=>?_)
 .have bF:i<es.length:=by simpa using bF
  simp only[pkA,seval];refine cR kD rfl jb (by decide) (aC i) (c:=faC es[i]) (by simp[bF]) rfl ?_;simp only[Jx,seval,g,gm];refine aJ (λhy=>?_) (λhn=>?_)
  .have hy:es[i]=x:=by simpa using hy
   simp only[pkA,seval];refine db _ ?_;have:decide (x∈es)=true:=dU (hy▸aH bF);simp only[pkA,seval,this]
  .have hn:es[i]≠x:=by simpa using hn
   have hw:=wrap_i64 (i+1) (by omega);simp only[pkA,seval];refine bN (i+1) _ ⟨bF,λj h hj=>?_⟩ (by omega) (bT rfl (ar _) (by simp) ?_ ?_)
   .rcases cd j i with h1 | h1
    .exact eX j h h1
    .have:j=i:=by omega
     subst this;exact hn
   .simp[FL,aw,hw,fsC]
   .simp[BL,bxs]
 .have:i=es.length:=by simp at fu;omega
  subst this;have:decide (x∈es)=false:=eY λhm=>by obtain⟨j,hj,e⟩:=eo hm;exact eX j hj hj e
  simp only[pkA];refine b8 _ _ ?_;simp only[pkA,seval,this]
theorem GH {α:Type} {c:α->List C} {sz:Nat} (hc:∀ x,(c x).length=sz) (l:List α):∀ e∈l.map c,e.length=sz:=by intro e he;obtain⟨x,_,rfl⟩:=ce.1 he;exact hc x
def owF (l:List Fa):V:=.ow (if l.isEmpty then none else some (62,3)) (l.map faC)
theorem yP {l:List Fa}:(owF l).isOw=true:=rfl
theorem V9 {l m:List Fa} {K:V->Prop} (h:l.length+m.length<=1000000000) (hK:K (owF (l++m))):dL Tryz.prog 43 (owF l) (.c (.sl (m.map faC))) K:=by
 unfold owF;rw[adv];refine⟨⟨by cases l<;>simp,GH iZ _⟩,⟨by simp only[aj];omega,by simp only[aj];omega,GH iZ _⟩,?_⟩;have e:(if(m.map faC).isEmpty=true then(if l.isEmpty=true then none else some (62,3)) else some (62,3))=if(l++m).isEmpty=true then none else some (62,3):=by cases l<;>cases m<;>simp
 rw[e,<- dl];exact hK
theorem aa6 {l:List Fa} {x:Fa} {K:V->Prop} (h:l.length+1<=1000000000) (hK:K (owF (l++[x]))):dL Tryz.prog 43 (owF l) (.c (.sl [faC x])) K:=V9 (m:=[x]) h hK
def v8 (l:List Fa) (f:Fa):Nat:=l.findIdx λy=>!ltF y f
def ug (l:List Fa) (f:Fa):List Fa:=if l[v8 l f]?=some f then l else l.take (v8 l f)++f::l.drop (v8 l f)
theorem ZR {l:List Fa} {f:Fa}:v8 l f<=l.length:=List.findIdx_le_length
theorem ZS {l:List Fa} {f:Fa} {i:Nat} (hi:i<=l.length) (h1:∀ j (h:j<l.length),j<i->ltF l[j] f=true) (h2:∀ h:i<l.length,ltF l[i] f=false):v8 l f=i:=by
 unfold v8;rcases cd i l.length with h | h
 .rw[List.findIdx_eq h]
  exact⟨by simp[h2 h],λj hj=>by simp[h1 j (by omega) hj]⟩
 .have:i=l.length:=by omega
  subst this;rw[List.findIdx_eq_length];intro x hx;obtain⟨j,hj,rfl⟩:=eo hx;simp[h1 j hj hj]
theorem Wa {l:List Fa} {f:Fa}:(ug l f).length<=l.length+1:=by
 unfold ug;split
 .omega
 .simp only[aB,bb,aI,dh];omega
theorem ZT {l:List Fa} {f:Fa} {j:Nat} (h:j<v8 l f) (hj:j<l.length):ltF l[j] f=true:=by unfold v8 at h;have:=List.not_of_lt_findIdx h;simpa using this
theorem ZU {l:List Fa} {f:Fa} (h:v8 l f<l.length):ltF l[v8 l f] f=false:=by have:=List.findIdx_getElem (xs:=l) (p:=λy=>!ltF y f) (w:=h);simp only[d5] at this;exact this
theorem Wb {l:List Fa} {f x:Fa}:x∈ug l f↔x∈l∨x=f:=by
 unfold ug;split
 .rename_i h
  exact⟨.inl,λh'=>by rcases h' with h' | rfl;exact h';exact bn h⟩
 .have e:l=l.take (v8 l f)++l.drop (v8 l f):=(dQ _ _).symm
  rw[bh,bI]
  conv=>rhs;rw[e,bh]
  constructor
  .rintro(h | h | h)
   .exact .inl (.inl h)
   .exact .inr h
   .exact .inl (.inr h)
  .rintro((h | h) | h)
   .exact .inl h
   .exact .inr (.inr h)
   .exact .inr (.inl h)
theorem Jy {l:List Fa} (hs:StF l) (f:Fa):StF (ug l f):=by
 unfold ug;split
 .exact hs
 .rename_i gu
  have fO:=@ZR l f;have hp:=List.pairwise_iff_getElem.1 hs;have abC:∀ x∈l.drop (v8 l f),ltF f x=true:=λx hx=>by
   obtain⟨j,hj,rfl⟩:=eo hx;rw[dh] at hj;rw[List.getElem_drop];have hi:v8 l f<l.length:=(by omega);have h1:ltF f l[v8 l f]=true:=VM (ZU hi) λe=>gu (by rw[ak hi,<- e]);rcases kz j with h0 | h0
   .subst h0;simpa using h1
   .exact Ei h1 (hp _ _ hi (by omega) (by omega))
  rw[StF,List.pairwise_append];refine⟨hs.sublist (List.take_sublist ..),f8.2 ⟨abC,hs.sublist (List.drop_sublist ..)⟩,λx hx y hy=>?_⟩;rw[fH] at hx;obtain⟨j,hj,rfl⟩:=hx;have h1:ltF (l[j]'(by omega)) f=true:=ZT (by omega) (by omega);rcases bI.1 hy with rfl | hy
  .exact h1
  .exact Ei h1 (abC y hy)
theorem Qy {l:List Fa}:∀ {m:List Fa},StF m->StF (l.foldl ug m)/\∀ x,x∈l.foldl ug m↔x∈l∨x∈m:=by
 induction l with
 |nil=>intro m h;exact⟨h,λx=>by simp⟩
 |cons y l ih=>
  intro m h;obtain⟨h1,h2⟩:=ih (Jy h y);rw[fY];refine⟨h1,λx=>?_⟩;rw[h2,Wb,bI];constructor
  .rintro(h | h | h)
   .exact .inl (.inr h)
   .exact .inr h
   .exact .inl (.inl h)
  .rintro((h | h) | h)
   .exact .inr (.inr h)
   .exact .inl h
   .exact .inr (.inl h)
theorem Qz (a b:Fa):FnOK Tryz.prog G 99 [.agg (faC a),.agg (faC b)] (bo (ltF a b)):=by
 refine bD (rs:=[.tmp 4]) false [] mixed Tryz.func99 rfl rfl rfl rfl (by kernel_rfl) (by simp) rfl rfl ?_;have g0:∀ (nb q:Nat) (f:Fa) K,ldB nb q ((faC f).map .c) 0 K=(q<nb/\K (i64 f.kind)):=λ_ _ _ _=>rfl;have g1:∀ (nb q:Nat) (f:Fa) K,ldB nb q ((faC f).map .c) 1 K=(q<nb/\K (i64 f.a)):=λ_ _ _ _=>rfl;have g2:∀ (nb q:Nat) (f:Fa) K,ldB nb q ((faC f).map .c) 2 K=(q<nb/\K (i64 f.b)):=λ_ _ _ _=>rfl;have gm:∀ f:Fa,dE ((faC f).map V.c)=false:=λ_=>rfl;have e:ltF a b=if a.kind=b.kind then(if a.a=b.a then decide (a.b<b.b) else decide (a.a<b.a)) else decide (a.kind<b.kind):=by
  unfold ltF;split
  .split
   .exact fb.2 (by omega)
   .exact fb.2 (by omega)
  .exact fb.2 (by omega)
 rw[e];by_cases h1:a.kind=b.kind
 .rw[if_pos h1]
  by_cases h2:a.a=b.a
  .rw[if_pos h2]
   simp only[zJ,seval,g0,g1,g2,gm,h1,h2,ah]
  .rw[if_neg h2]
   simp only[zJ,seval,g0,g1,gm,h1,h2,ah,aO]
 .rw[if_neg h1]
  simp only[zJ,seval,g0,gm,h1,ah,aO]
theorem aek (l:List Fa) (f:Fa) (hm:l.length<=1000000):FnOK Tryz.prog G 57 [.c (fsC l),.agg (faC f)] (.c (fsC (ug l f))):=by
 refine bD (rs:=[.tmp 4]) true [34,39,43] mixed Tryz.func57 rfl rfl rfl rfl (by kernel_rfl) (by simp) rfl rfl ?_;have g:∀ (nb q:Nat) (f:Fa) K,ldA nb q ((faC f).map .c) 0 3 K=(q<nb/\K (.agg (faC f))):=λnb q f K=>by unfold ldA;exact propext ⟨λh=>⟨h.1,h.2.2⟩,λh=>⟨h.1,⟨rfl,rfl⟩,h.2⟩⟩
 have gp:∀ (f:Fa) K,dZ true 3 0 (faC f) K=K (.agg (faC f)):=λf K=>propext ⟨λh=>h.2,λh=>⟨ae rfl,h⟩⟩;have gm:∀ f:Fa,dE ((faC f).map V.c)=false:=λ_=>rfl;simp only[pkA,seval,fsC];refine cm (λi:Nat=>hdS [(0,.c (.sl (l.map faC))),(3,.bp 0 0),(5,i64 i)] [(faC f).map .c]) (λi=>l.length - i) (λi=>i<=l.length/\∀ j (h:j<l.length),j<i->ltF l[j] f=true) 0 ⟨ar _,λj h h'=>absurd h' (Nat.not_lt_zero _)⟩ ?_ ?_
 .exact bT rfl (ar _) (ai _) (by simp[FL,aw]) (by simp[BL])
 rintro i ⟨hi,eX⟩ R bN b8 db;have alv:∀ es:List (List C),(V.c (.sl es)).fz=.c (.sl es):=λ_=>rfl;have tl:∀ m:List Fa,∀ x∈m.map faC,x.length=3:=λm=>GH iZ m;have post:(∀ h:i<l.length,ltF l[i] f=false)->∀ fr:Nat->V,fr 0=.c (.sl (l.map faC))->fr 3=.bp 0 0->fr 5=i64 i->R (.exit 0) ⟨fr,bxs [(faC f).map .c],1⟩:=λh2 fr f0 f3 f5=>by
  have hp:=ZS hi eX h2;have new:l[i]?≠some f->ug l f=l.take i++f::l.drop i:=λh=>by unfold ug;rw[hp,if_neg h]
  have ht:((l.map faC).take i).drop 0=(l.take i).map faC:=by rw[eZ,List.map_take]
  have hd:((l.map faC).take l.length).drop i=(l.drop i).map faC:=by rw[ey (by simp),List.map_drop]
  refine b8 _ _ ?_;simp only[zJ,seval,aj,f0,f5];refine fQ (λbF=>?_) (λfu=>?_)
  .have bF:i<l.length:=by simpa using bF
   simp only[pkA,seval,f0,f5];refine cR kD rfl jb (by decide) (aC i) (c:=faC l[i]) (by simp[bF]) rfl ?_;simp only[Jx,seval,g,gm,f3];refine aJ (λhy=>?_) (λhn=>?_)
   .have hy:l[i]=f:=by simpa using hy
    simp only[pkA,seval,f0];unfold ug;rw[hp,if_pos (by rw[ak bF,hy])];rw[Fh];rfl
   .have hn:¬ l[i]=f:=by simpa using hn
    rw[new (by rw[ak bF];simpa using hn)];simp only[pkA,seval,f0,f5];refine GB (l:=0) (h:=i) kD rfl jb rfl rfl (ar _) (by simp;omega) (tl l) ?_;rw[ht];simp only[pkA,seval,fP];refine V9 (l:=[]) (m:=l.take i) (by simp;omega) ?_;rw[fZ];simp only[Jx,seval,g,gm,f3,fP,yP];refine aa6 (l:=l.take i) (x:=f) (by simp;omega) ?_;simp only[pkA,seval,f0,f5,yP];refine GB (l:=i) (h:=l.length) kD rfl jb rfl (by rw[aj];rfl) hi (by simp) (tl l) ?_;rw[hd];simp only[pkA,seval,fP];refine V9 (l:=l.take i++[f]) (m:=l.drop i) (by simp;omega) ?_;simp only[pkA,seval,yP];rw[bU];rfl
  .have fu:¬ i<l.length:=by simpa using fu
   rw[new (by rw[cE (by omega)];simp)];simp only[pkA,seval,f0,f5];refine GB (l:=0) (h:=i) kD rfl jb rfl rfl (ar _) (by simp;omega) (tl l) ?_;rw[ht];simp only[pkA,seval,fP];refine V9 (l:=[]) (m:=l.take i) (by simp;omega) ?_;rw[fZ];simp only[Jx,seval,g,gm,f3,fP,yP];refine aa6 (l:=l.take i) (x:=f) (by simp;omega) ?_;simp only[pkA,seval,f0,f5,yP];refine GB (l:=i) (h:=l.length) kD rfl jb rfl (by rw[aj];rfl) hi (by simp) (tl l) ?_;rw[hd];simp only[pkA,seval,fP];refine V9 (l:=l.take i++[f]) (m:=l.drop i) (by simp;omega) ?_;simp only[pkA,seval,yP];rw[bU];rfl
 simp only[zJ,seval,aj];refine fQ (λbF=>?_) (λfu=>?_)
 .have bF:i<l.length:=by simpa using bF
  have hw:=dM (n:=(i:Int)+1) (k:=i+1) (by omega) (by omega);simp only[pkA,seval];refine cR kD rfl jb (by decide) (aC i) (c:=faC l[i]) (by simp[bF]) rfl ?_;simp only[Jx,seval,g,gm];refine ax rfl (Qz l[i] f) (λ_=>rfl) ?_;simp only[pkA,seval];refine aJ (λhy=>?_) (λhn=>?_)
  .simp only[pkA,seval]
   refine bN (i+1) _ ⟨bF,λj h hj=>?_⟩ (by omega) (bT rfl (ar _) (ai _) (by simp[FL,aw,hw]) (by simp[BL,bxs]));rcases cd j i with h1 | h1
   .exact eX j h h1
   .have:j=i:=by omega
    subst this;exact hy
  .simp only[pkA]
   exact post (λ_=>hn) _ rfl rfl rfl
 .have fu:¬ i<l.length:=by simpa using fu
  simp only[pkA,seval];exact post (λh=>absurd h fu) _ rfl rfl rfl
