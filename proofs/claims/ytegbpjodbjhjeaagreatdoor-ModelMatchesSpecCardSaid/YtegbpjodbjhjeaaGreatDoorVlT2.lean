/- Layer 15, plain: sorted lists of terms; the specification's Put, Subterms, Close. -/
import Derived.Test.YtegbpjodbjhjeaaGreatDoorVlP3
import Derived.Test.YtegbpjodbjhjeaaGreatDoorVlEnv
import Derived.Test.YtegbpjodbjhjeaaGreatDoorVlTree
import Derived.Test.YtegbpjodbjhjeaaGreatDoorVlWord
set_option maxHeartbeats 2000000
set_option linter.all false
namespace Go.Proofs.YtegbpjodbjhjeaaGreatDoor
open Go Go.Vl
abbrev StT (l:List Tm):Prop:=l.Pairwise λx y=>ltT x y=true
theorem StT.nodup {l:List Tm} (h:StT l):l.Nodup:=h.imp λh e=>by subst e;rw[rP] at h;cases h
def tO (l:List Tm) (t:Tm):List Tm:=if t∈l then l else l.takeWhile (λx=>ltT x t)++t::l.dropWhile (λx=>ltT x t)
theorem BI {l:List Tm} {t x:Tm}:x∈tO l t↔x∈l∨x=t:=by
 unfold tO;split
 .rename_i h
  exact⟨.inl,λh'=>h'.elim id λe=>e▸h⟩
 .rw[bh,bI]
  conv=>rhs;rw[<- List.takeWhile_append_dropWhile (p:=λx=>ltT x t) (l:=l),bh]
  constructor
  .rintro(h | h | h)
   .exact .inl (.inl h)
   .exact .inr h
   .exact .inl (.inr h)
  .rintro((h | h) | h)
   .exact .inl h
   .exact .inr (.inr h)
   .exact .inr (.inl h)
theorem af1 {l:List Tm} {t x:Tm} (h:x∈l.takeWhile (λx=>ltT x t)):ltT x t=true:=by
 induction l with
 |nil=>cases h
 |cons y l ih=>
  rw[jS] at h;split at h
  .rename_i hy
   rcases bI.1 h with rfl | h
   .exact hy
   .exact ih h
  .cases h
theorem mF {α:Type} [DecidableEq α]:∀ {l m:List α},l.Nodup->(∀ x∈l,x∈m)->l.length<=m.length
 |[],m,_,_=>ar _
 |x::l,m,hn,h=>by rw[List.nodup_cons] at hn;have hx:=h x (aX ..);have:=mF (l:=l) (m:=m.erase x) hn.2 λy hy=>(List.mem_erase_of_ne (show y≠x from λe=>by subst e;exact hn.1 hy)).2 (h y (aT _ hy));rw[List.length_erase_of_mem hx] at this;have:=List.length_pos_of_mem hx;rw[aI];omega
theorem Ll {α:Type} [DecidableEq α] {l m:List α} (hn:l.Nodup) (h:∀ x∈l,x∈m) (hl:m.length<=l.length):∀ x∈m,x∈l:=λx hx=>by
 by_cases hm:x∈l
 .exact hm
 .have:=mF (l:=x::l) (m:=m) (List.nodup_cons.2 ⟨hm,hn⟩) λy hy=>by
   rcases bI.1 hy with rfl | hy
   .exact hx
   .exact h y hy
  rw[aI] at this;omega
theorem aau {l:List Tm} (hs:StT l) {t x:Tm} (hn:t∉l) (h:x∈l.dropWhile (λx=>ltT x t)):ltT t x=true:=by
 induction l with
 |nil=>cases h
 |cons y l ih=>
  rw[StT,f8] at hs;rw[jT] at h;split at h
  .exact ih hs.2 (λh'=>hn (aT _ h')) h
  .rename_i hy
   have hty:ltT t y=true:=by
    cases ht:ltT t y
    .exact absurd (FP ht (by simpa using hy)) λe=>hn (by rw[e];exact aX ..)
    .rfl
   rcases bI.1 h with rfl | h
   .exact hty
   .exact uI hty (hs.1 x h)
theorem tP {l:List Tm} (hs:StT l) (t:Tm):StT (tO l t):=by
 unfold tO;split
 .exact hs
 .rename_i hn
  rw[StT,List.pairwise_append];refine⟨hs.sublist (List.takeWhile_sublist _),f8.2 ⟨λx hx=>aau hs hn hx,hs.sublist (List.dropWhile_sublist _)⟩,λx hx y hy=>?_⟩;have h1:=af1 hx;rcases bI.1 hy with rfl | hy
  .exact h1
  .exact uI h1 (aau hs hn hy)
def jK (l:List Tm) (ts:List Tm):List Tm:=ts.foldl tO l
theorem BJ {ts:List Tm}:∀ {l:List Tm} {x:Tm},x∈jK l ts↔x∈l∨x∈ts:=by
 induction ts with
 |nil=>intro l x;simp[jK]
 |cons t ts ih=>
  intro l x;show x∈jK (tO l t) ts↔_;rw[ih,BI,bI];constructor
  .rintro((h | h) | h)
   .exact .inl h
   .exact .inr (.inl h)
   .exact .inr (.inr h)
  .rintro(h | h | h)
   .exact .inl (.inl h)
   .exact .inl (.inr h)
   .exact .inr h
theorem vj {ts:List Tm}:∀ {l:List Tm},StT l->StT (jK l ts):=by
 induction ts with
 |nil=>intro l h;exact h
 |cons t ts ih=>intro l h;exact ih (tP h t)
theorem qi:∀ {l m:List Tm},StT l->StT m->(∀ x,x∈l↔x∈m)->l=m
 |[],[],_,_,_=>rfl
 |[],y::m,_,_,h=>by have:=(h y).2 (aX ..);cases this
 |x::l,[],_,_,h=>by have:=(h x).1 (aX ..);cases this
 |x::l,y::m,hl,hm,h=>by
  rw[StT,f8] at hl hm;have e:x=y:=by
   rcases bI.1 ((h x).1 (aX ..)) with e | hx
   .exact e
   .rcases bI.1 ((h y).2 (aX ..)) with e | hy
    .exact e.symm
    .have h1:=hm.1 x hx
     have h2:=hl.1 y hy;rw[Dy h1] at h2;cases h2
  subst e;rw[qi hl.2 hm.2 λz=>?_];constructor
  .intro hz
   rcases bI.1 ((h z).1 (aT _ hz)) with rfl | pd
   .have:=hl.1 z hz;rw[rP] at this;cases this
   .exact pd
  .intro hz
   rcases bI.1 ((h z).2 (aT _ hz)) with rfl | pd
   .have:=hm.1 z hz;rw[rP] at this;cases this
   .exact pd
def kE (l:List Tm):List Tm:=jK [] l
theorem jg {l:List Tm} {x:Tm}:x∈kE l↔x∈l:=by unfold kE;rw[BJ];simp
theorem jz (l:List Tm):StT (kE l):=vj List.Pairwise.nil
mutual
def rQ:Tm->List Tm
 | .mk k n l=>pE [.mk k n l] l
def pE (out:List Tm):List Tm->List Tm
 |[]=>out
 |t::l=>pE (jK out (rQ t)) l
end
theorem PT {l:List Tm} (h:∀ t∈l,StT (rQ t)/\∀ x,x∈rQ t↔x∈j0 t):∀ {out:List Tm},StT out->StT (pE out l)/\∀ x,x∈pE out l↔x∈out∨x∈mD l:=by
 induction l with
 |nil=>intro out ho;simp[pE,mD,ho]
 |cons t l ih=>
  intro out ho;have h1:=h t (aX ..);obtain⟨i1,i2⟩:=ih (λt ht=>h t (aT _ ht)) (vj (ts:=rQ t) ho);simp only[pE];refine⟨i1,λx=>?_⟩;rw[i2,BJ,h1.2];simp only[mD,bh];constructor
  .rintro((h | h) | h)
   .exact .inl h
   .exact .inr (.inl h)
   .exact .inr (.inr h)
  .rintro(h | h | h)
   .exact .inl (.inl h)
   .exact .inl (.inr h)
   .exact .inr h
theorem Uz:∀ t:Tm,StT (rQ t)/\∀ x,x∈rQ t↔x∈j0 t:=by refine Tm.ind λk n l ih=>?_;obtain⟨h1,h2⟩:=PT ih (out:=[.mk k n l]) (List.pairwise_singleton _ _);simp only[rQ];refine⟨h1,λx=>?_⟩;rw[h2];simp[j0]
def j3 (out next:List Tm) (t:Tm):List Tm:=match t with
 | .mk k _ (a::b::_)=>if decide (k=3∨k=4)=true/\dH (inP out) a=true then tO next b else next
 |_=>next
def lO (out:List Tm):List Tm:=out.foldl (j3 out) out
theorem PU {out next:List Tm} {t x:Tm}:x∈j3 out next t↔x∈next∨∃ k n a b r,t=.mk k n (a::b::r)/\(k=3∨k=4)/\dH (inP out) a=true/\x=b:=by
 unfold j3;split
 .rename_i k n a b r
  split
  .rename_i h
   rw[BI];simp only[br] at h;constructor
   .rintro(hx | rfl)
    .exact .inl hx
    .exact .inr ⟨_,_,_,_,_,rfl,h.1,h.2,rfl⟩
   .rintro(hx | ⟨k',n',a',b',r',e,hk,hb,rfl⟩)
    .exact .inl hx
    .cases e;exact .inr rfl
  .rename_i h
   constructor
   .exact .inl
   .rintro(hx | ⟨k',n',a',b',r',e,hk,hb,rfl⟩)
    .exact hx
    .cases e;exact absurd ⟨by simpa using hk,hb⟩ h
 .rename_i hn
  constructor
  .exact .inl
  .rintro(hx | ⟨k',n',a',b',r',e,hk,hb,rfl⟩)
   .exact hx
   .exact absurd e (hn _ _ _ _ _)
theorem FT {out next:List Tm} (h:StT next) (t:Tm):StT (j3 out next t):=by
 unfold j3;split
 .split
  .exact tP h _
  .exact h
 .exact h
theorem UA {out:List Tm}:∀ (l:List Tm) {next:List Tm},StT next->StT (l.foldl (j3 out) next)/\(∀ x,x∈l.foldl (j3 out) next↔x∈next∨∃ t∈l,∃ k n a b r,t=.mk k n (a::b::r)/\(k=3∨k=4)/\dH (inP out) a=true/\x=b)
 |[],next,h=>⟨h,λx=>by simp⟩
 |t::l,next,h=>by
  obtain⟨i1,i2⟩:=UA l (FT (out:=out) h t);refine⟨i1,λx=>?_⟩;rw[fY,i2,PU];constructor
  .rintro((h | h) | ⟨u,hu,h⟩)
   .exact .inl h
   .exact .inr ⟨t,aX ..,h⟩
   .exact .inr ⟨u,aT _ hu,h⟩
  .rintro(h | ⟨u,hu,h⟩)
   .exact .inl (.inl h)
   .rcases bI.1 hu with rfl | hu
    .exact .inl (.inr h)
    .exact .inr ⟨u,hu,h⟩
theorem qV {out:List Tm} (h:StT out):StT (lO out)/\∀ x,x∈lO out↔x∈out∨∃ t∈out,∃ k n a b r,t=.mk k n (a::b::r)/\(k=3∨k=4)/\dH (inP out) a=true/\x=b:=UA out h
structure Aa (I out:List Tm):Prop where
 st:StT out
 item:∀ t∈I,t∈out
 kn:∀ t∈out,Kn I false t
theorem BK (I:List Tm):Aa I (kE I):=⟨jz I,λt h=>jg.2 h,λt h=>.item (jg.1 h)⟩
theorem vT {I out:List Tm} (hv:∀ t∈I,bW t=true) (h:Aa I out):Aa I (lO out):=by
 obtain⟨h1,h2⟩:=qV h.st;refine⟨h1,λt ht=>(h2 t).2 (.inl (h.item t ht)),λt ht=>?_⟩;rcases(h2 t).1 ht with ht | ⟨u,hu,k,n,a,b,r,rfl,hk,hb,rfl⟩
 .exact h.kn t ht
 .have hku:=h.kn _ hu
  obtain⟨w,hw,eF⟩:=hku.loc rfl;have we:=pD w (hv w hw) _ eF;have hr:r=[]:=by
   have:=(fe we).2.2.1;rcases hk with rfl | rfl<;>simp[gR] at this<;>exact cQ (by omega)
  subst hr;exact .opn hku hk (oe h.kn a hb)
theorem UB {I out:List Tm} (h:Aa I out) (he:(lO out).length=out.length):qh out:=by obtain⟨h1,h2⟩:=qV h.st;intro k n a b hm hk hb;have eF:∀ x∈out,x∈lO out:=λx hx=>(h2 x).2 (.inl hx);have ahK:∀ x∈lO out,x∈out:=Ll h.st.nodup eF (Nat.le_of_eq he);exact ahK b ((h2 b).2 (.inr ⟨_,hm,k,n,a,b,[],rfl,hk,hb,rfl⟩))
theorem UC {I out:List Tm} (h:Aa I out):out.length<=cz I:=by
 have eF:∀ x∈out,x∈mD I:=λx hx=>mE.2 ((h.kn x hx).loc rfl);have:=mF h.st.nodup eF;have e:(mD I).length=cz I:=by
  clear eF this h;induction I with
  |nil=>rfl
  |cons t l ih=>simp only[mD,cz,aB,BH,ih]
 omega
theorem Lm {I l m:List Tm} (hl:Aa I l) (hlc:qh l) (hm:Aa I m) (hmc:qh m):l=m:=
 qi hl.st hm.st λx=>by rw[FS hl.item hl.kn hlc,FS hm.item hm.kn hmc]
theorem mixed:Tryz.prog.follows .mixedOrders=true:=Tryz.checked.mixed
abbrev i64 (n:Int):V:=.c (.lit (.int .i64 n))
abbrev bo (b:Bool):V:=.c (.lit (.bool b))
def cI (n:Int):C:=.lit (.int .i64 n)
mutual
def tmC:Tm->List C
 | .mk k n l=>[cI k,cI n,.sl (PV l)]
def PV:List Tm->List (List C)
 |[]=>[]
 |t::l=>tmC t::PV l
end
theorem Y7 {l:List Tm}:PV l=l.map tmC:=by
 induction l with
 |nil=>rfl
 |cons t l ih=>simp[PV,ih]
def tsC (l:List Tm):C:=.sl (l.map tmC)
theorem fx (t:Tm):tmC t=[cI t.kind,cI t.n,tsC t.l]:=by cases t;simp[tmC,Y7,tsC,Tm.kind,Tm.n,Tm.l]
theorem bG (t:Tm):(tmC t).length=3:=by rw[fx];rfl
section
variable {K:V->Prop} {sz:Nat}
theorem aiq {t:Tm}:dZ false sz 0 (tmC t) K=K (i64 t.kind):=by rw[fx];rfl
theorem air {t:Tm}:dZ false sz 1 (tmC t) K=K (i64 t.n):=by rw[fx];rfl
theorem ais {t:Tm}:dZ false sz 2 (tmC t) K=K (.c (tsC t.l)):=by rw[fx];rfl
theorem mtm {t:Tm}:dE ((tmC t).map V.c)=false:=by rw[fx];rfl
theorem stm {a b c:V} {t:Tm}:fW [a,b,c] 0 ((tmC t).map .c)=(tmC t).map .c:=by rw[fx];rfl
theorem ait {t u:Tm}:fW ((tmC u).map .c) 0 ((tmC t).map .c)=(tmC t).map .c:=by rw[fx,fx];rfl
theorem ltm {t:Tm}:((tmC t).map V.c).length=3:=by rw[aj,bG]
end
theorem af2 {k n:Int} {l:List Tm}:(Tm.mk k n l).kind=k:=rfl
theorem aiu {k n:Int} {l:List Tm}:(Tm.mk k n l).n=n:=rfl
theorem aiv {k n:Int} {l:List Tm}:(Tm.mk k n l).l=l:=rfl
def pkT:=jj @af2 (jj @aiu (jj @aiv (jj @bG (jj @aiq (jj @air (jj @ais (jj @stm (jj @ait @ltm))))))))
theorem iY {m:Nat} {t:Tm}:((tmC t).map V.c).all (λx=>x.ltB m)=true:=fa m _
variable {G:Gl}
set_option maxRecDepth 4000
theorem tQ (a:Int):FnOK Tryz.prog G 98 [i64 a] (bo false):=by
 refine bD (rs:=[.tmp 2]) false [] mixed Tryz.func98 rfl rfl rfl rfl (by kernel_rfl) (by simp) rfl rfl ?_
 repeat' first
  |(simp only[pkA,seval])
  |refine fQ (λh=>?_) (λh=>?_)
  |refine aJ (λh=>?_) (λh=>?_)
 all_goals simp_all
theorem og (a b:Int):FnOK Tryz.prog G 55 [i64 a,i64 b] (i64 (me a b)):=by
 refine bD (rs:=[.tmp 4]) false [] mixed Tryz.func55 rfl rfl rfl rfl (by kernel_rfl) (by simp) rfl rfl ?_;simp only[pkA,seval];refine ax rfl (tQ a) (by simp[V.boxy]) ?_;simp only[pkA,seval];refine ax rfl (tQ b) (by simp[V.boxy]) ?_
 repeat' first
  |(simp only[pkA,seval])
  |refine fQ (λh=>?_) (λh=>?_)
  |refine aJ (λh=>?_) (λh=>?_)
 all_goals (simp_all[me]<;>omega)
def orL:List Int->Int
 |[]=>0
 |x::l=>if x=0 then orL l else x
def Iy:=jj @pkA @ptA
theorem aav (l:List Int) (hm:l.length<=9223372036854775807):FnOK Tryz.prog G 54 [.c (.sl (l.map λy=>[cI y]))] (i64 (orL l)):=by
 refine bD (rs:=[.tmp 2]) false [] mixed Tryz.func54 rfl rfl rfl rfl (by kernel_rfl) (by simp) rfl rfl ?_;simp only[Iy,seval];refine cm (λi:Nat=>hdS [(3,i64 0),(6,.c (.sl (l.map λy=>[cI y]))),(7,i64 l.length),(8,i64 i)] []) (λi=>l.length - i) (λi=>i<=l.length/\orL l=orL (l.drop i)) 0 ⟨ar _,rfl⟩ ?_ ?_
 .refine bT rfl (ar _) (ai _) ?_ trivial
  simp[FL,aw]
 rintro i ⟨hi,eX⟩ R bN b8 db;simp only[pkA,seval];refine aJ (λbF=>?_) (λfu=>?_)
 .have bF:i<l.length:=by simpa using bF
  rw[cw bF] at eX;simp only[pkA,seval];refine cR FN rfl FK (by decide) (aC i) (c:=[cI l[i]]) (by simp[bF]) rfl ?_;have e0:∀ K,dZ false 1 0 [cI l[i]] K=K (i64 l[i]):=λ_=>rfl;simp only[Iy,seval,e0];refine aJ (λhy=>?_) (λhn=>?_)
  .have hy:¬ l[i]=0:=by simpa using hy
   simp only[pkA,seval];refine db _ ?_;simp only[pkA,seval];rw[eX];simp only[orL];rw[if_neg hy]
  .have hn:l[i]=0:=by simpa using hn
   have hw:=dM (n:=(i:Int)+1) (k:=i+1) (by omega) (by omega);simp only[pkA,seval];refine bN (i+1) _ ⟨bF,?_⟩ (by omega) (bT rfl (ar _) (ai _) ?_ trivial)
   .rw[eX];simp only[orL];rw[if_pos hn]
   .simp[FL,aw,hw]
 .have:i=l.length:=by simp at fu;omega
  subst this;simp only[pkA];refine b8 _ _ ?_;simp only[pkA,seval];rw[eX];simp[orL]
theorem aiw (a b c:Int):orL [a,b,c]=orJ a (orJ b c):=by
 simp only[orL,orJ]
 repeat' split
 all_goals simp_all
def dF (t:Tm):Bool:=decide (t.kind≠3)&&decide (t.kind≠4)
def tR:=jj @pkA (jj @ptA @pkT)
theorem xd (t:Tm):FnOK Tryz.prog G 48 [.agg (tmC t)] (bo (dF t)):=by
 refine bD (rs:=[.tmp 2]) false [] mixed Tryz.func48 rfl rfl rfl rfl (by kernel_rfl) (by simp) rfl rfl ?_
 repeat' first
  |(simp only[tR,seval])
  |refine fQ (λh=>?_) (λh=>?_)
 all_goals simp_all[dF]
theorem PW (t:Tm):FnOK Tryz.prog G 59 [.agg (tmC t)] (bo (decide (t.kind=1∨t.kind=2∨t.kind=5∨t.kind=6))):=by
 refine bD (rs:=[.tmp 2]) false [] mixed Tryz.func59 rfl rfl rfl rfl (by kernel_rfl) (by simp) rfl rfl ?_
 repeat' first
  |(simp only[tR,seval])
  |refine fQ (λh=>?_) (λh=>?_)
 all_goals simp_all
theorem fE {l:List Tm} {t:Tm} (h:t∈l):bi t<=cz l:=by
 induction l with
 |nil=>cases h
 |cons u l ih=>
  simp only[cz];rcases bI.1 h with rfl | h
  .omega
  .have:=ih h;omega
theorem PX (t:Tm):0<bi t:=by cases t;simp only[bi];omega
theorem iG (l:List Tm):l.length<=cz l:=by
 induction l with
 |nil=>simp
 |cons u l ih=>simp only[cz,aI];have:=PX u;omega
theorem xe (l m:List Tm):cz (l++m)=cz l+cz m:=by
 induction l with
 |nil=>simp[cz]
 |cons u l ih=>simp only[dP,cz,ih];omega
theorem BM {l:List Tm} {i:Nat} (h:i<l.length):cz (l.take (i+1))=cz (l.take i)+bi l[i]:=by rw[aR h,xe];simp[cz]
theorem BN (l:List Tm) (i:Nat):cz (l.take i)<=cz l:=by have:=xe (l.take i) (l.drop i);rw[dQ] at this;omega
theorem MY:∀ t:Tm,bi t<=1000000000->FnOK Tryz.prog G 141 [.agg (tmC t)] (i64 (bi t)):=by
 refine Tm.ind λk n l ih hs=>?_;have ej:cz l+1<=1000000000:=by simp only[bi] at hs;omega
 have JU:=iG l;refine bD (rs:=[.tmp 2]) false [] mixed Tryz.func141 rfl rfl rfl rfl (by kernel_rfl) (by simp) rfl rfl ?_;simp only[tR,seval,tsC];refine cm (λi:Nat=>hdS [(1,.bp 0 0),(3,i64 (1+cz (l.take i):Nat)),(7,.c (.sl (l.map tmC))),(8,i64 l.length),(9,i64 i)] [(tmC (.mk k n l)).map .c]) (λi=>l.length - i) (λi=>i<=l.length) 0 (ar _) ?_ ?_
 .exact bT (by simp only[eu,aK,aQ,iY];rfl) (ar _) (ai _) (by simp[FL,aw,cz]) ⟨rfl,trivial⟩
 rintro i hi R bN b8 db;simp only[pkA,seval];refine aJ (λbF=>?_) (λfu=>?_)
 .have bF:i<l.length:=by simpa using bF
  simp only[pkA,seval];refine cR dc rfl cV (by decide) (aC i) (c:=tmC l[i]) (by simp[bF]) (bG _) ?_;simp only[tR,seval,jr (bG _)];have hm:=fE (aH bF);refine ax rfl (ih l[i] (aH bF) (by omega)) (λh=>by cases h) ?_;have e1:=BM bF;have e2:=BN l (i+1);have hw:=dM (n:=((1+cz (l.take i):Nat):Int)+(bi l[i]:Int)) (k:=1+cz (l.take (i+1))) (by omega) (by omega);have sW:=dM (n:=(i:Int)+1) (k:=i+1) (by omega) (by omega);simp only[pkA,seval];refine bN (i+1) _ bF (by omega) (bT (by simp only[eu,aK,aQ,iY];rfl) (ar _) (Nat.le_succ 1) ?_ ⟨by simp[aw,bxs],trivial⟩);simp[FL,aw,sW,hw,-Int.natCast_add]
 .have:i=l.length:=by simp at fu;omega
  subst this;simp only[pkA];refine b8 _ _ ?_;simp only[pkA,seval];simp[bi]
theorem Iz:∀ t:Tm,bi t<=1000000000->FnOK Tryz.prog G 40 [.agg (tmC t)] (i64 (bi t)):=by
 refine Tm.ind λk n l ih hs=>?_;have ej:cz l+1<=1000000000:=by simp only[bi] at hs;omega
 have JU:=iG l;refine bD (rs:=[.tmp 2]) false [] mixed Tryz.func40 rfl rfl rfl rfl (by kernel_rfl) (by simp) rfl rfl ?_;simp only[pkA,seval];refine cm (λi:Nat=>hdS [(1,.bp 0 0),(3,i64 (1+cz (l.take i):Nat)),(4,i64 i)] [(tmC (.mk k n l)).map .c]) (λi=>l.length - i) (λi=>i<=l.length) 0 (ar _) ?_ ?_
 .exact bT (by simp only[eu,aK,aQ,iY];rfl) (ar _) (ai _) (by simp[FL,aw,cz]) ⟨rfl,trivial⟩
 rintro i hi R bN b8 db;simp only[tR,seval,tsC];refine aJ (λbF=>?_) (λfu=>?_)
 .have bF:i<l.length:=by simpa using bF
  simp only[tR,seval,tsC];refine cR dc rfl cV (by decide) (aC i) (c:=tmC l[i]) (by simp[bF]) (bG _) ?_;simp only[pkA,seval,jr (bG _)];have hm:=fE (aH bF);refine ax rfl (ih l[i] (aH bF) (by omega)) (λh=>by cases h) ?_;have e1:=BM bF;have e2:=BN l (i+1);have hw:=dM (n:=((1+cz (l.take i):Nat):Int)+(bi l[i]:Int)) (k:=1+cz (l.take (i+1))) (by omega) (by omega);have sW:=dM (n:=(i:Int)+1) (k:=i+1) (by omega) (by omega);simp only[pkA,seval];refine bN (i+1) _ bF (by omega) (bT (by simp only[eu,aK,aQ,iY];rfl) (ar _) (ai 1) ?_ ⟨by simp[bxs],trivial⟩);simp[FL,aw,sW,hw,-Int.natCast_add]
 .have:i=l.length:=by simp[] at fu;omega
  subst this;simp only[pkA];refine b8 _ _ ?_;simp only[pkA,seval];simp[bi]
theorem Dz {l m:List Tm} {i:Nat} (h1:i<l.length) (h2:i<m.length):mf (l.drop i) (m.drop i)=orJ (jJ l[i] m[i]) (mf (l.drop (i+1)) (m.drop (i+1))):=by rw[cw h1,cw h2];rfl
theorem IA {l m:List Tm}:mf (l.drop m.length) []=if m.length<l.length then 1 else 0:=by
 rcases cd m.length l.length with h | h
 .rw[cw h,if_pos h];rfl
 .rw[List.drop_eq_nil_of_le h,if_neg (by omega)];rfl
theorem yG {m:List Tm}:mf [] m=if 0<m.length then -1 else 0:=by cases m<;>simp[mf]
theorem BO (l m:List Tm) (hl:l.length<=1000000000) (hm:m.length<=1000000000) (ih:∀ t∈l,∀ u∈m,FnOK Tryz.prog G 91 [.agg (tmC t),.agg (tmC u)] (i64 (jJ t u))) :
 FnOK Tryz.prog G 121 [.c (tsC l),.c (tsC m),.c (.fn (.func 91) [] [])] (i64 (mf l m)):=by
 refine bD (rs:=[.tmp 6]) false [] mixed Tryz.func121 rfl rfl rfl rfl (by kernel_rfl) (by simp) rfl rfl ?_;simp only[Iy,seval,tsC];refine cm (λi:Nat=>hdS [(0,.c (.sl (l.map tmC))),(1,.c (.sl (m.map tmC))),(2,.c (.fn (.func 91) [] [])),(11,.c (.sl (l.map tmC))),(12,i64 l.length),(13,i64 i)] []) (λi=>l.length - i) (λi=>i<=l.length/\i<=m.length/\mf l m=mf (l.drop i) (m.drop i)) 0 ⟨ar _,ar _,rfl⟩ ?_ ?_
 .exact bT rfl (ar _) (ai _) (by simp[FL,aw]) trivial
 rintro i ⟨hi,him,he⟩ R bN b8 db;simp only[pkA,seval];refine aJ (λbF=>?_) (λfu=>?_)
 .have bF:i<l.length:=by simpa using bF
  simp only[pkA,seval];refine cR dc rfl cV (by decide) (aC i) (c:=tmC l[i]) (by simp[bF]) (bG _) ?_;simp only[tR,seval,jr (bG _)];refine aJ (λfu=>?_) (λsP=>?_)
  .have hml:i=m.length:=by simp at fu;omega
   simp only[pkA,seval];refine db _ ?_;simp only[pkA,seval];have:m.drop i=[]:=List.drop_eq_nil_of_le (by omega);rw[he,this,hml,IA,if_pos (by omega)]
  .have sP:i<m.length:=by simp at sP;omega
   simp only[pkA,seval];refine cR dc rfl cV (by decide) (aC i) (c:=tmC m[i]) (by simp[sP]) (bG _) ?_;simp only[tR,seval,jr (bG _)];refine ax rfl (ih l[i] (aH bF) m[i] (aH sP)) (λh=>by cases h) ?_;have e1:=Dz bF sP;have sW:=dM (n:=(i:Int)+1) (k:=i+1) (by omega) (by omega);simp only[pkA,seval];refine aJ (λgu=>?_) (λkL=>?_)
   .have gu:¬ jJ l[i] m[i]=0:=by simpa using gu
    simp only[pkA,seval];refine db _ ?_;simp only[pkA,seval];rw[he,e1,orJ,if_neg gu]
   .have kL:jJ l[i] m[i]=0:=by simpa using kL
    simp only[pkA,seval];refine bN (i+1) _ ⟨bF,sP,?_⟩ (by omega) (bT rfl (ar _) (ar _) ?_ trivial)
    .rw[he,e1,orJ,if_pos kL]
    .simp[FL,aw,sW]
 .have:i=l.length:=by simp at fu;omega
  subst this;simp only[pkA];refine b8 _ _ ?_;simp only[Iy,seval];have e0:l.drop l.length=[]:=gd;refine aJ (λbF=>?_) (λfu=>?_)
  .have bF:l.length<m.length:=by simpa using bF
   simp only[pkA,seval];rw[he,e0,yG,if_pos (by simp;omega)]
  .have fu:¬ l.length<m.length:=by simpa using fu
   simp only[pkA,seval];rw[he,e0,yG,if_neg (by simp;omega)]
theorem vU:∀ t u:Tm,bi t<=1000000000->bi u<=1000000000->FnOK Tryz.prog G 91 [.agg (tmC t),.agg (tmC u)] (i64 (jJ t u)):=by
 refine Tm.ind λk n l ih=>?_;intro u hs hu;obtain⟨k',n',l'⟩:=u;have ej:cz l+1<=1000000000:=by simp only[bi] at hs;omega
 have fB:cz l'+1<=1000000000:=by simp only[bi] at hu;omega
 have JU:=iG l;have akA:=iG l';refine bD (rs:=[.tmp 4]) false [] mixed Tryz.func91 rfl rfl rfl rfl (by kernel_rfl) (by simp) rfl rfl ?_;simp only[tR,seval];refine ax rfl (og _ _) (λ_=>rfl) ?_;simp only[tR,seval];refine ax rfl (og _ _) (λ_=>rfl) ?_;simp only[tR,seval];refine ax rfl (BO l l' (by omega) (by omega) (λt ht u hu=>ih t ht u (by have:=fE ht;omega) (by have:=fE hu;omega))) (λ_=>rfl) ?_;simp only[Iy,seval];refine ax rfl (aav [me k k',me n n',mf l l'] (by simp)) (λ_=>rfl) ?_;simp only[pkA,seval];rw[aiw];rfl
