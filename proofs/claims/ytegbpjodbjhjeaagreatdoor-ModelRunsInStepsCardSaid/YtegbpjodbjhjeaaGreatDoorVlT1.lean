/- Layer 15, plain: sorted lists of terms; the specification's Put, Subterms, Close. -/
import Derived.Test.YtegbpjodbjhjeaaGreatDoorVlP3
import Derived.Test.YtegbpjodbjhjeaaGreatDoorVlEnv
import Derived.Test.YtegbpjodbjhjeaaGreatDoorVlTree
import Derived.Test.YtegbpjodbjhjeaaGreatDoorVlWord
set_option linter.all false
namespace Go.Proofs.YtegbpjodbjhjeaaGreatDoor
open Go Go.Vl
abbrev StT (l:List Tm):Prop:=l.Pairwise fun x y=>ltT x y=true
theorem StT.nodup {l:List Tm} (h:StT l):l.Nodup:=h.imp fun h e=>by subst e;rw[pd] at h;cases h
def AY (l:List Tm) (t:Tm):List Tm:=if t∈l then l else l.takeWhile (fun x=>ltT x t)++t::l.dropWhile (fun x=>ltT x t)
theorem wM {l:List Tm} {t x:Tm}:x∈AY l t↔x∈l∨x=t:=by
 unfold AY
 split
 ·rename_i h
  exact⟨.inl,fun h'=>h'.elim id fun e=>e▸h⟩
 ·rw[bf,bw]
  conv=>rhs;rw[← List.takeWhile_append_dropWhile (p:=fun x=>ltT x t) (l:=l),bf]
  constructor
  ·rintro(h | h | h)
   ·exact .inl (.inl h)
   ·exact .inr h
   ·exact .inl (.inr h)
  ·rintro((h | h) | h)
   ·exact .inl h
   ·exact .inr (.inr h)
   ·exact .inr (.inl h)
theorem ZE {l:List Tm} {t x:Tm} (h:x∈l.takeWhile (fun x=>ltT x t)):ltT x t=true:=by
 induction l with
 |nil=>cases h
 |cons y l ih=>
  rw[List.takeWhile_cons] at h
  split at h
  ·rename_i hy
   rcases bw.1 h with rfl | h
   ·exact hy
   ·exact ih h
  ·cases h
theorem lL {α:Type} [DecidableEq α]:∀ {l m:List α},l.Nodup→(∀ x∈l,x∈m)→l.length≤m.length
 |[],m,_,_=>aA _
 |x::l,m,hn,h=>by
  rw[List.nodup_cons] at hn
  have hx:=h x (aR ..)
  have:=lL (l:=l) (m:=m.erase x) hn.2 fun y hy=>(List.mem_erase_of_ne (show y≠x from fun e=>by subst e;exact hn.1 hy)).2 (h y (aN _ hy))
  rw[List.length_erase_of_mem hx] at this
  have:=List.length_pos_of_mem hx
  rw[aC];omega
theorem FV {α:Type} [DecidableEq α] {l m:List α} (hn:l.Nodup) (h:∀ x∈l,x∈m) (hl:m.length≤l.length):∀ x∈m,x∈l:=fun x hx=>by
 by_cases hm:x∈l
 ·exact hm
 ·have:=lL (l:=x::l) (m:=m) (List.nodup_cons.2 ⟨hm,hn⟩) fun y hy=>by
   rcases bw.1 hy with rfl | hy
   ·exact hx
   ·exact h y hy
  rw[aC] at this;omega
theorem UO {l:List Tm} (hs:StT l) {t x:Tm} (hn:t∉l) (h:x∈l.dropWhile (fun x=>ltT x t)):ltT t x=true:=by
 induction l with
 |nil=>cases h
 |cons y l ih=>
  rw[StT,fG] at hs
  rw[List.dropWhile_cons] at h
  split at h
  ·exact ih hs.2 (fun h'=>hn (aN _ h')) h
  ·rename_i hy
   have hty:ltT t y=true:=by
    cases ht:ltT t y
    ·exact absurd (AU ht (by simpa using hy)) fun e=>hn (by rw[e];exact aR ..)
    ·rfl
   rcases bw.1 h with rfl | h
   ·exact hty
   ·exact qD hty (hs.1 x h)
theorem pZ {l:List Tm} (hs:StT l) (t:Tm):StT (AY l t):=by
 unfold AY
 split
 ·exact hs
 ·rename_i hn
  rw[StT,List.pairwise_append]
  refine⟨hs.sublist (List.takeWhile_sublist _),fG.2 ⟨fun x hx=>UO hs hn hx,hs.sublist (List.dropWhile_sublist _)⟩,fun x hx y hy=>?_⟩
  have h1:=ZE hx
  rcases bw.1 hy with rfl | hy
  ·exact h1
  ·exact qD h1 (UO hs hn hy)
def nZ (l:List Tm) (ts:List Tm):List Tm:=ts.foldl AY l
theorem wN {ts:List Tm}:∀ {l:List Tm} {x:Tm},x∈nZ l ts↔x∈l∨x∈ts:=by
 induction ts with
 |nil=>intro l x;simp[nZ]
 |cons t ts ih=>
  intro l x
  show x∈nZ (AY l t) ts↔_
  rw[ih,wM,bw]
  constructor
  ·rintro((h | h) | h)
   ·exact .inl h
   ·exact .inr (.inl h)
   ·exact .inr (.inr h)
  ·rintro(h | h | h)
   ·exact .inl (.inl h)
   ·exact .inl (.inr h)
   ·exact .inr h
theorem qV {ts:List Tm}:∀ {l:List Tm},StT l→StT (nZ l ts):=by
 induction ts with
 |nil=>intro l h;exact h
 |cons t ts ih=>intro l h;exact ih (pZ h t)
theorem nK:∀ {l m:List Tm},StT l→StT m→(∀ x,x∈l↔x∈m)→l=m
 |[],[],_,_,_=>rfl
 |[],y::m,_,_,h=>by have:=(h y).2 (aR ..);cases this
 |x::l,[],_,_,h=>by have:=(h x).1 (aR ..);cases this
 |x::l,y::m,hl,hm,h=>by
  rw[StT,fG] at hl hm
  have e:x=y:=by
   rcases bw.1 ((h x).1 (aR ..)) with e | hx
   ·exact e
   ·rcases bw.1 ((h y).2 (aR ..)) with e | hy
    ·exact e.symm
    ·have h1:=hm.1 x hx
     have h2:=hl.1 y hy
     rw[yN h1] at h2;cases h2
  subst e
  rw[nK hl.2 hm.2 fun z=>?_]
  constructor
  ·intro hz
   rcases bw.1 ((h z).1 (aN _ hz)) with rfl | hz'
   ·have:=hl.1 z hz;rw[pd] at this;cases this
   ·exact hz'
  ·intro hz
   rcases bw.1 ((h z).2 (aN _ hz)) with rfl | hz'
   ·have:=hm.1 z hz;rw[pd] at this;cases this
   ·exact hz'
def jP (l:List Tm):List Tm:=nZ [] l
theorem iy {l:List Tm} {x:Tm}:x∈jP l↔x∈l:=by unfold jP;rw[wN];simp
theorem jq (l:List Tm):StT (jP l):=qV List.Pairwise.nil
mutual
def pe:Tm→List Tm
 | .mk k n l=>ng [.mk k n l] l
def ng (out:List Tm):List Tm→List Tm
 |[]=>out
 |t::l=>ng (nZ out (pe t)) l
end
theorem J6 {l:List Tm} (h:∀ t∈l,StT (pe t)∧∀ x,x∈pe t↔x∈jd t):∀ {out:List Tm},StT out→StT (ng out l)∧∀ x,x∈ng out l↔x∈out∨x∈kP l:=by
 induction l with
 |nil=>intro out ho;simp[ng,kP,ho]
 |cons t l ih=>
  intro out ho
  have h1:=h t (aR ..)
  obtain⟨i1,i2⟩:=ih (fun t ht=>h t (aN _ ht)) (qV (ts:=pe t) ho)
  simp only[ng]
  refine⟨i1,fun x=>?_⟩
  rw[i2,wN,h1.2]
  simp only[kP,bf]
  constructor
  ·rintro((h | h) | h)
   ·exact .inl h
   ·exact .inr (.inl h)
   ·exact .inr (.inr h)
  ·rintro(h | h | h)
   ·exact .inl (.inl h)
   ·exact .inl (.inr h)
   ·exact .inr h
theorem OH:∀ t:Tm,StT (pe t)∧∀ x,x∈pe t↔x∈jd t:=by
 refine Tm.ind fun k n l ih=>?_
 obtain⟨h1,h2⟩:=J6 ih (out:=[.mk k n l]) (List.pairwise_singleton _ _)
 simp only[pe]
 refine⟨h1,fun x=>?_⟩
 rw[h2];simp[jd]
def wO (out next:List Tm) (t:Tm):List Tm:=match t with
 | .mk k _ (a::b::_)=>if decide (k=3∨k=4)=true∧dH (inP out) a=true then AY next b else next
 |_=>next
def pf (out:List Tm):List Tm:=out.foldl (wO out) out
theorem J7 {out next:List Tm} {t x:Tm}:x∈wO out next t↔x∈next∨∃ k n a b r,t=.mk k n (a::b::r)∧(k=3∨k=4)∧dH (inP out) a=true∧x=b:=by
 unfold wO
 split
 ·rename_i k n a b r
  split
  ·rename_i h
   rw[wM]
   simp only[bi] at h
   constructor
   ·rintro(hx | rfl)
    ·exact .inl hx
    ·exact .inr ⟨_,_,_,_,_,rfl,h.1,h.2,rfl⟩
   ·rintro(hx | ⟨k',n',a',b',r',e,hk,hb,rfl⟩)
    ·exact .inl hx
    ·cases e;exact .inr rfl
  ·rename_i h
   constructor
   ·exact .inl
   ·rintro(hx | ⟨k',n',a',b',r',e,hk,hb,rfl⟩)
    ·exact hx
    ·cases e;exact absurd ⟨by simpa using hk,hb⟩ h
 ·rename_i hn
  constructor
  ·exact .inl
  ·rintro(hx | ⟨k',n',a',b',r',e,hk,hb,rfl⟩)
   ·exact hx
   ·exact absurd e (hn _ _ _ _ _)
theorem AZ {out next:List Tm} (h:StT next) (t:Tm):StT (wO out next t):=by
 unfold wO
 split
 ·split
  ·exact pZ h _
  ·exact h
 ·exact h
theorem UP {out:List Tm}:∀ (l:List Tm) {next:List Tm},StT next→StT (l.foldl (wO out) next)∧(∀ x,x∈l.foldl (wO out) next↔x∈next∨∃ t∈l,∃ k n a b r,t=.mk k n (a::b::r)∧(k=3∨k=4)∧dH (inP out) a=true∧x=b)
 |[],next,h=>⟨h,fun x=>by simp⟩
 |t::l,next,h=>by
  obtain⟨i1,i2⟩:=UP l (AZ (out:=out) h t)
  refine⟨i1,fun x=>?_⟩
  rw[gG,i2,J7]
  constructor
  ·rintro((h | h) | ⟨u,hu,h⟩)
   ·exact .inl h
   ·exact .inr ⟨t,aR ..,h⟩
   ·exact .inr ⟨u,aN _ hu,h⟩
  ·rintro(h | ⟨u,hu,h⟩)
   ·exact .inl (.inl h)
   ·rcases bw.1 hu with rfl | hu
    ·exact .inl (.inr h)
    ·exact .inr ⟨u,hu,h⟩
theorem ub {out:List Tm} (h:StT out):StT (pf out)∧∀ x,x∈pf out↔x∈out∨∃ t∈out,∃ k n a b r,t=.mk k n (a::b::r)∧(k=3∨k=4)∧dH (inP out) a=true∧x=b:=UP out h
structure xX (I out:List Tm):Prop where
 st:StT out
 item:∀ t∈I,t∈out
 kn:∀ t∈out,Kn I false t
theorem FX (I:List Tm):xX I (jP I):=⟨jq I,fun t h=>iy.2 h,fun t h=>.item (iy.1 h)⟩
theorem FY {I out:List Tm} (hv:∀ t∈I,bR t=true) (h:xX I out):xX I (pf out):=by
 obtain⟨h1,h2⟩:=ub h.st
 refine⟨h1,fun t ht=>(h2 t).2 (.inl (h.item t ht)),fun t ht=>?_⟩
 rcases(h2 t).1 ht with ht | ⟨u,hu,k,n,a,b,r,rfl,hk,hb,rfl⟩
 ·exact h.kn t ht
 ·have hku:=h.kn _ hu
  obtain⟨w,hw,hsub⟩:=hku.loc rfl
  have hval:=nf w (hv w hw) _ hsub
  have hr:r=[]:=by
   have:=(eR hval).2.2.1
   rcases hk with rfl | rfl<;>simp[fD] at this<;>exact b9 (by omega)
  subst hr
  exact .opn hku hk (me h.kn a hb)
theorem OI {I out:List Tm} (h:xX I out) (he:(pf out).length=out.length):nJ out:=by
 obtain⟨h1,h2⟩:=ub h.st
 intro k n a b hm hk hb
 have hsub:∀ x∈out,x∈pf out:=fun x hx=>(h2 x).2 (.inl hx)
 have hback:∀ x∈pf out,x∈out:=FV h.st.nodup hsub (c9 he)
 exact hback b ((h2 b).2 (.inr ⟨_,hm,k,n,a,b,[],rfl,hk,hb,rfl⟩))
theorem OJ {I out:List Tm} (h:xX I out):out.length≤cH I:=by
 have hsub:∀ x∈out,x∈kP I:=fun x hx=>kQ.2 ((h.kn x hx).loc rfl)
 have:=lL h.st.nodup hsub
 have e:(kP I).length=cH I:=by
  clear hsub this h
  induction I with
  |nil=>rfl
  |cons t l ih=>simp only[kP,cH,aw,wL,ih]
 omega
theorem FZ {I l m:List Tm} (hl:xX I l) (hlc:nJ l) (hm:xX I m) (hmc:nJ m):l=m:=
 nK hl.st hm.st fun x=>by rw[AX hl.item hl.kn hlc,AX hm.item hm.kn hmc]
theorem mixed:Tryz.prog.follows .mixedOrders=true:=Tryz.checked.mixed
abbrev i64 (n:Int):V:=.c (.lit (.int .i64 n))
abbrev bo (b:Bool):V:=.c (.lit (.bool b))
def cI (n:Int):C:=.lit (.int .i64 n)
mutual
def tmC:Tm→List C
 | .mk k n l=>[cI k,cI n,.sl (J8 l)]
def J8:List Tm→List (List C)
 |[]=>[]
 |t::l=>tmC t::J8 l
end
theorem TR {l:List Tm}:J8 l=l.map tmC:=by
 induction l with
 |nil=>rfl
 |cons t l ih=>simp[J8,ih]
def tsC (l:List Tm):C:=.sl (l.map tmC)
theorem gA (t:Tm):tmC t=[cI t.kind,cI t.n,tsC t.l]:=by cases t;simp[tmC,TR,tsC,Tm.kind,Tm.n,Tm.l]
theorem b8 (t:Tm):(tmC t).length=3:=by rw[gA];rfl
section
variable {K:V→Prop} {sz:Nat}
theorem aaJ {t:Tm}:cU false sz 0 (tmC t) K=K (i64 t.kind):=by rw[gA];rfl
theorem aaK {t:Tm}:cU false sz 1 (tmC t) K=K (i64 t.n):=by rw[gA];rfl
theorem aaL {t:Tm}:cU false sz 2 (tmC t) K=K (.c (tsC t.l)):=by rw[gA];rfl
theorem btm {nb q o:Nat} {t:Tm}:ldB nb q ((tmC t).map .c) o K=(q<nb∧cU false 1 o (tmC t) K):=GP
theorem atm {nb q:Nat} {t:Tm}:ldA nb q ((tmC t).map .c) 0 3 K=(q<nb∧K (.agg (tmC t))):=GQ (b8 t)
theorem mtm {t:Tm}:ck ((tmC t).map V.c)=false:=by rw[gA];rfl
theorem stm {a b c:V} {t:Tm}:eF [a,b,c] 0 ((tmC t).map .c)=(tmC t).map .c:=by rw[gA];rfl
theorem aaM {t u:Tm}:eF ((tmC u).map .c) 0 ((tmC t).map .c)=(tmC t).map .c:=by rw[gA,gA];rfl
theorem ltm {t:Tm}:((tmC t).map V.c).length=3:=by rw[ap,b8]
end
theorem ZF {k n:Int} {l:List Tm}:(Tm.mk k n l).kind=k:=rfl
theorem aaN {k n:Int} {l:List Tm}:(Tm.mk k n l).n=n:=rfl
theorem aaO {k n:Int} {l:List Tm}:(Tm.mk k n l).l=l:=rfl
def pkT:=jj @ZF (jj @aaN (jj @aaO (jj @b8 (jj @aaJ (jj @aaK (jj @aaL (jj @btm (jj @atm (jj @mtm (jj @stm (jj @aaM @ltm)))))))))))
theorem mM {m:Nat} {t:Tm}:((tmC t).map V.c).all (fun x=>x.ltB m)=true:=hZ m _
variable {G:Gl}
set_option maxRecDepth 4000
theorem qa (a:Int):FnOK Tryz.prog G 98 [i64 a] (bo false):=by
 refine bP (rs:=[.tmp 2]) false [] mixed Tryz.func98 rfl rfl rfl rfl (by kernel_rfl) (by simp) rfl rfl ?_
 repeat' first
  |(simp only[pkA,seval])
  |refine jc (fun h=>?_) (fun h=>?_)
  |refine aZ (fun h=>?_) (fun h=>?_)
 all_goals simp_all
set_option maxHeartbeats 1000000 in
theorem mf (a b:Int):FnOK Tryz.prog G 55 [i64 a,i64 b] (i64 (kA a b)):=by
 refine bP (rs:=[.tmp 4]) false [] mixed Tryz.func55 rfl rfl rfl rfl (by kernel_rfl) (by simp) rfl rfl ?_
 simp only[pkA,seval]
 refine aD rfl (qa a) (by simp[V.boxy]) ?_
 simp only[pkA,seval]
 refine aD rfl (qa b) (by simp[V.boxy]) ?_
 repeat' first
  |(simp only[pkA,seval])
  |refine jc (fun h=>?_) (fun h=>?_)
  |refine aZ (fun h=>?_) (fun h=>?_)
 all_goals (simp_all[kA]<;>omega)
def orL:List Int→Int
 |[]=>0
 |x::l=>if x=0 then orL l else x
def UQ:=jj @pkA @ptA
set_option maxHeartbeats 1000000 in
theorem UR (l:List Int) (hm:l.length≤9223372036854775807):FnOK Tryz.prog G 54 [.c (.sl (l.map fun y=>[cI y]))] (i64 (orL l)):=by
 refine bP (rs:=[.tmp 2]) false [] mixed Tryz.func54 rfl rfl rfl rfl (by kernel_rfl) (by simp) rfl rfl ?_
 simp only[UQ,seval]
 refine cZ (fun i:Nat=>hdS [(3,i64 0),(6,.c (.sl (l.map fun y=>[cI y]))),(7,i64 l.length),(8,i64 i)] []) (fun i=>l.length - i) (fun i=>i≤l.length∧orL l=orL (l.drop i)) 0 ⟨aA _,rfl⟩ ?_ ?_
 ·refine cR rfl (aA _) (ae _) ?_ trivial
  simp[FL,ar]
 rintro i ⟨hi,hno⟩ R hnorm hexit hret
 simp only[pkA,seval]
 refine aZ (fun hlt=>?_) (fun hge=>?_)
 ·have hlt:i<l.length:=by simpa using hlt
  rw[cm hlt] at hno
  simp only[pkA,seval]
  refine dL t7 rfl xW (by decide) (aM i) (c:=[cI l[i]]) (by simp[hlt]) rfl ?_
  have e0:∀ K,cU false 1 0 [cI l[i]] K=K (i64 l[i]):=fun _=>rfl
  simp only[UQ,seval,e0]
  refine aZ (fun hy=>?_) (fun hn=>?_)
  ·have hy:¬ l[i]=0:=by simpa using hy
   simp only[pkA,seval]
   refine hret _ ?_
   simp only[pkA,seval]
   rw[hno];simp only[orL];rw[if_neg hy]
  ·have hn:l[i]=0:=by simpa using hn
   have hw:=fj (n:=(i:Int)+1) (k:=i+1) (by omega) (by omega)
   simp only[pkA,seval]
   refine hnorm (i+1) _ ⟨hlt,?_⟩ (by omega) (cR rfl (aA _) (ae _) ?_ trivial)
   ·rw[hno];simp only[orL];rw[if_pos hn]
   ·simp[FL,ar,hw]
 ·have:i=l.length:=by simp at hge;omega
  subst this
  simp only[pkA]
  refine hexit _ _ ?_
  simp only[pkA,seval]
  rw[hno];simp[orL]
theorem aaP (a b c:Int):orL [a,b,c]=orJ a (orJ b c):=by
 simp only[orL,orJ]
 repeat' split
 all_goals simp_all
def ey (t:Tm):Bool:=decide (t.kind≠3)&&decide (t.kind≠4)
def OK:=jj @pkA (jj @ptA @pkT)
set_option maxHeartbeats 1000000 in
theorem sN (t:Tm):FnOK Tryz.prog G 48 [.agg (tmC t)] (bo (ey t)):=by
 refine bP (rs:=[.tmp 2]) false [] mixed Tryz.func48 rfl rfl rfl rfl (by kernel_rfl) (by simp) rfl rfl ?_
 repeat' first
  |(simp only[OK,seval])
  |refine jc (fun h=>?_) (fun h=>?_)
 all_goals simp_all[ey]
theorem gq {l:List Tm} {t:Tm} (h:t∈l):bu t≤cH l:=by
 induction l with
 |nil=>cases h
 |cons u l ih=>
  simp only[cH]
  rcases bw.1 h with rfl | h
  ·omega
  ·have:=ih h;omega
theorem J9 (t:Tm):0<bu t:=by cases t;simp only[bu];omega
theorem j3 (l:List Tm):l.length≤cH l:=by
 induction l with
 |nil=>simp
 |cons u l ih=>simp only[cH,aC];have:=J9 u;omega
theorem sO (l m:List Tm):cH (l++m)=cH l+cH m:=by
 induction l with
 |nil=>simp[cH]
 |cons u l ih=>simp only[dt,cH,ih];omega
theorem F2 {l:List Tm} {i:Nat} (h:i<l.length):cH (l.take (i+1))=cH (l.take i)+bu l[i]:=by
 rw[bg h,sO];simp[cH]
theorem Dk (l:List Tm) (i:Nat):cH (l.take i)≤cH l:=by
 have:=sO (l.take i) (l.drop i)
 rw[dy] at this;omega
set_option maxHeartbeats 2000000 in
theorem G8:∀ t:Tm,bu t≤1000000000→FnOK Tryz.prog G 141 [.agg (tmC t)] (i64 (bu t)):=by
 refine Tm.ind fun k n l ih hs=>?_
 have hsz:cH l+1≤1000000000:=by simp only[bu] at hs;omega
 have hll:=j3 l
 refine bP (rs:=[.tmp 2]) false [] mixed Tryz.func141 rfl rfl rfl rfl (by kernel_rfl) (by simp) rfl rfl ?_
 simp only[OK,seval,tsC]
 refine cZ (fun i:Nat=>hdS [(1,.bp 0 0),(3,i64 (1+cH (l.take i):Nat)),(7,.c (.sl (l.map tmC))),(8,i64 l.length),(9,i64 i)] [(tmC (.mk k n l)).map .c]) (fun i=>l.length - i) (fun i=>i≤l.length) 0 (aA _) ?_ ?_
 ·exact cR (by simp only[fC,bh,bq,mM];rfl) (aA _) (ae _) (by simp[FL,ar,cH]) ⟨rfl,trivial⟩
 rintro i hi R hnorm hexit hret
 simp only[pkA,seval]
 refine aZ (fun hlt=>?_) (fun hge=>?_)
 ·have hlt:i<l.length:=by simpa using hlt
  simp only[pkA,seval]
  refine dL dm rfl dc (by decide) (aM i) (c:=tmC l[i]) (by simp[hlt]) (b8 _) ?_
  simp only[OK,seval,lw (b8 _)]
  have hm:=gq (aL hlt)
  refine aD rfl (ih l[i] (aL hlt) (by omega)) (fun h=>by cases h) ?_
  have e1:=F2 hlt
  have e2:=Dk l (i+1)
  have hw:=fj (n:=((1+cH (l.take i):Nat):Int)+(bu l[i]:Int)) (k:=1+cH (l.take (i+1))) (by omega) (by omega)
  have hw2:=fj (n:=(i:Int)+1) (k:=i+1) (by omega) (by omega)
  simp only[pkA,seval]
  refine hnorm (i+1) _ hlt (by omega) (cR (by simp only[fC,bh,bq,mM];rfl) (aA _) (Nat.le_succ 1) ?_ ⟨by simp[ar,bxs],trivial⟩)
  simp[FL,ar,hw2,hw,-Int.natCast_add]
 ·have:i=l.length:=by simp at hge;omega
  subst this
  simp only[pkA]
  refine hexit _ _ ?_
  simp only[pkA,seval]
  simp[bu]
