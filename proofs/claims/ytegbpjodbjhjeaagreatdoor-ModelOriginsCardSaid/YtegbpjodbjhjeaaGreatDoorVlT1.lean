/- Layer 15, plain: sorted lists of terms; the specification's Put, Subterms, Close. -/
import Derived.Test.YtegbpjodbjhjeaaGreatDoorVlP3
import Derived.Test.YtegbpjodbjhjeaaGreatDoorVlEnv
import Derived.Test.YtegbpjodbjhjeaaGreatDoorVlTree
import Derived.Test.YtegbpjodbjhjeaaGreatDoorVlWord
set_option maxHeartbeats 2000000
set_option linter.all false
namespace Go.Proofs.YtegbpjodbjhjeaaGreatDoor
open Go Go.Vl
abbrev StT (l:List Tm):Prop:=l.Pairwise fun x y=>ltT x y=true
theorem StT.nodup {l:List Tm} (h:StT l):l.Nodup:=h.imp fun h e=>by subst e;rw[qX] at h;cases h
def sA (l:List Tm) (t:Tm):List Tm:=if t∈l then l else l.takeWhile (fun x=>ltT x t)++t::l.dropWhile (fun x=>ltT x t)
theorem Ag {l:List Tm} {t x:Tm}:x∈sA l t↔x∈l∨x=t:=by
 unfold sA
 split
 ·rename_i h
  exact⟨.inl,fun h'=>h'.elim id fun e=>e▸h⟩
 ·rw[aY,bw]
  conv=>rhs;rw[← List.takeWhile_append_dropWhile (p:=fun x=>ltT x t) (l:=l),aY]
  constructor
  ·rintro(h | h | h)
   ·exact .inl (.inl h)
   ·exact .inr h
   ·exact .inl (.inr h)
  ·rintro((h | h) | h)
   ·exact .inl h
   ·exact .inr (.inr h)
   ·exact .inr (.inl h)
theorem adr {l:List Tm} {t x:Tm} (h:x∈l.takeWhile (fun x=>ltT x t)):ltT x t=true:=by
 induction l with
 |nil=>cases h
 |cons y l ih=>
  rw[jN] at h
  split at h
  ·rename_i hy
   rcases bw.1 h with rfl | h
   ·exact hy
   ·exact ih h
  ·cases h
theorem ma {α:Type} [DecidableEq α]:∀ {l m:List α},l.Nodup→(∀ x∈l,x∈m)→l.length≤m.length
 |[],m,_,_=>au _
 |x::l,m,hn,h=>by
  rw[List.nodup_cons] at hn
  have hx:=h x (aT ..)
  have:=ma (l:=l) (m:=m.erase x) hn.2 fun y hy=>(List.mem_erase_of_ne (show y≠x from fun e=>by subst e;exact hn.1 hy)).2 (h y (aM _ hy))
  rw[List.length_erase_of_mem hx] at this
  have:=List.length_pos_of_mem hx
  rw[aB];omega
theorem JC {α:Type} [DecidableEq α] {l m:List α} (hn:l.Nodup) (h:∀ x∈l,x∈m) (hl:m.length≤l.length):∀ x∈m,x∈l:=fun x hx=>by
 by_cases hm:x∈l
 ·exact hm
 ·have:=ma (l:=x::l) (m:=m) (List.nodup_cons.2 ⟨hm,hn⟩) fun y hy=>by
   rcases bw.1 hy with rfl | hy
   ·exact hx
   ·exact h y hy
  rw[aB] at this;omega
theorem Yc {l:List Tm} (hs:StT l) {t x:Tm} (hn:t∉l) (h:x∈l.dropWhile (fun x=>ltT x t)):ltT t x=true:=by
 induction l with
 |nil=>cases h
 |cons y l ih=>
  rw[StT,gu] at hs
  rw[jO] at h
  split at h
  ·exact ih hs.2 (fun h'=>hn (aM _ h')) h
  ·rename_i hy
   have hty:ltT t y=true:=by
    cases ht:ltT t y
    ·exact absurd (Ec ht (by simpa using hy)) fun e=>hn (by rw[e];exact aT ..)
    ·rfl
   rcases bw.1 h with rfl | h
   ·exact hty
   ·exact tz hty (hs.1 x h)
theorem sB {l:List Tm} (hs:StT l) (t:Tm):StT (sA l t):=by
 unfold sA
 split
 ·exact hs
 ·rename_i hn
  rw[StT,List.pairwise_append]
  refine⟨hs.sublist (List.takeWhile_sublist _),gu.2 ⟨fun x hx=>Yc hs hn hx,hs.sublist (List.dropWhile_sublist _)⟩,fun x hx y hy=>?_⟩
  have h1:=adr hx
  rcases bw.1 hy with rfl | hy
  ·exact h1
  ·exact tz h1 (Yc hs hn hy)
def jF (l:List Tm) (ts:List Tm):List Tm:=ts.foldl sA l
theorem Ah {ts:List Tm}:∀ {l:List Tm} {x:Tm},x∈jF l ts↔x∈l∨x∈ts:=by
 induction ts with
 |nil=>intro l x;simp[jF]
 |cons t ts ih=>
  intro l x
  show x∈jF (sA l t) ts↔_
  rw[ih,Ag,bw]
  constructor
  ·rintro((h | h) | h)
   ·exact .inl h
   ·exact .inr (.inl h)
   ·exact .inr (.inr h)
  ·rintro(h | h | h)
   ·exact .inl (.inl h)
   ·exact .inl (.inr h)
   ·exact .inr h
theorem uf {ts:List Tm}:∀ {l:List Tm},StT l→StT (jF l ts):=by
 induction ts with
 |nil=>intro l h;exact h
 |cons t ts ih=>intro l h;exact ih (sB h t)
theorem pO:∀ {l m:List Tm},StT l→StT m→(∀ x,x∈l↔x∈m)→l=m
 |[],[],_,_,_=>rfl
 |[],y::m,_,_,h=>by have:=(h y).2 (aT ..);cases this
 |x::l,[],_,_,h=>by have:=(h x).1 (aT ..);cases this
 |x::l,y::m,hl,hm,h=>by
  rw[StT,gu] at hl hm
  have e:x=y:=by
   rcases bw.1 ((h x).1 (aT ..)) with e | hx
   ·exact e
   ·rcases bw.1 ((h y).2 (aT ..)) with e | hy
    ·exact e.symm
    ·have h1:=hm.1 x hx
     have h2:=hl.1 y hy
     rw[B2 h1] at h2;cases h2
  subst e
  rw[pO hl.2 hm.2 fun z=>?_]
  constructor
  ·intro hz
   rcases bw.1 ((h z).1 (aM _ hz)) with rfl | lQ
   ·have:=hl.1 z hz;rw[qX] at this;cases this
   ·exact lQ
  ·intro hz
   rcases bw.1 ((h z).2 (aM _ hz)) with rfl | lQ
   ·have:=hm.1 z hz;rw[qX] at this;cases this
   ·exact lQ
def kr (l:List Tm):List Tm:=jF [] l
theorem iW {l:List Tm} {x:Tm}:x∈kr l↔x∈l:=by unfold kr;rw[Ah];simp
theorem js (l:List Tm):StT (kr l):=uf List.Pairwise.nil
mutual
def qY:Tm→List Tm
 | .mk k n l=>o6 [.mk k n l] l
def o6 (out:List Tm):List Tm→List Tm
 |[]=>out
 |t::l=>o6 (jF out (qY t)) l
end
theorem N9 {l:List Tm} (h:∀ t∈l,StT (qY t)∧∀ x,x∈qY t↔x∈jV t):∀ {out:List Tm},StT out→StT (o6 out l)∧∀ x,x∈o6 out l↔x∈out∨x∈l7 l:=by
 induction l with
 |nil=>intro out ho;simp[o6,l7,ho]
 |cons t l ih=>
  intro out ho
  have h1:=h t (aT ..)
  obtain⟨i1,i2⟩:=ih (fun t ht=>h t (aM _ ht)) (uf (ts:=qY t) ho)
  simp only[o6]
  refine⟨i1,fun x=>?_⟩
  rw[i2,Ah,h1.2]
  simp only[l7,aY]
  constructor
  ·rintro((h | h) | h)
   ·exact .inl h
   ·exact .inr (.inl h)
   ·exact .inr (.inr h)
  ·rintro(h | h | h)
   ·exact .inl (.inl h)
   ·exact .inl (.inr h)
   ·exact .inr h
theorem So:∀ t:Tm,StT (qY t)∧∀ x,x∈qY t↔x∈jV t:=by
 refine Tm.ind fun k n l ih=>?_
 obtain⟨h1,h2⟩:=N9 ih (out:=[.mk k n l]) (List.pairwise_singleton _ _)
 simp only[qY]
 refine⟨h1,fun x=>?_⟩
 rw[h2];simp[jV]
def jW (out next:List Tm) (t:Tm):List Tm:=match t with
 | .mk k _ (a::b::_)=>if decide (k=3∨k=4)=true∧dt (inP out) a=true then sA next b else next
 |_=>next
def ln (out:List Tm):List Tm:=out.foldl (jW out) out
theorem Oa {out next:List Tm} {t x:Tm}:x∈jW out next t↔x∈next∨∃ k n a b r,t=.mk k n (a::b::r)∧(k=3∨k=4)∧dt (inP out) a=true∧x=b:=by
 unfold jW
 split
 ·rename_i k n a b r
  split
  ·rename_i h
   rw[Ag]
   simp only[bi] at h
   constructor
   ·rintro(hx | rfl)
    ·exact .inl hx
    ·exact .inr ⟨_,_,_,_,_,rfl,h.1,h.2,rfl⟩
   ·rintro(hx | ⟨k',n',a',b',r',e,hk,hb,rfl⟩)
    ·exact .inl hx
    ·cases e;exact .inr rfl
  ·rename_i h
   constructor
   ·exact .inl
   ·rintro(hx | ⟨k',n',a',b',r',e,hk,hb,rfl⟩)
    ·exact hx
    ·cases e;exact absurd ⟨by simpa using hk,hb⟩ h
 ·rename_i hn
  constructor
  ·exact .inl
  ·rintro(hx | ⟨k',n',a',b',r',e,hk,hb,rfl⟩)
   ·exact hx
   ·exact absurd e (hn _ _ _ _ _)
theorem Eh {out next:List Tm} (h:StT next) (t:Tm):StT (jW out next t):=by
 unfold jW
 split
 ·split
  ·exact sB h _
  ·exact h
 ·exact h
theorem Sp {out:List Tm}:∀ (l:List Tm) {next:List Tm},StT next→StT (l.foldl (jW out) next)∧(∀ x,x∈l.foldl (jW out) next↔x∈next∨∃ t∈l,∃ k n a b r,t=.mk k n (a::b::r)∧(k=3∨k=4)∧dt (inP out) a=true∧x=b)
 |[],next,h=>⟨h,fun x=>by simp⟩
 |t::l,next,h=>by
  obtain⟨i1,i2⟩:=Sp l (Eh (out:=out) h t)
  refine⟨i1,fun x=>?_⟩
  rw[iz,i2,Oa]
  constructor
  ·rintro((h | h) | ⟨u,hu,h⟩)
   ·exact .inl h
   ·exact .inr ⟨t,aT ..,h⟩
   ·exact .inr ⟨u,aM _ hu,h⟩
  ·rintro(h | ⟨u,hu,h⟩)
   ·exact .inl (.inl h)
   ·rcases bw.1 hu with rfl | hu
    ·exact .inl (.inr h)
    ·exact .inr ⟨u,hu,h⟩
theorem qo {out:List Tm} (h:StT out):StT (ln out)∧∀ x,x∈ln out↔x∈out∨∃ t∈out,∃ k n a b r,t=.mk k n (a::b::r)∧(k=3∨k=4)∧dt (inP out) a=true∧x=b:=Sp out h
structure yC (I out:List Tm):Prop where
 st:StT out
 item:∀ t∈I,t∈out
 kn:∀ t∈out,Kn I false t
theorem Ai (I:List Tm):yC I (kr I):=⟨js I,fun t h=>iW.2 h,fun t h=>.item (iW.1 h)⟩
theorem uL {I out:List Tm} (hv:∀ t∈I,bT t=true) (h:yC I out):yC I (ln out):=by
 obtain⟨h1,h2⟩:=qo h.st
 refine⟨h1,fun t ht=>(h2 t).2 (.inl (h.item t ht)),fun t ht=>?_⟩
 rcases(h2 t).1 ht with ht | ⟨u,hu,k,n,a,b,r,rfl,hk,hb,rfl⟩
 ·exact h.kn t ht
 ·have hku:=h.kn _ hu
  obtain⟨w,hw,ey⟩:=hku.loc rfl
  have rh:=o5 w (hv w hw) _ ey
  have hr:r=[]:=by
   have:=(fh rh).2.2.1
   rcases hk with rfl | rfl<;>simp[gi] at this<;>exact co (by omega)
  subst hr
  exact .opn hku hk (nA h.kn a hb)
theorem Sq {I out:List Tm} (h:yC I out) (he:(ln out).length=out.length):pN out:=by
 obtain⟨h1,h2⟩:=qo h.st
 intro k n a b hm hk hb
 have ey:∀ x∈out,x∈ln out:=fun x hx=>(h2 x).2 (.inl hx)
 have ae8:∀ x∈ln out,x∈out:=JC h.st.nodup ey (du he)
 exact ae8 b ((h2 b).2 (.inr ⟨_,hm,k,n,a,b,[],rfl,hk,hb,rfl⟩))
theorem Sr {I out:List Tm} (h:yC I out):out.length≤cD I:=by
 have ey:∀ x∈out,x∈l7 I:=fun x hx=>l8.2 ((h.kn x hx).loc rfl)
 have:=ma h.st.nodup ey
 have e:(l7 I).length=cD I:=by
  clear ey this h
  induction I with
  |nil=>rfl
  |cons t l ih=>simp only[l7,cD,ax,Af,ih]
 omega
theorem JD {I l m:List Tm} (hl:yC I l) (hlc:pN l) (hm:yC I m) (hmc:pN m):l=m:=
 pO hl.st hm.st fun x=>by rw[Eg hl.item hl.kn hlc,Eg hm.item hm.kn hmc]
theorem mixed:Tryz.prog.follows .mixedOrders=true:=Tryz.checked.mixed
abbrev i64 (n:Int):V:=.c (.lit (.int .i64 n))
abbrev bo (b:Bool):V:=.c (.lit (.bool b))
def cI (n:Int):C:=.lit (.int .i64 n)
mutual
def tmC:Tm→List C
 | .mk k n l=>[cI k,cI n,.sl (Ob l)]
def Ob:List Tm→List (List C)
 |[]=>[]
 |t::l=>tmC t::Ob l
end
theorem WT {l:List Tm}:Ob l=l.map tmC:=by
 induction l with
 |nil=>rfl
 |cons t l ih=>simp[Ob,ih]
def tsC (l:List Tm):C:=.sl (l.map tmC)
theorem jX (t:Tm):tmC t=[cI t.kind,cI t.n,tsC t.l]:=by cases t;simp[tmC,WT,tsC,Tm.kind,Tm.n,Tm.l]
theorem bI (t:Tm):(tmC t).length=3:=by rw[jX];rfl
section
variable {K:V→Prop} {sz:Nat}
theorem afO {t:Tm}:eB false sz 0 (tmC t) K=K (i64 t.kind):=by rw[jX];rfl
theorem afP {t:Tm}:eB false sz 1 (tmC t) K=K (i64 t.n):=by rw[jX];rfl
theorem afQ {t:Tm}:eB false sz 2 (tmC t) K=K (.c (tsC t.l)):=by rw[jX];rfl
theorem mtm {t:Tm}:cX ((tmC t).map V.c)=false:=by rw[jX];rfl
theorem stm {a b c:V} {t:Tm}:eU [a,b,c] 0 ((tmC t).map .c)=(tmC t).map .c:=by rw[jX];rfl
theorem afR {t u:Tm}:eU ((tmC u).map .c) 0 ((tmC t).map .c)=(tmC t).map .c:=by rw[jX,jX];rfl
theorem ltm {t:Tm}:((tmC t).map V.c).length=3:=by rw[ap,bI]
end
theorem ads {k n:Int} {l:List Tm}:(Tm.mk k n l).kind=k:=rfl
theorem afS {k n:Int} {l:List Tm}:(Tm.mk k n l).n=n:=rfl
theorem afT {k n:Int} {l:List Tm}:(Tm.mk k n l).l=l:=rfl
def pkT:=jj @ads (jj @afS (jj @afT (jj @bI (jj @afO (jj @afP (jj @afQ (jj @stm (jj @afR @ltm))))))))
theorem jt {m:Nat} {t:Tm}:((tmC t).map V.c).all (fun x=>x.ltB m)=true:=gd m _
variable {G:Gl}
set_option maxRecDepth 4000
theorem sC (a:Int):FnOK Tryz.prog G 98 [i64 a] (bo false):=by
 refine bP (rs:=[.tmp 2]) false [] mixed Tryz.func98 rfl rfl rfl rfl (by kernel_rfl) (by simp) rfl rfl ?_
 repeat' first
  |(simp only[pkA,seval])
  |refine jc (fun h=>?_) (fun h=>?_)
  |refine aV (fun h=>?_) (fun h=>?_)
 all_goals simp_all
theorem nB (a b:Int):FnOK Tryz.prog G 55 [i64 a,i64 b] (i64 (lL a b)):=by
 refine bP (rs:=[.tmp 4]) false [] mixed Tryz.func55 rfl rfl rfl rfl (by kernel_rfl) (by simp) rfl rfl ?_
 simp only[pkA,seval]
 refine aD rfl (sC a) (by simp[V.boxy]) ?_
 simp only[pkA,seval]
 refine aD rfl (sC b) (by simp[V.boxy]) ?_
 repeat' first
  |(simp only[pkA,seval])
  |refine jc (fun h=>?_) (fun h=>?_)
  |refine aV (fun h=>?_) (fun h=>?_)
 all_goals (simp_all[lL]<;>omega)
def orL:List Int→Int
 |[]=>0
 |x::l=>if x=0 then orL l else x
def Yd:=jj @pkA @ptA
theorem Ye (l:List Int) (hm:l.length≤9223372036854775807):FnOK Tryz.prog G 54 [.c (.sl (l.map fun y=>[cI y]))] (i64 (orL l)):=by
 refine bP (rs:=[.tmp 2]) false [] mixed Tryz.func54 rfl rfl rfl rfl (by kernel_rfl) (by simp) rfl rfl ?_
 simp only[Yd,seval]
 refine cF (fun i:Nat=>hdS [(3,i64 0),(6,.c (.sl (l.map fun y=>[cI y]))),(7,i64 l.length),(8,i64 i)] []) (fun i=>l.length - i) (fun i=>i≤l.length∧orL l=orL (l.drop i)) 0 ⟨au _,rfl⟩ ?_ ?_
 ·refine cj rfl (au _) (ae _) ?_ trivial
  simp[FL,ar]
 rintro i ⟨hi,fU⟩ R ck cG dn
 simp only[pkA,seval]
 refine aV (fun bF=>?_) (fun ga=>?_)
 ·have bF:i<l.length:=by simpa using bF
  rw[cE bF] at fU
  simp only[pkA,seval]
  refine dz Ea rfl D8 (by decide) (aI i) (c:=[cI l[i]]) (by simp[bF]) rfl ?_
  have e0:∀ K,eB false 1 0 [cI l[i]] K=K (i64 l[i]):=fun _=>rfl
  simp only[Yd,seval,e0]
  refine aV (fun hy=>?_) (fun hn=>?_)
  ·have hy:¬ l[i]=0:=by simpa using hy
   simp only[pkA,seval]
   refine dn _ ?_
   simp only[pkA,seval]
   rw[fU];simp only[orL];rw[if_neg hy]
  ·have hn:l[i]=0:=by simpa using hn
   have hw:=fa (n:=(i:Int)+1) (k:=i+1) (by omega) (by omega)
   simp only[pkA,seval]
   refine ck (i+1) _ ⟨bF,?_⟩ (by omega) (cj rfl (au _) (ae _) ?_ trivial)
   ·rw[fU];simp only[orL];rw[if_pos hn]
   ·simp[FL,ar,hw]
 ·have:i=l.length:=by simp at ga;omega
  subst this
  simp only[pkA]
  refine cG _ _ ?_
  simp only[pkA,seval]
  rw[fU];simp[orL]
theorem afU (a b c:Int):orL [a,b,c]=orJ a (orJ b c):=by
 simp only[orL,orJ]
 repeat' split
 all_goals simp_all
def ej (t:Tm):Bool:=decide (t.kind≠3)&&decide (t.kind≠4)
def Ss:=jj @pkA (jj @ptA @pkT)
theorem vR (t:Tm):FnOK Tryz.prog G 48 [.agg (tmC t)] (bo (ej t)):=by
 refine bP (rs:=[.tmp 2]) false [] mixed Tryz.func48 rfl rfl rfl rfl (by kernel_rfl) (by simp) rfl rfl ?_
 repeat' first
  |(simp only[Ss,seval])
  |refine jc (fun h=>?_) (fun h=>?_)
 all_goals simp_all[ej]
theorem fO {l:List Tm} {t:Tm} (h:t∈l):br t≤cD l:=by
 induction l with
 |nil=>cases h
 |cons u l ih=>
  simp only[cD]
  rcases bw.1 h with rfl | h
  ·omega
  ·have:=ih h;omega
theorem Oc (t:Tm):0<br t:=by cases t;simp only[br];omega
theorem jl (l:List Tm):l.length≤cD l:=by
 induction l with
 |nil=>simp
 |cons u l ih=>simp only[cD,aB];have:=Oc u;omega
theorem vS (l m:List Tm):cD (l++m)=cD l+cD m:=by
 induction l with
 |nil=>simp[cD]
 |cons u l ih=>simp only[dC,cD,ih];omega
theorem JE {l:List Tm} {i:Nat} (h:i<l.length):cD (l.take (i+1))=cD (l.take i)+br l[i]:=by
 rw[aU h,vS];simp[cD]
theorem GX (l:List Tm) (i:Nat):cD (l.take i)≤cD l:=by
 have:=vS (l.take i) (l.drop i)
 rw[dS] at this;omega
theorem Lc:∀ t:Tm,br t≤1000000000→FnOK Tryz.prog G 141 [.agg (tmC t)] (i64 (br t)):=by
 refine Tm.ind fun k n l ih hs=>?_
 have dR:cD l+1≤1000000000:=by simp only[br] at hs;omega
 have Mo:=jl l
 refine bP (rs:=[.tmp 2]) false [] mixed Tryz.func141 rfl rfl rfl rfl (by kernel_rfl) (by simp) rfl rfl ?_
 simp only[Ss,seval,tsC]
 refine cF (fun i:Nat=>hdS [(1,.bp 0 0),(3,i64 (1+cD (l.take i):Nat)),(7,.c (.sl (l.map tmC))),(8,i64 l.length),(9,i64 i)] [(tmC (.mk k n l)).map .c]) (fun i=>l.length - i) (fun i=>i≤l.length) 0 (au _) ?_ ?_
 ·exact cj (by simp only[eW,aR,bb,jt];rfl) (au _) (ae _) (by simp[FL,ar,cD]) ⟨rfl,trivial⟩
 rintro i hi R ck cG dn
 simp only[pkA,seval]
 refine aV (fun bF=>?_) (fun ga=>?_)
 ·have bF:i<l.length:=by simpa using bF
  simp only[pkA,seval]
  refine dz dq rfl di (by decide) (aI i) (c:=tmC l[i]) (by simp[bF]) (bI _) ?_
  simp only[Ss,seval,jT (bI _)]
  have hm:=fO (aF bF)
  refine aD rfl (ih l[i] (aF bF) (by omega)) (fun h=>by cases h) ?_
  have e1:=JE bF
  have e2:=GX l (i+1)
  have hw:=fa (n:=((1+cD (l.take i):Nat):Int)+(br l[i]:Int)) (k:=1+cD (l.take (i+1))) (by omega) (by omega)
  have lG:=fa (n:=(i:Int)+1) (k:=i+1) (by omega) (by omega)
  simp only[pkA,seval]
  refine ck (i+1) _ bF (by omega) (cj (by simp only[eW,aR,bb,jt];rfl) (au _) (Nat.le_succ 1) ?_ ⟨by simp[ar,bxs],trivial⟩)
  simp[FL,ar,lG,hw,-Int.natCast_add]
 ·have:i=l.length:=by simp at ga;omega
  subst this
  simp only[pkA]
  refine cG _ _ ?_
  simp only[pkA,seval]
  simp[br]
