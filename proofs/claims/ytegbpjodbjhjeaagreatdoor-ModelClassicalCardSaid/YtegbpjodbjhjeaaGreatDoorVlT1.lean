/- Layer 15, plain: sorted lists of terms; the specification's Put, Subterms, Close. -/
import Derived.Test.YtegbpjodbjhjeaaGreatDoorVlP3
import Derived.Test.YtegbpjodbjhjeaaGreatDoorVlEnv
import Derived.Test.YtegbpjodbjhjeaaGreatDoorVlTree
import Derived.Test.YtegbpjodbjhjeaaGreatDoorVlWord
set_option linter.all false
namespace Go.Proofs.YtegbpjodbjhjeaaGreatDoor
open Go Go.Vl
abbrev StT (l:List Tm):Prop:=l.Pairwise fun x y=>ltT x y=true
theorem StT.nodup {l:List Tm} (h:StT l):l.Nodup:=h.imp fun h e=>by subst e;rw[rF] at h;cases h
def tg (l:List Tm) (t:Tm):List Tm:=if t∈l then l else l.takeWhile (fun x=>ltT x t)++t::l.dropWhile (fun x=>ltT x t)
theorem Bd {l:List Tm} {t x:Tm}:x∈tg l t↔x∈l∨x=t:=by
 unfold tg
 split
 ·rename_i h
  exact⟨.inl,fun h'=>h'.elim id fun e=>e▸h⟩
 ·rw[aZ,bu]
  conv=>rhs;rw[← List.takeWhile_append_dropWhile (p:=fun x=>ltT x t) (l:=l),aZ]
  constructor
  ·rintro(h | h | h)
   ·exact .inl (.inl h)
   ·exact .inr h
   ·exact .inl (.inr h)
  ·rintro((h | h) | h)
   ·exact .inl h
   ·exact .inr (.inr h)
   ·exact .inr (.inl h)
theorem aeB {l:List Tm} {t x:Tm} (h:x∈l.takeWhile (fun x=>ltT x t)):ltT x t=true:=by
 induction l with
 |nil=>cases h
 |cons y l ih=>
  rw[jY] at h
  split at h
  ·rename_i hy
   rcases bu.1 h with rfl | h
   ·exact hy
   ·exact ih h
  ·cases h
theorem mE {α:Type} [DecidableEq α]:∀ {l m:List α},l.Nodup→(∀ x∈l,x∈m)→l.length≤m.length
 |[],m,_,_=>ar _
 |x::l,m,hn,h=>by
  rw[List.nodup_cons] at hn
  have hx:=h x (aW ..)
  have:=mE (l:=l) (m:=m.erase x) hn.2 fun y hy=>(List.mem_erase_of_ne (show y≠x from fun e=>by subst e;exact hn.1 hy)).2 (h y (aR _ hy))
  rw[List.length_erase_of_mem hx] at this
  have:=List.length_pos_of_mem hx
  rw[aC];omega
theorem KI {α:Type} [DecidableEq α] {l m:List α} (hn:l.Nodup) (h:∀ x∈l,x∈m) (hl:m.length≤l.length):∀ x∈m,x∈l:=fun x hx=>by
 by_cases hm:x∈l
 ·exact hm
 ·have:=mE (l:=x::l) (m:=m) (List.nodup_cons.2 ⟨hm,hn⟩) fun y hy=>by
   rcases bu.1 hy with rfl | hy
   ·exact hx
   ·exact h y hy
  rw[aC] at this;omega
theorem Zr {l:List Tm} (hs:StT l) {t x:Tm} (hn:t∉l) (h:x∈l.dropWhile (fun x=>ltT x t)):ltT t x=true:=by
 induction l with
 |nil=>cases h
 |cons y l ih=>
  rw[StT,gI] at hs
  rw[jZ] at h
  split at h
  ·exact ih hs.2 (fun h'=>hn (aR _ h')) h
  ·rename_i hy
   have hty:ltT t y=true:=by
    cases ht:ltT t y
    ·exact absurd (Fe ht (by simpa using hy)) fun e=>hn (by rw[e];exact aW ..)
    ·rfl
   rcases bu.1 h with rfl | h
   ·exact hty
   ·exact uq hty (hs.1 x h)
theorem tj {l:List Tm} (hs:StT l) (t:Tm):StT (tg l t):=by
 unfold tg
 split
 ·exact hs
 ·rename_i hn
  rw[StT,List.pairwise_append]
  refine⟨hs.sublist (List.takeWhile_sublist _),gI.2 ⟨fun x hx=>Zr hs hn hx,hs.sublist (List.dropWhile_sublist _)⟩,fun x hx y hy=>?_⟩
  have h1:=aeB hx
  rcases bu.1 hy with rfl | hy
  ·exact h1
  ·exact uq h1 (Zr hs hn hy)
def jR (l:List Tm) (ts:List Tm):List Tm:=ts.foldl tg l
theorem Be {ts:List Tm}:∀ {l:List Tm} {x:Tm},x∈jR l ts↔x∈l∨x∈ts:=by
 induction ts with
 |nil=>intro l x;simp[jR]
 |cons t ts ih=>
  intro l x
  show x∈jR (tg l t) ts↔_
  rw[ih,Bd,bu]
  constructor
  ·rintro((h | h) | h)
   ·exact .inl h
   ·exact .inr (.inl h)
   ·exact .inr (.inr h)
  ·rintro(h | h | h)
   ·exact .inl (.inl h)
   ·exact .inl (.inr h)
   ·exact .inr h
theorem u4 {ts:List Tm}:∀ {l:List Tm},StT l→StT (jR l ts):=by
 induction ts with
 |nil=>intro l h;exact h
 |cons t ts ih=>intro l h;exact ih (tj h t)
theorem qh:∀ {l m:List Tm},StT l→StT m→(∀ x,x∈l↔x∈m)→l=m
 |[],[],_,_,_=>rfl
 |[],y::m,_,_,h=>by have:=(h y).2 (aW ..);cases this
 |x::l,[],_,_,h=>by have:=(h x).1 (aW ..);cases this
 |x::l,y::m,hl,hm,h=>by
  rw[StT,gI] at hl hm
  have e:x=y:=by
   rcases bu.1 ((h x).1 (aW ..)) with e | hx
   ·exact e
   ·rcases bu.1 ((h y).2 (aW ..)) with e | hy
    ·exact e.symm
    ·have h1:=hm.1 x hx
     have h2:=hl.1 y hy
     rw[C9 h1] at h2;cases h2
  subst e
  rw[qh hl.2 hm.2 fun z=>?_]
  constructor
  ·intro hz
   rcases bu.1 ((h z).1 (aR _ hz)) with rfl | me
   ·have:=hl.1 z hz;rw[rF] at this;cases this
   ·exact me
  ·intro hz
   rcases bu.1 ((h z).2 (aR _ hz)) with rfl | me
   ·have:=hm.1 z hz;rw[rF] at this;cases this
   ·exact me
def kF (l:List Tm):List Tm:=jR [] l
theorem jg {l:List Tm} {x:Tm}:x∈kF l↔x∈l:=by unfold kF;rw[Be];simp
theorem jC (l:List Tm):StT (kF l):=u4 List.Pairwise.nil
mutual
def rG:Tm→List Tm
 | .mk k n l=>pB [.mk k n l] l
def pB (out:List Tm):List Tm→List Tm
 |[]=>out
 |t::l=>pB (jR out (rG t)) l
end
theorem Pg {l:List Tm} (h:∀ t∈l,StT (rG t)∧∀ x,x∈rG t↔x∈j6 t):∀ {out:List Tm},StT out→StT (pB out l)∧∀ x,x∈pB out l↔x∈out∨x∈mA l:=by
 induction l with
 |nil=>intro out ho;simp[pB,mA,ho]
 |cons t l ih=>
  intro out ho
  have h1:=h t (aW ..)
  obtain⟨i1,i2⟩:=ih (fun t ht=>h t (aR _ ht)) (u4 (ts:=rG t) ho)
  simp only[pB]
  refine⟨i1,fun x=>?_⟩
  rw[i2,Be,h1.2]
  simp only[mA,aZ]
  constructor
  ·rintro((h | h) | h)
   ·exact .inl h
   ·exact .inr (.inl h)
   ·exact .inr (.inr h)
  ·rintro(h | h | h)
   ·exact .inl (.inl h)
   ·exact .inl (.inr h)
   ·exact .inr h
theorem TF:∀ t:Tm,StT (rG t)∧∀ x,x∈rG t↔x∈j6 t:=by
 refine Tm.ind fun k n l ih=>?_
 obtain⟨h1,h2⟩:=Pg ih (out:=[.mk k n l]) (List.pairwise_singleton _ _)
 simp only[rG]
 refine⟨h1,fun x=>?_⟩
 rw[h2];simp[j6]
def j7 (out next:List Tm) (t:Tm):List Tm:=match t with
 | .mk k _ (a::b::_)=>if decide (k=3∨k=4)=true∧dD (inP out) a=true then tg next b else next
 |_=>next
def lN (out:List Tm):List Tm:=out.foldl (j7 out) out
theorem Ph {out next:List Tm} {t x:Tm}:x∈j7 out next t↔x∈next∨∃ k n a b r,t=.mk k n (a::b::r)∧(k=3∨k=4)∧dD (inP out) a=true∧x=b:=by
 unfold j7
 split
 ·rename_i k n a b r
  split
  ·rename_i h
   rw[Bd]
   simp only[bj] at h
   constructor
   ·rintro(hx | rfl)
    ·exact .inl hx
    ·exact .inr ⟨_,_,_,_,_,rfl,h.1,h.2,rfl⟩
   ·rintro(hx | ⟨k',n',a',b',r',e,hk,hb,rfl⟩)
    ·exact .inl hx
    ·cases e;exact .inr rfl
  ·rename_i h
   constructor
   ·exact .inl
   ·rintro(hx | ⟨k',n',a',b',r',e,hk,hb,rfl⟩)
    ·exact hx
    ·cases e;exact absurd ⟨by simpa using hk,hb⟩ h
 ·rename_i hn
  constructor
  ·exact .inl
  ·rintro(hx | ⟨k',n',a',b',r',e,hk,hb,rfl⟩)
   ·exact hx
   ·exact absurd e (hn _ _ _ _ _)
theorem Fi {out next:List Tm} (h:StT next) (t:Tm):StT (j7 out next t):=by
 unfold j7
 split
 ·split
  ·exact tj h _
  ·exact h
 ·exact h
theorem TG {out:List Tm}:∀ (l:List Tm) {next:List Tm},StT next→StT (l.foldl (j7 out) next)∧(∀ x,x∈l.foldl (j7 out) next↔x∈next∨∃ t∈l,∃ k n a b r,t=.mk k n (a::b::r)∧(k=3∨k=4)∧dD (inP out) a=true∧x=b)
 |[],next,h=>⟨h,fun x=>by simp⟩
 |t::l,next,h=>by
  obtain⟨i1,i2⟩:=TG l (Fi (out:=out) h t)
  refine⟨i1,fun x=>?_⟩
  rw[iP,i2,Ph]
  constructor
  ·rintro((h | h) | ⟨u,hu,h⟩)
   ·exact .inl h
   ·exact .inr ⟨t,aW ..,h⟩
   ·exact .inr ⟨u,aR _ hu,h⟩
  ·rintro(h | ⟨u,hu,h⟩)
   ·exact .inl (.inl h)
   ·rcases bu.1 hu with rfl | hu
    ·exact .inl (.inr h)
    ·exact .inr ⟨u,hu,h⟩
theorem qM {out:List Tm} (h:StT out):StT (lN out)∧∀ x,x∈lN out↔x∈out∨∃ t∈out,∃ k n a b r,t=.mk k n (a::b::r)∧(k=3∨k=4)∧dD (inP out) a=true∧x=b:=TG out h
structure zr (I out:List Tm):Prop where
 st:StT out
 item:∀ t∈I,t∈out
 kn:∀ t∈out,Kn I false t
theorem Bf (I:List Tm):zr I (kF I):=⟨jC I,fun t h=>jg.2 h,fun t h=>.item (jg.1 h)⟩
theorem vI {I out:List Tm} (hv:∀ t∈I,bY t=true) (h:zr I out):zr I (lN out):=by
 obtain⟨h1,h2⟩:=qM h.st
 refine⟨h1,fun t ht=>(h2 t).2 (.inl (h.item t ht)),fun t ht=>?_⟩
 rcases(h2 t).1 ht with ht | ⟨u,hu,k,n,a,b,r,rfl,hk,hb,rfl⟩
 ·exact h.kn t ht
 ·have hku:=h.kn _ hu
  obtain⟨w,hw,eJ⟩:=hku.loc rfl
  have rQ:=pA w (hv w hw) _ eJ
  have hr:r=[]:=by
   have:=(fw rQ).2.2.1
   rcases hk with rfl | rfl<;>simp[gA] at this<;>exact cy (by omega)
  subst hr
  exact .opn hku hk (nW h.kn a hb)
theorem TJ {I out:List Tm} (h:zr I out) (he:(lN out).length=out.length):qg out:=by
 obtain⟨h1,h2⟩:=qM h.st
 intro k n a b hm hk hb
 have eJ:∀ x∈out,x∈lN out:=fun x hx=>(h2 x).2 (.inl hx)
 have agf:∀ x∈lN out,x∈out:=KI h.st.nodup eJ (dE he)
 exact agf b ((h2 b).2 (.inr ⟨_,hm,k,n,a,b,[],rfl,hk,hb,rfl⟩))
theorem TK {I out:List Tm} (h:zr I out):out.length≤cF I:=by
 have eJ:∀ x∈out,x∈mA I:=fun x hx=>mD.2 ((h.kn x hx).loc rfl)
 have:=mE h.st.nodup eJ
 have e:(mA I).length=cF I:=by
  clear eJ this h
  induction I with
  |nil=>rfl
  |cons t l ih=>simp only[mA,cF,ax,Bc,ih]
 omega
theorem KJ {I l m:List Tm} (hl:zr I l) (hlc:qg l) (hm:zr I m) (hmc:qg m):l=m:=
 qh hl.st hm.st fun x=>by rw[Fh hl.item hl.kn hlc,Fh hm.item hm.kn hmc]
theorem mixed:Tryz.prog.follows .mixedOrders=true:=Tryz.checked.mixed
abbrev i64 (n:Int):V:=.c (.lit (.int .i64 n))
abbrev bo (b:Bool):V:=.c (.lit (.bool b))
def cI (n:Int):C:=.lit (.int .i64 n)
mutual
def tmC:Tm→List C
 | .mk k n l=>[cI k,cI n,.sl (Pi l)]
def Pi:List Tm→List (List C)
 |[]=>[]
 |t::l=>tmC t::Pi l
end
theorem X8 {l:List Tm}:Pi l=l.map tmC:=by
 induction l with
 |nil=>rfl
 |cons t l ih=>simp[Pi,ih]
def tsC (l:List Tm):C:=.sl (l.map tmC)
theorem j8 (t:Tm):tmC t=[cI t.kind,cI t.n,tsC t.l]:=by cases t;simp[tmC,X8,tsC,Tm.kind,Tm.n,Tm.l]
theorem bG (t:Tm):(tmC t).length=3:=by rw[j8];rfl
section
variable {K:V→Prop} {sz:Nat}
theorem agX {t:Tm}:eA false sz 0 (tmC t) K=K (i64 t.kind):=by rw[j8];rfl
theorem agY {t:Tm}:eA false sz 1 (tmC t) K=K (i64 t.n):=by rw[j8];rfl
theorem agZ {t:Tm}:eA false sz 2 (tmC t) K=K (.c (tsC t.l)):=by rw[j8];rfl
theorem mtm {t:Tm}:dc ((tmC t).map V.c)=false:=by rw[j8];rfl
theorem stm {a b c:V} {t:Tm}:eU [a,b,c] 0 ((tmC t).map .c)=(tmC t).map .c:=by rw[j8];rfl
theorem ag0 {t u:Tm}:eU ((tmC u).map .c) 0 ((tmC t).map .c)=(tmC t).map .c:=by rw[j8,j8];rfl
theorem ltm {t:Tm}:((tmC t).map V.c).length=3:=by rw[am,bG]
end
theorem aeC {k n:Int} {l:List Tm}:(Tm.mk k n l).kind=k:=rfl
theorem ag1 {k n:Int} {l:List Tm}:(Tm.mk k n l).n=n:=rfl
theorem ag2 {k n:Int} {l:List Tm}:(Tm.mk k n l).l=l:=rfl
def pkT:=jj @aeC (jj @ag1 (jj @ag2 (jj @bG (jj @agX (jj @agY (jj @agZ (jj @stm (jj @ag0 @ltm))))))))
theorem jD {m:Nat} {t:Tm}:((tmC t).map V.c).all (fun x=>x.ltB m)=true:=eM m _
variable {G:Gl}
set_option maxRecDepth 4000
theorem tp (a:Int):FnOK Tryz.prog G 98 [i64 a] (bo false):=by
 refine bE (rs:=[.tmp 2]) false [] mixed Tryz.func98 rfl rfl rfl rfl (by kernel_rfl) (by simp) rfl rfl ?_
 repeat' first
  |(simp only[pkA,seval])
  |refine iK (fun h=>?_) (fun h=>?_)
  |refine aL (fun h=>?_) (fun h=>?_)
 all_goals simp_all
set_option maxHeartbeats 1000000 in
theorem nX (a b:Int):FnOK Tryz.prog G 55 [i64 a,i64 b] (i64 (l7 a b)):=by
 refine bE (rs:=[.tmp 4]) false [] mixed Tryz.func55 rfl rfl rfl rfl (by kernel_rfl) (by simp) rfl rfl ?_
 simp only[pkA,seval]
 refine ay rfl (tp a) (by simp[V.boxy]) ?_
 simp only[pkA,seval]
 refine ay rfl (tp b) (by simp[V.boxy]) ?_
 repeat' first
  |(simp only[pkA,seval])
  |refine iK (fun h=>?_) (fun h=>?_)
  |refine aL (fun h=>?_) (fun h=>?_)
 all_goals (simp_all[l7]<;>omega)
def orL:List Int→Int
 |[]=>0
 |x::l=>if x=0 then orL l else x
def Zs:=jj @pkA @ptA
set_option maxHeartbeats 1000000 in
theorem Zt (l:List Int) (hm:l.length≤9223372036854775807):FnOK Tryz.prog G 54 [.c (.sl (l.map fun y=>[cI y]))] (i64 (orL l)):=by
 refine bE (rs:=[.tmp 2]) false [] mixed Tryz.func54 rfl rfl rfl rfl (by kernel_rfl) (by simp) rfl rfl ?_
 simp only[Zs,seval]
 refine ck (fun i:Nat=>hdS [(3,i64 0),(6,.c (.sl (l.map fun y=>[cI y]))),(7,i64 l.length),(8,i64 i)] []) (fun i=>l.length - i) (fun i=>i≤l.length∧orL l=orL (l.drop i)) 0 ⟨ar _,rfl⟩ ?_ ?_
 ·refine bT rfl (ar _) (ae _) ?_ trivial
  simp[FL,au]
 rintro i ⟨hi,fm⟩ R bS cd cX
 simp only[pkA,seval]
 refine aL (fun bB=>?_) (fun fA=>?_)
 ·have bB:i<l.length:=by simpa using bB
  rw[bX bB] at fm
  simp only[pkA,seval]
  refine df Fb rfl E8 (by decide) (aD i) (c:=[cI l[i]]) (by simp[bB]) rfl ?_
  have e0:∀ K,eA false 1 0 [cI l[i]] K=K (i64 l[i]):=fun _=>rfl
  simp only[Zs,seval,e0]
  refine aL (fun hy=>?_) (fun hn=>?_)
  ·have hy:¬ l[i]=0:=by simpa using hy
   simp only[pkA,seval]
   refine cX _ ?_
   simp only[pkA,seval]
   rw[fm];simp only[orL];rw[if_neg hy]
  ·have hn:l[i]=0:=by simpa using hn
   have hw:=ei (n:=(i:Int)+1) (k:=i+1) (by omega) (by omega)
   simp only[pkA,seval]
   refine bS (i+1) _ ⟨bB,?_⟩ (by omega) (bT rfl (ar _) (ae _) ?_ trivial)
   ·rw[fm];simp only[orL];rw[if_pos hn]
   ·simp[FL,au,hw]
 ·have:i=l.length:=by simp at fA;omega
  subst this
  simp only[pkA]
  refine cd _ _ ?_
  simp only[pkA,seval]
  rw[fm];simp[orL]
theorem ag3 (a b c:Int):orL [a,b,c]=orJ a (orJ b c):=by
 simp only[orL,orJ]
 repeat' split
 all_goals simp_all
def eC (t:Tm):Bool:=decide (t.kind≠3)&&decide (t.kind≠4)
def TL:=jj @pkA (jj @ptA @pkT)
set_option maxHeartbeats 1000000 in
theorem wU (t:Tm):FnOK Tryz.prog G 48 [.agg (tmC t)] (bo (eC t)):=by
 refine bE (rs:=[.tmp 2]) false [] mixed Tryz.func48 rfl rfl rfl rfl (by kernel_rfl) (by simp) rfl rfl ?_
 repeat' first
  |(simp only[TL,seval])
  |refine iK (fun h=>?_) (fun h=>?_)
 all_goals simp_all[eC]
theorem fx {l:List Tm} {t:Tm} (h:t∈l):bq t≤cF l:=by
 induction l with
 |nil=>cases h
 |cons u l ih=>
  simp only[cF]
  rcases bu.1 h with rfl | h
  ·omega
  ·have:=ih h;omega
theorem Pj (t:Tm):0<bq t:=by cases t;simp only[bq];omega
theorem jh (l:List Tm):l.length≤cF l:=by
 induction l with
 |nil=>simp
 |cons u l ih=>simp only[cF,aC];have:=Pj u;omega
theorem wV (l m:List Tm):cF (l++m)=cF l+cF m:=by
 induction l with
 |nil=>simp[cF]
 |cons u l ih=>simp only[dK,cF,ih];omega
theorem KL {l:List Tm} {i:Nat} (h:i<l.length):cF (l.take (i+1))=cF (l.take i)+bq l[i]:=by
 rw[aQ h,wV];simp[cF]
theorem H3 (l:List Tm) (i:Nat):cF (l.take i)≤cF l:=by
 have:=wV (l.take i) (l.drop i)
 rw[d6] at this;omega
set_option maxHeartbeats 2000000 in
theorem Mr:∀ t:Tm,bq t≤1000000000→FnOK Tryz.prog G 141 [.agg (tmC t)] (i64 (bq t)):=by
 refine Tm.ind fun k n l ih hs=>?_
 have dZ:cF l+1≤1000000000:=by simp only[bq] at hs;omega
 have LG:=jh l
 refine bE (rs:=[.tmp 2]) false [] mixed Tryz.func141 rfl rfl rfl rfl (by kernel_rfl) (by simp) rfl rfl ?_
 simp only[TL,seval,tsC]
 refine ck (fun i:Nat=>hdS [(1,.bp 0 0),(3,i64 (1+cF (l.take i):Nat)),(7,.c (.sl (l.map tmC))),(8,i64 l.length),(9,i64 i)] [(tmC (.mk k n l)).map .c]) (fun i=>l.length - i) (fun i=>i≤l.length) 0 (ar _) ?_ ?_
 ·exact bT (by simp only[eQ,aN,aX,jD];rfl) (ar _) (ae _) (by simp[FL,au,cF]) ⟨rfl,trivial⟩
 rintro i hi R bS cd cX
 simp only[pkA,seval]
 refine aL (fun bB=>?_) (fun fA=>?_)
 ·have bB:i<l.length:=by simpa using bB
  simp only[pkA,seval]
  refine df du rfl dl (by decide) (aD i) (c:=tmC l[i]) (by simp[bB]) (bG _) ?_
  simp only[TL,seval,jA (bG _)]
  have hm:=fx (aF bB)
  refine ay rfl (ih l[i] (aF bB) (by omega)) (fun h=>by cases h) ?_
  have e1:=KL bB
  have e2:=H3 l (i+1)
  have hw:=ei (n:=((1+cF (l.take i):Nat):Int)+(bq l[i]:Int)) (k:=1+cF (l.take (i+1))) (by omega) (by omega)
  have ll:=ei (n:=(i:Int)+1) (k:=i+1) (by omega) (by omega)
  simp only[pkA,seval]
  refine bS (i+1) _ bB (by omega) (bT (by simp only[eQ,aN,aX,jD];rfl) (ar _) (Nat.le_succ 1) ?_ ⟨by simp[au,bxs],trivial⟩)
  simp[FL,au,ll,hw,-Int.natCast_add]
 ·have:i=l.length:=by simp at fA;omega
  subst this
  simp only[pkA]
  refine cd _ _ ?_
  simp only[pkA,seval]
  simp[bq]
