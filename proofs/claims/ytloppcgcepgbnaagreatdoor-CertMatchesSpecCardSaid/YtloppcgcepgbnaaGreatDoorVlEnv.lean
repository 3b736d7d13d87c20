/- Values without memory: a round of a loop over a function: its contract, from the loop's text. -/
import Derived.Test.YtloppcgcepgbnaaGreatDoorVlRunB
set_option linter.all false
namespace Go.Vl
open Go Go.RowKit
section
variable {P:Program} {G:Gl} {tr:List Nat} {n:Nat} {I0:Ft} {M:Mx} {w0:World} {I:Ft} {β:Nat->Option Nat} {ob:Loc->Option Nat} {s:S} {a:Act} {w:World} {base:Nat->Prop} {v:Value} {x:V}
theorem KR.toLR (h:KR I β w v x):LR base I β w none v x:=by
 rcases h with rfl | ⟨h1,h2⟩ | h
 .simp only[LR];exact .un _
 .exact .ofDR h2
 .exact h.toLR
def frY (fl:List (Nat×V)) (ps:List Tmp) (xs:List V):Nat->V:=(ps.zip xs).foldl (λf p=>up f p.1 p.2) (frs fl)
def Cm (L:Loop):VE->Loop
 | .normal=>{ L with state:=.ready,pending:=none }
 | .exit i=>{ L with state:=.done,pending:=some (.exit i) }
 | .ret=>{ L with state:=.done,pending:=some .ret }
def afI:VE->Bool
 | .normal=>true
 |_=>false
def WH (k:Nat) (r:V) (b1:List (List V)) (e:VE) (s:S):Prop:=
 r=.c (.lit (.bool (afI e)))/\∃ L fl gs,(s.bx 0=.lp L fl::gs/\0<s.nb)/\∃ l,S.Le k (hdS l b1) { s with bx:=up s.bx 0 (.lp (Cm L e) fl::gs) }
def Pv (k:Nat) (R:V->List (List V)->Prop) (e:VE) (s:S):Prop:=∃ r b1,R r b1/\WH k r b1 e s
theorem Px:∀ (fl:List (Nat×V)) (t:Nat),frs fl t=.un∨(t,frs fl t)∈fl
 |[],t=>.inl rfl
 |(i,x)::r,t=>by
  by_cases h:t=i
  .subst h;right;simp[frs]
  .rcases Px r t with h1 | h1
   .left;simp[frs,ah,h,h1]
   .right;simp[frs,ah,h,h1]
theorem WI:∀ (ps:List Tmp) (xs:List V) (us:List Value) (f:Nat->V) (tm:Array Value),ps.length=xs.length->us.length=xs.length->(∀ p∈ps,p<tm.size)->
 (∀ j x,xs[j]?=some x->LR base I β w none (us.getD j undef) x)->(∀ t,LR base I β w none (tm.getD t undef) (f t))->
 (∀ t,LR base I β w none (((ps.zip us).foldl (λtm (p:Tmp×Value)=>tm.setIfInBounds p.1 p.2) tm).getD t undef) ((ps.zip xs).foldl (λf (p:Tmp×V)=>up f p.1 p.2) f t))/\
  ((ps.zip us).foldl (λtm (p:Tmp×Value)=>tm.setIfInBounds p.1 p.2) tm).size=tm.size
 |[],_,_,f,tm,_,_,_,_,hf=>⟨hf,rfl⟩
 |p::ps,[],_,_,_,h,_,_,_,_=>by simp at h
 |p::ps,x::xs,[],_,_,_,h,_,_,_=>by simp at h
 |p::ps,x::xs,u::us,f,tm,h1,h2,h3,h4,hf=>by
  have hx:LR base I β w none u x:=h4 0 x rfl;have hp:p<tm.size:=h3 p (bJ ..);obtain⟨q1,q2⟩:=WI ps xs us (up f p x) (tm.setIfInBounds p u) (by simpa using h1) (by simpa using h2) (λq hq=>by rw[dy];exact h3 q (aT _ hq))
   (λj y hy=>by simpa using h4 (j+1) y (by simpa using hy)) (λt=>by
    by_cases ht:t=p
    .subst ht;rw[cg,mj _ _ _ hp];exact hx
    .rw[cP _ _ ht,getD_set_ne _ _ _ _ ht];exact hf t)
  exact⟨q1,by rw[List.zip_cons_cons,dT,q2,dy]⟩
theorem St.initF {ob:Nat->Nat->Option Nat} {tm:Array Value} {fr:Nat->V} {b0:List (List V)} (hI:∀ b o,I b o->b<w.heap.size) (hg:GOK G I w) (hB:BxR (Wr M w) I w β ob b0) (fO:tm.size=n)
 (sO:∀ t,LR (Wr M w) I β w none (tm.getD t undef) (fr t)):St G n I ⟨M.m,β,[]⟩ w I β (obB ob) ⟨fr,bxs b0,b0.length⟩ { tmps:=tm,defers:=[] } w:=by
 have h0:St G ((#[]:Array Value)++Array.replicate (0 - (#[]:Array Value).size) undef).size I ⟨M.m,β,[]⟩ w I β (obB ob) ⟨λj=>([]:List V).getD j .un,bxs b0,b0.length⟩ { tmps:=#[]++Array.replicate (0 - (#[]:Array Value).size) undef,defers:=[] } w:=
  St.initB (n:=0) (vs:=#[]) (args:=[]) hI hg hB rfl (by simp) rfl
 exact {
  size:=fO,defers:=rfl,below:=h0.below,ilow:=h0.ilow,kept:=h0.kept,ihigh:=h0.ihigh,ibnd:=h0.ibnd
  fr:=λt=>by simp only[obB];exact sO t
  bx:=h0.bx,bnone:=h0.bnone,ext:=h0.ext,bnew:=h0.bnew,binj:=h0.binj,oinj:=h0.oinj,obx:=h0.obx,obnd:=h0.obnd,glob:=h0.glob }
theorem aed {L:Loop} {fl:List (Nat×V)} {gs:List V} {xs:List V} {bs:List (List V)} {R:V->List (List V)->Prop} (tr:List Nat) (hm:P.follows .mixedOrders=true) (aiB:L.state=.ready) (vG:L.params.toList.length=xs.length)
 (LJ:∀ p∈L.params.toList,p<L.defers) (ZY:cok L.defers tr L.assign=true) (ZZ:cok L.defers tr L.body=true)
 (UP:(∀ x∈xs,x.lt (bs.length+1))/\(∀ b∈(V.lp L fl::gs)::bs,∀ x∈b,x.lt (bs.length+1))/\∀ r b1,R r b1->bs.length+1<=b1.length)
 (h:hZ P G tr (bs.length+1) L.assign (λe s=>e=.normal/\(s.bx 0=.lp L fl::gs/\0<s.nb)/\hZ P G tr (bs.length+1) L.body (Pv (bs.length+1) R) { s with bx:=up s.bx 0 (.lp { L with state:=.busy } fl::gs) })
  ⟨frY fl L.params.toList xs,bxs ((V.lp L fl::gs)::bs),bs.length+1⟩) (QB:Gp tr=false:=by rfl):YE P G xs ((V.lp L fl::gs)::bs) R:=by
 refine⟨UP,λI M w vs β ob l hI hg hB hβ0 fO ha=>?_⟩;obtain⟨blk,cur,e1,e2,e3,e4,e5,e7⟩:=hB.bx 0 _ rfl;rw[hβ0] at e1;cases e1;obtain⟨f,tm,d,⟨h3,qq⟩,mg,rfl⟩:∃ (f:FuncId) (tm:Array Value) (d:Nat),(w.heap[l]?=some (.loop { L with fn:=f,tmps:=tm,defers:=d })/\tm.size=L.defers)/\∃ m:Nat,cur=#[Value.tuple tm]++Array.replicate m undef:=e3
 have lu:∀ t x,(t,x)∈fl->KR I β w (tm.getD t undef) x:=by
  have:=e5 0;have h5:LR (Wr M w) I β w (ob 0 0) (.tuple tm) (.lp L fl):=by have e:(#[Value.tuple tm]++Array.replicate mg undef).getD 0 undef=.tuple tm:=(by simp[Array.getD]);rw[e] at this;exact this
  simp only[LR] at h5;obtain⟨tm',e,h6⟩:=h5;cases e;exact h6
 have hy:=run_yield (P:=P) (args:=vs) h3 (by rw[fO];simpa using vG.symm);have anD:(L.params.zip vs).foldl (λtmps (x:Tmp×Value)=>tmps.setIfInBounds x.1 x.2) tm=(L.params.toList.zip vs.toList).foldl (λtm (p:Tmp×Value)=>tm.setIfInBounds p.1 p.2) tm:=by rw[<- Array.foldl_toList,Array.toList_zip]
 obtain⟨sO,jK⟩:=WI (base:=Wr M w) (I:=I) (β:=β) (w:=w) L.params.toList xs vs.toList (frs fl) tm vG (by simpa using fO) (λp hp=>by rw[qq];exact LJ p hp) (λj x hx=>by
  have:=ha j x hx;rw[aB,aQ,<- ak];exact this)
  (λt=>by
   rcases Px fl t with h1 | h1
   .rw[h1];simp only[LR];exact .un _
   .exact(lu t _ h1).toLR)
 have hst:=St.initF (n:=L.defers) hI hg hB (jK.trans qq) sO;have A0:∀ i b,β i=some b->i<bs.length+1:=λi b hi=>by
  by_cases h:i<bs.length+1
  .exact h
  .rw[hB.bnone i (by simp;omega)] at hi;cases hi
 refine⟨f,_,L.assign,L.body,hy,roundIn_of_wpIn (F:=Fence.wide) trivial ?_⟩;have alE:(Array.foldl (λtmps x=>match x with | (t,a)=>tmps.setIfInBounds t a) tm (L.params.zip vs))=(L.params.toList.zip vs.toList).foldl (λtm (p:Tmp×Value)=>tm.setIfInBounds p.1 p.2) tm:=anD
 show L.assign.wpIn (FW (some l)) 0 P _ { tmps:=Array.foldl (λtmps x=>match x with | (t,a)=>tmps.setIfInBounds t a) tm (L.params.zip vs),defers:=[] } w
 rw[alE];refine np (l:=some l) (m:=0) hm (λi b hi=>A0 i b hi) (.inr QB) L.assign ZY _ _ (λe s1 a1 w1 hq dD=>?_) _ _ _ h (.of ⟨_,_,_,hst⟩);obtain⟨rfl,⟨uJ,alF⟩,hq⟩:=hq;obtain⟨I1,β1,ob1,nZ⟩:=dD.se QB;have As:β1 0=some l:=nZ.ext 0 l hβ0;obtain⟨blk,cur,g1,g2,g3,g4,g5,g7⟩:=nZ.bx 0 alF;rw[As] at g1;cases g1;rw[uJ] at g3 g5;rw[uJ] at g4;obtain⟨f1,tm1,d1,⟨k3,kts⟩,mg1,rfl⟩:∃ (f:FuncId) (tm:Array Value) (d:Nat),(w1.heap[l]?=some (.loop { L with fn:=f,tmps:=tm,defers:=d })/\tm.size=L.defers)/\∃ m:Nat,cur=#[Value.tuple tm]++Array.replicate m undef:=g3
 refine⟨_,run_beginRound k3 aiB,?_⟩;have n0:=nZ.reBox (o:=.loop { { L with fn:=f1,tmps:=tm1,defers:=d1 } with state:=.busy }) (l:=.lp { L with state:=.busy } fl::gs) (cur:=#[Value.tuple tm1]++Array.replicate mg1 undef) (od:=λj=>ob1 (.b 0 j)) alF As
  ⟨f1,tm1,d1,⟨om (bf.1 k3).1,kts⟩,mg1,rfl⟩ g4 (λj=>by
   have:=g5 j;cases j with
   |zero=>exact this
   |succ j=>exact this) (λj b hb=>hb)
 refine np (l:=some l) (m:=0) hm (λi b hi=>A0 i b hi) (.inr QB) L.body ZZ _ _ (λe s3 a3 w3 hq dD=>?_) _ _ _ hq (.of ⟨_,_,_,n0⟩);obtain⟨r,b1,hR,rfl,L',fl',gs',⟨alG,alH⟩,lf,ko⟩:=hq;obtain⟨I3,β3,ob3,tC⟩:=dD.se QB;have hl3:β3 0=some l:=tC.ext 0 l hβ0;obtain⟨blk,cur,g1,g2,g3,g4,g5,g7⟩:=tC.bx 0 alH;rw[hl3] at g1;cases g1;rw[alG] at g3 g5;rw[alG] at g4;obtain⟨f3,tm3,d3,⟨k3,kts⟩,mg3,rfl⟩:∃ (f:FuncId) (tm:Array Value) (d:Nat),(w3.heap[l]?=some (.loop { L' with fn:=f,tmps:=tm,defers:=d })/\tm.size=L'.defers)/\∃ m:Nat,cur=#[Value.tuple tm]++Array.replicate m undef:=g3
 have fin:∀ (jump:Option Code) (L3:Loop),L3={ Cm L' e with fn:=f3,tmps:=tm3,defers:=d3 }->(Cm L' e).defers=L'.defers->∃ I' β' ob' o',BelowM (GT G) M w (World.putObj w3 l (.loop L3))/\(∀ b o,I b o->I' b o)/\(∀ b o,I' b o->I b o∨(Wr M w b/\b<(World.putObj w3 l (.loop L3)).heap.size))/\
  (∀ b o,I b o->(World.putObj w3 l (.loop L3)).cell? ⟨b,o,none⟩=w.cell? ⟨b,o,none⟩)/\(∀ i,i<((V.lp L fl::gs)::bs).length->β' i=β i)/\(∀ i b,((V.lp L fl::gs)::bs).length<=i->β' i=some b->Wr M w b)/\BxR (Wr M w) I' (World.putObj w3 l (.loop L3)) β' ob' b1/\
  LR (Wr M w) I' β' (World.putObj w3 l (.loop L3)) o' (.bool (afI e)) (.c (.lit (.bool (afI e))))/\(∀ b,o'=some b->(b<(World.putObj w3 l (.loop L3)).heap.size/\Wr M w b)/\(∀ i j,ob' i j≠some b)/\∀ i,β' i≠some b):=by
  intro jump L3 hL3 hyd;have anE:=tC.reBox (o:=.loop L3) (l:=.lp (Cm L' e) fl'::gs') (cur:=#[Value.tuple tm3]++Array.replicate mg3 undef) (od:=λj=>ob3 (.b 0 j)) alH hl3
   ⟨f3,tm3,d3,⟨by rw[hL3];exact om (bf.1 k3).1,by rw[hyd];exact kts⟩,mg3,rfl⟩ g4 (λj=>by
    have:=g5 j;cases j with
    |zero=>exact this
    |succ j=>exact this) (λj b hb=>hb)
  obtain⟨I',β',ob',cO⟩:=(SE.weaken (G:=G) ⟨_,_,_,anE⟩ (λi b hi=>A0 i b hi) ko);have w9:∀ i,i<((V.lp L fl::gs)::bs).length->β' i=β i:=λi hi=>by obtain⟨blk,_,e1,_⟩:=hB.bx i _ (ai hi);rw[e1];exact cO.ext i blk e1
  refine⟨I',β',λi j=>if i<b1.length then ob' (.b i j) else none,none,⟨cO.below.os,cO.below.tape,cO.below.output,cO.below.size,cO.below.block,cO.below.drawn⟩,cO.ilow,λb o Gi=>?_,cO.kept,w9,λi b hi hb=>?_,?_,.ofLit rfl,λb hb=>by cases hb⟩
  .rcases cO.ihigh b o Gi with h4 | h4
   .exact .inl h4
   .exact .inr ⟨h4,cO.ibnd b o Gi⟩
  .rcases cO.bnew i b hb with h4 | h4
   .have:=A0 i b h4;simp at hi;omega
   .exact h4
  .exact {
    bx:=λi cs jf=>by have hi:i<b1.length:=(aj.1 jf).1;obtain⟨blk,cur,e1,e2,e3,e4,e5,e7⟩:=cO.bx i hi;have e:bxs b1 i=cs:=(by simp[bxs,List.getD,jf]);refine⟨blk,cur,e1,e2,by simp only[hdS,e] at e3;exact e3,by simp only[hdS,e] at e4;exact e4,λj=>?_,e7⟩;have:=e5 j;simp only[hdS,e] at this;rw[if_pos hi];exact this
    bnone:=λi hi=>cO.bnone i hi
    binj:=cO.binj
    oinj:=λi j i' j' b h h'=>by
     split at h<;>try cases h
     split at h'<;>try cases h'
     have:=cO.oinj _ _ b h h';simp only[Loc.b.injEq] at this;exact this
    obx:=λi j b k h=>by
     split at h<;>try cases h
     exact cO.obx _ b k h
    obnd:=λi j b h=>by
     split at h<;>try cases h
     exact cO.obnd _ b h
    olen:=λi j hi=>by rw[if_neg (by omega)] }
 cases e with
 |normal=>obtain⟨I',β',ob',o',q⟩:=fin none _ rfl rfl;exact⟨_,_,run_endRound none k3,_,b1,hR,_,I',β',ob',o',rfl,q⟩
 |exit i=>obtain⟨I',β',ob',o',q⟩:=fin (some (.exit i)) _ rfl rfl;exact⟨_,_,run_endRound (some (.exit i)) k3,_,b1,hR,_,I',β',ob',o',rfl,q⟩
 |ret=>obtain⟨I',β',ob',o',q⟩:=fin (some .ret) _ rfl rfl;exact⟨_,_,run_endRound (some .ret) k3,_,b1,hR,_,I',β',ob',o',rfl,q⟩
theorem ajA {L:Loop} {fl:List (Nat×V)} {xs:List V} {bs b1:List (List V)} {r:V} (tr:List Nat) (hm:P.follows .mixedOrders=true) (aiB:L.state=.ready) (vG:L.params.toList.length=xs.length)
 (LJ:∀ p∈L.params.toList,p<L.defers) (ZY:cok L.defers tr L.assign=true) (ZZ:cok L.defers tr L.body=true)
 (UP:(∀ x∈xs,x.lt (bs.length+1))/\(∀ b∈[V.lp L fl]::bs,∀ x∈b,x.lt (bs.length+1))/\bs.length+1<=b1.length)
 (h:hZ P G tr (bs.length+1) L.assign (λe s=>e=.normal/\(s.bx 0=[.lp L fl]/\0<s.nb)/\hZ P G tr (bs.length+1) L.body (WH (bs.length+1) r b1) { s with bx:=up s.bx 0 [.lp { L with state:=.busy } fl] })
  ⟨frY fl L.params.toList xs,bxs ([V.lp L fl]::bs),bs.length+1⟩) (QB:Gp tr=false:=by rfl):YB P G xs ([V.lp L fl]::bs) r b1:=by
 have e:Pv (bs.length+1) (λr' b'=>r'=r/\b'=b1)=WH (bs.length+1) r b1:=by funext e s;exact propext ⟨λ⟨_,_,⟨h1,h2⟩,h3⟩=>by rw[h1,h2] at h3;exact h3,λh=>⟨_,_,⟨rfl,rfl⟩,h⟩⟩
 refine (aed (gs:=[]) tr hm aiB vG LJ ZY ZZ ⟨UP.1,UP.2.1,λ_ _ e=>by rw[e.2];exact UP.2.2⟩ (by rw[e];exact h) QB).toB UP.2.2
end
def kx (k j:Nat):Nat:=k+j
section
variable {k:Nat} {Y:List (List V)}
theorem ajB {i j:Nat}:(kx k i=kx k j)=(i=j):=by simp[kx]
theorem l0 {i j:Nat}:(kx k i<kx k j)=(i<j):=by simp[kx]
theorem fw {i:Nat}:kx k i+1=kx k (i+1):=rfl
theorem nR (h:Y.length=k) {ls:List (List V)} {j:Nat}:bxs (Y++ls) (kx k j)=bxs ls j:=by subst h;simp only[bxs,kx,aB];rw[aH (by omega)];congr 2;omega
theorem Py (h:Y.length=k) {ls:List (List V)} {j:Nat} (hj:j<k):bxs (Y++ls) j=bxs Y j:=by subst h;simp only[bxs,aB];rw[aA hj]
theorem kp (h:Y.length=k) {ls l2:List (List V)} {j:Nat} {c:List V} (h2:∀ i,bxs l2 i=if i=j then c else bxs ls i):up (bxs (Y++ls)) (kx k j) c=bxs (Y++l2):=by
 funext i;rw[ah];by_cases hi:i<k
 .rw[if_neg (by simp only[kx];omega),Py h hi,Py h hi]
 .obtain⟨d,rfl⟩:∃ d,i=kx k d:=⟨i - k,by simp only[kx];omega⟩
  rw[nR h,nR h,h2];simp only[ajB]
theorem bk0 (h:Y.length=k) {a:List V} {l:List (List V)}:bxs (Y++a::l) (kx k 0)=a:=by rw[nR h];rfl
theorem bk1 (h:Y.length=k) {a b:List V} {l:List (List V)}:bxs (Y++a::b::l) (kx k 1)=b:=by rw[nR h];rfl
theorem bk2 (h:Y.length=k) {a b c:List V} {l:List (List V)}:bxs (Y++a::b::c::l) (kx k 2)=c:=by rw[nR h];rfl
theorem bk3 (h:Y.length=k) {a b c d:List V} {l:List (List V)}:bxs (Y++a::b::c::d::l) (kx k 3)=d:=by rw[nR h];rfl
theorem bk4 (h:Y.length=k) {a b c d e:List V} {l:List (List V)}:bxs (Y++a::b::c::d::e::l) (kx k 4)=e:=by rw[nR h];rfl
theorem bk5 (h:Y.length=k) {a b c d e f:List V} {l:List (List V)}:bxs (Y++a::b::c::d::e::f::l) (kx k 5)=f:=by rw[nR h];rfl
theorem uk0 (h:Y.length=k) {a x:List V} {l:List (List V)}:up (bxs (Y++a::l)) (kx k 0) x=bxs (Y++x::l):=kp h λi=>by
 match i with | 0=>rfl | i+1=>simp[bxs]
theorem uk1 (h:Y.length=k) {a b x:List V} {l:List (List V)}:up (bxs (Y++a::b::l)) (kx k 1) x=bxs (Y++a::x::l):=kp h λi=>by
 match i with | 0=>rfl | 1=>rfl | i+2=>simp[bxs]
theorem uk2 (h:Y.length=k) {a b c x:List V} {l:List (List V)}:up (bxs (Y++a::b::c::l)) (kx k 2) x=bxs (Y++a::b::x::l):=kp h λi=>by
 match i with | 0=>rfl | 1=>rfl | 2=>rfl | i+3=>simp[bxs]
theorem uk3 (h:Y.length=k) {a b c d x:List V} {l:List (List V)}:up (bxs (Y++a::b::c::d::l)) (kx k 3) x=bxs (Y++a::b::c::x::l):=kp h λi=>by
 match i with | 0=>rfl | 1=>rfl | 2=>rfl | 3=>rfl | i+4=>simp[bxs]
theorem uk4 (h:Y.length=k) {a b c d e x:List V} {l:List (List V)}:up (bxs (Y++a::b::c::d::e::l)) (kx k 4) x=bxs (Y++a::b::c::d::x::l):=kp h λi=>by
 match i with | 0=>rfl | 1=>rfl | 2=>rfl | 3=>rfl | 4=>rfl | i+5=>simp[bxs]
theorem uk5 (h:Y.length=k) {a b c d e f x:List V} {l:List (List V)}:up (bxs (Y++a::b::c::d::e::f::l)) (kx k 5) x=bxs (Y++a::b::c::d::e::x::l):=kp h λi=>by
 match i with | 0=>rfl | 1=>rfl | 2=>rfl | 3=>rfl | 4=>rfl | 5=>rfl | i+6=>simp[bxs]
theorem nk0 (h:Y.length=k) {x:List V}:up (bxs Y) (kx k 0) x=bxs (Y++[x]):=by
 have:=kp (ls:=[]) (l2:=[x]) (j:=0) (c:=x) h λi=>by
  match i with | 0=>rfl | i+1=>simp[bxs]
 rwa [br] at this
theorem nk1 (h:Y.length=k) {a x:List V}:up (bxs (Y++[a])) (kx k 1) x=bxs (Y++[a,x]):=kp h λi=>by
 match i with | 0=>rfl | 1=>rfl | i+2=>simp[bxs]
theorem nk2 (h:Y.length=k) {a b x:List V}:up (bxs (Y++[a,b])) (kx k 2) x=bxs (Y++[a,b,x]):=kp h λi=>by
 match i with | 0=>rfl | 1=>rfl | 2=>rfl | i+3=>simp[bxs]
theorem nk3 (h:Y.length=k) {a b c x:List V}:up (bxs (Y++[a,b,c])) (kx k 3) x=bxs (Y++[a,b,c,x]):=kp h λi=>by
 match i with | 0=>rfl | 1=>rfl | 2=>rfl | 3=>rfl | i+4=>simp[bxs]
theorem nk4 (h:Y.length=k) {a b c d x:List V}:up (bxs (Y++[a,b,c,d])) (kx k 4) x=bxs (Y++[a,b,c,d,x]):=kp h λi=>by
 match i with | 0=>rfl | 1=>rfl | 2=>rfl | 3=>rfl | 4=>rfl | i+5=>simp[bxs]
theorem nk5 (h:Y.length=k) {a b c d e x:List V}:up (bxs (Y++[a,b,c,d,e])) (kx k 5) x=bxs (Y++[a,b,c,d,e,x]):=kp h λi=>by
 match i with | 0=>rfl | 1=>rfl | 2=>rfl | 3=>rfl | 4=>rfl | 5=>rfl | i+6=>simp[bxs]
theorem bk6 (hY:Y.length=k) {a b c d e f g:List V} {r:List (List V)}:bxs (Y++a::b::c::d::e::f::g::r) (kx k 6)=g:=by rw[nR hY];rfl
theorem bk7 (hY:Y.length=k) {a b c d e f g h:List V} {r:List (List V)}:bxs (Y++a::b::c::d::e::f::g::h::r) (kx k 7)=h:=by rw[nR hY];rfl
theorem bk8 (hY:Y.length=k) {a b c d e f g h i:List V} {r:List (List V)}:bxs (Y++a::b::c::d::e::f::g::h::i::r) (kx k 8)=i:=by rw[nR hY];rfl
theorem uk6 (hY:Y.length=k) {a b c d e f g x:List V} {r:List (List V)}:up (bxs (Y++a::b::c::d::e::f::g::r)) (kx k 6) x=bxs (Y++a::b::c::d::e::f::x::r):=kp hY λq=>by
 match q with | 0=>rfl | 1=>rfl | 2=>rfl | 3=>rfl | 4=>rfl | 5=>rfl | 6=>rfl | q+7=>simp[bxs]
theorem uk7 (hY:Y.length=k) {a b c d e f g h x:List V} {r:List (List V)}:up (bxs (Y++a::b::c::d::e::f::g::h::r)) (kx k 7) x=bxs (Y++a::b::c::d::e::f::g::x::r):=kp hY λq=>by
 match q with | 0=>rfl | 1=>rfl | 2=>rfl | 3=>rfl | 4=>rfl | 5=>rfl | 6=>rfl | 7=>rfl | q+8=>simp[bxs]
theorem uk8 (hY:Y.length=k) {a b c d e f g h i x:List V} {r:List (List V)}:up (bxs (Y++a::b::c::d::e::f::g::h::i::r)) (kx k 8) x=bxs (Y++a::b::c::d::e::f::g::h::x::r):=kp hY λq=>by
 match q with | 0=>rfl | 1=>rfl | 2=>rfl | 3=>rfl | 4=>rfl | 5=>rfl | 6=>rfl | 7=>rfl | 8=>rfl | q+9=>simp[bxs]
theorem nk6 (hY:Y.length=k) {a b c d e f x:List V}:up (bxs (Y++[a,b,c,d,e,f])) (kx k 6) x=bxs (Y++[a,b,c,d,e,f,x]):=kp hY λq=>by
 match q with | 0=>rfl | 1=>rfl | 2=>rfl | 3=>rfl | 4=>rfl | 5=>rfl | 6=>rfl | q+7=>simp[bxs]
theorem nk7 (hY:Y.length=k) {a b c d e f g x:List V}:up (bxs (Y++[a,b,c,d,e,f,g])) (kx k 7) x=bxs (Y++[a,b,c,d,e,f,g,x]):=kp hY λq=>by
 match q with | 0=>rfl | 1=>rfl | 2=>rfl | 3=>rfl | 4=>rfl | 5=>rfl | 6=>rfl | 7=>rfl | q+8=>simp[bxs]
theorem nk8 (hY:Y.length=k) {a b c d e f g h x:List V}:up (bxs (Y++[a,b,c,d,e,f,g,h])) (kx k 8) x=bxs (Y++[a,b,c,d,e,f,g,h,x]):=kp hY λq=>by
 match q with | 0=>rfl | 1=>rfl | 2=>rfl | 3=>rfl | 4=>rfl | 5=>rfl | 6=>rfl | 7=>rfl | 8=>rfl | q+9=>simp[bxs]
end
theorem amA {k:Nat} {Y:List (List V)} (h:Y.length=k) {a:List V} {l r:List (List V)}:bxs (Y++(a::l++r)) (kx k 0)=a:=by rw[nR h];rfl
theorem afJ {k n:Nat} {Y ls:List (List V)} (h:Y.length=k) (hn:ls.length=n) {x:List V}:up (bxs (Y++ls)) (kx k n) x=bxs (Y++(ls++[x])):=kp h λi=>by
 subst hn;simp only[bxs,aB];by_cases hi:i<ls.length
 .rw[aA hi,if_neg (by omega)]
 .by_cases h2:i=ls.length
  .subst h2;simp
  .rw[if_neg h2,bG (by simp;omega),bG (by omega)]
theorem afK {k n:Nat} {Y ls:List (List V)} (h:Y.length=k) (hn:ls.length=n) {x:List V}:bxs (Y++(ls++[x])) (kx k n)=x:=by rw[nR h];subst hn;simp[bxs]
theorem afL {k n:Nat} {Y ls:List (List V)} (h:Y.length=k) (hn:ls.length=n) {c x:List V}:up (bxs (Y++(ls++[c]))) (kx k n) x=bxs (Y++(ls++[x])):=kp h λi=>by
 subst hn;simp only[bxs,aB];by_cases hi:i<ls.length
 .rw[aA hi,aA hi,if_neg (by omega)]
 .by_cases h2:i=ls.length
  .subst h2;simp
  .rw[if_neg h2,bG (by simp;omega),bG (by simp;omega)]
theorem V.ltP.mono {m n:Nat} {v:V} (h:v.ltP m) (ko:m<=n):v.ltP n:=by cases v<;>simp_all[V.ltP]<;>omega
theorem V.lt.mono {m n:Nat} {v:V} (h:v.lt m) (ko:m<=n):v.lt n:=by
 cases v
 all_goals first
  |trivial
  |(simp only[V.lt] at h ⊢;omega)
  |(simp only[V.lt] at h ⊢;exact λx hx=>(h x hx).mono ko)
  |(simp only[V.lt] at h ⊢;exact⟨λx hx=>(h.1 x hx).mono ko,λx hx=>(h.2 x hx).mono ko⟩)
  |(simp only[V.lt] at h ⊢;exact h)
theorem uY {ρ:Nat->Nat} {m:Nat} {x:V} (h:x.ltP m) (hρ:∀ i,i<m->ρ i=i):x.renP ρ=x:=by cases x<;>simp_all[V.renP,V.ltP]
theorem ua {ρ:Nat->Nat} {m:Nat} {x:V} (h:x.lt m) (hρ:∀ i,i<m->ρ i=i):x.ren ρ=x:=by
 cases x
 all_goals first
  |rfl
  |(simp only[V.lt] at h;simp only[V.ren];rw[hρ _ h])
  |(simp only[V.lt] at h;simp only[V.ren];rw[jy λx hx=>uY (h x hx) hρ])
  |(simp only[V.lt] at h;simp only[V.ren];rw[jy λx hx=>uY (h.1 x hx) hρ,jy λx hx=>uY (h.2 x hx) hρ])
  |(simp only[V.lt] at h;simp only[V.ren];rw[jy λp hp=>by rw[uY (h p hp) hρ]])
theorem sr {ρ:Nat->Nat} {m:Nat} (hρ:∀ i,i<m->ρ i=i):∀ (b1:List (List V)) (k:Nat) (f:Nat->List V),k+b1.length<=m->(∀ b∈b1,∀ x∈b,x.lt m)->fQ ρ k b1 f=fQ (λi=>i) k b1 f
 |[],_,_,_,_=>rfl
 |b::r,k,f,hk,h=>by simp only[aC] at hk;simp only[fQ];rw[hρ k (by omega),sr hρ r (k+1) _ (by omega) λb hb=>h b (aT _ hb),pU,jy λx hx=>ua (h b (bJ ..) x hx) hρ]
theorem uZ {ρ:Nat->Nat} {m nb:Nat} {f:Nat->List V} (hρ:∀ i,i<m->ρ i=i):∀ (b1:List (List V)) (k:Nat),k+b1.length<=m->(∀ b∈b1,∀ x∈b,x.lt m)->qV f nb (λi=>i) k b1->qV f nb ρ k b1
 |[],_,_,_,_=>trivial
 |b::r,k,hk,h,h2=>by simp only[aC] at hk;refine⟨?_,uZ hρ r (k+1) (by omega) (λb hb=>h b (aT _ hb)) h2.2⟩;rw[hρ k (by omega),jy λx hx=>ua (h b (bJ ..) x hx) hρ];have:=h2.1;rw[pU] at this;exact this
theorem Hw {m nb i:Nat} (h:i<m):rho (List.range m) nb i=i:=by simp only[rho,List.length_range,if_pos h,aB];rw[ai (by simpa using h)];simp
section
variable {P:Program} {G:Gl} {fr:Nat->V} {k n:Nat} {Y Y' ls rest:List (List V)} {f:V} {args all cargs:List V} {K:S->V->Prop} {r:V}
theorem ND {b0 b1 rest:List (List V)} (hb:b1.length=b0.length):(λi=>if 0<=i/\i<0+b1.length then b1.getD (i - 0) [] else bxs (b0++rest) i)=bxs (b1++rest):=by
 funext i;simp only[ar,iM,aF,Nat.sub_zero,bxs,aB];split
 .rename_i h;rw[aA h]
 .rename_i h
  rw[aH (by omega),aH (by omega),hb]
theorem E8 {g:FuncId} (hc:gz f args=some (g,all)) (hf:FnB P G g cargs (Y++ls) r (Y'++ls)) (eF:all.map V.fz=cargs) (hY:Y.length=k) (UO:Y'.length=k) (bE:∀ b∈Y',∀ x∈b,x.lt k)
 (hn:(ls++rest).length=n) (hr:∀ ρ,r.ren ρ=r) (hK:K ⟨fr,bxs (Y'++(ls++rest)),kx k n⟩ r):vcallB P G ⟨fr,bxs (Y++(ls++rest)),kx k n⟩ f args K:=by
 unfold vcallB kF;simp only[hc];have cj:(Y++ls).length=k+ls.length:=by rw[ae,hY]
 have vW:(Y'++ls).length=(Y++ls).length:=by rw[ae,cj,UO]
 have hρ:∀ i,i<(Y++ls).length->rho (List.range (Y++ls).length) (kx k n) i=i:=λi hi=>Hw hi;have rm:∀ b∈Y'++ls,∀ x∈b,x.lt (Y++ls).length:=λb hb x hx=>by
  rcases ba.1 hb with h | h
  .exact(bE b h x hx).mono (by omega)
  .exact hf.2.1.2.1 b (List.mem_append_right _ h) x hx
 refine⟨List.range (Y++ls).length,cargs,Y++ls,r,Y'++ls,hf,?_,⟨by simp,kA⟩,?_,?_⟩
 .rw[eF,jy λx hx=>ua (hf.2.1.1 x hx) hρ]
 .refine uZ hρ _ 0 (by omega) hf.2.1.2.1 (xP _ _ _ _ λi b hb=>?_)
  have hi:=(aj.1 hb).1;rw[aF];rw[ae] at hn;refine⟨by simp only[kx];omega,?_⟩;rw[<- aI];simp only[bxs,aB];rw[aA hi,hb];rfl
 .rw[sr hρ (Y'++ls) 0 _ (by omega) rm,tY,hr,<- aI,ND vW,vW,Nat.sub_self,eX,aI]
  exact hK
end
section
variable {P:Program} {G:Gl} {fr:Nat->V} {k n nb:Nat} {Y Y' ls:List (List V)}
def ltL (m:Nat) (l:List (List V)):Prop:=∀ b∈l,∀ x∈b,x.lt m
theorem Hy {l:List (Nat×V)} {bl:List (List V)} {k:Nat} {bx:Nat->List V} (hl:∀ p∈l,p.2.lt bl.length) (hb:ltL bl.length bl) (hk:k<=bl.length) (hn:bl.length<=nb) (h1:FL l fr) (h2:∀ i,i<bl.length->bxs bl i=bx i) :
 S.Le k (hdS l bl) ⟨fr,bx,nb⟩:=by
 refine⟨hk,h1.le,hn,λi hi=>by simpa[hdS] using h2 i hi,λt=>Nr hl t,λi hi x hx=>?_⟩;simp only[hdS] at hi hx;have:bxs bl i∈bl:=by simp only[bxs,List.getD,ai hi,cV];exact bR hi
 exact hb _ this x hx
theorem abw {l:List (Nat×V)} {rest:List (List V)} (hY:Y.length=k) (bE:ltL k Y) {m n:Nat} (hm:ls.length=m) (hn:(ls++rest).length=n) (dU:ltL (kx k m) ls) (hl:∀ p∈l,p.2.lt (kx k m)) (h1:FL l fr) {j:Nat} (hj:j<=m) :
 S.Le (kx k j) (hdS l (Y++ls)) ⟨fr,bxs (Y++(ls++rest)),kx k n⟩:=by
 have cj:(Y++ls).length=kx k m:=by rw[ae,hY,hm];rfl
 rw[ae] at hn;refine Hy (by rw[cj];exact hl) (λb hb x hx=>?_) (by rw[cj];simp only[kx];omega) (by rw[cj];simp only[kx];omega) h1 λi hi=>?_
 .rw[cj]
  rcases ba.1 hb with h | h
  .exact(bE b h x hx).mono (by simp only[kx];omega)
  .exact dU b h x hx
 .rw[<- aI]
  simp only[bxs,aB];rw[aA hi]
theorem WJ {ls':List (List V)} {f:FuncId} {fn:Func} {c:Code} {args:List V} {r:V} (tr:List Nat) (hm:P.follows .mixedOrders=true) (hf:P.funcs[f]?=some fn) (hb:fn.body=some c) (nA:(fn.name== "runtime.NumGoroutine")=false)
 {rs:List ResultVar} (OV:fn.results.toList=rs) {nt:Nat} (hn:fn.ntmps=nt) (vJ:cok nt tr c=true) (cj:args.length<=nt) (oL:r.compT=true)
 (hY:Y.length=k) (UO:Y'.length=k) (bE:ltL k Y) {m:Nat} (dU:ls.length=m) (anF:ls'.length=m) (hl:ltL (kx k m) ls) (ha:∀ x∈args,x.lt (kx k m))
 (h:hZ P G tr (kx k m) c (xN P (kx k m) r (Y'++ls') rs) ⟨frm 0 args,bxs (Y++ls),kx k m⟩):FnB P G f args (Y++ls) r (Y'++ls'):=by
 subst hn;subst OV;have D6:(Y++ls).length=kx k m:=by rw[ae,hY,dU];rfl
 refine Po tr hm hf hb nA cj vJ oL ⟨λx hx=>by rw[D6];exact ha x hx,λb hb x hx=>?_,by rw[ae,ae,hY,UO,dU,anF];exact ab _⟩ ?_
 .rw[D6]
  rcases ba.1 hb with h | h
  .exact(bE b h x hx).mono (by simp only[kx];omega)
  .exact hl b h x hx
 .rw[Nw] at h
  rw[D6];exact h
theorem abx {f:FuncId} {fn:Func} {c:Code} {args:List V} {r:V} (tr:List Nat) (hm:P.follows .mixedOrders=true) (hf:P.funcs[f]?=some fn) (hb:fn.body=some c) (nA:(fn.name== "runtime.NumGoroutine")=false)
 {rs:List ResultVar} (OV:fn.results.toList=rs) {nt:Nat} (hn:fn.ntmps=nt) (vJ:cok nt tr c=true) (cj:args.length<=nt) (oL:r.compT=true)
 (hY:Y.length=k) (UO:Y'.length=k) (bE:ltL k Y) {m:Nat} (dU:ls.length=m) (hl:ltL (kx k m) ls) (ha:∀ x∈args,x.lt (kx k m))
 (h:hZ P G tr (kx k m) c (xN P (kx k m) r (Y'++ls) rs) ⟨frm 0 args,bxs (Y++ls),kx k m⟩):FnB P G f args (Y++ls) r (Y'++ls):=
 WJ tr hm hf hb nA OV hn vJ cj oL hY UO bE dU dU hl ha h
theorem WL {r:V} {rs:List ResultVar} {e:VE} (l:List (Nat×V)) {rest:List (List V)} {m n:Nat} (he:rF e=true) (hY:Y.length=k) (bE:ltL k Y) (hm:ls.length=m) (hn:(ls++rest).length=n) (dU:ltL (kx k m) ls) (hl:∀ p∈l,p.2.lt (kx k m)) (h1:FL l fr)
 (hr:rE P false (hdS l (Y++ls)) r rs):xN P (kx k m) r (Y++ls) rs e ⟨fr,bxs (Y++(ls++rest)),kx k n⟩:=
 ⟨JO _ he,l,abw hY bE hm hn dU hl h1 (ab _),hr⟩
end
section
variable {P:Program} {G:Gl} {fr:Nat->V} {k n:Nat} {Y Y' ls:List (List V)} {f:V} {args all cargs:List V} {K:S->V->Prop} {r:V}
