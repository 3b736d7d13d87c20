/- Values without memory: a round of a loop over a function: its contract, from the loop's text. -/
import Derived.Test.YtloppcgcepgbnaaGreatDoorVlRunB
set_option linter.all false
namespace Go.Vl
open Go Go.RowKit
section
variable {P:Program} {G:Gl} {tr:List Nat} {n:Nat} {I0:Ft} {M:Mx} {w0:World} {I:Ft} {β:Nat→Option Nat} {ob:Loc→Option Nat} {s:S} {a:Act} {w:World} {base:Nat→Prop} {v:Value} {x:V}
theorem KR.toLR (h:KR I β w v x):LR base I β w none v x:=by
 rcases h with rfl | ⟨h1,h2⟩ | h
 ·simp only[LR];exact .un _
 ·exact .ofDR h2
 ·exact h.toLR
def frY (fl:List (Nat×V)) (ps:List Tmp) (xs:List V):Nat→V:=(ps.zip xs).foldl (fun f p=>up f p.1 p.2) (frs fl)
def BR (L:Loop):VE→Loop
 | .normal=>{ L with state:=.ready,pending:=none }
 | .exit i=>{ L with state:=.done,pending:=some (.exit i) }
 | .ret=>{ L with state:=.done,pending:=some .ret }
def ag4:VE→Bool
 | .normal=>true
 |_=>false
def WN (k:Nat) (r:V) (b1:List (List V)) (e:VE) (s:S):Prop:=
 r=.c (.lit (.bool (ag4 e)))∧∃ L fl gs,(s.bx 0=.lp L fl::gs∧0<s.nb)∧∃ l,S.Le k (hdS l b1) { s with bx:=up s.bx 0 (.lp (BR L e) fl::gs) }
def O7 (k:Nat) (R:V→List (List V)→Prop) (e:VE) (s:S):Prop:=∃ r b1,R r b1∧WN k r b1 e s
theorem O8:∀ (fl:List (Nat×V)) (t:Nat),frs fl t=.un∨(t,frs fl t)∈fl
 |[],t=>.inl rfl
 |(i,x)::r,t=>by
  by_cases h:t=i
  ·subst h;right;simp[frs]
  ·rcases O8 r t with h1 | h1
   ·left;simp[frs,ao,h,h1]
   ·right;simp[frs,ao,h,h1]
theorem WO:∀ (ps:List Tmp) (xs:List V) (us:List Value) (f:Nat→V) (tm:Array Value),ps.length=xs.length→us.length=xs.length→(∀ p∈ps,p<tm.size)→
 (∀ j x,xs[j]?=some x→LR base I β w none (us.getD j undef) x)→(∀ t,LR base I β w none (tm.getD t undef) (f t))→
 (∀ t,LR base I β w none (((ps.zip us).foldl (fun tm (p:Tmp×Value)=>tm.setIfInBounds p.1 p.2) tm).getD t undef) ((ps.zip xs).foldl (fun f (p:Tmp×V)=>up f p.1 p.2) f t))∧
  ((ps.zip us).foldl (fun tm (p:Tmp×Value)=>tm.setIfInBounds p.1 p.2) tm).size=tm.size
 |[],_,_,f,tm,_,_,_,_,hf=>⟨hf,rfl⟩
 |p::ps,[],_,_,_,h,_,_,_,_=>by simp at h
 |p::ps,x::xs,[],_,_,_,h,_,_,_=>by simp at h
 |p::ps,x::xs,u::us,f,tm,h1,h2,h3,h4,hf=>by
  have hx:LR base I β w none u x:=h4 0 x rfl
  have hp:p<tm.size:=h3 p (bB ..)
  obtain⟨q1,q2⟩:=WO ps xs us (up f p x) (tm.setIfInBounds p u) (by simpa using h1) (by simpa using h2) (fun q hq=>by rw[dp];exact h3 q (aR _ hq))
   (fun j y hy=>by simpa using h4 (j+1) y (by simpa using hy)) (fun t=>by
    by_cases ht:t=p
    ·subst ht;rw[bT,lV _ _ _ hp];exact hx
    ·rw[cF _ _ ht,getD_set_ne _ _ _ _ ht];exact hf t)
  exact⟨q1,by rw[List.zip_cons_cons,dH,q2,dp]⟩
theorem St.initF {ob:Nat→Nat→Option Nat} {tm:Array Value} {fr:Nat→V} {b0:List (List V)} (hI:∀ b o,I b o→b<w.heap.size) (hg:GOK G I w) (hB:BxR (Wr M w) I w β ob b0) (fC:tm.size=n)
 (sP:∀ t,LR (Wr M w) I β w none (tm.getD t undef) (fr t)):St G n I ⟨M.m,β,[]⟩ w I β (obB ob) ⟨fr,bxs b0,b0.length⟩ { tmps:=tm,defers:=[] } w:=by
 have h0:St G ((#[]:Array Value)++Array.replicate (0 - (#[]:Array Value).size) undef).size I ⟨M.m,β,[]⟩ w I β (obB ob) ⟨fun j=>([]:List V).getD j .un,bxs b0,b0.length⟩ { tmps:=#[]++Array.replicate (0 - (#[]:Array Value).size) undef,defers:=[] } w:=
  St.initB (n:=0) (vs:=#[]) (args:=[]) hI hg hB rfl (by simp) rfl
 exact {
  size:=fC,defers:=rfl,below:=h0.below,ilow:=h0.ilow,kept:=h0.kept,ihigh:=h0.ihigh,ibnd:=h0.ibnd
  fr:=fun t=>by simp only[obB];exact sP t
  bx:=h0.bx,bnone:=h0.bnone,ext:=h0.ext,bnew:=h0.bnew,binj:=h0.binj,oinj:=h0.oinj,obx:=h0.obx,obnd:=h0.obnd,glob:=h0.glob }
theorem afI {L:Loop} {fl:List (Nat×V)} {gs:List V} {xs:List V} {bs:List (List V)} {R:V→List (List V)→Prop} (tr:List Nat) (hm:P.follows .mixedOrders=true) (akl:L.state=.ready) (vD:L.params.toList.length=xs.length)
 (LA:∀ p∈L.params.toList,p<L.defers) (aan:cok L.defers tr L.assign=true) (aao:cok L.defers tr L.body=true)
 (UD:(∀ x∈xs,x.lt (bs.length+1))∧(∀ b∈(V.lp L fl::gs)::bs,∀ x∈b,x.lt (bs.length+1))∧∀ r b1,R r b1→bs.length+1≤b1.length)
 (h:gZ P G tr (bs.length+1) L.assign (fun e s=>e=.normal∧(s.bx 0=.lp L fl::gs∧0<s.nb)∧gZ P G tr (bs.length+1) L.body (O7 (bs.length+1) R) { s with bx:=up s.bx 0 (.lp { L with state:=.busy } fl::gs) })
  ⟨frY fl L.params.toList xs,bxs ((V.lp L fl::gs)::bs),bs.length+1⟩) (Qm:FP tr=false:=by rfl):YE P G xs ((V.lp L fl::gs)::bs) R:=by
 refine⟨UD,fun I M w vs β ob l hI hg hB hβ0 fC ha=>?_⟩
 obtain⟨blk,cur,e1,e2,e3,e4,e5,e7⟩:=hB.bx 0 _ rfl
 rw[hβ0] at e1;cases e1
 obtain⟨f,tm,d,⟨h3,oU⟩,mg,rfl⟩:∃ (f:FuncId) (tm:Array Value) (d:Nat),(w.heap[l]?=some (.loop { L with fn:=f,tmps:=tm,defers:=d })∧tm.size=L.defers)∧∃ m:Nat,cur=#[Value.tuple tm]++Array.replicate m undef:=e3
 have kU:∀ t x,(t,x)∈fl→KR I β w (tm.getD t undef) x:=by
  have:=e5 0
  have h5:LR (Wr M w) I β w (ob 0 0) (.tuple tm) (.lp L fl):=by
   have e:(#[Value.tuple tm]++Array.replicate mg undef).getD 0 undef=.tuple tm:=by simp[Array.getD]
   rw[e] at this
   exact this
  simp only[LR] at h5
  obtain⟨tm',e,h6⟩:=h5
  cases e;exact h6
 have hy:=run_yield (P:=P) (args:=vs) h3 (by rw[fC];simpa using vD.symm)
 have apJ:(L.params.zip vs).foldl (fun tmps (x:Tmp×Value)=>tmps.setIfInBounds x.1 x.2) tm=(L.params.toList.zip vs.toList).foldl (fun tm (p:Tmp×Value)=>tm.setIfInBounds p.1 p.2) tm:=by
  rw[← Array.foldl_toList,Array.toList_zip]
 obtain⟨sP,jG⟩:=WO (base:=Wr M w) (I:=I) (β:=β) (w:=w) L.params.toList xs vs.toList (frs fl) tm vD (by simpa using fC) (fun p hp=>by rw[oU];exact LA p hp) (fun j x hx=>by
  have:=ha j x hx
  rw[ay,aO,← ah];exact this)
  (fun t=>by
   rcases O8 fl t with h1 | h1
   ·rw[h1];simp only[LR];exact .un _
   ·exact(kU t _ h1).toLR)
 have hst:=St.initF (n:=L.defers) hI hg hB (jG.trans oU) sP
 have AH:∀ i b,β i=some b→i<bs.length+1:=fun i b hi=>by
  by_cases h:i<bs.length+1
  ·exact h
  ·rw[hB.bnone i (by simp;omega)] at hi;cases hi
 refine⟨f,_,L.assign,L.body,hy,roundIn_of_wpIn (F:=Fence.wide) trivial ?_⟩
 have anu:(Array.foldl (fun tmps x=>match x with | (t,a)=>tmps.setIfInBounds t a) tm (L.params.zip vs))=(L.params.toList.zip vs.toList).foldl (fun tm (p:Tmp×Value)=>tm.setIfInBounds p.1 p.2) tm:=apJ
 show L.assign.wpIn (FW (some l)) 0 P _ { tmps:=Array.foldl (fun tmps x=>match x with | (t,a)=>tmps.setIfInBounds t a) tm (L.params.zip vs),defers:=[] } w
 rw[anu]
 refine mT (l:=some l) (m:=0) hm (fun i b hi=>AH i b hi) (.inr Qm) L.assign aan _ _ (fun e s1 a1 w1 hq dB=>?_) _ _ _ h (.of ⟨_,_,_,hst⟩)
 obtain⟨rfl,⟨uI,anv⟩,hq⟩:=hq
 obtain⟨I1,β1,ob1,nP⟩:=dB.se Qm
 have hl1:β1 0=some l:=nP.ext 0 l hβ0
 obtain⟨blk,cur,g1,g2,g3,g4,g5,g7⟩:=nP.bx 0 anv
 rw[hl1] at g1;cases g1
 rw[uI] at g3 g5
 rw[uI] at g4
 obtain⟨f1,tm1,d1,⟨k3,kts⟩,mg1,rfl⟩:∃ (f:FuncId) (tm:Array Value) (d:Nat),(w1.heap[l]?=some (.loop { L with fn:=f,tmps:=tm,defers:=d })∧tm.size=L.defers)∧∃ m:Nat,cur=#[Value.tuple tm]++Array.replicate m undef:=g3
 refine⟨_,run_beginRound k3 akl,?_⟩
 have pg:=nP.reBox (o:=.loop { { L with fn:=f1,tmps:=tm1,defers:=d1 } with state:=.busy }) (l:=.lp { L with state:=.busy } fl::gs) (cur:=#[Value.tuple tm1]++Array.replicate mg1 undef) (od:=fun j=>ob1 (.b 0 j)) anv hl1
  ⟨f1,tm1,d1,⟨nZ (bf.1 k3).1,kts⟩,mg1,rfl⟩ g4 (fun j=>by
   have:=g5 j
   cases j with
   |zero=>exact this
   |succ j=>exact this) (fun j b hb=>hb)
 refine mT (l:=some l) (m:=0) hm (fun i b hi=>AH i b hi) (.inr Qm) L.body aao _ _ (fun e s3 a3 w3 hq dB=>?_) _ _ _ hq (.of ⟨_,_,_,pg⟩)
 obtain⟨r,b1,hR,rfl,L',fl',gs',⟨anw,anx⟩,lf,ke⟩:=hq
 obtain⟨I3,β3,ob3,zt⟩:=dB.se Qm
 have hl3:β3 0=some l:=zt.ext 0 l hβ0
 obtain⟨blk,cur,g1,g2,g3,g4,g5,g7⟩:=zt.bx 0 anx
 rw[hl3] at g1;cases g1
 rw[anw] at g3 g5
 rw[anw] at g4
 obtain⟨f3,tm3,d3,⟨k3,kts⟩,mg3,rfl⟩:∃ (f:FuncId) (tm:Array Value) (d:Nat),(w3.heap[l]?=some (.loop { L' with fn:=f,tmps:=tm,defers:=d })∧tm.size=L'.defers)∧∃ m:Nat,cur=#[Value.tuple tm]++Array.replicate m undef:=g3
 have fin:∀ (jump:Option Code) (L3:Loop),L3={ BR L' e with fn:=f3,tmps:=tm3,defers:=d3 }→(BR L' e).defers=L'.defers→∃ I' β' ob' o',BelowM (GT G) M w (World.putObj w3 l (.loop L3))∧(∀ b o,I b o→I' b o)∧(∀ b o,I' b o→I b o∨(Wr M w b∧b<(World.putObj w3 l (.loop L3)).heap.size))∧
  (∀ b o,I b o→(World.putObj w3 l (.loop L3)).cell? ⟨b,o,none⟩=w.cell? ⟨b,o,none⟩)∧(∀ i,i<((V.lp L fl::gs)::bs).length→β' i=β i)∧(∀ i b,((V.lp L fl::gs)::bs).length≤i→β' i=some b→Wr M w b)∧BxR (Wr M w) I' (World.putObj w3 l (.loop L3)) β' ob' b1∧
  LR (Wr M w) I' β' (World.putObj w3 l (.loop L3)) o' (.bool (ag4 e)) (.c (.lit (.bool (ag4 e))))∧(∀ b,o'=some b→(b<(World.putObj w3 l (.loop L3)).heap.size∧Wr M w b)∧(∀ i j,ob' i j≠some b)∧∀ i,β' i≠some b):=by
  intro jump L3 hL3 hyd
  have apK:=zt.reBox (o:=.loop L3) (l:=.lp (BR L' e) fl'::gs') (cur:=#[Value.tuple tm3]++Array.replicate mg3 undef) (od:=fun j=>ob3 (.b 0 j)) anx hl3
   ⟨f3,tm3,d3,⟨by rw[hL3];exact nZ (bf.1 k3).1,by rw[hyd];exact kts⟩,mg3,rfl⟩ g4 (fun j=>by
    have:=g5 j
    cases j with
    |zero=>exact this
    |succ j=>exact this) (fun j b hb=>hb)
  obtain⟨I',β',ob',cy⟩:=(SE.weaken (G:=G) ⟨_,_,_,apK⟩ (fun i b hi=>AH i b hi) ke)
  have xd:∀ i,i<((V.lp L fl::gs)::bs).length→β' i=β i:=fun i hi=>by
   obtain⟨blk,_,e1,_⟩:=hB.bx i _ (ab hi)
   rw[e1];exact cy.ext i blk e1
  refine⟨I',β',fun i j=>if i<b1.length then ob' (.b i j) else none,none,⟨cy.below.os,cy.below.tape,cy.below.output,cy.below.size,cy.below.block,cy.below.drawn⟩,cy.ilow,fun b o FH=>?_,cy.kept,xd,fun i b hi hb=>?_,?_,.ofLit rfl,fun b hb=>by cases hb⟩
  ·rcases cy.ihigh b o FH with h4 | h4
   ·exact .inl h4
   ·exact .inr ⟨h4,cy.ibnd b o FH⟩
  ·rcases cy.bnew i b hb with h4 | h4
   ·have:=AH i b h4;simp at hi;omega
   ·exact h4
  ·exact {
    bx:=fun i cs jo=>by
     have hi:i<b1.length:=(ae.1 jo).1
     obtain⟨blk,cur,e1,e2,e3,e4,e5,e7⟩:=cy.bx i hi
     have e:bxs b1 i=cs:=by simp[bxs,List.getD,jo]
     refine⟨blk,cur,e1,e2,by simp only[hdS,e] at e3;exact e3,by simp only[hdS,e] at e4;exact e4,fun j=>?_,e7⟩
     have:=e5 j
     simp only[hdS,e] at this
     rw[if_pos hi];exact this
    bnone:=fun i hi=>cy.bnone i hi
    binj:=cy.binj
    oinj:=fun i j i' j' b h h'=>by
     split at h<;>try cases h
     split at h'<;>try cases h'
     have:=cy.oinj _ _ b h h'
     simp only[Loc.b.injEq] at this;exact this
    obx:=fun i j b k h=>by
     split at h<;>try cases h
     exact cy.obx _ b k h
    obnd:=fun i j b h=>by
     split at h<;>try cases h
     exact cy.obnd _ b h
    olen:=fun i j hi=>by rw[if_neg (by omega)] }
 cases e with
 |normal=>
  obtain⟨I',β',ob',o',q⟩:=fin none _ rfl rfl
  exact⟨_,_,run_endRound none k3,_,b1,hR,_,I',β',ob',o',rfl,q⟩
 |exit i=>
  obtain⟨I',β',ob',o',q⟩:=fin (some (.exit i)) _ rfl rfl
  exact⟨_,_,run_endRound (some (.exit i)) k3,_,b1,hR,_,I',β',ob',o',rfl,q⟩
 |ret=>
  obtain⟨I',β',ob',o',q⟩:=fin (some .ret) _ rfl rfl
  exact⟨_,_,run_endRound (some .ret) k3,_,b1,hR,_,I',β',ob',o',rfl,q⟩
theorem alp {L:Loop} {fl:List (Nat×V)} {xs:List V} {bs b1:List (List V)} {r:V} (tr:List Nat) (hm:P.follows .mixedOrders=true) (akl:L.state=.ready) (vD:L.params.toList.length=xs.length)
 (LA:∀ p∈L.params.toList,p<L.defers) (aan:cok L.defers tr L.assign=true) (aao:cok L.defers tr L.body=true)
 (UD:(∀ x∈xs,x.lt (bs.length+1))∧(∀ b∈[V.lp L fl]::bs,∀ x∈b,x.lt (bs.length+1))∧bs.length+1≤b1.length)
 (h:gZ P G tr (bs.length+1) L.assign (fun e s=>e=.normal∧(s.bx 0=[.lp L fl]∧0<s.nb)∧gZ P G tr (bs.length+1) L.body (WN (bs.length+1) r b1) { s with bx:=up s.bx 0 [.lp { L with state:=.busy } fl] })
  ⟨frY fl L.params.toList xs,bxs ([V.lp L fl]::bs),bs.length+1⟩) (Qm:FP tr=false:=by rfl):YB P G xs ([V.lp L fl]::bs) r b1:=by
 have e:O7 (bs.length+1) (fun r' b'=>r'=r∧b'=b1)=WN (bs.length+1) r b1:=by
  funext e s
  exact propext ⟨fun⟨_,_,⟨h1,h2⟩,h3⟩=>by rw[h1,h2] at h3;exact h3,fun h=>⟨_,_,⟨rfl,rfl⟩,h⟩⟩
 refine (afI (gs:=[]) tr hm akl vD LA aan aao ⟨UD.1,UD.2.1,fun _ _ e=>by rw[e.2];exact UD.2.2⟩ (by rw[e];exact h) Qm).toB UD.2.2
end
def kx (k j:Nat):Nat:=k+j
section
variable {k:Nat} {Y:List (List V)}
theorem alq {i j:Nat}:(kx k i=kx k j)=(i=j):=by simp[kx]
theorem kM {i j:Nat}:(kx k i<kx k j)=(i<j):=by simp[kx]
theorem fg {i:Nat}:kx k i+1=kx k (i+1):=rfl
theorem nG (h:Y.length=k) {ls:List (List V)} {j:Nat}:bxs (Y++ls) (kx k j)=bxs ls j:=by
 subst h;simp only[bxs,kx,ay];rw[aF (by omega)];congr 2;omega
theorem O9 (h:Y.length=k) {ls:List (List V)} {j:Nat} (hj:j<k):bxs (Y++ls) j=bxs Y j:=by
 subst h;simp only[bxs,ay];rw[az hj]
theorem kj (h:Y.length=k) {ls l2:List (List V)} {j:Nat} {c:List V} (h2:∀ i,bxs l2 i=if i=j then c else bxs ls i):up (bxs (Y++ls)) (kx k j) c=bxs (Y++l2):=by
 funext i
 rw[ao]
 by_cases hi:i<k
 ·rw[if_neg (by simp only[kx];omega),O9 h hi,O9 h hi]
 ·obtain⟨d,rfl⟩:∃ d,i=kx k d:=⟨i - k,by simp only[kx];omega⟩
  rw[nG h,nG h,h2]
  simp only[alq]
theorem bk0 (h:Y.length=k) {a:List V} {l:List (List V)}:bxs (Y++a::l) (kx k 0)=a:=by rw[nG h];rfl
theorem bk1 (h:Y.length=k) {a b:List V} {l:List (List V)}:bxs (Y++a::b::l) (kx k 1)=b:=by rw[nG h];rfl
theorem bk2 (h:Y.length=k) {a b c:List V} {l:List (List V)}:bxs (Y++a::b::c::l) (kx k 2)=c:=by rw[nG h];rfl
theorem bk3 (h:Y.length=k) {a b c d:List V} {l:List (List V)}:bxs (Y++a::b::c::d::l) (kx k 3)=d:=by rw[nG h];rfl
theorem bk4 (h:Y.length=k) {a b c d e:List V} {l:List (List V)}:bxs (Y++a::b::c::d::e::l) (kx k 4)=e:=by rw[nG h];rfl
theorem bk5 (h:Y.length=k) {a b c d e f:List V} {l:List (List V)}:bxs (Y++a::b::c::d::e::f::l) (kx k 5)=f:=by rw[nG h];rfl
theorem uk0 (h:Y.length=k) {a x:List V} {l:List (List V)}:up (bxs (Y++a::l)) (kx k 0) x=bxs (Y++x::l):=kj h fun i=>by
 match i with | 0=>rfl | i+1=>simp[bxs]
theorem uk1 (h:Y.length=k) {a b x:List V} {l:List (List V)}:up (bxs (Y++a::b::l)) (kx k 1) x=bxs (Y++a::x::l):=kj h fun i=>by
 match i with | 0=>rfl | 1=>rfl | i+2=>simp[bxs]
theorem uk2 (h:Y.length=k) {a b c x:List V} {l:List (List V)}:up (bxs (Y++a::b::c::l)) (kx k 2) x=bxs (Y++a::b::x::l):=kj h fun i=>by
 match i with | 0=>rfl | 1=>rfl | 2=>rfl | i+3=>simp[bxs]
theorem uk3 (h:Y.length=k) {a b c d x:List V} {l:List (List V)}:up (bxs (Y++a::b::c::d::l)) (kx k 3) x=bxs (Y++a::b::c::x::l):=kj h fun i=>by
 match i with | 0=>rfl | 1=>rfl | 2=>rfl | 3=>rfl | i+4=>simp[bxs]
theorem uk4 (h:Y.length=k) {a b c d e x:List V} {l:List (List V)}:up (bxs (Y++a::b::c::d::e::l)) (kx k 4) x=bxs (Y++a::b::c::d::x::l):=kj h fun i=>by
 match i with | 0=>rfl | 1=>rfl | 2=>rfl | 3=>rfl | 4=>rfl | i+5=>simp[bxs]
theorem uk5 (h:Y.length=k) {a b c d e f x:List V} {l:List (List V)}:up (bxs (Y++a::b::c::d::e::f::l)) (kx k 5) x=bxs (Y++a::b::c::d::e::x::l):=kj h fun i=>by
 match i with | 0=>rfl | 1=>rfl | 2=>rfl | 3=>rfl | 4=>rfl | 5=>rfl | i+6=>simp[bxs]
theorem nk0 (h:Y.length=k) {x:List V}:up (bxs Y) (kx k 0) x=bxs (Y++[x]):=by
 have:=kj (ls:=[]) (l2:=[x]) (j:=0) (c:=x) h fun i=>by
  match i with | 0=>rfl | i+1=>simp[bxs]
 rwa [ee] at this
theorem nk1 (h:Y.length=k) {a x:List V}:up (bxs (Y++[a])) (kx k 1) x=bxs (Y++[a,x]):=kj h fun i=>by
 match i with | 0=>rfl | 1=>rfl | i+2=>simp[bxs]
theorem nk2 (h:Y.length=k) {a b x:List V}:up (bxs (Y++[a,b])) (kx k 2) x=bxs (Y++[a,b,x]):=kj h fun i=>by
 match i with | 0=>rfl | 1=>rfl | 2=>rfl | i+3=>simp[bxs]
theorem nk3 (h:Y.length=k) {a b c x:List V}:up (bxs (Y++[a,b,c])) (kx k 3) x=bxs (Y++[a,b,c,x]):=kj h fun i=>by
 match i with | 0=>rfl | 1=>rfl | 2=>rfl | 3=>rfl | i+4=>simp[bxs]
theorem nk4 (h:Y.length=k) {a b c d x:List V}:up (bxs (Y++[a,b,c,d])) (kx k 4) x=bxs (Y++[a,b,c,d,x]):=kj h fun i=>by
 match i with | 0=>rfl | 1=>rfl | 2=>rfl | 3=>rfl | 4=>rfl | i+5=>simp[bxs]
theorem nk5 (h:Y.length=k) {a b c d e x:List V}:up (bxs (Y++[a,b,c,d,e])) (kx k 5) x=bxs (Y++[a,b,c,d,e,x]):=kj h fun i=>by
 match i with | 0=>rfl | 1=>rfl | 2=>rfl | 3=>rfl | 4=>rfl | 5=>rfl | i+6=>simp[bxs]
theorem bk6 (hY:Y.length=k) {a b c d e f g:List V} {r:List (List V)}:bxs (Y++a::b::c::d::e::f::g::r) (kx k 6)=g:=by rw[nG hY];rfl
theorem bk7 (hY:Y.length=k) {a b c d e f g h:List V} {r:List (List V)}:bxs (Y++a::b::c::d::e::f::g::h::r) (kx k 7)=h:=by rw[nG hY];rfl
theorem bk8 (hY:Y.length=k) {a b c d e f g h i:List V} {r:List (List V)}:bxs (Y++a::b::c::d::e::f::g::h::i::r) (kx k 8)=i:=by rw[nG hY];rfl
theorem uk6 (hY:Y.length=k) {a b c d e f g x:List V} {r:List (List V)}:up (bxs (Y++a::b::c::d::e::f::g::r)) (kx k 6) x=bxs (Y++a::b::c::d::e::f::x::r):=kj hY fun q=>by
 match q with | 0=>rfl | 1=>rfl | 2=>rfl | 3=>rfl | 4=>rfl | 5=>rfl | 6=>rfl | q+7=>simp[bxs]
theorem uk7 (hY:Y.length=k) {a b c d e f g h x:List V} {r:List (List V)}:up (bxs (Y++a::b::c::d::e::f::g::h::r)) (kx k 7) x=bxs (Y++a::b::c::d::e::f::g::x::r):=kj hY fun q=>by
 match q with | 0=>rfl | 1=>rfl | 2=>rfl | 3=>rfl | 4=>rfl | 5=>rfl | 6=>rfl | 7=>rfl | q+8=>simp[bxs]
theorem uk8 (hY:Y.length=k) {a b c d e f g h i x:List V} {r:List (List V)}:up (bxs (Y++a::b::c::d::e::f::g::h::i::r)) (kx k 8) x=bxs (Y++a::b::c::d::e::f::g::h::x::r):=kj hY fun q=>by
 match q with | 0=>rfl | 1=>rfl | 2=>rfl | 3=>rfl | 4=>rfl | 5=>rfl | 6=>rfl | 7=>rfl | 8=>rfl | q+9=>simp[bxs]
theorem nk6 (hY:Y.length=k) {a b c d e f x:List V}:up (bxs (Y++[a,b,c,d,e,f])) (kx k 6) x=bxs (Y++[a,b,c,d,e,f,x]):=kj hY fun q=>by
 match q with | 0=>rfl | 1=>rfl | 2=>rfl | 3=>rfl | 4=>rfl | 5=>rfl | 6=>rfl | q+7=>simp[bxs]
theorem nk7 (hY:Y.length=k) {a b c d e f g x:List V}:up (bxs (Y++[a,b,c,d,e,f,g])) (kx k 7) x=bxs (Y++[a,b,c,d,e,f,g,x]):=kj hY fun q=>by
 match q with | 0=>rfl | 1=>rfl | 2=>rfl | 3=>rfl | 4=>rfl | 5=>rfl | 6=>rfl | 7=>rfl | q+8=>simp[bxs]
theorem nk8 (hY:Y.length=k) {a b c d e f g h x:List V}:up (bxs (Y++[a,b,c,d,e,f,g,h])) (kx k 8) x=bxs (Y++[a,b,c,d,e,f,g,h,x]):=kj hY fun q=>by
 match q with | 0=>rfl | 1=>rfl | 2=>rfl | 3=>rfl | 4=>rfl | 5=>rfl | 6=>rfl | 7=>rfl | 8=>rfl | q+9=>simp[bxs]
end
theorem aou {k:Nat} {Y:List (List V)} (h:Y.length=k) {a:List V} {l r:List (List V)}:bxs (Y++(a::l++r)) (kx k 0)=a:=by rw[nG h];rfl
theorem ag5 {k n:Nat} {Y ls:List (List V)} (h:Y.length=k) (hn:ls.length=n) {x:List V}:up (bxs (Y++ls)) (kx k n) x=bxs (Y++(ls++[x])):=kj h fun i=>by
 subst hn
 simp only[bxs,ay]
 by_cases hi:i<ls.length
 ·rw[az hi,if_neg (by omega)]
 ·by_cases h2:i=ls.length
  ·subst h2;simp
  ·rw[if_neg h2,bq (by simp;omega),bq (by omega)]
theorem ag6 {k n:Nat} {Y ls:List (List V)} (h:Y.length=k) (hn:ls.length=n) {x:List V}:bxs (Y++(ls++[x])) (kx k n)=x:=by
 rw[nG h];subst hn;simp[bxs]
theorem ag7 {k n:Nat} {Y ls:List (List V)} (h:Y.length=k) (hn:ls.length=n) {c x:List V}:up (bxs (Y++(ls++[c]))) (kx k n) x=bxs (Y++(ls++[x])):=kj h fun i=>by
 subst hn
 simp only[bxs,ay]
 by_cases hi:i<ls.length
 ·rw[az hi,az hi,if_neg (by omega)]
 ·by_cases h2:i=ls.length
  ·subst h2;simp
  ·rw[if_neg h2,bq (by simp;omega),bq (by simp;omega)]
theorem V.ltP.mono {m n:Nat} {v:V} (h:v.ltP m) (ke:m≤n):v.ltP n:=by
 cases v<;>simp_all[V.ltP]<;>omega
theorem V.lt.mono {m n:Nat} {v:V} (h:v.lt m) (ke:m≤n):v.lt n:=by
 cases v
 all_goals first
  |trivial
  |(simp only[V.lt] at h ⊢;omega)
  |(simp only[V.lt] at h ⊢;exact fun x hx=>(h x hx).mono ke)
  |(simp only[V.lt] at h ⊢;exact⟨fun x hx=>(h.1 x hx).mono ke,fun x hx=>(h.2 x hx).mono ke⟩)
  |(simp only[V.lt] at h ⊢;exact h)
theorem uW {ρ:Nat→Nat} {m:Nat} {x:V} (h:x.ltP m) (hρ:∀ i,i<m→ρ i=i):x.renP ρ=x:=by
 cases x<;>simp_all[V.renP,V.ltP]
theorem tV {ρ:Nat→Nat} {m:Nat} {x:V} (h:x.lt m) (hρ:∀ i,i<m→ρ i=i):x.ren ρ=x:=by
 cases x
 all_goals first
  |rfl
  |(simp only[V.lt] at h;simp only[V.ren];rw[hρ _ h])
  |(simp only[V.lt] at h;simp only[V.ren];rw[jx fun x hx=>uW (h x hx) hρ])
  |(simp only[V.lt] at h;simp only[V.ren];rw[jx fun x hx=>uW (h.1 x hx) hρ,jx fun x hx=>uW (h.2 x hx) hρ])
  |(simp only[V.lt] at h;simp only[V.ren];rw[jx fun p hp=>by rw[uW (h p hp) hρ]])
theorem sj {ρ:Nat→Nat} {m:Nat} (hρ:∀ i,i<m→ρ i=i):∀ (b1:List (List V)) (k:Nat) (f:Nat→List V),k+b1.length≤m→(∀ b∈b1,∀ x∈b,x.lt m)→fM ρ k b1 f=fM (fun i=>i) k b1 f
 |[],_,_,_,_=>rfl
 |b::r,k,f,hk,h=>by
  simp only[aA] at hk
  simp only[fM]
  rw[hρ k (by omega),sj hρ r (k+1) _ (by omega) fun b hb=>h b (aR _ hb),pK,jx fun x hx=>tV (h b (bB ..) x hx) hρ]
theorem uX {ρ:Nat→Nat} {m nb:Nat} {f:Nat→List V} (hρ:∀ i,i<m→ρ i=i):∀ (b1:List (List V)) (k:Nat),k+b1.length≤m→(∀ b∈b1,∀ x∈b,x.lt m)→qH f nb (fun i=>i) k b1→qH f nb ρ k b1
 |[],_,_,_,_=>trivial
 |b::r,k,hk,h,h2=>by
  simp only[aA] at hk
  refine⟨?_,uX hρ r (k+1) (by omega) (fun b hb=>h b (aR _ hb)) h2.2⟩
  rw[hρ k (by omega),jx fun x hx=>tV (h b (bB ..) x hx) hρ]
  have:=h2.1
  rw[pK] at this
  exact this
theorem G2 {m nb i:Nat} (h:i<m):rho (List.range m) nb i=i:=by
 simp only[rho,List.length_range,if_pos h,ay]
 rw[ab (by simpa using h)]
 simp
section
variable {P:Program} {G:Gl} {fr:Nat→V} {k n:Nat} {Y Y' ls rest:List (List V)} {f:V} {args all cargs:List V} {K:S→V→Prop} {r:V}
theorem Ny {b0 b1 rest:List (List V)} (hb:b1.length=b0.length):(fun i=>if 0≤i∧i<0+b1.length then b1.getD (i - 0) [] else bxs (b0++rest) i)=bxs (b1++rest):=by
 funext i
 simp only[au,ia,aK,Nat.sub_zero,bxs,ay]
 split
 ·rename_i h;rw[az h]
 ·rename_i h
  rw[aF (by omega),aF (by omega),hb]
theorem EF {g:FuncId} (hc:gu f args=some (g,all)) (hf:FnB P G g cargs (Y++ls) r (Y'++ls)) (en:all.map V.fz=cargs) (hY:Y.length=k) (UC:Y'.length=k) (bV:∀ b∈Y',∀ x∈b,x.lt k)
 (hn:(ls++rest).length=n) (hr:∀ ρ,r.ren ρ=r) (hK:K ⟨fr,bxs (Y'++(ls++rest)),kx k n⟩ r):vcallB P G ⟨fr,bxs (Y++(ls++rest)),kx k n⟩ f args K:=by
 unfold vcallB kD
 simp only[hc]
 have cn:(Y++ls).length=k+ls.length:=by rw[aj,hY]
 have vT:(Y'++ls).length=(Y++ls).length:=by rw[aj,cn,UC]
 have hρ:∀ i,i<(Y++ls).length→rho (List.range (Y++ls).length) (kx k n) i=i:=fun i hi=>G2 hi
 have zr:∀ b∈Y'++ls,∀ x∈b,x.lt (Y++ls).length:=fun b hb x hx=>by
  rcases aZ.1 hb with h | h
  ·exact(bV b h x hx).mono (by omega)
  ·exact hf.2.1.2.1 b (List.mem_append_right _ h) x hx
 refine⟨List.range (Y++ls).length,cargs,Y++ls,r,Y'++ls,hf,?_,⟨by simp,kr⟩,?_,?_⟩
 ·rw[en,jx fun x hx=>tV (hf.2.1.1 x hx) hρ]
 ·refine uX hρ _ 0 (by omega) hf.2.1.2.1 (xN _ _ _ _ fun i b hb=>?_)
  have hi:=(ae.1 hb).1
  rw[aK]
  rw[aj] at hn
  refine⟨by simp only[kx];omega,?_⟩
  rw[← bw]
  simp only[bxs,ay]
  rw[az hi,hb];rfl
 ·rw[sj hρ (Y'++ls) 0 _ (by omega) zr,tQ,hr,← bw,Ny vT,vT,Nat.sub_self,eI,bw]
  exact hK
end
section
variable {P:Program} {G:Gl} {fr:Nat→V} {k n nb:Nat} {Y Y' ls:List (List V)}
def ltL (m:Nat) (l:List (List V)):Prop:=∀ b∈l,∀ x∈b,x.lt m
theorem G3 {l:List (Nat×V)} {bl:List (List V)} {k:Nat} {bx:Nat→List V} (hl:∀ p∈l,p.2.lt bl.length) (hb:ltL bl.length bl) (hk:k≤bl.length) (hn:bl.length≤nb) (h1:FL l fr) (h2:∀ i,i<bl.length→bxs bl i=bx i) :
 S.Le k (hdS l bl) ⟨fr,bx,nb⟩:=by
 refine⟨hk,h1.le,hn,fun i hi=>by simpa[hdS] using h2 i hi,fun t=>GX hl t,fun i hi x hx=>?_⟩
 simp only[hdS] at hi hx
 have:bxs bl i∈bl:=by
  simp only[bxs,List.getD,ab hi,cG];exact bM hi
 exact hb _ this x hx
theorem acd {l:List (Nat×V)} {rest:List (List V)} (hY:Y.length=k) (bV:ltL k Y) {m n:Nat} (hm:ls.length=m) (hn:(ls++rest).length=n) (dQ:ltL (kx k m) ls) (hl:∀ p∈l,p.2.lt (kx k m)) (h1:FL l fr) {j:Nat} (hj:j≤m) :
 S.Le (kx k j) (hdS l (Y++ls)) ⟨fr,bxs (Y++(ls++rest)),kx k n⟩:=by
 have cn:(Y++ls).length=kx k m:=by rw[aj,hY,hm];rfl
 rw[aj] at hn
 refine G3 (by rw[cn];exact hl) (fun b hb x hx=>?_) (by rw[cn];simp only[kx];omega) (by rw[cn];simp only[kx];omega) h1 fun i hi=>?_
 ·rw[cn]
  rcases aZ.1 hb with h | h
  ·exact(bV b h x hx).mono (by simp only[kx];omega)
  ·exact dQ b h x hx
 ·rw[← bw]
  simp only[bxs,ay]
  rw[az hi]
theorem WQ {ls':List (List V)} {f:FuncId} {fn:Func} {c:Code} {args:List V} {r:V} (tr:List Nat) (hm:P.follows .mixedOrders=true) (hf:P.funcs[f]?=some fn) (hb:fn.body=some c) (np:(fn.name== "runtime.NumGoroutine")=false)
 {rs:List ResultVar} (OL:fn.results.toList=rs) {nt:Nat} (hn:fn.ntmps=nt) (vG:cok nt tr c=true) (cn:args.length≤nt) (ov:r.compT=true)
 (hY:Y.length=k) (UC:Y'.length=k) (bV:ltL k Y) {m:Nat} (dQ:ls.length=m) (apL:ls'.length=m) (hl:ltL (kx k m) ls) (ha:∀ x∈args,x.lt (kx k m))
 (h:gZ P G tr (kx k m) c (Ar P (kx k m) r (Y'++ls') rs) ⟨frm 0 args,bxs (Y++ls),kx k m⟩):FnB P G f args (Y++ls) r (Y'++ls'):=by
 subst hn
 subst OL
 have Dl:(Y++ls).length=kx k m:=by rw[aj,hY,dQ];rfl
 refine O5 tr hm hf hb np cn vG ov ⟨fun x hx=>by rw[Dl];exact ha x hx,fun b hb x hx=>?_,by rw[aj,aj,hY,UC,dQ,apL];exact ar _⟩ ?_
 ·rw[Dl]
  rcases aZ.1 hb with h | h
  ·exact(bV b h x hx).mono (by simp only[kx];omega)
  ·exact hl b h x hx
 ·rw[Nr] at h
  rw[Dl];exact h
theorem ace {f:FuncId} {fn:Func} {c:Code} {args:List V} {r:V} (tr:List Nat) (hm:P.follows .mixedOrders=true) (hf:P.funcs[f]?=some fn) (hb:fn.body=some c) (np:(fn.name== "runtime.NumGoroutine")=false)
 {rs:List ResultVar} (OL:fn.results.toList=rs) {nt:Nat} (hn:fn.ntmps=nt) (vG:cok nt tr c=true) (cn:args.length≤nt) (ov:r.compT=true)
 (hY:Y.length=k) (UC:Y'.length=k) (bV:ltL k Y) {m:Nat} (dQ:ls.length=m) (hl:ltL (kx k m) ls) (ha:∀ x∈args,x.lt (kx k m))
 (h:gZ P G tr (kx k m) c (Ar P (kx k m) r (Y'++ls) rs) ⟨frm 0 args,bxs (Y++ls),kx k m⟩):FnB P G f args (Y++ls) r (Y'++ls):=
 WQ tr hm hf hb np OL hn vG cn ov hY UC bV dQ dQ hl ha h
theorem WR {r:V} {rs:List ResultVar} {e:VE} (l:List (Nat×V)) {rest:List (List V)} {m n:Nat} (he:tR e=true) (hY:Y.length=k) (bV:ltL k Y) (hm:ls.length=m) (hn:(ls++rest).length=n) (dQ:ltL (kx k m) ls) (hl:∀ p∈l,p.2.lt (kx k m)) (h1:FL l fr)
 (hr:rl P false (hdS l (Y++ls)) r rs):Ar P (kx k m) r (Y++ls) rs e ⟨fr,bxs (Y++(ls++rest)),kx k n⟩:=
 ⟨Jv _ he,l,acd hY bV hm hn dQ hl h1 (ar _),hr⟩
end
section
variable {P:Program} {G:Gl} {fr:Nat→V} {k n:Nat} {Y Y' ls:List (List V)} {f:V} {args all cargs:List V} {K:S→V→Prop} {r:V}
