/- Values without memory: a round of a loop over a function: its contract, from the loop's text. -/
import Derived.Test.YtjfjdomfldolcaaGreatVlRunB
set_option linter.all false
namespace Go.Vl
open Go Go.RowKit
section
variable {P:Program} {G:Gl} {tr:List Nat} {n:Nat} {I0:Ft} {M:Mx} {w0:World} {I:Ft} {β:Nat→Option Nat} {ob:Loc→Option Nat} {s:S} {a:Act} {w:World} {base:Nat→Prop} {v:Value} {x:V}
theorem KR.toLR (h:KR I β w v x):LR base I β w none v x:=by
 rcases h with rfl | ⟨h1,h2⟩ | h
 ·simp only[LR];exact .un _
 ·exact .ofDR h2
 ·exact h.toLR
def frY (fl:List (Nat×V)) (ps:List Tmp) (xs:List V):Nat→V:=(ps.zip xs).foldl (fun f p=>up f p.1 p.2) (frs fl)
def H5 (L:Loop):VE→Loop
 | .normal=>{ L with state:=.ready,pending:=none }
 | .exit i=>{ L with state:=.done,pending:=some (.exit i) }
 | .ret=>{ L with state:=.done,pending:=some .ret }
def ac0:VE→Bool
 | .normal=>true
 |_=>false
def akd (k:Nat) (r:V) (b1:List (List V)) (e:VE) (s:S):Prop:=
 r=.c (.lit (.bool (ac0 e)))∧∃ L fl gs,(s.bx 0=.lp L fl::gs∧0<s.nb)∧∃ l,S.Le k (hdS l b1) { s with bx:=up s.bx 0 (.lp (H5 L e) fl::gs) }
def SY (k:Nat) (R:V→List (List V)→Prop) (e:VE) (s:S):Prop:=∃ r b1,R r b1∧akd k r b1 e s
theorem MQ:∀ (fl:List (Nat×V)) (t:Nat),frs fl t=.un∨(t,frs fl t)∈fl
 |[],t=>.inl rfl
 |(i,x)::r,t=>by
  by_cases h:t=i
  ·subst h;right;simp[frs]
  ·rcases MQ r t with h1 | h1
   ·left;simp[frs,ak,h,h1]
   ·right;simp[frs,ak,h,h1]
theorem SZ:∀ (ps:List Tmp) (xs:List V) (us:List Value) (f:Nat→V) (tm:Array Value),ps.length=xs.length→us.length=xs.length→(∀ p∈ps,p<tm.size)→
 (∀ j x,xs[j]?=some x→LR base I β w none (us.getD j undef) x)→(∀ t,LR base I β w none (tm.getD t undef) (f t))→
 (∀ t,LR base I β w none (((ps.zip us).foldl (fun tm (p:Tmp×Value)=>tm.setIfInBounds p.1 p.2) tm).getD t undef) ((ps.zip xs).foldl (fun f (p:Tmp×V)=>up f p.1 p.2) f t))∧
  ((ps.zip us).foldl (fun tm (p:Tmp×Value)=>tm.setIfInBounds p.1 p.2) tm).size=tm.size
 |[],_,_,f,tm,_,_,_,_,hf=>⟨hf,rfl⟩
 |p::ps,[],_,_,_,h,_,_,_,_=>by simp at h
 |p::ps,x::xs,[],_,_,_,h,_,_,_=>by simp at h
 |p::ps,x::xs,u::us,f,tm,h1,h2,h3,h4,hf=>by
  have hx:LR base I β w none u x:=h4 0 x rfl
  have hp:p<tm.size:=h3 p (a8 ..)
  obtain⟨q1,q2⟩:=SZ ps xs us (up f p x) (tm.setIfInBounds p u) (by simpa using h1) (by simpa using h2) (fun q hq=>by rw[dw];exact h3 q (aD _ hq))
   (fun j y hy=>by simpa using h4 (j+1) y (by simpa using hy)) (fun t=>by
    by_cases ht:t=p
    ·subst ht;rw[bW,lN _ _ _ hp];exact hx
    ·rw[cY _ _ ht,getD_set_ne _ _ _ _ ht];exact hf t)
  exact⟨q1,by rw[List.zip_cons_cons,br,q2,dw]⟩
theorem St.initF {ob:Nat→Nat→Option Nat} {tm:Array Value} {fr:Nat→V} {b0:List (List V)} (hI:∀ b o,I b o→b<w.heap.size) (hg:GOK G I w) (hB:BxR (Wr M w) I w β ob b0) (fW:tm.size=n)
 (tq:∀ t,LR (Wr M w) I β w none (tm.getD t undef) (fr t)):St G n I ⟨M.m,β,[]⟩ w I β (obB ob) ⟨fr,bxs b0,b0.length⟩ { tmps:=tm,defers:=[] } w:=by
 have h0:St G ((#[]:Array Value)++Array.replicate (0 - (#[]:Array Value).size) undef).size I ⟨M.m,β,[]⟩ w I β (obB ob) ⟨fun j=>([]:List V).getD j .un,bxs b0,b0.length⟩ { tmps:=#[]++Array.replicate (0 - (#[]:Array Value).size) undef,defers:=[] } w:=
  St.initB (n:=0) (vs:=#[]) (args:=[]) hI hg hB rfl (by simp) rfl
 exact {
  size:=fW,defers:=rfl,below:=h0.below,ilow:=h0.ilow,kept:=h0.kept,ihigh:=h0.ihigh,ibnd:=h0.ibnd
  fr:=fun t=>by simp only[obB];exact tq t
  bx:=h0.bx,bnone:=h0.bnone,ext:=h0.ext,bnew:=h0.bnew,binj:=h0.binj,oinj:=h0.oinj,obx:=h0.obx,obnd:=h0.obnd,glob:=h0.glob }
theorem ahz {L:Loop} {fl:List (Nat×V)} {gs:List V} {xs:List V} {bs:List (List V)} {R:V→List (List V)→Prop} (tr:List Nat) (hm:P.follows .mixedOrders=true) (alH:L.state=.ready) (wZ:L.params.toList.length=xs.length)
 (JB:∀ p∈L.params.toList,p<L.defers) (agl:cok L.defers tr L.assign=true) (agm:cok L.defers tr L.body=true)
 (WJ:(∀ x∈xs,x.lt (bs.length+1))∧(∀ b∈(V.lp L fl::gs)::bs,∀ x∈b,x.lt (bs.length+1))∧∀ r b1,R r b1→bs.length+1≤b1.length)
 (h:iI P G tr (bs.length+1) L.assign (fun e s=>e=.normal∧(s.bx 0=.lp L fl::gs∧0<s.nb)∧iI P G tr (bs.length+1) L.body (SY (bs.length+1) R) { s with bx:=up s.bx 0 (.lp { L with state:=.busy } fl::gs) })
  ⟨frY fl L.params.toList xs,bxs ((V.lp L fl::gs)::bs),bs.length+1⟩) (WI:J6 tr=false:=by rfl):YE P G xs ((V.lp L fl::gs)::bs) R:=by
 refine⟨WJ,fun I M w vs β ob l hI hg hB hβ0 fW ha=>?_⟩
 obtain⟨blk,cur,e1,e2,e3,e4,e5,e7⟩:=hB.bx 0 _ rfl
 rw[hβ0] at e1;cases e1
 obtain⟨f,tm,d,⟨h3,nQ⟩,mg,rfl⟩:∃ (f:FuncId) (tm:Array Value) (d:Nat),(w.heap[l]?=some (.loop { L with fn:=f,tmps:=tm,defers:=d })∧tm.size=L.defers)∧∃ m:Nat,cur=#[Value.tuple tm]++Array.replicate m undef:=e3
 have kP:∀ t x,(t,x)∈fl→KR I β w (tm.getD t undef) x:=by
  have:=e5 0
  have h5:LR (Wr M w) I β w (ob 0 0) (.tuple tm) (.lp L fl):=by
   have e:(#[Value.tuple tm]++Array.replicate mg undef).getD 0 undef=.tuple tm:=by simp[Array.getD]
   rw[e] at this
   exact this
  simp only[LR] at h5
  obtain⟨tm',e,h6⟩:=h5
  cases e;exact h6
 have hy:=run_yield (P:=P) (args:=vs) h3 (by rw[fW];simpa using wZ.symm)
 have alF:(L.params.zip vs).foldl (fun tmps (x:Tmp×Value)=>tmps.setIfInBounds x.1 x.2) tm=(L.params.toList.zip vs.toList).foldl (fun tm (p:Tmp×Value)=>tm.setIfInBounds p.1 p.2) tm:=by
  rw[← Array.foldl_toList,Array.toList_zip]
 obtain⟨tq,jA⟩:=SZ (base:=Wr M w) (I:=I) (β:=β) (w:=w) L.params.toList xs vs.toList (frs fl) tm wZ (by simpa using fW) (fun p hp=>by rw[nQ];exact JB p hp) (fun j x hx=>by
  have:=ha j x hx
  rw[aw,aM,← aj];exact this)
  (fun t=>by
   rcases MQ fl t with h1 | h1
   ·rw[h1];simp only[LR];exact .un _
   ·exact(kP t _ h1).toLR)
 have aR:=St.initF (n:=L.defers) hI hg hB (jA.trans nQ) tq
 have AA:∀ i b,β i=some b→i<bs.length+1:=fun i b hi=>by
  by_cases h:i<bs.length+1
  ·exact h
  ·rw[hB.bnone i (by simp;omega)] at hi;cases hi
 refine⟨f,_,L.assign,L.body,hy,roundIn_of_wpIn (F:=Fence.wide) trivial ?_⟩
 have ajp:(Array.foldl (fun tmps x=>match x with | (t,a)=>tmps.setIfInBounds t a) tm (L.params.zip vs))=(L.params.toList.zip vs.toList).foldl (fun tm (p:Tmp×Value)=>tm.setIfInBounds p.1 p.2) tm:=alF
 show L.assign.wpIn (FW (some l)) 0 P _ { tmps:=Array.foldl (fun tmps x=>match x with | (t,a)=>tmps.setIfInBounds t a) tm (L.params.zip vs),defers:=[] } w
 rw[ajp]
 refine mO (l:=some l) (m:=0) hm (fun i b hi=>AA i b hi) (.inr WI) L.assign agl _ _ (fun e s1 a1 w1 hq dE=>?_) _ _ _ h (.of ⟨_,_,_,aR⟩)
 obtain⟨rfl,⟨uV,ajq⟩,hq⟩:=hq
 obtain⟨I1,β1,ob1,nL⟩:=dE.se WI
 have zZ:β1 0=some l:=nL.ext 0 l hβ0
 obtain⟨blk,cur,g1,g2,g3,g4,g5,g7⟩:=nL.bx 0 ajq
 rw[zZ] at g1;cases g1
 rw[uV] at g3 g5
 rw[uV] at g4
 obtain⟨f1,tm1,d1,⟨k3,kts⟩,mg1,rfl⟩:∃ (f:FuncId) (tm:Array Value) (d:Nat),(w1.heap[l]?=some (.loop { L with fn:=f,tmps:=tm,defers:=d })∧tm.size=L.defers)∧∃ m:Nat,cur=#[Value.tuple tm]++Array.replicate m undef:=g3
 refine⟨_,run_beginRound k3 alH,?_⟩
 have pj:=nL.reBox (o:=.loop { { L with fn:=f1,tmps:=tm1,defers:=d1 } with state:=.busy }) (l:=.lp { L with state:=.busy } fl::gs) (cur:=#[Value.tuple tm1]++Array.replicate mg1 undef) (od:=fun j=>ob1 (.b 0 j)) ajq zZ
  ⟨f1,tm1,d1,⟨nX (bh.1 k3).1,kts⟩,mg1,rfl⟩ g4 (fun j=>by
   have:=g5 j
   cases j with
   |zero=>exact this
   |succ j=>exact this) (fun j b hb=>hb)
 refine mO (l:=some l) (m:=0) hm (fun i b hi=>AA i b hi) (.inr WI) L.body agm _ _ (fun e s3 a3 w3 hq dE=>?_) _ _ _ hq (.of ⟨_,_,_,pj⟩)
 obtain⟨r,b1,hR,rfl,L',fl',gs',⟨ajr,ajs⟩,lf,jW⟩:=hq
 obtain⟨I3,β3,ob3,zj⟩:=dE.se WI
 have hl3:β3 0=some l:=zj.ext 0 l hβ0
 obtain⟨blk,cur,g1,g2,g3,g4,g5,g7⟩:=zj.bx 0 ajs
 rw[hl3] at g1;cases g1
 rw[ajr] at g3 g5
 rw[ajr] at g4
 obtain⟨f3,tm3,d3,⟨k3,kts⟩,mg3,rfl⟩:∃ (f:FuncId) (tm:Array Value) (d:Nat),(w3.heap[l]?=some (.loop { L' with fn:=f,tmps:=tm,defers:=d })∧tm.size=L'.defers)∧∃ m:Nat,cur=#[Value.tuple tm]++Array.replicate m undef:=g3
 have fin:∀ (jump:Option Code) (L3:Loop),L3={ H5 L' e with fn:=f3,tmps:=tm3,defers:=d3 }→(H5 L' e).defers=L'.defers→∃ I' β' ob' o',BelowM (GT G) M w (World.putObj w3 l (.loop L3))∧(∀ b o,I b o→I' b o)∧(∀ b o,I' b o→I b o∨(Wr M w b∧b<(World.putObj w3 l (.loop L3)).heap.size))∧
  (∀ b o,I b o→(World.putObj w3 l (.loop L3)).cell? ⟨b,o,none⟩=w.cell? ⟨b,o,none⟩)∧(∀ i,i<((V.lp L fl::gs)::bs).length→β' i=β i)∧(∀ i b,((V.lp L fl::gs)::bs).length≤i→β' i=some b→Wr M w b)∧BxR (Wr M w) I' (World.putObj w3 l (.loop L3)) β' ob' b1∧
  LR (Wr M w) I' β' (World.putObj w3 l (.loop L3)) o' (.bool (ac0 e)) (.c (.lit (.bool (ac0 e))))∧(∀ b,o'=some b→(b<(World.putObj w3 l (.loop L3)).heap.size∧Wr M w b)∧(∀ i j,ob' i j≠some b)∧∀ i,β' i≠some b):=by
  intro jump L3 hL3 hyd
  have alG:=zj.reBox (o:=.loop L3) (l:=.lp (H5 L' e) fl'::gs') (cur:=#[Value.tuple tm3]++Array.replicate mg3 undef) (od:=fun j=>ob3 (.b 0 j)) ajs hl3
   ⟨f3,tm3,d3,⟨by rw[hL3];exact nX (bh.1 k3).1,by rw[hyd];exact kts⟩,mg3,rfl⟩ g4 (fun j=>by
    have:=g5 j
    cases j with
    |zero=>exact this
    |succ j=>exact this) (fun j b hb=>hb)
  obtain⟨I',β',ob',cK⟩:=(SE.weaken (G:=G) ⟨_,_,_,alG⟩ (fun i b hi=>AA i b hi) jW)
  have xb:∀ i,i<((V.lp L fl::gs)::bs).length→β' i=β i:=fun i hi=>by
   obtain⟨blk,_,e1,_⟩:=hB.bx i _ (ae hi)
   rw[e1];exact cK.ext i blk e1
  refine⟨I',β',fun i j=>if i<b1.length then ob' (.b i j) else none,none,⟨cK.below.os,cK.below.tape,cK.below.output,cK.below.size,cK.below.block,cK.below.drawn⟩,cK.ilow,fun b o EN=>?_,cK.kept,xb,fun i b hi hb=>?_,?_,.ofLit rfl,fun b hb=>by cases hb⟩
  ·rcases cK.ihigh b o EN with h4 | h4
   ·exact .inl h4
   ·exact .inr ⟨h4,cK.ibnd b o EN⟩
  ·rcases cK.bnew i b hb with h4 | h4
   ·have:=AA i b h4;simp at hi;omega
   ·exact h4
  ·exact {
    bx:=fun i cs jc=>by
     have hi:i<b1.length:=(ah.1 jc).1
     obtain⟨blk,cur,e1,e2,e3,e4,e5,e7⟩:=cK.bx i hi
     have e:bxs b1 i=cs:=by simp[bxs,List.getD,jc]
     refine⟨blk,cur,e1,e2,by simp only[hdS,e] at e3;exact e3,by simp only[hdS,e] at e4;exact e4,fun j=>?_,e7⟩
     have:=e5 j
     simp only[hdS,e] at this
     rw[if_pos hi];exact this
    bnone:=fun i hi=>cK.bnone i hi
    binj:=cK.binj
    oinj:=fun i j i' j' b h h'=>by
     split at h<;>try cases h
     split at h'<;>try cases h'
     have:=cK.oinj _ _ b h h'
     simp only[Loc.b.injEq] at this;exact this
    obx:=fun i j b k h=>by
     split at h<;>try cases h
     exact cK.obx _ b k h
    obnd:=fun i j b h=>by
     split at h<;>try cases h
     exact cK.obnd _ b h
    olen:=fun i j hi=>by rw[if_neg (by omega)] }
 cases e with
 |normal=>
  obtain⟨I',β',ob',o',q⟩:=fin none _ rfl rfl
  exact⟨_,_,run_endRound none k3,_,b1,hR,_,I',β',ob',o',rfl,q⟩
 |exit i=>
  obtain⟨I',β',ob',o',q⟩:=fin (some (.exit i)) _ rfl rfl
  exact⟨_,_,run_endRound (some (.exit i)) k3,_,b1,hR,_,I',β',ob',o',rfl,q⟩
 |ret=>
  obtain⟨I',β',ob',o',q⟩:=fin (some .ret) _ rfl rfl
  exact⟨_,_,run_endRound (some .ret) k3,_,b1,hR,_,I',β',ob',o',rfl,q⟩
end
def kx (k j:Nat):Nat:=k+j
section
variable {k:Nat} {Y:List (List V)}
theorem ahA {i j:Nat}:(kx k i=kx k j)=(i=j):=by simp[kx]
theorem kz {i j:Nat}:(kx k i<kx k j)=(i<j):=by simp[kx]
theorem fp {i:Nat}:kx k i+1=kx k (i+1):=rfl
theorem nz (h:Y.length=k) {ls:List (List V)} {j:Nat}:bxs (Y++ls) (kx k j)=bxs ls j:=by
 subst h;simp only[bxs,kx,aw];rw[aH (by omega)];congr 2;omega
theorem MR (h:Y.length=k) {ls:List (List V)} {j:Nat} (hj:j<k):bxs (Y++ls) j=bxs Y j:=by
 subst h;simp only[bxs,aw];rw[az hj]
theorem j3 (h:Y.length=k) {ls l2:List (List V)} {j:Nat} {c:List V} (h2:∀ i,bxs l2 i=if i=j then c else bxs ls i):up (bxs (Y++ls)) (kx k j) c=bxs (Y++l2):=by
 funext i
 rw[ak]
 by_cases hi:i<k
 ·rw[if_neg (by simp only[kx];omega),MR h hi,MR h hi]
 ·obtain⟨d,rfl⟩:∃ d,i=kx k d:=⟨i - k,by simp only[kx];omega⟩
  rw[nz h,nz h,h2]
  simp only[ahA]
theorem bk0 (h:Y.length=k) {a:List V} {l:List (List V)}:bxs (Y++a::l) (kx k 0)=a:=by rw[nz h];rfl
theorem bk1 (h:Y.length=k) {a b:List V} {l:List (List V)}:bxs (Y++a::b::l) (kx k 1)=b:=by rw[nz h];rfl
theorem bk2 (h:Y.length=k) {a b c:List V} {l:List (List V)}:bxs (Y++a::b::c::l) (kx k 2)=c:=by rw[nz h];rfl
theorem bk3 (h:Y.length=k) {a b c d:List V} {l:List (List V)}:bxs (Y++a::b::c::d::l) (kx k 3)=d:=by rw[nz h];rfl
theorem bk4 (h:Y.length=k) {a b c d e:List V} {l:List (List V)}:bxs (Y++a::b::c::d::e::l) (kx k 4)=e:=by rw[nz h];rfl
theorem bk5 (h:Y.length=k) {a b c d e f:List V} {l:List (List V)}:bxs (Y++a::b::c::d::e::f::l) (kx k 5)=f:=by rw[nz h];rfl
theorem uk0 (h:Y.length=k) {a x:List V} {l:List (List V)}:up (bxs (Y++a::l)) (kx k 0) x=bxs (Y++x::l):=j3 h fun i=>by
 match i with | 0=>rfl | i+1=>simp[bxs]
theorem uk1 (h:Y.length=k) {a b x:List V} {l:List (List V)}:up (bxs (Y++a::b::l)) (kx k 1) x=bxs (Y++a::x::l):=j3 h fun i=>by
 match i with | 0=>rfl | 1=>rfl | i+2=>simp[bxs]
theorem uk2 (h:Y.length=k) {a b c x:List V} {l:List (List V)}:up (bxs (Y++a::b::c::l)) (kx k 2) x=bxs (Y++a::b::x::l):=j3 h fun i=>by
 match i with | 0=>rfl | 1=>rfl | 2=>rfl | i+3=>simp[bxs]
theorem uk3 (h:Y.length=k) {a b c d x:List V} {l:List (List V)}:up (bxs (Y++a::b::c::d::l)) (kx k 3) x=bxs (Y++a::b::c::x::l):=j3 h fun i=>by
 match i with | 0=>rfl | 1=>rfl | 2=>rfl | 3=>rfl | i+4=>simp[bxs]
theorem uk4 (h:Y.length=k) {a b c d e x:List V} {l:List (List V)}:up (bxs (Y++a::b::c::d::e::l)) (kx k 4) x=bxs (Y++a::b::c::d::x::l):=j3 h fun i=>by
 match i with | 0=>rfl | 1=>rfl | 2=>rfl | 3=>rfl | 4=>rfl | i+5=>simp[bxs]
theorem uk5 (h:Y.length=k) {a b c d e f x:List V} {l:List (List V)}:up (bxs (Y++a::b::c::d::e::f::l)) (kx k 5) x=bxs (Y++a::b::c::d::e::x::l):=j3 h fun i=>by
 match i with | 0=>rfl | 1=>rfl | 2=>rfl | 3=>rfl | 4=>rfl | 5=>rfl | i+6=>simp[bxs]
theorem nk0 (h:Y.length=k) {x:List V}:up (bxs Y) (kx k 0) x=bxs (Y++[x]):=by
 have:=j3 (ls:=[]) (l2:=[x]) (j:=0) (c:=x) h fun i=>by
  match i with | 0=>rfl | i+1=>simp[bxs]
 rwa [bq] at this
theorem nk1 (h:Y.length=k) {a x:List V}:up (bxs (Y++[a])) (kx k 1) x=bxs (Y++[a,x]):=j3 h fun i=>by
 match i with | 0=>rfl | 1=>rfl | i+2=>simp[bxs]
theorem nk2 (h:Y.length=k) {a b x:List V}:up (bxs (Y++[a,b])) (kx k 2) x=bxs (Y++[a,b,x]):=j3 h fun i=>by
 match i with | 0=>rfl | 1=>rfl | 2=>rfl | i+3=>simp[bxs]
theorem nk3 (h:Y.length=k) {a b c x:List V}:up (bxs (Y++[a,b,c])) (kx k 3) x=bxs (Y++[a,b,c,x]):=j3 h fun i=>by
 match i with | 0=>rfl | 1=>rfl | 2=>rfl | 3=>rfl | i+4=>simp[bxs]
theorem nk4 (h:Y.length=k) {a b c d x:List V}:up (bxs (Y++[a,b,c,d])) (kx k 4) x=bxs (Y++[a,b,c,d,x]):=j3 h fun i=>by
 match i with | 0=>rfl | 1=>rfl | 2=>rfl | 3=>rfl | 4=>rfl | i+5=>simp[bxs]
theorem nk5 (h:Y.length=k) {a b c d e x:List V}:up (bxs (Y++[a,b,c,d,e])) (kx k 5) x=bxs (Y++[a,b,c,d,e,x]):=j3 h fun i=>by
 match i with | 0=>rfl | 1=>rfl | 2=>rfl | 3=>rfl | 4=>rfl | 5=>rfl | i+6=>simp[bxs]
theorem bk6 (hY:Y.length=k) {a b c d e f g:List V} {r:List (List V)}:bxs (Y++a::b::c::d::e::f::g::r) (kx k 6)=g:=by rw[nz hY];rfl
theorem bk7 (hY:Y.length=k) {a b c d e f g h:List V} {r:List (List V)}:bxs (Y++a::b::c::d::e::f::g::h::r) (kx k 7)=h:=by rw[nz hY];rfl
theorem bk8 (hY:Y.length=k) {a b c d e f g h i:List V} {r:List (List V)}:bxs (Y++a::b::c::d::e::f::g::h::i::r) (kx k 8)=i:=by rw[nz hY];rfl
theorem uk6 (hY:Y.length=k) {a b c d e f g x:List V} {r:List (List V)}:up (bxs (Y++a::b::c::d::e::f::g::r)) (kx k 6) x=bxs (Y++a::b::c::d::e::f::x::r):=j3 hY fun q=>by
 match q with | 0=>rfl | 1=>rfl | 2=>rfl | 3=>rfl | 4=>rfl | 5=>rfl | 6=>rfl | q+7=>simp[bxs]
theorem uk7 (hY:Y.length=k) {a b c d e f g h x:List V} {r:List (List V)}:up (bxs (Y++a::b::c::d::e::f::g::h::r)) (kx k 7) x=bxs (Y++a::b::c::d::e::f::g::x::r):=j3 hY fun q=>by
 match q with | 0=>rfl | 1=>rfl | 2=>rfl | 3=>rfl | 4=>rfl | 5=>rfl | 6=>rfl | 7=>rfl | q+8=>simp[bxs]
theorem uk8 (hY:Y.length=k) {a b c d e f g h i x:List V} {r:List (List V)}:up (bxs (Y++a::b::c::d::e::f::g::h::i::r)) (kx k 8) x=bxs (Y++a::b::c::d::e::f::g::h::x::r):=j3 hY fun q=>by
 match q with | 0=>rfl | 1=>rfl | 2=>rfl | 3=>rfl | 4=>rfl | 5=>rfl | 6=>rfl | 7=>rfl | 8=>rfl | q+9=>simp[bxs]
theorem nk6 (hY:Y.length=k) {a b c d e f x:List V}:up (bxs (Y++[a,b,c,d,e,f])) (kx k 6) x=bxs (Y++[a,b,c,d,e,f,x]):=j3 hY fun q=>by
 match q with | 0=>rfl | 1=>rfl | 2=>rfl | 3=>rfl | 4=>rfl | 5=>rfl | 6=>rfl | q+7=>simp[bxs]
theorem nk7 (hY:Y.length=k) {a b c d e f g x:List V}:up (bxs (Y++[a,b,c,d,e,f,g])) (kx k 7) x=bxs (Y++[a,b,c,d,e,f,g,x]):=j3 hY fun q=>by
 match q with | 0=>rfl | 1=>rfl | 2=>rfl | 3=>rfl | 4=>rfl | 5=>rfl | 6=>rfl | 7=>rfl | q+8=>simp[bxs]
theorem nk8 (hY:Y.length=k) {a b c d e f g h x:List V}:up (bxs (Y++[a,b,c,d,e,f,g,h])) (kx k 8) x=bxs (Y++[a,b,c,d,e,f,g,h,x]):=j3 hY fun q=>by
 match q with | 0=>rfl | 1=>rfl | 2=>rfl | 3=>rfl | 4=>rfl | 5=>rfl | 6=>rfl | 7=>rfl | 8=>rfl | q+9=>simp[bxs]
end
theorem ake {k:Nat} {Y:List (List V)} (h:Y.length=k) {a:List V} {l r:List (List V)}:bxs (Y++(a::l++r)) (kx k 0)=a:=by rw[nz h];rfl
theorem ac1 {k n:Nat} {Y ls:List (List V)} (h:Y.length=k) (hn:ls.length=n) {x:List V}:up (bxs (Y++ls)) (kx k n) x=bxs (Y++(ls++[x])):=j3 h fun i=>by
 subst hn
 simp only[bxs,aw]
 by_cases hi:i<ls.length
 ·rw[az hi,if_neg (by omega)]
 ·by_cases h2:i=ls.length
  ·subst h2;simp
  ·rw[if_neg h2,bw (by simp;omega),bw (by omega)]
theorem ac2 {k n:Nat} {Y ls:List (List V)} (h:Y.length=k) (hn:ls.length=n) {x:List V}:bxs (Y++(ls++[x])) (kx k n)=x:=by
 rw[nz h];subst hn;simp[bxs]
theorem ac3 {k n:Nat} {Y ls:List (List V)} (h:Y.length=k) (hn:ls.length=n) {c x:List V}:up (bxs (Y++(ls++[c]))) (kx k n) x=bxs (Y++(ls++[x])):=j3 h fun i=>by
 subst hn
 simp only[bxs,aw]
 by_cases hi:i<ls.length
 ·rw[az hi,az hi,if_neg (by omega)]
 ·by_cases h2:i=ls.length
  ·subst h2;simp
  ·rw[if_neg h2,bw (by simp;omega),bw (by simp;omega)]
theorem V.ltP.mono {m n:Nat} {v:V} (h:v.ltP m) (jW:m≤n):v.ltP n:=by
 cases v<;>simp_all[V.ltP]<;>omega
theorem V.lt.mono {m n:Nat} {v:V} (h:v.lt m) (jW:m≤n):v.lt n:=by
 cases v
 all_goals first
  |trivial
  |(simp only[V.lt] at h ⊢;omega)
  |(simp only[V.lt] at h ⊢;exact fun x hx=>(h x hx).mono jW)
  |(simp only[V.lt] at h ⊢;exact⟨fun x hx=>(h.1 x hx).mono jW,fun x hx=>(h.2 x hx).mono jW⟩)
  |(simp only[V.lt] at h ⊢;exact h)
theorem vj {ρ:Nat→Nat} {m:Nat} {x:V} (h:x.ltP m) (hρ:∀ i,i<m→ρ i=i):x.renP ρ=x:=by
 cases x<;>simp_all[V.renP,V.ltP]
theorem rP {ρ:Nat→Nat} {m:Nat} {x:V} (h:x.lt m) (hρ:∀ i,i<m→ρ i=i):x.ren ρ=x:=by
 cases x
 all_goals first
  |rfl
  |(simp only[V.lt] at h;simp only[V.ren];rw[hρ _ h])
  |(simp only[V.lt] at h;simp only[V.ren];rw[iP fun x hx=>vj (h x hx) hρ])
  |(simp only[V.lt] at h;simp only[V.ren];rw[iP fun x hx=>vj (h.1 x hx) hρ,iP fun x hx=>vj (h.2 x hx) hρ])
  |(simp only[V.lt] at h;simp only[V.ren];rw[iP fun p hp=>by rw[vj (h p hp) hρ]])
theorem pM {ρ:Nat→Nat} {m:Nat} (hρ:∀ i,i<m→ρ i=i):∀ (b1:List (List V)) (k:Nat) (f:Nat→List V),k+b1.length≤m→(∀ b∈b1,∀ x∈b,x.lt m)→gz ρ k b1 f=gz (fun i=>i) k b1 f
 |[],_,_,_,_=>rfl
 |b::r,k,f,hk,h=>by
  simp only[aZ] at hk
  simp only[gz]
  rw[hρ k (by omega),pM hρ r (k+1) _ (by omega) fun b hb=>h b (aD _ hb),pL,iP fun x hx=>rP (h b (a8 ..) x hx) hρ]
theorem rQ {ρ:Nat→Nat} {m nb:Nat} {f:Nat→List V} (hρ:∀ i,i<m→ρ i=i):∀ (b1:List (List V)) (k:Nat),k+b1.length≤m→(∀ b∈b1,∀ x∈b,x.lt m)→rb f nb (fun i=>i) k b1→rb f nb ρ k b1
 |[],_,_,_,_=>trivial
 |b::r,k,hk,h,h2=>by
  simp only[aZ] at hk
  refine⟨?_,rQ hρ r (k+1) (by omega) (fun b hb=>h b (aD _ hb)) h2.2⟩
  rw[hρ k (by omega),iP fun x hx=>rP (h b (a8 ..) x hx) hρ]
  have:=h2.1
  rw[pL] at this
  exact this
theorem AN {m nb i:Nat} (h:i<m):rho (List.range m) nb i=i:=by
 simp only[rho,List.length_range,if_pos h,aw]
 rw[ae (by simpa using h)]
 simp
section
variable {P:Program} {G:Gl} {fr:Nat→V} {k n:Nat} {Y Y' ls rest:List (List V)} {f:V} {args all cargs:List V} {K:S→V→Prop} {r:V}
theorem La {b0 b1 rest:List (List V)} (hb:b1.length=b0.length):(fun i=>if 0≤i∧i<0+b1.length then b1.getD (i - 0) [] else bxs (b0++rest) i)=bxs (b1++rest):=by
 funext i
 simp only[ar,jt,aX,Nat.sub_zero,bxs,aw]
 split
 ·rename_i h;rw[az h]
 ·rename_i h
  rw[aH (by omega),aH (by omega),hb]
theorem DY {g:FuncId} (hc:gv f args=some (g,all)) (hf:FnB P G g cargs (Y++ls) r (Y'++ls)) (eF:all.map V.fz=cargs) (hY:Y.length=k) (Qx:Y'.length=k) (bK:∀ b∈Y',∀ x∈b,x.lt k)
 (hn:(ls++rest).length=n) (hr:∀ ρ,r.ren ρ=r) (hK:K ⟨fr,bxs (Y'++(ls++rest)),kx k n⟩ r):vcallB P G ⟨fr,bxs (Y++(ls++rest)),kx k n⟩ f args K:=by
 unfold vcallB ke
 simp only[hc]
 have cg:(Y++ls).length=k+ls.length:=by rw[ai,hY]
 have vY:(Y'++ls).length=(Y++ls).length:=by rw[ai,cg,Qx]
 have hρ:∀ i,i<(Y++ls).length→rho (List.range (Y++ls).length) (kx k n) i=i:=fun i hi=>AN hi
 have rB:∀ b∈Y'++ls,∀ x∈b,x.lt (Y++ls).length:=fun b hb x hx=>by
  rcases aV.1 hb with h | h
  ·exact(bK b h x hx).mono (by omega)
  ·exact hf.2.1.2.1 b (List.mem_append_right _ h) x hx
 refine⟨List.range (Y++ls).length,cargs,Y++ls,r,Y'++ls,hf,?_,⟨by simp,jh⟩,?_,?_⟩
 ·rw[eF,iP fun x hx=>rP (hf.2.1.1 x hx) hρ]
 ·refine rQ hρ _ 0 (by omega) hf.2.1.2.1 (vg _ _ _ _ fun i b hb=>?_)
  have hi:=(ah.1 hb).1
  rw[aX]
  rw[ai] at hn
  refine⟨by simp only[kx];omega,?_⟩
  rw[← aI]
  simp only[bxs,aw]
  rw[az hi,hb];rfl
 ·rw[pM hρ (Y'++ls) 0 _ (by omega) rB,rM,hr,← aI,La vY,vY,lE,eC,aI]
  exact hK
end
section
variable {P:Program} {G:Gl} {fr:Nat→V} {k n nb:Nat} {Y Y' ls:List (List V)}
def ltL (m:Nat) (l:List (List V)):Prop:=∀ b∈l,∀ x∈b,x.lt m
theorem S0 {l:List (Nat×V)} {bl:List (List V)} {k:Nat} {bx:Nat→List V} (hl:∀ p∈l,p.2.lt bl.length) (hb:ltL bl.length bl) (hk:k≤bl.length) (hn:bl.length≤nb) (h1:FL l fr) (h2:∀ i,i<bl.length→bxs bl i=bx i) :
 S.Le k (hdS l bl) ⟨fr,bx,nb⟩:=by
 refine⟨hk,h1.le,hn,fun i hi=>by simpa[hdS] using h2 i hi,fun t=>KX hl t,fun i hi x hx=>?_⟩
 simp only[hdS] at hi hx
 have:bxs bl i∈bl:=by
  simp only[bxs,List.getD,ae hi,cx];exact bL hi
 exact hb _ this x hx
theorem Yt {l:List (Nat×V)} {rest:List (List V)} (hY:Y.length=k) (bK:ltL k Y) {m n:Nat} (hm:ls.length=m) (hn:(ls++rest).length=n) (dV:ltL (kx k m) ls) (hl:∀ p∈l,p.2.lt (kx k m)) (h1:FL l fr) {j:Nat} (hj:j≤m) :
 S.Le (kx k j) (hdS l (Y++ls)) ⟨fr,bxs (Y++(ls++rest)),kx k n⟩:=by
 have cg:(Y++ls).length=kx k m:=by rw[ai,hY,hm];rfl
 rw[ai] at hn
 refine S0 (by rw[cg];exact hl) (fun b hb x hx=>?_) (by rw[cg];simp only[kx];omega) (by rw[cg];simp only[kx];omega) h1 fun i hi=>?_
 ·rw[cg]
  rcases aV.1 hb with h | h
  ·exact(bK b h x hx).mono (by simp only[kx];omega)
  ·exact dV b h x hx
 ·rw[← aI]
  simp only[bxs,aw]
  rw[az hi]
theorem S1 {ls':List (List V)} {f:FuncId} {fn:Func} {c:Code} {args:List V} {r:V} (tr:List Nat) (hm:P.follows .mixedOrders=true) (hf:P.funcs[f]?=some fn) (hb:fn.body=some c) (mY:(fn.name== "runtime.NumGoroutine")=false)
 {rs:List ResultVar} (Mn:fn.results.toList=rs) {nt:Nat} (hn:fn.ntmps=nt) (vK:cok nt tr c=true) (cg:args.length≤nt) (oC:r.compT=true)
 (hY:Y.length=k) (Qx:Y'.length=k) (bK:ltL k Y) {m:Nat} (dV:ls.length=m) (alI:ls'.length=m) (hl:ltL (kx k m) ls) (ha:∀ x∈args,x.lt (kx k m))
 (h:iI P G tr (kx k m) c (Ap P (kx k m) r (Y'++ls') rs) ⟨frm 0 args,bxs (Y++ls),kx k m⟩):FnB P G f args (Y++ls) r (Y'++ls'):=by
 subst hn
 subst Mn
 have CG:(Y++ls).length=kx k m:=by rw[ai,hY,dV];rfl
 refine MN tr hm hf hb mY cg vK oC ⟨fun x hx=>by rw[CG];exact ha x hx,fun b hb x hx=>?_,by rw[ai,ai,hY,Qx,dV,alI];exact ab _⟩ ?_
 ·rw[CG]
  rcases aV.1 hb with h | h
  ·exact(bK b h x hx).mono (by simp only[kx];omega)
  ·exact hl b h x hx
 ·rw[K3] at h
  rw[CG];exact h
theorem Yu {f:FuncId} {fn:Func} {c:Code} {args:List V} {r:V} (tr:List Nat) (hm:P.follows .mixedOrders=true) (hf:P.funcs[f]?=some fn) (hb:fn.body=some c) (mY:(fn.name== "runtime.NumGoroutine")=false)
 {rs:List ResultVar} (Mn:fn.results.toList=rs) {nt:Nat} (hn:fn.ntmps=nt) (vK:cok nt tr c=true) (cg:args.length≤nt) (oC:r.compT=true)
 (hY:Y.length=k) (Qx:Y'.length=k) (bK:ltL k Y) {m:Nat} (dV:ls.length=m) (hl:ltL (kx k m) ls) (ha:∀ x∈args,x.lt (kx k m))
 (h:iI P G tr (kx k m) c (Ap P (kx k m) r (Y'++ls) rs) ⟨frm 0 args,bxs (Y++ls),kx k m⟩):FnB P G f args (Y++ls) r (Y'++ls):=
 S1 tr hm hf hb mY Mn hn vK cg oC hY Qx bK dV dV hl ha h
theorem S2 {r:V} {rs:List ResultVar} {e:VE} (l:List (Nat×V)) {rest:List (List V)} {m n:Nat} (he:ux e=true) (hY:Y.length=k) (bK:ltL k Y) (hm:ls.length=m) (hn:(ls++rest).length=n) (dV:ltL (kx k m) ls) (hl:∀ p∈l,p.2.lt (kx k m)) (h1:FL l fr)
 (hr:tR P false (hdS l (Y++ls)) r rs):Ap P (kx k m) r (Y++ls) rs e ⟨fr,bxs (Y++(ls++rest)),kx k n⟩:=
 ⟨H2 _ he,l,Yt hY bK hm hn dV hl h1 (ab _),hr⟩
end
section
variable {P:Program} {G:Gl} {fr:Nat→V} {k n:Nat} {Y Y' ls:List (List V)} {f:V} {args all cargs:List V} {K:S→V→Prop} {r:V}
