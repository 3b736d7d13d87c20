/- Values without memory: a round of a loop over a function: its contract, from the loop's text. -/
import Derived.Test.YtegbpjodbjhjeaaGreatDoorVlRunB
set_option linter.all false
namespace Go.Vl
open Go Go.RowKit
section
variable {P:Program} {G:Gl} {tr:List Nat} {n:Nat} {I0:Ft} {M:Mx} {w0:World} {I:Ft} {β:Nat→Option Nat} {ob:Loc→Option Nat} {s:S} {a:Act} {w:World} {base:Nat→Prop} {v:Value} {x:V}
theorem KR.toLR (h:KR I β w v x):LR base I β w none v x:=by
 rcases h with rfl | ⟨h1,h2⟩ | h
 ·simp only[LR];exact .un _
 ·exact .ofDR h2
 ·exact h.toLR
def frY (fl:List (Nat×V)) (ps:List Tmp) (xs:List V):Nat→V:=(ps.zip xs).foldl (fun f p=>up f p.1 p.2) (frs fl)
def C4 (L:Loop):VE→Loop
 | .normal=>{ L with state:=.ready,pending:=none }
 | .exit i=>{ L with state:=.done,pending:=some (.exit i) }
 | .ret=>{ L with state:=.done,pending:=some .ret }
def Wb:VE→Bool
 | .normal=>true
 |_=>false
def aaB (k:Nat) (r:V) (b1:List (List V)) (e:VE) (s:S):Prop:=
 r=.c (.lit (.bool (Wb e)))∧∃ L fl,(s.bx 0=[.lp L fl]∧0<s.nb)∧∃ l,S.Le k (hdS l b1) { s with bx:=up s.bx 0 [.lp (C4 L e) fl] }
theorem GY:∀ (fl:List (Nat×V)) (t:Nat),frs fl t=.un∨(t,frs fl t)∈fl
 |[],t=>.inl rfl
 |(i,x)::r,t=>by
  by_cases h:t=i
  ·subst h;right;simp[frs]
  ·rcases GY r t with h1 | h1
   ·left;simp[frs,ar,h,h1]
   ·right;simp[frs,ar,h,h1]
theorem Nj:∀ (ps:List Tmp) (xs:List V) (us:List Value) (f:Nat→V) (tm:Array Value),ps.length=xs.length→us.length=xs.length→(∀ p∈ps,p<tm.size)→
 (∀ j x,xs[j]?=some x→LR base I β w none (us.getD j undef) x)→(∀ t,LR base I β w none (tm.getD t undef) (f t))→
 (∀ t,LR base I β w none (((ps.zip us).foldl (fun tm (p:Tmp×Value)=>tm.setIfInBounds p.1 p.2) tm).getD t undef) ((ps.zip xs).foldl (fun f (p:Tmp×V)=>up f p.1 p.2) f t))∧
  ((ps.zip us).foldl (fun tm (p:Tmp×Value)=>tm.setIfInBounds p.1 p.2) tm).size=tm.size
 |[],_,_,f,tm,_,_,_,_,hf=>⟨hf,rfl⟩
 |p::ps,[],_,_,_,h,_,_,_,_=>by simp at h
 |p::ps,x::xs,[],_,_,_,h,_,_,_=>by simp at h
 |p::ps,x::xs,u::us,f,tm,h1,h2,h3,h4,hf=>by
  have hx:LR base I β w none u x:=h4 0 x rfl
  have hp:p<tm.size:=h3 p (aR ..)
  obtain⟨q1,q2⟩:=Nj ps xs us (up f p x) (tm.setIfInBounds p u) (by simpa using h1) (by simpa using h2) (fun q hq=>by rw[cP];exact h3 q (aN _ hq))
   (fun j y hy=>by simpa using h4 (j+1) y (by simpa using hy)) (fun t=>by
    by_cases ht:t=p
    ·subst ht;rw[bZ,kf _ _ _ hp];exact hx
    ·rw[cM _ _ ht,getD_set_ne _ _ _ _ ht];exact hf t)
  exact⟨q1,by rw[List.zip_cons_cons,gG,q2,cP]⟩
theorem St.initF {ob:Nat→Nat→Option Nat} {tm:Array Value} {fr:Nat→V} {b0:List (List V)} (hI:∀ b o,I b o→b<w.heap.size) (hg:GOK G I w) (hB:BxR (Wr M w) I w β ob b0) (hsz:tm.size=n)
 (hfr:∀ t,LR (Wr M w) I β w none (tm.getD t undef) (fr t)):St G n I ⟨M.m,β,[]⟩ w I β (obB ob) ⟨fr,bxs b0,b0.length⟩ { tmps:=tm,defers:=[] } w:=by
 have h0:St G ((#[]:Array Value)++Array.replicate (0 - (#[]:Array Value).size) undef).size I ⟨M.m,β,[]⟩ w I β (obB ob) ⟨fun j=>([]:List V).getD j .un,bxs b0,b0.length⟩ { tmps:=#[]++Array.replicate (0 - (#[]:Array Value).size) undef,defers:=[] } w:=
  St.initB (n:=0) (vs:=#[]) (args:=[]) hI hg hB rfl (by simp) rfl
 exact {
  size:=hsz,defers:=rfl,below:=h0.below,ilow:=h0.ilow,kept:=h0.kept,ihigh:=h0.ihigh,ibnd:=h0.ibnd
  fr:=fun t=>by simp only[obB];exact hfr t
  bx:=h0.bx,bnone:=h0.bnone,ext:=h0.ext,bnew:=h0.bnew,binj:=h0.binj,oinj:=h0.oinj,obx:=h0.obx,obnd:=h0.obnd,glob:=h0.glob }
theorem Zb {L:Loop} {fl:List (Nat×V)} {xs:List V} {bs b1:List (List V)} {r:V} (tr:List Nat) (hm:P.follows .mixedOrders=true) (hrdy:L.state=.ready) (hps:L.params.toList.length=xs.length)
 (hpl:∀ p∈L.params.toList,p<L.defers) (hck1:cok L.defers tr L.assign=true) (hck2:cok L.defers tr L.body=true)
 (hwf:(∀ x∈xs,x.lt (bs.length+1))∧(∀ b∈[V.lp L fl]::bs,∀ x∈b,x.lt (bs.length+1))∧bs.length+1≤b1.length)
 (h:fw P G tr (bs.length+1) L.assign (fun e s=>e=.normal∧(s.bx 0=[.lp L fl]∧0<s.nb)∧fw P G tr (bs.length+1) L.body (aaB (bs.length+1) r b1) { s with bx:=up s.bx 0 [.lp { L with state:=.busy } fl] })
  ⟨frY fl L.params.toList xs,bxs ([V.lp L fl]::bs),bs.length+1⟩) (hrg:qK tr=false:=by rfl):YB P G xs ([V.lp L fl]::bs) r b1:=by
 refine⟨hwf,fun I M w vs β ob l hI hg hB hβ0 hsz ha=>?_⟩
 obtain⟨blk,cur,e1,e2,e3,e4,e5,e7⟩:=hB.bx 0 _ rfl
 rw[hβ0] at e1;cases e1
 obtain⟨f,tm,d,⟨h3,hts⟩,rfl⟩:∃ (f:FuncId) (tm:Array Value) (d:Nat),(w.heap[l]?=some (.loop { L with fn:=f,tmps:=tm,defers:=d })∧tm.size=L.defers)∧cur=#[.tuple tm]:=e3
 have hfl:∀ t x,(t,x)∈fl→KR I β w (tm.getD t undef) x:=by
  have:=e5 0
  have h5:LR (Wr M w) I β w (ob 0 0) (.tuple tm) (.lp L fl):=this
  simp only[LR] at h5
  obtain⟨tm',e,h6⟩:=h5
  cases e;exact h6
 have hy:=run_yield (P:=P) (args:=vs) h3 (by rw[hsz];simpa using hps.symm)
 have hzip:(L.params.zip vs).foldl (fun tmps (x:Tmp×Value)=>tmps.setIfInBounds x.1 x.2) tm=(L.params.toList.zip vs.toList).foldl (fun tm (p:Tmp×Value)=>tm.setIfInBounds p.1 p.2) tm:=by
  rw[← Array.foldl_toList,Array.toList_zip]
 obtain⟨hfr,hsize⟩:=Nj (base:=Wr M w) (I:=I) (β:=β) (w:=w) L.params.toList xs vs.toList (frs fl) tm hps (by simpa using hsz) (fun p hp=>by rw[hts];exact hpl p hp) (fun j x hx=>by
  have:=ha j x hx
  rw[ay,aQ,← ao];exact this)
  (fun t=>by
   rcases GY fl t with h1 | h1
   ·rw[h1];simp only[LR];exact .un _
   ·exact(hfl t _ h1).toLR)
 have hst:=St.initF (n:=L.defers) hI hg hB (hsize.trans hts) hfr
 have hβlt:∀ i b,β i=some b→i<bs.length+1:=fun i b hi=>by
  by_cases h:i<bs.length+1
  ·exact h
  ·rw[hB.bnone i (by simp;omega)] at hi;cases hi
 refine⟨f,_,L.assign,L.body,hy,roundIn_of_wpIn (F:=Fence.wide) trivial ?_⟩
 have hzip':(Array.foldl (fun tmps x=>match x with | (t,a)=>tmps.setIfInBounds t a) tm (L.params.zip vs))=(L.params.toList.zip vs.toList).foldl (fun tm (p:Tmp×Value)=>tm.setIfInBounds p.1 p.2) tm:=hzip
 show L.assign.wpIn (FW (some l)) 0 P _ { tmps:=Array.foldl (fun tmps x=>match x with | (t,a)=>tmps.setIfInBounds t a) tm (L.params.zip vs),defers:=[] } w
 rw[hzip']
 refine jZ (l:=some l) (m:=0) hm (fun i b hi=>hβlt i b hi) (.inr hrg) L.assign hck1 _ _ (fun e s1 a1 w1 hq hse=>?_) _ _ _ h (.of ⟨_,_,_,hst⟩)
 obtain⟨rfl,⟨hbx1,hnb1⟩,hq⟩:=hq
 obtain⟨I1,β1,ob1,hst1⟩:=hse.se hrg
 have hl1:β1 0=some l:=hst1.ext 0 l hβ0
 obtain⟨blk,cur,g1,g2,g3,g4,g5,g7⟩:=hst1.bx 0 hnb1
 rw[hl1] at g1;cases g1
 rw[hbx1] at g3 g5
 obtain⟨f1,tm1,d1,⟨k3,kts⟩,rfl⟩:∃ (f:FuncId) (tm:Array Value) (d:Nat),(w1.heap[l]?=some (.loop { L with fn:=f,tmps:=tm,defers:=d })∧tm.size=L.defers)∧cur=#[.tuple tm]:=g3
 refine⟨_,run_beginRound k3 hrdy,?_⟩
 have hst2:=hst1.reBox (o:=.loop { { L with fn:=f1,tmps:=tm1,defers:=d1 } with state:=.busy }) (l:=[.lp { L with state:=.busy } fl]) (cur:=#[.tuple tm1]) (od:=fun j=>ob1 (.b 0 j)) hnb1 hl1
  ⟨f1,tm1,d1,⟨lZ (aX.1 k3).1,kts⟩,rfl⟩ (ae _) (fun j=>by
   have:=g5 j
   cases j with
   |zero=>exact this
   |succ j=>simp only[dl,iV,LR];exact .un _) (fun j b hb=>hb)
 refine jZ (l:=some l) (m:=0) hm (fun i b hi=>hβlt i b hi) (.inr hrg) L.body hck2 _ _ (fun e s3 a3 w3 hq hse=>?_) _ _ _ hq (.of ⟨_,_,_,hst2⟩)
 obtain⟨rfl,L',fl',⟨hbx3,hnb3⟩,lf,hle⟩:=hq
 obtain⟨I3,β3,ob3,hst3⟩:=hse.se hrg
 have hl3:β3 0=some l:=hst3.ext 0 l hβ0
 obtain⟨blk,cur,g1,g2,g3,g4,g5,g7⟩:=hst3.bx 0 hnb3
 rw[hl3] at g1;cases g1
 rw[hbx3] at g3 g5
 obtain⟨f3,tm3,d3,⟨k3,kts⟩,rfl⟩:∃ (f:FuncId) (tm:Array Value) (d:Nat),(w3.heap[l]?=some (.loop { L' with fn:=f,tmps:=tm,defers:=d })∧tm.size=L'.defers)∧cur=#[.tuple tm]:=g3
 have fin:∀ (jump:Option Code) (L3:Loop),L3={ C4 L' e with fn:=f3,tmps:=tm3,defers:=d3 }→(C4 L' e).defers=L'.defers→∃ I' β' ob' o',BelowM (GT G) M w (World.putObj w3 l (.loop L3))∧(∀ b o,I b o→I' b o)∧(∀ b o,I' b o→I b o∨(Wr M w b∧b<(World.putObj w3 l (.loop L3)).heap.size))∧
  (∀ b o,I b o→(World.putObj w3 l (.loop L3)).cell? ⟨b,o,none⟩=w.cell? ⟨b,o,none⟩)∧(∀ i,i<([V.lp L fl]::bs).length→β' i=β i)∧(∀ i b,([V.lp L fl]::bs).length≤i→β' i=some b→Wr M w b)∧BxR (Wr M w) I' (World.putObj w3 l (.loop L3)) β' ob' b1∧
  LR (Wr M w) I' β' (World.putObj w3 l (.loop L3)) o' (.bool (Wb e)) (.c (.lit (.bool (Wb e))))∧(∀ b,o'=some b→(b<(World.putObj w3 l (.loop L3)).heap.size∧Wr M w b)∧(∀ i j,ob' i j≠some b)∧∀ i,β' i≠some b):=by
  intro jump L3 hL3 hyd
  have hst4:=hst3.reBox (o:=.loop L3) (l:=[.lp (C4 L' e) fl']) (cur:=#[.tuple tm3]) (od:=fun j=>ob3 (.b 0 j)) hnb3 hl3
   ⟨f3,tm3,d3,⟨by rw[hL3];exact lZ (aX.1 k3).1,by rw[hyd];exact kts⟩,rfl⟩ (ae _) (fun j=>by
    have:=g5 j
    cases j with
    |zero=>exact this
    |succ j=>simp only[dl,iV,LR];exact .un _) (fun j b hb=>hb)
  obtain⟨I',β',ob',hst'⟩:=(SE.weaken (G:=G) ⟨_,_,_,hst4⟩ (fun i b hi=>hβlt i b hi) hle)
  have hext:∀ i,i<([V.lp L fl]::bs).length→β' i=β i:=fun i hi=>by
   obtain⟨blk,_,e1,_⟩:=hB.bx i _ (ak hi)
   rw[e1];exact hst'.ext i blk e1
  refine⟨I',β',fun i j=>if i<b1.length then ob' (.b i j) else none,none,⟨hst'.below.os,hst'.below.tape,hst'.below.output,hst'.below.size,hst'.below.block,hst'.below.drawn⟩,hst'.ilow,fun b o hbo=>?_,hst'.kept,hext,fun i b hi hb=>?_,?_,.ofLit rfl,fun b hb=>by cases hb⟩
  ·rcases hst'.ihigh b o hbo with h4 | h4
   ·exact .inl h4
   ·exact .inr ⟨h4,hst'.ibnd b o hbo⟩
  ·rcases hst'.bnew i b hb with h4 | h4
   ·have:=hβlt i b h4;simp at hi;omega
   ·exact h4
  ·exact {
    bx:=fun i cs hcs=>by
     have hi:i<b1.length:=(aj.1 hcs).1
     obtain⟨blk,cur,e1,e2,e3,e4,e5,e7⟩:=hst'.bx i hi
     have e:bxs b1 i=cs:=by simp[bxs,List.getD,hcs]
     refine⟨blk,cur,e1,e2,by simp only[hdS,e] at e3;exact e3,by simp only[hdS,e] at e4;exact e4,fun j=>?_,e7⟩
     have:=e5 j
     simp only[hdS,e] at this
     rw[if_pos hi];exact this
    bnone:=fun i hi=>hst'.bnone i hi
    binj:=hst'.binj
    oinj:=fun i j i' j' b h h'=>by
     split at h<;>try cases h
     split at h'<;>try cases h'
     have:=hst'.oinj _ _ b h h'
     simp only[Loc.b.injEq] at this;exact this
    obx:=fun i j b k h=>by
     split at h<;>try cases h
     exact hst'.obx _ b k h
    obnd:=fun i j b h=>by
     split at h<;>try cases h
     exact hst'.obnd _ b h
    olen:=fun i j hi=>by rw[if_neg (by omega)] }
 cases e with
 |normal=>
  obtain⟨I',β',ob',o',q⟩:=fin none _ rfl rfl
  exact⟨_,_,run_endRound none k3,_,I',β',ob',o',rfl,q⟩
 |exit i=>
  obtain⟨I',β',ob',o',q⟩:=fin (some (.exit i)) _ rfl rfl
  exact⟨_,_,run_endRound (some (.exit i)) k3,_,I',β',ob',o',rfl,q⟩
 |ret=>
  obtain⟨I',β',ob',o',q⟩:=fin (some .ret) _ rfl rfl
  exact⟨_,_,run_endRound (some .ret) k3,_,I',β',ob',o',rfl,q⟩
end
def kx (k j:Nat):Nat:=k+j
section
variable {k:Nat} {Y:List (List V)}
end
theorem V.ltP.mono {m n:Nat} {v:V} (h:v.ltP m) (hle:m≤n):v.ltP n:=by
 cases v<;>simp_all[V.ltP]<;>omega
theorem V.lt.mono {m n:Nat} {v:V} (h:v.lt m) (hle:m≤n):v.lt n:=by
 cases v
 all_goals first
  |trivial
  |(simp only[V.lt] at h ⊢;omega)
  |(simp only[V.lt] at h ⊢;exact fun x hx=>(h x hx).mono hle)
  |(simp only[V.lt] at h ⊢;exact⟨fun x hx=>(h.1 x hx).mono hle,fun x hx=>(h.2 x hx).mono hle⟩)
  |(simp only[V.lt] at h ⊢;exact h)
theorem qx {ρ:Nat→Nat} {m:Nat} {x:V} (h:x.ltP m) (hρ:∀ i,i<m→ρ i=i):x.renP ρ=x:=by
 cases x<;>simp_all[V.renP,V.ltP]
theorem pU {ρ:Nat→Nat} {m:Nat} {x:V} (h:x.lt m) (hρ:∀ i,i<m→ρ i=i):x.ren ρ=x:=by
 cases x
 all_goals first
  |rfl
  |(simp only[V.lt] at h;simp only[V.ren];rw[hρ _ h])
  |(simp only[V.lt] at h;simp only[V.ren];rw[gP fun x hx=>qx (h x hx) hρ])
  |(simp only[V.lt] at h;simp only[V.ren];rw[gP fun x hx=>qx (h.1 x hx) hρ,gP fun x hx=>qx (h.2 x hx) hρ])
  |(simp only[V.lt] at h;simp only[V.ren];rw[gP fun p hp=>by rw[qx (h p hp) hρ]])
theorem o8 {ρ:Nat→Nat} {m:Nat} (hρ:∀ i,i<m→ρ i=i):∀ (b1:List (List V)) (k:Nat) (f:Nat→List V),k+b1.length≤m→(∀ b∈b1,∀ x∈b,x.lt m)→eO ρ k b1 f=eO (fun i=>i) k b1 f
 |[],_,_,_,_=>rfl
 |b::r,k,f,hk,h=>by
  simp only[aC] at hk
  simp only[eO]
  rw[hρ k (by omega),o8 hρ r (k+1) _ (by omega) fun b hb=>h b (aN _ hb),m8,gP fun x hx=>pU (h b (aR ..) x hx) hρ]
theorem qy {ρ:Nat→Nat} {m nb:Nat} {f:Nat→List V} (hρ:∀ i,i<m→ρ i=i):∀ (b1:List (List V)) (k:Nat),k+b1.length≤m→(∀ b∈b1,∀ x∈b,x.lt m)→nw f nb (fun i=>i) k b1→nw f nb ρ k b1
 |[],_,_,_,_=>trivial
 |b::r,k,hk,h,h2=>by
  simp only[aC] at hk
  refine⟨?_,qy hρ r (k+1) (by omega) (fun b hb=>h b (aN _ hb)) h2.2⟩
  rw[hρ k (by omega),gP fun x hx=>pU (h b (aR ..) x hx) hρ]
  have:=h2.1
  rw[m8] at this
  exact this
theorem AL {m nb i:Nat} (h:i<m):rho (List.range m) nb i=i:=by
 simp only[rho,iJ,if_pos h,ay]
 rw[ak (by simpa using h)]
 simp
section
variable {P:Program} {G:Gl} {fr:Nat→V} {k n:Nat} {Y Y' ls rest:List (List V)} {f:V} {args all cargs:List V} {K:S→V→Prop} {r:V}
theorem Wc {b0 b1 rest:List (List V)} (hb:b1.length=b0.length):(fun i=>if 0≤i∧i<0+b1.length then b1.getD (i - 0) [] else bxs (b0++rest) i)=bxs (b1++rest):=by
 funext i
 simp only[aA,fm,ah,j5,bxs,ay]
 split
 ·rename_i h;rw[aB h]
 ·rename_i h
  rw[aH (by omega),aH (by omega),hb]
theorem JF {g:FuncId} (hc:dS f args=some (g,all)) (hf:FnB P G g cargs (Y++ls) r (Y'++ls)) (hall:all.map V.fz=cargs) (hY:Y.length=k) (hY':Y'.length=k) (hlt:∀ b∈Y',∀ x∈b,x.lt k)
 (hn:(ls++rest).length=n) (hr:∀ ρ,r.ren ρ=r) (hK:K ⟨fr,bxs (Y'++(ls++rest)),kx k n⟩ r):vcallB P G ⟨fr,bxs (Y++(ls++rest)),kx k n⟩ f args K:=by
 unfold vcallB ja
 simp only[hc]
 have hlen:(Y++ls).length=k+ls.length:=by rw[aw,hY]
 have hlen':(Y'++ls).length=(Y++ls).length:=by rw[aw,hlen,hY']
 have hρ:∀ i,i<(Y++ls).length→rho (List.range (Y++ls).length) (kx k n) i=i:=fun i hi=>AL hi
 have hlt1:∀ b∈Y'++ls,∀ x∈b,x.lt (Y++ls).length:=fun b hb x hx=>by
  rcases bf.1 hb with h | h
  ·exact(hlt b h x hx).mono (by omega)
  ·exact hf.2.1.2.1 b (List.mem_append_right _ h) x hx
 refine⟨List.range (Y++ls).length,cargs,Y++ls,r,Y'++ls,hf,?_,⟨by simp,jg⟩,?_,?_⟩
 ·rw[hall,gP fun x hx=>pU (hf.2.1.1 x hx) hρ]
 ·refine qy hρ _ 0 (by omega) hf.2.1.2.1 (qw _ _ _ _ fun i b hb=>?_)
  have hi:=(aj.1 hb).1
  rw[ah]
  rw[aw] at hn
  refine⟨by simp only[kx];omega,?_⟩
  rw[← bV]
  simp only[bxs,ay]
  rw[aB hi,hb];rfl
 ·rw[o8 hρ (Y'++ls) 0 _ (by omega) hlt1,oo,hr,← bV,Wc hlen',hlen',jr,dn,bV]
  exact hK
end
section
variable {P:Program} {G:Gl} {fr:Nat→V} {k n nb:Nat} {Y Y' ls:List (List V)}
def ltL (m:Nat) (l:List (List V)):Prop:=∀ b∈l,∀ x∈b,x.lt m
theorem Nk {l:List (Nat×V)} {bl:List (List V)} {k:Nat} {bx:Nat→List V} (hl:∀ p∈l,p.2.lt bl.length) (hb:ltL bl.length bl) (hk:k≤bl.length) (hn:bl.length≤nb) (h1:FL l fr) (h2:∀ i,i<bl.length→bxs bl i=bx i) :
 S.Le k (hdS l bl) ⟨fr,bx,nb⟩:=by
 refine⟨hk,h1.le,hn,fun i hi=>by simpa[hdS] using h2 i hi,fun t=>Av hl t,fun i hi x hx=>?_⟩
 simp only[hdS] at hi hx
 have:bxs bl i∈bl:=by
  simp only[bxs,List.getD,ak hi,bM];exact aL hi
 exact hb _ this x hx
theorem Zc {l:List (Nat×V)} {rest:List (List V)} (hY:Y.length=k) (hlt:ltL k Y) {m n:Nat} (hm:ls.length=m) (hn:(ls++rest).length=n) (hls:ltL (kx k m) ls) (hl:∀ p∈l,p.2.lt (kx k m)) (h1:FL l fr) {j:Nat} (hj:j≤m) :
 S.Le (kx k j) (hdS l (Y++ls)) ⟨fr,bxs (Y++(ls++rest)),kx k n⟩:=by
 have hlen:(Y++ls).length=kx k m:=by rw[aw,hY,hm];rfl
 rw[aw] at hn
 refine Nk (by rw[hlen];exact hl) (fun b hb x hx=>?_) (by rw[hlen];simp only[kx];omega) (by rw[hlen];simp only[kx];omega) h1 fun i hi=>?_
 ·rw[hlen]
  rcases bf.1 hb with h | h
  ·exact(hlt b h x hx).mono (by simp only[kx];omega)
  ·exact hls b h x hx
 ·rw[← bV]
  simp only[bxs,ay]
  rw[aB hi]
theorem Nl {ls':List (List V)} {f:FuncId} {fn:Func} {c:Code} {args:List V} {r:V} (tr:List Nat) (hm:P.follows .mixedOrders=true) (hf:P.funcs[f]?=some fn) (hb:fn.body=some c) (hname:(fn.name== "runtime.NumGoroutine")=false)
 {rs:List ResultVar} (hrs:fn.results.toList=rs) {nt:Nat} (hn:fn.ntmps=nt) (hck:cok nt tr c=true) (hlen:args.length≤nt) (hcomp:r.compT=true)
 (hY:Y.length=k) (hY':Y'.length=k) (hlt:ltL k Y) {m:Nat} (hls:ls.length=m) (hls':ls'.length=m) (hl:ltL (kx k m) ls) (ha:∀ x∈args,x.lt (kx k m))
 (h:fw P G tr (kx k m) c (rq P (kx k m) r (Y'++ls') rs) ⟨frm 0 args,bxs (Y++ls),kx k m⟩):FnB P G f args (Y++ls) r (Y'++ls'):=by
 subst hn
 subst hrs
 have hlen0:(Y++ls).length=kx k m:=by rw[aw,hY,hls];rfl
 refine GR tr hm hf hb hname hlen hck hcomp ⟨fun x hx=>by rw[hlen0];exact ha x hx,fun b hb x hx=>?_,by rw[aw,aw,hY,hY',hls,hls'];exact ae _⟩ ?_
 ·rw[hlen0]
  rcases bf.1 hb with h | h
  ·exact(hlt b h x hx).mono (by simp only[kx];omega)
  ·exact hl b h x hx
 ·rw[tU] at h
  rw[hlen0];exact h
theorem GZ {f:FuncId} {fn:Func} {c:Code} {args:List V} {r:V} (tr:List Nat) (hm:P.follows .mixedOrders=true) (hf:P.funcs[f]?=some fn) (hb:fn.body=some c) (hname:(fn.name== "runtime.NumGoroutine")=false)
 {rs:List ResultVar} (hrs:fn.results.toList=rs) {nt:Nat} (hn:fn.ntmps=nt) (hck:cok nt tr c=true) (hlen:args.length≤nt) (hcomp:r.compT=true)
 (hY:Y.length=k) (hY':Y'.length=k) (hlt:ltL k Y) {m:Nat} (hls:ls.length=m) (hl:ltL (kx k m) ls) (ha:∀ x∈args,x.lt (kx k m))
 (h:fw P G tr (kx k m) c (rq P (kx k m) r (Y'++ls) rs) ⟨frm 0 args,bxs (Y++ls),kx k m⟩):FnB P G f args (Y++ls) r (Y'++ls):=
 Nl tr hm hf hb hname hrs hn hck hlen hcomp hY hY' hlt hls hls hl ha h
theorem Zd {r:V} {rs:List ResultVar} {e:VE} (l:List (Nat×V)) {rest:List (List V)} {m n:Nat} (he:yB e=true) (hY:Y.length=k) (hlt:ltL k Y) (hm:ls.length=m) (hn:(ls++rest).length=n) (hls:ltL (kx k m) ls) (hl:∀ p∈l,p.2.lt (kx k m)) (h1:FL l fr)
 (hr:nS P false (hdS l (Y++ls)) r rs):rq P (kx k m) r (Y++ls) rs e ⟨fr,bxs (Y++(ls++rest)),kx k n⟩:=
 ⟨CS _ he,l,Zc hY hlt hm hn hls hl h1 (ae _),hr⟩
end
section
variable {P:Program} {G:Gl} {fr:Nat→V} {k n:Nat} {Y Y' ls:List (List V)} {f:V} {args all cargs:List V} {K:S→V→Prop} {r:V}
