/- Values without memory: a round of a loop over a function: its contract, from the loop's text. -/
import Derived.Test.YtegbpjodbjhjeaaGreatDoorVlRunB
set_option linter.all false
namespace Go.Vl
open Go Go.RowKit
section
variable {P:Program} {G:Gl} {tr:List Nat} {n:Nat} {I0:Ft} {M:Mx} {w0:World} {I:Ft} {β:Nat→Option Nat} {ob:Loc→Option Nat} {s:S} {a:Act} {w:World} {base:Nat→Prop} {v:Value} {x:V}
theorem KR.toLR (h:KR I β w v x):LR base I β w none v x:=by
 rcases h with rfl | ⟨h1,h2⟩ | h
 ·simp only[LR];exact .un _
 ·exact .ofDR h2
 ·exact h.toLR
def frY (fl:List (Nat×V)) (ps:List Tmp) (xs:List V):Nat→V:=(ps.zip xs).foldl (fun f p=>up f p.1 p.2) (frs fl)
def GB (L:Loop):VE→Loop
 | .normal=>{ L with state:=.ready,pending:=none }
 | .exit i=>{ L with state:=.done,pending:=some (.exit i) }
 | .ret=>{ L with state:=.done,pending:=some .ret }
def ZG:VE→Bool
 | .normal=>true
 |_=>false
def afI (k:Nat) (r:V) (b1:List (List V)) (e:VE) (s:S):Prop:=
 r=.c (.lit (.bool (ZG e)))∧∃ L fl,(s.bx 0=[.lp L fl]∧0<s.nb)∧∃ l,S.Le k (hdS l b1) { s with bx:=up s.bx 0 [.lp (GB L e) fl] }
theorem KZ:∀ (fl:List (Nat×V)) (t:Nat),frs fl t=.un∨(t,frs fl t)∈fl
 |[],t=>.inl rfl
 |(i,x)::r,t=>by
  by_cases h:t=i
  ·subst h;right;simp[frs]
  ·rcases KZ r t with h1 | h1
   ·left;simp[frs,ar,h,h1]
   ·right;simp[frs,ar,h,h1]
theorem Rb:∀ (ps:List Tmp) (xs:List V) (us:List Value) (f:Nat→V) (tm:Array Value),ps.length=xs.length→us.length=xs.length→(∀ p∈ps,p<tm.size)→
 (∀ j x,xs[j]?=some x→LR base I β w none (us.getD j undef) x)→(∀ t,LR base I β w none (tm.getD t undef) (f t))→
 (∀ t,LR base I β w none (((ps.zip us).foldl (fun tm (p:Tmp×Value)=>tm.setIfInBounds p.1 p.2) tm).getD t undef) ((ps.zip xs).foldl (fun f (p:Tmp×V)=>up f p.1 p.2) f t))∧
  ((ps.zip us).foldl (fun tm (p:Tmp×Value)=>tm.setIfInBounds p.1 p.2) tm).size=tm.size
 |[],_,_,f,tm,_,_,_,_,hf=>⟨hf,rfl⟩
 |p::ps,[],_,_,_,h,_,_,_,_=>by simp at h
 |p::ps,x::xs,[],_,_,_,h,_,_,_=>by simp at h
 |p::ps,x::xs,u::us,f,tm,h1,h2,h3,h4,hf=>by
  have hx:LR base I β w none u x:=h4 0 x rfl
  have hp:p<tm.size:=h3 p (aT ..)
  obtain⟨q1,q2⟩:=Rb ps xs us (up f p x) (tm.setIfInBounds p u) (by simpa using h1) (by simpa using h2) (fun q hq=>by rw[dc];exact h3 q (aM _ hq))
   (fun j y hy=>by simpa using h4 (j+1) y (by simpa using hy)) (fun t=>by
    by_cases ht:t=p
    ·subst ht;rw[cn,lz _ _ _ hp];exact hx
    ·rw[cZ _ _ ht,getD_set_ne _ _ _ _ ht];exact hf t)
  exact⟨q1,by rw[List.zip_cons_cons,iz,q2,dc]⟩
theorem St.initF {ob:Nat→Nat→Option Nat} {tm:Array Value} {fr:Nat→V} {b0:List (List V)} (hI:∀ b o,I b o→b<w.heap.size) (hg:GOK G I w) (hB:BxR (Wr M w) I w β ob b0) (dR:tm.size=n)
 (jb:∀ t,LR (Wr M w) I β w none (tm.getD t undef) (fr t)):St G n I ⟨M.m,β,[]⟩ w I β (obB ob) ⟨fr,bxs b0,b0.length⟩ { tmps:=tm,defers:=[] } w:=by
 have h0:St G ((#[]:Array Value)++Array.replicate (0 - (#[]:Array Value).size) undef).size I ⟨M.m,β,[]⟩ w I β (obB ob) ⟨fun j=>([]:List V).getD j .un,bxs b0,b0.length⟩ { tmps:=#[]++Array.replicate (0 - (#[]:Array Value).size) undef,defers:=[] } w:=
  St.initB (n:=0) (vs:=#[]) (args:=[]) hI hg hB rfl (by simp) rfl
 exact {
  size:=dR,defers:=rfl,below:=h0.below,ilow:=h0.ilow,kept:=h0.kept,ihigh:=h0.ihigh,ibnd:=h0.ibnd
  fr:=fun t=>by simp only[obB];exact jb t
  bx:=h0.bx,bnone:=h0.bnone,ext:=h0.ext,bnew:=h0.bnew,binj:=h0.binj,oinj:=h0.oinj,obx:=h0.obx,obnd:=h0.obnd,glob:=h0.glob }
theorem ac5 {L:Loop} {fl:List (Nat×V)} {xs:List V} {bs b1:List (List V)} {r:V} (tr:List Nat) (hm:P.follows .mixedOrders=true) (ahv:L.state=.ready) (wu:L.params.toList.length=xs.length)
 (OS:∀ p∈L.params.toList,p<L.defers) (ahw:cok L.defers tr L.assign=true) (Uw:cok L.defers tr L.body=true)
 (Uu:(∀ x∈xs,x.lt (bs.length+1))∧(∀ b∈[V.lp L fl]::bs,∀ x∈b,x.lt (bs.length+1))∧bs.length+1≤b1.length)
 (h:gy P G tr (bs.length+1) L.assign (fun e s=>e=.normal∧(s.bx 0=[.lp L fl]∧0<s.nb)∧gy P G tr (bs.length+1) L.body (afI (bs.length+1) r b1) { s with bx:=up s.bx 0 [.lp { L with state:=.busy } fl] })
  ⟨frY fl L.params.toList xs,bxs ([V.lp L fl]::bs),bs.length+1⟩) (tO:tR tr=false:=by rfl):YB P G xs ([V.lp L fl]::bs) r b1:=by
 refine⟨Uu,fun I M w vs β ob l hI hg hB hβ0 dR ha=>?_⟩
 obtain⟨blk,cur,e1,e2,e3,e4,e5,e7⟩:=hB.bx 0 _ rfl
 rw[hβ0] at e1;cases e1
 obtain⟨f,tm,d,⟨h3,nZ⟩,rfl⟩:∃ (f:FuncId) (tm:Array Value) (d:Nat),(w.heap[l]?=some (.loop { L with fn:=f,tmps:=tm,defers:=d })∧tm.size=L.defers)∧cur=#[.tuple tm]:=e3
 have mK:∀ t x,(t,x)∈fl→KR I β w (tm.getD t undef) x:=by
  have:=e5 0
  have h5:LR (Wr M w) I β w (ob 0 0) (.tuple tm) (.lp L fl):=this
  simp only[LR] at h5
  obtain⟨tm',e,h6⟩:=h5
  cases e;exact h6
 have hy:=run_yield (P:=P) (args:=vs) h3 (by rw[dR];simpa using wu.symm)
 have aht:(L.params.zip vs).foldl (fun tmps (x:Tmp×Value)=>tmps.setIfInBounds x.1 x.2) tm=(L.params.toList.zip vs.toList).foldl (fun tm (p:Tmp×Value)=>tm.setIfInBounds p.1 p.2) tm:=by
  rw[← Array.foldl_toList,Array.toList_zip]
 obtain⟨jb,gw⟩:=Rb (base:=Wr M w) (I:=I) (β:=β) (w:=w) L.params.toList xs vs.toList (frs fl) tm wu (by simpa using dR) (fun p hp=>by rw[nZ];exact OS p hp) (fun j x hx=>by
  have:=ha j x hx
  rw[aA,aQ,← ao];exact this)
  (fun t=>by
   rcases KZ fl t with h1 | h1
   ·rw[h1];simp only[LR];exact .un _
   ·exact(mK t _ h1).toLR)
 have hst:=St.initF (n:=L.defers) hI hg hB (gw.trans nZ) jb
 have px:∀ i b,β i=some b→i<bs.length+1:=fun i b hi=>by
  by_cases h:i<bs.length+1
  ·exact h
  ·rw[hB.bnone i (by simp;omega)] at hi;cases hi
 refine⟨f,_,L.assign,L.body,hy,roundIn_of_wpIn (F:=Fence.wide) trivial ?_⟩
 have aeW:(Array.foldl (fun tmps x=>match x with | (t,a)=>tmps.setIfInBounds t a) tm (L.params.zip vs))=(L.params.toList.zip vs.toList).foldl (fun tm (p:Tmp×Value)=>tm.setIfInBounds p.1 p.2) tm:=aht
 show L.assign.wpIn (FW (some l)) 0 P _ { tmps:=Array.foldl (fun tmps x=>match x with | (t,a)=>tmps.setIfInBounds t a) tm (L.params.zip vs),defers:=[] } w
 rw[aeW]
 refine kZ (l:=some l) (m:=0) hm (fun i b hi=>px i b hi) (.inr tO) L.assign ahw _ _ (fun e s1 a1 w1 hq cw=>?_) _ _ _ h (.of ⟨_,_,_,hst⟩)
 obtain⟨rfl,⟨O8,aeY⟩,hq⟩:=hq
 obtain⟨I1,β1,ob1,lR⟩:=cw.se tO
 have hl1:β1 0=some l:=lR.ext 0 l hβ0
 obtain⟨blk,cur,g1,g2,g3,g4,g5,g7⟩:=lR.bx 0 aeY
 rw[hl1] at g1;cases g1
 rw[O8] at g3 g5
 obtain⟨f1,tm1,d1,⟨k3,kts⟩,rfl⟩:∃ (f:FuncId) (tm:Array Value) (d:Nat),(w1.heap[l]?=some (.loop { L with fn:=f,tmps:=tm,defers:=d })∧tm.size=L.defers)∧cur=#[.tuple tm]:=g3
 refine⟨_,run_beginRound k3 ahv,?_⟩
 have lS:=lR.reBox (o:=.loop { { L with fn:=f1,tmps:=tm1,defers:=d1 } with state:=.busy }) (l:=[.lp { L with state:=.busy } fl]) (cur:=#[.tuple tm1]) (od:=fun j=>ob1 (.b 0 j)) aeY hl1
  ⟨f1,tm1,d1,⟨nn (be.1 k3).1,kts⟩,rfl⟩ (ae _) (fun j=>by
   have:=g5 j
   cases j with
   |zero=>exact this
   |succ j=>simp only[dK,jH,LR];exact .un _) (fun j b hb=>hb)
 refine kZ (l:=some l) (m:=0) hm (fun i b hi=>px i b hi) (.inr tO) L.body Uw _ _ (fun e s3 a3 w3 hq cw=>?_) _ _ _ hq (.of ⟨_,_,_,lS⟩)
 obtain⟨rfl,L',fl',⟨ahz,aeZ⟩,lf,fx⟩:=hq
 obtain⟨I3,β3,ob3,uX⟩:=cw.se tO
 have hl3:β3 0=some l:=uX.ext 0 l hβ0
 obtain⟨blk,cur,g1,g2,g3,g4,g5,g7⟩:=uX.bx 0 aeZ
 rw[hl3] at g1;cases g1
 rw[ahz] at g3 g5
 obtain⟨f3,tm3,d3,⟨k3,kts⟩,rfl⟩:∃ (f:FuncId) (tm:Array Value) (d:Nat),(w3.heap[l]?=some (.loop { L' with fn:=f,tmps:=tm,defers:=d })∧tm.size=L'.defers)∧cur=#[.tuple tm]:=g3
 have fin:∀ (jump:Option Code) (L3:Loop),L3={ GB L' e with fn:=f3,tmps:=tm3,defers:=d3 }→(GB L' e).defers=L'.defers→∃ I' β' ob' o',BelowM (GT G) M w (World.putObj w3 l (.loop L3))∧(∀ b o,I b o→I' b o)∧(∀ b o,I' b o→I b o∨(Wr M w b∧b<(World.putObj w3 l (.loop L3)).heap.size))∧
  (∀ b o,I b o→(World.putObj w3 l (.loop L3)).cell? ⟨b,o,none⟩=w.cell? ⟨b,o,none⟩)∧(∀ i,i<([V.lp L fl]::bs).length→β' i=β i)∧(∀ i b,([V.lp L fl]::bs).length≤i→β' i=some b→Wr M w b)∧BxR (Wr M w) I' (World.putObj w3 l (.loop L3)) β' ob' b1∧
  LR (Wr M w) I' β' (World.putObj w3 l (.loop L3)) o' (.bool (ZG e)) (.c (.lit (.bool (ZG e))))∧(∀ b,o'=some b→(b<(World.putObj w3 l (.loop L3)).heap.size∧Wr M w b)∧(∀ i j,ob' i j≠some b)∧∀ i,β' i≠some b):=by
  intro jump L3 hL3 hyd
  have ahu:=uX.reBox (o:=.loop L3) (l:=[.lp (GB L' e) fl']) (cur:=#[.tuple tm3]) (od:=fun j=>ob3 (.b 0 j)) aeZ hl3
   ⟨f3,tm3,d3,⟨by rw[hL3];exact nn (be.1 k3).1,by rw[hyd];exact kts⟩,rfl⟩ (ae _) (fun j=>by
    have:=g5 j
    cases j with
    |zero=>exact this
    |succ j=>simp only[dK,jH,LR];exact .un _) (fun j b hb=>hb)
  obtain⟨I',β',ob',bH⟩:=(SE.weaken (G:=G) ⟨_,_,_,ahu⟩ (fun i b hi=>px i b hi) fx)
  have qf:∀ i,i<([V.lp L fl]::bs).length→β' i=β i:=fun i hi=>by
   obtain⟨blk,_,e1,_⟩:=hB.bx i _ (aj hi)
   rw[e1];exact bH.ext i blk e1
  refine⟨I',β',fun i j=>if i<b1.length then ob' (.b i j) else none,none,⟨bH.below.os,bH.below.tape,bH.below.output,bH.below.size,bH.below.block,bH.below.drawn⟩,bH.ilow,fun b o wC=>?_,bH.kept,qf,fun i b hi hb=>?_,?_,.ofLit rfl,fun b hb=>by cases hb⟩
  ·rcases bH.ihigh b o wC with h4 | h4
   ·exact .inl h4
   ·exact .inr ⟨h4,bH.ibnd b o wC⟩
  ·rcases bH.bnew i b hb with h4 | h4
   ·have:=px i b h4;simp at hi;omega
   ·exact h4
  ·exact {
    bx:=fun i cs iE=>by
     have hi:i<b1.length:=(ak.1 iE).1
     obtain⟨blk,cur,e1,e2,e3,e4,e5,e7⟩:=bH.bx i hi
     have e:bxs b1 i=cs:=by simp[bxs,List.getD,iE]
     refine⟨blk,cur,e1,e2,by simp only[hdS,e] at e3;exact e3,by simp only[hdS,e] at e4;exact e4,fun j=>?_,e7⟩
     have:=e5 j
     simp only[hdS,e] at this
     rw[if_pos hi];exact this
    bnone:=fun i hi=>bH.bnone i hi
    binj:=bH.binj
    oinj:=fun i j i' j' b h h'=>by
     split at h<;>try cases h
     split at h'<;>try cases h'
     have:=bH.oinj _ _ b h h'
     simp only[Loc.b.injEq] at this;exact this
    obx:=fun i j b k h=>by
     split at h<;>try cases h
     exact bH.obx _ b k h
    obnd:=fun i j b h=>by
     split at h<;>try cases h
     exact bH.obnd _ b h
    olen:=fun i j hi=>by rw[if_neg (by omega)] }
 cases e with
 |normal=>
  obtain⟨I',β',ob',o',q⟩:=fin none _ rfl rfl
  exact⟨_,_,run_endRound none k3,_,I',β',ob',o',rfl,q⟩
 |exit i=>
  obtain⟨I',β',ob',o',q⟩:=fin (some (.exit i)) _ rfl rfl
  exact⟨_,_,run_endRound (some (.exit i)) k3,_,I',β',ob',o',rfl,q⟩
 |ret=>
  obtain⟨I',β',ob',o',q⟩:=fin (some .ret) _ rfl rfl
  exact⟨_,_,run_endRound (some .ret) k3,_,I',β',ob',o',rfl,q⟩
end
def kx (k j:Nat):Nat:=k+j
section
variable {k:Nat} {Y:List (List V)}
end
theorem V.ltP.mono {m n:Nat} {v:V} (h:v.ltP m) (fx:m≤n):v.ltP n:=by
 cases v<;>simp_all[V.ltP]<;>omega
theorem V.lt.mono {m n:Nat} {v:V} (h:v.lt m) (fx:m≤n):v.lt n:=by
 cases v
 all_goals first
  |trivial
  |(simp only[V.lt] at h ⊢;omega)
  |(simp only[V.lt] at h ⊢;exact fun x hx=>(h x hx).mono fx)
  |(simp only[V.lt] at h ⊢;exact⟨fun x hx=>(h.1 x hx).mono fx,fun x hx=>(h.2 x hx).mono fx⟩)
  |(simp only[V.lt] at h ⊢;exact h)
theorem tg {ρ:Nat→Nat} {m:Nat} {x:V} (h:x.ltP m) (hρ:∀ i,i<m→ρ i=i):x.renP ρ=x:=by
 cases x<;>simp_all[V.renP,V.ltP]
theorem sq {ρ:Nat→Nat} {m:Nat} {x:V} (h:x.lt m) (hρ:∀ i,i<m→ρ i=i):x.ren ρ=x:=by
 cases x
 all_goals first
  |rfl
  |(simp only[V.lt] at h;simp only[V.ren];rw[hρ _ h])
  |(simp only[V.lt] at h;simp only[V.ren];rw[iG fun x hx=>tg (h x hx) hρ])
  |(simp only[V.lt] at h;simp only[V.ren];rw[iG fun x hx=>tg (h.1 x hx) hρ,iG fun x hx=>tg (h.2 x hx) hρ])
  |(simp only[V.lt] at h;simp only[V.ren];rw[iG fun p hp=>by rw[tg (h p hp) hρ]])
theorem qV {ρ:Nat→Nat} {m:Nat} (hρ:∀ i,i<m→ρ i=i):∀ (b1:List (List V)) (k:Nat) (f:Nat→List V),k+b1.length≤m→(∀ b∈b1,∀ x∈b,x.lt m)→ff ρ k b1 f=ff (fun i=>i) k b1 f
 |[],_,_,_,_=>rfl
 |b::r,k,f,hk,h=>by
  simp only[aB] at hk
  simp only[ff]
  rw[hρ k (by omega),qV hρ r (k+1) _ (by omega) fun b hb=>h b (aM _ hb),oW,iG fun x hx=>sq (h b (aT ..) x hx) hρ]
theorem tj {ρ:Nat→Nat} {m nb:Nat} {f:Nat→List V} (hρ:∀ i,i<m→ρ i=i):∀ (b1:List (List V)) (k:Nat),k+b1.length≤m→(∀ b∈b1,∀ x∈b,x.lt m)→pB f nb (fun i=>i) k b1→pB f nb ρ k b1
 |[],_,_,_,_=>trivial
 |b::r,k,hk,h,h2=>by
  simp only[aB] at hk
  refine⟨?_,tj hρ r (k+1) (by omega) (fun b hb=>h b (aM _ hb)) h2.2⟩
  rw[hρ k (by omega),iG fun x hx=>sq (h b (aT ..) x hx) hρ]
  have:=h2.1
  rw[oW] at this
  exact this
theorem D4 {m nb i:Nat} (h:i<m):rho (List.range m) nb i=i:=by
 simp only[rho,jx,if_pos h,aA]
 rw[aj (by simpa using h)]
 simp
section
variable {P:Program} {G:Gl} {fr:Nat→V} {k n:Nat} {Y Y' ls rest:List (List V)} {f:V} {args all cargs:List V} {K:S→V→Prop} {r:V}
theorem ZH {b0 b1 rest:List (List V)} (hb:b1.length=b0.length):(fun i=>if 0≤i∧i<0+b1.length then b1.getD (i - 0) [] else bxs (b0++rest) i)=bxs (b1++rest):=by
 funext i
 simp only[au,fZ,ah,lb,bxs,aA]
 split
 ·rename_i h;rw[aC h]
 ·rename_i h
  rw[aJ (by omega),aJ (by omega),hb]
theorem NK {g:FuncId} (hc:ew f args=some (g,all)) (hf:FnB P G g cargs (Y++ls) r (Y'++ls)) (dh:all.map V.fz=cargs) (hY:Y.length=k) (hY':Y'.length=k) (bF:∀ b∈Y',∀ x∈b,x.lt k)
 (hn:(ls++rest).length=n) (hr:∀ ρ,r.ren ρ=r) (hK:K ⟨fr,bxs (Y'++(ls++rest)),kx k n⟩ r):vcallB P G ⟨fr,bxs (Y++(ls++rest)),kx k n⟩ f args K:=by
 unfold vcallB jR
 simp only[hc]
 have ce:(Y++ls).length=k+ls.length:=by rw[ax,hY]
 have Mf:(Y'++ls).length=(Y++ls).length:=by rw[ax,ce,hY']
 have hρ:∀ i,i<(Y++ls).length→rho (List.range (Y++ls).length) (kx k n) i=i:=fun i hi=>D4 hi
 have AM:∀ b∈Y'++ls,∀ x∈b,x.lt (Y++ls).length:=fun b hb x hx=>by
  rcases aY.1 hb with h | h
  ·exact(bF b h x hx).mono (by omega)
  ·exact hf.2.1.2.1 b (List.mem_append_right _ h) x hx
 refine⟨List.range (Y++ls).length,cargs,Y++ls,r,Y'++ls,hf,?_,⟨by simp,j0⟩,?_,?_⟩
 ·rw[dh,iG fun x hx=>sq (hf.2.1.1 x hx) hρ]
 ·refine tj hρ _ 0 (by omega) hf.2.1.2.1 (tf _ _ _ _ fun i b hb=>?_)
  have hi:=(ak.1 hb).1
  rw[ah]
  rw[ax] at hn
  refine⟨by simp only[kx];omega,?_⟩
  rw[← bU]
  simp only[bxs,aA]
  rw[aC hi,hb];rfl
 ·rw[qV hρ (Y'++ls) 0 _ (by omega) AM,qn,hr,← bU,ZH Mf,Mf,kj,dL,bU]
  exact hK
end
section
variable {P:Program} {G:Gl} {fr:Nat→V} {k n nb:Nat} {Y Y' ls:List (List V)}
def ltL (m:Nat) (l:List (List V)):Prop:=∀ b∈l,∀ x∈b,x.lt m
theorem Rc {l:List (Nat×V)} {bl:List (List V)} {k:Nat} {bx:Nat→List V} (hl:∀ p∈l,p.2.lt bl.length) (hb:ltL bl.length bl) (hk:k≤bl.length) (hn:bl.length≤nb) (h1:FL l fr) (h2:∀ i,i<bl.length→bxs bl i=bx i) :
 S.Le k (hdS l bl) ⟨fr,bx,nb⟩:=by
 refine⟨hk,h1.le,hn,fun i hi=>by simpa[hdS] using h2 i hi,fun t=>DK hl t,fun i hi x hx=>?_⟩
 simp only[hdS] at hi hx
 have:bxs bl i∈bl:=by
  simp only[bxs,List.getD,aj hi,bQ];exact aF hi
 exact hb _ this x hx
theorem ac6 {l:List (Nat×V)} {rest:List (List V)} (hY:Y.length=k) (bF:ltL k Y) {m n:Nat} (hm:ls.length=m) (hn:(ls++rest).length=n) (u3:ltL (kx k m) ls) (hl:∀ p∈l,p.2.lt (kx k m)) (h1:FL l fr) {j:Nat} (hj:j≤m) :
 S.Le (kx k j) (hdS l (Y++ls)) ⟨fr,bxs (Y++(ls++rest)),kx k n⟩:=by
 have ce:(Y++ls).length=kx k m:=by rw[ax,hY,hm];rfl
 rw[ax] at hn
 refine Rc (by rw[ce];exact hl) (fun b hb x hx=>?_) (by rw[ce];simp only[kx];omega) (by rw[ce];simp only[kx];omega) h1 fun i hi=>?_
 ·rw[ce]
  rcases aY.1 hb with h | h
  ·exact(bF b h x hx).mono (by simp only[kx];omega)
  ·exact u3 b h x hx
 ·rw[← bU]
  simp only[bxs,aA]
  rw[aC hi]
theorem Re {ls':List (List V)} {f:FuncId} {fn:Func} {c:Code} {args:List V} {r:V} (tr:List Nat) (hm:P.follows .mixedOrders=true) (hf:P.funcs[f]?=some fn) (hb:fn.body=some c) (gx:(fn.name== "runtime.NumGoroutine")=false)
 {rs:List ResultVar} (wG:fn.results.toList=rs) {nt:Nat} (hn:fn.ntmps=nt) (pt:cok nt tr c=true) (ce:args.length≤nt) (iH:r.compT=true)
 (hY:Y.length=k) (hY':Y'.length=k) (bF:ltL k Y) {m:Nat} (u3:ls.length=m) (ahx:ls'.length=m) (hl:ltL (kx k m) ls) (ha:∀ x∈args,x.lt (kx k m))
 (h:gy P G tr (kx k m) c (uA P (kx k m) r (Y'++ls') rs) ⟨frm 0 args,bxs (Y++ls),kx k m⟩):FnB P G f args (Y++ls) r (Y'++ls'):=by
 subst hn
 subst wG
 have Uy:(Y++ls).length=kx k m:=by rw[ax,hY,u3];rfl
 refine KT tr hm hf hb gx ce pt iH ⟨fun x hx=>by rw[Uy];exact ha x hx,fun b hb x hx=>?_,by rw[ax,ax,hY,hY',u3,ahx];exact ae _⟩ ?_
 ·rw[Uy]
  rcases aY.1 hb with h | h
  ·exact(bF b h x hx).mono (by simp only[kx];omega)
  ·exact hl b h x hx
 ·rw[w9] at h
  rw[Uy];exact h
theorem K1 {f:FuncId} {fn:Func} {c:Code} {args:List V} {r:V} (tr:List Nat) (hm:P.follows .mixedOrders=true) (hf:P.funcs[f]?=some fn) (hb:fn.body=some c) (gx:(fn.name== "runtime.NumGoroutine")=false)
 {rs:List ResultVar} (wG:fn.results.toList=rs) {nt:Nat} (hn:fn.ntmps=nt) (pt:cok nt tr c=true) (ce:args.length≤nt) (iH:r.compT=true)
 (hY:Y.length=k) (hY':Y'.length=k) (bF:ltL k Y) {m:Nat} (u3:ls.length=m) (hl:ltL (kx k m) ls) (ha:∀ x∈args,x.lt (kx k m))
 (h:gy P G tr (kx k m) c (uA P (kx k m) r (Y'++ls) rs) ⟨frm 0 args,bxs (Y++ls),kx k m⟩):FnB P G f args (Y++ls) r (Y'++ls):=
 Re tr hm hf hb gx wG hn pt ce iH hY hY' bF u3 u3 hl ha h
theorem ac7 {r:V} {rs:List ResultVar} {e:VE} (l:List (Nat×V)) {rest:List (List V)} {m n:Nat} (he:BP e=true) (hY:Y.length=k) (bF:ltL k Y) (hm:ls.length=m) (hn:(ls++rest).length=n) (u3:ltL (kx k m) ls) (hl:∀ p∈l,p.2.lt (kx k m)) (h1:FL l fr)
 (hr:pX P false (hdS l (Y++ls)) r rs):uA P (kx k m) r (Y++ls) rs e ⟨fr,bxs (Y++(ls++rest)),kx k n⟩:=
 ⟨Gt _ he,l,ac6 hY bF hm hn u3 hl h1 (ae _),hr⟩
end
section
variable {P:Program} {G:Gl} {fr:Nat→V} {k n:Nat} {Y Y' ls:List (List V)} {f:V} {args all cargs:List V} {K:S→V→Prop} {r:V}
