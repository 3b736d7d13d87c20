/- Values without memory: a round of a loop over a function: its contract, from the loop's text. -/
import Derived.Test.YtegbpjodbjhjeaaGreatDoorVlRunB
set_option linter.all false
namespace Go.Vl
open Go Go.RowKit
section
variable {P:Program} {G:Gl} {tr:List Nat} {n:Nat} {I0:Ft} {M:Mx} {w0:World} {I:Ft} {β:Nat->Option Nat} {ob:Loc->Option Nat} {s:S} {a:Act} {w:World} {base:Nat->Prop} {v:Value} {x:V}
theorem KR.toLR (h:KR I β w v x):LR base I β w none v x:=by
 rcases h with rfl | ⟨h1,h2⟩ | h
 .simp only[LR];exact .un _
 .exact .ofDR h2
 .exact h.toLR
def frY (fl:List (Nat×V)) (ps:List Tmp) (xs:List V):Nat->V:=(ps.zip xs).foldl (λf p=>up f p.1 p.2) (frs fl)
def Ig (L:Loop):VE->Loop
 | .normal=>{ L with state:=.ready,pending:=none }
 | .exit i=>{ L with state:=.done,pending:=some (.exit i) }
 | .ret=>{ L with state:=.done,pending:=some .ret }
def acb:VE->Bool
 | .normal=>true
 |_=>false
def acd (k:Nat) (r:V) (b1:List (List V)) (e:VE) (s:S):Prop:=
 r=.c (.lit (.bool (acb e)))/\∃ L fl gs,(s.bx 0=.lp L fl::gs/\0<s.nb)/\∃ l,S.Le k (hdS l b1) { s with bx:=up s.bx 0 (.lp (Ig L e) fl::gs) }
def aas (k:Nat) (R:V->List (List V)->Prop) (e:VE) (s:S):Prop:=∃ r b1,R r b1/\acd k r b1 e s
theorem ML:∀ (fl:List (Nat×V)) (t:Nat),frs fl t=.un∨(t,frs fl t)∈fl
 |[],t=>.inl rfl
 |(i,x)::r,t=>by
  by_cases h:t=i
  .subst h;right;simp[frs]
  .rcases ML r t with h1 | h1
   .left;simp[frs,aw,h,h1]
   .right;simp[frs,aw,h,h1]
theorem Ti:∀ (ps:List Tmp) (xs:List V) (us:List Value) (f:Nat->V) (tm:Array Value),ps.length=xs.length->us.length=xs.length->(∀ p∈ps,p<tm.size)->
 (∀ j x,xs[j]?=some x->LR base I β w none (us.getD j undef) x)->(∀ t,LR base I β w none (tm.getD t undef) (f t))->
 (∀ t,LR base I β w none (((ps.zip us).foldl (λtm (p:Tmp×Value)=>tm.setIfInBounds p.1 p.2) tm).getD t undef) ((ps.zip xs).foldl (λf (p:Tmp×V)=>up f p.1 p.2) f t))/\
  ((ps.zip us).foldl (λtm (p:Tmp×Value)=>tm.setIfInBounds p.1 p.2) tm).size=tm.size
 |[],_,_,f,tm,_,_,_,_,hf=>⟨hf,rfl⟩
 |p::ps,[],_,_,_,h,_,_,_,_=>by simp at h
 |p::ps,x::xs,[],_,_,_,h,_,_,_=>by simp at h
 |p::ps,x::xs,u::us,f,tm,h1,h2,h3,h4,hf=>by
  have hx:LR base I β w none u x:=h4 0 x rfl;have hp:p<tm.size:=h3 p (aX ..);obtain⟨q1,q2⟩:=Ti ps xs us (up f p x) (tm.setIfInBounds p u) (by simpa using h1) (by simpa using h2) (λq hq=>by rw[eA];exact h3 q (aT _ hq))
   (λj y hy=>by simpa using h4 (j+1) y (by simpa using hy)) (λt=>by
    by_cases ht:t=p
    .subst ht;rw[cG,qx _ _ _ hp];exact hx
    .rw[dp _ _ ht,getD_set_ne _ _ _ _ ht];exact hf t)
  exact⟨q1,by rw[List.zip_cons_cons,fY,q2,eA]⟩
theorem St.initF {ob:Nat->Nat->Option Nat} {tm:Array Value} {fr:Nat->V} {b0:List (List V)} (hI:∀ b o,I b o->b<w.heap.size) (hg:GOK G I w) (hB:BxR (Wr M w) I w β ob b0) (ej:tm.size=n)
 (ji:∀ t,LR (Wr M w) I β w none (tm.getD t undef) (fr t)):St G n I ⟨M.m,β,[]⟩ w I β (obB ob) ⟨fr,bxs b0,b0.length⟩ { tmps:=tm,defers:=[] } w:=by
 have h0:St G ((#[]:Array Value)++Array.replicate (0 - (#[]:Array Value).size) undef).size I ⟨M.m,β,[]⟩ w I β (obB ob) ⟨λj=>([]:List V).getD j .un,bxs b0,b0.length⟩ { tmps:=#[]++Array.replicate (0 - (#[]:Array Value).size) undef,defers:=[] } w:=
  St.initB (n:=0) (vs:=#[]) (args:=[]) hI hg hB rfl (by simp) rfl
 exact {
  size:=ej,defers:=rfl,below:=h0.below,ilow:=h0.ilow,kept:=h0.kept,ihigh:=h0.ihigh,ibnd:=h0.ibnd
  fr:=λt=>by simp only[obB];exact ji t
  bx:=h0.bx,bnone:=h0.bnone,ext:=h0.ext,bnew:=h0.bnew,binj:=h0.binj,oinj:=h0.oinj,obx:=h0.obx,obnd:=h0.obnd,glob:=h0.glob }
theorem afH {L:Loop} {fl:List (Nat×V)} {gs:List V} {xs:List V} {bs:List (List V)} {R:V->List (List V)->Prop} (tr:List Nat) (hm:P.follows .mixedOrders=true) (aeK:L.state=.ready) (xZ:L.params.toList.length=xs.length)
 (LU:∀ p∈L.params.toList,p<L.defers) (aeL:cok L.defers tr L.assign=true) (Md:cok L.defers tr L.body=true)
 (JR:(∀ x∈xs,x.lt (bs.length+1))/\(∀ b∈(V.lp L fl::gs)::bs,∀ x∈b,x.lt (bs.length+1))/\∀ r b1,R r b1->bs.length+1<=b1.length)
 (h:gJ P G tr (bs.length+1) L.assign (λe s=>e=.normal/\(s.bx 0=.lp L fl::gs/\0<s.nb)/\gJ P G tr (bs.length+1) L.body (aas (bs.length+1) R) { s with bx:=up s.bx 0 (.lp { L with state:=.busy } fl::gs) })
  ⟨frY fl L.params.toList xs,bxs ((V.lp L fl::gs)::bs),bs.length+1⟩) (sY:sZ tr=false:=by rfl):YE P G xs ((V.lp L fl::gs)::bs) R:=by
 refine⟨JR,λI M w vs β ob l hI hg hB hβ0 ej ha=>?_⟩;obtain⟨blk,cur,e1,e2,e3,e4,e5,e7⟩:=hB.bx 0 _ rfl;rw[hβ0] at e1;cases e1;obtain⟨f,tm,d,⟨h3,qt⟩,mg,rfl⟩:∃ (f:FuncId) (tm:Array Value) (d:Nat),(w.heap[l]?=some (.loop { L with fn:=f,tmps:=tm,defers:=d })/\tm.size=L.defers)/\∃ m:Nat,cur=#[Value.tuple tm]++Array.replicate m undef:=e3
 have nq:∀ t x,(t,x)∈fl->KR I β w (tm.getD t undef) x:=by
  have:=e5 0;have h5:LR (Wr M w) I β w (ob 0 0) (.tuple tm) (.lp L fl):=by have e:(#[Value.tuple tm]++Array.replicate mg undef).getD 0 undef=.tuple tm:=(by simp[Array.getD]);rw[e] at this;exact this
  simp only[LR] at h5;obtain⟨tm',e,h6⟩:=h5;cases e;exact h6
 have hy:=run_yield (P:=P) (args:=vs) h3 (by rw[ej];simpa using xZ.symm);have akl:(L.params.zip vs).foldl (λtmps (x:Tmp×Value)=>tmps.setIfInBounds x.1 x.2) tm=(L.params.toList.zip vs.toList).foldl (λtm (p:Tmp×Value)=>tm.setIfInBounds p.1 p.2) tm:=by rw[<- Array.foldl_toList,Array.toList_zip]
 obtain⟨ji,iU⟩:=Ti (base:=Wr M w) (I:=I) (β:=β) (w:=w) L.params.toList xs vs.toList (frs fl) tm xZ (by simpa using ej) (λp hp=>by rw[qt];exact LU p hp) (λj x hx=>by
  have:=ha j x hx;rw[aG,aY,<- au];exact this)
  (λt=>by
   rcases ML fl t with h1 | h1
   .rw[h1];simp only[LR];exact .un _
   .exact(nq t _ h1).toLR)
 have hst:=St.initF (n:=L.defers) hI hg hB (iU.trans qt) ji;have pT:∀ i b,β i=some b->i<bs.length+1:=λi b hi=>by
  by_cases h:i<bs.length+1
  .exact h
  .rw[hB.bnone i (by simp;omega)] at hi;cases hi
 refine⟨f,_,L.assign,L.body,hy,roundIn_of_wpIn (F:=Fence.wide) trivial ?_⟩;have ahy:(Array.foldl (λtmps x=>match x with | (t,a)=>tmps.setIfInBounds t a) tm (L.params.zip vs))=(L.params.toList.zip vs.toList).foldl (λtm (p:Tmp×Value)=>tm.setIfInBounds p.1 p.2) tm:=akl
 show L.assign.wpIn (FW (some l)) 0 P _ { tmps:=Array.foldl (λtmps x=>match x with | (t,a)=>tmps.setIfInBounds t a) tm (L.params.zip vs),defers:=[] } w
 rw[ahy];refine lE (l:=some l) (m:=0) hm (λi b hi=>pT i b hi) (.inr sY) L.assign aeL _ _ (λe s1 a1 w1 hq cM=>?_) _ _ _ h (.of ⟨_,_,_,hst⟩);obtain⟨rfl,⟨ul,ahA⟩,hq⟩:=hq;obtain⟨I1,β1,ob1,pP⟩:=cM.se sY;have hl1:β1 0=some l:=pP.ext 0 l hβ0;obtain⟨blk,cur,g1,g2,g3,g4,g5,g7⟩:=pP.bx 0 ahA;rw[hl1] at g1;cases g1;rw[ul] at g3 g5;rw[ul] at g4;obtain⟨f1,tm1,d1,⟨k3,kts⟩,mg1,rfl⟩:∃ (f:FuncId) (tm:Array Value) (d:Nat),(w1.heap[l]?=some (.loop { L with fn:=f,tmps:=tm,defers:=d })/\tm.size=L.defers)/\∃ m:Nat,cur=#[Value.tuple tm]++Array.replicate m undef:=g3
 refine⟨_,run_beginRound k3 aeK,?_⟩;have oG:=pP.reBox (o:=.loop { { L with fn:=f1,tmps:=tm1,defers:=d1 } with state:=.busy }) (l:=.lp { L with state:=.busy } fl::gs) (cur:=#[Value.tuple tm1]++Array.replicate mg1 undef) (od:=λj=>ob1 (.b 0 j)) ahA hl1
  ⟨f1,tm1,d1,⟨nU (bq.1 k3).1,kts⟩,mg1,rfl⟩ g4 (λj=>by
   have:=g5 j;cases j with
   |zero=>exact this
   |succ j=>exact this) (λj b hb=>hb)
 refine lE (l:=some l) (m:=0) hm (λi b hi=>pT i b hi) (.inr sY) L.body Md _ _ (λe s3 a3 w3 hq cM=>?_) _ _ _ hq (.of ⟨_,_,_,oG⟩);obtain⟨r,b1,hR,rfl,L',fl',gs',⟨ahB,ahC⟩,lf,fO⟩:=hq;obtain⟨I3,β3,ob3,wi⟩:=cM.se sY;have hl3:β3 0=some l:=wi.ext 0 l hβ0;obtain⟨blk,cur,g1,g2,g3,g4,g5,g7⟩:=wi.bx 0 ahC;rw[hl3] at g1;cases g1;rw[ahB] at g3 g5;rw[ahB] at g4;obtain⟨f3,tm3,d3,⟨k3,kts⟩,mg3,rfl⟩:∃ (f:FuncId) (tm:Array Value) (d:Nat),(w3.heap[l]?=some (.loop { L' with fn:=f,tmps:=tm,defers:=d })/\tm.size=L'.defers)/\∃ m:Nat,cur=#[Value.tuple tm]++Array.replicate m undef:=g3
 have fin:∀ (jump:Option Code) (L3:Loop),L3={ Ig L' e with fn:=f3,tmps:=tm3,defers:=d3 }->(Ig L' e).defers=L'.defers->∃ I' β' ob' o',BelowM (GT G) M w (World.putObj w3 l (.loop L3))/\(∀ b o,I b o->I' b o)/\(∀ b o,I' b o->I b o∨(Wr M w b/\b<(World.putObj w3 l (.loop L3)).heap.size))/\
  (∀ b o,I b o->(World.putObj w3 l (.loop L3)).cell? ⟨b,o,none⟩=w.cell? ⟨b,o,none⟩)/\(∀ i,i<((V.lp L fl::gs)::bs).length->β' i=β i)/\(∀ i b,((V.lp L fl::gs)::bs).length<=i->β' i=some b->Wr M w b)/\BxR (Wr M w) I' (World.putObj w3 l (.loop L3)) β' ob' b1/\
  LR (Wr M w) I' β' (World.putObj w3 l (.loop L3)) o' (.bool (acb e)) (.c (.lit (.bool (acb e))))/\(∀ b,o'=some b->(b<(World.putObj w3 l (.loop L3)).heap.size/\Wr M w b)/\(∀ i j,ob' i j≠some b)/\∀ i,β' i≠some b):=by
  intro jump L3 hL3 hyd;have akm:=wi.reBox (o:=.loop L3) (l:=.lp (Ig L' e) fl'::gs') (cur:=#[Value.tuple tm3]++Array.replicate mg3 undef) (od:=λj=>ob3 (.b 0 j)) ahC hl3
   ⟨f3,tm3,d3,⟨by rw[hL3];exact nU (bq.1 k3).1,by rw[hyd];exact kts⟩,mg3,rfl⟩ g4 (λj=>by
    have:=g5 j;cases j with
    |zero=>exact this
    |succ j=>exact this) (λj b hb=>hb)
  obtain⟨I',β',ob',bP⟩:=(SE.weaken (G:=G) ⟨_,_,_,akm⟩ (λi b hi=>pT i b hi) fO);have qL:∀ i,i<((V.lp L fl::gs)::bs).length->β' i=β i:=λi hi=>by obtain⟨blk,_,e1,_⟩:=hB.bx i _ (ak hi);rw[e1];exact bP.ext i blk e1
  refine⟨I',β',λi j=>if i<b1.length then ob' (.b i j) else none,none,⟨bP.below.os,bP.below.tape,bP.below.output,bP.below.size,bP.below.block,bP.below.drawn⟩,bP.ilow,λb o xW=>?_,bP.kept,qL,λi b hi hb=>?_,?_,.ofLit rfl,λb hb=>by cases hb⟩
  .rcases bP.ihigh b o xW with h4 | h4
   .exact .inl h4
   .exact .inr ⟨h4,bP.ibnd b o xW⟩
  .rcases bP.bnew i b hb with h4 | h4
   .have:=pT i b h4;simp at hi;omega
   .exact h4
  .exact {
    bx:=λi cs ju=>by have hi:i<b1.length:=(am.1 ju).1;obtain⟨blk,cur,e1,e2,e3,e4,e5,e7⟩:=bP.bx i hi;have e:bxs b1 i=cs:=(by simp[bxs,List.getD,ju]);refine⟨blk,cur,e1,e2,by simp only[hdS,e] at e3;exact e3,by simp only[hdS,e] at e4;exact e4,λj=>?_,e7⟩;have:=e5 j;simp only[hdS,e] at this;rw[if_pos hi];exact this
    bnone:=λi hi=>bP.bnone i hi
    binj:=bP.binj
    oinj:=λi j i' j' b h h'=>by
     split at h<;>try cases h
     split at h'<;>try cases h'
     have:=bP.oinj _ _ b h h';simp only[Loc.b.injEq] at this;exact this
    obx:=λi j b k h=>by
     split at h<;>try cases h
     exact bP.obx _ b k h
    obnd:=λi j b h=>by
     split at h<;>try cases h
     exact bP.obnd _ b h
    olen:=λi j hi=>by rw[if_neg (by omega)] }
 cases e with
 |normal=>obtain⟨I',β',ob',o',q⟩:=fin none _ rfl rfl;exact⟨_,_,run_endRound none k3,_,b1,hR,_,I',β',ob',o',rfl,q⟩
 |exit i=>obtain⟨I',β',ob',o',q⟩:=fin (some (.exit i)) _ rfl rfl;exact⟨_,_,run_endRound (some (.exit i)) k3,_,b1,hR,_,I',β',ob',o',rfl,q⟩
 |ret=>obtain⟨I',β',ob',o',q⟩:=fin (some .ret) _ rfl rfl;exact⟨_,_,run_endRound (some .ret) k3,_,b1,hR,_,I',β',ob',o',rfl,q⟩
theorem afI {L:Loop} {fl:List (Nat×V)} {xs:List V} {bs b1:List (List V)} {r:V} (tr:List Nat) (hm:P.follows .mixedOrders=true) (aeK:L.state=.ready) (xZ:L.params.toList.length=xs.length)
 (LU:∀ p∈L.params.toList,p<L.defers) (aeL:cok L.defers tr L.assign=true) (Md:cok L.defers tr L.body=true)
 (JR:(∀ x∈xs,x.lt (bs.length+1))/\(∀ b∈[V.lp L fl]::bs,∀ x∈b,x.lt (bs.length+1))/\bs.length+1<=b1.length)
 (h:gJ P G tr (bs.length+1) L.assign (λe s=>e=.normal/\(s.bx 0=[.lp L fl]/\0<s.nb)/\gJ P G tr (bs.length+1) L.body (acd (bs.length+1) r b1) { s with bx:=up s.bx 0 [.lp { L with state:=.busy } fl] })
  ⟨frY fl L.params.toList xs,bxs ([V.lp L fl]::bs),bs.length+1⟩) (sY:sZ tr=false:=by rfl):YB P G xs ([V.lp L fl]::bs) r b1:=by
 have e:aas (bs.length+1) (λr' b'=>r'=r/\b'=b1)=acd (bs.length+1) r b1:=by funext e s;exact propext ⟨λ⟨_,_,⟨h1,h2⟩,h3⟩=>by rw[h1,h2] at h3;exact h3,λh=>⟨_,_,⟨rfl,rfl⟩,h⟩⟩
 refine (afH (gs:=[]) tr hm aeK xZ LU aeL Md ⟨JR.1,JR.2.1,λ_ _ e=>by rw[e.2];exact JR.2.2⟩ (by rw[e];exact h) sY).toB JR.2.2
end
def kx (k j:Nat):Nat:=k+j
section
variable {k:Nat} {Y:List (List V)}
end
theorem V.ltP.mono {m n:Nat} {v:V} (h:v.ltP m) (fO:m<=n):v.ltP n:=by cases v<;>simp_all[V.ltP]<;>omega
theorem V.lt.mono {m n:Nat} {v:V} (h:v.lt m) (fO:m<=n):v.lt n:=by
 cases v
 all_goals first
  |trivial
  |(simp only[V.lt] at h ⊢;omega)
  |(simp only[V.lt] at h ⊢;exact λx hx=>(h x hx).mono fO)
  |(simp only[V.lt] at h ⊢;exact⟨λx hx=>(h.1 x hx).mono fO,λx hx=>(h.2 x hx).mono fO⟩)
  |(simp only[V.lt] at h ⊢;exact h)
theorem uC {ρ:Nat->Nat} {m:Nat} {x:V} (h:x.ltP m) (hρ:∀ i,i<m->ρ i=i):x.renP ρ=x:=by cases x<;>simp_all[V.renP,V.ltP]
theorem tK {ρ:Nat->Nat} {m:Nat} {x:V} (h:x.lt m) (hρ:∀ i,i<m->ρ i=i):x.ren ρ=x:=by
 cases x
 all_goals first
  |rfl
  |(simp only[V.lt] at h;simp only[V.ren];rw[hρ _ h])
  |(simp only[V.lt] at h;simp only[V.ren];rw[iS λx hx=>uC (h x hx) hρ])
  |(simp only[V.lt] at h;simp only[V.ren];rw[iS λx hx=>uC (h.1 x hx) hρ,iS λx hx=>uC (h.2 x hx) hρ])
  |(simp only[V.lt] at h;simp only[V.ren];rw[iS λp hp=>by rw[uC (h p hp) hρ]])
theorem rM {ρ:Nat->Nat} {m:Nat} (hρ:∀ i,i<m->ρ i=i):∀ (b1:List (List V)) (k:Nat) (f:Nat->List V),k+b1.length<=m->(∀ b∈b1,∀ x∈b,x.lt m)->fC ρ k b1 f=fC (λi=>i) k b1 f
 |[],_,_,_,_=>rfl
 |b::r,k,f,hk,h=>by simp only[aI] at hk;simp only[fC];rw[hρ k (by omega),rM hρ r (k+1) _ (by omega) λb hb=>h b (aT _ hb),pz,iS λx hx=>tK (h b (aX ..) x hx) hρ]
theorem uD {ρ:Nat->Nat} {m nb:Nat} {f:Nat->List V} (hρ:∀ i,i<m->ρ i=i):∀ (b1:List (List V)) (k:Nat),k+b1.length<=m->(∀ b∈b1,∀ x∈b,x.lt m)->pV f nb (λi=>i) k b1->pV f nb ρ k b1
 |[],_,_,_,_=>trivial
 |b::r,k,hk,h,h2=>by simp only[aI] at hk;refine⟨?_,uD hρ r (k+1) (by omega) (λb hb=>h b (aT _ hb)) h2.2⟩;rw[hρ k (by omega),iS λx hx=>tK (h b (aX ..) x hx) hρ];have:=h2.1;rw[pz] at this;exact this
theorem FD {m nb i:Nat} (h:i<m):rho (List.range m) nb i=i:=by simp only[rho,jC,if_pos h,aG];rw[ak (by simpa using h)];simp
section
variable {P:Program} {G:Gl} {fr:Nat->V} {k n:Nat} {Y Y' ls rest:List (List V)} {f:V} {args all cargs:List V} {K:S->V->Prop} {r:V}
theorem ace {b0 b1 rest:List (List V)} (hb:b1.length=b0.length):(λi=>if 0<=i/\i<0+b1.length then b1.getD (i - 0) [] else bxs (b0++rest) i)=bxs (b1++rest):=by
 funext i;simp only[ar,bX,ao,lF,bxs,aG];split
 .rename_i h;rw[aM h]
 .rename_i h
  rw[aU (by omega),aU (by omega),hb]
theorem Pl {g:FuncId} (hc:eB f args=some (g,all)) (hf:FnB P G g cargs (Y++ls) r (Y'++ls)) (dC:all.map V.fz=cargs) (hY:Y.length=k) (hY':Y'.length=k) (bF:∀ b∈Y',∀ x∈b,x.lt k)
 (hn:(ls++rest).length=n) (hr:∀ ρ,r.ren ρ=r) (hK:K ⟨fr,bxs (Y'++(ls++rest)),kx k n⟩ r):vcallB P G ⟨fr,bxs (Y++(ls++rest)),kx k n⟩ f args K:=by
 unfold vcallB jX;simp only[hc];have cH:(Y++ls).length=k+ls.length:=by rw[aB,hY]
 have NT:(Y'++ls).length=(Y++ls).length:=by rw[aB,cH,hY']
 have hρ:∀ i,i<(Y++ls).length->rho (List.range (Y++ls).length) (kx k n) i=i:=λi hi=>FD hi;have Cg:∀ b∈Y'++ls,∀ x∈b,x.lt (Y++ls).length:=λb hb x hx=>by
  rcases bh.1 hb with h | h
  .exact(bF b h x hx).mono (by omega)
  .exact hf.2.1.2.1 b (List.mem_append_right _ h) x hx
 refine⟨List.range (Y++ls).length,cargs,Y++ls,r,Y'++ls,hf,?_,⟨by simp,j6⟩,?_,?_⟩
 .rw[dC,iS λx hx=>tK (hf.2.1.1 x hx) hρ]
 .refine uD hρ _ 0 (by omega) hf.2.1.2.1 (uB _ _ _ _ λi b hb=>?_)
  have hi:=(am.1 hb).1;rw[ao];rw[aB] at hn;refine⟨by simp only[kx];omega,?_⟩;rw[<- bU];simp only[bxs,aG];rw[aM hi,hb];rfl
 .rw[rM hρ (Y'++ls) 0 _ (by omega) Cg,qT,hr,<- bU,ace NT,NT,kw,en,bU]
  exact hK
end
section
variable {P:Program} {G:Gl} {fr:Nat->V} {k n nb:Nat} {Y Y' ls:List (List V)}
def ltL (m:Nat) (l:List (List V)):Prop:=∀ b∈l,∀ x∈b,x.lt m
theorem Tj {l:List (Nat×V)} {bl:List (List V)} {k:Nat} {bx:Nat->List V} (hl:∀ p∈l,p.2.lt bl.length) (hb:ltL bl.length bl) (hk:k<=bl.length) (hn:bl.length<=nb) (h1:FL l fr) (h2:∀ i,i<bl.length->bxs bl i=bx i) :
 S.Le k (hdS l bl) ⟨fr,bx,nb⟩:=by
 refine⟨hk,h1.le,hn,λi hi=>by simpa[hdS] using h2 i hi,λt=>Fi hl t,λi hi x hx=>?_⟩;simp only[hdS] at hi hx;have:bxs bl i∈bl:=by simp only[bxs,List.getD,ak hi,ba];exact aH hi
 exact hb _ this x hx
theorem afJ {l:List (Nat×V)} {rest:List (List V)} (hY:Y.length=k) (bF:ltL k Y) {m n:Nat} (hm:ls.length=m) (hn:(ls++rest).length=n) (xU:ltL (kx k m) ls) (hl:∀ p∈l,p.2.lt (kx k m)) (h1:FL l fr) {j:Nat} (hj:j<=m) :
 S.Le (kx k j) (hdS l (Y++ls)) ⟨fr,bxs (Y++(ls++rest)),kx k n⟩:=by
 have cH:(Y++ls).length=kx k m:=by rw[aB,hY,hm];rfl
 rw[aB] at hn;refine Tj (by rw[cH];exact hl) (λb hb x hx=>?_) (by rw[cH];simp only[kx];omega) (by rw[cH];simp only[kx];omega) h1 λi hi=>?_
 .rw[cH]
  rcases bh.1 hb with h | h
  .exact(bF b h x hx).mono (by simp only[kx];omega)
  .exact xU b h x hx
 .rw[<- bU]
  simp only[bxs,aG];rw[aM hi]
theorem Tk {ls':List (List V)} {f:FuncId} {fn:Func} {c:Code} {args:List V} {r:V} (tr:List Nat) (hm:P.follows .mixedOrders=true) (hf:P.funcs[f]?=some fn) (hb:fn.body=some c) (gZ:(fn.name== "runtime.NumGoroutine")=false)
 {rs:List ResultVar} (Az:fn.results.toList=rs) {nt:Nat} (hn:fn.ntmps=nt) (pS:cok nt tr c=true) (cH:args.length<=nt) (iV:r.compT=true)
 (hY:Y.length=k) (hY':Y'.length=k) (bF:ltL k Y) {m:Nat} (xU:ls.length=m) (akn:ls'.length=m) (hl:ltL (kx k m) ls) (ha:∀ x∈args,x.lt (kx k m))
 (h:gJ P G tr (kx k m) c (vJ P (kx k m) r (Y'++ls') rs) ⟨frm 0 args,bxs (Y++ls),kx k m⟩):FnB P G f args (Y++ls) r (Y'++ls'):=by
 subst hn;subst Az;have WN:(Y++ls).length=kx k m:=by rw[aB,hY,xU];rfl
 refine MF tr hm hf hb gZ cH pS iV ⟨λx hx=>by rw[WN];exact ha x hx,λb hb x hx=>?_,by rw[aB,aB,hY,hY',xU,akn];exact ai _⟩ ?_
 .rw[WN]
  rcases bh.1 hb with h | h
  .exact(bF b h x hx).mono (by simp only[kx];omega)
  .exact hl b h x hx
 .rw[yv] at h
  rw[WN];exact h
theorem MM {f:FuncId} {fn:Func} {c:Code} {args:List V} {r:V} (tr:List Nat) (hm:P.follows .mixedOrders=true) (hf:P.funcs[f]?=some fn) (hb:fn.body=some c) (gZ:(fn.name== "runtime.NumGoroutine")=false)
 {rs:List ResultVar} (Az:fn.results.toList=rs) {nt:Nat} (hn:fn.ntmps=nt) (pS:cok nt tr c=true) (cH:args.length<=nt) (iV:r.compT=true)
 (hY:Y.length=k) (hY':Y'.length=k) (bF:ltL k Y) {m:Nat} (xU:ls.length=m) (hl:ltL (kx k m) ls) (ha:∀ x∈args,x.lt (kx k m))
 (h:gJ P G tr (kx k m) c (vJ P (kx k m) r (Y'++ls) rs) ⟨frm 0 args,bxs (Y++ls),kx k m⟩):FnB P G f args (Y++ls) r (Y'++ls):=
 Tk tr hm hf hb gZ Az hn pS cH iV hY hY' bF xU xU hl ha h
theorem afK {r:V} {rs:List ResultVar} {e:VE} (l:List (Nat×V)) {rest:List (List V)} {m n:Nat} (he:Dk e=true) (hY:Y.length=k) (bF:ltL k Y) (hm:ls.length=m) (hn:(ls++rest).length=n) (xU:ltL (kx k m) ls) (hl:∀ p∈l,p.2.lt (kx k m)) (h1:FL l fr)
 (hr:qC P false (hdS l (Y++ls)) r rs):vJ P (kx k m) r (Y++ls) rs e ⟨fr,bxs (Y++(ls++rest)),kx k n⟩:=
 ⟨H4 _ he,l,afJ hY bF hm hn xU hl h1 (ai _),hr⟩
end
section
variable {P:Program} {G:Gl} {fr:Nat->V} {k n:Nat} {Y Y' ls:List (List V)} {f:V} {args all cargs:List V} {K:S->V->Prop} {r:V}
