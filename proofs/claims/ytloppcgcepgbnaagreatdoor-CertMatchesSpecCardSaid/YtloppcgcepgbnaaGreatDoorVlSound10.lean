/- Values without memory: the operations keep the relation: append. -/
import Derived.Test.YtloppcgcepgbnaaGreatDoorVlSound5
import Derived.Deep.AppendSrc
import Derived.Conc.MuLone
import Derived.MapKept
import Derived.WideKeyRuns
set_option linter.all false
namespace Go.Vl
open Go Go.RowKit
section
variable {P:Program} {G:Gl} {tr:List Nat} {n:Nat} {I0:Ft} {M:Mx} {w0:World} {I:Ft} {β:Nat->Option Nat} {ob:Loc->Option Nat} {s:S} {a:Act} {w:World} {o:Oper}
 {next:Act->World->Prop} {Q:Exit->Act->World->Prop} {base:Nat->Prop} {v:Value} {x y:V} {K:V->Prop}
theorem U7 {J:Ft} {b off sz sz':Nat} {es:List (List C)} {f:Nat->Nat->Value} (hs:∀ x∈es,x.length=sz) (Is:∀ e∈es,e.length=sz')
 (eU:∀ i j,i<es.length->j<sz'->w.cell? ⟨b,off+i*sz'+j,none⟩=some (f i j)/\J b (off+i*sz'+j)) (qh:∀ i j e c,es[i]?=some e->e[j]?=some c->CR I w (f i j) c) :
 ∃ vs:List Value,vs.length=es.length*sz/\(∀ (q:Nat) (u:Value),vs[q]?=some u->w.cell? ⟨b,off+q,none⟩=some u/\J b (off+q))/\
  (∀ (q:Nat) (c:C),es.flatten[q]?=some c->∃ u,vs[q]?=some u/\CR I w u c)/\(∀ u∈vs,u.oneCell'=true):=by
 have lu:=bN es hs;by_cases h0:es.length*sz=0
 .refine⟨[],by simp[h0],by simp,λq c hq=>?_,by simp⟩
  have:=(aj.1 hq).1;omega
 have alb:0<sz:=Nat.pos_of_ne_zero λe=>h0 (by simp[e]);have Qo:0<es.length:=Nat.pos_of_ne_zero λe=>h0 (by simp[e]);have fO:sz'=sz:=by rw[<- Is es[0] (bR _),hs es[0] (bR _)]
 subst fO;have jg:∀ q,q<es.length*sz'->q / sz'<es.length/\q % sz'<sz'/\q=q / sz'*sz'+q % sz':=λq hq=>
  ⟨by rw[Nat.div_lt_iff_lt_mul alb];exact hq,Nat.mod_lt _ alb,by rw[kM];exact(Nat.div_add_mod q sz').symm⟩
 have Au:∀ (q:Nat) (c:C),es.flatten[q]?=some c->q<es.length*sz'/\CR I w (f (q / sz') (q % sz')) c:=λq c hq=>by have bE:=(aj.1 hq).1;rw[lu] at bE;obtain⟨h1,h2,h3⟩:=jg q bE;rw[h3,mP es hs _ _ h2] at hq;simp only[ai h1,jr] at hq;exact⟨bE,qh _ _ _ c (ai h1) hq⟩
 refine⟨(List.range (es.length*sz')).map λq=>f (q / sz') (q % sz'),by simp,λq u hq=>?_,λq c hq=>?_,λu hu=>?_⟩
 .simp only[bj,aV] at hq
  obtain⟨q',hq',rfl⟩:=hq;have bE:=(aj.1 hq').1;simp at bE;have hqq:q'=q:=by have:=(aj.1 hq').2;simpa using this.symm
  subst hqq;obtain⟨h1,h2,h3⟩:=jg q' bE;have:=eU _ _ h1 h2;rw[dM,<- h3] at this;exact this
 .obtain⟨bE,jq⟩:=Au q c hq
  exact⟨_,by simp[bE],jq⟩
 .simp only[bU,c9] at hu
  obtain⟨q,hq,rfl⟩:=hu;obtain⟨c,hc⟩:∃ c,es.flatten[q]?=some c:=⟨_,ai (by omega)⟩;exact(Au q c hc).2.oneCell
theorem CR.flat {b off cap sz:Nat} {es:List (List C)} (h:CR I w (.slice (some ⟨b,off,none⟩) es.length cap) (.sl es)) (hs:∀ x∈es,x.length=sz) :
 ∃ vs:List Value,vs.length=es.length*sz/\(∀ (q:Nat) (u:Value),vs[q]?=some u->w.cell? ⟨b,off+q,none⟩=some u/\I b (off+q))/\
  (∀ (q:Nat) (c:C),es.flatten[q]?=some c->∃ u,vs[q]?=some u/\CR I w u c)/\(∀ u∈vs,u.oneCell'=true):=by
 rcases h.sl_inv with⟨_,rfl⟩ | ⟨b',off',cap',sz',f,hv,kX,Is,eU,qh⟩
 .exact⟨[],by simp,by simp,by simp,by simp⟩
 simp only[eN,ao,iF,gC,iM] at hv;obtain⟨⟨rfl,rfl⟩,rfl⟩:=hv;exact U7 hs Is eU qh
theorem CR.oldsOf {xa:Addr} {cap sz:Nat} {es:List (List C)} (h:CR I w (.slice (some xa) es.length cap) (.sl es)) (hs:∀ x∈es,x.length=sz) :
 ∃ vs:List Value,vs.length=es.length*sz/\(∀ (q:Nat) (u:Value),vs[q]?=some u->w.cell? (xa.add q)=some u)/\
  (∀ (q:Nat) (c:C),es.flatten[q]?=some c->∃ u,vs[q]?=some u/\CR I w u c)/\(∀ u∈vs,u.oneCell'=true):=by
 by_cases gY:es=[]
 .subst gY;exact⟨[],by simp,by simp,by simp,by simp⟩
 .rcases h.sl_inv with⟨_,h0⟩ | ⟨b,off,cap',_,_,hv,_⟩
  .exact absurd h0 gY
  .simp only[eN,ao] at hv
   obtain⟨rfl,_,_⟩:=hv;obtain⟨vs,h1,h2,h3,h4⟩:=h.flat hs;exact⟨vs,h1,λq u hq=>by rw[cY];exact(h2 q u hq).1,h3,h4⟩
theorem RD.flat {b off cap sz:Nat} {es:List (List C)} (h:RD I w (.slice (some ⟨b,off,none⟩) es.length cap) es) (hs:∀ x∈es,x.length=sz) :
 ∃ vs:List Value,vs.length=es.length*sz/\(∀ (q:Nat) (u:Value),vs[q]?=some u->w.cell? ⟨b,off+q,none⟩=some u/\True)/\
  (∀ (q:Nat) (c:C),es.flatten[q]?=some c->∃ u,vs[q]?=some u/\CR I w u c)/\(∀ u∈vs,u.oneCell'=true):=by
 rcases h with⟨_,rfl⟩ | ⟨b',off',cap',sz',f,hv,kX,Is,eU,qh⟩
 .exact⟨[],by simp,by simp,by simp,by simp⟩
 simp only[eN,ao,iF,gC,iM] at hv;obtain⟨⟨rfl,rfl⟩,rfl⟩:=hv;exact U7 (J:=λ_ _=>True) hs Is (λi j hi hj=>⟨eU i j hi hj,trivial⟩) qh
theorem RD.some' {a':Option Addr} {n m:Nat} {es:List (List C)} (h:RD I w (.slice a' n m) es) (gY:es≠[]):∃ b off,a'=some ⟨b,off,none⟩:=by
 rcases h with⟨_,h0⟩ | ⟨b,off,cap,sz,f,hv,_⟩
 .exact absurd h0 gY
 .cases hv;exact⟨b,off,rfl⟩
theorem St.growRow (h:St G n I0 M w0 I β ob s a w) {w':World} {r:Nat} (hg:w.grb w' (some r)) (hr:Wr M w0 r) (eU:∀ o,I r o->w'.cell? ⟨r,o,none⟩=w.cell? ⟨r,o,none⟩)
 (kb:∀ L,ob L≠some r) (hβ:∀ i,β i≠some r) {I':Ft} (h1:∀ b o,I b o->I' b o) (h2:∀ b o,I' b o->I b o∨b=r) (bE:r<w'.heap.size):St G n I0 M w0 I' β ob s a w':=by
 have hk:=h.keeps hg (λr' e o ho=>by cases e;exact eU o ho);have hI:∀ b o,I b o->I' b o/\w'.cell? ⟨b,o,none⟩=w.cell? ⟨b,o,none⟩:=λb o hb=>⟨h1 b o hb,hk b o hb⟩;have wY:∀ L b,ob L=some b->w'.heap[b]?=w.heap[b]?/\∀ o,I' b o->I b o:=λL b hL=>by
  have gY:b≠r:=λe=>kb L (e▸hL);refine⟨hg.block b (h.obnd L b hL).1 (by simpa using gY),λo ho=>?_⟩;rcases h2 b o ho with h5 | h5
  .exact h5
  .exact absurd h5 gY
 exact {
  size:=h.size,defers:=h.defers
  below:=h.below.grown hg (λk e=>by cases e;exact hr)
  kept:=λb o h0=>(hk b o (h.ilow b o h0)).trans (h.kept b o h0)
  ilow:=λb o hb=>h1 b o (h.ilow b o hb)
  ihigh:=λb o hb=>by
   rcases h2 b o hb with h3 | h3
   .exact h.ihigh b o h3
   .exact .inr (by rw[h3];exact hr)
  ibnd:=λb o hb=>by
   rcases h2 b o hb with h3 | h3
   .exact cu (h.ibnd b o h3) hg.size
   .rw[h3];exact bE
  fr:=λt=>(h.fr t).mono hI (λ_ _ e=>e) (wY (.t t))
  bx:=λi hi=>by
   obtain⟨blk,cur,e1,e2,e3,e4,e5,e7⟩:=h.bx i hi;have aif:blk<w.heap.size:=e3.lt;have gY:blk≠r:=λe=>hβ i (e▸e1);refine⟨blk,cur,e1,e2,e3.mono (hg.block blk aif (by simpa using gY)),e4,λj=>(e5 j).mono hI (λ_ _ e=>e) (wY (.b i j)),λo ho=>?_⟩;rcases h2 blk o ho with h3 | h3
   .exact e7 o h3
   .exact gY h3
  bnone:=h.bnone,ext:=h.ext,bnew:=h.bnew,binj:=h.binj,oinj:=h.oinj,obx:=h.obx
  obnd:=λL b hL=>⟨cu (h.obnd L b hL).1 hg.size,(h.obnd L b hL).2⟩
  glob:=λg cs ZB=>(h.glob g cs ZB).mono hI }
theorem lA (olds news:List Value) (z:Array Value) (j:Nat) (u:Value) (h:(olds++news)[j]?=some u):(olds.toArray++news.toArray++z).getD j undef=u:=by
 have bE:=(aj.1 h).1;simp at bE;have:(olds.toArray++news.toArray++z)[j]?=some u:=by rw[fe (by simp;omega)];simpa using h
 rw[ak,this];rfl
theorem me (T U ty e:TypeId) (i:TypeInfo) (ht:P.underlying T=some (.slice e)) (hi:P.info? e=some i) (b:Option Addr) (k cap:Nat) (hk:k<=cap) {x:Value} (hs:Src P i.size U x 0 [] w) :
 (Builtin.append_ #[T,U] ty #[.slice b k cap,x]).run P w=.ok (.slice b k cap) w:=by
 have hf:(Builtin.firstCells i.size 0 x).run P w=.ok #[] w:=hs.cells;unfold Builtin.append_;rcases hs.kind with⟨e',UA⟩ | UA<;>cases b<;>simp[aR ht,aR UA,sizeOf,typeInfo,hi,hs.len,hk,hf,storeCells]
theorem gr (g o:Nat) (T:RT):∀ (vs:List Value) (i:Nat) (cur:Array Value) (w:World),w.heap[g]?=some (.cells cur T.t T.fz)->T.ok cur.size->o+i+vs.length<=cur.size->(∀ v∈vs,v.oneCell'=true)->
 (storeCells ⟨g,o,none⟩ vs i).run P w=.ok () (w.setRow g (cur.toList.take (o+i)++vs++cur.toList.drop (o+i+vs.length)).toArray)
 |[],i,cur,w,hg,_,_,_=>by simp only[storeCells,br,aG,eX,du,Array.toArray_toList];rw[setRow_self w g cur T.t T.fz hg];rfl
 |v::rest,i,cur,w,hg,hT,hl,h1=>by
  have hi:o+i<cur.size:=by simp at hl;omega
  have EC:(⟨g,o,none⟩:Addr).add i=⟨g,o+i,none⟩:=by unfold Addr.add;split<;>simp_all
  have eU:w.cell? ⟨g,o+i,none⟩=some cur[o+i]:=by simp[World.cell?,hg,hi]
  have am8:w.frozen? ⟨g,o+i,none⟩=false:=by obtain⟨tt,lo,sQ⟩:=T;simp only[World.frozen?,hg,Bool.and_eq_false_iff,dq];unfold RT.ok at hT;simp only at hT;omega
  have hst:(store ((⟨g,o,none⟩:Addr).add i) v).run P w=.ok () (w.setRow g (cur.setIfInBounds (o+i) v)):=by rw[EC,run_store P w _ v _ (h1 v (by simp)),eU];simp[am8,setCell_eq_setRow w g (o+i) cur T.t T.fz v hg]
  have ih:=gr g o T rest (i+1) (cur.setIfInBounds (o+i) v) (w.setRow g (cur.setIfInBounds (o+i) v)) (lR w g cur _ T.t _ hg) (by simpa using hT) (by simp at hl ⊢;omega) (λx hx=>h1 x (by simp[hx]));simp only[storeCells,aK,hst,aw,ih,setRow_setRow];congr 3;have e:=list_seg_step cur.toList (o+i) v rest (by simp at hl ⊢;omega);simpa[Array.toList_setIfInBounds,dM] using e
theorem ja (t tx ty e:TypeId) (i:TypeInfo) (ht:P.underlying t=some (.slice e)) (hi:P.info? e=some i) (g off sLen sCap:Nat) (cur:Array Value) (T:RT) (hg:w.heap[g]?=some (.cells cur T.t T.fz)) (hT:T.ok cur.size)
 (x:Value) (n:Nat) (news:List Value) (hs:Src P i.size tx x n news w) (na:sLen+n<=sCap) (vH:off+sLen*i.size+news.length<=cur.size) :
 (Builtin.append_ #[t,tx] ty #[.slice (some ⟨g,off,none⟩) sLen sCap,x]).run P w=
  .ok (.slice (some ⟨g,off,none⟩) (sLen+n) sCap) (w.setRow g (cur.toList.take (off+sLen*i.size)++news++cur.toList.drop (off+sLen*i.size+news.length)).toArray):=by
 have hst:=gr (P:=P) g (off+sLen*i.size) T news 0 cur w hg hT (by simpa using vH) hs.one;simp only[eX] at hst;rcases hs.kind with⟨e',hk⟩ | hk<;>simp[Builtin.append_,aR ht,aR hk,sizeOf,typeInfo,hi,hs.len,na,hs.cells,cY,hst]
def IQ (P:Program) (I:Ft) (w:World) (U:TypeId) (v:Value) (sz:Nat) (ys:List (List C)):Prop:=
 ∃ news:List Value,Src P sz U v ys.length news w/\∀ (q:Nat) (c:C),ys.flatten[q]?=some c->∃ u:Value,news[q]?=some u/\CR I w u c
theorem RD.src {U e':TypeId} {v:Value} {sz:Nat} {ys:List (List C)} (h:RD I w v ys) (hu:P.underlying U=some (.slice e')) (hs:∀ x∈ys,x.length=sz):IQ P I w U v sz ys:=by
 rcases h with⟨⟨a0,c0,rfl,lF⟩,rfl⟩ | ⟨b,off,cap,szx,f,rfl,kX,h1⟩
 .cases a0 with
  |none=>exact⟨[],Src.ofNil w hu c0,by simp⟩
  |some x=>exact⟨[],Src.ofSlice w hu x 0 c0 [] (by simp) (by simp) (by simp),by simp⟩
 .have h':RD I w (.slice (some ⟨b,off,none⟩) ys.length cap) ys:=.inr ⟨b,off,cap,szx,f,rfl,kX,h1⟩
  obtain⟨news,vX,LK,L9,IB⟩:=h'.flat hs;exact⟨news,Src.ofSlice w hu ⟨b,off,none⟩ _ _ news vX (λq u hq=>by rw[cY];exact(LK q u hq).1) IB,L9⟩
theorem aam {U:TypeId} {st:ByteArray} (hu:P.underlying U=some .string):IQ P I w U (.string st) 1 (pa st):=by
 have hl:(pa st).length=st.size:=by simp[pa]
 refine⟨Go.byteCells st,by rw[hl];exact Src.ofString w hu st,λq c hq=>?_⟩;have:=mP (sz:=1) (pa st) (by simp[pa]) q 0 (by omega);rw[Nat.mul_one,eX] at this;rw[this] at hq;simp only[pa,bj] at hq;unfold Go.byteCells;rw[bj];cases hb:st.data.toList[q]? with
 |none=>simp[hb] at hq
 |some b=>simp only[hb,cT,jr,bQ,ao] at hq;exact⟨_,rfl,by rw[<- hq];exact .lit _ rfl⟩
theorem Ee {T U ty:TypeId} {X:Operand} {vy:Value} (hst:St G n I0 M w0 I β ob s a w) (hd:∀ d,o.dst=some d->d<n)
 (sP:cn tr o=(match X with | .tmp t=>some t | _=>none)) (h:dR P T (ev G s X) y K) (hy:∀ ys e,P.underlying T=some (.slice e)->∀ j,ti P e=some j->y=.c (.sl ys)->(∀ x∈ys,x.length=j.size)->IQ P I w U vy j.size ys) :
 ∃ z u w',K z/\(Builtin.append_ #[T,U] ty #[a.eval X,vy]).run P w=.ok u w'/\SE G n I0 M w0 (s.after tr o z) (a.put o.dst u) w':=by
 have hx:=bP hst X;unfold dR at h;split at h
 .rename_i e _ _ _ _ _ _ E es hi tj
  rw[tj] at hx;obtain⟨j,d,h1,h2,h3,_⟩:=bH hi;have qy:=dL h3;subst qy;split at h
  .rename_i sz by_ _ z _ _ tz
   obtain⟨j',d',jF,nB,_,fb,rW,_,mE,_⟩:=bH tz;simp only at mE fb rW;obtain⟨⟨hp,tH,hE,px⟩,h⟩:=h;split at mE
   .rename_i zv tg
    split at h
    .rename_i ys
     obtain⟨⟨hb,cj,uG⟩,h⟩:=h;obtain⟨news,rl,L9⟩:=hy ys e h2 _ tz rfl uG;simp only at rl;have sM:=lz (I:=I) (w:=w) mE.symm;have Us:zv.cells.size=sz:=(by rw[sM.1,tH]);have ZD:=hx.2;have qT:=hx.1;have F9:(ev G s X).isOw=true:=(by rw[tj];rfl);by_cases AV:ys=[]
     .
      subst AV;simp only[List.isEmpty_nil,cZ] at h;obtain⟨xa,xk,yF,hxk⟩:∃ (xa:Option Addr) (xk:Nat),a.eval X=.slice xa es.length xk/\es.length<=xk:=by
       rcases ZD with⟨_,_,b,hv⟩ | ⟨_,blk,cap,_,_,_,_,hv,_,_,hc,_⟩
       .exact⟨b,_,hv,ab _⟩
       .exact⟨_,cap,hv,hc⟩
      refine⟨_,a.eval X,w,h,by have hn0:news=[]:=dx (by rw[rl.newsLen];simp);subst hn0;rw[yF];exact me T U ty e j' h2 jF xa _ xk hxk (by rw[<- fb];exact rl),?_⟩;rw[br];refine .fin hst hd (o':=U1 ob X) ?_ λb hb=>?_
      .simp only[LR]
       refine⟨qT,?_⟩;rcases ZD with ZD | ⟨e',blk,cap,cur,sz',e1,e2,e3⟩
       .exact .inl ZD
       .exact .inr ⟨e',blk,cap,cur,sz',e1,e2,e3⟩
      .cases X with
       |tmp t=>exact⟨hst.obnd _ b hb,λi=>hst.obx _ b i hb,λL hL=>⟨t,hst.oinj _ _ b hL hb,sP,F9⟩⟩
       |_=>cases hb
     .have mc:ys.isEmpty=false:=by simpa using AV
      simp only[mc,aM,df] at h;have vX:=rl.newsLen;have IB:=rl.one;have qj:Src P j'.size U vy ys.length news w:=(by rw[<- fb];exact rl);have grun:∀ (base:Option Addr) (sLen sCap:Nat) (olds:List Value) (_:(Builtin.firstCells j'.size sLen (.slice base sLen sCap)).run P w.drew=.ok olds.toArray w.drew) (_:sCap<sLen+ys.length) (_:sLen+ys.length<=9223372036854775807) (_:Builtin.nextslicecap (sLen+ys.length) sCap*j'.bytes<=281474976710656),
       (Builtin.append_ #[T,U] ty #[.slice base sLen sCap,vy]).run P w=.ok (.slice (some ⟨w.heap.size,0,none⟩) (sLen+ys.length) (grownCap w (sLen+ys.length) sCap e))
        (w.drew.alloc (.cells (olds.toArray++news.toArray++Builtin.zeroCells zv.cells (grownCap w (sLen+ys.length) sCap e - (sLen+ys.length))) e)):=by
       intro base sLen sCap olds ho hg h63 vH;have:=run_append_grow_src (P:=P) w T U ty e j' zv h2 jF tg base sLen sCap olds ho vy ys.length news qj hg (by omega) vH;rw[this];simp
      have ON:0<ys.length:=gR.2 AV;have eF:∀ x∈es++ys,x.length=sz:=λx hx=>by rcases ba.1 hx with hx | hx;exact px x hx;exact uG x hx
      have DZ:es.length+ys.length<=maxLen:=(by unfold maxLen;omega);have flat_eq:(es++ys).flatten=es.flatten++ys.flatten:=(by simp);have ZE:=bN es px;have grownCase:∀ (olds:List Value) (cap0:Nat),olds.length=es.length*sz->(∀ (q:Nat) (c:C),es.flatten[q]?=some c->∃ u,olds[q]?=some u/\CR I w u c)->
       SE G n I0 M w0 (s.after tr o (.ow (some (e,sz)) (es++ys))) (a.put o.dst (.slice (some ⟨w.heap.size,0,none⟩) (es.length+ys.length) (grownCap w (es.length+ys.length) cap0 e)))
        (w.drew.alloc (.cells (olds.toArray++news.toArray++Builtin.zeroCells zv.cells (grownCap w (es.length+ys.length) cap0 e - (es.length+ys.length))) e)):=by
       intro olds cap0 AX D7;have fH:=grownCap_ge w (es.length+ys.length) cap0 e;have ZF:=grownCap_le_maxLen w (es.length+ys.length) cap0 e DZ;have:=SE.finRow (tr:=tr) (o:=o) (e:=e) (cap:=grownCap w (es.length+ys.length) cap0 e) (sz:=sz) (es:=es++ys)
        (cur:=olds.toArray++news.toArray++Builtin.zeroCells zv.cells (grownCap w (es.length+ys.length) cap0 e - (es.length+ys.length))) hst hd (w1:=w.drew) hst.drew rfl
        (by simpa using fH) ZF (by
         simp only[Array.size_append,eM,size_zeroCells,Us,AX,vX,<- da];congr 1;omega) eF (λq c hq=>by
          rw[flat_eq] at hq;have qk:∃ u,(olds++news)[q]?=some u/\CR I w u c:=by
           by_cases nC:q<es.flatten.length
           .rw[aA nC] at hq
            obtain⟨u,hu,jq⟩:=D7 q c hq;exact⟨u,by rw[aA (by omega)];exact hu,jq⟩
           .rw[aH (by omega)] at hq
            obtain⟨u,hu,jq⟩:=L9 _ c hq;refine⟨u,?_,jq⟩;rw[aH (by omega),<- hu];congr 1;omega
          obtain⟨u,hu,jq⟩:=qk;rw[lA olds news _ q u hu];exact jq) (λ_ _ _=>rfl)
       rw[ae] at this;exact this
      rcases ZD with⟨hob0,_,xa,yF⟩ | ⟨e',blk,cap,cur,sz',OO,L6,yF,QG,iz,hc,ZF,jf,dU,hIb⟩
      .cases xa with
       |none=>
        have Ip:es=[]:=by
         rcases qT.sl_inv with⟨_,h1⟩ | ⟨b,off,cap,_,_,hv,_⟩
         .exact h1
         .rw[yF] at hv;cases hv
        subst Ip;have bM:=grun none 0 0 [] (by simpa using run_firstCells_none (P:=P) w.drew j'.size 0 0 0) (by simp only[aG,aF] at cj;omega) (by simp only[aG,aF] at cj;omega)
         (by rw[<- rW];simp only[aG] at hb;exact iP (by omega) hb)
        simp only[aF] at bM;have:=grownCase [] 0 (by simp) (by simp);simp only[eu,aG,aF,eQ] at this h;refine⟨_,_,_,h,by rw[yF];exact bM,?_⟩;simpa using this
       |some xaddr=>rw[yF] at qT;obtain⟨olds,AX,holds,D7,_⟩:=qT.oldsOf px;have bM:=grun (some xaddr) es.length es.length olds (jk (P:=P) w.drew j'.size es.length xaddr es.length es.length olds (by rw[<- fb];exact AX) (by simpa using holds)) (by omega) (by omega) (by rw[<- rW];exact iP (by omega) hb);exact⟨_,_,_,h,by rw[yF];exact bM,grownCase olds es.length AX D7⟩
      .have hee:e'=e/\sz'=sz:=by
        rcases hE with hE | hE
        .rw[hE] at L6;cases L6
        .rw[hE] at L6;cases L6;exact⟨rfl,rfl⟩
       obtain⟨rfl,rfl⟩:=hee;rw[yF] at qT;obtain⟨olds,AX,holds,D7,_⟩:=qT.flat px;by_cases na:es.length+ys.length<=cap
       .
        cases X with
        |tmp t=>
         have tA:ob (.t t)=some blk:=OO;have bM:=ja (P:=P) (w:=w) T U ty e' j' h2 jF blk 0 es.length cap cur (.of e') iz RT.of_ok vy ys.length news qj na (by rw[<- fb,vX,jf,aF,<- da];exact aO _ na);rw[<- fb] at bM;simp only[aF] at bM;refine⟨_,_,_,h,by rw[yF];exact bM,?_⟩;have wZ:blk<w.heap.size:=(bf.1 iz).1;have Qq:es.length*sz'+news.length<=cur.size:=(by rw[vX,jf,<- da];exact aO _ na);have cO:=hst.clr t;have uH:∀ o,o<es.length*sz'->(cur.toList.take (es.length*sz')++news++cur.toList.drop (es.length*sz'+news.length)).toArray[o]?=cur[o]?:=λo ho=>by simp only[dt,aI];rw[aA (by simp;omega),cA,if_pos ho,aQ]
         have mZ:∀ o,I blk o->(w.setRow blk (cur.toList.take (es.length*sz')++news++cur.toList.drop (es.length*sz'+news.length)).toArray).cell? ⟨blk,o,none⟩=w.cell? ⟨blk,o,none⟩:=λo ho=>by rw[cell_setRow_same w blk o cur _ e' (0,0) iz,fj w blk o cur e' (0,0) iz];exact uH o (hIb o ho)
         have ZG:∀ L,upL ob (.t t) none L≠some blk:=λL hL=>by
          simp only[upL] at hL;split at hL
          .cases hL
          .rename_i gY;exact gY (hst.oinj _ _ blk hL tA)
         have hg:w.grb (w.setRow blk (cur.toList.take (es.length*sz')++news++cur.toList.drop (es.length*sz'+news.length)).toArray) (some blk):=
          ⟨rfl,rfl,rfl,by simp,λk _ hk=>jV w blk k _ (λe=>hk (by rw[e])),ab _⟩
         have n0:=cO.growRow hg QG mZ ZG (λi=>hst.obx _ blk i tA) (I':=λb o=>I b o∨(b=blk/\o<(es.length+ys.length)*sz'))
          (λ_ _ h=>.inl h) (λb o hb=>by rcases hb with hb | hb;exact .inl hb;exact .inr hb.1) (by simpa using wZ)
         have kE:∀ b o,I b o->(I b o∨(b=blk/\o<(es.length+ys.length)*sz'))/\
          (w.setRow blk (cur.toList.take (es.length*sz')++news++cur.toList.drop (es.length*sz'+news.length)).toArray).cell? ⟨b,o,none⟩=w.cell? ⟨b,o,none⟩:=
          λb o hb=>⟨.inl hb,hst.keeps hg (λr e o ho=>by cases e;exact mZ o ho) b o hb⟩
         have rX:=lR w blk cur (cur.toList.take (es.length*sz')++news++cur.toList.drop (es.length*sz'+news.length)).toArray e' (0,0) iz;have Ge:(cur.toList.take (es.length*sz')++news++cur.toList.drop (es.length*sz'+news.length)).toArray.size=cap*sz':=(by simp only[eM,ae,aN,cw,b8];omega);have jq:CR (λb o=>I b o∨(b=blk/\o<(es.length+ys.length)*sz')) (w.setRow blk (cur.toList.take (es.length*sz')++news++cur.toList.drop (es.length*sz'+news.length)).toArray)
          (.slice (some ⟨blk,0,none⟩) (es++ys).length cap) (.sl (es++ys)):=
          CR.row rX (by simpa using na) eF (λq c hq=>by
           have nC:=(aj.1 hq).1;rw[bN _ eF,ae,da] at nC;refine⟨by rw[Ge,<- jf];omega,?_⟩;rw[flat_eq] at hq;by_cases hq1:q<es.flatten.length
           .rw[aA hq1] at hq
            obtain⟨u,hu,jq⟩:=D7 q c hq;have eU:=(holds q u hu).1;rw[aF,fj w blk q cur e' (0,0) iz] at eU;rw[ak,uH q (by omega),eU];exact jq.mono kE
           .rw[aH (by omega)] at hq
            obtain⟨u,hu,jq⟩:=L9 _ c hq;have:(cur.toList.take (es.length*sz')++news++cur.toList.drop (es.length*sz'+news.length)).toArray[q]?=some u:=(by simp only[dt];have Qr:(cur.toList.take (es.length*sz')).length=es.length*sz':=(by have j4:cur.toList.length=cur.size:=b8;rw[aN,j4];omega);rw[aA (by rw[ae,Qr];omega),aH (by rw[Qr];omega),<- hu,Qr,ZE]);rw[ak,this];exact jq.mono kE) (λo ho=>.inr ⟨rfl,by simpa using ho⟩)
         have D1:s.after tr o (.ow (some (e',sz')) (es++ys))=(s.clr t).put o.dst (.ow (some (e',sz')) (es++ys)):=(by unfold S.after;rw[sP];simp only[S.use];have:(s.fr t).isOw=true:=F9;rw[if_pos this]);rw[D1];cases lP:o.dst with
         |none=>exact⟨_,_,_,n0⟩
         |some dd=>
          refine⟨_,_,_,n0.put dd (hd dd lP) (o:=some blk) ?_ λb hb=>?_⟩
          .have Ir:Value.slice (some ⟨blk,0,none⟩) (es.length+ys.length) cap=Value.slice (some ⟨blk,0,none⟩) (es++ys).length cap:=by rw[ae]
           rw[Ir];simp only[LR];refine⟨jq,.inr ⟨e',blk,cap,_,sz',rfl,rfl,rfl,QG,rX,by simpa using na,ZF,Ge,eF,λo ho=>?_⟩⟩;rw[ae];rcases ho with ho | ho
           .have:=hIb o ho;rw[da];omega
           .exact ho.2
          .simp only[ao] at hb
           subst hb;refine⟨⟨by simpa using wZ,QG⟩,λL hL=>?_,λi=>hst.obx _ blk i tA⟩;simp only[upL] at hL;split at hL
           .cases hL
           .split at hL
            .cases hL
            .rename_i h5 h6;exact h6 (hst.oinj _ _ blk hL tA)
        |_=>cases OO
       .have bM:=grun (some ⟨blk,0,none⟩) es.length cap olds (jk (P:=P) w.drew j'.size es.length ⟨blk,0,none⟩ es.length cap olds (by rw[<- fb];exact AX) (λq u hq=>by rw[cY];simpa using(holds q u hq).1)) (by omega) (by omega) (by rw[<- rW];exact iP (by omega) hb)
        exact⟨_,_,_,h,by rw[yF];exact bM,grownCase olds cap AX D7⟩
    .exact h.elim
   .cases mE
  .exact h.elim
 .exact h.elim
theorem IS {T U ty:TypeId} {t0:Tmp} {E:Option (TypeId×Nat)} {es:List (List C)} {vy:Value} (hst:St G n I0 M w0 I β ob s a w) (hd:∀ d,o.dst=some d->d<n)
 (sP:cn tr o=some t0) (tj:s.fr t0=.ow E es) (h:tI P [T,U] E es y K) (hy:∀ ys e,P.underlying T=some (.slice e)->∀ j,ti P e=some j->y=.c (.sl ys)->(∀ x∈ys,x.length=j.size)->IQ P I w U vy j.size ys) :
 ∃ z u w',K z/\(Builtin.append_ #[T,U] ty #[a.tmps.getD t0 undef,vy]).run P w=.ok u w'/\SE G n I0 M w0 (s.after tr o z) (a.put o.dst u) w':=by
 have hx:=hst.fr t0;rw[tj] at hx;simp only[tI] at h;obtain⟨rfl,h⟩:=h;split at h
 .rename_i e _ _ _ _ _ _ hi
  obtain⟨j,d,h1,h2,h3,_⟩:=bH hi;have qy:=dL h3;subst qy;split at h
  .rename_i sz by_ _ z _ _ tz
   obtain⟨j',d',jF,nB,_,fb,rW,_,mE,_⟩:=bH tz;simp only at mE fb rW;obtain⟨⟨hp,tH,hE,px⟩,h⟩:=h;split at mE
   .rename_i zv tg
    split at h
    .rename_i y1
     obtain⟨⟨hb,cj,Gf⟩,h⟩:=h;have uG:∀ x∈[y1],x.length=sz:=λx hx=>by rw[aX] at hx;subst hx;exact Gf
     obtain⟨news,rl,L9⟩:=hy [y1] e h2 _ tz rfl uG;simp only at rl;have sM:=lz (I:=I) (w:=w) mE.symm;have Us:zv.cells.size=sz:=(by rw[sM.1,tH]);have ZD:=hx.2;have qT:=hx.1;have F9:(s.fr t0).isOw=true:=(by rw[tj];rfl);have AV:([y1]:List (List C))≠[]:=(by simp);have vX:=rl.newsLen;have IB:=rl.one;have qj:Src P j'.size T vy [y1].length news w:=(by rw[<- fb];exact rl);have grun:∀ (base:Option Addr) (sLen sCap:Nat) (olds:List Value) (_:(Builtin.firstCells j'.size sLen (.slice base sLen sCap)).run P w.drew=.ok olds.toArray w.drew) (_:sCap<sLen+[y1].length) (_:sLen+[y1].length<=9223372036854775807) (_:Builtin.nextslicecap (sLen+[y1].length) sCap*j'.bytes<=281474976710656),
      (Builtin.append_ #[T,T] ty #[.slice base sLen sCap,vy]).run P w=.ok (.slice (some ⟨w.heap.size,0,none⟩) (sLen+[y1].length) (grownCap w (sLen+[y1].length) sCap e))
       (w.drew.alloc (.cells (olds.toArray++news.toArray++Builtin.zeroCells zv.cells (grownCap w (sLen+[y1].length) sCap e - (sLen+[y1].length))) e)):=by
      intro base sLen sCap olds ho hg h63 vH;have:=run_append_grow_src (P:=P) w T T ty e j' zv h2 jF tg base sLen sCap olds ho vy [y1].length news qj hg (by omega) vH;rw[this];simp
     have ON:0<[y1].length:=gR.2 AV;have eF:∀ x∈es++[y1],x.length=sz:=λx hx=>by rcases ba.1 hx with hx | hx;exact px x hx;exact uG x hx
     have DZ:es.length+[y1].length<=maxLen:=(by unfold maxLen;omega);have flat_eq:(es++[y1]).flatten=es.flatten++[y1].flatten:=(by simp);have ZE:=bN es px;have grownCase:∀ (olds:List Value) (cap0:Nat),olds.length=es.length*sz->(∀ (q:Nat) (c:C),es.flatten[q]?=some c->∃ u,olds[q]?=some u/\CR I w u c)->
      SE G n I0 M w0 (s.after tr o (.hh none (some (e,sz)) (es++[y1]))) (a.put o.dst (.slice (some ⟨w.heap.size,0,none⟩) (es.length+[y1].length) (grownCap w (es.length+[y1].length) cap0 e)))
       (w.drew.alloc (.cells (olds.toArray++news.toArray++Builtin.zeroCells zv.cells (grownCap w (es.length+[y1].length) cap0 e - (es.length+[y1].length))) e)):=by
      intro olds cap0 AX D7;have fH:=grownCap_ge w (es.length+[y1].length) cap0 e;have ZF:=grownCap_le_maxLen w (es.length+[y1].length) cap0 e DZ;have:=SE.finRowH (tr:=tr) (o:=o) (e:=e) (cap:=grownCap w (es.length+[y1].length) cap0 e) (sz:=sz) (es:=es++[y1])
       (cur:=olds.toArray++news.toArray++Builtin.zeroCells zv.cells (grownCap w (es.length+[y1].length) cap0 e - (es.length+[y1].length))) hst hd (w1:=w.drew) hst.drew rfl
       (by simpa using fH) ZF (by
        simp only[Array.size_append,eM,size_zeroCells,Us,AX,vX,<- da];congr 1;omega) eF (λq c hq=>by
         rw[flat_eq] at hq;have qk:∃ u,(olds++news)[q]?=some u/\CR I w u c:=by
          by_cases nC:q<es.flatten.length
          .rw[aA nC] at hq
           obtain⟨u,hu,jq⟩:=D7 q c hq;exact⟨u,by rw[aA (by omega)];exact hu,jq⟩
          .rw[aH (by omega)] at hq
           obtain⟨u,hu,jq⟩:=L9 _ c hq;refine⟨u,?_,jq⟩;rw[aH (by omega),<- hu];congr 1;omega
         obtain⟨u,hu,jq⟩:=qk;rw[lA olds news _ q u hu];exact jq) (λ_ _ _=>rfl)
      rw[ae] at this;exact this
     rcases ZD with⟨hob0,_,xa,yF⟩ | ⟨e',blk,cap,cur,sz',OO,L6,yF,QG,iz,hc,ZF,jf,dU,hIb⟩
     .cases xa with
      |none=>
       have Ip:es=[]:=by
        rcases qT.sl_inv with⟨_,h1⟩ | ⟨b,off,cap,_,_,hv,_⟩
        .exact h1
        .rw[yF] at hv;cases hv
       subst Ip;have bM:=grun none 0 0 [] (by simpa using run_firstCells_none (P:=P) w.drew j'.size 0 0 0) (by simp only[aG,aF] at cj;omega) (by simp only[aG,aF] at cj;omega)
        (by rw[<- rW];simp only[aG] at hb;exact iP (by omega) hb)
       simp only[aF] at bM;have:=grownCase [] 0 (by simp) (by simp);simp only[eu,aG,aF,eQ] at this h;refine⟨_,_,_,h,by rw[yF];exact bM,?_⟩;simpa using this
      |some xaddr=>rw[yF] at qT;obtain⟨olds,AX,holds,D7,_⟩:=qT.oldsOf px;have bM:=grun (some xaddr) es.length es.length olds (jk (P:=P) w.drew j'.size es.length xaddr es.length es.length olds (by rw[<- fb];exact AX) (by simpa using holds)) (by omega) (by omega) (by rw[<- rW];exact iP (by omega) hb);exact⟨_,_,_,h,by rw[yF];exact bM,grownCase olds es.length AX D7⟩
     .have hee:e'=e/\sz'=sz:=by
       rcases hE with hE | hE
       .rw[hE] at L6;cases L6
       .rw[hE] at L6;cases L6;exact⟨rfl,rfl⟩
      obtain⟨rfl,rfl⟩:=hee;rw[yF] at qT;obtain⟨olds,AX,holds,D7,_⟩:=qT.flat px;by_cases na:es.length+[y1].length<=cap
      .
       have tA:ob (.t t0)=some blk:=OO;have bM:=ja (P:=P) (w:=w) T T ty e' j' h2 jF blk 0 es.length cap cur (.of e') iz RT.of_ok vy [y1].length news qj na (by rw[<- fb,vX,jf,aF,<- da];exact aO _ na);rw[<- fb] at bM;simp only[aF] at bM;refine⟨_,_,_,h,by rw[yF];exact bM,?_⟩;have wZ:blk<w.heap.size:=(bf.1 iz).1;have Qq:es.length*sz'+news.length<=cur.size:=(by rw[vX,jf,<- da];exact aO _ na);have cO:=hst.clr t0;have uH:∀ o,o<es.length*sz'->(cur.toList.take (es.length*sz')++news++cur.toList.drop (es.length*sz'+news.length)).toArray[o]?=cur[o]?:=λo ho=>by simp only[dt,aI];rw[aA (by simp;omega),cA,if_pos ho,aQ]
       have mZ:∀ o,I blk o->(w.setRow blk (cur.toList.take (es.length*sz')++news++cur.toList.drop (es.length*sz'+news.length)).toArray).cell? ⟨blk,o,none⟩=w.cell? ⟨blk,o,none⟩:=λo ho=>by rw[cell_setRow_same w blk o cur _ e' (0,0) iz,fj w blk o cur e' (0,0) iz];exact uH o (hIb o ho)
       have ZG:∀ L,upL ob (.t t0) none L≠some blk:=λL hL=>by
        simp only[upL] at hL;split at hL
        .cases hL
        .rename_i gY;exact gY (hst.oinj _ _ blk hL tA)
       have hg:w.grb (w.setRow blk (cur.toList.take (es.length*sz')++news++cur.toList.drop (es.length*sz'+news.length)).toArray) (some blk):=
        ⟨rfl,rfl,rfl,by simp,λk _ hk=>jV w blk k _ (λe=>hk (by rw[e])),ab _⟩
       have n0:=cO.growRow hg QG mZ ZG (λi=>hst.obx _ blk i tA) (I':=I)
        (λ_ _ h=>h) (λb o hb=>.inl hb) (by simpa using wZ)
       have kE:∀ b o,I b o->I b o/\
        (w.setRow blk (cur.toList.take (es.length*sz')++news++cur.toList.drop (es.length*sz'+news.length)).toArray).cell? ⟨b,o,none⟩=w.cell? ⟨b,o,none⟩:=
        λb o hb=>⟨hb,hst.keeps hg (λr e o ho=>by cases e;exact mZ o ho) b o hb⟩
       have rX:=lR w blk cur (cur.toList.take (es.length*sz')++news++cur.toList.drop (es.length*sz'+news.length)).toArray e' (0,0) iz;have Ge:(cur.toList.take (es.length*sz')++news++cur.toList.drop (es.length*sz'+news.length)).toArray.size=cap*sz':=(by simp only[eM,ae,aN,cw,b8];omega);have jq:∀ (q:Nat) (c:C),(es++[y1]).flatten[q]?=some c->CR I (w.setRow blk (cur.toList.take (es.length*sz')++news++cur.toList.drop (es.length*sz'+news.length)).toArray) ((cur.toList.take (es.length*sz')++news++cur.toList.drop (es.length*sz'+news.length)).toArray.getD q undef) c:=
        (λq c hq=>by
         have nC:=(aj.1 hq).1;rw[bN _ eF,ae,da] at nC;rw[flat_eq] at hq;by_cases hq1:q<es.flatten.length
         .rw[aA hq1] at hq
          obtain⟨u,hu,jq⟩:=D7 q c hq;have eU:=(holds q u hu).1;rw[aF,fj w blk q cur e' (0,0) iz] at eU;rw[ak,uH q (by omega),eU];exact jq.mono kE
         .rw[aH (by omega)] at hq
          obtain⟨u,hu,jq⟩:=L9 _ c hq;have:(cur.toList.take (es.length*sz')++news++cur.toList.drop (es.length*sz'+news.length)).toArray[q]?=some u:=(by simp only[dt];have Qr:(cur.toList.take (es.length*sz')).length=es.length*sz':=(by have j4:cur.toList.length=cur.size:=b8;rw[aN,j4];omega);rw[aA (by rw[ae,Qr];omega),aH (by rw[Qr];omega),<- hu,Qr,ZE]);rw[ak,this];exact jq.mono kE)
       have D1:s.after tr o (.hh none (some (e',sz')) (es++[y1]))=(s.clr t0).put o.dst (.hh none (some (e',sz')) (es++[y1])):=(by unfold S.after;rw[sP];simp only[S.use];have:(s.fr t0).isOw=true:=F9;rw[if_pos this]);rw[D1];cases lP:o.dst with
       |none=>exact⟨_,_,_,n0⟩
       |some dd=>
        refine⟨_,_,_,n0.put dd (hd dd lP) (o:=some blk) ?_ λb hb=>?_⟩
        .have Ir:Value.slice (some ⟨blk,0,none⟩) (es.length+[y1].length) cap=Value.slice (some ⟨blk,0,none⟩) (es++[y1]).length cap:=by rw[ae]
         rw[Ir];simp only[LR];refine⟨(λ_ h=>by cases h),e',blk,cap,_,sz',rfl,rfl,rfl,QG,rX,by simpa using na,ZF,Ge,eF,jq,λo ho=>?_,λo ho=>?_⟩
         .rw[ae,bz,Nat.add_sub_cancel] at ho
          obtain⟨u,hu⟩:∃ u,olds[o]?=some u:=⟨_,ai (by omega)⟩;have:=(holds o u hu).2;rwa [aF] at this
         .rw[ae,bz,Nat.add_sub_cancel]
          exact hIb o ho
        .simp only[ao] at hb
         subst hb;refine⟨⟨by simpa using wZ,QG⟩,λL hL=>?_,λi=>hst.obx _ blk i tA⟩;simp only[upL] at hL;split at hL
         .cases hL
         .split at hL
          .cases hL
          .rename_i h5 h6;exact h6 (hst.oinj _ _ blk hL tA)
      .have bM:=grun (some ⟨blk,0,none⟩) es.length cap olds (jk (P:=P) w.drew j'.size es.length ⟨blk,0,none⟩ es.length cap olds (by rw[<- fb];exact AX) (λq u hq=>by rw[cY];simpa using(holds q u hq).1)) (by omega) (by omega) (by rw[<- rW];exact iP (by omega) hb)
       exact⟨_,_,_,h,by rw[yF];exact bM,grownCase olds cap AX D7⟩
    .exact h.elim
   .cases mE
  .exact h.elim
 .exact h.elim
theorem vM {z:Array Value} {m:Nat} {u:Value} (h:u∈Builtin.zeroCells z m):u∈z:=by
 unfold Builtin.zeroCells at h;simp only[Array.mem_map,Array.mem_range] at h;obtain⟨i,hi,rfl⟩:=h;have hz:0<z.size:=Nat.pos_of_ne_zero λh=>by rw[h] at hi;simp at hi
 have bE:i % z.size<z.size:=Nat.mod_lt _ hz;rw[getElem!_pos z _ bE];exact Array.getElem_mem bE
theorem zP {T U ty:TypeId} {t0:Tmp} {E:Option (TypeId×Nat)} {es:List (List C)} {vy:Value} (hst:St G n I0 M w0 I β ob s a w) (hd:∀ d,o.dst=some d->d<n)
 (sP:cn tr o=some t0) (tj:s.fr t0=.gs none E es) (h:nH P [T,U] E es y K) (hy:∀ ys e,P.underlying T=some (.slice e)->∀ j,ti P e=some j->y=.c (.sl ys)->(∀ x∈ys,x.length=j.size)->IQ P I w U vy j.size ys) :
 ∃ z u w',K z/\(Builtin.append_ #[T,U] ty #[a.tmps.getD t0 undef,vy]).run P w=.ok u w'/\SE G n I0 M w0 (s.after tr o z) (a.put o.dst u) w':=by
 have hx:=hst.fr t0;rw[tj] at hx;simp only[nH] at h;obtain⟨rfl,h⟩:=h;split at h
 .rename_i e _ _ _ _ _ _ hi
  obtain⟨j,d,h1,h2,h3,_⟩:=bH hi;have qy:=dL h3;subst qy;split at h
  .rename_i sz by_ _ z _ _ tz
   obtain⟨j',d',jF,nB,_,fb,rW,_,mE,_⟩:=bH tz;simp only at mE fb rW;obtain⟨⟨hp,tH,hE,px⟩,h⟩:=h;split at mE
   .rename_i zv tg
    split at h
    .rename_i y1
     obtain⟨⟨hb,cj,Gf⟩,h⟩:=h;have uG:∀ x∈[y1],x.length=sz:=λx hx=>by rw[aX] at hx;subst hx;exact Gf
     obtain⟨news,rl,L9⟩:=hy [y1] e h2 _ tz rfl uG;simp only at rl;have sM:=lz (I:=I) (w:=w) mE.symm;have Us:zv.cells.size=sz:=(by rw[sM.1,tH]);have zone:∀ u∈zv.cells,u.oneCell'=true:=λu hu=>by obtain⟨q,hq,rfl⟩:=fC.1 hu;have nC:q<z.length:=(by rw[<- sM.1];exact hq);have:=(sM.2 q _ (ai nC)).oneCell;simpa[ax hq,hq] using this
     have ZD:=hx.2;have F9:(s.fr t0).isOw=true:=(by rw[tj];rfl);have AV:([y1]:List (List C))≠[]:=(by simp);have vX:=rl.newsLen;have IB:=rl.one;have qj:Src P j'.size T vy [y1].length news w:=(by rw[<- fb];exact rl);have grun:∀ (base:Option Addr) (sLen sCap:Nat) (olds:List Value) (_:(Builtin.firstCells j'.size sLen (.slice base sLen sCap)).run P w.drew=.ok olds.toArray w.drew) (_:sCap<sLen+[y1].length) (_:sLen+[y1].length<=9223372036854775807) (_:Builtin.nextslicecap (sLen+[y1].length) sCap*j'.bytes<=281474976710656),
      (Builtin.append_ #[T,T] ty #[.slice base sLen sCap,vy]).run P w=.ok (.slice (some ⟨w.heap.size,0,none⟩) (sLen+[y1].length) (grownCap w (sLen+[y1].length) sCap e))
       (w.drew.alloc (.cells (olds.toArray++news.toArray++Builtin.zeroCells zv.cells (grownCap w (sLen+[y1].length) sCap e - (sLen+[y1].length))) e)):=by
      intro base sLen sCap olds ho hg h63 vH;have:=run_append_grow_src (P:=P) w T T ty e j' zv h2 jF tg base sLen sCap olds ho vy [y1].length news qj hg (by omega) vH;rw[this];simp
     have ON:0<[y1].length:=gR.2 AV;have eF:∀ x∈es++[y1],x.length=sz:=λx hx=>by rcases ba.1 hx with hx | hx;exact px x hx;exact uG x hx
     have DZ:es.length+[y1].length<=maxLen:=(by unfold maxLen;omega);have flat_eq:(es++[y1]).flatten=es.flatten++[y1].flatten:=(by simp);have ZE:=bN es px;have grownCase:∀ (olds:List Value) (cap0:Nat),olds.length=es.length*sz->(∀ (q:Nat) (c:C),es.flatten[q]?=some c->∃ u,olds[q]?=some u/\CR I w u c)->(∀ u∈olds,u.oneCell'=true)->
      SE G n I0 M w0 (s.after tr o (.gs none (some (e,sz)) (es++[y1]))) (a.put o.dst (.slice (some ⟨w.heap.size,0,none⟩) (es.length+[y1].length) (grownCap w (es.length+[y1].length) cap0 e)))
       (w.drew.alloc (.cells (olds.toArray++news.toArray++Builtin.zeroCells zv.cells (grownCap w (es.length+[y1].length) cap0 e - (es.length+[y1].length))) e)):=by
      intro olds cap0 AX D7 ho1;have fH:=grownCap_ge w (es.length+[y1].length) cap0 e;have ZF:=grownCap_le_maxLen w (es.length+[y1].length) cap0 e DZ;have:=SE.finRowG (tr:=tr) (o:=o) (e:=e) (cap:=grownCap w (es.length+[y1].length) cap0 e) (sz:=sz) (es:=es++[y1])
       (cur:=olds.toArray++news.toArray++Builtin.zeroCells zv.cells (grownCap w (es.length+[y1].length) cap0 e - (es.length+[y1].length))) hst hd (w1:=w.drew) hst.drew rfl
       (by simpa using fH) ZF (by
        simp only[Array.size_append,eM,size_zeroCells,Us,AX,vX,<- da];congr 1;omega) eF (λq c hq=>by
         rw[flat_eq] at hq;have qk:∃ u,(olds++news)[q]?=some u/\CR I w u c:=by
          by_cases nC:q<es.flatten.length
          .rw[aA nC] at hq
           obtain⟨u,hu,jq⟩:=D7 q c hq;exact⟨u,by rw[aA (by omega)];exact hu,jq⟩
          .rw[aH (by omega)] at hq
           obtain⟨u,hu,jq⟩:=L9 _ c hq;refine⟨u,?_,jq⟩;rw[aH (by omega),<- hu];congr 1;omega
         obtain⟨u,hu,jq⟩:=qk;rw[lA olds news _ q u hu];exact jq) (λu hu=>by
          simp only[Array.mem_append,gu] at hu;rcases hu with(hu | hu) | hu
          .exact ho1 u hu
          .exact IB u hu
          .exact zone u (vM hu)) (λ_ _ _=>rfl)
      rw[ae] at this;exact this
     rcases ZD with⟨hob0,hE0,Ip,xa,yF⟩ | ⟨e',blk,cap,cur,sz',OO,L6,yF,QG,iz,hc,ZF,jf,dU,F8,kg,gy⟩
     .subst Ip
      have nilCase:∀ (base:Option Addr),(Builtin.append_ #[T,T] ty #[.slice base 0 0,vy]).run P w=.ok (.slice (some ⟨w.heap.size,0,none⟩) (0+[y1].length) (grownCap w (0+[y1].length) 0 e))
       (w.drew.alloc (.cells (([]:List Value).toArray++news.toArray++Builtin.zeroCells zv.cells (grownCap w (0+[y1].length) 0 e - (0+[y1].length))) e)):=λbase=>by
       refine grun base 0 0 [] ?_ (by simp) (by simp) (by rw[<- rW];exact iP (by simp) (by simpa using hb));cases base with
       |none=>simpa using run_firstCells_none (P:=P) w.drew j'.size 0 0 0
       |some xaddr=>exact jk (P:=P) w.drew j'.size 0 xaddr 0 0 [] (by simp) (by simp)
      have bM:=nilCase xa;have:=grownCase [] 0 (by simp) (by simp) (by simp);simp only[eu,aG,aF,eQ] at this h bM;refine⟨_,_,_,h,by rw[yF];exact bM,?_⟩;simpa using this
     .have hee:e'=e/\sz'=sz:=by
       rcases hE with hE | hE
       .rw[hE] at L6;cases L6
       .rw[hE] at L6;cases L6;exact⟨rfl,rfl⟩
      obtain⟨rfl,rfl⟩:=hee;have am9:=aO sz' hc;obtain⟨olds,AX,ain⟩:∃ olds:List Value,olds.length=es.length*sz'/\∀ q,q<es.length*sz'->olds[q]?=cur[q]?:=⟨cur.toList.take (es.length*sz'),by rw[aN];exact bS (by have h9:cur.toList.length=cur.size:=b8;rw[h9,jf];exact am9),λq hq=>by rw[cA,if_pos hq,aQ]⟩;have D7:∀ (q:Nat) (c:C),es.flatten[q]?=some c->∃ u,olds[q]?=some u/\CR I w u c:=λq c hq=>by have nC:=(aj.1 hq).1;rw[ZE] at nC;refine⟨cur.getD q undef,?_,F8 q c hq⟩;rw[ain q nC,ak,ax (show q<cur.size by omega)];rfl
      have ho1:∀ u∈olds,u.oneCell'=true:=λu hu=>by obtain⟨q,hq,rfl⟩:=gQ hu;have h7:=ain q (by omega);rw[ai hq] at h7;exact kg _ (fD h7.symm)
      have holds:∀ (q:Nat) (u:Value),olds[q]?=some u->w.cell? ⟨blk,0+q,none⟩=some u:=λq u hq=>by have nC:=(aj.1 hq).1;rw[aF,fj w blk q cur e' (0,0) iz,<- hq,ain q (by omega)]
      by_cases na:es.length+[y1].length<=cap
      .
       have tA:ob (.t t0)=some blk:=OO;have bM:=ja (P:=P) (w:=w) T T ty e' j' h2 jF blk 0 es.length cap cur (.of e') iz RT.of_ok vy [y1].length news qj na (by rw[<- fb,vX,jf,aF,<- da];exact aO _ na);rw[<- fb] at bM;simp only[aF] at bM;refine⟨_,_,_,h,by rw[yF];exact bM,?_⟩;have wZ:blk<w.heap.size:=(bf.1 iz).1;have Qq:es.length*sz'+news.length<=cur.size:=(by rw[vX,jf,<- da];exact aO _ na);have cO:=hst.clr t0;have uH:∀ o,o<es.length*sz'->(cur.toList.take (es.length*sz')++news++cur.toList.drop (es.length*sz'+news.length)).toArray[o]?=cur[o]?:=λo ho=>by simp only[dt,aI];rw[aA (by simp;omega),cA,if_pos ho,aQ]
       have mZ:∀ o,I blk o->(w.setRow blk (cur.toList.take (es.length*sz')++news++cur.toList.drop (es.length*sz'+news.length)).toArray).cell? ⟨blk,o,none⟩=w.cell? ⟨blk,o,none⟩:=λo ho=>by exact absurd ho (gy o)
       have ZG:∀ L,upL ob (.t t0) none L≠some blk:=λL hL=>by
        simp only[upL] at hL;split at hL
        .cases hL
        .rename_i gY;exact gY (hst.oinj _ _ blk hL tA)
       have hg:w.grb (w.setRow blk (cur.toList.take (es.length*sz')++news++cur.toList.drop (es.length*sz'+news.length)).toArray) (some blk):=
        ⟨rfl,rfl,rfl,by simp,λk _ hk=>jV w blk k _ (λe=>hk (by rw[e])),ab _⟩
       have n0:=cO.growRow hg QG mZ ZG (λi=>hst.obx _ blk i tA) (I':=I)
        (λ_ _ h=>h) (λb o hb=>.inl hb) (by simpa using wZ)
       have kE:∀ b o,I b o->I b o/\
        (w.setRow blk (cur.toList.take (es.length*sz')++news++cur.toList.drop (es.length*sz'+news.length)).toArray).cell? ⟨b,o,none⟩=w.cell? ⟨b,o,none⟩:=
        λb o hb=>⟨hb,hst.keeps hg (λr e o ho=>by cases e;exact mZ o ho) b o hb⟩
       have rX:=lR w blk cur (cur.toList.take (es.length*sz')++news++cur.toList.drop (es.length*sz'+news.length)).toArray e' (0,0) iz;have Ge:(cur.toList.take (es.length*sz')++news++cur.toList.drop (es.length*sz'+news.length)).toArray.size=cap*sz':=(by simp only[eM,ae,aN,cw,b8];omega);have jq:∀ (q:Nat) (c:C),(es++[y1]).flatten[q]?=some c->CR I (w.setRow blk (cur.toList.take (es.length*sz')++news++cur.toList.drop (es.length*sz'+news.length)).toArray) ((cur.toList.take (es.length*sz')++news++cur.toList.drop (es.length*sz'+news.length)).toArray.getD q undef) c:=
        (λq c hq=>by
         have nC:=(aj.1 hq).1;rw[bN _ eF,ae,da] at nC;rw[flat_eq] at hq;by_cases hq1:q<es.flatten.length
         .rw[aA hq1] at hq
          obtain⟨u,hu,jq⟩:=D7 q c hq;have eU:=holds q u hu;rw[aF,fj w blk q cur e' (0,0) iz] at eU;rw[ak,uH q (by omega),eU];exact jq.mono kE
         .rw[aH (by omega)] at hq
          obtain⟨u,hu,jq⟩:=L9 _ c hq;have:(cur.toList.take (es.length*sz')++news++cur.toList.drop (es.length*sz'+news.length)).toArray[q]?=some u:=(by simp only[dt];have Qr:(cur.toList.take (es.length*sz')).length=es.length*sz':=(by have j4:cur.toList.length=cur.size:=b8;rw[aN,j4];omega);rw[aA (by rw[ae,Qr];omega),aH (by rw[Qr];omega),<- hu,Qr,ZE]);rw[ak,this];exact jq.mono kE)
       have D1:s.after tr o (.gs none (some (e',sz')) (es++[y1]))=(s.clr t0).put o.dst (.gs none (some (e',sz')) (es++[y1])):=(by unfold S.after;rw[sP];simp only[S.use];have:(s.fr t0).isOw=true:=F9;rw[if_pos this]);rw[D1];cases lP:o.dst with
       |none=>exact⟨_,_,_,n0⟩
       |some dd=>
        refine⟨_,_,_,n0.put dd (hd dd lP) (o:=some blk) ?_ λb hb=>?_⟩
        .have Ir:Value.slice (some ⟨blk,0,none⟩) (es.length+[y1].length) cap=Value.slice (some ⟨blk,0,none⟩) (es++[y1]).length cap:=by rw[ae]
         rw[Ir];simp only[LR];exact⟨(λ_ h=>by cases h),.inr ⟨e',blk,cap,_,sz',rfl,rfl,rfl,QG,rX,by simpa using na,ZF,Ge,eF,jq,λu hu=>by
          rw[gu] at hu;rcases ba.1 hu with hu | hu
          .rcases ba.1 hu with hu | hu
           .exact kg u (cy.1 (dp hu))
           .exact IB u hu
          .exact kg u (cy.1 (cQ hu)),gy⟩⟩
        .simp only[ao] at hb
         subst hb;refine⟨⟨by simpa using wZ,QG⟩,λL hL=>?_,λi=>hst.obx _ blk i tA⟩;simp only[upL] at hL;split at hL
         .cases hL
         .split at hL
          .cases hL
          .rename_i h5 h6;exact h6 (hst.oinj _ _ blk hL tA)
      .have bM:=grun (some ⟨blk,0,none⟩) es.length cap olds (jk (P:=P) w.drew j'.size es.length ⟨blk,0,none⟩ es.length cap olds (by rw[<- fb];exact AX) (λq u hq=>by rw[cY];simpa using holds q u hq)) (by omega) (by omega) (by rw[<- rW];exact iP (by omega) hb)
       exact⟨_,_,_,h,by rw[yF];exact bM,grownCase olds cap AX D7 ho1⟩
    .exact h.elim
   .cases mE
  .exact h.elim
 .exact h.elim
theorem Eg {T ty:TypeId} {vx vy:Value} {ox:Option Nat} {es:List (List C)} {d:Option Tmp} {K:S->Prop} (hst:St G n I0 M w0 I β ob s a w)
 (hx:LR (Wr M w0) I β w ox vx (.ow none es)) (h:dR P T (.ow none es) y (aaf s d K)) (hy:∀ ys,y=.c (.sl ys)->RD I w vy ys) :
 ∃ (e:TypeId) (sz:Nat) (es':List (List C)) (cells:Array Value) (cap:Nat),K ({ s with bx:=up s.bx s.nb (es'.flatten.map .c),nb:=s.nb+1 }.put d (.ms s.nb 0 es'.length es'.length sz))/\
  (Builtin.append_ #[T,T] ty #[vx,vy]).run P w=.ok (.slice (some ⟨w.heap.size,0,none⟩) es'.length cap) (w.drew.alloc (.cells cells e))/\es'.length<=cap/\es'.flatten.length<=cells.size/\
  (∀ q c,es'.flatten[q]?=some c->CR I w (cells.getD q undef) c)/\(∀ u∈cells,u.oneCell'=true):=by
 unfold dR at h;split at h
 .rename_i e _ _ _ _ _ _ E es1 hi tj
  cases tj;obtain⟨j,d,h1,h2,h3,_⟩:=bH hi;have qy:=dL h3;subst qy;split at h
  .rename_i sz by_ _ z _ _ tz
   obtain⟨j',d',jF,nB,_,fb,rW,_,mE,_⟩:=bH tz;simp only at mE fb rW;obtain⟨⟨hp,tH,hE,px⟩,h⟩:=h;split at mE
   .rename_i zv tg
    split at h
    .rename_i ys
     obtain⟨⟨hb,cj,uG⟩,h⟩:=h;by_cases AV:ys=[]
     .subst AV
      simp only[List.isEmpty_nil,cZ] at h;exact h.elim
     have mc:ys.isEmpty=false:=(by simpa using AV);simp only[mc,aM,df] at h;have Zz:=hy _ rfl;have sM:=lz (I:=I) (w:=w) mE.symm;have Us:zv.cells.size=sz:=(by rw[sM.1,tH]);obtain⟨vsl,hvy⟩:∃ (p:Option Addr×Nat),vy=.slice p.1 ys.length p.2:=by
      rcases Zz with⟨h0,h1⟩ | ⟨b,off,cap,_,_,hv,_⟩
      .obtain⟨a0,c0,h0,_⟩:=h0;exact⟨(a0,c0),by rw[h0,h1];rfl⟩
      .exact⟨(some ⟨b,off,none⟩,cap),hv⟩
     obtain⟨ya,yc⟩:=vsl;simp only at hvy;subst hvy;have ZD:=hx.2;have qT:=hx.1;obtain⟨yb,yoff,rfl⟩:=Zz.some' AV;obtain⟨news,vX,LK,L9,IB⟩:=Zz.flat uG;have ZH:∀ (q:Nat) (u:Value),news[q]?=some u->w.cell? ((⟨yb,yoff,none⟩:Addr).add q)=some u:=λq u hq=>by rw[cY];exact(LK q u hq).1
     have ON:0<ys.length:=gR.2 AV;have eF:∀ x∈es++ys,x.length=sz:=λx hx=>by rcases ba.1 hx with hx | hx;exact px x hx;exact uG x hx
     have DZ:es.length+ys.length<=maxLen:=(by unfold maxLen;omega);have flat_eq:(es++ys).flatten=es.flatten++ys.flatten:=(by simp);have ZE:=bN es px;have hfa:=bN (es++ys) eF;have zone:∀ u∈zv.cells,u.oneCell'=true:=λu hu=>by obtain⟨q,hq,rfl⟩:=fC.1 hu;have nC:q<z.length:=(by rw[<- sM.1];exact hq);have:=(sM.2 q _ (ai nC)).oneCell;simpa[ax hq,hq] using this
     have fin:∀ (olds:List Value) (cap0:Nat),olds.length=es.length*sz->(∀ (q:Nat) (c:C),es.flatten[q]?=some c->∃ u,olds[q]?=some u/\CR I w u c)->(∀ u∈olds,u.oneCell'=true)->
      (Builtin.append_ #[T,T] ty #[vx,.slice (some ⟨yb,yoff,none⟩) ys.length yc]).run P w=.ok (.slice (some ⟨w.heap.size,0,none⟩) (es.length+ys.length) (grownCap w (es.length+ys.length) cap0 e))
       (w.drew.alloc (.cells (olds.toArray++news.toArray++Builtin.zeroCells zv.cells (grownCap w (es.length+ys.length) cap0 e - (es.length+ys.length))) e))->
      ∃ (e:TypeId) (sz:Nat) (es':List (List C)) (cells:Array Value) (cap:Nat),K ({ s with bx:=up s.bx s.nb (es'.flatten.map .c),nb:=s.nb+1 }.put ‹Option Tmp› (.ms s.nb 0 es'.length es'.length sz))/\
       (Builtin.append_ #[T,T] ty #[vx,.slice (some ⟨yb,yoff,none⟩) ys.length yc]).run P w=.ok (.slice (some ⟨w.heap.size,0,none⟩) es'.length cap) (w.drew.alloc (.cells cells e))/\es'.length<=cap/\es'.flatten.length<=cells.size/\
       (∀ q c,es'.flatten[q]?=some c->CR I w (cells.getD q undef) c)/\(∀ u∈cells,u.oneCell'=true):=by
      intro olds cap0 AX D7 ho1 bM;have fH:=grownCap_ge w (es.length+ys.length) cap0 e;refine⟨e,sz,es++ys,_,_,h,by rw[ae];exact bM,by rw[ae];exact fH,?_,λq c hq=>?_,λu hu=>?_⟩
      .rw[hfa,ae]
       simp only[Array.size_append,eM,AX,vX,<- da];omega
      .rw[flat_eq] at hq
       have qk:∃ u,(olds++news)[q]?=some u/\CR I w u c:=by
        by_cases nC:q<es.flatten.length
        .rw[aA nC] at hq
         obtain⟨u,hu,jq⟩:=D7 q c hq;exact⟨u,by rw[aA (by omega)];exact hu,jq⟩
        .rw[aH (by omega)] at hq
         obtain⟨u,hu,jq⟩:=L9 _ c hq;refine⟨u,?_,jq⟩;rw[aH (by omega),<- hu];congr 1;omega
       obtain⟨u,hu,jq⟩:=qk;rw[lA olds news _ q u hu];exact jq
      .simp only[Array.mem_append,gu] at hu
       rcases hu with(hu | hu) | hu
       .exact ho1 u hu
       .exact IB u hu
       .exact zone u (vM hu)
     rcases ZD with⟨hob0,_,xa,yF⟩ | ⟨e',blk,cap,cur,sz',OO,L6,_⟩
     .cases xa with
      |none=>
       have Ip:es=[]:=by
        rcases qT.sl_inv with⟨_,h1⟩ | ⟨b,off,cap,_,_,hv,_⟩
        .exact h1
        .rw[yF] at hv;cases hv
       subst Ip;have bM:=run_append_nil (P:=P) w T ty e j' zv h2 jF tg ⟨yb,yoff,none⟩ ys.length yc news (by rw[<- fb];exact vX) ZH ON (by simp only[aG,aF] at cj;omega) (by rw[<- rW];simp only[aG,aF] at hb;omega);refine fin [] 0 (by simp) (by simp) (by simp) ?_;rw[yF];simpa using bM
      |some xaddr=>
       rw[yF] at qT;obtain⟨olds,AX,holds,D7,ho1⟩:=qT.oldsOf px;have bM:=run_append_grow (P:=P) w T ty e j' zv h2 jF tg xaddr es.length es.length olds (by rw[<- fb];exact AX) holds
        ⟨yb,yoff,none⟩ ys.length yc news (by rw[<- fb];exact vX) ZH (by omega) (by omega) (by rw[<- rW];exact iP (by omega) hb)
       exact fin olds es.length AX D7 ho1 (by rw[yF];exact bM)
     .cases L6
    .exact h.elim
   .cases mE
  .exact h.elim
 .exact h.elim
end
section
variable {P:Program} {G:Gl} {tr:List Nat} {n:Nat} {I0:Ft} {M:Mx} {w0:World} {I:Ft} {β:Nat->Option Nat} {ob:Loc->Option Nat} {s:S} {a:Act} {w:World} {o:Oper}
 {next:Act->World->Prop} {Q:Exit->Act->World->Prop} {base:Nat->Prop} {v:Value} {x y:V} {K:V->Prop}
theorem sb (isSlice:Bool) (len cap:Nat) (lo hi:Option Value) (l h:Int) (hl:(lo=none/\l=0)∨∃ k,lo=some (.int k l)) (hh:(hi=none/\h=len)∨∃ k,hi=some (.int k h))
 (h0:0<=l) (h1:l<=h) (h2:h<=len) (hc:len<=cap):(Instr.sliceBounds isSlice len cap lo hi none).run P w=.ok (l.toNat,h.toNat,cap) w:=by
 have eh:(h.toNat:Int)=h:=gV (by omega);unfold Instr.sliceBounds;have e0:(0:Int)<=h:=by omega
 have e1:h<=(cap:Int):=by omega
 rcases hl with⟨rfl,rfl⟩ | ⟨kl,rfl⟩<;>rcases hh with⟨rfl,rfl⟩ | ⟨kh,rfl⟩<;>
  simp[run_sliceBound,h0,h1,eh,e0,e1]
theorem IT (isSlice:Bool) (len cap:Nat) (lo hi:Option Value) (l h:Int) (km:IntKind) (hl:(lo=none/\l=0)∨∃ k,lo=some (.int k l)) (hh:∃ k,hi=some (.int k h))
 (h0:0<=l) (h1:l<=h) (h2:h<=cap):(Instr.sliceBounds isSlice len cap lo hi (some (.int km h))).run P w=.ok (l.toNat,h.toNat,h.toNat) w:=by
 have eh:(h.toNat:Int)=h:=gV (by omega);unfold Instr.sliceBounds;have e0:(0:Int)<=h:=by omega
 rcases hl with⟨rfl,rfl⟩ | ⟨kl,rfl⟩<;>obtain⟨kh,rfl⟩:=hh<;>simp[run_sliceBound,h0,h1,h2,eh,e0]
theorem zQ (len cap:Nat) (lo hi:Option Value) (l h:Int) (hl:(lo=none/\l=0)∨∃ k,lo=some (.int k l)) (hh:(hi=none/\h=len)∨∃ k,hi=some (.int k h))
 (h0:0<=l) (h1:l<=h) (h2:h<=cap):(Instr.sliceBounds true len cap lo hi none).run P w=.ok (l.toNat,h.toNat,cap) w:=by
 have eh:(h.toNat:Int)=h:=gV (by omega);unfold Instr.sliceBounds;have e0:(0:Int)<=h:=by omega
 rcases hl with⟨rfl,rfl⟩ | ⟨kl,rfl⟩<;>rcases hh with⟨rfl,rfl⟩ | ⟨kh,rfl⟩<;>
  simp[run_sliceBound,h0,h1,h2,eh,e0]
theorem zR (len cap:Nat) (lo hi:Option Value) (l h m:Int) (km:IntKind) (hl:(lo=none/\l=0)∨∃ k,lo=some (.int k l)) (hh:∃ k,hi=some (.int k h))
 (h0:0<=l) (h1:l<=h) (h2:h<=m) (h3:m<=cap):(Instr.sliceBounds true len cap lo hi (some (.int km m))).run P w=.ok (l.toNat,h.toNat,m.toNat) w:=by
 have eh:(h.toNat:Int)=h:=gV (by omega);have em:(m.toNat:Int)=m:=gV (by omega);unfold Instr.sliceBounds;have e0:(0:Int)<=h:=by omega
 have e2:(0:Int)<=m:=by omega
 rcases hl with⟨rfl,rfl⟩ | ⟨kl,rfl⟩<;>obtain⟨kh,rfl⟩:=hh<;>
  simp[run_sliceBound,h0,h1,h2,h3,eh,em,e0,e2]
theorem lJ (hst:St G n I0 M w0 I β ob s a w) {d:Int} {lo:Option Operand} {l:Int} (h:iU d (lo.map (ev G s))=some l):(lo.map a.eval=none/\l=d)∨∃ k,lo.map a.eval=some (.int k l):=by
 cases lo with
 |none=>simp[iU] at h;exact .inl ⟨rfl,h.symm⟩
 |some x=>
  have hx:=bP hst x;simp only[cT,iU] at h;split at h
  .cases ‹some _=none›
  .rename_i k m he
   simp only[ao] at he h;subst h;rw[he] at hx;exact .inr ⟨k,by rw[cT,hx.lit]⟩
  .cases h
theorem pJ {sz:Nat}:∀ (m:Nat) (cs:List C) (i:Nat),i<m->(nL sz m cs)[i]?=some ((cs.drop (i*sz)).take sz)
 |0,_,i,h=>by omega
 |m+1,cs,0,_=>by simp[nL]
 |m+1,cs,i+1,h=>by simp only[nL,cB];rw[pJ m _ i (by omega),fG];congr 3;rw[eB];omega
theorem qW {sz:Nat}:∀ (m:Nat) (cs:List C),(nL sz m cs).length=m
 |0,_=>rfl
 |m+1,cs=>by simp[nL,qW m]
theorem GA (hst:St G n I0 M w0 I β ob s a w) {i off len cap sz:Nat} {c:C} {v:Value} (h:nF s i off len sz=some c)
 (hx:len<=cap/\∃ blk off' cap',cap<=cap'/\β i=some blk/\(cap'=0∨off'=off)/\v=.slice (some ⟨blk,off',none⟩) len cap') :
 ∃ (es:List (List C)) (blk off' cap':Nat) (f:Nat->Nat->Value),c=.sl es/\v=.slice (some ⟨blk,off',none⟩) es.length cap'/\es.length<=cap'/\β i=some blk/\(∀ e∈es,e.length=sz)/\
  (∀ p q,p<es.length->q<sz->w.cell? ⟨blk,off'+p*sz+q,none⟩=some (f p q))/\(∀ p q e c,es[p]?=some e->e[q]?=some c->CR I w (f p q) c):=by
 unfold nF at h;split at h
 .rename_i cs jf
  split at h
  .rename_i vH
   simp only[ao] at h;obtain⟨kX,blk,off',cap',F8,e1,oW,rfl⟩:=hx;unfold AA at jf;split at jf
   .rename_i hi
    obtain⟨sN,cur,q1,q2,q3,q4,q5,q7⟩:=hst.bx i hi;obtain⟨T,q3,q6⟩:=q3.cells (zM jf);rw[e1] at q1;cases q1;have cj:cs.length=(s.bx i).length:=List.mapM_eq_some_length jf;have hl:=qW (sz:=sz) len (cs.drop off);refine⟨_,blk,off',cap',λp q=>cur.getD (off+p*sz+q) undef,h.symm,by rw[hl],by rw[hl];omega,e1,λe he=>?_,λp q hp hq=>?_,λp q e c' he hc=>?_⟩
    .obtain⟨p,hp,rfl⟩:=iN.1 he
     have:=pJ (sz:=sz) len (cs.drop off) p (by omega);rw[ai hp] at this;simp only[ao] at this;rw[this];have hm':(p+1)*sz<=len*sz:=aO _ (by omega);rw[eB] at hm';simp;omega
    .rw[hl] at hp
     have hm':(p+1)*sz<=len*sz:=aO _ (by omega);rw[eB] at hm';have:off'=off:=by rcases oW with h0 | h0;omega;exact h0
     subst this;have bE:off'+p*sz+q<cur.size:=(by omega);rw[fj w blk _ cur T.t T.fz q3];simp[ax bE]
    .have hp:p<len:=by have:=(aj.1 he).1;omega
     rw[pJ len _ p hp] at he;simp only[ao] at he;subst he;rw[cA] at hc;split at hc
     .rw[cK,cK] at hc
      obtain⟨vv,Iq,hvc⟩:=List.mapM_eq_some_get jf _ c' hc;have iD:=q5 (off+(p*sz+q));have:(s.bx i).getD (off+(p*sz+q)) .un=vv:=(by simp[List.getD,Iq]);rw[this,<- dM] at iD;cases vv<;>simp only[V.asC] at hvc<;>try cases hvc
      .exact iD.toC
      .exact iD.1
     .cases hc
   .cases jf
  .cases h
 .cases h
theorem aan (hst:St G n I0 M w0 I β ob s a w) {i off len cap sz:Nat} {c:C} {v:Value} (h:nF s i off len sz=some c)
 (hx:len<=cap/\∃ blk off' cap',cap<=cap'/\β i=some blk/\(cap'=0∨off'=off)/\v=.slice (some ⟨blk,off',none⟩) len cap'):∃ es,c=.sl es/\RD I w v es:=by
 obtain⟨es,blk,off',cap',f,rfl,rfl,h2,h3,h4,h5,h6⟩:=GA hst h hx;exact⟨es,rfl,.inr ⟨blk,off',cap',sz,f,rfl,h2,h4,h5,h6⟩⟩
theorem GB (hst:St G n I0 M w0 I β ob s a w) {i off len cap sz:Nat} {c:C} {v:Value} (h:nF s i off len sz=some c)
 (hx:len<=cap/\∃ blk off' cap',cap<=cap'/\β i=some blk/\(cap'=0∨off'=off)/\v=.slice (some ⟨blk,off',none⟩) len cap') {Ic:Ft} (tp:∀ b o,I b o->Ic b o) (hb:∀ b o,β i=some b->Ic b o):CR Ic w v c:=by
 obtain⟨es,blk,off',cap',f,rfl,rfl,h2,h3,h4,h5,h6⟩:=GA hst h hx;exact .sl blk off' cap' sz es f h2 h4 (λp q hp hq=>⟨h5 p q hp hq,hb blk _ h3⟩) (λp q e c he hc=>(h6 p q e c he hc).mono λb o h=>⟨tp b o h,rfl⟩)
theorem GF {T:TypeId} {lo hi mx:Option Operand} {vx:Value} {ox:Option Nat} (hst:St G n I0 M w0 I β ob s a w) (h:jl P T x (lo.map (ev G s)) (hi.map (ev G s)) (mx.map (ev G s)) K) (hx:LR (Wr M w0) I β w ox vx x) :
 ∃ z u,K z/\LR (Wr M w0) I β w none u z/\(Instr.sliceAt T vx (lo.map a.eval) (hi.map a.eval) (mx.map a.eval)).run P w=.ok u w:=by
 unfold jl at h;split at h
 .rename_i st sQ
  obtain⟨j,d,h1,h2,h3,_⟩:=bH sQ;have hd:=pG h3;subst hd;rw[hx.lit];split at h
  .rename_i l hh hl OQ hm
   obtain⟨⟨h0,Ut,UJ⟩,h⟩:=h;have hmx:mx.map a.eval=none:=(by cases mx<;>simp_all);refine⟨_,_,h,.ofLit rfl,?_⟩;unfold Instr.sliceAt;simp only[aK,aR h2,aw];unfold Instr.slice;simp only[aK,aR h2,aw,hmx];simp[sb (P:=P) (w:=w) false st.size st.size _ _ l hh (lJ hst hl) (lJ hst OQ) h0 Ut UJ (ab _)]
  .exact h.elim
 .rename_i e _ _ _ _ _ _ es sQ
  obtain⟨j,d,h1,h2,h3,_⟩:=bH sQ;have hd:=dL h3;subst hd;have jq:=hx.toC;split at h
  .rename_i hm
   split at h
   case h_2=>exact h.elim
   rename_i ie l hh mc hl OQ;obtain⟨j',d',jF,nB,_,fb,_⟩:=bH mc;obtain⟨⟨h0,Ut,UJ,hs⟩,h⟩:=h;have hmx:mx.map a.eval=none:=(by cases mx<;>simp_all);have hb:=λcap hc=>sb (P:=P) (w:=w) true es.length cap _ _ l hh (lJ hst hl) (lJ hst OQ) h0 Ut UJ hc;have jK:=fc (P:=P) w jF;rcases jq.sl_inv with⟨⟨xa,xc,hv,qT⟩,rfl⟩ | ⟨b,off,cap,sz,f,hv,kX,_⟩
   .simp only[aG] at UJ
    have:l=0/\hh=0:=(by omega);obtain⟨rfl,rfl⟩:=this;refine⟨_,.slice xa 0 xc,h,.ofC (by simpa using CR.nil xa xc qT),?_⟩;subst hv;unfold Instr.sliceAt;simp only[aK,aR h2,aw];unfold Instr.slice;simp only[aK,aR h2,aw,hmx];have:=hb xc (by simp);simp only[aG] at this;cases xa with
    |none=>obtain rfl:=qT rfl;simp[this,jK]
    |some xa=>simp[this,jK,Addr.add]
   .subst hv
    refine⟨_,.slice (some (if cap=l.toNat then⟨b,off,none⟩ else⟨b,off+l.toNat*ie.size,none⟩)) (hh.toNat - l.toNat) (cap - l.toNat),h,.ofC ?_,?_⟩
    .split
     .rename_i j4
      have:(es.take hh.toNat).drop l.toNat=([]:List (List C)):=dx (by simp;omega);rw[this];have e1:hh.toNat - l.toNat=0:=(by omega);have e2:cap - l.toNat=0:=(by omega);rw[e1,e2];exact .sl b off 0 0 [] (λ_ _=>undef) (ab _) (by simp) (by simp) (by simp)
     .exact jq.subslice hs (by omega) (by omega) (by omega)
    .unfold Instr.sliceAt
     simp only[aK,aR h2,aw];unfold Instr.slice;simp only[aK,aR h2,aw,hmx,hb cap kX,jK,bg,ey jF,<- fb];split<;>simp_all[cY]
  .rename_i km mm hm
   split at h
   .rename_i ie l khh hh mc hl OQ
    obtain⟨j',d',jF,nB,_,fb,_⟩:=bH mc;obtain⟨⟨h0,Ut,UJ,rfl,hs⟩,h⟩:=h;obtain⟨km',hmx⟩:∃ k,mx.map a.eval=some (.int k mm):=by
     rcases mx with _ | X
     .simp at hm
     .have hX:=bP hst X
      simp only[cT,ao] at hm;rw[hm] at hX;exact⟨km,by rw[cT,hX.lit]⟩
    have UI:∃ k,hi.map a.eval=some (.int k mm):=by
     rcases hi with _ | X
     .simp at OQ
     .have hX:=bP hst X
      simp only[cT,ao] at OQ;rw[OQ] at hX;exact⟨khh,by rw[cT,hX.lit]⟩
    have hb:=λcap hc=>IT (P:=P) (w:=w) true es.length cap _ _ l mm km' (lJ hst hl) UI h0 Ut hc;have jK:=fc (P:=P) w jF;rcases jq.sl_inv with⟨⟨xa,xc,hv,qT⟩,rfl⟩ | ⟨b,off,cap,sz,f,hv,kX,_⟩
    .simp only[aG] at UJ
     have:l=0/\mm=0:=(by omega);obtain⟨rfl,rfl⟩:=this;refine⟨_,.slice xa 0 0,h,⟨by simpa using CR.nil xa 0 (λ_=>rfl),.inl ⟨rfl,rfl,xa,by simp⟩⟩,?_⟩;subst hv;unfold Instr.sliceAt;simp only[aK,aR h2,aw];unfold Instr.slice;simp only[aK,aR h2,aw,hmx];have:=hb xc (by simp);simp only[aG] at this;cases xa with
     |none=>obtain rfl:=qT rfl;simp[this,jK]
     |some xa=>simp[this,jK,Addr.add]
    .subst hv
     have cj:((es.take mm.toNat).drop l.toNat).length=mm.toNat - l.toNat:=(by simp;omega);refine⟨_,.slice (some (if mm.toNat=l.toNat then⟨b,off,none⟩ else⟨b,off+l.toNat*ie.size,none⟩)) (mm.toNat - l.toNat) (mm.toNat - l.toNat),h,⟨?_,.inl ⟨rfl,rfl,_,by rw[cj]⟩⟩,?_⟩
     .split
      .rename_i j4
       have:(es.take mm.toNat).drop l.toNat=([]:List (List C)):=dx (by simp;omega);rw[this];have e1:mm.toNat - l.toNat=0:=(by omega);rw[e1];exact .sl b off 0 0 [] (λ_ _=>undef) (ab _) (by simp) (by simp) (by simp)
      .exact jq.subslice hs (by omega) (by omega) (by omega)
     .unfold Instr.sliceAt
      simp only[aK,aR h2,aw];unfold Instr.slice;simp only[aK,aR h2,aw,hmx,hb cap (by omega),jK,bg,ey jF,<- fb];split<;>simp_all[cY]
   .exact h.elim
  .exact h.elim
 .rename_i e _ _ _ _ _ _ b off len cap sz sQ
  obtain⟨j,d,h1,h2,h3,_⟩:=bH sQ;have hd:=dL h3;subst hd;split at h
  .rename_i ie l hh mm mc hl OQ hmm
   obtain⟨j',d',jF,nB,_,fb,_⟩:=bH mc;obtain⟨⟨fO,h0,Ut,UJ,h03,h04⟩,h⟩:=h;simp only[LR] at hx;obtain⟨kX,blk,off',cap',F8,e1,oW,rfl⟩:=hx;have jK:=fc (P:=P) w jF;have hb:∃ M:Nat,mm<=(M:Int)/\M<=cap'/\(Instr.sliceBounds true len cap' (lo.map a.eval) (hi.map a.eval) (mx.map a.eval)).run P w=.ok (l.toNat,hh.toNat,M) w:=by
    rcases lJ hst hmm with⟨e,rfl⟩ | ⟨km,e⟩
    .refine⟨cap',by omega,ab _,?_⟩
     rw[e];have:=zQ (P:=P) (w:=w) len cap' _ _ l hh (lJ hst hl) (lJ hst OQ) h0 Ut (by omega);simpa using this
    .refine⟨mm.toNat,by omega,by omega,?_⟩
     rw[e];have UI:∃ k,hi.map a.eval=some (.int k hh):=by
      rcases lJ hst OQ with⟨e5,_⟩ | h5
      .cases mx with
       |none=>cases e
       |some X=>have:=h04 rfl;cases hi<;>simp_all
      .exact h5
     exact zR (P:=P) (w:=w) len cap' _ _ l hh mm km (lJ hst hl) UI h0 Ut UJ (by omega)
   obtain⟨M,hM1,hM2,hb⟩:=hb;refine⟨_,.slice (some (if M=l.toNat then⟨blk,off',none⟩ else⟨blk,off'+l.toNat*ie.size,none⟩)) (hh.toNat - l.toNat) (M - l.toNat),h,?_,?_⟩
   .simp only[LR]
    split
    .exact⟨by omega,blk,off',M - l.toNat,by omega,e1,.inl (by omega),rfl⟩
    .have:off'=off:=by rcases oW with h4 | h4;omega;exact h4
     exact⟨by omega,blk,_,M - l.toNat,by omega,e1,.inr (by rw[this,fO]),rfl⟩
   .unfold Instr.sliceAt
    simp only[aK,aR h2,aw];unfold Instr.slice;simp only[aK,aR h2,aw,hb,jK,bg,ey jF,<- fb];split<;>simp_all[cY]
  .exact h.elim
 .rename_i e _ _ _ _ _ _ blk off len cap sQ
  obtain⟨j,d,h1,h2,h3,_⟩:=bH sQ;have hd:=dL h3;subst hd;split at h
  .rename_i ie l hh mm mc hl OQ hmm
   obtain⟨j',d',jF,nB,_,fb,_⟩:=bH mc;obtain⟨⟨h0,Ut,UJ,h03,h04⟩,h⟩:=h;obtain rfl:=hx.toC.ex_inv;have jK:=fc (P:=P) w jF;have hb:(Instr.sliceBounds true len cap (lo.map a.eval) (hi.map a.eval) (mx.map a.eval)).run P w=.ok (l.toNat,hh.toNat,mm.toNat) w:=by
    rcases lJ hst hmm with⟨e,rfl⟩ | ⟨km,e⟩
    .rw[e]
     have:=zQ (P:=P) (w:=w) len cap _ _ l hh (lJ hst hl) (lJ hst OQ) h0 Ut (by omega);simpa using this
    .rw[e]
     have UI:∃ k,hi.map a.eval=some (.int k hh):=by
      rcases lJ hst OQ with⟨e5,_⟩ | h5
      .cases mx with
       |none=>cases e
       |some X=>have:=h04 rfl;cases hi<;>simp_all
      .exact h5
     exact zR (P:=P) (w:=w) len cap _ _ l hh mm km (lJ hst hl) UI h0 Ut UJ (by omega)
   refine⟨_,_,h,.ofC (.ex _ rfl rfl),?_⟩;unfold Instr.sliceAt;simp only[aK,aR h2,aw];unfold Instr.slice;simp only[aK,aR h2,aw,hb,jK,bg,ey jF,<- fb];split<;>simp_all[cY]
  .exact h.elim
 .rename_i m e _ _ _ _ _ _ cs k sQ
  obtain⟨j,d,h1,h2,h3,_⟩:=bH sQ;have hd:=pH h3;subst hd;obtain⟨b,off,f,rfl,eU,qh⟩:=hx.toC.rp_inv;split at h
  .rename_i ie mc hl hh hm
   obtain⟨j',d',jF,nB,_,fb,_⟩:=bH mc;obtain⟨ko,h⟩:=h;have e1:lo.map a.eval=none:=(by cases lo<;>simp_all);have e2:hi.map a.eval=none:=(by cases hi<;>simp_all);have e3:mx.map a.eval=none:=(by cases mx<;>simp_all);have jK:=fc (P:=P) w jF;refine⟨_,.slice (some ⟨b,off+k,none⟩) m m,h,.ofC ?_,?_⟩
   .have j4:=qW (sz:=ie.size) m (cs.drop k)
    have aie:∀ i q,i<m->q<ie.size->k+i*ie.size+q<cs.length:=λi q hi hq=>by have:(i+1)*ie.size<=m*ie.size:=aO _ hi;rw[eB] at this;omega
    have jG:∀ x∈nL ie.size m (cs.drop k),x.length=ie.size:=λx hx=>by obtain⟨i,hi,he⟩:=iN.1 hx;have:=pJ (sz:=ie.size) m (cs.drop k) i (by omega);rw[ai hi] at this;simp only[ao] at this;rw[<- he,this];have hm':(i+1)*ie.size<=m*ie.size:=aO _ (by omega);rw[eB] at hm';simp;omega
    have:=CR.sl (I:=I) (w:=w) b (off+k) m ie.size (nL ie.size m (cs.drop k)) (λi q=>f (k+i*ie.size+q)) (by omega) jG
     (λi q hi hq=>by have:=eU (k+i*ie.size+q) (aie i q (by omega) hq);rw[show off+k+i*ie.size+q=off+(k+i*ie.size+q) by omega];exact this)
     (λi q e c he hc=>by
      have hi:i<m:=(by have:=(aj.1 he).1;omega);rw[pJ m _ i hi] at he;simp only[ao] at he;subst he;rw[cA] at hc;split at hc
      .rw[cK,cK] at hc
       exact qh _ c (by rw[dM];exact hc)
      .cases hc)
    rw[j4] at this;exact this
   .unfold Instr.sliceAt
    simp only[aK,aR h2,aw,Instr.sureAddr,bg,e1,e2,e3];have:=sb (P:=P) (w:=w) false m m none none 0 m (.inl ⟨rfl,rfl⟩) (.inl ⟨rfl,rfl⟩) (Int.le_refl _) (by omega) (Int.le_refl _) (ab _);simp only[this,aw,jK,aK,bg];simp[cY]
  .exact h.elim
 .rename_i m e _ _ _ _ _ _ b k sQ
  obtain⟨j,d,h1,h2,h3,_⟩:=bH sQ;have hd:=pH h3;subst hd;simp only[LR] at hx;obtain⟨blk,hβ,rfl⟩:=hx;split at h
  .rename_i ie l hh mc hl OQ hm
   obtain⟨j',d',jF,nB,_,fb,_⟩:=bH mc;obtain⟨⟨h0,Ut,UJ⟩,h⟩:=h;have e3:mx.map a.eval=none:=(by cases mx<;>simp_all);have jK:=fc (P:=P) w jF;have hb:=sb (P:=P) (w:=w) false m m _ _ l hh (lJ hst hl) (lJ hst OQ) h0 Ut UJ (ab _);refine⟨_,.slice (some (if m=l.toNat then⟨blk,k,none⟩ else⟨blk,k+l.toNat*ie.size,none⟩)) (hh.toNat - l.toNat) (m - l.toNat),h,?_,?_⟩
   .simp only[LR]
    refine⟨by omega,?_⟩;split
    .exact⟨blk,k,_,ab _,hβ,.inl (by omega),rfl⟩
    .exact⟨blk,_,_,ab _,hβ,.inr rfl,rfl⟩
   .unfold Instr.sliceAt
    simp only[aK,aR h2,aw,Instr.sureAddr,bg,e3];simp only[hb,aw,jK,aK,bg,ey jF,<- fb];split<;>simp_all[cY]
  .exact h.elim
 .exact h.elim
end
section
variable {P:Program} {G:Gl} {tr:List Nat} {n:Nat} {I0:Ft} {M:Mx} {w0:World} {I:Ft} {β:Nat->Option Nat} {ob:Loc->Option Nat} {s:S} {a:Act} {w:World} {o:Oper}
 {next:Act->World->Prop} {Q:Exit->Act->World->Prop} {base:Nat->Prop} {v:Value} {x y:V} {K:V->Prop}
theorem xw:∀ (es:List (List C)) (l:List UInt8),xj es=some l->es.length=l.length/\
 ∃ ns:List Int,ns.length=l.length/\l=ns.map (λm=>UInt8.ofNat m.toNat)/\∀ (i:Nat) (m:Int),ns[i]?=some m->es[i]?=some [.lit (.int .u8 m)]
 |[],l,h=>by simp only[xj,ao] at h;subst h;exact⟨rfl,[],rfl,rfl,by simp⟩
 |e::es,l,h=>by
  unfold xj at h;split at h
  .cases ‹_::_=[]›
  .rename_i m r he
   cases he;simp only[aV] at h;obtain⟨l',h1,rfl⟩:=h;obtain⟨h2,ns,h3,h4,h5⟩:=xw _ _ h1;refine⟨by simp[h2],m::ns,by simp[h3],by simp[h4],λi q hq=>?_⟩;cases i with
   |zero=>simp at hq;subst hq;rfl
   |succ i=>exact h5 i q (by simpa using hq)
  .cases h
theorem sY:∀ (ns:List Int) (r:ByteArray),ns.foldl (λr m=>r.push (UInt8.ofNat m.toNat)) r=⟨r.data++(ns.map λm=>UInt8.ofNat m.toNat).toArray⟩
 |[],r=>by simp
 |m::ns,r=>by simp only[dT];rw[sY ns];simp[ByteArray.push]
theorem IU {src dst:TypeId} {vx:Value} (hst:St G n I0 M w0 I β ob s a w) (hd:∀ d,o.dst=some d->d<n) (h:jR P src dst x K) (hx:(∃ ox,LR (Wr M w0) I β w ox vx x)∨∃ es,x=.c (.sl es)/\RD I w vx es) :
 ∃ z u w',K z/\(convert src dst vx).run P w=.ok u w'/\SE G n I0 M w0 (s.after tr o z) (a.put o.dst u) w':=by
 unfold jR at h;split at h
 .rename_i i k _ _ _ _ _ _ k' m hi sQ
  obtain⟨j,d,_,h2,_⟩:=bH hi;obtain⟨j',d',_,nB,h3',_⟩:=bH sQ;have qy:=Bz h3';subst qy;obtain⟨ox,hx⟩:∃ ox,LR (Wr M w0) I β w ox vx _:=by
   rcases hx with hx | ⟨es,e,_⟩
   .exact hx
   .cases e
  rw[hx.lit];refine⟨_,_,w,h,?_,.fin0 hst hd (.ofLit rfl)⟩;simp[convert,aR h2,aR nB,Conv.intToInt]
 .rename_i i _ _ _ _ _ _ st hi sQ
  obtain⟨j,d,_,h2,_⟩:=bH hi;obtain⟨j',d',_,nB,h3',_⟩:=bH sQ;have qy:=pG h3';subst qy;obtain⟨ox,hx⟩:∃ ox,LR (Wr M w0) I β w ox vx _:=by
   rcases hx with hx | ⟨es,e,_⟩
   .exact hx
   .cases e
  rw[hx.lit];refine⟨_,_,w,h,?_,.fin0 hst hd (.ofLit rfl)⟩;simp[convert,aR h2,aR nB]
 .rename_i _ _ _ _ _ _ e _ _ _ _ _ _ st hi sQ
  obtain⟨j,d,_,h2,h3,_⟩:=bH hi;obtain⟨j',d',_,nB,h3',_⟩:=bH sQ;have qy:=dL h3';subst qy;have hds:=pG h3;subst hds;split at h
  .rename_i _ _ _ _ _ _ mc
   obtain⟨je,de,_,h2e,h3e,_⟩:=bH mc;have hde:=Bz h3e;subst hde;obtain⟨ox,hx⟩:∃ ox,LR (Wr M w0) I β w ox vx _:=by
    rcases hx with hx | ⟨es,e,_⟩
    .exact hx
    .cases e
   rw[hx.lit];have nZ:=(hst.drew).alloc (.cells (bytesRow st (grownCap w st.size 0 e)) e ((bytesRow st (grownCap w st.size 0 e)).size,(bytesRow st (grownCap w st.size 0 e)).size+1));have bM:=run_bytes_of_string (P:=P) w src dst e st h2 nB h2e;refine⟨_,_,_,h,bM,.fin0 nZ hd (.ofC ?_)⟩;have cj:(pa st).length=st.size:=(by simp[pa]);rw[show Value.slice (some ⟨w.heap.size,0,none⟩) st.size (grownCap w st.size 0 e)=.slice (some ⟨w.heap.size,0,none⟩) (pa st).length (grownCap w st.size 0 e) by rw[cj]];refine CR.row (sz:=1) (ga w.drew _) (by rw[cj];exact grownCap_ge w _ _ _) (by simp[pa]) (λq c hq=>?_) (λq _=>.inr rfl);have hq':q<st.size/\c=.lit (.int .u8 (st.data.toList.getD q 0).toNat):=by
    have:=mP (sz:=1) (pa st) (by simp[pa]) q 0 (by omega);rw[Nat.mul_one,eX] at this;rw[this] at hq;simp only[pa,bj] at hq;cases hb:st.data.toList[q]? with
    |none=>simp[hb] at hq
    |some b=>simp only[hb,cT,jr,bQ,ao] at hq;have bE:=(aj.1 hb).1;exact⟨by simpa using bE,by rw[<- hq];simp[List.getD,hb]⟩
   obtain⟨nC,rfl⟩:=hq';have aik:q<st.data.size:=nC;have fO:q<(bytesRow st (grownCap w st.size 0 e)).size:=(by simp[bytesRow];omega);refine⟨fO,?_⟩;have:(bytesRow st (grownCap w st.size 0 e)).getD q undef=.int .u8 (st.data.toList.getD q 0).toNat:=(by unfold bytesRow;rw[ak,fe (by simpa using aik),Array.getElem?_map,ax aik];have:st.data.toList.getD q 0=st.data[q]:=(by rw[aB,aQ,ax aik];rfl);rw[this];rfl);rw[this];exact .lit _ rfl
  .exact h.elim
 .rename_i e _ _ _ _ _ _ _ _ _ _ _ _ es hi sQ
  obtain⟨j,d,_,h2,h3,_⟩:=bH hi;obtain⟨j',d',_,nB,h3',_⟩:=bH sQ;have qy:=pG h3';subst qy;have hds:=dL h3;subst hds;split at h
  .rename_i _ _ _ _ _ _ mc
   obtain⟨je,de,_,h2e,h3e,_⟩:=bH mc;have hde:=Bz h3e;subst hde;split at h
   .rename_i l hl
    obtain⟨cj,ns,vX,rfl,hns⟩:=xw _ _ hl;have jq:RD I w vx es:=by
     rcases hx with⟨ox,hx⟩ | ⟨es',e,hrd⟩
     .exact .ofCR hx.toC
     .cases e;exact hrd
    refine⟨_,_,w,h,?_,.fin0 hst hd (.ofLit rfl)⟩;rcases jq with⟨⟨xa,xc,hv,qT⟩,rfl⟩ | ⟨b,off,cap,sz,f,hv,kX,hs,eU,qh⟩
    .subst hv
     have:ns=[]:=dx (by simp at cj;omega);subst this;rw[run_convert_bytes_string w src dst e xa 0 xc h2 h2e nB];cases xa<;>rfl
    .subst hv
     rw[run_convert_bytes_string w src dst e _ _ _ h2 h2e nB,run_bytesToString w ⟨b,off,none⟩ es.length cap ns ?_,sY]
     .simp
     .have eF:∀ e∈es,e.length=1:=by intro e he;obtain⟨i,hi⟩:=eA.1 he;have bE:=(aj.1 hi).1;have:ns[i]?=some ns[i]:=ai (by simp at cj;omega);rw[hns i _ this] at hi;cases hi;rfl
      have hfv:∀ i,i<es.length->w.cell? ⟨b,off+i,none⟩=some (.int .u8 (ns.getD i 0)):=(by intro i hi;have hn:ns[i]?=some ns[i]:=ai (by simp at cj;omega);have he:=hns i _ hn;have fO:sz=1:=(by rw[<- hs _ (aS he)];rfl);subst fO;have h1:=eU i 0 hi (by omega);have h2:=qh i 0 _ _ he rfl;have h3:f i 0=.int .u8 ns[i]:=h2.lit_eq;rw[Nat.mul_one,eX,h3] at h1;rw[h1];simp[List.getD,hn]);rw[run_loadCells w ⟨b,off,none⟩ es.length (λi=>.int .u8 (ns.getD i 0)) (λi hi=>by rw[cY];exact hfv i hi)];congr 2;apply fY;intro i;by_cases hi:i<ns.length
      .have:i<es.length:=by simp at cj;omega
       simp[hi,this]
      .have:¬ i<es.length:=by simp at cj;omega
       simp[hi,this]
   .exact h.elim
  .exact h.elim
 .exact h.elim
end
section
variable {P:Program} {G:Gl} {tr:List Nat} {n:Nat} {I0:Ft} {M:Mx} {w0:World} {I:Ft} {β:Nat->Option Nat} {ob:Loc->Option Nat} {s:S} {a:Act} {w:World} {o:Oper}
 {next:Act->World->Prop} {Q:Exit->Act->World->Prop} {base:Nat->Prop} {v:Value} {x y:V} {K:V->Prop}
def ArgsR (I:Ft) (w:World) (vs:List Value) (xs:List V):Prop:=vs.length=xs.length/\∀ (j:Nat) (x:V),xs[j]?=some x->DR I w (vs.getD j undef) x
theorem ArgsR.nil:ArgsR I w [] []:=⟨rfl,by simp⟩
theorem ArgsR.append {vs us:List Value} {xs ys:List V} (h:ArgsR I w vs xs) (h':ArgsR I w us ys):ArgsR I w (vs++us) (xs++ys):=by
 refine⟨by simp[h.1,h'.1],λj x hx=>?_⟩;have hl:=h.1;by_cases hj:j<xs.length
 .rw[aA hj] at hx
  have:=h.2 j x hx;rw[aB,aA (by omega)];rw[aB] at this;exact this
 .rw[aH (by omega)] at hx
  have:=h'.2 _ x hx;rw[aB,aH (by omega),hl];rw[aB] at this;exact this
theorem O8 (hst:St G n I0 M w0 I β ob s a w) {i off blk:Nat} {cs:List C} (h:AA s i=some cs) (hβ:β i=some blk) {Ic:Ft} (tp:∀ b o,I b o->Ic b o) (hb:∀ o,Ic blk o) :
 CR Ic w (.pointer (some ⟨blk,off,none⟩)) (.rp cs off):=by
 unfold AA at h;split at h
 .rename_i hi
  obtain⟨sN,cur,e1,e2,e3,e4,e5,e7⟩:=hst.bx i hi;obtain⟨T,e3,e6⟩:=e3.cells (zM h);rw[hβ] at e1;cases e1;have cj:cs.length=(s.bx i).length:=List.mapM_eq_some_length h;have:=CR.rp (I:=Ic) (w:=w) blk 0 off cs (λj=>cur.getD j undef) (λj hj=>by
   have hjc:j<cur.size:=(by omega);rw[aF];refine⟨?_,hb j⟩;rw[fj w blk j cur T.t T.fz e3];simp[ax hjc]) (λj c hc=>by
   obtain⟨vv,Iq,hvc⟩:=List.mapM_eq_some_get h j c hc;have iD:=e5 j;have:(s.bx i).getD j .un=vv:=(by simp[List.getD,Iq]);rw[this] at iD;cases vv<;>simp only[V.asC] at hvc<;>try cases hvc
   .exact iD.toC.mono λb o h=>⟨tp b o h,rfl⟩
   .exact iD.1.mono λb o h=>⟨tp b o h,rfl⟩)
  rw[aF] at this;exact this
 .cases h
theorem GG (hst:St G n I0 M w0 I β ob s a w) {c:C} (hx:PR I β w v x) (h:v7 s x=some c) {Ic:Ft} (tp:∀ b o,I b o->Ic b o)
 (hb:x.isBp=true->∀ i b o,β i=some b->Ic b o):CR Ic w v c:=by
 cases x<;>simp only[PR] at hx<;>simp only[v7] at h
 .cases h;exact hx.mono λb o h=>⟨tp b o h,rfl⟩
 .cases h;exact hx.2.1.mono λb o h=>⟨tp b o h,rfl⟩
 .obtain⟨blk,e1,rfl⟩:=hx
  simp only[aV] at h;obtain⟨cs,h1,rfl⟩:=h;exact O8 hst h1 e1 tp (λo=>hb rfl _ _ o e1)
 .exact GB hst h hx tp (λb o e=>hb rfl _ b o e)
 .cases h
 .cases h
 .cases h
theorem BC (hst:St G n I0 M w0 I β ob s a w) {ox:Option Nat} (hx:LR base I β w ox v x) (h:imm s x=some y) {Ic:Ft} (tp:∀ b o,I b o->Ic b o)
 (hb:x.boxy=true->∀ i b o,β i=some b->Ic b o):DR Ic w v y:=by
 cases x<;>simp only[imm] at h<;>try cases h
 .exact .c _ _ (hx.toC.mono λb o h=>⟨tp b o h,rfl⟩)
 .obtain⟨vs,rfl,h1,h2⟩:=hx.agg
  exact .agg vs _ h1 λj c hc=>(h2 j c hc).mono λb o h=>⟨tp b o h,rfl⟩
 .exact .c _ _ (hx.1.mono λb o h=>⟨tp b o h,rfl⟩)
 .simp only[LR] at hx
  obtain⟨blk,e1,rfl⟩:=hx;simp only[aV] at h;obtain⟨cs,h1,rfl⟩:=h;exact .c _ _ (O8 hst h1 e1 tp (λo=>hb rfl _ _ o e1))
 .rename_i f fs cs
  simp only[LR] at hx;obtain⟨vf,vc,rfl,h1,h2,h3,h4⟩:=hx;split at h
  .rename_i fs' cs' e1 e2
   cases h;have l1:=List.mapM_eq_some_length e1;have l2:=List.mapM_eq_some_length e2;have hbf:∀ z∈fs,z.isBp=true->∀ i b o,β i=some b->Ic b o:=λz hz hzb=>
    hb (by simp only[V.boxy,fu,eJ];exact .inl ⟨z,hz,hzb⟩)
   have hbc:∀ z∈cs,z.isBp=true->∀ i b o,β i=some b->Ic b o:=λz hz hzb=>
    hb (by simp only[V.boxy,fu,eJ];exact .inr ⟨z,hz,hzb⟩)
   refine .c _ _ (.fn f vf vc fs' cs' (by omega) (by omega) (λj c hc=>?_) (λj c hc=>?_))
   .obtain⟨z,hz,sM⟩:=List.mapM_eq_some_get e1 j c hc
    exact GG hst (h3 j z hz) sM tp (hbf z (aS hz))
   .obtain⟨z,hz,sM⟩:=List.mapM_eq_some_get e2 j c hc
    exact GG hst (h4 j z hz) sM tp (hbc z (aS hz))
  .cases h
 .simp only[LR] at hx
  simp only[aV] at h;obtain⟨c,h1,rfl⟩:=h;exact .c _ _ (GB hst h1 hx tp (λb o e=>hb rfl _ b o e))
 .rename_i vs
  simp only[LR] at hx;obtain⟨cells,rfl,h2,h3⟩:=hx;simp only[aV] at h;obtain⟨cs,h1,rfl⟩:=h;refine .agg _ _ (by rw[h2];exact(List.mapM_eq_some_length h1).symm) λj c hc=>?_;obtain⟨z,hz,sM⟩:=List.mapM_eq_some_get h1 j c hc;exact GG hst (h3 j z hz) sM tp (λhzb=>hb (by simp only[V.boxy,eJ];exact⟨z,aS hz,hzb⟩))
theorem GH (hst:St G n I0 M w0 I β ob s a w) {Ic:Ft} (tp:∀ b o,I b o->Ic b o):∀ (l:List Operand) (ys:List V),(l.map (ev G s)).mapM (imm s)=some ys->
 ((l.map (ev G s)).any V.boxy=true->∀ i b o,β i=some b->Ic b o)->ArgsR Ic w (l.map a.eval) ys
 |[],ys,h,_=>by simp at h;subst h;exact .nil
 |x::l,ys,h,hb=>by
  simp only[bA,gb,bind,iS,pure,ao] at h;obtain⟨y,h1,ys',h2,rfl⟩:=h;have hd:=BC hst (bP hst x) h1 tp (λhx=>hb (by simp[hx]));have ih:=GH hst tp l ys' h2 (λhx=>hb (by simp only[bA,List.any_cons,hx,jX]));refine⟨by simp[ih.1],λj z hz=>?_⟩;cases j with
  |zero=>simp at hz;subst hz;exact hd
  |succ j=>simpa using ih.2 j z (by simpa using hz)
theorem ArgsR.ofC {I':Ft} (vs:Array Value) (cs:List C) (h:vs.size=cs.length) (hc:∀ j c,cs[j]?=some c->CR I' w (vs.getD j undef) c):ArgsR I' w vs.toList (cs.map .c):=by refine⟨by simp[h],λj x hx=>?_⟩;simp only[bj,aV] at hx;obtain⟨c,h1,rfl⟩:=hx;have:=hc j c h1;rw[aB,aQ];rw[ak] at this;exact .c _ _ this
theorem O9 (hst:St G n I0 M w0 I β ob s a w) {Ic:Ft} (tp:∀ b o,I b o->Ic b o) (vs:Array Value) (xs ys:List V) (hl:vs.size=xs.length) (h:xs.mapM (imm s)=some ys)
 (hr:∀ j x,xs[j]?=some x->PR I β w (vs.getD j undef) x) (hb:xs.any V.boxy=true->∀ i b o,β i=some b->Ic b o):ArgsR Ic w vs.toList ys:=by
 refine⟨by have:=List.mapM_eq_some_length h;simp;omega,λj y hy=>?_⟩;obtain⟨x,hx,hxy⟩:=List.mapM_eq_some_get h j y hy;have hp:=hr j x hx;rw[aB,aQ,<- ak];have iD:LR (Wr M w0) I β w none (vs.getD j undef) x:=by
  cases x<;>simp only[PR] at hp<;>simp only[LR]
  .exact .c _ _ hp
  .exact⟨hp.2.1,.inl ⟨rfl,hp.1,hp.2.2⟩⟩
  .exact hp
  .exact hp
  .exact hp
  .exact hp
  .exact hp
 exact BC hst iD hxy tp (λyI=>hb (by simp only[eJ];exact⟨x,aS hx,yI⟩))
theorem LR.flat {r:V} {ob':Option Nat} (hf:r.isFlat=true) (h:LR base I β w ob' v r) {I':Ft} {w':World} {base':Nat->Prop} {β':Nat->Option Nat}:LR base' I' β' w' none v r:=by
 have lits:∀ (cs:List C) (vs:Array Value),cs.all C.isLit=true->(∀ j c,cs[j]?=some c->CR I w (vs.getD j undef) c)->∀ j c,cs[j]?=some c->CR I' w' (vs.getD j undef) c:=by intro cs vs hc h j c hj;have h1:=h j c hj;have h2:=aY.1 hc c (aS hj);cases c<;>simp[C.isLit] at h2;obtain⟨h3,h4⟩:=h1.lit_inv;rw[h3];exact .lit _ h4
 cases r with
 |un=>simp only[LR];exact .un _
 |sk=>simp only[LR] at h ⊢;cases h;exact .sk
 |c c=>
  cases c<;>simp only[V.isFlat] at hf<;>try cases hf
  obtain⟨h3,h4⟩:=h.toC.lit_inv;rw[h3];exact .ofLit h4
 |agg cs=>obtain⟨vs,rfl,h1,h2⟩:=h.agg;simp only[LR];exact .agg vs _ h1 (lits _ vs hf h2)
 |tup ds=>
  simp only[LR] at h ⊢
  cases h with
  |tup vs _ h1 h2=>
   refine .tup vs ds h1 λj d hj=>?_;have h3:=h2 j d hj;have h4:=aY.1 hf d (aS hj);cases d with
   |c c=>
    cases c<;>simp only at h4<;>try cases h4
    generalize vs.getD j undef=vv at h3;cases h3 with
    |c _ _ h5=>obtain⟨h6,h7⟩:=h5.lit_inv;rw[h6];exact .c _ _ (.lit _ h7)
   |agg cs=>
    generalize vs.getD j undef=vv at h3;cases h3 with
    |agg us _ h5 h6=>exact .agg us _ h5 (lits _ us h4 h6)
   |_=>cases h4
 |ow=>cases hf
 |bp=>cases hf
 |clo=>cases hf
 |ms=>cases hf
 |mag=>cases hf
 |mr=>cases hf
 |mk=>cases hf
 |it=>cases hf
 |gh=>cases hf
 |yl=>cases hf
 |lp=>cases hf
 |hh=>cases hf
 |bm=>cases hf
 |gs=>cases hf
 |gg=>cases hf
theorem Pe (hst:St G n I0 M w0 I β ob s a w) (hd:∀ d,o.dst=some d->d<n) {f:FuncId} {vs:List Value} {xs:List V} {r:V} (eH:FnOK P G f xs r) (hr:K r)
 (boxy:Bool) (dN:∀ Ic:Ft,(∀ b o,I b o->Ic b o)->(boxy=true->∀ i b o,β i=some b->Ic b o)->ArgsR Ic w vs xs) (Au:boxy=true->r.isFlat=true)
 (bM:(execOp a.eval o).run P w=.ok (.enter f vs.toArray) w)
 (hk:∀ a' w' x,K x->SE G n I0 M w0 (s.after tr o x) a' w'->next a' w'):o.wp P a w next Q:=by
 unfold Oper.wp;rw[bM];simp only[Oper.upon];cases boxy with
 |false=>
  obtain⟨h1,h2⟩:=dN I (λ_ _ h=>h) (by simp);refine (eH.2 I w vs.toArray hst.ibnd hst.glob (by simpa using h1) (λj x hx=>by simpa using h2 j x hx)).mono ?_;rintro e w' ⟨v,I',rfl,hg,Uu,Qw,ob',iD,sO⟩;simp only;refine hk _ _ r hr ?_;have cO:=hst.grow hg Uu Qw;refine .fin cO hd (o':=ob') ?_ λb hb=>?_
  .cases r<;>simp only[LR] at iD ⊢<;>try exact iD
   .obtain⟨h3,h4⟩:=iD
    refine⟨h3,?_⟩;rcases h4 with h4 | ⟨e,blk,cap,cur,sz,q1,q2,q3,q4,q5⟩
    .exact .inl h4
    .exact .inr ⟨e,blk,cap,cur,sz,q1,q2,q3,.inl (b9 hst.below.size q4),q5⟩
   .obtain⟨_,h3,_⟩:=iD;cases h3
   rotate_left
   .obtain⟨_,_,_,_,_,h3,_⟩:=iD;cases h3
   .obtain⟨cs,q1,q2,q3⟩:=iD
    exact⟨cs,q1,q2,λj x hx=>(q3 j x hx).mono (λb o h=>⟨h,rfl⟩) (by simp)⟩
   .obtain⟨_,h3,_⟩:=iD;cases h3
   .obtain⟨_,_,_,_,h3,_⟩:=iD;cases h3
   .obtain⟨h3,h4⟩:=iD
    refine⟨h3,?_⟩;rcases h4 with h4 | ⟨e,blk,cap,cur,sz,q1,q2,q3,q4,q5⟩
    .exact .inl h4
    .exact .inr ⟨e,blk,cap,cur,sz,q1,q2,q3,.inl (b9 hst.below.size q4),q5⟩
   .obtain⟨_,h3,_⟩:=iD;cases h3
   .obtain⟨tm,q1,q2⟩:=iD
    exact⟨tm,q1,λt x hx=>(q2 t x hx).mono (λb o h=>⟨h,rfl⟩) (by simp)⟩
   .obtain⟨h3,e,blk,cap,cur,sz,q1,q2,q3,q4,q5⟩:=iD
    exact⟨h3,e,blk,cap,cur,sz,q1,q2,q3,.inl (b9 hst.below.size q4),q5⟩
   .obtain⟨h3,h4⟩:=iD
    refine⟨h3,?_⟩;rcases h4 with h4 | ⟨e,blk,cap,cur,sz,q1,q2,q3,q4,q5⟩
    .exact .inl h4
    .exact .inr ⟨e,blk,cap,cur,sz,q1,q2,q3,.inl (b9 hst.below.size q4),q5⟩
   .rcases iD with h4 | ⟨e,blk,cap,cur,sz,q1,q2,q3,q4,q5⟩
    .exact .inl h4
    .exact .inr ⟨e,blk,cap,cur,sz,q1,q2,q3,.inl (b9 hst.below.size q4),q5⟩
   .obtain⟨_,h3,_⟩:=iD;cases h3
   .obtain⟨vf,vc,q1,q2,q3,q4,q5⟩:=iD
    exact⟨vf,vc,q1,q2,q3,λj x hx=>(q4 j x hx).mono (λb o h=>⟨h,rfl⟩) (by simp),λj x hx=>(q5 j x hx).mono (λb o h=>⟨h,rfl⟩) (by simp)⟩
  .obtain⟨h3,h4⟩:=sO b hb
   obtain⟨f1,f2⟩:=hst.fresh h3;exact⟨⟨h4,.inl (b9 hst.below.size h3)⟩,f2,λL hL=>absurd hL (f1 L)⟩
 |true=>
  have oJ:∀ i b,β i=some b->b<w.heap.size:=λi b hi=>by
   by_cases h:i<s.nb
   .obtain⟨blk,cur,e1,_,e3,_⟩:=hst.bx i h
    rw[hi] at e1;cases e1;exact e3.lt
   .rw[hst.bnone i (by omega)] at hi;cases hi
  obtain⟨h1,h2⟩:=dN (λb o=>I b o∨∃ i,β i=some b) (λ_ _ h=>.inl h) (λ_ i b o hi=>.inr ⟨i,hi⟩);refine (eH.2 (λb o=>I b o∨∃ i,β i=some b) w vs.toArray (λb o hb=>by
   rcases hb with hb | ⟨i,hi⟩
   .exact hst.ibnd b o hb
   .exact oJ i b hi) (λg cs hg=>(hst.glob g cs hg).mono λb o h=>⟨.inl h,rfl⟩) (by simpa using h1) (λj x hx=>by simpa using h2 j x hx)).mono ?_
  rintro e w' ⟨v,I',rfl,hg,Uu,Qw,ob',iD,sO⟩;simp only;refine hk _ _ r hr ?_;have cO:=hst.grow hg (λ_ _ h=>h) (λ_ _ h=>.inl h);exact .fin0 cO hd (iD.flat (Au rfl))
theorem rC {f:Operand} {args:Array Operand} {ts:Array TypeId} (ho:o.op=.call { callee:=.value f,args:=args,argTypes:=ts }) {g:FuncId} {vf vc:Array Value} (hf:a.eval f=.func (.func g) vf vc)
 {fn:Func} {c:Code} (h1:P.funcs[g]?=some fn) (h2:(fn.name== "runtime.NumGoroutine")=false) (h3:fn.body=some c) :
 (execOp a.eval o).run P w=.ok (.enter g (vf++args.map a.eval++vc)) w:=by
 unfold execOp;simp only[ho,resolve,Deferred.ofValue,hf,aK,bg,aw,invoke];have nB:fn.name≠ "runtime.NumGoroutine" :=by simpa using h2
 simp[callFunc,h1,nB,h3]
theorem IV {f:Operand} {args:Array Operand} {ts:Array TypeId} (ho:o.op=.call { callee:=.value f,args:=args,argTypes:=ts }) (hst:St G n I0 M w0 I β ob s a w) (hd:∀ d,o.dst=some d->d<n)
 (h:rq P G s (ev G s f) (args.toList.map (ev G s)) K) (hk:∀ a' w' x,K x->SE G n I0 M w0 (s.after tr o x) a' w'->next a' w'):o.wp P a w next Q:=by
 have hf:=bP hst f;unfold rq at h;split at h
 .rename_i g fs cs he
  rw[he] at hf;split at h
  .rename_i as has
   obtain⟨r,eH,Au,hr⟩:=h;obtain⟨vf,vc,hv,q1,q2,q3,q4⟩:=hf.toC.fn_inv;obtain⟨fn,h1,h2,c,h3⟩:=eH.1;have bM:=rC (P:=P) (w:=w) ho hv h1 h2 h3;refine Pe hst hd eH hr ((args.toList.map (ev G s)).any V.boxy) (vs:=vf.toList++args.toList.map a.eval++vc.toList) (λIc tp hb=>?_) Au ?_ hk
   .exact((ArgsR.ofC vf fs q1 λj c hc=>(q3 j c hc).mono λb o h=>⟨tp b o h,rfl⟩).append (GH hst tp _ as has hb)).append
     (ArgsR.ofC vc cs q2 λj c hc=>(q4 j c hc).mono λb o h=>⟨tp b o h,rfl⟩)
   .rw[bM];congr 2;apply dB;simp
  .exact h.elim
 .rename_i g fs cs he
  rw[he] at hf;simp only[LR] at hf;obtain⟨vf,vc,hv,q1,q2,q3,q4⟩:=hf;split at h
  .rename_i fs' as cs' e1 e2 e3
   obtain⟨r,eH,Au,hr⟩:=h;obtain⟨fn,h1,h2,c,h3⟩:=eH.1;have bM:=rC (P:=P) (w:=w) ho hv h1 h2 h3;refine Pe hst hd eH hr ((fs++args.toList.map (ev G s)++cs).any V.boxy) (vs:=vf.toList++args.toList.map a.eval++vc.toList) (λIc tp hb=>?_) Au ?_ hk
   .exact((O9 hst tp vf fs fs' q1 e1 q3 λhx=>hb (by simp only[List.any_append,hx,Bool.true_or])).append
     (GH hst tp _ as e2 λhx=>hb (by simp only[List.any_append,hx,Bool.true_or,jX]))).append
     (O9 hst tp vc cs cs' q2 e3 q4 λhx=>hb (by simp only[List.any_append,hx,jX]))
   .rw[bM];congr 2;apply dB;simp
  .exact h.elim
 .exact h.elim
theorem BD {mx:Bool} {args:Array Operand} (hst:St G n I0 M w0 I β ob s a w) (h:Br mx (args.toList.map (ev G s)) K) :
 ∃ u,flat u=true/\K (.c (.lit u))/\(if mx then Builtin.max_ #[] 0 (args.map a.eval) else Builtin.min_ #[] 0 (args.map a.eval)).run P w=.ok u w:=by
 unfold Br at h;split at h
 .rename_i k p k' q dN
  obtain⟨X,l,hX,hXv,hl⟩:∃ X l,args.toList=X::l/\ev G s X=.c (.lit (.int k p))/\l.map (ev G s)=[.c (.lit (.int k' q))]:=by
   cases ha:args.toList with
   |nil=>simp[ha] at dN
   |cons X l=>simp only[ha,bA,cN] at dN;exact⟨X,l,rfl,dN.1,dN.2⟩
  obtain⟨Y,rfl,hYv⟩:∃ Y,l=[Y]/\ev G s Y=.c (.lit (.int k' q)):=by
   cases l with
   |nil=>simp at hl
   |cons Y l'=>simp only[bA,cN,eY] at hl;exact⟨Y,by rw[hl.2],hl.1⟩
  have e1:a.eval X=.int k p:=by have:=bP hst X;rw[hXv] at this;exact this.lit
  have e2:a.eval Y=.int k' q:=by have:=bP hst Y;rw[hYv] at this;exact this.lit
  refine⟨_,rfl,h,?_⟩;cases mx
  .simp[Builtin.min_,hX,e1,e2,Builtin.min2]
  .simp[Builtin.max_,hX,e1,e2,Builtin.max2]
 .exact h.elim
end
section
variable {P:Program} {I:Ft} {w:World}
theorem U8 {k:EK} {c d:C} (h:eqC k c d=some true):∃ v,c=.lit v/\d=.lit v/\(∀ m,Instr.sameBits m v v=true):=by
 cases k with
 |int=>
  obtain⟨k,a,b,rfl,rfl,hr⟩:=Gs h;have:a=b:=by simpa using hr.symm
  subst this;exact⟨_,rfl,rfl,λm=>by cases m<;>simp[Instr.sameBits]⟩
 |bool=>
  obtain⟨a,b,rfl,rfl,hr⟩:=BA h;have:a=b:=by simpa using hr.symm
  subst this;exact⟨_,rfl,rfl,λm=>by cases m<;>simp[Instr.sameBits]⟩
 |str=>
  obtain⟨a,b,rfl,rfl,hr⟩:=Gt h;have:a=b:=by simpa using hr.symm
  subst this;exact⟨_,rfl,rfl,λm=>by cases m<;>simp[Instr.sameBits,yL]⟩
theorem EO:∀ {ks:List EK} {cs ds:List C},iG ks cs ds=some true->cs.length=ks.length->ds.length=ks.length->
 cs=ds/\∀ c∈cs,∃ v,c=.lit v/\∀ m,Instr.sameBits m v v=true
 |[],cs,ds,_,h1,h2=>by simp at h1 h2;subst h1;subst h2;simp
 |k::ks,[],ds,h,h1,h2=>by simp at h1
 |k::ks,c::cs,[],h,h1,h2=>by simp at h2
 |k::ks,c::cs,d::ds,h,h1,h2=>by
  simp only[iG] at h;split at h
  .rename_i p q e1 e2
   simp only[ao,aW] at h;obtain⟨rfl,rfl⟩:=h;obtain⟨v,rfl,rfl,hv⟩:=U8 e1;obtain⟨rfl,h4⟩:=EO e2 (by simpa using h1) (by simpa using h2);exact⟨rfl,λc hc=>by
    rcases aP.1 hc with rfl | hc
    .exact⟨v,rfl,hv⟩
    .exact h4 c hc⟩
  .cases h
theorem MM {xs ys:Array Value} {cs:List C} (hx:Cells I w xs cs) (hy:Cells I w ys cs) (hl:∀ c∈cs,∃ v,c=.lit v/\∀ m,Instr.sameBits m v v=true) :
 xs=ys/\∀ v∈xs.toList,∀ m,Instr.sameBits m v v=true:=by
 have each:∀ j,j<cs.length->∃ v,xs[j]?=some v/\ys[j]?=some v/\∀ m,Instr.sameBits m v v=true:=λj hj=>by obtain⟨v,hv,hs⟩:=hl cs[j] (bR hj);have h1:=hx.2 j _ (ai hj);have h2:=hy.2 j _ (ai hj);rw[hv] at h1 h2;exact⟨v,O5 h1.lit_eq (by rw[hx.1];exact hj),O5 h2.lit_eq (by rw[hy.1];exact hj),hs⟩
 refine⟨?_,λv hv m=>?_⟩
 .apply nc (by rw[hx.1,hy.1])
  intro j h1 h2;obtain⟨v,e1,e2,_⟩:=each j (by rw[<- hx.1];exact h1);rw[ax h1] at e1;rw[ax h2] at e2;rw[eI e1,eI e2]
 .obtain⟨j,hj,rfl⟩:=gQ hv
  obtain⟨v,e1,_,hs⟩:=each j (by rw[<- hx.1];simpa using hj);simp only[b8] at hj;rw[ax hj] at e1;simp only[Array.getElem_toList];rw[eI e1];exact hs m
theorem GI {t:TypeId} {xs:Array Value} (h:∀ v∈xs.toList,∀ m,Instr.sameBits m v v=true) (h1:dh P t=false->0<xs.size) (m:Nat) :
 Instr.sameBits (m+1) (mkv P t xs) (mkv P t xs)=true:=by
 unfold mkv;cases hz:dh P t with
 |false=>simp only[aM,df];have:=h1 hz;simp only[Array.getD,this,dif_pos];exact h _ (by simp) _
 |true=>
  simp only[cZ];have:∀ l:List Value,(∀ v∈l,∀ m,Instr.sameBits m v v=true)->(l.zip l).all (λ(x:Value×Value)=>Instr.sameBits m x.1 x.2)=true:=by
   intro l hl;rw[aY];intro x hx;have:x.1=x.2/\x.1∈l:=by
    have h2:l.zip l=l.map λa=>(a,a):=by
     clear hx hl;induction l with
     |nil=>rfl
     |cons a l ih=>simp[ih]
    rw[h2] at hx;obtain⟨a,ha,rfl⟩:=bU.1 hx;exact⟨rfl,ha⟩
   rw[<- this.1];exact hl _ this.2 m
  simp only[Instr.sameBits,BEq.rfl,ke];exact this _ h
theorem GK {t:TypeId} {xs ys:Array Value} {ks:List EK} {cs ds:List C} (hx:Cells I w xs cs) (hy:Cells I w ys ds) (he:iG ks cs ds=some true) (h1:cs.length=ks.length) (h2:ds.length=ks.length) (hz:dh P t=false->0<ks.length) :
 mkv P t xs=mkv P t ys/\(Instr.keyThatStays (mkv P t ys) (mkv P t xs)).run P w=.ok (mkv P t xs) w:=by
 obtain⟨rfl,hl⟩:=EO he h1 h2;obtain⟨rfl,hs⟩:=MM hx hy hl;refine⟨rfl,?_⟩;unfold Instr.keyThatStays;rw[GI hs (λh=>by rw[hx.1,h1];exact hz h) 9999];simp
theorem GL (em:Bool):∀ (d:Nat) (t:TypeId) (ks:List EK),eqk P d t=some ks->∀ (n:Nat) (xs:Array Value),xs.size=ks.length->
 (Instr.checkKey em (d+n) t (mkv P t xs)).run P w=.ok () w:=by
 intro d;induction d with
 |zero=>intro t ks h;simp[eqk] at h
 |succ d ih=>
  intro t ks h n xs tG;rw[show d+1+n=(d+n)+1 by omega];unfold eqk at h;split at h
  .rename_i k hu
   rw[Instr.checkKey];simp[aR hu,Result.andThen]
  .rename_i hu
   rw[Instr.checkKey];simp[aR hu,Result.andThen]
  .rename_i hu
   rw[Instr.checkKey];simp[aR hu,Result.andThen]
  .rename_i fs hu
   split at h
   .cases h
   .have kJ:dh P t=true:=by simp[dh,hu]
    simp only[mkv,kJ,cZ];rw[Instr.checkKey];simp only[aK,aR hu,aw];rw[<- Array.forIn_toList];have hh:∃ acc,D9 P (eqk P d) fs.toList acc=some ks:=⟨[],h⟩;clear h;generalize fs.toList=l at hh;induction l with
    |nil=>simp
    |cons f l ihl=>
     obtain⟨acc,h⟩:=hh;simp only[D9] at h;split at h
     .rename_i k1 AU
      split at h
      .rename_i hc
       obtain⟨hn,oW,cj⟩:=hc;obtain⟨rest,Qp⟩:=yM (P:=P) _ _ _ _ h;have fO:acc.length+k1.length<=ks.length:=(by rw[Qp];simp);obtain⟨u,hfu⟩:=pA AU;have kg:dh P f.type=false->P.cellsOf f.type=1:=λhz=>by rw[<- cj];exact uL AU hz
       have hpx:=rz (w:=w) f.type u hfu xs f.offset (by rw[oW,<- cj,tG];exact fO) kg;have p2:=ih f.type k1 AU n (xs.extract f.offset (f.offset+P.cellsOf f.type)) (by simp;omega);simp only[List.forIn_cons,aK,hn,ne_eq,not_false_eq_true,cZ,hpx,aw,p2,bg];exact ihl ⟨_,h⟩
      .cases h
     .cases h
  .rename_i m e hu
   split at h
   .rename_i k1 AU
    split at h
    .rename_i cj
     simp only[ao] at h;have kJ:dh P t=true:=(by simp[dh,hu]);obtain⟨u,heu⟩:=pA AU;obtain⟨i,hi⟩:=iy heu;simp only[mkv,kJ,cZ];rw[Instr.checkKey];simp only[aK,aR hu,aw];simp only[Std.Legacy.Range.forIn_eq_forIn_range',Std.Legacy.Range.size,Nat.sub_zero,Nat.add_one_sub_one,Nat.div_one];have aib:ks.length=m*k1.length:=(by rw[<- h];simp);have kg:dh P e=false->P.cellsOf e=1:=λhz=>by rw[<- cj];exact uL AU hz
     have gx:∀ j∈List.range' 0 m,j<m:=λj hj=>by simp at hj;exact hj
     generalize List.range' 0 m=is at gx;induction is with
     |nil=>simp
     |cons j is ihs=>have hj:=gx j (by simp);have fO:j*k1.length+k1.length<=ks.length:=(by rw[aib,<- eB];exact aO _ (by omega));have hpx:=rz (w:=w) e u heu xs (j*P.cellsOf e) (by rw[<- cj,tG];exact fO) kg;have p2:=ih e k1 AU n (xs.extract (j*P.cellsOf e) (j*P.cellsOf e+P.cellsOf e)) (by simp;rw[<- cj];omega);simp only[List.forIn_cons,aK,fc w hi,aw,hpx,p2,bg];exact ihs (λy hy=>gx y (by simp[hy]))
    .cases h
   .cases h
  .cases h
theorem IW {t:TypeId} {u:TypeDesc} {d:Nat} {ks:List EK} (hu:P.underlying t=some u) (hk:eqk P (d+1) t=some ks) (hz:dh P t=false) {xs ys:Array Value} {cs ds:List C} {r:Bool} (hx:Cells I w xs cs) (hy:Cells I w ys ds)
 (h1:cs.length=ks.length) (h2:ds.length=ks.length) (he:iG ks cs ds=some r):Instr.sameNow u (mkv P t xs) (mkv P t ys)=some r:=by
 have hl:=uL hk hz;obtain⟨k,rfl⟩:=gI.1 hl;obtain⟨c,rfl⟩:=gI.1 (h1.trans hl);obtain⟨e,rfl⟩:=gI.1 (h2.trans hl);have hr:eqC k c e=some r:=by
  simp only[iG] at he;split at he
  .rename_i p q e1 e2
   simp only[ao] at e2 he;subst e2;rw[e1];simpa using he
  .cases he
 have hcx:CR I w (mkv P t xs) c:=by simp only[mkv,hz];exact hx.2 0 c rfl
 have Zz:CR I w (mkv P t ys) e:=by simp only[mkv,hz];exact hy.2 0 e rfl
 unfold eqk at hk;split at hk
 .rename_i q Bn
  rw[hu] at Bn;cases Bn;simp only[ao,cN,gC] at hk;subst hk;obtain⟨kk,a,b,rfl,rfl,rfl⟩:=Gs hr;rw[hcx.lit_eq,Zz.lit_eq];simp[Instr.sameNow,Bool.beq_eq_decide_eq]
 .rename_i Bn
  rw[hu] at Bn;cases Bn;simp only[ao,cN,gC] at hk;subst hk;obtain⟨a,b,rfl,rfl,rfl⟩:=BA hr;rw[hcx.lit_eq,Zz.lit_eq];simp[Instr.sameNow]
 .rename_i Bn
  rw[hu] at Bn;cases Bn;simp only[ao,cN,gC] at hk;subst hk;obtain⟨a,b,rfl,rfl,rfl⟩:=Gt hr;rw[hcx.lit_eq,Zz.lit_eq];simp[Instr.sameNow,yL]
 .rename_i Bn;simp[dh,Bn] at hz
 .rename_i Bn;simp[dh,Bn] at hz
 .cases hk
theorem EP {t:TypeId} {ks:List EK} (hk:eqk P 8 t=some ks) {xs:Array Value} {cs:List C} (hx:Cells I w xs cs) (h1:cs.length=ks.length) :
 ∀ (es:List MapEntry) (kc:List (List C)) (i:Nat) (r:Option Nat),es.length=kc.length->(∀ (j:Nat) (e:MapEntry) (c:List C),es[j]?=some e->kc[j]?=some c->∃ ys,e.key=mkv P t ys/\Cells I w ys c)->
  nG ks cs kc i=some r->(if dh P t then(Instr.findAsking t (mkv P t xs) es i).run P w=.ok (r.map λj=>(j,((es[j - i]?).map (·.val)).getD undef)) w
   else Instr.findNow ((P.underlying t).getD .bool) (mkv P t xs) es i=some (r.map λj=>(j,((es[j - i]?).map (·.val)).getD undef)))/\∀ j,r=some j->i<=j
 |[],[],i,r,_,_,h=>by simp only[nG,ao] at h;subst h;refine⟨?_,by simp⟩;split<;>simp[Instr.findAsking,Instr.findNow]
 |[],_::_,_,_,h,_,_=>by simp at h
 |_::_,[],_,_,h,_,_=>by simp at h
 |e::es,c::kc,i,r,hl,px,h=>by
  simp only[nG] at h;split at h
  .rename_i h2
   obtain⟨ys,Iu,hy⟩:=px 0 e c rfl rfl;obtain⟨u,hu⟩:=pA hk;have step:∀ b,iG ks cs c=some b->(dh P t=true->(Op.equal t (mkv P t xs) e.key).run P w=.ok b w)/\(dh P t=false->Instr.sameNow u (mkv P t xs) e.key=some b):=λb hb=>by rw[Iu];exact⟨λ_=>EL (w:=w) 8 t ks hk 10000 (by omega) xs ys cs c b hx hy (by rw[hx.1,h1]) (by rw[hy.1,h2]) hb,λhz=>IW hu hk hz hx hy h1 h2 hb⟩
   split at h
   .rename_i hb
    simp only[ao] at h;subst h;obtain⟨s1,s2⟩:=step _ hb;refine⟨?_,λj hj=>by cases hj;exact ab _⟩;split
    .rename_i hz;simp[Instr.findAsking,s1 hz]
    .rename_i hz;simp[Instr.findNow,hu,s2 (by simpa using hz)]
   .rename_i hb
    obtain⟨s1,s2⟩:=step _ hb;obtain⟨q1,q2⟩:=EP hk hx h1 es kc (i+1) r (by simpa using hl) (λj e c h1 h2=>px (j+1) e c (by simpa using h1) (by simpa using h2)) h;have gx:(r.map λj=>(j,(((e::es)[j - i]?).map (·.val)).getD undef))=r.map λj=>(j,((es[j - (i+1)]?).map (·.val)).getD undef):=by
     cases r with
     |none=>rfl
     |some j=>have:=q2 j rfl;have e1:j - i=(j - (i+1))+1:=(by omega);simp[e1]
    refine⟨?_,λj hj=>by have:=q2 j hj;omega⟩;rw[gx];split
    .rename_i hz
     rw[if_pos hz] at q1;simpa[Instr.findAsking,s1 hz] using q1
    .rename_i hz
     rw[if_neg hz] at q1;simpa[Instr.findNow,hu,s2 (by simpa using hz)] using q1
   .cases h
  .cases h
theorem QO {t:TypeId} {ks:List EK} (hk:eqk P 8 t=some ks) {xs:Array Value} {cs:List C} (hx:Cells I w xs cs) (h1:cs.length=ks.length) {es:List MapEntry} {kc:List (List C)} {r:Option Nat} (hl:es.length=kc.length)
 (px:∀ (j:Nat) (e:MapEntry) (c:List C),es[j]?=some e->kc[j]?=some c->∃ ys,e.key=mkv P t ys/\Cells I w ys c) (h:nG ks cs kc 0=some r) :
 (Instr.findKey t (mkv P t xs) es).run P w=.ok (r.map λj=>(j,((es[j]?).map (·.val)).getD undef)) w:=by
 obtain⟨q,_⟩:=EP hk hx h1 es kc 0 r hl px h;obtain⟨u,hu⟩:=pA hk;cases hz:dh P t with
 |true=>rw[if_pos hz] at q;rw[run_findKey_eq w (by unfold dh at hz;rw[hu] at hz ⊢;cases u<;>simp_all)];simpa using q
 |false=>rw[if_neg (by simp[hz])] at q;simp only[hu,cV] at q;rw[MapKept.run_findKey hu q];simp
end
section
variable {P:Program} {G:Gl} {tr:List Nat} {n:Nat} {I0:Ft} {M:Mx} {w0:World} {I:Ft} {β:Nat->Option Nat} {ob:Loc->Option Nat} {s:S} {a:Act} {w:World} {o:Oper}
 {next:Act->World->Prop} {Q:Exit->Act->World->Prop} {base:Nat->Prop} {v:Value} {x y:V} {K:V->Prop}
theorem BE {d:TypeDesc} {k e:TypeId} (h:Vl.K.map k e=vq d):d=.map k e:=by cases d<;>simp_all[vq]
theorem BF {ag:Bool}:∀ {r:List V} {kcs:List (List C)},j6 ag r=some kcs->r.length=2*kcs.length/\∀ (j:Nat) (c:List C),kcs[j]?=some c->(r.getD (2*j) .un).kcs ag=some c
 |[],kcs,h=>by simp only[j6,ao] at h;subst h;exact⟨rfl,by simp⟩
 |[_],kcs,h=>by simp[j6] at h
 |k::v::r,kcs,h=>by
  simp only[j6] at h;split at h
  .rename_i q l h1 h2
   simp only[ao] at h;subst h;obtain⟨h3,h4⟩:=BF h2;refine⟨by simp[h3];omega,λj c hc=>?_⟩;cases j with
   |zero=>simp at hc;subst hc;exact h1
   |succ j=>rw[show 2*(j+1)=2*j+1+1 by omega];simp only[fB];exact h4 j c (by simpa using hc)
  .cases h
theorem BG {ks:List EK} {k:List C}:∀ {kcs:List (List C)} {i j:Nat},nG ks k kcs i=some (some j)->∃ q c,j=i+q/\kcs[q]?=some c/\c.length=ks.length/\iG ks k c=some true
 |[],i,j,h=>by simp[nG] at h
 |c::r,i,j,h=>by
  simp only[nG] at h;split at h
  .rename_i hl
   split at h
   .rename_i he
    simp only[ao] at h;subst h;exact⟨0,c,rfl,rfl,hl,he⟩
   .obtain⟨q,c',rfl,h2,h3,h4⟩:=BG h
    exact⟨q+1,c',by omega,by simpa using h2,h3,h4⟩
   .cases h
  .cases h
theorem sd:∀ (es:List MapEntry) (j:Nat) (e:MapEntry),es[j]?=some e->(lH es)[2*j]?=some e.key/\(lH es)[2*j+1]?=some e.val
 |[],j,e,h=>by simp at h
 |x::es,0,e,h=>by simp at h;subst h;exact⟨rfl,rfl⟩
 |x::es,j+1,e,h=>by obtain⟨h1,h2⟩:=sd es j e (by simpa using h);rw[show 2*(j+1)=2*j+1+1 by omega];simp only[lH,cB];exact⟨h1,h2⟩
theorem xx:∀ es:List MapEntry,(lH es).length=2*es.length
 |[]=>rfl
 |x::es=>by simp[lH,xx es];omega
theorem U9 {ag:Bool} {kt:TypeId} (kJ:ag=dh P kt) {ox:Option Nat} (h:LR base I β w ox v x) {c:List C} (hc:x.kcs ag=some c):∃ ys,v=mkv P kt ys/\Cells I w ys c:=by
 cases x<;>simp only[V.kcs] at hc<;>try cases hc
 .split at hc
  .cases hc
  .rename_i hf
   simp only[ao] at hc;subst hc;have hz:dh P kt=false:=(by rw[<- kJ];simpa using hf);refine⟨#[v],by simp[mkv,hz],rfl,λj c hc=>?_⟩;cases j with
   |zero=>simp at hc;subst hc;exact h.toC
   |succ j=>simp at hc
 .split at hc
  .rename_i ht
   simp only[ao] at hc;subst hc;have hz:dh P kt=true:=(by rw[<- kJ];exact ht);obtain⟨vs,rfl,h1,h2⟩:=h.agg;exact⟨vs,by simp[mkv,hz],h1,h2⟩
  .cases hc
theorem vN {ox:Option Nat} (h:LR base I β w ox v x):DR I w v x.dr:=by
 cases x<;>simp only[V.dr]<;>first | exact .un _ | skip
 .exact .c _ _ h.toC
 .simp only[LR] at h;exact h
 .exact .c _ _ h.1
theorem QP {et:TypeId} {e:TI} {z:V} (hi:ti P et=some e) (hz:oO e=some z) (ha:zaB P et=true):∃ zv,(zeroValue et).run P w=.ok zv w/\∀ (base:Nat->Prop) (β:Nat->Option Nat),LR base I β w none zv z:=by
 obtain⟨j,d,h1,h2,_,_,_,kJ,hze,_⟩:=bH hi;unfold zaB at ha;rw[h1] at ha;simp only at ha;unfold oO at hz;cases tg:j.zero with
 |none=>rw[tg] at ha;cases ha
 |some zv=>
  rw[tg] at ha hze;refine⟨zv,by simp[zeroValue,typeInfo,h1,tg],λbase β=>?_⟩;simp only at hze;split at hz
  .rename_i zc' OL sM
   simp only[ao] at hz;subst hz;rw[sM] at hze;rw[OL] at kJ;cases zv<;>simp only[<- kJ,kf,aM] at ha;rename_i cs;simp only[LR];refine .agg _ _ (by have:=List.mapM_eq_some_length hze.symm;simpa[Value.cells] using this.symm) λq c hc=>?_;obtain⟨u,hu,huc⟩:=List.mapM_eq_some_get hze.symm q c hc;have:cs.getD q undef=u:=(by simp only[Value.cells,aQ] at hu;simp[hu]);rw[this];exact O7 huc
  .rename_i c Il sM
   simp only[ao] at hz;subst hz;rw[sM] at hze;rw[Il] at kJ;have hl:=List.mapM_eq_some_length hze.symm;obtain⟨u,hu,huc⟩:=List.mapM_eq_some_get hze.symm 0 c rfl;have:zv=u:=(by cases zv<;>simp only[<- kJ,lT,aM] at ha<;>simpa[Value.cells] using hu);rw[this];exact .ofC (O7 huc)
  .cases hz
structure Va (P:Program) (I:Ft) (M:Mx) (w0:World) (β:Nat->Option Nat) (ob:Loc->Option Nat) (s:S) (w:World) (i:Nat) (bs:List Nat) (cl:Nat) (r:List V) (blk:Nat) (es:Array MapEntry):Prop where
 lt:i<s.nb
 bx:s.bx i=.mk bs cl::r
 bt:β i=some blk
 wr:Wr M w0 blk
 fr:∀ o,¬ I blk o
 heap:w.heap[blk]?=some (.map es cl)
 born:es.toList.map (·.born)=bs
 len:r.length=2*bs.length
 ent:∀ (j:Nat) (e:MapEntry),es.toList[j]?=some e->LR (Wr M w0) I β w (ob (.b i (2*j+1))) e.key (r.getD (2*j) .un)/\LR (Wr M w0) I β w (ob (.b i (2*j+2))) e.val (r.getD (2*j+1) .un)
theorem St.mapW (hst:St G n I0 M w0 I β ob s a w) {i blk cl:Nat} {bs:List Nat} {r:List V} (hi:i<s.nb) (hb:s.bx i=.mk bs cl::r) (hβ:β i=some blk):∃ es,Va P I M w0 β ob s w i bs cl r blk es:=by
 obtain⟨sN,cur,e1,e2,e3,e4,e5,e7⟩:=hst.bx i hi;rw[hβ] at e1;cases e1;have hm:qU (s.bx i)=some (.mp bs cl):=by rw[hb];rfl
 unfold HB at e3;rw[hm] at e3;obtain⟨es,q1,q2,q3,q4⟩:=e3;refine⟨es,hi,hb,hβ,e2,e7,q1,q2,by rw[hb,aC] at q4;omega,λj e he=>?_⟩;obtain⟨c1,c2⟩:=sd _ _ _ he;have g1:cur.getD (2*j+1) undef=e.key:=by rw[ak,<- aQ,q3];simp[c1]
 have g2:cur.getD (2*j+2) undef=e.val:=by rw[ak,<- aQ,q3,show 2*j+2=(2*j+1)+1 by omega];simp[c2]
 have l1:=e5 (2*j+1);have l2:=e5 (2*j+2);rw[g1,hb] at l1;rw[g2,hb,show 2*j+2=(2*j+1)+1 by omega] at l2;simp only[fB] at l1 l2;exact⟨l1,l2⟩
theorem wh {T:TypeId} {K:Nat->List Nat->Nat->List V->Option Nat->V->Prop} (h:gW P T s x y K) :
 ∃ i kt et tT tk te ks kc z bs cl r kcs res,ti P T=some tT/\tT.kd=.map kt et/\x=.mr i/\ti P kt=some tk/\tk.eqs=some ks/\ti P et=some te/\y.kcs tk.agg=some kc/\oO te=some z/\
  s.bx i=.mk bs cl::r/\j6 tk.agg r=some kcs/\nG ks kc kcs 0=some res/\(i<s.nb/\kc.length=ks.length/\iG ks kc kc=some true/\zaB P et=true)/\K i bs cl r res z:=by
 unfold gW at h;split at h
 .rename_i hT
  split at h
  .rename_i h2 h3
   split at h
   .rename_i h4 h5 h6
    split at h
    .rename_i h7
     split at h
     .rename_i h8
      exact⟨_,_,_,_,_,_,_,_,_,_,_,_,_,_,hT,rfl,rfl,h2,rfl,h3,h4,h5,h6,h7,h8,h.1,h.2⟩
     .exact h.elim
    .exact h.elim
   .exact h.elim
  .exact h.elim
 .exact h.elim
theorem aao {t:TypeId} {i:TI} {ks:List EK} (h:ti P t=some i) (hk:i.eqs=some ks):eqk P 8 t=some ks:=by
 obtain⟨_,_,_,_,_,_,_,_,_,_,he,_⟩:=bH h;rw[hk] at he;split at he
 .cases he
 .exact he.symm
theorem pf {T:TypeId} {K:Nat->List Nat->Nat->List V->Option Nat->V->Prop} {vx vy:Value} {ox oy:Option Nat} (hst:St G n I0 M w0 I β ob s a w) (h:gW P T s x y K)
 (hx:LR (Wr M w0) I β w ox vx x) (hy:LR (Wr M w0) I β w oy vy y) :
 ∃ i bs cl r res z blk kt et es zv,K i bs cl r res z/\x=.mr i/\vx=.map (some blk)/\Va P I M w0 β ob s w i bs cl r blk es/\P.underlying T=some (.map kt et)/\
  (∀ em,(Instr.checkKey em 10000 kt vy).run P w=.ok () w)/\
  (Instr.findKey kt vy es.toList).run P w=.ok (res.map λj=>(j,((es.toList[j]?).map (·.val)).getD undef)) w/\
  (∀ j,res=some j->∃ e,es.toList[j]?=some e/\e.key=vy/\(Instr.keyThatStays e.key vy).run P w=.ok vy w)/\
  (zeroValue et).run P w=.ok zv w/\LR (Wr M w0) I β w none zv z:=by
 obtain⟨i,kt,et,tT,tk,te,ks,kc,z,bs,cl,r,kcs,res,h1,h2,rfl,h3,h4,h5,h6,h7,h8,h9,h10,⟨c1,c2,c3,c4⟩,hK⟩:=wh h;obtain⟨_,d,_,hu,hkd,_⟩:=bH h1;rw[h2] at hkd;have hd:=BE hkd;subst hd;have hek:=aao h3 h4;have kJ:tk.agg=dh P kt:=by obtain⟨_,_,_,_,_,_,_,h,_⟩:=bH h3;exact h
 simp only[LR] at hx;obtain⟨blk,hβ,rfl⟩:=hx;obtain⟨es,hm⟩:=hst.mapW (P:=P) c1 h8 hβ;obtain⟨xs,rfl,tG⟩:=U9 (P:=P) kJ hy h6;obtain⟨zv,ZL,Uw⟩:=QP (I:=I) (w:=w) h5 h7 c4;obtain⟨k1,k2⟩:=BF h9;have OP:es.toList.length=bs.length:=by rw[<- hm.born,au]
 have LI:es.toList.length=kcs.length:=by have:=hm.len;omega
 have px:∀ (j:Nat) (e:MapEntry) (c:List C),es.toList[j]?=some e->kcs[j]?=some c->∃ ys,e.key=mkv P kt ys/\Cells I w ys c:=λj e c he hc=>
  U9 (P:=P) kJ (hm.ent j e he).1 (k2 j c hc)
 refine⟨i,bs,cl,r,res,z,blk,kt,et,es,zv,hK,rfl,rfl,hm,hu,λem=>?_,QO hek tG c2 LI px h10,λj hj=>?_,ZL,Uw _ _⟩
 .exact GL em 8 kt ks hek 9992 xs (by rw[tG.1];exact c2)
 .subst hj
  obtain⟨q,c,hq,hc,hl,he⟩:=BG h10;have bE:q<es.toList.length:=by rw[LI];exact(aj.1 hc).1
  have tz:es.toList[j]?=some es.toList[q]:=by rw[show j=q by omega];exact ai bE
  refine⟨_,tz,?_⟩;obtain⟨ys,Iu,uG⟩:=px j _ c tz (by rw[show j=q by omega];exact hc);have:=GK (P:=P) (t:=kt) tG uG he c2 hl (λhz=>by have:=uL hek hz;omega);rw[Iu];exact⟨this.1.symm,this.2⟩
theorem Eh {T:TypeId} {ok:Bool} {vx vy:Value} {ox oy:Option Nat} (hst:St G n I0 M w0 I β ob s a w) (h:fL P T s x y ok K)
 (hx:LR (Wr M w0) I β w ox vx x) (hy:LR (Wr M w0) I β w oy vy y) :
 ∃ z u,K z/\LR (Wr M w0) I β w none u z/\(Instr.lookup T vx vy ok).run P w=.ok u w:=by
 unfold fL at h;obtain⟨i,bs,cl,r,res,z,blk,kt,et,es,zv,hK,rfl,rfl,hm,hu,vJ,ED,vI,ZL,Uw⟩:=pf hst h hx hy;have hg:=fq (P:=P) hm.heap;cases res with
 |some j=>
  obtain⟨e,he,_,_⟩:=vI j rfl;have hv:=(hm.ent j e he).2;simp only[cT,he,cV] at ED;cases ok with
  |false=>simp only[aM,df] at hK;exact⟨_,e.val,hK,hv.fz none,by simp[Instr.lookup,aR hu,hg,vJ,ED,Result.andThen]⟩
  |true=>
   simp only[cZ] at hK;refine⟨_,.tuple #[e.val,.bool true],hK,?_,by simp[Instr.lookup,aR hu,hg,vJ,ED,Result.andThen]⟩;simp only[LR];refine .tup _ _ rfl λq d hd=>?_
   match q with
   |0=>simp at hd;subst hd;exact vN hv
   |1=>simp at hd;subst hd;exact .c _ _ (.lit _ rfl)
   |q+2=>simp at hd
 |none=>
  simp only[kZ] at ED;cases ok with
  |false=>simp only[aM,df] at hK;exact⟨_,zv,hK,Uw,by simp[Instr.lookup,aR hu,hg,vJ,ED,ZL,Result.andThen]⟩
  |true=>
   simp only[cZ] at hK;refine⟨_,.tuple #[zv,.bool false],hK,?_,by simp[Instr.lookup,aR hu,hg,vJ,ED,ZL,Result.andThen]⟩;simp only[LR];refine .tup _ _ rfl λq d hd=>?_
   match q with
   |0=>simp at hd;subst hd;exact vN Uw
   |1=>simp at hd;subst hd;exact .c _ _ (.lit _ rfl)
   |q+2=>simp at hd
theorem QQ {es:List MapEntry} {b j:Nat} (h:(es.map (·.born)).findIdx? (·==b)=some j):∃ e,es[j]?=some e/\es.find? (·.born==b)=some e:=by
 induction es generalizing j with
 |nil=>simp at h
 |cons e es ih=>
  simp only[bA,List.findIdx?_cons] at h;cases hb:(e.born==b) with
  |true=>rw[hb] at h;simp at h;subst h;exact⟨e,rfl,by simp[hb]⟩
  |false=>rw[hb] at h;simp only[aM,df,aV] at h;obtain⟨q,hq,rfl⟩:=h;obtain⟨e',h1,h2⟩:=ih hq;exact⟨e',by simpa using h1,by simp[hb,h2]⟩
theorem GM {vx:Value} {ox:Option Nat} (hst:St G n I0 M w0 I β ob s a w) (h:oR s x K) (hx:LR (Wr M w0) I β w ox vx x) :
 ∃ z u,K z/\LR (Wr M w0) I β w none u z/\(Instr.entry vx).run P w=.ok u w:=by
 unfold oR at h;split at h
 .rename_i i since stepped seen
  split at h
  .rename_i bs cl r b hb hl
   split at h
   .rename_i j hj
    obtain⟨⟨hi,rfl⟩,hK⟩:=h;simp only[LR] at hx;obtain⟨blk,m,_,_,hβ,rfl,hh,_⟩:=hx;obtain⟨es,hm⟩:=hst.mapW (P:=P) hi hb hβ;have ZI:=hj;rw[<- hm.born] at ZI;obtain⟨e,he,hf⟩:=QQ ZI;obtain⟨l1,l2⟩:=hm.ent j e he;have IC:es.find? (λx=>x.born==b)=some e:=(by rw[<- Array.find?_toList];exact hf);have hg:(getObj blk).run P w=.ok (.mapIter (some m) since seen.toArray cl) w:=(by simp[getObj,Sem.run,hh]);have Qs:=fq (P:=P) hm.heap;refine⟨_,.tuple #[e.key,e.val],hK,?_,?_⟩
    .simp only[LR]
     refine .tup _ _ rfl λq d hd=>?_
     match q with
     |0=>simp at hd;subst hd;exact vN l1
     |1=>simp at hd;subst hd;exact vN l2
     |q+2=>simp at hd
    .simp[Instr.entry,hg,Qs,IC,hl,Result.andThen]
   .exact h.elim
  .exact h.elim
 .exact h.elim
theorem GN {T:TypeId} {vx:Value} {ox:Option Nat} (hst:St G n I0 M w0 I β ob s a w) (hd:∀ d,o.dst=some d->d<n) (h:oP P T s x K) (hx:LR (Wr M w0) I β w ox vx x) :
 ∃ z u w',K z/\(Instr.range T vx).run P w=.ok u w'/\SE G n I0 M w0 (s.after tr o z) (a.put o.dst u) w':=by
 unfold oP at h;split at h
 .rename_i hT
  obtain⟨_,d,_,hu,hkd,_⟩:=bH hT;have qy:=BE hkd;subst qy;split at h
  .rename_i i bs cl r hb
   obtain⟨hi,hK⟩:=h;simp only[LR] at hx;obtain⟨blk,hβ,rfl⟩:=hx;obtain⟨es,hm⟩:=hst.mapW (P:=P) hi hb hβ;have hg:=fq (P:=P) hm.heap;have hs:=hst.allocOwn (.mapIter (some blk) cl #[] cl);have sO:=hst.fresh (ab _);refine⟨_,.pointer (some ⟨w.heap.size,0,none⟩),w.alloc (.mapIter (some blk) cl #[] cl),hK,by simp[Instr.range,aR hu,hg,Result.andThen],?_⟩;refine .fin hs hd (o':=some w.heap.size) ?_ λb hb=>?_
   .simp only[LR]
    exact⟨w.heap.size,blk,rfl,.inl hst.below.size,hβ,rfl,ga w _,λo ho=>by have:=hst.ibnd _ _ ho;omega⟩
   .cases hb
    refine⟨⟨by rw[en];omega,.inl hst.below.size⟩,sO.2,λL hL=>absurd hL (sO.1 L)⟩
  .exact h.elim
 .exact h.elim
theorem IX {T ty:TypeId} {vx:Value} {ox:Option Nat} (hst:St G n I0 M w0 I β ob s a w) (h:IF P s K [T] [x]) (hx:LR (Wr M w0) I β w ox vx x) :
 ∃ u,flat u=true/\K (.c (.lit u))/\(Builtin.len_ #[T] ty #[vx]).run P w=.ok u w:=by
 unfold IF at h;split at h
 .rename_i T' i vK rY
  simp only[cN,gC] at vK rY;subst vK;subst rY;split at h
  .rename_i hT hb
   obtain⟨_,d,_,hu,hkd,_⟩:=bH hT;have qy:=BE hkd;subst qy;obtain⟨hi,hK⟩:=h;simp only[LR] at hx;obtain⟨blk,hβ,rfl⟩:=hx;obtain⟨sN,cur,e1,e2,e3,e4,e5,e7⟩:=hst.bx i hi;rw[hβ] at e1;cases e1;unfold HB at e3;rw[hb] at e3;obtain⟨es,q1,q2,_⟩:=e3;have hg:=fq (P:=P) q1;refine⟨_,rfl,hK,?_⟩;have hl:=dJ List.length q2;rw[au,b8] at hl;simp[Builtin.len_,aR hu,hg,Result.andThen,goInt,hl]
  .exact h.elim
 .exact h.elim
end
section
variable {P:Program} {G:Gl} {tr:List Nat} {n:Nat} {I0:Ft} {M:Mx} {w0:World} {I:Ft} {β:Nat->Option Nat} {ob:Loc->Option Nat} {s:S} {a:Act} {w:World} {o:Oper}
 {next:Act->World->Prop} {Q:Exit->Act->World->Prop} {base:Nat->Prop} {v:Value} {x y:V}
theorem aeb (hst:St G n I0 M w0 I β ob s a w) (x:Operand):(∃ ox,LR (Wr M w0) I β w ox (a.eval x) (vw s (ev G s x)).fz)∨∃ es,(vw s (ev G s x)).fz=.c (.sl es)/\RD I w (a.eval x) es:=by
 have hx:=bP hst x;cases he:ev G s x with
 |ms i off len cap sz=>
  rw[he] at hx;simp only[LR] at hx;simp only[vw];cases hv:nF s i off len sz with
  |none=>left;exact⟨none,by simp only[V.fz,LR];exact .un _⟩
  |some c=>obtain⟨es,rfl,hrd⟩:=aan hst hv hx;right;exact⟨es,rfl,hrd⟩
 |_=>left;rw[he] at hx;exact⟨none,hx.fz none⟩
theorem IY (hst:St G n I0 M w0 I β ob s a w) (x:Operand) (ys:List (List C)) (h:(vw s (ev G s x)).fz=.c (.sl ys)):RD I w (a.eval x) ys:=by
 rcases aeb hst x with⟨ox,hx⟩ | ⟨es,he,hrd⟩
 .rw[h] at hx;exact .ofCR hx.toC
 .rw[h] at he;cases he;exact hrd
theorem aec {x:V} {E:Option (TypeId×Nat)} {es:List (List C)} (h:vw s x=.ow E es):x=.ow E es:=by
 cases x<;>simp only[vw] at h<;>try exact h
 split at h<;>cases h
theorem BH {K:V->Prop} {X Y:Operand} {t t' ty:TypeId} (hst:St G n I0 M w0 I β ob s a w) (hd:∀ d,o.dst=some d->d<n) (sP:cn tr o=(match X with | .tmp t=>some t | _=>none))
 (h:e9 P .append [t,t'] [vw s (ev G s X),vw s (ev G s Y)] K):∃ z u w',K z/\(Builtin.append_ #[t,t'] ty #[a.eval X,a.eval Y]).run P w=.ok u w'/\SE G n I0 M w0 (s.after tr o z) (a.put o.dst u) w':=by
 have key:∀ ys,dR P t (vw s (ev G s X)) ys K->(∀ ys' e,P.underlying t=some (.slice e)->∀ j,ti P e=some j->ys=.c (.sl ys')->(∀ x∈ys',x.length=j.size)->IQ P I w t' (a.eval Y) j.size ys')->
  ∃ z u w',K z/\(Builtin.append_ #[t,t'] ty #[a.eval X,a.eval Y]).run P w=.ok u w'/\SE G n I0 M w0 (s.after tr o z) (a.put o.dst u) w':=by
  intro ys h rl;have h':dR P t (ev G s X) ys K:=by
   cases hx:vw s (ev G s X) with
   |ow E es=>rw[hx] at h;rw[aec hx];exact h
   |_=>rw[hx] at h;simp[dR] at h
  exact Ee (tr:=tr) (U:=t') (ty:=ty) hst hd sP h' rl
 simp only[e9] at h;split at h
 .rename_i htt
  subst htt;exact key _ h λys' e hu j hj hy hl=>(IY hst Y ys' hy).src hu hl
 .unfold qA at h
  split at h
  .rename_i e _ _ _ _ _ _ _ _ _ _ _ _ st hi LL hy
   obtain⟨j1,d1,_,h2,h3,_⟩:=bH hi;have ZJ:=dL h3;subst ZJ;obtain⟨j2,d2,_,h22,h32,_⟩:=bH LL;have hd2:=pG h32;subst hd2;split at h
   .rename_i ie mc
    obtain⟨UK,h⟩:=h;have ane:ev G s Y=.c (.lit (.string st)):=by
     have:(vw s (ev G s Y)).fz=.c (.lit (.string st)):=hy;cases tj:ev G s Y<;>rw[tj] at this
     case hh g E es=>cases g<;>simp[vw,V.fz] at this
     case gs g E es=>cases g<;>simp[vw,V.fz] at this
     case ms i off len cap sz=>
      simp only[vw] at this;split at this
      .rename_i c hc
       simp only[V.fz,V.c.injEq] at this;subst this;unfold nF at hc;split at hc
       .split at hc<;>simp at hc
       .cases hc
      .simp[V.fz] at this
     all_goals simp_all[vw,V.fz]
    have hv:=bP hst Y;rw[ane] at hv;refine key _ h λys' e' hu j hj Ux hl=>?_;rw[h2] at hu;simp only[ao,TypeDesc.slice.injEq] at hu;subst hu;rw[mc] at hj;cases hj;simp only[V.c.injEq,C.sl.injEq] at Ux;subst Ux;rw[hv.lit,UK];exact aam h22
   .exact h.elim
  .exact h.elim
theorem St.unghost {t d:Tmp} {v:Value} {E:Option (TypeId×Nat)} {es:List (List C)} (hst:St G n I0 M w0 I β ob s a w) (L8:t≠d) (ht:s.fr t=.c (.ex v)) (Qv:s.fr d=.gh v E es) (ZK:d<n) (rn:t<n) :
 ∃ ob',St G n I0 M w0 I β ob' { s with fr:=up (up s.fr d .un) t (.ow E es) } a w:=by
 have hg:=hst.fr d;rw[Qv] at hg;simp only[LR] at hg;have hx:=hst.fr t;rw[ht] at hx;have hv:a.tmps.getD t undef=v:=by
  have:=hx.toC;generalize a.tmps.getD t undef=q at this;cases this with
  |ex _ h1 h2=>rfl
 have h1:=hst.put d ZK (v:=a.tmps.getD d undef) (x:=.un) (o:=none) (by simp only[LR];exact .un _) FreeOb.nothing;have h2:=h1.put t rn (v:=a.tmps.getD t undef) (x:=.ow E es) (o:=ob (.t d)) (by rw[hv];simp only[LR];exact hg) (λb hb=>by
  refine⟨hst.obnd _ b hb,λL hL=>?_,λi=>hst.obx _ b i hb⟩;simp only[upL] at hL;split at hL
  .cases hL
  .split at hL
   .cases hL
   .rename_i h3 h4
    exact h4 (hst.oinj _ _ b hL hb))
 have back:∀ (a:Act) (q:Tmp),q<a.tmps.size->a.put (some q) (a.tmps.getD q undef)=a:=λa q hq=>by
  have:a.tmps.set! q (a.tmps.getD q undef)=a.tmps:=by
   apply nc
   .simp[cx]
   .intro i h1 h2
    simp only[cx,gw h2];split
    .rename_i e;subst e;simp[Array.getD,h2]
    .rfl
  show(⟨a.tmps.set! q (a.tmps.getD q undef),a.defers⟩:Act)=a;rw[this]
 rw[back a d (by rw[hst.size];exact ZK),back a t (by rw[hst.size];exact rn)] at h2;exact⟨_,h2⟩
theorem St.unghostG {t d:Tmp} {v:Value} {E:Option (TypeId×Nat)} {es:List (List C)} (hst:St G n I0 M w0 I β ob s a w) (L8:t≠d) (ht:s.fr t=.c (.ex v)) (Qv:s.fr d=.gg v E es) (ZK:d<n) (rn:t<n) :
 ∃ ob',St G n I0 M w0 I β ob' { s with fr:=up (up s.fr d .un) t (.gs none E es) } a w:=by
 have hg:=hst.fr d;rw[Qv] at hg;simp only[LR] at hg;have hx:=hst.fr t;rw[ht] at hx;have hv:a.tmps.getD t undef=v:=by
  have:=hx.toC;generalize a.tmps.getD t undef=q at this;cases this with
  |ex _ h1 h2=>rfl
 have h1:=hst.put d ZK (v:=a.tmps.getD d undef) (x:=.un) (o:=none) (by simp only[LR];exact .un _) FreeOb.nothing;have h2:=h1.put t rn (v:=a.tmps.getD t undef) (x:=.gs none E es) (o:=ob (.t d)) (by rw[hv];simp only[LR];exact⟨(λ_ h=>by cases h),hg⟩) (λb hb=>by
  refine⟨hst.obnd _ b hb,λL hL=>?_,λi=>hst.obx _ b i hb⟩;simp only[upL] at hL;split at hL
  .cases hL
  .split at hL
   .cases hL
   .rename_i h3 h4
    exact h4 (hst.oinj _ _ b hL hb))
 have back:∀ (a:Act) (q:Tmp),q<a.tmps.size->a.put (some q) (a.tmps.getD q undef)=a:=λa q hq=>by
  have:a.tmps.set! q (a.tmps.getD q undef)=a.tmps:=by
   apply nc
   .simp[cx]
   .intro i h1 h2
    simp only[cx,gw h2];split
    .rename_i e;subst e;simp[Array.getD,h2]
    .rfl
  show(⟨a.tmps.set! q (a.tmps.getD q undef),a.defers⟩:Act)=a;rw[this]
 rw[back a d (by rw[hst.size];exact ZK),back a t (by rw[hst.size];exact rn)] at h2;exact⟨_,h2⟩
theorem yQ (hst:St G n I0 M w0 I β ob s a w) {t:Tmp} {v:Value} (ht:s.fr t=.c (.ex v)):a.tmps.getD t undef=v/\v.oneCell'=true/\v.cells=#[v]:=by
 have hx:=hst.fr t;rw[ht] at hx;have:=hx.toC;generalize a.tmps.getD t undef=q at this;cases this with
 |ex _ h1 h2=>exact⟨rfl,h1,h2⟩
theorem jw {q:Tmp} (hq:q<a.tmps.size):a.put (some q) (a.tmps.getD q undef)=a:=by
 have:a.tmps.set! q (a.tmps.getD q undef)=a.tmps:=by
  apply nc
  .simp[cx]
  .intro i h1 h2
   simp only[cx,gw h2];split
   .rename_i e;subst e;simp[Array.getD,h2]
   .rfl
 show(⟨a.tmps.set! q (a.tmps.getD q undef),a.defers⟩:Act)=a;rw[this]
theorem QR {K:V->Prop} {t d:Tmp} {y:Operand} {v:Value} {E:Option (TypeId×Nat)} {es:List (List C)} {ts:List TypeId} {ty:TypeId} (hst:St G n I0 M w0 I β ob s a w) (hd:∀ d,o.dst=some d->d<n) (sP:∀ t' y',[Operand.tmp t,y]=[.tmp t',y']->cn tr o=some t')
 (lP:o.dst=some d) (ht:s.fr t=.c (.ex v)) (Qv:s.fr d=.gg v E es) (L8:t≠d) (hyt:y≠.tmp t) (hyd:y≠.tmp d) (h:nH P ts E es (vw s (ev G s y)).fz K) :
 ∃ X Y t0 t',[Operand.tmp t,y]=[X,Y]/\ts=[t0,t']/\∃ z u w',K z/\(Builtin.append_ #[t0,t'] ty #[a.eval X,a.eval Y]).run P w=.ok u w'/\SE G n I0 M w0 (s.after tr o z) (a.put o.dst u) w':=by
 have qq:∃ q q',ts=[q,q']:=by
  unfold nH at h;split at h
  .exact⟨_,_,rfl⟩
  .exact h.elim
 obtain⟨q,q',rfl⟩:=qq;have hqq:q=q':=by simp only[nH] at h;exact h.1
 subst hqq;have ZK:d<n:=hd d lP;have rn:t<n:=by
  rcases bX t n with h' | h'
  .exact h'
  .exfalso
   obtain⟨e1,_,_⟩:=yQ hst ht;have e0:a.tmps.getD t undef=undef:=(by rw[ak,dc (by rw[hst.size];exact h')];rfl);have hg:=hst.fr d;rw[Qv] at hg;simp only[LR] at hg;rw[<- e1,e0] at hg;rcases hg with⟨_,_,_,_,h1⟩ | ⟨_,_,_,_,_,_,_,h1,_⟩<;>simp[undef] at h1
 obtain⟨ob',cO⟩:=hst.unghostG L8 ht Qv ZK rn;refine⟨_,_,q,q,rfl,rfl,?_⟩;obtain⟨z,u,w',hz,bM,I2,β2,ob2,n0⟩:=zP (tr:=tr) (o:=o) (T:=q) (U:=q) (t0:=t) (E:=E) (es:=es) (vy:=a.eval y) (ty:=ty) (K:=K) cO hd (sP t y rfl) (by simp only[cg]) h
  (λys' e hu j hj hy hl=>(IY hst y ys' hy).src hu hl)
 refine⟨z,u,w',hz,bM,?_⟩;obtain⟨e1,e2,e3⟩:=yQ hst ht;have fO:(a.put (some d) u).tmps.size=n:=by simp only[Act.put,cx,dy];exact hst.size
 have hgt:(a.put (some d) u).tmps.getD t undef=v:=by rw[<- e1];show(a.tmps.set! d u).getD t undef=_;simp[ak,cx,Array.getElem?_setIfInBounds,gZ L8]
 rw[lP] at n0 ⊢
 have dD:=n0.put t rn (v:=(a.put (some d) u).tmps.getD t undef) (x:=.c (.ex v)) (o:=none) (by rw[hgt];exact .ofC (.ex v e2 e3)) FreeOb.nothing;rw[jw (by rw[fO];exact rn)] at dD;have es:(S.after tr o { s with fr:=up (up s.fr d .un) t (.gs none E es) } z).put (some t) (.c (.ex v))=s.after tr o z:=by
  unfold S.after;rw[sP t y rfl,lP];have hu1:({ s with fr:=up (up s.fr d .un) t (.gs none E es) }:S).use (some t)=({ s with fr:=up (up s.fr d .un) t (.gs none E es) }:S).clr t:=by simp only[S.use,cg];rfl
  have hu2:s.use (some t)=s:=by simp only[S.use,ht];rfl
  rw[hu1,hu2];simp only[S.put,S.clr];congr 1;funext r;simp only[up];by_cases hr:r=t
  .subst hr;rw[if_pos rfl,if_neg L8];exact ht.symm
  .rw[if_neg hr,if_neg hr,if_neg hr]
   by_cases Md:r=d
   .simp only[if_pos Md]
   .simp only[if_neg Md]
 rw[es] at dD;exact⟨_,_,_,dD⟩
theorem GO {K:V->Prop} {args:List Operand} {ts:List TypeId} {ty:TypeId} (hst:St G n I0 M w0 I β ob s a w) (hd:∀ d,o.dst=some d->d<n) (sP:∀ t y,args=[.tmp t,y]->cn tr o=some t)
 (h:ju P G s o.dst ts args K):∃ X Y t t',args=[X,Y]/\ts=[t,t']/\∃ z u w',K z/\(Builtin.append_ #[t,t'] ty #[a.eval X,a.eval Y]).run P w=.ok u w'/\SE G n I0 M w0 (s.after tr o z) (a.put o.dst u) w':=by
 unfold ju at h;split at h
 .rename_i t y d lP
  split at h
  .rename_i v u E es ht Qv
   obtain⟨⟨L8,rfl,hyt,hyd⟩,h⟩:=h;have qq:∃ q q',ts=[q,q']:=by
    unfold e9 at h;split at h<;>first | cases ‹Builtin.append=_› | skip
    .rename_i q q' x y dN;exact⟨_,_,rfl⟩
    .exact h.elim
   obtain⟨q,q',rfl⟩:=qq;have ZK:d<n:=hd d lP;have rn:t<n:=by
    rcases bX t n with h' | h'
    .exact h'
    .exfalso
     obtain⟨e1,_,_⟩:=yQ hst ht;have e0:a.tmps.getD t undef=undef:=(by rw[ak,dc (by rw[hst.size];exact h')];rfl);have hg:=hst.fr d;rw[Qv] at hg;simp only[LR] at hg;rw[<- e1,e0] at hg;rcases hg.1.sl_inv with⟨⟨_,_,h1,_⟩,_⟩ | ⟨_,_,_,_,_,h1,_⟩<;>simp[undef] at h1
   obtain⟨ob',cO⟩:=hst.unghost L8 ht Qv ZK rn;refine⟨_,_,q,q',rfl,rfl,?_⟩;have hey:ev G { s with fr:=up (up s.fr d .un) t (.ow E es) } y=ev G s y:=by
    cases y with
    |tmp r=>have h1:r≠t:=λe=>hyt (by rw[e]);have h2:r≠d:=λe=>hyd (by rw[e]);simp only[ev,cP _ _ h1,cP _ _ h2]
    |_=>rfl
   have hvw:vw { s with fr:=up (up s.fr d .un) t (.ow E es) }=vw s:=rfl
   obtain⟨z,u,w',hz,bM,I2,β2,ob2,n0⟩:=BH (tr:=tr) (o:=o) (X:=.tmp t) (Y:=y) (t:=q) (t':=q') (ty:=ty) (K:=K) cO hd (sP t y rfl) (by
    rw[hey,hvw];have:vw s (ev G { s with fr:=up (up s.fr d .un) t (.ow E es) } (.tmp t))=.ow E es:=by simp only[ev,cg];rfl
    rw[this];exact h)
   refine⟨z,u,w',hz,bM,?_⟩;obtain⟨e1,e2,e3⟩:=yQ hst ht;have fO:(a.put (some d) u).tmps.size=n:=(by simp only[Act.put,cx,dy];exact hst.size);have hgt:(a.put (some d) u).tmps.getD t undef=v:=(by rw[<- e1];show(a.tmps.set! d u).getD t undef=_;simp[ak,cx,Array.getElem?_setIfInBounds,gZ L8]);rw[lP] at n0 ⊢
   have dD:=n0.put t rn (v:=(a.put (some d) u).tmps.getD t undef) (x:=.c (.ex v)) (o:=none) (by rw[hgt];exact .ofC (.ex v e2 e3)) FreeOb.nothing;rw[jw (by rw[fO];exact rn)] at dD;have es:(S.after tr o { s with fr:=up (up s.fr d .un) t (.ow E es) } z).put (some t) (.c (.ex v))=s.after tr o z:=by
    unfold S.after;rw[sP t y rfl,lP];have hu1:({ s with fr:=up (up s.fr d .un) t (.ow E es) }:S).use (some t)=({ s with fr:=up (up s.fr d .un) t (.ow E es) }:S).clr t:=by simp only[S.use,cg];rfl
    have hu2:s.use (some t)=s:=(by simp only[S.use,ht];rfl);rw[hu1,hu2];simp only[S.put,S.clr];congr 1;funext r;simp only[up];by_cases hr:r=t
    .subst hr;rw[if_pos rfl,if_neg L8];exact ht.symm
    .rw[if_neg hr,if_neg hr,if_neg hr]
     by_cases Md:r=d
     .simp only[if_pos Md]
     .simp only[if_neg Md]
   rw[es] at dD;exact⟨_,_,_,dD⟩
  .rename_i v u E es ht Qv
   obtain⟨⟨L8,rfl,hyt,hyd⟩,h⟩:=h;exact QR hst hd sP lP ht Qv L8 hyt hyd h
  .rename_i E es ht
   obtain⟨⟨L8,hyt⟩,h⟩:=h;have qq:∃ q q',ts=[q,q']:=by
    unfold nH at h;split at h
    .exact⟨_,_,rfl⟩
    .exact h.elim
   obtain⟨q,q',rfl⟩:=qq;have hqq:q=q':=(by simp only[nH] at h;exact h.1);subst hqq;refine⟨_,_,q,q,rfl,rfl,?_⟩;exact zP (tr:=tr) (o:=o) (T:=q) (U:=q) (t0:=t) (E:=E) (es:=es) (vy:=a.eval y) (ty:=ty) (K:=K) hst hd (sP t y rfl) ht h (λys' e hu j hj hy hl=>(IY hst y ys' hy).src hu hl)
  .exact h.elim
 .exact h.elim
theorem MN {K:V->Prop} {args:List Operand} {ts:List TypeId} {ty:TypeId} (hst:St G n I0 M w0 I β ob s a w) (hd:∀ d,o.dst=some d->d<n) (sP:∀ t y,args=[.tmp t,y]->cn tr o=some t)
 (h:vr P G s o.dst ts args K):∃ X Y t t',args=[X,Y]/\ts=[t,t']/\∃ z u w',K z/\(Builtin.append_ #[t,t'] ty #[a.eval X,a.eval Y]).run P w=.ok u w'/\SE G n I0 M w0 (s.after tr o z) (a.put o.dst u) w':=by
 unfold vr at h;split at h
 .rename_i t y d lP
  split at h
  .rename_i v u E es ht Qv
   obtain⟨⟨L8,rfl,hyt,hyd⟩,h⟩:=h;have qq:∃ q q',ts=[q,q']:=by
    unfold tI at h;split at h
    .exact⟨_,_,rfl⟩
    .exact h.elim
   obtain⟨q,q',rfl⟩:=qq;have hqq:q=q':=(by simp only[tI] at h;exact h.1);subst hqq;have ZK:d<n:=hd d lP;have rn:t<n:=by
    rcases bX t n with h' | h'
    .exact h'
    .exfalso
     obtain⟨e1,_,_⟩:=yQ hst ht;have e0:a.tmps.getD t undef=undef:=(by rw[ak,dc (by rw[hst.size];exact h')];rfl);have hg:=hst.fr d;rw[Qv] at hg;simp only[LR] at hg;rw[<- e1,e0] at hg;rcases hg.1.sl_inv with⟨⟨_,_,h1,_⟩,_⟩ | ⟨_,_,_,_,_,h1,_⟩<;>simp[undef] at h1
   obtain⟨ob',cO⟩:=hst.unghost L8 ht Qv ZK rn;refine⟨_,_,q,q,rfl,rfl,?_⟩;obtain⟨z,u,w',hz,bM,I2,β2,ob2,n0⟩:=IS (tr:=tr) (o:=o) (T:=q) (U:=q) (t0:=t) (E:=E) (es:=es) (vy:=a.eval y) (ty:=ty) (K:=K) cO hd (sP t y rfl) (by simp only[cg]) h
    (λys' e hu j hj hy hl=>(IY hst y ys' hy).src hu hl)
   refine⟨z,u,w',hz,bM,?_⟩;obtain⟨e1,e2,e3⟩:=yQ hst ht;have fO:(a.put (some d) u).tmps.size=n:=(by simp only[Act.put,cx,dy];exact hst.size);have hgt:(a.put (some d) u).tmps.getD t undef=v:=(by rw[<- e1];show(a.tmps.set! d u).getD t undef=_;simp[ak,cx,Array.getElem?_setIfInBounds,gZ L8]);rw[lP] at n0 ⊢
   have dD:=n0.put t rn (v:=(a.put (some d) u).tmps.getD t undef) (x:=.c (.ex v)) (o:=none) (by rw[hgt];exact .ofC (.ex v e2 e3)) FreeOb.nothing;rw[jw (by rw[fO];exact rn)] at dD;have es:(S.after tr o { s with fr:=up (up s.fr d .un) t (.ow E es) } z).put (some t) (.c (.ex v))=s.after tr o z:=by
    unfold S.after;rw[sP t y rfl,lP];have hu1:({ s with fr:=up (up s.fr d .un) t (.ow E es) }:S).use (some t)=({ s with fr:=up (up s.fr d .un) t (.ow E es) }:S).clr t:=by simp only[S.use,cg];rfl
    have hu2:s.use (some t)=s:=(by simp only[S.use,ht];rfl);rw[hu1,hu2];simp only[S.put,S.clr];congr 1;funext r;simp only[up];by_cases hr:r=t
    .subst hr;rw[if_pos rfl,if_neg L8];exact ht.symm
    .rw[if_neg hr,if_neg hr,if_neg hr]
     by_cases Md:r=d
     .simp only[if_pos Md]
     .simp only[if_neg Md]
   rw[es] at dD;exact⟨_,_,_,dD⟩
  .exact h.elim
 .exact h.elim
theorem pB {K:V->Prop} (hst:St G n I0 M w0 I β ob s a w) (hd:∀ d,o.dst=some d->d<n) (h:VYK P G tr o s K)
 (hk:∀ a' w' x,K x->SE G n I0 M w0 (s.after tr o x) a' w'->next a' w'):o.wp P a w next Q:=by
 have pure_:∀ {sem:Sem Value} {z:V} {u:Value},execOp a.eval o=(do pure (.value (<- sem)))->K z->LR (Wr M w0) I β w none u z->sem.run P w=.ok u w->o.wp P a w next Q:=by intro sem z u he hz iD bM;refine eE (v':=u) (w':=w) ?_ (hk _ _ _ hz (.fin0 hst hd iD));rw[he];simp[bM]
 have full:∀ {sem:Sem Value} {z:V} {u:Value} {w':World},execOp a.eval o=(do pure (.value (<- sem)))->K z->sem.run P w=.ok u w'->SE G n I0 M w0 (s.after tr o z) (a.put o.dst u) w'->o.wp P a w next Q:=by intro sem z u w' he hz bM dD;refine eE (v':=u) (w':=w') ?_ (hk _ _ _ hz dD);rw[he];simp[bM]
 obtain⟨dst,op,type,pos,after,guard⟩:=o;cases op<;>simp only[VYK] at h<;>try exact h.elim
 case move x=>
  have bM:(execOp a.eval { dst,op:=.move x,type,pos,after,guard }).run P w=.ok (.value (a.eval x)) w:=rfl;split at h
  .rename_i htr
   exact eE bM (hk _ _ _ h (O4 hst hd (x:=x) (by cases x<;>simp[cn,htr])))
  .exact eE bM (hk _ _ _ h (aal hst hd x))
 case assign x=>have bM:(execOp a.eval { dst,op:=.assign x,type,pos,after,guard }).run P w=.ok (.value (a.eval x)) w:=rfl;exact eE bM (hk _ _ _ h (O4 hst hd (x:=x) (by cases x<;>simp[cn])))
 case pick c b b'=>
  split at h
  .rename_i p hc
   have D8:a.eval c=.bool p:=(by have:=bP hst c;rw[hc] at this;exact this.lit);refine eE (v':=if p then a.eval b else a.eval b') (w':=w) ?_ (hk _ _ _ h (.fin0 hst hd ?_))
   .simp[execOp,D8,asBool]
   .cases p
    .exact xq hst b'
    .exact xq hst b
  .exact h.elim
 case build T parts=>obtain⟨z,u,hz,iD,bM⟩:=Gz hst h;exact pure_ rfl hz iD bM
 case buildSlice T len parts=>obtain⟨z,u,w',hz,bM,dD⟩:=xu (tr:=tr) hst hd h;exact full rfl hz bM dD
 case load T x=>obtain⟨z,u,hz,iD,bM⟩:=tK hst h (bP hst x);exact pure_ rfl hz iD bM
 case binOp op T x y yT=>obtain⟨u,hf,hz,bM⟩:=MH h (bP hst x) (bP hst y) x y;exact pure_ rfl hz (.ofLit hf) bM
 case unOp op T x=>obtain⟨u,hf,hz,bM⟩:=QL h (bP hst x);exact pure_ rfl hz (.ofLit hf) bM
 case convert src dst' x=>obtain⟨z,u,w',hz,bM,dD⟩:=IU (tr:=tr) hst hd h (aeb hst x);exact full rfl hz bM dD
 case makeFunc f first captured=>
  obtain⟨⟨h1,h2⟩,h⟩:=h;have pr:∀ (l:Array Operand),(l.toList.map (ev G s)).all V.isPR=true->∀ j x,(l.toList.map (ev G s))[j]?=some x->PR I β w ((l.map a.eval).getD j undef) x:=by
   intro l hl j x hx;have hm:=aS hx;have hp:=aY.1 hl x hm;simp only[bj,aV] at hx;obtain⟨X,hX,rfl⟩:=hx;have iD:=bP hst X;have:(l.map a.eval).getD j undef=a.eval X:=(by rw[aQ] at hX;simp[hX]);rw[this];cases hx:ev G s X<;>rw[hx] at hp iD<;>simp only[V.isPR] at hp<;>try cases hp
   .exact iD.toC
   .simp only[LR] at iD;exact iD
   .simp only[LR] at iD;exact iD
   .simp only[LR] at iD;exact iD
   .simp only[LR] at iD;exact iD
   .simp only[LR] at iD;exact iD
  refine eE (v':=.func f (first.map a.eval) (captured.map a.eval)) (w':=w) rfl (hk _ _ _ h (.fin0 hst hd ?_))
  simp only[LR];exact⟨_,_,rfl,by simp,by simp,pr first h1,pr captured h2⟩
 case lookup T x k ok=>obtain⟨z,u,hz,iD,bM⟩:=Eh hst h (bP hst x) (bP hst k);exact pure_ rfl hz iD bM
 case range T x=>obtain⟨z,u,w',hz,bM,dD⟩:=GN (tr:=tr) hst hd h (bP hst x);exact full rfl hz bM dD
 case entry x=>obtain⟨z,u,hz,iD,bM⟩:=GM hst h (bP hst x);exact pure_ rfl hz iD bM
 case nilCheck x=>
  have hx:=bP hst x;split at h
  .rename_i i o tj
   rw[tj] at hx;simp only[LR] at hx;obtain⟨blk,hβ,hv⟩:=hx;refine eE (v':=.pointer (some ⟨blk,o,none⟩)) (w':=w) ?_ (hk _ _ _ h (.fin0 hst hd (by simp only[LR];exact⟨blk,hβ,rfl⟩)));simp only[execOp,hv];rfl
  .rename_i cs k tj
   rw[tj] at hx;obtain⟨b,off,f,hv,_⟩:=hx.toC.rp_inv;refine eE (v':=a.eval x) (w':=w) ?_ (hk _ _ _ h (.fin0 hst hd (.ofC hx.toC)));simp only[execOp,hv];rfl
  .rename_i ad tj
   rw[tj] at hx;have hv:=hx.toC.ex_inv;refine eE (v':=a.eval x) (w':=w) ?_ (hk _ _ _ h (.fin0 hst hd (.ofC hx.toC)));simp only[execOp,hv];rfl
  .exact h.elim
 case slice T x lo hi mx=>obtain⟨z,u,hz,iD,bM⟩:=GF hst h (xq hst x);exact pure_ rfl hz iD bM
 case fieldAddr T x f=>obtain⟨z,u,hz,iD,bM⟩:=yN h (bP hst x);exact pure_ rfl hz iD bM
 case field T x f=>obtain⟨z,u,hz,iD,bM⟩:=Gw h (bP hst x);exact pure_ rfl hz iD bM
 case indexAddr T x i=>obtain⟨z,u,hz,iD,bM⟩:=yO h (xq hst x) (bP hst i);exact pure_ rfl hz iD bM
 case index T x i=>obtain⟨z,u,hz,iD,bM⟩:=Gx h (bP hst x) (bP hst i);exact pure_ rfl hz iD bM
 case extract x i=>
  split at h
  .rename_i ds hx
   split at h
   .rename_i d hdi
    have iD:=bP hst x;rw[hx] at iD;simp only[LR] at iD;generalize Iq:a.eval x=vv at iD;cases iD with
    |tup vs _ h1 h2=>
     have bE:i<vs.size:=(by rw[h1];exact(aj.1 hdi).1);have vn:=h2 i d hdi;refine pure_ (u:=vs.getD i undef) rfl h ?_ (by simp[Iq,Instr.extract,ax bE]);generalize vs.getD i undef=vv' at vn;cases d<;>simp only[LR]<;>first | exact vn | (cases vn;done)
   .exact h.elim
  .exact h.elim
 case call c=>
  obtain⟨callee,args,ts⟩:=c;cases callee with
  |value f=>exact IV (tr:=tr) (f:=f) (args:=args) (ts:=ts) rfl hst hd h hk
  |invoke r m=>exact h.elim
  |builtin b=>
   have vI:∀ sem:Sem Value,builtin b ts type (args.map λ| .const _=>true | _=>false) (args.map a.eval)=(do pure (.value (<- sem)))->
    execOp a.eval { dst,op:=.call { callee:=.builtin b,args:=args,argTypes:=ts },type,pos,after,guard }=(do pure (.value (<- sem))):=λsem hs=>by
    simp only[execOp,resolve,invoke,pure_bind];exact hs
   have AW:(b=.append/\((xl tr dst=true/\vr P G s dst ts.toList args.toList K)∨(Bt tr dst=true/\ju P G s dst ts.toList args.toList K)∨(Bt tr dst=false/\e9 P .append ts.toList (args.toList.map λx=>vw s (ev G s x)) K)))∨(b≠.append/\e9 P b ts.toList (args.toList.map (ev G s)) K):=by
    cases b<;>first | (refine .inl ⟨rfl,?_⟩;have h':(if Bt tr dst then(if xl tr dst then vr P G s dst ts.toList args.toList K else ju P G s dst ts.toList args.toList K) else e9 P .append ts.toList (args.toList.map λx=>vw s (ev G s x)) K):=h;by_cases hg:Bt tr dst=true;(rw[if_pos hg] at h';by_cases Qs:xl tr dst=true;(rw[if_pos Qs] at h';exact .inl ⟨Qs,h'⟩);(rw[if_neg Qs] at h';exact .inr (.inl ⟨hg,h'⟩)));(rw[if_neg hg] at h';exact .inr (.inr ⟨by simpa using hg,h'⟩))) | exact .inr ⟨by simp,h⟩
   clear h;rcases AW with⟨rfl,⟨_,h⟩ | ⟨_,h⟩ | ⟨_,h⟩⟩ | ⟨D2,h⟩
   .obtain⟨X,Y,t,t',hX,qq,z,u,w',hz,bM,dD⟩:=MN (tr:=tr) (o:={ dst,op:=.call { callee:=.builtin .append,args:=args,argTypes:=ts },type,pos,after,guard }) (ty:=type) hst hd (args:=args.toList) (λt y hA=>by simp only[cn,hA]) h
    have e1:ts=#[t,t']:=dB qq;have e2:args.map a.eval=#[a.eval X,a.eval Y]:=(by apply dB;simp[hX]);subst e1;refine full (sem:=Builtin.append_ #[t,t'] type (args.map a.eval)) (vI _ rfl) hz ?_ dD;rw[e2];exact bM
   .obtain⟨X,Y,t,t',hX,qq,z,u,w',hz,bM,dD⟩:=GO (tr:=tr) (o:={ dst,op:=.call { callee:=.builtin .append,args:=args,argTypes:=ts },type,pos,after,guard }) (ty:=type) hst hd (args:=args.toList) (λt y hA=>by simp only[cn,hA]) h
    have e1:ts=#[t,t']:=dB qq;have e2:args.map a.eval=#[a.eval X,a.eval Y]:=(by apply dB;simp[hX]);subst e1;refine full (sem:=Builtin.append_ #[t,t'] type (args.map a.eval)) (vI _ rfl) hz ?_ dD;rw[e2];exact bM
   .have qq:∃ t t',ts.toList=[t,t']/\∃ X Y,args.toList=[X,Y]:=by
     unfold e9 at h;split at h<;>first | cases ‹Builtin.append=_› | skip
     .rename_i t t' x y qq dN
      refine⟨t,t',qq,?_⟩;cases ha:args.toList with
      |nil=>simp[ha] at dN
      |cons X l=>
       cases l with
       |nil=>simp[ha] at dN
       |cons Y l=>simp only[ha,bA,cN,eY] at dN;exact⟨X,Y,by rw[dN.2.2]⟩
     .exact h.elim
    obtain⟨t,t',qq,X,Y,hX⟩:=qq;have e1:ts=#[t,t']:=dB qq;have e2:args.map a.eval=#[a.eval X,a.eval Y]:=(by apply dB;simp[hX]);subst e1;rw[hX] at h;obtain⟨z,u,w',hz,bM,dD⟩:=BH (tr:=tr) (o:={ dst,op:=.call { callee:=.builtin .append,args:=args,argTypes:=#[t,t'] },type,pos,after,guard }) (ty:=type) hst hd (by simp only[cn,hX];cases X<;>rfl) h;refine full (sem:=Builtin.append_ #[t,t'] type (args.map a.eval)) (vI _ rfl) hz ?_ dD;rw[e2];exact bM
   .unfold e9 at h
    split at h
    .rename_i t x qq dN
     obtain⟨X,hX,rfl⟩:∃ X,args.toList=[X]/\x=ev G s X:=by
      cases ha:args.toList with
      |nil=>simp[ha] at dN
      |cons X l=>simp only[ha,bA,cN,eY] at dN;exact⟨X,by rw[dN.2],dN.1.symm⟩
     obtain⟨u,hf,hz,bM⟩:=MJ (ty:=type) h (bP hst X);have e1:ts=#[t]:=dB qq;have e2:args.map a.eval=#[a.eval X]:=(by apply dB;simp[hX]);subst e1;refine pure_ (sem:=Builtin.len_ #[t] type (args.map a.eval)) (vI _ rfl) hz (.ofLit hf) ?_;rw[e2];exact bM
    .exact absurd rfl D2
    .obtain⟨u,hf,hz,bM⟩:=BD (P:=P) (mx:=false) hst h
     exact pure_ (sem:=Builtin.min_ ts type (args.map a.eval)) (vI _ rfl) hz (.ofLit hf) bM
    .obtain⟨u,hf,hz,bM⟩:=BD (P:=P) (mx:=true) hst h
     exact pure_ (sem:=Builtin.max_ ts type (args.map a.eval)) (vI _ rfl) hz (.ofLit hf) bM
    .exact h.elim
