/- Values without memory: the operations keep the relation: append. -/
import Derived.Test.YtloppcgcepgbnaaGreatDoorVlSound5
import Derived.Deep.AppendSrc
import Derived.Conc.MuLone
import Derived.MapKept
import Derived.WideKeyRuns
set_option linter.all false
namespace Go.Vl
open Go Go.RowKit
section
variable {P:Program} {G:Gl} {tr:List Nat} {n:Nat} {I0:Ft} {M:Mx} {w0:World} {I:Ft} {β:Nat->Option Nat} {ob:Loc->Option Nat} {s:S} {a:Act} {w:World} {o:Oper}
 {next:Act->World->Prop} {Q:Exit->Act->World->Prop} {base:Nat->Prop} {v:Value} {x y:V} {K:V->Prop}
theorem VF {J:Ft} {b off sz sz':Nat} {es:List (List C)} {f:Nat->Nat->Value} (hs:∀ x∈es,x.length=sz) (EE:∀ e∈es,e.length=sz')
 (eR:∀ i j,i<es.length->j<sz'->w.cell? ⟨b,off+i*sz'+j,none⟩=some (f i j)/\J b (off+i*sz'+j)) (qq:∀ i j e c,es[i]?=some e->e[j]?=some c->CR I w (f i j) c) :
 ∃ vs:List Value,vs.length=es.length*sz/\(∀ (q:Nat) (u:Value),vs[q]?=some u->w.cell? ⟨b,off+q,none⟩=some u/\J b (off+q))/\
  (∀ (q:Nat) (c:C),es.flatten[q]?=some c->∃ u,vs[q]?=some u/\CR I w u c)/\(∀ u∈vs,u.oneCell'=true):=by
 have lG:=bK es hs;by_cases h0:es.length*sz=0
 .refine⟨[],by simp[h0],by simp,λq c hq=>?_,by simp⟩
  have:=(ai.1 hq).1;omega
 have anV:0<sz:=Nat.pos_of_ne_zero λe=>h0 (by simp[e]);have Ve:0<es.length:=Nat.pos_of_ne_zero λe=>h0 (by simp[e]);have fK:sz'=sz:=by rw[<- EE es[0] (bT _),hs es[0] (bT _)]
 subst fK;have iT:∀ q,q<es.length*sz'->q / sz'<es.length/\q % sz'<sz'/\q=q / sz'*sz'+q % sz':=λq hq=>
  ⟨by rw[Nat.div_lt_iff_lt_mul anV];exact hq,Nat.mod_lt _ anV,by rw[kN];exact(Nat.div_add_mod q sz').symm⟩
 have Aw:∀ (q:Nat) (c:C),es.flatten[q]?=some c->q<es.length*sz'/\CR I w (f (q / sz') (q % sz')) c:=λq c hq=>by have bF:=(ai.1 hq).1;rw[lG] at bF;obtain⟨h1,h2,h3⟩:=iT q bF;rw[h3,mO es hs _ _ h2] at hq;simp only[ah h1,ju] at hq;exact⟨bF,qq _ _ _ c (ah h1) hq⟩
 refine⟨(List.range (es.length*sz')).map λq=>f (q / sz') (q % sz'),by simp,λq u hq=>?_,λq c hq=>?_,λu hu=>?_⟩
 .simp only[bj,aW] at hq
  obtain⟨q',hq',rfl⟩:=hq;have bF:=(ai.1 hq').1;simp at bF;have hqq:q'=q:=by have:=(ai.1 hq').2;simpa using this.symm
  subst hqq;obtain⟨h1,h2,h3⟩:=iT q' bF;have:=eR _ _ h1 h2;rw[dN,<- h3] at this;exact this
 .obtain⟨bF,jr⟩:=Aw q c hq
  exact⟨_,by simp[bF],jr⟩
 .simp only[bM,dc] at hu
  obtain⟨q,hq,rfl⟩:=hu;obtain⟨c,hc⟩:∃ c,es.flatten[q]?=some c:=⟨_,ah (by omega)⟩;exact(Aw q c hc).2.oneCell
theorem CR.flat {b off cap sz:Nat} {es:List (List C)} (h:CR I w (.slice (some ⟨b,off,none⟩) es.length cap) (.sl es)) (hs:∀ x∈es,x.length=sz) :
 ∃ vs:List Value,vs.length=es.length*sz/\(∀ (q:Nat) (u:Value),vs[q]?=some u->w.cell? ⟨b,off+q,none⟩=some u/\I b (off+q))/\
  (∀ (q:Nat) (c:C),es.flatten[q]?=some c->∃ u,vs[q]?=some u/\CR I w u c)/\(∀ u∈vs,u.oneCell'=true):=by
 rcases h.sl_inv with⟨_,rfl⟩ | ⟨b',off',cap',sz',f,hv,kX,EE,eR,qq⟩
 .exact⟨[],by simp,by simp,by simp,by simp⟩
 simp only[eM,ao,iF,gC,iM] at hv;obtain⟨⟨rfl,rfl⟩,rfl⟩:=hv;exact VF hs EE eR qq
theorem CR.oldsOf {xa:Addr} {cap sz:Nat} {es:List (List C)} (h:CR I w (.slice (some xa) es.length cap) (.sl es)) (hs:∀ x∈es,x.length=sz) :
 ∃ vs:List Value,vs.length=es.length*sz/\(∀ (q:Nat) (u:Value),vs[q]?=some u->w.cell? (xa.add q)=some u)/\
  (∀ (q:Nat) (c:C),es.flatten[q]?=some c->∃ u,vs[q]?=some u/\CR I w u c)/\(∀ u∈vs,u.oneCell'=true):=by
 by_cases gZ:es=[]
 .subst gZ;exact⟨[],by simp,by simp,by simp,by simp⟩
 .rcases h.sl_inv with⟨_,h0⟩ | ⟨b,off,cap',_,_,hv,_⟩
  .exact absurd h0 gZ
  .simp only[eM,ao] at hv
   obtain⟨rfl,_,_⟩:=hv;obtain⟨vs,h1,h2,h3,h4⟩:=h.flat hs;exact⟨vs,h1,λq u hq=>by rw[c8];exact(h2 q u hq).1,h3,h4⟩
theorem RD.flat {b off cap sz:Nat} {es:List (List C)} (h:RD I w (.slice (some ⟨b,off,none⟩) es.length cap) es) (hs:∀ x∈es,x.length=sz) :
 ∃ vs:List Value,vs.length=es.length*sz/\(∀ (q:Nat) (u:Value),vs[q]?=some u->w.cell? ⟨b,off+q,none⟩=some u/\True)/\
  (∀ (q:Nat) (c:C),es.flatten[q]?=some c->∃ u,vs[q]?=some u/\CR I w u c)/\(∀ u∈vs,u.oneCell'=true):=by
 rcases h with⟨_,rfl⟩ | ⟨b',off',cap',sz',f,hv,kX,EE,eR,qq⟩
 .exact⟨[],by simp,by simp,by simp,by simp⟩
 simp only[eM,ao,iF,gC,iM] at hv;obtain⟨⟨rfl,rfl⟩,rfl⟩:=hv;exact VF (J:=λ_ _=>True) hs EE (λi j hi hj=>⟨eR i j hi hj,trivial⟩) qq
theorem RD.some' {a':Option Addr} {n m:Nat} {es:List (List C)} (h:RD I w (.slice a' n m) es) (gZ:es≠[]):∃ b off,a'=some ⟨b,off,none⟩:=by
 rcases h with⟨_,h0⟩ | ⟨b,off,cap,sz,f,hv,_⟩
 .exact absurd h0 gZ
 .cases hv;exact⟨b,off,rfl⟩
theorem St.growRow (h:St G n I0 M w0 I β ob s a w) {w':World} {r:Nat} (hg:w.grb w' (some r)) (hr:Wr M w0 r) (eR:∀ o,I r o->w'.cell? ⟨r,o,none⟩=w.cell? ⟨r,o,none⟩)
 (j7:∀ L,ob L≠some r) (hβ:∀ i,β i≠some r) {I':Ft} (h1:∀ b o,I b o->I' b o) (h2:∀ b o,I' b o->I b o∨b=r) (bF:r<w'.heap.size):St G n I0 M w0 I' β ob s a w':=by
 have hk:=h.keeps hg (λr' e o ho=>by cases e;exact eR o ho);have hI:∀ b o,I b o->I' b o/\w'.cell? ⟨b,o,none⟩=w.cell? ⟨b,o,none⟩:=λb o hb=>⟨h1 b o hb,hk b o hb⟩;have xl:∀ L b,ob L=some b->w'.heap[b]?=w.heap[b]?/\∀ o,I' b o->I b o:=λL b hL=>by
  have gZ:b≠r:=λe=>j7 L (e▸hL);refine⟨hg.block b (h.obnd L b hL).1 (by simpa using gZ),λo ho=>?_⟩;rcases h2 b o ho with h5 | h5
  .exact h5
  .exact absurd h5 gZ
 exact {
  size:=h.size,defers:=h.defers
  below:=h.below.grown hg (λk e=>by cases e;exact hr)
  kept:=λb o h0=>(hk b o (h.ilow b o h0)).trans (h.kept b o h0)
  ilow:=λb o hb=>h1 b o (h.ilow b o hb)
  ihigh:=λb o hb=>by
   rcases h2 b o hb with h3 | h3
   .exact h.ihigh b o h3
   .exact .inr (by rw[h3];exact hr)
  ibnd:=λb o hb=>by
   rcases h2 b o hb with h3 | h3
   .exact cn (h.ibnd b o h3) hg.size
   .rw[h3];exact bF
  fr:=λt=>(h.fr t).mono hI (λ_ _ e=>e) (xl (.t t))
  bx:=λi hi=>by
   obtain⟨blk,cur,e1,e2,e3,e4,e5,e7⟩:=h.bx i hi;have akN:blk<w.heap.size:=e3.lt;have gZ:blk≠r:=λe=>hβ i (e▸e1);refine⟨blk,cur,e1,e2,e3.mono (hg.block blk akN (by simpa using gZ)),e4,λj=>(e5 j).mono hI (λ_ _ e=>e) (xl (.b i j)),λo ho=>?_⟩;rcases h2 blk o ho with h3 | h3
   .exact e7 o h3
   .exact gZ h3
  bnone:=h.bnone,ext:=h.ext,bnew:=h.bnew,binj:=h.binj,oinj:=h.oinj,obx:=h.obx
  obnd:=λL b hL=>⟨cn (h.obnd L b hL).1 hg.size,(h.obnd L b hL).2⟩
  glob:=λg cs hg'=>(h.glob g cs hg').mono hI }
theorem lC (olds news:List Value) (z:Array Value) (j:Nat) (u:Value) (h:(olds++news)[j]?=some u):(olds.toArray++news.toArray++z).getD j undef=u:=by
 have bF:=(ai.1 h).1;simp at bF;have:(olds.toArray++news.toArray++z)[j]?=some u:=by rw[fb (by simp;omega)];simpa using h
 rw[ak,this];rfl
theorem ml (T U ty e:TypeId) (i:TypeInfo) (ht:P.underlying T=some (.slice e)) (hi:P.info? e=some i) (b:Option Addr) (k cap:Nat) (hk:k<=cap) {x:Value} (hs:Src P i.size U x 0 [] w) :
 (Builtin.append_ #[T,U] ty #[.slice b k cap,x]).run P w=.ok (.slice b k cap) w:=by
 have hf:(Builtin.firstCells i.size 0 x).run P w=.ok #[] w:=hs.cells;unfold Builtin.append_;rcases hs.kind with⟨e',U8⟩ | U8<;>cases b<;>simp[aU ht,aU U8,sizeOf,typeInfo,hi,hs.len,hk,hf,storeCells]
theorem gq (g o:Nat) (T:RT):∀ (vs:List Value) (i:Nat) (cur:Array Value) (w:World),w.heap[g]?=some (.cells cur T.t T.fz)->T.ok cur.size->o+i+vs.length<=cur.size->(∀ v∈vs,v.oneCell'=true)->
 (storeCells ⟨g,o,none⟩ vs i).run P w=.ok () (w.setRow g (cur.toList.take (o+i)++vs++cur.toList.drop (o+i+vs.length)).toArray)
 |[],i,cur,w,hg,_,_,_=>by simp only[storeCells,bq,aF,eT,dK,Array.toArray_toList];rw[setRow_self w g cur T.t T.fz hg];rfl
 |v::rest,i,cur,w,hg,hT,hl,h1=>by
  have hi:o+i<cur.size:=by simp at hl;omega
  have ED:(⟨g,o,none⟩:Addr).add i=⟨g,o+i,none⟩:=by unfold Addr.add;split<;>simp_all
  have eR:w.cell? ⟨g,o+i,none⟩=some cur[o+i]:=by simp[World.cell?,hg,hi]
  have aqe:w.frozen? ⟨g,o+i,none⟩=false:=by obtain⟨tt,lo,tu⟩:=T;simp only[World.frozen?,hg,Bool.and_eq_false_iff,dI];unfold RT.ok at hT;simp only at hT;omega
  have hst:(store ((⟨g,o,none⟩:Addr).add i) v).run P w=.ok () (w.setRow g (cur.setIfInBounds (o+i) v)):=by rw[ED,run_store P w _ v _ (h1 v (by simp)),eR];simp[aqe,setCell_eq_setRow w g (o+i) cur T.t T.fz v hg]
  have ih:=gq g o T rest (i+1) (cur.setIfInBounds (o+i) v) (w.setRow g (cur.setIfInBounds (o+i) v)) (lR w g cur _ T.t _ hg) (by simpa using hT) (by simp at hl ⊢;omega) (λx hx=>h1 x (by simp[hx]));simp only[storeCells,aK,hst,aw,ih,setRow_setRow];congr 3;have e:=list_seg_step cur.toList (o+i) v rest (by simp at hl ⊢;omega);simpa[Array.toList_setIfInBounds,dN] using e
theorem ja (t tx ty e:TypeId) (i:TypeInfo) (ht:P.underlying t=some (.slice e)) (hi:P.info? e=some i) (g off sLen sCap:Nat) (cur:Array Value) (T:RT) (hg:w.heap[g]?=some (.cells cur T.t T.fz)) (hT:T.ok cur.size)
 (x:Value) (n:Nat) (news:List Value) (hs:Src P i.size tx x n news w) (mZ:sLen+n<=sCap) (vO:off+sLen*i.size+news.length<=cur.size) :
 (Builtin.append_ #[t,tx] ty #[.slice (some ⟨g,off,none⟩) sLen sCap,x]).run P w=
  .ok (.slice (some ⟨g,off,none⟩) (sLen+n) sCap) (w.setRow g (cur.toList.take (off+sLen*i.size)++news++cur.toList.drop (off+sLen*i.size+news.length)).toArray):=by
 have hst:=gq (P:=P) g (off+sLen*i.size) T news 0 cur w hg hT (by simpa using vO) hs.one;simp only[eT] at hst;rcases hs.kind with⟨e',hk⟩ | hk<;>simp[Builtin.append_,aU ht,aU hk,sizeOf,typeInfo,hi,hs.len,mZ,hs.cells,c8,hst]
def IZ (P:Program) (I:Ft) (w:World) (U:TypeId) (v:Value) (sz:Nat) (ys:List (List C)):Prop:=
 ∃ news:List Value,Src P sz U v ys.length news w/\∀ (q:Nat) (c:C),ys.flatten[q]?=some c->∃ u:Value,news[q]?=some u/\CR I w u c
theorem RD.src {U e':TypeId} {v:Value} {sz:Nat} {ys:List (List C)} (h:RD I w v ys) (hu:P.underlying U=some (.slice e')) (hs:∀ x∈ys,x.length=sz):IZ P I w U v sz ys:=by
 rcases h with⟨⟨a0,c0,rfl,lH⟩,rfl⟩ | ⟨b,off,cap,szx,f,rfl,kX,h1⟩
 .cases a0 with
  |none=>exact⟨[],Src.ofNil w hu c0,by simp⟩
  |some x=>exact⟨[],Src.ofSlice w hu x 0 c0 [] (by simp) (by simp) (by simp),by simp⟩
 .have h':RD I w (.slice (some ⟨b,off,none⟩) ys.length cap) ys:=.inr ⟨b,off,cap,szx,f,rfl,kX,h1⟩
  obtain⟨news,vC,L6,MM,II⟩:=h'.flat hs;exact⟨news,Src.ofSlice w hu ⟨b,off,none⟩ _ _ news vC (λq u hq=>by rw[c8];exact(L6 q u hq).1) II,MM⟩
theorem abt {U:TypeId} {st:ByteArray} (hu:P.underlying U=some .string):IZ P I w U (.string st) 1 (pt st):=by
 have hl:(pt st).length=st.size:=by simp[pt]
 refine⟨Go.byteCells st,by rw[hl];exact Src.ofString w hu st,λq c hq=>?_⟩;have:=mO (sz:=1) (pt st) (by simp[pt]) q 0 (by omega);rw[Nat.mul_one,eT] at this;rw[this] at hq;simp only[pt,bj] at hq;unfold Go.byteCells;rw[bj];cases hb:st.data.toList[q]? with
 |none=>simp[hb] at hq
 |some b=>simp only[hb,cU,ju,bP,ao] at hq;exact⟨_,rfl,by rw[<- hq];exact .lit _ rfl⟩
theorem Eg {T U ty:TypeId} {X:Operand} {vy:Value} (hst:St G n I0 M w0 I β ob s a w) (hd:∀ d,o.dst=some d->d<n)
 (tq:cj tr o=(match X with | .tmp t=>some t | _=>none)) (h:dS P T (ev G s X) y K) (hy:∀ ys e,P.underlying T=some (.slice e)->∀ j,ti P e=some j->y=.c (.sl ys)->(∀ x∈ys,x.length=j.size)->IZ P I w U vy j.size ys) :
 ∃ z u w',K z/\(Builtin.append_ #[T,U] ty #[a.eval X,vy]).run P w=.ok u w'/\SE G n I0 M w0 (s.after tr o z) (a.put o.dst u) w':=by
 have hx:=bN hst X;unfold dS at h;split at h
 .rename_i e _ _ _ _ _ _ E es hi tM
  rw[tM] at hx;obtain⟨j,d,h1,h2,h3,_⟩:=bH hi;have qI:=dL h3;subst qI;split at h
  .rename_i sz by_ _ z _ _ tQ
   obtain⟨j',d',jE,nD,_,eZ,sr,_,mG,_⟩:=bH tQ;simp only at mG eZ sr;obtain⟨⟨hp,tX,hE,pG⟩,h⟩:=h;split at mG
   .rename_i zv tL
    split at h
    .rename_i ys
     obtain⟨⟨hb,cm,uZ⟩,h⟩:=h;obtain⟨news,rJ,MM⟩:=hy ys e h2 _ tQ rfl uZ;simp only at rJ;have tg:=lA (I:=I) (w:=w) mG.symm;have U2:zv.cells.size=sz:=(by rw[tg.1,tX]);have hxo:=hx.2;have rb:=hx.1;have Gm:(ev G s X).isOw=true:=(by rw[tM];rfl);by_cases AX:ys=[]
     .
      subst AX;simp only[List.isEmpty_nil,cZ] at h;obtain⟨xa,xk,yL,hxk⟩:∃ (xa:Option Addr) (xk:Nat),a.eval X=.slice xa es.length xk/\es.length<=xk:=by
       rcases hxo with⟨_,_,b,hv⟩ | ⟨_,blk,cap,_,_,_,_,hv,_,_,hc,_⟩
       .exact⟨b,_,hv,ab _⟩
       .exact⟨_,cap,hv,hc⟩
      refine⟨_,a.eval X,w,h,by have hn0:news=[]:=dz (by rw[rJ.newsLen];simp);subst hn0;rw[yL];exact ml T U ty e j' h2 jE xa _ xk hxk (by rw[<- eZ];exact rJ),?_⟩;rw[bq];refine .fin hst hd (o':=Vy ob X) ?_ λb hb=>?_
      .simp only[LR]
       refine⟨rb,?_⟩;rcases hxo with hxo | ⟨e',blk,cap,cur,sz',e1,e2,e3⟩
       .exact .inl hxo
       .exact .inr ⟨e',blk,cap,cur,sz',e1,e2,e3⟩
      .cases X with
       |tmp t=>exact⟨hst.obnd _ b hb,λi=>hst.obx _ b i hb,λL hL=>⟨t,hst.oinj _ _ b hL hb,tq,Gm⟩⟩
       |_=>cases hb
     .have mj:ys.isEmpty=false:=by simpa using AX
      simp only[mj,aM,dp] at h;have vC:=rJ.newsLen;have II:=rJ.one;have qt:Src P j'.size U vy ys.length news w:=(by rw[<- eZ];exact rJ);have grun:∀ (base:Option Addr) (sLen sCap:Nat) (olds:List Value) (_:(Builtin.firstCells j'.size sLen (.slice base sLen sCap)).run P w.drew=.ok olds.toArray w.drew) (_:sCap<sLen+ys.length) (_:sLen+ys.length<=9223372036854775807) (_:Builtin.nextslicecap (sLen+ys.length) sCap*j'.bytes<=281474976710656),
       (Builtin.append_ #[T,U] ty #[.slice base sLen sCap,vy]).run P w=.ok (.slice (some ⟨w.heap.size,0,none⟩) (sLen+ys.length) (grownCap w (sLen+ys.length) sCap e))
        (w.drew.alloc (.cells (olds.toArray++news.toArray++Builtin.zeroCells zv.cells (grownCap w (sLen+ys.length) sCap e - (sLen+ys.length))) e)):=by
       intro base sLen sCap olds ho hg h63 vO;have:=run_append_grow_src (P:=P) w T U ty e j' zv h2 jE tL base sLen sCap olds ho vy ys.length news qt hg (by omega) vO;rw[this];simp
      have Po:0<ys.length:=gU.2 AX;have eE:∀ x∈es++ys,x.length=sz:=λx hx=>by rcases ba.1 hx with hx | hx;exact pG x hx;exact uZ x hx
      have DZ:es.length+ys.length<=maxLen:=(by unfold maxLen;omega);have flat_eq:(es++ys).flatten=es.flatten++ys.flatten:=(by simp);have hfe:=bK es pG;have grownCase:∀ (olds:List Value) (cap0:Nat),olds.length=es.length*sz->(∀ (q:Nat) (c:C),es.flatten[q]?=some c->∃ u,olds[q]?=some u/\CR I w u c)->
       SE G n I0 M w0 (s.after tr o (.ow (some (e,sz)) (es++ys))) (a.put o.dst (.slice (some ⟨w.heap.size,0,none⟩) (es.length+ys.length) (grownCap w (es.length+ys.length) cap0 e)))
        (w.drew.alloc (.cells (olds.toArray++news.toArray++Builtin.zeroCells zv.cells (grownCap w (es.length+ys.length) cap0 e - (es.length+ys.length))) e)):=by
       intro olds cap0 yR D7;have fO:=grownCap_ge w (es.length+ys.length) cap0 e;have hcm:=grownCap_le_maxLen w (es.length+ys.length) cap0 e DZ;have:=SE.finRow (tr:=tr) (o:=o) (e:=e) (cap:=grownCap w (es.length+ys.length) cap0 e) (sz:=sz) (es:=es++ys)
        (cur:=olds.toArray++news.toArray++Builtin.zeroCells zv.cells (grownCap w (es.length+ys.length) cap0 e - (es.length+ys.length))) hst hd (w1:=w.drew) hst.drew rfl
        (by simpa using fO) hcm (by
         simp only[Array.size_append,eN,size_zeroCells,U2,yR,vC,<- df];congr 1;omega) eE (λq c hq=>by
          rw[flat_eq] at hq;have qu:∃ u,(olds++news)[q]?=some u/\CR I w u c:=by
           by_cases nE:q<es.flatten.length
           .rw[az nE] at hq
            obtain⟨u,hu,jr⟩:=D7 q c hq;exact⟨u,by rw[az (by omega)];exact hu,jr⟩
           .rw[aG (by omega)] at hq
            obtain⟨u,hu,jr⟩:=MM _ c hq;refine⟨u,?_,jr⟩;rw[aG (by omega),<- hu];congr 1;omega
          obtain⟨u,hu,jr⟩:=qu;rw[lC olds news _ q u hu];exact jr) (λ_ _ _=>rfl)
       rw[ae] at this;exact this
      rcases hxo with⟨hob0,_,xa,yL⟩ | ⟨e',blk,cap,cur,sz',Pq,MJ,yL,Re,iz,hc,hcm,js,dU,hIb⟩
      .cases xa with
       |none=>
        have IA:es=[]:=by
         rcases rb.sl_inv with⟨_,h1⟩ | ⟨b,off,cap,_,_,hv,_⟩
         .exact h1
         .rw[yL] at hv;cases hv
        subst IA;have bO:=grun none 0 0 [] (by simpa using run_firstCells_none (P:=P) w.drew j'.size 0 0 0) (by simp only[aF,aJ] at cm;omega) (by simp only[aF,aJ] at cm;omega)
         (by rw[<- sr];simp only[aF] at hb;exact iN (by omega) hb)
        simp only[aJ] at bO;have:=grownCase [] 0 (by simp) (by simp);simp only[eu,aF,aJ,eO] at this h;refine⟨_,_,_,h,by rw[yL];exact bO,?_⟩;simpa using this
       |some xaddr=>rw[yL] at rb;obtain⟨olds,yR,holds,D7,_⟩:=rb.oldsOf pG;have bO:=grun (some xaddr) es.length es.length olds (ji (P:=P) w.drew j'.size es.length xaddr es.length es.length olds (by rw[<- eZ];exact yR) (by simpa using holds)) (by omega) (by omega) (by rw[<- sr];exact iN (by omega) hb);exact⟨_,_,_,h,by rw[yL];exact bO,grownCase olds es.length yR D7⟩
      .have hee:e'=e/\sz'=sz:=by
        rcases hE with hE | hE
        .rw[hE] at MJ;cases MJ
        .rw[hE] at MJ;cases MJ;exact⟨rfl,rfl⟩
       obtain⟨rfl,rfl⟩:=hee;rw[yL] at rb;obtain⟨olds,yR,holds,D7,_⟩:=rb.flat pG;by_cases mZ:es.length+ys.length<=cap
       .
        cases X with
        |tmp t=>
         have tR:ob (.t t)=some blk:=Pq;have bO:=ja (P:=P) (w:=w) T U ty e' j' h2 jE blk 0 es.length cap cur (.of e') iz RT.of_ok vy ys.length news qt mZ (by rw[<- eZ,vC,js,aJ,<- df];exact aO _ mZ);rw[<- eZ] at bO;simp only[aJ] at bO;refine⟨_,_,_,h,by rw[yL];exact bO,?_⟩;have xm:blk<w.heap.size:=(bg.1 iz).1;have QX:es.length*sz'+news.length<=cur.size:=(by rw[vC,js,<- df];exact aO _ mZ);have cN:=hst.clr t;have u3:∀ o,o<es.length*sz'->(cur.toList.take (es.length*sz')++news++cur.toList.drop (es.length*sz'+news.length)).toArray[o]?=cur[o]?:=λo ho=>by simp only[dw,aH];rw[az (by simp;omega),cC,if_pos ho,aS]
         have mY:∀ o,I blk o->(w.setRow blk (cur.toList.take (es.length*sz')++news++cur.toList.drop (es.length*sz'+news.length)).toArray).cell? ⟨blk,o,none⟩=w.cell? ⟨blk,o,none⟩:=λo ho=>by rw[cell_setRow_same w blk o cur _ e' (0,0) iz,ff w blk o cur e' (0,0) iz];exact u3 o (hIb o ho)
         have aaO:∀ L,upL ob (.t t) none L≠some blk:=λL hL=>by
          simp only[upL] at hL;split at hL
          .cases hL
          .rename_i gZ;exact gZ (hst.oinj _ _ blk hL tR)
         have hg:w.grb (w.setRow blk (cur.toList.take (es.length*sz')++news++cur.toList.drop (es.length*sz'+news.length)).toArray) (some blk):=
          ⟨rfl,rfl,rfl,by simp,λk _ hk=>jZ w blk k _ (λe=>hk (by rw[e])),ab _⟩
         have nB:=cN.growRow hg Re mY aaO (λi=>hst.obx _ blk i tR) (I':=λb o=>I b o∨(b=blk/\o<(es.length+ys.length)*sz'))
          (λ_ _ h=>.inl h) (λb o hb=>by rcases hb with hb | hb;exact .inl hb;exact .inr hb.1) (by simpa using xm)
         have kD:∀ b o,I b o->(I b o∨(b=blk/\o<(es.length+ys.length)*sz'))/\
          (w.setRow blk (cur.toList.take (es.length*sz')++news++cur.toList.drop (es.length*sz'+news.length)).toArray).cell? ⟨b,o,none⟩=w.cell? ⟨b,o,none⟩:=
          λb o hb=>⟨.inl hb,hst.keeps hg (λr e o ho=>by cases e;exact mY o ho) b o hb⟩
         have su:=lR w blk cur (cur.toList.take (es.length*sz')++news++cur.toList.drop (es.length*sz'+news.length)).toArray e' (0,0) iz;have Gn:(cur.toList.take (es.length*sz')++news++cur.toList.drop (es.length*sz'+news.length)).toArray.size=cap*sz':=(by simp only[eN,ae,aQ,cG,bX];omega);have jr:CR (λb o=>I b o∨(b=blk/\o<(es.length+ys.length)*sz')) (w.setRow blk (cur.toList.take (es.length*sz')++news++cur.toList.drop (es.length*sz'+news.length)).toArray)
          (.slice (some ⟨blk,0,none⟩) (es++ys).length cap) (.sl (es++ys)):=
          CR.row su (by simpa using mZ) eE (λq c hq=>by
           have nE:=(ai.1 hq).1;rw[bK _ eE,ae,df] at nE;refine⟨by rw[Gn,<- js];omega,?_⟩;rw[flat_eq] at hq;by_cases hq1:q<es.flatten.length
           .rw[az hq1] at hq
            obtain⟨u,hu,jr⟩:=D7 q c hq;have eR:=(holds q u hu).1;rw[aJ,ff w blk q cur e' (0,0) iz] at eR;rw[ak,u3 q (by omega),eR];exact jr.mono kD
           .rw[aG (by omega)] at hq
            obtain⟨u,hu,jr⟩:=MM _ c hq;have:(cur.toList.take (es.length*sz')++news++cur.toList.drop (es.length*sz'+news.length)).toArray[q]?=some u:=(by simp only[dw];have QY:(cur.toList.take (es.length*sz')).length=es.length*sz':=(by have j8:cur.toList.length=cur.size:=bX;rw[aQ,j8];omega);rw[az (by rw[ae,QY];omega),aG (by rw[QY];omega),<- hu,QY,hfe]);rw[ak,this];exact jr.mono kD) (λo ho=>.inr ⟨rfl,by simpa using ho⟩)
         have D1:s.after tr o (.ow (some (e',sz')) (es++ys))=(s.clr t).put o.dst (.ow (some (e',sz')) (es++ys)):=(by unfold S.after;rw[tq];simp only[S.use];have:(s.fr t).isOw=true:=Gm;rw[if_pos this]);rw[D1];cases lP:o.dst with
         |none=>exact⟨_,_,_,nB⟩
         |some dd=>
          refine⟨_,_,_,nB.put dd (hd dd lP) (o:=some blk) ?_ λb hb=>?_⟩
          .have IC:Value.slice (some ⟨blk,0,none⟩) (es.length+ys.length) cap=Value.slice (some ⟨blk,0,none⟩) (es++ys).length cap:=by rw[ae]
           rw[IC];simp only[LR];refine⟨jr,.inr ⟨e',blk,cap,_,sz',rfl,rfl,rfl,Re,su,by simpa using mZ,hcm,Gn,eE,λo ho=>?_⟩⟩;rw[ae];rcases ho with ho | ho
           .have:=hIb o ho;rw[df];omega
           .exact ho.2
          .simp only[ao] at hb
           subst hb;refine⟨⟨by simpa using xm,Re⟩,λL hL=>?_,λi=>hst.obx _ blk i tR⟩;simp only[upL] at hL;split at hL
           .cases hL
           .split at hL
            .cases hL
            .rename_i h5 h6;exact h6 (hst.oinj _ _ blk hL tR)
        |_=>cases Pq
       .have bO:=grun (some ⟨blk,0,none⟩) es.length cap olds (ji (P:=P) w.drew j'.size es.length ⟨blk,0,none⟩ es.length cap olds (by rw[<- eZ];exact yR) (λq u hq=>by rw[c8];simpa using(holds q u hq).1)) (by omega) (by omega) (by rw[<- sr];exact iN (by omega) hb)
        exact⟨_,_,_,h,by rw[yL];exact bO,grownCase olds cap yR D7⟩
    .exact h.elim
   .cases mG
  .exact h.elim
 .exact h.elim
theorem I4 {T U ty:TypeId} {t0:Tmp} {E:Option (TypeId×Nat)} {es:List (List C)} {vy:Value} (hst:St G n I0 M w0 I β ob s a w) (hd:∀ d,o.dst=some d->d<n)
 (tq:cj tr o=some t0) (tM:s.fr t0=.ow E es) (h:tY P [T,U] E es y K) (hy:∀ ys e,P.underlying T=some (.slice e)->∀ j,ti P e=some j->y=.c (.sl ys)->(∀ x∈ys,x.length=j.size)->IZ P I w U vy j.size ys) :
 ∃ z u w',K z/\(Builtin.append_ #[T,U] ty #[a.tmps.getD t0 undef,vy]).run P w=.ok u w'/\SE G n I0 M w0 (s.after tr o z) (a.put o.dst u) w':=by
 have hx:=hst.fr t0;rw[tM] at hx;simp only[tY] at h;obtain⟨rfl,h⟩:=h;split at h
 .rename_i e _ _ _ _ _ _ hi
  obtain⟨j,d,h1,h2,h3,_⟩:=bH hi;have qI:=dL h3;subst qI;split at h
  .rename_i sz by_ _ z _ _ tQ
   obtain⟨j',d',jE,nD,_,eZ,sr,_,mG,_⟩:=bH tQ;simp only at mG eZ sr;obtain⟨⟨hp,tX,hE,pG⟩,h⟩:=h;split at mG
   .rename_i zv tL
    split at h
    .rename_i y1
     obtain⟨⟨hb,cm,Gp⟩,h⟩:=h;have uZ:∀ x∈[y1],x.length=sz:=λx hx=>by rw[aX] at hx;subst hx;exact Gp
     obtain⟨news,rJ,MM⟩:=hy [y1] e h2 _ tQ rfl uZ;simp only at rJ;have tg:=lA (I:=I) (w:=w) mG.symm;have U2:zv.cells.size=sz:=(by rw[tg.1,tX]);have hxo:=hx.2;have rb:=hx.1;have Gm:(s.fr t0).isOw=true:=(by rw[tM];rfl);have AX:([y1]:List (List C))≠[]:=(by simp);have vC:=rJ.newsLen;have II:=rJ.one;have qt:Src P j'.size T vy [y1].length news w:=(by rw[<- eZ];exact rJ);have grun:∀ (base:Option Addr) (sLen sCap:Nat) (olds:List Value) (_:(Builtin.firstCells j'.size sLen (.slice base sLen sCap)).run P w.drew=.ok olds.toArray w.drew) (_:sCap<sLen+[y1].length) (_:sLen+[y1].length<=9223372036854775807) (_:Builtin.nextslicecap (sLen+[y1].length) sCap*j'.bytes<=281474976710656),
      (Builtin.append_ #[T,T] ty #[.slice base sLen sCap,vy]).run P w=.ok (.slice (some ⟨w.heap.size,0,none⟩) (sLen+[y1].length) (grownCap w (sLen+[y1].length) sCap e))
       (w.drew.alloc (.cells (olds.toArray++news.toArray++Builtin.zeroCells zv.cells (grownCap w (sLen+[y1].length) sCap e - (sLen+[y1].length))) e)):=by
      intro base sLen sCap olds ho hg h63 vO;have:=run_append_grow_src (P:=P) w T T ty e j' zv h2 jE tL base sLen sCap olds ho vy [y1].length news qt hg (by omega) vO;rw[this];simp
     have Po:0<[y1].length:=gU.2 AX;have eE:∀ x∈es++[y1],x.length=sz:=λx hx=>by rcases ba.1 hx with hx | hx;exact pG x hx;exact uZ x hx
     have DZ:es.length+[y1].length<=maxLen:=(by unfold maxLen;omega);have flat_eq:(es++[y1]).flatten=es.flatten++[y1].flatten:=(by simp);have hfe:=bK es pG;have grownCase:∀ (olds:List Value) (cap0:Nat),olds.length=es.length*sz->(∀ (q:Nat) (c:C),es.flatten[q]?=some c->∃ u,olds[q]?=some u/\CR I w u c)->
      SE G n I0 M w0 (s.after tr o (.hh none (some (e,sz)) (es++[y1]))) (a.put o.dst (.slice (some ⟨w.heap.size,0,none⟩) (es.length+[y1].length) (grownCap w (es.length+[y1].length) cap0 e)))
       (w.drew.alloc (.cells (olds.toArray++news.toArray++Builtin.zeroCells zv.cells (grownCap w (es.length+[y1].length) cap0 e - (es.length+[y1].length))) e)):=by
      intro olds cap0 yR D7;have fO:=grownCap_ge w (es.length+[y1].length) cap0 e;have hcm:=grownCap_le_maxLen w (es.length+[y1].length) cap0 e DZ;have:=SE.finRowH (tr:=tr) (o:=o) (e:=e) (cap:=grownCap w (es.length+[y1].length) cap0 e) (sz:=sz) (es:=es++[y1])
       (cur:=olds.toArray++news.toArray++Builtin.zeroCells zv.cells (grownCap w (es.length+[y1].length) cap0 e - (es.length+[y1].length))) hst hd (w1:=w.drew) hst.drew rfl
       (by simpa using fO) hcm (by
        simp only[Array.size_append,eN,size_zeroCells,U2,yR,vC,<- df];congr 1;omega) eE (λq c hq=>by
         rw[flat_eq] at hq;have qu:∃ u,(olds++news)[q]?=some u/\CR I w u c:=by
          by_cases nE:q<es.flatten.length
          .rw[az nE] at hq
           obtain⟨u,hu,jr⟩:=D7 q c hq;exact⟨u,by rw[az (by omega)];exact hu,jr⟩
          .rw[aG (by omega)] at hq
           obtain⟨u,hu,jr⟩:=MM _ c hq;refine⟨u,?_,jr⟩;rw[aG (by omega),<- hu];congr 1;omega
         obtain⟨u,hu,jr⟩:=qu;rw[lC olds news _ q u hu];exact jr) (λ_ _ _=>rfl)
      rw[ae] at this;exact this
     rcases hxo with⟨hob0,_,xa,yL⟩ | ⟨e',blk,cap,cur,sz',Pq,MJ,yL,Re,iz,hc,hcm,js,dU,hIb⟩
     .cases xa with
      |none=>
       have IA:es=[]:=by
        rcases rb.sl_inv with⟨_,h1⟩ | ⟨b,off,cap,_,_,hv,_⟩
        .exact h1
        .rw[yL] at hv;cases hv
       subst IA;have bO:=grun none 0 0 [] (by simpa using run_firstCells_none (P:=P) w.drew j'.size 0 0 0) (by simp only[aF,aJ] at cm;omega) (by simp only[aF,aJ] at cm;omega)
        (by rw[<- sr];simp only[aF] at hb;exact iN (by omega) hb)
       simp only[aJ] at bO;have:=grownCase [] 0 (by simp) (by simp);simp only[eu,aF,aJ,eO] at this h;refine⟨_,_,_,h,by rw[yL];exact bO,?_⟩;simpa using this
      |some xaddr=>rw[yL] at rb;obtain⟨olds,yR,holds,D7,_⟩:=rb.oldsOf pG;have bO:=grun (some xaddr) es.length es.length olds (ji (P:=P) w.drew j'.size es.length xaddr es.length es.length olds (by rw[<- eZ];exact yR) (by simpa using holds)) (by omega) (by omega) (by rw[<- sr];exact iN (by omega) hb);exact⟨_,_,_,h,by rw[yL];exact bO,grownCase olds es.length yR D7⟩
     .have hee:e'=e/\sz'=sz:=by
       rcases hE with hE | hE
       .rw[hE] at MJ;cases MJ
       .rw[hE] at MJ;cases MJ;exact⟨rfl,rfl⟩
      obtain⟨rfl,rfl⟩:=hee;rw[yL] at rb;obtain⟨olds,yR,holds,D7,_⟩:=rb.flat pG;by_cases mZ:es.length+[y1].length<=cap
      .
       have tR:ob (.t t0)=some blk:=Pq;have bO:=ja (P:=P) (w:=w) T T ty e' j' h2 jE blk 0 es.length cap cur (.of e') iz RT.of_ok vy [y1].length news qt mZ (by rw[<- eZ,vC,js,aJ,<- df];exact aO _ mZ);rw[<- eZ] at bO;simp only[aJ] at bO;refine⟨_,_,_,h,by rw[yL];exact bO,?_⟩;have xm:blk<w.heap.size:=(bg.1 iz).1;have QX:es.length*sz'+news.length<=cur.size:=(by rw[vC,js,<- df];exact aO _ mZ);have cN:=hst.clr t0;have u3:∀ o,o<es.length*sz'->(cur.toList.take (es.length*sz')++news++cur.toList.drop (es.length*sz'+news.length)).toArray[o]?=cur[o]?:=λo ho=>by simp only[dw,aH];rw[az (by simp;omega),cC,if_pos ho,aS]
       have mY:∀ o,I blk o->(w.setRow blk (cur.toList.take (es.length*sz')++news++cur.toList.drop (es.length*sz'+news.length)).toArray).cell? ⟨blk,o,none⟩=w.cell? ⟨blk,o,none⟩:=λo ho=>by rw[cell_setRow_same w blk o cur _ e' (0,0) iz,ff w blk o cur e' (0,0) iz];exact u3 o (hIb o ho)
       have aaO:∀ L,upL ob (.t t0) none L≠some blk:=λL hL=>by
        simp only[upL] at hL;split at hL
        .cases hL
        .rename_i gZ;exact gZ (hst.oinj _ _ blk hL tR)
       have hg:w.grb (w.setRow blk (cur.toList.take (es.length*sz')++news++cur.toList.drop (es.length*sz'+news.length)).toArray) (some blk):=
        ⟨rfl,rfl,rfl,by simp,λk _ hk=>jZ w blk k _ (λe=>hk (by rw[e])),ab _⟩
       have nB:=cN.growRow hg Re mY aaO (λi=>hst.obx _ blk i tR) (I':=I)
        (λ_ _ h=>h) (λb o hb=>.inl hb) (by simpa using xm)
       have kD:∀ b o,I b o->I b o/\
        (w.setRow blk (cur.toList.take (es.length*sz')++news++cur.toList.drop (es.length*sz'+news.length)).toArray).cell? ⟨b,o,none⟩=w.cell? ⟨b,o,none⟩:=
        λb o hb=>⟨hb,hst.keeps hg (λr e o ho=>by cases e;exact mY o ho) b o hb⟩
       have su:=lR w blk cur (cur.toList.take (es.length*sz')++news++cur.toList.drop (es.length*sz'+news.length)).toArray e' (0,0) iz;have Gn:(cur.toList.take (es.length*sz')++news++cur.toList.drop (es.length*sz'+news.length)).toArray.size=cap*sz':=(by simp only[eN,ae,aQ,cG,bX];omega);have jr:∀ (q:Nat) (c:C),(es++[y1]).flatten[q]?=some c->CR I (w.setRow blk (cur.toList.take (es.length*sz')++news++cur.toList.drop (es.length*sz'+news.length)).toArray) ((cur.toList.take (es.length*sz')++news++cur.toList.drop (es.length*sz'+news.length)).toArray.getD q undef) c:=
        (λq c hq=>by
         have nE:=(ai.1 hq).1;rw[bK _ eE,ae,df] at nE;rw[flat_eq] at hq;by_cases hq1:q<es.flatten.length
         .rw[az hq1] at hq
          obtain⟨u,hu,jr⟩:=D7 q c hq;have eR:=(holds q u hu).1;rw[aJ,ff w blk q cur e' (0,0) iz] at eR;rw[ak,u3 q (by omega),eR];exact jr.mono kD
         .rw[aG (by omega)] at hq
          obtain⟨u,hu,jr⟩:=MM _ c hq;have:(cur.toList.take (es.length*sz')++news++cur.toList.drop (es.length*sz'+news.length)).toArray[q]?=some u:=(by simp only[dw];have QY:(cur.toList.take (es.length*sz')).length=es.length*sz':=(by have j8:cur.toList.length=cur.size:=bX;rw[aQ,j8];omega);rw[az (by rw[ae,QY];omega),aG (by rw[QY];omega),<- hu,QY,hfe]);rw[ak,this];exact jr.mono kD)
       have D1:s.after tr o (.hh none (some (e',sz')) (es++[y1]))=(s.clr t0).put o.dst (.hh none (some (e',sz')) (es++[y1])):=(by unfold S.after;rw[tq];simp only[S.use];have:(s.fr t0).isOw=true:=Gm;rw[if_pos this]);rw[D1];cases lP:o.dst with
       |none=>exact⟨_,_,_,nB⟩
       |some dd=>
        refine⟨_,_,_,nB.put dd (hd dd lP) (o:=some blk) ?_ λb hb=>?_⟩
        .have IC:Value.slice (some ⟨blk,0,none⟩) (es.length+[y1].length) cap=Value.slice (some ⟨blk,0,none⟩) (es++[y1]).length cap:=by rw[ae]
         rw[IC];simp only[LR];refine⟨(λ_ h=>by cases h),e',blk,cap,_,sz',rfl,rfl,rfl,Re,su,by simpa using mZ,hcm,Gn,eE,jr,λo ho=>?_,λo ho=>?_⟩
         .rw[ae,bA,Nat.add_sub_cancel] at ho
          obtain⟨u,hu⟩:∃ u,olds[o]?=some u:=⟨_,ah (by omega)⟩;have:=(holds o u hu).2;rwa [aJ] at this
         .rw[ae,bA,Nat.add_sub_cancel]
          exact hIb o ho
        .simp only[ao] at hb
         subst hb;refine⟨⟨by simpa using xm,Re⟩,λL hL=>?_,λi=>hst.obx _ blk i tR⟩;simp only[upL] at hL;split at hL
         .cases hL
         .split at hL
          .cases hL
          .rename_i h5 h6;exact h6 (hst.oinj _ _ blk hL tR)
      .have bO:=grun (some ⟨blk,0,none⟩) es.length cap olds (ji (P:=P) w.drew j'.size es.length ⟨blk,0,none⟩ es.length cap olds (by rw[<- eZ];exact yR) (λq u hq=>by rw[c8];simpa using(holds q u hq).1)) (by omega) (by omega) (by rw[<- sr];exact iN (by omega) hb)
       exact⟨_,_,_,h,by rw[yL];exact bO,grownCase olds cap yR D7⟩
    .exact h.elim
   .cases mG
  .exact h.elim
 .exact h.elim
theorem vU {z:Array Value} {m:Nat} {u:Value} (h:u∈Builtin.zeroCells z m):u∈z:=by
 unfold Builtin.zeroCells at h;simp only[Array.mem_map,Array.mem_range] at h;obtain⟨i,hi,rfl⟩:=h;have hz:0<z.size:=Nat.pos_of_ne_zero λh=>by rw[h] at hi;simp at hi
 have bF:i % z.size<z.size:=Nat.mod_lt _ hz;rw[getElem!_pos z _ bF];exact Array.getElem_mem bF
theorem zW {T U ty:TypeId} {t0:Tmp} {E:Option (TypeId×Nat)} {es:List (List C)} {vy:Value} (hst:St G n I0 M w0 I β ob s a w) (hd:∀ d,o.dst=some d->d<n)
 (tq:cj tr o=some t0) (tM:s.fr t0=.gs none E es) (h:nL P [T,U] E es y K) (hy:∀ ys e,P.underlying T=some (.slice e)->∀ j,ti P e=some j->y=.c (.sl ys)->(∀ x∈ys,x.length=j.size)->IZ P I w U vy j.size ys) :
 ∃ z u w',K z/\(Builtin.append_ #[T,U] ty #[a.tmps.getD t0 undef,vy]).run P w=.ok u w'/\SE G n I0 M w0 (s.after tr o z) (a.put o.dst u) w':=by
 have hx:=hst.fr t0;rw[tM] at hx;simp only[nL] at h;obtain⟨rfl,h⟩:=h;split at h
 .rename_i e _ _ _ _ _ _ hi
  obtain⟨j,d,h1,h2,h3,_⟩:=bH hi;have qI:=dL h3;subst qI;split at h
  .rename_i sz by_ _ z _ _ tQ
   obtain⟨j',d',jE,nD,_,eZ,sr,_,mG,_⟩:=bH tQ;simp only at mG eZ sr;obtain⟨⟨hp,tX,hE,pG⟩,h⟩:=h;split at mG
   .rename_i zv tL
    split at h
    .rename_i y1
     obtain⟨⟨hb,cm,Gp⟩,h⟩:=h;have uZ:∀ x∈[y1],x.length=sz:=λx hx=>by rw[aX] at hx;subst hx;exact Gp
     obtain⟨news,rJ,MM⟩:=hy [y1] e h2 _ tQ rfl uZ;simp only at rJ;have tg:=lA (I:=I) (w:=w) mG.symm;have U2:zv.cells.size=sz:=(by rw[tg.1,tX]);have zone:∀ u∈zv.cells,u.oneCell'=true:=λu hu=>by obtain⟨q,hq,rfl⟩:=fB.1 hu;have nE:q<z.length:=(by rw[<- tg.1];exact hq);have:=(tg.2 q _ (ah nE)).oneCell;simpa[ax hq,hq] using this
     have hxo:=hx.2;have Gm:(s.fr t0).isOw=true:=(by rw[tM];rfl);have AX:([y1]:List (List C))≠[]:=(by simp);have vC:=rJ.newsLen;have II:=rJ.one;have qt:Src P j'.size T vy [y1].length news w:=(by rw[<- eZ];exact rJ);have grun:∀ (base:Option Addr) (sLen sCap:Nat) (olds:List Value) (_:(Builtin.firstCells j'.size sLen (.slice base sLen sCap)).run P w.drew=.ok olds.toArray w.drew) (_:sCap<sLen+[y1].length) (_:sLen+[y1].length<=9223372036854775807) (_:Builtin.nextslicecap (sLen+[y1].length) sCap*j'.bytes<=281474976710656),
      (Builtin.append_ #[T,T] ty #[.slice base sLen sCap,vy]).run P w=.ok (.slice (some ⟨w.heap.size,0,none⟩) (sLen+[y1].length) (grownCap w (sLen+[y1].length) sCap e))
       (w.drew.alloc (.cells (olds.toArray++news.toArray++Builtin.zeroCells zv.cells (grownCap w (sLen+[y1].length) sCap e - (sLen+[y1].length))) e)):=by
      intro base sLen sCap olds ho hg h63 vO;have:=run_append_grow_src (P:=P) w T T ty e j' zv h2 jE tL base sLen sCap olds ho vy [y1].length news qt hg (by omega) vO;rw[this];simp
     have Po:0<[y1].length:=gU.2 AX;have eE:∀ x∈es++[y1],x.length=sz:=λx hx=>by rcases ba.1 hx with hx | hx;exact pG x hx;exact uZ x hx
     have DZ:es.length+[y1].length<=maxLen:=(by unfold maxLen;omega);have flat_eq:(es++[y1]).flatten=es.flatten++[y1].flatten:=(by simp);have hfe:=bK es pG;have grownCase:∀ (olds:List Value) (cap0:Nat),olds.length=es.length*sz->(∀ (q:Nat) (c:C),es.flatten[q]?=some c->∃ u,olds[q]?=some u/\CR I w u c)->(∀ u∈olds,u.oneCell'=true)->
      SE G n I0 M w0 (s.after tr o (.gs none (some (e,sz)) (es++[y1]))) (a.put o.dst (.slice (some ⟨w.heap.size,0,none⟩) (es.length+[y1].length) (grownCap w (es.length+[y1].length) cap0 e)))
       (w.drew.alloc (.cells (olds.toArray++news.toArray++Builtin.zeroCells zv.cells (grownCap w (es.length+[y1].length) cap0 e - (es.length+[y1].length))) e)):=by
      intro olds cap0 yR D7 ho1;have fO:=grownCap_ge w (es.length+[y1].length) cap0 e;have hcm:=grownCap_le_maxLen w (es.length+[y1].length) cap0 e DZ;have:=SE.finRowG (tr:=tr) (o:=o) (e:=e) (cap:=grownCap w (es.length+[y1].length) cap0 e) (sz:=sz) (es:=es++[y1])
       (cur:=olds.toArray++news.toArray++Builtin.zeroCells zv.cells (grownCap w (es.length+[y1].length) cap0 e - (es.length+[y1].length))) hst hd (w1:=w.drew) hst.drew rfl
       (by simpa using fO) hcm (by
        simp only[Array.size_append,eN,size_zeroCells,U2,yR,vC,<- df];congr 1;omega) eE (λq c hq=>by
         rw[flat_eq] at hq;have qu:∃ u,(olds++news)[q]?=some u/\CR I w u c:=by
          by_cases nE:q<es.flatten.length
          .rw[az nE] at hq
           obtain⟨u,hu,jr⟩:=D7 q c hq;exact⟨u,by rw[az (by omega)];exact hu,jr⟩
          .rw[aG (by omega)] at hq
           obtain⟨u,hu,jr⟩:=MM _ c hq;refine⟨u,?_,jr⟩;rw[aG (by omega),<- hu];congr 1;omega
         obtain⟨u,hu,jr⟩:=qu;rw[lC olds news _ q u hu];exact jr) (λu hu=>by
          simp only[Array.mem_append,gr] at hu;rcases hu with(hu | hu) | hu
          .exact ho1 u hu
          .exact II u hu
          .exact zone u (vU hu)) (λ_ _ _=>rfl)
      rw[ae] at this;exact this
     rcases hxo with⟨hob0,hE0,IA,xa,yL⟩ | ⟨e',blk,cap,cur,sz',Pq,MJ,yL,Re,iz,hc,hcm,js,dU,D6,ke,gw⟩
     .subst IA
      have nilCase:∀ (base:Option Addr),(Builtin.append_ #[T,T] ty #[.slice base 0 0,vy]).run P w=.ok (.slice (some ⟨w.heap.size,0,none⟩) (0+[y1].length) (grownCap w (0+[y1].length) 0 e))
       (w.drew.alloc (.cells (([]:List Value).toArray++news.toArray++Builtin.zeroCells zv.cells (grownCap w (0+[y1].length) 0 e - (0+[y1].length))) e)):=λbase=>by
       refine grun base 0 0 [] ?_ (by simp) (by simp) (by rw[<- sr];exact iN (by simp) (by simpa using hb));cases base with
       |none=>simpa using run_firstCells_none (P:=P) w.drew j'.size 0 0 0
       |some xaddr=>exact ji (P:=P) w.drew j'.size 0 xaddr 0 0 [] (by simp) (by simp)
      have bO:=nilCase xa;have:=grownCase [] 0 (by simp) (by simp) (by simp);simp only[eu,aF,aJ,eO] at this h bO;refine⟨_,_,_,h,by rw[yL];exact bO,?_⟩;simpa using this
     .have hee:e'=e/\sz'=sz:=by
       rcases hE with hE | hE
       .rw[hE] at MJ;cases MJ
       .rw[hE] at MJ;cases MJ;exact⟨rfl,rfl⟩
      obtain⟨rfl,rfl⟩:=hee;have aqf:=aO sz' hc;obtain⟨olds,yR,akW⟩:∃ olds:List Value,olds.length=es.length*sz'/\∀ q,q<es.length*sz'->olds[q]?=cur[q]?:=⟨cur.toList.take (es.length*sz'),by rw[aQ];exact bR (by have h9:cur.toList.length=cur.size:=bX;rw[h9,js];exact aqf),λq hq=>by rw[cC,if_pos hq,aS]⟩;have D7:∀ (q:Nat) (c:C),es.flatten[q]?=some c->∃ u,olds[q]?=some u/\CR I w u c:=λq c hq=>by have nE:=(ai.1 hq).1;rw[hfe] at nE;refine⟨cur.getD q undef,?_,D6 q c hq⟩;rw[akW q nE,ak,ax (show q<cur.size by omega)];rfl
      have ho1:∀ u∈olds,u.oneCell'=true:=λu hu=>by obtain⟨q,hq,rfl⟩:=gR hu;have h7:=akW q (by omega);rw[ah hq] at h7;exact ke _ (fA h7.symm)
      have holds:∀ (q:Nat) (u:Value),olds[q]?=some u->w.cell? ⟨blk,0+q,none⟩=some u:=λq u hq=>by have nE:=(ai.1 hq).1;rw[aJ,ff w blk q cur e' (0,0) iz,<- hq,akW q (by omega)]
      by_cases mZ:es.length+[y1].length<=cap
      .
       have tR:ob (.t t0)=some blk:=Pq;have bO:=ja (P:=P) (w:=w) T T ty e' j' h2 jE blk 0 es.length cap cur (.of e') iz RT.of_ok vy [y1].length news qt mZ (by rw[<- eZ,vC,js,aJ,<- df];exact aO _ mZ);rw[<- eZ] at bO;simp only[aJ] at bO;refine⟨_,_,_,h,by rw[yL];exact bO,?_⟩;have xm:blk<w.heap.size:=(bg.1 iz).1;have QX:es.length*sz'+news.length<=cur.size:=(by rw[vC,js,<- df];exact aO _ mZ);have cN:=hst.clr t0;have u3:∀ o,o<es.length*sz'->(cur.toList.take (es.length*sz')++news++cur.toList.drop (es.length*sz'+news.length)).toArray[o]?=cur[o]?:=λo ho=>by simp only[dw,aH];rw[az (by simp;omega),cC,if_pos ho,aS]
       have mY:∀ o,I blk o->(w.setRow blk (cur.toList.take (es.length*sz')++news++cur.toList.drop (es.length*sz'+news.length)).toArray).cell? ⟨blk,o,none⟩=w.cell? ⟨blk,o,none⟩:=λo ho=>by exact absurd ho (gw o)
       have aaO:∀ L,upL ob (.t t0) none L≠some blk:=λL hL=>by
        simp only[upL] at hL;split at hL
        .cases hL
        .rename_i gZ;exact gZ (hst.oinj _ _ blk hL tR)
       have hg:w.grb (w.setRow blk (cur.toList.take (es.length*sz')++news++cur.toList.drop (es.length*sz'+news.length)).toArray) (some blk):=
        ⟨rfl,rfl,rfl,by simp,λk _ hk=>jZ w blk k _ (λe=>hk (by rw[e])),ab _⟩
       have nB:=cN.growRow hg Re mY aaO (λi=>hst.obx _ blk i tR) (I':=I)
        (λ_ _ h=>h) (λb o hb=>.inl hb) (by simpa using xm)
       have kD:∀ b o,I b o->I b o/\
        (w.setRow blk (cur.toList.take (es.length*sz')++news++cur.toList.drop (es.length*sz'+news.length)).toArray).cell? ⟨b,o,none⟩=w.cell? ⟨b,o,none⟩:=
        λb o hb=>⟨hb,hst.keeps hg (λr e o ho=>by cases e;exact mY o ho) b o hb⟩
       have su:=lR w blk cur (cur.toList.take (es.length*sz')++news++cur.toList.drop (es.length*sz'+news.length)).toArray e' (0,0) iz;have Gn:(cur.toList.take (es.length*sz')++news++cur.toList.drop (es.length*sz'+news.length)).toArray.size=cap*sz':=(by simp only[eN,ae,aQ,cG,bX];omega);have jr:∀ (q:Nat) (c:C),(es++[y1]).flatten[q]?=some c->CR I (w.setRow blk (cur.toList.take (es.length*sz')++news++cur.toList.drop (es.length*sz'+news.length)).toArray) ((cur.toList.take (es.length*sz')++news++cur.toList.drop (es.length*sz'+news.length)).toArray.getD q undef) c:=
        (λq c hq=>by
         have nE:=(ai.1 hq).1;rw[bK _ eE,ae,df] at nE;rw[flat_eq] at hq;by_cases hq1:q<es.flatten.length
         .rw[az hq1] at hq
          obtain⟨u,hu,jr⟩:=D7 q c hq;have eR:=holds q u hu;rw[aJ,ff w blk q cur e' (0,0) iz] at eR;rw[ak,u3 q (by omega),eR];exact jr.mono kD
         .rw[aG (by omega)] at hq
          obtain⟨u,hu,jr⟩:=MM _ c hq;have:(cur.toList.take (es.length*sz')++news++cur.toList.drop (es.length*sz'+news.length)).toArray[q]?=some u:=(by simp only[dw];have QY:(cur.toList.take (es.length*sz')).length=es.length*sz':=(by have j8:cur.toList.length=cur.size:=bX;rw[aQ,j8];omega);rw[az (by rw[ae,QY];omega),aG (by rw[QY];omega),<- hu,QY,hfe]);rw[ak,this];exact jr.mono kD)
       have D1:s.after tr o (.gs none (some (e',sz')) (es++[y1]))=(s.clr t0).put o.dst (.gs none (some (e',sz')) (es++[y1])):=(by unfold S.after;rw[tq];simp only[S.use];have:(s.fr t0).isOw=true:=Gm;rw[if_pos this]);rw[D1];cases lP:o.dst with
       |none=>exact⟨_,_,_,nB⟩
       |some dd=>
        refine⟨_,_,_,nB.put dd (hd dd lP) (o:=some blk) ?_ λb hb=>?_⟩
        .have IC:Value.slice (some ⟨blk,0,none⟩) (es.length+[y1].length) cap=Value.slice (some ⟨blk,0,none⟩) (es++[y1]).length cap:=by rw[ae]
         rw[IC];simp only[LR];exact⟨(λ_ h=>by cases h),.inr ⟨e',blk,cap,_,sz',rfl,rfl,rfl,Re,su,by simpa using mZ,hcm,Gn,eE,jr,λu hu=>by
          rw[gr] at hu;rcases ba.1 hu with hu | hu
          .rcases ba.1 hu with hu | hu
           .exact ke u (cu.1 (c9 hu))
           .exact II u hu
          .exact ke u (cu.1 (cT hu)),gw⟩⟩
        .simp only[ao] at hb
         subst hb;refine⟨⟨by simpa using xm,Re⟩,λL hL=>?_,λi=>hst.obx _ blk i tR⟩;simp only[upL] at hL;split at hL
         .cases hL
         .split at hL
          .cases hL
          .rename_i h5 h6;exact h6 (hst.oinj _ _ blk hL tR)
      .have bO:=grun (some ⟨blk,0,none⟩) es.length cap olds (ji (P:=P) w.drew j'.size es.length ⟨blk,0,none⟩ es.length cap olds (by rw[<- eZ];exact yR) (λq u hq=>by rw[c8];simpa using holds q u hq)) (by omega) (by omega) (by rw[<- sr];exact iN (by omega) hb)
       exact⟨_,_,_,h,by rw[yL];exact bO,grownCase olds cap yR D7 ho1⟩
    .exact h.elim
   .cases mG
  .exact h.elim
 .exact h.elim
theorem Eh {T ty:TypeId} {vx vy:Value} {ox:Option Nat} {es:List (List C)} {d:Option Tmp} {K:S->Prop} (hst:St G n I0 M w0 I β ob s a w)
 (hx:LR (Wr M w0) I β w ox vx (.ow none es)) (h:dS P T (.ow none es) y (abl s d K)) (hy:∀ ys,y=.c (.sl ys)->RD I w vy ys) :
 ∃ (e:TypeId) (sz:Nat) (es':List (List C)) (cells:Array Value) (cap:Nat),K ({ s with bx:=up s.bx s.nb (es'.flatten.map .c),nb:=s.nb+1 }.put d (.ms s.nb 0 es'.length es'.length sz))/\
  (Builtin.append_ #[T,T] ty #[vx,vy]).run P w=.ok (.slice (some ⟨w.heap.size,0,none⟩) es'.length cap) (w.drew.alloc (.cells cells e))/\es'.length<=cap/\es'.flatten.length<=cells.size/\
  (∀ q c,es'.flatten[q]?=some c->CR I w (cells.getD q undef) c)/\(∀ u∈cells,u.oneCell'=true):=by
 unfold dS at h;split at h
 .rename_i e _ _ _ _ _ _ E es1 hi tM
  cases tM;obtain⟨j,d,h1,h2,h3,_⟩:=bH hi;have qI:=dL h3;subst qI;split at h
  .rename_i sz by_ _ z _ _ tQ
   obtain⟨j',d',jE,nD,_,eZ,sr,_,mG,_⟩:=bH tQ;simp only at mG eZ sr;obtain⟨⟨hp,tX,hE,pG⟩,h⟩:=h;split at mG
   .rename_i zv tL
    split at h
    .rename_i ys
     obtain⟨⟨hb,cm,uZ⟩,h⟩:=h;by_cases AX:ys=[]
     .subst AX
      simp only[List.isEmpty_nil,cZ] at h;exact h.elim
     have mj:ys.isEmpty=false:=(by simpa using AX);simp only[mj,aM,dp] at h;have hcy:=hy _ rfl;have tg:=lA (I:=I) (w:=w) mG.symm;have U2:zv.cells.size=sz:=(by rw[tg.1,tX]);obtain⟨vsl,hvy⟩:∃ (p:Option Addr×Nat),vy=.slice p.1 ys.length p.2:=by
      rcases hcy with⟨h0,h1⟩ | ⟨b,off,cap,_,_,hv,_⟩
      .obtain⟨a0,c0,h0,_⟩:=h0;exact⟨(a0,c0),by rw[h0,h1];rfl⟩
      .exact⟨(some ⟨b,off,none⟩,cap),hv⟩
     obtain⟨ya,yc⟩:=vsl;simp only at hvy;subst hvy;have hxo:=hx.2;have rb:=hx.1;obtain⟨yb,yoff,rfl⟩:=hcy.some' AX;obtain⟨news,vC,L6,MM,II⟩:=hcy.flat uZ;have aaP:∀ (q:Nat) (u:Value),news[q]?=some u->w.cell? ((⟨yb,yoff,none⟩:Addr).add q)=some u:=λq u hq=>by rw[c8];exact(L6 q u hq).1
     have Po:0<ys.length:=gU.2 AX;have eE:∀ x∈es++ys,x.length=sz:=λx hx=>by rcases ba.1 hx with hx | hx;exact pG x hx;exact uZ x hx
     have DZ:es.length+ys.length<=maxLen:=(by unfold maxLen;omega);have flat_eq:(es++ys).flatten=es.flatten++ys.flatten:=(by simp);have hfe:=bK es pG;have hfa:=bK (es++ys) eE;have zone:∀ u∈zv.cells,u.oneCell'=true:=λu hu=>by obtain⟨q,hq,rfl⟩:=fB.1 hu;have nE:q<z.length:=(by rw[<- tg.1];exact hq);have:=(tg.2 q _ (ah nE)).oneCell;simpa[ax hq,hq] using this
     have fin:∀ (olds:List Value) (cap0:Nat),olds.length=es.length*sz->(∀ (q:Nat) (c:C),es.flatten[q]?=some c->∃ u,olds[q]?=some u/\CR I w u c)->(∀ u∈olds,u.oneCell'=true)->
      (Builtin.append_ #[T,T] ty #[vx,.slice (some ⟨yb,yoff,none⟩) ys.length yc]).run P w=.ok (.slice (some ⟨w.heap.size,0,none⟩) (es.length+ys.length) (grownCap w (es.length+ys.length) cap0 e))
       (w.drew.alloc (.cells (olds.toArray++news.toArray++Builtin.zeroCells zv.cells (grownCap w (es.length+ys.length) cap0 e - (es.length+ys.length))) e))->
      ∃ (e:TypeId) (sz:Nat) (es':List (List C)) (cells:Array Value) (cap:Nat),K ({ s with bx:=up s.bx s.nb (es'.flatten.map .c),nb:=s.nb+1 }.put ‹Option Tmp› (.ms s.nb 0 es'.length es'.length sz))/\
       (Builtin.append_ #[T,T] ty #[vx,.slice (some ⟨yb,yoff,none⟩) ys.length yc]).run P w=.ok (.slice (some ⟨w.heap.size,0,none⟩) es'.length cap) (w.drew.alloc (.cells cells e))/\es'.length<=cap/\es'.flatten.length<=cells.size/\
       (∀ q c,es'.flatten[q]?=some c->CR I w (cells.getD q undef) c)/\(∀ u∈cells,u.oneCell'=true):=by
      intro olds cap0 yR D7 ho1 bO;have fO:=grownCap_ge w (es.length+ys.length) cap0 e;refine⟨e,sz,es++ys,_,_,h,by rw[ae];exact bO,by rw[ae];exact fO,?_,λq c hq=>?_,λu hu=>?_⟩
      .rw[hfa,ae]
       simp only[Array.size_append,eN,yR,vC,<- df];omega
      .rw[flat_eq] at hq
       have qu:∃ u,(olds++news)[q]?=some u/\CR I w u c:=by
        by_cases nE:q<es.flatten.length
        .rw[az nE] at hq
         obtain⟨u,hu,jr⟩:=D7 q c hq;exact⟨u,by rw[az (by omega)];exact hu,jr⟩
        .rw[aG (by omega)] at hq
         obtain⟨u,hu,jr⟩:=MM _ c hq;refine⟨u,?_,jr⟩;rw[aG (by omega),<- hu];congr 1;omega
       obtain⟨u,hu,jr⟩:=qu;rw[lC olds news _ q u hu];exact jr
      .simp only[Array.mem_append,gr] at hu
       rcases hu with(hu | hu) | hu
       .exact ho1 u hu
       .exact II u hu
       .exact zone u (vU hu)
     rcases hxo with⟨hob0,_,xa,yL⟩ | ⟨e',blk,cap,cur,sz',Pq,MJ,_⟩
     .cases xa with
      |none=>
       have IA:es=[]:=by
        rcases rb.sl_inv with⟨_,h1⟩ | ⟨b,off,cap,_,_,hv,_⟩
        .exact h1
        .rw[yL] at hv;cases hv
       subst IA;have bO:=run_append_nil (P:=P) w T ty e j' zv h2 jE tL ⟨yb,yoff,none⟩ ys.length yc news (by rw[<- eZ];exact vC) aaP Po (by simp only[aF,aJ] at cm;omega) (by rw[<- sr];simp only[aF,aJ] at hb;omega);refine fin [] 0 (by simp) (by simp) (by simp) ?_;rw[yL];simpa using bO
      |some xaddr=>
       rw[yL] at rb;obtain⟨olds,yR,holds,D7,ho1⟩:=rb.oldsOf pG;have bO:=run_append_grow (P:=P) w T ty e j' zv h2 jE tL xaddr es.length es.length olds (by rw[<- eZ];exact yR) holds
        ⟨yb,yoff,none⟩ ys.length yc news (by rw[<- eZ];exact vC) aaP (by omega) (by omega) (by rw[<- sr];exact iN (by omega) hb)
       exact fin olds es.length yR D7 ho1 (by rw[yL];exact bO)
     .cases MJ
    .exact h.elim
   .cases mG
  .exact h.elim
 .exact h.elim
end
section
variable {P:Program} {G:Gl} {tr:List Nat} {n:Nat} {I0:Ft} {M:Mx} {w0:World} {I:Ft} {β:Nat->Option Nat} {ob:Loc->Option Nat} {s:S} {a:Act} {w:World} {o:Oper}
 {next:Act->World->Prop} {Q:Exit->Act->World->Prop} {base:Nat->Prop} {v:Value} {x y:V} {K:V->Prop}
theorem sC (isSlice:Bool) (len cap:Nat) (lo hi:Option Value) (l h:Int) (hl:(lo=none/\l=0)∨∃ k,lo=some (.int k l)) (hh:(hi=none/\h=len)∨∃ k,hi=some (.int k h))
 (h0:0<=l) (h1:l<=h) (h2:h<=len) (hc:len<=cap):(Instr.sliceBounds isSlice len cap lo hi none).run P w=.ok (l.toNat,h.toNat,cap) w:=by
 have eh:(h.toNat:Int)=h:=gV (by omega);unfold Instr.sliceBounds;have e0:(0:Int)<=h:=by omega
 have e1:h<=(cap:Int):=by omega
 rcases hl with⟨rfl,rfl⟩ | ⟨kl,rfl⟩<;>rcases hh with⟨rfl,rfl⟩ | ⟨kh,rfl⟩<;>
  simp[run_sliceBound,h0,h1,eh,e0,e1]
theorem I5 (isSlice:Bool) (len cap:Nat) (lo hi:Option Value) (l h:Int) (km:IntKind) (hl:(lo=none/\l=0)∨∃ k,lo=some (.int k l)) (hh:∃ k,hi=some (.int k h))
 (h0:0<=l) (h1:l<=h) (h2:h<=cap):(Instr.sliceBounds isSlice len cap lo hi (some (.int km h))).run P w=.ok (l.toNat,h.toNat,h.toNat) w:=by
 have eh:(h.toNat:Int)=h:=gV (by omega);unfold Instr.sliceBounds;have e0:(0:Int)<=h:=by omega
 rcases hl with⟨rfl,rfl⟩ | ⟨kl,rfl⟩<;>obtain⟨kh,rfl⟩:=hh<;>simp[run_sliceBound,h0,h1,h2,eh,e0]
theorem zX (len cap:Nat) (lo hi:Option Value) (l h:Int) (hl:(lo=none/\l=0)∨∃ k,lo=some (.int k l)) (hh:(hi=none/\h=len)∨∃ k,hi=some (.int k h))
 (h0:0<=l) (h1:l<=h) (h2:h<=cap):(Instr.sliceBounds true len cap lo hi none).run P w=.ok (l.toNat,h.toNat,cap) w:=by
 have eh:(h.toNat:Int)=h:=gV (by omega);unfold Instr.sliceBounds;have e0:(0:Int)<=h:=by omega
 rcases hl with⟨rfl,rfl⟩ | ⟨kl,rfl⟩<;>rcases hh with⟨rfl,rfl⟩ | ⟨kh,rfl⟩<;>
  simp[run_sliceBound,h0,h1,h2,eh,e0]
theorem zY (len cap:Nat) (lo hi:Option Value) (l h m:Int) (km:IntKind) (hl:(lo=none/\l=0)∨∃ k,lo=some (.int k l)) (hh:∃ k,hi=some (.int k h))
 (h0:0<=l) (h1:l<=h) (h2:h<=m) (h3:m<=cap):(Instr.sliceBounds true len cap lo hi (some (.int km m))).run P w=.ok (l.toNat,h.toNat,m.toNat) w:=by
 have eh:(h.toNat:Int)=h:=gV (by omega);have em:(m.toNat:Int)=m:=gV (by omega);unfold Instr.sliceBounds;have e0:(0:Int)<=h:=by omega
 have e2:(0:Int)<=m:=by omega
 rcases hl with⟨rfl,rfl⟩ | ⟨kl,rfl⟩<;>obtain⟨kh,rfl⟩:=hh<;>
  simp[run_sliceBound,h0,h1,h2,h3,eh,em,e0,e2]
theorem lL (hst:St G n I0 M w0 I β ob s a w) {d:Int} {lo:Option Operand} {l:Int} (h:iW d (lo.map (ev G s))=some l):(lo.map a.eval=none/\l=d)∨∃ k,lo.map a.eval=some (.int k l):=by
 cases lo with
 |none=>simp[iW] at h;exact .inl ⟨rfl,h.symm⟩
 |some x=>
  have hx:=bN hst x;simp only[cU,iW] at h;split at h
  .cases ‹some _=none›
  .rename_i k m he
   simp only[ao] at he h;subst h;rw[he] at hx;exact .inr ⟨k,by rw[cU,hx.lit]⟩
  .cases h
theorem pS {sz:Nat}:∀ (m:Nat) (cs:List C) (i:Nat),i<m->(nP sz m cs)[i]?=some ((cs.drop (i*sz)).take sz)
 |0,_,i,h=>by omega
 |m+1,cs,0,_=>by simp[nP]
 |m+1,cs,i+1,h=>by simp only[nP,cF];rw[pS m _ i (by omega),gd];congr 3;rw[eA];omega
theorem rh {sz:Nat}:∀ (m:Nat) (cs:List C),(nP sz m cs).length=m
 |0,_=>rfl
 |m+1,cs=>by simp[nP,rh m]
theorem GM (hst:St G n I0 M w0 I β ob s a w) {i off len cap sz:Nat} {c:C} {v:Value} (h:nJ s i off len sz=some c)
 (hx:len<=cap/\∃ blk off' cap',cap<=cap'/\β i=some blk/\(cap'=0∨off'=off)/\v=.slice (some ⟨blk,off',none⟩) len cap') :
 ∃ (es:List (List C)) (blk off' cap':Nat) (f:Nat->Nat->Value),c=.sl es/\v=.slice (some ⟨blk,off',none⟩) es.length cap'/\es.length<=cap'/\β i=some blk/\(∀ e∈es,e.length=sz)/\
  (∀ p q,p<es.length->q<sz->w.cell? ⟨blk,off'+p*sz+q,none⟩=some (f p q))/\(∀ p q e c,es[p]?=some e->e[q]?=some c->CR I w (f p q) c):=by
 unfold nJ at h;split at h
 .rename_i cs js
  split at h
  .rename_i vO
   simp only[ao] at h;obtain⟨kX,blk,off',cap',D6,e1,o9,rfl⟩:=hx;unfold AD at js;split at js
   .rename_i hi
    obtain⟨tj,cur,q1,q2,q3,q4,q5,q7⟩:=hst.bx i hi;obtain⟨T,q3,q6⟩:=q3.cells (zT js);rw[e1] at q1;cases q1;have cm:cs.length=(s.bx i).length:=List.mapM_eq_some_length js;have hl:=rh (sz:=sz) len (cs.drop off);refine⟨_,blk,off',cap',λp q=>cur.getD (off+p*sz+q) undef,h.symm,by rw[hl],by rw[hl];omega,e1,λe he=>?_,λp q hp hq=>?_,λp q e c' he hc=>?_⟩
    .obtain⟨p,hp,rfl⟩:=iP.1 he
     have:=pS (sz:=sz) len (cs.drop off) p (by omega);rw[ah hp] at this;simp only[ao] at this;rw[this];have hm':(p+1)*sz<=len*sz:=aO _ (by omega);rw[eA] at hm';simp;omega
    .rw[hl] at hp
     have hm':(p+1)*sz<=len*sz:=aO _ (by omega);rw[eA] at hm';have:off'=off:=by rcases o9 with h0 | h0;omega;exact h0
     subst this;have bF:off'+p*sz+q<cur.size:=(by omega);rw[ff w blk _ cur T.t T.fz q3];simp[ax bF]
    .have hp:p<len:=by have:=(ai.1 he).1;omega
     rw[pS len _ p hp] at he;simp only[ao] at he;subst he;rw[cC] at hc;split at hc
     .rw[cK,cK] at hc
      obtain⟨vv,IB,hvc⟩:=List.mapM_eq_some_get js _ c' hc;have iD:=q5 (off+(p*sz+q));have:(s.bx i).getD (off+(p*sz+q)) .un=vv:=(by simp[List.getD,IB]);rw[this,<- dN] at iD;cases vv<;>simp only[V.asC] at hvc<;>try cases hvc
      .exact iD.toC
      .exact iD.1
     .cases hc
   .cases js
  .cases h
 .cases h
theorem abu (hst:St G n I0 M w0 I β ob s a w) {i off len cap sz:Nat} {c:C} {v:Value} (h:nJ s i off len sz=some c)
 (hx:len<=cap/\∃ blk off' cap',cap<=cap'/\β i=some blk/\(cap'=0∨off'=off)/\v=.slice (some ⟨blk,off',none⟩) len cap'):∃ es,c=.sl es/\RD I w v es:=by
 obtain⟨es,blk,off',cap',f,rfl,rfl,h2,h3,h4,h5,h6⟩:=GM hst h hx;exact⟨es,rfl,.inr ⟨blk,off',cap',sz,f,rfl,h2,h4,h5,h6⟩⟩
theorem GN (hst:St G n I0 M w0 I β ob s a w) {i off len cap sz:Nat} {c:C} {v:Value} (h:nJ s i off len sz=some c)
 (hx:len<=cap/\∃ blk off' cap',cap<=cap'/\β i=some blk/\(cap'=0∨off'=off)/\v=.slice (some ⟨blk,off',none⟩) len cap') {Ic:Ft} (tN:∀ b o,I b o->Ic b o) (hb:∀ b o,β i=some b->Ic b o):CR Ic w v c:=by
 obtain⟨es,blk,off',cap',f,rfl,rfl,h2,h3,h4,h5,h6⟩:=GM hst h hx;exact .sl blk off' cap' sz es f h2 h4 (λp q hp hq=>⟨h5 p q hp hq,hb blk _ h3⟩) (λp q e c he hc=>(h6 p q e c he hc).mono λb o h=>⟨tN b o h,rfl⟩)
theorem GO {T:TypeId} {lo hi mx:Option Operand} {vx:Value} {ox:Option Nat} (hst:St G n I0 M w0 I β ob s a w) (h:jl P T x (lo.map (ev G s)) (hi.map (ev G s)) (mx.map (ev G s)) K) (hx:LR (Wr M w0) I β w ox vx x) :
 ∃ z u,K z/\LR (Wr M w0) I β w none u z/\(Instr.sliceAt T vx (lo.map a.eval) (hi.map a.eval) (mx.map a.eval)).run P w=.ok u w:=by
 unfold jl at h;split at h
 .rename_i st tu
  obtain⟨j,d,h1,h2,h3,_⟩:=bH tu;have hd:=pP h3;subst hd;rw[hx.lit];split at h
  .rename_i l hh hl Px hm
   obtain⟨⟨h0,U3,Vg⟩,h⟩:=h;have hmx:mx.map a.eval=none:=(by cases mx<;>simp_all);refine⟨_,_,h,.ofLit rfl,?_⟩;unfold Instr.sliceAt;simp only[aK,aU h2,aw];unfold Instr.slice;simp only[aK,aU h2,aw,hmx];simp[sC (P:=P) (w:=w) false st.size st.size _ _ l hh (lL hst hl) (lL hst Px) h0 U3 Vg (ab _)]
  .exact h.elim
 .rename_i e _ _ _ _ _ _ es tu
  obtain⟨j,d,h1,h2,h3,_⟩:=bH tu;have hd:=dL h3;subst hd;have jr:=hx.toC;split at h
  .rename_i hm
   split at h
   case h_2=>exact h.elim
   rename_i ie l hh mj hl Px;obtain⟨j',d',jE,nD,_,eZ,_⟩:=bH mj;obtain⟨⟨h0,U3,Vg,hs⟩,h⟩:=h;have hmx:mx.map a.eval=none:=(by cases mx<;>simp_all);have hb:=λcap hc=>sC (P:=P) (w:=w) true es.length cap _ _ l hh (lL hst hl) (lL hst Px) h0 U3 Vg hc;have jJ:=e9 (P:=P) w jE;rcases jr.sl_inv with⟨⟨xa,xc,hv,rb⟩,rfl⟩ | ⟨b,off,cap,sz,f,hv,kX,_⟩
   .simp only[aF] at Vg
    have:l=0/\hh=0:=(by omega);obtain⟨rfl,rfl⟩:=this;refine⟨_,.slice xa 0 xc,h,.ofC (by simpa using CR.nil xa xc rb),?_⟩;subst hv;unfold Instr.sliceAt;simp only[aK,aU h2,aw];unfold Instr.slice;simp only[aK,aU h2,aw,hmx];have:=hb xc (by simp);simp only[aF] at this;cases xa with
    |none=>obtain rfl:=rb rfl;simp[this,jJ]
    |some xa=>simp[this,jJ,Addr.add]
   .subst hv
    refine⟨_,.slice (some (if cap=l.toNat then⟨b,off,none⟩ else⟨b,off+l.toNat*ie.size,none⟩)) (hh.toNat - l.toNat) (cap - l.toNat),h,.ofC ?_,?_⟩
    .split
     .rename_i j8
      have:(es.take hh.toNat).drop l.toNat=([]:List (List C)):=dz (by simp;omega);rw[this];have e1:hh.toNat - l.toNat=0:=(by omega);have e2:cap - l.toNat=0:=(by omega);rw[e1,e2];exact .sl b off 0 0 [] (λ_ _=>undef) (ab _) (by simp) (by simp) (by simp)
     .exact jr.subslice hs (by omega) (by omega) (by omega)
    .unfold Instr.sliceAt
     simp only[aK,aU h2,aw];unfold Instr.slice;simp only[aK,aU h2,aw,hmx,hb cap kX,jJ,bh,ey jE,<- eZ];split<;>simp_all[c8]
  .rename_i km mm hm
   split at h
   .rename_i ie l khh hh mj hl Px
    obtain⟨j',d',jE,nD,_,eZ,_⟩:=bH mj;obtain⟨⟨h0,U3,Vg,rfl,hs⟩,h⟩:=h;obtain⟨km',hmx⟩:∃ k,mx.map a.eval=some (.int k mm):=by
     rcases mx with _ | X
     .simp at hm
     .have hX:=bN hst X
      simp only[cU,ao] at hm;rw[hm] at hX;exact⟨km,by rw[cU,hX.lit]⟩
    have Vf:∃ k,hi.map a.eval=some (.int k mm):=by
     rcases hi with _ | X
     .simp at Px
     .have hX:=bN hst X
      simp only[cU,ao] at Px;rw[Px] at hX;exact⟨khh,by rw[cU,hX.lit]⟩
    have hb:=λcap hc=>I5 (P:=P) (w:=w) true es.length cap _ _ l mm km' (lL hst hl) Vf h0 U3 hc;have jJ:=e9 (P:=P) w jE;rcases jr.sl_inv with⟨⟨xa,xc,hv,rb⟩,rfl⟩ | ⟨b,off,cap,sz,f,hv,kX,_⟩
    .simp only[aF] at Vg
     have:l=0/\mm=0:=(by omega);obtain⟨rfl,rfl⟩:=this;refine⟨_,.slice xa 0 0,h,⟨by simpa using CR.nil xa 0 (λ_=>rfl),.inl ⟨rfl,rfl,xa,by simp⟩⟩,?_⟩;subst hv;unfold Instr.sliceAt;simp only[aK,aU h2,aw];unfold Instr.slice;simp only[aK,aU h2,aw,hmx];have:=hb xc (by simp);simp only[aF] at this;cases xa with
     |none=>obtain rfl:=rb rfl;simp[this,jJ]
     |some xa=>simp[this,jJ,Addr.add]
    .subst hv
     have cm:((es.take mm.toNat).drop l.toNat).length=mm.toNat - l.toNat:=(by simp;omega);refine⟨_,.slice (some (if mm.toNat=l.toNat then⟨b,off,none⟩ else⟨b,off+l.toNat*ie.size,none⟩)) (mm.toNat - l.toNat) (mm.toNat - l.toNat),h,⟨?_,.inl ⟨rfl,rfl,_,by rw[cm]⟩⟩,?_⟩
     .split
      .rename_i j8
       have:(es.take mm.toNat).drop l.toNat=([]:List (List C)):=dz (by simp;omega);rw[this];have e1:mm.toNat - l.toNat=0:=(by omega);rw[e1];exact .sl b off 0 0 [] (λ_ _=>undef) (ab _) (by simp) (by simp) (by simp)
      .exact jr.subslice hs (by omega) (by omega) (by omega)
     .unfold Instr.sliceAt
      simp only[aK,aU h2,aw];unfold Instr.slice;simp only[aK,aU h2,aw,hmx,hb cap (by omega),jJ,bh,ey jE,<- eZ];split<;>simp_all[c8]
   .exact h.elim
  .exact h.elim
 .rename_i e _ _ _ _ _ _ b off len cap sz tu
  obtain⟨j,d,h1,h2,h3,_⟩:=bH tu;have hd:=dL h3;subst hd;split at h
  .rename_i ie l hh mm mj hl Px hmm
   obtain⟨j',d',jE,nD,_,eZ,_⟩:=bH mj;obtain⟨⟨fK,h0,U3,Vg,h03,h04⟩,h⟩:=h;simp only[LR] at hx;obtain⟨kX,blk,off',cap',D6,e1,o9,rfl⟩:=hx;have jJ:=e9 (P:=P) w jE;have hb:∃ M:Nat,mm<=(M:Int)/\M<=cap'/\(Instr.sliceBounds true len cap' (lo.map a.eval) (hi.map a.eval) (mx.map a.eval)).run P w=.ok (l.toNat,hh.toNat,M) w:=by
    rcases lL hst hmm with⟨e,rfl⟩ | ⟨km,e⟩
    .refine⟨cap',by omega,ab _,?_⟩
     rw[e];have:=zX (P:=P) (w:=w) len cap' _ _ l hh (lL hst hl) (lL hst Px) h0 U3 (by omega);simpa using this
    .refine⟨mm.toNat,by omega,by omega,?_⟩
     rw[e];have Vf:∃ k,hi.map a.eval=some (.int k hh):=by
      rcases lL hst Px with⟨e5,_⟩ | h5
      .cases mx with
       |none=>cases e
       |some X=>have:=h04 rfl;cases hi<;>simp_all
      .exact h5
     exact zY (P:=P) (w:=w) len cap' _ _ l hh mm km (lL hst hl) Vf h0 U3 Vg (by omega)
   obtain⟨M,hM1,hM2,hb⟩:=hb;refine⟨_,.slice (some (if M=l.toNat then⟨blk,off',none⟩ else⟨blk,off'+l.toNat*ie.size,none⟩)) (hh.toNat - l.toNat) (M - l.toNat),h,?_,?_⟩
   .simp only[LR]
    split
    .exact⟨by omega,blk,off',M - l.toNat,by omega,e1,.inl (by omega),rfl⟩
    .have:off'=off:=by rcases o9 with h4 | h4;omega;exact h4
     exact⟨by omega,blk,_,M - l.toNat,by omega,e1,.inr (by rw[this,fK]),rfl⟩
   .unfold Instr.sliceAt
    simp only[aK,aU h2,aw];unfold Instr.slice;simp only[aK,aU h2,aw,hb,jJ,bh,ey jE,<- eZ];split<;>simp_all[c8]
  .exact h.elim
 .rename_i e _ _ _ _ _ _ blk off len cap tu
  obtain⟨j,d,h1,h2,h3,_⟩:=bH tu;have hd:=dL h3;subst hd;split at h
  .rename_i ie l hh mm mj hl Px hmm
   obtain⟨j',d',jE,nD,_,eZ,_⟩:=bH mj;obtain⟨⟨h0,U3,Vg,h03,h04⟩,h⟩:=h;obtain rfl:=hx.toC.ex_inv;have jJ:=e9 (P:=P) w jE;have hb:(Instr.sliceBounds true len cap (lo.map a.eval) (hi.map a.eval) (mx.map a.eval)).run P w=.ok (l.toNat,hh.toNat,mm.toNat) w:=by
    rcases lL hst hmm with⟨e,rfl⟩ | ⟨km,e⟩
    .rw[e]
     have:=zX (P:=P) (w:=w) len cap _ _ l hh (lL hst hl) (lL hst Px) h0 U3 (by omega);simpa using this
    .rw[e]
     have Vf:∃ k,hi.map a.eval=some (.int k hh):=by
      rcases lL hst Px with⟨e5,_⟩ | h5
      .cases mx with
       |none=>cases e
       |some X=>have:=h04 rfl;cases hi<;>simp_all
      .exact h5
     exact zY (P:=P) (w:=w) len cap _ _ l hh mm km (lL hst hl) Vf h0 U3 Vg (by omega)
   refine⟨_,_,h,.ofC (.ex _ rfl rfl),?_⟩;unfold Instr.sliceAt;simp only[aK,aU h2,aw];unfold Instr.slice;simp only[aK,aU h2,aw,hb,jJ,bh,ey jE,<- eZ];split<;>simp_all[c8]
  .exact h.elim
 .rename_i m e _ _ _ _ _ _ cs k tu
  obtain⟨j,d,h1,h2,h3,_⟩:=bH tu;have hd:=pQ h3;subst hd;obtain⟨b,off,f,rfl,eR,qq⟩:=hx.toC.rp_inv;split at h
  .rename_i ie mj hl hh hm
   obtain⟨j',d',jE,nD,_,eZ,_⟩:=bH mj;obtain⟨kg,h⟩:=h;have e1:lo.map a.eval=none:=(by cases lo<;>simp_all);have e2:hi.map a.eval=none:=(by cases hi<;>simp_all);have e3:mx.map a.eval=none:=(by cases mx<;>simp_all);have jJ:=e9 (P:=P) w jE;refine⟨_,.slice (some ⟨b,off+k,none⟩) m m,h,.ofC ?_,?_⟩
   .have j8:=rh (sz:=ie.size) m (cs.drop k)
    have akM:∀ i q,i<m->q<ie.size->k+i*ie.size+q<cs.length:=λi q hi hq=>by have:(i+1)*ie.size<=m*ie.size:=aO _ hi;rw[eA] at this;omega
    have jF:∀ x∈nP ie.size m (cs.drop k),x.length=ie.size:=λx hx=>by obtain⟨i,hi,he⟩:=iP.1 hx;have:=pS (sz:=ie.size) m (cs.drop k) i (by omega);rw[ah hi] at this;simp only[ao] at this;rw[<- he,this];have hm':(i+1)*ie.size<=m*ie.size:=aO _ (by omega);rw[eA] at hm';simp;omega
    have:=CR.sl (I:=I) (w:=w) b (off+k) m ie.size (nP ie.size m (cs.drop k)) (λi q=>f (k+i*ie.size+q)) (by omega) jF
     (λi q hi hq=>by have:=eR (k+i*ie.size+q) (akM i q (by omega) hq);rw[show off+k+i*ie.size+q=off+(k+i*ie.size+q) by omega];exact this)
     (λi q e c he hc=>by
      have hi:i<m:=(by have:=(ai.1 he).1;omega);rw[pS m _ i hi] at he;simp only[ao] at he;subst he;rw[cC] at hc;split at hc
      .rw[cK,cK] at hc
       exact qq _ c (by rw[dN];exact hc)
      .cases hc)
    rw[j8] at this;exact this
   .unfold Instr.sliceAt
    simp only[aK,aU h2,aw,Instr.sureAddr,bh,e1,e2,e3];have:=sC (P:=P) (w:=w) false m m none none 0 m (.inl ⟨rfl,rfl⟩) (.inl ⟨rfl,rfl⟩) (Int.le_refl _) (by omega) (Int.le_refl _) (ab _);simp only[this,aw,jJ,aK,bh];simp[c8]
  .exact h.elim
 .rename_i m e _ _ _ _ _ _ b k tu
  obtain⟨j,d,h1,h2,h3,_⟩:=bH tu;have hd:=pQ h3;subst hd;simp only[LR] at hx;obtain⟨blk,hβ,rfl⟩:=hx;split at h
  .rename_i ie l hh mj hl Px hm
   obtain⟨j',d',jE,nD,_,eZ,_⟩:=bH mj;obtain⟨⟨h0,U3,Vg⟩,h⟩:=h;have e3:mx.map a.eval=none:=(by cases mx<;>simp_all);have jJ:=e9 (P:=P) w jE;have hb:=sC (P:=P) (w:=w) false m m _ _ l hh (lL hst hl) (lL hst Px) h0 U3 Vg (ab _);refine⟨_,.slice (some (if m=l.toNat then⟨blk,k,none⟩ else⟨blk,k+l.toNat*ie.size,none⟩)) (hh.toNat - l.toNat) (m - l.toNat),h,?_,?_⟩
   .simp only[LR]
    refine⟨by omega,?_⟩;split
    .exact⟨blk,k,_,ab _,hβ,.inl (by omega),rfl⟩
    .exact⟨blk,_,_,ab _,hβ,.inr rfl,rfl⟩
   .unfold Instr.sliceAt
    simp only[aK,aU h2,aw,Instr.sureAddr,bh,e3];simp only[hb,aw,jJ,aK,bh,ey jE,<- eZ];split<;>simp_all[c8]
  .exact h.elim
 .exact h.elim
end
section
variable {P:Program} {G:Gl} {tr:List Nat} {n:Nat} {I0:Ft} {M:Mx} {w0:World} {I:Ft} {β:Nat->Option Nat} {ob:Loc->Option Nat} {s:S} {a:Act} {w:World} {o:Oper}
 {next:Act->World->Prop} {Q:Exit->Act->World->Prop} {base:Nat->Prop} {v:Value} {x y:V} {K:V->Prop}
theorem xJ:∀ (es:List (List C)) (l:List UInt8),xx es=some l->es.length=l.length/\
 ∃ ns:List Int,ns.length=l.length/\l=ns.map (λm=>UInt8.ofNat m.toNat)/\∀ (i:Nat) (m:Int),ns[i]?=some m->es[i]?=some [.lit (.int .u8 m)]
 |[],l,h=>by simp only[xx,ao] at h;subst h;exact⟨rfl,[],rfl,rfl,by simp⟩
 |e::es,l,h=>by
  unfold xx at h;split at h
  .cases ‹_::_=[]›
  .rename_i m r he
   cases he;simp only[aW] at h;obtain⟨l',h1,rfl⟩:=h;obtain⟨h2,ns,h3,h4,h5⟩:=xJ _ _ h1;refine⟨by simp[h2],m::ns,by simp[h3],by simp[h4],λi q hq=>?_⟩;cases i with
   |zero=>simp at hq;subst hq;rfl
   |succ i=>exact h5 i q (by simpa using hq)
  .cases h
theorem tD:∀ (ns:List Int) (r:ByteArray),ns.foldl (λr m=>r.push (UInt8.ofNat m.toNat)) r=⟨r.data++(ns.map λm=>UInt8.ofNat m.toNat).toArray⟩
 |[],r=>by simp
 |m::ns,r=>by simp only[di];rw[tD ns];simp[ByteArray.push]
theorem I6 {src dst:TypeId} {vx:Value} (hst:St G n I0 M w0 I β ob s a w) (hd:∀ d,o.dst=some d->d<n) (h:jQ P src dst x K) (hx:(∃ ox,LR (Wr M w0) I β w ox vx x)∨∃ es,x=.c (.sl es)/\RD I w vx es) :
 ∃ z u w',K z/\(convert src dst vx).run P w=.ok u w'/\SE G n I0 M w0 (s.after tr o z) (a.put o.dst u) w':=by
 unfold jQ at h;split at h
 .rename_i i k _ _ _ _ _ _ k' m hi tu
  obtain⟨j,d,_,h2,_⟩:=bH hi;obtain⟨j',d',_,nD,h3',_⟩:=bH tu;have qI:=BA h3';subst qI;obtain⟨ox,hx⟩:∃ ox,LR (Wr M w0) I β w ox vx _:=by
   rcases hx with hx | ⟨es,e,_⟩
   .exact hx
   .cases e
  rw[hx.lit];refine⟨_,_,w,h,?_,.fin0 hst hd (.ofLit rfl)⟩;simp[convert,aU h2,aU nD,Conv.intToInt]
 .rename_i i _ _ _ _ _ _ st hi tu
  obtain⟨j,d,_,h2,_⟩:=bH hi;obtain⟨j',d',_,nD,h3',_⟩:=bH tu;have qI:=pP h3';subst qI;obtain⟨ox,hx⟩:∃ ox,LR (Wr M w0) I β w ox vx _:=by
   rcases hx with hx | ⟨es,e,_⟩
   .exact hx
   .cases e
  rw[hx.lit];refine⟨_,_,w,h,?_,.fin0 hst hd (.ofLit rfl)⟩;simp[convert,aU h2,aU nD]
 .rename_i _ _ _ _ _ _ e _ _ _ _ _ _ st hi tu
  obtain⟨j,d,_,h2,h3,_⟩:=bH hi;obtain⟨j',d',_,nD,h3',_⟩:=bH tu;have qI:=dL h3';subst qI;have hds:=pP h3;subst hds;split at h
  .rename_i _ _ _ _ _ _ mj
   obtain⟨je,de,_,h2e,h3e,_⟩:=bH mj;have hde:=BA h3e;subst hde;obtain⟨ox,hx⟩:∃ ox,LR (Wr M w0) I β w ox vx _:=by
    rcases hx with hx | ⟨es,e,_⟩
    .exact hx
    .cases e
   rw[hx.lit];have om:=(hst.drew).alloc (.cells (bytesRow st (grownCap w st.size 0 e)) e ((bytesRow st (grownCap w st.size 0 e)).size,(bytesRow st (grownCap w st.size 0 e)).size+1));have bO:=run_bytes_of_string (P:=P) w src dst e st h2 nD h2e;refine⟨_,_,_,h,bO,.fin0 om hd (.ofC ?_)⟩;have cm:(pt st).length=st.size:=(by simp[pt]);rw[show Value.slice (some ⟨w.heap.size,0,none⟩) st.size (grownCap w st.size 0 e)=.slice (some ⟨w.heap.size,0,none⟩) (pt st).length (grownCap w st.size 0 e) by rw[cm]];refine CR.row (sz:=1) (gf w.drew _) (by rw[cm];exact grownCap_ge w _ _ _) (by simp[pt]) (λq c hq=>?_) (λq _=>.inr rfl);have hq':q<st.size/\c=.lit (.int .u8 (st.data.toList.getD q 0).toNat):=by
    have:=mO (sz:=1) (pt st) (by simp[pt]) q 0 (by omega);rw[Nat.mul_one,eT] at this;rw[this] at hq;simp only[pt,bj] at hq;cases hb:st.data.toList[q]? with
    |none=>simp[hb] at hq
    |some b=>simp only[hb,cU,ju,bP,ao] at hq;have bF:=(ai.1 hb).1;exact⟨by simpa using bF,by rw[<- hq];simp[List.getD,hb]⟩
   obtain⟨nE,rfl⟩:=hq';have akT:q<st.data.size:=nE;have fK:q<(bytesRow st (grownCap w st.size 0 e)).size:=(by simp[bytesRow];omega);refine⟨fK,?_⟩;have:(bytesRow st (grownCap w st.size 0 e)).getD q undef=.int .u8 (st.data.toList.getD q 0).toNat:=(by unfold bytesRow;rw[ak,fb (by simpa using akT),Array.getElem?_map,ax akT];have:st.data.toList.getD q 0=st.data[q]:=(by rw[aA,aS,ax akT];rfl);rw[this];rfl);rw[this];exact .lit _ rfl
  .exact h.elim
 .rename_i e _ _ _ _ _ _ _ _ _ _ _ _ es hi tu
  obtain⟨j,d,_,h2,h3,_⟩:=bH hi;obtain⟨j',d',_,nD,h3',_⟩:=bH tu;have qI:=pP h3';subst qI;have hds:=dL h3;subst hds;split at h
  .rename_i _ _ _ _ _ _ mj
   obtain⟨je,de,_,h2e,h3e,_⟩:=bH mj;have hde:=BA h3e;subst hde;split at h
   .rename_i l hl
    obtain⟨cm,ns,vC,rfl,hns⟩:=xJ _ _ hl;have jr:RD I w vx es:=by
     rcases hx with⟨ox,hx⟩ | ⟨es',e,hrd⟩
     .exact .ofCR hx.toC
     .cases e;exact hrd
    refine⟨_,_,w,h,?_,.fin0 hst hd (.ofLit rfl)⟩;rcases jr with⟨⟨xa,xc,hv,rb⟩,rfl⟩ | ⟨b,off,cap,sz,f,hv,kX,hs,eR,qq⟩
    .subst hv
     have:ns=[]:=dz (by simp at cm;omega);subst this;rw[run_convert_bytes_string w src dst e xa 0 xc h2 h2e nD];cases xa<;>rfl
    .subst hv
     rw[run_convert_bytes_string w src dst e _ _ _ h2 h2e nD,run_bytesToString w ⟨b,off,none⟩ es.length cap ns ?_,tD]
     .simp
     .have eE:∀ e∈es,e.length=1:=by intro e he;obtain⟨i,hi⟩:=eB.1 he;have bF:=(ai.1 hi).1;have:ns[i]?=some ns[i]:=ah (by simp at cm;omega);rw[hns i _ this] at hi;cases hi;rfl
      have hfv:∀ i,i<es.length->w.cell? ⟨b,off+i,none⟩=some (.int .u8 (ns.getD i 0)):=(by intro i hi;have hn:ns[i]?=some ns[i]:=ah (by simp at cm;omega);have he:=hns i _ hn;have fK:sz=1:=(by rw[<- hs _ (aV he)];rfl);subst fK;have h1:=eR i 0 hi (by omega);have h2:=qq i 0 _ _ he rfl;have h3:f i 0=.int .u8 ns[i]:=h2.lit_eq;rw[Nat.mul_one,eT,h3] at h1;rw[h1];simp[List.getD,hn]);rw[run_loadCells w ⟨b,off,none⟩ es.length (λi=>.int .u8 (ns.getD i 0)) (λi hi=>by rw[c8];exact hfv i hi)];congr 2;apply fW;intro i;by_cases hi:i<ns.length
      .have:i<es.length:=by simp at cm;omega
       simp[hi,this]
      .have:¬ i<es.length:=by simp at cm;omega
       simp[hi,this]
   .exact h.elim
  .exact h.elim
 .exact h.elim
end
section
variable {P:Program} {G:Gl} {tr:List Nat} {n:Nat} {I0:Ft} {M:Mx} {w0:World} {I:Ft} {β:Nat->Option Nat} {ob:Loc->Option Nat} {s:S} {a:Act} {w:World} {o:Oper}
 {next:Act->World->Prop} {Q:Exit->Act->World->Prop} {base:Nat->Prop} {v:Value} {x y:V} {K:V->Prop}
def ArgsR (I:Ft) (w:World) (vs:List Value) (xs:List V):Prop:=vs.length=xs.length/\∀ (j:Nat) (x:V),xs[j]?=some x->DR I w (vs.getD j undef) x
theorem ArgsR.nil:ArgsR I w [] []:=⟨rfl,by simp⟩
theorem ArgsR.append {vs us:List Value} {xs ys:List V} (h:ArgsR I w vs xs) (h':ArgsR I w us ys):ArgsR I w (vs++us) (xs++ys):=by
 refine⟨by simp[h.1,h'.1],λj x hx=>?_⟩;have hl:=h.1;by_cases hj:j<xs.length
 .rw[az hj] at hx
  have:=h.2 j x hx;rw[aA,az (by omega)];rw[aA] at this;exact this
 .rw[aG (by omega)] at hx
  have:=h'.2 _ x hx;rw[aA,aG (by omega),hl];rw[aA] at this;exact this
theorem PT (hst:St G n I0 M w0 I β ob s a w) {i off blk:Nat} {cs:List C} (h:AD s i=some cs) (hβ:β i=some blk) {Ic:Ft} (tN:∀ b o,I b o->Ic b o) (hb:∀ o,Ic blk o) :
 CR Ic w (.pointer (some ⟨blk,off,none⟩)) (.rp cs off):=by
 unfold AD at h;split at h
 .rename_i hi
  obtain⟨tj,cur,e1,e2,e3,e4,e5,e7⟩:=hst.bx i hi;obtain⟨T,e3,e6⟩:=e3.cells (zT h);rw[hβ] at e1;cases e1;have cm:cs.length=(s.bx i).length:=List.mapM_eq_some_length h;have:=CR.rp (I:=Ic) (w:=w) blk 0 off cs (λj=>cur.getD j undef) (λj hj=>by
   have hjc:j<cur.size:=(by omega);rw[aJ];refine⟨?_,hb j⟩;rw[ff w blk j cur T.t T.fz e3];simp[ax hjc]) (λj c hc=>by
   obtain⟨vv,IB,hvc⟩:=List.mapM_eq_some_get h j c hc;have iD:=e5 j;have:(s.bx i).getD j .un=vv:=(by simp[List.getD,IB]);rw[this] at iD;cases vv<;>simp only[V.asC] at hvc<;>try cases hvc
   .exact iD.toC.mono λb o h=>⟨tN b o h,rfl⟩
   .exact iD.1.mono λb o h=>⟨tN b o h,rfl⟩)
  rw[aJ] at this;exact this
 .cases h
theorem GP (hst:St G n I0 M w0 I β ob s a w) {c:C} (hx:PR I β w v x) (h:wo s x=some c) {Ic:Ft} (tN:∀ b o,I b o->Ic b o)
 (hb:x.isBp=true->∀ i b o,β i=some b->Ic b o):CR Ic w v c:=by
 cases x<;>simp only[PR] at hx<;>simp only[wo] at h
 .cases h;exact hx.mono λb o h=>⟨tN b o h,rfl⟩
 .cases h;exact hx.2.1.mono λb o h=>⟨tN b o h,rfl⟩
 .obtain⟨blk,e1,rfl⟩:=hx
  simp only[aW] at h;obtain⟨cs,h1,rfl⟩:=h;exact PT hst h1 e1 tN (λo=>hb rfl _ _ o e1)
 .exact GN hst h hx tN (λb o e=>hb rfl _ b o e)
 .cases h
 .cases h
 .cases h
theorem BD (hst:St G n I0 M w0 I β ob s a w) {ox:Option Nat} (hx:LR base I β w ox v x) (h:imm s x=some y) {Ic:Ft} (tN:∀ b o,I b o->Ic b o)
 (hb:x.boxy=true->∀ i b o,β i=some b->Ic b o):DR Ic w v y:=by
 cases x<;>simp only[imm] at h<;>try cases h
 .exact .c _ _ (hx.toC.mono λb o h=>⟨tN b o h,rfl⟩)
 .obtain⟨vs,rfl,h1,h2⟩:=hx.agg
  exact .agg vs _ h1 λj c hc=>(h2 j c hc).mono λb o h=>⟨tN b o h,rfl⟩
 .exact .c _ _ (hx.1.mono λb o h=>⟨tN b o h,rfl⟩)
 .simp only[LR] at hx
  obtain⟨blk,e1,rfl⟩:=hx;simp only[aW] at h;obtain⟨cs,h1,rfl⟩:=h;exact .c _ _ (PT hst h1 e1 tN (λo=>hb rfl _ _ o e1))
 .rename_i f fs cs
  simp only[LR] at hx;obtain⟨vf,vc,rfl,h1,h2,h3,h4⟩:=hx;split at h
  .rename_i fs' cs' e1 e2
   cases h;have l1:=List.mapM_eq_some_length e1;have l2:=List.mapM_eq_some_length e2;have hbf:∀ z∈fs,z.isBp=true->∀ i b o,β i=some b->Ic b o:=λz hz hzb=>
    hb (by simp only[V.boxy,fm,eI];exact .inl ⟨z,hz,hzb⟩)
   have hbc:∀ z∈cs,z.isBp=true->∀ i b o,β i=some b->Ic b o:=λz hz hzb=>
    hb (by simp only[V.boxy,fm,eI];exact .inr ⟨z,hz,hzb⟩)
   refine .c _ _ (.fn f vf vc fs' cs' (by omega) (by omega) (λj c hc=>?_) (λj c hc=>?_))
   .obtain⟨z,hz,tg⟩:=List.mapM_eq_some_get e1 j c hc
    exact GP hst (h3 j z hz) tg tN (hbf z (aV hz))
   .obtain⟨z,hz,tg⟩:=List.mapM_eq_some_get e2 j c hc
    exact GP hst (h4 j z hz) tg tN (hbc z (aV hz))
  .cases h
 .simp only[LR] at hx
  simp only[aW] at h;obtain⟨c,h1,rfl⟩:=h;exact .c _ _ (GN hst h1 hx tN (λb o e=>hb rfl _ b o e))
 .rename_i vs
  simp only[LR] at hx;obtain⟨cells,rfl,h2,h3⟩:=hx;simp only[aW] at h;obtain⟨cs,h1,rfl⟩:=h;refine .agg _ _ (by rw[h2];exact(List.mapM_eq_some_length h1).symm) λj c hc=>?_;obtain⟨z,hz,tg⟩:=List.mapM_eq_some_get h1 j c hc;exact GP hst (h3 j z hz) tg tN (λhzb=>hb (by simp only[V.boxy,eI];exact⟨z,aV hz,hzb⟩))
theorem GQ (hst:St G n I0 M w0 I β ob s a w) {Ic:Ft} (tN:∀ b o,I b o->Ic b o):∀ (l:List Operand) (ys:List V),(l.map (ev G s)).mapM (imm s)=some ys->
 ((l.map (ev G s)).any V.boxy=true->∀ i b o,β i=some b->Ic b o)->ArgsR Ic w (l.map a.eval) ys
 |[],ys,h,_=>by simp at h;subst h;exact .nil
 |x::l,ys,h,hb=>by
  simp only[bB,fk,bind,iU,pure,ao] at h;obtain⟨y,h1,ys',h2,rfl⟩:=h;have hd:=BD hst (bN hst x) h1 tN (λhx=>hb (by simp[hx]));have ih:=GQ hst tN l ys' h2 (λhx=>hb (by simp only[bB,List.any_cons,hx,jX]));refine⟨by simp[ih.1],λj z hz=>?_⟩;cases j with
  |zero=>simp at hz;subst hz;exact hd
  |succ j=>simpa using ih.2 j z (by simpa using hz)
theorem ArgsR.ofC {I':Ft} (vs:Array Value) (cs:List C) (h:vs.size=cs.length) (hc:∀ j c,cs[j]?=some c->CR I' w (vs.getD j undef) c):ArgsR I' w vs.toList (cs.map .c):=by refine⟨by simp[h],λj x hx=>?_⟩;simp only[bj,aW] at hx;obtain⟨c,h1,rfl⟩:=hx;have:=hc j c h1;rw[aA,aS];rw[ak] at this;exact .c _ _ this
theorem PU (hst:St G n I0 M w0 I β ob s a w) {Ic:Ft} (tN:∀ b o,I b o->Ic b o) (vs:Array Value) (xs ys:List V) (hl:vs.size=xs.length) (h:xs.mapM (imm s)=some ys)
 (hr:∀ j x,xs[j]?=some x->PR I β w (vs.getD j undef) x) (hb:xs.any V.boxy=true->∀ i b o,β i=some b->Ic b o):ArgsR Ic w vs.toList ys:=by
 refine⟨by have:=List.mapM_eq_some_length h;simp;omega,λj y hy=>?_⟩;obtain⟨x,hx,hxy⟩:=List.mapM_eq_some_get h j y hy;have hp:=hr j x hx;rw[aA,aS,<- ak];have iD:LR (Wr M w0) I β w none (vs.getD j undef) x:=by
  cases x<;>simp only[PR] at hp<;>simp only[LR]
  .exact .c _ _ hp
  .exact⟨hp.2.1,.inl ⟨rfl,hp.1,hp.2.2⟩⟩
  .exact hp
  .exact hp
  .exact hp
  .exact hp
  .exact hp
 exact BD hst iD hxy tN (λyP=>hb (by simp only[eI];exact⟨x,aV hx,yP⟩))
theorem LR.flat {r:V} {ob':Option Nat} (hf:r.isFlat=true) (h:LR base I β w ob' v r) {I':Ft} {w':World} {base':Nat->Prop} {β':Nat->Option Nat}:LR base' I' β' w' none v r:=by
 have lits:∀ (cs:List C) (vs:Array Value),cs.all C.isLit=true->(∀ j c,cs[j]?=some c->CR I w (vs.getD j undef) c)->∀ j c,cs[j]?=some c->CR I' w' (vs.getD j undef) c:=by intro cs vs hc h j c hj;have h1:=h j c hj;have h2:=a8.1 hc c (aV hj);cases c<;>simp[C.isLit] at h2;obtain⟨h3,h4⟩:=h1.lit_inv;rw[h3];exact .lit _ h4
 cases r with
 |un=>simp only[LR];exact .un _
 |sk=>simp only[LR] at h ⊢;cases h;exact .sk
 |c c=>
  cases c<;>simp only[V.isFlat] at hf<;>try cases hf
  obtain⟨h3,h4⟩:=h.toC.lit_inv;rw[h3];exact .ofLit h4
 |agg cs=>obtain⟨vs,rfl,h1,h2⟩:=h.agg;simp only[LR];exact .agg vs _ h1 (lits _ vs hf h2)
 |tup ds=>
  simp only[LR] at h ⊢
  cases h with
  |tup vs _ h1 h2=>
   refine .tup vs ds h1 λj d hj=>?_;have h3:=h2 j d hj;have h4:=a8.1 hf d (aV hj);cases d with
   |c c=>
    cases c<;>simp only at h4<;>try cases h4
    generalize vs.getD j undef=vv at h3;cases h3 with
    |c _ _ h5=>obtain⟨h6,h7⟩:=h5.lit_inv;rw[h6];exact .c _ _ (.lit _ h7)
   |agg cs=>
    generalize vs.getD j undef=vv at h3;cases h3 with
    |agg us _ h5 h6=>exact .agg us _ h5 (lits _ us h4 h6)
   |_=>cases h4
 |ow=>cases hf
 |bp=>cases hf
 |clo=>cases hf
 |ms=>cases hf
 |mag=>cases hf
 |mr=>cases hf
 |mk=>cases hf
 |it=>cases hf
 |gh=>cases hf
 |yl=>cases hf
 |lp=>cases hf
 |hh=>cases hf
 |bm=>cases hf
 |gs=>cases hf
 |gg=>cases hf
theorem PV (hst:St G n I0 M w0 I β ob s a w) (hd:∀ d,o.dst=some d->d<n) {f:FuncId} {vs:List Value} {xs:List V} {r:V} (eG:FnOK P G f xs r) (hr:K r)
 (boxy:Bool) (dQ:∀ Ic:Ft,(∀ b o,I b o->Ic b o)->(boxy=true->∀ i b o,β i=some b->Ic b o)->ArgsR Ic w vs xs) (Aw:boxy=true->r.isFlat=true)
 (bO:(execOp a.eval o).run P w=.ok (.enter f vs.toArray) w)
 (hk:∀ a' w' x,K x->SE G n I0 M w0 (s.after tr o x) a' w'->next a' w'):o.wp P a w next Q:=by
 unfold Oper.wp;rw[bO];simp only[Oper.upon];cases boxy with
 |false=>
  obtain⟨h1,h2⟩:=dQ I (λ_ _ h=>h) (by simp);refine (eG.2 I w vs.toArray hst.ibnd hst.glob (by simpa using h1) (λj x hx=>by simpa using h2 j x hx)).mono ?_;rintro e w' ⟨v,I',rfl,hg,U4,Q1,ob',iD,tp⟩;simp only;refine hk _ _ r hr ?_;have cN:=hst.grow hg U4 Q1;refine .fin cN hd (o':=ob') ?_ λb hb=>?_
  .cases r<;>simp only[LR] at iD ⊢<;>try exact iD
   .obtain⟨h3,h4⟩:=iD
    refine⟨h3,?_⟩;rcases h4 with h4 | ⟨e,blk,cap,cur,sz,q1,q2,q3,q4,q5⟩
    .exact .inl h4
    .exact .inr ⟨e,blk,cap,cur,sz,q1,q2,q3,.inl (bY hst.below.size q4),q5⟩
   .obtain⟨_,h3,_⟩:=iD;cases h3
   rotate_left
   .obtain⟨_,_,_,_,_,h3,_⟩:=iD;cases h3
   .obtain⟨cs,q1,q2,q3⟩:=iD
    exact⟨cs,q1,q2,λj x hx=>(q3 j x hx).mono (λb o h=>⟨h,rfl⟩) (by simp)⟩
   .obtain⟨_,h3,_⟩:=iD;cases h3
   .obtain⟨_,_,_,_,h3,_⟩:=iD;cases h3
   .obtain⟨h3,h4⟩:=iD
    refine⟨h3,?_⟩;rcases h4 with h4 | ⟨e,blk,cap,cur,sz,q1,q2,q3,q4,q5⟩
    .exact .inl h4
    .exact .inr ⟨e,blk,cap,cur,sz,q1,q2,q3,.inl (bY hst.below.size q4),q5⟩
   .obtain⟨_,h3,_⟩:=iD;cases h3
   .obtain⟨tm,q1,q2⟩:=iD
    exact⟨tm,q1,λt x hx=>(q2 t x hx).mono (λb o h=>⟨h,rfl⟩) (by simp)⟩
   .obtain⟨h3,e,blk,cap,cur,sz,q1,q2,q3,q4,q5⟩:=iD
    exact⟨h3,e,blk,cap,cur,sz,q1,q2,q3,.inl (bY hst.below.size q4),q5⟩
   .obtain⟨h3,h4⟩:=iD
    refine⟨h3,?_⟩;rcases h4 with h4 | ⟨e,blk,cap,cur,sz,q1,q2,q3,q4,q5⟩
    .exact .inl h4
    .exact .inr ⟨e,blk,cap,cur,sz,q1,q2,q3,.inl (bY hst.below.size q4),q5⟩
   .rcases iD with h4 | ⟨e,blk,cap,cur,sz,q1,q2,q3,q4,q5⟩
    .exact .inl h4
    .exact .inr ⟨e,blk,cap,cur,sz,q1,q2,q3,.inl (bY hst.below.size q4),q5⟩
   .obtain⟨_,h3,_⟩:=iD;cases h3
   .obtain⟨vf,vc,q1,q2,q3,q4,q5⟩:=iD
    exact⟨vf,vc,q1,q2,q3,λj x hx=>(q4 j x hx).mono (λb o h=>⟨h,rfl⟩) (by simp),λj x hx=>(q5 j x hx).mono (λb o h=>⟨h,rfl⟩) (by simp)⟩
  .obtain⟨h3,h4⟩:=tp b hb
   obtain⟨f1,f2⟩:=hst.fresh h3;exact⟨⟨h4,.inl (bY hst.below.size h3)⟩,f2,λL hL=>absurd hL (f1 L)⟩
 |true=>
  have oS:∀ i b,β i=some b->b<w.heap.size:=λi b hi=>by
   by_cases h:i<s.nb
   .obtain⟨blk,cur,e1,_,e3,_⟩:=hst.bx i h
    rw[hi] at e1;cases e1;exact e3.lt
   .rw[hst.bnone i (by omega)] at hi;cases hi
  obtain⟨h1,h2⟩:=dQ (λb o=>I b o∨∃ i,β i=some b) (λ_ _ h=>.inl h) (λ_ i b o hi=>.inr ⟨i,hi⟩);refine (eG.2 (λb o=>I b o∨∃ i,β i=some b) w vs.toArray (λb o hb=>by
   rcases hb with hb | ⟨i,hi⟩
   .exact hst.ibnd b o hb
   .exact oS i b hi) (λg cs hg=>(hst.glob g cs hg).mono λb o h=>⟨.inl h,rfl⟩) (by simpa using h1) (λj x hx=>by simpa using h2 j x hx)).mono ?_
  rintro e w' ⟨v,I',rfl,hg,U4,Q1,ob',iD,tp⟩;simp only;refine hk _ _ r hr ?_;have cN:=hst.grow hg (λ_ _ h=>h) (λ_ _ h=>.inl h);exact .fin0 cN hd (iD.flat (Aw rfl))
theorem rR {f:Operand} {args:Array Operand} {ts:Array TypeId} (ho:o.op=.call { callee:=.value f,args:=args,argTypes:=ts }) {g:FuncId} {vf vc:Array Value} (hf:a.eval f=.func (.func g) vf vc)
 {fn:Func} {c:Code} (h1:P.funcs[g]?=some fn) (h2:(fn.name== "runtime.NumGoroutine")=false) (h3:fn.body=some c) :
 (execOp a.eval o).run P w=.ok (.enter g (vf++args.map a.eval++vc)) w:=by
 unfold execOp;simp only[ho,resolve,Deferred.ofValue,hf,aK,bh,aw,invoke];have nD:fn.name≠ "runtime.NumGoroutine" :=by simpa using h2
 simp[callFunc,h1,nD,h3]
theorem I7 {f:Operand} {args:Array Operand} {ts:Array TypeId} (ho:o.op=.call { callee:=.value f,args:=args,argTypes:=ts }) (hst:St G n I0 M w0 I β ob s a w) (hd:∀ d,o.dst=some d->d<n)
 (h:rM P G s (ev G s f) (args.toList.map (ev G s)) K) (hk:∀ a' w' x,K x->SE G n I0 M w0 (s.after tr o x) a' w'->next a' w'):o.wp P a w next Q:=by
 have hf:=bN hst f;unfold rM at h;split at h
 .rename_i g fs cs he
  rw[he] at hf;split at h
  .rename_i as has
   obtain⟨r,eG,Aw,hr⟩:=h;obtain⟨vf,vc,hv,q1,q2,q3,q4⟩:=hf.toC.fn_inv;obtain⟨fn,h1,h2,c,h3⟩:=eG.1;have bO:=rR (P:=P) (w:=w) ho hv h1 h2 h3;refine PV hst hd eG hr ((args.toList.map (ev G s)).any V.boxy) (vs:=vf.toList++args.toList.map a.eval++vc.toList) (λIc tN hb=>?_) Aw ?_ hk
   .exact((ArgsR.ofC vf fs q1 λj c hc=>(q3 j c hc).mono λb o h=>⟨tN b o h,rfl⟩).append (GQ hst tN _ as has hb)).append
     (ArgsR.ofC vc cs q2 λj c hc=>(q4 j c hc).mono λb o h=>⟨tN b o h,rfl⟩)
   .rw[bO];congr 2;apply dF;simp
  .exact h.elim
 .rename_i g fs cs he
  rw[he] at hf;simp only[LR] at hf;obtain⟨vf,vc,hv,q1,q2,q3,q4⟩:=hf;split at h
  .rename_i fs' as cs' e1 e2 e3
   obtain⟨r,eG,Aw,hr⟩:=h;obtain⟨fn,h1,h2,c,h3⟩:=eG.1;have bO:=rR (P:=P) (w:=w) ho hv h1 h2 h3;refine PV hst hd eG hr ((fs++args.toList.map (ev G s)++cs).any V.boxy) (vs:=vf.toList++args.toList.map a.eval++vc.toList) (λIc tN hb=>?_) Aw ?_ hk
   .exact((PU hst tN vf fs fs' q1 e1 q3 λhx=>hb (by simp only[List.any_append,hx,Bool.true_or])).append
     (GQ hst tN _ as e2 λhx=>hb (by simp only[List.any_append,hx,Bool.true_or,jX]))).append
     (PU hst tN vc cs cs' q2 e3 q4 λhx=>hb (by simp only[List.any_append,hx,jX]))
   .rw[bO];congr 2;apply dF;simp
  .exact h.elim
 .exact h.elim
theorem BE {mx:Bool} {args:Array Operand} (hst:St G n I0 M w0 I β ob s a w) (h:Bv mx (args.toList.map (ev G s)) K) :
 ∃ u,flat u=true/\K (.c (.lit u))/\(if mx then Builtin.max_ #[] 0 (args.map a.eval) else Builtin.min_ #[] 0 (args.map a.eval)).run P w=.ok u w:=by
 unfold Bv at h;split at h
 .rename_i k p k' q dQ
  obtain⟨X,l,hX,hXv,hl⟩:∃ X l,args.toList=X::l/\ev G s X=.c (.lit (.int k p))/\l.map (ev G s)=[.c (.lit (.int k' q))]:=by
   cases ha:args.toList with
   |nil=>simp[ha] at dQ
   |cons X l=>simp only[ha,bB,cM] at dQ;exact⟨X,l,rfl,dQ.1,dQ.2⟩
  obtain⟨Y,rfl,hYv⟩:∃ Y,l=[Y]/\ev G s Y=.c (.lit (.int k' q)):=by
   cases l with
   |nil=>simp at hl
   |cons Y l'=>simp only[bB,cM,eV] at hl;exact⟨Y,by rw[hl.2],hl.1⟩
  have e1:a.eval X=.int k p:=by have:=bN hst X;rw[hXv] at this;exact this.lit
  have e2:a.eval Y=.int k' q:=by have:=bN hst Y;rw[hYv] at this;exact this.lit
  refine⟨_,rfl,h,?_⟩;cases mx
  .simp[Builtin.min_,hX,e1,e2,Builtin.min2]
  .simp[Builtin.max_,hX,e1,e2,Builtin.max2]
 .exact h.elim
end
section
variable {P:Program} {I:Ft} {w:World}
theorem VG {k:EK} {c d:C} (h:eqC k c d=some true):∃ v,c=.lit v/\d=.lit v/\(∀ m,Instr.sameBits m v v=true):=by
 cases k with
 |int=>
  obtain⟨k,a,b,rfl,rfl,hr⟩:=GA h;have:a=b:=by simpa using hr.symm
  subst this;exact⟨_,rfl,rfl,λm=>by cases m<;>simp[Instr.sameBits]⟩
 |bool=>
  obtain⟨a,b,rfl,rfl,hr⟩:=BB h;have:a=b:=by simpa using hr.symm
  subst this;exact⟨_,rfl,rfl,λm=>by cases m<;>simp[Instr.sameBits]⟩
 |str=>
  obtain⟨a,b,rfl,rfl,hr⟩:=GB h;have:a=b:=by simpa using hr.symm
  subst this;exact⟨_,rfl,rfl,λm=>by cases m<;>simp[Instr.sameBits,yU]⟩
theorem ER:∀ {ks:List EK} {cs ds:List C},iG ks cs ds=some true->cs.length=ks.length->ds.length=ks.length->
 cs=ds/\∀ c∈cs,∃ v,c=.lit v/\∀ m,Instr.sameBits m v v=true
 |[],cs,ds,_,h1,h2=>by simp at h1 h2;subst h1;subst h2;simp
 |k::ks,[],ds,h,h1,h2=>by simp at h1
 |k::ks,c::cs,[],h,h1,h2=>by simp at h2
 |k::ks,c::cs,d::ds,h,h1,h2=>by
  simp only[iG] at h;split at h
  .rename_i p q e1 e2
   simp only[ao,aZ] at h;obtain⟨rfl,rfl⟩:=h;obtain⟨v,rfl,rfl,hv⟩:=VG e1;obtain⟨rfl,h4⟩:=ER e2 (by simpa using h1) (by simpa using h2);exact⟨rfl,λc hc=>by
    rcases aN.1 hc with rfl | hc
    .exact⟨v,rfl,hv⟩
    .exact h4 c hc⟩
  .cases h
theorem M6 {xs ys:Array Value} {cs:List C} (hx:Cells I w xs cs) (hy:Cells I w ys cs) (hl:∀ c∈cs,∃ v,c=.lit v/\∀ m,Instr.sameBits m v v=true) :
 xs=ys/\∀ v∈xs.toList,∀ m,Instr.sameBits m v v=true:=by
 have each:∀ j,j<cs.length->∃ v,xs[j]?=some v/\ys[j]?=some v/\∀ m,Instr.sameBits m v v=true:=λj hj=>by obtain⟨v,hv,hs⟩:=hl cs[j] (bT hj);have h1:=hx.2 j _ (ah hj);have h2:=hy.2 j _ (ah hj);rw[hv] at h1 h2;exact⟨v,PO h1.lit_eq (by rw[hx.1];exact hj),PO h2.lit_eq (by rw[hy.1];exact hj),hs⟩
 refine⟨?_,λv hv m=>?_⟩
 .apply na (by rw[hx.1,hy.1])
  intro j h1 h2;obtain⟨v,e1,e2,_⟩:=each j (by rw[<- hx.1];exact h1);rw[ax h1] at e1;rw[ax h2] at e2;rw[eH e1,eH e2]
 .obtain⟨j,hj,rfl⟩:=gR hv
  obtain⟨v,e1,_,hs⟩:=each j (by rw[<- hx.1];simpa using hj);simp only[bX] at hj;rw[ax hj] at e1;simp only[Array.getElem_toList];rw[eH e1];exact hs m
theorem GR {t:TypeId} {xs:Array Value} (h:∀ v∈xs.toList,∀ m,Instr.sameBits m v v=true) (h1:dt P t=false->0<xs.size) (m:Nat) :
 Instr.sameBits (m+1) (mkv P t xs) (mkv P t xs)=true:=by
 unfold mkv;cases hz:dt P t with
 |false=>simp only[aM,dp];have:=h1 hz;simp only[Array.getD,this,dif_pos];exact h _ (by simp) _
 |true=>
  simp only[cZ];have:∀ l:List Value,(∀ v∈l,∀ m,Instr.sameBits m v v=true)->(l.zip l).all (λ(x:Value×Value)=>Instr.sameBits m x.1 x.2)=true:=by
   intro l hl;rw[a8];intro x hx;have:x.1=x.2/\x.1∈l:=by
    have h2:l.zip l=l.map λa=>(a,a):=by
     clear hx hl;induction l with
     |nil=>rfl
     |cons a l ih=>simp[ih]
    rw[h2] at hx;obtain⟨a,ha,rfl⟩:=bM.1 hx;exact⟨rfl,ha⟩
   rw[<- this.1];exact hl _ this.2 m
  simp only[Instr.sameBits,BEq.rfl,j9];exact this _ h
theorem GU {t:TypeId} {xs ys:Array Value} {ks:List EK} {cs ds:List C} (hx:Cells I w xs cs) (hy:Cells I w ys ds) (he:iG ks cs ds=some true) (h1:cs.length=ks.length) (h2:ds.length=ks.length) (hz:dt P t=false->0<ks.length) :
 mkv P t xs=mkv P t ys/\(Instr.keyThatStays (mkv P t ys) (mkv P t xs)).run P w=.ok (mkv P t xs) w:=by
 obtain⟨rfl,hl⟩:=ER he h1 h2;obtain⟨rfl,hs⟩:=M6 hx hy hl;refine⟨rfl,?_⟩;unfold Instr.keyThatStays;rw[GR hs (λh=>by rw[hx.1,h1];exact hz h) 9999];simp
theorem GW (em:Bool):∀ (d:Nat) (t:TypeId) (ks:List EK),eqk P d t=some ks->∀ (n:Nat) (xs:Array Value),xs.size=ks.length->
 (Instr.checkKey em (d+n) t (mkv P t xs)).run P w=.ok () w:=by
 intro d;induction d with
 |zero=>intro t ks h;simp[eqk] at h
 |succ d ih=>
  intro t ks h n xs tW;rw[show d+1+n=(d+n)+1 by omega];unfold eqk at h;split at h
  .rename_i k hu
   rw[Instr.checkKey];simp[aU hu,Result.andThen]
  .rename_i hu
   rw[Instr.checkKey];simp[aU hu,Result.andThen]
  .rename_i hu
   rw[Instr.checkKey];simp[aU hu,Result.andThen]
  .rename_i fs hu
   split at h
   .cases h
   .have kK:dt P t=true:=by simp[dt,hu]
    simp only[mkv,kK,cZ];rw[Instr.checkKey];simp only[aK,aU hu,aw];rw[<- Array.forIn_toList];have hh:∃ acc,D9 P (eqk P d) fs.toList acc=some ks:=⟨[],h⟩;clear h;generalize fs.toList=l at hh;induction l with
    |nil=>simp
    |cons f l ihl=>
     obtain⟨acc,h⟩:=hh;simp only[D9] at h;split at h
     .rename_i k1 DY
      split at h
      .rename_i hc
       obtain⟨hn,o9,cm⟩:=hc;obtain⟨rest,QW⟩:=yV (P:=P) _ _ _ _ h;have fK:acc.length+k1.length<=ks.length:=(by rw[QW];simp);obtain⟨u,hfu⟩:=pI DY;have ke:dt P f.type=false->P.cellsOf f.type=1:=λhz=>by rw[<- cm];exact u6 DY hz
       have hpx:=rP (w:=w) f.type u hfu xs f.offset (by rw[o9,<- cm,tW];exact fK) ke;have p2:=ih f.type k1 DY n (xs.extract f.offset (f.offset+P.cellsOf f.type)) (by simp;omega);simp only[List.forIn_cons,aK,hn,ne_eq,not_false_eq_true,cZ,hpx,aw,p2,bh];exact ihl ⟨_,h⟩
      .cases h
     .cases h
  .rename_i m e hu
   split at h
   .rename_i k1 DY
    split at h
    .rename_i cm
     simp only[ao] at h;have kK:dt P t=true:=(by simp[dt,hu]);obtain⟨u,heu⟩:=pI DY;obtain⟨i,hi⟩:=iu heu;simp only[mkv,kK,cZ];rw[Instr.checkKey];simp only[aK,aU hu,aw];simp only[Std.Legacy.Range.forIn_eq_forIn_range',Std.Legacy.Range.size,Nat.sub_zero,Nat.add_one_sub_one,Nat.div_one];have akJ:ks.length=m*k1.length:=(by rw[<- h];simp);have ke:dt P e=false->P.cellsOf e=1:=λhz=>by rw[<- cm];exact u6 DY hz
     have fF:∀ j∈List.range' 0 m,j<m:=λj hj=>by simp at hj;exact hj
     generalize List.range' 0 m=is at fF;induction is with
     |nil=>simp
     |cons j is ihs=>have hj:=fF j (by simp);have fK:j*k1.length+k1.length<=ks.length:=(by rw[akJ,<- eA];exact aO _ (by omega));have hpx:=rP (w:=w) e u heu xs (j*P.cellsOf e) (by rw[<- cm,tW];exact fK) ke;have p2:=ih e k1 DY n (xs.extract (j*P.cellsOf e) (j*P.cellsOf e+P.cellsOf e)) (by simp;rw[<- cm];omega);simp only[List.forIn_cons,aK,e9 w hi,aw,hpx,p2,bh];exact ihs (λy hy=>fF y (by simp[hy]))
    .cases h
   .cases h
  .cases h
theorem I8 {t:TypeId} {u:TypeDesc} {d:Nat} {ks:List EK} (hu:P.underlying t=some u) (hk:eqk P (d+1) t=some ks) (hz:dt P t=false) {xs ys:Array Value} {cs ds:List C} {r:Bool} (hx:Cells I w xs cs) (hy:Cells I w ys ds)
 (h1:cs.length=ks.length) (h2:ds.length=ks.length) (he:iG ks cs ds=some r):Instr.sameNow u (mkv P t xs) (mkv P t ys)=some r:=by
 have hl:=u6 hk hz;obtain⟨k,rfl⟩:=gB.1 hl;obtain⟨c,rfl⟩:=gB.1 (h1.trans hl);obtain⟨e,rfl⟩:=gB.1 (h2.trans hl);have hr:eqC k c e=some r:=by
  simp only[iG] at he;split at he
  .rename_i p q e1 e2
   simp only[ao] at e2 he;subst e2;rw[e1];simpa using he
  .cases he
 have hcx:CR I w (mkv P t xs) c:=by simp only[mkv,hz];exact hx.2 0 c rfl
 have hcy:CR I w (mkv P t ys) e:=by simp only[mkv,hz];exact hy.2 0 e rfl
 unfold eqk at hk;split at hk
 .rename_i q Br
  rw[hu] at Br;cases Br;simp only[ao,cM,gC] at hk;subst hk;obtain⟨kk,a,b,rfl,rfl,rfl⟩:=GA hr;rw[hcx.lit_eq,hcy.lit_eq];simp[Instr.sameNow,Bool.beq_eq_decide_eq]
 .rename_i Br
  rw[hu] at Br;cases Br;simp only[ao,cM,gC] at hk;subst hk;obtain⟨a,b,rfl,rfl,rfl⟩:=BB hr;rw[hcx.lit_eq,hcy.lit_eq];simp[Instr.sameNow]
 .rename_i Br
  rw[hu] at Br;cases Br;simp only[ao,cM,gC] at hk;subst hk;obtain⟨a,b,rfl,rfl,rfl⟩:=GB hr;rw[hcx.lit_eq,hcy.lit_eq];simp[Instr.sameNow,yU]
 .rename_i Br;simp[dt,Br] at hz
 .rename_i Br;simp[dt,Br] at hz
 .cases hk
theorem ES {t:TypeId} {ks:List EK} (hk:eqk P 8 t=some ks) {xs:Array Value} {cs:List C} (hx:Cells I w xs cs) (h1:cs.length=ks.length) :
 ∀ (es:List MapEntry) (kc:List (List C)) (i:Nat) (r:Option Nat),es.length=kc.length->(∀ (j:Nat) (e:MapEntry) (c:List C),es[j]?=some e->kc[j]?=some c->∃ ys,e.key=mkv P t ys/\Cells I w ys c)->
  nK ks cs kc i=some r->(if dt P t then(Instr.findAsking t (mkv P t xs) es i).run P w=.ok (r.map λj=>(j,((es[j - i]?).map (·.val)).getD undef)) w
   else Instr.findNow ((P.underlying t).getD .bool) (mkv P t xs) es i=some (r.map λj=>(j,((es[j - i]?).map (·.val)).getD undef)))/\∀ j,r=some j->i<=j
 |[],[],i,r,_,_,h=>by simp only[nK,ao] at h;subst h;refine⟨?_,by simp⟩;split<;>simp[Instr.findAsking,Instr.findNow]
 |[],_::_,_,_,h,_,_=>by simp at h
 |_::_,[],_,_,h,_,_=>by simp at h
 |e::es,c::kc,i,r,hl,pG,h=>by
  simp only[nK] at h;split at h
  .rename_i h2
   obtain⟨ys,ID,hy⟩:=pG 0 e c rfl rfl;obtain⟨u,hu⟩:=pI hk;have step:∀ b,iG ks cs c=some b->(dt P t=true->(Op.equal t (mkv P t xs) e.key).run P w=.ok b w)/\(dt P t=false->Instr.sameNow u (mkv P t xs) e.key=some b):=λb hb=>by rw[ID];exact⟨λ_=>EN (w:=w) 8 t ks hk 10000 (by omega) xs ys cs c b hx hy (by rw[hx.1,h1]) (by rw[hy.1,h2]) hb,λhz=>I8 hu hk hz hx hy h1 h2 hb⟩
   split at h
   .rename_i hb
    simp only[ao] at h;subst h;obtain⟨s1,s2⟩:=step _ hb;refine⟨?_,λj hj=>by cases hj;exact ab _⟩;split
    .rename_i hz;simp[Instr.findAsking,s1 hz]
    .rename_i hz;simp[Instr.findNow,hu,s2 (by simpa using hz)]
   .rename_i hb
    obtain⟨s1,s2⟩:=step _ hb;obtain⟨q1,q2⟩:=ES hk hx h1 es kc (i+1) r (by simpa using hl) (λj e c h1 h2=>pG (j+1) e c (by simpa using h1) (by simpa using h2)) h;have fF:(r.map λj=>(j,(((e::es)[j - i]?).map (·.val)).getD undef))=r.map λj=>(j,((es[j - (i+1)]?).map (·.val)).getD undef):=by
     cases r with
     |none=>rfl
     |some j=>have:=q2 j rfl;have e1:j - i=(j - (i+1))+1:=(by omega);simp[e1]
    refine⟨?_,λj hj=>by have:=q2 j hj;omega⟩;rw[fF];split
    .rename_i hz
     rw[if_pos hz] at q1;simpa[Instr.findAsking,s1 hz] using q1
    .rename_i hz
     rw[if_neg hz] at q1;simpa[Instr.findNow,hu,s2 (by simpa using hz)] using q1
   .cases h
  .cases h
theorem Rm {t:TypeId} {ks:List EK} (hk:eqk P 8 t=some ks) {xs:Array Value} {cs:List C} (hx:Cells I w xs cs) (h1:cs.length=ks.length) {es:List MapEntry} {kc:List (List C)} {r:Option Nat} (hl:es.length=kc.length)
 (pG:∀ (j:Nat) (e:MapEntry) (c:List C),es[j]?=some e->kc[j]?=some c->∃ ys,e.key=mkv P t ys/\Cells I w ys c) (h:nK ks cs kc 0=some r) :
 (Instr.findKey t (mkv P t xs) es).run P w=.ok (r.map λj=>(j,((es[j]?).map (·.val)).getD undef)) w:=by
 obtain⟨q,_⟩:=ES hk hx h1 es kc 0 r hl pG h;obtain⟨u,hu⟩:=pI hk;cases hz:dt P t with
 |true=>rw[if_pos hz] at q;rw[run_findKey_eq w (by unfold dt at hz;rw[hu] at hz ⊢;cases u<;>simp_all)];simpa using q
 |false=>rw[if_neg (by simp[hz])] at q;simp only[hu,cX] at q;rw[MapKept.run_findKey hu q];simp
end
section
variable {P:Program} {G:Gl} {tr:List Nat} {n:Nat} {I0:Ft} {M:Mx} {w0:World} {I:Ft} {β:Nat->Option Nat} {ob:Loc->Option Nat} {s:S} {a:Act} {w:World} {o:Oper}
 {next:Act->World->Prop} {Q:Exit->Act->World->Prop} {base:Nat->Prop} {v:Value} {x y:V} {K:V->Prop}
theorem BF {d:TypeDesc} {k e:TypeId} (h:Vl.K.map k e=vF d):d=.map k e:=by cases d<;>simp_all[vF]
theorem BG {ag:Bool}:∀ {r:List V} {kcs:List (List C)},j4 ag r=some kcs->r.length=2*kcs.length/\∀ (j:Nat) (c:List C),kcs[j]?=some c->(r.getD (2*j) .un).kcs ag=some c
 |[],kcs,h=>by simp only[j4,ao] at h;subst h;exact⟨rfl,by simp⟩
 |[_],kcs,h=>by simp[j4] at h
 |k::v::r,kcs,h=>by
  simp only[j4] at h;split at h
  .rename_i q l h1 h2
   simp only[ao] at h;subst h;obtain⟨h3,h4⟩:=BG h2;refine⟨by simp[h3];omega,λj c hc=>?_⟩;cases j with
   |zero=>simp at hc;subst hc;exact h1
   |succ j=>rw[show 2*(j+1)=2*j+1+1 by omega];simp only[fx];exact h4 j c (by simpa using hc)
  .cases h
theorem BH {ks:List EK} {k:List C}:∀ {kcs:List (List C)} {i j:Nat},nK ks k kcs i=some (some j)->∃ q c,j=i+q/\kcs[q]?=some c/\c.length=ks.length/\iG ks k c=some true
 |[],i,j,h=>by simp[nK] at h
 |c::r,i,j,h=>by
  simp only[nK] at h;split at h
  .rename_i hl
   split at h
   .rename_i he
    simp only[ao] at h;subst h;exact⟨0,c,rfl,rfl,hl,he⟩
   .obtain⟨q,c',rfl,h2,h3,h4⟩:=BH h
    exact⟨q+1,c',by omega,by simpa using h2,h3,h4⟩
   .cases h
  .cases h
theorem sD:∀ (es:List MapEntry) (j:Nat) (e:MapEntry),es[j]?=some e->(lK es)[2*j]?=some e.key/\(lK es)[2*j+1]?=some e.val
 |[],j,e,h=>by simp at h
 |x::es,0,e,h=>by simp at h;subst h;exact⟨rfl,rfl⟩
 |x::es,j+1,e,h=>by obtain⟨h1,h2⟩:=sD es j e (by simpa using h);rw[show 2*(j+1)=2*j+1+1 by omega];simp only[lK,cF];exact⟨h1,h2⟩
theorem xK:∀ es:List MapEntry,(lK es).length=2*es.length
 |[]=>rfl
 |x::es=>by simp[lK,xK es];omega
theorem VH {ag:Bool} {kt:TypeId} (kK:ag=dt P kt) {ox:Option Nat} (h:LR base I β w ox v x) {c:List C} (hc:x.kcs ag=some c):∃ ys,v=mkv P kt ys/\Cells I w ys c:=by
 cases x<;>simp only[V.kcs] at hc<;>try cases hc
 .split at hc
  .cases hc
  .rename_i hf
   simp only[ao] at hc;subst hc;have hz:dt P kt=false:=(by rw[<- kK];simpa using hf);refine⟨#[v],by simp[mkv,hz],rfl,λj c hc=>?_⟩;cases j with
   |zero=>simp at hc;subst hc;exact h.toC
   |succ j=>simp at hc
 .split at hc
  .rename_i ht
   simp only[ao] at hc;subst hc;have hz:dt P kt=true:=(by rw[<- kK];exact ht);obtain⟨vs,rfl,h1,h2⟩:=h.agg;exact⟨vs,by simp[mkv,hz],h1,h2⟩
  .cases hc
theorem vV {ox:Option Nat} (h:LR base I β w ox v x):DR I w v x.dr:=by
 cases x<;>simp only[V.dr]<;>first | exact .un _ | skip
 .exact .c _ _ h.toC
 .simp only[LR] at h;exact h
 .exact .c _ _ h.1
theorem Rn {et:TypeId} {e:TI} {z:V} (hi:ti P et=some e) (hz:oZ e=some z) (ha:zaB P et=true):∃ zv,(zeroValue et).run P w=.ok zv w/\∀ (base:Nat->Prop) (β:Nat->Option Nat),LR base I β w none zv z:=by
 obtain⟨j,d,h1,h2,_,_,_,kK,hze,_⟩:=bH hi;unfold zaB at ha;rw[h1] at ha;simp only at ha;unfold oZ at hz;cases tL:j.zero with
 |none=>rw[tL] at ha;cases ha
 |some zv=>
  rw[tL] at ha hze;refine⟨zv,by simp[zeroValue,typeInfo,h1,tL],λbase β=>?_⟩;simp only at hze;split at hz
  .rename_i zc' Pm tg
   simp only[ao] at hz;subst hz;rw[tg] at hze;rw[Pm] at kK;cases zv<;>simp only[<- kK,lh,aM] at ha;rename_i cs;simp only[LR];refine .agg _ _ (by have:=List.mapM_eq_some_length hze.symm;simpa[Value.cells] using this.symm) λq c hc=>?_;obtain⟨u,hu,huc⟩:=List.mapM_eq_some_get hze.symm q c hc;have:cs.getD q undef=u:=(by simp only[Value.cells,aS] at hu;simp[hu]);rw[this];exact PS huc
  .rename_i c Iy tg
   simp only[ao] at hz;subst hz;rw[tg] at hze;rw[Iy] at kK;have hl:=List.mapM_eq_some_length hze.symm;obtain⟨u,hu,huc⟩:=List.mapM_eq_some_get hze.symm 0 c rfl;have:zv=u:=(by cases zv<;>simp only[<- kK,lS,aM] at ha<;>simpa[Value.cells] using hu);rw[this];exact .ofC (PS huc)
  .cases hz
structure VI (P:Program) (I:Ft) (M:Mx) (w0:World) (β:Nat->Option Nat) (ob:Loc->Option Nat) (s:S) (w:World) (i:Nat) (bs:List Nat) (cl:Nat) (r:List V) (blk:Nat) (es:Array MapEntry):Prop where
 lt:i<s.nb
 bx:s.bx i=.mk bs cl::r
 bt:β i=some blk
 wr:Wr M w0 blk
 fr:∀ o,¬ I blk o
 heap:w.heap[blk]?=some (.map es cl)
 born:es.toList.map (·.born)=bs
 len:r.length=2*bs.length
 ent:∀ (j:Nat) (e:MapEntry),es.toList[j]?=some e->LR (Wr M w0) I β w (ob (.b i (2*j+1))) e.key (r.getD (2*j) .un)/\LR (Wr M w0) I β w (ob (.b i (2*j+2))) e.val (r.getD (2*j+1) .un)
theorem St.mapW (hst:St G n I0 M w0 I β ob s a w) {i blk cl:Nat} {bs:List Nat} {r:List V} (hi:i<s.nb) (hb:s.bx i=.mk bs cl::r) (hβ:β i=some blk):∃ es,VI P I M w0 β ob s w i bs cl r blk es:=by
 obtain⟨tj,cur,e1,e2,e3,e4,e5,e7⟩:=hst.bx i hi;rw[hβ] at e1;cases e1;have hm:re (s.bx i)=some (.mp bs cl):=by rw[hb];rfl
 unfold HB at e3;rw[hm] at e3;obtain⟨es,q1,q2,q3,q4⟩:=e3;refine⟨es,hi,hb,hβ,e2,e7,q1,q2,by rw[hb,aB] at q4;omega,λj e he=>?_⟩;obtain⟨c1,c2⟩:=sD _ _ _ he;have g1:cur.getD (2*j+1) undef=e.key:=by rw[ak,<- aS,q3];simp[c1]
 have g2:cur.getD (2*j+2) undef=e.val:=by rw[ak,<- aS,q3,show 2*j+2=(2*j+1)+1 by omega];simp[c2]
 have l1:=e5 (2*j+1);have l2:=e5 (2*j+2);rw[g1,hb] at l1;rw[g2,hb,show 2*j+2=(2*j+1)+1 by omega] at l2;simp only[fx] at l1 l2;exact⟨l1,l2⟩
theorem wC {T:TypeId} {K:Nat->List Nat->Nat->List V->Option Nat->V->Prop} (h:gX P T s x y K) :
 ∃ i kt et tT tk te ks kc z bs cl r kcs res,ti P T=some tT/\tT.kd=.map kt et/\x=.mr i/\ti P kt=some tk/\tk.eqs=some ks/\ti P et=some te/\y.kcs tk.agg=some kc/\oZ te=some z/\
  s.bx i=.mk bs cl::r/\j4 tk.agg r=some kcs/\nK ks kc kcs 0=some res/\(i<s.nb/\kc.length=ks.length/\iG ks kc kc=some true/\zaB P et=true)/\K i bs cl r res z:=by
 unfold gX at h;split at h
 .rename_i hT
  split at h
  .rename_i h2 h3
   split at h
   .rename_i h4 h5 h6
    split at h
    .rename_i h7
     split at h
     .rename_i h8
      exact⟨_,_,_,_,_,_,_,_,_,_,_,_,_,_,hT,rfl,rfl,h2,rfl,h3,h4,h5,h6,h7,h8,h.1,h.2⟩
     .exact h.elim
    .exact h.elim
   .exact h.elim
  .exact h.elim
 .exact h.elim
theorem abv {t:TypeId} {i:TI} {ks:List EK} (h:ti P t=some i) (hk:i.eqs=some ks):eqk P 8 t=some ks:=by
 obtain⟨_,_,_,_,_,_,_,_,_,_,he,_⟩:=bH h;rw[hk] at he;split at he
 .cases he
 .exact he.symm
theorem px {T:TypeId} {K:Nat->List Nat->Nat->List V->Option Nat->V->Prop} {vx vy:Value} {ox oy:Option Nat} (hst:St G n I0 M w0 I β ob s a w) (h:gX P T s x y K)
 (hx:LR (Wr M w0) I β w ox vx x) (hy:LR (Wr M w0) I β w oy vy y) :
 ∃ i bs cl r res z blk kt et es zv,K i bs cl r res z/\x=.mr i/\vx=.map (some blk)/\VI P I M w0 β ob s w i bs cl r blk es/\P.underlying T=some (.map kt et)/\
  (∀ em,(Instr.checkKey em 10000 kt vy).run P w=.ok () w)/\
  (Instr.findKey kt vy es.toList).run P w=.ok (res.map λj=>(j,((es.toList[j]?).map (·.val)).getD undef)) w/\
  (∀ j,res=some j->∃ e,es.toList[j]?=some e/\e.key=vy/\(Instr.keyThatStays e.key vy).run P w=.ok vy w)/\
  (zeroValue et).run P w=.ok zv w/\LR (Wr M w0) I β w none zv z:=by
 obtain⟨i,kt,et,tT,tk,te,ks,kc,z,bs,cl,r,kcs,res,h1,h2,rfl,h3,h4,h5,h6,h7,h8,h9,h10,⟨c1,c2,c3,c4⟩,hK⟩:=wC h;obtain⟨_,d,_,hu,hkd,_⟩:=bH h1;rw[h2] at hkd;have hd:=BF hkd;subst hd;have hek:=abv h3 h4;have kK:tk.agg=dt P kt:=by obtain⟨_,_,_,_,_,_,_,h,_⟩:=bH h3;exact h
 simp only[LR] at hx;obtain⟨blk,hβ,rfl⟩:=hx;obtain⟨es,hm⟩:=hst.mapW (P:=P) c1 h8 hβ;obtain⟨xs,rfl,tW⟩:=VH (P:=P) kK hy h6;obtain⟨zv,hz1,L8⟩:=Rn (I:=I) (w:=w) h5 h7 c4;obtain⟨k1,k2⟩:=BG h9;have Pv:es.toList.length=bs.length:=by rw[<- hm.born,au]
 have DW:es.toList.length=kcs.length:=by have:=hm.len;omega
 have pG:∀ (j:Nat) (e:MapEntry) (c:List C),es.toList[j]?=some e->kcs[j]?=some c->∃ ys,e.key=mkv P kt ys/\Cells I w ys c:=λj e c he hc=>
  VH (P:=P) kK (hm.ent j e he).1 (k2 j c hc)
 refine⟨i,bs,cl,r,res,z,blk,kt,et,es,zv,hK,rfl,rfl,hm,hu,λem=>?_,Rm hek tW c2 DW pG h10,λj hj=>?_,hz1,L8 _ _⟩
 .exact GW em 8 kt ks hek 9992 xs (by rw[tW.1];exact c2)
 .subst hj
  obtain⟨q,c,hq,hc,hl,he⟩:=BH h10;have bF:q<es.toList.length:=by rw[DW];exact(ai.1 hc).1
  have tQ:es.toList[j]?=some es.toList[q]:=by rw[show j=q by omega];exact ah bF
  refine⟨_,tQ,?_⟩;obtain⟨ys,ID,uZ⟩:=pG j _ c tQ (by rw[show j=q by omega];exact hc);have:=GU (P:=P) (t:=kt) tW uZ he c2 hl (λhz=>by have:=u6 hek hz;omega);rw[ID];exact⟨this.1.symm,this.2⟩
theorem Ei {T:TypeId} {ok:Bool} {vx vy:Value} {ox oy:Option Nat} (hst:St G n I0 M w0 I β ob s a w) (h:fH P T s x y ok K)
 (hx:LR (Wr M w0) I β w ox vx x) (hy:LR (Wr M w0) I β w oy vy y) :
 ∃ z u,K z/\LR (Wr M w0) I β w none u z/\(Instr.lookup T vx vy ok).run P w=.ok u w:=by
 unfold fH at h;obtain⟨i,bs,cl,r,res,z,blk,kt,et,es,zv,hK,rfl,rfl,hm,hu,vQ,EF,vP,hz1,L8⟩:=px hst h hx hy;have hg:=fg (P:=P) hm.heap;cases res with
 |some j=>
  obtain⟨e,he,_,_⟩:=vP j rfl;have hv:=(hm.ent j e he).2;simp only[cU,he,cX] at EF;cases ok with
  |false=>simp only[aM,dp] at hK;exact⟨_,e.val,hK,hv.fz none,by simp[Instr.lookup,aU hu,hg,vQ,EF,Result.andThen]⟩
  |true=>
   simp only[cZ] at hK;refine⟨_,.tuple #[e.val,.bool true],hK,?_,by simp[Instr.lookup,aU hu,hg,vQ,EF,Result.andThen]⟩;simp only[LR];refine .tup _ _ rfl λq d hd=>?_
   match q with
   |0=>simp at hd;subst hd;exact vV hv
   |1=>simp at hd;subst hd;exact .c _ _ (.lit _ rfl)
   |q+2=>simp at hd
 |none=>
  simp only[kZ] at EF;cases ok with
  |false=>simp only[aM,dp] at hK;exact⟨_,zv,hK,L8,by simp[Instr.lookup,aU hu,hg,vQ,EF,hz1,Result.andThen]⟩
  |true=>
   simp only[cZ] at hK;refine⟨_,.tuple #[zv,.bool false],hK,?_,by simp[Instr.lookup,aU hu,hg,vQ,EF,hz1,Result.andThen]⟩;simp only[LR];refine .tup _ _ rfl λq d hd=>?_
   match q with
   |0=>simp at hd;subst hd;exact vV L8
   |1=>simp at hd;subst hd;exact .c _ _ (.lit _ rfl)
   |q+2=>simp at hd
theorem Ro {es:List MapEntry} {b j:Nat} (h:(es.map (·.born)).findIdx? (·==b)=some j):∃ e,es[j]?=some e/\es.find? (·.born==b)=some e:=by
 induction es generalizing j with
 |nil=>simp at h
 |cons e es ih=>
  simp only[bB,List.findIdx?_cons] at h;cases hb:(e.born==b) with
  |true=>rw[hb] at h;simp at h;subst h;exact⟨e,rfl,by simp[hb]⟩
  |false=>rw[hb] at h;simp only[aM,dp,aW] at h;obtain⟨q,hq,rfl⟩:=h;obtain⟨e',h1,h2⟩:=ih hq;exact⟨e',by simpa using h1,by simp[hb,h2]⟩
theorem GX {vx:Value} {ox:Option Nat} (hst:St G n I0 M w0 I β ob s a w) (h:o5 s x K) (hx:LR (Wr M w0) I β w ox vx x) :
 ∃ z u,K z/\LR (Wr M w0) I β w none u z/\(Instr.entry vx).run P w=.ok u w:=by
 unfold o5 at h;split at h
 .rename_i i since stepped seen
  split at h
  .rename_i bs cl r b hb hl
   split at h
   .rename_i j hj
    obtain⟨⟨hi,rfl⟩,hK⟩:=h;simp only[LR] at hx;obtain⟨blk,m,_,_,hβ,rfl,hh,_⟩:=hx;obtain⟨es,hm⟩:=hst.mapW (P:=P) hi hb hβ;have hj':=hj;rw[<- hm.born] at hj';obtain⟨e,he,hf⟩:=Ro hj';obtain⟨l1,l2⟩:=hm.ent j e he;have IJ:es.find? (λx=>x.born==b)=some e:=(by rw[<- Array.find?_toList];exact hf);have hg:(getObj blk).run P w=.ok (.mapIter (some m) since seen.toArray cl) w:=(by simp[getObj,Sem.run,hh]);have QZ:=fg (P:=P) hm.heap;refine⟨_,.tuple #[e.key,e.val],hK,?_,?_⟩
    .simp only[LR]
     refine .tup _ _ rfl λq d hd=>?_
     match q with
     |0=>simp at hd;subst hd;exact vV l1
     |1=>simp at hd;subst hd;exact vV l2
     |q+2=>simp at hd
    .simp[Instr.entry,hg,QZ,IJ,hl,Result.andThen]
   .exact h.elim
  .exact h.elim
 .exact h.elim
theorem GY {T:TypeId} {vx:Value} {ox:Option Nat} (hst:St G n I0 M w0 I β ob s a w) (hd:∀ d,o.dst=some d->d<n) (h:o0 P T s x K) (hx:LR (Wr M w0) I β w ox vx x) :
 ∃ z u w',K z/\(Instr.range T vx).run P w=.ok u w'/\SE G n I0 M w0 (s.after tr o z) (a.put o.dst u) w':=by
 unfold o0 at h;split at h
 .rename_i hT
  obtain⟨_,d,_,hu,hkd,_⟩:=bH hT;have qI:=BF hkd;subst qI;split at h
  .rename_i i bs cl r hb
   obtain⟨hi,hK⟩:=h;simp only[LR] at hx;obtain⟨blk,hβ,rfl⟩:=hx;obtain⟨es,hm⟩:=hst.mapW (P:=P) hi hb hβ;have hg:=fg (P:=P) hm.heap;have hs:=hst.allocOwn (.mapIter (some blk) cl #[] cl);have tp:=hst.fresh (ab _);refine⟨_,.pointer (some ⟨w.heap.size,0,none⟩),w.alloc (.mapIter (some blk) cl #[] cl),hK,by simp[Instr.range,aU hu,hg,Result.andThen],?_⟩;refine .fin hs hd (o':=some w.heap.size) ?_ λb hb=>?_
   .simp only[LR]
    exact⟨w.heap.size,blk,rfl,.inl hst.below.size,hβ,rfl,gf w _,λo ho=>by have:=hst.ibnd _ _ ho;omega⟩
   .cases hb
    refine⟨⟨by rw[ec];omega,.inl hst.below.size⟩,tp.2,λL hL=>absurd hL (tp.1 L)⟩
  .exact h.elim
 .exact h.elim
theorem I9 {T ty:TypeId} {vx:Value} {ox:Option Nat} (hst:St G n I0 M w0 I β ob s a w) (h:IP P s K [T] [x]) (hx:LR (Wr M w0) I β w ox vx x) :
 ∃ u,flat u=true/\K (.c (.lit u))/\(Builtin.len_ #[T] ty #[vx]).run P w=.ok u w:=by
 unfold IP at h;split at h
 .rename_i T' i vR sw
  simp only[cM,gC] at vR sw;subst vR;subst sw;split at h
  .rename_i hT hb
   obtain⟨_,d,_,hu,hkd,_⟩:=bH hT;have qI:=BF hkd;subst qI;obtain⟨hi,hK⟩:=h;simp only[LR] at hx;obtain⟨blk,hβ,rfl⟩:=hx;obtain⟨tj,cur,e1,e2,e3,e4,e5,e7⟩:=hst.bx i hi;rw[hβ] at e1;cases e1;unfold HB at e3;rw[hb] at e3;obtain⟨es,q1,q2,_⟩:=e3;have hg:=fg (P:=P) q1;refine⟨_,rfl,hK,?_⟩;have hl:=dM List.length q2;rw[au,bX] at hl;simp[Builtin.len_,aU hu,hg,Result.andThen,goInt,hl]
  .exact h.elim
 .exact h.elim
end
section
variable {P:Program} {G:Gl} {tr:List Nat} {n:Nat} {I0:Ft} {M:Mx} {w0:World} {I:Ft} {β:Nat->Option Nat} {ob:Loc->Option Nat} {s:S} {a:Act} {w:World} {o:Oper}
 {next:Act->World->Prop} {Q:Exit->Act->World->Prop} {base:Nat->Prop} {v:Value} {x y:V}
theorem agf (hst:St G n I0 M w0 I β ob s a w) (x:Operand):(∃ ox,LR (Wr M w0) I β w ox (a.eval x) (vw s (ev G s x)).fz)∨∃ es,(vw s (ev G s x)).fz=.c (.sl es)/\RD I w (a.eval x) es:=by
 have hx:=bN hst x;cases he:ev G s x with
 |ms i off len cap sz=>
  rw[he] at hx;simp only[LR] at hx;simp only[vw];cases hv:nJ s i off len sz with
  |none=>left;exact⟨none,by simp only[V.fz,LR];exact .un _⟩
  |some c=>obtain⟨es,rfl,hrd⟩:=abu hst hv hx;right;exact⟨es,rfl,hrd⟩
 |_=>left;rw[he] at hx;exact⟨none,hx.fz none⟩
theorem Ja (hst:St G n I0 M w0 I β ob s a w) (x:Operand) (ys:List (List C)) (h:(vw s (ev G s x)).fz=.c (.sl ys)):RD I w (a.eval x) ys:=by
 rcases agf hst x with⟨ox,hx⟩ | ⟨es,he,hrd⟩
 .rw[h] at hx;exact .ofCR hx.toC
 .rw[h] at he;cases he;exact hrd
theorem agh {x:V} {E:Option (TypeId×Nat)} {es:List (List C)} (h:vw s x=.ow E es):x=.ow E es:=by
 cases x<;>simp only[vw] at h<;>try exact h
 split at h<;>cases h
theorem BI {K:V->Prop} {X Y:Operand} {t t' ty:TypeId} (hst:St G n I0 M w0 I β ob s a w) (hd:∀ d,o.dst=some d->d<n) (tq:cj tr o=(match X with | .tmp t=>some t | _=>none))
 (h:eX P .append [t,t'] [vw s (ev G s X),vw s (ev G s Y)] K):∃ z u w',K z/\(Builtin.append_ #[t,t'] ty #[a.eval X,a.eval Y]).run P w=.ok u w'/\SE G n I0 M w0 (s.after tr o z) (a.put o.dst u) w':=by
 have key:∀ ys,dS P t (vw s (ev G s X)) ys K->(∀ ys' e,P.underlying t=some (.slice e)->∀ j,ti P e=some j->ys=.c (.sl ys')->(∀ x∈ys',x.length=j.size)->IZ P I w t' (a.eval Y) j.size ys')->
  ∃ z u w',K z/\(Builtin.append_ #[t,t'] ty #[a.eval X,a.eval Y]).run P w=.ok u w'/\SE G n I0 M w0 (s.after tr o z) (a.put o.dst u) w':=by
  intro ys h rJ;have h':dS P t (ev G s X) ys K:=by
   cases hx:vw s (ev G s X) with
   |ow E es=>rw[hx] at h;rw[agh hx];exact h
   |_=>rw[hx] at h;simp[dS] at h
  exact Eg (tr:=tr) (U:=t') (ty:=ty) hst hd tq h' rJ
 simp only[eX] at h;split at h
 .rename_i htt
  subst htt;exact key _ h λys' e hu j hj hy hl=>(Ja hst Y ys' hy).src hu hl
 .unfold qK at h
  split at h
  .rename_i e _ _ _ _ _ _ _ _ _ _ _ _ st hi L9 hy
   obtain⟨j1,d1,_,h2,h3,_⟩:=bH hi;have hd1:=dL h3;subst hd1;obtain⟨j2,d2,_,h22,h32,_⟩:=bH L9;have hd2:=pP h32;subst hd2;split at h
   .rename_i ie mj
    obtain⟨Vh,h⟩:=h;have aqj:ev G s Y=.c (.lit (.string st)):=by
     have:(vw s (ev G s Y)).fz=.c (.lit (.string st)):=hy;cases tM:ev G s Y<;>rw[tM] at this
     case hh g E es=>cases g<;>simp[vw,V.fz] at this
     case gs g E es=>cases g<;>simp[vw,V.fz] at this
     case ms i off len cap sz=>
      simp only[vw] at this;split at this
      .rename_i c hc
       simp only[V.fz,V.c.injEq] at this;subst this;unfold nJ at hc;split at hc
       .split at hc<;>simp at hc
       .cases hc
      .simp[V.fz] at this
     all_goals simp_all[vw,V.fz]
    have hv:=bN hst Y;rw[aqj] at hv;refine key _ h λys' e' hu j hj U5 hl=>?_;rw[h2] at hu;simp only[ao,TypeDesc.slice.injEq] at hu;subst hu;rw[mj] at hj;cases hj;simp only[V.c.injEq,C.sl.injEq] at U5;subst U5;rw[hv.lit,Vh];exact abt h22
   .exact h.elim
  .exact h.elim
theorem St.unghost {t d:Tmp} {v:Value} {E:Option (TypeId×Nat)} {es:List (List C)} (hst:St G n I0 M w0 I β ob s a w) (ML:t≠d) (ht:s.fr t=.c (.ex v)) (Q0:s.fr d=.gh v E es) (hdn:d<n) (rL:t<n) :
 ∃ ob',St G n I0 M w0 I β ob' { s with fr:=up (up s.fr d .un) t (.ow E es) } a w:=by
 have hg:=hst.fr d;rw[Q0] at hg;simp only[LR] at hg;have hx:=hst.fr t;rw[ht] at hx;have hv:a.tmps.getD t undef=v:=by
  have:=hx.toC;generalize a.tmps.getD t undef=q at this;cases this with
  |ex _ h1 h2=>rfl
 have h1:=hst.put d hdn (v:=a.tmps.getD d undef) (x:=.un) (o:=none) (by simp only[LR];exact .un _) FreeOb.nothing;have h2:=h1.put t rL (v:=a.tmps.getD t undef) (x:=.ow E es) (o:=ob (.t d)) (by rw[hv];simp only[LR];exact hg) (λb hb=>by
  refine⟨hst.obnd _ b hb,λL hL=>?_,λi=>hst.obx _ b i hb⟩;simp only[upL] at hL;split at hL
  .cases hL
  .split at hL
   .cases hL
   .rename_i h3 h4
    exact h4 (hst.oinj _ _ b hL hb))
 have back:∀ (a:Act) (q:Tmp),q<a.tmps.size->a.put (some q) (a.tmps.getD q undef)=a:=λa q hq=>by
  have:a.tmps.set! q (a.tmps.getD q undef)=a.tmps:=by
   apply na
   .simp[ct]
   .intro i h1 h2
    simp only[ct,gv h2];split
    .rename_i e;subst e;simp[Array.getD,h2]
    .rfl
  show(⟨a.tmps.set! q (a.tmps.getD q undef),a.defers⟩:Act)=a;rw[this]
 rw[back a d (by rw[hst.size];exact hdn),back a t (by rw[hst.size];exact rL)] at h2;exact⟨_,h2⟩
theorem St.unghostG {t d:Tmp} {v:Value} {E:Option (TypeId×Nat)} {es:List (List C)} (hst:St G n I0 M w0 I β ob s a w) (ML:t≠d) (ht:s.fr t=.c (.ex v)) (Q0:s.fr d=.gg v E es) (hdn:d<n) (rL:t<n) :
 ∃ ob',St G n I0 M w0 I β ob' { s with fr:=up (up s.fr d .un) t (.gs none E es) } a w:=by
 have hg:=hst.fr d;rw[Q0] at hg;simp only[LR] at hg;have hx:=hst.fr t;rw[ht] at hx;have hv:a.tmps.getD t undef=v:=by
  have:=hx.toC;generalize a.tmps.getD t undef=q at this;cases this with
  |ex _ h1 h2=>rfl
 have h1:=hst.put d hdn (v:=a.tmps.getD d undef) (x:=.un) (o:=none) (by simp only[LR];exact .un _) FreeOb.nothing;have h2:=h1.put t rL (v:=a.tmps.getD t undef) (x:=.gs none E es) (o:=ob (.t d)) (by rw[hv];simp only[LR];exact⟨(λ_ h=>by cases h),hg⟩) (λb hb=>by
  refine⟨hst.obnd _ b hb,λL hL=>?_,λi=>hst.obx _ b i hb⟩;simp only[upL] at hL;split at hL
  .cases hL
  .split at hL
   .cases hL
   .rename_i h3 h4
    exact h4 (hst.oinj _ _ b hL hb))
 have back:∀ (a:Act) (q:Tmp),q<a.tmps.size->a.put (some q) (a.tmps.getD q undef)=a:=λa q hq=>by
  have:a.tmps.set! q (a.tmps.getD q undef)=a.tmps:=by
   apply na
   .simp[ct]
   .intro i h1 h2
    simp only[ct,gv h2];split
    .rename_i e;subst e;simp[Array.getD,h2]
    .rfl
  show(⟨a.tmps.set! q (a.tmps.getD q undef),a.defers⟩:Act)=a;rw[this]
 rw[back a d (by rw[hst.size];exact hdn),back a t (by rw[hst.size];exact rL)] at h2;exact⟨_,h2⟩
theorem yZ (hst:St G n I0 M w0 I β ob s a w) {t:Tmp} {v:Value} (ht:s.fr t=.c (.ex v)):a.tmps.getD t undef=v/\v.oneCell'=true/\v.cells=#[v]:=by
 have hx:=hst.fr t;rw[ht] at hx;have:=hx.toC;generalize a.tmps.getD t undef=q at this;cases this with
 |ex _ h1 h2=>exact⟨rfl,h1,h2⟩
theorem jx {q:Tmp} (hq:q<a.tmps.size):a.put (some q) (a.tmps.getD q undef)=a:=by
 have:a.tmps.set! q (a.tmps.getD q undef)=a.tmps:=by
  apply na
  .simp[ct]
  .intro i h1 h2
   simp only[ct,gv h2];split
   .rename_i e;subst e;simp[Array.getD,h2]
   .rfl
 show(⟨a.tmps.set! q (a.tmps.getD q undef),a.defers⟩:Act)=a;rw[this]
theorem Rq {K:V->Prop} {t d:Tmp} {y:Operand} {v:Value} {E:Option (TypeId×Nat)} {es:List (List C)} {ts:List TypeId} {ty:TypeId} (hst:St G n I0 M w0 I β ob s a w) (hd:∀ d,o.dst=some d->d<n) (tq:∀ t' y',[Operand.tmp t,y]=[.tmp t',y']->cj tr o=some t')
 (lP:o.dst=some d) (ht:s.fr t=.c (.ex v)) (Q0:s.fr d=.gg v E es) (ML:t≠d) (hyt:y≠.tmp t) (hyd:y≠.tmp d) (h:nL P ts E es (vw s (ev G s y)).fz K) :
 ∃ X Y t0 t',[Operand.tmp t,y]=[X,Y]/\ts=[t0,t']/\∃ z u w',K z/\(Builtin.append_ #[t0,t'] ty #[a.eval X,a.eval Y]).run P w=.ok u w'/\SE G n I0 M w0 (s.after tr o z) (a.put o.dst u) w':=by
 have qC:∃ q q',ts=[q,q']:=by
  unfold nL at h;split at h
  .exact⟨_,_,rfl⟩
  .exact h.elim
 obtain⟨q,q',rfl⟩:=qC;have hqq:q=q':=by simp only[nL] at h;exact h.1
 subst hqq;have hdn:d<n:=hd d lP;have rL:t<n:=by
  rcases bZ t n with h' | h'
  .exact h'
  .exfalso
   obtain⟨e1,_,_⟩:=yZ hst ht;have e0:a.tmps.getD t undef=undef:=(by rw[ak,dj (by rw[hst.size];exact h')];rfl);have hg:=hst.fr d;rw[Q0] at hg;simp only[LR] at hg;rw[<- e1,e0] at hg;rcases hg with⟨_,_,_,_,h1⟩ | ⟨_,_,_,_,_,_,_,h1,_⟩<;>simp[undef] at h1
 obtain⟨ob',cN⟩:=hst.unghostG ML ht Q0 hdn rL;refine⟨_,_,q,q,rfl,rfl,?_⟩;obtain⟨z,u,w',hz,bO,I2,β2,ob2,nB⟩:=zW (tr:=tr) (o:=o) (T:=q) (U:=q) (t0:=t) (E:=E) (es:=es) (vy:=a.eval y) (ty:=ty) (K:=K) cN hd (tq t y rfl) (by simp only[b9]) h
  (λys' e hu j hj hy hl=>(Ja hst y ys' hy).src hu hl)
 refine⟨z,u,w',hz,bO,?_⟩;obtain⟨e1,e2,e3⟩:=yZ hst ht;have fK:(a.put (some d) u).tmps.size=n:=by simp only[Act.put,ct,dA];exact hst.size
 have hgt:(a.put (some d) u).tmps.getD t undef=v:=by rw[<- e1];show(a.tmps.set! d u).getD t undef=_;simp[ak,ct,Array.getElem?_setIfInBounds,hJ ML]
 rw[lP] at nB ⊢
 have dH:=nB.put t rL (v:=(a.put (some d) u).tmps.getD t undef) (x:=.c (.ex v)) (o:=none) (by rw[hgt];exact .ofC (.ex v e2 e3)) FreeOb.nothing;rw[jx (by rw[fK];exact rL)] at dH;have es:(S.after tr o { s with fr:=up (up s.fr d .un) t (.gs none E es) } z).put (some t) (.c (.ex v))=s.after tr o z:=by
  unfold S.after;rw[tq t y rfl,lP];have hu1:({ s with fr:=up (up s.fr d .un) t (.gs none E es) }:S).use (some t)=({ s with fr:=up (up s.fr d .un) t (.gs none E es) }:S).clr t:=by simp only[S.use,b9];rfl
  have hu2:s.use (some t)=s:=by simp only[S.use,ht];rfl
  rw[hu1,hu2];simp only[S.put,S.clr];congr 1;funext r;simp only[up];by_cases hr:r=t
  .subst hr;rw[if_pos rfl,if_neg ML];exact ht.symm
  .rw[if_neg hr,if_neg hr,if_neg hr]
   by_cases MP:r=d
   .simp only[if_pos MP]
   .simp only[if_neg MP]
 rw[es] at dH;exact⟨_,_,_,dH⟩
theorem GZ {K:V->Prop} {args:List Operand} {ts:List TypeId} {ty:TypeId} (hst:St G n I0 M w0 I β ob s a w) (hd:∀ d,o.dst=some d->d<n) (tq:∀ t y,args=[.tmp t,y]->cj tr o=some t)
 (h:jv P G s o.dst ts args K):∃ X Y t t',args=[X,Y]/\ts=[t,t']/\∃ z u w',K z/\(Builtin.append_ #[t,t'] ty #[a.eval X,a.eval Y]).run P w=.ok u w'/\SE G n I0 M w0 (s.after tr o z) (a.put o.dst u) w':=by
 unfold jv at h;split at h
 .rename_i t y d lP
  split at h
  .rename_i v u E es ht Q0
   obtain⟨⟨ML,rfl,hyt,hyd⟩,h⟩:=h;have qC:∃ q q',ts=[q,q']:=by
    unfold eX at h;split at h<;>first | cases ‹Builtin.append=_› | skip
    .rename_i q q' x y dQ;exact⟨_,_,rfl⟩
    .exact h.elim
   obtain⟨q,q',rfl⟩:=qC;have hdn:d<n:=hd d lP;have rL:t<n:=by
    rcases bZ t n with h' | h'
    .exact h'
    .exfalso
     obtain⟨e1,_,_⟩:=yZ hst ht;have e0:a.tmps.getD t undef=undef:=(by rw[ak,dj (by rw[hst.size];exact h')];rfl);have hg:=hst.fr d;rw[Q0] at hg;simp only[LR] at hg;rw[<- e1,e0] at hg;rcases hg.1.sl_inv with⟨⟨_,_,h1,_⟩,_⟩ | ⟨_,_,_,_,_,h1,_⟩<;>simp[undef] at h1
   obtain⟨ob',cN⟩:=hst.unghost ML ht Q0 hdn rL;refine⟨_,_,q,q',rfl,rfl,?_⟩;have hey:ev G { s with fr:=up (up s.fr d .un) t (.ow E es) } y=ev G s y:=by
    cases y with
    |tmp r=>have h1:r≠t:=λe=>hyt (by rw[e]);have h2:r≠d:=λe=>hyd (by rw[e]);simp only[ev,cP _ _ h1,cP _ _ h2]
    |_=>rfl
   have hvw:vw { s with fr:=up (up s.fr d .un) t (.ow E es) }=vw s:=rfl
   obtain⟨z,u,w',hz,bO,I2,β2,ob2,nB⟩:=BI (tr:=tr) (o:=o) (X:=.tmp t) (Y:=y) (t:=q) (t':=q') (ty:=ty) (K:=K) cN hd (tq t y rfl) (by
    rw[hey,hvw];have:vw s (ev G { s with fr:=up (up s.fr d .un) t (.ow E es) } (.tmp t))=.ow E es:=by simp only[ev,b9];rfl
    rw[this];exact h)
   refine⟨z,u,w',hz,bO,?_⟩;obtain⟨e1,e2,e3⟩:=yZ hst ht;have fK:(a.put (some d) u).tmps.size=n:=(by simp only[Act.put,ct,dA];exact hst.size);have hgt:(a.put (some d) u).tmps.getD t undef=v:=(by rw[<- e1];show(a.tmps.set! d u).getD t undef=_;simp[ak,ct,Array.getElem?_setIfInBounds,hJ ML]);rw[lP] at nB ⊢
   have dH:=nB.put t rL (v:=(a.put (some d) u).tmps.getD t undef) (x:=.c (.ex v)) (o:=none) (by rw[hgt];exact .ofC (.ex v e2 e3)) FreeOb.nothing;rw[jx (by rw[fK];exact rL)] at dH;have es:(S.after tr o { s with fr:=up (up s.fr d .un) t (.ow E es) } z).put (some t) (.c (.ex v))=s.after tr o z:=by
    unfold S.after;rw[tq t y rfl,lP];have hu1:({ s with fr:=up (up s.fr d .un) t (.ow E es) }:S).use (some t)=({ s with fr:=up (up s.fr d .un) t (.ow E es) }:S).clr t:=by simp only[S.use,b9];rfl
    have hu2:s.use (some t)=s:=(by simp only[S.use,ht];rfl);rw[hu1,hu2];simp only[S.put,S.clr];congr 1;funext r;simp only[up];by_cases hr:r=t
    .subst hr;rw[if_pos rfl,if_neg ML];exact ht.symm
    .rw[if_neg hr,if_neg hr,if_neg hr]
     by_cases MP:r=d
     .simp only[if_pos MP]
     .simp only[if_neg MP]
   rw[es] at dH;exact⟨_,_,_,dH⟩
  .rename_i v u E es ht Q0
   obtain⟨⟨ML,rfl,hyt,hyd⟩,h⟩:=h;exact Rq hst hd tq lP ht Q0 ML hyt hyd h
  .rename_i E es ht
   obtain⟨⟨ML,hyt⟩,h⟩:=h;have qC:∃ q q',ts=[q,q']:=by
    unfold nL at h;split at h
    .exact⟨_,_,rfl⟩
    .exact h.elim
   obtain⟨q,q',rfl⟩:=qC;have hqq:q=q':=(by simp only[nL] at h;exact h.1);subst hqq;refine⟨_,_,q,q,rfl,rfl,?_⟩;exact zW (tr:=tr) (o:=o) (T:=q) (U:=q) (t0:=t) (E:=E) (es:=es) (vy:=a.eval y) (ty:=ty) (K:=K) hst hd (tq t y rfl) ht h (λys' e hu j hj hy hl=>(Ja hst y ys' hy).src hu hl)
  .exact h.elim
 .exact h.elim
theorem M7 {K:V->Prop} {args:List Operand} {ts:List TypeId} {ty:TypeId} (hst:St G n I0 M w0 I β ob s a w) (hd:∀ d,o.dst=some d->d<n) (tq:∀ t y,args=[.tmp t,y]->cj tr o=some t)
 (h:vG P G s o.dst ts args K):∃ X Y t t',args=[X,Y]/\ts=[t,t']/\∃ z u w',K z/\(Builtin.append_ #[t,t'] ty #[a.eval X,a.eval Y]).run P w=.ok u w'/\SE G n I0 M w0 (s.after tr o z) (a.put o.dst u) w':=by
 unfold vG at h;split at h
 .rename_i t y d lP
  split at h
  .rename_i v u E es ht Q0
   obtain⟨⟨ML,rfl,hyt,hyd⟩,h⟩:=h;have qC:∃ q q',ts=[q,q']:=by
    unfold tY at h;split at h
    .exact⟨_,_,rfl⟩
    .exact h.elim
   obtain⟨q,q',rfl⟩:=qC;have hqq:q=q':=(by simp only[tY] at h;exact h.1);subst hqq;have hdn:d<n:=hd d lP;have rL:t<n:=by
    rcases bZ t n with h' | h'
    .exact h'
    .exfalso
     obtain⟨e1,_,_⟩:=yZ hst ht;have e0:a.tmps.getD t undef=undef:=(by rw[ak,dj (by rw[hst.size];exact h')];rfl);have hg:=hst.fr d;rw[Q0] at hg;simp only[LR] at hg;rw[<- e1,e0] at hg;rcases hg.1.sl_inv with⟨⟨_,_,h1,_⟩,_⟩ | ⟨_,_,_,_,_,h1,_⟩<;>simp[undef] at h1
   obtain⟨ob',cN⟩:=hst.unghost ML ht Q0 hdn rL;refine⟨_,_,q,q,rfl,rfl,?_⟩;obtain⟨z,u,w',hz,bO,I2,β2,ob2,nB⟩:=I4 (tr:=tr) (o:=o) (T:=q) (U:=q) (t0:=t) (E:=E) (es:=es) (vy:=a.eval y) (ty:=ty) (K:=K) cN hd (tq t y rfl) (by simp only[b9]) h
    (λys' e hu j hj hy hl=>(Ja hst y ys' hy).src hu hl)
   refine⟨z,u,w',hz,bO,?_⟩;obtain⟨e1,e2,e3⟩:=yZ hst ht;have fK:(a.put (some d) u).tmps.size=n:=(by simp only[Act.put,ct,dA];exact hst.size);have hgt:(a.put (some d) u).tmps.getD t undef=v:=(by rw[<- e1];show(a.tmps.set! d u).getD t undef=_;simp[ak,ct,Array.getElem?_setIfInBounds,hJ ML]);rw[lP] at nB ⊢
   have dH:=nB.put t rL (v:=(a.put (some d) u).tmps.getD t undef) (x:=.c (.ex v)) (o:=none) (by rw[hgt];exact .ofC (.ex v e2 e3)) FreeOb.nothing;rw[jx (by rw[fK];exact rL)] at dH;have es:(S.after tr o { s with fr:=up (up s.fr d .un) t (.ow E es) } z).put (some t) (.c (.ex v))=s.after tr o z:=by
    unfold S.after;rw[tq t y rfl,lP];have hu1:({ s with fr:=up (up s.fr d .un) t (.ow E es) }:S).use (some t)=({ s with fr:=up (up s.fr d .un) t (.ow E es) }:S).clr t:=by simp only[S.use,b9];rfl
    have hu2:s.use (some t)=s:=(by simp only[S.use,ht];rfl);rw[hu1,hu2];simp only[S.put,S.clr];congr 1;funext r;simp only[up];by_cases hr:r=t
    .subst hr;rw[if_pos rfl,if_neg ML];exact ht.symm
    .rw[if_neg hr,if_neg hr,if_neg hr]
     by_cases MP:r=d
     .simp only[if_pos MP]
     .simp only[if_neg MP]
   rw[es] at dH;exact⟨_,_,_,dH⟩
  .exact h.elim
 .exact h.elim
theorem pJ {K:V->Prop} (hst:St G n I0 M w0 I β ob s a w) (hd:∀ d,o.dst=some d->d<n) (h:VYK P G tr o s K)
 (hk:∀ a' w' x,K x->SE G n I0 M w0 (s.after tr o x) a' w'->next a' w'):o.wp P a w next Q:=by
 have pure_:∀ {sem:Sem Value} {z:V} {u:Value},execOp a.eval o=(do pure (.value (<- sem)))->K z->LR (Wr M w0) I β w none u z->sem.run P w=.ok u w->o.wp P a w next Q:=by intro sem z u he hz iD bO;refine eD (v':=u) (w':=w) ?_ (hk _ _ _ hz (.fin0 hst hd iD));rw[he];simp[bO]
 have full:∀ {sem:Sem Value} {z:V} {u:Value} {w':World},execOp a.eval o=(do pure (.value (<- sem)))->K z->sem.run P w=.ok u w'->SE G n I0 M w0 (s.after tr o z) (a.put o.dst u) w'->o.wp P a w next Q:=by intro sem z u w' he hz bO dH;refine eD (v':=u) (w':=w') ?_ (hk _ _ _ hz dH);rw[he];simp[bO]
 obtain⟨dst,op,type,pos,after,guard⟩:=o;cases op<;>simp only[VYK] at h<;>try exact h.elim
 case move x=>
  have bO:(execOp a.eval { dst,op:=.move x,type,pos,after,guard }).run P w=.ok (.value (a.eval x)) w:=rfl;split at h
  .rename_i htr
   exact eD bO (hk _ _ _ h (PN hst hd (x:=x) (by cases x<;>simp[cj,htr])))
  .exact eD bO (hk _ _ _ h (abr hst hd x))
 case assign x=>have bO:(execOp a.eval { dst,op:=.assign x,type,pos,after,guard }).run P w=.ok (.value (a.eval x)) w:=rfl;exact eD bO (hk _ _ _ h (PN hst hd (x:=x) (by cases x<;>simp[cj])))
 case pick c b b'=>
  split at h
  .rename_i p hc
   have D8:a.eval c=.bool p:=(by have:=bN hst c;rw[hc] at this;exact this.lit);refine eD (v':=if p then a.eval b else a.eval b') (w':=w) ?_ (hk _ _ _ h (.fin0 hst hd ?_))
   .simp[execOp,D8,asBool]
   .cases p
    .exact xF hst b'
    .exact xF hst b
  .exact h.elim
 case build T parts=>obtain⟨z,u,hz,iD,bO⟩:=GL hst h;exact pure_ rfl hz iD bO
 case buildSlice T len parts=>obtain⟨z,u,w',hz,bO,dH⟩:=xI (tr:=tr) hst hd h;exact full rfl hz bO dH
 case load T x=>obtain⟨z,u,hz,iD,bO⟩:=ua hst h (bN hst x);exact pure_ rfl hz iD bO
 case binOp op T x y yT=>obtain⟨u,hf,hz,bO⟩:=MZ h (bN hst x) (bN hst y) x y;exact pure_ rfl hz (.ofLit hf) bO
 case unOp op T x=>obtain⟨u,hf,hz,bO⟩:=Ri h (bN hst x);exact pure_ rfl hz (.ofLit hf) bO
 case convert src dst' x=>obtain⟨z,u,w',hz,bO,dH⟩:=I6 (tr:=tr) hst hd h (agf hst x);exact full rfl hz bO dH
 case makeFunc f first captured=>
  obtain⟨⟨h1,h2⟩,h⟩:=h;have pr:∀ (l:Array Operand),(l.toList.map (ev G s)).all V.isPR=true->∀ j x,(l.toList.map (ev G s))[j]?=some x->PR I β w ((l.map a.eval).getD j undef) x:=by
   intro l hl j x hx;have hm:=aV hx;have hp:=a8.1 hl x hm;simp only[bj,aW] at hx;obtain⟨X,hX,rfl⟩:=hx;have iD:=bN hst X;have:(l.map a.eval).getD j undef=a.eval X:=(by rw[aS] at hX;simp[hX]);rw[this];cases hx:ev G s X<;>rw[hx] at hp iD<;>simp only[V.isPR] at hp<;>try cases hp
   .exact iD.toC
   .simp only[LR] at iD;exact iD
   .simp only[LR] at iD;exact iD
   .simp only[LR] at iD;exact iD
   .simp only[LR] at iD;exact iD
   .simp only[LR] at iD;exact iD
  refine eD (v':=.func f (first.map a.eval) (captured.map a.eval)) (w':=w) rfl (hk _ _ _ h (.fin0 hst hd ?_))
  simp only[LR];exact⟨_,_,rfl,by simp,by simp,pr first h1,pr captured h2⟩
 case lookup T x k ok=>obtain⟨z,u,hz,iD,bO⟩:=Ei hst h (bN hst x) (bN hst k);exact pure_ rfl hz iD bO
 case range T x=>obtain⟨z,u,w',hz,bO,dH⟩:=GY (tr:=tr) hst hd h (bN hst x);exact full rfl hz bO dH
 case entry x=>obtain⟨z,u,hz,iD,bO⟩:=GX hst h (bN hst x);exact pure_ rfl hz iD bO
 case nilCheck x=>
  have hx:=bN hst x;split at h
  .rename_i i o tM
   rw[tM] at hx;simp only[LR] at hx;obtain⟨blk,hβ,hv⟩:=hx;refine eD (v':=.pointer (some ⟨blk,o,none⟩)) (w':=w) ?_ (hk _ _ _ h (.fin0 hst hd (by simp only[LR];exact⟨blk,hβ,rfl⟩)));simp only[execOp,hv];rfl
  .rename_i cs k tM
   rw[tM] at hx;obtain⟨b,off,f,hv,_⟩:=hx.toC.rp_inv;refine eD (v':=a.eval x) (w':=w) ?_ (hk _ _ _ h (.fin0 hst hd (.ofC hx.toC)));simp only[execOp,hv];rfl
  .rename_i ad tM
   rw[tM] at hx;have hv:=hx.toC.ex_inv;refine eD (v':=a.eval x) (w':=w) ?_ (hk _ _ _ h (.fin0 hst hd (.ofC hx.toC)));simp only[execOp,hv];rfl
  .exact h.elim
 case slice T x lo hi mx=>obtain⟨z,u,hz,iD,bO⟩:=GO hst h (xF hst x);exact pure_ rfl hz iD bO
 case fieldAddr T x f=>obtain⟨z,u,hz,iD,bO⟩:=yW h (bN hst x);exact pure_ rfl hz iD bO
 case field T x f=>obtain⟨z,u,hz,iD,bO⟩:=GH h (bN hst x);exact pure_ rfl hz iD bO
 case indexAddr T x i=>obtain⟨z,u,hz,iD,bO⟩:=yX h (xF hst x) (bN hst i);exact pure_ rfl hz iD bO
 case index T x i=>obtain⟨z,u,hz,iD,bO⟩:=GI h (bN hst x) (bN hst i);exact pure_ rfl hz iD bO
 case extract x i=>
  split at h
  .rename_i ds hx
   split at h
   .rename_i d hdi
    have iD:=bN hst x;rw[hx] at iD;simp only[LR] at iD;generalize IB:a.eval x=vv at iD;cases iD with
    |tup vs _ h1 h2=>
     have bF:i<vs.size:=(by rw[h1];exact(ai.1 hdi).1);have vD:=h2 i d hdi;refine pure_ (u:=vs.getD i undef) rfl h ?_ (by simp[IB,Instr.extract,ax bF]);generalize vs.getD i undef=vv' at vD;cases d<;>simp only[LR]<;>first | exact vD | (cases vD;done)
   .exact h.elim
  .exact h.elim
 case call c=>
  obtain⟨callee,args,ts⟩:=c;cases callee with
  |value f=>exact I7 (tr:=tr) (f:=f) (args:=args) (ts:=ts) rfl hst hd h hk
  |invoke r m=>exact h.elim
  |builtin b=>
   have vP:∀ sem:Sem Value,builtin b ts type (args.map λ| .const _=>true | _=>false) (args.map a.eval)=(do pure (.value (<- sem)))->
    execOp a.eval { dst,op:=.call { callee:=.builtin b,args:=args,argTypes:=ts },type,pos,after,guard }=(do pure (.value (<- sem))):=λsem hs=>by
    simp only[execOp,resolve,invoke,pure_bind];exact hs
   have AY:(b=.append/\((wy tr dst=true/\vG P G s dst ts.toList args.toList K)∨(Bw tr dst=true/\jv P G s dst ts.toList args.toList K)∨(Bw tr dst=false/\eX P .append ts.toList (args.toList.map λx=>vw s (ev G s x)) K)))∨(b≠.append/\eX P b ts.toList (args.toList.map (ev G s)) K):=by
    cases b<;>first | (refine .inl ⟨rfl,?_⟩;have h':(if Bw tr dst then(if wy tr dst then vG P G s dst ts.toList args.toList K else jv P G s dst ts.toList args.toList K) else eX P .append ts.toList (args.toList.map λx=>vw s (ev G s x)) K):=h;by_cases hg:Bw tr dst=true;(rw[if_pos hg] at h';by_cases QZ:wy tr dst=true;(rw[if_pos QZ] at h';exact .inl ⟨QZ,h'⟩);(rw[if_neg QZ] at h';exact .inr (.inl ⟨hg,h'⟩)));(rw[if_neg hg] at h';exact .inr (.inr ⟨by simpa using hg,h'⟩))) | exact .inr ⟨by simp,h⟩
   clear h;rcases AY with⟨rfl,⟨_,h⟩ | ⟨_,h⟩ | ⟨_,h⟩⟩ | ⟨A0,h⟩
   .obtain⟨X,Y,t,t',hX,qC,z,u,w',hz,bO,dH⟩:=M7 (tr:=tr) (o:={ dst,op:=.call { callee:=.builtin .append,args:=args,argTypes:=ts },type,pos,after,guard }) (ty:=type) hst hd (args:=args.toList) (λt y hA=>by simp only[cj,hA]) h
    have e1:ts=#[t,t']:=dF qC;have e2:args.map a.eval=#[a.eval X,a.eval Y]:=(by apply dF;simp[hX]);subst e1;refine full (sem:=Builtin.append_ #[t,t'] type (args.map a.eval)) (vP _ rfl) hz ?_ dH;rw[e2];exact bO
   .obtain⟨X,Y,t,t',hX,qC,z,u,w',hz,bO,dH⟩:=GZ (tr:=tr) (o:={ dst,op:=.call { callee:=.builtin .append,args:=args,argTypes:=ts },type,pos,after,guard }) (ty:=type) hst hd (args:=args.toList) (λt y hA=>by simp only[cj,hA]) h
    have e1:ts=#[t,t']:=dF qC;have e2:args.map a.eval=#[a.eval X,a.eval Y]:=(by apply dF;simp[hX]);subst e1;refine full (sem:=Builtin.append_ #[t,t'] type (args.map a.eval)) (vP _ rfl) hz ?_ dH;rw[e2];exact bO
   .have qC:∃ t t',ts.toList=[t,t']/\∃ X Y,args.toList=[X,Y]:=by
     unfold eX at h;split at h<;>first | cases ‹Builtin.append=_› | skip
     .rename_i t t' x y qC dQ
      refine⟨t,t',qC,?_⟩;cases ha:args.toList with
      |nil=>simp[ha] at dQ
      |cons X l=>
       cases l with
       |nil=>simp[ha] at dQ
       |cons Y l=>simp only[ha,bB,cM,eV] at dQ;exact⟨X,Y,by rw[dQ.2.2]⟩
     .exact h.elim
    obtain⟨t,t',qC,X,Y,hX⟩:=qC;have e1:ts=#[t,t']:=dF qC;have e2:args.map a.eval=#[a.eval X,a.eval Y]:=(by apply dF;simp[hX]);subst e1;rw[hX] at h;obtain⟨z,u,w',hz,bO,dH⟩:=BI (tr:=tr) (o:={ dst,op:=.call { callee:=.builtin .append,args:=args,argTypes:=#[t,t'] },type,pos,after,guard }) (ty:=type) hst hd (by simp only[cj,hX];cases X<;>rfl) h;refine full (sem:=Builtin.append_ #[t,t'] type (args.map a.eval)) (vP _ rfl) hz ?_ dH;rw[e2];exact bO
   .unfold eX at h
    split at h
    .rename_i t x qC dQ
     obtain⟨X,hX,rfl⟩:∃ X,args.toList=[X]/\x=ev G s X:=by
      cases ha:args.toList with
      |nil=>simp[ha] at dQ
      |cons X l=>simp only[ha,bB,cM,eV] at dQ;exact⟨X,by rw[dQ.2],dQ.1.symm⟩
     obtain⟨u,hf,hz,bO⟩:=M4 (ty:=type) h (bN hst X);have e1:ts=#[t]:=dF qC;have e2:args.map a.eval=#[a.eval X]:=(by apply dF;simp[hX]);subst e1;refine pure_ (sem:=Builtin.len_ #[t] type (args.map a.eval)) (vP _ rfl) hz (.ofLit hf) ?_;rw[e2];exact bO
    .exact absurd rfl A0
    .obtain⟨u,hf,hz,bO⟩:=BE (P:=P) (mx:=false) hst h
     exact pure_ (sem:=Builtin.min_ ts type (args.map a.eval)) (vP _ rfl) hz (.ofLit hf) bO
    .obtain⟨u,hf,hz,bO⟩:=BE (P:=P) (mx:=true) hst h
     exact pure_ (sem:=Builtin.max_ ts type (args.map a.eval)) (vP _ rfl) hz (.ofLit hf) bO
    .exact h.elim
