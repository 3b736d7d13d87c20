/- Values without memory: the operations keep the relation: append. -/
import Derived.Test.YtegbpjodbjhjeaaGreatDoorVlSound5
import Derived.Deep.AppendSrc
import Derived.Conc.MuLone
import Derived.MapKept
import Derived.WideKeyRuns
set_option linter.all false
namespace Go.Vl
open Go Go.RowKit
section
variable {P:Program} {G:Gl} {tr:List Nat} {n:Nat} {I0:Ft} {M:Mx} {w0:World} {I:Ft} {β:Nat->Option Nat} {ob:Loc->Option Nat} {s:S} {a:Act} {w:World} {o:Oper}
 {next:Act->World->Prop} {Q:Exit->Act->World->Prop} {base:Nat->Prop} {v:Value} {x y:V} {K:V->Prop}
theorem Re {J:Ft} {b off sz sz':Nat} {es:List (List C)} {f:Nat->Nat->Value} (hs:∀ x∈es,x.length=sz) (xP:∀ e∈es,e.length=sz')
 (eE:∀ i j,i<es.length->j<sz'->w.cell? ⟨b,off+i*sz'+j,none⟩=some (f i j)/\J b (off+i*sz'+j)) (pQ:∀ i j e c,es[i]?=some e->e[j]?=some c->CR I w (f i j) c) :
 ∃ vs:List Value,vs.length=es.length*sz/\(∀ (q:Nat) (u:Value),vs[q]?=some u->w.cell? ⟨b,off+q,none⟩=some u/\J b (off+q))/\
  (∀ (q:Nat) (c:C),es.flatten[q]?=some c->∃ u,vs[q]?=some u/\CR I w u c)/\(∀ u∈vs,u.oneCell'=true):=by
 have nq:=bZ es hs;by_cases h0:es.length*sz=0
 .refine⟨[],by simp[h0],by simp,λq c hq=>?_,by simp⟩
  have:=(am.1 hq).1;omega
 have ag4:0<sz:=Nat.pos_of_ne_zero λe=>h0 (by simp[e]);have hel:0<es.length:=Nat.pos_of_ne_zero λe=>h0 (by simp[e]);have ej:sz'=sz:=by rw[<- xP es[0] (aH _),hs es[0] (aH _)]
 subst ej;have f9:∀ q,q<es.length*sz'->q / sz'<es.length/\q % sz'<sz'/\q=q / sz'*sz'+q % sz':=λq hq=>
  ⟨by rw[Nat.div_lt_iff_lt_mul ag4];exact hq,lz _ ag4,by rw[Nat.mul_comm];exact(Nat.div_add_mod q sz').symm⟩
 have zM:∀ (q:Nat) (c:C),es.flatten[q]?=some c->q<es.length*sz'/\CR I w (f (q / sz') (q % sz')) c:=λq c hq=>by have bF:=(am.1 hq).1;rw[nq] at bF;obtain⟨h1,h2,h3⟩:=f9 q bF;rw[h3,mj es hs _ _ h2] at hq;simp only[ak h1,gi] at hq;exact⟨bF,pQ _ _ _ c (ak h1) hq⟩
 refine⟨(List.range (es.length*sz')).map λq=>f (q / sz') (q % sz'),by simp,λq u hq=>?_,λq c hq=>?_,λu hu=>?_⟩
 .simp only[bw,aZ] at hq
  obtain⟨q',hq',rfl⟩:=hq;have bF:=(am.1 hq').1;simp at bF;have hqq:q'=q:=by have:=(am.1 hq').2;simpa using this.symm
  subst hqq;obtain⟨h1,h2,h3⟩:=f9 q' bF;have:=eE _ _ h1 h2;rw[dw,<- h3] at this;exact this
 .obtain⟨bF,ka⟩:=zM q c hq
  exact⟨_,by simp[bF],ka⟩
 .simp only[ce,df] at hu
  obtain⟨q,hq,rfl⟩:=hu;obtain⟨c,hc⟩:∃ c,es.flatten[q]?=some c:=⟨_,ak (by omega)⟩;exact(zM q c hc).2.oneCell
theorem CR.flat {b off cap sz:Nat} {es:List (List C)} (h:CR I w (.slice (some ⟨b,off,none⟩) es.length cap) (.sl es)) (hs:∀ x∈es,x.length=sz) :
 ∃ vs:List Value,vs.length=es.length*sz/\(∀ (q:Nat) (u:Value),vs[q]?=some u->w.cell? ⟨b,off+q,none⟩=some u/\I b (off+q))/\
  (∀ (q:Nat) (c:C),es.flatten[q]?=some c->∃ u,vs[q]?=some u/\CR I w u c)/\(∀ u∈vs,u.oneCell'=true):=by
 rcases h.sl_inv with⟨_,rfl⟩ | ⟨b',off',cap',sz',f,hv,lv,xP,eE,pQ⟩
 .exact⟨[],by simp,by simp,by simp,by simp⟩
 simp only[fN,ap,kM,ip,bX] at hv;obtain⟨⟨rfl,rfl⟩,rfl⟩:=hv;exact Re hs xP eE pQ
theorem CR.oldsOf {xa:Addr} {cap sz:Nat} {es:List (List C)} (h:CR I w (.slice (some xa) es.length cap) (.sl es)) (hs:∀ x∈es,x.length=sz) :
 ∃ vs:List Value,vs.length=es.length*sz/\(∀ (q:Nat) (u:Value),vs[q]?=some u->w.cell? (xa.add q)=some u)/\
  (∀ (q:Nat) (c:C),es.flatten[q]?=some c->∃ u,vs[q]?=some u/\CR I w u c)/\(∀ u∈vs,u.oneCell'=true):=by
 by_cases gu:es=[]
 .subst gu;exact⟨[],by simp,by simp,by simp,by simp⟩
 .rcases h.sl_inv with⟨_,h0⟩ | ⟨b,off,cap',_,_,hv,_⟩
  .exact absurd h0 gu
  .simp only[fN,ap] at hv
   obtain⟨rfl,_,_⟩:=hv;obtain⟨vs,h1,h2,h3,h4⟩:=h.flat hs;exact⟨vs,h1,λq u hq=>by rw[dm];exact(h2 q u hq).1,h3,h4⟩
theorem RD.flat {b off cap sz:Nat} {es:List (List C)} (h:RD I w (.slice (some ⟨b,off,none⟩) es.length cap) es) (hs:∀ x∈es,x.length=sz) :
 ∃ vs:List Value,vs.length=es.length*sz/\(∀ (q:Nat) (u:Value),vs[q]?=some u->w.cell? ⟨b,off+q,none⟩=some u/\True)/\
  (∀ (q:Nat) (c:C),es.flatten[q]?=some c->∃ u,vs[q]?=some u/\CR I w u c)/\(∀ u∈vs,u.oneCell'=true):=by
 rcases h with⟨_,rfl⟩ | ⟨b',off',cap',sz',f,hv,lv,xP,eE,pQ⟩
 .exact⟨[],by simp,by simp,by simp,by simp⟩
 simp only[fN,ap,kM,ip,bX] at hv;obtain⟨⟨rfl,rfl⟩,rfl⟩:=hv;exact Re (J:=λ_ _=>True) hs xP (λi j hi hj=>⟨eE i j hi hj,trivial⟩) pQ
theorem RD.some' {a':Option Addr} {n m:Nat} {es:List (List C)} (h:RD I w (.slice a' n m) es) (gu:es≠[]):∃ b off,a'=some ⟨b,off,none⟩:=by
 rcases h with⟨_,h0⟩ | ⟨b,off,cap,sz,f,hv,_⟩
 .exact absurd h0 gu
 .cases hv;exact⟨b,off,rfl⟩
theorem St.growRow (h:St G n I0 M w0 I β ob s a w) {w':World} {r:Nat} (hg:w.grb w' (some r)) (hr:Wr M w0 r) (eE:∀ o,I r o->w'.cell? ⟨r,o,none⟩=w.cell? ⟨r,o,none⟩)
 (j9:∀ L,ob L≠some r) (hβ:∀ i,β i≠some r) {I':Ft} (h1:∀ b o,I b o->I' b o) (h2:∀ b o,I' b o->I b o∨b=r) (bF:r<w'.heap.size):St G n I0 M w0 I' β ob s a w':=by
 have hk:=h.keeps hg (λr' e o ho=>by cases e;exact eE o ho);have hI:∀ b o,I b o->I' b o/\w'.cell? ⟨b,o,none⟩=w.cell? ⟨b,o,none⟩:=λb o hb=>⟨h1 b o hb,hk b o hb⟩;have wb:∀ L b,ob L=some b->w'.heap[b]?=w.heap[b]?/\∀ o,I' b o->I b o:=λL b hL=>by
  have gu:b≠r:=λe=>j9 L (e▸hL);refine⟨hg.block b (h.obnd L b hL).1 (by simpa using gu),λo ho=>?_⟩;rcases h2 b o ho with h5 | h5
  .exact h5
  .exact absurd h5 gu
 exact {
  size:=h.size,defers:=h.defers
  below:=h.below.grown hg (λk e=>by cases e;exact hr)
  kept:=λb o h0=>(hk b o (h.ilow b o h0)).trans (h.kept b o h0)
  ilow:=λb o hb=>h1 b o (h.ilow b o hb)
  ihigh:=λb o hb=>by
   rcases h2 b o hb with h3 | h3
   .exact h.ihigh b o h3
   .exact .inr (by rw[h3];exact hr)
  ibnd:=λb o hb=>by
   rcases h2 b o hb with h3 | h3
   .exact co (h.ibnd b o h3) hg.size
   .rw[h3];exact bF
  fr:=λt=>(h.fr t).mono hI (λ_ _ e=>e) (wb (.t t))
  bx:=λi hi=>by
   obtain⟨blk,cur,e1,e2,e3,e4,e5,e7⟩:=h.bx i hi;have aes:blk<w.heap.size:=e3.lt;have gu:blk≠r:=λe=>hβ i (e▸e1);refine⟨blk,cur,e1,e2,e3.mono (hg.block blk aes (by simpa using gu)),e4,λj=>(e5 j).mono hI (λ_ _ e=>e) (wb (.b i j)),λo ho=>?_⟩;rcases h2 blk o ho with h3 | h3
   .exact e7 o h3
   .exact gu h3
  bnone:=h.bnone,ext:=h.ext,bnew:=h.bnew,binj:=h.binj,oinj:=h.oinj,obx:=h.obx
  obnd:=λL b hL=>⟨co (h.obnd L b hL).1 hg.size,(h.obnd L b hL).2⟩
  glob:=λg cs Wn=>(h.glob g cs Wn).mono hI }
theorem mN (olds news:List Value) (z:Array Value) (j:Nat) (u:Value) (h:(olds++news)[j]?=some u):(olds.toArray++news.toArray++z).getD j undef=u:=by
 have bF:=(am.1 h).1;simp at bF;have:(olds.toArray++news.toArray++z)[j]?=some u:=by rw[ee (by simp;omega)];simpa using h
 rw[au,this];rfl
theorem lM (T U ty e:TypeId) (i:TypeInfo) (ht:P.underlying T=some (.slice e)) (hi:P.info? e=some i) (b:Option Addr) (k cap:Nat) (hk:k<=cap) {x:Value} (hs:Src P i.size U x 0 [] w) :
 (Builtin.append_ #[T,U] ty #[.slice b k cap,x]).run P w=.ok (.slice b k cap) w:=by
 have hf:(Builtin.firstCells i.size 0 x).run P w=.ok #[] w:=hs.cells;unfold Builtin.append_;rcases hs.kind with⟨e',GQ⟩ | GQ<;>cases b<;>simp[aV ht,aV GQ,sizeOf,typeInfo,hi,hs.len,hk,hf,storeCells]
theorem jf (g o:Nat) (T:RT):∀ (vs:List Value) (i:Nat) (cur:Array Value) (w:World),w.heap[g]?=some (.cells cur T.t T.fz)->T.ok cur.size->o+i+vs.length<=cur.size->(∀ v∈vs,v.oneCell'=true)->
 (storeCells ⟨g,o,none⟩ vs i).run P w=.ok () (w.setRow g (cur.toList.take (o+i)++vs++cur.toList.drop (o+i+vs.length)).toArray)
 |[],i,cur,w,hg,_,_,_=>by simp only[storeCells,d6,aL,en,dQ,Array.toArray_toList];rw[setRow_self w g cur T.t T.fz hg];rfl
 |v::rest,i,cur,w,hg,hT,hl,h1=>by
  have hi:o+i<cur.size:=by simp at hl;omega
  have QB:(⟨g,o,none⟩:Addr).add i=⟨g,o+i,none⟩:=by unfold Addr.add;split<;>simp_all
  have eE:w.cell? ⟨g,o+i,none⟩=some cur[o+i]:=by simp[World.cell?,hg,hi]
  have ajm:w.frozen? ⟨g,o+i,none⟩=false:=by obtain⟨tt,lo,sS⟩:=T;simp only[World.frozen?,hg,Bool.and_eq_false_iff,cJ];unfold RT.ok at hT;simp only at hT;omega
  have hst:(store ((⟨g,o,none⟩:Addr).add i) v).run P w=.ok () (w.setRow g (cur.setIfInBounds (o+i) v)):=by rw[QB,run_store P w _ v _ (h1 v (by simp)),eE];simp[ajm,setCell_eq_setRow w g (o+i) cur T.t T.fz v hg]
  have ih:=jf g o T rest (i+1) (cur.setIfInBounds (o+i) v) (w.setRow g (cur.setIfInBounds (o+i) v)) (setRow_heap w g cur _ T.t _ hg) (by simpa using hT) (by simp at hl ⊢;omega) (λx hx=>h1 x (by simp[hx]));simp only[storeCells,aP,hst,aD,ih,setRow_setRow];congr 3;have e:=list_seg_step cur.toList (o+i) v rest (by simp at hl ⊢;omega);simpa[Array.toList_setIfInBounds,dw] using e
theorem jP (t tx ty e:TypeId) (i:TypeInfo) (ht:P.underlying t=some (.slice e)) (hi:P.info? e=some i) (g off sLen sCap:Nat) (cur:Array Value) (T:RT) (hg:w.heap[g]?=some (.cells cur T.t T.fz)) (hT:T.ok cur.size)
 (x:Value) (n:Nat) (news:List Value) (hs:Src P i.size tx x n news w) (pR:sLen+n<=sCap) (xN:off+sLen*i.size+news.length<=cur.size) :
 (Builtin.append_ #[t,tx] ty #[.slice (some ⟨g,off,none⟩) sLen sCap,x]).run P w=
  .ok (.slice (some ⟨g,off,none⟩) (sLen+n) sCap) (w.setRow g (cur.toList.take (off+sLen*i.size)++news++cur.toList.drop (off+sLen*i.size+news.length)).toArray):=by
 have hst:=jf (P:=P) g (off+sLen*i.size) T news 0 cur w hg hT (by simpa using xN) hs.one;simp only[en] at hst;rcases hs.kind with⟨e',hk⟩ | hk<;>simp[Builtin.append_,aV ht,aV hk,sizeOf,typeInfo,hi,hs.len,pR,hs.cells,dm,hst]
def J7 (P:Program) (I:Ft) (w:World) (U:TypeId) (v:Value) (sz:Nat) (ys:List (List C)):Prop:=
 ∃ news:List Value,Src P sz U v ys.length news w/\∀ (q:Nat) (c:C),ys.flatten[q]?=some c->∃ u:Value,news[q]?=some u/\CR I w u c
theorem RD.src {U e':TypeId} {v:Value} {sz:Nat} {ys:List (List C)} (h:RD I w v ys) (hu:P.underlying U=some (.slice e')) (hs:∀ x∈ys,x.length=sz):J7 P I w U v sz ys:=by
 rcases h with⟨⟨a0,c0,rfl,hc0⟩,rfl⟩ | ⟨b,off,cap,szx,f,rfl,lv,h1⟩
 .cases a0 with
  |none=>exact⟨[],Src.ofNil w hu c0,by simp⟩
  |some x=>exact⟨[],Src.ofSlice w hu x 0 c0 [] (by simp) (by simp) (by simp),by simp⟩
 .have h':RD I w (.slice (some ⟨b,off,none⟩) ys.length cap) ys:=.inr ⟨b,off,cap,szx,f,rfl,lv,h1⟩
  obtain⟨news,yR,JC,NY,LX⟩:=h'.flat hs;exact⟨news,Src.ofSlice w hu ⟨b,off,none⟩ _ _ news yR (λq u hq=>by rw[dm];exact(JC q u hq).1) LX,NY⟩
theorem W0 {U:TypeId} {st:ByteArray} (hu:P.underlying U=some .string):J7 P I w U (.string st) 1 (oN st):=by
 have hl:(oN st).length=st.size:=by simp[oN]
 refine⟨Go.byteCells st,by rw[hl];exact Src.ofString w hu st,λq c hq=>?_⟩;have:=mj (sz:=1) (oN st) (by simp[oN]) q 0 (by omega);rw[Nat.mul_one,en] at this;rw[this] at hq;simp only[oN,bw] at hq;unfold Go.byteCells;rw[bw];cases hb:st.data.toList[q]? with
 |none=>simp[hb] at hq
 |some b=>simp only[hb,bQ,gi,bJ,ap] at hq;exact⟨_,rfl,by rw[<- hq];exact .lit _ rfl⟩
theorem Cr {T U ty:TypeId} {X:Operand} {vy:Value} (hst:St G n I0 M w0 I β ob s a w) (hd:∀ d,o.dst=some d->d<n)
 (sq:cL tr o=(match X with | .tmp t=>some t | _=>none)) (h:dL P T (ev G s X) y K) (hy:∀ ys e,P.underlying T=some (.slice e)->∀ j,ti P e=some j->y=.c (.sl ys)->(∀ x∈ys,x.length=j.size)->J7 P I w U vy j.size ys) :
 ∃ z u w',K z/\(Builtin.append_ #[T,U] ty #[a.eval X,vy]).run P w=.ok u w'/\SE G n I0 M w0 (s.after tr o z) (a.put o.dst u) w':=by
 have hx:=bM hst X;unfold dL at h;split at h
 .rename_i e _ _ _ _ _ _ E es hi Aj
  rw[Aj] at hx;obtain⟨j,d,h1,h2,h3,_⟩:=bL hi;have sd:=dW h3;subst sd;split at h
  .rename_i sz by_ _ z _ _ wm
   obtain⟨j',d',kr,pY,_,fB,wd,_,pd,_⟩:=bL wm;simp only at pd fB wd;obtain⟨⟨hp,zL,hE,qM⟩,h⟩:=h;split at pd
   .rename_i zv vz
    split at h
    .rename_i ys
     obtain⟨⟨hb,cH,xY⟩,h⟩:=h;obtain⟨news,sU,NY⟩:=hy ys e h2 _ wm rfl xY;simp only at sU;have uh:=l8 (I:=I) (w:=w) pd.symm;have Z0:zv.cells.size=sz:=(by rw[uh.1,zL]);have Z1:=hx.2;have Ay:=hx.1;have NW:(ev G s X).isOw=true:=(by rw[Aj];rfl);by_cases CU:ys=[]
     .
      subst CU;simp only[List.isEmpty_nil,bY] at h;obtain⟨xa,xk,Ep,hxk⟩:∃ (xa:Option Addr) (xk:Nat),a.eval X=.slice xa es.length xk/\es.length<=xk:=by
       rcases Z1 with⟨_,_,b,hv⟩ | ⟨_,blk,cap,_,_,_,_,hv,_,_,hc,_⟩
       .exact⟨b,_,hv,ai _⟩
       .exact⟨_,cap,hv,hc⟩
      refine⟨_,a.eval X,w,h,by have hn0:news=[]:=cQ (by rw[sU.newsLen];simp);subst hn0;rw[Ep];exact lM T U ty e j' h2 kr xa _ xk hxk (by rw[<- fB];exact sU),?_⟩;rw[d6];refine .fin hst hd (o':=Q6 ob X) ?_ λb hb=>?_
      .simp only[LR]
       refine⟨Ay,?_⟩;rcases Z1 with Z1 | ⟨e',blk,cap,cur,sz',e1,e2,e3⟩
       .exact .inl Z1
       .exact .inr ⟨e',blk,cap,cur,sz',e1,e2,e3⟩
      .cases X with
       |tmp t=>exact⟨hst.obnd _ b hb,λi=>hst.obx _ b i hb,λL hL=>⟨t,hst.oinj _ _ b hL hb,sq,NW⟩⟩
       |_=>cases hb
     .have uS:ys.isEmpty=false:=by simpa using CU
      simp only[uS,ay,cD] at h;have yR:=sU.newsLen;have LX:=sU.one;have sL:Src P j'.size U vy ys.length news w:=(by rw[<- fB];exact sU);have grun:∀ (base:Option Addr) (sLen sCap:Nat) (olds:List Value) (_:(Builtin.firstCells j'.size sLen (.slice base sLen sCap)).run P w.drew=.ok olds.toArray w.drew) (_:sCap<sLen+ys.length) (_:sLen+ys.length<=9223372036854775807) (_:Builtin.nextslicecap (sLen+ys.length) sCap*j'.bytes<=281474976710656),
       (Builtin.append_ #[T,U] ty #[.slice base sLen sCap,vy]).run P w=.ok (.slice (some ⟨w.heap.size,0,none⟩) (sLen+ys.length) (grownCap w (sLen+ys.length) sCap e))
        (w.drew.alloc (.cells (olds.toArray++news.toArray++Builtin.zeroCells zv.cells (grownCap w (sLen+ys.length) sCap e - (sLen+ys.length))) e)):=by
       intro base sLen sCap olds ho hg h63 xN;have:=run_append_grow_src (P:=P) w T U ty e j' zv h2 kr vz base sLen sCap olds ho vy ys.length news sL hg (by omega) xN;rw[this];simp
      have hm0:0<ys.length:=jU.2 CU;have dC:∀ x∈es++ys,x.length=sz:=λx hx=>by rcases bh.1 hx with hx | hx;exact qM x hx;exact xY x hx
      have Z2:es.length+ys.length<=maxLen:=(by unfold maxLen;omega);have flat_eq:(es++ys).flatten=es.flatten++ys.flatten:=(by simp);have hfe:=bZ es qM;have grownCase:∀ (olds:List Value) (cap0:Nat),olds.length=es.length*sz->(∀ (q:Nat) (c:C),es.flatten[q]?=some c->∃ u,olds[q]?=some u/\CR I w u c)->
       SE G n I0 M w0 (s.after tr o (.ow (some (e,sz)) (es++ys))) (a.put o.dst (.slice (some ⟨w.heap.size,0,none⟩) (es.length+ys.length) (grownCap w (es.length+ys.length) cap0 e)))
        (w.drew.alloc (.cells (olds.toArray++news.toArray++Builtin.zeroCells zv.cells (grownCap w (es.length+ys.length) cap0 e - (es.length+ys.length))) e)):=by
       intro olds cap0 Cn L2;have fu:=grownCap_ge w (es.length+ys.length) cap0 e;have hcm:=grownCap_le_maxLen w (es.length+ys.length) cap0 e Z2;have:=SE.finRow (tr:=tr) (o:=o) (e:=e) (cap:=grownCap w (es.length+ys.length) cap0 e) (sz:=sz) (es:=es++ys)
        (cur:=olds.toArray++news.toArray++Builtin.zeroCells zv.cells (grownCap w (es.length+ys.length) cap0 e - (es.length+ys.length))) hst hd (w1:=w.drew) hst.drew rfl
        (by simpa using fu) hcm (by
         simp only[Array.size_append,ft,size_zeroCells,Z0,Cn,yR,<- dy];congr 1;omega) dC (λq c hq=>by
          rw[flat_eq] at hq;have ng:∃ u,(olds++news)[q]?=some u/\CR I w u c:=by
           by_cases qq:q<es.flatten.length
           .rw[aM qq] at hq
            obtain⟨u,hu,ka⟩:=L2 q c hq;exact⟨u,by rw[aM (by omega)];exact hu,ka⟩
           .rw[aU (by omega)] at hq
            obtain⟨u,hu,ka⟩:=NY _ c hq;refine⟨u,?_,ka⟩;rw[aU (by omega),<- hu];congr 1;omega
          obtain⟨u,hu,ka⟩:=ng;rw[mN olds news _ q u hu];exact ka) (λ_ _ _=>rfl)
       rw[aB] at this;exact this
      rcases Z1 with⟨hob0,_,xa,Ep⟩ | ⟨e',blk,cap,cur,sz',Ws,Wq,Ep,hbb,jB,hc,hcm,ju,xU,hIb⟩
      .cases xa with
       |none=>
        have LV:es=[]:=by
         rcases Ay.sl_inv with⟨_,h1⟩ | ⟨b,off,cap,_,_,hv,_⟩
         .exact h1
         .rw[Ep] at hv;cases hv
        subst LV;have bO:=grun none 0 0 [] (by simpa using run_firstCells_none (P:=P) w.drew j'.size 0 0 0) (by simp only[aL,ao] at cH;omega) (by simp only[aL,ao] at cH;omega)
         (by rw[<- wd];simp only[aL] at hb;exact lD (by omega) hb)
        simp only[ao] at bO;have:=grownCase [] 0 (by simp) (by simp);simp only[fZ,aL,ao,jq] at this h;refine⟨_,_,_,h,by rw[Ep];exact bO,?_⟩;simpa using this
       |some xaddr=>rw[Ep] at Ay;obtain⟨olds,Cn,holds,L2,_⟩:=Ay.oldsOf qM;have bO:=grun (some xaddr) es.length es.length olds (run_firstCells_some (P:=P) w.drew j'.size es.length xaddr es.length es.length olds (by rw[<- fB];exact Cn) (by simpa using holds)) (by omega) (by omega) (by rw[<- wd];exact lD (by omega) hb);exact⟨_,_,_,h,by rw[Ep];exact bO,grownCase olds es.length Cn L2⟩
      .have hee:e'=e/\sz'=sz:=by
        rcases hE with hE | hE
        .rw[hE] at Wq;cases Wq
        .rw[hE] at Wq;cases Wq;exact⟨rfl,rfl⟩
       obtain⟨rfl,rfl⟩:=hee;rw[Ep] at Ay;obtain⟨olds,Cn,holds,L2,_⟩:=Ay.flat qM;by_cases pR:es.length+ys.length<=cap
       .
        cases X with
        |tmp t=>
         have yS:ob (.t t)=some blk:=Ws;have bO:=jP (P:=P) (w:=w) T U ty e' j' h2 kr blk 0 es.length cap cur (.of e') jB RT.of_ok vy ys.length news sL pR (by rw[<- fB,yR,ju,ao,<- dy];exact bf _ pR);rw[<- fB] at bO;simp only[ao] at bO;refine⟨_,_,_,h,by rw[Ep];exact bO,?_⟩;have Ai:blk<w.heap.size:=(bq.1 jB).1;have Z3:es.length*sz'+news.length<=cur.size:=(by rw[yR,ju,<- dy];exact bf _ pR);have bP:=hst.clr t;have QC:∀ o,o<es.length*sz'->(cur.toList.take (es.length*sz')++news++cur.toList.drop (es.length*sz'+news.length)).toArray[o]?=cur[o]?:=λo ho=>by simp only[du,bU];rw[aM (by simp;omega),cN,if_pos ho,aY]
         have rl:∀ o,I blk o->(w.setRow blk (cur.toList.take (es.length*sz')++news++cur.toList.drop (es.length*sz'+news.length)).toArray).cell? ⟨blk,o,none⟩=w.cell? ⟨blk,o,none⟩:=λo ho=>by rw[cell_setRow_same w blk o cur _ e' (0,0) jB,jd w blk o cur e' (0,0) jB];exact QC o (hIb o ho)
         have Z4:∀ L,upL ob (.t t) none L≠some blk:=λL hL=>by
          simp only[upL] at hL;split at hL
          .cases hL
          .rename_i gu;exact gu (hst.oinj _ _ blk hL yS)
         have hg:w.grb (w.setRow blk (cur.toList.take (es.length*sz')++news++cur.toList.drop (es.length*sz'+news.length)).toArray) (some blk):=
          ⟨rfl,rfl,rfl,by simp,λk _ hk=>lH w blk k _ (λe=>hk (by rw[e])),ai _⟩
         have oG:=bP.growRow hg hbb rl Z4 (λi=>hst.obx _ blk i yS) (I':=λb o=>I b o∨(b=blk/\o<(es.length+ys.length)*sz'))
          (λ_ _ h=>.inl h) (λb o hb=>by rcases hb with hb | hb;exact .inl hb;exact .inr hb.1) (by simpa using Ai)
         have nc:∀ b o,I b o->(I b o∨(b=blk/\o<(es.length+ys.length)*sz'))/\
          (w.setRow blk (cur.toList.take (es.length*sz')++news++cur.toList.drop (es.length*sz'+news.length)).toArray).cell? ⟨b,o,none⟩=w.cell? ⟨b,o,none⟩:=
          λb o hb=>⟨.inl hb,hst.keeps hg (λr e o ho=>by cases e;exact rl o ho) b o hb⟩
         have xM:=setRow_heap w blk cur (cur.toList.take (es.length*sz')++news++cur.toList.drop (es.length*sz'+news.length)).toArray e' (0,0) jB;have NX:(cur.toList.take (es.length*sz')++news++cur.toList.drop (es.length*sz'+news.length)).toArray.size=cap*sz':=(by simp only[ft,aB,bb,dh,cy];omega);have ka:CR (λb o=>I b o∨(b=blk/\o<(es.length+ys.length)*sz')) (w.setRow blk (cur.toList.take (es.length*sz')++news++cur.toList.drop (es.length*sz'+news.length)).toArray)
          (.slice (some ⟨blk,0,none⟩) (es++ys).length cap) (.sl (es++ys)):=
          CR.row xM (by simpa using pR) dC (λq c hq=>by
           have qq:=(am.1 hq).1;rw[bZ _ dC,aB,dy] at qq;refine⟨by rw[NX,<- ju];omega,?_⟩;rw[flat_eq] at hq;by_cases hq1:q<es.flatten.length
           .rw[aM hq1] at hq
            obtain⟨u,hu,ka⟩:=L2 q c hq;have eE:=(holds q u hu).1;rw[ao,jd w blk q cur e' (0,0) jB] at eE;rw[au,QC q (by omega),eE];exact ka.mono nc
           .rw[aU (by omega)] at hq
            obtain⟨u,hu,ka⟩:=NY _ c hq;have:(cur.toList.take (es.length*sz')++news++cur.toList.drop (es.length*sz'+news.length)).toArray[q]?=some u:=(by simp only[du];have QQ:(cur.toList.take (es.length*sz')).length=es.length*sz':=(by have nr:cur.toList.length=cur.size:=cy;rw[bb,nr];omega);rw[aM (by rw[aB,QQ];omega),aU (by rw[QQ];omega),<- hu,QQ,hfe]);rw[au,this];exact ka.mono nc) (λo ho=>.inr ⟨rfl,by simpa using ho⟩)
         have LY:s.after tr o (.ow (some (e',sz')) (es++ys))=(s.clr t).put o.dst (.ow (some (e',sz')) (es++ys)):=(by unfold S.after;rw[sq];simp only[S.use];have:(s.fr t).isOw=true:=NW;rw[if_pos this]);rw[LY];cases o0:o.dst with
         |none=>exact⟨_,_,_,oG⟩
         |some dd=>
          refine⟨_,_,_,oG.put dd (hd dd o0) (o:=some blk) ?_ λb hb=>?_⟩
          .have we:Value.slice (some ⟨blk,0,none⟩) (es.length+ys.length) cap=Value.slice (some ⟨blk,0,none⟩) (es++ys).length cap:=by rw[aB]
           rw[we];simp only[LR];refine⟨ka,.inr ⟨e',blk,cap,_,sz',rfl,rfl,rfl,hbb,xM,by simpa using pR,hcm,NX,dC,λo ho=>?_⟩⟩;rw[aB];rcases ho with ho | ho
           .have:=hIb o ho;rw[dy];omega
           .exact ho.2
          .simp only[ap] at hb
           subst hb;refine⟨⟨by simpa using Ai,hbb⟩,λL hL=>?_,λi=>hst.obx _ blk i yS⟩;simp only[upL] at hL;split at hL
           .cases hL
           .split at hL
            .cases hL
            .rename_i h5 h6;exact h6 (hst.oinj _ _ blk hL yS)
        |_=>cases Ws
       .have bO:=grun (some ⟨blk,0,none⟩) es.length cap olds (run_firstCells_some (P:=P) w.drew j'.size es.length ⟨blk,0,none⟩ es.length cap olds (by rw[<- fB];exact Cn) (λq u hq=>by rw[dm];simpa using(holds q u hq).1)) (by omega) (by omega) (by rw[<- wd];exact lD (by omega) hb)
        exact⟨_,_,_,h,by rw[Ep];exact bO,grownCase olds cap Cn L2⟩
    .exact h.elim
   .cases pd
  .exact h.elim
 .exact h.elim
theorem u6 {z:Array Value} {m:Nat} {u:Value} (h:u∈Builtin.zeroCells z m):u∈z:=by
 unfold Builtin.zeroCells at h;simp only[Array.mem_map,Array.mem_range] at h;obtain⟨i,hi,rfl⟩:=h;have hz:0<z.size:=Nat.pos_of_ne_zero λh=>by rw[h] at hi;simp at hi
 have bF:i % z.size<z.size:=lz _ hz;rw[getElem!_pos z _ bF];exact Array.getElem_mem bF
theorem y3 {T U ty:TypeId} {t0:Tmp} {E:Option (TypeId×Nat)} {es:List (List C)} {vy:Value} (hst:St G n I0 M w0 I β ob s a w) (hd:∀ d,o.dst=some d->d<n)
 (sq:cL tr o=some t0) (Aj:s.fr t0=.gs none E es) (h:nn P [T,U] E es y K) (hy:∀ ys e,P.underlying T=some (.slice e)->∀ j,ti P e=some j->y=.c (.sl ys)->(∀ x∈ys,x.length=j.size)->J7 P I w U vy j.size ys) :
 ∃ z u w',K z/\(Builtin.append_ #[T,U] ty #[a.tmps.getD t0 undef,vy]).run P w=.ok u w'/\SE G n I0 M w0 (s.after tr o z) (a.put o.dst u) w':=by
 have hx:=hst.fr t0;rw[Aj] at hx;simp only[nn] at h;obtain⟨rfl,h⟩:=h;split at h
 .rename_i e _ _ _ _ _ _ hi
  obtain⟨j,d,h1,h2,h3,_⟩:=bL hi;have sd:=dW h3;subst sd;split at h
  .rename_i sz by_ _ z _ _ wm
   obtain⟨j',d',kr,pY,_,fB,wd,_,pd,_⟩:=bL wm;simp only at pd fB wd;obtain⟨⟨hp,zL,hE,qM⟩,h⟩:=h;split at pd
   .rename_i zv vz
    split at h
    .rename_i y1
     obtain⟨⟨hb,cH,JD⟩,h⟩:=h;have xY:∀ x∈[y1],x.length=sz:=λx hx=>by rw[bu] at hx;subst hx;exact JD
     obtain⟨news,sU,NY⟩:=hy [y1] e h2 _ wm rfl xY;simp only at sU;have uh:=l8 (I:=I) (w:=w) pd.symm;have Z0:zv.cells.size=sz:=(by rw[uh.1,zL]);have zone:∀ u∈zv.cells,u.oneCell'=true:=λu hu=>by obtain⟨q,hq,rfl⟩:=gQ.1 hu;have qq:q<z.length:=(by rw[<- uh.1];exact hq);have:=(uh.2 q _ (ak qq)).oneCell;simpa[aF hq,hq] using this
     have Z1:=hx.2;have NW:(s.fr t0).isOw=true:=(by rw[Aj];rfl);have CU:([y1]:List (List C))≠[]:=(by simp);have yR:=sU.newsLen;have LX:=sU.one;have sL:Src P j'.size T vy [y1].length news w:=(by rw[<- fB];exact sU);have grun:∀ (base:Option Addr) (sLen sCap:Nat) (olds:List Value) (_:(Builtin.firstCells j'.size sLen (.slice base sLen sCap)).run P w.drew=.ok olds.toArray w.drew) (_:sCap<sLen+[y1].length) (_:sLen+[y1].length<=9223372036854775807) (_:Builtin.nextslicecap (sLen+[y1].length) sCap*j'.bytes<=281474976710656),
      (Builtin.append_ #[T,T] ty #[.slice base sLen sCap,vy]).run P w=.ok (.slice (some ⟨w.heap.size,0,none⟩) (sLen+[y1].length) (grownCap w (sLen+[y1].length) sCap e))
       (w.drew.alloc (.cells (olds.toArray++news.toArray++Builtin.zeroCells zv.cells (grownCap w (sLen+[y1].length) sCap e - (sLen+[y1].length))) e)):=by
      intro base sLen sCap olds ho hg h63 xN;have:=run_append_grow_src (P:=P) w T T ty e j' zv h2 kr vz base sLen sCap olds ho vy [y1].length news sL hg (by omega) xN;rw[this];simp
     have hm0:0<[y1].length:=jU.2 CU;have dC:∀ x∈es++[y1],x.length=sz:=λx hx=>by rcases bh.1 hx with hx | hx;exact qM x hx;exact xY x hx
     have Z2:es.length+[y1].length<=maxLen:=(by unfold maxLen;omega);have flat_eq:(es++[y1]).flatten=es.flatten++[y1].flatten:=(by simp);have hfe:=bZ es qM;have grownCase:∀ (olds:List Value) (cap0:Nat),olds.length=es.length*sz->(∀ (q:Nat) (c:C),es.flatten[q]?=some c->∃ u,olds[q]?=some u/\CR I w u c)->(∀ u∈olds,u.oneCell'=true)->
      SE G n I0 M w0 (s.after tr o (.gs none (some (e,sz)) (es++[y1]))) (a.put o.dst (.slice (some ⟨w.heap.size,0,none⟩) (es.length+[y1].length) (grownCap w (es.length+[y1].length) cap0 e)))
       (w.drew.alloc (.cells (olds.toArray++news.toArray++Builtin.zeroCells zv.cells (grownCap w (es.length+[y1].length) cap0 e - (es.length+[y1].length))) e)):=by
      intro olds cap0 Cn L2 ho1;have fu:=grownCap_ge w (es.length+[y1].length) cap0 e;have hcm:=grownCap_le_maxLen w (es.length+[y1].length) cap0 e Z2;have:=SE.finRowG (tr:=tr) (o:=o) (e:=e) (cap:=grownCap w (es.length+[y1].length) cap0 e) (sz:=sz) (es:=es++[y1])
       (cur:=olds.toArray++news.toArray++Builtin.zeroCells zv.cells (grownCap w (es.length+[y1].length) cap0 e - (es.length+[y1].length))) hst hd (w1:=w.drew) hst.drew rfl
       (by simpa using fu) hcm (by
        simp only[Array.size_append,ft,size_zeroCells,Z0,Cn,yR,<- dy];congr 1;omega) dC (λq c hq=>by
         rw[flat_eq] at hq;have ng:∃ u,(olds++news)[q]?=some u/\CR I w u c:=by
          by_cases qq:q<es.flatten.length
          .rw[aM qq] at hq
           obtain⟨u,hu,ka⟩:=L2 q c hq;exact⟨u,by rw[aM (by omega)];exact hu,ka⟩
          .rw[aU (by omega)] at hq
           obtain⟨u,hu,ka⟩:=NY _ c hq;refine⟨u,?_,ka⟩;rw[aU (by omega),<- hu];congr 1;omega
         obtain⟨u,hu,ka⟩:=ng;rw[mN olds news _ q u hu];exact ka) (λu hu=>by
          simp only[Array.mem_append,gj] at hu;rcases hu with(hu | hu) | hu
          .exact ho1 u hu
          .exact LX u hu
          .exact zone u (u6 hu)) (λ_ _ _=>rfl)
      rw[aB] at this;exact this
     rcases Z1 with⟨hob0,hE0,LV,xa,Ep⟩ | ⟨e',blk,cap,cur,sz',Ws,Wq,Ep,hbb,jB,hc,hcm,ju,xU,GL,kg,eX⟩
     .subst LV
      have nilCase:∀ (base:Option Addr),(Builtin.append_ #[T,T] ty #[.slice base 0 0,vy]).run P w=.ok (.slice (some ⟨w.heap.size,0,none⟩) (0+[y1].length) (grownCap w (0+[y1].length) 0 e))
       (w.drew.alloc (.cells (([]:List Value).toArray++news.toArray++Builtin.zeroCells zv.cells (grownCap w (0+[y1].length) 0 e - (0+[y1].length))) e)):=λbase=>by
       refine grun base 0 0 [] ?_ (by simp) (by simp) (by rw[<- wd];exact lD (by simp) (by simpa using hb));cases base with
       |none=>simpa using run_firstCells_none (P:=P) w.drew j'.size 0 0 0
       |some xaddr=>exact run_firstCells_some (P:=P) w.drew j'.size 0 xaddr 0 0 [] (by simp) (by simp)
      have bO:=nilCase xa;have:=grownCase [] 0 (by simp) (by simp) (by simp);simp only[fZ,aL,ao,jq] at this h bO;refine⟨_,_,_,h,by rw[Ep];exact bO,?_⟩;simpa using this
     .have hee:e'=e/\sz'=sz:=by
       rcases hE with hE | hE
       .rw[hE] at Wq;cases Wq
       .rw[hE] at Wq;cases Wq;exact⟨rfl,rfl⟩
      obtain⟨rfl,rfl⟩:=hee;have ajo:=bf sz' hc;obtain⟨olds,Cn,aez⟩:∃ olds:List Value,olds.length=es.length*sz'/\∀ q,q<es.length*sz'->olds[q]?=cur[q]?:=⟨cur.toList.take (es.length*sz'),by rw[bb];exact cA (by have h9:cur.toList.length=cur.size:=cy;rw[h9,ju];exact ajo),λq hq=>by rw[cN,if_pos hq,aY]⟩;have L2:∀ (q:Nat) (c:C),es.flatten[q]?=some c->∃ u,olds[q]?=some u/\CR I w u c:=λq c hq=>by have qq:=(am.1 hq).1;rw[hfe] at qq;refine⟨cur.getD q undef,?_,GL q c hq⟩;rw[aez q qq,au,aF (show q<cur.size by omega)];rfl
      have ho1:∀ u∈olds,u.oneCell'=true:=λu hu=>by obtain⟨q,hq,rfl⟩:=eo hu;have h7:=aez q (by omega);rw[ak hq] at h7;exact kg _ (fj h7.symm)
      have holds:∀ (q:Nat) (u:Value),olds[q]?=some u->w.cell? ⟨blk,0+q,none⟩=some u:=λq u hq=>by have qq:=(am.1 hq).1;rw[ao,jd w blk q cur e' (0,0) jB,<- hq,aez q (by omega)]
      by_cases pR:es.length+[y1].length<=cap
      .
       have yS:ob (.t t0)=some blk:=Ws;have bO:=jP (P:=P) (w:=w) T T ty e' j' h2 kr blk 0 es.length cap cur (.of e') jB RT.of_ok vy [y1].length news sL pR (by rw[<- fB,yR,ju,ao,<- dy];exact bf _ pR);rw[<- fB] at bO;simp only[ao] at bO;refine⟨_,_,_,h,by rw[Ep];exact bO,?_⟩;have Ai:blk<w.heap.size:=(bq.1 jB).1;have Z3:es.length*sz'+news.length<=cur.size:=(by rw[yR,ju,<- dy];exact bf _ pR);have bP:=hst.clr t0;have QC:∀ o,o<es.length*sz'->(cur.toList.take (es.length*sz')++news++cur.toList.drop (es.length*sz'+news.length)).toArray[o]?=cur[o]?:=λo ho=>by simp only[du,bU];rw[aM (by simp;omega),cN,if_pos ho,aY]
       have rl:∀ o,I blk o->(w.setRow blk (cur.toList.take (es.length*sz')++news++cur.toList.drop (es.length*sz'+news.length)).toArray).cell? ⟨blk,o,none⟩=w.cell? ⟨blk,o,none⟩:=λo ho=>by exact absurd ho (eX o)
       have Z4:∀ L,upL ob (.t t0) none L≠some blk:=λL hL=>by
        simp only[upL] at hL;split at hL
        .cases hL
        .rename_i gu;exact gu (hst.oinj _ _ blk hL yS)
       have hg:w.grb (w.setRow blk (cur.toList.take (es.length*sz')++news++cur.toList.drop (es.length*sz'+news.length)).toArray) (some blk):=
        ⟨rfl,rfl,rfl,by simp,λk _ hk=>lH w blk k _ (λe=>hk (by rw[e])),ai _⟩
       have oG:=bP.growRow hg hbb rl Z4 (λi=>hst.obx _ blk i yS) (I':=I)
        (λ_ _ h=>h) (λb o hb=>.inl hb) (by simpa using Ai)
       have nc:∀ b o,I b o->I b o/\
        (w.setRow blk (cur.toList.take (es.length*sz')++news++cur.toList.drop (es.length*sz'+news.length)).toArray).cell? ⟨b,o,none⟩=w.cell? ⟨b,o,none⟩:=
        λb o hb=>⟨hb,hst.keeps hg (λr e o ho=>by cases e;exact rl o ho) b o hb⟩
       have xM:=setRow_heap w blk cur (cur.toList.take (es.length*sz')++news++cur.toList.drop (es.length*sz'+news.length)).toArray e' (0,0) jB;have NX:(cur.toList.take (es.length*sz')++news++cur.toList.drop (es.length*sz'+news.length)).toArray.size=cap*sz':=(by simp only[ft,aB,bb,dh,cy];omega);have ka:∀ (q:Nat) (c:C),(es++[y1]).flatten[q]?=some c->CR I (w.setRow blk (cur.toList.take (es.length*sz')++news++cur.toList.drop (es.length*sz'+news.length)).toArray) ((cur.toList.take (es.length*sz')++news++cur.toList.drop (es.length*sz'+news.length)).toArray.getD q undef) c:=
        (λq c hq=>by
         have qq:=(am.1 hq).1;rw[bZ _ dC,aB,dy] at qq;rw[flat_eq] at hq;by_cases hq1:q<es.flatten.length
         .rw[aM hq1] at hq
          obtain⟨u,hu,ka⟩:=L2 q c hq;have eE:=holds q u hu;rw[ao,jd w blk q cur e' (0,0) jB] at eE;rw[au,QC q (by omega),eE];exact ka.mono nc
         .rw[aU (by omega)] at hq
          obtain⟨u,hu,ka⟩:=NY _ c hq;have:(cur.toList.take (es.length*sz')++news++cur.toList.drop (es.length*sz'+news.length)).toArray[q]?=some u:=(by simp only[du];have QQ:(cur.toList.take (es.length*sz')).length=es.length*sz':=(by have nr:cur.toList.length=cur.size:=cy;rw[bb,nr];omega);rw[aM (by rw[aB,QQ];omega),aU (by rw[QQ];omega),<- hu,QQ,hfe]);rw[au,this];exact ka.mono nc)
       have LY:s.after tr o (.gs none (some (e',sz')) (es++[y1]))=(s.clr t0).put o.dst (.gs none (some (e',sz')) (es++[y1])):=(by unfold S.after;rw[sq];simp only[S.use];have:(s.fr t0).isOw=true:=NW;rw[if_pos this]);rw[LY];cases o0:o.dst with
       |none=>exact⟨_,_,_,oG⟩
       |some dd=>
        refine⟨_,_,_,oG.put dd (hd dd o0) (o:=some blk) ?_ λb hb=>?_⟩
        .have we:Value.slice (some ⟨blk,0,none⟩) (es.length+[y1].length) cap=Value.slice (some ⟨blk,0,none⟩) (es++[y1]).length cap:=by rw[aB]
         rw[we];simp only[LR];exact⟨(λ_ h=>by cases h),.inr ⟨e',blk,cap,_,sz',rfl,rfl,rfl,hbb,xM,by simpa using pR,hcm,NX,dC,ka,λu hu=>by
          rw[gj] at hu;rcases bh.1 hu with hu | hu
          .rcases bh.1 hu with hu | hu
           .exact kg u (dA.1 (cX hu))
           .exact LX u hu
          .exact kg u (dA.1 (cY hu)),eX⟩⟩
        .simp only[ap] at hb
         subst hb;refine⟨⟨by simpa using Ai,hbb⟩,λL hL=>?_,λi=>hst.obx _ blk i yS⟩;simp only[upL] at hL;split at hL
         .cases hL
         .split at hL
          .cases hL
          .rename_i h5 h6;exact h6 (hst.oinj _ _ blk hL yS)
      .have bO:=grun (some ⟨blk,0,none⟩) es.length cap olds (run_firstCells_some (P:=P) w.drew j'.size es.length ⟨blk,0,none⟩ es.length cap olds (by rw[<- fB];exact Cn) (λq u hq=>by rw[dm];simpa using holds q u hq)) (by omega) (by omega) (by rw[<- wd];exact lD (by omega) hb)
       exact⟨_,_,_,h,by rw[Ep];exact bO,grownCase olds cap Cn L2 ho1⟩
    .exact h.elim
   .cases pd
  .exact h.elim
 .exact h.elim
theorem Cs {T ty:TypeId} {vx vy:Value} {ox:Option Nat} {es:List (List C)} {d:Option Tmp} {K:S->Prop} (hst:St G n I0 M w0 I β ob s a w)
 (hx:LR (Wr M w0) I β w ox vx (.ow none es)) (h:dL P T (.ow none es) y (afj s d K)) (hy:∀ ys,y=.c (.sl ys)->RD I w vy ys) :
 ∃ (e:TypeId) (sz:Nat) (es':List (List C)) (cells:Array Value) (cap:Nat),K ({ s with bx:=up s.bx s.nb (es'.flatten.map .c),nb:=s.nb+1 }.put d (.ms s.nb 0 es'.length es'.length sz))/\
  (Builtin.append_ #[T,T] ty #[vx,vy]).run P w=.ok (.slice (some ⟨w.heap.size,0,none⟩) es'.length cap) (w.drew.alloc (.cells cells e))/\es'.length<=cap/\es'.flatten.length<=cells.size/\
  (∀ q c,es'.flatten[q]?=some c->CR I w (cells.getD q undef) c)/\(∀ u∈cells,u.oneCell'=true):=by
 unfold dL at h;split at h
 .rename_i e _ _ _ _ _ _ E es1 hi Aj
  cases Aj;obtain⟨j,d,h1,h2,h3,_⟩:=bL hi;have sd:=dW h3;subst sd;split at h
  .rename_i sz by_ _ z _ _ wm
   obtain⟨j',d',kr,pY,_,fB,wd,_,pd,_⟩:=bL wm;simp only at pd fB wd;obtain⟨⟨hp,zL,hE,qM⟩,h⟩:=h;split at pd
   .rename_i zv vz
    split at h
    .rename_i ys
     obtain⟨⟨hb,cH,xY⟩,h⟩:=h;by_cases CU:ys=[]
     .subst CU
      simp only[List.isEmpty_nil,bY] at h;exact h.elim
     have uS:ys.isEmpty=false:=(by simpa using CU);simp only[uS,ay,cD] at h;have Wl:=hy _ rfl;have uh:=l8 (I:=I) (w:=w) pd.symm;have Z0:zv.cells.size=sz:=(by rw[uh.1,zL]);obtain⟨vsl,hvy⟩:∃ (p:Option Addr×Nat),vy=.slice p.1 ys.length p.2:=by
      rcases Wl with⟨h0,h1⟩ | ⟨b,off,cap,_,_,hv,_⟩
      .obtain⟨a0,c0,h0,_⟩:=h0;exact⟨(a0,c0),by rw[h0,h1];rfl⟩
      .exact⟨(some ⟨b,off,none⟩,cap),hv⟩
     obtain⟨ya,yc⟩:=vsl;simp only at hvy;subst hvy;have Z1:=hx.2;have Ay:=hx.1;obtain⟨yb,yoff,rfl⟩:=Wl.some' CU;obtain⟨news,yR,JC,NY,LX⟩:=Wl.flat xY;have Wt:∀ (q:Nat) (u:Value),news[q]?=some u->w.cell? ((⟨yb,yoff,none⟩:Addr).add q)=some u:=λq u hq=>by rw[dm];exact(JC q u hq).1
     have hm0:0<ys.length:=jU.2 CU;have dC:∀ x∈es++ys,x.length=sz:=λx hx=>by rcases bh.1 hx with hx | hx;exact qM x hx;exact xY x hx
     have Z2:es.length+ys.length<=maxLen:=(by unfold maxLen;omega);have flat_eq:(es++ys).flatten=es.flatten++ys.flatten:=(by simp);have hfe:=bZ es qM;have hfa:=bZ (es++ys) dC;have zone:∀ u∈zv.cells,u.oneCell'=true:=λu hu=>by obtain⟨q,hq,rfl⟩:=gQ.1 hu;have qq:q<z.length:=(by rw[<- uh.1];exact hq);have:=(uh.2 q _ (ak qq)).oneCell;simpa[aF hq,hq] using this
     have fin:∀ (olds:List Value) (cap0:Nat),olds.length=es.length*sz->(∀ (q:Nat) (c:C),es.flatten[q]?=some c->∃ u,olds[q]?=some u/\CR I w u c)->(∀ u∈olds,u.oneCell'=true)->
      (Builtin.append_ #[T,T] ty #[vx,.slice (some ⟨yb,yoff,none⟩) ys.length yc]).run P w=.ok (.slice (some ⟨w.heap.size,0,none⟩) (es.length+ys.length) (grownCap w (es.length+ys.length) cap0 e))
       (w.drew.alloc (.cells (olds.toArray++news.toArray++Builtin.zeroCells zv.cells (grownCap w (es.length+ys.length) cap0 e - (es.length+ys.length))) e))->
      ∃ (e:TypeId) (sz:Nat) (es':List (List C)) (cells:Array Value) (cap:Nat),K ({ s with bx:=up s.bx s.nb (es'.flatten.map .c),nb:=s.nb+1 }.put ‹Option Tmp› (.ms s.nb 0 es'.length es'.length sz))/\
       (Builtin.append_ #[T,T] ty #[vx,.slice (some ⟨yb,yoff,none⟩) ys.length yc]).run P w=.ok (.slice (some ⟨w.heap.size,0,none⟩) es'.length cap) (w.drew.alloc (.cells cells e))/\es'.length<=cap/\es'.flatten.length<=cells.size/\
       (∀ q c,es'.flatten[q]?=some c->CR I w (cells.getD q undef) c)/\(∀ u∈cells,u.oneCell'=true):=by
      intro olds cap0 Cn L2 ho1 bO;have fu:=grownCap_ge w (es.length+ys.length) cap0 e;refine⟨e,sz,es++ys,_,_,h,by rw[aB];exact bO,by rw[aB];exact fu,?_,λq c hq=>?_,λu hu=>?_⟩
      .rw[hfa,aB]
       simp only[Array.size_append,ft,Cn,yR,<- dy];omega
      .rw[flat_eq] at hq
       have ng:∃ u,(olds++news)[q]?=some u/\CR I w u c:=by
        by_cases qq:q<es.flatten.length
        .rw[aM qq] at hq
         obtain⟨u,hu,ka⟩:=L2 q c hq;exact⟨u,by rw[aM (by omega)];exact hu,ka⟩
        .rw[aU (by omega)] at hq
         obtain⟨u,hu,ka⟩:=NY _ c hq;refine⟨u,?_,ka⟩;rw[aU (by omega),<- hu];congr 1;omega
       obtain⟨u,hu,ka⟩:=ng;rw[mN olds news _ q u hu];exact ka
      .simp only[Array.mem_append,gj] at hu
       rcases hu with(hu | hu) | hu
       .exact ho1 u hu
       .exact LX u hu
       .exact zone u (u6 hu)
     rcases Z1 with⟨hob0,_,xa,Ep⟩ | ⟨e',blk,cap,cur,sz',Ws,Wq,_⟩
     .cases xa with
      |none=>
       have LV:es=[]:=by
        rcases Ay.sl_inv with⟨_,h1⟩ | ⟨b,off,cap,_,_,hv,_⟩
        .exact h1
        .rw[Ep] at hv;cases hv
       subst LV;have bO:=run_append_nil (P:=P) w T ty e j' zv h2 kr vz ⟨yb,yoff,none⟩ ys.length yc news (by rw[<- fB];exact yR) Wt hm0 (by simp only[aL,ao] at cH;omega) (by rw[<- wd];simp only[aL,ao] at hb;omega);refine fin [] 0 (by simp) (by simp) (by simp) ?_;rw[Ep];simpa using bO
      |some xaddr=>
       rw[Ep] at Ay;obtain⟨olds,Cn,holds,L2,ho1⟩:=Ay.oldsOf qM;have bO:=run_append_grow (P:=P) w T ty e j' zv h2 kr vz xaddr es.length es.length olds (by rw[<- fB];exact Cn) holds
        ⟨yb,yoff,none⟩ ys.length yc news (by rw[<- fB];exact yR) Wt (by omega) (by omega) (by rw[<- wd];exact lD (by omega) hb)
       exact fin olds es.length Cn L2 ho1 (by rw[Ep];exact bO)
     .cases Wq
    .exact h.elim
   .cases pd
  .exact h.elim
 .exact h.elim
end
section
variable {P:Program} {G:Gl} {tr:List Nat} {n:Nat} {I0:Ft} {M:Mx} {w0:World} {I:Ft} {β:Nat->Option Nat} {ob:Loc->Option Nat} {s:S} {a:Act} {w:World} {o:Oper}
 {next:Act->World->Prop} {Q:Exit->Act->World->Prop} {base:Nat->Prop} {v:Value} {x y:V} {K:V->Prop}
theorem rz (isSlice:Bool) (len cap:Nat) (lo hi:Option Value) (l h:Int) (hl:(lo=none/\l=0)∨∃ k,lo=some (.int k l)) (hh:(hi=none/\h=len)∨∃ k,hi=some (.int k h))
 (h0:0<=l) (h1:l<=h) (h2:h<=len) (hc:len<=cap):(Instr.sliceBounds isSlice len cap lo hi none).run P w=.ok (l.toNat,h.toNat,cap) w:=by
 have eh:(h.toNat:Int)=h:=jW (by omega);unfold Instr.sliceBounds;have e0:(0:Int)<=h:=by omega
 have e1:h<=(cap:Int):=by omega
 rcases hl with⟨rfl,rfl⟩ | ⟨kl,rfl⟩<;>rcases hh with⟨rfl,rfl⟩ | ⟨kh,rfl⟩<;>
  simp[run_sliceBound,h0,h1,eh,e0,e1]
theorem G5 (isSlice:Bool) (len cap:Nat) (lo hi:Option Value) (l h:Int) (km:IntKind) (hl:(lo=none/\l=0)∨∃ k,lo=some (.int k l)) (hh:∃ k,hi=some (.int k h))
 (h0:0<=l) (h1:l<=h) (h2:h<=cap):(Instr.sliceBounds isSlice len cap lo hi (some (.int km h))).run P w=.ok (l.toNat,h.toNat,h.toNat) w:=by
 have eh:(h.toNat:Int)=h:=jW (by omega);unfold Instr.sliceBounds;have e0:(0:Int)<=h:=by omega
 rcases hl with⟨rfl,rfl⟩ | ⟨kl,rfl⟩<;>obtain⟨kh,rfl⟩:=hh<;>simp[run_sliceBound,h0,h1,h2,eh,e0]
theorem y4 (len cap:Nat) (lo hi:Option Value) (l h:Int) (hl:(lo=none/\l=0)∨∃ k,lo=some (.int k l)) (hh:(hi=none/\h=len)∨∃ k,hi=some (.int k h))
 (h0:0<=l) (h1:l<=h) (h2:h<=cap):(Instr.sliceBounds true len cap lo hi none).run P w=.ok (l.toNat,h.toNat,cap) w:=by
 have eh:(h.toNat:Int)=h:=jW (by omega);unfold Instr.sliceBounds;have e0:(0:Int)<=h:=by omega
 rcases hl with⟨rfl,rfl⟩ | ⟨kl,rfl⟩<;>rcases hh with⟨rfl,rfl⟩ | ⟨kh,rfl⟩<;>
  simp[run_sliceBound,h0,h1,h2,eh,e0]
theorem y5 (len cap:Nat) (lo hi:Option Value) (l h m:Int) (km:IntKind) (hl:(lo=none/\l=0)∨∃ k,lo=some (.int k l)) (hh:∃ k,hi=some (.int k h))
 (h0:0<=l) (h1:l<=h) (h2:h<=m) (h3:m<=cap):(Instr.sliceBounds true len cap lo hi (some (.int km m))).run P w=.ok (l.toNat,h.toNat,m.toNat) w:=by
 have eh:(h.toNat:Int)=h:=jW (by omega);have em:(m.toNat:Int)=m:=jW (by omega);unfold Instr.sliceBounds;have e0:(0:Int)<=h:=by omega
 have e2:(0:Int)<=m:=by omega
 rcases hl with⟨rfl,rfl⟩ | ⟨kl,rfl⟩<;>obtain⟨kh,rfl⟩:=hh<;>
  simp[run_sliceBound,h0,h1,h2,h3,eh,em,e0,e2]
theorem kZ (hst:St G n I0 M w0 I β ob s a w) {d:Int} {lo:Option Operand} {l:Int} (h:ic d (lo.map (ev G s))=some l):(lo.map a.eval=none/\l=d)∨∃ k,lo.map a.eval=some (.int k l):=by
 cases lo with
 |none=>simp[ic] at h;exact .inl ⟨rfl,h.symm⟩
 |some x=>
  have hx:=bM hst x;simp only[bQ,ic] at h;split at h
  .cases ‹some _=none›
  .rename_i k m he
   simp only[ap] at he h;subst h;rw[he] at hx;exact .inr ⟨k,by rw[bQ,hx.lit]⟩
  .cases h
theorem pm {sz:Nat}:∀ (m:Nat) (cs:List C) (i:Nat),i<m->(ma sz m cs)[i]?=some ((cs.drop (i*sz)).take sz)
 |0,_,i,h=>by omega
 |m+1,cs,0,_=>by simp[ma]
 |m+1,cs,i+1,h=>by simp only[ma,cU];rw[pm m _ i (by omega),fS];congr 3;rw[dX];omega
theorem qA {sz:Nat}:∀ (m:Nat) (cs:List C),(ma sz m cs).length=m
 |0,_=>rfl
 |m+1,cs=>by simp[ma,qA m]
theorem EE (hst:St G n I0 M w0 I β ob s a w) {i off len cap sz:Nat} {c:C} {v:Value} (h:mi s i off len sz=some c)
 (hx:len<=cap/\∃ blk off' cap',cap<=cap'/\β i=some blk/\(cap'=0∨off'=off)/\v=.slice (some ⟨blk,off',none⟩) len cap') :
 ∃ (es:List (List C)) (blk off' cap':Nat) (f:Nat->Nat->Value),c=.sl es/\v=.slice (some ⟨blk,off',none⟩) es.length cap'/\es.length<=cap'/\β i=some blk/\(∀ e∈es,e.length=sz)/\
  (∀ p q,p<es.length->q<sz->w.cell? ⟨blk,off'+p*sz+q,none⟩=some (f p q))/\(∀ p q e c,es[p]?=some e->e[q]?=some c->CR I w (f p q) c):=by
 unfold mi at h;split at h
 .rename_i cs ju
  split at h
  .rename_i xN
   simp only[ap] at h;obtain⟨lv,blk,off',cap',GL,e1,oD,rfl⟩:=hx;unfold zP at ju;split at ju
   .rename_i hi
    obtain⟨sj,cur,q1,q2,q3,q4,q5,q7⟩:=hst.bx i hi;obtain⟨T,q3,q6⟩:=q3.cells (yY ju);rw[e1] at q1;cases q1;have cH:cs.length=(s.bx i).length:=List.mapM_eq_some_length ju;have hl:=qA (sz:=sz) len (cs.drop off);refine⟨_,blk,off',cap',λp q=>cur.getD (off+p*sz+q) undef,h.symm,by rw[hl],by rw[hl];omega,e1,λe he=>?_,λp q hp hq=>?_,λp q e c' he hc=>?_⟩
    .obtain⟨p,hp,rfl⟩:=iq.1 he
     have:=pm (sz:=sz) len (cs.drop off) p (by omega);rw[ak hp] at this;simp only[ap] at this;rw[this];have hm':(p+1)*sz<=len*sz:=bf _ (by omega);rw[dX] at hm';simp;omega
    .rw[hl] at hp
     have hm':(p+1)*sz<=len*sz:=bf _ (by omega);rw[dX] at hm';have:off'=off:=by rcases oD with h0 | h0;omega;exact h0
     subst this;have bF:off'+p*sz+q<cur.size:=(by omega);rw[jd w blk _ cur T.t T.fz q3];simp[aF bF]
    .have hp:p<len:=by have:=(am.1 he).1;omega
     rw[pm len _ p hp] at he;simp only[ap] at he;subst he;rw[cN] at hc;split at hc
     .rw[cn,cn] at hc
      obtain⟨vv,sX,hvc⟩:=List.mapM_eq_some_get ju _ c' hc;have iR:=q5 (off+(p*sz+q));have:(s.bx i).getD (off+(p*sz+q)) .un=vv:=(by simp[List.getD,sX]);rw[this,<- dw] at iR;cases vv<;>simp only[V.asC] at hvc<;>try cases hvc
      .exact iR.toC
      .exact iR.1
     .cases hc
   .cases ju
  .cases h
 .cases h
theorem W1 (hst:St G n I0 M w0 I β ob s a w) {i off len cap sz:Nat} {c:C} {v:Value} (h:mi s i off len sz=some c)
 (hx:len<=cap/\∃ blk off' cap',cap<=cap'/\β i=some blk/\(cap'=0∨off'=off)/\v=.slice (some ⟨blk,off',none⟩) len cap'):∃ es,c=.sl es/\RD I w v es:=by
 obtain⟨es,blk,off',cap',f,rfl,rfl,h2,h3,h4,h5,h6⟩:=EE hst h hx;exact⟨es,rfl,.inr ⟨blk,off',cap',sz,f,rfl,h2,h4,h5,h6⟩⟩
theorem EF (hst:St G n I0 M w0 I β ob s a w) {i off len cap sz:Nat} {c:C} {v:Value} (h:mi s i off len sz=some c)
 (hx:len<=cap/\∃ blk off' cap',cap<=cap'/\β i=some blk/\(cap'=0∨off'=off)/\v=.slice (some ⟨blk,off',none⟩) len cap') {Ic:Ft} (sM:∀ b o,I b o->Ic b o) (hb:∀ b o,β i=some b->Ic b o):CR Ic w v c:=by
 obtain⟨es,blk,off',cap',f,rfl,rfl,h2,h3,h4,h5,h6⟩:=EE hst h hx;exact .sl blk off' cap' sz es f h2 h4 (λp q hp hq=>⟨h5 p q hp hq,hb blk _ h3⟩) (λp q e c he hc=>(h6 p q e c he hc).mono λb o h=>⟨sM b o h,rfl⟩)
theorem EG {T:TypeId} {lo hi mx:Option Operand} {vx:Value} {ox:Option Nat} (hst:St G n I0 M w0 I β ob s a w) (h:ig P T x (lo.map (ev G s)) (hi.map (ev G s)) (mx.map (ev G s)) K) (hx:LR (Wr M w0) I β w ox vx x) :
 ∃ z u,K z/\LR (Wr M w0) I β w none u z/\(Instr.sliceAt T vx (lo.map a.eval) (hi.map a.eval) (mx.map a.eval)).run P w=.ok u w:=by
 unfold ig at h;split at h
 .rename_i st sS
  obtain⟨j,d,h1,h2,h3,_⟩:=bL sS;have hd:=pf h3;subst hd;rw[hx.lit];split at h
  .rename_i l hh hl L6 hm
   obtain⟨⟨h0,QE,QT⟩,h⟩:=h;have hmx:mx.map a.eval=none:=(by cases mx<;>simp_all);refine⟨_,_,h,.ofLit rfl,?_⟩;unfold Instr.sliceAt;simp only[aP,aV h2,aD];unfold Instr.slice;simp only[aP,aV h2,aD,hmx];simp[rz (P:=P) (w:=w) false st.size st.size _ _ l hh (kZ hst hl) (kZ hst L6) h0 QE QT (ai _)]
  .exact h.elim
 .rename_i e _ _ _ _ _ _ es sS
  obtain⟨j,d,h1,h2,h3,_⟩:=bL sS;have hd:=dW h3;subst hd;have ka:=hx.toC;split at h
  .rename_i hm
   split at h
   case h_2=>exact h.elim
   rename_i ie l hh uS hl L6;obtain⟨j',d',kr,pY,_,fB,_⟩:=bL uS;obtain⟨⟨h0,QE,QT,hs⟩,h⟩:=h;have hmx:mx.map a.eval=none:=(by cases mx<;>simp_all);have hb:=λcap hc=>rz (P:=P) (w:=w) true es.length cap _ _ l hh (kZ hst hl) (kZ hst L6) h0 QE QT hc;have iU:=fk (P:=P) w kr;rcases ka.sl_inv with⟨⟨xa,xc,hv,Ay⟩,rfl⟩ | ⟨b,off,cap,sz,f,hv,lv,_⟩
   .simp only[aL] at QT
    have:l=0/\hh=0:=(by omega);obtain⟨rfl,rfl⟩:=this;refine⟨_,.slice xa 0 xc,h,.ofC (by simpa using CR.nil xa xc Ay),?_⟩;subst hv;unfold Instr.sliceAt;simp only[aP,aV h2,aD];unfold Instr.slice;simp only[aP,aV h2,aD,hmx];have:=hb xc (by simp);simp only[aL] at this;cases xa with
    |none=>obtain rfl:=Ay rfl;simp[this,iU]
    |some xa=>simp[this,iU,Addr.add]
   .subst hv
    refine⟨_,.slice (some (if cap=l.toNat then⟨b,off,none⟩ else⟨b,off+l.toNat*ie.size,none⟩)) (hh.toNat - l.toNat) (cap - l.toNat),h,.ofC ?_,?_⟩
    .split
     .rename_i nr
      have:(es.take hh.toNat).drop l.toNat=([]:List (List C)):=cQ (by simp;omega);rw[this];have e1:hh.toNat - l.toNat=0:=(by omega);have e2:cap - l.toNat=0:=(by omega);rw[e1,e2];exact .sl b off 0 0 [] (λ_ _=>undef) (ai _) (by simp) (by simp) (by simp)
     .exact ka.subslice hs (by omega) (by omega) (by omega)
    .unfold Instr.sliceAt
     simp only[aP,aV h2,aD];unfold Instr.slice;simp only[aP,aV h2,aD,hmx,hb cap lv,iU,bB,eI kr,<- fB];split<;>simp_all[dm]
  .rename_i km mm hm
   split at h
   .rename_i ie l khh hh uS hl L6
    obtain⟨j',d',kr,pY,_,fB,_⟩:=bL uS;obtain⟨⟨h0,QE,QT,rfl,hs⟩,h⟩:=h;obtain⟨km',hmx⟩:∃ k,mx.map a.eval=some (.int k mm):=by
     rcases mx with _ | X
     .simp at hm
     .have hX:=bM hst X
      simp only[bQ,ap] at hm;rw[hm] at hX;exact⟨km,by rw[bQ,hX.lit]⟩
    have ZY:∃ k,hi.map a.eval=some (.int k mm):=by
     rcases hi with _ | X
     .simp at L6
     .have hX:=bM hst X
      simp only[bQ,ap] at L6;rw[L6] at hX;exact⟨khh,by rw[bQ,hX.lit]⟩
    have hb:=λcap hc=>G5 (P:=P) (w:=w) true es.length cap _ _ l mm km' (kZ hst hl) ZY h0 QE hc;have iU:=fk (P:=P) w kr;rcases ka.sl_inv with⟨⟨xa,xc,hv,Ay⟩,rfl⟩ | ⟨b,off,cap,sz,f,hv,lv,_⟩
    .simp only[aL] at QT
     have:l=0/\mm=0:=(by omega);obtain⟨rfl,rfl⟩:=this;refine⟨_,.slice xa 0 0,h,⟨by simpa using CR.nil xa 0 (λ_=>rfl),.inl ⟨rfl,rfl,xa,by simp⟩⟩,?_⟩;subst hv;unfold Instr.sliceAt;simp only[aP,aV h2,aD];unfold Instr.slice;simp only[aP,aV h2,aD,hmx];have:=hb xc (by simp);simp only[aL] at this;cases xa with
     |none=>obtain rfl:=Ay rfl;simp[this,iU]
     |some xa=>simp[this,iU,Addr.add]
    .subst hv
     have cH:((es.take mm.toNat).drop l.toNat).length=mm.toNat - l.toNat:=(by simp;omega);refine⟨_,.slice (some (if mm.toNat=l.toNat then⟨b,off,none⟩ else⟨b,off+l.toNat*ie.size,none⟩)) (mm.toNat - l.toNat) (mm.toNat - l.toNat),h,⟨?_,.inl ⟨rfl,rfl,_,by rw[cH]⟩⟩,?_⟩
     .split
      .rename_i nr
       have:(es.take mm.toNat).drop l.toNat=([]:List (List C)):=cQ (by simp;omega);rw[this];have e1:mm.toNat - l.toNat=0:=(by omega);rw[e1];exact .sl b off 0 0 [] (λ_ _=>undef) (ai _) (by simp) (by simp) (by simp)
      .exact ka.subslice hs (by omega) (by omega) (by omega)
     .unfold Instr.sliceAt
      simp only[aP,aV h2,aD];unfold Instr.slice;simp only[aP,aV h2,aD,hmx,hb cap (by omega),iU,bB,eI kr,<- fB];split<;>simp_all[dm]
   .exact h.elim
  .exact h.elim
 .rename_i e _ _ _ _ _ _ b off len cap sz sS
  obtain⟨j,d,h1,h2,h3,_⟩:=bL sS;have hd:=dW h3;subst hd;split at h
  .rename_i ie l hh mm uS hl L6 hmm
   obtain⟨j',d',kr,pY,_,fB,_⟩:=bL uS;obtain⟨⟨ej,h0,QE,QT,h03,h04⟩,h⟩:=h;simp only[LR] at hx;obtain⟨lv,blk,off',cap',GL,e1,oD,rfl⟩:=hx;have iU:=fk (P:=P) w kr;have hb:∃ M:Nat,mm<=(M:Int)/\M<=cap'/\(Instr.sliceBounds true len cap' (lo.map a.eval) (hi.map a.eval) (mx.map a.eval)).run P w=.ok (l.toNat,hh.toNat,M) w:=by
    rcases kZ hst hmm with⟨e,rfl⟩ | ⟨km,e⟩
    .refine⟨cap',by omega,ai _,?_⟩
     rw[e];have:=y4 (P:=P) (w:=w) len cap' _ _ l hh (kZ hst hl) (kZ hst L6) h0 QE (by omega);simpa using this
    .refine⟨mm.toNat,by omega,by omega,?_⟩
     rw[e];have ZY:∃ k,hi.map a.eval=some (.int k hh):=by
      rcases kZ hst L6 with⟨e5,_⟩ | h5
      .cases mx with
       |none=>cases e
       |some X=>have:=h04 rfl;cases hi<;>simp_all
      .exact h5
     exact y5 (P:=P) (w:=w) len cap' _ _ l hh mm km (kZ hst hl) ZY h0 QE QT (by omega)
   obtain⟨M,hM1,hM2,hb⟩:=hb;refine⟨_,.slice (some (if M=l.toNat then⟨blk,off',none⟩ else⟨blk,off'+l.toNat*ie.size,none⟩)) (hh.toNat - l.toNat) (M - l.toNat),h,?_,?_⟩
   .simp only[LR]
    split
    .exact⟨by omega,blk,off',M - l.toNat,by omega,e1,.inl (by omega),rfl⟩
    .have:off'=off:=by rcases oD with h4 | h4;omega;exact h4
     exact⟨by omega,blk,_,M - l.toNat,by omega,e1,.inr (by rw[this,ej]),rfl⟩
   .unfold Instr.sliceAt
    simp only[aP,aV h2,aD];unfold Instr.slice;simp only[aP,aV h2,aD,hb,iU,bB,eI kr,<- fB];split<;>simp_all[dm]
  .exact h.elim
 .rename_i e _ _ _ _ _ _ blk off len cap sS
  obtain⟨j,d,h1,h2,h3,_⟩:=bL sS;have hd:=dW h3;subst hd;split at h
  .rename_i ie l hh mm uS hl L6 hmm
   obtain⟨j',d',kr,pY,_,fB,_⟩:=bL uS;obtain⟨⟨h0,QE,QT,h03,h04⟩,h⟩:=h;obtain rfl:=hx.toC.ex_inv;have iU:=fk (P:=P) w kr;have hb:(Instr.sliceBounds true len cap (lo.map a.eval) (hi.map a.eval) (mx.map a.eval)).run P w=.ok (l.toNat,hh.toNat,mm.toNat) w:=by
    rcases kZ hst hmm with⟨e,rfl⟩ | ⟨km,e⟩
    .rw[e]
     have:=y4 (P:=P) (w:=w) len cap _ _ l hh (kZ hst hl) (kZ hst L6) h0 QE (by omega);simpa using this
    .rw[e]
     have ZY:∃ k,hi.map a.eval=some (.int k hh):=by
      rcases kZ hst L6 with⟨e5,_⟩ | h5
      .cases mx with
       |none=>cases e
       |some X=>have:=h04 rfl;cases hi<;>simp_all
      .exact h5
     exact y5 (P:=P) (w:=w) len cap _ _ l hh mm km (kZ hst hl) ZY h0 QE QT (by omega)
   refine⟨_,_,h,.ofC (.ex _ rfl rfl),?_⟩;unfold Instr.sliceAt;simp only[aP,aV h2,aD];unfold Instr.slice;simp only[aP,aV h2,aD,hb,iU,bB,eI kr,<- fB];split<;>simp_all[dm]
  .exact h.elim
 .rename_i m e _ _ _ _ _ _ cs k sS
  obtain⟨j,d,h1,h2,h3,_⟩:=bL sS;have hd:=pg h3;subst hd;obtain⟨b,off,f,rfl,eE,pQ⟩:=hx.toC.rp_inv;split at h
  .rename_i ie uS hl hh hm
   obtain⟨j',d',kr,pY,_,fB,_⟩:=bL uS;obtain⟨fO,h⟩:=h;have e1:lo.map a.eval=none:=(by cases lo<;>simp_all);have e2:hi.map a.eval=none:=(by cases hi<;>simp_all);have e3:mx.map a.eval=none:=(by cases mx<;>simp_all);have iU:=fk (P:=P) w kr;refine⟨_,.slice (some ⟨b,off+k,none⟩) m m,h,.ofC ?_,?_⟩
   .have nr:=qA (sz:=ie.size) m (cs.drop k)
    have aer:∀ i q,i<m->q<ie.size->k+i*ie.size+q<cs.length:=λi q hi hq=>by have:(i+1)*ie.size<=m*ie.size:=bf _ hi;rw[dX] at this;omega
    have jL:∀ x∈ma ie.size m (cs.drop k),x.length=ie.size:=λx hx=>by obtain⟨i,hi,he⟩:=iq.1 hx;have:=pm (sz:=ie.size) m (cs.drop k) i (by omega);rw[ak hi] at this;simp only[ap] at this;rw[<- he,this];have hm':(i+1)*ie.size<=m*ie.size:=bf _ (by omega);rw[dX] at hm';simp;omega
    have:=CR.sl (I:=I) (w:=w) b (off+k) m ie.size (ma ie.size m (cs.drop k)) (λi q=>f (k+i*ie.size+q)) (by omega) jL
     (λi q hi hq=>by have:=eE (k+i*ie.size+q) (aer i q (by omega) hq);rw[show off+k+i*ie.size+q=off+(k+i*ie.size+q) by omega];exact this)
     (λi q e c he hc=>by
      have hi:i<m:=(by have:=(am.1 he).1;omega);rw[pm m _ i hi] at he;simp only[ap] at he;subst he;rw[cN] at hc;split at hc
      .rw[cn,cn] at hc
       exact pQ _ c (by rw[dw];exact hc)
      .cases hc)
    rw[nr] at this;exact this
   .unfold Instr.sliceAt
    simp only[aP,aV h2,aD,Instr.sureAddr,bB,e1,e2,e3];have:=rz (P:=P) (w:=w) false m m none none 0 m (.inl ⟨rfl,rfl⟩) (.inl ⟨rfl,rfl⟩) (mG _) (by omega) (mG _) (ai _);simp only[this,aD,iU,aP,bB];simp[dm]
  .exact h.elim
 .rename_i m e _ _ _ _ _ _ b k sS
  obtain⟨j,d,h1,h2,h3,_⟩:=bL sS;have hd:=pg h3;subst hd;simp only[LR] at hx;obtain⟨blk,hβ,rfl⟩:=hx;split at h
  .rename_i ie l hh uS hl L6 hm
   obtain⟨j',d',kr,pY,_,fB,_⟩:=bL uS;obtain⟨⟨h0,QE,QT⟩,h⟩:=h;have e3:mx.map a.eval=none:=(by cases mx<;>simp_all);have iU:=fk (P:=P) w kr;have hb:=rz (P:=P) (w:=w) false m m _ _ l hh (kZ hst hl) (kZ hst L6) h0 QE QT (ai _);refine⟨_,.slice (some (if m=l.toNat then⟨blk,k,none⟩ else⟨blk,k+l.toNat*ie.size,none⟩)) (hh.toNat - l.toNat) (m - l.toNat),h,?_,?_⟩
   .simp only[LR]
    refine⟨by omega,?_⟩;split
    .exact⟨blk,k,_,ai _,hβ,.inl (by omega),rfl⟩
    .exact⟨blk,_,_,ai _,hβ,.inr rfl,rfl⟩
   .unfold Instr.sliceAt
    simp only[aP,aV h2,aD,Instr.sureAddr,bB,e3];simp only[hb,aD,iU,aP,bB,eI kr,<- fB];split<;>simp_all[dm]
  .exact h.elim
 .exact h.elim
end
section
variable {P:Program} {G:Gl} {tr:List Nat} {n:Nat} {I0:Ft} {M:Mx} {w0:World} {I:Ft} {β:Nat->Option Nat} {ob:Loc->Option Nat} {s:S} {a:Act} {w:World} {o:Oper}
 {next:Act->World->Prop} {Q:Exit->Act->World->Prop} {base:Nat->Prop} {v:Value} {x y:V} {K:V->Prop}
theorem wv:∀ (es:List (List C)) (l:List UInt8),wn es=some l->es.length=l.length/\
 ∃ ns:List Int,ns.length=l.length/\l=ns.map (λm=>UInt8.ofNat m.toNat)/\∀ (i:Nat) (m:Int),ns[i]?=some m->es[i]?=some [.lit (.int .u8 m)]
 |[],l,h=>by simp only[wn,ap] at h;subst h;exact⟨rfl,[],rfl,rfl,by simp⟩
 |e::es,l,h=>by
  unfold wn at h;split at h
  .cases ‹_::_=[]›
  .rename_i m r he
   cases he;simp only[aZ] at h;obtain⟨l',h1,rfl⟩:=h;obtain⟨h2,ns,h3,h4,h5⟩:=wv _ _ h1;refine⟨by simp[h2],m::ns,by simp[h3],by simp[h4],λi q hq=>?_⟩;cases i with
   |zero=>simp at hq;subst hq;rfl
   |succ i=>exact h5 i q (by simpa using hq)
  .cases h
theorem sy:∀ (ns:List Int) (r:ByteArray),ns.foldl (λr m=>r.push (UInt8.ofNat m.toNat)) r=⟨r.data++(ns.map λm=>UInt8.ofNat m.toNat).toArray⟩
 |[],r=>by simp
 |m::ns,r=>by simp only[fY];rw[sy ns];simp[ByteArray.push]
theorem G6 {src dst:TypeId} {vx:Value} (hst:St G n I0 M w0 I β ob s a w) (hd:∀ d,o.dst=some d->d<n) (h:oK P src dst x K) (hx:(∃ ox,LR (Wr M w0) I β w ox vx x)∨∃ es,x=.c (.sl es)/\RD I w vx es) :
 ∃ z u w',K z/\(convert src dst vx).run P w=.ok u w'/\SE G n I0 M w0 (s.after tr o z) (a.put o.dst u) w':=by
 unfold oK at h;split at h
 .rename_i i k _ _ _ _ _ _ k' m hi sS
  obtain⟨j,d,_,h2,_⟩:=bL hi;obtain⟨j',d',_,pY,h3',_⟩:=bL sS;have sd:=AH h3';subst sd;obtain⟨ox,hx⟩:∃ ox,LR (Wr M w0) I β w ox vx _:=by
   rcases hx with hx | ⟨es,e,_⟩
   .exact hx
   .cases e
  rw[hx.lit];refine⟨_,_,w,h,?_,.fin0 hst hd (.ofLit rfl)⟩;simp[convert,aV h2,aV pY,Conv.intToInt]
 .rename_i i _ _ _ _ _ _ st hi sS
  obtain⟨j,d,_,h2,_⟩:=bL hi;obtain⟨j',d',_,pY,h3',_⟩:=bL sS;have sd:=pf h3';subst sd;obtain⟨ox,hx⟩:∃ ox,LR (Wr M w0) I β w ox vx _:=by
   rcases hx with hx | ⟨es,e,_⟩
   .exact hx
   .cases e
  rw[hx.lit];refine⟨_,_,w,h,?_,.fin0 hst hd (.ofLit rfl)⟩;simp[convert,aV h2,aV pY]
 .rename_i _ _ _ _ _ _ e _ _ _ _ _ _ st hi sS
  obtain⟨j,d,_,h2,h3,_⟩:=bL hi;obtain⟨j',d',_,pY,h3',_⟩:=bL sS;have sd:=dW h3';subst sd;have ZZ:=pf h3;subst ZZ;split at h
  .rename_i _ _ _ _ _ _ uS
   obtain⟨je,de,_,h2e,h3e,_⟩:=bL uS;have hde:=AH h3e;subst hde;obtain⟨ox,hx⟩:∃ ox,LR (Wr M w0) I β w ox vx _:=by
    rcases hx with hx | ⟨es,e,_⟩
    .exact hx
    .cases e
   rw[hx.lit];have pP:=(hst.drew).alloc (.cells (bytesRow st (grownCap w st.size 0 e)) e ((bytesRow st (grownCap w st.size 0 e)).size,(bytesRow st (grownCap w st.size 0 e)).size+1));have bO:=run_bytes_of_string (P:=P) w src dst e st h2 pY h2e;refine⟨_,_,_,h,bO,.fin0 pP hd (.ofC ?_)⟩;have cH:(oN st).length=st.size:=(by simp[oN]);rw[show Value.slice (some ⟨w.heap.size,0,none⟩) st.size (grownCap w st.size 0 e)=.slice (some ⟨w.heap.size,0,none⟩) (oN st).length (grownCap w st.size 0 e) by rw[cH]];refine CR.row (sz:=1) (iw w.drew _) (by rw[cH];exact grownCap_ge w _ _ _) (by simp[oN]) (λq c hq=>?_) (λq _=>.inr rfl);have hq':q<st.size/\c=.lit (.int .u8 (st.data.toList.getD q 0).toNat):=by
    have:=mj (sz:=1) (oN st) (by simp[oN]) q 0 (by omega);rw[Nat.mul_one,en] at this;rw[this] at hq;simp only[oN,bw] at hq;cases hb:st.data.toList[q]? with
    |none=>simp[hb] at hq
    |some b=>simp only[hb,bQ,gi,bJ,ap] at hq;have bF:=(am.1 hb).1;exact⟨by simpa using bF,by rw[<- hq];simp[List.getD,hb]⟩
   obtain⟨qq,rfl⟩:=hq';have aey:q<st.data.size:=qq;have ej:q<(bytesRow st (grownCap w st.size 0 e)).size:=(by simp[bytesRow];omega);refine⟨ej,?_⟩;have:(bytesRow st (grownCap w st.size 0 e)).getD q undef=.int .u8 (st.data.toList.getD q 0).toNat:=(by unfold bytesRow;rw[au,ee (by simpa using aey),Array.getElem?_map,aF aey];have:st.data.toList.getD q 0=st.data[q]:=(by rw[aG,aY,aF aey];rfl);rw[this];rfl);rw[this];exact .lit _ rfl
  .exact h.elim
 .rename_i e _ _ _ _ _ _ _ _ _ _ _ _ es hi sS
  obtain⟨j,d,_,h2,h3,_⟩:=bL hi;obtain⟨j',d',_,pY,h3',_⟩:=bL sS;have sd:=pf h3';subst sd;have ZZ:=dW h3;subst ZZ;split at h
  .rename_i _ _ _ _ _ _ uS
   obtain⟨je,de,_,h2e,h3e,_⟩:=bL uS;have hde:=AH h3e;subst hde;split at h
   .rename_i l hl
    obtain⟨cH,ns,yR,rfl,hns⟩:=wv _ _ hl;have ka:RD I w vx es:=by
     rcases hx with⟨ox,hx⟩ | ⟨es',e,L9⟩
     .exact .ofCR hx.toC
     .cases e;exact L9
    refine⟨_,_,w,h,?_,.fin0 hst hd (.ofLit rfl)⟩;rcases ka with⟨⟨xa,xc,hv,Ay⟩,rfl⟩ | ⟨b,off,cap,sz,f,hv,lv,hs,eE,pQ⟩
    .subst hv
     have:ns=[]:=cQ (by simp at cH;omega);subst this;rw[run_convert_bytes_string w src dst e xa 0 xc h2 h2e pY];cases xa<;>rfl
    .subst hv
     rw[run_convert_bytes_string w src dst e _ _ _ h2 h2e pY,run_bytesToString w ⟨b,off,none⟩ es.length cap ns ?_,sy]
     .simp
     .have dC:∀ e∈es,e.length=1:=by intro e he;obtain⟨i,hi⟩:=List.mem_iff_getElem?.1 he;have bF:=(am.1 hi).1;have:ns[i]?=some ns[i]:=ak (by simp at cH;omega);rw[hns i _ this] at hi;cases hi;rfl
      have hfv:∀ i,i<es.length->w.cell? ⟨b,off+i,none⟩=some (.int .u8 (ns.getD i 0)):=(by intro i hi;have hn:ns[i]?=some ns[i]:=ak (by simp at cH;omega);have he:=hns i _ hn;have ej:sz=1:=(by rw[<- hs _ (bn he)];rfl);subst ej;have h1:=eE i 0 hi (by omega);have h2:=pQ i 0 _ _ he rfl;have h3:f i 0=.int .u8 ns[i]:=h2.lit_eq;rw[Nat.mul_one,en,h3] at h1;rw[h1];simp[List.getD,hn]);rw[run_loadCells w ⟨b,off,none⟩ es.length (λi=>.int .u8 (ns.getD i 0)) (λi hi=>by rw[dm];exact hfv i hi)];congr 2;apply iL;intro i;by_cases hi:i<ns.length
      .have:i<es.length:=by simp at cH;omega
       simp[hi,this]
      .have:¬ i<es.length:=by simp at cH;omega
       simp[hi,this]
   .exact h.elim
  .exact h.elim
 .exact h.elim
end
section
variable {P:Program} {G:Gl} {tr:List Nat} {n:Nat} {I0:Ft} {M:Mx} {w0:World} {I:Ft} {β:Nat->Option Nat} {ob:Loc->Option Nat} {s:S} {a:Act} {w:World} {o:Oper}
 {next:Act->World->Prop} {Q:Exit->Act->World->Prop} {base:Nat->Prop} {v:Value} {x y:V} {K:V->Prop}
def ArgsR (I:Ft) (w:World) (vs:List Value) (xs:List V):Prop:=vs.length=xs.length/\∀ (j:Nat) (x:V),xs[j]?=some x->DR I w (vs.getD j undef) x
theorem ArgsR.nil:ArgsR I w [] []:=⟨rfl,by simp⟩
theorem ArgsR.append {vs us:List Value} {xs ys:List V} (h:ArgsR I w vs xs) (h':ArgsR I w us ys):ArgsR I w (vs++us) (xs++ys):=by
 refine⟨by simp[h.1,h'.1],λj x hx=>?_⟩;have hl:=h.1;by_cases hj:j<xs.length
 .rw[aM hj] at hx
  have:=h.2 j x hx;rw[aG,aM (by omega)];rw[aG] at this;exact this
 .rw[aU (by omega)] at hx
  have:=h'.2 _ x hx;rw[aG,aU (by omega),hl];rw[aG] at this;exact this
theorem Ms (hst:St G n I0 M w0 I β ob s a w) {i off blk:Nat} {cs:List C} (h:zP s i=some cs) (hβ:β i=some blk) {Ic:Ft} (sM:∀ b o,I b o->Ic b o) (hb:∀ o,Ic blk o) :
 CR Ic w (.pointer (some ⟨blk,off,none⟩)) (.rp cs off):=by
 unfold zP at h;split at h
 .rename_i hi
  obtain⟨sj,cur,e1,e2,e3,e4,e5,e7⟩:=hst.bx i hi;obtain⟨T,e3,e6⟩:=e3.cells (yY h);rw[hβ] at e1;cases e1;have cH:cs.length=(s.bx i).length:=List.mapM_eq_some_length h;have:=CR.rp (I:=Ic) (w:=w) blk 0 off cs (λj=>cur.getD j undef) (λj hj=>by
   have hjc:j<cur.size:=(by omega);rw[ao];refine⟨?_,hb j⟩;rw[jd w blk j cur T.t T.fz e3];simp[aF hjc]) (λj c hc=>by
   obtain⟨vv,sX,hvc⟩:=List.mapM_eq_some_get h j c hc;have iR:=e5 j;have:(s.bx i).getD j .un=vv:=(by simp[List.getD,sX]);rw[this] at iR;cases vv<;>simp only[V.asC] at hvc<;>try cases hvc
   .exact iR.toC.mono λb o h=>⟨sM b o h,rfl⟩
   .exact iR.1.mono λb o h=>⟨sM b o h,rfl⟩)
  rw[ao] at this;exact this
 .cases h
theorem EH (hst:St G n I0 M w0 I β ob s a w) {c:C} (hx:PR I β w v x) (h:vB s x=some c) {Ic:Ft} (sM:∀ b o,I b o->Ic b o)
 (hb:x.isBp=true->∀ i b o,β i=some b->Ic b o):CR Ic w v c:=by
 cases x<;>simp only[PR] at hx<;>simp only[vB] at h
 .cases h;exact hx.mono λb o h=>⟨sM b o h,rfl⟩
 .cases h;exact hx.2.1.mono λb o h=>⟨sM b o h,rfl⟩
 .obtain⟨blk,e1,rfl⟩:=hx
  simp only[aZ] at h;obtain⟨cs,h1,rfl⟩:=h;exact Ms hst h1 e1 sM (λo=>hb rfl _ _ o e1)
 .exact EF hst h hx sM (λb o e=>hb rfl _ b o e)
 .cases h
 .cases h
 .cases h
theorem AM (hst:St G n I0 M w0 I β ob s a w) {ox:Option Nat} (hx:LR base I β w ox v x) (h:imm s x=some y) {Ic:Ft} (sM:∀ b o,I b o->Ic b o)
 (hb:x.boxy=true->∀ i b o,β i=some b->Ic b o):DR Ic w v y:=by
 cases x<;>simp only[imm] at h<;>try cases h
 .exact .c _ _ (hx.toC.mono λb o h=>⟨sM b o h,rfl⟩)
 .obtain⟨vs,rfl,h1,h2⟩:=hx.agg
  exact .agg vs _ h1 λj c hc=>(h2 j c hc).mono λb o h=>⟨sM b o h,rfl⟩
 .exact .c _ _ (hx.1.mono λb o h=>⟨sM b o h,rfl⟩)
 .simp only[LR] at hx
  obtain⟨blk,e1,rfl⟩:=hx;simp only[aZ] at h;obtain⟨cs,h1,rfl⟩:=h;exact .c _ _ (Ms hst h1 e1 sM (λo=>hb rfl _ _ o e1))
 .rename_i f fs cs
  simp only[LR] at hx;obtain⟨vf,vc,rfl,h1,h2,h3,h4⟩:=hx;split at h
  .rename_i fs' cs' e1 e2
   cases h;have l1:=List.mapM_eq_some_length e1;have l2:=List.mapM_eq_some_length e2;have hbf:∀ z∈fs,z.isBp=true->∀ i b o,β i=some b->Ic b o:=λz hz hzb=>
    hb (by simp only[V.boxy,dS,dN];exact .inl ⟨z,hz,hzb⟩)
   have hbc:∀ z∈cs,z.isBp=true->∀ i b o,β i=some b->Ic b o:=λz hz hzb=>
    hb (by simp only[V.boxy,dS,dN];exact .inr ⟨z,hz,hzb⟩)
   refine .c _ _ (.fn f vf vc fs' cs' (by omega) (by omega) (λj c hc=>?_) (λj c hc=>?_))
   .obtain⟨z,hz,uh⟩:=List.mapM_eq_some_get e1 j c hc
    exact EH hst (h3 j z hz) uh sM (hbf z (bn hz))
   .obtain⟨z,hz,uh⟩:=List.mapM_eq_some_get e2 j c hc
    exact EH hst (h4 j z hz) uh sM (hbc z (bn hz))
  .cases h
 .simp only[LR] at hx
  simp only[aZ] at h;obtain⟨c,h1,rfl⟩:=h;exact .c _ _ (EF hst h1 hx sM (λb o e=>hb rfl _ b o e))
 .rename_i vs
  simp only[LR] at hx;obtain⟨cells,rfl,h2,h3⟩:=hx;simp only[aZ] at h;obtain⟨cs,h1,rfl⟩:=h;refine .agg _ _ (by rw[h2];exact(List.mapM_eq_some_length h1).symm) λj c hc=>?_;obtain⟨z,hz,uh⟩:=List.mapM_eq_some_get h1 j c hc;exact EH hst (h3 j z hz) uh sM (λhzb=>hb (by simp only[V.boxy,dN];exact⟨z,bn hz,hzb⟩))
theorem EI (hst:St G n I0 M w0 I β ob s a w) {Ic:Ft} (sM:∀ b o,I b o->Ic b o):∀ (l:List Operand) (ys:List V),(l.map (ev G s)).mapM (imm s)=some ys->
 ((l.map (ev G s)).any V.boxy=true->∀ i b o,β i=some b->Ic b o)->ArgsR Ic w (l.map a.eval) ys
 |[],ys,h,_=>by simp at h;subst h;exact .nil
 |x::l,ys,h,hb=>by
  simp only[aN,fR,bind,iM,pure,ap] at h;obtain⟨y,h1,ys',h2,rfl⟩:=h;have hd:=AM hst (bM hst x) h1 sM (λhx=>hb (by simp[hx]));have ih:=EI hst sM l ys' h2 (λhx=>hb (by simp only[aN,List.any_cons,hx,ky]));refine⟨by simp[ih.1],λj z hz=>?_⟩;cases j with
  |zero=>simp at hz;subst hz;exact hd
  |succ j=>simpa using ih.2 j z (by simpa using hz)
theorem ArgsR.ofC {I':Ft} (vs:Array Value) (cs:List C) (h:vs.size=cs.length) (hc:∀ j c,cs[j]?=some c->CR I' w (vs.getD j undef) c):ArgsR I' w vs.toList (cs.map .c):=by refine⟨by simp[h],λj x hx=>?_⟩;simp only[bw,aZ] at hx;obtain⟨c,h1,rfl⟩:=hx;have:=hc j c h1;rw[aG,aY];rw[au] at this;exact .c _ _ this
theorem Mt (hst:St G n I0 M w0 I β ob s a w) {Ic:Ft} (sM:∀ b o,I b o->Ic b o) (vs:Array Value) (xs ys:List V) (hl:vs.size=xs.length) (h:xs.mapM (imm s)=some ys)
 (hr:∀ j x,xs[j]?=some x->PR I β w (vs.getD j undef) x) (hb:xs.any V.boxy=true->∀ i b o,β i=some b->Ic b o):ArgsR Ic w vs.toList ys:=by
 refine⟨by have:=List.mapM_eq_some_length h;simp;omega,λj y hy=>?_⟩;obtain⟨x,hx,hxy⟩:=List.mapM_eq_some_get h j y hy;have hp:=hr j x hx;rw[aG,aY,<- au];have iR:LR (Wr M w0) I β w none (vs.getD j undef) x:=by
  cases x<;>simp only[PR] at hp<;>simp only[LR]
  .exact .c _ _ hp
  .exact⟨hp.2.1,.inl ⟨rfl,hp.1,hp.2.2⟩⟩
  .exact hp
  .exact hp
  .exact hp
  .exact hp
  .exact hp
 exact AM hst iR hxy sM (λwj=>hb (by simp only[dN];exact⟨x,bn hx,wj⟩))
theorem LR.flat {r:V} {ob':Option Nat} (hf:r.isFlat=true) (h:LR base I β w ob' v r) {I':Ft} {w':World} {base':Nat->Prop} {β':Nat->Option Nat}:LR base' I' β' w' none v r:=by
 have lits:∀ (cs:List C) (vs:Array Value),cs.all C.isLit=true->(∀ j c,cs[j]?=some c->CR I w (vs.getD j undef) c)->∀ j c,cs[j]?=some c->CR I' w' (vs.getD j undef) c:=by intro cs vs hc h j c hj;have h1:=h j c hj;have h2:=a8.1 hc c (bn hj);cases c<;>simp[C.isLit] at h2;obtain⟨h3,h4⟩:=h1.lit_inv;rw[h3];exact .lit _ h4
 cases r with
 |un=>simp only[LR];exact .un _
 |sk=>simp only[LR] at h ⊢;cases h;exact .sk
 |c c=>
  cases c<;>simp only[V.isFlat] at hf<;>try cases hf
  obtain⟨h3,h4⟩:=h.toC.lit_inv;rw[h3];exact .ofLit h4
 |agg cs=>obtain⟨vs,rfl,h1,h2⟩:=h.agg;simp only[LR];exact .agg vs _ h1 (lits _ vs hf h2)
 |tup ds=>
  simp only[LR] at h ⊢
  cases h with
  |tup vs _ h1 h2=>
   refine .tup vs ds h1 λj d hj=>?_;have h3:=h2 j d hj;have h4:=a8.1 hf d (bn hj);cases d with
   |c c=>
    cases c<;>simp only at h4<;>try cases h4
    generalize vs.getD j undef=vv at h3;cases h3 with
    |c _ _ h5=>obtain⟨h6,h7⟩:=h5.lit_inv;rw[h6];exact .c _ _ (.lit _ h7)
   |agg cs=>
    generalize vs.getD j undef=vv at h3;cases h3 with
    |agg us _ h5 h6=>exact .agg us _ h5 (lits _ us h4 h6)
   |_=>cases h4
 |ow=>cases hf
 |bp=>cases hf
 |clo=>cases hf
 |ms=>cases hf
 |mag=>cases hf
 |mr=>cases hf
 |mk=>cases hf
 |it=>cases hf
 |gh=>cases hf
 |yl=>cases hf
 |lp=>cases hf
 |hh=>cases hf
 |bm=>cases hf
 |gs=>cases hf
 |gg=>cases hf
theorem Mv (hst:St G n I0 M w0 I β ob s a w) (hd:∀ d,o.dst=some d->d<n) {f:FuncId} {vs:List Value} {xs:List V} {r:V} (dV:FnOK P G f xs r) (hr:K r)
 (boxy:Bool) (cP:∀ Ic:Ft,(∀ b o,I b o->Ic b o)->(boxy=true->∀ i b o,β i=some b->Ic b o)->ArgsR Ic w vs xs) (zM:boxy=true->r.isFlat=true)
 (bO:(execOp a.eval o).run P w=.ok (.enter f vs.toArray) w)
 (hk:∀ a' w' x,K x->SE G n I0 M w0 (s.after tr o x) a' w'->next a' w'):o.wp P a w next Q:=by
 unfold Oper.wp;rw[bO];simp only[Oper.upon];cases boxy with
 |false=>
  obtain⟨h1,h2⟩:=cP I (λ_ _ h=>h) (by simp);refine (dV.2 I w vs.toArray hst.ibnd hst.glob (by simpa using h1) (λj x hx=>by simpa using h2 j x hx)).mono ?_;rintro e w' ⟨v,I',rfl,hg,L8,JP,ob',iR,ji⟩;simp only;refine hk _ _ r hr ?_;have bP:=hst.grow hg L8 JP;refine .fin bP hd (o':=ob') ?_ λb hb=>?_
  .cases r<;>simp only[LR] at iR ⊢<;>try exact iR
   .obtain⟨h3,h4⟩:=iR
    refine⟨h3,?_⟩;rcases h4 with h4 | ⟨e,blk,cap,cur,sz,q1,q2,q3,q4,q5⟩
    .exact .inl h4
    .exact .inr ⟨e,blk,cap,cur,sz,q1,q2,q3,.inl (ci hst.below.size q4),q5⟩
   .obtain⟨_,h3,_⟩:=iR;cases h3
   rotate_left
   .obtain⟨_,_,_,_,_,h3,_⟩:=iR;cases h3
   .obtain⟨cs,q1,q2,q3⟩:=iR
    exact⟨cs,q1,q2,λj x hx=>(q3 j x hx).mono (λb o h=>⟨h,rfl⟩) (by simp)⟩
   .obtain⟨_,h3,_⟩:=iR;cases h3
   .obtain⟨_,_,_,_,h3,_⟩:=iR;cases h3
   .obtain⟨h3,h4⟩:=iR
    refine⟨h3,?_⟩;rcases h4 with h4 | ⟨e,blk,cap,cur,sz,q1,q2,q3,q4,q5⟩
    .exact .inl h4
    .exact .inr ⟨e,blk,cap,cur,sz,q1,q2,q3,.inl (ci hst.below.size q4),q5⟩
   .obtain⟨_,h3,_⟩:=iR;cases h3
   .obtain⟨tm,q1,q2⟩:=iR
    exact⟨tm,q1,λt x hx=>(q2 t x hx).mono (λb o h=>⟨h,rfl⟩) (by simp)⟩
   .obtain⟨h3,e,blk,cap,cur,sz,q1,q2,q3,q4,q5⟩:=iR
    exact⟨h3,e,blk,cap,cur,sz,q1,q2,q3,.inl (ci hst.below.size q4),q5⟩
   .obtain⟨h3,h4⟩:=iR
    refine⟨h3,?_⟩;rcases h4 with h4 | ⟨e,blk,cap,cur,sz,q1,q2,q3,q4,q5⟩
    .exact .inl h4
    .exact .inr ⟨e,blk,cap,cur,sz,q1,q2,q3,.inl (ci hst.below.size q4),q5⟩
   .rcases iR with h4 | ⟨e,blk,cap,cur,sz,q1,q2,q3,q4,q5⟩
    .exact .inl h4
    .exact .inr ⟨e,blk,cap,cur,sz,q1,q2,q3,.inl (ci hst.below.size q4),q5⟩
   .obtain⟨_,h3,_⟩:=iR;cases h3
   .obtain⟨vf,vc,q1,q2,q3,q4,q5⟩:=iR
    exact⟨vf,vc,q1,q2,q3,λj x hx=>(q4 j x hx).mono (λb o h=>⟨h,rfl⟩) (by simp),λj x hx=>(q5 j x hx).mono (λb o h=>⟨h,rfl⟩) (by simp)⟩
  .obtain⟨h3,h4⟩:=ji b hb
   obtain⟨f1,f2⟩:=hst.fresh h3;exact⟨⟨h4,.inl (ci hst.below.size h3)⟩,f2,λL hL=>absurd hL (f1 L)⟩
 |true=>
  have pU:∀ i b,β i=some b->b<w.heap.size:=λi b hi=>by
   by_cases h:i<s.nb
   .obtain⟨blk,cur,e1,_,e3,_⟩:=hst.bx i h
    rw[hi] at e1;cases e1;exact e3.lt
   .rw[hst.bnone i (by omega)] at hi;cases hi
  obtain⟨h1,h2⟩:=cP (λb o=>I b o∨∃ i,β i=some b) (λ_ _ h=>.inl h) (λ_ i b o hi=>.inr ⟨i,hi⟩);refine (dV.2 (λb o=>I b o∨∃ i,β i=some b) w vs.toArray (λb o hb=>by
   rcases hb with hb | ⟨i,hi⟩
   .exact hst.ibnd b o hb
   .exact pU i b hi) (λg cs hg=>(hst.glob g cs hg).mono λb o h=>⟨.inl h,rfl⟩) (by simpa using h1) (λj x hx=>by simpa using h2 j x hx)).mono ?_
  rintro e w' ⟨v,I',rfl,hg,L8,JP,ob',iR,ji⟩;simp only;refine hk _ _ r hr ?_;have bP:=hst.grow hg (λ_ _ h=>h) (λ_ _ h=>.inl h);exact .fin0 bP hd (iR.flat (zM rfl))
theorem lW {f:Operand} {args:Array Operand} {ts:Array TypeId} (ho:o.op=.call { callee:=.value f,args:=args,argTypes:=ts }) {g:FuncId} {vf vc:Array Value} (hf:a.eval f=.func (.func g) vf vc)
 {fn:Func} {c:Code} (h1:P.funcs[g]?=some fn) (h2:(fn.name== "runtime.NumGoroutine")=false) (h3:fn.body=some c) :
 (execOp a.eval o).run P w=.ok (.enter g (vf++args.map a.eval++vc)) w:=by
 unfold execOp;simp only[ho,resolve,Deferred.ofValue,hf,aP,bB,aD,invoke];have pY:fn.name≠ "runtime.NumGoroutine" :=by simpa using h2
 simp[callFunc,h1,pY,h3]
theorem G7 {f:Operand} {args:Array Operand} {ts:Array TypeId} (ho:o.op=.call { callee:=.value f,args:=args,argTypes:=ts }) (hst:St G n I0 M w0 I β ob s a w) (hd:∀ d,o.dst=some d->d<n)
 (h:qO P G s (ev G s f) (args.toList.map (ev G s)) K) (hk:∀ a' w' x,K x->SE G n I0 M w0 (s.after tr o x) a' w'->next a' w'):o.wp P a w next Q:=by
 have hf:=bM hst f;unfold qO at h;split at h
 .rename_i g fs cs he
  rw[he] at hf;split at h
  .rename_i as has
   obtain⟨r,dV,zM,hr⟩:=h;obtain⟨vf,vc,hv,q1,q2,q3,q4⟩:=hf.toC.fn_inv;obtain⟨fn,h1,h2,c,h3⟩:=dV.1;have bO:=lW (P:=P) (w:=w) ho hv h1 h2 h3;refine Mv hst hd dV hr ((args.toList.map (ev G s)).any V.boxy) (vs:=vf.toList++args.toList.map a.eval++vc.toList) (λIc sM hb=>?_) zM ?_ hk
   .exact((ArgsR.ofC vf fs q1 λj c hc=>(q3 j c hc).mono λb o h=>⟨sM b o h,rfl⟩).append (EI hst sM _ as has hb)).append
     (ArgsR.ofC vc cs q2 λj c hc=>(q4 j c hc).mono λb o h=>⟨sM b o h,rfl⟩)
   .rw[bO];congr 2;apply dt;simp
  .exact h.elim
 .rename_i g fs cs he
  rw[he] at hf;simp only[LR] at hf;obtain⟨vf,vc,hv,q1,q2,q3,q4⟩:=hf;split at h
  .rename_i fs' as cs' e1 e2 e3
   obtain⟨r,dV,zM,hr⟩:=h;obtain⟨fn,h1,h2,c,h3⟩:=dV.1;have bO:=lW (P:=P) (w:=w) ho hv h1 h2 h3;refine Mv hst hd dV hr ((fs++args.toList.map (ev G s)++cs).any V.boxy) (vs:=vf.toList++args.toList.map a.eval++vc.toList) (λIc sM hb=>?_) zM ?_ hk
   .exact((Mt hst sM vf fs fs' q1 e1 q3 λhx=>hb (by simp only[List.any_append,hx,Bool.true_or])).append
     (EI hst sM _ as e2 λhx=>hb (by simp only[List.any_append,hx,Bool.true_or,ky]))).append
     (Mt hst sM vc cs cs' q2 e3 q4 λhx=>hb (by simp only[List.any_append,hx,ky]))
   .rw[bO];congr 2;apply dt;simp
  .exact h.elim
 .exact h.elim
theorem AN {mx:Bool} {args:Array Operand} (hst:St G n I0 M w0 I β ob s a w) (h:JY mx (args.toList.map (ev G s)) K) :
 ∃ u,flat u=true/\K (.c (.lit u))/\(if mx then Builtin.max_ #[] 0 (args.map a.eval) else Builtin.min_ #[] 0 (args.map a.eval)).run P w=.ok u w:=by
 unfold JY at h;split at h
 .rename_i k p k' q cP
  obtain⟨X,l,hX,hXv,hl⟩:∃ X l,args.toList=X::l/\ev G s X=.c (.lit (.int k p))/\l.map (ev G s)=[.c (.lit (.int k' q))]:=by
   cases ha:args.toList with
   |nil=>simp[ha] at cP
   |cons X l=>simp only[ha,aN,cj] at cP;exact⟨X,l,rfl,cP.1,cP.2⟩
  obtain⟨Y,rfl,hYv⟩:∃ Y,l=[Y]/\ev G s Y=.c (.lit (.int k' q)):=by
   cases l with
   |nil=>simp at hl
   |cons Y l'=>simp only[aN,cj,eG] at hl;exact⟨Y,by rw[hl.2],hl.1⟩
  have e1:a.eval X=.int k p:=by have:=bM hst X;rw[hXv] at this;exact this.lit
  have e2:a.eval Y=.int k' q:=by have:=bM hst Y;rw[hYv] at this;exact this.lit
  refine⟨_,rfl,h,?_⟩;cases mx
  .simp[Builtin.min_,hX,e1,e2,Builtin.min2]
  .simp[Builtin.max_,hX,e1,e2,Builtin.max2]
 .exact h.elim
end
section
variable {P:Program} {I:Ft} {w:World}
theorem Rf {k:EK} {c d:C} (h:eqC k c d=some true):∃ v,c=.lit v/\d=.lit v/\(∀ m,Instr.sameBits m v v=true):=by
 cases k with
 |int=>
  obtain⟨k,a,b,rfl,rfl,hr⟩:=Ew h;have:a=b:=by simpa using hr.symm
  subst this;exact⟨_,rfl,rfl,λm=>by cases m<;>simp[Instr.sameBits]⟩
 |bool=>
  obtain⟨a,b,rfl,rfl,hr⟩:=AI h;have:a=b:=by simpa using hr.symm
  subst this;exact⟨_,rfl,rfl,λm=>by cases m<;>simp[Instr.sameBits]⟩
 |str=>
  obtain⟨a,b,rfl,rfl,hr⟩:=Ex h;have:a=b:=by simpa using hr.symm
  subst this;exact⟨_,rfl,rfl,λm=>by cases m<;>simp[Instr.sameBits,ye]⟩
theorem C2:∀ {ks:List EK} {cs ds:List C},jF ks cs ds=some true->cs.length=ks.length->ds.length=ks.length->
 cs=ds/\∀ c∈cs,∃ v,c=.lit v/\∀ m,Instr.sameBits m v v=true
 |[],cs,ds,_,h1,h2=>by simp at h1 h2;subst h1;subst h2;simp
 |k::ks,[],ds,h,h1,h2=>by simp at h1
 |k::ks,c::cs,[],h,h1,h2=>by simp at h2
 |k::ks,c::cs,d::ds,h,h1,h2=>by
  simp only[jF] at h;split at h
  .rename_i p q e1 e2
   simp only[ap,aA] at h;obtain⟨rfl,rfl⟩:=h;obtain⟨v,rfl,rfl,hv⟩:=Rf e1;obtain⟨rfl,h4⟩:=C2 e2 (by simpa using h1) (by simpa using h2);exact⟨rfl,λc hc=>by
    rcases bI.1 hc with rfl | hc
    .exact⟨v,rfl,hv⟩
    .exact h4 c hc⟩
  .cases h
theorem J8 {xs ys:Array Value} {cs:List C} (hx:Cells I w xs cs) (hy:Cells I w ys cs) (hl:∀ c∈cs,∃ v,c=.lit v/\∀ m,Instr.sameBits m v v=true) :
 xs=ys/\∀ v∈xs.toList,∀ m,Instr.sameBits m v v=true:=by
 have each:∀ j,j<cs.length->∃ v,xs[j]?=some v/\ys[j]?=some v/\∀ m,Instr.sameBits m v v=true:=λj hj=>by obtain⟨v,hv,hs⟩:=hl cs[j] (aH hj);have h1:=hx.2 j _ (ak hj);have h2:=hy.2 j _ (ak hj);rw[hv] at h1 h2;exact⟨v,Mp h1.lit_eq (by rw[hx.1];exact hj),Mp h2.lit_eq (by rw[hy.1];exact hj),hs⟩
 refine⟨?_,λv hv m=>?_⟩
 .apply j8 (by rw[hx.1,hy.1])
  intro j h1 h2;obtain⟨v,e1,e2,_⟩:=each j (by rw[<- hx.1];exact h1);rw[aF h1] at e1;rw[aF h2] at e2;rw[ew e1,ew e2]
 .obtain⟨j,hj,rfl⟩:=eo hv
  obtain⟨v,e1,_,hs⟩:=each j (by rw[<- hx.1];simpa using hj);simp only[cy] at hj;rw[aF hj] at e1;simp only[Array.getElem_toList];rw[ew e1];exact hs m
theorem EJ {t:TypeId} {xs:Array Value} (h:∀ v∈xs.toList,∀ m,Instr.sameBits m v v=true) (h1:dn P t=false->0<xs.size) (m:Nat) :
 Instr.sameBits (m+1) (mkv P t xs) (mkv P t xs)=true:=by
 unfold mkv;cases hz:dn P t with
 |false=>simp only[ay,cD];have:=h1 hz;simp only[Array.getD,this,dif_pos];exact h _ (by simp) _
 |true=>
  simp only[bY];have:∀ l:List Value,(∀ v∈l,∀ m,Instr.sameBits m v v=true)->(l.zip l).all (λ(x:Value×Value)=>Instr.sameBits m x.1 x.2)=true:=by
   intro l hl;rw[a8];intro x hx;have:x.1=x.2/\x.1∈l:=by
    have h2:l.zip l=l.map λa=>(a,a):=by
     clear hx hl;induction l with
     |nil=>rfl
     |cons a l ih=>simp[ih]
    rw[h2] at hx;obtain⟨a,ha,rfl⟩:=ce.1 hx;exact⟨rfl,ha⟩
   rw[<- this.1];exact hl _ this.2 m
  simp only[Instr.sameBits,BEq.rfl,dI];exact this _ h
theorem EL {t:TypeId} {xs ys:Array Value} {ks:List EK} {cs ds:List C} (hx:Cells I w xs cs) (hy:Cells I w ys ds) (he:jF ks cs ds=some true) (h1:cs.length=ks.length) (h2:ds.length=ks.length) (hz:dn P t=false->0<ks.length) :
 mkv P t xs=mkv P t ys/\(Instr.keyThatStays (mkv P t ys) (mkv P t xs)).run P w=.ok (mkv P t xs) w:=by
 obtain⟨rfl,hl⟩:=C2 he h1 h2;obtain⟨rfl,hs⟩:=J8 hx hy hl;refine⟨rfl,?_⟩;unfold Instr.keyThatStays;rw[EJ hs (λh=>by rw[hx.1,h1];exact hz h) 9999];simp
theorem EM (em:Bool):∀ (d:Nat) (t:TypeId) (ks:List EK),eqk P d t=some ks->∀ (n:Nat) (xs:Array Value),xs.size=ks.length->
 (Instr.checkKey em (d+n) t (mkv P t xs)).run P w=.ok () w:=by
 intro d;induction d with
 |zero=>intro t ks h;simp[eqk] at h
 |succ d ih=>
  intro t ks h n xs CQ;rw[show d+1+n=(d+n)+1 by omega];unfold eqk at h;split at h
  .rename_i k hu
   rw[Instr.checkKey];simp[aV hu,Result.andThen]
  .rename_i hu
   rw[Instr.checkKey];simp[aV hu,Result.andThen]
  .rename_i hu
   rw[Instr.checkKey];simp[aV hu,Result.andThen]
  .rename_i fs hu
   split at h
   .cases h
   .have lU:dn P t=true:=by simp[dn,hu]
    simp only[mkv,lU,bY];rw[Instr.checkKey];simp only[aP,aV hu,aD];rw[<- Array.forIn_toList];have hh:∃ acc,Co P (eqk P d) fs.toList acc=some ks:=⟨[],h⟩;clear h;generalize fs.toList=l at hh;induction l with
    |nil=>simp
    |cons f l ihl=>
     obtain⟨acc,h⟩:=hh;simp only[Co] at h;split at h
     .rename_i k1 LW
      split at h
      .rename_i hc
       obtain⟨hn,oD,cH⟩:=hc;obtain⟨rest,Eo⟩:=yf (P:=P) _ _ _ _ h;have ej:acc.length+k1.length<=ks.length:=(by rw[Eo];simp);obtain⟨u,hfu⟩:=o5 LW;have kg:dn P f.type=false->P.cellsOf f.type=1:=λhz=>by rw[<- cH];exact uv LW hz
       have hpx:=qQ (w:=w) f.type u hfu xs f.offset (by rw[oD,<- cH,CQ];exact ej) kg;have p2:=ih f.type k1 LW n (xs.extract f.offset (f.offset+P.cellsOf f.type)) (by simp;omega);simp only[List.forIn_cons,aP,hn,ne_eq,not_false_eq_true,bY,hpx,aD,p2,bB];exact ihl ⟨_,h⟩
      .cases h
     .cases h
  .rename_i m e hu
   split at h
   .rename_i k1 LW
    split at h
    .rename_i cH
     simp only[ap] at h;have lU:dn P t=true:=(by simp[dn,hu]);obtain⟨u,heu⟩:=o5 LW;obtain⟨i,hi⟩:=gX heu;simp only[mkv,lU,bY];rw[Instr.checkKey];simp only[aP,aV hu,aD];simp only[Std.Legacy.Range.forIn_eq_forIn_range',Std.Legacy.Range.size,lF,Nat.add_one_sub_one,Nat.div_one];have aeo:ks.length=m*k1.length:=(by rw[<- h];simp);have kg:dn P e=false->P.cellsOf e=1:=λhz=>by rw[<- cH];exact uv LW hz
     have eF:∀ j∈List.range' 0 m,j<m:=λj hj=>by simp at hj;exact hj
     generalize List.range' 0 m=is at eF;induction is with
     |nil=>simp
     |cons j is ihs=>have hj:=eF j (by simp);have ej:j*k1.length+k1.length<=ks.length:=(by rw[aeo,<- dX];exact bf _ (by omega));have hpx:=qQ (w:=w) e u heu xs (j*P.cellsOf e) (by rw[<- cH,CQ];exact ej) kg;have p2:=ih e k1 LW n (xs.extract (j*P.cellsOf e) (j*P.cellsOf e+P.cellsOf e)) (by simp;rw[<- cH];omega);simp only[List.forIn_cons,aP,fk w hi,aD,hpx,p2,bB];exact ihs (λy hy=>eF y (by simp[hy]))
    .cases h
   .cases h
  .cases h
theorem G8 {t:TypeId} {u:TypeDesc} {d:Nat} {ks:List EK} (hu:P.underlying t=some u) (hk:eqk P (d+1) t=some ks) (hz:dn P t=false) {xs ys:Array Value} {cs ds:List C} {r:Bool} (hx:Cells I w xs cs) (hy:Cells I w ys ds)
 (h1:cs.length=ks.length) (h2:ds.length=ks.length) (he:jF ks cs ds=some r):Instr.sameNow u (mkv P t xs) (mkv P t ys)=some r:=by
 have hl:=uv hk hz;obtain⟨k,rfl⟩:=eR.1 hl;obtain⟨c,rfl⟩:=eR.1 (h1.trans hl);obtain⟨e,rfl⟩:=eR.1 (h2.trans hl);have hr:eqC k c e=some r:=by
  simp only[jF] at he;split at he
  .rename_i p q e1 e2
   simp only[ap] at e2 he;subst e2;rw[e1];simpa using he
  .cases he
 have hcx:CR I w (mkv P t xs) c:=by simp only[mkv,hz];exact hx.2 0 c rfl
 have Wl:CR I w (mkv P t ys) e:=by simp only[mkv,hz];exact hy.2 0 e rfl
 unfold eqk at hk;split at hk
 .rename_i q CV
  rw[hu] at CV;cases CV;simp only[ap,cj,ip] at hk;subst hk;obtain⟨kk,a,b,rfl,rfl,rfl⟩:=Ew hr;rw[hcx.lit_eq,Wl.lit_eq];simp[Instr.sameNow,Bool.beq_eq_decide_eq]
 .rename_i CV
  rw[hu] at CV;cases CV;simp only[ap,cj,ip] at hk;subst hk;obtain⟨a,b,rfl,rfl,rfl⟩:=AI hr;rw[hcx.lit_eq,Wl.lit_eq];simp[Instr.sameNow]
 .rename_i CV
  rw[hu] at CV;cases CV;simp only[ap,cj,ip] at hk;subst hk;obtain⟨a,b,rfl,rfl,rfl⟩:=Ex hr;rw[hcx.lit_eq,Wl.lit_eq];simp[Instr.sameNow,ye]
 .rename_i CV;simp[dn,CV] at hz
 .rename_i CV;simp[dn,CV] at hz
 .cases hk
theorem C3 {t:TypeId} {ks:List EK} (hk:eqk P 8 t=some ks) {xs:Array Value} {cs:List C} (hx:Cells I w xs cs) (h1:cs.length=ks.length) :
 ∀ (es:List MapEntry) (kc:List (List C)) (i:Nat) (r:Option Nat),es.length=kc.length->(∀ (j:Nat) (e:MapEntry) (c:List C),es[j]?=some e->kc[j]?=some c->∃ ys,e.key=mkv P t ys/\Cells I w ys c)->
  nk ks cs kc i=some r->(if dn P t then(Instr.findAsking t (mkv P t xs) es i).run P w=.ok (r.map λj=>(j,((es[j - i]?).map (·.val)).getD undef)) w
   else Instr.findNow ((P.underlying t).getD .bool) (mkv P t xs) es i=some (r.map λj=>(j,((es[j - i]?).map (·.val)).getD undef)))/\∀ j,r=some j->i<=j
 |[],[],i,r,_,_,h=>by simp only[nk,ap] at h;subst h;refine⟨?_,by simp⟩;split<;>simp[Instr.findAsking,Instr.findNow]
 |[],_::_,_,_,h,_,_=>by simp at h
 |_::_,[],_,_,h,_,_=>by simp at h
 |e::es,c::kc,i,r,hl,qM,h=>by
  simp only[nk] at h;split at h
  .rename_i h2
   obtain⟨ys,GM,hy⟩:=qM 0 e c rfl rfl;obtain⟨u,hu⟩:=o5 hk;have step:∀ b,jF ks cs c=some b->(dn P t=true->(Op.equal t (mkv P t xs) e.key).run P w=.ok b w)/\(dn P t=false->Instr.sameNow u (mkv P t xs) e.key=some b):=λb hb=>by rw[GM];exact⟨λ_=>CZ (w:=w) 8 t ks hk 10000 (by omega) xs ys cs c b hx hy (by rw[hx.1,h1]) (by rw[hy.1,h2]) hb,λhz=>G8 hu hk hz hx hy h1 h2 hb⟩
   split at h
   .rename_i hb
    simp only[ap] at h;subst h;obtain⟨s1,s2⟩:=step _ hb;refine⟨?_,λj hj=>by cases hj;exact ai _⟩;split
    .rename_i hz;simp[Instr.findAsking,s1 hz]
    .rename_i hz;simp[Instr.findNow,hu,s2 (by simpa using hz)]
   .rename_i hb
    obtain⟨s1,s2⟩:=step _ hb;obtain⟨q1,q2⟩:=C3 hk hx h1 es kc (i+1) r (by simpa using hl) (λj e c h1 h2=>qM (j+1) e c (by simpa using h1) (by simpa using h2)) h;have eF:(r.map λj=>(j,(((e::es)[j - i]?).map (·.val)).getD undef))=r.map λj=>(j,((es[j - (i+1)]?).map (·.val)).getD undef):=by
     cases r with
     |none=>rfl
     |some j=>have:=q2 j rfl;have e1:j - i=(j - (i+1))+1:=(by omega);simp[e1]
    refine⟨?_,λj hj=>by have:=q2 j hj;omega⟩;rw[eF];split
    .rename_i hz
     rw[if_pos hz] at q1;simpa[Instr.findAsking,s1 hz] using q1
    .rename_i hz
     rw[if_neg hz] at q1;simpa[Instr.findNow,hu,s2 (by simpa using hz)] using q1
   .cases h
  .cases h
theorem Oa {t:TypeId} {ks:List EK} (hk:eqk P 8 t=some ks) {xs:Array Value} {cs:List C} (hx:Cells I w xs cs) (h1:cs.length=ks.length) {es:List MapEntry} {kc:List (List C)} {r:Option Nat} (hl:es.length=kc.length)
 (qM:∀ (j:Nat) (e:MapEntry) (c:List C),es[j]?=some e->kc[j]?=some c->∃ ys,e.key=mkv P t ys/\Cells I w ys c) (h:nk ks cs kc 0=some r) :
 (Instr.findKey t (mkv P t xs) es).run P w=.ok (r.map λj=>(j,((es[j]?).map (·.val)).getD undef)) w:=by
 obtain⟨q,_⟩:=C3 hk hx h1 es kc 0 r hl qM h;obtain⟨u,hu⟩:=o5 hk;cases hz:dn P t with
 |true=>rw[if_pos hz] at q;rw[run_findKey_eq w (by unfold dn at hz;rw[hu] at hz ⊢;cases u<;>simp_all)];simpa using q
 |false=>rw[if_neg (by simp[hz])] at q;simp only[hu,ba] at q;rw[MapKept.run_findKey hu q];simp
end
section
variable {P:Program} {G:Gl} {tr:List Nat} {n:Nat} {I0:Ft} {M:Mx} {w0:World} {I:Ft} {β:Nat->Option Nat} {ob:Loc->Option Nat} {s:S} {a:Act} {w:World} {o:Oper}
 {next:Act->World->Prop} {Q:Exit->Act->World->Prop} {base:Nat->Prop} {v:Value} {x y:V} {K:V->Prop}
theorem AO {d:TypeDesc} {k e:TypeId} (h:Vl.K.map k e=uU d):d=.map k e:=by cases d<;>simp_all[uU]
theorem AP {ag:Bool}:∀ {r:List V} {kcs:List (List C)},jG ag r=some kcs->r.length=2*kcs.length/\∀ (j:Nat) (c:List C),kcs[j]?=some c->(r.getD (2*j) .un).kcs ag=some c
 |[],kcs,h=>by simp only[jG,ap] at h;subst h;exact⟨rfl,by simp⟩
 |[_],kcs,h=>by simp[jG] at h
 |k::v::r,kcs,h=>by
  simp only[jG] at h;split at h
  .rename_i q l h1 h2
   simp only[ap] at h;subst h;obtain⟨h3,h4⟩:=AP h2;refine⟨by simp[h3];omega,λj c hc=>?_⟩;cases j with
   |zero=>simp at hc;subst hc;exact h1
   |succ j=>rw[show 2*(j+1)=2*j+1+1 by omega];simp only[bg];exact h4 j c (by simpa using hc)
  .cases h
theorem AQ {ks:List EK} {k:List C}:∀ {kcs:List (List C)} {i j:Nat},nk ks k kcs i=some (some j)->∃ q c,j=i+q/\kcs[q]?=some c/\c.length=ks.length/\jF ks k c=some true
 |[],i,j,h=>by simp[nk] at h
 |c::r,i,j,h=>by
  simp only[nk] at h;split at h
  .rename_i hl
   split at h
   .rename_i he
    simp only[ap] at h;subst h;exact⟨0,c,rfl,rfl,hl,he⟩
   .obtain⟨q,c',rfl,h2,h3,h4⟩:=AQ h
    exact⟨q+1,c',by omega,by simpa using h2,h3,h4⟩
   .cases h
  .cases h
theorem rA:∀ (es:List MapEntry) (j:Nat) (e:MapEntry),es[j]?=some e->(kY es)[2*j]?=some e.key/\(kY es)[2*j+1]?=some e.val
 |[],j,e,h=>by simp at h
 |x::es,0,e,h=>by simp at h;subst h;exact⟨rfl,rfl⟩
 |x::es,j+1,e,h=>by obtain⟨h1,h2⟩:=rA es j e (by simpa using h);rw[show 2*(j+1)=2*j+1+1 by omega];simp only[kY,cU];exact⟨h1,h2⟩
theorem wx:∀ es:List MapEntry,(kY es).length=2*es.length
 |[]=>rfl
 |x::es=>by simp[kY,wx es];omega
theorem Rh {ag:Bool} {kt:TypeId} (lU:ag=dn P kt) {ox:Option Nat} (h:LR base I β w ox v x) {c:List C} (hc:x.kcs ag=some c):∃ ys,v=mkv P kt ys/\Cells I w ys c:=by
 cases x<;>simp only[V.kcs] at hc<;>try cases hc
 .split at hc
  .cases hc
  .rename_i hf
   simp only[ap] at hc;subst hc;have hz:dn P kt=false:=(by rw[<- lU];simpa using hf);refine⟨#[v],by simp[mkv,hz],rfl,λj c hc=>?_⟩;cases j with
   |zero=>simp at hc;subst hc;exact h.toC
   |succ j=>simp at hc
 .split at hc
  .rename_i ht
   simp only[ap] at hc;subst hc;have hz:dn P kt=true:=(by rw[<- lU];exact ht);obtain⟨vs,rfl,h1,h2⟩:=h.agg;exact⟨vs,by simp[mkv,hz],h1,h2⟩
  .cases hc
theorem y6 {ox:Option Nat} (h:LR base I β w ox v x):DR I w v x.dr:=by
 cases x<;>simp only[V.dr]<;>first | exact .un _ | skip
 .exact .c _ _ h.toC
 .simp only[LR] at h;exact h
 .exact .c _ _ h.1
theorem Ob {et:TypeId} {e:TI} {z:V} (hi:ti P et=some e) (hz:qz e=some z) (ha:zaB P et=true):∃ zv,(zeroValue et).run P w=.ok zv w/\∀ (base:Nat->Prop) (β:Nat->Option Nat),LR base I β w none zv z:=by
 obtain⟨j,d,h1,h2,_,_,_,lU,hze,_⟩:=bL hi;unfold zaB at ha;rw[h1] at ha;simp only at ha;unfold qz at hz;cases vz:j.zero with
 |none=>rw[vz] at ha;cases ha
 |some zv=>
  rw[vz] at ha hze;refine⟨zv,by simp[zeroValue,typeInfo,h1,vz],λbase β=>?_⟩;simp only at hze;split at hz
  .rename_i zc' LS uh
   simp only[ap] at hz;subst hz;rw[uh] at hze;rw[LS] at lU;cases zv<;>simp only[<- lU,dq,ay] at ha;rename_i cs;simp only[LR];refine .agg _ _ (by have:=List.mapM_eq_some_length hze.symm;simpa[Value.cells] using this.symm) λq c hc=>?_;obtain⟨u,hu,huc⟩:=List.mapM_eq_some_get hze.symm q c hc;have:cs.getD q undef=u:=(by simp only[Value.cells,aY] at hu;simp[hu]);rw[this];exact Mr huc
  .rename_i c Wo uh
   simp only[ap] at hz;subst hz;rw[uh] at hze;rw[Wo] at lU;have hl:=List.mapM_eq_some_length hze.symm;obtain⟨u,hu,huc⟩:=List.mapM_eq_some_get hze.symm 0 c rfl;have:zv=u:=(by cases zv<;>simp only[<- lU,cO,ay] at ha<;>simpa[Value.cells] using hu);rw[this];exact .ofC (Mr huc)
  .cases hz
structure Ri (P:Program) (I:Ft) (M:Mx) (w0:World) (β:Nat->Option Nat) (ob:Loc->Option Nat) (s:S) (w:World) (i:Nat) (bs:List Nat) (cl:Nat) (r:List V) (blk:Nat) (es:Array MapEntry):Prop where
 lt:i<s.nb
 bx:s.bx i=.mk bs cl::r
 bt:β i=some blk
 wr:Wr M w0 blk
 fr:∀ o,¬ I blk o
 heap:w.heap[blk]?=some (.map es cl)
 born:es.toList.map (·.born)=bs
 len:r.length=2*bs.length
 ent:∀ (j:Nat) (e:MapEntry),es.toList[j]?=some e->LR (Wr M w0) I β w (ob (.b i (2*j+1))) e.key (r.getD (2*j) .un)/\LR (Wr M w0) I β w (ob (.b i (2*j+2))) e.val (r.getD (2*j+1) .un)
theorem St.mapW (hst:St G n I0 M w0 I β ob s a w) {i blk cl:Nat} {bs:List Nat} {r:List V} (hi:i<s.nb) (hb:s.bx i=.mk bs cl::r) (hβ:β i=some blk):∃ es,Ri P I M w0 β ob s w i bs cl r blk es:=by
 obtain⟨sj,cur,e1,e2,e3,e4,e5,e7⟩:=hst.bx i hi;rw[hβ] at e1;cases e1;have hm:oq (s.bx i)=some (.mp bs cl):=by rw[hb];rfl
 unfold HB at e3;rw[hm] at e3;obtain⟨es,q1,q2,q3,q4⟩:=e3;refine⟨es,hi,hb,hβ,e2,e7,q1,q2,by rw[hb,aI] at q4;omega,λj e he=>?_⟩;obtain⟨c1,c2⟩:=rA _ _ _ he;have g1:cur.getD (2*j+1) undef=e.key:=by rw[au,<- aY,q3];simp[c1]
 have g2:cur.getD (2*j+2) undef=e.val:=by rw[au,<- aY,q3,show 2*j+2=(2*j+1)+1 by omega];simp[c2]
 have l1:=e5 (2*j+1);have l2:=e5 (2*j+2);rw[g1,hb] at l1;rw[g2,hb,show 2*j+2=(2*j+1)+1 by omega] at l2;simp only[bg] at l1 l2;exact⟨l1,l2⟩
theorem vD {T:TypeId} {K:Nat->List Nat->Nat->List V->Option Nat->V->Prop} (h:iP P T s x y K) :
 ∃ i kt et tT tk te ks kc z bs cl r kcs res,ti P T=some tT/\tT.kd=.map kt et/\x=.mr i/\ti P kt=some tk/\tk.eqs=some ks/\ti P et=some te/\y.kcs tk.agg=some kc/\qz te=some z/\
  s.bx i=.mk bs cl::r/\jG tk.agg r=some kcs/\nk ks kc kcs 0=some res/\(i<s.nb/\kc.length=ks.length/\jF ks kc kc=some true/\zaB P et=true)/\K i bs cl r res z:=by
 unfold iP at h;split at h
 .rename_i hT
  split at h
  .rename_i h2 h3
   split at h
   .rename_i h4 h5 h6
    split at h
    .rename_i h7
     split at h
     .rename_i h8
      exact⟨_,_,_,_,_,_,_,_,_,_,_,_,_,_,hT,rfl,rfl,h2,rfl,h3,h4,h5,h6,h7,h8,h.1,h.2⟩
     .exact h.elim
    .exact h.elim
   .exact h.elim
  .exact h.elim
 .exact h.elim
theorem W2 {t:TypeId} {i:TI} {ks:List EK} (h:ti P t=some i) (hk:i.eqs=some ks):eqk P 8 t=some ks:=by
 obtain⟨_,_,_,_,_,_,_,_,_,_,he,_⟩:=bL h;rw[hk] at he;split at he
 .cases he
 .exact he.symm
theorem rB {T:TypeId} {K:Nat->List Nat->Nat->List V->Option Nat->V->Prop} {vx vy:Value} {ox oy:Option Nat} (hst:St G n I0 M w0 I β ob s a w) (h:iP P T s x y K)
 (hx:LR (Wr M w0) I β w ox vx x) (hy:LR (Wr M w0) I β w oy vy y) :
 ∃ i bs cl r res z blk kt et es zv,K i bs cl r res z/\x=.mr i/\vx=.map (some blk)/\Ri P I M w0 β ob s w i bs cl r blk es/\P.underlying T=some (.map kt et)/\
  (∀ em,(Instr.checkKey em 10000 kt vy).run P w=.ok () w)/\
  (Instr.findKey kt vy es.toList).run P w=.ok (res.map λj=>(j,((es.toList[j]?).map (·.val)).getD undef)) w/\
  (∀ j,res=some j->∃ e,es.toList[j]?=some e/\e.key=vy/\(Instr.keyThatStays e.key vy).run P w=.ok vy w)/\
  (zeroValue et).run P w=.ok zv w/\LR (Wr M w0) I β w none zv z:=by
 obtain⟨i,kt,et,tT,tk,te,ks,kc,z,bs,cl,r,kcs,res,h1,h2,rfl,h3,h4,h5,h6,h7,h8,h9,h10,⟨c1,c2,c3,c4⟩,hK⟩:=vD h;obtain⟨_,d,_,hu,hkd,_⟩:=bL h1;rw[h2] at hkd;have hd:=AO hkd;subst hd;have hek:=W2 h3 h4;have lU:tk.agg=dn P kt:=by obtain⟨_,_,_,_,_,_,_,h,_⟩:=bL h3;exact h
 simp only[LR] at hx;obtain⟨blk,hβ,rfl⟩:=hx;obtain⟨es,hm⟩:=hst.mapW (P:=P) c1 h8 hβ;obtain⟨xs,rfl,CQ⟩:=Rh (P:=P) lU hy h6;obtain⟨zv,Z6,hz2⟩:=Ob (I:=I) (w:=w) h5 h7 c4;obtain⟨k1,k2⟩:=AP h9;have hbl:es.toList.length=bs.length:=by rw[<- hm.born,aj]
 have JA:es.toList.length=kcs.length:=by have:=hm.len;omega
 have qM:∀ (j:Nat) (e:MapEntry) (c:List C),es.toList[j]?=some e->kcs[j]?=some c->∃ ys,e.key=mkv P kt ys/\Cells I w ys c:=λj e c he hc=>
  Rh (P:=P) lU (hm.ent j e he).1 (k2 j c hc)
 refine⟨i,bs,cl,r,res,z,blk,kt,et,es,zv,hK,rfl,rfl,hm,hu,λem=>?_,Oa hek CQ c2 JA qM h10,λj hj=>?_,Z6,hz2 _ _⟩
 .exact EM em 8 kt ks hek 9992 xs (by rw[CQ.1];exact c2)
 .subst hj
  obtain⟨q,c,hq,hc,hl,he⟩:=AQ h10;have bF:q<es.toList.length:=by rw[JA];exact(am.1 hc).1
  have wm:es.toList[j]?=some es.toList[q]:=by rw[show j=q by omega];exact ak bF
  refine⟨_,wm,?_⟩;obtain⟨ys,GM,xY⟩:=qM j _ c wm (by rw[show j=q by omega];exact hc);have:=EL (P:=P) (t:=kt) CQ xY he c2 hl (λhz=>by have:=uv hek hz;omega);rw[GM];exact⟨this.1.symm,this.2⟩
theorem Ct {T:TypeId} {ok:Bool} {vx vy:Value} {ox oy:Option Nat} (hst:St G n I0 M w0 I β ob s a w) (h:fV P T s x y ok K)
 (hx:LR (Wr M w0) I β w ox vx x) (hy:LR (Wr M w0) I β w oy vy y) :
 ∃ z u,K z/\LR (Wr M w0) I β w none u z/\(Instr.lookup T vx vy ok).run P w=.ok u w:=by
 unfold fV at h;obtain⟨i,bs,cl,r,res,z,blk,kt,et,es,zv,hK,rfl,rfl,hm,hu,pS,JQ,xO,Z6,hz2⟩:=rB hst h hx hy;have hg:=fG (P:=P) hm.heap;cases res with
 |some j=>
  obtain⟨e,he,_,_⟩:=xO j rfl;have hv:=(hm.ent j e he).2;simp only[bQ,he,ba] at JQ;cases ok with
  |false=>simp only[ay,cD] at hK;exact⟨_,e.val,hK,hv.fz none,by simp[Instr.lookup,aV hu,hg,pS,JQ,Result.andThen]⟩
  |true=>
   simp only[bY] at hK;refine⟨_,.tuple #[e.val,.bool true],hK,?_,by simp[Instr.lookup,aV hu,hg,pS,JQ,Result.andThen]⟩;simp only[LR];refine .tup _ _ rfl λq d hd=>?_
   match q with
   |0=>simp at hd;subst hd;exact y6 hv
   |1=>simp at hd;subst hd;exact .c _ _ (.lit _ rfl)
   |q+2=>simp at hd
 |none=>
  simp only[jw] at JQ;cases ok with
  |false=>simp only[ay,cD] at hK;exact⟨_,zv,hK,hz2,by simp[Instr.lookup,aV hu,hg,pS,JQ,Z6,Result.andThen]⟩
  |true=>
   simp only[bY] at hK;refine⟨_,.tuple #[zv,.bool false],hK,?_,by simp[Instr.lookup,aV hu,hg,pS,JQ,Z6,Result.andThen]⟩;simp only[LR];refine .tup _ _ rfl λq d hd=>?_
   match q with
   |0=>simp at hd;subst hd;exact y6 hz2
   |1=>simp at hd;subst hd;exact .c _ _ (.lit _ rfl)
   |q+2=>simp at hd
theorem Oc {es:List MapEntry} {b j:Nat} (h:(es.map (·.born)).findIdx? (·==b)=some j):∃ e,es[j]?=some e/\es.find? (·.born==b)=some e:=by
 induction es generalizing j with
 |nil=>simp at h
 |cons e es ih=>
  simp only[aN,List.findIdx?_cons] at h;cases hb:(e.born==b) with
  |true=>rw[hb] at h;simp at h;subst h;exact⟨e,rfl,by simp[hb]⟩
  |false=>rw[hb] at h;simp only[ay,cD,aZ] at h;obtain⟨q,hq,rfl⟩:=h;obtain⟨e',h1,h2⟩:=ih hq;exact⟨e',by simpa using h1,by simp[hb,h2]⟩
theorem EN {vx:Value} {ox:Option Nat} (hst:St G n I0 M w0 I β ob s a w) (h:nv s x K) (hx:LR (Wr M w0) I β w ox vx x) :
 ∃ z u,K z/\LR (Wr M w0) I β w none u z/\(Instr.entry vx).run P w=.ok u w:=by
 unfold nv at h;split at h
 .rename_i i since stepped seen
  split at h
  .rename_i bs cl r b hb hl
   split at h
   .rename_i j hj
    obtain⟨⟨hi,rfl⟩,hK⟩:=h;simp only[LR] at hx;obtain⟨blk,m,_,_,hβ,rfl,hh,_⟩:=hx;obtain⟨es,hm⟩:=hst.mapW (P:=P) hi hb hβ;have hj':=hj;rw[<- hm.born] at hj';obtain⟨e,he,hf⟩:=Oc hj';obtain⟨l1,l2⟩:=hm.ent j e he;have zN:es.find? (λx=>x.born==b)=some e:=(by rw[<- Array.find?_toList];exact hf);have hg:(getObj blk).run P w=.ok (.mapIter (some m) since seen.toArray cl) w:=(by simp[getObj,Sem.run,hh]);have GX:=fG (P:=P) hm.heap;refine⟨_,.tuple #[e.key,e.val],hK,?_,?_⟩
    .simp only[LR]
     refine .tup _ _ rfl λq d hd=>?_
     match q with
     |0=>simp at hd;subst hd;exact y6 l1
     |1=>simp at hd;subst hd;exact y6 l2
     |q+2=>simp at hd
    .simp[Instr.entry,hg,GX,zN,hl,Result.andThen]
   .exact h.elim
  .exact h.elim
 .exact h.elim
theorem EO {T:TypeId} {vx:Value} {ox:Option Nat} (hst:St G n I0 M w0 I β ob s a w) (hd:∀ d,o.dst=some d->d<n) (h:ot P T s x K) (hx:LR (Wr M w0) I β w ox vx x) :
 ∃ z u w',K z/\(Instr.range T vx).run P w=.ok u w'/\SE G n I0 M w0 (s.after tr o z) (a.put o.dst u) w':=by
 unfold ot at h;split at h
 .rename_i hT
  obtain⟨_,d,_,hu,hkd,_⟩:=bL hT;have sd:=AO hkd;subst sd;split at h
  .rename_i i bs cl r hb
   obtain⟨hi,hK⟩:=h;simp only[LR] at hx;obtain⟨blk,hβ,rfl⟩:=hx;obtain⟨es,hm⟩:=hst.mapW (P:=P) hi hb hβ;have hg:=fG (P:=P) hm.heap;have hs:=hst.allocOwn (.mapIter (some blk) cl #[] cl);have ji:=hst.fresh (ai _);refine⟨_,.pointer (some ⟨w.heap.size,0,none⟩),w.alloc (.mapIter (some blk) cl #[] cl),hK,by simp[Instr.range,aV hu,hg,Result.andThen],?_⟩;refine .fin hs hd (o':=some w.heap.size) ?_ λb hb=>?_
   .simp only[LR]
    exact⟨w.heap.size,blk,rfl,.inl hst.below.size,hβ,rfl,iw w _,λo ho=>by have:=hst.ibnd _ _ ho;omega⟩
   .cases hb
    refine⟨⟨by rw[fF];omega,.inl hst.below.size⟩,ji.2,λL hL=>absurd hL (ji.1 L)⟩
  .exact h.elim
 .exact h.elim
theorem G9 {T ty:TypeId} {vx:Value} {ox:Option Nat} (hst:St G n I0 M w0 I β ob s a w) (h:GY P s K [T] [x]) (hx:LR (Wr M w0) I β w ox vx x) :
 ∃ u,flat u=true/\K (.c (.lit u))/\(Builtin.len_ #[T] ty #[vx]).run P w=.ok u w:=by
 unfold GY at h;split at h
 .rename_i T' i u5 oH
  simp only[cj,ip] at u5 oH;subst u5;subst oH;split at h
  .rename_i hT hb
   obtain⟨_,d,_,hu,hkd,_⟩:=bL hT;have sd:=AO hkd;subst sd;obtain⟨hi,hK⟩:=h;simp only[LR] at hx;obtain⟨blk,hβ,rfl⟩:=hx;obtain⟨sj,cur,e1,e2,e3,e4,e5,e7⟩:=hst.bx i hi;rw[hβ] at e1;cases e1;unfold HB at e3;rw[hb] at e3;obtain⟨es,q1,q2,_⟩:=e3;have hg:=fG (P:=P) q1;refine⟨_,rfl,hK,?_⟩;have hl:=kK List.length q2;rw[aj,cy] at hl;simp[Builtin.len_,aV hu,hg,Result.andThen,goInt,hl]
  .exact h.elim
 .exact h.elim
end
section
variable {P:Program} {G:Gl} {tr:List Nat} {n:Nat} {I0:Ft} {M:Mx} {w0:World} {I:Ft} {β:Nat->Option Nat} {ob:Loc->Option Nat} {s:S} {a:Act} {w:World} {o:Oper}
 {next:Act->World->Prop} {Q:Exit->Act->World->Prop} {base:Nat->Prop} {v:Value} {x y:V}
theorem aao (hst:St G n I0 M w0 I β ob s a w) (x:Operand):(∃ ox,LR (Wr M w0) I β w ox (a.eval x) (vw s (ev G s x)).fz)∨∃ es,(vw s (ev G s x)).fz=.c (.sl es)/\RD I w (a.eval x) es:=by
 have hx:=bM hst x;cases he:ev G s x with
 |ms i off len cap sz=>
  rw[he] at hx;simp only[LR] at hx;simp only[vw];cases hv:mi s i off len sz with
  |none=>left;exact⟨none,by simp only[V.fz,LR];exact .un _⟩
  |some c=>obtain⟨es,rfl,L9⟩:=W1 hst hv hx;right;exact⟨es,rfl,L9⟩
 |_=>left;rw[he] at hx;exact⟨none,hx.fz none⟩
theorem Mw (hst:St G n I0 M w0 I β ob s a w) (x:Operand) (ys:List (List C)) (h:(vw s (ev G s x)).fz=.c (.sl ys)):RD I w (a.eval x) ys:=by
 rcases aao hst x with⟨ox,hx⟩ | ⟨es,he,L9⟩
 .rw[h] at hx;exact .ofCR hx.toC
 .rw[h] at he;cases he;exact L9
theorem aap {x:V} {E:Option (TypeId×Nat)} {es:List (List C)} (h:vw s x=.ow E es):x=.ow E es:=by
 cases x<;>simp only[vw] at h<;>try exact h
 split at h<;>cases h
theorem AS {K:V->Prop} {X Y:Operand} {t t' ty:TypeId} (hst:St G n I0 M w0 I β ob s a w) (hd:∀ d,o.dst=some d->d<n) (sq:cL tr o=(match X with | .tmp t=>some t | _=>none))
 (h:eH P .append [t,t'] [vw s (ev G s X),vw s (ev G s Y)] K):∃ z u w',K z/\(Builtin.append_ #[t,t'] ty #[a.eval X,a.eval Y]).run P w=.ok u w'/\SE G n I0 M w0 (s.after tr o z) (a.put o.dst u) w':=by
 have key:∀ ys,dL P t (vw s (ev G s X)) ys K->(∀ ys' e,P.underlying t=some (.slice e)->∀ j,ti P e=some j->ys=.c (.sl ys')->(∀ x∈ys',x.length=j.size)->J7 P I w t' (a.eval Y) j.size ys')->
  ∃ z u w',K z/\(Builtin.append_ #[t,t'] ty #[a.eval X,a.eval Y]).run P w=.ok u w'/\SE G n I0 M w0 (s.after tr o z) (a.put o.dst u) w':=by
  intro ys h sU;have h':dL P t (ev G s X) ys K:=by
   cases hx:vw s (ev G s X) with
   |ow E es=>rw[hx] at h;rw[aap hx];exact h
   |_=>rw[hx] at h;simp[dL] at h
  exact Cr (tr:=tr) (U:=t') (ty:=ty) hst hd sq h' sU
 simp only[eH] at h;split at h
 .rename_i htt
  subst htt;exact key _ h λys' e hu j hj hy hl=>(Mw hst Y ys' hy).src hu hl
 .unfold qb at h
  split at h
  .rename_i e _ _ _ _ _ _ _ _ _ _ _ _ st hi JE hy
   obtain⟨j1,d1,_,h2,h3,_⟩:=bL hi;have Z5:=dW h3;subst Z5;obtain⟨j2,d2,_,h22,h32,_⟩:=bL JE;have hd2:=pf h32;subst hd2;split at h
   .rename_i ie uS
    obtain⟨WS,h⟩:=h;have ajs:ev G s Y=.c (.lit (.string st)):=by
     have:(vw s (ev G s Y)).fz=.c (.lit (.string st)):=hy;cases Aj:ev G s Y<;>rw[Aj] at this
     case hh g E es=>cases g<;>simp[vw,V.fz] at this
     case gs g E es=>cases g<;>simp[vw,V.fz] at this
     case ms i off len cap sz=>
      simp only[vw] at this;split at this
      .rename_i c hc
       simp only[V.fz,V.c.injEq] at this;subst this;unfold mi at hc;split at hc
       .split at hc<;>simp at hc
       .cases hc
      .simp[V.fz] at this
     all_goals simp_all[vw,V.fz]
    have hv:=bM hst Y;rw[ajs] at hv;refine key _ h λys' e' hu j hj QF hl=>?_;rw[h2] at hu;simp only[ap,TypeDesc.slice.injEq] at hu;subst hu;rw[uS] at hj;cases hj;simp only[V.c.injEq,C.sl.injEq] at QF;subst QF;rw[hv.lit,WS];exact W0 h22
   .exact h.elim
  .exact h.elim
theorem St.unghost {t d:Tmp} {v:Value} {E:Option (TypeId×Nat)} {es:List (List C)} (hst:St G n I0 M w0 I β ob s a w) (QS:t≠d) (ht:s.fr t=.c (.ex v)) (Wu:s.fr d=.gh v E es) (QR:d<n) (yU:t<n) :
 ∃ ob',St G n I0 M w0 I β ob' { s with fr:=up (up s.fr d .un) t (.ow E es) } a w:=by
 have hg:=hst.fr d;rw[Wu] at hg;simp only[LR] at hg;have hx:=hst.fr t;rw[ht] at hx;have hv:a.tmps.getD t undef=v:=by
  have:=hx.toC;generalize a.tmps.getD t undef=q at this;cases this with
  |ex _ h1 h2=>rfl
 have h1:=hst.put d QR (v:=a.tmps.getD d undef) (x:=.un) (o:=none) (by simp only[LR];exact .un _) FreeOb.nothing;have h2:=h1.put t yU (v:=a.tmps.getD t undef) (x:=.ow E es) (o:=ob (.t d)) (by rw[hv];simp only[LR];exact hg) (λb hb=>by
  refine⟨hst.obnd _ b hb,λL hL=>?_,λi=>hst.obx _ b i hb⟩;simp only[upL] at hL;split at hL
  .cases hL
  .split at hL
   .cases hL
   .rename_i h3 h4
    exact h4 (hst.oinj _ _ b hL hb))
 have back:∀ (a:Act) (q:Tmp),q<a.tmps.size->a.put (some q) (a.tmps.getD q undef)=a:=λa q hq=>by
  have:a.tmps.set! q (a.tmps.getD q undef)=a.tmps:=by
   apply j8
   .simp[cu]
   .intro i h1 h2
    simp only[cu,gk h2];split
    .rename_i e;subst e;simp[Array.getD,h2]
    .rfl
  show(⟨a.tmps.set! q (a.tmps.getD q undef),a.defers⟩:Act)=a;rw[this]
 rw[back a d (by rw[hst.size];exact QR),back a t (by rw[hst.size];exact yU)] at h2;exact⟨_,h2⟩
theorem St.unghostG {t d:Tmp} {v:Value} {E:Option (TypeId×Nat)} {es:List (List C)} (hst:St G n I0 M w0 I β ob s a w) (QS:t≠d) (ht:s.fr t=.c (.ex v)) (Wu:s.fr d=.gg v E es) (QR:d<n) (yU:t<n) :
 ∃ ob',St G n I0 M w0 I β ob' { s with fr:=up (up s.fr d .un) t (.gs none E es) } a w:=by
 have hg:=hst.fr d;rw[Wu] at hg;simp only[LR] at hg;have hx:=hst.fr t;rw[ht] at hx;have hv:a.tmps.getD t undef=v:=by
  have:=hx.toC;generalize a.tmps.getD t undef=q at this;cases this with
  |ex _ h1 h2=>rfl
 have h1:=hst.put d QR (v:=a.tmps.getD d undef) (x:=.un) (o:=none) (by simp only[LR];exact .un _) FreeOb.nothing;have h2:=h1.put t yU (v:=a.tmps.getD t undef) (x:=.gs none E es) (o:=ob (.t d)) (by rw[hv];simp only[LR];exact⟨(λ_ h=>by cases h),hg⟩) (λb hb=>by
  refine⟨hst.obnd _ b hb,λL hL=>?_,λi=>hst.obx _ b i hb⟩;simp only[upL] at hL;split at hL
  .cases hL
  .split at hL
   .cases hL
   .rename_i h3 h4
    exact h4 (hst.oinj _ _ b hL hb))
 have back:∀ (a:Act) (q:Tmp),q<a.tmps.size->a.put (some q) (a.tmps.getD q undef)=a:=λa q hq=>by
  have:a.tmps.set! q (a.tmps.getD q undef)=a.tmps:=by
   apply j8
   .simp[cu]
   .intro i h1 h2
    simp only[cu,gk h2];split
    .rename_i e;subst e;simp[Array.getD,h2]
    .rfl
  show(⟨a.tmps.set! q (a.tmps.getD q undef),a.defers⟩:Act)=a;rw[this]
 rw[back a d (by rw[hst.size];exact QR),back a t (by rw[hst.size];exact yU)] at h2;exact⟨_,h2⟩
theorem EP (hst:St G n I0 M w0 I β ob s a w) {t:Tmp} {v:Value} (ht:s.fr t=.c (.ex v)):a.tmps.getD t undef=v/\v.oneCell'=true/\v.cells=#[v]:=by
 have hx:=hst.fr t;rw[ht] at hx;have:=hx.toC;generalize a.tmps.getD t undef=q at this;cases this with
 |ex _ h1 h2=>exact⟨rfl,h1,h2⟩
theorem mO {q:Tmp} (hq:q<a.tmps.size):a.put (some q) (a.tmps.getD q undef)=a:=by
 have:a.tmps.set! q (a.tmps.getD q undef)=a.tmps:=by
  apply j8
  .simp[cu]
  .intro i h1 h2
   simp only[cu,gk h2];split
   .rename_i e;subst e;simp[Array.getD,h2]
   .rfl
 show(⟨a.tmps.set! q (a.tmps.getD q undef),a.defers⟩:Act)=a;rw[this]
theorem Od {K:V->Prop} {t d:Tmp} {y:Operand} {v:Value} {E:Option (TypeId×Nat)} {es:List (List C)} {ts:List TypeId} {ty:TypeId} (hst:St G n I0 M w0 I β ob s a w) (hd:∀ d,o.dst=some d->d<n) (sq:∀ t' y',[Operand.tmp t,y]=[.tmp t',y']->cL tr o=some t')
 (o0:o.dst=some d) (ht:s.fr t=.c (.ex v)) (Wu:s.fr d=.gg v E es) (QS:t≠d) (hyt:y≠.tmp t) (hyd:y≠.tmp d) (h:nn P ts E es (vw s (ev G s y)).fz K) :
 ∃ X Y t0 t',[Operand.tmp t,y]=[X,Y]/\ts=[t0,t']/\∃ z u w',K z/\(Builtin.append_ #[t0,t'] ty #[a.eval X,a.eval Y]).run P w=.ok u w'/\SE G n I0 M w0 (s.after tr o z) (a.put o.dst u) w':=by
 have qt:∃ q q',ts=[q,q']:=by
  unfold nn at h;split at h
  .exact⟨_,_,rfl⟩
  .exact h.elim
 obtain⟨q,q',rfl⟩:=qt;have hqq:q=q':=by simp only[nn] at h;exact h.1
 subst hqq;have QR:d<n:=hd d o0;have yU:t<n:=by
  rcases cd t n with h' | h'
  .exact h'
  .exfalso
   obtain⟨e1,_,_⟩:=EP hst ht;have e0:a.tmps.getD t undef=undef:=(by rw[au,dx (by rw[hst.size];exact h')];rfl);have hg:=hst.fr d;rw[Wu] at hg;simp only[LR] at hg;rw[<- e1,e0] at hg;rcases hg with⟨_,_,_,_,h1⟩ | ⟨_,_,_,_,_,_,_,h1,_⟩<;>simp[undef] at h1
 obtain⟨ob',bP⟩:=hst.unghostG QS ht Wu QR yU;refine⟨_,_,q,q,rfl,rfl,?_⟩;obtain⟨z,u,w',hz,bO,I2,β2,ob2,oG⟩:=y3 (tr:=tr) (o:=o) (T:=q) (U:=q) (t0:=t) (E:=E) (es:=es) (vy:=a.eval y) (ty:=ty) (K:=K) bP hd (sq t y rfl) (by simp only[cG]) h
  (λys' e hu j hj hy hl=>(Mw hst y ys' hy).src hu hl)
 refine⟨z,u,w',hz,bO,?_⟩;obtain⟨e1,e2,e3⟩:=EP hst ht;have ej:(a.put (some d) u).tmps.size=n:=by simp only[Act.put,cu,eA];exact hst.size
 have hgt:(a.put (some d) u).tmps.getD t undef=v:=by rw[<- e1];show(a.tmps.set! d u).getD t undef=_;simp[au,cu,Array.getElem?_setIfInBounds,gz QS]
 rw[o0] at oG ⊢
 have cM:=oG.put t yU (v:=(a.put (some d) u).tmps.getD t undef) (x:=.c (.ex v)) (o:=none) (by rw[hgt];exact .ofC (.ex v e2 e3)) FreeOb.nothing;rw[mO (by rw[ej];exact yU)] at cM;have es:(S.after tr o { s with fr:=up (up s.fr d .un) t (.gs none E es) } z).put (some t) (.c (.ex v))=s.after tr o z:=by
  unfold S.after;rw[sq t y rfl,o0];have hu1:({ s with fr:=up (up s.fr d .un) t (.gs none E es) }:S).use (some t)=({ s with fr:=up (up s.fr d .un) t (.gs none E es) }:S).clr t:=by simp only[S.use,cG];rfl
  have hu2:s.use (some t)=s:=by simp only[S.use,ht];rfl
  rw[hu1,hu2];simp only[S.put,S.clr];congr 1;funext r;simp only[up];by_cases hr:r=t
  .subst hr;rw[if_pos rfl,if_neg QS];exact ht.symm
  .rw[if_neg hr,if_neg hr,if_neg hr]
   by_cases QO:r=d
   .simp only[if_pos QO]
   .simp only[if_neg QO]
 rw[es] at cM;exact⟨_,_,_,cM⟩
theorem ER {K:V->Prop} {args:List Operand} {ts:List TypeId} {ty:TypeId} (hst:St G n I0 M w0 I β ob s a w) (hd:∀ d,o.dst=some d->d<n) (sq:∀ t y,args=[.tmp t,y]->cL tr o=some t)
 (h:jl P G s o.dst ts args K):∃ X Y t t',args=[X,Y]/\ts=[t,t']/\∃ z u w',K z/\(Builtin.append_ #[t,t'] ty #[a.eval X,a.eval Y]).run P w=.ok u w'/\SE G n I0 M w0 (s.after tr o z) (a.put o.dst u) w':=by
 unfold jl at h;split at h
 .rename_i t y d o0
  split at h
  .rename_i v u E es ht Wu
   obtain⟨⟨QS,rfl,hyt,hyd⟩,h⟩:=h;have qt:∃ q q',ts=[q,q']:=by
    unfold eH at h;split at h<;>first | cases ‹Builtin.append=_› | skip
    .rename_i q q' x y cP;exact⟨_,_,rfl⟩
    .exact h.elim
   obtain⟨q,q',rfl⟩:=qt;have QR:d<n:=hd d o0;have yU:t<n:=by
    rcases cd t n with h' | h'
    .exact h'
    .exfalso
     obtain⟨e1,_,_⟩:=EP hst ht;have e0:a.tmps.getD t undef=undef:=(by rw[au,dx (by rw[hst.size];exact h')];rfl);have hg:=hst.fr d;rw[Wu] at hg;simp only[LR] at hg;rw[<- e1,e0] at hg;rcases hg.1.sl_inv with⟨⟨_,_,h1,_⟩,_⟩ | ⟨_,_,_,_,_,h1,_⟩<;>simp[undef] at h1
   obtain⟨ob',bP⟩:=hst.unghost QS ht Wu QR yU;refine⟨_,_,q,q',rfl,rfl,?_⟩;have hey:ev G { s with fr:=up (up s.fr d .un) t (.ow E es) } y=ev G s y:=by
    cases y with
    |tmp r=>have h1:r≠t:=λe=>hyt (by rw[e]);have h2:r≠d:=λe=>hyd (by rw[e]);simp only[ev,dp _ _ h1,dp _ _ h2]
    |_=>rfl
   have hvw:vw { s with fr:=up (up s.fr d .un) t (.ow E es) }=vw s:=rfl
   obtain⟨z,u,w',hz,bO,I2,β2,ob2,oG⟩:=AS (tr:=tr) (o:=o) (X:=.tmp t) (Y:=y) (t:=q) (t':=q') (ty:=ty) (K:=K) bP hd (sq t y rfl) (by
    rw[hey,hvw];have:vw s (ev G { s with fr:=up (up s.fr d .un) t (.ow E es) } (.tmp t))=.ow E es:=by simp only[ev,cG];rfl
    rw[this];exact h)
   refine⟨z,u,w',hz,bO,?_⟩;obtain⟨e1,e2,e3⟩:=EP hst ht;have ej:(a.put (some d) u).tmps.size=n:=(by simp only[Act.put,cu,eA];exact hst.size);have hgt:(a.put (some d) u).tmps.getD t undef=v:=(by rw[<- e1];show(a.tmps.set! d u).getD t undef=_;simp[au,cu,Array.getElem?_setIfInBounds,gz QS]);rw[o0] at oG ⊢
   have cM:=oG.put t yU (v:=(a.put (some d) u).tmps.getD t undef) (x:=.c (.ex v)) (o:=none) (by rw[hgt];exact .ofC (.ex v e2 e3)) FreeOb.nothing;rw[mO (by rw[ej];exact yU)] at cM;have es:(S.after tr o { s with fr:=up (up s.fr d .un) t (.ow E es) } z).put (some t) (.c (.ex v))=s.after tr o z:=by
    unfold S.after;rw[sq t y rfl,o0];have hu1:({ s with fr:=up (up s.fr d .un) t (.ow E es) }:S).use (some t)=({ s with fr:=up (up s.fr d .un) t (.ow E es) }:S).clr t:=by simp only[S.use,cG];rfl
    have hu2:s.use (some t)=s:=(by simp only[S.use,ht];rfl);rw[hu1,hu2];simp only[S.put,S.clr];congr 1;funext r;simp only[up];by_cases hr:r=t
    .subst hr;rw[if_pos rfl,if_neg QS];exact ht.symm
    .rw[if_neg hr,if_neg hr,if_neg hr]
     by_cases QO:r=d
     .simp only[if_pos QO]
     .simp only[if_neg QO]
   rw[es] at cM;exact⟨_,_,_,cM⟩
  .rename_i v u E es ht Wu
   obtain⟨⟨QS,rfl,hyt,hyd⟩,h⟩:=h;exact Od hst hd sq o0 ht Wu QS hyt hyd h
  .rename_i E es ht
   obtain⟨⟨QS,hyt⟩,h⟩:=h;have qt:∃ q q',ts=[q,q']:=by
    unfold nn at h;split at h
    .exact⟨_,_,rfl⟩
    .exact h.elim
   obtain⟨q,q',rfl⟩:=qt;have hqq:q=q':=(by simp only[nn] at h;exact h.1);subst hqq;refine⟨_,_,q,q,rfl,rfl,?_⟩;exact y3 (tr:=tr) (o:=o) (T:=q) (U:=q) (t0:=t) (E:=E) (es:=es) (vy:=a.eval y) (ty:=ty) (K:=K) hst hd (sq t y rfl) ht h (λys' e hu j hj hy hl=>(Mw hst y ys' hy).src hu hl)
  .exact h.elim
 .exact h.elim
theorem J9 {K:V->Prop} {args:List Operand} {ts:List TypeId} {ty:TypeId} (hst:St G n I0 M w0 I β ob s a w) (hd:∀ d,o.dst=some d->d<n) (sq:∀ t y,args=[.tmp t,y]->cL tr o=some t)
 (h:Er P G s o.dst ts args K):∃ X Y t t',args=[X,Y]/\ts=[t,t']/\∃ z u w',K z/\(Builtin.append_ #[t,t'] ty #[a.eval X,a.eval Y]).run P w=.ok u w'/\SE G n I0 M w0 (s.after tr o z) (a.put o.dst u) w':=False.elim h
theorem o6 {K:V->Prop} (hst:St G n I0 M w0 I β ob s a w) (hd:∀ d,o.dst=some d->d<n) (h:VYK P G tr o s K)
 (hk:∀ a' w' x,K x->SE G n I0 M w0 (s.after tr o x) a' w'->next a' w'):o.wp P a w next Q:=by
 have pure_:∀ {sem:Sem Value} {z:V} {u:Value},execOp a.eval o=(do pure (.value (<- sem)))->K z->LR (Wr M w0) I β w none u z->sem.run P w=.ok u w->o.wp P a w next Q:=by intro sem z u he hz iR bO;refine eV (v':=u) (w':=w) ?_ (hk _ _ _ hz (.fin0 hst hd iR));rw[he];simp[bO]
 have full:∀ {sem:Sem Value} {z:V} {u:Value} {w':World},execOp a.eval o=(do pure (.value (<- sem)))->K z->sem.run P w=.ok u w'->SE G n I0 M w0 (s.after tr o z) (a.put o.dst u) w'->o.wp P a w next Q:=by intro sem z u w' he hz bO cM;refine eV (v':=u) (w':=w') ?_ (hk _ _ _ hz cM);rw[he];simp[bO]
 obtain⟨dst,op,type,pos,after,guard⟩:=o;cases op<;>simp only[VYK] at h<;>try exact h.elim
 case move x=>
  have bO:(execOp a.eval { dst,op:=.move x,type,pos,after,guard }).run P w=.ok (.value (a.eval x)) w:=rfl;split at h
  .rename_i htr
   exact eV bO (hk _ _ _ h (Mo hst hd (x:=x) (by cases x<;>simp[cL,htr])))
  .exact eV bO (hk _ _ _ h (WZ hst hd x))
 case assign x=>have bO:(execOp a.eval { dst,op:=.assign x,type,pos,after,guard }).run P w=.ok (.value (a.eval x)) w:=rfl;exact eV bO (hk _ _ _ h (Mo hst hd (x:=x) (by cases x<;>simp[cL])))
 case pick c b b'=>
  split at h
  .rename_i p hc
   have QD:a.eval c=.bool p:=(by have:=bM hst c;rw[hc] at this;exact this.lit);refine eV (v':=if p then a.eval b else a.eval b') (w':=w) ?_ (hk _ _ _ h (.fin0 hst hd ?_))
   .simp[execOp,QD,asBool]
   .cases p
    .exact AG hst b'
    .exact AG hst b
  .exact h.elim
 case build T parts=>obtain⟨z,u,hz,iR,bO⟩:=ED hst h;exact pure_ rfl hz iR bO
 case buildSlice T len parts=>obtain⟨z,u,w',hz,bO,cM⟩:=wu (tr:=tr) hst hd h;exact full rfl hz bO cM
 case load T x=>obtain⟨z,u,hz,iR,bO⟩:=ta hst h (bM hst x);exact pure_ rfl hz iR bO
 case binOp op T x y yT=>obtain⟨u,hf,hz,bO⟩:=J3 h (bM hst x) (bM hst y) x y;exact pure_ rfl hz (.ofLit hf) bO
 case unOp op T x=>obtain⟨u,hf,hz,bO⟩:=N8 h (bM hst x);exact pure_ rfl hz (.ofLit hf) bO
 case convert src dst' x=>obtain⟨z,u,w',hz,bO,cM⟩:=G6 (tr:=tr) hst hd h (aao hst x);exact full rfl hz bO cM
 case makeFunc f first captured=>
  obtain⟨⟨h1,h2⟩,h⟩:=h;have pr:∀ (l:Array Operand),(l.toList.map (ev G s)).all V.isPR=true->∀ j x,(l.toList.map (ev G s))[j]?=some x->PR I β w ((l.map a.eval).getD j undef) x:=by
   intro l hl j x hx;have hm:=bn hx;have hp:=a8.1 hl x hm;simp only[bw,aZ] at hx;obtain⟨X,hX,rfl⟩:=hx;have iR:=bM hst X;have:(l.map a.eval).getD j undef=a.eval X:=(by rw[aY] at hX;simp[hX]);rw[this];cases hx:ev G s X<;>rw[hx] at hp iR<;>simp only[V.isPR] at hp<;>try cases hp
   .exact iR.toC
   .simp only[LR] at iR;exact iR
   .simp only[LR] at iR;exact iR
   .simp only[LR] at iR;exact iR
   .simp only[LR] at iR;exact iR
   .simp only[LR] at iR;exact iR
  refine eV (v':=.func f (first.map a.eval) (captured.map a.eval)) (w':=w) rfl (hk _ _ _ h (.fin0 hst hd ?_))
  simp only[LR];exact⟨_,_,rfl,by simp,by simp,pr first h1,pr captured h2⟩
 case lookup T x k ok=>obtain⟨z,u,hz,iR,bO⟩:=Ct hst h (bM hst x) (bM hst k);exact pure_ rfl hz iR bO
 case range T x=>obtain⟨z,u,w',hz,bO,cM⟩:=EO (tr:=tr) hst hd h (bM hst x);exact full rfl hz bO cM
 case entry x=>obtain⟨z,u,hz,iR,bO⟩:=EN hst h (bM hst x);exact pure_ rfl hz iR bO
 case nilCheck x=>
  have hx:=bM hst x;split at h
  .rename_i i o Aj
   rw[Aj] at hx;simp only[LR] at hx;obtain⟨blk,hβ,hv⟩:=hx;refine eV (v':=.pointer (some ⟨blk,o,none⟩)) (w':=w) ?_ (hk _ _ _ h (.fin0 hst hd (by simp only[LR];exact⟨blk,hβ,rfl⟩)));simp only[execOp,hv];rfl
  .rename_i cs k Aj
   rw[Aj] at hx;obtain⟨b,off,f,hv,_⟩:=hx.toC.rp_inv;refine eV (v':=a.eval x) (w':=w) ?_ (hk _ _ _ h (.fin0 hst hd (.ofC hx.toC)));simp only[execOp,hv];rfl
  .exact h.elim
 case slice T x lo hi mx=>obtain⟨z,u,hz,iR,bO⟩:=EG hst h (AG hst x);exact pure_ rfl hz iR bO
 case fieldAddr T x f=>obtain⟨z,u,hz,iR,bO⟩:=yg h (bM hst x);exact pure_ rfl hz iR bO
 case field T x f=>obtain⟨z,u,hz,iR,bO⟩:=EA h (bM hst x);exact pure_ rfl hz iR bO
 case indexAddr T x i=>obtain⟨z,u,hz,iR,bO⟩:=yh h (AG hst x) (bM hst i);exact pure_ rfl hz iR bO
 case index T x i=>obtain⟨z,u,hz,iR,bO⟩:=EB h (bM hst x) (bM hst i);exact pure_ rfl hz iR bO
 case extract x i=>
  split at h
  .rename_i ds hx
   split at h
   .rename_i d hdi
    have iR:=bM hst x;rw[hx] at iR;simp only[LR] at iR;generalize sX:a.eval x=vv at iR;cases iR with
    |tup vs _ h1 h2=>
     have bF:i<vs.size:=(by rw[h1];exact(am.1 hdi).1);have vA:=h2 i d hdi;refine pure_ (u:=vs.getD i undef) rfl h ?_ (by simp[sX,Instr.extract,aF bF]);generalize vs.getD i undef=vv' at vA;cases d<;>simp only[LR]<;>first | exact vA | (cases vA;done)
   .exact h.elim
  .exact h.elim
 case call c=>
  obtain⟨callee,args,ts⟩:=c;cases callee with
  |value f=>exact G7 (tr:=tr) (f:=f) (args:=args) (ts:=ts) rfl hst hd h hk
  |invoke r m=>exact h.elim
  |builtin b=>
   have xO:∀ sem:Sem Value,builtin b ts type (args.map λ| .const _=>true | _=>false) (args.map a.eval)=(do pure (.value (<- sem)))->
    execOp a.eval { dst,op:=.call { callee:=.builtin b,args:=args,argTypes:=ts },type,pos,after,guard }=(do pure (.value (<- sem))):=λsem hs=>by
    simp only[execOp,resolve,invoke,pure_bind];exact hs
   have u4:(b=.append/\((yd tr dst=true/\Er P G s dst ts.toList args.toList K)∨(AC tr dst=true/\jl P G s dst ts.toList args.toList K)∨(AC tr dst=false/\eH P .append ts.toList (args.toList.map λx=>vw s (ev G s x)) K)))∨(b≠.append/\eH P b ts.toList (args.toList.map (ev G s)) K):=by
    cases b<;>first | (refine .inl ⟨rfl,?_⟩;have h':(if AC tr dst then(if yd tr dst then Er P G s dst ts.toList args.toList K else jl P G s dst ts.toList args.toList K) else eH P .append ts.toList (args.toList.map λx=>vw s (ev G s x)) K):=h;by_cases hg:AC tr dst=true;(rw[if_pos hg] at h';by_cases GX:yd tr dst=true;(rw[if_pos GX] at h';exact .inl ⟨GX,h'⟩);(rw[if_neg GX] at h';exact .inr (.inl ⟨hg,h'⟩)));(rw[if_neg hg] at h';exact .inr (.inr ⟨by simpa using hg,h'⟩))) | exact .inr ⟨by simp,h⟩
   clear h;rcases u4 with⟨rfl,⟨_,h⟩ | ⟨_,h⟩ | ⟨_,h⟩⟩ | ⟨zO,h⟩
   .obtain⟨X,Y,t,t',hX,qt,z,u,w',hz,bO,cM⟩:=J9 (tr:=tr) (o:={ dst,op:=.call { callee:=.builtin .append,args:=args,argTypes:=ts },type,pos,after,guard }) (ty:=type) hst hd (args:=args.toList) (λt y hA=>by simp only[cL,hA]) h
    have e1:ts=#[t,t']:=dt qt;have e2:args.map a.eval=#[a.eval X,a.eval Y]:=(by apply dt;simp[hX]);subst e1;refine full (sem:=Builtin.append_ #[t,t'] type (args.map a.eval)) (xO _ rfl) hz ?_ cM;rw[e2];exact bO
   .obtain⟨X,Y,t,t',hX,qt,z,u,w',hz,bO,cM⟩:=ER (tr:=tr) (o:={ dst,op:=.call { callee:=.builtin .append,args:=args,argTypes:=ts },type,pos,after,guard }) (ty:=type) hst hd (args:=args.toList) (λt y hA=>by simp only[cL,hA]) h
    have e1:ts=#[t,t']:=dt qt;have e2:args.map a.eval=#[a.eval X,a.eval Y]:=(by apply dt;simp[hX]);subst e1;refine full (sem:=Builtin.append_ #[t,t'] type (args.map a.eval)) (xO _ rfl) hz ?_ cM;rw[e2];exact bO
   .have qt:∃ t t',ts.toList=[t,t']/\∃ X Y,args.toList=[X,Y]:=by
     unfold eH at h;split at h<;>first | cases ‹Builtin.append=_› | skip
     .rename_i t t' x y qt cP
      refine⟨t,t',qt,?_⟩;cases ha:args.toList with
      |nil=>simp[ha] at cP
      |cons X l=>
       cases l with
       |nil=>simp[ha] at cP
       |cons Y l=>simp only[ha,aN,cj,eG] at cP;exact⟨X,Y,by rw[cP.2.2]⟩
     .exact h.elim
    obtain⟨t,t',qt,X,Y,hX⟩:=qt;have e1:ts=#[t,t']:=dt qt;have e2:args.map a.eval=#[a.eval X,a.eval Y]:=(by apply dt;simp[hX]);subst e1;rw[hX] at h;obtain⟨z,u,w',hz,bO,cM⟩:=AS (tr:=tr) (o:={ dst,op:=.call { callee:=.builtin .append,args:=args,argTypes:=#[t,t'] },type,pos,after,guard }) (ty:=type) hst hd (by simp only[cL,hX];cases X<;>rfl) h;refine full (sem:=Builtin.append_ #[t,t'] type (args.map a.eval)) (xO _ rfl) hz ?_ cM;rw[e2];exact bO
   .unfold eH at h
    split at h
    .rename_i t x qt cP
     obtain⟨X,hX,rfl⟩:∃ X,args.toList=[X]/\x=ev G s X:=by
      cases ha:args.toList with
      |nil=>simp[ha] at cP
      |cons X l=>simp only[ha,aN,cj,eG] at cP;exact⟨X,by rw[cP.2],cP.1.symm⟩
     obtain⟨u,hf,hz,bO⟩:=J5 (ty:=type) h (bM hst X);have e1:ts=#[t]:=dt qt;have e2:args.map a.eval=#[a.eval X]:=(by apply dt;simp[hX]);subst e1;refine pure_ (sem:=Builtin.len_ #[t] type (args.map a.eval)) (xO _ rfl) hz (.ofLit hf) ?_;rw[e2];exact bO
    .exact absurd rfl zO
    .obtain⟨u,hf,hz,bO⟩:=AN (P:=P) (mx:=false) hst h
     exact pure_ (sem:=Builtin.min_ ts type (args.map a.eval)) (xO _ rfl) hz (.ofLit hf) bO
    .obtain⟨u,hf,hz,bO⟩:=AN (P:=P) (mx:=true) hst h
     exact pure_ (sem:=Builtin.max_ ts type (args.map a.eval)) (xO _ rfl) hz (.ofLit hf) bO
    .exact h.elim
