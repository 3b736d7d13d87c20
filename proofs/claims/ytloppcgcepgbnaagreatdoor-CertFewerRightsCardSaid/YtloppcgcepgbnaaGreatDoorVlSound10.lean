/- Values without memory: the operations keep the relation: append. -/
import Derived.Test.YtloppcgcepgbnaaGreatDoorVlSound5
import Derived.Deep.AppendSrc
import Derived.Conc.MuLone
import Derived.MapKept
import Derived.WideKeyRuns
set_option linter.all false
namespace Go.Vl
open Go Go.RowKit
section
variable {P:Program} {G:Gl} {tr:List Nat} {n:Nat} {I0:Ft} {M:Mx} {w0:World} {I:Ft} {β:Nat→Option Nat} {ob:Loc→Option Nat} {s:S} {a:Act} {w:World} {o:Oper}
 {next:Act→World→Prop} {Q:Exit→Act→World→Prop} {base:Nat→Prop} {v:Value} {x y:V} {K:V→Prop}
theorem UT {J:Ft} {b off sz sz':Nat} {es:List (List C)} {f:Nat→Nat→Value} (hs:∀ x∈es,x.length=sz) (D4:∀ e∈es,e.length=sz')
 (eQ:∀ i j,i<es.length→j<sz'→w.cell? ⟨b,off+i*sz'+j,none⟩=some (f i j)∧J b (off+i*sz'+j)) (pU:∀ i j e c,es[i]?=some e→e[j]?=some c→CR I w (f i j) c) :
 ∃ vs:List Value,vs.length=es.length*sz∧(∀ (q:Nat) (u:Value),vs[q]?=some u→w.cell? ⟨b,off+q,none⟩=some u∧J b (off+q))∧
  (∀ (q:Nat) (c:C),es.flatten[q]?=some c→∃ u,vs[q]?=some u∧CR I w u c)∧(∀ u∈vs,u.oneCell'=true):=by
 have kU:=bE es hs
 by_cases h0:es.length*sz=0
 ·refine⟨[],by simp[h0],by simp,fun q c hq=>?_,by simp⟩
  have:=(ae.1 hq).1
  omega
 have amV:0<sz:=Nat.pos_of_ne_zero fun e=>h0 (by simp[e])
 have Qc:0<es.length:=Nat.pos_of_ne_zero fun e=>h0 (by simp[e])
 have fC:sz'=sz:=by rw[← D4 es[0] (bM _),hs es[0] (bM _)]
 subst fC
 have jg:∀ q,q<es.length*sz'→q / sz'<es.length∧q % sz'<sz'∧q=q / sz'*sz'+q % sz':=fun q hq=>
  ⟨by rw[Nat.div_lt_iff_lt_mul amV];exact hq,kH _ amV,by rw[kJ];exact(Nat.div_add_mod q sz').symm⟩
 have tc:∀ (q:Nat) (c:C),es.flatten[q]?=some c→q<es.length*sz'∧CR I w (f (q / sz') (q % sz')) c:=fun q c hq=>by
  have bV:=(ae.1 hq).1
  rw[kU] at bV
  obtain⟨h1,h2,h3⟩:=jg q bV
  rw[h3,mo es hs _ _ h2] at hq
  simp only[ab h1,js] at hq
  exact⟨bV,pU _ _ _ c (ab h1) hq⟩
 refine⟨(List.range (es.length*sz')).map fun q=>f (q / sz') (q % sz'),by simp,fun q u hq=>?_,fun q c hq=>?_,fun u hu=>?_⟩
 ·simp only[ba,aU] at hq
  obtain⟨q',Uf,rfl⟩:=hq
  have bV:=(ae.1 Uf).1
  simp at bV
  have hqq:q'=q:=by have:=(ae.1 Uf).2;simpa using this.symm
  subst hqq
  obtain⟨h1,h2,h3⟩:=jg q' bV
  have:=eQ _ _ h1 h2
  rw[dI,← h3] at this
  exact this
 ·obtain⟨bV,jn⟩:=tc q c hq
  exact⟨_,by simp[bV],jn⟩
 ·simp only[bA,db] at hu
  obtain⟨q,hq,rfl⟩:=hu
  obtain⟨c,hc⟩:∃ c,es.flatten[q]?=some c:=⟨_,ab (by omega)⟩
  exact(tc q c hc).2.oneCell
theorem CR.flat {b off cap sz:Nat} {es:List (List C)} (h:CR I w (.slice (some ⟨b,off,none⟩) es.length cap) (.sl es)) (hs:∀ x∈es,x.length=sz) :
 ∃ vs:List Value,vs.length=es.length*sz∧(∀ (q:Nat) (u:Value),vs[q]?=some u→w.cell? ⟨b,off+q,none⟩=some u∧I b (off+q))∧
  (∀ (q:Nat) (c:C),es.flatten[q]?=some c→∃ u,vs[q]?=some u∧CR I w u c)∧(∀ u∈vs,u.oneCell'=true):=by
 rcases h.sl_inv with⟨_,rfl⟩ | ⟨b',off',cap',sz',f,hv,ky,D4,eQ,pU⟩
 ·exact⟨[],by simp,by simp,by simp,by simp⟩
 simp only[eH,ai,iz,gj,ia] at hv
 obtain⟨⟨rfl,rfl⟩,rfl⟩:=hv
 exact UT hs D4 eQ pU
theorem CR.oldsOf {xa:Addr} {cap sz:Nat} {es:List (List C)} (h:CR I w (.slice (some xa) es.length cap) (.sl es)) (hs:∀ x∈es,x.length=sz) :
 ∃ vs:List Value,vs.length=es.length*sz∧(∀ (q:Nat) (u:Value),vs[q]?=some u→w.cell? (xa.add q)=some u)∧
  (∀ (q:Nat) (c:C),es.flatten[q]?=some c→∃ u,vs[q]?=some u∧CR I w u c)∧(∀ u∈vs,u.oneCell'=true):=by
 by_cases gK:es=[]
 ·subst gK;exact⟨[],by simp,by simp,by simp,by simp⟩
 ·rcases h.sl_inv with⟨_,h0⟩ | ⟨b,off,cap',_,_,hv,_⟩
  ·exact absurd h0 gK
  ·simp only[eH,ai] at hv
   obtain⟨rfl,_,_⟩:=hv
   obtain⟨vs,h1,h2,h3,h4⟩:=h.flat hs
   exact⟨vs,h1,fun q u hq=>by rw[cX];exact(h2 q u hq).1,h3,h4⟩
theorem RD.flat {b off cap sz:Nat} {es:List (List C)} (h:RD I w (.slice (some ⟨b,off,none⟩) es.length cap) es) (hs:∀ x∈es,x.length=sz) :
 ∃ vs:List Value,vs.length=es.length*sz∧(∀ (q:Nat) (u:Value),vs[q]?=some u→w.cell? ⟨b,off+q,none⟩=some u∧True)∧
  (∀ (q:Nat) (c:C),es.flatten[q]?=some c→∃ u,vs[q]?=some u∧CR I w u c)∧(∀ u∈vs,u.oneCell'=true):=by
 rcases h with⟨_,rfl⟩ | ⟨b',off',cap',sz',f,hv,ky,D4,eQ,pU⟩
 ·exact⟨[],by simp,by simp,by simp,by simp⟩
 simp only[eH,ai,iz,gj,ia] at hv
 obtain⟨⟨rfl,rfl⟩,rfl⟩:=hv
 exact UT (J:=fun _ _=>True) hs D4 (fun i j hi hj=>⟨eQ i j hi hj,trivial⟩) pU
theorem RD.some' {a':Option Addr} {n m:Nat} {es:List (List C)} (h:RD I w (.slice a' n m) es) (gK:es≠[]):∃ b off,a'=some ⟨b,off,none⟩:=by
 rcases h with⟨_,h0⟩ | ⟨b,off,cap,sz,f,hv,_⟩
 ·exact absurd h0 gK
 ·cases hv;exact⟨b,off,rfl⟩
theorem St.growRow (h:St G n I0 M w0 I β ob s a w) {w':World} {r:Nat} (hg:w.grb w' (some r)) (hr:Wr M w0 r) (eQ:∀ o,I r o→w'.cell? ⟨r,o,none⟩=w.cell? ⟨r,o,none⟩)
 (j4:∀ L,ob L≠some r) (hβ:∀ i,β i≠some r) {I':Ft} (h1:∀ b o,I b o→I' b o) (h2:∀ b o,I' b o→I b o∨b=r) (bV:r<w'.heap.size):St G n I0 M w0 I' β ob s a w':=by
 have hk:=h.keeps hg (fun r' e o ho=>by cases e;exact eQ o ho)
 have hI:∀ b o,I b o→I' b o∧w'.cell? ⟨b,o,none⟩=w.cell? ⟨b,o,none⟩:=fun b o hb=>⟨h1 b o hb,hk b o hb⟩
 have w9:∀ L b,ob L=some b→w'.heap[b]?=w.heap[b]?∧∀ o,I' b o→I b o:=fun L b hL=>by
  have gK:b≠r:=fun e=>j4 L (e▸hL)
  refine⟨hg.block b (h.obnd L b hL).1 (by simpa using gK),fun o ho=>?_⟩
  rcases h2 b o ho with h5 | h5
  ·exact h5
  ·exact absurd h5 gK
 exact {
  size:=h.size,defers:=h.defers
  below:=h.below.grown hg (fun k e=>by cases e;exact hr)
  kept:=fun b o h0=>(hk b o (h.ilow b o h0)).trans (h.kept b o h0)
  ilow:=fun b o hb=>h1 b o (h.ilow b o hb)
  ihigh:=fun b o hb=>by
   rcases h2 b o hb with h3 | h3
   ·exact h.ihigh b o h3
   ·exact .inr (by rw[h3];exact hr)
  ibnd:=fun b o hb=>by
   rcases h2 b o hb with h3 | h3
   ·exact bW (h.ibnd b o h3) hg.size
   ·rw[h3];exact bV
  fr:=fun t=>(h.fr t).mono hI (fun _ _ e=>e) (w9 (.t t))
  bx:=fun i hi=>by
   obtain⟨blk,cur,e1,e2,e3,e4,e5,e7⟩:=h.bx i hi
   have aj1:blk<w.heap.size:=e3.lt
   have gK:blk≠r:=fun e=>hβ i (e▸e1)
   refine⟨blk,cur,e1,e2,e3.mono (hg.block blk aj1 (by simpa using gK)),e4,fun j=>(e5 j).mono hI (fun _ _ e=>e) (w9 (.b i j)),fun o ho=>?_⟩
   rcases h2 blk o ho with h3 | h3
   ·exact e7 o h3
   ·exact gK h3
  bnone:=h.bnone,ext:=h.ext,bnew:=h.bnew,binj:=h.binj,oinj:=h.oinj,obx:=h.obx
  obnd:=fun L b hL=>⟨bW (h.obnd L b hL).1 hg.size,(h.obnd L b hL).2⟩
  glob:=fun g cs Z2=>(h.glob g cs Z2).mono hI }
theorem lu (olds news:List Value) (z:Array Value) (j:Nat) (u:Value) (h:(olds++news)[j]?=some u):(olds.toArray++news.toArray++z).getD j undef=u:=by
 have bV:=(ae.1 h).1
 simp at bV
 have:(olds.toArray++news.toArray++z)[j]?=some u:=by
  rw[ew (by simp;omega)]
  simpa using h
 rw[ah,this];rfl
theorem lT (T U ty e:TypeId) (i:TypeInfo) (ht:P.underlying T=some (.slice e)) (hi:P.info? e=some i) (b:Option Addr) (k cap:Nat) (hk:k≤cap) {x:Value} (hs:Src P i.size U x 0 [] w) :
 (Builtin.append_ #[T,U] ty #[.slice b k cap,x]).run P w=.ok (.slice b k cap) w:=by
 have hf:(Builtin.firstCells i.size 0 x).run P w=.ok #[] w:=hs.cells
 unfold Builtin.append_
 rcases hs.kind with⟨e',Um⟩ | Um<;>cases b<;>simp[aP ht,aP Um,sizeOf,typeInfo,hi,hs.len,hk,hf,storeCells]
theorem fH (g o:Nat) (T:RT):∀ (vs:List Value) (i:Nat) (cur:Array Value) (w:World),w.heap[g]?=some (.cells cur T.t T.fz)→T.ok cur.size→o+i+vs.length≤cur.size→(∀ v∈vs,v.oneCell'=true)→
 (storeCells ⟨g,o,none⟩ vs i).run P w=.ok () (w.setRow g (cur.toList.take (o+i)++vs++cur.toList.drop (o+i+vs.length)).toArray)
 |[],i,cur,w,hg,_,_,_=>by
  simp only[storeCells,ee,aB,eI,dh,Array.toArray_toList]
  rw[setRow_self w g cur T.t T.fz hg]
  rfl
 |v::rest,i,cur,w,hg,hT,hl,h1=>by
  have hi:o+i<cur.size:=by simp at hl;omega
  have D3:(⟨g,o,none⟩:Addr).add i=⟨g,o+i,none⟩:=by unfold Addr.add;split<;>simp_all
  have eQ:w.cell? ⟨g,o+i,none⟩=some cur[o+i]:=by simp[World.cell?,hg,hi]
  have ape:w.frozen? ⟨g,o+i,none⟩=false:=by
   obtain⟨tt,lo,rQ⟩:=T
   simp only[World.frozen?,hg,Bool.and_eq_false_iff,dc]
   unfold RT.ok at hT
   simp only at hT
   omega
  have hst:(store ((⟨g,o,none⟩:Addr).add i) v).run P w=.ok () (w.setRow g (cur.setIfInBounds (o+i) v)):=by
   rw[D3,run_store P w _ v _ (h1 v (by simp)),eQ]
   simp[ape,setCell_eq_setRow w g (o+i) cur T.t T.fz v hg]
  have ih:=fH g o T rest (i+1) (cur.setIfInBounds (o+i) v) (w.setRow g (cur.setIfInBounds (o+i) v)) (lJ w g cur _ T.t _ hg) (by simpa using hT) (by simp at hl ⊢;omega) (fun x hx=>h1 x (by simp[hx]))
  simp only[storeCells,aC,hst,aw,ih,setRow_setRow]
  congr 3
  have e:=list_seg_step cur.toList (o+i) v rest (by simp at hl ⊢;omega)
  simpa[Array.toList_setIfInBounds,dI] using e
theorem iY (t tx ty e:TypeId) (i:TypeInfo) (ht:P.underlying t=some (.slice e)) (hi:P.info? e=some i) (g off sLen sCap:Nat) (cur:Array Value) (T:RT) (hg:w.heap[g]?=some (.cells cur T.t T.fz)) (hT:T.ok cur.size)
 (x:Value) (n:Nat) (news:List Value) (hs:Src P i.size tx x n news w) (mJ:sLen+n≤sCap) (sO:off+sLen*i.size+news.length≤cur.size) :
 (Builtin.append_ #[t,tx] ty #[.slice (some ⟨g,off,none⟩) sLen sCap,x]).run P w=
  .ok (.slice (some ⟨g,off,none⟩) (sLen+n) sCap) (w.setRow g (cur.toList.take (off+sLen*i.size)++news++cur.toList.drop (off+sLen*i.size+news.length)).toArray):=by
 have hst:=fH (P:=P) g (off+sLen*i.size) T news 0 cur w hg hT (by simpa using sO) hs.one
 simp only[eI] at hst
 rcases hs.kind with⟨e',hk⟩ | hk<;>simp[Builtin.append_,aP ht,aP hk,sizeOf,typeInfo,hi,hs.len,mJ,hs.cells,cX,hst]
def Ik (P:Program) (I:Ft) (w:World) (U:TypeId) (v:Value) (sz:Nat) (ys:List (List C)):Prop:=
 ∃ news:List Value,Src P sz U v ys.length news w∧∀ (q:Nat) (c:C),ys.flatten[q]?=some c→∃ u:Value,news[q]?=some u∧CR I w u c
theorem RD.src {U e':TypeId} {v:Value} {sz:Nat} {ys:List (List C)} (h:RD I w v ys) (hu:P.underlying U=some (.slice e')) (hs:∀ x∈ys,x.length=sz):Ik P I w U v sz ys:=by
 rcases h with⟨⟨a0,c0,rfl,hc0⟩,rfl⟩ | ⟨b,off,cap,szx,f,rfl,ky,h1⟩
 ·cases a0 with
  |none=>exact⟨[],Src.ofNil w hu c0,by simp⟩
  |some x=>exact⟨[],Src.ofSlice w hu x 0 c0 [] (by simp) (by simp) (by simp),by simp⟩
 ·have h':RD I w (.slice (some ⟨b,off,none⟩) ys.length cap) ys:=.inr ⟨b,off,cap,szx,f,rfl,ky,h1⟩
  obtain⟨news,uG,LC,LS,Uw⟩:=h'.flat hs
  exact⟨news,Src.ofSlice w hu ⟨b,off,none⟩ _ _ news uG (fun q u hq=>by rw[cX];exact(LC q u hq).1) Uw,LS⟩
theorem aaI {U:TypeId} {st:ByteArray} (hu:P.underlying U=some .string):Ik P I w U (.string st) 1 (kC st):=by
 have hl:(kC st).length=st.size:=by simp[kC]
 refine⟨Go.byteCells st,by rw[hl];exact Src.ofString w hu st,fun q c hq=>?_⟩
 have:=mo (sz:=1) (kC st) (by simp[kC]) q 0 (by omega)
 rw[Nat.mul_one,eI] at this
 rw[this] at hq
 simp only[kC,ba] at hq
 unfold Go.byteCells
 rw[ba]
 cases hb:st.data.toList[q]? with
 |none=>simp[hb] at hq
 |some b=>
  simp only[hb,cD,js,bJ,ai] at hq
  exact⟨_,rfl,by rw[← hq];exact .lit _ rfl⟩
theorem Dx {T U ty:TypeId} {X:Operand} {vy:Value} (hst:St G n I0 M w0 I β ob s a w) (hd:∀ d,o.dst=some d→d<n)
 (sQ:bU tr o=(match X with | .tmp t=>some t | _=>none)) (h:eR P T (ev G s X) y K) (hy:∀ ys e,P.underlying T=some (.slice e)→∀ j,ti P e=some j→y=.c (.sl ys)→(∀ x∈ys,x.length=j.size)→Ik P I w U vy j.size ys) :
 ∃ z u w',K z∧(Builtin.append_ #[T,U] ty #[a.eval X,vy]).run P w=.ok u w'∧SE G n I0 M w0 (s.after tr o z) (a.put o.dst u) w':=by
 have hx:=bD hst X
 unfold eR at h
 split at h
 ·rename_i e _ _ _ _ _ _ E es hi rR
  rw[rR] at hx
  obtain⟨j,d,h1,h2,h3,_⟩:=bu hi
  have pT:=dq h3
  subst pT
  split at h
  ·rename_i sz by_ _ z _ _ tu
   obtain⟨j',d',jR,oJ,_,eP,rO,_,nj,_⟩:=bu tu
   simp only at nj eP rO
   obtain⟨⟨hp,vo,hE,pV⟩,h⟩:=h
   split at nj
   ·rename_i zv ta
    split at h
    ·rename_i ys
     obtain⟨⟨hb,cn,uF⟩,h⟩:=h
     obtain⟨news,qZ,LS⟩:=hy ys e h2 _ tu rfl uF
     simp only at qZ
     have sM:=ln (I:=I) (w:=w) nj.symm
     have Ue:zv.cells.size=sz:=by rw[sM.1,vo]
     have Z4:=hx.2
     have qF:=hx.1
     have FA:(ev G s X).isOw=true:=by rw[rR];rfl
     by_cases Az:ys=[]
     ·
      subst Az
      simp only[List.isEmpty_nil,dn] at h
      obtain⟨xa,xk,yy,hxk⟩:∃ (xa:Option Addr) (xk:Nat),a.eval X=.slice xa es.length xk∧es.length≤xk:=by
       rcases Z4 with⟨_,_,b,hv⟩ | ⟨_,blk,cap,_,_,_,_,hv,_,_,hc,_⟩
       ·exact⟨b,_,hv,ar _⟩
       ·exact⟨_,cap,hv,hc⟩
      refine⟨_,a.eval X,w,h,by
       have hn0:news=[]:=cY (by rw[qZ.newsLen];simp)
       subst hn0
       rw[yy];exact lT T U ty e j' h2 jR xa _ xk hxk (by rw[← eP];exact qZ),?_⟩
      rw[ee]
      refine .fin hst hd (o':=UN ob X) ?_ fun b hb=>?_
      ·simp only[LR]
       refine⟨qF,?_⟩
       rcases Z4 with Z4 | ⟨e',blk,cap,cur,sz',e1,e2,e3⟩
       ·exact .inl Z4
       ·exact .inr ⟨e',blk,cap,cur,sz',e1,e2,e3⟩
      ·cases X with
       |tmp t=>exact⟨hst.obnd _ b hb,fun i=>hst.obx _ b i hb,fun L hL=>⟨t,hst.oinj _ _ b hL hb,sQ,FA⟩⟩
       |_=>cases hb
     ·have ra:ys.isEmpty=false:=by simpa using Az
      simp only[ra,aI,dj] at h
      have uG:=qZ.newsLen
      have Uw:=qZ.one
      have pW:Src P j'.size U vy ys.length news w:=by rw[← eP];exact qZ
      have grun:∀ (base:Option Addr) (sLen sCap:Nat) (olds:List Value) (_:(Builtin.firstCells j'.size sLen (.slice base sLen sCap)).run P w.drew=.ok olds.toArray w.drew) (_:sCap<sLen+ys.length) (_:sLen+ys.length≤9223372036854775807) (_:Builtin.nextslicecap (sLen+ys.length) sCap*j'.bytes≤281474976710656),
       (Builtin.append_ #[T,U] ty #[.slice base sLen sCap,vy]).run P w=.ok (.slice (some ⟨w.heap.size,0,none⟩) (sLen+ys.length) (grownCap w (sLen+ys.length) sCap e))
        (w.drew.alloc (.cells (olds.toArray++news.toArray++Builtin.zeroCells zv.cells (grownCap w (sLen+ys.length) sCap e - (sLen+ys.length))) e)):=by
       intro base sLen sCap olds ho hg h63 sO
       have:=run_append_grow_src (P:=P) w T U ty e j' zv h2 jR ta base sLen sCap olds ho vy ys.length news pW hg (by omega) sO
       rw[this];simp
      have OE:0<ys.length:=fm.2 Az
      have en:∀ x∈es++ys,x.length=sz:=fun x hx=>by rcases aZ.1 hx with hx | hx;exact pV x hx;exact uF x hx
      have Df:es.length+ys.length≤maxLen:=by unfold maxLen;omega
      have flat_eq:(es++ys).flatten=es.flatten++ys.flatten:=by simp
      have hfe:=bE es pV
      have grownCase:∀ (olds:List Value) (cap0:Nat),olds.length=es.length*sz→(∀ (q:Nat) (c:C),es.flatten[q]?=some c→∃ u,olds[q]?=some u∧CR I w u c)→
       SE G n I0 M w0 (s.after tr o (.ow (some (e,sz)) (es++ys))) (a.put o.dst (.slice (some ⟨w.heap.size,0,none⟩) (es.length+ys.length) (grownCap w (es.length+ys.length) cap0 e)))
        (w.drew.alloc (.cells (olds.toArray++news.toArray++Builtin.zeroCells zv.cells (grownCap w (es.length+ys.length) cap0 e - (es.length+ys.length))) e)):=by
       intro olds cap0 AB Dn
       have jA:=grownCap_ge w (es.length+ys.length) cap0 e
       have Z5:=grownCap_le_maxLen w (es.length+ys.length) cap0 e Df
       have:=SE.finRow (tr:=tr) (o:=o) (e:=e) (cap:=grownCap w (es.length+ys.length) cap0 e) (sz:=sz) (es:=es++ys)
        (cur:=olds.toArray++news.toArray++Builtin.zeroCells zv.cells (grownCap w (es.length+ys.length) cap0 e - (es.length+ys.length))) hst hd (w1:=w.drew) hst.drew rfl
        (by simpa using jA) Z5 (by
         simp only[Array.size_append,eJ,size_zeroCells,Ue,AB,uG,← c8]
         congr 1
         omega) en (fun q c hq=>by
          rw[flat_eq] at hq
          have oK:∃ u,(olds++news)[q]?=some u∧CR I w u c:=by
           by_cases nr:q<es.flatten.length
           ·rw[az nr] at hq
            obtain⟨u,hu,jn⟩:=Dn q c hq
            exact⟨u,by rw[az (by omega)];exact hu,jn⟩
           ·rw[aF (by omega)] at hq
            obtain⟨u,hu,jn⟩:=LS _ c hq
            refine⟨u,?_,jn⟩
            rw[aF (by omega),← hu]
            congr 1;omega
          obtain⟨u,hu,jn⟩:=oK
          rw[lu olds news _ q u hu];exact jn) (fun _ _ _=>rfl)
       rw[aj] at this
       exact this
      rcases Z4 with⟨hob0,_,xa,yy⟩ | ⟨e',blk,cap,cur,sz',OF,LP,yy,Qp,gP,hc,Z5,jo,dQ,hIb⟩
      ·cases xa with
       |none=>
        have HU:es=[]:=by
         rcases qF.sl_inv with⟨_,h1⟩ | ⟨b,off,cap,_,_,hv,_⟩
         ·exact h1
         ·rw[yy] at hv;cases hv
        subst HU
        have bH:=grun none 0 0 [] (by simpa using run_firstCells_none (P:=P) w.drew j'.size 0 0 0) (by simp only[aB,aK] at cn;omega) (by simp only[aB,aK] at cn;omega)
         (by rw[← rO];simp only[aB] at hb;exact iF (by omega) hb)
        simp only[aK] at bH
        have:=grownCase [] 0 (by simp) (by simp)
        simp only[dP,aB,aK,eL] at this h
        refine⟨_,_,_,h,by rw[yy];exact bH,?_⟩
        simpa using this
       |some xaddr=>
        rw[yy] at qF
        obtain⟨olds,AB,holds,Dn,_⟩:=qF.oldsOf pV
        have bH:=grun (some xaddr) es.length es.length olds (ji (P:=P) w.drew j'.size es.length xaddr es.length es.length olds (by rw[← eP];exact AB) (by simpa using holds)) (by omega) (by omega) (by rw[← rO];exact iF (by omega) hb)
        exact⟨_,_,_,h,by rw[yy];exact bH,grownCase olds es.length AB Dn⟩
      ·have hee:e'=e∧sz'=sz:=by
        rcases hE with hE | hE
        ·rw[hE] at LP;cases LP
        ·rw[hE] at LP;cases LP;exact⟨rfl,rfl⟩
       obtain⟨rfl,rfl⟩:=hee
       rw[yy] at qF
       obtain⟨olds,AB,holds,Dn,_⟩:=qF.flat pV
       by_cases mJ:es.length+ys.length≤cap
       ·
        cases X with
        |tmp t=>
         have tw:ob (.t t)=some blk:=OF
         have bH:=iY (P:=P) (w:=w) T U ty e' j' h2 jR blk 0 es.length cap cur (.of e') gP RT.of_ok vy ys.length news pW mJ (by
          rw[← eP,uG,jo,aK,← c8];exact aL _ mJ)
         rw[← eP] at bH
         simp only[aK] at bH
         refine⟨_,_,_,h,by rw[yy];exact bH,?_⟩
         have xb:blk<w.heap.size:=(bf.1 gP).1
         have Qe:es.length*sz'+news.length≤cur.size:=by
          rw[uG,jo,← c8];exact aL _ mJ
         have cy:=hst.clr t
         have vE:∀ o,o<es.length*sz'→(cur.toList.take (es.length*sz')++news++cur.toList.drop (es.length*sz'+news.length)).toArray[o]?=cur[o]?:=fun o ho=>by
          simp only[di,bw]
          rw[az (by simp;omega),ck,if_pos ho,aO]
         have mI:∀ o,I blk o→(w.setRow blk (cur.toList.take (es.length*sz')++news++cur.toList.drop (es.length*sz'+news.length)).toArray).cell? ⟨blk,o,none⟩=w.cell? ⟨blk,o,none⟩:=fun o ho=>by
          rw[cell_setRow_same w blk o cur _ e' (0,0) gP,eZ w blk o cur e' (0,0) gP]
          exact vE o (hIb o ho)
         have Z6:∀ L,upL ob (.t t) none L≠some blk:=fun L hL=>by
          simp only[upL] at hL
          split at hL
          ·cases hL
          ·rename_i gK;exact gK (hst.oinj _ _ blk hL tw)
         have hg:w.grb (w.setRow blk (cur.toList.take (es.length*sz')++news++cur.toList.drop (es.length*sz'+news.length)).toArray) (some blk):=
          ⟨rfl,rfl,rfl,by simp,fun k _ hk=>jT w blk k _ (fun e=>hk (by rw[e])),ar _⟩
         have pg:=cy.growRow hg Qp mI Z6 (fun i=>hst.obx _ blk i tw) (I':=fun b o=>I b o∨(b=blk∧o<(es.length+ys.length)*sz'))
          (fun _ _ h=>.inl h) (fun b o hb=>by rcases hb with hb | hb;exact .inl hb;exact .inr hb.1) (by simpa using xb)
         have kB:∀ b o,I b o→(I b o∨(b=blk∧o<(es.length+ys.length)*sz'))∧
          (w.setRow blk (cur.toList.take (es.length*sz')++news++cur.toList.drop (es.length*sz'+news.length)).toArray).cell? ⟨b,o,none⟩=w.cell? ⟨b,o,none⟩:=
          fun b o hb=>⟨.inl hb,hst.keeps hg (fun r e o ho=>by cases e;exact mI o ho) b o hb⟩
         have rP:=lJ w blk cur (cur.toList.take (es.length*sz')++news++cur.toList.drop (es.length*sz'+news.length)).toArray e' (0,0) gP
         have FB:(cur.toList.take (es.length*sz')++news++cur.toList.drop (es.length*sz'+news.length)).toArray.size=cap*sz':=by
          simp only[eJ,aj,aG,b9,bK];omega
         have jn:CR (fun b o=>I b o∨(b=blk∧o<(es.length+ys.length)*sz')) (w.setRow blk (cur.toList.take (es.length*sz')++news++cur.toList.drop (es.length*sz'+news.length)).toArray)
          (.slice (some ⟨blk,0,none⟩) (es++ys).length cap) (.sl (es++ys)):=
          CR.row rP (by simpa using mJ) en (fun q c hq=>by
           have nr:=(ae.1 hq).1
           rw[bE _ en,aj,c8] at nr
           refine⟨by rw[FB,← jo];omega,?_⟩
           rw[flat_eq] at hq
           by_cases hq1:q<es.flatten.length
           ·rw[az hq1] at hq
            obtain⟨u,hu,jn⟩:=Dn q c hq
            have eQ:=(holds q u hu).1
            rw[aK,eZ w blk q cur e' (0,0) gP] at eQ
            rw[ah,vE q (by omega),eQ]
            exact jn.mono kB
           ·rw[aF (by omega)] at hq
            obtain⟨u,hu,jn⟩:=LS _ c hq
            have:(cur.toList.take (es.length*sz')++news++cur.toList.drop (es.length*sz'+news.length)).toArray[q]?=some u:=by
             simp only[di]
             have Qf:(cur.toList.take (es.length*sz')).length=es.length*sz':=by
              have kf:cur.toList.length=cur.size:=bK
              rw[aG,kf];omega
             rw[az (by rw[aj,Qf];omega),aF (by rw[Qf];omega),← hu,Qf,hfe]
            rw[ah,this]
            exact jn.mono kB) (fun o ho=>.inr ⟨rfl,by simpa using ho⟩)
         have Dh:s.after tr o (.ow (some (e',sz')) (es++ys))=(s.clr t).put o.dst (.ow (some (e',sz')) (es++ys)):=by
          unfold S.after
          rw[sQ]
          simp only[S.use]
          have:(s.fr t).isOw=true:=FA
          rw[if_pos this]
         rw[Dh]
         cases lF:o.dst with
         |none=>exact⟨_,_,_,pg⟩
         |some dd=>
          refine⟨_,_,_,pg.put dd (hd dd lF) (o:=some blk) ?_ fun b hb=>?_⟩
          ·have HW:Value.slice (some ⟨blk,0,none⟩) (es.length+ys.length) cap=Value.slice (some ⟨blk,0,none⟩) (es++ys).length cap:=by rw[aj]
           rw[HW]
           simp only[LR]
           refine⟨jn,.inr ⟨e',blk,cap,_,sz',rfl,rfl,rfl,Qp,rP,by simpa using mJ,Z5,FB,en,fun o ho=>?_⟩⟩
           rw[aj]
           rcases ho with ho | ho
           ·have:=hIb o ho;rw[c8];omega
           ·exact ho.2
          ·simp only[ai] at hb
           subst hb
           refine⟨⟨by simpa using xb,Qp⟩,fun L hL=>?_,fun i=>hst.obx _ blk i tw⟩
           simp only[upL] at hL
           split at hL
           ·cases hL
           ·split at hL
            ·cases hL
            ·rename_i h5 h6;exact h6 (hst.oinj _ _ blk hL tw)
        |_=>cases OF
       ·have bH:=grun (some ⟨blk,0,none⟩) es.length cap olds (ji (P:=P) w.drew j'.size es.length ⟨blk,0,none⟩ es.length cap olds (by rw[← eP];exact AB) (fun q u hq=>by rw[cX];simpa using(holds q u hq).1)) (by omega) (by omega) (by rw[← rO];exact iF (by omega) hb)
        exact⟨_,_,_,h,by rw[yy];exact bH,grownCase olds cap AB Dn⟩
    ·exact h.elim
   ·cases nj
  ·exact h.elim
 ·exact h.elim
theorem Il {T U ty:TypeId} {t0:Tmp} {E:Option (TypeId×Nat)} {es:List (List C)} {vy:Value} (hst:St G n I0 M w0 I β ob s a w) (hd:∀ d,o.dst=some d→d<n)
 (sQ:bU tr o=some t0) (rR:s.fr t0=.ow E es) (h:vK P [T,U] E es y K) (hy:∀ ys e,P.underlying T=some (.slice e)→∀ j,ti P e=some j→y=.c (.sl ys)→(∀ x∈ys,x.length=j.size)→Ik P I w U vy j.size ys) :
 ∃ z u w',K z∧(Builtin.append_ #[T,U] ty #[a.tmps.getD t0 undef,vy]).run P w=.ok u w'∧SE G n I0 M w0 (s.after tr o z) (a.put o.dst u) w':=by
 have hx:=hst.fr t0
 rw[rR] at hx
 simp only[vK] at h
 obtain⟨rfl,h⟩:=h
 split at h
 ·rename_i e _ _ _ _ _ _ hi
  obtain⟨j,d,h1,h2,h3,_⟩:=bu hi
  have pT:=dq h3
  subst pT
  split at h
  ·rename_i sz by_ _ z _ _ tu
   obtain⟨j',d',jR,oJ,_,eP,rO,_,nj,_⟩:=bu tu
   simp only at nj eP rO
   obtain⟨⟨hp,vo,hE,pV⟩,h⟩:=h
   split at nj
   ·rename_i zv ta
    split at h
    ·rename_i y1
     obtain⟨⟨hb,cn,H5⟩,h⟩:=h
     have uF:∀ x∈[y1],x.length=sz:=fun x hx=>by rw[aW] at hx;subst hx;exact H5
     obtain⟨news,qZ,LS⟩:=hy [y1] e h2 _ tu rfl uF
     simp only at qZ
     have sM:=ln (I:=I) (w:=w) nj.symm
     have Ue:zv.cells.size=sz:=by rw[sM.1,vo]
     have Z4:=hx.2
     have qF:=hx.1
     have FA:(s.fr t0).isOw=true:=by rw[rR];rfl
     have Az:([y1]:List (List C))≠[]:=by simp
     have uG:=qZ.newsLen
     have Uw:=qZ.one
     have pW:Src P j'.size T vy [y1].length news w:=by rw[← eP];exact qZ
     have grun:∀ (base:Option Addr) (sLen sCap:Nat) (olds:List Value) (_:(Builtin.firstCells j'.size sLen (.slice base sLen sCap)).run P w.drew=.ok olds.toArray w.drew) (_:sCap<sLen+[y1].length) (_:sLen+[y1].length≤9223372036854775807) (_:Builtin.nextslicecap (sLen+[y1].length) sCap*j'.bytes≤281474976710656),
      (Builtin.append_ #[T,T] ty #[.slice base sLen sCap,vy]).run P w=.ok (.slice (some ⟨w.heap.size,0,none⟩) (sLen+[y1].length) (grownCap w (sLen+[y1].length) sCap e))
       (w.drew.alloc (.cells (olds.toArray++news.toArray++Builtin.zeroCells zv.cells (grownCap w (sLen+[y1].length) sCap e - (sLen+[y1].length))) e)):=by
      intro base sLen sCap olds ho hg h63 sO
      have:=run_append_grow_src (P:=P) w T T ty e j' zv h2 jR ta base sLen sCap olds ho vy [y1].length news pW hg (by omega) sO
      rw[this];simp
     have OE:0<[y1].length:=fm.2 Az
     have en:∀ x∈es++[y1],x.length=sz:=fun x hx=>by rcases aZ.1 hx with hx | hx;exact pV x hx;exact uF x hx
     have Df:es.length+[y1].length≤maxLen:=by unfold maxLen;omega
     have flat_eq:(es++[y1]).flatten=es.flatten++[y1].flatten:=by simp
     have hfe:=bE es pV
     have grownCase:∀ (olds:List Value) (cap0:Nat),olds.length=es.length*sz→(∀ (q:Nat) (c:C),es.flatten[q]?=some c→∃ u,olds[q]?=some u∧CR I w u c)→
      SE G n I0 M w0 (s.after tr o (.hh none (some (e,sz)) (es++[y1]))) (a.put o.dst (.slice (some ⟨w.heap.size,0,none⟩) (es.length+[y1].length) (grownCap w (es.length+[y1].length) cap0 e)))
       (w.drew.alloc (.cells (olds.toArray++news.toArray++Builtin.zeroCells zv.cells (grownCap w (es.length+[y1].length) cap0 e - (es.length+[y1].length))) e)):=by
      intro olds cap0 AB Dn
      have jA:=grownCap_ge w (es.length+[y1].length) cap0 e
      have Z5:=grownCap_le_maxLen w (es.length+[y1].length) cap0 e Df
      have:=SE.finRowH (tr:=tr) (o:=o) (e:=e) (cap:=grownCap w (es.length+[y1].length) cap0 e) (sz:=sz) (es:=es++[y1])
       (cur:=olds.toArray++news.toArray++Builtin.zeroCells zv.cells (grownCap w (es.length+[y1].length) cap0 e - (es.length+[y1].length))) hst hd (w1:=w.drew) hst.drew rfl
       (by simpa using jA) Z5 (by
        simp only[Array.size_append,eJ,size_zeroCells,Ue,AB,uG,← c8]
        congr 1
        omega) en (fun q c hq=>by
         rw[flat_eq] at hq
         have oK:∃ u,(olds++news)[q]?=some u∧CR I w u c:=by
          by_cases nr:q<es.flatten.length
          ·rw[az nr] at hq
           obtain⟨u,hu,jn⟩:=Dn q c hq
           exact⟨u,by rw[az (by omega)];exact hu,jn⟩
          ·rw[aF (by omega)] at hq
           obtain⟨u,hu,jn⟩:=LS _ c hq
           refine⟨u,?_,jn⟩
           rw[aF (by omega),← hu]
           congr 1;omega
         obtain⟨u,hu,jn⟩:=oK
         rw[lu olds news _ q u hu];exact jn) (fun _ _ _=>rfl)
      rw[aj] at this
      exact this
     rcases Z4 with⟨hob0,_,xa,yy⟩ | ⟨e',blk,cap,cur,sz',OF,LP,yy,Qp,gP,hc,Z5,jo,dQ,hIb⟩
     ·cases xa with
      |none=>
       have HU:es=[]:=by
        rcases qF.sl_inv with⟨_,h1⟩ | ⟨b,off,cap,_,_,hv,_⟩
        ·exact h1
        ·rw[yy] at hv;cases hv
       subst HU
       have bH:=grun none 0 0 [] (by simpa using run_firstCells_none (P:=P) w.drew j'.size 0 0 0) (by simp only[aB,aK] at cn;omega) (by simp only[aB,aK] at cn;omega)
        (by rw[← rO];simp only[aB] at hb;exact iF (by omega) hb)
       simp only[aK] at bH
       have:=grownCase [] 0 (by simp) (by simp)
       simp only[dP,aB,aK,eL] at this h
       refine⟨_,_,_,h,by rw[yy];exact bH,?_⟩
       simpa using this
      |some xaddr=>
       rw[yy] at qF
       obtain⟨olds,AB,holds,Dn,_⟩:=qF.oldsOf pV
       have bH:=grun (some xaddr) es.length es.length olds (ji (P:=P) w.drew j'.size es.length xaddr es.length es.length olds (by rw[← eP];exact AB) (by simpa using holds)) (by omega) (by omega) (by rw[← rO];exact iF (by omega) hb)
       exact⟨_,_,_,h,by rw[yy];exact bH,grownCase olds es.length AB Dn⟩
     ·have hee:e'=e∧sz'=sz:=by
       rcases hE with hE | hE
       ·rw[hE] at LP;cases LP
       ·rw[hE] at LP;cases LP;exact⟨rfl,rfl⟩
      obtain⟨rfl,rfl⟩:=hee
      rw[yy] at qF
      obtain⟨olds,AB,holds,Dn,_⟩:=qF.flat pV
      by_cases mJ:es.length+[y1].length≤cap
      ·
       have tw:ob (.t t0)=some blk:=OF
       have bH:=iY (P:=P) (w:=w) T T ty e' j' h2 jR blk 0 es.length cap cur (.of e') gP RT.of_ok vy [y1].length news pW mJ (by
        rw[← eP,uG,jo,aK,← c8];exact aL _ mJ)
       rw[← eP] at bH
       simp only[aK] at bH
       refine⟨_,_,_,h,by rw[yy];exact bH,?_⟩
       have xb:blk<w.heap.size:=(bf.1 gP).1
       have Qe:es.length*sz'+news.length≤cur.size:=by
        rw[uG,jo,← c8];exact aL _ mJ
       have cy:=hst.clr t0
       have vE:∀ o,o<es.length*sz'→(cur.toList.take (es.length*sz')++news++cur.toList.drop (es.length*sz'+news.length)).toArray[o]?=cur[o]?:=fun o ho=>by
        simp only[di,bw]
        rw[az (by simp;omega),ck,if_pos ho,aO]
       have mI:∀ o,I blk o→(w.setRow blk (cur.toList.take (es.length*sz')++news++cur.toList.drop (es.length*sz'+news.length)).toArray).cell? ⟨blk,o,none⟩=w.cell? ⟨blk,o,none⟩:=fun o ho=>by
        rw[cell_setRow_same w blk o cur _ e' (0,0) gP,eZ w blk o cur e' (0,0) gP]
        exact vE o (hIb o ho)
       have Z6:∀ L,upL ob (.t t0) none L≠some blk:=fun L hL=>by
        simp only[upL] at hL
        split at hL
        ·cases hL
        ·rename_i gK;exact gK (hst.oinj _ _ blk hL tw)
       have hg:w.grb (w.setRow blk (cur.toList.take (es.length*sz')++news++cur.toList.drop (es.length*sz'+news.length)).toArray) (some blk):=
        ⟨rfl,rfl,rfl,by simp,fun k _ hk=>jT w blk k _ (fun e=>hk (by rw[e])),ar _⟩
       have pg:=cy.growRow hg Qp mI Z6 (fun i=>hst.obx _ blk i tw) (I':=I)
        (fun _ _ h=>h) (fun b o hb=>.inl hb) (by simpa using xb)
       have kB:∀ b o,I b o→I b o∧
        (w.setRow blk (cur.toList.take (es.length*sz')++news++cur.toList.drop (es.length*sz'+news.length)).toArray).cell? ⟨b,o,none⟩=w.cell? ⟨b,o,none⟩:=
        fun b o hb=>⟨hb,hst.keeps hg (fun r e o ho=>by cases e;exact mI o ho) b o hb⟩
       have rP:=lJ w blk cur (cur.toList.take (es.length*sz')++news++cur.toList.drop (es.length*sz'+news.length)).toArray e' (0,0) gP
       have FB:(cur.toList.take (es.length*sz')++news++cur.toList.drop (es.length*sz'+news.length)).toArray.size=cap*sz':=by
        simp only[eJ,aj,aG,b9,bK];omega
       have jn:∀ (q:Nat) (c:C),(es++[y1]).flatten[q]?=some c→CR I (w.setRow blk (cur.toList.take (es.length*sz')++news++cur.toList.drop (es.length*sz'+news.length)).toArray) ((cur.toList.take (es.length*sz')++news++cur.toList.drop (es.length*sz'+news.length)).toArray.getD q undef) c:=
        (fun q c hq=>by
         have nr:=(ae.1 hq).1
         rw[bE _ en,aj,c8] at nr
         rw[flat_eq] at hq
         by_cases hq1:q<es.flatten.length
         ·rw[az hq1] at hq
          obtain⟨u,hu,jn⟩:=Dn q c hq
          have eQ:=(holds q u hu).1
          rw[aK,eZ w blk q cur e' (0,0) gP] at eQ
          rw[ah,vE q (by omega),eQ]
          exact jn.mono kB
         ·rw[aF (by omega)] at hq
          obtain⟨u,hu,jn⟩:=LS _ c hq
          have:(cur.toList.take (es.length*sz')++news++cur.toList.drop (es.length*sz'+news.length)).toArray[q]?=some u:=by
           simp only[di]
           have Qf:(cur.toList.take (es.length*sz')).length=es.length*sz':=by
            have kf:cur.toList.length=cur.size:=bK
            rw[aG,kf];omega
           rw[az (by rw[aj,Qf];omega),aF (by rw[Qf];omega),← hu,Qf,hfe]
          rw[ah,this]
          exact jn.mono kB)
       have Dh:s.after tr o (.hh none (some (e',sz')) (es++[y1]))=(s.clr t0).put o.dst (.hh none (some (e',sz')) (es++[y1])):=by
        unfold S.after
        rw[sQ]
        simp only[S.use]
        have:(s.fr t0).isOw=true:=FA
        rw[if_pos this]
       rw[Dh]
       cases lF:o.dst with
       |none=>exact⟨_,_,_,pg⟩
       |some dd=>
        refine⟨_,_,_,pg.put dd (hd dd lF) (o:=some blk) ?_ fun b hb=>?_⟩
        ·have HW:Value.slice (some ⟨blk,0,none⟩) (es.length+[y1].length) cap=Value.slice (some ⟨blk,0,none⟩) (es++[y1]).length cap:=by rw[aj]
         rw[HW]
         simp only[LR]
         refine⟨(fun _ h=>by cases h),e',blk,cap,_,sz',rfl,rfl,rfl,Qp,rP,by simpa using mJ,Z5,FB,en,jn,fun o ho=>?_,fun o ho=>?_⟩
         ·rw[aj,bN,Nat.add_sub_cancel] at ho
          obtain⟨u,hu⟩:∃ u,olds[o]?=some u:=⟨_,ab (by omega)⟩
          have:=(holds o u hu).2
          rwa [aK] at this
         ·rw[aj,bN,Nat.add_sub_cancel]
          exact hIb o ho
        ·simp only[ai] at hb
         subst hb
         refine⟨⟨by simpa using xb,Qp⟩,fun L hL=>?_,fun i=>hst.obx _ blk i tw⟩
         simp only[upL] at hL
         split at hL
         ·cases hL
         ·split at hL
          ·cases hL
          ·rename_i h5 h6;exact h6 (hst.oinj _ _ blk hL tw)
      ·have bH:=grun (some ⟨blk,0,none⟩) es.length cap olds (ji (P:=P) w.drew j'.size es.length ⟨blk,0,none⟩ es.length cap olds (by rw[← eP];exact AB) (fun q u hq=>by rw[cX];simpa using(holds q u hq).1)) (by omega) (by omega) (by rw[← rO];exact iF (by omega) hb)
       exact⟨_,_,_,h,by rw[yy];exact bH,grownCase olds cap AB Dn⟩
    ·exact h.elim
   ·cases nj
  ·exact h.elim
 ·exact h.elim
theorem vL {z:Array Value} {m:Nat} {u:Value} (h:u∈Builtin.zeroCells z m):u∈z:=by
 unfold Builtin.zeroCells at h
 simp only[Array.mem_map,Array.mem_range] at h
 obtain⟨i,hi,rfl⟩:=h
 have hz:0<z.size:=Nat.pos_of_ne_zero fun h=>by rw[h] at hi;simp at hi
 have bV:i % z.size<z.size:=kH _ hz
 rw[getElem!_pos z _ bV]
 exact Array.getElem_mem bV
theorem zB {T U ty:TypeId} {t0:Tmp} {E:Option (TypeId×Nat)} {es:List (List C)} {vy:Value} (hst:St G n I0 M w0 I β ob s a w) (hd:∀ d,o.dst=some d→d<n)
 (sQ:bU tr o=some t0) (rR:s.fr t0=.gs none E es) (h:nw P [T,U] E es y K) (hy:∀ ys e,P.underlying T=some (.slice e)→∀ j,ti P e=some j→y=.c (.sl ys)→(∀ x∈ys,x.length=j.size)→Ik P I w U vy j.size ys) :
 ∃ z u w',K z∧(Builtin.append_ #[T,U] ty #[a.tmps.getD t0 undef,vy]).run P w=.ok u w'∧SE G n I0 M w0 (s.after tr o z) (a.put o.dst u) w':=by
 have hx:=hst.fr t0
 rw[rR] at hx
 simp only[nw] at h
 obtain⟨rfl,h⟩:=h
 split at h
 ·rename_i e _ _ _ _ _ _ hi
  obtain⟨j,d,h1,h2,h3,_⟩:=bu hi
  have pT:=dq h3
  subst pT
  split at h
  ·rename_i sz by_ _ z _ _ tu
   obtain⟨j',d',jR,oJ,_,eP,rO,_,nj,_⟩:=bu tu
   simp only at nj eP rO
   obtain⟨⟨hp,vo,hE,pV⟩,h⟩:=h
   split at nj
   ·rename_i zv ta
    split at h
    ·rename_i y1
     obtain⟨⟨hb,cn,H5⟩,h⟩:=h
     have uF:∀ x∈[y1],x.length=sz:=fun x hx=>by rw[aW] at hx;subst hx;exact H5
     obtain⟨news,qZ,LS⟩:=hy [y1] e h2 _ tu rfl uF
     simp only at qZ
     have sM:=ln (I:=I) (w:=w) nj.symm
     have Ue:zv.cells.size=sz:=by rw[sM.1,vo]
     have zone:∀ u∈zv.cells,u.oneCell'=true:=fun u hu=>by
      obtain⟨q,hq,rfl⟩:=fq.1 hu
      have nr:q<z.length:=by rw[← sM.1];exact hq
      have:=(sM.2 q _ (ab nr)).oneCell
      simpa[ax hq,hq] using this
     have Z4:=hx.2
     have FA:(s.fr t0).isOw=true:=by rw[rR];rfl
     have Az:([y1]:List (List C))≠[]:=by simp
     have uG:=qZ.newsLen
     have Uw:=qZ.one
     have pW:Src P j'.size T vy [y1].length news w:=by rw[← eP];exact qZ
     have grun:∀ (base:Option Addr) (sLen sCap:Nat) (olds:List Value) (_:(Builtin.firstCells j'.size sLen (.slice base sLen sCap)).run P w.drew=.ok olds.toArray w.drew) (_:sCap<sLen+[y1].length) (_:sLen+[y1].length≤9223372036854775807) (_:Builtin.nextslicecap (sLen+[y1].length) sCap*j'.bytes≤281474976710656),
      (Builtin.append_ #[T,T] ty #[.slice base sLen sCap,vy]).run P w=.ok (.slice (some ⟨w.heap.size,0,none⟩) (sLen+[y1].length) (grownCap w (sLen+[y1].length) sCap e))
       (w.drew.alloc (.cells (olds.toArray++news.toArray++Builtin.zeroCells zv.cells (grownCap w (sLen+[y1].length) sCap e - (sLen+[y1].length))) e)):=by
      intro base sLen sCap olds ho hg h63 sO
      have:=run_append_grow_src (P:=P) w T T ty e j' zv h2 jR ta base sLen sCap olds ho vy [y1].length news pW hg (by omega) sO
      rw[this];simp
     have OE:0<[y1].length:=fm.2 Az
     have en:∀ x∈es++[y1],x.length=sz:=fun x hx=>by rcases aZ.1 hx with hx | hx;exact pV x hx;exact uF x hx
     have Df:es.length+[y1].length≤maxLen:=by unfold maxLen;omega
     have flat_eq:(es++[y1]).flatten=es.flatten++[y1].flatten:=by simp
     have hfe:=bE es pV
     have grownCase:∀ (olds:List Value) (cap0:Nat),olds.length=es.length*sz→(∀ (q:Nat) (c:C),es.flatten[q]?=some c→∃ u,olds[q]?=some u∧CR I w u c)→(∀ u∈olds,u.oneCell'=true)→
      SE G n I0 M w0 (s.after tr o (.gs none (some (e,sz)) (es++[y1]))) (a.put o.dst (.slice (some ⟨w.heap.size,0,none⟩) (es.length+[y1].length) (grownCap w (es.length+[y1].length) cap0 e)))
       (w.drew.alloc (.cells (olds.toArray++news.toArray++Builtin.zeroCells zv.cells (grownCap w (es.length+[y1].length) cap0 e - (es.length+[y1].length))) e)):=by
      intro olds cap0 AB Dn ho1
      have jA:=grownCap_ge w (es.length+[y1].length) cap0 e
      have Z5:=grownCap_le_maxLen w (es.length+[y1].length) cap0 e Df
      have:=SE.finRowG (tr:=tr) (o:=o) (e:=e) (cap:=grownCap w (es.length+[y1].length) cap0 e) (sz:=sz) (es:=es++[y1])
       (cur:=olds.toArray++news.toArray++Builtin.zeroCells zv.cells (grownCap w (es.length+[y1].length) cap0 e - (es.length+[y1].length))) hst hd (w1:=w.drew) hst.drew rfl
       (by simpa using jA) Z5 (by
        simp only[Array.size_append,eJ,size_zeroCells,Ue,AB,uG,← c8]
        congr 1
        omega) en (fun q c hq=>by
         rw[flat_eq] at hq
         have oK:∃ u,(olds++news)[q]?=some u∧CR I w u c:=by
          by_cases nr:q<es.flatten.length
          ·rw[az nr] at hq
           obtain⟨u,hu,jn⟩:=Dn q c hq
           exact⟨u,by rw[az (by omega)];exact hu,jn⟩
          ·rw[aF (by omega)] at hq
           obtain⟨u,hu,jn⟩:=LS _ c hq
           refine⟨u,?_,jn⟩
           rw[aF (by omega),← hu]
           congr 1;omega
         obtain⟨u,hu,jn⟩:=oK
         rw[lu olds news _ q u hu];exact jn) (fun u hu=>by
          simp only[Array.mem_append,gk] at hu
          rcases hu with(hu | hu) | hu
          ·exact ho1 u hu
          ·exact Uw u hu
          ·exact zone u (vL hu)) (fun _ _ _=>rfl)
      rw[aj] at this
      exact this
     rcases Z4 with⟨hob0,hE0,HU,xa,yy⟩ | ⟨e',blk,cap,cur,sz',OF,LP,yy,Qp,gP,hc,Z5,jo,dQ,Aa,jJ,fS⟩
     ·subst HU
      have nilCase:∀ (base:Option Addr),(Builtin.append_ #[T,T] ty #[.slice base 0 0,vy]).run P w=.ok (.slice (some ⟨w.heap.size,0,none⟩) (0+[y1].length) (grownCap w (0+[y1].length) 0 e))
       (w.drew.alloc (.cells (([]:List Value).toArray++news.toArray++Builtin.zeroCells zv.cells (grownCap w (0+[y1].length) 0 e - (0+[y1].length))) e)):=fun base=>by
       refine grun base 0 0 [] ?_ (by simp) (by simp) (by rw[← rO];exact iF (by simp) (by simpa using hb))
       cases base with
       |none=>simpa using run_firstCells_none (P:=P) w.drew j'.size 0 0 0
       |some xaddr=>exact ji (P:=P) w.drew j'.size 0 xaddr 0 0 [] (by simp) (by simp)
      have bH:=nilCase xa
      have:=grownCase [] 0 (by simp) (by simp) (by simp)
      simp only[dP,aB,aK,eL] at this h bH
      refine⟨_,_,_,h,by rw[yy];exact bH,?_⟩
      simpa using this
     ·have hee:e'=e∧sz'=sz:=by
       rcases hE with hE | hE
       ·rw[hE] at LP;cases LP
       ·rw[hE] at LP;cases LP;exact⟨rfl,rfl⟩
      obtain⟨rfl,rfl⟩:=hee
      have apf:=aL sz' hc
      obtain⟨olds,AB,akc⟩:∃ olds:List Value,olds.length=es.length*sz'∧∀ q,q<es.length*sz'→olds[q]?=cur[q]?:=⟨cur.toList.take (es.length*sz'),by rw[aG];exact bI (by have h9:cur.toList.length=cur.size:=bK;rw[h9,jo];exact apf),fun q hq=>by rw[ck,if_pos hq,aO]⟩
      have Dn:∀ (q:Nat) (c:C),es.flatten[q]?=some c→∃ u,olds[q]?=some u∧CR I w u c:=fun q c hq=>by
       have nr:=(ae.1 hq).1
       rw[hfe] at nr
       refine⟨cur.getD q undef,?_,Aa q c hq⟩
       rw[akc q nr,ah,ax (show q<cur.size by omega)];rfl
      have ho1:∀ u∈olds,u.oneCell'=true:=fun u hu=>by
       obtain⟨q,hq,rfl⟩:=gG hu
       have h7:=akc q (by omega)
       rw[ab hq] at h7
       exact jJ _ (eB h7.symm)
      have holds:∀ (q:Nat) (u:Value),olds[q]?=some u→w.cell? ⟨blk,0+q,none⟩=some u:=fun q u hq=>by
       have nr:=(ae.1 hq).1
       rw[aK,eZ w blk q cur e' (0,0) gP,← hq,akc q (by omega)]
      by_cases mJ:es.length+[y1].length≤cap
      ·
       have tw:ob (.t t0)=some blk:=OF
       have bH:=iY (P:=P) (w:=w) T T ty e' j' h2 jR blk 0 es.length cap cur (.of e') gP RT.of_ok vy [y1].length news pW mJ (by
        rw[← eP,uG,jo,aK,← c8];exact aL _ mJ)
       rw[← eP] at bH
       simp only[aK] at bH
       refine⟨_,_,_,h,by rw[yy];exact bH,?_⟩
       have xb:blk<w.heap.size:=(bf.1 gP).1
       have Qe:es.length*sz'+news.length≤cur.size:=by
        rw[uG,jo,← c8];exact aL _ mJ
       have cy:=hst.clr t0
       have vE:∀ o,o<es.length*sz'→(cur.toList.take (es.length*sz')++news++cur.toList.drop (es.length*sz'+news.length)).toArray[o]?=cur[o]?:=fun o ho=>by
        simp only[di,bw]
        rw[az (by simp;omega),ck,if_pos ho,aO]
       have mI:∀ o,I blk o→(w.setRow blk (cur.toList.take (es.length*sz')++news++cur.toList.drop (es.length*sz'+news.length)).toArray).cell? ⟨blk,o,none⟩=w.cell? ⟨blk,o,none⟩:=fun o ho=>by
        exact absurd ho (fS o)
       have Z6:∀ L,upL ob (.t t0) none L≠some blk:=fun L hL=>by
        simp only[upL] at hL
        split at hL
        ·cases hL
        ·rename_i gK;exact gK (hst.oinj _ _ blk hL tw)
       have hg:w.grb (w.setRow blk (cur.toList.take (es.length*sz')++news++cur.toList.drop (es.length*sz'+news.length)).toArray) (some blk):=
        ⟨rfl,rfl,rfl,by simp,fun k _ hk=>jT w blk k _ (fun e=>hk (by rw[e])),ar _⟩
       have pg:=cy.growRow hg Qp mI Z6 (fun i=>hst.obx _ blk i tw) (I':=I)
        (fun _ _ h=>h) (fun b o hb=>.inl hb) (by simpa using xb)
       have kB:∀ b o,I b o→I b o∧
        (w.setRow blk (cur.toList.take (es.length*sz')++news++cur.toList.drop (es.length*sz'+news.length)).toArray).cell? ⟨b,o,none⟩=w.cell? ⟨b,o,none⟩:=
        fun b o hb=>⟨hb,hst.keeps hg (fun r e o ho=>by cases e;exact mI o ho) b o hb⟩
       have rP:=lJ w blk cur (cur.toList.take (es.length*sz')++news++cur.toList.drop (es.length*sz'+news.length)).toArray e' (0,0) gP
       have FB:(cur.toList.take (es.length*sz')++news++cur.toList.drop (es.length*sz'+news.length)).toArray.size=cap*sz':=by
        simp only[eJ,aj,aG,b9,bK];omega
       have jn:∀ (q:Nat) (c:C),(es++[y1]).flatten[q]?=some c→CR I (w.setRow blk (cur.toList.take (es.length*sz')++news++cur.toList.drop (es.length*sz'+news.length)).toArray) ((cur.toList.take (es.length*sz')++news++cur.toList.drop (es.length*sz'+news.length)).toArray.getD q undef) c:=
        (fun q c hq=>by
         have nr:=(ae.1 hq).1
         rw[bE _ en,aj,c8] at nr
         rw[flat_eq] at hq
         by_cases hq1:q<es.flatten.length
         ·rw[az hq1] at hq
          obtain⟨u,hu,jn⟩:=Dn q c hq
          have eQ:=holds q u hu
          rw[aK,eZ w blk q cur e' (0,0) gP] at eQ
          rw[ah,vE q (by omega),eQ]
          exact jn.mono kB
         ·rw[aF (by omega)] at hq
          obtain⟨u,hu,jn⟩:=LS _ c hq
          have:(cur.toList.take (es.length*sz')++news++cur.toList.drop (es.length*sz'+news.length)).toArray[q]?=some u:=by
           simp only[di]
           have Qf:(cur.toList.take (es.length*sz')).length=es.length*sz':=by
            have kf:cur.toList.length=cur.size:=bK
            rw[aG,kf];omega
           rw[az (by rw[aj,Qf];omega),aF (by rw[Qf];omega),← hu,Qf,hfe]
          rw[ah,this]
          exact jn.mono kB)
       have Dh:s.after tr o (.gs none (some (e',sz')) (es++[y1]))=(s.clr t0).put o.dst (.gs none (some (e',sz')) (es++[y1])):=by
        unfold S.after
        rw[sQ]
        simp only[S.use]
        have:(s.fr t0).isOw=true:=FA
        rw[if_pos this]
       rw[Dh]
       cases lF:o.dst with
       |none=>exact⟨_,_,_,pg⟩
       |some dd=>
        refine⟨_,_,_,pg.put dd (hd dd lF) (o:=some blk) ?_ fun b hb=>?_⟩
        ·have HW:Value.slice (some ⟨blk,0,none⟩) (es.length+[y1].length) cap=Value.slice (some ⟨blk,0,none⟩) (es++[y1]).length cap:=by rw[aj]
         rw[HW]
         simp only[LR]
         exact⟨(fun _ h=>by cases h),.inr ⟨e',blk,cap,_,sz',rfl,rfl,rfl,Qp,rP,by simpa using mJ,Z5,FB,en,jn,fun u hu=>by
          rw[gk] at hu
          rcases aZ.1 hu with hu | hu
          ·rcases aZ.1 hu with hu | hu
           ·exact jJ u (bZ.1 (cU hu))
           ·exact Uw u hu
          ·exact jJ u (bZ.1 (cM hu)),fS⟩⟩
        ·simp only[ai] at hb
         subst hb
         refine⟨⟨by simpa using xb,Qp⟩,fun L hL=>?_,fun i=>hst.obx _ blk i tw⟩
         simp only[upL] at hL
         split at hL
         ·cases hL
         ·split at hL
          ·cases hL
          ·rename_i h5 h6;exact h6 (hst.oinj _ _ blk hL tw)
      ·have bH:=grun (some ⟨blk,0,none⟩) es.length cap olds (ji (P:=P) w.drew j'.size es.length ⟨blk,0,none⟩ es.length cap olds (by rw[← eP];exact AB) (fun q u hq=>by rw[cX];simpa using holds q u hq)) (by omega) (by omega) (by rw[← rO];exact iF (by omega) hb)
       exact⟨_,_,_,h,by rw[yy];exact bH,grownCase olds cap AB Dn ho1⟩
    ·exact h.elim
   ·cases nj
  ·exact h.elim
 ·exact h.elim
theorem Dy {T ty:TypeId} {vx vy:Value} {ox:Option Nat} {es:List (List C)} {d:Option Tmp} {K:S→Prop} (hst:St G n I0 M w0 I β ob s a w)
 (hx:LR (Wr M w0) I β w ox vx (.ow none es)) (h:eR P T (.ow none es) y (aaA s d K)) (hy:∀ ys,y=.c (.sl ys)→RD I w vy ys) :
 ∃ (e:TypeId) (sz:Nat) (es':List (List C)) (cells:Array Value) (cap:Nat),K ({ s with bx:=up s.bx s.nb (es'.flatten.map .c),nb:=s.nb+1 }.put d (.ms s.nb 0 es'.length es'.length sz))∧
  (Builtin.append_ #[T,T] ty #[vx,vy]).run P w=.ok (.slice (some ⟨w.heap.size,0,none⟩) es'.length cap) (w.drew.alloc (.cells cells e))∧es'.length≤cap∧es'.flatten.length≤cells.size∧
  (∀ q c,es'.flatten[q]?=some c→CR I w (cells.getD q undef) c)∧(∀ u∈cells,u.oneCell'=true):=by
 unfold eR at h
 split at h
 ·rename_i e _ _ _ _ _ _ E es1 hi rR
  cases rR
  obtain⟨j,d,h1,h2,h3,_⟩:=bu hi
  have pT:=dq h3
  subst pT
  split at h
  ·rename_i sz by_ _ z _ _ tu
   obtain⟨j',d',jR,oJ,_,eP,rO,_,nj,_⟩:=bu tu
   simp only at nj eP rO
   obtain⟨⟨hp,vo,hE,pV⟩,h⟩:=h
   split at nj
   ·rename_i zv ta
    split at h
    ·rename_i ys
     obtain⟨⟨hb,cn,uF⟩,h⟩:=h
     by_cases Az:ys=[]
     ·subst Az
      simp only[List.isEmpty_nil,dn] at h
      exact h.elim
     have ra:ys.isEmpty=false:=by simpa using Az
     simp only[ra,aI,dj] at h
     have Z0:=hy _ rfl
     have sM:=ln (I:=I) (w:=w) nj.symm
     have Ue:zv.cells.size=sz:=by rw[sM.1,vo]
     obtain⟨vsl,hvy⟩:∃ (p:Option Addr×Nat),vy=.slice p.1 ys.length p.2:=by
      rcases Z0 with⟨h0,h1⟩ | ⟨b,off,cap,_,_,hv,_⟩
      ·obtain⟨a0,c0,h0,_⟩:=h0;exact⟨(a0,c0),by rw[h0,h1];rfl⟩
      ·exact⟨(some ⟨b,off,none⟩,cap),hv⟩
     obtain⟨ya,yc⟩:=vsl
     simp only at hvy
     subst hvy
     have Z4:=hx.2
     have qF:=hx.1
     obtain⟨yb,yoff,rfl⟩:=Z0.some' Az
     obtain⟨news,uG,LC,LS,Uw⟩:=Z0.flat uF
     have Z7:∀ (q:Nat) (u:Value),news[q]?=some u→w.cell? ((⟨yb,yoff,none⟩:Addr).add q)=some u:=fun q u hq=>by rw[cX];exact(LC q u hq).1
     have OE:0<ys.length:=fm.2 Az
     have en:∀ x∈es++ys,x.length=sz:=fun x hx=>by rcases aZ.1 hx with hx | hx;exact pV x hx;exact uF x hx
     have Df:es.length+ys.length≤maxLen:=by unfold maxLen;omega
     have flat_eq:(es++ys).flatten=es.flatten++ys.flatten:=by simp
     have hfe:=bE es pV
     have hfa:=bE (es++ys) en
     have zone:∀ u∈zv.cells,u.oneCell'=true:=fun u hu=>by
      obtain⟨q,hq,rfl⟩:=fq.1 hu
      have nr:q<z.length:=by rw[← sM.1];exact hq
      have:=(sM.2 q _ (ab nr)).oneCell
      simpa[ax hq,hq] using this
     have fin:∀ (olds:List Value) (cap0:Nat),olds.length=es.length*sz→(∀ (q:Nat) (c:C),es.flatten[q]?=some c→∃ u,olds[q]?=some u∧CR I w u c)→(∀ u∈olds,u.oneCell'=true)→
      (Builtin.append_ #[T,T] ty #[vx,.slice (some ⟨yb,yoff,none⟩) ys.length yc]).run P w=.ok (.slice (some ⟨w.heap.size,0,none⟩) (es.length+ys.length) (grownCap w (es.length+ys.length) cap0 e))
       (w.drew.alloc (.cells (olds.toArray++news.toArray++Builtin.zeroCells zv.cells (grownCap w (es.length+ys.length) cap0 e - (es.length+ys.length))) e))→
      ∃ (e:TypeId) (sz:Nat) (es':List (List C)) (cells:Array Value) (cap:Nat),K ({ s with bx:=up s.bx s.nb (es'.flatten.map .c),nb:=s.nb+1 }.put ‹Option Tmp› (.ms s.nb 0 es'.length es'.length sz))∧
       (Builtin.append_ #[T,T] ty #[vx,.slice (some ⟨yb,yoff,none⟩) ys.length yc]).run P w=.ok (.slice (some ⟨w.heap.size,0,none⟩) es'.length cap) (w.drew.alloc (.cells cells e))∧es'.length≤cap∧es'.flatten.length≤cells.size∧
       (∀ q c,es'.flatten[q]?=some c→CR I w (cells.getD q undef) c)∧(∀ u∈cells,u.oneCell'=true):=by
      intro olds cap0 AB Dn ho1 bH
      have jA:=grownCap_ge w (es.length+ys.length) cap0 e
      refine⟨e,sz,es++ys,_,_,h,by rw[aj];exact bH,by rw[aj];exact jA,?_,fun q c hq=>?_,fun u hu=>?_⟩
      ·rw[hfa,aj]
       simp only[Array.size_append,eJ,AB,uG,← c8]
       omega
      ·rw[flat_eq] at hq
       have oK:∃ u,(olds++news)[q]?=some u∧CR I w u c:=by
        by_cases nr:q<es.flatten.length
        ·rw[az nr] at hq
         obtain⟨u,hu,jn⟩:=Dn q c hq
         exact⟨u,by rw[az (by omega)];exact hu,jn⟩
        ·rw[aF (by omega)] at hq
         obtain⟨u,hu,jn⟩:=LS _ c hq
         refine⟨u,?_,jn⟩
         rw[aF (by omega),← hu]
         congr 1;omega
       obtain⟨u,hu,jn⟩:=oK
       rw[lu olds news _ q u hu];exact jn
      ·simp only[Array.mem_append,gk] at hu
       rcases hu with(hu | hu) | hu
       ·exact ho1 u hu
       ·exact Uw u hu
       ·exact zone u (vL hu)
     rcases Z4 with⟨hob0,_,xa,yy⟩ | ⟨e',blk,cap,cur,sz',OF,LP,_⟩
     ·cases xa with
      |none=>
       have HU:es=[]:=by
        rcases qF.sl_inv with⟨_,h1⟩ | ⟨b,off,cap,_,_,hv,_⟩
        ·exact h1
        ·rw[yy] at hv;cases hv
       subst HU
       have bH:=run_append_nil (P:=P) w T ty e j' zv h2 jR ta ⟨yb,yoff,none⟩ ys.length yc news (by rw[← eP];exact uG) Z7 OE (by simp only[aB,aK] at cn;omega) (by rw[← rO];simp only[aB,aK] at hb;omega)
       refine fin [] 0 (by simp) (by simp) (by simp) ?_
       rw[yy]
       simpa using bH
      |some xaddr=>
       rw[yy] at qF
       obtain⟨olds,AB,holds,Dn,ho1⟩:=qF.oldsOf pV
       have bH:=run_append_grow (P:=P) w T ty e j' zv h2 jR ta xaddr es.length es.length olds (by rw[← eP];exact AB) holds
        ⟨yb,yoff,none⟩ ys.length yc news (by rw[← eP];exact uG) Z7 (by omega) (by omega) (by rw[← rO];exact iF (by omega) hb)
       exact fin olds es.length AB Dn ho1 (by rw[yy];exact bH)
     ·cases LP
    ·exact h.elim
   ·cases nj
  ·exact h.elim
 ·exact h.elim
end
section
variable {P:Program} {G:Gl} {tr:List Nat} {n:Nat} {I0:Ft} {M:Mx} {w0:World} {I:Ft} {β:Nat→Option Nat} {ob:Loc→Option Nat} {s:S} {a:Act} {w:World} {o:Oper}
 {next:Act→World→Prop} {Q:Exit→Act→World→Prop} {base:Nat→Prop} {v:Value} {x y:V} {K:V→Prop}
theorem rV (isSlice:Bool) (len cap:Nat) (lo hi:Option Value) (l h:Int) (hl:(lo=none∧l=0)∨∃ k,lo=some (.int k l)) (hh:(hi=none∧h=len)∨∃ k,hi=some (.int k h))
 (h0:0≤l) (h1:l≤h) (h2:h≤len) (hc:len≤cap):(Instr.sliceBounds isSlice len cap lo hi none).run P w=.ok (l.toNat,h.toNat,cap) w:=by
 have eh:(h.toNat:Int)=h:=gI (by omega)
 unfold Instr.sliceBounds
 have e0:(0:Int)≤h:=by omega
 have e1:h≤(cap:Int):=by omega
 rcases hl with⟨rfl,rfl⟩ | ⟨kl,rfl⟩<;>rcases hh with⟨rfl,rfl⟩ | ⟨kh,rfl⟩<;>
  simp[run_sliceBound,h0,h1,eh,e0,e1]
theorem Im (isSlice:Bool) (len cap:Nat) (lo hi:Option Value) (l h:Int) (km:IntKind) (hl:(lo=none∧l=0)∨∃ k,lo=some (.int k l)) (hh:∃ k,hi=some (.int k h))
 (h0:0≤l) (h1:l≤h) (h2:h≤cap):(Instr.sliceBounds isSlice len cap lo hi (some (.int km h))).run P w=.ok (l.toNat,h.toNat,h.toNat) w:=by
 have eh:(h.toNat:Int)=h:=gI (by omega)
 unfold Instr.sliceBounds
 have e0:(0:Int)≤h:=by omega
 rcases hl with⟨rfl,rfl⟩ | ⟨kl,rfl⟩<;>obtain⟨kh,rfl⟩:=hh<;>simp[run_sliceBound,h0,h1,h2,eh,e0]
theorem zC (len cap:Nat) (lo hi:Option Value) (l h:Int) (hl:(lo=none∧l=0)∨∃ k,lo=some (.int k l)) (hh:(hi=none∧h=len)∨∃ k,hi=some (.int k h))
 (h0:0≤l) (h1:l≤h) (h2:h≤cap):(Instr.sliceBounds true len cap lo hi none).run P w=.ok (l.toNat,h.toNat,cap) w:=by
 have eh:(h.toNat:Int)=h:=gI (by omega)
 unfold Instr.sliceBounds
 have e0:(0:Int)≤h:=by omega
 rcases hl with⟨rfl,rfl⟩ | ⟨kl,rfl⟩<;>rcases hh with⟨rfl,rfl⟩ | ⟨kh,rfl⟩<;>
  simp[run_sliceBound,h0,h1,h2,eh,e0]
theorem zD (len cap:Nat) (lo hi:Option Value) (l h m:Int) (km:IntKind) (hl:(lo=none∧l=0)∨∃ k,lo=some (.int k l)) (hh:∃ k,hi=some (.int k h))
 (h0:0≤l) (h1:l≤h) (h2:h≤m) (h3:m≤cap):(Instr.sliceBounds true len cap lo hi (some (.int km m))).run P w=.ok (l.toNat,h.toNat,m.toNat) w:=by
 have eh:(h.toNat:Int)=h:=gI (by omega)
 have em:(m.toNat:Int)=m:=gI (by omega)
 unfold Instr.sliceBounds
 have e0:(0:Int)≤h:=by omega
 have e2:(0:Int)≤m:=by omega
 rcases hl with⟨rfl,rfl⟩ | ⟨kl,rfl⟩<;>obtain⟨kh,rfl⟩:=hh<;>
  simp[run_sliceBound,h0,h1,h2,h3,eh,em,e0,e2]
theorem ly (hst:St G n I0 M w0 I β ob s a w) {d:Int} {lo:Option Operand} {l:Int} (h:iQ d (lo.map (ev G s))=some l):(lo.map a.eval=none∧l=d)∨∃ k,lo.map a.eval=some (.int k l):=by
 cases lo with
 |none=>simp[iQ] at h;exact .inl ⟨rfl,h.symm⟩
 |some x=>
  have hx:=bD hst x
  simp only[cD,iQ] at h
  split at h
  ·cases ‹some _=none›
  ·rename_i k m he
   simp only[ai] at he h
   subst h
   rw[he] at hx
   exact .inr ⟨k,by rw[cD,hx.lit]⟩
  ·cases h
theorem pB {sz:Nat}:∀ (m:Nat) (cs:List C) (i:Nat),i<m→(ma sz m cs)[i]?=some ((cs.drop (i*sz)).take sz)
 |0,_,i,h=>by omega
 |m+1,cs,0,_=>by simp[ma]
 |m+1,cs,i+1,h=>by
  simp only[ma,ct]
  rw[pB m _ i (by omega),fX]
  congr 3
  rw[eC];omega
theorem qI {sz:Nat}:∀ (m:Nat) (cs:List C),(ma sz m cs).length=m
 |0,_=>rfl
 |m+1,cs=>by simp[ma,qI m]
theorem F3 (hst:St G n I0 M w0 I β ob s a w) {i off len cap sz:Nat} {c:C} {v:Value} (h:mn s i off len sz=some c)
 (hx:len≤cap∧∃ blk off' cap',cap≤cap'∧β i=some blk∧(cap'=0∨off'=off)∧v=.slice (some ⟨blk,off',none⟩) len cap') :
 ∃ (es:List (List C)) (blk off' cap':Nat) (f:Nat→Nat→Value),c=.sl es∧v=.slice (some ⟨blk,off',none⟩) es.length cap'∧es.length≤cap'∧β i=some blk∧(∀ e∈es,e.length=sz)∧
  (∀ p q,p<es.length→q<sz→w.cell? ⟨blk,off'+p*sz+q,none⟩=some (f p q))∧(∀ p q e c,es[p]?=some e→e[q]?=some c→CR I w (f p q) c):=by
 unfold mn at h
 split at h
 ·rename_i cs jo
  split at h
  ·rename_i sO
   simp only[ai] at h
   obtain⟨ky,blk,off',cap',Aa,e1,nk,rfl⟩:=hx
   unfold Ah at jo
   split at jo
   ·rename_i hi
    obtain⟨sN,cur,q1,q2,q3,q4,q5,q7⟩:=hst.bx i hi
    obtain⟨T,q3,q6⟩:=q3.cells (zx jo)
    rw[e1] at q1;cases q1
    have cn:cs.length=(s.bx i).length:=List.mapM_eq_some_length jo
    have hl:=qI (sz:=sz) len (cs.drop off)
    refine⟨_,blk,off',cap',fun p q=>cur.getD (off+p*sz+q) undef,h.symm,by rw[hl],by rw[hl];omega,e1,fun e he=>?_,fun p q hp hq=>?_,fun p q e c' he hc=>?_⟩
    ·obtain⟨p,hp,rfl⟩:=fa.1 he
     have:=pB (sz:=sz) len (cs.drop off) p (by omega)
     rw[ab hp] at this
     simp only[ai] at this
     rw[this]
     have hm':(p+1)*sz≤len*sz:=aL _ (by omega)
     rw[eC] at hm'
     simp;omega
    ·rw[hl] at hp
     have hm':(p+1)*sz≤len*sz:=aL _ (by omega)
     rw[eC] at hm'
     have:off'=off:=by rcases nk with h0 | h0;omega;exact h0
     subst this
     have bV:off'+p*sz+q<cur.size:=by omega
     rw[eZ w blk _ cur T.t T.fz q3]
     simp[ax bV]
    ·have hp:p<len:=by have:=(ae.1 he).1;omega
     rw[pB len _ p hp] at he
     simp only[ai] at he
     subst he
     rw[ck] at hc
     split at hc
     ·rw[cA,cA] at hc
      obtain⟨vv,HV,hvc⟩:=List.mapM_eq_some_get jo _ c' hc
      have hZ:=q5 (off+(p*sz+q))
      have:(s.bx i).getD (off+(p*sz+q)) .un=vv:=by simp[List.getD,HV]
      rw[this,← dI] at hZ
      cases vv<;>simp only[V.asC] at hvc<;>try cases hvc
      ·exact hZ.toC
      ·exact hZ.1
     ·cases hc
   ·cases jo
  ·cases h
 ·cases h
theorem aaJ (hst:St G n I0 M w0 I β ob s a w) {i off len cap sz:Nat} {c:C} {v:Value} (h:mn s i off len sz=some c)
 (hx:len≤cap∧∃ blk off' cap',cap≤cap'∧β i=some blk∧(cap'=0∨off'=off)∧v=.slice (some ⟨blk,off',none⟩) len cap'):∃ es,c=.sl es∧RD I w v es:=by
 obtain⟨es,blk,off',cap',f,rfl,rfl,h2,h3,h4,h5,h6⟩:=F3 hst h hx
 exact⟨es,rfl,.inr ⟨blk,off',cap',sz,f,rfl,h2,h4,h5,h6⟩⟩
theorem F4 (hst:St G n I0 M w0 I β ob s a w) {i off len cap sz:Nat} {c:C} {v:Value} (h:mn s i off len sz=some c)
 (hx:len≤cap∧∃ blk off' cap',cap≤cap'∧β i=some blk∧(cap'=0∨off'=off)∧v=.slice (some ⟨blk,off',none⟩) len cap') {Ic:Ft} (td:∀ b o,I b o→Ic b o) (hb:∀ b o,β i=some b→Ic b o):CR Ic w v c:=by
 obtain⟨es,blk,off',cap',f,rfl,rfl,h2,h3,h4,h5,h6⟩:=F3 hst h hx
 exact .sl blk off' cap' sz es f h2 h4 (fun p q hp hq=>⟨h5 p q hp hq,hb blk _ h3⟩) (fun p q e c he hc=>(h6 p q e c he hc).mono fun b o h=>⟨td b o h,rfl⟩)
theorem F5 {T:TypeId} {lo hi mx:Option Operand} {vx:Value} {ox:Option Nat} (hst:St G n I0 M w0 I β ob s a w) (h:jl P T x (lo.map (ev G s)) (hi.map (ev G s)) (mx.map (ev G s)) K) (hx:LR (Wr M w0) I β w ox vx x) :
 ∃ z u,K z∧LR (Wr M w0) I β w none u z∧(Instr.sliceAt T vx (lo.map a.eval) (hi.map a.eval) (mx.map a.eval)).run P w=.ok u w:=by
 unfold jl at h
 split at h
 ·rename_i st rQ
  obtain⟨j,d,h1,h2,h3,_⟩:=bu rQ
  have hd:=nW h3
  subst hd
  rw[hx.lit]
  split at h
  ·rename_i l hh hl OG hm
   obtain⟨⟨h0,Ug,Uy⟩,h⟩:=h
   have hmx:mx.map a.eval=none:=by cases mx<;>simp_all
   refine⟨_,_,h,.ofLit rfl,?_⟩
   unfold Instr.sliceAt
   simp only[aC,aP h2,aw]
   unfold Instr.slice
   simp only[aC,aP h2,aw,hmx]
   simp[rV (P:=P) (w:=w) false st.size st.size _ _ l hh (ly hst hl) (ly hst OG) h0 Ug Uy (ar _)]
  ·exact h.elim
 ·rename_i e _ _ _ _ _ _ es rQ
  obtain⟨j,d,h1,h2,h3,_⟩:=bu rQ
  have hd:=dq h3
  subst hd
  have jn:=hx.toC
  split at h
  ·rename_i hm
   split at h
   case h_2=>exact h.elim
   rename_i ie l hh ra hl OG
   obtain⟨j',d',jR,oJ,_,eP,_⟩:=bu ra
   obtain⟨⟨h0,Ug,Uy,hs⟩,h⟩:=h
   have hmx:mx.map a.eval=none:=by cases mx<;>simp_all
   have hb:=fun cap hc=>rV (P:=P) (w:=w) true es.length cap _ _ l hh (ly hst hl) (ly hst OG) h0 Ug Uy hc
   have jG:=eW (P:=P) w jR
   rcases jn.sl_inv with⟨⟨xa,xc,hv,qF⟩,rfl⟩ | ⟨b,off,cap,sz,f,hv,ky,_⟩
   ·simp only[aB] at Uy
    have:l=0∧hh=0:=by omega
    obtain⟨rfl,rfl⟩:=this
    refine⟨_,.slice xa 0 xc,h,.ofC (by simpa using CR.nil xa xc qF),?_⟩
    subst hv
    unfold Instr.sliceAt
    simp only[aC,aP h2,aw]
    unfold Instr.slice
    simp only[aC,aP h2,aw,hmx]
    have:=hb xc (by simp)
    simp only[aB] at this
    cases xa with
    |none=>obtain rfl:=qF rfl;simp[this,jG]
    |some xa=>simp[this,jG,Addr.add]
   ·subst hv
    refine⟨_,.slice (some (if cap=l.toNat then⟨b,off,none⟩ else⟨b,off+l.toNat*ie.size,none⟩)) (hh.toNat - l.toNat) (cap - l.toNat),h,.ofC ?_,?_⟩
    ·split
     ·rename_i kf
      have:(es.take hh.toNat).drop l.toNat=([]:List (List C)):=cY (by simp;omega)
      rw[this]
      have e1:hh.toNat - l.toNat=0:=by omega
      have e2:cap - l.toNat=0:=by omega
      rw[e1,e2]
      exact .sl b off 0 0 [] (fun _ _=>undef) (ar _) (by simp) (by simp) (by simp)
     ·exact jn.subslice hs (by omega) (by omega) (by omega)
    ·unfold Instr.sliceAt
     simp only[aC,aP h2,aw]
     unfold Instr.slice
     simp only[aC,aP h2,aw,hmx,hb cap ky,jG,a8,eu jR,← eP]
     split<;>simp_all[cX]
  ·rename_i km mm hm
   split at h
   ·rename_i ie l khh hh ra hl OG
    obtain⟨j',d',jR,oJ,_,eP,_⟩:=bu ra
    obtain⟨⟨h0,Ug,Uy,rfl,hs⟩,h⟩:=h
    obtain⟨km',hmx⟩:∃ k,mx.map a.eval=some (.int k mm):=by
     rcases mx with _ | X
     ·simp at hm
     ·have hX:=bD hst X
      simp only[cD,ai] at hm
      rw[hm] at hX
      exact⟨km,by rw[cD,hX.lit]⟩
    have Uu:∃ k,hi.map a.eval=some (.int k mm):=by
     rcases hi with _ | X
     ·simp at OG
     ·have hX:=bD hst X
      simp only[cD,ai] at OG
      rw[OG] at hX
      exact⟨khh,by rw[cD,hX.lit]⟩
    have hb:=fun cap hc=>Im (P:=P) (w:=w) true es.length cap _ _ l mm km' (ly hst hl) Uu h0 Ug hc
    have jG:=eW (P:=P) w jR
    rcases jn.sl_inv with⟨⟨xa,xc,hv,qF⟩,rfl⟩ | ⟨b,off,cap,sz,f,hv,ky,_⟩
    ·simp only[aB] at Uy
     have:l=0∧mm=0:=by omega
     obtain⟨rfl,rfl⟩:=this
     refine⟨_,.slice xa 0 0,h,⟨by simpa using CR.nil xa 0 (fun _=>rfl),.inl ⟨rfl,rfl,xa,by simp⟩⟩,?_⟩
     subst hv
     unfold Instr.sliceAt
     simp only[aC,aP h2,aw]
     unfold Instr.slice
     simp only[aC,aP h2,aw,hmx]
     have:=hb xc (by simp)
     simp only[aB] at this
     cases xa with
     |none=>obtain rfl:=qF rfl;simp[this,jG]
     |some xa=>simp[this,jG,Addr.add]
    ·subst hv
     have cn:((es.take mm.toNat).drop l.toNat).length=mm.toNat - l.toNat:=by simp;omega
     refine⟨_,.slice (some (if mm.toNat=l.toNat then⟨b,off,none⟩ else⟨b,off+l.toNat*ie.size,none⟩)) (mm.toNat - l.toNat) (mm.toNat - l.toNat),h,⟨?_,.inl ⟨rfl,rfl,_,by rw[cn]⟩⟩,?_⟩
     ·split
      ·rename_i kf
       have:(es.take mm.toNat).drop l.toNat=([]:List (List C)):=cY (by simp;omega)
       rw[this]
       have e1:mm.toNat - l.toNat=0:=by omega
       rw[e1]
       exact .sl b off 0 0 [] (fun _ _=>undef) (ar _) (by simp) (by simp) (by simp)
      ·exact jn.subslice hs (by omega) (by omega) (by omega)
     ·unfold Instr.sliceAt
      simp only[aC,aP h2,aw]
      unfold Instr.slice
      simp only[aC,aP h2,aw,hmx,hb cap (by omega),jG,a8,eu jR,← eP]
      split<;>simp_all[cX]
   ·exact h.elim
  ·exact h.elim
 ·rename_i e _ _ _ _ _ _ b off len cap sz rQ
  obtain⟨j,d,h1,h2,h3,_⟩:=bu rQ
  have hd:=dq h3
  subst hd
  split at h
  ·rename_i ie l hh mm ra hl OG hmm
   obtain⟨j',d',jR,oJ,_,eP,_⟩:=bu ra
   obtain⟨⟨fC,h0,Ug,Uy,h03,h04⟩,h⟩:=h
   simp only[LR] at hx
   obtain⟨ky,blk,off',cap',Aa,e1,nk,rfl⟩:=hx
   have jG:=eW (P:=P) w jR
   have hb:∃ M:Nat,mm≤(M:Int)∧M≤cap'∧(Instr.sliceBounds true len cap' (lo.map a.eval) (hi.map a.eval) (mx.map a.eval)).run P w=.ok (l.toNat,hh.toNat,M) w:=by
    rcases ly hst hmm with⟨e,rfl⟩ | ⟨km,e⟩
    ·refine⟨cap',by omega,ar _,?_⟩
     rw[e]
     have:=zC (P:=P) (w:=w) len cap' _ _ l hh (ly hst hl) (ly hst OG) h0 Ug (by omega)
     simpa using this
    ·refine⟨mm.toNat,by omega,by omega,?_⟩
     rw[e]
     have Uu:∃ k,hi.map a.eval=some (.int k hh):=by
      rcases ly hst OG with⟨e5,_⟩ | h5
      ·cases mx with
       |none=>cases e
       |some X=>have:=h04 rfl;cases hi<;>simp_all
      ·exact h5
     exact zD (P:=P) (w:=w) len cap' _ _ l hh mm km (ly hst hl) Uu h0 Ug Uy (by omega)
   obtain⟨M,hM1,hM2,hb⟩:=hb
   refine⟨_,.slice (some (if M=l.toNat then⟨blk,off',none⟩ else⟨blk,off'+l.toNat*ie.size,none⟩)) (hh.toNat - l.toNat) (M - l.toNat),h,?_,?_⟩
   ·simp only[LR]
    split
    ·exact⟨by omega,blk,off',M - l.toNat,by omega,e1,.inl (by omega),rfl⟩
    ·have:off'=off:=by rcases nk with h4 | h4;omega;exact h4
     exact⟨by omega,blk,_,M - l.toNat,by omega,e1,.inr (by rw[this,fC]),rfl⟩
   ·unfold Instr.sliceAt
    simp only[aC,aP h2,aw]
    unfold Instr.slice
    simp only[aC,aP h2,aw,hb,jG,a8,eu jR,← eP]
    split<;>simp_all[cX]
  ·exact h.elim
 ·rename_i e _ _ _ _ _ _ blk off len cap rQ
  obtain⟨j,d,h1,h2,h3,_⟩:=bu rQ
  have hd:=dq h3
  subst hd
  split at h
  ·rename_i ie l hh mm ra hl OG hmm
   obtain⟨j',d',jR,oJ,_,eP,_⟩:=bu ra
   obtain⟨⟨h0,Ug,Uy,h03,h04⟩,h⟩:=h
   obtain rfl:=hx.toC.ex_inv
   have jG:=eW (P:=P) w jR
   have hb:(Instr.sliceBounds true len cap (lo.map a.eval) (hi.map a.eval) (mx.map a.eval)).run P w=.ok (l.toNat,hh.toNat,mm.toNat) w:=by
    rcases ly hst hmm with⟨e,rfl⟩ | ⟨km,e⟩
    ·rw[e]
     have:=zC (P:=P) (w:=w) len cap _ _ l hh (ly hst hl) (ly hst OG) h0 Ug (by omega)
     simpa using this
    ·rw[e]
     have Uu:∃ k,hi.map a.eval=some (.int k hh):=by
      rcases ly hst OG with⟨e5,_⟩ | h5
      ·cases mx with
       |none=>cases e
       |some X=>have:=h04 rfl;cases hi<;>simp_all
      ·exact h5
     exact zD (P:=P) (w:=w) len cap _ _ l hh mm km (ly hst hl) Uu h0 Ug Uy (by omega)
   refine⟨_,_,h,.ofC (.ex _ rfl rfl),?_⟩
   unfold Instr.sliceAt
   simp only[aC,aP h2,aw]
   unfold Instr.slice
   simp only[aC,aP h2,aw,hb,jG,a8,eu jR,← eP]
   split<;>simp_all[cX]
  ·exact h.elim
 ·rename_i m e _ _ _ _ _ _ cs k rQ
  obtain⟨j,d,h1,h2,h3,_⟩:=bu rQ
  have hd:=nX h3
  subst hd
  obtain⟨b,off,f,rfl,eQ,pU⟩:=hx.toC.rp_inv
  split at h
  ·rename_i ie ra hl hh hm
   obtain⟨j',d',jR,oJ,_,eP,_⟩:=bu ra
   obtain⟨ke,h⟩:=h
   have e1:lo.map a.eval=none:=by cases lo<;>simp_all
   have e2:hi.map a.eval=none:=by cases hi<;>simp_all
   have e3:mx.map a.eval=none:=by cases mx<;>simp_all
   have jG:=eW (P:=P) w jR
   refine⟨_,.slice (some ⟨b,off+k,none⟩) m m,h,.ofC ?_,?_⟩
   ·have kf:=qI (sz:=ie.size) m (cs.drop k)
    have aj0:∀ i q,i<m→q<ie.size→k+i*ie.size+q<cs.length:=fun i q hi hq=>by
     have:(i+1)*ie.size≤m*ie.size:=aL _ hi
     rw[eC] at this;omega
    have jE:∀ x∈ma ie.size m (cs.drop k),x.length=ie.size:=fun x hx=>by
     obtain⟨i,hi,he⟩:=fa.1 hx
     have:=pB (sz:=ie.size) m (cs.drop k) i (by omega)
     rw[ab hi] at this
     simp only[ai] at this
     rw[← he,this]
     have hm':(i+1)*ie.size≤m*ie.size:=aL _ (by omega)
     rw[eC] at hm'
     simp;omega
    have:=CR.sl (I:=I) (w:=w) b (off+k) m ie.size (ma ie.size m (cs.drop k)) (fun i q=>f (k+i*ie.size+q)) (by omega) jE
     (fun i q hi hq=>by
      have:=eQ (k+i*ie.size+q) (aj0 i q (by omega) hq)
      rw[show off+k+i*ie.size+q=off+(k+i*ie.size+q) by omega]
      exact this)
     (fun i q e c he hc=>by
      have hi:i<m:=by have:=(ae.1 he).1;omega
      rw[pB m _ i hi] at he
      simp only[ai] at he
      subst he
      rw[ck] at hc
      split at hc
      ·rw[cA,cA] at hc
       exact pU _ c (by rw[dI];exact hc)
      ·cases hc)
    rw[kf] at this
    exact this
   ·unfold Instr.sliceAt
    simp only[aC,aP h2,aw,Instr.sureAddr,a8,e1,e2,e3]
    have:=rV (P:=P) (w:=w) false m m none none 0 m (.inl ⟨rfl,rfl⟩) (.inl ⟨rfl,rfl⟩) (Int.le_refl _) (by omega) (Int.le_refl _) (ar _)
    simp only[this,aw,jG,aC,a8]
    simp[cX]
  ·exact h.elim
 ·rename_i m e _ _ _ _ _ _ b k rQ
  obtain⟨j,d,h1,h2,h3,_⟩:=bu rQ
  have hd:=nX h3
  subst hd
  simp only[LR] at hx
  obtain⟨blk,hβ,rfl⟩:=hx
  split at h
  ·rename_i ie l hh ra hl OG hm
   obtain⟨j',d',jR,oJ,_,eP,_⟩:=bu ra
   obtain⟨⟨h0,Ug,Uy⟩,h⟩:=h
   have e3:mx.map a.eval=none:=by cases mx<;>simp_all
   have jG:=eW (P:=P) w jR
   have hb:=rV (P:=P) (w:=w) false m m _ _ l hh (ly hst hl) (ly hst OG) h0 Ug Uy (ar _)
   refine⟨_,.slice (some (if m=l.toNat then⟨blk,k,none⟩ else⟨blk,k+l.toNat*ie.size,none⟩)) (hh.toNat - l.toNat) (m - l.toNat),h,?_,?_⟩
   ·simp only[LR]
    refine⟨by omega,?_⟩
    split
    ·exact⟨blk,k,_,ar _,hβ,.inl (by omega),rfl⟩
    ·exact⟨blk,_,_,ar _,hβ,.inr rfl,rfl⟩
   ·unfold Instr.sliceAt
    simp only[aC,aP h2,aw,Instr.sureAddr,a8,e3]
    simp only[hb,aw,jG,aC,a8,eu jR,← eP]
    split<;>simp_all[cX]
  ·exact h.elim
 ·exact h.elim
theorem MB {T:TypeId} {vx:Value} {ox:Option Nat} (h:H6 P T x K) (hx:LR base I β w ox vx x) :
 ∃ z u,K z∧LR base I β w none u z∧(Instr.arrayAt T vx).run P w=.ok u w:=by
 unfold H6 at h
 split at h
 ·rename_i m e _ _ _ _ _ _ b off len cap sz hi
  obtain⟨j,d,h1,h2,h3,_⟩:=bu hi
  have hd:=nX h3
  subst hd
  split at h
  ·obtain⟨⟨fC,h0,ke⟩,h⟩:=h
   simp only[LR] at hx
   obtain⟨ky,blk,off',cap',Aa,hβ,nk,rfl⟩:=hx
   have:off'=off:=by rcases nk with h4 | h4;omega;exact h4
   subst this
   refine⟨_,.pointer (some ⟨blk,off',none⟩),h,by simp only[LR];exact⟨blk,hβ,rfl⟩,?_⟩
   unfold Instr.arrayAt
   simp only[aC,aP h2,aw]
   rw[if_neg (by omega)];rfl
  ·exact h.elim
 ·exact h.elim
end
section
variable {P:Program} {G:Gl} {tr:List Nat} {n:Nat} {I0:Ft} {M:Mx} {w0:World} {I:Ft} {β:Nat→Option Nat} {ob:Loc→Option Nat} {s:S} {a:Act} {w:World} {o:Oper}
 {next:Act→World→Prop} {Q:Exit→Act→World→Prop} {base:Nat→Prop} {v:Value} {x y:V} {K:V→Prop}
theorem xu:∀ (es:List (List C)) (l:List UInt8),xh es=some l→es.length=l.length∧
 ∃ ns:List Int,ns.length=l.length∧l=ns.map (fun m=>UInt8.ofNat m.toNat)∧∀ (i:Nat) (m:Int),ns[i]?=some m→es[i]?=some [.lit (.int .u8 m)]
 |[],l,h=>by
  simp only[xh,ai] at h
  subst h
  exact⟨rfl,[],rfl,rfl,by simp⟩
 |e::es,l,h=>by
  unfold xh at h
  split at h
  ·cases ‹_::_=[]›
  ·rename_i m r he
   cases he
   simp only[aU] at h
   obtain⟨l',h1,rfl⟩:=h
   obtain⟨h2,ns,h3,h4,h5⟩:=xu _ _ h1
   refine⟨by simp[h2],m::ns,by simp[h3],by simp[h4],fun i q hq=>?_⟩
   cases i with
   |zero=>simp at hq;subst hq;rfl
   |succ i=>exact h5 i q (by simpa using hq)
  ·cases h
theorem sU:∀ (ns:List Int) (r:ByteArray),ns.foldl (fun r m=>r.push (UInt8.ofNat m.toNat)) r=⟨r.data++(ns.map fun m=>UInt8.ofNat m.toNat).toArray⟩
 |[],r=>by simp
 |m::ns,r=>by
  simp only[dH]
  rw[sU ns]
  simp[ByteArray.push]
theorem Ip {src dst:TypeId} {vx:Value} (hst:St G n I0 M w0 I β ob s a w) (hd:∀ d,o.dst=some d→d<n) (h:iW P src dst x K) (hx:(∃ ox,LR (Wr M w0) I β w ox vx x)∨∃ es,x=.c (.sl es)∧RD I w vx es) :
 ∃ z u w',K z∧(convert src dst vx).run P w=.ok u w'∧SE G n I0 M w0 (s.after tr o z) (a.put o.dst u) w':=by
 unfold iW at h
 split at h
 ·rename_i i k _ _ _ _ _ _ k' m hi rQ
  obtain⟨j,d,_,h2,_⟩:=bu hi
  obtain⟨j',d',_,oJ,h3',_⟩:=bu rQ
  have pT:=xp h3'
  subst pT
  obtain⟨ox,hx⟩:∃ ox,LR (Wr M w0) I β w ox vx _:=by
   rcases hx with hx | ⟨es,e,_⟩
   ·exact hx
   ·cases e
  rw[hx.lit]
  refine⟨_,_,w,h,?_,.fin0 hst hd (.ofLit rfl)⟩
  simp[convert,aP h2,aP oJ,Conv.intToInt]
 ·rename_i i _ _ _ _ _ _ st hi rQ
  obtain⟨j,d,_,h2,_⟩:=bu hi
  obtain⟨j',d',_,oJ,h3',_⟩:=bu rQ
  have pT:=nW h3'
  subst pT
  obtain⟨ox,hx⟩:∃ ox,LR (Wr M w0) I β w ox vx _:=by
   rcases hx with hx | ⟨es,e,_⟩
   ·exact hx
   ·cases e
  rw[hx.lit]
  refine⟨_,_,w,h,?_,.fin0 hst hd (.ofLit rfl)⟩
  simp[convert,aP h2,aP oJ]
 ·rename_i _ _ _ _ _ _ e _ _ _ _ _ _ st hi rQ
  obtain⟨j,d,_,h2,h3,_⟩:=bu hi
  obtain⟨j',d',_,oJ,h3',_⟩:=bu rQ
  have pT:=dq h3'
  subst pT
  have hds:=nW h3
  subst hds
  split at h
  ·rename_i _ _ _ _ _ _ ra
   obtain⟨je,de,_,h2e,h3e,_⟩:=bu ra
   have hde:=xp h3e
   subst hde
   obtain⟨ox,hx⟩:∃ ox,LR (Wr M w0) I β w ox vx _:=by
    rcases hx with hx | ⟨es,e,_⟩
    ·exact hx
    ·cases e
   rw[hx.lit]
   have nP:=(hst.drew).alloc (.cells (bytesRow st (grownCap w st.size 0 e)) e ((bytesRow st (grownCap w st.size 0 e)).size,(bytesRow st (grownCap w st.size 0 e)).size+1))
   have bH:=run_bytes_of_string (P:=P) w src dst e st h2 oJ h2e
   refine⟨_,_,_,h,bH,.fin0 nP hd (.ofC ?_)⟩
   have cn:(kC st).length=st.size:=by simp[kC]
   rw[show Value.slice (some ⟨w.heap.size,0,none⟩) st.size (grownCap w st.size 0 e)=.slice (some ⟨w.heap.size,0,none⟩) (kC st).length (grownCap w st.size 0 e) by rw[cn]]
   refine CR.row (sz:=1) (fY w.drew _) (by rw[cn];exact grownCap_ge w _ _ _) (by simp[kC]) (fun q c hq=>?_) (fun q _=>.inr rfl)
   have Uf:q<st.size∧c=.lit (.int .u8 (st.data.toList.getD q 0).toNat):=by
    have:=mo (sz:=1) (kC st) (by simp[kC]) q 0 (by omega)
    rw[Nat.mul_one,eI] at this
    rw[this] at hq
    simp only[kC,ba] at hq
    cases hb:st.data.toList[q]? with
    |none=>simp[hb] at hq
    |some b=>
     simp only[hb,cD,js,bJ,ai] at hq
     have bV:=(ae.1 hb).1
     exact⟨by simpa using bV,by rw[← hq];simp[List.getD,hb]⟩
   obtain⟨nr,rfl⟩:=Uf
   have aj9:q<st.data.size:=nr
   have fC:q<(bytesRow st (grownCap w st.size 0 e)).size:=by simp[bytesRow];omega
   refine⟨fC,?_⟩
   have:(bytesRow st (grownCap w st.size 0 e)).getD q undef=.int .u8 (st.data.toList.getD q 0).toNat:=by
    unfold bytesRow
    rw[ah,ew (by simpa using aj9),Array.getElem?_map,ax aj9]
    have:st.data.toList.getD q 0=st.data[q]:=by
     rw[ay,aO,ax aj9];rfl
    rw[this];rfl
   rw[this]
   exact .lit _ rfl
  ·exact h.elim
 ·rename_i e _ _ _ _ _ _ _ _ _ _ _ _ es hi rQ
  obtain⟨j,d,_,h2,h3,_⟩:=bu hi
  obtain⟨j',d',_,oJ,h3',_⟩:=bu rQ
  have pT:=nW h3'
  subst pT
  have hds:=dq h3
  subst hds
  split at h
  ·rename_i _ _ _ _ _ _ ra
   obtain⟨je,de,_,h2e,h3e,_⟩:=bu ra
   have hde:=xp h3e
   subst hde
   split at h
   ·rename_i l hl
    obtain⟨cn,ns,uG,rfl,hns⟩:=xu _ _ hl
    have jn:RD I w vx es:=by
     rcases hx with⟨ox,hx⟩ | ⟨es',e,hrd⟩
     ·exact .ofCR hx.toC
     ·cases e;exact hrd
    refine⟨_,_,w,h,?_,.fin0 hst hd (.ofLit rfl)⟩
    rcases jn with⟨⟨xa,xc,hv,qF⟩,rfl⟩ | ⟨b,off,cap,sz,f,hv,ky,hs,eQ,pU⟩
    ·subst hv
     have:ns=[]:=cY (by simp at cn;omega)
     subst this
     rw[run_convert_bytes_string w src dst e xa 0 xc h2 h2e oJ]
     cases xa<;>rfl
    ·subst hv
     rw[run_convert_bytes_string w src dst e _ _ _ h2 h2e oJ,run_bytesToString w ⟨b,off,none⟩ es.length cap ns ?_,sU]
     ·simp
     ·have en:∀ e∈es,e.length=1:=by
       intro e he
       obtain⟨i,hi⟩:=eA.1 he
       have bV:=(ae.1 hi).1
       have:ns[i]?=some ns[i]:=ab (by simp at cn;omega)
       rw[hns i _ this] at hi
       cases hi;rfl
      have hfv:∀ i,i<es.length→w.cell? ⟨b,off+i,none⟩=some (.int .u8 (ns.getD i 0)):=by
       intro i hi
       have hn:ns[i]?=some ns[i]:=ab (by simp at cn;omega)
       have he:=hns i _ hn
       have fC:sz=1:=by rw[← hs _ (aT he)];rfl
       subst fC
       have h1:=eQ i 0 hi (by omega)
       have h2:=pU i 0 _ _ he rfl
       have h3:f i 0=.int .u8 ns[i]:=h2.lit_eq
       rw[Nat.mul_one,eI,h3] at h1
       rw[h1]
       simp[List.getD,hn]
      rw[run_loadCells w ⟨b,off,none⟩ es.length (fun i=>.int .u8 (ns.getD i 0)) (fun i hi=>by rw[cX];exact hfv i hi)]
      congr 2
      apply fP
      intro i
      by_cases hi:i<ns.length
      ·have:i<es.length:=by simp at cn;omega
       simp[hi,this]
      ·have:¬ i<es.length:=by simp at cn;omega
       simp[hi,this]
   ·exact h.elim
  ·exact h.elim
 ·exact h.elim
end
section
variable {P:Program} {G:Gl} {tr:List Nat} {n:Nat} {I0:Ft} {M:Mx} {w0:World} {I:Ft} {β:Nat→Option Nat} {ob:Loc→Option Nat} {s:S} {a:Act} {w:World} {o:Oper}
 {next:Act→World→Prop} {Q:Exit→Act→World→Prop} {base:Nat→Prop} {v:Value} {x y:V} {K:V→Prop}
def ArgsR (I:Ft) (w:World) (vs:List Value) (xs:List V):Prop:=vs.length=xs.length∧∀ (j:Nat) (x:V),xs[j]?=some x→DR I w (vs.getD j undef) x
theorem ArgsR.nil:ArgsR I w [] []:=⟨rfl,by simp⟩
theorem ArgsR.append {vs us:List Value} {xs ys:List V} (h:ArgsR I w vs xs) (h':ArgsR I w us ys):ArgsR I w (vs++us) (xs++ys):=by
 refine⟨by simp[h.1,h'.1],fun j x hx=>?_⟩
 have hl:=h.1
 by_cases hj:j<xs.length
 ·rw[az hj] at hx
  have:=h.2 j x hx
  rw[ay,az (by omega)]
  rw[ay] at this
  exact this
 ·rw[aF (by omega)] at hx
  have:=h'.2 _ x hx
  rw[ay,aF (by omega),hl]
  rw[ay] at this
  exact this
theorem OW (hst:St G n I0 M w0 I β ob s a w) {i off blk:Nat} {cs:List C} (h:Ah s i=some cs) (hβ:β i=some blk) {Ic:Ft} (td:∀ b o,I b o→Ic b o) (hb:∀ o,Ic blk o) :
 CR Ic w (.pointer (some ⟨blk,off,none⟩)) (.rp cs off):=by
 unfold Ah at h
 split at h
 ·rename_i hi
  obtain⟨sN,cur,e1,e2,e3,e4,e5,e7⟩:=hst.bx i hi
  obtain⟨T,e3,e6⟩:=e3.cells (zx h)
  rw[hβ] at e1
  cases e1
  have cn:cs.length=(s.bx i).length:=List.mapM_eq_some_length h
  have:=CR.rp (I:=Ic) (w:=w) blk 0 off cs (fun j=>cur.getD j undef) (fun j hj=>by
   have hjc:j<cur.size:=by omega
   rw[aK]
   refine⟨?_,hb j⟩
   rw[eZ w blk j cur T.t T.fz e3]
   simp[ax hjc]) (fun j c hc=>by
   obtain⟨vv,HV,hvc⟩:=List.mapM_eq_some_get h j c hc
   have hZ:=e5 j
   have:(s.bx i).getD j .un=vv:=by simp[List.getD,HV]
   rw[this] at hZ
   cases vv<;>simp only[V.asC] at hvc<;>try cases hvc
   ·exact hZ.toC.mono fun b o h=>⟨td b o h,rfl⟩
   ·exact hZ.1.mono fun b o h=>⟨td b o h,rfl⟩)
  rw[aK] at this
  exact this
 ·cases h
theorem F6 (hst:St G n I0 M w0 I β ob s a w) {c:C} (hx:PR I β w v x) (h:vX s x=some c) {Ic:Ft} (td:∀ b o,I b o→Ic b o)
 (hb:x.isBp=true→∀ i b o,β i=some b→Ic b o):CR Ic w v c:=by
 cases x<;>simp only[PR] at hx<;>simp only[vX] at h
 ·cases h;exact hx.mono fun b o h=>⟨td b o h,rfl⟩
 ·cases h;exact hx.2.1.mono fun b o h=>⟨td b o h,rfl⟩
 ·obtain⟨blk,e1,rfl⟩:=hx
  simp only[aU] at h
  obtain⟨cs,h1,rfl⟩:=h
  exact OW hst h1 e1 td (fun o=>hb rfl _ _ o e1)
 ·exact F4 hst h hx td (fun b o e=>hb rfl _ b o e)
 ·cases h
 ·cases h
 ·cases h
theorem Bd (hst:St G n I0 M w0 I β ob s a w) {ox:Option Nat} (hx:LR base I β w ox v x) (h:imm s x=some y) {Ic:Ft} (td:∀ b o,I b o→Ic b o)
 (hb:x.boxy=true→∀ i b o,β i=some b→Ic b o):DR Ic w v y:=by
 cases x<;>simp only[imm] at h<;>try cases h
 ·exact .c _ _ (hx.toC.mono fun b o h=>⟨td b o h,rfl⟩)
 ·obtain⟨vs,rfl,h1,h2⟩:=hx.agg
  exact .agg vs _ h1 fun j c hc=>(h2 j c hc).mono fun b o h=>⟨td b o h,rfl⟩
 ·exact .c _ _ (hx.1.mono fun b o h=>⟨td b o h,rfl⟩)
 ·simp only[LR] at hx
  obtain⟨blk,e1,rfl⟩:=hx
  simp only[aU] at h
  obtain⟨cs,h1,rfl⟩:=h
  exact .c _ _ (OW hst h1 e1 td (fun o=>hb rfl _ _ o e1))
 ·rename_i f fs cs
  simp only[LR] at hx
  obtain⟨vf,vc,rfl,h1,h2,h3,h4⟩:=hx
  split at h
  ·rename_i fs' cs' e1 e2
   cases h
   have l1:=List.mapM_eq_some_length e1
   have l2:=List.mapM_eq_some_length e2
   have hbf:∀ z∈fs,z.isBp=true→∀ i b o,β i=some b→Ic b o:=fun z hz hzb=>
    hb (by simp only[V.boxy,eT,dL];exact .inl ⟨z,hz,hzb⟩)
   have hbc:∀ z∈cs,z.isBp=true→∀ i b o,β i=some b→Ic b o:=fun z hz hzb=>
    hb (by simp only[V.boxy,eT,dL];exact .inr ⟨z,hz,hzb⟩)
   refine .c _ _ (.fn f vf vc fs' cs' (by omega) (by omega) (fun j c hc=>?_) (fun j c hc=>?_))
   ·obtain⟨z,hz,sM⟩:=List.mapM_eq_some_get e1 j c hc
    exact F6 hst (h3 j z hz) sM td (hbf z (aT hz))
   ·obtain⟨z,hz,sM⟩:=List.mapM_eq_some_get e2 j c hc
    exact F6 hst (h4 j z hz) sM td (hbc z (aT hz))
  ·cases h
 ·simp only[LR] at hx
  simp only[aU] at h
  obtain⟨c,h1,rfl⟩:=h
  exact .c _ _ (F4 hst h1 hx td (fun b o e=>hb rfl _ b o e))
 ·rename_i vs
  simp only[LR] at hx
  obtain⟨cells,rfl,h2,h3⟩:=hx
  simp only[aU] at h
  obtain⟨cs,h1,rfl⟩:=h
  refine .agg _ _ (by rw[h2];exact(List.mapM_eq_some_length h1).symm) fun j c hc=>?_
  obtain⟨z,hz,sM⟩:=List.mapM_eq_some_get h1 j c hc
  exact F6 hst (h3 j z hz) sM td (fun hzb=>hb (by simp only[V.boxy,dL];exact⟨z,aT hz,hzb⟩))
theorem F7 (hst:St G n I0 M w0 I β ob s a w) {Ic:Ft} (td:∀ b o,I b o→Ic b o):∀ (l:List Operand) (ys:List V),(l.map (ev G s)).mapM (imm s)=some ys→
 ((l.map (ev G s)).any V.boxy=true→∀ i b o,β i=some b→Ic b o)→ArgsR Ic w (l.map a.eval) ys
 |[],ys,h,_=>by simp at h;subst h;exact .nil
 |x::l,ys,h,hb=>by
  simp only[br,fe,bind,iM,pure,ai] at h
  obtain⟨y,h1,ys',h2,rfl⟩:=h
  have hd:=Bd hst (bD hst x) h1 td (fun hx=>hb (by simp[hx]))
  have ih:=F7 hst td l ys' h2 (fun hx=>hb (by simp only[br,kX,hx,jS]))
  refine⟨by simp[ih.1],fun j z hz=>?_⟩
  cases j with
  |zero=>simp at hz;subst hz;exact hd
  |succ j=>simpa using ih.2 j z (by simpa using hz)
theorem ArgsR.ofC {I':Ft} (vs:Array Value) (cs:List C) (h:vs.size=cs.length) (hc:∀ j c,cs[j]?=some c→CR I' w (vs.getD j undef) c):ArgsR I' w vs.toList (cs.map .c):=by
 refine⟨by simp[h],fun j x hx=>?_⟩
 simp only[ba,aU] at hx
 obtain⟨c,h1,rfl⟩:=hx
 have:=hc j c h1
 rw[ay,aO]
 rw[ah] at this
 exact .c _ _ this
theorem OX (hst:St G n I0 M w0 I β ob s a w) {Ic:Ft} (td:∀ b o,I b o→Ic b o) (vs:Array Value) (xs ys:List V) (hl:vs.size=xs.length) (h:xs.mapM (imm s)=some ys)
 (hr:∀ j x,xs[j]?=some x→PR I β w (vs.getD j undef) x) (hb:xs.any V.boxy=true→∀ i b o,β i=some b→Ic b o):ArgsR Ic w vs.toList ys:=by
 refine⟨by have:=List.mapM_eq_some_length h;simp;omega,fun j y hy=>?_⟩
 obtain⟨x,hx,hxy⟩:=List.mapM_eq_some_get h j y hy
 have hp:=hr j x hx
 rw[ay,aO,← ah]
 have hZ:LR (Wr M w0) I β w none (vs.getD j undef) x:=by
  cases x<;>simp only[PR] at hp<;>simp only[LR]
  ·exact .c _ _ hp
  ·exact⟨hp.2.1,.inl ⟨rfl,hp.1,hp.2.2⟩⟩
  ·exact hp
  ·exact hp
  ·exact hp
  ·exact hp
  ·exact hp
 exact Bd hst hZ hxy td (fun yB=>hb (by simp only[dL];exact⟨x,aT hx,yB⟩))
theorem LR.flat {r:V} {ob':Option Nat} (hf:r.isFlat=true) (h:LR base I β w ob' v r) {I':Ft} {w':World} {base':Nat→Prop} {β':Nat→Option Nat}:LR base' I' β' w' none v r:=by
 have lits:∀ (cs:List C) (vs:Array Value),cs.all C.isLit=true→(∀ j c,cs[j]?=some c→CR I w (vs.getD j undef) c)→∀ j c,cs[j]?=some c→CR I' w' (vs.getD j undef) c:=by
  intro cs vs hc h j c hj
  have h1:=h j c hj
  have h2:=aV.1 hc c (aT hj)
  cases c<;>simp[C.isLit] at h2
  obtain⟨h3,h4⟩:=h1.lit_inv
  rw[h3];exact .lit _ h4
 cases r with
 |un=>simp only[LR];exact .un _
 |sk=>simp only[LR] at h ⊢;cases h;exact .sk
 |c c=>
  cases c<;>simp only[V.isFlat] at hf<;>try cases hf
  obtain⟨h3,h4⟩:=h.toC.lit_inv
  rw[h3];exact .ofLit h4
 |agg cs=>
  obtain⟨vs,rfl,h1,h2⟩:=h.agg
  simp only[LR];exact .agg vs _ h1 (lits _ vs hf h2)
 |tup ds=>
  simp only[LR] at h ⊢
  cases h with
  |tup vs _ h1 h2=>
   refine .tup vs ds h1 fun j d hj=>?_
   have h3:=h2 j d hj
   have h4:=aV.1 hf d (aT hj)
   cases d with
   |c c=>
    cases c<;>simp only at h4<;>try cases h4
    generalize vs.getD j undef=vv at h3
    cases h3 with
    |c _ _ h5=>
     obtain⟨h6,h7⟩:=h5.lit_inv
     rw[h6];exact .c _ _ (.lit _ h7)
   |agg cs=>
    generalize vs.getD j undef=vv at h3
    cases h3 with
    |agg us _ h5 h6=>exact .agg us _ h5 (lits _ us h4 h6)
   |_=>cases h4
 |ow=>cases hf
 |bp=>cases hf
 |clo=>cases hf
 |ms=>cases hf
 |mag=>cases hf
 |mr=>cases hf
 |mk=>cases hf
 |it=>cases hf
 |gh=>cases hf
 |yl=>cases hf
 |lp=>cases hf
 |hh=>cases hf
 |bm=>cases hf
 |gs=>cases hf
 |gg=>cases hf
theorem OY (hst:St G n I0 M w0 I β ob s a w) (hd:∀ d,o.dst=some d→d<n) {f:FuncId} {vs:List Value} {xs:List V} {r:V} (eK:FnOK P G f xs r) (hr:K r)
 (boxy:Bool) (dy:∀ Ic:Ft,(∀ b o,I b o→Ic b o)→(boxy=true→∀ i b o,β i=some b→Ic b o)→ArgsR Ic w vs xs) (tc:boxy=true→r.isFlat=true)
 (bH:(execOp a.eval o).run P w=.ok (.enter f vs.toArray) w)
 (hk:∀ a' w' x,K x→SE G n I0 M w0 (s.after tr o x) a' w'→next a' w'):o.wp P a w next Q:=by
 unfold Oper.wp
 rw[bH]
 simp only[Oper.upon]
 cases boxy with
 |false=>
  obtain⟨h1,h2⟩:=dy I (fun _ _ h=>h) (by simp)
  refine (eK.2 I w vs.toArray hst.ibnd hst.glob (by simpa using h1) (fun j x hx=>by simpa using h2 j x hx)).mono ?_
  rintro e w' ⟨v,I',rfl,hg,Uh,Qi,ob',hZ,sP⟩
  simp only
  refine hk _ _ r hr ?_
  have cy:=hst.grow hg Uh Qi
  refine .fin cy hd (o':=ob') ?_ fun b hb=>?_
  ·cases r<;>simp only[LR] at hZ ⊢<;>try exact hZ
   ·obtain⟨h3,h4⟩:=hZ
    refine⟨h3,?_⟩
    rcases h4 with h4 | ⟨e,blk,cap,cur,sz,q1,q2,q3,q4,q5⟩
    ·exact .inl h4
    ·exact .inr ⟨e,blk,cap,cur,sz,q1,q2,q3,.inl (df hst.below.size q4),q5⟩
   ·obtain⟨_,h3,_⟩:=hZ;cases h3
   rotate_left
   ·obtain⟨_,_,_,_,_,h3,_⟩:=hZ;cases h3
   ·obtain⟨cs,q1,q2,q3⟩:=hZ
    exact⟨cs,q1,q2,fun j x hx=>(q3 j x hx).mono (fun b o h=>⟨h,rfl⟩) (by simp)⟩
   ·obtain⟨_,h3,_⟩:=hZ;cases h3
   ·obtain⟨_,_,_,_,h3,_⟩:=hZ;cases h3
   ·obtain⟨h3,h4⟩:=hZ
    refine⟨h3,?_⟩
    rcases h4 with h4 | ⟨e,blk,cap,cur,sz,q1,q2,q3,q4,q5⟩
    ·exact .inl h4
    ·exact .inr ⟨e,blk,cap,cur,sz,q1,q2,q3,.inl (df hst.below.size q4),q5⟩
   ·obtain⟨_,h3,_⟩:=hZ;cases h3
   ·obtain⟨tm,q1,q2⟩:=hZ
    exact⟨tm,q1,fun t x hx=>(q2 t x hx).mono (fun b o h=>⟨h,rfl⟩) (by simp)⟩
   ·obtain⟨h3,e,blk,cap,cur,sz,q1,q2,q3,q4,q5⟩:=hZ
    exact⟨h3,e,blk,cap,cur,sz,q1,q2,q3,.inl (df hst.below.size q4),q5⟩
   ·obtain⟨h3,h4⟩:=hZ
    refine⟨h3,?_⟩
    rcases h4 with h4 | ⟨e,blk,cap,cur,sz,q1,q2,q3,q4,q5⟩
    ·exact .inl h4
    ·exact .inr ⟨e,blk,cap,cur,sz,q1,q2,q3,.inl (df hst.below.size q4),q5⟩
   ·rcases hZ with h4 | ⟨e,blk,cap,cur,sz,q1,q2,q3,q4,q5⟩
    ·exact .inl h4
    ·exact .inr ⟨e,blk,cap,cur,sz,q1,q2,q3,.inl (df hst.below.size q4),q5⟩
   ·obtain⟨_,h3,_⟩:=hZ;cases h3
   ·obtain⟨vf,vc,q1,q2,q3,q4,q5⟩:=hZ
    exact⟨vf,vc,q1,q2,q3,fun j x hx=>(q4 j x hx).mono (fun b o h=>⟨h,rfl⟩) (by simp),fun j x hx=>(q5 j x hx).mono (fun b o h=>⟨h,rfl⟩) (by simp)⟩
  ·obtain⟨h3,h4⟩:=sP b hb
   obtain⟨f1,f2⟩:=hst.fresh h3
   exact⟨⟨h4,.inl (df hst.below.size h3)⟩,f2,fun L hL=>absurd hL (f1 L)⟩
 |true=>
  have ot:∀ i b,β i=some b→b<w.heap.size:=fun i b hi=>by
   by_cases h:i<s.nb
   ·obtain⟨blk,cur,e1,_,e3,_⟩:=hst.bx i h
    rw[hi] at e1;cases e1
    exact e3.lt
   ·rw[hst.bnone i (by omega)] at hi;cases hi
  obtain⟨h1,h2⟩:=dy (fun b o=>I b o∨∃ i,β i=some b) (fun _ _ h=>.inl h) (fun _ i b o hi=>.inr ⟨i,hi⟩)
  refine (eK.2 (fun b o=>I b o∨∃ i,β i=some b) w vs.toArray (fun b o hb=>by
   rcases hb with hb | ⟨i,hi⟩
   ·exact hst.ibnd b o hb
   ·exact ot i b hi) (fun g cs hg=>(hst.glob g cs hg).mono fun b o h=>⟨.inl h,rfl⟩) (by simpa using h1) (fun j x hx=>by simpa using h2 j x hx)).mono ?_
  rintro e w' ⟨v,I',rfl,hg,Uh,Qi,ob',hZ,sP⟩
  simp only
  refine hk _ _ r hr ?_
  have cy:=hst.grow hg (fun _ _ h=>h) (fun _ _ h=>.inl h)
  exact .fin0 cy hd (hZ.flat (tc rfl))
theorem rj {f:Operand} {args:Array Operand} {ts:Array TypeId} (ho:o.op=.call { callee:=.value f,args:=args,argTypes:=ts }) {g:FuncId} {vf vc:Array Value} (hf:a.eval f=.func (.func g) vf vc)
 {fn:Func} {c:Code} (h1:P.funcs[g]?=some fn) (h2:(fn.name== "runtime.NumGoroutine")=false) (h3:fn.body=some c) :
 (execOp a.eval o).run P w=.ok (.enter g (vf++args.map a.eval++vc)) w:=by
 unfold execOp
 simp only[ho,resolve,Deferred.ofValue,hf,aC,a8,aw,invoke]
 have oJ:fn.name≠ "runtime.NumGoroutine" :=by simpa using h2
 simp[callFunc,h1,oJ,h3]
theorem Iq {f:Operand} {args:Array Operand} {ts:Array TypeId} (ho:o.op=.call { callee:=.value f,args:=args,argTypes:=ts }) (hst:St G n I0 M w0 I β ob s a w) (hd:∀ d,o.dst=some d→d<n)
 (h:rb P G s (ev G s f) (args.toList.map (ev G s)) K) (hk:∀ a' w' x,K x→SE G n I0 M w0 (s.after tr o x) a' w'→next a' w'):o.wp P a w next Q:=by
 have hf:=bD hst f
 unfold rb at h
 split at h
 ·rename_i g fs cs he
  rw[he] at hf
  split at h
  ·rename_i as has
   obtain⟨r,eK,tc,hr⟩:=h
   obtain⟨vf,vc,hv,q1,q2,q3,q4⟩:=hf.toC.fn_inv
   obtain⟨fn,h1,h2,c,h3⟩:=eK.1
   have bH:=rj (P:=P) (w:=w) ho hv h1 h2 h3
   refine OY hst hd eK hr ((args.toList.map (ev G s)).any V.boxy) (vs:=vf.toList++args.toList.map a.eval++vc.toList) (fun Ic td hb=>?_) tc ?_ hk
   ·exact((ArgsR.ofC vf fs q1 fun j c hc=>(q3 j c hc).mono fun b o h=>⟨td b o h,rfl⟩).append (F7 hst td _ as has hb)).append
     (ArgsR.ofC vc cs q2 fun j c hc=>(q4 j c hc).mono fun b o h=>⟨td b o h,rfl⟩)
   ·rw[bH];congr 2;apply da;simp
  ·exact h.elim
 ·rename_i g fs cs he
  rw[he] at hf
  simp only[LR] at hf
  obtain⟨vf,vc,hv,q1,q2,q3,q4⟩:=hf
  split at h
  ·rename_i fs' as cs' e1 e2 e3
   obtain⟨r,eK,tc,hr⟩:=h
   obtain⟨fn,h1,h2,c,h3⟩:=eK.1
   have bH:=rj (P:=P) (w:=w) ho hv h1 h2 h3
   refine OY hst hd eK hr ((fs++args.toList.map (ev G s)++cs).any V.boxy) (vs:=vf.toList++args.toList.map a.eval++vc.toList) (fun Ic td hb=>?_) tc ?_ hk
   ·exact((OX hst td vf fs fs' q1 e1 q3 fun hx=>hb (by simp only[List.any_append,hx,Bool.true_or])).append
     (F7 hst td _ as e2 fun hx=>hb (by simp only[List.any_append,hx,Bool.true_or,jS]))).append
     (OX hst td vc cs cs' q2 e3 q4 fun hx=>hb (by simp only[List.any_append,hx,jS]))
   ·rw[bH];congr 2;apply da;simp
  ·exact h.elim
 ·exact h.elim
theorem Be {mx:Bool} {args:Array Operand} (hst:St G n I0 M w0 I β ob s a w) (h:A6 mx (args.toList.map (ev G s)) K) :
 ∃ u,flat u=true∧K (.c (.lit u))∧(if mx then Builtin.max_ #[] 0 (args.map a.eval) else Builtin.min_ #[] 0 (args.map a.eval)).run P w=.ok u w:=by
 unfold A6 at h
 split at h
 ·rename_i k p k' q dy
  obtain⟨X,l,hX,hXv,hl⟩:∃ X l,args.toList=X::l∧ev G s X=.c (.lit (.int k p))∧l.map (ev G s)=[.c (.lit (.int k' q))]:=by
   cases ha:args.toList with
   |nil=>simp[ha] at dy
   |cons X l=>simp only[ha,br,cj] at dy;exact⟨X,l,rfl,dy.1,dy.2⟩
  obtain⟨Y,rfl,hYv⟩:∃ Y,l=[Y]∧ev G s Y=.c (.lit (.int k' q)):=by
   cases l with
   |nil=>simp at hl
   |cons Y l'=>simp only[br,cj,eF] at hl;exact⟨Y,by rw[hl.2],hl.1⟩
  have e1:a.eval X=.int k p:=by have:=bD hst X;rw[hXv] at this;exact this.lit
  have e2:a.eval Y=.int k' q:=by have:=bD hst Y;rw[hYv] at this;exact this.lit
  refine⟨_,rfl,h,?_⟩
  cases mx
  ·simp[Builtin.min_,hX,e1,e2,Builtin.min2]
  ·simp[Builtin.max_,hX,e1,e2,Builtin.max2]
 ·exact h.elim
end
section
variable {P:Program} {I:Ft} {w:World}
theorem UU {k:EK} {c d:C} (h:eqC k c d=some true):∃ v,c=.lit v∧d=.lit v∧(∀ m,Instr.sameBits m v v=true):=by
 cases k with
 |int=>
  obtain⟨k,a,b,rfl,rfl,hr⟩:=FR h
  have:a=b:=by simpa using hr.symm
  subst this
  exact⟨_,rfl,rfl,fun m=>by cases m<;>simp[Instr.sameBits]⟩
 |bool=>
  obtain⟨a,b,rfl,rfl,hr⟩:=Ba h
  have:a=b:=by simpa using hr.symm
  subst this
  exact⟨_,rfl,rfl,fun m=>by cases m<;>simp[Instr.sameBits]⟩
 |str=>
  obtain⟨a,b,rfl,rfl,hr⟩:=FT h
  have:a=b:=by simpa using hr.symm
  subst this
  exact⟨_,rfl,rfl,fun m=>by cases m<;>simp[Instr.sameBits,yE]⟩
theorem Eh:∀ {ks:List EK} {cs ds:List C},iC ks cs ds=some true→cs.length=ks.length→ds.length=ks.length→
 cs=ds∧∀ c∈cs,∃ v,c=.lit v∧∀ m,Instr.sameBits m v v=true
 |[],cs,ds,_,h1,h2=>by simp at h1 h2;subst h1;subst h2;simp
 |k::ks,[],ds,h,h1,h2=>by simp at h1
 |k::ks,c::cs,[],h,h1,h2=>by simp at h2
 |k::ks,c::cs,d::ds,h,h1,h2=>by
  simp only[iC] at h
  split at h
  ·rename_i p q e1 e2
   simp only[ai,aX] at h
   obtain⟨rfl,rfl⟩:=h
   obtain⟨v,rfl,rfl,hv⟩:=UU e1
   obtain⟨rfl,h4⟩:=Eh e2 (by simpa using h1) (by simpa using h2)
   exact⟨rfl,fun c hc=>by
    rcases aQ.1 hc with rfl | hc
    ·exact⟨v,rfl,hv⟩
    ·exact h4 c hc⟩
  ·cases h
theorem MC {xs ys:Array Value} {cs:List C} (hx:Cells I w xs cs) (hy:Cells I w ys cs) (hl:∀ c∈cs,∃ v,c=.lit v∧∀ m,Instr.sameBits m v v=true) :
 xs=ys∧∀ v∈xs.toList,∀ m,Instr.sameBits m v v=true:=by
 have each:∀ j,j<cs.length→∃ v,xs[j]?=some v∧ys[j]?=some v∧∀ m,Instr.sameBits m v v=true:=fun j hj=>by
  obtain⟨v,hv,hs⟩:=hl cs[j] (bM hj)
  have h1:=hx.2 j _ (ab hj)
  have h2:=hy.2 j _ (ab hj)
  rw[hv] at h1 h2
  exact⟨v,OT h1.lit_eq (by rw[hx.1];exact hj),OT h2.lit_eq (by rw[hy.1];exact hj),hs⟩
 refine⟨?_,fun v hv m=>?_⟩
 ·apply mL (by rw[hx.1,hy.1])
  intro j h1 h2
  obtain⟨v,e1,e2,_⟩:=each j (by rw[← hx.1];exact h1)
  rw[ax h1] at e1;rw[ax h2] at e2
  rw[dz e1,dz e2]
 ·obtain⟨j,hj,rfl⟩:=gG hv
  obtain⟨v,e1,_,hs⟩:=each j (by rw[← hx.1];simpa using hj)
  simp only[bK] at hj
  rw[ax hj] at e1
  simp only[Array.getElem_toList]
  rw[dz e1];exact hs m
theorem F8 {t:TypeId} {xs:Array Value} (h:∀ v∈xs.toList,∀ m,Instr.sameBits m v v=true) (h1:cZ P t=false→0<xs.size) (m:Nat) :
 Instr.sameBits (m+1) (mkv P t xs) (mkv P t xs)=true:=by
 unfold mkv
 cases hz:cZ P t with
 |false=>
  simp only[aI,dj]
  have:=h1 hz
  simp only[Array.getD,this,dif_pos]
  exact h _ (by simp) _
 |true=>
  simp only[dn]
  have:∀ l:List Value,(∀ v∈l,∀ m,Instr.sameBits m v v=true)→(l.zip l).all (fun(x:Value×Value)=>Instr.sameBits m x.1 x.2)=true:=by
   intro l hl
   rw[aV]
   intro x hx
   have:x.1=x.2∧x.1∈l:=by
    have h2:l.zip l=l.map fun a=>(a,a):=by
     clear hx hl
     induction l with
     |nil=>rfl
     |cons a l ih=>simp[ih]
    rw[h2] at hx
    obtain⟨a,ha,rfl⟩:=bA.1 hx
    exact⟨rfl,ha⟩
   rw[← this.1];exact hl _ this.2 m
  simp only[Instr.sameBits,BEq.rfl,j5]
  exact this _ h
theorem F9 {t:TypeId} {xs ys:Array Value} {ks:List EK} {cs ds:List C} (hx:Cells I w xs cs) (hy:Cells I w ys ds) (he:iC ks cs ds=some true) (h1:cs.length=ks.length) (h2:ds.length=ks.length) (hz:cZ P t=false→0<ks.length) :
 mkv P t xs=mkv P t ys∧(Instr.keyThatStays (mkv P t ys) (mkv P t xs)).run P w=.ok (mkv P t xs) w:=by
 obtain⟨rfl,hl⟩:=Eh he h1 h2
 obtain⟨rfl,hs⟩:=MC hx hy hl
 refine⟨rfl,?_⟩
 unfold Instr.keyThatStays
 rw[F8 hs (fun h=>by rw[hx.1,h1];exact hz h) 9999]
 simp
theorem Ge (em:Bool):∀ (d:Nat) (t:TypeId) (ks:List EK),eqk P d t=some ks→∀ (n:Nat) (xs:Array Value),xs.size=ks.length→
 (Instr.checkKey em (d+n) t (mkv P t xs)).run P w=.ok () w:=by
 intro d
 induction d with
 |zero=>intro t ks h;simp[eqk] at h
 |succ d ih=>
  intro t ks h n xs qX
  rw[show d+1+n=(d+n)+1 by omega]
  unfold eqk at h
  split at h
  ·rename_i k hu
   rw[Instr.checkKey];simp[aP hu,Result.andThen]
  ·rename_i hu
   rw[Instr.checkKey];simp[aP hu,Result.andThen]
  ·rename_i hu
   rw[Instr.checkKey];simp[aP hu,Result.andThen]
  ·rename_i fs hu
   split at h
   ·cases h
   ·have kO:cZ P t=true:=by simp[cZ,hu]
    simp only[mkv,kO,dn]
    rw[Instr.checkKey]
    simp only[aC,aP hu,aw]
    rw[← Array.forIn_toList]
    have hh:∃ acc,Dq P (eqk P d) fs.toList acc=some ks:=⟨[],h⟩
    clear h
    generalize fs.toList=l at hh
    induction l with
    |nil=>simp
    |cons f l ihl=>
     obtain⟨acc,h⟩:=hh
     simp only[Dq] at h
     split at h
     ·rename_i k1 Dc
      split at h
      ·rename_i hc
       obtain⟨hn,nk,cn⟩:=hc
       obtain⟨rest,Qd⟩:=yF (P:=P) _ _ _ _ h
       have fC:acc.length+k1.length≤ks.length:=by rw[Qd];simp
       obtain⟨u,hfu⟩:=pn Dc
       have jJ:cZ P f.type=false→P.cellsOf f.type=1:=fun hz=>by rw[← cn];exact uJ Dc hz
       have hpx:=rh (w:=w) f.type u hfu xs f.offset (by rw[nk,← cn,qX];exact fC) jJ
       have p2:=ih f.type k1 Dc n (xs.extract f.offset (f.offset+P.cellsOf f.type)) (by simp;omega)
       simp only[List.forIn_cons,aC,hn,ne_eq,not_false_eq_true,dn,hpx,aw,p2,a8]
       exact ihl ⟨_,h⟩
      ·cases h
     ·cases h
  ·rename_i m e hu
   split at h
   ·rename_i k1 Dc
    split at h
    ·rename_i cn
     simp only[ai] at h
     have kO:cZ P t=true:=by simp[cZ,hu]
     obtain⟨u,heu⟩:=pn Dc
     obtain⟨i,hi⟩:=iu heu
     simp only[mkv,kO,dn]
     rw[Instr.checkKey]
     simp only[aC,aP hu,aw]
     simp only[Std.Legacy.Range.forIn_eq_forIn_range',Std.Legacy.Range.size,Nat.sub_zero,Nat.add_one_sub_one,Nat.div_one]
     have ajY:ks.length=m*k1.length:=by rw[← h];simp
     have jJ:cZ P e=false→P.cellsOf e=1:=fun hz=>by rw[← cn];exact uJ Dc hz
     have fJ:∀ j∈List.range' 0 m,j<m:=fun j hj=>by simp at hj;exact hj
     generalize List.range' 0 m=is at fJ
     induction is with
     |nil=>simp
     |cons j is ihs=>
      have hj:=fJ j (by simp)
      have fC:j*k1.length+k1.length≤ks.length:=by
       rw[ajY,← eC];exact aL _ (by omega)
      have hpx:=rh (w:=w) e u heu xs (j*P.cellsOf e) (by rw[← cn,qX];exact fC) jJ
      have p2:=ih e k1 Dc n (xs.extract (j*P.cellsOf e) (j*P.cellsOf e+P.cellsOf e)) (by simp;rw[← cn];omega)
      simp only[List.forIn_cons,aC,eW w hi,aw,hpx,p2,a8]
      exact ihs (fun y hy=>fJ y (by simp[hy]))
    ·cases h
   ·cases h
  ·cases h
theorem Ir {t:TypeId} {u:TypeDesc} {d:Nat} {ks:List EK} (hu:P.underlying t=some u) (hk:eqk P (d+1) t=some ks) (hz:cZ P t=false) {xs ys:Array Value} {cs ds:List C} {r:Bool} (hx:Cells I w xs cs) (hy:Cells I w ys ds)
 (h1:cs.length=ks.length) (h2:ds.length=ks.length) (he:iC ks cs ds=some r):Instr.sameNow u (mkv P t xs) (mkv P t ys)=some r:=by
 have hl:=uJ hk hz
 obtain⟨k,rfl⟩:=gz.1 hl
 obtain⟨c,rfl⟩:=gz.1 (h1.trans hl)
 obtain⟨e,rfl⟩:=gz.1 (h2.trans hl)
 have hr:eqC k c e=some r:=by
  simp only[iC] at he
  split at he
  ·rename_i p q e1 e2
   simp only[ai] at e2 he
   subst e2;rw[e1];simpa using he
  ·cases he
 have hcx:CR I w (mkv P t xs) c:=by simp only[mkv,hz];exact hx.2 0 c rfl
 have Z0:CR I w (mkv P t ys) e:=by simp only[mkv,hz];exact hy.2 0 e rfl
 unfold eqk at hk
 split at hk
 ·rename_i q A4
  rw[hu] at A4;cases A4
  simp only[ai,cj,gj] at hk
  subst hk
  obtain⟨kk,a,b,rfl,rfl,rfl⟩:=FR hr
  rw[hcx.lit_eq,Z0.lit_eq]
  simp[Instr.sameNow,Bool.beq_eq_decide_eq]
 ·rename_i A4
  rw[hu] at A4;cases A4
  simp only[ai,cj,gj] at hk
  subst hk
  obtain⟨a,b,rfl,rfl,rfl⟩:=Ba hr
  rw[hcx.lit_eq,Z0.lit_eq]
  simp[Instr.sameNow]
 ·rename_i A4
  rw[hu] at A4;cases A4
  simp only[ai,cj,gj] at hk
  subst hk
  obtain⟨a,b,rfl,rfl,rfl⟩:=FT hr
  rw[hcx.lit_eq,Z0.lit_eq]
  simp[Instr.sameNow,yE]
 ·rename_i A4;simp[cZ,A4] at hz
 ·rename_i A4;simp[cZ,A4] at hz
 ·cases hk
theorem Ei {t:TypeId} {ks:List EK} (hk:eqk P 8 t=some ks) {xs:Array Value} {cs:List C} (hx:Cells I w xs cs) (h1:cs.length=ks.length) :
 ∀ (es:List MapEntry) (kc:List (List C)) (i:Nat) (r:Option Nat),es.length=kc.length→(∀ (j:Nat) (e:MapEntry) (c:List C),es[j]?=some e→kc[j]?=some c→∃ ys,e.key=mkv P t ys∧Cells I w ys c)→
  nv ks cs kc i=some r→(if cZ P t then(Instr.findAsking t (mkv P t xs) es i).run P w=.ok (r.map fun j=>(j,((es[j - i]?).map (·.val)).getD undef)) w
   else Instr.findNow ((P.underlying t).getD .bool) (mkv P t xs) es i=some (r.map fun j=>(j,((es[j - i]?).map (·.val)).getD undef)))∧∀ j,r=some j→i≤j
 |[],[],i,r,_,_,h=>by
  simp only[nv,ai] at h;subst h
  refine⟨?_,by simp⟩
  split<;>simp[Instr.findAsking,Instr.findNow]
 |[],_::_,_,_,h,_,_=>by simp at h
 |_::_,[],_,_,h,_,_=>by simp at h
 |e::es,c::kc,i,r,hl,pV,h=>by
  simp only[nv] at h
  split at h
  ·rename_i h2
   obtain⟨ys,HY,hy⟩:=pV 0 e c rfl rfl
   obtain⟨u,hu⟩:=pn hk
   have step:∀ b,iC ks cs c=some b→(cZ P t=true→(Op.equal t (mkv P t xs) e.key).run P w=.ok b w)∧(cZ P t=false→Instr.sameNow u (mkv P t xs) e.key=some b):=fun b hb=>by
    rw[HY]
    exact⟨fun _=>Ed (w:=w) 8 t ks hk 10000 (by omega) xs ys cs c b hx hy (by rw[hx.1,h1]) (by rw[hy.1,h2]) hb,fun hz=>Ir hu hk hz hx hy h1 h2 hb⟩
   split at h
   ·rename_i hb
    simp only[ai] at h;subst h
    obtain⟨s1,s2⟩:=step _ hb
    refine⟨?_,fun j hj=>by cases hj;exact ar _⟩
    split
    ·rename_i hz;simp[Instr.findAsking,s1 hz]
    ·rename_i hz;simp[Instr.findNow,hu,s2 (by simpa using hz)]
   ·rename_i hb
    obtain⟨s1,s2⟩:=step _ hb
    obtain⟨q1,q2⟩:=Ei hk hx h1 es kc (i+1) r (by simpa using hl) (fun j e c h1 h2=>pV (j+1) e c (by simpa using h1) (by simpa using h2)) h
    have fJ:(r.map fun j=>(j,(((e::es)[j - i]?).map (·.val)).getD undef))=r.map fun j=>(j,((es[j - (i+1)]?).map (·.val)).getD undef):=by
     cases r with
     |none=>rfl
     |some j=>
      have:=q2 j rfl
      have e1:j - i=(j - (i+1))+1:=by omega
      simp[e1]
    refine⟨?_,fun j hj=>by have:=q2 j hj;omega⟩
    rw[fJ]
    split
    ·rename_i hz
     rw[if_pos hz] at q1
     simpa[Instr.findAsking,s1 hz] using q1
    ·rename_i hz
     rw[if_neg hz] at q1
     simpa[Instr.findNow,hu,s2 (by simpa using hz)] using q1
   ·cases h
  ·cases h
theorem Qx {t:TypeId} {ks:List EK} (hk:eqk P 8 t=some ks) {xs:Array Value} {cs:List C} (hx:Cells I w xs cs) (h1:cs.length=ks.length) {es:List MapEntry} {kc:List (List C)} {r:Option Nat} (hl:es.length=kc.length)
 (pV:∀ (j:Nat) (e:MapEntry) (c:List C),es[j]?=some e→kc[j]?=some c→∃ ys,e.key=mkv P t ys∧Cells I w ys c) (h:nv ks cs kc 0=some r) :
 (Instr.findKey t (mkv P t xs) es).run P w=.ok (r.map fun j=>(j,((es[j]?).map (·.val)).getD undef)) w:=by
 obtain⟨q,_⟩:=Ei hk hx h1 es kc 0 r hl pV h
 obtain⟨u,hu⟩:=pn hk
 cases hz:cZ P t with
 |true=>
  rw[if_pos hz] at q
  rw[run_findKey_eq w (by unfold cZ at hz;rw[hu] at hz ⊢;cases u<;>simp_all)]
  simpa using q
 |false=>
  rw[if_neg (by simp[hz])] at q
  simp only[hu,cG] at q
  rw[MapKept.run_findKey hu q];simp
end
section
variable {P:Program} {G:Gl} {tr:List Nat} {n:Nat} {I0:Ft} {M:Mx} {w0:World} {I:Ft} {β:Nat→Option Nat} {ob:Loc→Option Nat} {s:S} {a:Act} {w:World} {o:Oper}
 {next:Act→World→Prop} {Q:Exit→Act→World→Prop} {base:Nat→Prop} {v:Value} {x y:V} {K:V→Prop}
theorem Bf {d:TypeDesc} {k e:TypeId} (h:Vl.K.map k e=vq d):d=.map k e:=by cases d<;>simp_all[vq]
theorem Bg {ag:Bool}:∀ {r:List V} {kcs:List (List C)},jY ag r=some kcs→r.length=2*kcs.length∧∀ (j:Nat) (c:List C),kcs[j]?=some c→(r.getD (2*j) .un).kcs ag=some c
 |[],kcs,h=>by simp only[jY,ai] at h;subst h;exact⟨rfl,by simp⟩
 |[_],kcs,h=>by simp[jY] at h
 |k::v::r,kcs,h=>by
  simp only[jY] at h
  split at h
  ·rename_i q l h1 h2
   simp only[ai] at h;subst h
   obtain⟨h3,h4⟩:=Bg h2
   refine⟨by simp[h3];omega,fun j c hc=>?_⟩
   cases j with
   |zero=>simp at hc;subst hc;exact h1
   |succ j=>
    rw[show 2*(j+1)=2*j+1+1 by omega]
    simp only[fk]
    exact h4 j c (by simpa using hc)
  ·cases h
theorem Bh {ks:List EK} {k:List C}:∀ {kcs:List (List C)} {i j:Nat},nv ks k kcs i=some (some j)→∃ q c,j=i+q∧kcs[q]?=some c∧c.length=ks.length∧iC ks k c=some true
 |[],i,j,h=>by simp[nv] at h
 |c::r,i,j,h=>by
  simp only[nv] at h
  split at h
  ·rename_i hl
   split at h
   ·rename_i he
    simp only[ai] at h;subst h
    exact⟨0,c,rfl,rfl,hl,he⟩
   ·obtain⟨q,c',rfl,h2,h3,h4⟩:=Bh h
    exact⟨q+1,c',by omega,by simpa using h2,h3,h4⟩
   ·cases h
  ·cases h
theorem rW:∀ (es:List MapEntry) (j:Nat) (e:MapEntry),es[j]?=some e→(lx es)[2*j]?=some e.key∧(lx es)[2*j+1]?=some e.val
 |[],j,e,h=>by simp at h
 |x::es,0,e,h=>by simp at h;subst h;exact⟨rfl,rfl⟩
 |x::es,j+1,e,h=>by
  obtain⟨h1,h2⟩:=rW es j e (by simpa using h)
  rw[show 2*(j+1)=2*j+1+1 by omega]
  simp only[lx,ct]
  exact⟨h1,h2⟩
theorem xw:∀ es:List MapEntry,(lx es).length=2*es.length
 |[]=>rfl
 |x::es=>by simp[lx,xw es];omega
theorem UW {ag:Bool} {kt:TypeId} (kO:ag=cZ P kt) {ox:Option Nat} (h:LR base I β w ox v x) {c:List C} (hc:x.kcs ag=some c):∃ ys,v=mkv P kt ys∧Cells I w ys c:=by
 cases x<;>simp only[V.kcs] at hc<;>try cases hc
 ·split at hc
  ·cases hc
  ·rename_i hf
   simp only[ai] at hc;subst hc
   have hz:cZ P kt=false:=by rw[← kO];simpa using hf
   refine⟨#[v],by simp[mkv,hz],rfl,fun j c hc=>?_⟩
   cases j with
   |zero=>simp at hc;subst hc;exact h.toC
   |succ j=>simp at hc
 ·split at hc
  ·rename_i ht
   simp only[ai] at hc;subst hc
   have hz:cZ P kt=true:=by rw[← kO];exact ht
   obtain⟨vs,rfl,h1,h2⟩:=h.agg
   exact⟨vs,by simp[mkv,hz],h1,h2⟩
  ·cases hc
theorem vM {ox:Option Nat} (h:LR base I β w ox v x):DR I w v x.dr:=by
 cases x<;>simp only[V.dr]<;>first | exact .un _ | skip
 ·exact .c _ _ h.toC
 ·simp only[LR] at h;exact h
 ·exact .c _ _ h.1
theorem Qy {et:TypeId} {e:TI} {z:V} (hi:ti P et=some e) (hz:oC e=some z) (ha:zaB P et=true):∃ zv,(zeroValue et).run P w=.ok zv w∧∀ (base:Nat→Prop) (β:Nat→Option Nat),LR base I β w none zv z:=by
 obtain⟨j,d,h1,h2,_,_,_,kO,hze,_⟩:=bu hi
 unfold zaB at ha
 rw[h1] at ha
 simp only at ha
 unfold oC at hz
 cases ta:j.zero with
 |none=>rw[ta] at ha;cases ha
 |some zv=>
  rw[ta] at ha hze
  refine⟨zv,by simp[zeroValue,typeInfo,h1,ta],fun base β=>?_⟩
  simp only at hze
  split at hz
  ·rename_i zc' OC sM
   simp only[ai] at hz;subst hz
   rw[sM] at hze
   rw[OC] at kO
   cases zv<;>simp only[← kO,kY,aI] at ha
   rename_i cs
   simp only[LR]
   refine .agg _ _ (by have:=List.mapM_eq_some_length hze.symm;simpa[Value.cells] using this.symm) fun q c hc=>?_
   obtain⟨u,hu,huc⟩:=List.mapM_eq_some_get hze.symm q c hc
   have:cs.getD q undef=u:=by
    simp only[Value.cells,aO] at hu
    simp[hu]
   rw[this];exact OV huc
  ·rename_i c HS sM
   simp only[ai] at hz;subst hz
   rw[sM] at hze
   rw[HS] at kO
   have hl:=List.mapM_eq_some_length hze.symm
   obtain⟨u,hu,huc⟩:=List.mapM_eq_some_get hze.symm 0 c rfl
   have:zv=u:=by
    cases zv<;>simp only[← kO,lK,aI] at ha<;>simpa[Value.cells] using hu
   rw[this];exact .ofC (OV huc)
  ·cases hz
structure UX (P:Program) (I:Ft) (M:Mx) (w0:World) (β:Nat→Option Nat) (ob:Loc→Option Nat) (s:S) (w:World) (i:Nat) (bs:List Nat) (cl:Nat) (r:List V) (blk:Nat) (es:Array MapEntry):Prop where
 lt:i<s.nb
 bx:s.bx i=.mk bs cl::r
 bt:β i=some blk
 wr:Wr M w0 blk
 fr:∀ o,¬ I blk o
 heap:w.heap[blk]?=some (.map es cl)
 born:es.toList.map (·.born)=bs
 len:r.length=2*bs.length
 ent:∀ (j:Nat) (e:MapEntry),es.toList[j]?=some e→LR (Wr M w0) I β w (ob (.b i (2*j+1))) e.key (r.getD (2*j) .un)∧LR (Wr M w0) I β w (ob (.b i (2*j+2))) e.val (r.getD (2*j+1) .un)
theorem St.mapW (hst:St G n I0 M w0 I β ob s a w) {i blk cl:Nat} {bs:List Nat} {r:List V} (hi:i<s.nb) (hb:s.bx i=.mk bs cl::r) (hβ:β i=some blk):∃ es,UX P I M w0 β ob s w i bs cl r blk es:=by
 obtain⟨sN,cur,e1,e2,e3,e4,e5,e7⟩:=hst.bx i hi
 rw[hβ] at e1;cases e1
 have hm:qG (s.bx i)=some (.mp bs cl):=by rw[hb];rfl
 unfold HB at e3
 rw[hm] at e3
 obtain⟨es,q1,q2,q3,q4⟩:=e3
 refine⟨es,hi,hb,hβ,e2,e7,q1,q2,by rw[hb,aA] at q4;omega,fun j e he=>?_⟩
 obtain⟨c1,c2⟩:=rW _ _ _ he
 have g1:cur.getD (2*j+1) undef=e.key:=by
  rw[ah,← aO,q3];simp[c1]
 have g2:cur.getD (2*j+2) undef=e.val:=by
  rw[ah,← aO,q3,show 2*j+2=(2*j+1)+1 by omega];simp[c2]
 have l1:=e5 (2*j+1)
 have l2:=e5 (2*j+2)
 rw[g1,hb] at l1
 rw[g2,hb,show 2*j+2=(2*j+1)+1 by omega] at l2
 simp only[fk] at l1 l2
 exact⟨l1,l2⟩
theorem wh {T:TypeId} {K:Nat→List Nat→Nat→List V→Option Nat→V→Prop} (h:gR P T s x y K) :
 ∃ i kt et tT tk te ks kc z bs cl r kcs res,ti P T=some tT∧tT.kd=.map kt et∧x=.mr i∧ti P kt=some tk∧tk.eqs=some ks∧ti P et=some te∧y.kcs tk.agg=some kc∧oC te=some z∧
  s.bx i=.mk bs cl::r∧jY tk.agg r=some kcs∧nv ks kc kcs 0=some res∧(i<s.nb∧kc.length=ks.length∧iC ks kc kc=some true∧zaB P et=true)∧K i bs cl r res z:=by
 unfold gR at h
 split at h
 ·rename_i hT
  split at h
  ·rename_i h2 h3
   split at h
   ·rename_i h4 h5 h6
    split at h
    ·rename_i h7
     split at h
     ·rename_i h8
      exact⟨_,_,_,_,_,_,_,_,_,_,_,_,_,_,hT,rfl,rfl,h2,rfl,h3,h4,h5,h6,h7,h8,h.1,h.2⟩
     ·exact h.elim
    ·exact h.elim
   ·exact h.elim
  ·exact h.elim
 ·exact h.elim
theorem aaK {t:TypeId} {i:TI} {ks:List EK} (h:ti P t=some i) (hk:i.eqs=some ks):eqk P 8 t=some ks:=by
 obtain⟨_,_,_,_,_,_,_,_,_,_,he,_⟩:=bu h
 rw[hk] at he
 split at he
 ·cases he
 ·exact he.symm
theorem oZ {T:TypeId} {K:Nat→List Nat→Nat→List V→Option Nat→V→Prop} {vx vy:Value} {ox oy:Option Nat} (hst:St G n I0 M w0 I β ob s a w) (h:gR P T s x y K)
 (hx:LR (Wr M w0) I β w ox vx x) (hy:LR (Wr M w0) I β w oy vy y) :
 ∃ i bs cl r res z blk kt et es zv,K i bs cl r res z∧x=.mr i∧vx=.map (some blk)∧UX P I M w0 β ob s w i bs cl r blk es∧P.underlying T=some (.map kt et)∧
  (∀ em,(Instr.checkKey em 10000 kt vy).run P w=.ok () w)∧
  (Instr.findKey kt vy es.toList).run P w=.ok (res.map fun j=>(j,((es.toList[j]?).map (·.val)).getD undef)) w∧
  (∀ j,res=some j→∃ e,es.toList[j]?=some e∧e.key=vy∧(Instr.keyThatStays e.key vy).run P w=.ok vy w)∧
  (zeroValue et).run P w=.ok zv w∧LR (Wr M w0) I β w none zv z:=by
 obtain⟨i,kt,et,tT,tk,te,ks,kc,z,bs,cl,r,kcs,res,h1,h2,rfl,h3,h4,h5,h6,h7,h8,h9,h10,⟨c1,c2,c3,c4⟩,hK⟩:=wh h
 obtain⟨_,d,_,hu,hkd,_⟩:=bu h1
 rw[h2] at hkd
 have hd:=Bf hkd
 subst hd
 have hek:=aaK h3 h4
 have kO:tk.agg=cZ P kt:=by obtain⟨_,_,_,_,_,_,_,h,_⟩:=bu h3;exact h
 simp only[LR] at hx
 obtain⟨blk,hβ,rfl⟩:=hx
 obtain⟨es,hm⟩:=hst.mapW (P:=P) c1 h8 hβ
 obtain⟨xs,rfl,qX⟩:=UW (P:=P) kO hy h6
 obtain⟨zv,hz1,hz2⟩:=Qy (I:=I) (w:=w) h5 h7 c4
 obtain⟨k1,k2⟩:=Bg h9
 have Ux:es.toList.length=bs.length:=by rw[← hm.born,ak]
 have zn:es.toList.length=kcs.length:=by have:=hm.len;omega
 have pV:∀ (j:Nat) (e:MapEntry) (c:List C),es.toList[j]?=some e→kcs[j]?=some c→∃ ys,e.key=mkv P kt ys∧Cells I w ys c:=fun j e c he hc=>
  UW (P:=P) kO (hm.ent j e he).1 (k2 j c hc)
 refine⟨i,bs,cl,r,res,z,blk,kt,et,es,zv,hK,rfl,rfl,hm,hu,fun em=>?_,Qx hek qX c2 zn pV h10,fun j hj=>?_,hz1,hz2 _ _⟩
 ·exact Ge em 8 kt ks hek 9992 xs (by rw[qX.1];exact c2)
 ·subst hj
  obtain⟨q,c,hq,hc,hl,he⟩:=Bh h10
  have bV:q<es.toList.length:=by rw[zn];exact(ae.1 hc).1
  have tu:es.toList[j]?=some es.toList[q]:=by rw[show j=q by omega];exact ab bV
  refine⟨_,tu,?_⟩
  obtain⟨ys,HY,uF⟩:=pV j _ c tu (by rw[show j=q by omega];exact hc)
  have:=F9 (P:=P) (t:=kt) qX uF he c2 hl (fun hz=>by
   have:=uJ hek hz;omega)
  rw[HY]
  exact⟨this.1.symm,this.2⟩
theorem Dz {T:TypeId} {ok:Bool} {vx vy:Value} {ox oy:Option Nat} (hst:St G n I0 M w0 I β ob s a w) (h:fF P T s x y ok K)
 (hx:LR (Wr M w0) I β w ox vx x) (hy:LR (Wr M w0) I β w oy vy y) :
 ∃ z u,K z∧LR (Wr M w0) I β w none u z∧(Instr.lookup T vx vy ok).run P w=.ok u w:=by
 unfold fF at h
 obtain⟨i,bs,cl,r,res,z,blk,kt,et,es,zv,hK,rfl,rfl,hm,hu,vG,D5,vF,hz1,hz2⟩:=oZ hst h hx hy
 have hg:=fc (P:=P) hm.heap
 cases res with
 |some j=>
  obtain⟨e,he,_,_⟩:=vF j rfl
  have hv:=(hm.ent j e he).2
  simp only[cD,he,cG] at D5
  cases ok with
  |false=>
   simp only[aI,dj] at hK
   exact⟨_,e.val,hK,hv.fz none,by simp[Instr.lookup,aP hu,hg,vG,D5,Result.andThen]⟩
  |true=>
   simp only[dn] at hK
   refine⟨_,.tuple #[e.val,.bool true],hK,?_,by simp[Instr.lookup,aP hu,hg,vG,D5,Result.andThen]⟩
   simp only[LR]
   refine .tup _ _ rfl fun q d hd=>?_
   match q with
   |0=>simp at hd;subst hd;exact vM hv
   |1=>simp at hd;subst hd;exact .c _ _ (.lit _ rfl)
   |q+2=>simp at hd
 |none=>
  simp only[kS] at D5
  cases ok with
  |false=>
   simp only[aI,dj] at hK
   exact⟨_,zv,hK,hz2,by simp[Instr.lookup,aP hu,hg,vG,D5,hz1,Result.andThen]⟩
  |true=>
   simp only[dn] at hK
   refine⟨_,.tuple #[zv,.bool false],hK,?_,by simp[Instr.lookup,aP hu,hg,vG,D5,hz1,Result.andThen]⟩
   simp only[LR]
   refine .tup _ _ rfl fun q d hd=>?_
   match q with
   |0=>simp at hd;subst hd;exact vM hz2
   |1=>simp at hd;subst hd;exact .c _ _ (.lit _ rfl)
   |q+2=>simp at hd
theorem Qz {es:List MapEntry} {b j:Nat} (h:(es.map (·.born)).findIdx? (·==b)=some j):∃ e,es[j]?=some e∧es.find? (·.born==b)=some e:=by
 induction es generalizing j with
 |nil=>simp at h
 |cons e es ih=>
  simp only[br,List.findIdx?_cons] at h
  cases hb:(e.born==b) with
  |true=>rw[hb] at h;simp at h;subst h;exact⟨e,rfl,by simp[hb]⟩
  |false=>
   rw[hb] at h
   simp only[aI,dj,aU] at h
   obtain⟨q,hq,rfl⟩:=h
   obtain⟨e',h1,h2⟩:=ih hq
   exact⟨e',by simpa using h1,by simp[hb,h2]⟩
theorem Gf {vx:Value} {ox:Option Nat} (hst:St G n I0 M w0 I β ob s a w) (h:oG s x K) (hx:LR (Wr M w0) I β w ox vx x) :
 ∃ z u,K z∧LR (Wr M w0) I β w none u z∧(Instr.entry vx).run P w=.ok u w:=by
 unfold oG at h
 split at h
 ·rename_i i since stepped seen
  split at h
  ·rename_i bs cl r b hb hl
   split at h
   ·rename_i j hj
    obtain⟨⟨hi,rfl⟩,hK⟩:=h
    simp only[LR] at hx
    obtain⟨blk,m,_,_,hβ,rfl,hh,_⟩:=hx
    obtain⟨es,hm⟩:=hst.mapW (P:=P) hi hb hβ
    have Z8:=hj
    rw[← hm.born] at Z8
    obtain⟨e,he,hf⟩:=Qz Z8
    obtain⟨l1,l2⟩:=hm.ent j e he
    have H4:es.find? (fun x=>x.born==b)=some e:=by rw[← Array.find?_toList];exact hf
    have hg:(getObj blk).run P w=.ok (.mapIter (some m) since seen.toArray cl) w:=by simp[getObj,Sem.run,hh]
    have Qg:=fc (P:=P) hm.heap
    refine⟨_,.tuple #[e.key,e.val],hK,?_,?_⟩
    ·simp only[LR]
     refine .tup _ _ rfl fun q d hd=>?_
     match q with
     |0=>simp at hd;subst hd;exact vM l1
     |1=>simp at hd;subst hd;exact vM l2
     |q+2=>simp at hd
    ·simp[Instr.entry,hg,Qg,H4,hl,Result.andThen]
   ·exact h.elim
  ·exact h.elim
 ·exact h.elim
theorem Gg {T:TypeId} {vx:Value} {ox:Option Nat} (hst:St G n I0 M w0 I β ob s a w) (hd:∀ d,o.dst=some d→d<n) (h:oD P T s x K) (hx:LR (Wr M w0) I β w ox vx x) :
 ∃ z u w',K z∧(Instr.range T vx).run P w=.ok u w'∧SE G n I0 M w0 (s.after tr o z) (a.put o.dst u) w':=by
 unfold oD at h
 split at h
 ·rename_i hT
  obtain⟨_,d,_,hu,hkd,_⟩:=bu hT
  have pT:=Bf hkd
  subst pT
  split at h
  ·rename_i i bs cl r hb
   obtain⟨hi,hK⟩:=h
   simp only[LR] at hx
   obtain⟨blk,hβ,rfl⟩:=hx
   obtain⟨es,hm⟩:=hst.mapW (P:=P) hi hb hβ
   have hg:=fc (P:=P) hm.heap
   have hs:=hst.allocOwn (.mapIter (some blk) cl #[] cl)
   have sP:=hst.fresh (ar _)
   refine⟨_,.pointer (some ⟨w.heap.size,0,none⟩),w.alloc (.mapIter (some blk) cl #[] cl),hK,by simp[Instr.range,aP hu,hg,Result.andThen],?_⟩
   refine .fin hs hd (o':=some w.heap.size) ?_ fun b hb=>?_
   ·simp only[LR]
    exact⟨w.heap.size,blk,rfl,.inl hst.below.size,hβ,rfl,fY w _,fun o ho=>by have:=hst.ibnd _ _ ho;omega⟩
   ·cases hb
    refine⟨⟨by rw[dZ];omega,.inl hst.below.size⟩,sP.2,fun L hL=>absurd hL (sP.1 L)⟩
  ·exact h.elim
 ·exact h.elim
theorem Is {T ty:TypeId} {vx:Value} {ox:Option Nat} (hst:St G n I0 M w0 I β ob s a w) (h:H9 P s K [T] [x]) (hx:LR (Wr M w0) I β w ox vx x) :
 ∃ u,flat u=true∧K (.c (.lit u))∧(Builtin.len_ #[T] ty #[vx]).run P w=.ok u w:=by
 unfold H9 at h
 split at h
 ·rename_i T' i sR pX
  simp only[cj,gj] at sR pX
  subst sR;subst pX
  split at h
  ·rename_i hT hb
   obtain⟨_,d,_,hu,hkd,_⟩:=bu hT
   have pT:=Bf hkd
   subst pT
   obtain⟨hi,hK⟩:=h
   simp only[LR] at hx
   obtain⟨blk,hβ,rfl⟩:=hx
   obtain⟨sN,cur,e1,e2,e3,e4,e5,e7⟩:=hst.bx i hi
   rw[hβ] at e1;cases e1
   unfold HB at e3
   rw[hb] at e3
   obtain⟨es,q1,q2,_⟩:=e3
   have hg:=fc (P:=P) q1
   refine⟨_,rfl,hK,?_⟩
   have hl:=nq List.length q2
   rw[ak,bK] at hl
   simp[Builtin.len_,aP hu,hg,Result.andThen,goInt,hl]
  ·exact h.elim
 ·exact h.elim
end
section
variable {P:Program} {G:Gl} {tr:List Nat} {n:Nat} {I0:Ft} {M:Mx} {w0:World} {I:Ft} {β:Nat→Option Nat} {ob:Loc→Option Nat} {s:S} {a:Act} {w:World} {o:Oper}
 {next:Act→World→Prop} {Q:Exit→Act→World→Prop} {base:Nat→Prop} {v:Value} {x y:V}
theorem afF (hst:St G n I0 M w0 I β ob s a w) (x:Operand):(∃ ox,LR (Wr M w0) I β w ox (a.eval x) (vw s (ev G s x)).fz)∨∃ es,(vw s (ev G s x)).fz=.c (.sl es)∧RD I w (a.eval x) es:=by
 have hx:=bD hst x
 cases he:ev G s x with
 |ms i off len cap sz=>
  rw[he] at hx
  simp only[LR] at hx
  simp only[vw]
  cases hv:mn s i off len sz with
  |none=>left;exact⟨none,by simp only[V.fz,LR];exact .un _⟩
  |some c=>
   obtain⟨es,rfl,hrd⟩:=aaJ hst hv hx
   right;exact⟨es,rfl,hrd⟩
 |_=>left;rw[he] at hx;exact⟨none,hx.fz none⟩
theorem Iu (hst:St G n I0 M w0 I β ob s a w) (x:Operand) (ys:List (List C)) (h:(vw s (ev G s x)).fz=.c (.sl ys)):RD I w (a.eval x) ys:=by
 rcases afF hst x with⟨ox,hx⟩ | ⟨es,he,hrd⟩
 ·rw[h] at hx;exact .ofCR hx.toC
 ·rw[h] at he;cases he;exact hrd
theorem afG {x:V} {E:Option (TypeId×Nat)} {es:List (List C)} (h:vw s x=.ow E es):x=.ow E es:=by
 cases x<;>simp only[vw] at h<;>try exact h
 split at h<;>cases h
theorem Bi {K:V→Prop} {X Y:Operand} {t t' ty:TypeId} (hst:St G n I0 M w0 I β ob s a w) (hd:∀ d,o.dst=some d→d<n) (sQ:bU tr o=(match X with | .tmp t=>some t | _=>none))
 (h:eX P .append [t,t'] [vw s (ev G s X),vw s (ev G s Y)] K):∃ z u w',K z∧(Builtin.append_ #[t,t'] ty #[a.eval X,a.eval Y]).run P w=.ok u w'∧SE G n I0 M w0 (s.after tr o z) (a.put o.dst u) w':=by
 have key:∀ ys,eR P t (vw s (ev G s X)) ys K→(∀ ys' e,P.underlying t=some (.slice e)→∀ j,ti P e=some j→ys=.c (.sl ys')→(∀ x∈ys',x.length=j.size)→Ik P I w t' (a.eval Y) j.size ys')→
  ∃ z u w',K z∧(Builtin.append_ #[t,t'] ty #[a.eval X,a.eval Y]).run P w=.ok u w'∧SE G n I0 M w0 (s.after tr o z) (a.put o.dst u) w':=by
  intro ys h qZ
  have h':eR P t (ev G s X) ys K:=by
   cases hx:vw s (ev G s X) with
   |ow E es=>rw[hx] at h;rw[afG hx];exact h
   |_=>rw[hx] at h;simp[eR] at h
  exact Dx (tr:=tr) (U:=t') (ty:=ty) hst hd sQ h' qZ
 simp only[eX] at h
 split at h
 ·rename_i htt
  subst htt
  exact key _ h fun ys' e hu j hj hy hl=>(Iu hst Y ys' hy).src hu hl
 ·unfold qj at h
  split at h
  ·rename_i e _ _ _ _ _ _ _ _ _ _ _ _ st hi D6 hy
   obtain⟨j1,d1,_,h2,h3,_⟩:=bu hi
   have Z9:=dq h3
   subst Z9
   obtain⟨j2,d2,_,h22,h32,_⟩:=bu D6
   have hd2:=nW h32
   subst hd2
   split at h
   ·rename_i ie ra
    obtain⟨Ab,h⟩:=h
    have api:ev G s Y=.c (.lit (.string st)):=by
     have:(vw s (ev G s Y)).fz=.c (.lit (.string st)):=hy
     cases rR:ev G s Y<;>rw[rR] at this
     case hh g E es=>cases g<;>simp[vw,V.fz] at this
     case gs g E es=>cases g<;>simp[vw,V.fz] at this
     case ms i off len cap sz=>
      simp only[vw] at this
      split at this
      ·rename_i c hc
       simp only[V.fz,V.c.injEq] at this
       subst this
       unfold mn at hc;split at hc
       ·split at hc<;>simp at hc
       ·cases hc
      ·simp[V.fz] at this
     all_goals simp_all[vw,V.fz]
    have hv:=bD hst Y
    rw[api] at hv
    refine key _ h fun ys' e' hu j hj Ui hl=>?_
    rw[h2] at hu
    simp only[ai,TypeDesc.slice.injEq] at hu
    subst hu
    rw[ra] at hj
    cases hj
    simp only[V.c.injEq,C.sl.injEq] at Ui
    subst Ui
    rw[hv.lit,Ab]
    exact aaI h22
   ·exact h.elim
  ·exact h.elim
theorem St.unghost {t d:Tmp} {v:Value} {E:Option (TypeId×Nat)} {es:List (List C)} (hst:St G n I0 M w0 I β ob s a w) (LQ:t≠d) (ht:s.fr t=.c (.ex v)) (Qh:s.fr d=.gh v E es) (hdn:d<n) (tz:t<n) :
 ∃ ob',St G n I0 M w0 I β ob' { s with fr:=up (up s.fr d .un) t (.ow E es) } a w:=by
 have hg:=hst.fr d
 rw[Qh] at hg
 simp only[LR] at hg
 have hx:=hst.fr t
 rw[ht] at hx
 have hv:a.tmps.getD t undef=v:=by
  have:=hx.toC
  generalize a.tmps.getD t undef=q at this
  cases this with
  |ex _ h1 h2=>rfl
 have h1:=hst.put d hdn (v:=a.tmps.getD d undef) (x:=.un) (o:=none) (by simp only[LR];exact .un _) FreeOb.nothing
 have h2:=h1.put t tz (v:=a.tmps.getD t undef) (x:=.ow E es) (o:=ob (.t d)) (by rw[hv];simp only[LR];exact hg) (fun b hb=>by
  refine⟨hst.obnd _ b hb,fun L hL=>?_,fun i=>hst.obx _ b i hb⟩
  simp only[upL] at hL
  split at hL
  ·cases hL
  ·split at hL
   ·cases hL
   ·rename_i h3 h4
    exact h4 (hst.oinj _ _ b hL hb))
 have back:∀ (a:Act) (q:Tmp),q<a.tmps.size→a.put (some q) (a.tmps.getD q undef)=a:=fun a q hq=>by
  have:a.tmps.set! q (a.tmps.getD q undef)=a.tmps:=by
   apply mL
   ·simp[bX]
   ·intro i h1 h2
    simp only[bX,gq h2]
    split
    ·rename_i e;subst e;simp[Array.getD,h2]
    ·rfl
  show(⟨a.tmps.set! q (a.tmps.getD q undef),a.defers⟩:Act)=a
  rw[this]
 rw[back a d (by rw[hst.size];exact hdn),back a t (by rw[hst.size];exact tz)] at h2
 exact⟨_,h2⟩
theorem St.unghostG {t d:Tmp} {v:Value} {E:Option (TypeId×Nat)} {es:List (List C)} (hst:St G n I0 M w0 I β ob s a w) (LQ:t≠d) (ht:s.fr t=.c (.ex v)) (Qh:s.fr d=.gg v E es) (hdn:d<n) (tz:t<n) :
 ∃ ob',St G n I0 M w0 I β ob' { s with fr:=up (up s.fr d .un) t (.gs none E es) } a w:=by
 have hg:=hst.fr d
 rw[Qh] at hg
 simp only[LR] at hg
 have hx:=hst.fr t
 rw[ht] at hx
 have hv:a.tmps.getD t undef=v:=by
  have:=hx.toC
  generalize a.tmps.getD t undef=q at this
  cases this with
  |ex _ h1 h2=>rfl
 have h1:=hst.put d hdn (v:=a.tmps.getD d undef) (x:=.un) (o:=none) (by simp only[LR];exact .un _) FreeOb.nothing
 have h2:=h1.put t tz (v:=a.tmps.getD t undef) (x:=.gs none E es) (o:=ob (.t d)) (by rw[hv];simp only[LR];exact⟨(fun _ h=>by cases h),hg⟩) (fun b hb=>by
  refine⟨hst.obnd _ b hb,fun L hL=>?_,fun i=>hst.obx _ b i hb⟩
  simp only[upL] at hL
  split at hL
  ·cases hL
  ·split at hL
   ·cases hL
   ·rename_i h3 h4
    exact h4 (hst.oinj _ _ b hL hb))
 have back:∀ (a:Act) (q:Tmp),q<a.tmps.size→a.put (some q) (a.tmps.getD q undef)=a:=fun a q hq=>by
  have:a.tmps.set! q (a.tmps.getD q undef)=a.tmps:=by
   apply mL
   ·simp[bX]
   ·intro i h1 h2
    simp only[bX,gq h2]
    split
    ·rename_i e;subst e;simp[Array.getD,h2]
    ·rfl
  show(⟨a.tmps.set! q (a.tmps.getD q undef),a.defers⟩:Act)=a
  rw[this]
 rw[back a d (by rw[hst.size];exact hdn),back a t (by rw[hst.size];exact tz)] at h2
 exact⟨_,h2⟩
theorem yJ (hst:St G n I0 M w0 I β ob s a w) {t:Tmp} {v:Value} (ht:s.fr t=.c (.ex v)):a.tmps.getD t undef=v∧v.oneCell'=true∧v.cells=#[v]:=by
 have hx:=hst.fr t
 rw[ht] at hx
 have:=hx.toC
 generalize a.tmps.getD t undef=q at this
 cases this with
 |ex _ h1 h2=>exact⟨rfl,h1,h2⟩
theorem jv {q:Tmp} (hq:q<a.tmps.size):a.put (some q) (a.tmps.getD q undef)=a:=by
 have:a.tmps.set! q (a.tmps.getD q undef)=a.tmps:=by
  apply mL
  ·simp[bX]
  ·intro i h1 h2
   simp only[bX,gq h2]
   split
   ·rename_i e;subst e;simp[Array.getD,h2]
   ·rfl
 show(⟨a.tmps.set! q (a.tmps.getD q undef),a.defers⟩:Act)=a
 rw[this]
theorem QA {K:V→Prop} {t d:Tmp} {y:Operand} {v:Value} {E:Option (TypeId×Nat)} {es:List (List C)} {ts:List TypeId} {ty:TypeId} (hst:St G n I0 M w0 I β ob s a w) (hd:∀ d,o.dst=some d→d<n) (sQ:∀ t' y',[Operand.tmp t,y]=[.tmp t',y']→bU tr o=some t')
 (lF:o.dst=some d) (ht:s.fr t=.c (.ex v)) (Qh:s.fr d=.gg v E es) (LQ:t≠d) (hyt:y≠.tmp t) (hyd:y≠.tmp d) (h:nw P ts E es (vw s (ev G s y)).fz K) :
 ∃ X Y t0 t',[Operand.tmp t,y]=[X,Y]∧ts=[t0,t']∧∃ z u w',K z∧(Builtin.append_ #[t0,t'] ty #[a.eval X,a.eval Y]).run P w=.ok u w'∧SE G n I0 M w0 (s.after tr o z) (a.put o.dst u) w':=by
 have oU:∃ q q',ts=[q,q']:=by
  unfold nw at h
  split at h
  ·exact⟨_,_,rfl⟩
  ·exact h.elim
 obtain⟨q,q',rfl⟩:=oU
 have hqq:q=q':=by simp only[nw] at h;exact h.1
 subst hqq
 have hdn:d<n:=hd d lF
 have tz:t<n:=by
  rcases bS t n with h' | h'
  ·exact h'
  ·exfalso
   obtain⟨e1,_,_⟩:=yJ hst ht
   have e0:a.tmps.getD t undef=undef:=by rw[ah,c9 (by rw[hst.size];exact h')];rfl
   have hg:=hst.fr d
   rw[Qh] at hg
   simp only[LR] at hg
   rw[← e1,e0] at hg
   rcases hg with⟨_,_,_,_,h1⟩ | ⟨_,_,_,_,_,_,_,h1,_⟩<;>simp[undef] at h1
 obtain⟨ob',cy⟩:=hst.unghostG LQ ht Qh hdn tz
 refine⟨_,_,q,q,rfl,rfl,?_⟩
 obtain⟨z,u,w',hz,bH,I2,β2,ob2,pg⟩:=zB (tr:=tr) (o:=o) (T:=q) (U:=q) (t0:=t) (E:=E) (es:=es) (vy:=a.eval y) (ty:=ty) (K:=K) cy hd (sQ t y rfl) (by simp only[bT]) h
  (fun ys' e hu j hj hy hl=>(Iu hst y ys' hy).src hu hl)
 refine⟨z,u,w',hz,bH,?_⟩
 obtain⟨e1,e2,e3⟩:=yJ hst ht
 have fC:(a.put (some d) u).tmps.size=n:=by simp only[Act.put,bX,dp];exact hst.size
 have hgt:(a.put (some d) u).tmps.getD t undef=v:=by
  rw[← e1]
  show(a.tmps.set! d u).getD t undef=_
  simp[ah,bX,Array.getElem?_setIfInBounds,gX LQ]
 rw[lF] at pg ⊢
 have dB:=pg.put t tz (v:=(a.put (some d) u).tmps.getD t undef) (x:=.c (.ex v)) (o:=none) (by rw[hgt];exact .ofC (.ex v e2 e3)) FreeOb.nothing
 rw[jv (by rw[fC];exact tz)] at dB
 have es:(S.after tr o { s with fr:=up (up s.fr d .un) t (.gs none E es) } z).put (some t) (.c (.ex v))=s.after tr o z:=by
  unfold S.after
  rw[sQ t y rfl,lF]
  have hu1:({ s with fr:=up (up s.fr d .un) t (.gs none E es) }:S).use (some t)=({ s with fr:=up (up s.fr d .un) t (.gs none E es) }:S).clr t:=by
   simp only[S.use,bT];rfl
  have hu2:s.use (some t)=s:=by simp only[S.use,ht];rfl
  rw[hu1,hu2]
  simp only[S.put,S.clr]
  congr 1
  funext r
  simp only[up]
  by_cases hr:r=t
  ·subst hr;rw[if_pos rfl,if_neg LQ];exact ht.symm
  ·rw[if_neg hr,if_neg hr,if_neg hr]
   by_cases LU:r=d
   ·simp only[if_pos LU]
   ·simp only[if_neg LU]
 rw[es] at dB
 exact⟨_,_,_,dB⟩
theorem Gh {K:V→Prop} {args:List Operand} {ts:List TypeId} {ty:TypeId} (hst:St G n I0 M w0 I β ob s a w) (hd:∀ d,o.dst=some d→d<n) (sQ:∀ t y,args=[.tmp t,y]→bU tr o=some t)
 (h:jZ P G s o.dst ts args K):∃ X Y t t',args=[X,Y]∧ts=[t,t']∧∃ z u w',K z∧(Builtin.append_ #[t,t'] ty #[a.eval X,a.eval Y]).run P w=.ok u w'∧SE G n I0 M w0 (s.after tr o z) (a.put o.dst u) w':=by
 unfold jZ at h
 split at h
 ·rename_i t y d lF
  split at h
  ·rename_i v u E es ht Qh
   obtain⟨⟨LQ,rfl,hyt,hyd⟩,h⟩:=h
   have oU:∃ q q',ts=[q,q']:=by
    unfold eX at h
    split at h<;>first | cases ‹Builtin.append=_› | skip
    ·rename_i q q' x y dy;exact⟨_,_,rfl⟩
    ·exact h.elim
   obtain⟨q,q',rfl⟩:=oU
   have hdn:d<n:=hd d lF
   have tz:t<n:=by
    rcases bS t n with h' | h'
    ·exact h'
    ·exfalso
     obtain⟨e1,_,_⟩:=yJ hst ht
     have e0:a.tmps.getD t undef=undef:=by rw[ah,c9 (by rw[hst.size];exact h')];rfl
     have hg:=hst.fr d
     rw[Qh] at hg
     simp only[LR] at hg
     rw[← e1,e0] at hg
     rcases hg.1.sl_inv with⟨⟨_,_,h1,_⟩,_⟩ | ⟨_,_,_,_,_,h1,_⟩<;>simp[undef] at h1
   obtain⟨ob',cy⟩:=hst.unghost LQ ht Qh hdn tz
   refine⟨_,_,q,q',rfl,rfl,?_⟩
   have hey:ev G { s with fr:=up (up s.fr d .un) t (.ow E es) } y=ev G s y:=by
    cases y with
    |tmp r=>
     have h1:r≠t:=fun e=>hyt (by rw[e])
     have h2:r≠d:=fun e=>hyd (by rw[e])
     simp only[ev,cF _ _ h1,cF _ _ h2]
    |_=>rfl
   have hvw:vw { s with fr:=up (up s.fr d .un) t (.ow E es) }=vw s:=rfl
   obtain⟨z,u,w',hz,bH,I2,β2,ob2,pg⟩:=Bi (tr:=tr) (o:=o) (X:=.tmp t) (Y:=y) (t:=q) (t':=q') (ty:=ty) (K:=K) cy hd (sQ t y rfl) (by
    rw[hey,hvw]
    have:vw s (ev G { s with fr:=up (up s.fr d .un) t (.ow E es) } (.tmp t))=.ow E es:=by simp only[ev,bT];rfl
    rw[this];exact h)
   refine⟨z,u,w',hz,bH,?_⟩
   obtain⟨e1,e2,e3⟩:=yJ hst ht
   have fC:(a.put (some d) u).tmps.size=n:=by simp only[Act.put,bX,dp];exact hst.size
   have hgt:(a.put (some d) u).tmps.getD t undef=v:=by
    rw[← e1]
    show(a.tmps.set! d u).getD t undef=_
    simp[ah,bX,Array.getElem?_setIfInBounds,gX LQ]
   rw[lF] at pg ⊢
   have dB:=pg.put t tz (v:=(a.put (some d) u).tmps.getD t undef) (x:=.c (.ex v)) (o:=none) (by rw[hgt];exact .ofC (.ex v e2 e3)) FreeOb.nothing
   rw[jv (by rw[fC];exact tz)] at dB
   have es:(S.after tr o { s with fr:=up (up s.fr d .un) t (.ow E es) } z).put (some t) (.c (.ex v))=s.after tr o z:=by
    unfold S.after
    rw[sQ t y rfl,lF]
    have hu1:({ s with fr:=up (up s.fr d .un) t (.ow E es) }:S).use (some t)=({ s with fr:=up (up s.fr d .un) t (.ow E es) }:S).clr t:=by
     simp only[S.use,bT];rfl
    have hu2:s.use (some t)=s:=by simp only[S.use,ht];rfl
    rw[hu1,hu2]
    simp only[S.put,S.clr]
    congr 1
    funext r
    simp only[up]
    by_cases hr:r=t
    ·subst hr;rw[if_pos rfl,if_neg LQ];exact ht.symm
    ·rw[if_neg hr,if_neg hr,if_neg hr]
     by_cases LU:r=d
     ·simp only[if_pos LU]
     ·simp only[if_neg LU]
   rw[es] at dB
   exact⟨_,_,_,dB⟩
  ·rename_i v u E es ht Qh
   obtain⟨⟨LQ,rfl,hyt,hyd⟩,h⟩:=h
   exact QA hst hd sQ lF ht Qh LQ hyt hyd h
  ·rename_i E es ht
   obtain⟨⟨LQ,hyt⟩,h⟩:=h
   have oU:∃ q q',ts=[q,q']:=by
    unfold nw at h
    split at h
    ·exact⟨_,_,rfl⟩
    ·exact h.elim
   obtain⟨q,q',rfl⟩:=oU
   have hqq:q=q':=by simp only[nw] at h;exact h.1
   subst hqq
   refine⟨_,_,q,q,rfl,rfl,?_⟩
   exact zB (tr:=tr) (o:=o) (T:=q) (U:=q) (t0:=t) (E:=E) (es:=es) (vy:=a.eval y) (ty:=ty) (K:=K) hst hd (sQ t y rfl) ht h (fun ys' e hu j hj hy hl=>(Iu hst y ys' hy).src hu hl)
  ·exact h.elim
 ·exact h.elim
theorem MD {K:V→Prop} {args:List Operand} {ts:List TypeId} {ty:TypeId} (hst:St G n I0 M w0 I β ob s a w) (hd:∀ d,o.dst=some d→d<n) (sQ:∀ t y,args=[.tmp t,y]→bU tr o=some t)
 (h:xi P G s o.dst ts args K):∃ X Y t t',args=[X,Y]∧ts=[t,t']∧∃ z u w',K z∧(Builtin.append_ #[t,t'] ty #[a.eval X,a.eval Y]).run P w=.ok u w'∧SE G n I0 M w0 (s.after tr o z) (a.put o.dst u) w':=by
 unfold xi at h
 split at h
 ·rename_i t y d lF
  split at h
  ·rename_i v u E es ht Qh
   obtain⟨⟨LQ,rfl,hyt,hyd⟩,h⟩:=h
   have oU:∃ q q',ts=[q,q']:=by
    unfold vK at h
    split at h
    ·exact⟨_,_,rfl⟩
    ·exact h.elim
   obtain⟨q,q',rfl⟩:=oU
   have hqq:q=q':=by simp only[vK] at h;exact h.1
   subst hqq
   have hdn:d<n:=hd d lF
   have tz:t<n:=by
    rcases bS t n with h' | h'
    ·exact h'
    ·exfalso
     obtain⟨e1,_,_⟩:=yJ hst ht
     have e0:a.tmps.getD t undef=undef:=by rw[ah,c9 (by rw[hst.size];exact h')];rfl
     have hg:=hst.fr d
     rw[Qh] at hg
     simp only[LR] at hg
     rw[← e1,e0] at hg
     rcases hg.1.sl_inv with⟨⟨_,_,h1,_⟩,_⟩ | ⟨_,_,_,_,_,h1,_⟩<;>simp[undef] at h1
   obtain⟨ob',cy⟩:=hst.unghost LQ ht Qh hdn tz
   refine⟨_,_,q,q,rfl,rfl,?_⟩
   obtain⟨z,u,w',hz,bH,I2,β2,ob2,pg⟩:=Il (tr:=tr) (o:=o) (T:=q) (U:=q) (t0:=t) (E:=E) (es:=es) (vy:=a.eval y) (ty:=ty) (K:=K) cy hd (sQ t y rfl) (by simp only[bT]) h
    (fun ys' e hu j hj hy hl=>(Iu hst y ys' hy).src hu hl)
   refine⟨z,u,w',hz,bH,?_⟩
   obtain⟨e1,e2,e3⟩:=yJ hst ht
   have fC:(a.put (some d) u).tmps.size=n:=by simp only[Act.put,bX,dp];exact hst.size
   have hgt:(a.put (some d) u).tmps.getD t undef=v:=by
    rw[← e1]
    show(a.tmps.set! d u).getD t undef=_
    simp[ah,bX,Array.getElem?_setIfInBounds,gX LQ]
   rw[lF] at pg ⊢
   have dB:=pg.put t tz (v:=(a.put (some d) u).tmps.getD t undef) (x:=.c (.ex v)) (o:=none) (by rw[hgt];exact .ofC (.ex v e2 e3)) FreeOb.nothing
   rw[jv (by rw[fC];exact tz)] at dB
   have es:(S.after tr o { s with fr:=up (up s.fr d .un) t (.ow E es) } z).put (some t) (.c (.ex v))=s.after tr o z:=by
    unfold S.after
    rw[sQ t y rfl,lF]
    have hu1:({ s with fr:=up (up s.fr d .un) t (.ow E es) }:S).use (some t)=({ s with fr:=up (up s.fr d .un) t (.ow E es) }:S).clr t:=by
     simp only[S.use,bT];rfl
    have hu2:s.use (some t)=s:=by simp only[S.use,ht];rfl
    rw[hu1,hu2]
    simp only[S.put,S.clr]
    congr 1
    funext r
    simp only[up]
    by_cases hr:r=t
    ·subst hr;rw[if_pos rfl,if_neg LQ];exact ht.symm
    ·rw[if_neg hr,if_neg hr,if_neg hr]
     by_cases LU:r=d
     ·simp only[if_pos LU]
     ·simp only[if_neg LU]
   rw[es] at dB
   exact⟨_,_,_,dB⟩
  ·exact h.elim
 ·exact h.elim
theorem po {K:V→Prop} (hst:St G n I0 M w0 I β ob s a w) (hd:∀ d,o.dst=some d→d<n) (h:VYK P G tr o s K)
 (hk:∀ a' w' x,K x→SE G n I0 M w0 (s.after tr o x) a' w'→next a' w'):o.wp P a w next Q:=by
 have pure_:∀ {sem:Sem Value} {z:V} {u:Value},execOp a.eval o=(do pure (.value (← sem)))→K z→LR (Wr M w0) I β w none u z→sem.run P w=.ok u w→o.wp P a w next Q:=by
  intro sem z u he hz hZ bH
  refine ep (v':=u) (w':=w) ?_ (hk _ _ _ hz (.fin0 hst hd hZ))
  rw[he];simp[bH]
 have full:∀ {sem:Sem Value} {z:V} {u:Value} {w':World},execOp a.eval o=(do pure (.value (← sem)))→K z→sem.run P w=.ok u w'→SE G n I0 M w0 (s.after tr o z) (a.put o.dst u) w'→o.wp P a w next Q:=by
  intro sem z u w' he hz bH dB
  refine ep (v':=u) (w':=w') ?_ (hk _ _ _ hz dB)
  rw[he];simp[bH]
 obtain⟨dst,op,type,pos,after,guard⟩:=o
 cases op<;>simp only[VYK] at h<;>try exact h.elim
 case move x=>
  have bH:(execOp a.eval { dst,op:=.move x,type,pos,after,guard }).run P w=.ok (.value (a.eval x)) w:=rfl
  split at h
  ·rename_i htr
   exact ep bH (hk _ _ _ h (OS hst hd (x:=x) (by cases x<;>simp[bU,htr])))
  ·exact ep bH (hk _ _ _ h (aaH hst hd x))
 case assign x=>
  have bH:(execOp a.eval { dst,op:=.assign x,type,pos,after,guard }).run P w=.ok (.value (a.eval x)) w:=rfl
  exact ep bH (hk _ _ _ h (OS hst hd (x:=x) (by cases x<;>simp[bU])))
 case pick c b b'=>
  split at h
  ·rename_i p hc
   have Dp:a.eval c=.bool p:=by have:=bD hst c;rw[hc] at this;exact this.lit
   refine ep (v':=if p then a.eval b else a.eval b') (w':=w) ?_ (hk _ _ _ h (.fin0 hst hd ?_))
   ·simp[execOp,Dp,asBool]
   ·cases p
    ·exact xo hst b'
    ·exact xo hst b
  ·exact h.elim
 case build T parts=>
  obtain⟨z,u,hz,hZ,bH⟩:=F2 hst h
  exact pure_ rfl hz hZ bH
 case buildSlice T len parts=>
  obtain⟨z,u,w',hz,bH,dB⟩:=xt (tr:=tr) hst hd h
  exact full rfl hz bH dB
 case load T x=>
  obtain⟨z,u,hz,hZ,bH⟩:=tD hst h (bD hst x)
  exact pure_ rfl hz hZ bH
 case binOp op T x y yT=>
  obtain⟨u,hf,hz,bH⟩:=L9 h (bD hst x) (bD hst y) x y
  exact pure_ rfl hz (.ofLit hf) bH
 case unOp op T x=>
  obtain⟨u,hf,hz,bH⟩:=Qs h (bD hst x)
  exact pure_ rfl hz (.ofLit hf) bH
 case convert src dst' x=>
  obtain⟨z,u,w',hz,bH,dB⟩:=Ip (tr:=tr) hst hd h (afF hst x)
  exact full rfl hz bH dB
 case makeFunc f first captured=>
  obtain⟨⟨h1,h2⟩,h⟩:=h
  have pr:∀ (l:Array Operand),(l.toList.map (ev G s)).all V.isPR=true→∀ j x,(l.toList.map (ev G s))[j]?=some x→PR I β w ((l.map a.eval).getD j undef) x:=by
   intro l hl j x hx
   have hm:=aT hx
   have hp:=aV.1 hl x hm
   simp only[ba,aU] at hx
   obtain⟨X,hX,rfl⟩:=hx
   have hZ:=bD hst X
   have:(l.map a.eval).getD j undef=a.eval X:=by
    rw[aO] at hX
    simp[hX]
   rw[this]
   cases hx:ev G s X<;>rw[hx] at hp hZ<;>simp only[V.isPR] at hp<;>try cases hp
   ·exact hZ.toC
   ·simp only[LR] at hZ;exact hZ
   ·simp only[LR] at hZ;exact hZ
   ·simp only[LR] at hZ;exact hZ
   ·simp only[LR] at hZ;exact hZ
   ·simp only[LR] at hZ;exact hZ
  refine ep (v':=.func f (first.map a.eval) (captured.map a.eval)) (w':=w) rfl (hk _ _ _ h (.fin0 hst hd ?_))
  simp only[LR]
  exact⟨_,_,rfl,by simp,by simp,pr first h1,pr captured h2⟩
 case lookup T x k ok=>
  obtain⟨z,u,hz,hZ,bH⟩:=Dz hst h (bD hst x) (bD hst k)
  exact pure_ rfl hz hZ bH
 case range T x=>
  obtain⟨z,u,w',hz,bH,dB⟩:=Gg (tr:=tr) hst hd h (bD hst x)
  exact full rfl hz bH dB
 case entry x=>
  obtain⟨z,u,hz,hZ,bH⟩:=Gf hst h (bD hst x)
  exact pure_ rfl hz hZ bH
 case sliceToArrayPointer T x=>
  obtain⟨z,u,hz,hZ,bH⟩:=MB h (bD hst x)
  exact pure_ rfl hz hZ bH
 case nilCheck x=>
  have hx:=bD hst x
  split at h
  ·rename_i i o rR
   rw[rR] at hx
   simp only[LR] at hx
   obtain⟨blk,hβ,hv⟩:=hx
   refine ep (v':=.pointer (some ⟨blk,o,none⟩)) (w':=w) ?_ (hk _ _ _ h (.fin0 hst hd (by simp only[LR];exact⟨blk,hβ,rfl⟩)))
   simp only[execOp,hv];rfl
  ·rename_i cs k rR
   rw[rR] at hx
   obtain⟨b,off,f,hv,_⟩:=hx.toC.rp_inv
   refine ep (v':=a.eval x) (w':=w) ?_ (hk _ _ _ h (.fin0 hst hd (.ofC hx.toC)))
   simp only[execOp,hv];rfl
  ·rename_i ad rR
   rw[rR] at hx
   have hv:=hx.toC.ex_inv
   refine ep (v':=a.eval x) (w':=w) ?_ (hk _ _ _ h (.fin0 hst hd (.ofC hx.toC)))
   simp only[execOp,hv];rfl
  ·exact h.elim
 case slice T x lo hi mx=>
  obtain⟨z,u,hz,hZ,bH⟩:=F5 hst h (xo hst x)
  exact pure_ rfl hz hZ bH
 case fieldAddr T x f=>
  obtain⟨z,u,hz,hZ,bH⟩:=yG h (bD hst x)
  exact pure_ rfl hz hZ bH
 case field T x f=>
  obtain⟨z,u,hz,hZ,bH⟩:=FX h (bD hst x)
  exact pure_ rfl hz hZ bH
 case indexAddr T x i=>
  obtain⟨z,u,hz,hZ,bH⟩:=yH h (xo hst x) (bD hst i)
  exact pure_ rfl hz hZ bH
 case index T x i=>
  obtain⟨z,u,hz,hZ,bH⟩:=FY h (bD hst x) (bD hst i)
  exact pure_ rfl hz hZ bH
 case extract x i=>
  split at h
  ·rename_i ds hx
   split at h
   ·rename_i d hdi
    have hZ:=bD hst x
    rw[hx] at hZ
    simp only[LR] at hZ
    generalize HV:a.eval x=vv at hZ
    cases hZ with
    |tup vs _ h1 h2=>
     have bV:i<vs.size:=by rw[h1];exact(ae.1 hdi).1
     have vU:=h2 i d hdi
     refine pure_ (u:=vs.getD i undef) rfl h ?_ (by simp[HV,Instr.extract,ax bV])
     generalize vs.getD i undef=vv' at vU
     cases d<;>simp only[LR]<;>first | exact vU | (cases vU;done)
   ·exact h.elim
  ·exact h.elim
 case call c=>
  obtain⟨callee,args,ts⟩:=c
  cases callee with
  |value f=>exact Iq (tr:=tr) (f:=f) (args:=args) (ts:=ts) rfl hst hd h hk
  |invoke r m=>exact h.elim
  |builtin b=>
   have vF:∀ sem:Sem Value,builtin b ts type (args.map fun | .const _=>true | _=>false) (args.map a.eval)=(do pure (.value (← sem)))→
    execOp a.eval { dst,op:=.call { callee:=.builtin b,args:=args,argTypes:=ts },type,pos,after,guard }=(do pure (.value (← sem))):=fun sem hs=>by
    simp only[execOp,resolve,invoke,pure_bind]
    exact hs
   have AA:(b=.append∧((v7 tr dst=true∧xi P G s dst ts.toList args.toList K)∨(A7 tr dst=true∧jZ P G s dst ts.toList args.toList K)∨(A7 tr dst=false∧eX P .append ts.toList (args.toList.map fun x=>vw s (ev G s x)) K)))∨(b≠.append∧eX P b ts.toList (args.toList.map (ev G s)) K):=by
    cases b<;>first | (refine .inl ⟨rfl,?_⟩;have h':(if A7 tr dst then(if v7 tr dst then xi P G s dst ts.toList args.toList K else jZ P G s dst ts.toList args.toList K) else eX P .append ts.toList (args.toList.map fun x=>vw s (ev G s x)) K):=h;by_cases hg:A7 tr dst=true;(rw[if_pos hg] at h';by_cases Qg:v7 tr dst=true;(rw[if_pos Qg] at h';exact .inl ⟨Qg,h'⟩);(rw[if_neg Qg] at h';exact .inr (.inl ⟨hg,h'⟩)));(rw[if_neg hg] at h';exact .inr (.inr ⟨by simpa using hg,h'⟩))) | exact .inr ⟨by simp,h⟩
   clear h
   rcases AA with⟨rfl,⟨_,h⟩ | ⟨_,h⟩ | ⟨_,h⟩⟩ | ⟨AE,h⟩
   ·obtain⟨X,Y,t,t',hX,oU,z,u,w',hz,bH,dB⟩:=MD (tr:=tr) (o:={ dst,op:=.call { callee:=.builtin .append,args:=args,argTypes:=ts },type,pos,after,guard }) (ty:=type) hst hd (args:=args.toList) (fun t y hA=>by simp only[bU,hA]) h
    have e1:ts=#[t,t']:=da oU
    have e2:args.map a.eval=#[a.eval X,a.eval Y]:=by apply da;simp[hX]
    subst e1
    refine full (sem:=Builtin.append_ #[t,t'] type (args.map a.eval)) (vF _ rfl) hz ?_ dB
    rw[e2];exact bH
   ·obtain⟨X,Y,t,t',hX,oU,z,u,w',hz,bH,dB⟩:=Gh (tr:=tr) (o:={ dst,op:=.call { callee:=.builtin .append,args:=args,argTypes:=ts },type,pos,after,guard }) (ty:=type) hst hd (args:=args.toList) (fun t y hA=>by simp only[bU,hA]) h
    have e1:ts=#[t,t']:=da oU
    have e2:args.map a.eval=#[a.eval X,a.eval Y]:=by apply da;simp[hX]
    subst e1
    refine full (sem:=Builtin.append_ #[t,t'] type (args.map a.eval)) (vF _ rfl) hz ?_ dB
    rw[e2];exact bH
   ·have oU:∃ t t',ts.toList=[t,t']∧∃ X Y,args.toList=[X,Y]:=by
     unfold eX at h
     split at h<;>first | cases ‹Builtin.append=_› | skip
     ·rename_i t t' x y oU dy
      refine⟨t,t',oU,?_⟩
      cases ha:args.toList with
      |nil=>simp[ha] at dy
      |cons X l=>
       cases l with
       |nil=>simp[ha] at dy
       |cons Y l=>simp only[ha,br,cj,eF] at dy;exact⟨X,Y,by rw[dy.2.2]⟩
     ·exact h.elim
    obtain⟨t,t',oU,X,Y,hX⟩:=oU
    have e1:ts=#[t,t']:=da oU
    have e2:args.map a.eval=#[a.eval X,a.eval Y]:=by apply da;simp[hX]
    subst e1
    rw[hX] at h
    obtain⟨z,u,w',hz,bH,dB⟩:=Bi (tr:=tr) (o:={ dst,op:=.call { callee:=.builtin .append,args:=args,argTypes:=#[t,t'] },type,pos,after,guard }) (ty:=type) hst hd (by simp only[bU,hX];cases X<;>rfl) h
    refine full (sem:=Builtin.append_ #[t,t'] type (args.map a.eval)) (vF _ rfl) hz ?_ dB
    rw[e2];exact bH
   ·unfold eX at h
    split at h
    ·rename_i t x oU dy
     obtain⟨X,hX,rfl⟩:∃ X,args.toList=[X]∧x=ev G s X:=by
      cases ha:args.toList with
      |nil=>simp[ha] at dy
      |cons X l=>simp only[ha,br,cj,eF] at dy;exact⟨X,by rw[dy.2],dy.1.symm⟩
     obtain⟨u,hf,hz,bH⟩:=Md (ty:=type) h (bD hst X)
     have e1:ts=#[t]:=da oU
     have e2:args.map a.eval=#[a.eval X]:=by apply da;simp[hX]
     subst e1
     refine pure_ (sem:=Builtin.len_ #[t] type (args.map a.eval)) (vF _ rfl) hz (.ofLit hf) ?_
     rw[e2];exact bH
    ·exact absurd rfl AE
    ·obtain⟨u,hf,hz,bH⟩:=Be (P:=P) (mx:=false) hst h
     exact pure_ (sem:=Builtin.min_ ts type (args.map a.eval)) (vF _ rfl) hz (.ofLit hf) bH
    ·obtain⟨u,hf,hz,bH⟩:=Be (P:=P) (mx:=true) hst h
     exact pure_ (sem:=Builtin.max_ ts type (args.map a.eval)) (vF _ rfl) hz (.ofLit hf) bH
    ·exact h.elim
