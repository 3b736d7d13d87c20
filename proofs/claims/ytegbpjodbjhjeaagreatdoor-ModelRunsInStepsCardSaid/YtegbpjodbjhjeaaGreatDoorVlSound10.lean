/- Values without memory: the operations keep the relation: append. -/
import Derived.Test.YtegbpjodbjhjeaaGreatDoorVlSound5
import Derived.Deep.AppendSrc
import Derived.Conc.MuLone
import Derived.MapKept
import Derived.WideKeyRuns
set_option linter.all false
namespace Go.Vl
open Go Go.RowKit
section
variable {P:Program} {G:Gl} {tr:List Nat} {n:Nat} {I0:Ft} {M:Mx} {w0:World} {I:Ft} {β:Nat→Option Nat} {ob:Loc→Option Nat} {s:S} {a:Act} {w:World} {o:Oper}
 {next:Act→World→Prop} {Q:Exit→Act→World→Prop} {base:Nat→Prop} {v:Value} {x y:V} {K:V→Prop}
theorem K6 {J:Ft} {b off sz sz':Nat} {es:List (List C)} {f:Nat→Nat→Value} (hs:∀ x∈es,x.length=sz) (hs':∀ e∈es,e.length=sz')
 (hcell:∀ i j,i<es.length→j<sz'→w.cell? ⟨b,off+i*sz'+j,none⟩=some (f i j)∧J b (off+i*sz'+j)) (hrel:∀ i j e c,es[i]?=some e→e[j]?=some c→CR I w (f i j) c) :
 ∃ vs:List Value,vs.length=es.length*sz∧(∀ (q:Nat) (u:Value),vs[q]?=some u→w.cell? ⟨b,off+q,none⟩=some u∧J b (off+q))∧
  (∀ (q:Nat) (c:C),es.flatten[q]?=some c→∃ u,vs[q]?=some u∧CR I w u c)∧(∀ u∈vs,u.oneCell'=true):=by
 have hfl:=br es hs
 by_cases h0:es.length*sz=0
 ·refine⟨[],by simp[h0],by simp,fun q c hq=>?_,by simp⟩
  have:=(aj.1 hq).1
  omega
 have hsz0:0<sz:=Nat.pos_of_ne_zero fun e=>h0 (by simp[e])
 have hel:0<es.length:=Nat.pos_of_ne_zero fun e=>h0 (by simp[e])
 have hsz:sz'=sz:=by rw[← hs' es[0] (aL _),hs es[0] (aL _)]
 subst hsz
 have hin:∀ q,q<es.length*sz'→q / sz'<es.length∧q % sz'<sz'∧q=q / sz'*sz'+q % sz':=fun q hq=>
  ⟨by rw[Nat.div_lt_iff_lt_mul hsz0];exact hq,jW _ hsz0,by rw[Nat.mul_comm];exact(Nat.div_add_mod q sz').symm⟩
 have hflat:∀ (q:Nat) (c:C),es.flatten[q]?=some c→q<es.length*sz'∧CR I w (f (q / sz') (q % sz')) c:=fun q c hq=>by
  have hlt:=(aj.1 hq).1
  rw[hfl] at hlt
  obtain⟨h1,h2,h3⟩:=hin q hlt
  rw[h3,kH es hs _ _ h2] at hq
  simp only[ak h1,fb] at hq
  exact⟨hlt,hrel _ _ _ c (ak h1) hq⟩
 refine⟨(List.range (es.length*sz')).map fun q=>f (q / sz') (q % sz'),by simp,fun q u hq=>?_,fun q c hq=>?_,fun u hu=>?_⟩
 ·simp only[ba,aT] at hq
  obtain⟨q',hq',rfl⟩:=hq
  have hlt:=(aj.1 hq').1
  simp at hlt
  have hqq:q'=q:=by have:=(aj.1 hq').2;simpa using this.symm
  subst hqq
  obtain⟨h1,h2,h3⟩:=hin q' hlt
  have:=hcell _ _ h1 h2
  rw[cO,← h3] at this
  exact this
 ·obtain⟨hlt,hcr⟩:=hflat q c hq
  exact⟨_,by simp[hlt],hcr⟩
 ·simp only[bF,cz] at hu
  obtain⟨q,hq,rfl⟩:=hu
  obtain⟨c,hc⟩:∃ c,es.flatten[q]?=some c:=⟨_,ak (by omega)⟩
  exact(hflat q c hc).2.oneCell
theorem CR.flat {b off cap sz:Nat} {es:List (List C)} (h:CR I w (.slice (some ⟨b,off,none⟩) es.length cap) (.sl es)) (hs:∀ x∈es,x.length=sz) :
 ∃ vs:List Value,vs.length=es.length*sz∧(∀ (q:Nat) (u:Value),vs[q]?=some u→w.cell? ⟨b,off+q,none⟩=some u∧I b (off+q))∧
  (∀ (q:Nat) (c:C),es.flatten[q]?=some c→∃ u,vs[q]?=some u∧CR I w u c)∧(∀ u∈vs,u.oneCell'=true):=by
 rcases h.sl_inv with⟨_,rfl⟩ | ⟨b',off',cap',sz',f,hv,hcap,hs',hcell,hrel⟩
 ·exact⟨[],by simp,by simp,by simp,by simp⟩
 simp only[dV,am,g9,fq,fm] at hv
 obtain⟨⟨rfl,rfl⟩,rfl⟩:=hv
 exact K6 hs hs' hcell hrel
theorem CR.oldsOf {xa:Addr} {cap sz:Nat} {es:List (List C)} (h:CR I w (.slice (some xa) es.length cap) (.sl es)) (hs:∀ x∈es,x.length=sz) :
 ∃ vs:List Value,vs.length=es.length*sz∧(∀ (q:Nat) (u:Value),vs[q]?=some u→w.cell? (xa.add q)=some u)∧
  (∀ (q:Nat) (c:C),es.flatten[q]?=some c→∃ u,vs[q]?=some u∧CR I w u c)∧(∀ u∈vs,u.oneCell'=true):=by
 by_cases hne:es=[]
 ·subst hne;exact⟨[],by simp,by simp,by simp,by simp⟩
 ·rcases h.sl_inv with⟨_,h0⟩ | ⟨b,off,cap',_,_,hv,_⟩
  ·exact absurd h0 hne
  ·simp only[dV,am] at hv
   obtain⟨rfl,_,_⟩:=hv
   obtain⟨vs,h1,h2,h3,h4⟩:=h.flat hs
   exact⟨vs,h1,fun q u hq=>by rw[cD];exact(h2 q u hq).1,h3,h4⟩
theorem RD.flat {b off cap sz:Nat} {es:List (List C)} (h:RD I w (.slice (some ⟨b,off,none⟩) es.length cap) es) (hs:∀ x∈es,x.length=sz) :
 ∃ vs:List Value,vs.length=es.length*sz∧(∀ (q:Nat) (u:Value),vs[q]?=some u→w.cell? ⟨b,off+q,none⟩=some u∧True)∧
  (∀ (q:Nat) (c:C),es.flatten[q]?=some c→∃ u,vs[q]?=some u∧CR I w u c)∧(∀ u∈vs,u.oneCell'=true):=by
 rcases h with⟨_,rfl⟩ | ⟨b',off',cap',sz',f,hv,hcap,hs',hcell,hrel⟩
 ·exact⟨[],by simp,by simp,by simp,by simp⟩
 simp only[dV,am,g9,fq,fm] at hv
 obtain⟨⟨rfl,rfl⟩,rfl⟩:=hv
 exact K6 (J:=fun _ _=>True) hs hs' (fun i j hi hj=>⟨hcell i j hi hj,trivial⟩) hrel
theorem RD.some' {a':Option Addr} {n m:Nat} {es:List (List C)} (h:RD I w (.slice a' n m) es) (hne:es≠[]):∃ b off,a'=some ⟨b,off,none⟩:=by
 rcases h with⟨_,h0⟩ | ⟨b,off,cap,sz,f,hv,_⟩
 ·exact absurd h0 hne
 ·cases hv;exact⟨b,off,rfl⟩
theorem St.growRow (h:St G n I0 M w0 I β ob s a w) {w':World} {r:Nat} (hg:w.grb w' (some r)) (hr:Wr M w0 r) (hcell:∀ o,I r o→w'.cell? ⟨r,o,none⟩=w.cell? ⟨r,o,none⟩)
 (hob:∀ L,ob L≠some r) (hβ:∀ i,β i≠some r) {I':Ft} (h1:∀ b o,I b o→I' b o) (h2:∀ b o,I' b o→I b o∨b=r) (hlt:r<w'.heap.size):St G n I0 M w0 I' β ob s a w':=by
 have hk:=h.keeps hg (fun r' e o ho=>by cases e;exact hcell o ho)
 have hI:∀ b o,I b o→I' b o∧w'.cell? ⟨b,o,none⟩=w.cell? ⟨b,o,none⟩:=fun b o hb=>⟨h1 b o hb,hk b o hb⟩
 have hob':∀ L b,ob L=some b→w'.heap[b]?=w.heap[b]?∧∀ o,I' b o→I b o:=fun L b hL=>by
  have hne:b≠r:=fun e=>hob L (e▸hL)
  refine⟨hg.block b (h.obnd L b hL).1 (by simpa using hne),fun o ho=>?_⟩
  rcases h2 b o ho with h5 | h5
  ·exact h5
  ·exact absurd h5 hne
 exact {
  size:=h.size,defers:=h.defers
  below:=h.below.grown hg (fun k e=>by cases e;exact hr)
  kept:=fun b o h0=>(hk b o (h.ilow b o h0)).trans (h.kept b o h0)
  ilow:=fun b o hb=>h1 b o (h.ilow b o hb)
  ihigh:=fun b o hb=>by
   rcases h2 b o hb with h3 | h3
   ·exact h.ihigh b o h3
   ·exact .inr (by rw[h3];exact hr)
  ibnd:=fun b o hb=>by
   rcases h2 b o hb with h3 | h3
   ·exact bT (h.ibnd b o h3) hg.size
   ·rw[h3];exact hlt
  fr:=fun t=>(h.fr t).mono hI (fun _ _ e=>e) (hob' (.t t))
  bx:=fun i hi=>by
   obtain⟨blk,cur,e1,e2,e3,e4,e5,e7⟩:=h.bx i hi
   have hlt':blk<w.heap.size:=e3.lt
   have hne:blk≠r:=fun e=>hβ i (e▸e1)
   refine⟨blk,cur,e1,e2,e3.mono (hg.block blk hlt' (by simpa using hne)),e4,fun j=>(e5 j).mono hI (fun _ _ e=>e) (hob' (.b i j)),fun o ho=>?_⟩
   rcases h2 blk o ho with h3 | h3
   ·exact e7 o h3
   ·exact hne h3
  bnone:=h.bnone,ext:=h.ext,bnew:=h.bnew,binj:=h.binj,oinj:=h.oinj,obx:=h.obx
  obnd:=fun L b hL=>⟨bT (h.obnd L b hL).1 hg.size,(h.obnd L b hL).2⟩
  glob:=fun g cs hg'=>(h.glob g cs hg').mono hI }
theorem jB (olds news:List Value) (z:Array Value) (j:Nat) (u:Value) (h:(olds++news)[j]?=some u):(olds.toArray++news.toArray++z).getD j undef=u:=by
 have hlt:=(aj.1 h).1
 simp at hlt
 have:(olds.toArray++news.toArray++z)[j]?=some u:=by
  rw[db (by simp;omega)]
  simpa using h
 rw[ao,this];rfl
theorem j7 (T U ty e:TypeId) (i:TypeInfo) (ht:P.underlying T=some (.slice e)) (hi:P.info? e=some i) (b:Option Addr) (k cap:Nat) (hk:k≤cap) {x:Value} (hs:Src P i.size U x 0 [] w) :
 (Builtin.append_ #[T,U] ty #[.slice b k cap,x]).run P w=.ok (.slice b k cap) w:=by
 have hf:(Builtin.firstCells i.size 0 x).run P w=.ok #[] w:=hs.cells
 unfold Builtin.append_
 rcases hs.kind with⟨e',hk'⟩ | hk'<;>cases b<;>simp[aP ht,aP hk',sizeOf,typeInfo,hi,hs.len,hk,hf,storeCells]
theorem eY (g o:Nat) (T:RT):∀ (vs:List Value) (i:Nat) (cur:Array Value) (w:World),w.heap[g]?=some (.cells cur T.t T.fz)→T.ok cur.size→o+i+vs.length≤cur.size→(∀ v∈vs,v.oneCell'=true)→
 (storeCells ⟨g,o,none⟩ vs i).run P w=.ok () (w.setRow g (cur.toList.take (o+i)++vs++cur.toList.drop (o+i+vs.length)).toArray)
 |[],i,cur,w,hg,_,_,_=>by
  simp only[storeCells,ej,aJ,dn,dy,Array.toArray_toList]
  rw[setRow_self w g cur T.t T.fz hg]
  rfl
 |v::rest,i,cur,w,hg,hT,hl,h1=>by
  have hi:o+i<cur.size:=by simp at hl;omega
  have hadd:(⟨g,o,none⟩:Addr).add i=⟨g,o+i,none⟩:=by unfold Addr.add;split<;>simp_all
  have hcell:w.cell? ⟨g,o+i,none⟩=some cur[o+i]:=by simp[World.cell?,hg,hi]
  have hfro:w.frozen? ⟨g,o+i,none⟩=false:=by
   obtain⟨tt,lo,hi'⟩:=T
   simp only[World.frozen?,hg,Bool.and_eq_false_iff,co]
   unfold RT.ok at hT
   simp only at hT
   omega
  have hst:(store ((⟨g,o,none⟩:Addr).add i) v).run P w=.ok () (w.setRow g (cur.setIfInBounds (o+i) v)):=by
   rw[hadd,run_store P w _ v _ (h1 v (by simp)),hcell]
   simp[hfro,setCell_eq_setRow w g (o+i) cur T.t T.fz v hg]
  have ih:=eY g o T rest (i+1) (cur.setIfInBounds (o+i) v) (w.setRow g (cur.setIfInBounds (o+i) v)) (jX w g cur _ T.t _ hg) (by simpa using hT) (by simp at hl ⊢;omega) (fun x hx=>h1 x (by simp[hx]))
  simp only[storeCells,aG,hst,au,ih,setRow_setRow]
  congr 3
  have e:=list_seg_step cur.toList (o+i) v rest (by simp at hl ⊢;omega)
  simpa[Array.toList_setIfInBounds,cO] using e
theorem gK (t tx ty e:TypeId) (i:TypeInfo) (ht:P.underlying t=some (.slice e)) (hi:P.info? e=some i) (g off sLen sCap:Nat) (cur:Array Value) (T:RT) (hg:w.heap[g]?=some (.cells cur T.t T.fz)) (hT:T.ok cur.size)
 (x:Value) (n:Nat) (news:List Value) (hs:Src P i.size tx x n news w) (hroom:sLen+n≤sCap) (hfit:off+sLen*i.size+news.length≤cur.size) :
 (Builtin.append_ #[t,tx] ty #[.slice (some ⟨g,off,none⟩) sLen sCap,x]).run P w=
  .ok (.slice (some ⟨g,off,none⟩) (sLen+n) sCap) (w.setRow g (cur.toList.take (off+sLen*i.size)++news++cur.toList.drop (off+sLen*i.size+news.length)).toArray):=by
 have hst:=eY (P:=P) g (off+sLen*i.size) T news 0 cur w hg hT (by simpa using hfit) hs.one
 simp only[dn] at hst
 rcases hs.kind with⟨e',hk⟩ | hk<;>simp[Builtin.append_,aP ht,aP hk,sizeOf,typeInfo,hi,hs.len,hroom,hs.cells,cD,hst]
def BK (P:Program) (I:Ft) (w:World) (U:TypeId) (v:Value) (sz:Nat) (ys:List (List C)):Prop:=
 ∃ news:List Value,Src P sz U v ys.length news w∧∀ (q:Nat) (c:C),ys.flatten[q]?=some c→∃ u:Value,news[q]?=some u∧CR I w u c
theorem RD.src {U e':TypeId} {v:Value} {sz:Nat} {ys:List (List C)} (h:RD I w v ys) (hu:P.underlying U=some (.slice e')) (hs:∀ x∈ys,x.length=sz):BK P I w U v sz ys:=by
 rcases h with⟨⟨a0,c0,rfl,hc0⟩,rfl⟩ | ⟨b,off,cap,szx,f,rfl,hcap,h1⟩
 ·cases a0 with
  |none=>exact⟨[],Src.ofNil w hu c0,by simp⟩
  |some x=>exact⟨[],Src.ofSlice w hu x 0 c0 [] (by simp) (by simp) (by simp),by simp⟩
 ·have h':RD I w (.slice (some ⟨b,off,none⟩) ys.length cap) ys:=.inr ⟨b,off,cap,szx,f,rfl,hcap,h1⟩
  obtain⟨news,hnl,hnews,hnc,hn1⟩:=h'.flat hs
  exact⟨news,Src.ofSlice w hu ⟨b,off,none⟩ _ _ news hnl (fun q u hq=>by rw[cD];exact(hnews q u hq).1) hn1,hnc⟩
theorem Qa {U:TypeId} {st:ByteArray} (hu:P.underlying U=some .string):BK P I w U (.string st) 1 (jl st):=by
 have hl:(jl st).length=st.size:=by simp[jl]
 refine⟨Go.byteCells st,by rw[hl];exact Src.ofString w hu st,fun q c hq=>?_⟩
 have:=kH (sz:=1) (jl st) (by simp[jl]) q 0 (by omega)
 rw[Nat.mul_one,dn] at this
 rw[this] at hq
 simp only[jl,ba] at hq
 unfold Go.byteCells
 rw[ba]
 cases hb:st.data.toList[q]? with
 |none=>simp[hb] at hq
 |some b=>
  simp only[hb,bI,fb,bD,am] at hq
  exact⟨_,rfl,by rw[← hq];exact .lit _ rfl⟩
theorem xz {T U ty:TypeId} {X:Operand} {vy:Value} (hst:St G n I0 M w0 I β ob s a w) (hd:∀ d,o.dst=some d→d<n)
 (hcon:bN tr o=(match X with | .tmp t=>some t | _=>none)) (h:dX P T (ev G s X) y K) (hy:∀ ys e,P.underlying T=some (.slice e)→∀ j,ti P e=some j→y=.c (.sl ys)→(∀ x∈ys,x.length=j.size)→BK P I w U vy j.size ys) :
 ∃ z u w',K z∧(Builtin.append_ #[T,U] ty #[a.eval X,vy]).run P w=.ok u w'∧SE G n I0 M w0 (s.after tr o z) (a.put o.dst u) w':=by
 have hx:=bz hst X
 unfold dX at h
 split at h
 ·rename_i e _ _ _ _ _ _ E es hi hev
  rw[hev] at hx
  obtain⟨j,d,h1,h2,h3,_⟩:=bj hi
  have hd':=cQ h3
  subst hd'
  split at h
  ·rename_i sz by_ _ z _ _ hje
   obtain⟨j',d',h1',h2',_,hsz',hby',_,hz',_⟩:=bj hje
   simp only at hz' hsz' hby'
   obtain⟨⟨hp,hzl,hE,hes⟩,h⟩:=h
   split at hz'
   ·rename_i zv hzv
    split at h
    ·rename_i ys
     obtain⟨⟨hb,hlen,hys⟩,h⟩:=h
     obtain⟨news,hsrc,hnc⟩:=hy ys e h2 _ hje rfl hys
     simp only at hsrc
     have hzc:=jA (I:=I) (w:=w) hz'.symm
     have hzsz:zv.cells.size=sz:=by rw[hzc.1,hzl]
     have hxo:=hx.2
     have hxc:=hx.1
     have hisOw:(ev G s X).isOw=true:=by rw[hev];rfl
     by_cases hys0:ys=[]
     ·
      subst hys0
      simp only[List.isEmpty_nil,cA] at h
      obtain⟨xa,xk,hxv,hxk⟩:∃ (xa:Option Addr) (xk:Nat),a.eval X=.slice xa es.length xk∧es.length≤xk:=by
       rcases hxo with⟨_,_,b,hv⟩ | ⟨_,blk,cap,_,_,_,_,hv,_,_,hc,_⟩
       ·exact⟨b,_,hv,ae _⟩
       ·exact⟨_,cap,hv,hc⟩
      refine⟨_,a.eval X,w,h,by
       have hn0:news=[]:=b9 (by rw[hsrc.newsLen];simp)
       subst hn0
       rw[hxv];exact j7 T U ty e j' h2 h1' xa _ xk hxk (by rw[← hsz'];exact hsrc),?_⟩
      rw[ej]
      refine .fin hst hd (o':=KX ob X) ?_ fun b hb=>?_
      ·simp only[LR]
       refine⟨hxc,?_⟩
       rcases hxo with hxo | ⟨e',blk,cap,cur,sz',e1,e2,e3⟩
       ·exact .inl hxo
       ·exact .inr ⟨e',blk,cap,cur,sz',e1,e2,e3⟩
      ·cases X with
       |tmp t=>exact⟨hst.obnd _ b hb,fun i=>hst.obx _ b i hb,fun L hL=>⟨t,hst.oinj _ _ b hL hb,hcon,hisOw⟩⟩
       |_=>cases hb
     ·have hie:ys.isEmpty=false:=by simpa using hys0
      simp only[hie,aS,cX] at h
      have hnl:=hsrc.newsLen
      have hn1:=hsrc.one
      have hsrc':Src P j'.size U vy ys.length news w:=by rw[← hsz'];exact hsrc
      have grun:∀ (base:Option Addr) (sLen sCap:Nat) (olds:List Value) (_:(Builtin.firstCells j'.size sLen (.slice base sLen sCap)).run P w.drew=.ok olds.toArray w.drew) (_:sCap<sLen+ys.length) (_:sLen+ys.length≤9223372036854775807) (_:Builtin.nextslicecap (sLen+ys.length) sCap*j'.bytes≤281474976710656),
       (Builtin.append_ #[T,U] ty #[.slice base sLen sCap,vy]).run P w=.ok (.slice (some ⟨w.heap.size,0,none⟩) (sLen+ys.length) (grownCap w (sLen+ys.length) sCap e))
        (w.drew.alloc (.cells (olds.toArray++news.toArray++Builtin.zeroCells zv.cells (grownCap w (sLen+ys.length) sCap e - (sLen+ys.length))) e)):=by
       intro base sLen sCap olds ho hg h63 hfit
       have:=run_append_grow_src (P:=P) w T U ty e j' zv h2 h1' hzv base sLen sCap olds ho vy ys.length news hsrc' hg (by omega) hfit
       rw[this];simp
      have hm0:0<ys.length:=gU.2 hys0
      have hall:∀ x∈es++ys,x.length=sz:=fun x hx=>by rcases bf.1 hx with hx | hx;exact hes x hx;exact hys x hx
      have hmax:es.length+ys.length≤maxLen:=by unfold maxLen;omega
      have flat_eq:(es++ys).flatten=es.flatten++ys.flatten:=by simp
      have hfe:=br es hes
      have grownCase:∀ (olds:List Value) (cap0:Nat),olds.length=es.length*sz→(∀ (q:Nat) (c:C),es.flatten[q]?=some c→∃ u,olds[q]?=some u∧CR I w u c)→
       SE G n I0 M w0 (s.after tr o (.ow (some (e,sz)) (es++ys))) (a.put o.dst (.slice (some ⟨w.heap.size,0,none⟩) (es.length+ys.length) (grownCap w (es.length+ys.length) cap0 e)))
        (w.drew.alloc (.cells (olds.toArray++news.toArray++Builtin.zeroCells zv.cells (grownCap w (es.length+ys.length) cap0 e - (es.length+ys.length))) e)):=by
       intro olds cap0 hol hoc
       have hge:=grownCap_ge w (es.length+ys.length) cap0 e
       have hcm:=grownCap_le_maxLen w (es.length+ys.length) cap0 e hmax
       have:=SE.finRow (tr:=tr) (o:=o) (e:=e) (cap:=grownCap w (es.length+ys.length) cap0 e) (sz:=sz) (es:=es++ys)
        (cur:=olds.toArray++news.toArray++Builtin.zeroCells zv.cells (grownCap w (es.length+ys.length) cap0 e - (es.length+ys.length))) hst hd (w1:=w.drew) hst.drew rfl
        (by simpa using hge) hcm (by
         simp only[Array.size_append,dK,size_zeroCells,hzsz,hol,hnl,← cE]
         congr 1
         omega) hall (fun q c hq=>by
          rw[flat_eq] at hq
          have hget:∃ u,(olds++news)[q]?=some u∧CR I w u c:=by
           by_cases hql:q<es.flatten.length
           ·rw[aB hql] at hq
            obtain⟨u,hu,hcr⟩:=hoc q c hq
            exact⟨u,by rw[aB (by omega)];exact hu,hcr⟩
           ·rw[aH (by omega)] at hq
            obtain⟨u,hu,hcr⟩:=hnc _ c hq
            refine⟨u,?_,hcr⟩
            rw[aH (by omega),← hu]
            congr 1;omega
          obtain⟨u,hu,hcr⟩:=hget
          rw[jB olds news _ q u hu];exact hcr) (fun _ _ _=>rfl)
       rw[aw] at this
       exact this
      rcases hxo with⟨hob0,_,xa,hxv⟩ | ⟨e',blk,cap,cur,sz',hob1,hEe,hxv,hbb,hheap,hc,hcm,hcs,hls,hIb⟩
      ·cases xa with
       |none=>
        have hes0:es=[]:=by
         rcases hxc.sl_inv with⟨_,h1⟩ | ⟨b,off,cap,_,_,hv,_⟩
         ·exact h1
         ·rw[hxv] at hv;cases hv
        subst hes0
        have hrun:=grun none 0 0 [] (by simpa using run_firstCells_none (P:=P) w.drew j'.size 0 0 0) (by simp only[aJ,ah] at hlen;omega) (by simp only[aJ,ah] at hlen;omega)
         (by rw[← hby'];simp only[aJ] at hb;exact gb (by omega) hb)
        simp only[ah] at hrun
        have:=grownCase [] 0 (by simp) (by simp)
        simp only[gC,aJ,ah,dN] at this h
        refine⟨_,_,_,h,by rw[hxv];exact hrun,?_⟩
        simpa using this
       |some xaddr=>
        rw[hxv] at hxc
        obtain⟨olds,hol,holds,hoc,_⟩:=hxc.oldsOf hes
        have hrun:=grun (some xaddr) es.length es.length olds (gW (P:=P) w.drew j'.size es.length xaddr es.length es.length olds (by rw[← hsz'];exact hol) (by simpa using holds)) (by omega) (by omega) (by rw[← hby'];exact gb (by omega) hb)
        exact⟨_,_,_,h,by rw[hxv];exact hrun,grownCase olds es.length hol hoc⟩
      ·have hee:e'=e∧sz'=sz:=by
        rcases hE with hE | hE
        ·rw[hE] at hEe;cases hEe
        ·rw[hE] at hEe;cases hEe;exact⟨rfl,rfl⟩
       obtain⟨rfl,rfl⟩:=hee
       rw[hxv] at hxc
       obtain⟨olds,hol,holds,hoc,_⟩:=hxc.flat hes
       by_cases hroom:es.length+ys.length≤cap
       ·
        cases X with
        |tmp t=>
         have hobt:ob (.t t)=some blk:=hob1
         have hrun:=gK (P:=P) (w:=w) T U ty e' j' h2 h1' blk 0 es.length cap cur (.of e') hheap RT.of_ok vy ys.length news hsrc' hroom (by
          rw[← hsz',hnl,hcs,ah,← cE];exact aO _ hroom)
         rw[← hsz'] at hrun
         simp only[ah] at hrun
         refine⟨_,_,_,h,by rw[hxv];exact hrun,?_⟩
         have hblt:blk<w.heap.size:=(aX.1 hheap).1
         have hcurlen:es.length*sz'+news.length≤cur.size:=by
          rw[hnl,hcs,← cE];exact aO _ hroom
         have hst':=hst.clr t
         have hold:∀ o,o<es.length*sz'→(cur.toList.take (es.length*sz')++news++cur.toList.drop (es.length*sz'+news.length)).toArray[o]?=cur[o]?:=fun o ho=>by
          simp only[cv,bV]
          rw[aB (by simp;omega),ce,if_pos ho,aQ]
         have hcellsame:∀ o,I blk o→(w.setRow blk (cur.toList.take (es.length*sz')++news++cur.toList.drop (es.length*sz'+news.length)).toArray).cell? ⟨blk,o,none⟩=w.cell? ⟨blk,o,none⟩:=fun o ho=>by
          rw[cell_setRow_same w blk o cur _ e' (0,0) hheap,eJ w blk o cur e' (0,0) hheap]
          exact hold o (hIb o ho)
         have hnot:∀ L,upL ob (.t t) none L≠some blk:=fun L hL=>by
          simp only[upL] at hL
          split at hL
          ·cases hL
          ·rename_i hne;exact hne (hst.oinj _ _ blk hL hobt)
         have hg:w.grb (w.setRow blk (cur.toList.take (es.length*sz')++news++cur.toList.drop (es.length*sz'+news.length)).toArray) (some blk):=
          ⟨rfl,rfl,rfl,by simp,fun k _ hk=>iM w blk k _ (fun e=>hk (by rw[e])),ae _⟩
         have hst2:=hst'.growRow hg hbb hcellsame hnot (fun i=>hst.obx _ blk i hobt) (I':=fun b o=>I b o∨(b=blk∧o<(es.length+ys.length)*sz'))
          (fun _ _ h=>.inl h) (fun b o hb=>by rcases hb with hb | hb;exact .inl hb;exact .inr hb.1) (by simpa using hblt)
         have hmono:∀ b o,I b o→(I b o∨(b=blk∧o<(es.length+ys.length)*sz'))∧
          (w.setRow blk (cur.toList.take (es.length*sz')++news++cur.toList.drop (es.length*sz'+news.length)).toArray).cell? ⟨b,o,none⟩=w.cell? ⟨b,o,none⟩:=
          fun b o hb=>⟨.inl hb,hst.keeps hg (fun r e o ho=>by cases e;exact hcellsame o ho) b o hb⟩
         have hnewheap:=jX w blk cur (cur.toList.take (es.length*sz')++news++cur.toList.drop (es.length*sz'+news.length)).toArray e' (0,0) hheap
         have hcur':(cur.toList.take (es.length*sz')++news++cur.toList.drop (es.length*sz'+news.length)).toArray.size=cap*sz':=by
          simp only[dK,aw,aW,cL,bH];omega
         have hcr:CR (fun b o=>I b o∨(b=blk∧o<(es.length+ys.length)*sz')) (w.setRow blk (cur.toList.take (es.length*sz')++news++cur.toList.drop (es.length*sz'+news.length)).toArray)
          (.slice (some ⟨blk,0,none⟩) (es++ys).length cap) (.sl (es++ys)):=
          CR.row hnewheap (by simpa using hroom) hall (fun q c hq=>by
           have hql:=(aj.1 hq).1
           rw[br _ hall,aw,cE] at hql
           refine⟨by rw[hcur',← hcs];omega,?_⟩
           rw[flat_eq] at hq
           by_cases hq1:q<es.flatten.length
           ·rw[aB hq1] at hq
            obtain⟨u,hu,hcr⟩:=hoc q c hq
            have hcell:=(holds q u hu).1
            rw[ah,eJ w blk q cur e' (0,0) hheap] at hcell
            rw[ao,hold q (by omega),hcell]
            exact hcr.mono hmono
           ·rw[aH (by omega)] at hq
            obtain⟨u,hu,hcr⟩:=hnc _ c hq
            have:(cur.toList.take (es.length*sz')++news++cur.toList.drop (es.length*sz'+news.length)).toArray[q]?=some u:=by
             simp only[cv]
             have htl:(cur.toList.take (es.length*sz')).length=es.length*sz':=by
              have hcl:cur.toList.length=cur.size:=bH
              rw[aW,hcl];omega
             rw[aB (by rw[aw,htl];omega),aH (by rw[htl];omega),← hu,htl,hfe]
            rw[ao,this]
            exact hcr.mono hmono) (fun o ho=>.inr ⟨rfl,by simpa using ho⟩)
         have hafter:s.after tr o (.ow (some (e',sz')) (es++ys))=(s.clr t).put o.dst (.ow (some (e',sz')) (es++ys)):=by
          unfold S.after
          rw[hcon]
          simp only[S.use]
          have:(s.fr t).isOw=true:=hisOw
          rw[if_pos this]
         rw[hafter]
         cases hdst:o.dst with
         |none=>exact⟨_,_,_,hst2⟩
         |some dd=>
          refine⟨_,_,_,hst2.put dd (hd dd hdst) (o:=some blk) ?_ fun b hb=>?_⟩
          ·have hval:Value.slice (some ⟨blk,0,none⟩) (es.length+ys.length) cap=Value.slice (some ⟨blk,0,none⟩) (es++ys).length cap:=by rw[aw]
           rw[hval]
           simp only[LR]
           refine⟨hcr,.inr ⟨e',blk,cap,_,sz',rfl,rfl,rfl,hbb,hnewheap,by simpa using hroom,hcm,hcur',hall,fun o ho=>?_⟩⟩
           rw[aw]
           rcases ho with ho | ho
           ·have:=hIb o ho;rw[cE];omega
           ·exact ho.2
          ·simp only[am] at hb
           subst hb
           refine⟨⟨by simpa using hblt,hbb⟩,fun L hL=>?_,fun i=>hst.obx _ blk i hobt⟩
           simp only[upL] at hL
           split at hL
           ·cases hL
           ·split at hL
            ·cases hL
            ·rename_i h5 h6;exact h6 (hst.oinj _ _ blk hL hobt)
        |_=>cases hob1
       ·have hrun:=grun (some ⟨blk,0,none⟩) es.length cap olds (gW (P:=P) w.drew j'.size es.length ⟨blk,0,none⟩ es.length cap olds (by rw[← hsz'];exact hol) (fun q u hq=>by rw[cD];simpa using(holds q u hq).1)) (by omega) (by omega) (by rw[← hby'];exact gb (by omega) hb)
        exact⟨_,_,_,h,by rw[hxv];exact hrun,grownCase olds cap hol hoc⟩
    ·exact h.elim
   ·cases hz'
  ·exact h.elim
 ·exact h.elim
theorem BM {T U ty:TypeId} {t0:Tmp} {E:Option (TypeId×Nat)} {es:List (List C)} {vy:Value} (hst:St G n I0 M w0 I β ob s a w) (hd:∀ d,o.dst=some d→d<n)
 (hcon:bN tr o=some t0) (hev:s.fr t0=.ow E es) (h:qO P [T,U] E es y K) (hy:∀ ys e,P.underlying T=some (.slice e)→∀ j,ti P e=some j→y=.c (.sl ys)→(∀ x∈ys,x.length=j.size)→BK P I w U vy j.size ys) :
 ∃ z u w',K z∧(Builtin.append_ #[T,U] ty #[a.tmps.getD t0 undef,vy]).run P w=.ok u w'∧SE G n I0 M w0 (s.after tr o z) (a.put o.dst u) w':=by
 have hx:=hst.fr t0
 rw[hev] at hx
 simp only[qO] at h
 obtain⟨rfl,h⟩:=h
 split at h
 ·rename_i e _ _ _ _ _ _ hi
  obtain⟨j,d,h1,h2,h3,_⟩:=bj hi
  have hd':=cQ h3
  subst hd'
  split at h
  ·rename_i sz by_ _ z _ _ hje
   obtain⟨j',d',h1',h2',_,hsz',hby',_,hz',_⟩:=bj hje
   simp only at hz' hsz' hby'
   obtain⟨⟨hp,hzl,hE,hes⟩,h⟩:=h
   split at hz'
   ·rename_i zv hzv
    split at h
    ·rename_i y1
     obtain⟨⟨hb,hlen,hy1⟩,h⟩:=h
     have hys:∀ x∈[y1],x.length=sz:=fun x hx=>by rw[a8] at hx;subst hx;exact hy1
     obtain⟨news,hsrc,hnc⟩:=hy [y1] e h2 _ hje rfl hys
     simp only at hsrc
     have hzc:=jA (I:=I) (w:=w) hz'.symm
     have hzsz:zv.cells.size=sz:=by rw[hzc.1,hzl]
     have hxo:=hx.2
     have hxc:=hx.1
     have hisOw:(s.fr t0).isOw=true:=by rw[hev];rfl
     have hys0:([y1]:List (List C))≠[]:=by simp
     have hnl:=hsrc.newsLen
     have hn1:=hsrc.one
     have hsrc':Src P j'.size T vy [y1].length news w:=by rw[← hsz'];exact hsrc
     have grun:∀ (base:Option Addr) (sLen sCap:Nat) (olds:List Value) (_:(Builtin.firstCells j'.size sLen (.slice base sLen sCap)).run P w.drew=.ok olds.toArray w.drew) (_:sCap<sLen+[y1].length) (_:sLen+[y1].length≤9223372036854775807) (_:Builtin.nextslicecap (sLen+[y1].length) sCap*j'.bytes≤281474976710656),
      (Builtin.append_ #[T,T] ty #[.slice base sLen sCap,vy]).run P w=.ok (.slice (some ⟨w.heap.size,0,none⟩) (sLen+[y1].length) (grownCap w (sLen+[y1].length) sCap e))
       (w.drew.alloc (.cells (olds.toArray++news.toArray++Builtin.zeroCells zv.cells (grownCap w (sLen+[y1].length) sCap e - (sLen+[y1].length))) e)):=by
      intro base sLen sCap olds ho hg h63 hfit
      have:=run_append_grow_src (P:=P) w T T ty e j' zv h2 h1' hzv base sLen sCap olds ho vy [y1].length news hsrc' hg (by omega) hfit
      rw[this];simp
     have hm0:0<[y1].length:=gU.2 hys0
     have hall:∀ x∈es++[y1],x.length=sz:=fun x hx=>by rcases bf.1 hx with hx | hx;exact hes x hx;exact hys x hx
     have hmax:es.length+[y1].length≤maxLen:=by unfold maxLen;omega
     have flat_eq:(es++[y1]).flatten=es.flatten++[y1].flatten:=by simp
     have hfe:=br es hes
     have grownCase:∀ (olds:List Value) (cap0:Nat),olds.length=es.length*sz→(∀ (q:Nat) (c:C),es.flatten[q]?=some c→∃ u,olds[q]?=some u∧CR I w u c)→
      SE G n I0 M w0 (s.after tr o (.hh none (some (e,sz)) (es++[y1]))) (a.put o.dst (.slice (some ⟨w.heap.size,0,none⟩) (es.length+[y1].length) (grownCap w (es.length+[y1].length) cap0 e)))
       (w.drew.alloc (.cells (olds.toArray++news.toArray++Builtin.zeroCells zv.cells (grownCap w (es.length+[y1].length) cap0 e - (es.length+[y1].length))) e)):=by
      intro olds cap0 hol hoc
      have hge:=grownCap_ge w (es.length+[y1].length) cap0 e
      have hcm:=grownCap_le_maxLen w (es.length+[y1].length) cap0 e hmax
      have:=SE.finRowH (tr:=tr) (o:=o) (e:=e) (cap:=grownCap w (es.length+[y1].length) cap0 e) (sz:=sz) (es:=es++[y1])
       (cur:=olds.toArray++news.toArray++Builtin.zeroCells zv.cells (grownCap w (es.length+[y1].length) cap0 e - (es.length+[y1].length))) hst hd (w1:=w.drew) hst.drew rfl
       (by simpa using hge) hcm (by
        simp only[Array.size_append,dK,size_zeroCells,hzsz,hol,hnl,← cE]
        congr 1
        omega) hall (fun q c hq=>by
         rw[flat_eq] at hq
         have hget:∃ u,(olds++news)[q]?=some u∧CR I w u c:=by
          by_cases hql:q<es.flatten.length
          ·rw[aB hql] at hq
           obtain⟨u,hu,hcr⟩:=hoc q c hq
           exact⟨u,by rw[aB (by omega)];exact hu,hcr⟩
          ·rw[aH (by omega)] at hq
           obtain⟨u,hu,hcr⟩:=hnc _ c hq
           refine⟨u,?_,hcr⟩
           rw[aH (by omega),← hu]
           congr 1;omega
         obtain⟨u,hu,hcr⟩:=hget
         rw[jB olds news _ q u hu];exact hcr) (fun _ _ _=>rfl)
      rw[aw] at this
      exact this
     rcases hxo with⟨hob0,_,xa,hxv⟩ | ⟨e',blk,cap,cur,sz',hob1,hEe,hxv,hbb,hheap,hc,hcm,hcs,hls,hIb⟩
     ·cases xa with
      |none=>
       have hes0:es=[]:=by
        rcases hxc.sl_inv with⟨_,h1⟩ | ⟨b,off,cap,_,_,hv,_⟩
        ·exact h1
        ·rw[hxv] at hv;cases hv
       subst hes0
       have hrun:=grun none 0 0 [] (by simpa using run_firstCells_none (P:=P) w.drew j'.size 0 0 0) (by simp only[aJ,ah] at hlen;omega) (by simp only[aJ,ah] at hlen;omega)
        (by rw[← hby'];simp only[aJ] at hb;exact gb (by omega) hb)
       simp only[ah] at hrun
       have:=grownCase [] 0 (by simp) (by simp)
       simp only[gC,aJ,ah,dN] at this h
       refine⟨_,_,_,h,by rw[hxv];exact hrun,?_⟩
       simpa using this
      |some xaddr=>
       rw[hxv] at hxc
       obtain⟨olds,hol,holds,hoc,_⟩:=hxc.oldsOf hes
       have hrun:=grun (some xaddr) es.length es.length olds (gW (P:=P) w.drew j'.size es.length xaddr es.length es.length olds (by rw[← hsz'];exact hol) (by simpa using holds)) (by omega) (by omega) (by rw[← hby'];exact gb (by omega) hb)
       exact⟨_,_,_,h,by rw[hxv];exact hrun,grownCase olds es.length hol hoc⟩
     ·have hee:e'=e∧sz'=sz:=by
       rcases hE with hE | hE
       ·rw[hE] at hEe;cases hEe
       ·rw[hE] at hEe;cases hEe;exact⟨rfl,rfl⟩
      obtain⟨rfl,rfl⟩:=hee
      rw[hxv] at hxc
      obtain⟨olds,hol,holds,hoc,_⟩:=hxc.flat hes
      by_cases hroom:es.length+[y1].length≤cap
      ·
       have hobt:ob (.t t0)=some blk:=hob1
       have hrun:=gK (P:=P) (w:=w) T T ty e' j' h2 h1' blk 0 es.length cap cur (.of e') hheap RT.of_ok vy [y1].length news hsrc' hroom (by
        rw[← hsz',hnl,hcs,ah,← cE];exact aO _ hroom)
       rw[← hsz'] at hrun
       simp only[ah] at hrun
       refine⟨_,_,_,h,by rw[hxv];exact hrun,?_⟩
       have hblt:blk<w.heap.size:=(aX.1 hheap).1
       have hcurlen:es.length*sz'+news.length≤cur.size:=by
        rw[hnl,hcs,← cE];exact aO _ hroom
       have hst':=hst.clr t0
       have hold:∀ o,o<es.length*sz'→(cur.toList.take (es.length*sz')++news++cur.toList.drop (es.length*sz'+news.length)).toArray[o]?=cur[o]?:=fun o ho=>by
        simp only[cv,bV]
        rw[aB (by simp;omega),ce,if_pos ho,aQ]
       have hcellsame:∀ o,I blk o→(w.setRow blk (cur.toList.take (es.length*sz')++news++cur.toList.drop (es.length*sz'+news.length)).toArray).cell? ⟨blk,o,none⟩=w.cell? ⟨blk,o,none⟩:=fun o ho=>by
        rw[cell_setRow_same w blk o cur _ e' (0,0) hheap,eJ w blk o cur e' (0,0) hheap]
        exact hold o (hIb o ho)
       have hnot:∀ L,upL ob (.t t0) none L≠some blk:=fun L hL=>by
        simp only[upL] at hL
        split at hL
        ·cases hL
        ·rename_i hne;exact hne (hst.oinj _ _ blk hL hobt)
       have hg:w.grb (w.setRow blk (cur.toList.take (es.length*sz')++news++cur.toList.drop (es.length*sz'+news.length)).toArray) (some blk):=
        ⟨rfl,rfl,rfl,by simp,fun k _ hk=>iM w blk k _ (fun e=>hk (by rw[e])),ae _⟩
       have hst2:=hst'.growRow hg hbb hcellsame hnot (fun i=>hst.obx _ blk i hobt) (I':=I)
        (fun _ _ h=>h) (fun b o hb=>.inl hb) (by simpa using hblt)
       have hmono:∀ b o,I b o→I b o∧
        (w.setRow blk (cur.toList.take (es.length*sz')++news++cur.toList.drop (es.length*sz'+news.length)).toArray).cell? ⟨b,o,none⟩=w.cell? ⟨b,o,none⟩:=
        fun b o hb=>⟨hb,hst.keeps hg (fun r e o ho=>by cases e;exact hcellsame o ho) b o hb⟩
       have hnewheap:=jX w blk cur (cur.toList.take (es.length*sz')++news++cur.toList.drop (es.length*sz'+news.length)).toArray e' (0,0) hheap
       have hcur':(cur.toList.take (es.length*sz')++news++cur.toList.drop (es.length*sz'+news.length)).toArray.size=cap*sz':=by
        simp only[dK,aw,aW,cL,bH];omega
       have hcr:∀ (q:Nat) (c:C),(es++[y1]).flatten[q]?=some c→CR I (w.setRow blk (cur.toList.take (es.length*sz')++news++cur.toList.drop (es.length*sz'+news.length)).toArray) ((cur.toList.take (es.length*sz')++news++cur.toList.drop (es.length*sz'+news.length)).toArray.getD q undef) c:=
        (fun q c hq=>by
         have hql:=(aj.1 hq).1
         rw[br _ hall,aw,cE] at hql
         rw[flat_eq] at hq
         by_cases hq1:q<es.flatten.length
         ·rw[aB hq1] at hq
          obtain⟨u,hu,hcr⟩:=hoc q c hq
          have hcell:=(holds q u hu).1
          rw[ah,eJ w blk q cur e' (0,0) hheap] at hcell
          rw[ao,hold q (by omega),hcell]
          exact hcr.mono hmono
         ·rw[aH (by omega)] at hq
          obtain⟨u,hu,hcr⟩:=hnc _ c hq
          have:(cur.toList.take (es.length*sz')++news++cur.toList.drop (es.length*sz'+news.length)).toArray[q]?=some u:=by
           simp only[cv]
           have htl:(cur.toList.take (es.length*sz')).length=es.length*sz':=by
            have hcl:cur.toList.length=cur.size:=bH
            rw[aW,hcl];omega
           rw[aB (by rw[aw,htl];omega),aH (by rw[htl];omega),← hu,htl,hfe]
          rw[ao,this]
          exact hcr.mono hmono)
       have hafter:s.after tr o (.hh none (some (e',sz')) (es++[y1]))=(s.clr t0).put o.dst (.hh none (some (e',sz')) (es++[y1])):=by
        unfold S.after
        rw[hcon]
        simp only[S.use]
        have:(s.fr t0).isOw=true:=hisOw
        rw[if_pos this]
       rw[hafter]
       cases hdst:o.dst with
       |none=>exact⟨_,_,_,hst2⟩
       |some dd=>
        refine⟨_,_,_,hst2.put dd (hd dd hdst) (o:=some blk) ?_ fun b hb=>?_⟩
        ·have hval:Value.slice (some ⟨blk,0,none⟩) (es.length+[y1].length) cap=Value.slice (some ⟨blk,0,none⟩) (es++[y1]).length cap:=by rw[aw]
         rw[hval]
         simp only[LR]
         refine⟨(fun _ h=>by cases h),e',blk,cap,_,sz',rfl,rfl,rfl,hbb,hnewheap,by simpa using hroom,hcm,hcur',hall,hcr,fun o ho=>?_,fun o ho=>?_⟩
         ·rw[aw,dz,Nat.add_sub_cancel] at ho
          obtain⟨u,hu⟩:∃ u,olds[o]?=some u:=⟨_,ak (by omega)⟩
          have:=(holds o u hu).2
          rwa [ah] at this
         ·rw[aw,dz,Nat.add_sub_cancel]
          exact hIb o ho
        ·simp only[am] at hb
         subst hb
         refine⟨⟨by simpa using hblt,hbb⟩,fun L hL=>?_,fun i=>hst.obx _ blk i hobt⟩
         simp only[upL] at hL
         split at hL
         ·cases hL
         ·split at hL
          ·cases hL
          ·rename_i h5 h6;exact h6 (hst.oinj _ _ blk hL hobt)
      ·have hrun:=grun (some ⟨blk,0,none⟩) es.length cap olds (gW (P:=P) w.drew j'.size es.length ⟨blk,0,none⟩ es.length cap olds (by rw[← hsz'];exact hol) (fun q u hq=>by rw[cD];simpa using(holds q u hq).1)) (by omega) (by omega) (by rw[← hby'];exact gb (by omega) hb)
       exact⟨_,_,_,h,by rw[hxv];exact hrun,grownCase olds cap hol hoc⟩
    ·exact h.elim
   ·cases hz'
  ·exact h.elim
 ·exact h.elim
theorem qP {z:Array Value} {m:Nat} {u:Value} (h:u∈Builtin.zeroCells z m):u∈z:=by
 unfold Builtin.zeroCells at h
 simp only[Array.mem_map,Array.mem_range] at h
 obtain⟨i,hi,rfl⟩:=h
 have hz:0<z.size:=Nat.pos_of_ne_zero fun h=>by rw[h] at hi;simp at hi
 have hlt:i % z.size<z.size:=jW _ hz
 rw[getElem!_pos z _ hlt]
 exact Array.getElem_mem hlt
theorem uo {T U ty:TypeId} {t0:Tmp} {E:Option (TypeId×Nat)} {es:List (List C)} {vy:Value} (hst:St G n I0 M w0 I β ob s a w) (hd:∀ d,o.dst=some d→d<n)
 (hcon:bN tr o=some t0) (hev:s.fr t0=.gs none E es) (h:ln P [T,U] E es y K) (hy:∀ ys e,P.underlying T=some (.slice e)→∀ j,ti P e=some j→y=.c (.sl ys)→(∀ x∈ys,x.length=j.size)→BK P I w U vy j.size ys) :
 ∃ z u w',K z∧(Builtin.append_ #[T,U] ty #[a.tmps.getD t0 undef,vy]).run P w=.ok u w'∧SE G n I0 M w0 (s.after tr o z) (a.put o.dst u) w':=by
 have hx:=hst.fr t0
 rw[hev] at hx
 simp only[ln] at h
 obtain⟨rfl,h⟩:=h
 split at h
 ·rename_i e _ _ _ _ _ _ hi
  obtain⟨j,d,h1,h2,h3,_⟩:=bj hi
  have hd':=cQ h3
  subst hd'
  split at h
  ·rename_i sz by_ _ z _ _ hje
   obtain⟨j',d',h1',h2',_,hsz',hby',_,hz',_⟩:=bj hje
   simp only at hz' hsz' hby'
   obtain⟨⟨hp,hzl,hE,hes⟩,h⟩:=h
   split at hz'
   ·rename_i zv hzv
    split at h
    ·rename_i y1
     obtain⟨⟨hb,hlen,hy1⟩,h⟩:=h
     have hys:∀ x∈[y1],x.length=sz:=fun x hx=>by rw[a8] at hx;subst hx;exact hy1
     obtain⟨news,hsrc,hnc⟩:=hy [y1] e h2 _ hje rfl hys
     simp only at hsrc
     have hzc:=jA (I:=I) (w:=w) hz'.symm
     have hzsz:zv.cells.size=sz:=by rw[hzc.1,hzl]
     have zone:∀ u∈zv.cells,u.oneCell'=true:=fun u hu=>by
      obtain⟨q,hq,rfl⟩:=eT.1 hu
      have hql:q<z.length:=by rw[← hzc.1];exact hq
      have:=(hzc.2 q _ (ak hql)).oneCell
      simpa[ax hq,hq] using this
     have hxo:=hx.2
     have hisOw:(s.fr t0).isOw=true:=by rw[hev];rfl
     have hys0:([y1]:List (List C))≠[]:=by simp
     have hnl:=hsrc.newsLen
     have hn1:=hsrc.one
     have hsrc':Src P j'.size T vy [y1].length news w:=by rw[← hsz'];exact hsrc
     have grun:∀ (base:Option Addr) (sLen sCap:Nat) (olds:List Value) (_:(Builtin.firstCells j'.size sLen (.slice base sLen sCap)).run P w.drew=.ok olds.toArray w.drew) (_:sCap<sLen+[y1].length) (_:sLen+[y1].length≤9223372036854775807) (_:Builtin.nextslicecap (sLen+[y1].length) sCap*j'.bytes≤281474976710656),
      (Builtin.append_ #[T,T] ty #[.slice base sLen sCap,vy]).run P w=.ok (.slice (some ⟨w.heap.size,0,none⟩) (sLen+[y1].length) (grownCap w (sLen+[y1].length) sCap e))
       (w.drew.alloc (.cells (olds.toArray++news.toArray++Builtin.zeroCells zv.cells (grownCap w (sLen+[y1].length) sCap e - (sLen+[y1].length))) e)):=by
      intro base sLen sCap olds ho hg h63 hfit
      have:=run_append_grow_src (P:=P) w T T ty e j' zv h2 h1' hzv base sLen sCap olds ho vy [y1].length news hsrc' hg (by omega) hfit
      rw[this];simp
     have hm0:0<[y1].length:=gU.2 hys0
     have hall:∀ x∈es++[y1],x.length=sz:=fun x hx=>by rcases bf.1 hx with hx | hx;exact hes x hx;exact hys x hx
     have hmax:es.length+[y1].length≤maxLen:=by unfold maxLen;omega
     have flat_eq:(es++[y1]).flatten=es.flatten++[y1].flatten:=by simp
     have hfe:=br es hes
     have grownCase:∀ (olds:List Value) (cap0:Nat),olds.length=es.length*sz→(∀ (q:Nat) (c:C),es.flatten[q]?=some c→∃ u,olds[q]?=some u∧CR I w u c)→(∀ u∈olds,u.oneCell'=true)→
      SE G n I0 M w0 (s.after tr o (.gs none (some (e,sz)) (es++[y1]))) (a.put o.dst (.slice (some ⟨w.heap.size,0,none⟩) (es.length+[y1].length) (grownCap w (es.length+[y1].length) cap0 e)))
       (w.drew.alloc (.cells (olds.toArray++news.toArray++Builtin.zeroCells zv.cells (grownCap w (es.length+[y1].length) cap0 e - (es.length+[y1].length))) e)):=by
      intro olds cap0 hol hoc ho1
      have hge:=grownCap_ge w (es.length+[y1].length) cap0 e
      have hcm:=grownCap_le_maxLen w (es.length+[y1].length) cap0 e hmax
      have:=SE.finRowG (tr:=tr) (o:=o) (e:=e) (cap:=grownCap w (es.length+[y1].length) cap0 e) (sz:=sz) (es:=es++[y1])
       (cur:=olds.toArray++news.toArray++Builtin.zeroCells zv.cells (grownCap w (es.length+[y1].length) cap0 e - (es.length+[y1].length))) hst hd (w1:=w.drew) hst.drew rfl
       (by simpa using hge) hcm (by
        simp only[Array.size_append,dK,size_zeroCells,hzsz,hol,hnl,← cE]
        congr 1
        omega) hall (fun q c hq=>by
         rw[flat_eq] at hq
         have hget:∃ u,(olds++news)[q]?=some u∧CR I w u c:=by
          by_cases hql:q<es.flatten.length
          ·rw[aB hql] at hq
           obtain⟨u,hu,hcr⟩:=hoc q c hq
           exact⟨u,by rw[aB (by omega)];exact hu,hcr⟩
          ·rw[aH (by omega)] at hq
           obtain⟨u,hu,hcr⟩:=hnc _ c hq
           refine⟨u,?_,hcr⟩
           rw[aH (by omega),← hu]
           congr 1;omega
         obtain⟨u,hu,hcr⟩:=hget
         rw[jB olds news _ q u hu];exact hcr) (fun u hu=>by
          simp only[Array.mem_append,fc] at hu
          rcases hu with(hu | hu) | hu
          ·exact ho1 u hu
          ·exact hn1 u hu
          ·exact zone u (qP hu)) (fun _ _ _=>rfl)
      rw[aw] at this
      exact this
     rcases hxo with⟨hob0,hE0,hes0,xa,hxv⟩ | ⟨e',blk,cap,cur,sz',hob1,hEe,hxv,hbb,hheap,hc,hcm,hcs,hls,hcc,hone,hno⟩
     ·subst hes0
      have nilCase:∀ (base:Option Addr),(Builtin.append_ #[T,T] ty #[.slice base 0 0,vy]).run P w=.ok (.slice (some ⟨w.heap.size,0,none⟩) (0+[y1].length) (grownCap w (0+[y1].length) 0 e))
       (w.drew.alloc (.cells (([]:List Value).toArray++news.toArray++Builtin.zeroCells zv.cells (grownCap w (0+[y1].length) 0 e - (0+[y1].length))) e)):=fun base=>by
       refine grun base 0 0 [] ?_ (by simp) (by simp) (by rw[← hby'];exact gb (by simp) (by simpa using hb))
       cases base with
       |none=>simpa using run_firstCells_none (P:=P) w.drew j'.size 0 0 0
       |some xaddr=>exact gW (P:=P) w.drew j'.size 0 xaddr 0 0 [] (by simp) (by simp)
      have hrun:=nilCase xa
      have:=grownCase [] 0 (by simp) (by simp) (by simp)
      simp only[gC,aJ,ah,dN] at this h hrun
      refine⟨_,_,_,h,by rw[hxv];exact hrun,?_⟩
      simpa using this
     ·have hee:e'=e∧sz'=sz:=by
       rcases hE with hE | hE
       ·rw[hE] at hEe;cases hEe
       ·rw[hE] at hEe;cases hEe;exact⟨rfl,rfl⟩
      obtain⟨rfl,rfl⟩:=hee
      have hle0:=aO sz' hc
      obtain⟨olds,hol,hoc0⟩:∃ olds:List Value,olds.length=es.length*sz'∧∀ q,q<es.length*sz'→olds[q]?=cur[q]?:=⟨cur.toList.take (es.length*sz'),by rw[aW];exact bY (by have h9:cur.toList.length=cur.size:=bH;rw[h9,hcs];exact hle0),fun q hq=>by rw[ce,if_pos hq,aQ]⟩
      have hoc:∀ (q:Nat) (c:C),es.flatten[q]?=some c→∃ u,olds[q]?=some u∧CR I w u c:=fun q c hq=>by
       have hql:=(aj.1 hq).1
       rw[hfe] at hql
       refine⟨cur.getD q undef,?_,hcc q c hq⟩
       rw[hoc0 q hql,ao,ax (show q<cur.size by omega)];rfl
      have ho1:∀ u∈olds,u.oneCell'=true:=fun u hu=>by
       obtain⟨q,hq,rfl⟩:=gV hu
       have h7:=hoc0 q (by omega)
       rw[ak hq] at h7
       exact hone _ (eA h7.symm)
      have holds:∀ (q:Nat) (u:Value),olds[q]?=some u→w.cell? ⟨blk,0+q,none⟩=some u:=fun q u hq=>by
       have hql:=(aj.1 hq).1
       rw[ah,eJ w blk q cur e' (0,0) hheap,← hq,hoc0 q (by omega)]
      by_cases hroom:es.length+[y1].length≤cap
      ·
       have hobt:ob (.t t0)=some blk:=hob1
       have hrun:=gK (P:=P) (w:=w) T T ty e' j' h2 h1' blk 0 es.length cap cur (.of e') hheap RT.of_ok vy [y1].length news hsrc' hroom (by
        rw[← hsz',hnl,hcs,ah,← cE];exact aO _ hroom)
       rw[← hsz'] at hrun
       simp only[ah] at hrun
       refine⟨_,_,_,h,by rw[hxv];exact hrun,?_⟩
       have hblt:blk<w.heap.size:=(aX.1 hheap).1
       have hcurlen:es.length*sz'+news.length≤cur.size:=by
        rw[hnl,hcs,← cE];exact aO _ hroom
       have hst':=hst.clr t0
       have hold:∀ o,o<es.length*sz'→(cur.toList.take (es.length*sz')++news++cur.toList.drop (es.length*sz'+news.length)).toArray[o]?=cur[o]?:=fun o ho=>by
        simp only[cv,bV]
        rw[aB (by simp;omega),ce,if_pos ho,aQ]
       have hcellsame:∀ o,I blk o→(w.setRow blk (cur.toList.take (es.length*sz')++news++cur.toList.drop (es.length*sz'+news.length)).toArray).cell? ⟨blk,o,none⟩=w.cell? ⟨blk,o,none⟩:=fun o ho=>by
        exact absurd ho (hno o)
       have hnot:∀ L,upL ob (.t t0) none L≠some blk:=fun L hL=>by
        simp only[upL] at hL
        split at hL
        ·cases hL
        ·rename_i hne;exact hne (hst.oinj _ _ blk hL hobt)
       have hg:w.grb (w.setRow blk (cur.toList.take (es.length*sz')++news++cur.toList.drop (es.length*sz'+news.length)).toArray) (some blk):=
        ⟨rfl,rfl,rfl,by simp,fun k _ hk=>iM w blk k _ (fun e=>hk (by rw[e])),ae _⟩
       have hst2:=hst'.growRow hg hbb hcellsame hnot (fun i=>hst.obx _ blk i hobt) (I':=I)
        (fun _ _ h=>h) (fun b o hb=>.inl hb) (by simpa using hblt)
       have hmono:∀ b o,I b o→I b o∧
        (w.setRow blk (cur.toList.take (es.length*sz')++news++cur.toList.drop (es.length*sz'+news.length)).toArray).cell? ⟨b,o,none⟩=w.cell? ⟨b,o,none⟩:=
        fun b o hb=>⟨hb,hst.keeps hg (fun r e o ho=>by cases e;exact hcellsame o ho) b o hb⟩
       have hnewheap:=jX w blk cur (cur.toList.take (es.length*sz')++news++cur.toList.drop (es.length*sz'+news.length)).toArray e' (0,0) hheap
       have hcur':(cur.toList.take (es.length*sz')++news++cur.toList.drop (es.length*sz'+news.length)).toArray.size=cap*sz':=by
        simp only[dK,aw,aW,cL,bH];omega
       have hcr:∀ (q:Nat) (c:C),(es++[y1]).flatten[q]?=some c→CR I (w.setRow blk (cur.toList.take (es.length*sz')++news++cur.toList.drop (es.length*sz'+news.length)).toArray) ((cur.toList.take (es.length*sz')++news++cur.toList.drop (es.length*sz'+news.length)).toArray.getD q undef) c:=
        (fun q c hq=>by
         have hql:=(aj.1 hq).1
         rw[br _ hall,aw,cE] at hql
         rw[flat_eq] at hq
         by_cases hq1:q<es.flatten.length
         ·rw[aB hq1] at hq
          obtain⟨u,hu,hcr⟩:=hoc q c hq
          have hcell:=holds q u hu
          rw[ah,eJ w blk q cur e' (0,0) hheap] at hcell
          rw[ao,hold q (by omega),hcell]
          exact hcr.mono hmono
         ·rw[aH (by omega)] at hq
          obtain⟨u,hu,hcr⟩:=hnc _ c hq
          have:(cur.toList.take (es.length*sz')++news++cur.toList.drop (es.length*sz'+news.length)).toArray[q]?=some u:=by
           simp only[cv]
           have htl:(cur.toList.take (es.length*sz')).length=es.length*sz':=by
            have hcl:cur.toList.length=cur.size:=bH
            rw[aW,hcl];omega
           rw[aB (by rw[aw,htl];omega),aH (by rw[htl];omega),← hu,htl,hfe]
          rw[ao,this]
          exact hcr.mono hmono)
       have hafter:s.after tr o (.gs none (some (e',sz')) (es++[y1]))=(s.clr t0).put o.dst (.gs none (some (e',sz')) (es++[y1])):=by
        unfold S.after
        rw[hcon]
        simp only[S.use]
        have:(s.fr t0).isOw=true:=hisOw
        rw[if_pos this]
       rw[hafter]
       cases hdst:o.dst with
       |none=>exact⟨_,_,_,hst2⟩
       |some dd=>
        refine⟨_,_,_,hst2.put dd (hd dd hdst) (o:=some blk) ?_ fun b hb=>?_⟩
        ·have hval:Value.slice (some ⟨blk,0,none⟩) (es.length+[y1].length) cap=Value.slice (some ⟨blk,0,none⟩) (es++[y1]).length cap:=by rw[aw]
         rw[hval]
         simp only[LR]
         exact⟨(fun _ h=>by cases h),.inr ⟨e',blk,cap,_,sz',rfl,rfl,rfl,hbb,hnewheap,by simpa using hroom,hcm,hcur',hall,hcr,fun u hu=>by
          rw[fc] at hu
          rcases bf.1 hu with hu | hu
          ·rcases bf.1 hu with hu | hu
           ·exact hone u (cj.1 (cF hu))
           ·exact hn1 u hu
          ·exact hone u (cj.1 (ct hu)),hno⟩⟩
        ·simp only[am] at hb
         subst hb
         refine⟨⟨by simpa using hblt,hbb⟩,fun L hL=>?_,fun i=>hst.obx _ blk i hobt⟩
         simp only[upL] at hL
         split at hL
         ·cases hL
         ·split at hL
          ·cases hL
          ·rename_i h5 h6;exact h6 (hst.oinj _ _ blk hL hobt)
      ·have hrun:=grun (some ⟨blk,0,none⟩) es.length cap olds (gW (P:=P) w.drew j'.size es.length ⟨blk,0,none⟩ es.length cap olds (by rw[← hsz'];exact hol) (fun q u hq=>by rw[cD];simpa using holds q u hq)) (by omega) (by omega) (by rw[← hby'];exact gb (by omega) hb)
       exact⟨_,_,_,h,by rw[hxv];exact hrun,grownCase olds cap hol hoc ho1⟩
    ·exact h.elim
   ·cases hz'
  ·exact h.elim
 ·exact h.elim
theorem xA {T ty:TypeId} {vx vy:Value} {ox:Option Nat} {es:List (List C)} {d:Option Tmp} {K:S→Prop} (hst:St G n I0 M w0 I β ob s a w)
 (hx:LR (Wr M w0) I β w ox vx (.ow none es)) (h:dX P T (.ow none es) y (P6 s d K)) (hy:∀ ys,y=.c (.sl ys)→RD I w vy ys) :
 ∃ (e:TypeId) (sz:Nat) (es':List (List C)) (cells:Array Value) (cap:Nat),K ({ s with bx:=up s.bx s.nb (es'.flatten.map .c),nb:=s.nb+1 }.put d (.ms s.nb 0 es'.length es'.length sz))∧
  (Builtin.append_ #[T,T] ty #[vx,vy]).run P w=.ok (.slice (some ⟨w.heap.size,0,none⟩) es'.length cap) (w.drew.alloc (.cells cells e))∧es'.length≤cap∧es'.flatten.length≤cells.size∧
  (∀ q c,es'.flatten[q]?=some c→CR I w (cells.getD q undef) c)∧(∀ u∈cells,u.oneCell'=true):=by
 unfold dX at h
 split at h
 ·rename_i e _ _ _ _ _ _ E es1 hi hev
  cases hev
  obtain⟨j,d,h1,h2,h3,_⟩:=bj hi
  have hd':=cQ h3
  subst hd'
  split at h
  ·rename_i sz by_ _ z _ _ hje
   obtain⟨j',d',h1',h2',_,hsz',hby',_,hz',_⟩:=bj hje
   simp only at hz' hsz' hby'
   obtain⟨⟨hp,hzl,hE,hes⟩,h⟩:=h
   split at hz'
   ·rename_i zv hzv
    split at h
    ·rename_i ys
     obtain⟨⟨hb,hlen,hys⟩,h⟩:=h
     by_cases hys0:ys=[]
     ·subst hys0
      simp only[List.isEmpty_nil,cA] at h
      exact h.elim
     have hie:ys.isEmpty=false:=by simpa using hys0
     simp only[hie,aS,cX] at h
     have hcy:=hy _ rfl
     have hzc:=jA (I:=I) (w:=w) hz'.symm
     have hzsz:zv.cells.size=sz:=by rw[hzc.1,hzl]
     obtain⟨vsl,hvy⟩:∃ (p:Option Addr×Nat),vy=.slice p.1 ys.length p.2:=by
      rcases hcy with⟨h0,h1⟩ | ⟨b,off,cap,_,_,hv,_⟩
      ·obtain⟨a0,c0,h0,_⟩:=h0;exact⟨(a0,c0),by rw[h0,h1];rfl⟩
      ·exact⟨(some ⟨b,off,none⟩,cap),hv⟩
     obtain⟨ya,yc⟩:=vsl
     simp only at hvy
     subst hvy
     have hxo:=hx.2
     have hxc:=hx.1
     obtain⟨yb,yoff,rfl⟩:=hcy.some' hys0
     obtain⟨news,hnl,hnews,hnc,hn1⟩:=hcy.flat hys
     have hnews':∀ (q:Nat) (u:Value),news[q]?=some u→w.cell? ((⟨yb,yoff,none⟩:Addr).add q)=some u:=fun q u hq=>by rw[cD];exact(hnews q u hq).1
     have hm0:0<ys.length:=gU.2 hys0
     have hall:∀ x∈es++ys,x.length=sz:=fun x hx=>by rcases bf.1 hx with hx | hx;exact hes x hx;exact hys x hx
     have hmax:es.length+ys.length≤maxLen:=by unfold maxLen;omega
     have flat_eq:(es++ys).flatten=es.flatten++ys.flatten:=by simp
     have hfe:=br es hes
     have hfa:=br (es++ys) hall
     have zone:∀ u∈zv.cells,u.oneCell'=true:=fun u hu=>by
      obtain⟨q,hq,rfl⟩:=eT.1 hu
      have hql:q<z.length:=by rw[← hzc.1];exact hq
      have:=(hzc.2 q _ (ak hql)).oneCell
      simpa[ax hq,hq] using this
     have fin:∀ (olds:List Value) (cap0:Nat),olds.length=es.length*sz→(∀ (q:Nat) (c:C),es.flatten[q]?=some c→∃ u,olds[q]?=some u∧CR I w u c)→(∀ u∈olds,u.oneCell'=true)→
      (Builtin.append_ #[T,T] ty #[vx,.slice (some ⟨yb,yoff,none⟩) ys.length yc]).run P w=.ok (.slice (some ⟨w.heap.size,0,none⟩) (es.length+ys.length) (grownCap w (es.length+ys.length) cap0 e))
       (w.drew.alloc (.cells (olds.toArray++news.toArray++Builtin.zeroCells zv.cells (grownCap w (es.length+ys.length) cap0 e - (es.length+ys.length))) e))→
      ∃ (e:TypeId) (sz:Nat) (es':List (List C)) (cells:Array Value) (cap:Nat),K ({ s with bx:=up s.bx s.nb (es'.flatten.map .c),nb:=s.nb+1 }.put ‹Option Tmp› (.ms s.nb 0 es'.length es'.length sz))∧
       (Builtin.append_ #[T,T] ty #[vx,.slice (some ⟨yb,yoff,none⟩) ys.length yc]).run P w=.ok (.slice (some ⟨w.heap.size,0,none⟩) es'.length cap) (w.drew.alloc (.cells cells e))∧es'.length≤cap∧es'.flatten.length≤cells.size∧
       (∀ q c,es'.flatten[q]?=some c→CR I w (cells.getD q undef) c)∧(∀ u∈cells,u.oneCell'=true):=by
      intro olds cap0 hol hoc ho1 hrun
      have hge:=grownCap_ge w (es.length+ys.length) cap0 e
      refine⟨e,sz,es++ys,_,_,h,by rw[aw];exact hrun,by rw[aw];exact hge,?_,fun q c hq=>?_,fun u hu=>?_⟩
      ·rw[hfa,aw]
       simp only[Array.size_append,dK,hol,hnl,← cE]
       omega
      ·rw[flat_eq] at hq
       have hget:∃ u,(olds++news)[q]?=some u∧CR I w u c:=by
        by_cases hql:q<es.flatten.length
        ·rw[aB hql] at hq
         obtain⟨u,hu,hcr⟩:=hoc q c hq
         exact⟨u,by rw[aB (by omega)];exact hu,hcr⟩
        ·rw[aH (by omega)] at hq
         obtain⟨u,hu,hcr⟩:=hnc _ c hq
         refine⟨u,?_,hcr⟩
         rw[aH (by omega),← hu]
         congr 1;omega
       obtain⟨u,hu,hcr⟩:=hget
       rw[jB olds news _ q u hu];exact hcr
      ·simp only[Array.mem_append,fc] at hu
       rcases hu with(hu | hu) | hu
       ·exact ho1 u hu
       ·exact hn1 u hu
       ·exact zone u (qP hu)
     rcases hxo with⟨hob0,_,xa,hxv⟩ | ⟨e',blk,cap,cur,sz',hob1,hEe,_⟩
     ·cases xa with
      |none=>
       have hes0:es=[]:=by
        rcases hxc.sl_inv with⟨_,h1⟩ | ⟨b,off,cap,_,_,hv,_⟩
        ·exact h1
        ·rw[hxv] at hv;cases hv
       subst hes0
       have hrun:=run_append_nil (P:=P) w T ty e j' zv h2 h1' hzv ⟨yb,yoff,none⟩ ys.length yc news (by rw[← hsz'];exact hnl) hnews' hm0 (by simp only[aJ,ah] at hlen;omega) (by rw[← hby'];simp only[aJ,ah] at hb;omega)
       refine fin [] 0 (by simp) (by simp) (by simp) ?_
       rw[hxv]
       simpa using hrun
      |some xaddr=>
       rw[hxv] at hxc
       obtain⟨olds,hol,holds,hoc,ho1⟩:=hxc.oldsOf hes
       have hrun:=run_append_grow (P:=P) w T ty e j' zv h2 h1' hzv xaddr es.length es.length olds (by rw[← hsz'];exact hol) holds
        ⟨yb,yoff,none⟩ ys.length yc news (by rw[← hsz'];exact hnl) hnews' (by omega) (by omega) (by rw[← hby'];exact gb (by omega) hb)
       exact fin olds es.length hol hoc ho1 (by rw[hxv];exact hrun)
     ·cases hEe
    ·exact h.elim
   ·cases hz'
  ·exact h.elim
 ·exact h.elim
end
section
variable {P:Program} {G:Gl} {tr:List Nat} {n:Nat} {I0:Ft} {M:Mx} {w0:World} {I:Ft} {β:Nat→Option Nat} {ob:Loc→Option Nat} {s:S} {a:Act} {w:World} {o:Oper}
 {next:Act→World→Prop} {Q:Exit→Act→World→Prop} {base:Nat→Prop} {v:Value} {x y:V} {K:V→Prop}
theorem oO (isSlice:Bool) (len cap:Nat) (lo hi:Option Value) (l h:Int) (hl:(lo=none∧l=0)∨∃ k,lo=some (.int k l)) (hh:(hi=none∧h=len)∨∃ k,hi=some (.int k h))
 (h0:0≤l) (h1:l≤h) (h2:h≤len) (hc:len≤cap):(Instr.sliceBounds isSlice len cap lo hi none).run P w=.ok (l.toNat,h.toNat,cap) w:=by
 have eh:(h.toNat:Int)=h:=i8 (by omega)
 unfold Instr.sliceBounds
 have e0:(0:Int)≤h:=by omega
 have e1:h≤(cap:Int):=by omega
 rcases hl with⟨rfl,rfl⟩ | ⟨kl,rfl⟩<;>rcases hh with⟨rfl,rfl⟩ | ⟨kh,rfl⟩<;>
  simp[run_sliceBound,h0,h1,eh,e0,e1]
theorem BN (isSlice:Bool) (len cap:Nat) (lo hi:Option Value) (l h:Int) (km:IntKind) (hl:(lo=none∧l=0)∨∃ k,lo=some (.int k l)) (hh:∃ k,hi=some (.int k h))
 (h0:0≤l) (h1:l≤h) (h2:h≤cap):(Instr.sliceBounds isSlice len cap lo hi (some (.int km h))).run P w=.ok (l.toNat,h.toNat,h.toNat) w:=by
 have eh:(h.toNat:Int)=h:=i8 (by omega)
 unfold Instr.sliceBounds
 have e0:(0:Int)≤h:=by omega
 rcases hl with⟨rfl,rfl⟩ | ⟨kl,rfl⟩<;>obtain⟨kh,rfl⟩:=hh<;>simp[run_sliceBound,h0,h1,h2,eh,e0]
theorem uq (len cap:Nat) (lo hi:Option Value) (l h:Int) (hl:(lo=none∧l=0)∨∃ k,lo=some (.int k l)) (hh:(hi=none∧h=len)∨∃ k,hi=some (.int k h))
 (h0:0≤l) (h1:l≤h) (h2:h≤cap):(Instr.sliceBounds true len cap lo hi none).run P w=.ok (l.toNat,h.toNat,cap) w:=by
 have eh:(h.toNat:Int)=h:=i8 (by omega)
 unfold Instr.sliceBounds
 have e0:(0:Int)≤h:=by omega
 rcases hl with⟨rfl,rfl⟩ | ⟨kl,rfl⟩<;>rcases hh with⟨rfl,rfl⟩ | ⟨kh,rfl⟩<;>
  simp[run_sliceBound,h0,h1,h2,eh,e0]
theorem ut (len cap:Nat) (lo hi:Option Value) (l h m:Int) (km:IntKind) (hl:(lo=none∧l=0)∨∃ k,lo=some (.int k l)) (hh:∃ k,hi=some (.int k h))
 (h0:0≤l) (h1:l≤h) (h2:h≤m) (h3:m≤cap):(Instr.sliceBounds true len cap lo hi (some (.int km m))).run P w=.ok (l.toNat,h.toNat,m.toNat) w:=by
 have eh:(h.toNat:Int)=h:=i8 (by omega)
 have em:(m.toNat:Int)=m:=i8 (by omega)
 unfold Instr.sliceBounds
 have e0:(0:Int)≤h:=by omega
 have e2:(0:Int)≤m:=by omega
 rcases hl with⟨rfl,rfl⟩ | ⟨kl,rfl⟩<;>obtain⟨kh,rfl⟩:=hh<;>
  simp[run_sliceBound,h0,h1,h2,h3,eh,em,e0,e2]
theorem jG (hst:St G n I0 M w0 I β ob s a w) {d:Int} {lo:Option Operand} {l:Int} (h:fO d (lo.map (ev G s))=some l):(lo.map a.eval=none∧l=d)∨∃ k,lo.map a.eval=some (.int k l):=by
 cases lo with
 |none=>simp[fO] at h;exact .inl ⟨rfl,h.symm⟩
 |some x=>
  have hx:=bz hst x
  simp only[bI,fO] at h
  split at h
  ·cases ‹some _=none›
  ·rename_i k m he
   simp only[am] at he h
   subst h
   rw[he] at hx
   exact .inr ⟨k,by rw[bI,hx.lit]⟩
  ·cases h
theorem mY {sz:Nat}:∀ (m:Nat) (cs:List C) (i:Nat),i<m→(ky sz m cs)[i]?=some ((cs.drop (i*sz)).take sz)
 |0,_,i,h=>by omega
 |m+1,cs,0,_=>by simp[ky]
 |m+1,cs,i+1,h=>by
  simp only[ky,cn]
  rw[mY m _ i (by omega),eU]
  congr 3
  rw[dh];omega
theorem nQ {sz:Nat}:∀ (m:Nat) (cs:List C),(ky sz m cs).length=m
 |0,_=>rfl
 |m+1,cs=>by simp[ky,nQ m]
theorem zJ (hst:St G n I0 M w0 I β ob s a w) {i off len cap sz:Nat} {c:C} {v:Value} (h:kF s i off len sz=some c)
 (hx:len≤cap∧∃ blk off' cap',cap≤cap'∧β i=some blk∧(cap'=0∨off'=off)∧v=.slice (some ⟨blk,off',none⟩) len cap') :
 ∃ (es:List (List C)) (blk off' cap':Nat) (f:Nat→Nat→Value),c=.sl es∧v=.slice (some ⟨blk,off',none⟩) es.length cap'∧es.length≤cap'∧β i=some blk∧(∀ e∈es,e.length=sz)∧
  (∀ p q,p<es.length→q<sz→w.cell? ⟨blk,off'+p*sz+q,none⟩=some (f p q))∧(∀ p q e c,es[p]?=some e→e[q]?=some c→CR I w (f p q) c):=by
 unfold kF at h
 split at h
 ·rename_i cs hcs
  split at h
  ·rename_i hfit
   simp only[am] at h
   obtain⟨hcap,blk,off',cap',hcc,e1,hoff,rfl⟩:=hx
   unfold uU at hcs
   split at hcs
   ·rename_i hi
    obtain⟨blk',cur,q1,q2,q3,q4,q5,q7⟩:=hst.bx i hi
    obtain⟨T,q3,q6⟩:=q3.cells (uk hcs)
    rw[e1] at q1;cases q1
    have hlen:cs.length=(s.bx i).length:=List.mapM_eq_some_length hcs
    have hl:=nQ (sz:=sz) len (cs.drop off)
    refine⟨_,blk,off',cap',fun p q=>cur.getD (off+p*sz+q) undef,h.symm,by rw[hl],by rw[hl];omega,e1,fun e he=>?_,fun p q hp hq=>?_,fun p q e c' he hc=>?_⟩
    ·obtain⟨p,hp,rfl⟩:=ga.1 he
     have:=mY (sz:=sz) len (cs.drop off) p (by omega)
     rw[ak hp] at this
     simp only[am] at this
     rw[this]
     have hm':(p+1)*sz≤len*sz:=aO _ (by omega)
     rw[dh] at hm'
     simp;omega
    ·rw[hl] at hp
     have hm':(p+1)*sz≤len*sz:=aO _ (by omega)
     rw[dh] at hm'
     have:off'=off:=by rcases hoff with h0 | h0;omega;exact h0
     subst this
     have hlt:off'+p*sz+q<cur.size:=by omega
     rw[eJ w blk _ cur T.t T.fz q3]
     simp[ax hlt]
    ·have hp:p<len:=by have:=(aj.1 he).1;omega
     rw[mY len _ p hp] at he
     simp only[am] at he
     subst he
     rw[ce] at hc
     split at hc
     ·rw[bS,bS] at hc
      obtain⟨vv,hvv,hvc⟩:=List.mapM_eq_some_get hcs _ c' hc
      have hlr:=q5 (off+(p*sz+q))
      have:(s.bx i).getD (off+(p*sz+q)) .un=vv:=by simp[List.getD,hvv]
      rw[this,← cO] at hlr
      cases vv<;>simp only[V.asC] at hvc<;>try cases hvc
      ·exact hlr.toC
      ·exact hlr.1
     ·cases hc
   ·cases hcs
  ·cases h
 ·cases h
theorem Qb (hst:St G n I0 M w0 I β ob s a w) {i off len cap sz:Nat} {c:C} {v:Value} (h:kF s i off len sz=some c)
 (hx:len≤cap∧∃ blk off' cap',cap≤cap'∧β i=some blk∧(cap'=0∨off'=off)∧v=.slice (some ⟨blk,off',none⟩) len cap'):∃ es,c=.sl es∧RD I w v es:=by
 obtain⟨es,blk,off',cap',f,rfl,rfl,h2,h3,h4,h5,h6⟩:=zJ hst h hx
 exact⟨es,rfl,.inr ⟨blk,off',cap',sz,f,rfl,h2,h4,h5,h6⟩⟩
theorem zL (hst:St G n I0 M w0 I β ob s a w) {i off len cap sz:Nat} {c:C} {v:Value} (h:kF s i off len sz=some c)
 (hx:len≤cap∧∃ blk off' cap',cap≤cap'∧β i=some blk∧(cap'=0∨off'=off)∧v=.slice (some ⟨blk,off',none⟩) len cap') {Ic:Ft} (hIc:∀ b o,I b o→Ic b o) (hb:∀ b o,β i=some b→Ic b o):CR Ic w v c:=by
 obtain⟨es,blk,off',cap',f,rfl,rfl,h2,h3,h4,h5,h6⟩:=zJ hst h hx
 exact .sl blk off' cap' sz es f h2 h4 (fun p q hp hq=>⟨h5 p q hp hq,hb blk _ h3⟩) (fun p q e c he hc=>(h6 p q e c he hc).mono fun b o h=>⟨hIc b o h,rfl⟩)
theorem zM {T:TypeId} {lo hi mx:Option Operand} {vx:Value} {ox:Option Nat} (hst:St G n I0 M w0 I β ob s a w) (h:fP P T x (lo.map (ev G s)) (hi.map (ev G s)) (mx.map (ev G s)) K) (hx:LR (Wr M w0) I β w ox vx x) :
 ∃ z u,K z∧LR (Wr M w0) I β w none u z∧(Instr.sliceAt T vx (lo.map a.eval) (hi.map a.eval) (mx.map a.eval)).run P w=.ok u w:=by
 unfold fP at h
 split at h
 ·rename_i st hi'
  obtain⟨j,d,h1,h2,h3,_⟩:=bj hi'
  have hd:=lX h3
  subst hd
  rw[hx.lit]
  split at h
  ·rename_i l hh hl hhh hm
   obtain⟨⟨h0,h01,h02⟩,h⟩:=h
   have hmx:mx.map a.eval=none:=by cases mx<;>simp_all
   refine⟨_,_,h,.ofLit rfl,?_⟩
   unfold Instr.sliceAt
   simp only[aG,aP h2,au]
   unfold Instr.slice
   simp only[aG,aP h2,au,hmx]
   simp[oO (P:=P) (w:=w) false st.size st.size _ _ l hh (jG hst hl) (jG hst hhh) h0 h01 h02 (ae _)]
  ·exact h.elim
 ·rename_i e _ _ _ _ _ _ es hi'
  obtain⟨j,d,h1,h2,h3,_⟩:=bj hi'
  have hd:=cQ h3
  subst hd
  have hcr:=hx.toC
  split at h
  ·rename_i hm
   split at h
   case h_2=>exact h.elim
   rename_i ie l hh hie hl hhh
   obtain⟨j',d',h1',h2',_,hsz',_⟩:=bj hie
   obtain⟨⟨h0,h01,h02,hs⟩,h⟩:=h
   have hmx:mx.map a.eval=none:=by cases mx<;>simp_all
   have hb:=fun cap hc=>oO (P:=P) (w:=w) true es.length cap _ _ l hh (jG hst hl) (jG hst hhh) h0 h01 h02 hc
   have hsize:=d4 (P:=P) w h1'
   rcases hcr.sl_inv with⟨⟨xa,xc,hv,hxc⟩,rfl⟩ | ⟨b,off,cap,sz,f,hv,hcap,_⟩
   ·simp only[aJ] at h02
    have:l=0∧hh=0:=by omega
    obtain⟨rfl,rfl⟩:=this
    refine⟨_,.slice xa 0 xc,h,.ofC (by simpa using CR.nil xa xc hxc),?_⟩
    subst hv
    unfold Instr.sliceAt
    simp only[aG,aP h2,au]
    unfold Instr.slice
    simp only[aG,aP h2,au,hmx]
    have:=hb xc (by simp)
    simp only[aJ] at this
    cases xa with
    |none=>obtain rfl:=hxc rfl;simp[this,hsize]
    |some xa=>simp[this,hsize,Addr.add]
   ·subst hv
    refine⟨_,.slice (some (if cap=l.toNat then⟨b,off,none⟩ else⟨b,off+l.toNat*ie.size,none⟩)) (hh.toNat - l.toNat) (cap - l.toNat),h,.ofC ?_,?_⟩
    ·split
     ·rename_i hcl
      have:(es.take hh.toNat).drop l.toNat=([]:List (List C)):=b9 (by simp;omega)
      rw[this]
      have e1:hh.toNat - l.toNat=0:=by omega
      have e2:cap - l.toNat=0:=by omega
      rw[e1,e2]
      exact .sl b off 0 0 [] (fun _ _=>undef) (ae _) (by simp) (by simp) (by simp)
     ·exact hcr.subslice hs (by omega) (by omega) (by omega)
    ·unfold Instr.sliceAt
     simp only[aG,aP h2,au]
     unfold Instr.slice
     simp only[aG,aP h2,au,hmx,hb cap hcap,hsize,be,dM h1',← hsz']
     split<;>simp_all[cD]
  ·rename_i km mm hm
   split at h
   ·rename_i ie l khh hh hie hl hhh
    obtain⟨j',d',h1',h2',_,hsz',_⟩:=bj hie
    obtain⟨⟨h0,h01,h02,rfl,hs⟩,h⟩:=h
    obtain⟨km',hmx⟩:∃ k,mx.map a.eval=some (.int k mm):=by
     rcases mx with _ | X
     ·simp at hm
     ·have hX:=bz hst X
      simp only[bI,am] at hm
      rw[hm] at hX
      exact⟨km,by rw[bI,hX.lit]⟩
    have hhi:∃ k,hi.map a.eval=some (.int k mm):=by
     rcases hi with _ | X
     ·simp at hhh
     ·have hX:=bz hst X
      simp only[bI,am] at hhh
      rw[hhh] at hX
      exact⟨khh,by rw[bI,hX.lit]⟩
    have hb:=fun cap hc=>BN (P:=P) (w:=w) true es.length cap _ _ l mm km' (jG hst hl) hhi h0 h01 hc
    have hsize:=d4 (P:=P) w h1'
    rcases hcr.sl_inv with⟨⟨xa,xc,hv,hxc⟩,rfl⟩ | ⟨b,off,cap,sz,f,hv,hcap,_⟩
    ·simp only[aJ] at h02
     have:l=0∧mm=0:=by omega
     obtain⟨rfl,rfl⟩:=this
     refine⟨_,.slice xa 0 0,h,⟨by simpa using CR.nil xa 0 (fun _=>rfl),.inl ⟨rfl,rfl,xa,by simp⟩⟩,?_⟩
     subst hv
     unfold Instr.sliceAt
     simp only[aG,aP h2,au]
     unfold Instr.slice
     simp only[aG,aP h2,au,hmx]
     have:=hb xc (by simp)
     simp only[aJ] at this
     cases xa with
     |none=>obtain rfl:=hxc rfl;simp[this,hsize]
     |some xa=>simp[this,hsize,Addr.add]
    ·subst hv
     have hlen:((es.take mm.toNat).drop l.toNat).length=mm.toNat - l.toNat:=by simp;omega
     refine⟨_,.slice (some (if mm.toNat=l.toNat then⟨b,off,none⟩ else⟨b,off+l.toNat*ie.size,none⟩)) (mm.toNat - l.toNat) (mm.toNat - l.toNat),h,⟨?_,.inl ⟨rfl,rfl,_,by rw[hlen]⟩⟩,?_⟩
     ·split
      ·rename_i hcl
       have:(es.take mm.toNat).drop l.toNat=([]:List (List C)):=b9 (by simp;omega)
       rw[this]
       have e1:mm.toNat - l.toNat=0:=by omega
       rw[e1]
       exact .sl b off 0 0 [] (fun _ _=>undef) (ae _) (by simp) (by simp) (by simp)
      ·exact hcr.subslice hs (by omega) (by omega) (by omega)
     ·unfold Instr.sliceAt
      simp only[aG,aP h2,au]
      unfold Instr.slice
      simp only[aG,aP h2,au,hmx,hb cap (by omega),hsize,be,dM h1',← hsz']
      split<;>simp_all[cD]
   ·exact h.elim
  ·exact h.elim
 ·rename_i e _ _ _ _ _ _ b off len cap sz hi'
  obtain⟨j,d,h1,h2,h3,_⟩:=bj hi'
  have hd:=cQ h3
  subst hd
  split at h
  ·rename_i ie l hh mm hie hl hhh hmm
   obtain⟨j',d',h1',h2',_,hsz',_⟩:=bj hie
   obtain⟨⟨hsz,h0,h01,h02,h03,h04⟩,h⟩:=h
   simp only[LR] at hx
   obtain⟨hcap,blk,off',cap',hcc,e1,hoff,rfl⟩:=hx
   have hsize:=d4 (P:=P) w h1'
   have hb:∃ M:Nat,mm≤(M:Int)∧M≤cap'∧(Instr.sliceBounds true len cap' (lo.map a.eval) (hi.map a.eval) (mx.map a.eval)).run P w=.ok (l.toNat,hh.toNat,M) w:=by
    rcases jG hst hmm with⟨e,rfl⟩ | ⟨km,e⟩
    ·refine⟨cap',by omega,ae _,?_⟩
     rw[e]
     have:=uq (P:=P) (w:=w) len cap' _ _ l hh (jG hst hl) (jG hst hhh) h0 h01 (by omega)
     simpa using this
    ·refine⟨mm.toNat,by omega,by omega,?_⟩
     rw[e]
     have hhi:∃ k,hi.map a.eval=some (.int k hh):=by
      rcases jG hst hhh with⟨e5,_⟩ | h5
      ·cases mx with
       |none=>cases e
       |some X=>have:=h04 rfl;cases hi<;>simp_all
      ·exact h5
     exact ut (P:=P) (w:=w) len cap' _ _ l hh mm km (jG hst hl) hhi h0 h01 h02 (by omega)
   obtain⟨M,hM1,hM2,hb⟩:=hb
   refine⟨_,.slice (some (if M=l.toNat then⟨blk,off',none⟩ else⟨blk,off'+l.toNat*ie.size,none⟩)) (hh.toNat - l.toNat) (M - l.toNat),h,?_,?_⟩
   ·simp only[LR]
    split
    ·exact⟨by omega,blk,off',M - l.toNat,by omega,e1,.inl (by omega),rfl⟩
    ·have:off'=off:=by rcases hoff with h4 | h4;omega;exact h4
     exact⟨by omega,blk,_,M - l.toNat,by omega,e1,.inr (by rw[this,hsz]),rfl⟩
   ·unfold Instr.sliceAt
    simp only[aG,aP h2,au]
    unfold Instr.slice
    simp only[aG,aP h2,au,hb,hsize,be,dM h1',← hsz']
    split<;>simp_all[cD]
  ·exact h.elim
 ·rename_i e _ _ _ _ _ _ blk off len cap hi'
  obtain⟨j,d,h1,h2,h3,_⟩:=bj hi'
  have hd:=cQ h3
  subst hd
  split at h
  ·rename_i ie l hh mm hie hl hhh hmm
   obtain⟨j',d',h1',h2',_,hsz',_⟩:=bj hie
   obtain⟨⟨h0,h01,h02,h03,h04⟩,h⟩:=h
   obtain rfl:=hx.toC.ex_inv
   have hsize:=d4 (P:=P) w h1'
   have hb:(Instr.sliceBounds true len cap (lo.map a.eval) (hi.map a.eval) (mx.map a.eval)).run P w=.ok (l.toNat,hh.toNat,mm.toNat) w:=by
    rcases jG hst hmm with⟨e,rfl⟩ | ⟨km,e⟩
    ·rw[e]
     have:=uq (P:=P) (w:=w) len cap _ _ l hh (jG hst hl) (jG hst hhh) h0 h01 (by omega)
     simpa using this
    ·rw[e]
     have hhi:∃ k,hi.map a.eval=some (.int k hh):=by
      rcases jG hst hhh with⟨e5,_⟩ | h5
      ·cases mx with
       |none=>cases e
       |some X=>have:=h04 rfl;cases hi<;>simp_all
      ·exact h5
     exact ut (P:=P) (w:=w) len cap _ _ l hh mm km (jG hst hl) hhi h0 h01 h02 (by omega)
   refine⟨_,_,h,.ofC (.ex _ rfl rfl),?_⟩
   unfold Instr.sliceAt
   simp only[aG,aP h2,au]
   unfold Instr.slice
   simp only[aG,aP h2,au,hb,hsize,be,dM h1',← hsz']
   split<;>simp_all[cD]
  ·exact h.elim
 ·rename_i m e _ _ _ _ _ _ cs k hi'
  obtain⟨j,d,h1,h2,h3,_⟩:=bj hi'
  have hd:=lY h3
  subst hd
  obtain⟨b,off,f,rfl,hcell,hrel⟩:=hx.toC.rp_inv
  split at h
  ·rename_i ie hie hl hh hm
   obtain⟨j',d',h1',h2',_,hsz',_⟩:=bj hie
   obtain⟨hle,h⟩:=h
   have e1:lo.map a.eval=none:=by cases lo<;>simp_all
   have e2:hi.map a.eval=none:=by cases hi<;>simp_all
   have e3:mx.map a.eval=none:=by cases mx<;>simp_all
   have hsize:=d4 (P:=P) w h1'
   refine⟨_,.slice (some ⟨b,off+k,none⟩) m m,h,.ofC ?_,?_⟩
   ·have hcl:=nQ (sz:=ie.size) m (cs.drop k)
    have hidx:∀ i q,i<m→q<ie.size→k+i*ie.size+q<cs.length:=fun i q hi hq=>by
     have:(i+1)*ie.size≤m*ie.size:=aO _ hi
     rw[dh] at this;omega
    have hmem:∀ x∈ky ie.size m (cs.drop k),x.length=ie.size:=fun x hx=>by
     obtain⟨i,hi,he⟩:=ga.1 hx
     have:=mY (sz:=ie.size) m (cs.drop k) i (by omega)
     rw[ak hi] at this
     simp only[am] at this
     rw[← he,this]
     have hm':(i+1)*ie.size≤m*ie.size:=aO _ (by omega)
     rw[dh] at hm'
     simp;omega
    have:=CR.sl (I:=I) (w:=w) b (off+k) m ie.size (ky ie.size m (cs.drop k)) (fun i q=>f (k+i*ie.size+q)) (by omega) hmem
     (fun i q hi hq=>by
      have:=hcell (k+i*ie.size+q) (hidx i q (by omega) hq)
      rw[show off+k+i*ie.size+q=off+(k+i*ie.size+q) by omega]
      exact this)
     (fun i q e c he hc=>by
      have hi:i<m:=by have:=(aj.1 he).1;omega
      rw[mY m _ i hi] at he
      simp only[am] at he
      subst he
      rw[ce] at hc
      split at hc
      ·rw[bS,bS] at hc
       exact hrel _ c (by rw[cO];exact hc)
      ·cases hc)
    rw[hcl] at this
    exact this
   ·unfold Instr.sliceAt
    simp only[aG,aP h2,au,Instr.sureAddr,be,e1,e2,e3]
    have:=oO (P:=P) (w:=w) false m m none none 0 m (.inl ⟨rfl,rfl⟩) (.inl ⟨rfl,rfl⟩) (Int.le_refl _) (by omega) (Int.le_refl _) (ae _)
    simp only[this,au,hsize,aG,be]
    simp[cD]
  ·exact h.elim
 ·rename_i m e _ _ _ _ _ _ b k hi'
  obtain⟨j,d,h1,h2,h3,_⟩:=bj hi'
  have hd:=lY h3
  subst hd
  simp only[LR] at hx
  obtain⟨blk,hβ,rfl⟩:=hx
  split at h
  ·rename_i ie l hh hie hl hhh hm
   obtain⟨j',d',h1',h2',_,hsz',_⟩:=bj hie
   obtain⟨⟨h0,h01,h02⟩,h⟩:=h
   have e3:mx.map a.eval=none:=by cases mx<;>simp_all
   have hsize:=d4 (P:=P) w h1'
   have hb:=oO (P:=P) (w:=w) false m m _ _ l hh (jG hst hl) (jG hst hhh) h0 h01 h02 (ae _)
   refine⟨_,.slice (some (if m=l.toNat then⟨blk,k,none⟩ else⟨blk,k+l.toNat*ie.size,none⟩)) (hh.toNat - l.toNat) (m - l.toNat),h,?_,?_⟩
   ·simp only[LR]
    refine⟨by omega,?_⟩
    split
    ·exact⟨blk,k,_,ae _,hβ,.inl (by omega),rfl⟩
    ·exact⟨blk,_,_,ae _,hβ,.inr rfl,rfl⟩
   ·unfold Instr.sliceAt
    simp only[aG,aP h2,au,Instr.sureAddr,be,e3]
    simp only[hb,au,hsize,aG,be,dM h1',← hsz']
    split<;>simp_all[cD]
  ·exact h.elim
 ·exact h.elim
theorem EA {T:TypeId} {vx:Value} {ox:Option Nat} (h:BC P T x K) (hx:LR base I β w ox vx x) :
 ∃ z u,K z∧LR base I β w none u z∧(Instr.arrayAt T vx).run P w=.ok u w:=by
 unfold BC at h
 split at h
 ·rename_i m e _ _ _ _ _ _ b off len cap sz hi
  obtain⟨j,d,h1,h2,h3,_⟩:=bj hi
  have hd:=lY h3
  subst hd
  split at h
  ·obtain⟨⟨hsz,h0,hle⟩,h⟩:=h
   simp only[LR] at hx
   obtain⟨hcap,blk,off',cap',hcc,hβ,hoff,rfl⟩:=hx
   have:off'=off:=by rcases hoff with h4 | h4;omega;exact h4
   subst this
   refine⟨_,.pointer (some ⟨blk,off',none⟩),h,by simp only[LR];exact⟨blk,hβ,rfl⟩,?_⟩
   unfold Instr.arrayAt
   simp only[aG,aP h2,au]
   rw[if_neg (by omega)];rfl
  ·exact h.elim
 ·exact h.elim
end
section
variable {P:Program} {G:Gl} {tr:List Nat} {n:Nat} {I0:Ft} {M:Mx} {w0:World} {I:Ft} {β:Nat→Option Nat} {ob:Loc→Option Nat} {s:S} {a:Act} {w:World} {o:Oper}
 {next:Act→World→Prop} {Q:Exit→Act→World→Prop} {base:Nat→Prop} {v:Value} {x y:V} {K:V→Prop}
theorem rU:∀ (es:List (List C)) (l:List UInt8),rJ es=some l→es.length=l.length∧
 ∃ ns:List Int,ns.length=l.length∧l=ns.map (fun m=>UInt8.ofNat m.toNat)∧∀ (i:Nat) (m:Int),ns[i]?=some m→es[i]?=some [.lit (.int .u8 m)]
 |[],l,h=>by
  simp only[rJ,am] at h
  subst h
  exact⟨rfl,[],rfl,rfl,by simp⟩
 |e::es,l,h=>by
  unfold rJ at h
  split at h
  ·cases ‹_::_=[]›
  ·rename_i m r he
   cases he
   simp only[aT] at h
   obtain⟨l',h1,rfl⟩:=h
   obtain⟨h2,ns,h3,h4,h5⟩:=rU _ _ h1
   refine⟨by simp[h2],m::ns,by simp[h3],by simp[h4],fun i q hq=>?_⟩
   cases i with
   |zero=>simp at hq;subst hq;rfl
   |succ i=>exact h5 i q (by simpa using hq)
  ·cases h
theorem pq:∀ (ns:List Int) (r:ByteArray),ns.foldl (fun r m=>r.push (UInt8.ofNat m.toNat)) r=⟨r.data++(ns.map fun m=>UInt8.ofNat m.toNat).toArray⟩
 |[],r=>by simp
 |m::ns,r=>by
  simp only[gG]
  rw[pq ns]
  simp[ByteArray.push]
theorem BO {src dst:TypeId} {vx:Value} (hst:St G n I0 M w0 I β ob s a w) (hd:∀ d,o.dst=some d→d<n) (h:mD P src dst x K) (hx:(∃ ox,LR (Wr M w0) I β w ox vx x)∨∃ es,x=.c (.sl es)∧RD I w vx es) :
 ∃ z u w',K z∧(convert src dst vx).run P w=.ok u w'∧SE G n I0 M w0 (s.after tr o z) (a.put o.dst u) w':=by
 unfold mD at h
 split at h
 ·rename_i i k _ _ _ _ _ _ k' m hi hi'
  obtain⟨j,d,_,h2,_⟩:=bj hi
  obtain⟨j',d',_,h2',h3',_⟩:=bj hi'
  have hd':=rQ h3'
  subst hd'
  obtain⟨ox,hx⟩:∃ ox,LR (Wr M w0) I β w ox vx _:=by
   rcases hx with hx | ⟨es,e,_⟩
   ·exact hx
   ·cases e
  rw[hx.lit]
  refine⟨_,_,w,h,?_,.fin0 hst hd (.ofLit rfl)⟩
  simp[convert,aP h2,aP h2',Conv.intToInt]
 ·rename_i i _ _ _ _ _ _ st hi hi'
  obtain⟨j,d,_,h2,_⟩:=bj hi
  obtain⟨j',d',_,h2',h3',_⟩:=bj hi'
  have hd':=lX h3'
  subst hd'
  obtain⟨ox,hx⟩:∃ ox,LR (Wr M w0) I β w ox vx _:=by
   rcases hx with hx | ⟨es,e,_⟩
   ·exact hx
   ·cases e
  rw[hx.lit]
  refine⟨_,_,w,h,?_,.fin0 hst hd (.ofLit rfl)⟩
  simp[convert,aP h2,aP h2']
 ·rename_i _ _ _ _ _ _ e _ _ _ _ _ _ st hi hi'
  obtain⟨j,d,_,h2,h3,_⟩:=bj hi
  obtain⟨j',d',_,h2',h3',_⟩:=bj hi'
  have hd':=cQ h3'
  subst hd'
  have hds:=lX h3
  subst hds
  split at h
  ·rename_i _ _ _ _ _ _ hie
   obtain⟨je,de,_,h2e,h3e,_⟩:=bj hie
   have hde:=rQ h3e
   subst hde
   obtain⟨ox,hx⟩:∃ ox,LR (Wr M w0) I β w ox vx _:=by
    rcases hx with hx | ⟨es,e,_⟩
    ·exact hx
    ·cases e
   rw[hx.lit]
   have hst1:=(hst.drew).alloc (.cells (bytesRow st (grownCap w st.size 0 e)) e ((bytesRow st (grownCap w st.size 0 e)).size,(bytesRow st (grownCap w st.size 0 e)).size+1))
   have hrun:=run_bytes_of_string (P:=P) w src dst e st h2 h2' h2e
   refine⟨_,_,_,h,hrun,.fin0 hst1 hd (.ofC ?_)⟩
   have hlen:(jl st).length=st.size:=by simp[jl]
   rw[show Value.slice (some ⟨w.heap.size,0,none⟩) st.size (grownCap w st.size 0 e)=.slice (some ⟨w.heap.size,0,none⟩) (jl st).length (grownCap w st.size 0 e) by rw[hlen]]
   refine CR.row (sz:=1) (eV w.drew _) (by rw[hlen];exact grownCap_ge w _ _ _) (by simp[jl]) (fun q c hq=>?_) (fun q _=>.inr rfl)
   have hq':q<st.size∧c=.lit (.int .u8 (st.data.toList.getD q 0).toNat):=by
    have:=kH (sz:=1) (jl st) (by simp[jl]) q 0 (by omega)
    rw[Nat.mul_one,dn] at this
    rw[this] at hq
    simp only[jl,ba] at hq
    cases hb:st.data.toList[q]? with
    |none=>simp[hb] at hq
    |some b=>
     simp only[hb,bI,fb,bD,am] at hq
     have hlt:=(aj.1 hb).1
     exact⟨by simpa using hlt,by rw[← hq];simp[List.getD,hb]⟩
   obtain⟨hql,rfl⟩:=hq'
   have hql':q<st.data.size:=hql
   have hsz:q<(bytesRow st (grownCap w st.size 0 e)).size:=by simp[bytesRow];omega
   refine⟨hsz,?_⟩
   have:(bytesRow st (grownCap w st.size 0 e)).getD q undef=.int .u8 (st.data.toList.getD q 0).toNat:=by
    unfold bytesRow
    rw[ao,db (by simpa using hql'),Array.getElem?_map,ax hql']
    have:st.data.toList.getD q 0=st.data[q]:=by
     rw[ay,aQ,ax hql'];rfl
    rw[this];rfl
   rw[this]
   exact .lit _ rfl
  ·exact h.elim
 ·rename_i e _ _ _ _ _ _ _ _ _ _ _ _ es hi hi'
  obtain⟨j,d,_,h2,h3,_⟩:=bj hi
  obtain⟨j',d',_,h2',h3',_⟩:=bj hi'
  have hd':=lX h3'
  subst hd'
  have hds:=cQ h3
  subst hds
  split at h
  ·rename_i _ _ _ _ _ _ hie
   obtain⟨je,de,_,h2e,h3e,_⟩:=bj hie
   have hde:=rQ h3e
   subst hde
   split at h
   ·rename_i l hl
    obtain⟨hlen,ns,hnl,rfl,hns⟩:=rU _ _ hl
    have hcr:RD I w vx es:=by
     rcases hx with⟨ox,hx⟩ | ⟨es',e,hrd⟩
     ·exact .ofCR hx.toC
     ·cases e;exact hrd
    refine⟨_,_,w,h,?_,.fin0 hst hd (.ofLit rfl)⟩
    rcases hcr with⟨⟨xa,xc,hv,hxc⟩,rfl⟩ | ⟨b,off,cap,sz,f,hv,hcap,hs,hcell,hrel⟩
    ·subst hv
     have:ns=[]:=b9 (by simp at hlen;omega)
     subst this
     rw[run_convert_bytes_string w src dst e xa 0 xc h2 h2e h2']
     cases xa<;>rfl
    ·subst hv
     rw[run_convert_bytes_string w src dst e _ _ _ h2 h2e h2',run_bytesToString w ⟨b,off,none⟩ es.length cap ns ?_,pq]
     ·simp
     ·have hall:∀ e∈es,e.length=1:=by
       intro e he
       obtain⟨i,hi⟩:=List.mem_iff_getElem?.1 he
       have hlt:=(aj.1 hi).1
       have:ns[i]?=some ns[i]:=ak (by simp at hlen;omega)
       rw[hns i _ this] at hi
       cases hi;rfl
      have hfv:∀ i,i<es.length→w.cell? ⟨b,off+i,none⟩=some (.int .u8 (ns.getD i 0)):=by
       intro i hi
       have hn:ns[i]?=some ns[i]:=ak (by simp at hlen;omega)
       have he:=hns i _ hn
       have hsz:sz=1:=by rw[← hs _ (bb he)];rfl
       subst hsz
       have h1:=hcell i 0 hi (by omega)
       have h2:=hrel i 0 _ _ he rfl
       have h3:f i 0=.int .u8 ns[i]:=h2.lit_eq
       rw[Nat.mul_one,dn,h3] at h1
       rw[h1]
       simp[List.getD,hn]
      rw[run_loadCells w ⟨b,off,none⟩ es.length (fun i=>.int .u8 (ns.getD i 0)) (fun i hi=>by rw[cD];exact hfv i hi)]
      congr 2
      apply gx
      intro i
      by_cases hi:i<ns.length
      ·have:i<es.length:=by simp at hlen;omega
       simp[hi,this]
      ·have:¬ i<es.length:=by simp at hlen;omega
       simp[hi,this]
   ·exact h.elim
  ·exact h.elim
 ·exact h.elim
end
section
variable {P:Program} {G:Gl} {tr:List Nat} {n:Nat} {I0:Ft} {M:Mx} {w0:World} {I:Ft} {β:Nat→Option Nat} {ob:Loc→Option Nat} {s:S} {a:Act} {w:World} {o:Oper}
 {next:Act→World→Prop} {Q:Exit→Act→World→Prop} {base:Nat→Prop} {v:Value} {x y:V} {K:V→Prop}
def ArgsR (I:Ft) (w:World) (vs:List Value) (xs:List V):Prop:=vs.length=xs.length∧∀ (j:Nat) (x:V),xs[j]?=some x→DR I w (vs.getD j undef) x
theorem ArgsR.nil:ArgsR I w [] []:=⟨rfl,by simp⟩
theorem ArgsR.append {vs us:List Value} {xs ys:List V} (h:ArgsR I w vs xs) (h':ArgsR I w us ys):ArgsR I w (vs++us) (xs++ys):=by
 refine⟨by simp[h.1,h'.1],fun j x hx=>?_⟩
 have hl:=h.1
 by_cases hj:j<xs.length
 ·rw[aB hj] at hx
  have:=h.2 j x hx
  rw[ay,aB (by omega)]
  rw[ay] at this
  exact this
 ·rw[aH (by omega)] at hx
  have:=h'.2 _ x hx
  rw[ay,aH (by omega),hl]
  rw[ay] at this
  exact this
theorem GE (hst:St G n I0 M w0 I β ob s a w) {i off blk:Nat} {cs:List C} (h:uU s i=some cs) (hβ:β i=some blk) {Ic:Ft} (hIc:∀ b o,I b o→Ic b o) (hb:∀ o,Ic blk o) :
 CR Ic w (.pointer (some ⟨blk,off,none⟩)) (.rp cs off):=by
 unfold uU at h
 split at h
 ·rename_i hi
  obtain⟨blk',cur,e1,e2,e3,e4,e5,e7⟩:=hst.bx i hi
  obtain⟨T,e3,e6⟩:=e3.cells (uk h)
  rw[hβ] at e1
  cases e1
  have hlen:cs.length=(s.bx i).length:=List.mapM_eq_some_length h
  have:=CR.rp (I:=Ic) (w:=w) blk 0 off cs (fun j=>cur.getD j undef) (fun j hj=>by
   have hjc:j<cur.size:=by omega
   rw[ah]
   refine⟨?_,hb j⟩
   rw[eJ w blk j cur T.t T.fz e3]
   simp[ax hjc]) (fun j c hc=>by
   obtain⟨vv,hvv,hvc⟩:=List.mapM_eq_some_get h j c hc
   have hlr:=e5 j
   have:(s.bx i).getD j .un=vv:=by simp[List.getD,hvv]
   rw[this] at hlr
   cases vv<;>simp only[V.asC] at hvc<;>try cases hvc
   ·exact hlr.toC.mono fun b o h=>⟨hIc b o h,rfl⟩
   ·exact hlr.1.mono fun b o h=>⟨hIc b o h,rfl⟩)
  rw[ah] at this
  exact this
 ·cases h
theorem zN (hst:St G n I0 M w0 I β ob s a w) {c:C} (hx:PR I β w v x) (h:rb s x=some c) {Ic:Ft} (hIc:∀ b o,I b o→Ic b o)
 (hb:x.isBp=true→∀ i b o,β i=some b→Ic b o):CR Ic w v c:=by
 cases x<;>simp only[PR] at hx<;>simp only[rb] at h
 ·cases h;exact hx.mono fun b o h=>⟨hIc b o h,rfl⟩
 ·cases h;exact hx.2.1.mono fun b o h=>⟨hIc b o h,rfl⟩
 ·obtain⟨blk,e1,rfl⟩:=hx
  simp only[aT] at h
  obtain⟨cs,h1,rfl⟩:=h
  exact GE hst h1 e1 hIc (fun o=>hb rfl _ _ o e1)
 ·exact zL hst h hx hIc (fun b o e=>hb rfl _ b o e)
 ·cases h
 ·cases h
 ·cases h
theorem vF (hst:St G n I0 M w0 I β ob s a w) {ox:Option Nat} (hx:LR base I β w ox v x) (h:imm s x=some y) {Ic:Ft} (hIc:∀ b o,I b o→Ic b o)
 (hb:x.boxy=true→∀ i b o,β i=some b→Ic b o):DR Ic w v y:=by
 cases x<;>simp only[imm] at h<;>try cases h
 ·exact .c _ _ (hx.toC.mono fun b o h=>⟨hIc b o h,rfl⟩)
 ·obtain⟨vs,rfl,h1,h2⟩:=hx.agg
  exact .agg vs _ h1 fun j c hc=>(h2 j c hc).mono fun b o h=>⟨hIc b o h,rfl⟩
 ·exact .c _ _ (hx.1.mono fun b o h=>⟨hIc b o h,rfl⟩)
 ·simp only[LR] at hx
  obtain⟨blk,e1,rfl⟩:=hx
  simp only[aT] at h
  obtain⟨cs,h1,rfl⟩:=h
  exact .c _ _ (GE hst h1 e1 hIc (fun o=>hb rfl _ _ o e1))
 ·rename_i f fs cs
  simp only[LR] at hx
  obtain⟨vf,vc,rfl,h1,h2,h3,h4⟩:=hx
  split at h
  ·rename_i fs' cs' e1 e2
   cases h
   have l1:=List.mapM_eq_some_length e1
   have l2:=List.mapM_eq_some_length e2
   have hbf:∀ z∈fs,z.isBp=true→∀ i b o,β i=some b→Ic b o:=fun z hz hzb=>
    hb (by simp only[V.boxy,dx,dE];exact .inl ⟨z,hz,hzb⟩)
   have hbc:∀ z∈cs,z.isBp=true→∀ i b o,β i=some b→Ic b o:=fun z hz hzb=>
    hb (by simp only[V.boxy,dx,dE];exact .inr ⟨z,hz,hzb⟩)
   refine .c _ _ (.fn f vf vc fs' cs' (by omega) (by omega) (fun j c hc=>?_) (fun j c hc=>?_))
   ·obtain⟨z,hz,hzc⟩:=List.mapM_eq_some_get e1 j c hc
    exact zN hst (h3 j z hz) hzc hIc (hbf z (bb hz))
   ·obtain⟨z,hz,hzc⟩:=List.mapM_eq_some_get e2 j c hc
    exact zN hst (h4 j z hz) hzc hIc (hbc z (bb hz))
  ·cases h
 ·simp only[LR] at hx
  simp only[aT] at h
  obtain⟨c,h1,rfl⟩:=h
  exact .c _ _ (zL hst h1 hx hIc (fun b o e=>hb rfl _ b o e))
 ·rename_i vs
  simp only[LR] at hx
  obtain⟨cells,rfl,h2,h3⟩:=hx
  simp only[aT] at h
  obtain⟨cs,h1,rfl⟩:=h
  refine .agg _ _ (by rw[h2];exact(List.mapM_eq_some_length h1).symm) fun j c hc=>?_
  obtain⟨z,hz,hzc⟩:=List.mapM_eq_some_get h1 j c hc
  exact zN hst (h3 j z hz) hzc hIc (fun hzb=>hb (by simp only[V.boxy,dE];exact⟨z,bb hz,hzb⟩))
theorem zO (hst:St G n I0 M w0 I β ob s a w) {Ic:Ft} (hIc:∀ b o,I b o→Ic b o):∀ (l:List Operand) (ys:List V),(l.map (ev G s)).mapM (imm s)=some ys→
 ((l.map (ev G s)).any V.boxy=true→∀ i b o,β i=some b→Ic b o)→ArgsR Ic w (l.map a.eval) ys
 |[],ys,h,_=>by simp at h;subst h;exact .nil
 |x::l,ys,h,hb=>by
  simp only[aI,ek,bind,gv,pure,am] at h
  obtain⟨y,h1,ys',h2,rfl⟩:=h
  have hd:=vF hst (bz hst x) h1 hIc (fun hx=>hb (by simp[hx]))
  have ih:=zO hst hIc l ys' h2 (fun hx=>hb (by simp only[aI,List.any_cons,hx,Bool.or_true]))
  refine⟨by simp[ih.1],fun j z hz=>?_⟩
  cases j with
  |zero=>simp at hz;subst hz;exact hd
  |succ j=>simpa using ih.2 j z (by simpa using hz)
theorem ArgsR.ofC {I':Ft} (vs:Array Value) (cs:List C) (h:vs.size=cs.length) (hc:∀ j c,cs[j]?=some c→CR I' w (vs.getD j undef) c):ArgsR I' w vs.toList (cs.map .c):=by
 refine⟨by simp[h],fun j x hx=>?_⟩
 simp only[ba,aT] at hx
 obtain⟨c,h1,rfl⟩:=hx
 have:=hc j c h1
 rw[ay,aQ]
 rw[ao] at this
 exact .c _ _ this
theorem GF (hst:St G n I0 M w0 I β ob s a w) {Ic:Ft} (hIc:∀ b o,I b o→Ic b o) (vs:Array Value) (xs ys:List V) (hl:vs.size=xs.length) (h:xs.mapM (imm s)=some ys)
 (hr:∀ j x,xs[j]?=some x→PR I β w (vs.getD j undef) x) (hb:xs.any V.boxy=true→∀ i b o,β i=some b→Ic b o):ArgsR Ic w vs.toList ys:=by
 refine⟨by have:=List.mapM_eq_some_length h;simp;omega,fun j y hy=>?_⟩
 obtain⟨x,hx,hxy⟩:=List.mapM_eq_some_get h j y hy
 have hp:=hr j x hx
 rw[ay,aQ,← ao]
 have hlr:LR (Wr M w0) I β w none (vs.getD j undef) x:=by
  cases x<;>simp only[PR] at hp<;>simp only[LR]
  ·exact .c _ _ hp
  ·exact⟨hp.2.1,.inl ⟨rfl,hp.1,hp.2.2⟩⟩
  ·exact hp
  ·exact hp
  ·exact hp
  ·exact hp
  ·exact hp
 exact vF hst hlr hxy hIc (fun hb'=>hb (by simp only[dE];exact⟨x,bb hx,hb'⟩))
theorem LR.flat {r:V} {ob':Option Nat} (hf:r.isFlat=true) (h:LR base I β w ob' v r) {I':Ft} {w':World} {base':Nat→Prop} {β':Nat→Option Nat}:LR base' I' β' w' none v r:=by
 have lits:∀ (cs:List C) (vs:Array Value),cs.all C.isLit=true→(∀ j c,cs[j]?=some c→CR I w (vs.getD j undef) c)→∀ j c,cs[j]?=some c→CR I' w' (vs.getD j undef) c:=by
  intro cs vs hc h j c hj
  have h1:=h j c hj
  have h2:=aU.1 hc c (bb hj)
  cases c<;>simp[C.isLit] at h2
  obtain⟨h3,h4⟩:=h1.lit_inv
  rw[h3];exact .lit _ h4
 cases r with
 |un=>simp only[LR];exact .un _
 |sk=>simp only[LR] at h ⊢;cases h;exact .sk
 |c c=>
  cases c<;>simp only[V.isFlat] at hf<;>try cases hf
  obtain⟨h3,h4⟩:=h.toC.lit_inv
  rw[h3];exact .ofLit h4
 |agg cs=>
  obtain⟨vs,rfl,h1,h2⟩:=h.agg
  simp only[LR];exact .agg vs _ h1 (lits _ vs hf h2)
 |tup ds=>
  simp only[LR] at h ⊢
  cases h with
  |tup vs _ h1 h2=>
   refine .tup vs ds h1 fun j d hj=>?_
   have h3:=h2 j d hj
   have h4:=aU.1 hf d (bb hj)
   cases d with
   |c c=>
    cases c<;>simp only at h4<;>try cases h4
    generalize vs.getD j undef=vv at h3
    cases h3 with
    |c _ _ h5=>
     obtain⟨h6,h7⟩:=h5.lit_inv
     rw[h6];exact .c _ _ (.lit _ h7)
   |agg cs=>
    generalize vs.getD j undef=vv at h3
    cases h3 with
    |agg us _ h5 h6=>exact .agg us _ h5 (lits _ us h4 h6)
   |_=>cases h4
 |ow=>cases hf
 |bp=>cases hf
 |clo=>cases hf
 |ms=>cases hf
 |mag=>cases hf
 |mr=>cases hf
 |mk=>cases hf
 |it=>cases hf
 |gh=>cases hf
 |yl=>cases hf
 |lp=>cases hf
 |hh=>cases hf
 |bm=>cases hf
 |gs=>cases hf
 |gg=>cases hf
theorem GG (hst:St G n I0 M w0 I β ob s a w) (hd:∀ d,o.dst=some d→d<n) {f:FuncId} {vs:List Value} {xs:List V} {r:V} (hok:FnOK P G f xs r) (hr:K r)
 (boxy:Bool) (hargs:∀ Ic:Ft,(∀ b o,I b o→Ic b o)→(boxy=true→∀ i b o,β i=some b→Ic b o)→ArgsR Ic w vs xs) (hflat:boxy=true→r.isFlat=true)
 (hrun:(execOp a.eval o).run P w=.ok (.enter f vs.toArray) w)
 (hk:∀ a' w' x,K x→SE G n I0 M w0 (s.after tr o x) a' w'→next a' w'):o.wp P a w next Q:=by
 unfold Oper.wp
 rw[hrun]
 simp only[Oper.upon]
 cases boxy with
 |false=>
  obtain⟨h1,h2⟩:=hargs I (fun _ _ h=>h) (by simp)
  refine (hok.2 I w vs.toArray hst.ibnd hst.glob (by simpa using h1) (fun j x hx=>by simpa using h2 j x hx)).mono ?_
  rintro e w' ⟨v,I',rfl,hg,hI1,hI2,ob',hlr,hfr⟩
  simp only
  refine hk _ _ r hr ?_
  have hst':=hst.grow hg hI1 hI2
  refine .fin hst' hd (o':=ob') ?_ fun b hb=>?_
  ·cases r<;>simp only[LR] at hlr ⊢<;>try exact hlr
   ·obtain⟨h3,h4⟩:=hlr
    refine⟨h3,?_⟩
    rcases h4 with h4 | ⟨e,blk,cap,cur,sz,q1,q2,q3,q4,q5⟩
    ·exact .inl h4
    ·exact .inr ⟨e,blk,cap,cur,sz,q1,q2,q3,.inl (bU hst.below.size q4),q5⟩
   ·obtain⟨_,h3,_⟩:=hlr;cases h3
   rotate_left
   ·obtain⟨_,_,_,_,_,h3,_⟩:=hlr;cases h3
   ·obtain⟨cs,q1,q2,q3⟩:=hlr
    exact⟨cs,q1,q2,fun j x hx=>(q3 j x hx).mono (fun b o h=>⟨h,rfl⟩) (by simp)⟩
   ·obtain⟨_,h3,_⟩:=hlr;cases h3
   ·obtain⟨_,_,_,_,h3,_⟩:=hlr;cases h3
   ·obtain⟨h3,h4⟩:=hlr
    refine⟨h3,?_⟩
    rcases h4 with h4 | ⟨e,blk,cap,cur,sz,q1,q2,q3,q4,q5⟩
    ·exact .inl h4
    ·exact .inr ⟨e,blk,cap,cur,sz,q1,q2,q3,.inl (bU hst.below.size q4),q5⟩
   ·obtain⟨_,h3,_⟩:=hlr;cases h3
   ·obtain⟨tm,q1,q2⟩:=hlr
    exact⟨tm,q1,fun t x hx=>(q2 t x hx).mono (fun b o h=>⟨h,rfl⟩) (by simp)⟩
   ·obtain⟨h3,e,blk,cap,cur,sz,q1,q2,q3,q4,q5⟩:=hlr
    exact⟨h3,e,blk,cap,cur,sz,q1,q2,q3,.inl (bU hst.below.size q4),q5⟩
   ·obtain⟨h3,h4⟩:=hlr
    refine⟨h3,?_⟩
    rcases h4 with h4 | ⟨e,blk,cap,cur,sz,q1,q2,q3,q4,q5⟩
    ·exact .inl h4
    ·exact .inr ⟨e,blk,cap,cur,sz,q1,q2,q3,.inl (bU hst.below.size q4),q5⟩
   ·rcases hlr with h4 | ⟨e,blk,cap,cur,sz,q1,q2,q3,q4,q5⟩
    ·exact .inl h4
    ·exact .inr ⟨e,blk,cap,cur,sz,q1,q2,q3,.inl (bU hst.below.size q4),q5⟩
   ·obtain⟨_,h3,_⟩:=hlr;cases h3
   ·obtain⟨vf,vc,q1,q2,q3,q4,q5⟩:=hlr
    exact⟨vf,vc,q1,q2,q3,fun j x hx=>(q4 j x hx).mono (fun b o h=>⟨h,rfl⟩) (by simp),fun j x hx=>(q5 j x hx).mono (fun b o h=>⟨h,rfl⟩) (by simp)⟩
  ·obtain⟨h3,h4⟩:=hfr b hb
   obtain⟨f1,f2⟩:=hst.fresh h3
   exact⟨⟨h4,.inl (bU hst.below.size h3)⟩,f2,fun L hL=>absurd hL (f1 L)⟩
 |true=>
  have hbx:∀ i b,β i=some b→b<w.heap.size:=fun i b hi=>by
   by_cases h:i<s.nb
   ·obtain⟨blk,cur,e1,_,e3,_⟩:=hst.bx i h
    rw[hi] at e1;cases e1
    exact e3.lt
   ·rw[hst.bnone i (by omega)] at hi;cases hi
  obtain⟨h1,h2⟩:=hargs (fun b o=>I b o∨∃ i,β i=some b) (fun _ _ h=>.inl h) (fun _ i b o hi=>.inr ⟨i,hi⟩)
  refine (hok.2 (fun b o=>I b o∨∃ i,β i=some b) w vs.toArray (fun b o hb=>by
   rcases hb with hb | ⟨i,hi⟩
   ·exact hst.ibnd b o hb
   ·exact hbx i b hi) (fun g cs hg=>(hst.glob g cs hg).mono fun b o h=>⟨.inl h,rfl⟩) (by simpa using h1) (fun j x hx=>by simpa using h2 j x hx)).mono ?_
  rintro e w' ⟨v,I',rfl,hg,hI1,hI2,ob',hlr,hfr⟩
  simp only
  refine hk _ _ r hr ?_
  have hst':=hst.grow hg (fun _ _ h=>h) (fun _ _ h=>.inl h)
  exact .fin0 hst' hd (hlr.flat (hflat rfl))
theorem kg {f:Operand} {args:Array Operand} {ts:Array TypeId} (ho:o.op=.call { callee:=.value f,args:=args,argTypes:=ts }) {g:FuncId} {vf vc:Array Value} (hf:a.eval f=.func (.func g) vf vc)
 {fn:Func} {c:Code} (h1:P.funcs[g]?=some fn) (h2:(fn.name== "runtime.NumGoroutine")=false) (h3:fn.body=some c) :
 (execOp a.eval o).run P w=.ok (.enter g (vf++args.map a.eval++vc)) w:=by
 unfold execOp
 simp only[ho,resolve,Deferred.ofValue,hf,aG,be,au,invoke]
 have h2':fn.name≠ "runtime.NumGoroutine" :=by simpa using h2
 simp[callFunc,h1,h2',h3]
theorem BP {f:Operand} {args:Array Operand} {ts:Array TypeId} (ho:o.op=.call { callee:=.value f,args:=args,argTypes:=ts }) (hst:St G n I0 M w0 I β ob s a w) (hd:∀ d,o.dst=some d→d<n)
 (h:oc P G s (ev G s f) (args.toList.map (ev G s)) K) (hk:∀ a' w' x,K x→SE G n I0 M w0 (s.after tr o x) a' w'→next a' w'):o.wp P a w next Q:=by
 have hf:=bz hst f
 unfold oc at h
 split at h
 ·rename_i g fs cs he
  rw[he] at hf
  split at h
  ·rename_i as has
   obtain⟨r,hok,hflat,hr⟩:=h
   obtain⟨vf,vc,hv,q1,q2,q3,q4⟩:=hf.toC.fn_inv
   obtain⟨fn,h1,h2,c,h3⟩:=hok.1
   have hrun:=kg (P:=P) (w:=w) ho hv h1 h2 h3
   refine GG hst hd hok hr ((args.toList.map (ev G s)).any V.boxy) (vs:=vf.toList++args.toList.map a.eval++vc.toList) (fun Ic hIc hb=>?_) hflat ?_ hk
   ·exact((ArgsR.ofC vf fs q1 fun j c hc=>(q3 j c hc).mono fun b o h=>⟨hIc b o h,rfl⟩).append (zO hst hIc _ as has hb)).append
     (ArgsR.ofC vc cs q2 fun j c hc=>(q4 j c hc).mono fun b o h=>⟨hIc b o h,rfl⟩)
   ·rw[hrun];congr 2;apply cC;simp
  ·exact h.elim
 ·rename_i g fs cs he
  rw[he] at hf
  simp only[LR] at hf
  obtain⟨vf,vc,hv,q1,q2,q3,q4⟩:=hf
  split at h
  ·rename_i fs' as cs' e1 e2 e3
   obtain⟨r,hok,hflat,hr⟩:=h
   obtain⟨fn,h1,h2,c,h3⟩:=hok.1
   have hrun:=kg (P:=P) (w:=w) ho hv h1 h2 h3
   refine GG hst hd hok hr ((fs++args.toList.map (ev G s)++cs).any V.boxy) (vs:=vf.toList++args.toList.map a.eval++vc.toList) (fun Ic hIc hb=>?_) hflat ?_ hk
   ·exact((GF hst hIc vf fs fs' q1 e1 q3 fun hx=>hb (by simp only[List.any_append,hx,Bool.true_or])).append
     (zO hst hIc _ as e2 fun hx=>hb (by simp only[List.any_append,hx,Bool.true_or,Bool.or_true]))).append
     (GF hst hIc vc cs cs' q2 e3 q4 fun hx=>hb (by simp only[List.any_append,hx,Bool.or_true]))
   ·rw[hrun];congr 2;apply cC;simp
  ·exact h.elim
 ·exact h.elim
theorem vG {mx:Bool} {args:Array Operand} (hst:St G n I0 M w0 I β ob s a w) (h:zt mx (args.toList.map (ev G s)) K) :
 ∃ u,flat u=true∧K (.c (.lit u))∧(if mx then Builtin.max_ #[] 0 (args.map a.eval) else Builtin.min_ #[] 0 (args.map a.eval)).run P w=.ok u w:=by
 unfold zt at h
 split at h
 ·rename_i k p k' q hargs
  obtain⟨X,l,hX,hXv,hl⟩:∃ X l,args.toList=X::l∧ev G s X=.c (.lit (.int k p))∧l.map (ev G s)=[.c (.lit (.int k' q))]:=by
   cases ha:args.toList with
   |nil=>simp[ha] at hargs
   |cons X l=>simp only[ha,aI,bJ] at hargs;exact⟨X,l,rfl,hargs.1,hargs.2⟩
  obtain⟨Y,rfl,hYv⟩:∃ Y,l=[Y]∧ev G s Y=.c (.lit (.int k' q)):=by
   cases l with
   |nil=>simp at hl
   |cons Y l'=>simp only[aI,bJ,dC] at hl;exact⟨Y,by rw[hl.2],hl.1⟩
  have e1:a.eval X=.int k p:=by have:=bz hst X;rw[hXv] at this;exact this.lit
  have e2:a.eval Y=.int k' q:=by have:=bz hst Y;rw[hYv] at this;exact this.lit
  refine⟨_,rfl,h,?_⟩
  cases mx
  ·simp[Builtin.min_,hX,e1,e2,Builtin.min2]
  ·simp[Builtin.max_,hX,e1,e2,Builtin.max2]
 ·exact h.elim
end
section
variable {P:Program} {I:Ft} {w:World}
theorem K7 {k:EK} {c d:C} (h:eqC k c d=some true):∃ v,c=.lit v∧d=.lit v∧(∀ m,Instr.sameBits m v v=true):=by
 cases k with
 |int=>
  obtain⟨k,a,b,rfl,rfl,hr⟩:=zA h
  have:a=b:=by simpa using hr.symm
  subst this
  exact⟨_,rfl,rfl,fun m=>by cases m<;>simp[Instr.sameBits]⟩
 |bool=>
  obtain⟨a,b,rfl,rfl,hr⟩:=vD h
  have:a=b:=by simpa using hr.symm
  subst this
  exact⟨_,rfl,rfl,fun m=>by cases m<;>simp[Instr.sameBits]⟩
 |str=>
  obtain⟨a,b,rfl,rfl,hr⟩:=zB h
  have:a=b:=by simpa using hr.symm
  subst this
  exact⟨_,rfl,rfl,fun m=>by cases m<;>simp[Instr.sameBits,tA]⟩
theorem yf:∀ {ks:List EK} {cs ds:List C},ig ks cs ds=some true→cs.length=ks.length→ds.length=ks.length→
 cs=ds∧∀ c∈cs,∃ v,c=.lit v∧∀ m,Instr.sameBits m v v=true
 |[],cs,ds,_,h1,h2=>by simp at h1 h2;subst h1;subst h2;simp
 |k::ks,[],ds,h,h1,h2=>by simp at h1
 |k::ks,c::cs,[],h,h1,h2=>by simp at h2
 |k::ks,c::cs,d::ds,h,h1,h2=>by
  simp only[ig] at h
  split at h
  ·rename_i p q e1 e2
   simp only[am,aF] at h
   obtain⟨rfl,rfl⟩:=h
   obtain⟨v,rfl,rfl,hv⟩:=K7 e1
   obtain⟨rfl,h4⟩:=yf e2 (by simpa using h1) (by simpa using h2)
   exact⟨rfl,fun c hc=>by
    rcases bw.1 hc with rfl | hc
    ·exact⟨v,rfl,hv⟩
    ·exact h4 c hc⟩
  ·cases h
theorem EB {xs ys:Array Value} {cs:List C} (hx:Cells I w xs cs) (hy:Cells I w ys cs) (hl:∀ c∈cs,∃ v,c=.lit v∧∀ m,Instr.sameBits m v v=true) :
 xs=ys∧∀ v∈xs.toList,∀ m,Instr.sameBits m v v=true:=by
 have each:∀ j,j<cs.length→∃ v,xs[j]?=some v∧ys[j]?=some v∧∀ m,Instr.sameBits m v v=true:=fun j hj=>by
  obtain⟨v,hv,hs⟩:=hl cs[j] (aL hj)
  have h1:=hx.2 j _ (ak hj)
  have h2:=hy.2 j _ (ak hj)
  rw[hv] at h1 h2
  exact⟨v,Gz h1.lit_eq (by rw[hx.1];exact hj),Gz h2.lit_eq (by rw[hy.1];exact hj),hs⟩
 refine⟨?_,fun v hv m=>?_⟩
 ·apply iz (by rw[hx.1,hy.1])
  intro j h1 h2
  obtain⟨v,e1,e2,_⟩:=each j (by rw[← hx.1];exact h1)
  rw[ax h1] at e1;rw[ax h2] at e2
  rw[dD e1,dD e2]
 ·obtain⟨j,hj,rfl⟩:=gV hv
  obtain⟨v,e1,_,hs⟩:=each j (by rw[← hx.1];simpa using hj)
  simp only[bH] at hj
  rw[ax hj] at e1
  simp only[Array.getElem_toList]
  rw[dD e1];exact hs m
theorem zP {t:TypeId} {xs:Array Value} (h:∀ v∈xs.toList,∀ m,Instr.sameBits m v v=true) (h1:cN P t=false→0<xs.size) (m:Nat) :
 Instr.sameBits (m+1) (mkv P t xs) (mkv P t xs)=true:=by
 unfold mkv
 cases hz:cN P t with
 |false=>
  simp only[aS,cX]
  have:=h1 hz
  simp only[Array.getD,this,dif_pos]
  exact h _ (by simp) _
 |true=>
  simp only[cA]
  have:∀ l:List Value,(∀ v∈l,∀ m,Instr.sameBits m v v=true)→(l.zip l).all (fun(x:Value×Value)=>Instr.sameBits m x.1 x.2)=true:=by
   intro l hl
   rw[aU]
   intro x hx
   have:x.1=x.2∧x.1∈l:=by
    have h2:l.zip l=l.map fun a=>(a,a):=by
     clear hx hl
     induction l with
     |nil=>rfl
     |cons a l ih=>simp[ih]
    rw[h2] at hx
    obtain⟨a,ha,rfl⟩:=bF.1 hx
    exact⟨rfl,ha⟩
   rw[← this.1];exact hl _ this.2 m
  simp only[Instr.sameBits,BEq.rfl,Bool.true_and]
  exact this _ h
theorem zQ {t:TypeId} {xs ys:Array Value} {ks:List EK} {cs ds:List C} (hx:Cells I w xs cs) (hy:Cells I w ys ds) (he:ig ks cs ds=some true) (h1:cs.length=ks.length) (h2:ds.length=ks.length) (hz:cN P t=false→0<ks.length) :
 mkv P t xs=mkv P t ys∧(Instr.keyThatStays (mkv P t ys) (mkv P t xs)).run P w=.ok (mkv P t xs) w:=by
 obtain⟨rfl,hl⟩:=yf he h1 h2
 obtain⟨rfl,hs⟩:=EB hx hy hl
 refine⟨rfl,?_⟩
 unfold Instr.keyThatStays
 rw[zP hs (fun h=>by rw[hx.1,h1];exact hz h) 9999]
 simp
theorem zR (em:Bool):∀ (d:Nat) (t:TypeId) (ks:List EK),eqk P d t=some ks→∀ (n:Nat) (xs:Array Value),xs.size=ks.length→
 (Instr.checkKey em (d+n) t (mkv P t xs)).run P w=.ok () w:=by
 intro d
 induction d with
 |zero=>intro t ks h;simp[eqk] at h
 |succ d ih=>
  intro t ks h n xs hxs
  rw[show d+1+n=(d+n)+1 by omega]
  unfold eqk at h
  split at h
  ·rename_i k hu
   rw[Instr.checkKey];simp[aP hu,Result.andThen]
  ·rename_i hu
   rw[Instr.checkKey];simp[aP hu,Result.andThen]
  ·rename_i hu
   rw[Instr.checkKey];simp[aP hu,Result.andThen]
  ·rename_i fs hu
   split at h
   ·cases h
   ·have hag:cN P t=true:=by simp[cN,hu]
    simp only[mkv,hag,cA]
    rw[Instr.checkKey]
    simp only[aG,aP hu,au]
    rw[← Array.forIn_toList]
    have hh:∃ acc,xr P (eqk P d) fs.toList acc=some ks:=⟨[],h⟩
    clear h
    generalize fs.toList=l at hh
    induction l with
    |nil=>simp
    |cons f l ihl=>
     obtain⟨acc,h⟩:=hh
     simp only[xr] at h
     split at h
     ·rename_i k1 hk1
      split at h
      ·rename_i hc
       obtain⟨hn,hoff,hlen⟩:=hc
       obtain⟨rest,hrest⟩:=tB (P:=P) _ _ _ _ h
       have hsz:acc.length+k1.length≤ks.length:=by rw[hrest];simp
       obtain⟨u,hfu⟩:=mP hk1
       have hone:cN P f.type=false→P.cellsOf f.type=1:=fun hz=>by rw[← hlen];exact qm hk1 hz
       have hpx:=og (w:=w) f.type u hfu xs f.offset (by rw[hoff,← hlen,hxs];exact hsz) hone
       have p2:=ih f.type k1 hk1 n (xs.extract f.offset (f.offset+P.cellsOf f.type)) (by simp;omega)
       simp only[List.forIn_cons,aG,hn,ne_eq,not_false_eq_true,cA,hpx,au,p2,be]
       exact ihl ⟨_,h⟩
      ·cases h
     ·cases h
  ·rename_i m e hu
   split at h
   ·rename_i k1 hk1
    split at h
    ·rename_i hlen
     simp only[am] at h
     have hag:cN P t=true:=by simp[cN,hu]
     obtain⟨u,heu⟩:=mP hk1
     obtain⟨i,hi⟩:=fJ heu
     simp only[mkv,hag,cA]
     rw[Instr.checkKey]
     simp only[aG,aP hu,au]
     simp only[Std.Legacy.Range.forIn_eq_forIn_range',Std.Legacy.Range.size,j5,Nat.add_one_sub_one,Nat.div_one]
     have hksl:ks.length=m*k1.length:=by rw[← h];simp
     have hone:cN P e=false→P.cellsOf e=1:=fun hz=>by rw[← hlen];exact qm hk1 hz
     have hsub:∀ j∈List.range' 0 m,j<m:=fun j hj=>by simp at hj;exact hj
     generalize List.range' 0 m=is at hsub
     induction is with
     |nil=>simp
     |cons j is ihs=>
      have hj:=hsub j (by simp)
      have hsz:j*k1.length+k1.length≤ks.length:=by
       rw[hksl,← dh];exact aO _ (by omega)
      have hpx:=og (w:=w) e u heu xs (j*P.cellsOf e) (by rw[← hlen,hxs];exact hsz) hone
      have p2:=ih e k1 hk1 n (xs.extract (j*P.cellsOf e) (j*P.cellsOf e+P.cellsOf e)) (by simp;rw[← hlen];omega)
      simp only[List.forIn_cons,aG,d4 w hi,au,hpx,p2,be]
      exact ihs (fun y hy=>hsub y (by simp[hy]))
    ·cases h
   ·cases h
  ·cases h
theorem BQ {t:TypeId} {u:TypeDesc} {d:Nat} {ks:List EK} (hu:P.underlying t=some u) (hk:eqk P (d+1) t=some ks) (hz:cN P t=false) {xs ys:Array Value} {cs ds:List C} {r:Bool} (hx:Cells I w xs cs) (hy:Cells I w ys ds)
 (h1:cs.length=ks.length) (h2:ds.length=ks.length) (he:ig ks cs ds=some r):Instr.sameNow u (mkv P t xs) (mkv P t ys)=some r:=by
 have hl:=qm hk hz
 obtain⟨k,rfl⟩:=d5.1 hl
 obtain⟨c,rfl⟩:=d5.1 (h1.trans hl)
 obtain⟨e,rfl⟩:=d5.1 (h2.trans hl)
 have hr:eqC k c e=some r:=by
  simp only[ig] at he
  split at he
  ·rename_i p q e1 e2
   simp only[am] at e2 he
   subst e2;rw[e1];simpa using he
  ·cases he
 have hcx:CR I w (mkv P t xs) c:=by simp only[mkv,hz];exact hx.2 0 c rfl
 have hcy:CR I w (mkv P t ys) e:=by simp only[mkv,hz];exact hy.2 0 e rfl
 unfold eqk at hk
 split at hk
 ·rename_i q hu'
  rw[hu] at hu';cases hu'
  simp only[am,bJ,fq] at hk
  subst hk
  obtain⟨kk,a,b,rfl,rfl,rfl⟩:=zA hr
  rw[hcx.lit_eq,hcy.lit_eq]
  simp[Instr.sameNow,Bool.beq_eq_decide_eq]
 ·rename_i hu'
  rw[hu] at hu';cases hu'
  simp only[am,bJ,fq] at hk
  subst hk
  obtain⟨a,b,rfl,rfl,rfl⟩:=vD hr
  rw[hcx.lit_eq,hcy.lit_eq]
  simp[Instr.sameNow]
 ·rename_i hu'
  rw[hu] at hu';cases hu'
  simp only[am,bJ,fq] at hk
  subst hk
  obtain⟨a,b,rfl,rfl,rfl⟩:=zB hr
  rw[hcx.lit_eq,hcy.lit_eq]
  simp[Instr.sameNow,tA]
 ·rename_i hu';simp[cN,hu'] at hz
 ·rename_i hu';simp[cN,hu'] at hz
 ·cases hk
theorem yg {t:TypeId} {ks:List EK} (hk:eqk P 8 t=some ks) {xs:Array Value} {cs:List C} (hx:Cells I w xs cs) (h1:cs.length=ks.length) :
 ∀ (es:List MapEntry) (kc:List (List C)) (i:Nat) (r:Option Nat),es.length=kc.length→(∀ (j:Nat) (e:MapEntry) (c:List C),es[j]?=some e→kc[j]?=some c→∃ ys,e.key=mkv P t ys∧Cells I w ys c)→
  lm ks cs kc i=some r→(if cN P t then(Instr.findAsking t (mkv P t xs) es i).run P w=.ok (r.map fun j=>(j,((es[j - i]?).map (·.val)).getD undef)) w
   else Instr.findNow ((P.underlying t).getD .bool) (mkv P t xs) es i=some (r.map fun j=>(j,((es[j - i]?).map (·.val)).getD undef)))∧∀ j,r=some j→i≤j
 |[],[],i,r,_,_,h=>by
  simp only[lm,am] at h;subst h
  refine⟨?_,by simp⟩
  split<;>simp[Instr.findAsking,Instr.findNow]
 |[],_::_,_,_,h,_,_=>by simp at h
 |_::_,[],_,_,h,_,_=>by simp at h
 |e::es,c::kc,i,r,hl,hes,h=>by
  simp only[lm] at h
  split at h
  ·rename_i h2
   obtain⟨ys,hkey,hy⟩:=hes 0 e c rfl rfl
   obtain⟨u,hu⟩:=mP hk
   have step:∀ b,ig ks cs c=some b→(cN P t=true→(Op.equal t (mkv P t xs) e.key).run P w=.ok b w)∧(cN P t=false→Instr.sameNow u (mkv P t xs) e.key=some b):=fun b hb=>by
    rw[hkey]
    exact⟨fun _=>x9 (w:=w) 8 t ks hk 10000 (by omega) xs ys cs c b hx hy (by rw[hx.1,h1]) (by rw[hy.1,h2]) hb,fun hz=>BQ hu hk hz hx hy h1 h2 hb⟩
   split at h
   ·rename_i hb
    simp only[am] at h;subst h
    obtain⟨s1,s2⟩:=step _ hb
    refine⟨?_,fun j hj=>by cases hj;exact ae _⟩
    split
    ·rename_i hz;simp[Instr.findAsking,s1 hz]
    ·rename_i hz;simp[Instr.findNow,hu,s2 (by simpa using hz)]
   ·rename_i hb
    obtain⟨s1,s2⟩:=step _ hb
    obtain⟨q1,q2⟩:=yg hk hx h1 es kc (i+1) r (by simpa using hl) (fun j e c h1 h2=>hes (j+1) e c (by simpa using h1) (by simpa using h2)) h
    have hsub:(r.map fun j=>(j,(((e::es)[j - i]?).map (·.val)).getD undef))=r.map fun j=>(j,((es[j - (i+1)]?).map (·.val)).getD undef):=by
     cases r with
     |none=>rfl
     |some j=>
      have:=q2 j rfl
      have e1:j - i=(j - (i+1))+1:=by omega
      simp[e1]
    refine⟨?_,fun j hj=>by have:=q2 j hj;omega⟩
    rw[hsub]
    split
    ·rename_i hz
     rw[if_pos hz] at q1
     simpa[Instr.findAsking,s1 hz] using q1
    ·rename_i hz
     rw[if_neg hz] at q1
     simpa[Instr.findNow,hu,s2 (by simpa using hz)] using q1
   ·cases h
  ·cases h
theorem H7 {t:TypeId} {ks:List EK} (hk:eqk P 8 t=some ks) {xs:Array Value} {cs:List C} (hx:Cells I w xs cs) (h1:cs.length=ks.length) {es:List MapEntry} {kc:List (List C)} {r:Option Nat} (hl:es.length=kc.length)
 (hes:∀ (j:Nat) (e:MapEntry) (c:List C),es[j]?=some e→kc[j]?=some c→∃ ys,e.key=mkv P t ys∧Cells I w ys c) (h:lm ks cs kc 0=some r) :
 (Instr.findKey t (mkv P t xs) es).run P w=.ok (r.map fun j=>(j,((es[j]?).map (·.val)).getD undef)) w:=by
 obtain⟨q,_⟩:=yg hk hx h1 es kc 0 r hl hes h
 obtain⟨u,hu⟩:=mP hk
 cases hz:cN P t with
 |true=>
  rw[if_pos hz] at q
  rw[run_findKey_eq w (by unfold cN at hz;rw[hu] at hz ⊢;cases u<;>simp_all)]
  simpa using q
 |false=>
  rw[if_neg (by simp[hz])] at q
  simp only[hu,bM] at q
  rw[MapKept.run_findKey hu q];simp
end
section
variable {P:Program} {G:Gl} {tr:List Nat} {n:Nat} {I0:Ft} {M:Mx} {w0:World} {I:Ft} {β:Nat→Option Nat} {ob:Loc→Option Nat} {s:S} {a:Act} {w:World} {o:Oper}
 {next:Act→World→Prop} {Q:Exit→Act→World→Prop} {base:Nat→Prop} {v:Value} {x y:V} {K:V→Prop}
theorem vH {d:TypeDesc} {k e:TypeId} (h:Vl.K.map k e=qJ d):d=.map k e:=by cases d<;>simp_all[qJ]
theorem vI {ag:Bool}:∀ {r:List V} {kcs:List (List C)},iP ag r=some kcs→r.length=2*kcs.length∧∀ (j:Nat) (c:List C),kcs[j]?=some c→(r.getD (2*j) .un).kcs ag=some c
 |[],kcs,h=>by simp only[iP,am] at h;subst h;exact⟨rfl,by simp⟩
 |[_],kcs,h=>by simp[iP] at h
 |k::v::r,kcs,h=>by
  simp only[iP] at h
  split at h
  ·rename_i q l h1 h2
   simp only[am] at h;subst h
   obtain⟨h3,h4⟩:=vI h2
   refine⟨by simp[h3];omega,fun j c hc=>?_⟩
   cases j with
   |zero=>simp at hc;subst hc;exact h1
   |succ j=>
    rw[show 2*(j+1)=2*j+1+1 by omega]
    simp only[dl]
    exact h4 j c (by simpa using hc)
  ·cases h
theorem vJ {ks:List EK} {k:List C}:∀ {kcs:List (List C)} {i j:Nat},lm ks k kcs i=some (some j)→∃ q c,j=i+q∧kcs[q]?=some c∧c.length=ks.length∧ig ks k c=some true
 |[],i,j,h=>by simp[lm] at h
 |c::r,i,j,h=>by
  simp only[lm] at h
  split at h
  ·rename_i hl
   split at h
   ·rename_i he
    simp only[am] at h;subst h
    exact⟨0,c,rfl,rfl,hl,he⟩
   ·obtain⟨q,c',rfl,h2,h3,h4⟩:=vJ h
    exact⟨q+1,c',by omega,by simpa using h2,h3,h4⟩
   ·cases h
  ·cases h
theorem oR:∀ (es:List MapEntry) (j:Nat) (e:MapEntry),es[j]?=some e→(jF es)[2*j]?=some e.key∧(jF es)[2*j+1]?=some e.val
 |[],j,e,h=>by simp at h
 |x::es,0,e,h=>by simp at h;subst h;exact⟨rfl,rfl⟩
 |x::es,j+1,e,h=>by
  obtain⟨h1,h2⟩:=oR es j e (by simpa using h)
  rw[show 2*(j+1)=2*j+1+1 by omega]
  simp only[jF,cn]
  exact⟨h1,h2⟩
theorem rV:∀ es:List MapEntry,(jF es).length=2*es.length
 |[]=>rfl
 |x::es=>by simp[jF,rV es];omega
theorem K8 {ag:Bool} {kt:TypeId} (hag:ag=cN P kt) {ox:Option Nat} (h:LR base I β w ox v x) {c:List C} (hc:x.kcs ag=some c):∃ ys,v=mkv P kt ys∧Cells I w ys c:=by
 cases x<;>simp only[V.kcs] at hc<;>try cases hc
 ·split at hc
  ·cases hc
  ·rename_i hf
   simp only[am] at hc;subst hc
   have hz:cN P kt=false:=by rw[← hag];simpa using hf
   refine⟨#[v],by simp[mkv,hz],rfl,fun j c hc=>?_⟩
   cases j with
   |zero=>simp at hc;subst hc;exact h.toC
   |succ j=>simp at hc
 ·split at hc
  ·rename_i ht
   simp only[am] at hc;subst hc
   have hz:cN P kt=true:=by rw[← hag];exact ht
   obtain⟨vs,rfl,h1,h2⟩:=h.agg
   exact⟨vs,by simp[mkv,hz],h1,h2⟩
  ·cases hc
theorem uu {ox:Option Nat} (h:LR base I β w ox v x):DR I w v x.dr:=by
 cases x<;>simp only[V.dr]<;>first | exact .un _ | skip
 ·exact .c _ _ h.toC
 ·simp only[LR] at h;exact h
 ·exact .c _ _ h.1
theorem H8 {et:TypeId} {e:TI} {z:V} (hi:ti P et=some e) (hz:nP e=some z) (ha:zaB P et=true):∃ zv,(zeroValue et).run P w=.ok zv w∧∀ (base:Nat→Prop) (β:Nat→Option Nat),LR base I β w none zv z:=by
 obtain⟨j,d,h1,h2,_,_,_,hag,hze,_⟩:=bj hi
 unfold zaB at ha
 rw[h1] at ha
 simp only at ha
 unfold nP at hz
 cases hzv:j.zero with
 |none=>rw[hzv] at ha;cases ha
 |some zv=>
  rw[hzv] at ha hze
  refine⟨zv,by simp[zeroValue,typeInfo,h1,hzv],fun base β=>?_⟩
  simp only at hze
  split at hz
  ·rename_i zc' hagt hzc
   simp only[am] at hz;subst hz
   rw[hzc] at hze
   rw[hagt] at hag
   cases zv<;>simp only[← hag,Bool.not_true,aS] at ha
   rename_i cs
   simp only[LR]
   refine .agg _ _ (by have:=List.mapM_eq_some_length hze.symm;simpa[Value.cells] using this.symm) fun q c hc=>?_
   obtain⟨u,hu,huc⟩:=List.mapM_eq_some_get hze.symm q c hc
   have:cs.getD q undef=u:=by
    simp only[Value.cells,aQ] at hu
    simp[hu]
   rw[this];exact GB huc
  ·rename_i c hagf hzc
   simp only[am] at hz;subst hz
   rw[hzc] at hze
   rw[hagf] at hag
   have hl:=List.mapM_eq_some_length hze.symm
   obtain⟨u,hu,huc⟩:=List.mapM_eq_some_get hze.symm 0 c rfl
   have:zv=u:=by
    cases zv<;>simp only[← hag,Bool.not_false,aS] at ha<;>simpa[Value.cells] using hu
   rw[this];exact .ofC (GB huc)
  ·cases hz
structure K9 (P:Program) (I:Ft) (M:Mx) (w0:World) (β:Nat→Option Nat) (ob:Loc→Option Nat) (s:S) (w:World) (i:Nat) (bs:List Nat) (cl:Nat) (r:List V) (blk:Nat) (es:Array MapEntry):Prop where
 lt:i<s.nb
 bx:s.bx i=.mk bs cl::r
 bt:β i=some blk
 wr:Wr M w0 blk
 fr:∀ o,¬ I blk o
 heap:w.heap[blk]?=some (.map es cl)
 born:es.toList.map (·.born)=bs
 len:r.length=2*bs.length
 ent:∀ (j:Nat) (e:MapEntry),es.toList[j]?=some e→LR (Wr M w0) I β w (ob (.b i (2*j+1))) e.key (r.getD (2*j) .un)∧LR (Wr M w0) I β w (ob (.b i (2*j+2))) e.val (r.getD (2*j+1) .un)
theorem St.mapW (hst:St G n I0 M w0 I β ob s a w) {i blk cl:Nat} {bs:List Nat} {r:List V} (hi:i<s.nb) (hb:s.bx i=.mk bs cl::r) (hβ:β i=some blk):∃ es,K9 P I M w0 β ob s w i bs cl r blk es:=by
 obtain⟨blk',cur,e1,e2,e3,e4,e5,e7⟩:=hst.bx i hi
 rw[hβ] at e1;cases e1
 have hm:mi (s.bx i)=some (.mp bs cl):=by rw[hb];rfl
 unfold HB at e3
 rw[hm] at e3
 obtain⟨es,q1,q2,q3,q4⟩:=e3
 refine⟨es,hi,hb,hβ,e2,e7,q1,q2,by rw[hb,aC] at q4;omega,fun j e he=>?_⟩
 obtain⟨c1,c2⟩:=oR _ _ _ he
 have g1:cur.getD (2*j+1) undef=e.key:=by
  rw[ao,← aQ,q3];simp[c1]
 have g2:cur.getD (2*j+2) undef=e.val:=by
  rw[ao,← aQ,q3,show 2*j+2=(2*j+1)+1 by omega];simp[c2]
 have l1:=e5 (2*j+1)
 have l2:=e5 (2*j+2)
 rw[g1,hb] at l1
 rw[g2,hb,show 2*j+2=(2*j+1)+1 by omega] at l2
 simp only[dl] at l1 l2
 exact⟨l1,l2⟩
theorem rh {T:TypeId} {K:Nat→List Nat→Nat→List V→Option Nat→V→Prop} (h:gy P T s x y K) :
 ∃ i kt et tT tk te ks kc z bs cl r kcs res,ti P T=some tT∧tT.kd=.map kt et∧x=.mr i∧ti P kt=some tk∧tk.eqs=some ks∧ti P et=some te∧y.kcs tk.agg=some kc∧nP te=some z∧
  s.bx i=.mk bs cl::r∧iP tk.agg r=some kcs∧lm ks kc kcs 0=some res∧(i<s.nb∧kc.length=ks.length∧ig ks kc kc=some true∧zaB P et=true)∧K i bs cl r res z:=by
 unfold gy at h
 split at h
 ·rename_i hT
  split at h
  ·rename_i h2 h3
   split at h
   ·rename_i h4 h5 h6
    split at h
    ·rename_i h7
     split at h
     ·rename_i h8
      exact⟨_,_,_,_,_,_,_,_,_,_,_,_,_,_,hT,rfl,rfl,h2,rfl,h3,h4,h5,h6,h7,h8,h.1,h.2⟩
     ·exact h.elim
    ·exact h.elim
   ·exact h.elim
  ·exact h.elim
 ·exact h.elim
theorem Qc {t:TypeId} {i:TI} {ks:List EK} (h:ti P t=some i) (hk:i.eqs=some ks):eqk P 8 t=some ks:=by
 obtain⟨_,_,_,_,_,_,_,_,_,_,he,_⟩:=bj h
 rw[hk] at he
 split at he
 ·cases he
 ·exact he.symm
theorem oS {T:TypeId} {K:Nat→List Nat→Nat→List V→Option Nat→V→Prop} {vx vy:Value} {ox oy:Option Nat} (hst:St G n I0 M w0 I β ob s a w) (h:gy P T s x y K)
 (hx:LR (Wr M w0) I β w ox vx x) (hy:LR (Wr M w0) I β w oy vy y) :
 ∃ i bs cl r res z blk kt et es zv,K i bs cl r res z∧x=.mr i∧vx=.map (some blk)∧K9 P I M w0 β ob s w i bs cl r blk es∧P.underlying T=some (.map kt et)∧
  (∀ em,(Instr.checkKey em 10000 kt vy).run P w=.ok () w)∧
  (Instr.findKey kt vy es.toList).run P w=.ok (res.map fun j=>(j,((es.toList[j]?).map (·.val)).getD undef)) w∧
  (∀ j,res=some j→∃ e,es.toList[j]?=some e∧e.key=vy∧(Instr.keyThatStays e.key vy).run P w=.ok vy w)∧
  (zeroValue et).run P w=.ok zv w∧LR (Wr M w0) I β w none zv z:=by
 obtain⟨i,kt,et,tT,tk,te,ks,kc,z,bs,cl,r,kcs,res,h1,h2,rfl,h3,h4,h5,h6,h7,h8,h9,h10,⟨c1,c2,c3,c4⟩,hK⟩:=rh h
 obtain⟨_,d,_,hu,hkd,_⟩:=bj h1
 rw[h2] at hkd
 have hd:=vH hkd
 subst hd
 have hek:=Qc h3 h4
 have hag:tk.agg=cN P kt:=by obtain⟨_,_,_,_,_,_,_,h,_⟩:=bj h3;exact h
 simp only[LR] at hx
 obtain⟨blk,hβ,rfl⟩:=hx
 obtain⟨es,hm⟩:=hst.mapW (P:=P) c1 h8 hβ
 obtain⟨xs,rfl,hxs⟩:=K8 (P:=P) hag hy h6
 obtain⟨zv,hz1,hz2⟩:=H8 (I:=I) (w:=w) h5 h7 c4
 obtain⟨k1,k2⟩:=vI h9
 have hbl:es.toList.length=bs.length:=by rw[← hm.born,ap]
 have hkl:es.toList.length=kcs.length:=by have:=hm.len;omega
 have hes:∀ (j:Nat) (e:MapEntry) (c:List C),es.toList[j]?=some e→kcs[j]?=some c→∃ ys,e.key=mkv P kt ys∧Cells I w ys c:=fun j e c he hc=>
  K8 (P:=P) hag (hm.ent j e he).1 (k2 j c hc)
 refine⟨i,bs,cl,r,res,z,blk,kt,et,es,zv,hK,rfl,rfl,hm,hu,fun em=>?_,H7 hek hxs c2 hkl hes h10,fun j hj=>?_,hz1,hz2 _ _⟩
 ·exact zR em 8 kt ks hek 9992 xs (by rw[hxs.1];exact c2)
 ·subst hj
  obtain⟨q,c,hq,hc,hl,he⟩:=vJ h10
  have hlt:q<es.toList.length:=by rw[hkl];exact(aj.1 hc).1
  have hje:es.toList[j]?=some es.toList[q]:=by rw[show j=q by omega];exact ak hlt
  refine⟨_,hje,?_⟩
  obtain⟨ys,hkey,hys⟩:=hes j _ c hje (by rw[show j=q by omega];exact hc)
  have:=zQ (P:=P) (t:=kt) hxs hys he c2 hl (fun hz=>by
   have:=qm hek hz;omega)
  rw[hkey]
  exact⟨this.1.symm,this.2⟩
theorem xC {T:TypeId} {ok:Bool} {vx vy:Value} {ox oy:Option Nat} (hst:St G n I0 M w0 I β ob s a w) (h:eW P T s x y ok K)
 (hx:LR (Wr M w0) I β w ox vx x) (hy:LR (Wr M w0) I β w oy vy y) :
 ∃ z u,K z∧LR (Wr M w0) I β w none u z∧(Instr.lookup T vx vy ok).run P w=.ok u w:=by
 unfold eW at h
 obtain⟨i,bs,cl,r,res,z,blk,kt,et,es,zv,hK,rfl,rfl,hm,hu,hck,hfk,hres,hz1,hz2⟩:=oS hst h hx hy
 have hg:=eL (P:=P) hm.heap
 cases res with
 |some j=>
  obtain⟨e,he,_,_⟩:=hres j rfl
  have hv:=(hm.ent j e he).2
  simp only[bI,he,bM] at hfk
  cases ok with
  |false=>
   simp only[aS,cX] at hK
   exact⟨_,e.val,hK,hv.fz none,by simp[Instr.lookup,aP hu,hg,hck,hfk,Result.andThen]⟩
  |true=>
   simp only[cA] at hK
   refine⟨_,.tuple #[e.val,.bool true],hK,?_,by simp[Instr.lookup,aP hu,hg,hck,hfk,Result.andThen]⟩
   simp only[LR]
   refine .tup _ _ rfl fun q d hd=>?_
   match q with
   |0=>simp at hd;subst hd;exact uu hv
   |1=>simp at hd;subst hd;exact .c _ _ (.lit _ rfl)
   |q+2=>simp at hd
 |none=>
  simp only[iC] at hfk
  cases ok with
  |false=>
   simp only[aS,cX] at hK
   exact⟨_,zv,hK,hz2,by simp[Instr.lookup,aP hu,hg,hck,hfk,hz1,Result.andThen]⟩
  |true=>
   simp only[cA] at hK
   refine⟨_,.tuple #[zv,.bool false],hK,?_,by simp[Instr.lookup,aP hu,hg,hck,hfk,hz1,Result.andThen]⟩
   simp only[LR]
   refine .tup _ _ rfl fun q d hd=>?_
   match q with
   |0=>simp at hd;subst hd;exact uu hz2
   |1=>simp at hd;subst hd;exact .c _ _ (.lit _ rfl)
   |q+2=>simp at hd
theorem H9 {es:List MapEntry} {b j:Nat} (h:(es.map (·.born)).findIdx? (·==b)=some j):∃ e,es[j]?=some e∧es.find? (·.born==b)=some e:=by
 induction es generalizing j with
 |nil=>simp at h
 |cons e es ih=>
  simp only[aI,List.findIdx?_cons] at h
  cases hb:(e.born==b) with
  |true=>rw[hb] at h;simp at h;subst h;exact⟨e,rfl,by simp[hb]⟩
  |false=>
   rw[hb] at h
   simp only[aS,cX,aT] at h
   obtain⟨q,hq,rfl⟩:=h
   obtain⟨e',h1,h2⟩:=ih hq
   exact⟨e',by simpa using h1,by simp[hb,h2]⟩
theorem zS {vx:Value} {ox:Option Nat} (hst:St G n I0 M w0 I β ob s a w) (h:lD s x K) (hx:LR (Wr M w0) I β w ox vx x) :
 ∃ z u,K z∧LR (Wr M w0) I β w none u z∧(Instr.entry vx).run P w=.ok u w:=by
 unfold lD at h
 split at h
 ·rename_i i since stepped seen
  split at h
  ·rename_i bs cl r b hb hl
   split at h
   ·rename_i j hj
    obtain⟨⟨hi,rfl⟩,hK⟩:=h
    simp only[LR] at hx
    obtain⟨blk,m,_,_,hβ,rfl,hh,_⟩:=hx
    obtain⟨es,hm⟩:=hst.mapW (P:=P) hi hb hβ
    have hj':=hj
    rw[← hm.born] at hj'
    obtain⟨e,he,hf⟩:=H9 hj'
    obtain⟨l1,l2⟩:=hm.ent j e he
    have hf':es.find? (fun x=>x.born==b)=some e:=by rw[← Array.find?_toList];exact hf
    have hg:(getObj blk).run P w=.ok (.mapIter (some m) since seen.toArray cl) w:=by simp[getObj,Sem.run,hh]
    have hg2:=eL (P:=P) hm.heap
    refine⟨_,.tuple #[e.key,e.val],hK,?_,?_⟩
    ·simp only[LR]
     refine .tup _ _ rfl fun q d hd=>?_
     match q with
     |0=>simp at hd;subst hd;exact uu l1
     |1=>simp at hd;subst hd;exact uu l2
     |q+2=>simp at hd
    ·simp[Instr.entry,hg,hg2,hf',hl,Result.andThen]
   ·exact h.elim
  ·exact h.elim
 ·exact h.elim
theorem zT {T:TypeId} {vx:Value} {ox:Option Nat} (hst:St G n I0 M w0 I β ob s a w) (hd:∀ d,o.dst=some d→d<n) (h:ml P T s x K) (hx:LR (Wr M w0) I β w ox vx x) :
 ∃ z u w',K z∧(Instr.range T vx).run P w=.ok u w'∧SE G n I0 M w0 (s.after tr o z) (a.put o.dst u) w':=by
 unfold ml at h
 split at h
 ·rename_i hT
  obtain⟨_,d,_,hu,hkd,_⟩:=bj hT
  have hd':=vH hkd
  subst hd'
  split at h
  ·rename_i i bs cl r hb
   obtain⟨hi,hK⟩:=h
   simp only[LR] at hx
   obtain⟨blk,hβ,rfl⟩:=hx
   obtain⟨es,hm⟩:=hst.mapW (P:=P) hi hb hβ
   have hg:=eL (P:=P) hm.heap
   have hs:=hst.allocOwn (.mapIter (some blk) cl #[] cl)
   have hfr:=hst.fresh (ae _)
   refine⟨_,.pointer (some ⟨w.heap.size,0,none⟩),w.alloc (.mapIter (some blk) cl #[] cl),hK,by simp[Instr.range,aP hu,hg,Result.andThen],?_⟩
   refine .fin hs hd (o':=some w.heap.size) ?_ fun b hb=>?_
   ·simp only[LR]
    exact⟨w.heap.size,blk,rfl,.inl hst.below.size,hβ,rfl,eV w _,fun o ho=>by have:=hst.ibnd _ _ ho;omega⟩
   ·cases hb
    refine⟨⟨by rw[dF];omega,.inl hst.below.size⟩,hfr.2,fun L hL=>absurd hL (hfr.1 L)⟩
  ·exact h.elim
 ·exact h.elim
theorem BR {T ty:TypeId} {vx:Value} {ox:Option Nat} (hst:St G n I0 M w0 I β ob s a w) (h:BE P s K [T] [x]) (hx:LR (Wr M w0) I β w ox vx x) :
 ∃ u,flat u=true∧K (.c (.lit u))∧(Builtin.len_ #[T] ty #[vx]).run P w=.ok u w:=by
 unfold BE at h
 split at h
 ·rename_i T' i heq1 heq2
  simp only[bJ,fq] at heq1 heq2
  subst heq1;subst heq2
  split at h
  ·rename_i hT hb
   obtain⟨_,d,_,hu,hkd,_⟩:=bj hT
   have hd':=vH hkd
   subst hd'
   obtain⟨hi,hK⟩:=h
   simp only[LR] at hx
   obtain⟨blk,hβ,rfl⟩:=hx
   obtain⟨blk',cur,e1,e2,e3,e4,e5,e7⟩:=hst.bx i hi
   rw[hβ] at e1;cases e1
   unfold HB at e3
   rw[hb] at e3
   obtain⟨es,q1,q2,_⟩:=e3
   have hg:=eL (P:=P) q1
   refine⟨_,rfl,hK,?_⟩
   have hl:=kr List.length q2
   rw[ap,bH] at hl
   simp[Builtin.len_,aP hu,hg,Result.andThen,goInt,hl]
  ·exact h.elim
 ·exact h.elim
end
section
variable {P:Program} {G:Gl} {tr:List Nat} {n:Nat} {I0:Ft} {M:Mx} {w0:World} {I:Ft} {β:Nat→Option Nat} {ob:Loc→Option Nat} {s:S} {a:Act} {w:World} {o:Oper}
 {next:Act→World→Prop} {Q:Exit→Act→World→Prop} {base:Nat→Prop} {v:Value} {x y:V}
theorem UK (hst:St G n I0 M w0 I β ob s a w) (x:Operand):(∃ ox,LR (Wr M w0) I β w ox (a.eval x) (vw s (ev G s x)).fz)∨∃ es,(vw s (ev G s x)).fz=.c (.sl es)∧RD I w (a.eval x) es:=by
 have hx:=bz hst x
 cases he:ev G s x with
 |ms i off len cap sz=>
  rw[he] at hx
  simp only[LR] at hx
  simp only[vw]
  cases hv:kF s i off len sz with
  |none=>left;exact⟨none,by simp only[V.fz,LR];exact .un _⟩
  |some c=>
   obtain⟨es,rfl,hrd⟩:=Qb hst hv hx
   right;exact⟨es,rfl,hrd⟩
 |_=>left;rw[he] at hx;exact⟨none,hx.fz none⟩
theorem BS (hst:St G n I0 M w0 I β ob s a w) (x:Operand) (ys:List (List C)) (h:(vw s (ev G s x)).fz=.c (.sl ys)):RD I w (a.eval x) ys:=by
 rcases UK hst x with⟨ox,hx⟩ | ⟨es,he,hrd⟩
 ·rw[h] at hx;exact .ofCR hx.toC
 ·rw[h] at he;cases he;exact hrd
theorem UL {x:V} {E:Option (TypeId×Nat)} {es:List (List C)} (h:vw s x=.ow E es):x=.ow E es:=by
 cases x<;>simp only[vw] at h<;>try exact h
 split at h<;>cases h
theorem vK {K:V→Prop} {X Y:Operand} {t t' ty:TypeId} (hst:St G n I0 M w0 I β ob s a w) (hd:∀ d,o.dst=some d→d<n) (hcon:bN tr o=(match X with | .tmp t=>some t | _=>none))
 (h:dW P .append [t,t'] [vw s (ev G s X),vw s (ev G s Y)] K):∃ z u w',K z∧(Builtin.append_ #[t,t'] ty #[a.eval X,a.eval Y]).run P w=.ok u w'∧SE G n I0 M w0 (s.after tr o z) (a.put o.dst u) w':=by
 have key:∀ ys,dX P t (vw s (ev G s X)) ys K→(∀ ys' e,P.underlying t=some (.slice e)→∀ j,ti P e=some j→ys=.c (.sl ys')→(∀ x∈ys',x.length=j.size)→BK P I w t' (a.eval Y) j.size ys')→
  ∃ z u w',K z∧(Builtin.append_ #[t,t'] ty #[a.eval X,a.eval Y]).run P w=.ok u w'∧SE G n I0 M w0 (s.after tr o z) (a.put o.dst u) w':=by
  intro ys h hsrc
  have h':dX P t (ev G s X) ys K:=by
   cases hx:vw s (ev G s X) with
   |ow E es=>rw[hx] at h;rw[UL hx];exact h
   |_=>rw[hx] at h;simp[dX] at h
  exact xz (tr:=tr) (U:=t') (ty:=ty) hst hd hcon h' hsrc
 simp only[dW] at h
 split at h
 ·rename_i htt
  subst htt
  exact key _ h fun ys' e hu j hj hy hl=>(BS hst Y ys' hy).src hu hl
 ·unfold nD at h
  split at h
  ·rename_i e _ _ _ _ _ _ _ _ _ _ _ _ st hi hi2 hy
   obtain⟨j1,d1,_,h2,h3,_⟩:=bj hi
   have hd1:=cQ h3
   subst hd1
   obtain⟨j2,d2,_,h22,h32,_⟩:=bj hi2
   have hd2:=lX h32
   subst hd2
   split at h
   ·rename_i ie hie
    obtain⟨hs1,h⟩:=h
    have hlit:ev G s Y=.c (.lit (.string st)):=by
     have:(vw s (ev G s Y)).fz=.c (.lit (.string st)):=hy
     cases hev:ev G s Y<;>rw[hev] at this
     case hh g E es=>cases g<;>simp[vw,V.fz] at this
     case gs g E es=>cases g<;>simp[vw,V.fz] at this
     case ms i off len cap sz=>
      simp only[vw] at this
      split at this
      ·rename_i c hc
       simp only[V.fz,V.c.injEq] at this
       subst this
       unfold kF at hc;split at hc
       ·split at hc<;>simp at hc
       ·cases hc
      ·simp[V.fz] at this
     all_goals simp_all[vw,V.fz]
    have hv:=bz hst Y
    rw[hlit] at hv
    refine key _ h fun ys' e' hu j hj hy' hl=>?_
    rw[h2] at hu
    simp only[am,TypeDesc.slice.injEq] at hu
    subst hu
    rw[hie] at hj
    cases hj
    simp only[V.c.injEq,C.sl.injEq] at hy'
    subst hy'
    rw[hv.lit,hs1]
    exact Qa h22
   ·exact h.elim
  ·exact h.elim
theorem St.unghost {t d:Tmp} {v:Value} {E:Option (TypeId×Nat)} {es:List (List C)} (hst:St G n I0 M w0 I β ob s a w) (htd:t≠d) (ht:s.fr t=.c (.ex v)) (hdv:s.fr d=.gh v E es) (hdn:d<n) (htn:t<n) :
 ∃ ob',St G n I0 M w0 I β ob' { s with fr:=up (up s.fr d .un) t (.ow E es) } a w:=by
 have hg:=hst.fr d
 rw[hdv] at hg
 simp only[LR] at hg
 have hx:=hst.fr t
 rw[ht] at hx
 have hv:a.tmps.getD t undef=v:=by
  have:=hx.toC
  generalize a.tmps.getD t undef=q at this
  cases this with
  |ex _ h1 h2=>rfl
 have h1:=hst.put d hdn (v:=a.tmps.getD d undef) (x:=.un) (o:=none) (by simp only[LR];exact .un _) FreeOb.nothing
 have h2:=h1.put t htn (v:=a.tmps.getD t undef) (x:=.ow E es) (o:=ob (.t d)) (by rw[hv];simp only[LR];exact hg) (fun b hb=>by
  refine⟨hst.obnd _ b hb,fun L hL=>?_,fun i=>hst.obx _ b i hb⟩
  simp only[upL] at hL
  split at hL
  ·cases hL
  ·split at hL
   ·cases hL
   ·rename_i h3 h4
    exact h4 (hst.oinj _ _ b hL hb))
 have back:∀ (a:Act) (q:Tmp),q<a.tmps.size→a.put (some q) (a.tmps.getD q undef)=a:=fun a q hq=>by
  have:a.tmps.set! q (a.tmps.getD q undef)=a.tmps:=by
   apply iz
   ·simp[bB]
   ·intro i h1 h2
    simp only[bB,eD h2]
    split
    ·rename_i e;subst e;simp[Array.getD,h2]
    ·rfl
  show(⟨a.tmps.set! q (a.tmps.getD q undef),a.defers⟩:Act)=a
  rw[this]
 rw[back a d (by rw[hst.size];exact hdn),back a t (by rw[hst.size];exact htn)] at h2
 exact⟨_,h2⟩
theorem St.unghostG {t d:Tmp} {v:Value} {E:Option (TypeId×Nat)} {es:List (List C)} (hst:St G n I0 M w0 I β ob s a w) (htd:t≠d) (ht:s.fr t=.c (.ex v)) (hdv:s.fr d=.gg v E es) (hdn:d<n) (htn:t<n) :
 ∃ ob',St G n I0 M w0 I β ob' { s with fr:=up (up s.fr d .un) t (.gs none E es) } a w:=by
 have hg:=hst.fr d
 rw[hdv] at hg
 simp only[LR] at hg
 have hx:=hst.fr t
 rw[ht] at hx
 have hv:a.tmps.getD t undef=v:=by
  have:=hx.toC
  generalize a.tmps.getD t undef=q at this
  cases this with
  |ex _ h1 h2=>rfl
 have h1:=hst.put d hdn (v:=a.tmps.getD d undef) (x:=.un) (o:=none) (by simp only[LR];exact .un _) FreeOb.nothing
 have h2:=h1.put t htn (v:=a.tmps.getD t undef) (x:=.gs none E es) (o:=ob (.t d)) (by rw[hv];simp only[LR];exact⟨(fun _ h=>by cases h),hg⟩) (fun b hb=>by
  refine⟨hst.obnd _ b hb,fun L hL=>?_,fun i=>hst.obx _ b i hb⟩
  simp only[upL] at hL
  split at hL
  ·cases hL
  ·split at hL
   ·cases hL
   ·rename_i h3 h4
    exact h4 (hst.oinj _ _ b hL hb))
 have back:∀ (a:Act) (q:Tmp),q<a.tmps.size→a.put (some q) (a.tmps.getD q undef)=a:=fun a q hq=>by
  have:a.tmps.set! q (a.tmps.getD q undef)=a.tmps:=by
   apply iz
   ·simp[bB]
   ·intro i h1 h2
    simp only[bB,eD h2]
    split
    ·rename_i e;subst e;simp[Array.getD,h2]
    ·rfl
  show(⟨a.tmps.set! q (a.tmps.getD q undef),a.defers⟩:Act)=a
  rw[this]
 rw[back a d (by rw[hst.size];exact hdn),back a t (by rw[hst.size];exact htn)] at h2
 exact⟨_,h2⟩
theorem tH (hst:St G n I0 M w0 I β ob s a w) {t:Tmp} {v:Value} (ht:s.fr t=.c (.ex v)):a.tmps.getD t undef=v∧v.oneCell'=true∧v.cells=#[v]:=by
 have hx:=hst.fr t
 rw[ht] at hx
 have:=hx.toC
 generalize a.tmps.getD t undef=q at this
 cases this with
 |ex _ h1 h2=>exact⟨rfl,h1,h2⟩
theorem kj {q:Tmp} (hq:q<a.tmps.size):a.put (some q) (a.tmps.getD q undef)=a:=by
 have:a.tmps.set! q (a.tmps.getD q undef)=a.tmps:=by
  apply iz
  ·simp[bB]
  ·intro i h1 h2
   simp only[bB,eD h2]
   split
   ·rename_i e;subst e;simp[Array.getD,h2]
   ·rfl
 show(⟨a.tmps.set! q (a.tmps.getD q undef),a.defers⟩:Act)=a
 rw[this]
theorem Ia {K:V→Prop} {t d:Tmp} {y:Operand} {v:Value} {E:Option (TypeId×Nat)} {es:List (List C)} {ts:List TypeId} {ty:TypeId} (hst:St G n I0 M w0 I β ob s a w) (hd:∀ d,o.dst=some d→d<n) (hcon:∀ t' y',[Operand.tmp t,y]=[.tmp t',y']→bN tr o=some t')
 (hdst:o.dst=some d) (ht:s.fr t=.c (.ex v)) (hdv:s.fr d=.gg v E es) (htd:t≠d) (hyt:y≠.tmp t) (hyd:y≠.tmp d) (h:ln P ts E es (vw s (ev G s y)).fz K) :
 ∃ X Y t0 t',[Operand.tmp t,y]=[X,Y]∧ts=[t0,t']∧∃ z u w',K z∧(Builtin.append_ #[t0,t'] ty #[a.eval X,a.eval Y]).run P w=.ok u w'∧SE G n I0 M w0 (s.after tr o z) (a.put o.dst u) w':=by
 have hts:∃ q q',ts=[q,q']:=by
  unfold ln at h
  split at h
  ·exact⟨_,_,rfl⟩
  ·exact h.elim
 obtain⟨q,q',rfl⟩:=hts
 have hqq:q=q':=by simp only[ln] at h;exact h.1
 subst hqq
 have hdn:d<n:=hd d hdst
 have htn:t<n:=by
  rcases cx t n with h' | h'
  ·exact h'
  ·exfalso
   obtain⟨e1,_,_⟩:=tH hst ht
   have e0:a.tmps.getD t undef=undef:=by rw[ao,cK (by rw[hst.size];exact h')];rfl
   have hg:=hst.fr d
   rw[hdv] at hg
   simp only[LR] at hg
   rw[← e1,e0] at hg
   rcases hg with⟨_,_,_,_,h1⟩ | ⟨_,_,_,_,_,_,_,h1,_⟩<;>simp[undef] at h1
 obtain⟨ob',hst'⟩:=hst.unghostG htd ht hdv hdn htn
 refine⟨_,_,q,q,rfl,rfl,?_⟩
 obtain⟨z,u,w',hz,hrun,I2,β2,ob2,hst2⟩:=uo (tr:=tr) (o:=o) (T:=q) (U:=q) (t0:=t) (E:=E) (es:=es) (vy:=a.eval y) (ty:=ty) (K:=K) hst' hd (hcon t y rfl) (by simp only[bZ]) h
  (fun ys' e hu j hj hy hl=>(BS hst y ys' hy).src hu hl)
 refine⟨z,u,w',hz,hrun,?_⟩
 obtain⟨e1,e2,e3⟩:=tH hst ht
 have hsz:(a.put (some d) u).tmps.size=n:=by simp only[Act.put,bB,cP];exact hst.size
 have hgt:(a.put (some d) u).tmps.getD t undef=v:=by
  rw[← e1]
  show(a.tmps.set! d u).getD t undef=_
  simp[ao,bB,gI,fp htd]
 rw[hdst] at hst2 ⊢
 have hse:=hst2.put t htn (v:=(a.put (some d) u).tmps.getD t undef) (x:=.c (.ex v)) (o:=none) (by rw[hgt];exact .ofC (.ex v e2 e3)) FreeOb.nothing
 rw[kj (by rw[hsz];exact htn)] at hse
 have es:(S.after tr o { s with fr:=up (up s.fr d .un) t (.gs none E es) } z).put (some t) (.c (.ex v))=s.after tr o z:=by
  unfold S.after
  rw[hcon t y rfl,hdst]
  have hu1:({ s with fr:=up (up s.fr d .un) t (.gs none E es) }:S).use (some t)=({ s with fr:=up (up s.fr d .un) t (.gs none E es) }:S).clr t:=by
   simp only[S.use,bZ];rfl
  have hu2:s.use (some t)=s:=by simp only[S.use,ht];rfl
  rw[hu1,hu2]
  simp only[S.put,S.clr]
  congr 1
  funext r
  simp only[up]
  by_cases hr:r=t
  ·subst hr;rw[if_pos rfl,if_neg htd];exact ht.symm
  ·rw[if_neg hr,if_neg hr,if_neg hr]
   by_cases hr2:r=d
   ·simp only[if_pos hr2]
   ·simp only[if_neg hr2]
 rw[es] at hse
 exact⟨_,_,_,hse⟩
theorem zU {K:V→Prop} {args:List Operand} {ts:List TypeId} {ty:TypeId} (hst:St G n I0 M w0 I β ob s a w) (hd:∀ d,o.dst=some d→d<n) (hcon:∀ t y,args=[.tmp t,y]→bN tr o=some t)
 (h:iQ P G s o.dst ts args K):∃ X Y t t',args=[X,Y]∧ts=[t,t']∧∃ z u w',K z∧(Builtin.append_ #[t,t'] ty #[a.eval X,a.eval Y]).run P w=.ok u w'∧SE G n I0 M w0 (s.after tr o z) (a.put o.dst u) w':=by
 unfold iQ at h
 split at h
 ·rename_i t y d hdst
  split at h
  ·rename_i v u E es ht hdv
   obtain⟨⟨htd,rfl,hyt,hyd⟩,h⟩:=h
   have hts:∃ q q',ts=[q,q']:=by
    unfold dW at h
    split at h<;>first | cases ‹Builtin.append=_› | skip
    ·rename_i q q' x y hargs;exact⟨_,_,rfl⟩
    ·exact h.elim
   obtain⟨q,q',rfl⟩:=hts
   have hdn:d<n:=hd d hdst
   have htn:t<n:=by
    rcases cx t n with h' | h'
    ·exact h'
    ·exfalso
     obtain⟨e1,_,_⟩:=tH hst ht
     have e0:a.tmps.getD t undef=undef:=by rw[ao,cK (by rw[hst.size];exact h')];rfl
     have hg:=hst.fr d
     rw[hdv] at hg
     simp only[LR] at hg
     rw[← e1,e0] at hg
     rcases hg.1.sl_inv with⟨⟨_,_,h1,_⟩,_⟩ | ⟨_,_,_,_,_,h1,_⟩<;>simp[undef] at h1
   obtain⟨ob',hst'⟩:=hst.unghost htd ht hdv hdn htn
   refine⟨_,_,q,q',rfl,rfl,?_⟩
   have hey:ev G { s with fr:=up (up s.fr d .un) t (.ow E es) } y=ev G s y:=by
    cases y with
    |tmp r=>
     have h1:r≠t:=fun e=>hyt (by rw[e])
     have h2:r≠d:=fun e=>hyd (by rw[e])
     simp only[ev,cM _ _ h1,cM _ _ h2]
    |_=>rfl
   have hvw:vw { s with fr:=up (up s.fr d .un) t (.ow E es) }=vw s:=rfl
   obtain⟨z,u,w',hz,hrun,I2,β2,ob2,hst2⟩:=vK (tr:=tr) (o:=o) (X:=.tmp t) (Y:=y) (t:=q) (t':=q') (ty:=ty) (K:=K) hst' hd (hcon t y rfl) (by
    rw[hey,hvw]
    have:vw s (ev G { s with fr:=up (up s.fr d .un) t (.ow E es) } (.tmp t))=.ow E es:=by simp only[ev,bZ];rfl
    rw[this];exact h)
   refine⟨z,u,w',hz,hrun,?_⟩
   obtain⟨e1,e2,e3⟩:=tH hst ht
   have hsz:(a.put (some d) u).tmps.size=n:=by simp only[Act.put,bB,cP];exact hst.size
   have hgt:(a.put (some d) u).tmps.getD t undef=v:=by
    rw[← e1]
    show(a.tmps.set! d u).getD t undef=_
    simp[ao,bB,gI,fp htd]
   rw[hdst] at hst2 ⊢
   have hse:=hst2.put t htn (v:=(a.put (some d) u).tmps.getD t undef) (x:=.c (.ex v)) (o:=none) (by rw[hgt];exact .ofC (.ex v e2 e3)) FreeOb.nothing
   rw[kj (by rw[hsz];exact htn)] at hse
   have es:(S.after tr o { s with fr:=up (up s.fr d .un) t (.ow E es) } z).put (some t) (.c (.ex v))=s.after tr o z:=by
    unfold S.after
    rw[hcon t y rfl,hdst]
    have hu1:({ s with fr:=up (up s.fr d .un) t (.ow E es) }:S).use (some t)=({ s with fr:=up (up s.fr d .un) t (.ow E es) }:S).clr t:=by
     simp only[S.use,bZ];rfl
    have hu2:s.use (some t)=s:=by simp only[S.use,ht];rfl
    rw[hu1,hu2]
    simp only[S.put,S.clr]
    congr 1
    funext r
    simp only[up]
    by_cases hr:r=t
    ·subst hr;rw[if_pos rfl,if_neg htd];exact ht.symm
    ·rw[if_neg hr,if_neg hr,if_neg hr]
     by_cases hr2:r=d
     ·simp only[if_pos hr2]
     ·simp only[if_neg hr2]
   rw[es] at hse
   exact⟨_,_,_,hse⟩
  ·rename_i v u E es ht hdv
   obtain⟨⟨htd,rfl,hyt,hyd⟩,h⟩:=h
   exact Ia hst hd hcon hdst ht hdv htd hyt hyd h
  ·rename_i E es ht
   obtain⟨⟨htd,hyt⟩,h⟩:=h
   have hts:∃ q q',ts=[q,q']:=by
    unfold ln at h
    split at h
    ·exact⟨_,_,rfl⟩
    ·exact h.elim
   obtain⟨q,q',rfl⟩:=hts
   have hqq:q=q':=by simp only[ln] at h;exact h.1
   subst hqq
   refine⟨_,_,q,q,rfl,rfl,?_⟩
   exact uo (tr:=tr) (o:=o) (T:=q) (U:=q) (t0:=t) (E:=E) (es:=es) (vy:=a.eval y) (ty:=ty) (K:=K) hst hd (hcon t y rfl) ht h (fun ys' e hu j hj hy hl=>(BS hst y ys' hy).src hu hl)
  ·exact h.elim
 ·exact h.elim
theorem EC {K:V→Prop} {args:List Operand} {ts:List TypeId} {ty:TypeId} (hst:St G n I0 M w0 I β ob s a w) (hd:∀ d,o.dst=some d→d<n) (hcon:∀ t y,args=[.tmp t,y]→bN tr o=some t)
 (h:rL P G s o.dst ts args K):∃ X Y t t',args=[X,Y]∧ts=[t,t']∧∃ z u w',K z∧(Builtin.append_ #[t,t'] ty #[a.eval X,a.eval Y]).run P w=.ok u w'∧SE G n I0 M w0 (s.after tr o z) (a.put o.dst u) w':=by
 unfold rL at h
 split at h
 ·rename_i t y d hdst
  split at h
  ·rename_i v u E es ht hdv
   obtain⟨⟨htd,rfl,hyt,hyd⟩,h⟩:=h
   have hts:∃ q q',ts=[q,q']:=by
    unfold qO at h
    split at h
    ·exact⟨_,_,rfl⟩
    ·exact h.elim
   obtain⟨q,q',rfl⟩:=hts
   have hqq:q=q':=by simp only[qO] at h;exact h.1
   subst hqq
   have hdn:d<n:=hd d hdst
   have htn:t<n:=by
    rcases cx t n with h' | h'
    ·exact h'
    ·exfalso
     obtain⟨e1,_,_⟩:=tH hst ht
     have e0:a.tmps.getD t undef=undef:=by rw[ao,cK (by rw[hst.size];exact h')];rfl
     have hg:=hst.fr d
     rw[hdv] at hg
     simp only[LR] at hg
     rw[← e1,e0] at hg
     rcases hg.1.sl_inv with⟨⟨_,_,h1,_⟩,_⟩ | ⟨_,_,_,_,_,h1,_⟩<;>simp[undef] at h1
   obtain⟨ob',hst'⟩:=hst.unghost htd ht hdv hdn htn
   refine⟨_,_,q,q,rfl,rfl,?_⟩
   obtain⟨z,u,w',hz,hrun,I2,β2,ob2,hst2⟩:=BM (tr:=tr) (o:=o) (T:=q) (U:=q) (t0:=t) (E:=E) (es:=es) (vy:=a.eval y) (ty:=ty) (K:=K) hst' hd (hcon t y rfl) (by simp only[bZ]) h
    (fun ys' e hu j hj hy hl=>(BS hst y ys' hy).src hu hl)
   refine⟨z,u,w',hz,hrun,?_⟩
   obtain⟨e1,e2,e3⟩:=tH hst ht
   have hsz:(a.put (some d) u).tmps.size=n:=by simp only[Act.put,bB,cP];exact hst.size
   have hgt:(a.put (some d) u).tmps.getD t undef=v:=by
    rw[← e1]
    show(a.tmps.set! d u).getD t undef=_
    simp[ao,bB,gI,fp htd]
   rw[hdst] at hst2 ⊢
   have hse:=hst2.put t htn (v:=(a.put (some d) u).tmps.getD t undef) (x:=.c (.ex v)) (o:=none) (by rw[hgt];exact .ofC (.ex v e2 e3)) FreeOb.nothing
   rw[kj (by rw[hsz];exact htn)] at hse
   have es:(S.after tr o { s with fr:=up (up s.fr d .un) t (.ow E es) } z).put (some t) (.c (.ex v))=s.after tr o z:=by
    unfold S.after
    rw[hcon t y rfl,hdst]
    have hu1:({ s with fr:=up (up s.fr d .un) t (.ow E es) }:S).use (some t)=({ s with fr:=up (up s.fr d .un) t (.ow E es) }:S).clr t:=by
     simp only[S.use,bZ];rfl
    have hu2:s.use (some t)=s:=by simp only[S.use,ht];rfl
    rw[hu1,hu2]
    simp only[S.put,S.clr]
    congr 1
    funext r
    simp only[up]
    by_cases hr:r=t
    ·subst hr;rw[if_pos rfl,if_neg htd];exact ht.symm
    ·rw[if_neg hr,if_neg hr,if_neg hr]
     by_cases hr2:r=d
     ·simp only[if_pos hr2]
     ·simp only[if_neg hr2]
   rw[es] at hse
   exact⟨_,_,_,hse⟩
  ·exact h.elim
 ·exact h.elim
theorem mQ {K:V→Prop} (hst:St G n I0 M w0 I β ob s a w) (hd:∀ d,o.dst=some d→d<n) (h:VYK P G tr o s K)
 (hk:∀ a' w' x,K x→SE G n I0 M w0 (s.after tr o x) a' w'→next a' w'):o.wp P a w next Q:=by
 have pure_:∀ {sem:Sem Value} {z:V} {u:Value},execOp a.eval o=(do pure (.value (← sem)))→K z→LR (Wr M w0) I β w none u z→sem.run P w=.ok u w→o.wp P a w next Q:=by
  intro sem z u he hz hlr hrun
  refine dP (v':=u) (w':=w) ?_ (hk _ _ _ hz (.fin0 hst hd hlr))
  rw[he];simp[hrun]
 have full:∀ {sem:Sem Value} {z:V} {u:Value} {w':World},execOp a.eval o=(do pure (.value (← sem)))→K z→sem.run P w=.ok u w'→SE G n I0 M w0 (s.after tr o z) (a.put o.dst u) w'→o.wp P a w next Q:=by
  intro sem z u w' he hz hrun hse
  refine dP (v':=u) (w':=w') ?_ (hk _ _ _ hz hse)
  rw[he];simp[hrun]
 obtain⟨dst,op,type,pos,after,guard⟩:=o
 cases op<;>simp only[VYK] at h<;>try exact h.elim
 case move x=>
  have hrun:(execOp a.eval { dst,op:=.move x,type,pos,after,guard }).run P w=.ok (.value (a.eval x)) w:=rfl
  split at h
  ·rename_i htr
   exact dP hrun (hk _ _ _ h (Gy hst hd (x:=x) (by cases x<;>simp[bN,htr])))
  ·exact dP hrun (hk _ _ _ h (P9 hst hd x))
 case assign x=>
  have hrun:(execOp a.eval { dst,op:=.assign x,type,pos,after,guard }).run P w=.ok (.value (a.eval x)) w:=rfl
  exact dP hrun (hk _ _ _ h (Gy hst hd (x:=x) (by cases x<;>simp[bN])))
 case pick c b b'=>
  split at h
  ·rename_i p hc
   have hcv:a.eval c=.bool p:=by have:=bz hst c;rw[hc] at this;exact this.lit
   refine dP (v':=if p then a.eval b else a.eval b') (w':=w) ?_ (hk _ _ _ h (.fin0 hst hd ?_))
   ·simp[execOp,hcv,asBool]
   ·cases p
    ·exact rP hst b'
    ·exact rP hst b
  ·exact h.elim
 case build T parts=>
  obtain⟨z,u,hz,hlr,hrun⟩:=zI hst h
  exact pure_ rfl hz hlr hrun
 case buildSlice T len parts=>
  obtain⟨z,u,w',hz,hrun,hse⟩:=rT (tr:=tr) hst hd h
  exact full rfl hz hrun hse
 case load T x=>
  obtain⟨z,u,hz,hlr,hrun⟩:=pD hst h (bz hst x)
  exact pure_ rfl hz hlr hrun
 case binOp op T x y yT=>
  obtain⟨u,hf,hz,hrun⟩:=Ew h (bz hst x) (bz hst y) x y
  exact pure_ rfl hz (.ofLit hf) hrun
 case unOp op T x=>
  obtain⟨u,hf,hz,hrun⟩:=H4 h (bz hst x)
  exact pure_ rfl hz (.ofLit hf) hrun
 case convert src dst' x=>
  obtain⟨z,u,w',hz,hrun,hse⟩:=BO (tr:=tr) hst hd h (UK hst x)
  exact full rfl hz hrun hse
 case makeFunc f first captured=>
  obtain⟨⟨h1,h2⟩,h⟩:=h
  have pr:∀ (l:Array Operand),(l.toList.map (ev G s)).all V.isPR=true→∀ j x,(l.toList.map (ev G s))[j]?=some x→PR I β w ((l.map a.eval).getD j undef) x:=by
   intro l hl j x hx
   have hm:=bb hx
   have hp:=aU.1 hl x hm
   simp only[ba,aT] at hx
   obtain⟨X,hX,rfl⟩:=hx
   have hlr:=bz hst X
   have:(l.map a.eval).getD j undef=a.eval X:=by
    rw[aQ] at hX
    simp[hX]
   rw[this]
   cases hx:ev G s X<;>rw[hx] at hp hlr<;>simp only[V.isPR] at hp<;>try cases hp
   ·exact hlr.toC
   ·simp only[LR] at hlr;exact hlr
   ·simp only[LR] at hlr;exact hlr
   ·simp only[LR] at hlr;exact hlr
   ·simp only[LR] at hlr;exact hlr
   ·simp only[LR] at hlr;exact hlr
  refine dP (v':=.func f (first.map a.eval) (captured.map a.eval)) (w':=w) rfl (hk _ _ _ h (.fin0 hst hd ?_))
  simp only[LR]
  exact⟨_,_,rfl,by simp,by simp,pr first h1,pr captured h2⟩
 case lookup T x k ok=>
  obtain⟨z,u,hz,hlr,hrun⟩:=xC hst h (bz hst x) (bz hst k)
  exact pure_ rfl hz hlr hrun
 case range T x=>
  obtain⟨z,u,w',hz,hrun,hse⟩:=zT (tr:=tr) hst hd h (bz hst x)
  exact full rfl hz hrun hse
 case entry x=>
  obtain⟨z,u,hz,hlr,hrun⟩:=zS hst h (bz hst x)
  exact pure_ rfl hz hlr hrun
 case sliceToArrayPointer T x=>
  obtain⟨z,u,hz,hlr,hrun⟩:=EA h (bz hst x)
  exact pure_ rfl hz hlr hrun
 case nilCheck x=>
  have hx:=bz hst x
  split at h
  ·rename_i i o hev
   rw[hev] at hx
   simp only[LR] at hx
   obtain⟨blk,hβ,hv⟩:=hx
   refine dP (v':=.pointer (some ⟨blk,o,none⟩)) (w':=w) ?_ (hk _ _ _ h (.fin0 hst hd (by simp only[LR];exact⟨blk,hβ,rfl⟩)))
   simp only[execOp,hv];rfl
  ·rename_i cs k hev
   rw[hev] at hx
   obtain⟨b,off,f,hv,_⟩:=hx.toC.rp_inv
   refine dP (v':=a.eval x) (w':=w) ?_ (hk _ _ _ h (.fin0 hst hd (.ofC hx.toC)))
   simp only[execOp,hv];rfl
  ·exact h.elim
 case slice T x lo hi mx=>
  obtain⟨z,u,hz,hlr,hrun⟩:=zM hst h (rP hst x)
  exact pure_ rfl hz hlr hrun
 case fieldAddr T x f=>
  obtain⟨z,u,hz,hlr,hrun⟩:=tC h (bz hst x)
  exact pure_ rfl hz hlr hrun
 case field T x f=>
  obtain⟨z,u,hz,hlr,hrun⟩:=zF h (bz hst x)
  exact pure_ rfl hz hlr hrun
 case indexAddr T x i=>
  obtain⟨z,u,hz,hlr,hrun⟩:=tD h (rP hst x) (bz hst i)
  exact pure_ rfl hz hlr hrun
 case index T x i=>
  obtain⟨z,u,hz,hlr,hrun⟩:=zG h (bz hst x) (bz hst i)
  exact pure_ rfl hz hlr hrun
 case extract x i=>
  split at h
  ·rename_i ds hx
   split at h
   ·rename_i d hdi
    have hlr:=bz hst x
    rw[hx] at hlr
    simp only[LR] at hlr
    generalize hvv:a.eval x=vv at hlr
    cases hlr with
    |tup vs _ h1 h2=>
     have hlt:i<vs.size:=by rw[h1];exact(aj.1 hdi).1
     have hdr:=h2 i d hdi
     refine pure_ (u:=vs.getD i undef) rfl h ?_ (by simp[hvv,Instr.extract,ax hlt])
     generalize vs.getD i undef=vv' at hdr
     cases d<;>simp only[LR]<;>first | exact hdr | (cases hdr;done)
   ·exact h.elim
  ·exact h.elim
 case call c=>
  obtain⟨callee,args,ts⟩:=c
  cases callee with
  |value f=>exact BP (tr:=tr) (f:=f) (args:=args) (ts:=ts) rfl hst hd h hk
  |invoke r m=>exact h.elim
  |builtin b=>
   have hres:∀ sem:Sem Value,builtin b ts type (args.map fun | .const _=>true | _=>false) (args.map a.eval)=(do pure (.value (← sem)))→
    execOp a.eval { dst,op:=.call { callee:=.builtin b,args:=args,argTypes:=ts },type,pos,after,guard }=(do pure (.value (← sem))):=fun sem hs=>by
    simp only[execOp,resolve,invoke,pure_bind]
    exact hs
   have hap:(b=.append∧((rK tr dst=true∧rL P G s dst ts.toList args.toList K)∨(vB tr dst=true∧iQ P G s dst ts.toList args.toList K)∨(vB tr dst=false∧dW P .append ts.toList (args.toList.map fun x=>vw s (ev G s x)) K)))∨(b≠.append∧dW P b ts.toList (args.toList.map (ev G s)) K):=by
    cases b<;>first | (refine .inl ⟨rfl,?_⟩;have h':(if vB tr dst then(if rK tr dst then rL P G s dst ts.toList args.toList K else iQ P G s dst ts.toList args.toList K) else dW P .append ts.toList (args.toList.map fun x=>vw s (ev G s x)) K):=h;by_cases hg:vB tr dst=true;(rw[if_pos hg] at h';by_cases hg2:rK tr dst=true;(rw[if_pos hg2] at h';exact .inl ⟨hg2,h'⟩);(rw[if_neg hg2] at h';exact .inr (.inl ⟨hg,h'⟩)));(rw[if_neg hg] at h';exact .inr (.inr ⟨by simpa using hg,h'⟩))) | exact .inr ⟨by simp,h⟩
   clear h
   rcases hap with⟨rfl,⟨_,h⟩ | ⟨_,h⟩ | ⟨_,h⟩⟩ | ⟨hnb,h⟩
   ·obtain⟨X,Y,t,t',hX,hts,z,u,w',hz,hrun,hse⟩:=EC (tr:=tr) (o:={ dst,op:=.call { callee:=.builtin .append,args:=args,argTypes:=ts },type,pos,after,guard }) (ty:=type) hst hd (args:=args.toList) (fun t y hA=>by simp only[bN,hA]) h
    have e1:ts=#[t,t']:=cC hts
    have e2:args.map a.eval=#[a.eval X,a.eval Y]:=by apply cC;simp[hX]
    subst e1
    refine full (sem:=Builtin.append_ #[t,t'] type (args.map a.eval)) (hres _ rfl) hz ?_ hse
    rw[e2];exact hrun
   ·obtain⟨X,Y,t,t',hX,hts,z,u,w',hz,hrun,hse⟩:=zU (tr:=tr) (o:={ dst,op:=.call { callee:=.builtin .append,args:=args,argTypes:=ts },type,pos,after,guard }) (ty:=type) hst hd (args:=args.toList) (fun t y hA=>by simp only[bN,hA]) h
    have e1:ts=#[t,t']:=cC hts
    have e2:args.map a.eval=#[a.eval X,a.eval Y]:=by apply cC;simp[hX]
    subst e1
    refine full (sem:=Builtin.append_ #[t,t'] type (args.map a.eval)) (hres _ rfl) hz ?_ hse
    rw[e2];exact hrun
   ·have hts:∃ t t',ts.toList=[t,t']∧∃ X Y,args.toList=[X,Y]:=by
     unfold dW at h
     split at h<;>first | cases ‹Builtin.append=_› | skip
     ·rename_i t t' x y hts hargs
      refine⟨t,t',hts,?_⟩
      cases ha:args.toList with
      |nil=>simp[ha] at hargs
      |cons X l=>
       cases l with
       |nil=>simp[ha] at hargs
       |cons Y l=>simp only[ha,aI,bJ,dC] at hargs;exact⟨X,Y,by rw[hargs.2.2]⟩
     ·exact h.elim
    obtain⟨t,t',hts,X,Y,hX⟩:=hts
    have e1:ts=#[t,t']:=cC hts
    have e2:args.map a.eval=#[a.eval X,a.eval Y]:=by apply cC;simp[hX]
    subst e1
    rw[hX] at h
    obtain⟨z,u,w',hz,hrun,hse⟩:=vK (tr:=tr) (o:={ dst,op:=.call { callee:=.builtin .append,args:=args,argTypes:=#[t,t'] },type,pos,after,guard }) (ty:=type) hst hd (by simp only[bN,hX];cases X<;>rfl) h
    refine full (sem:=Builtin.append_ #[t,t'] type (args.map a.eval)) (hres _ rfl) hz ?_ hse
    rw[e2];exact hrun
   ·unfold dW at h
    split at h
    ·rename_i t x hts hargs
     obtain⟨X,hX,rfl⟩:∃ X,args.toList=[X]∧x=ev G s X:=by
      cases ha:args.toList with
      |nil=>simp[ha] at hargs
      |cons X l=>simp only[ha,aI,bJ,dC] at hargs;exact⟨X,by rw[hargs.2],hargs.1.symm⟩
     obtain⟨u,hf,hz,hrun⟩:=Ey (ty:=type) h (bz hst X)
     have e1:ts=#[t]:=cC hts
     have e2:args.map a.eval=#[a.eval X]:=by apply cC;simp[hX]
     subst e1
     refine pure_ (sem:=Builtin.len_ #[t] type (args.map a.eval)) (hres _ rfl) hz (.ofLit hf) ?_
     rw[e2];exact hrun
    ·exact absurd rfl hnb
    ·obtain⟨u,hf,hz,hrun⟩:=vG (P:=P) (mx:=false) hst h
     exact pure_ (sem:=Builtin.min_ ts type (args.map a.eval)) (hres _ rfl) hz (.ofLit hf) hrun
    ·obtain⟨u,hf,hz,hrun⟩:=vG (P:=P) (mx:=true) hst h
     exact pure_ (sem:=Builtin.max_ ts type (args.map a.eval)) (hres _ rfl) hz (.ofLit hf) hrun
    ·exact h.elim
