/- Values without memory: the operations keep the relation: append. -/
import Derived.Test.YtegbpjodbjhjeaaGreatDoorVlSound5
import Derived.Deep.AppendSrc
import Derived.Conc.MuLone
import Derived.MapKept
import Derived.WideKeyRuns
set_option linter.all false
namespace Go.Vl
open Go Go.RowKit
section
variable {P:Program} {G:Gl} {tr:List Nat} {n:Nat} {I0:Ft} {M:Mx} {w0:World} {I:Ft} {β:Nat→Option Nat} {ob:Loc→Option Nat} {s:S} {a:Act} {w:World} {o:Oper}
 {next:Act→World→Prop} {Q:Exit→Act→World→Prop} {base:Nat→Prop} {v:Value} {x y:V} {K:V→Prop}
theorem Pz {J:Ft} {b off sz sz':Nat} {es:List (List C)} {f:Nat→Nat→Value} (hs:∀ x∈es,x.length=sz) (wF:∀ e∈es,e.length=sz')
 (d5:∀ i j,i<es.length→j<sz'→w.cell? ⟨b,off+i*sz'+j,none⟩=some (f i j)∧J b (off+i*sz'+j)) (pn:∀ i j e c,es[i]?=some e→e[j]?=some c→CR I w (f i j) c) :
 ∃ vs:List Value,vs.length=es.length*sz∧(∀ (q:Nat) (u:Value),vs[q]?=some u→w.cell? ⟨b,off+q,none⟩=some u∧J b (off+q))∧
  (∀ (q:Nat) (c:C),es.flatten[q]?=some c→∃ u,vs[q]?=some u∧CR I w u c)∧(∀ u∈vs,u.oneCell'=true):=by
 have mK:=bz es hs
 by_cases h0:es.length*sz=0
 ·refine⟨[],by simp[h0],by simp,fun q c hq=>?_,by simp⟩
  have:=(ak.1 hq).1
  omega
 have aep:0<sz:=Nat.pos_of_ne_zero fun e=>h0 (by simp[e])
 have Pb:0<es.length:=Nat.pos_of_ne_zero fun e=>h0 (by simp[e])
 have dR:sz'=sz:=by rw[← wF es[0] (aF _),hs es[0] (aF _)]
 subst dR
 have fy:∀ q,q<es.length*sz'→q / sz'<es.length∧q % sz'<sz'∧q=q / sz'*sz'+q % sz':=fun q hq=>
  ⟨by rw[Nat.div_lt_iff_lt_mul aep];exact hq,kU _ aep,by rw[Nat.mul_comm];exact(Nat.div_add_mod q sz').symm⟩
 have rG:∀ (q:Nat) (c:C),es.flatten[q]?=some c→q<es.length*sz'∧CR I w (f (q / sz') (q % sz')) c:=fun q c hq=>by
  have bF:=(ak.1 hq).1
  rw[mK] at bF
  obtain⟨h1,h2,h3⟩:=fy q bF
  rw[h3,lV es hs _ _ h2] at hq
  simp only[aj h1,fE] at hq
  exact⟨bF,pn _ _ _ c (aj h1) hq⟩
 refine⟨(List.range (es.length*sz')).map fun q=>f (q / sz') (q % sz'),by simp,fun q u hq=>?_,fun q c hq=>?_,fun u hu=>?_⟩
 ·simp only[ba,aX] at hq
  obtain⟨q',OY,rfl⟩:=hq
  have bF:=(ak.1 OY).1
  simp at bF
  have hqq:q'=q:=by have:=(ak.1 OY).2;simpa using this.symm
  subst hqq
  obtain⟨h1,h2,h3⟩:=fy q' bF
  have:=d5 _ _ h1 h2
  rw[db,← h3] at this
  exact this
 ·obtain⟨bF,ja⟩:=rG q c hq
  exact⟨_,by simp[bF],ja⟩
 ·simp only[bu,cO] at hu
  obtain⟨q,hq,rfl⟩:=hu
  obtain⟨c,hc⟩:∃ c,es.flatten[q]?=some c:=⟨_,aj (by omega)⟩
  exact(rG q c hc).2.oneCell
theorem CR.flat {b off cap sz:Nat} {es:List (List C)} (h:CR I w (.slice (some ⟨b,off,none⟩) es.length cap) (.sl es)) (hs:∀ x∈es,x.length=sz) :
 ∃ vs:List Value,vs.length=es.length*sz∧(∀ (q:Nat) (u:Value),vs[q]?=some u→w.cell? ⟨b,off+q,none⟩=some u∧I b (off+q))∧
  (∀ (q:Nat) (c:C),es.flatten[q]?=some c→∃ u,vs[q]?=some u∧CR I w u c)∧(∀ u∈vs,u.oneCell'=true):=by
 rcases h.sl_inv with⟨_,rfl⟩ | ⟨b',off',cap',sz',f,hv,jL,wF,d5,pn⟩
 ·exact⟨[],by simp,by simp,by simp,by simp⟩
 simp only[eD,am,iT,fY,fZ] at hv
 obtain⟨⟨rfl,rfl⟩,rfl⟩:=hv
 exact Pz hs wF d5 pn
theorem CR.oldsOf {xa:Addr} {cap sz:Nat} {es:List (List C)} (h:CR I w (.slice (some xa) es.length cap) (.sl es)) (hs:∀ x∈es,x.length=sz) :
 ∃ vs:List Value,vs.length=es.length*sz∧(∀ (q:Nat) (u:Value),vs[q]?=some u→w.cell? (xa.add q)=some u)∧
  (∀ (q:Nat) (c:C),es.flatten[q]?=some c→∃ u,vs[q]?=some u∧CR I w u c)∧(∀ u∈vs,u.oneCell'=true):=by
 by_cases gv:es=[]
 ·subst gv;exact⟨[],by simp,by simp,by simp,by simp⟩
 ·rcases h.sl_inv with⟨_,h0⟩ | ⟨b,off,cap',_,_,hv,_⟩
  ·exact absurd h0 gv
  ·simp only[eD,am] at hv
   obtain⟨rfl,_,_⟩:=hv
   obtain⟨vs,h1,h2,h3,h4⟩:=h.flat hs
   exact⟨vs,h1,fun q u hq=>by rw[cQ];exact(h2 q u hq).1,h3,h4⟩
theorem RD.flat {b off cap sz:Nat} {es:List (List C)} (h:RD I w (.slice (some ⟨b,off,none⟩) es.length cap) es) (hs:∀ x∈es,x.length=sz) :
 ∃ vs:List Value,vs.length=es.length*sz∧(∀ (q:Nat) (u:Value),vs[q]?=some u→w.cell? ⟨b,off+q,none⟩=some u∧True)∧
  (∀ (q:Nat) (c:C),es.flatten[q]?=some c→∃ u,vs[q]?=some u∧CR I w u c)∧(∀ u∈vs,u.oneCell'=true):=by
 rcases h with⟨_,rfl⟩ | ⟨b',off',cap',sz',f,hv,jL,wF,d5,pn⟩
 ·exact⟨[],by simp,by simp,by simp,by simp⟩
 simp only[eD,am,iT,fY,fZ] at hv
 obtain⟨⟨rfl,rfl⟩,rfl⟩:=hv
 exact Pz (J:=fun _ _=>True) hs wF (fun i j hi hj=>⟨d5 i j hi hj,trivial⟩) pn
theorem RD.some' {a':Option Addr} {n m:Nat} {es:List (List C)} (h:RD I w (.slice a' n m) es) (gv:es≠[]):∃ b off,a'=some ⟨b,off,none⟩:=by
 rcases h with⟨_,h0⟩ | ⟨b,off,cap,sz,f,hv,_⟩
 ·exact absurd h0 gv
 ·cases hv;exact⟨b,off,rfl⟩
theorem St.growRow (h:St G n I0 M w0 I β ob s a w) {w':World} {r:Nat} (hg:w.grb w' (some r)) (hr:Wr M w0 r) (d5:∀ o,I r o→w'.cell? ⟨r,o,none⟩=w.cell? ⟨r,o,none⟩)
 (j4:∀ L,ob L≠some r) (hβ:∀ i,β i≠some r) {I':Ft} (h1:∀ b o,I b o→I' b o) (h2:∀ b o,I' b o→I b o∨b=r) (bF:r<w'.heap.size):St G n I0 M w0 I' β ob s a w':=by
 have hk:=h.keeps hg (fun r' e o ho=>by cases e;exact d5 o ho)
 have hI:∀ b o,I b o→I' b o∧w'.cell? ⟨b,o,none⟩=w.cell? ⟨b,o,none⟩:=fun b o hb=>⟨h1 b o hb,hk b o hb⟩
 have uS:∀ L b,ob L=some b→w'.heap[b]?=w.heap[b]?∧∀ o,I' b o→I b o:=fun L b hL=>by
  have gv:b≠r:=fun e=>j4 L (e▸hL)
  refine⟨hg.block b (h.obnd L b hL).1 (by simpa using gv),fun o ho=>?_⟩
  rcases h2 b o ho with h5 | h5
  ·exact h5
  ·exact absurd h5 gv
 exact {
  size:=h.size,defers:=h.defers
  below:=h.below.grown hg (fun k e=>by cases e;exact hr)
  kept:=fun b o h0=>(hk b o (h.ilow b o h0)).trans (h.kept b o h0)
  ilow:=fun b o hb=>h1 b o (h.ilow b o hb)
  ihigh:=fun b o hb=>by
   rcases h2 b o hb with h3 | h3
   ·exact h.ihigh b o h3
   ·exact .inr (by rw[h3];exact hr)
  ibnd:=fun b o hb=>by
   rcases h2 b o hb with h3 | h3
   ·exact bW (h.ibnd b o h3) hg.size
   ·rw[h3];exact bF
  fr:=fun t=>(h.fr t).mono hI (fun _ _ e=>e) (uS (.t t))
  bx:=fun i hi=>by
   obtain⟨blk,cur,e1,e2,e3,e4,e5,e7⟩:=h.bx i hi
   have nG:blk<w.heap.size:=e3.lt
   have gv:blk≠r:=fun e=>hβ i (e▸e1)
   refine⟨blk,cur,e1,e2,e3.mono (hg.block blk nG (by simpa using gv)),e4,fun j=>(e5 j).mono hI (fun _ _ e=>e) (uS (.b i j)),fun o ho=>?_⟩
   rcases h2 blk o ho with h3 | h3
   ·exact e7 o h3
   ·exact gv h3
  bnone:=h.bnone,ext:=h.ext,bnew:=h.bnew,binj:=h.binj,oinj:=h.oinj,obx:=h.obx
  obnd:=fun L b hL=>⟨bW (h.obnd L b hL).1 hg.size,(h.obnd L b hL).2⟩
  glob:=fun g cs Ud=>(h.glob g cs Ud).mono hI }
theorem kA (olds news:List Value) (z:Array Value) (j:Nat) (u:Value) (h:(olds++news)[j]?=some u):(olds.toArray++news.toArray++z).getD j undef=u:=by
 have bF:=(ak.1 h).1
 simp at bF
 have:(olds.toArray++news.toArray++z)[j]?=some u:=by
  rw[dx (by simp;omega)]
  simpa using h
 rw[ao,this];rfl
theorem lj (T U ty e:TypeId) (i:TypeInfo) (ht:P.underlying T=some (.slice e)) (hi:P.info? e=some i) (b:Option Addr) (k cap:Nat) (hk:k≤cap) {x:Value} (hs:Src P i.size U x 0 [] w) :
 (Builtin.append_ #[T,U] ty #[.slice b k cap,x]).run P w=.ok (.slice b k cap) w:=by
 have hf:(Builtin.firstCells i.size 0 x).run P w=.ok #[] w:=hs.cells
 unfold Builtin.append_
 rcases hs.kind with⟨e',Mn⟩ | Mn<;>cases b<;>simp[aO ht,aO Mn,sizeOf,typeInfo,hi,hs.len,hk,hf,storeCells]
theorem fB (g o:Nat) (T:RT):∀ (vs:List Value) (i:Nat) (cur:Array Value) (w:World),w.heap[g]?=some (.cells cur T.t T.fz)→T.ok cur.size→o+i+vs.length≤cur.size→(∀ v∈vs,v.oneCell'=true)→
 (storeCells ⟨g,o,none⟩ vs i).run P w=.ok () (w.setRow g (cur.toList.take (o+i)++vs++cur.toList.drop (o+i+vs.length)).toArray)
 |[],i,cur,w,hg,_,_,_=>by
  simp only[storeCells,eA,aK,dL,dS,Array.toArray_toList]
  rw[setRow_self w g cur T.t T.fz hg]
  rfl
 |v::rest,i,cur,w,hg,hT,hl,h1=>by
  have hi:o+i<cur.size:=by simp at hl;omega
  have OU:(⟨g,o,none⟩:Addr).add i=⟨g,o+i,none⟩:=by unfold Addr.add;split<;>simp_all
  have d5:w.cell? ⟨g,o+i,none⟩=some cur[o+i]:=by simp[World.cell?,hg,hi]
  have agF:w.frozen? ⟨g,o+i,none⟩=false:=by
   obtain⟨tt,lo,rj⟩:=T
   simp only[World.frozen?,hg,Bool.and_eq_false_iff,cm]
   unfold RT.ok at hT
   simp only at hT
   omega
  have hst:(store ((⟨g,o,none⟩:Addr).add i) v).run P w=.ok () (w.setRow g (cur.setIfInBounds (o+i) v)):=by
   rw[OU,run_store P w _ v _ (h1 v (by simp)),d5]
   simp[agF,setCell_eq_setRow w g (o+i) cur T.t T.fz v hg]
  have ih:=fB g o T rest (i+1) (cur.setIfInBounds (o+i) v) (w.setRow g (cur.setIfInBounds (o+i) v)) (kY w g cur _ T.t _ hg) (by simpa using hT) (by simp at hl ⊢;omega) (fun x hx=>h1 x (by simp[hx]))
  simp only[storeCells,aH,hst,aw,ih,setRow_setRow]
  congr 3
  have e:=list_seg_step cur.toList (o+i) v rest (by simp at hl ⊢;omega)
  simpa[Array.toList_setIfInBounds,db] using e
theorem iF (t tx ty e:TypeId) (i:TypeInfo) (ht:P.underlying t=some (.slice e)) (hi:P.info? e=some i) (g off sLen sCap:Nat) (cur:Array Value) (T:RT) (hg:w.heap[g]?=some (.cells cur T.t T.fz)) (hT:T.ok cur.size)
 (x:Value) (n:Nat) (news:List Value) (hs:Src P i.size tx x n news w) (me:sLen+n≤sCap) (ri:off+sLen*i.size+news.length≤cur.size) :
 (Builtin.append_ #[t,tx] ty #[.slice (some ⟨g,off,none⟩) sLen sCap,x]).run P w=
  .ok (.slice (some ⟨g,off,none⟩) (sLen+n) sCap) (w.setRow g (cur.toList.take (off+sLen*i.size)++news++cur.toList.drop (off+sLen*i.size+news.length)).toArray):=by
 have hst:=fB (P:=P) g (off+sLen*i.size) T news 0 cur w hg hT (by simpa using ri) hs.one
 simp only[dL] at hst
 rcases hs.kind with⟨e',hk⟩ | hk<;>simp[Builtin.append_,aO ht,aO hk,sizeOf,typeInfo,hi,hs.len,me,hs.cells,cQ,hst]
def Fi (P:Program) (I:Ft) (w:World) (U:TypeId) (v:Value) (sz:Nat) (ys:List (List C)):Prop:=
 ∃ news:List Value,Src P sz U v ys.length news w∧∀ (q:Nat) (c:C),ys.flatten[q]?=some c→∃ u:Value,news[q]?=some u∧CR I w u c
theorem RD.src {U e':TypeId} {v:Value} {sz:Nat} {ys:List (List C)} (h:RD I w v ys) (hu:P.underlying U=some (.slice e')) (hs:∀ x∈ys,x.length=sz):Fi P I w U v sz ys:=by
 rcases h with⟨⟨a0,c0,rfl,hc0⟩,rfl⟩ | ⟨b,off,cap,szx,f,rfl,jL,h1⟩
 ·cases a0 with
  |none=>exact⟨[],Src.ofNil w hu c0,by simp⟩
  |some x=>exact⟨[],Src.ofSlice w hu x 0 c0 [] (by simp) (by simp) (by simp),by simp⟩
 ·have h':RD I w (.slice (some ⟨b,off,none⟩) ys.length cap) ys:=.inr ⟨b,off,cap,szx,f,rfl,jL,h1⟩
  obtain⟨news,tM,HY,HZ,Kg⟩:=h'.flat hs
  exact⟨news,Src.ofSlice w hu ⟨b,off,none⟩ _ _ news tM (fun q u hq=>by rw[cQ];exact(HY q u hq).1) Kg,HZ⟩
theorem UP {U:TypeId} {st:ByteArray} (hu:P.underlying U=some .string):Fi P I w U (.string st) 1 (j8 st):=by
 have hl:(j8 st).length=st.size:=by simp[j8]
 refine⟨Go.byteCells st,by rw[hl];exact Src.ofString w hu st,fun q c hq=>?_⟩
 have:=lV (sz:=1) (j8 st) (by simp[j8]) q 0 (by omega)
 rw[Nat.mul_one,dL] at this
 rw[this] at hq
 simp only[j8,ba] at hq
 unfold Go.byteCells
 rw[ba]
 cases hb:st.data.toList[q]? with
 |none=>simp[hb] at hq
 |some b=>
  simp only[hb,bK,fE,bG,am] at hq
  exact⟨_,rfl,by rw[← hq];exact .lit _ rfl⟩
theorem A0 {T U ty:TypeId} {X:Operand} {vy:Value} (hst:St G n I0 M w0 I β ob s a w) (hd:∀ d,o.dst=some d→d<n)
 (pp:bR tr o=(match X with | .tmp t=>some t | _=>none)) (h:dX P T (ev G s X) y K) (hy:∀ ys e,P.underlying T=some (.slice e)→∀ j,ti P e=some j→y=.c (.sl ys)→(∀ x∈ys,x.length=j.size)→Fi P I w U vy j.size ys) :
 ∃ z u w',K z∧(Builtin.append_ #[T,U] ty #[a.eval X,vy]).run P w=.ok u w'∧SE G n I0 M w0 (s.after tr o z) (a.put o.dst u) w':=by
 have hx:=bB hst X
 unfold dX at h
 split at h
 ·rename_i e _ _ _ _ _ _ E es hi uY
  rw[uY] at hx
  obtain⟨j,d,h1,h2,h3,_⟩:=bn hi
  have pm:=df h3
  subst pm
  split at h
  ·rename_i sz by_ _ z _ _ rL
   obtain⟨j',d',jw,nQ,_,ek,qD,_,lQ,_⟩:=bn rL
   simp only at lQ ek qD
   obtain⟨⟨hp,tL,hE,pz⟩,h⟩:=h
   split at lQ
   ·rename_i zv rF
    split at h
    ·rename_i ys
     obtain⟨⟨hb,ce,uT⟩,h⟩:=h
     obtain⟨news,pq,HZ⟩:=hy ys e h2 _ rL rfl uT
     simp only at pq
     have rf:=kz (I:=I) (w:=w) lQ.symm
     have OV:zv.cells.size=sz:=by rw[rf.1,tL]
     have Ug:=hx.2
     have tK:=hx.1
     have CN:(ev G s X).isOw=true:=by rw[uY];rfl
     by_cases yJ:ys=[]
     ·
      subst yJ
      simp only[List.isEmpty_nil,cJ] at h
      obtain⟨xa,xk,wx,hxk⟩:∃ (xa:Option Addr) (xk:Nat),a.eval X=.slice xa es.length xk∧es.length≤xk:=by
       rcases Ug with⟨_,_,b,hv⟩ | ⟨_,blk,cap,_,_,_,_,hv,_,_,hc,_⟩
       ·exact⟨b,_,hv,ae _⟩
       ·exact⟨_,cap,hv,hc⟩
      refine⟨_,a.eval X,w,h,by
       have hn0:news=[]:=co (by rw[pq.newsLen];simp)
       subst hn0
       rw[wx];exact lj T U ty e j' h2 jw xa _ xk hxk (by rw[← ek];exact pq),?_⟩
      rw[eA]
      refine .fin hst hd (o':=Pr ob X) ?_ fun b hb=>?_
      ·simp only[LR]
       refine⟨tK,?_⟩
       rcases Ug with Ug | ⟨e',blk,cap,cur,sz',e1,e2,e3⟩
       ·exact .inl Ug
       ·exact .inr ⟨e',blk,cap,cur,sz',e1,e2,e3⟩
      ·cases X with
       |tmp t=>exact⟨hst.obnd _ b hb,fun i=>hst.obx _ b i hb,fun L hL=>⟨t,hst.oinj _ _ b hL hb,pp,CN⟩⟩
       |_=>cases hb
     ·have rE:ys.isEmpty=false:=by simpa using yJ
      simp only[rE,aS,dm] at h
      have tM:=pq.newsLen
      have Kg:=pq.one
      have po:Src P j'.size U vy ys.length news w:=by rw[← ek];exact pq
      have grun:∀ (base:Option Addr) (sLen sCap:Nat) (olds:List Value) (_:(Builtin.firstCells j'.size sLen (.slice base sLen sCap)).run P w.drew=.ok olds.toArray w.drew) (_:sCap<sLen+ys.length) (_:sLen+ys.length≤9223372036854775807) (_:Builtin.nextslicecap (sLen+ys.length) sCap*j'.bytes≤281474976710656),
       (Builtin.append_ #[T,U] ty #[.slice base sLen sCap,vy]).run P w=.ok (.slice (some ⟨w.heap.size,0,none⟩) (sLen+ys.length) (grownCap w (sLen+ys.length) sCap e))
        (w.drew.alloc (.cells (olds.toArray++news.toArray++Builtin.zeroCells zv.cells (grownCap w (sLen+ys.length) sCap e - (sLen+ys.length))) e)):=by
       intro base sLen sCap olds ho hg h63 ri
       have:=run_append_grow_src (P:=P) w T U ty e j' zv h2 jw rF base sLen sCap olds ho vy ys.length news po hg (by omega) ri
       rw[this];simp
      have hm0:0<ys.length:=iK.2 yJ
      have dh:∀ x∈es++ys,x.length=sz:=fun x hx=>by rcases aY.1 hx with hx | hx;exact pz x hx;exact uT x hx
      have OW:es.length+ys.length≤maxLen:=by unfold maxLen;omega
      have flat_eq:(es++ys).flatten=es.flatten++ys.flatten:=by simp
      have hfe:=bz es pz
      have grownCase:∀ (olds:List Value) (cap0:Nat),olds.length=es.length*sz→(∀ (q:Nat) (c:C),es.flatten[q]?=some c→∃ u,olds[q]?=some u∧CR I w u c)→
       SE G n I0 M w0 (s.after tr o (.ow (some (e,sz)) (es++ys))) (a.put o.dst (.slice (some ⟨w.heap.size,0,none⟩) (es.length+ys.length) (grownCap w (es.length+ys.length) cap0 e)))
        (w.drew.alloc (.cells (olds.toArray++news.toArray++Builtin.zeroCells zv.cells (grownCap w (es.length+ys.length) cap0 e - (es.length+ys.length))) e)):=by
       intro olds cap0 wy AV
       have ga:=grownCap_ge w (es.length+ys.length) cap0 e
       have HW:=grownCap_le_maxLen w (es.length+ys.length) cap0 e OW
       have:=SE.finRow (tr:=tr) (o:=o) (e:=e) (cap:=grownCap w (es.length+ys.length) cap0 e) (sz:=sz) (es:=es++ys)
        (cur:=olds.toArray++news.toArray++Builtin.zeroCells zv.cells (grownCap w (es.length+ys.length) cap0 e - (es.length+ys.length))) hst hd (w1:=w.drew) hst.drew rfl
        (by simpa using ga) HW (by
         simp only[Array.size_append,ea,size_zeroCells,OV,wy,tM,← cR]
         congr 1
         omega) dh (fun q c hq=>by
          rw[flat_eq] at hq
          have ly:∃ u,(olds++news)[q]?=some u∧CR I w u c:=by
           by_cases oH:q<es.flatten.length
           ·rw[aC oH] at hq
            obtain⟨u,hu,ja⟩:=AV q c hq
            exact⟨u,by rw[aC (by omega)];exact hu,ja⟩
           ·rw[aJ (by omega)] at hq
            obtain⟨u,hu,ja⟩:=HZ _ c hq
            refine⟨u,?_,ja⟩
            rw[aJ (by omega),← hu]
            congr 1;omega
          obtain⟨u,hu,ja⟩:=ly
          rw[kA olds news _ q u hu];exact ja) (fun _ _ _=>rfl)
       rw[ax] at this
       exact this
      rcases Ug with⟨hob0,_,xa,wx⟩ | ⟨e',blk,cap,cur,sz',Kh,Ib,wx,hbb,fQ,hc,HW,iE,u3,hIb⟩
      ·cases xa with
       |none=>
        have EX:es=[]:=by
         rcases tK.sl_inv with⟨_,h1⟩ | ⟨b,off,cap,_,_,hv,_⟩
         ·exact h1
         ·rw[wx] at hv;cases hv
        subst EX
        have bA:=grun none 0 0 [] (by simpa using run_firstCells_none (P:=P) w.drew j'.size 0 0 0) (by simp only[aK,ah] at ce;omega) (by simp only[aK,ah] at ce;omega)
         (by rw[← qD];simp only[aK] at hb;exact g9 (by omega) hb)
        simp only[ah] at bA
        have:=grownCase [] 0 (by simp) (by simp)
        simp only[fS,aK,ah,en] at this h
        refine⟨_,_,_,h,by rw[wx];exact bA,?_⟩
        simpa using this
       |some xaddr=>
        rw[wx] at tK
        obtain⟨olds,wy,holds,AV,_⟩:=tK.oldsOf pz
        have bA:=grun (some xaddr) es.length es.length olds (iL (P:=P) w.drew j'.size es.length xaddr es.length es.length olds (by rw[← ek];exact wy) (by simpa using holds)) (by omega) (by omega) (by rw[← qD];exact g9 (by omega) hb)
        exact⟨_,_,_,h,by rw[wx];exact bA,grownCase olds es.length wy AV⟩
      ·have hee:e'=e∧sz'=sz:=by
        rcases hE with hE | hE
        ·rw[hE] at Ib;cases Ib
        ·rw[hE] at Ib;cases Ib;exact⟨rfl,rfl⟩
       obtain⟨rfl,rfl⟩:=hee
       rw[wx] at tK
       obtain⟨olds,wy,holds,AV,_⟩:=tK.flat pz
       by_cases me:es.length+ys.length≤cap
       ·
        cases X with
        |tmp t=>
         have rM:ob (.t t)=some blk:=Kh
         have bA:=iF (P:=P) (w:=w) T U ty e' j' h2 jw blk 0 es.length cap cur (.of e') fQ RT.of_ok vy ys.length news po me (by
          rw[← ek,tM,iE,ah,← cR];exact aP _ me)
         rw[← ek] at bA
         simp only[ah] at bA
         refine⟨_,_,_,h,by rw[wx];exact bA,?_⟩
         have uU:blk<w.heap.size:=(be.1 fQ).1
         have Mi:es.length*sz'+news.length≤cur.size:=by
          rw[tM,iE,← cR];exact aP _ me
         have bH:=hst.clr t
         have EY:∀ o,o<es.length*sz'→(cur.toList.take (es.length*sz')++news++cur.toList.drop (es.length*sz'+news.length)).toArray[o]?=cur[o]?:=fun o ho=>by
          simp only[cM,bU]
          rw[aC (by simp;omega),cu,if_pos ho,aQ]
         have mc:∀ o,I blk o→(w.setRow blk (cur.toList.take (es.length*sz')++news++cur.toList.drop (es.length*sz'+news.length)).toArray).cell? ⟨blk,o,none⟩=w.cell? ⟨blk,o,none⟩:=fun o ho=>by
          rw[cell_setRow_same w blk o cur _ e' (0,0) fQ,eY w blk o cur e' (0,0) fQ]
          exact EY o (hIb o ho)
         have OX:∀ L,upL ob (.t t) none L≠some blk:=fun L hL=>by
          simp only[upL] at hL
          split at hL
          ·cases hL
          ·rename_i gv;exact gv (hst.oinj _ _ blk hL rM)
         have hg:w.grb (w.setRow blk (cur.toList.take (es.length*sz')++news++cur.toList.drop (es.length*sz'+news.length)).toArray) (some blk):=
          ⟨rfl,rfl,rfl,by simp,fun k _ hk=>jy w blk k _ (fun e=>hk (by rw[e])),ae _⟩
         have lS:=bH.growRow hg hbb mc OX (fun i=>hst.obx _ blk i rM) (I':=fun b o=>I b o∨(b=blk∧o<(es.length+ys.length)*sz'))
          (fun _ _ h=>.inl h) (fun b o hb=>by rcases hb with hb | hb;exact .inl hb;exact .inr hb.1) (by simpa using uU)
         have j7:∀ b o,I b o→(I b o∨(b=blk∧o<(es.length+ys.length)*sz'))∧
          (w.setRow blk (cur.toList.take (es.length*sz')++news++cur.toList.drop (es.length*sz'+news.length)).toArray).cell? ⟨b,o,none⟩=w.cell? ⟨b,o,none⟩:=
          fun b o hb=>⟨.inl hb,hst.keeps hg (fun r e o ho=>by cases e;exact mc o ho) b o hb⟩
         have qE:=kY w blk cur (cur.toList.take (es.length*sz')++news++cur.toList.drop (es.length*sz'+news.length)).toArray e' (0,0) fQ
         have CO:(cur.toList.take (es.length*sz')++news++cur.toList.drop (es.length*sz'+news.length)).toArray.size=cap*sz':=by
          simp only[ea,ax,aZ,cY,bJ];omega
         have ja:CR (fun b o=>I b o∨(b=blk∧o<(es.length+ys.length)*sz')) (w.setRow blk (cur.toList.take (es.length*sz')++news++cur.toList.drop (es.length*sz'+news.length)).toArray)
          (.slice (some ⟨blk,0,none⟩) (es++ys).length cap) (.sl (es++ys)):=
          CR.row qE (by simpa using me) dh (fun q c hq=>by
           have oH:=(ak.1 hq).1
           rw[bz _ dh,ax,cR] at oH
           refine⟨by rw[CO,← iE];omega,?_⟩
           rw[flat_eq] at hq
           by_cases XY:q<es.flatten.length
           ·rw[aC XY] at hq
            obtain⟨u,hu,ja⟩:=AV q c hq
            have d5:=(holds q u hu).1
            rw[ah,eY w blk q cur e' (0,0) fQ] at d5
            rw[ao,EY q (by omega),d5]
            exact ja.mono j7
           ·rw[aJ (by omega)] at hq
            obtain⟨u,hu,ja⟩:=HZ _ c hq
            have:(cur.toList.take (es.length*sz')++news++cur.toList.drop (es.length*sz'+news.length)).toArray[q]?=some u:=by
             simp only[cM]
             have Ie:(cur.toList.take (es.length*sz')).length=es.length*sz':=by
              have mL:cur.toList.length=cur.size:=bJ
              rw[aZ,mL];omega
             rw[aC (by rw[ax,Ie];omega),aJ (by rw[Ie];omega),← hu,Ie,hfe]
            rw[ao,this]
            exact ja.mono j7) (fun o ho=>.inr ⟨rfl,by simpa using ho⟩)
         have AL:s.after tr o (.ow (some (e',sz')) (es++ys))=(s.clr t).put o.dst (.ow (some (e',sz')) (es++ys)):=by
          unfold S.after
          rw[pp]
          simp only[S.use]
          have:(s.fr t).isOw=true:=CN
          rw[if_pos this]
         rw[AL]
         cases kQ:o.dst with
         |none=>exact⟨_,_,_,lS⟩
         |some dd=>
          refine⟨_,_,_,lS.put dd (hd dd kQ) (o:=some blk) ?_ fun b hb=>?_⟩
          ·have rh:Value.slice (some ⟨blk,0,none⟩) (es.length+ys.length) cap=Value.slice (some ⟨blk,0,none⟩) (es++ys).length cap:=by rw[ax]
           rw[rh]
           simp only[LR]
           refine⟨ja,.inr ⟨e',blk,cap,_,sz',rfl,rfl,rfl,hbb,qE,by simpa using me,HW,CO,dh,fun o ho=>?_⟩⟩
           rw[ax]
           rcases ho with ho | ho
           ·have:=hIb o ho;rw[cR];omega
           ·exact ho.2
          ·simp only[am] at hb
           subst hb
           refine⟨⟨by simpa using uU,hbb⟩,fun L hL=>?_,fun i=>hst.obx _ blk i rM⟩
           simp only[upL] at hL
           split at hL
           ·cases hL
           ·split at hL
            ·cases hL
            ·rename_i h5 h6;exact h6 (hst.oinj _ _ blk hL rM)
        |_=>cases Kh
       ·have bA:=grun (some ⟨blk,0,none⟩) es.length cap olds (iL (P:=P) w.drew j'.size es.length ⟨blk,0,none⟩ es.length cap olds (by rw[← ek];exact wy) (fun q u hq=>by rw[cQ];simpa using(holds q u hq).1)) (by omega) (by omega) (by rw[← qD];exact g9 (by omega) hb)
        exact⟨_,_,_,h,by rw[wx];exact bA,grownCase olds cap wy AV⟩
    ·exact h.elim
   ·cases lQ
  ·exact h.elim
 ·exact h.elim
theorem Fj {T U ty:TypeId} {t0:Tmp} {E:Option (TypeId×Nat)} {es:List (List C)} {vy:Value} (hst:St G n I0 M w0 I β ob s a w) (hd:∀ d,o.dst=some d→d<n)
 (pp:bR tr o=some t0) (uY:s.fr t0=.ow E es) (h:t6 P [T,U] E es y K) (hy:∀ ys e,P.underlying T=some (.slice e)→∀ j,ti P e=some j→y=.c (.sl ys)→(∀ x∈ys,x.length=j.size)→Fi P I w U vy j.size ys) :
 ∃ z u w',K z∧(Builtin.append_ #[T,U] ty #[a.tmps.getD t0 undef,vy]).run P w=.ok u w'∧SE G n I0 M w0 (s.after tr o z) (a.put o.dst u) w':=by
 have hx:=hst.fr t0
 rw[uY] at hx
 simp only[t6] at h
 obtain⟨rfl,h⟩:=h
 split at h
 ·rename_i e _ _ _ _ _ _ hi
  obtain⟨j,d,h1,h2,h3,_⟩:=bn hi
  have pm:=df h3
  subst pm
  split at h
  ·rename_i sz by_ _ z _ _ rL
   obtain⟨j',d',jw,nQ,_,ek,qD,_,lQ,_⟩:=bn rL
   simp only at lQ ek qD
   obtain⟨⟨hp,tL,hE,pz⟩,h⟩:=h
   split at lQ
   ·rename_i zv rF
    split at h
    ·rename_i y1
     obtain⟨⟨hb,ce,EZ⟩,h⟩:=h
     have uT:∀ x∈[y1],x.length=sz:=fun x hx=>by rw[aN] at hx;subst hx;exact EZ
     obtain⟨news,pq,HZ⟩:=hy [y1] e h2 _ rL rfl uT
     simp only at pq
     have rf:=kz (I:=I) (w:=w) lQ.symm
     have OV:zv.cells.size=sz:=by rw[rf.1,tL]
     have Ug:=hx.2
     have tK:=hx.1
     have CN:(s.fr t0).isOw=true:=by rw[uY];rfl
     have yJ:([y1]:List (List C))≠[]:=by simp
     have tM:=pq.newsLen
     have Kg:=pq.one
     have po:Src P j'.size T vy [y1].length news w:=by rw[← ek];exact pq
     have grun:∀ (base:Option Addr) (sLen sCap:Nat) (olds:List Value) (_:(Builtin.firstCells j'.size sLen (.slice base sLen sCap)).run P w.drew=.ok olds.toArray w.drew) (_:sCap<sLen+[y1].length) (_:sLen+[y1].length≤9223372036854775807) (_:Builtin.nextslicecap (sLen+[y1].length) sCap*j'.bytes≤281474976710656),
      (Builtin.append_ #[T,T] ty #[.slice base sLen sCap,vy]).run P w=.ok (.slice (some ⟨w.heap.size,0,none⟩) (sLen+[y1].length) (grownCap w (sLen+[y1].length) sCap e))
       (w.drew.alloc (.cells (olds.toArray++news.toArray++Builtin.zeroCells zv.cells (grownCap w (sLen+[y1].length) sCap e - (sLen+[y1].length))) e)):=by
      intro base sLen sCap olds ho hg h63 ri
      have:=run_append_grow_src (P:=P) w T T ty e j' zv h2 jw rF base sLen sCap olds ho vy [y1].length news po hg (by omega) ri
      rw[this];simp
     have hm0:0<[y1].length:=iK.2 yJ
     have dh:∀ x∈es++[y1],x.length=sz:=fun x hx=>by rcases aY.1 hx with hx | hx;exact pz x hx;exact uT x hx
     have OW:es.length+[y1].length≤maxLen:=by unfold maxLen;omega
     have flat_eq:(es++[y1]).flatten=es.flatten++[y1].flatten:=by simp
     have hfe:=bz es pz
     have grownCase:∀ (olds:List Value) (cap0:Nat),olds.length=es.length*sz→(∀ (q:Nat) (c:C),es.flatten[q]?=some c→∃ u,olds[q]?=some u∧CR I w u c)→
      SE G n I0 M w0 (s.after tr o (.hh none (some (e,sz)) (es++[y1]))) (a.put o.dst (.slice (some ⟨w.heap.size,0,none⟩) (es.length+[y1].length) (grownCap w (es.length+[y1].length) cap0 e)))
       (w.drew.alloc (.cells (olds.toArray++news.toArray++Builtin.zeroCells zv.cells (grownCap w (es.length+[y1].length) cap0 e - (es.length+[y1].length))) e)):=by
      intro olds cap0 wy AV
      have ga:=grownCap_ge w (es.length+[y1].length) cap0 e
      have HW:=grownCap_le_maxLen w (es.length+[y1].length) cap0 e OW
      have:=SE.finRowH (tr:=tr) (o:=o) (e:=e) (cap:=grownCap w (es.length+[y1].length) cap0 e) (sz:=sz) (es:=es++[y1])
       (cur:=olds.toArray++news.toArray++Builtin.zeroCells zv.cells (grownCap w (es.length+[y1].length) cap0 e - (es.length+[y1].length))) hst hd (w1:=w.drew) hst.drew rfl
       (by simpa using ga) HW (by
        simp only[Array.size_append,ea,size_zeroCells,OV,wy,tM,← cR]
        congr 1
        omega) dh (fun q c hq=>by
         rw[flat_eq] at hq
         have ly:∃ u,(olds++news)[q]?=some u∧CR I w u c:=by
          by_cases oH:q<es.flatten.length
          ·rw[aC oH] at hq
           obtain⟨u,hu,ja⟩:=AV q c hq
           exact⟨u,by rw[aC (by omega)];exact hu,ja⟩
          ·rw[aJ (by omega)] at hq
           obtain⟨u,hu,ja⟩:=HZ _ c hq
           refine⟨u,?_,ja⟩
           rw[aJ (by omega),← hu]
           congr 1;omega
         obtain⟨u,hu,ja⟩:=ly
         rw[kA olds news _ q u hu];exact ja) (fun _ _ _=>rfl)
      rw[ax] at this
      exact this
     rcases Ug with⟨hob0,_,xa,wx⟩ | ⟨e',blk,cap,cur,sz',Kh,Ib,wx,hbb,fQ,hc,HW,iE,u3,hIb⟩
     ·cases xa with
      |none=>
       have EX:es=[]:=by
        rcases tK.sl_inv with⟨_,h1⟩ | ⟨b,off,cap,_,_,hv,_⟩
        ·exact h1
        ·rw[wx] at hv;cases hv
       subst EX
       have bA:=grun none 0 0 [] (by simpa using run_firstCells_none (P:=P) w.drew j'.size 0 0 0) (by simp only[aK,ah] at ce;omega) (by simp only[aK,ah] at ce;omega)
        (by rw[← qD];simp only[aK] at hb;exact g9 (by omega) hb)
       simp only[ah] at bA
       have:=grownCase [] 0 (by simp) (by simp)
       simp only[fS,aK,ah,en] at this h
       refine⟨_,_,_,h,by rw[wx];exact bA,?_⟩
       simpa using this
      |some xaddr=>
       rw[wx] at tK
       obtain⟨olds,wy,holds,AV,_⟩:=tK.oldsOf pz
       have bA:=grun (some xaddr) es.length es.length olds (iL (P:=P) w.drew j'.size es.length xaddr es.length es.length olds (by rw[← ek];exact wy) (by simpa using holds)) (by omega) (by omega) (by rw[← qD];exact g9 (by omega) hb)
       exact⟨_,_,_,h,by rw[wx];exact bA,grownCase olds es.length wy AV⟩
     ·have hee:e'=e∧sz'=sz:=by
       rcases hE with hE | hE
       ·rw[hE] at Ib;cases Ib
       ·rw[hE] at Ib;cases Ib;exact⟨rfl,rfl⟩
      obtain⟨rfl,rfl⟩:=hee
      rw[wx] at tK
      obtain⟨olds,wy,holds,AV,_⟩:=tK.flat pz
      by_cases me:es.length+[y1].length≤cap
      ·
       have rM:ob (.t t0)=some blk:=Kh
       have bA:=iF (P:=P) (w:=w) T T ty e' j' h2 jw blk 0 es.length cap cur (.of e') fQ RT.of_ok vy [y1].length news po me (by
        rw[← ek,tM,iE,ah,← cR];exact aP _ me)
       rw[← ek] at bA
       simp only[ah] at bA
       refine⟨_,_,_,h,by rw[wx];exact bA,?_⟩
       have uU:blk<w.heap.size:=(be.1 fQ).1
       have Mi:es.length*sz'+news.length≤cur.size:=by
        rw[tM,iE,← cR];exact aP _ me
       have bH:=hst.clr t0
       have EY:∀ o,o<es.length*sz'→(cur.toList.take (es.length*sz')++news++cur.toList.drop (es.length*sz'+news.length)).toArray[o]?=cur[o]?:=fun o ho=>by
        simp only[cM,bU]
        rw[aC (by simp;omega),cu,if_pos ho,aQ]
       have mc:∀ o,I blk o→(w.setRow blk (cur.toList.take (es.length*sz')++news++cur.toList.drop (es.length*sz'+news.length)).toArray).cell? ⟨blk,o,none⟩=w.cell? ⟨blk,o,none⟩:=fun o ho=>by
        rw[cell_setRow_same w blk o cur _ e' (0,0) fQ,eY w blk o cur e' (0,0) fQ]
        exact EY o (hIb o ho)
       have OX:∀ L,upL ob (.t t0) none L≠some blk:=fun L hL=>by
        simp only[upL] at hL
        split at hL
        ·cases hL
        ·rename_i gv;exact gv (hst.oinj _ _ blk hL rM)
       have hg:w.grb (w.setRow blk (cur.toList.take (es.length*sz')++news++cur.toList.drop (es.length*sz'+news.length)).toArray) (some blk):=
        ⟨rfl,rfl,rfl,by simp,fun k _ hk=>jy w blk k _ (fun e=>hk (by rw[e])),ae _⟩
       have lS:=bH.growRow hg hbb mc OX (fun i=>hst.obx _ blk i rM) (I':=I)
        (fun _ _ h=>h) (fun b o hb=>.inl hb) (by simpa using uU)
       have j7:∀ b o,I b o→I b o∧
        (w.setRow blk (cur.toList.take (es.length*sz')++news++cur.toList.drop (es.length*sz'+news.length)).toArray).cell? ⟨b,o,none⟩=w.cell? ⟨b,o,none⟩:=
        fun b o hb=>⟨hb,hst.keeps hg (fun r e o ho=>by cases e;exact mc o ho) b o hb⟩
       have qE:=kY w blk cur (cur.toList.take (es.length*sz')++news++cur.toList.drop (es.length*sz'+news.length)).toArray e' (0,0) fQ
       have CO:(cur.toList.take (es.length*sz')++news++cur.toList.drop (es.length*sz'+news.length)).toArray.size=cap*sz':=by
        simp only[ea,ax,aZ,cY,bJ];omega
       have ja:∀ (q:Nat) (c:C),(es++[y1]).flatten[q]?=some c→CR I (w.setRow blk (cur.toList.take (es.length*sz')++news++cur.toList.drop (es.length*sz'+news.length)).toArray) ((cur.toList.take (es.length*sz')++news++cur.toList.drop (es.length*sz'+news.length)).toArray.getD q undef) c:=
        (fun q c hq=>by
         have oH:=(ak.1 hq).1
         rw[bz _ dh,ax,cR] at oH
         rw[flat_eq] at hq
         by_cases XY:q<es.flatten.length
         ·rw[aC XY] at hq
          obtain⟨u,hu,ja⟩:=AV q c hq
          have d5:=(holds q u hu).1
          rw[ah,eY w blk q cur e' (0,0) fQ] at d5
          rw[ao,EY q (by omega),d5]
          exact ja.mono j7
         ·rw[aJ (by omega)] at hq
          obtain⟨u,hu,ja⟩:=HZ _ c hq
          have:(cur.toList.take (es.length*sz')++news++cur.toList.drop (es.length*sz'+news.length)).toArray[q]?=some u:=by
           simp only[cM]
           have Ie:(cur.toList.take (es.length*sz')).length=es.length*sz':=by
            have mL:cur.toList.length=cur.size:=bJ
            rw[aZ,mL];omega
           rw[aC (by rw[ax,Ie];omega),aJ (by rw[Ie];omega),← hu,Ie,hfe]
          rw[ao,this]
          exact ja.mono j7)
       have AL:s.after tr o (.hh none (some (e',sz')) (es++[y1]))=(s.clr t0).put o.dst (.hh none (some (e',sz')) (es++[y1])):=by
        unfold S.after
        rw[pp]
        simp only[S.use]
        have:(s.fr t0).isOw=true:=CN
        rw[if_pos this]
       rw[AL]
       cases kQ:o.dst with
       |none=>exact⟨_,_,_,lS⟩
       |some dd=>
        refine⟨_,_,_,lS.put dd (hd dd kQ) (o:=some blk) ?_ fun b hb=>?_⟩
        ·have rh:Value.slice (some ⟨blk,0,none⟩) (es.length+[y1].length) cap=Value.slice (some ⟨blk,0,none⟩) (es++[y1]).length cap:=by rw[ax]
         rw[rh]
         simp only[LR]
         refine⟨(fun _ h=>by cases h),e',blk,cap,_,sz',rfl,rfl,rfl,hbb,qE,by simpa using me,HW,CO,dh,ja,fun o ho=>?_,fun o ho=>?_⟩
         ·rw[ax,da,Nat.add_sub_cancel] at ho
          obtain⟨u,hu⟩:∃ u,olds[o]?=some u:=⟨_,aj (by omega)⟩
          have:=(holds o u hu).2
          rwa [ah] at this
         ·rw[ax,da,Nat.add_sub_cancel]
          exact hIb o ho
        ·simp only[am] at hb
         subst hb
         refine⟨⟨by simpa using uU,hbb⟩,fun L hL=>?_,fun i=>hst.obx _ blk i rM⟩
         simp only[upL] at hL
         split at hL
         ·cases hL
         ·split at hL
          ·cases hL
          ·rename_i h5 h6;exact h6 (hst.oinj _ _ blk hL rM)
      ·have bA:=grun (some ⟨blk,0,none⟩) es.length cap olds (iL (P:=P) w.drew j'.size es.length ⟨blk,0,none⟩ es.length cap olds (by rw[← ek];exact wy) (fun q u hq=>by rw[cQ];simpa using(holds q u hq).1)) (by omega) (by omega) (by rw[← qD];exact g9 (by omega) hb)
       exact⟨_,_,_,h,by rw[wx];exact bA,grownCase olds cap wy AV⟩
    ·exact h.elim
   ·cases lQ
  ·exact h.elim
 ·exact h.elim
theorem t7 {z:Array Value} {m:Nat} {u:Value} (h:u∈Builtin.zeroCells z m):u∈z:=by
 unfold Builtin.zeroCells at h
 simp only[Array.mem_map,Array.mem_range] at h
 obtain⟨i,hi,rfl⟩:=h
 have hz:0<z.size:=Nat.pos_of_ne_zero fun h=>by rw[h] at hi;simp at hi
 have bF:i % z.size<z.size:=kU _ hz
 rw[getElem!_pos z _ bF]
 exact Array.getElem_mem bF
theorem xG {T U ty:TypeId} {t0:Tmp} {E:Option (TypeId×Nat)} {es:List (List C)} {vy:Value} (hst:St G n I0 M w0 I β ob s a w) (hd:∀ d,o.dst=some d→d<n)
 (pp:bR tr o=some t0) (uY:s.fr t0=.gs none E es) (h:mN P [T,U] E es y K) (hy:∀ ys e,P.underlying T=some (.slice e)→∀ j,ti P e=some j→y=.c (.sl ys)→(∀ x∈ys,x.length=j.size)→Fi P I w U vy j.size ys) :
 ∃ z u w',K z∧(Builtin.append_ #[T,U] ty #[a.tmps.getD t0 undef,vy]).run P w=.ok u w'∧SE G n I0 M w0 (s.after tr o z) (a.put o.dst u) w':=by
 have hx:=hst.fr t0
 rw[uY] at hx
 simp only[mN] at h
 obtain⟨rfl,h⟩:=h
 split at h
 ·rename_i e _ _ _ _ _ _ hi
  obtain⟨j,d,h1,h2,h3,_⟩:=bn hi
  have pm:=df h3
  subst pm
  split at h
  ·rename_i sz by_ _ z _ _ rL
   obtain⟨j',d',jw,nQ,_,ek,qD,_,lQ,_⟩:=bn rL
   simp only at lQ ek qD
   obtain⟨⟨hp,tL,hE,pz⟩,h⟩:=h
   split at lQ
   ·rename_i zv rF
    split at h
    ·rename_i y1
     obtain⟨⟨hb,ce,EZ⟩,h⟩:=h
     have uT:∀ x∈[y1],x.length=sz:=fun x hx=>by rw[aN] at hx;subst hx;exact EZ
     obtain⟨news,pq,HZ⟩:=hy [y1] e h2 _ rL rfl uT
     simp only at pq
     have rf:=kz (I:=I) (w:=w) lQ.symm
     have OV:zv.cells.size=sz:=by rw[rf.1,tL]
     have zone:∀ u∈zv.cells,u.oneCell'=true:=fun u hu=>by
      obtain⟨q,hq,rfl⟩:=fk.1 hu
      have oH:q<z.length:=by rw[← rf.1];exact hq
      have:=(rf.2 q _ (aj oH)).oneCell
      simpa[ay hq,hq] using this
     have Ug:=hx.2
     have CN:(s.fr t0).isOw=true:=by rw[uY];rfl
     have yJ:([y1]:List (List C))≠[]:=by simp
     have tM:=pq.newsLen
     have Kg:=pq.one
     have po:Src P j'.size T vy [y1].length news w:=by rw[← ek];exact pq
     have grun:∀ (base:Option Addr) (sLen sCap:Nat) (olds:List Value) (_:(Builtin.firstCells j'.size sLen (.slice base sLen sCap)).run P w.drew=.ok olds.toArray w.drew) (_:sCap<sLen+[y1].length) (_:sLen+[y1].length≤9223372036854775807) (_:Builtin.nextslicecap (sLen+[y1].length) sCap*j'.bytes≤281474976710656),
      (Builtin.append_ #[T,T] ty #[.slice base sLen sCap,vy]).run P w=.ok (.slice (some ⟨w.heap.size,0,none⟩) (sLen+[y1].length) (grownCap w (sLen+[y1].length) sCap e))
       (w.drew.alloc (.cells (olds.toArray++news.toArray++Builtin.zeroCells zv.cells (grownCap w (sLen+[y1].length) sCap e - (sLen+[y1].length))) e)):=by
      intro base sLen sCap olds ho hg h63 ri
      have:=run_append_grow_src (P:=P) w T T ty e j' zv h2 jw rF base sLen sCap olds ho vy [y1].length news po hg (by omega) ri
      rw[this];simp
     have hm0:0<[y1].length:=iK.2 yJ
     have dh:∀ x∈es++[y1],x.length=sz:=fun x hx=>by rcases aY.1 hx with hx | hx;exact pz x hx;exact uT x hx
     have OW:es.length+[y1].length≤maxLen:=by unfold maxLen;omega
     have flat_eq:(es++[y1]).flatten=es.flatten++[y1].flatten:=by simp
     have hfe:=bz es pz
     have grownCase:∀ (olds:List Value) (cap0:Nat),olds.length=es.length*sz→(∀ (q:Nat) (c:C),es.flatten[q]?=some c→∃ u,olds[q]?=some u∧CR I w u c)→(∀ u∈olds,u.oneCell'=true)→
      SE G n I0 M w0 (s.after tr o (.gs none (some (e,sz)) (es++[y1]))) (a.put o.dst (.slice (some ⟨w.heap.size,0,none⟩) (es.length+[y1].length) (grownCap w (es.length+[y1].length) cap0 e)))
       (w.drew.alloc (.cells (olds.toArray++news.toArray++Builtin.zeroCells zv.cells (grownCap w (es.length+[y1].length) cap0 e - (es.length+[y1].length))) e)):=by
      intro olds cap0 wy AV ho1
      have ga:=grownCap_ge w (es.length+[y1].length) cap0 e
      have HW:=grownCap_le_maxLen w (es.length+[y1].length) cap0 e OW
      have:=SE.finRowG (tr:=tr) (o:=o) (e:=e) (cap:=grownCap w (es.length+[y1].length) cap0 e) (sz:=sz) (es:=es++[y1])
       (cur:=olds.toArray++news.toArray++Builtin.zeroCells zv.cells (grownCap w (es.length+[y1].length) cap0 e - (es.length+[y1].length))) hst hd (w1:=w.drew) hst.drew rfl
       (by simpa using ga) HW (by
        simp only[Array.size_append,ea,size_zeroCells,OV,wy,tM,← cR]
        congr 1
        omega) dh (fun q c hq=>by
         rw[flat_eq] at hq
         have ly:∃ u,(olds++news)[q]?=some u∧CR I w u c:=by
          by_cases oH:q<es.flatten.length
          ·rw[aC oH] at hq
           obtain⟨u,hu,ja⟩:=AV q c hq
           exact⟨u,by rw[aC (by omega)];exact hu,ja⟩
          ·rw[aJ (by omega)] at hq
           obtain⟨u,hu,ja⟩:=HZ _ c hq
           refine⟨u,?_,ja⟩
           rw[aJ (by omega),← hu]
           congr 1;omega
         obtain⟨u,hu,ja⟩:=ly
         rw[kA olds news _ q u hu];exact ja) (fun u hu=>by
          simp only[Array.mem_append,fF] at hu
          rcases hu with(hu | hu) | hu
          ·exact ho1 u hu
          ·exact Kg u hu
          ·exact zone u (t7 hu)) (fun _ _ _=>rfl)
      rw[ax] at this
      exact this
     rcases Ug with⟨hob0,hE0,EX,xa,wx⟩ | ⟨e',blk,cap,cur,sz',Kh,Ib,wx,hbb,fQ,hc,HW,iE,u3,y0,iY,fU⟩
     ·subst EX
      have nilCase:∀ (base:Option Addr),(Builtin.append_ #[T,T] ty #[.slice base 0 0,vy]).run P w=.ok (.slice (some ⟨w.heap.size,0,none⟩) (0+[y1].length) (grownCap w (0+[y1].length) 0 e))
       (w.drew.alloc (.cells (([]:List Value).toArray++news.toArray++Builtin.zeroCells zv.cells (grownCap w (0+[y1].length) 0 e - (0+[y1].length))) e)):=fun base=>by
       refine grun base 0 0 [] ?_ (by simp) (by simp) (by rw[← qD];exact g9 (by simp) (by simpa using hb))
       cases base with
       |none=>simpa using run_firstCells_none (P:=P) w.drew j'.size 0 0 0
       |some xaddr=>exact iL (P:=P) w.drew j'.size 0 xaddr 0 0 [] (by simp) (by simp)
      have bA:=nilCase xa
      have:=grownCase [] 0 (by simp) (by simp) (by simp)
      simp only[fS,aK,ah,en] at this h bA
      refine⟨_,_,_,h,by rw[wx];exact bA,?_⟩
      simpa using this
     ·have hee:e'=e∧sz'=sz:=by
       rcases hE with hE | hE
       ·rw[hE] at Ib;cases Ib
       ·rw[hE] at Ib;cases Ib;exact⟨rfl,rfl⟩
      obtain⟨rfl,rfl⟩:=hee
      have agG:=aP sz' hc
      obtain⟨olds,wy,ab3⟩:∃ olds:List Value,olds.length=es.length*sz'∧∀ q,q<es.length*sz'→olds[q]?=cur[q]?:=⟨cur.toList.take (es.length*sz'),by rw[aZ];exact ci (by have h9:cur.toList.length=cur.size:=bJ;rw[h9,iE];exact agG),fun q hq=>by rw[cu,if_pos hq,aQ]⟩
      have AV:∀ (q:Nat) (c:C),es.flatten[q]?=some c→∃ u,olds[q]?=some u∧CR I w u c:=fun q c hq=>by
       have oH:=(ak.1 hq).1
       rw[hfe] at oH
       refine⟨cur.getD q undef,?_,y0 q c hq⟩
       rw[ab3 q oH,ao,ay (show q<cur.size by omega)];rfl
      have ho1:∀ u∈olds,u.oneCell'=true:=fun u hu=>by
       obtain⟨q,hq,rfl⟩:=iJ hu
       have h7:=ab3 q (by omega)
       rw[aj hq] at h7
       exact iY _ (eu h7.symm)
      have holds:∀ (q:Nat) (u:Value),olds[q]?=some u→w.cell? ⟨blk,0+q,none⟩=some u:=fun q u hq=>by
       have oH:=(ak.1 hq).1
       rw[ah,eY w blk q cur e' (0,0) fQ,← hq,ab3 q (by omega)]
      by_cases me:es.length+[y1].length≤cap
      ·
       have rM:ob (.t t0)=some blk:=Kh
       have bA:=iF (P:=P) (w:=w) T T ty e' j' h2 jw blk 0 es.length cap cur (.of e') fQ RT.of_ok vy [y1].length news po me (by
        rw[← ek,tM,iE,ah,← cR];exact aP _ me)
       rw[← ek] at bA
       simp only[ah] at bA
       refine⟨_,_,_,h,by rw[wx];exact bA,?_⟩
       have uU:blk<w.heap.size:=(be.1 fQ).1
       have Mi:es.length*sz'+news.length≤cur.size:=by
        rw[tM,iE,← cR];exact aP _ me
       have bH:=hst.clr t0
       have EY:∀ o,o<es.length*sz'→(cur.toList.take (es.length*sz')++news++cur.toList.drop (es.length*sz'+news.length)).toArray[o]?=cur[o]?:=fun o ho=>by
        simp only[cM,bU]
        rw[aC (by simp;omega),cu,if_pos ho,aQ]
       have mc:∀ o,I blk o→(w.setRow blk (cur.toList.take (es.length*sz')++news++cur.toList.drop (es.length*sz'+news.length)).toArray).cell? ⟨blk,o,none⟩=w.cell? ⟨blk,o,none⟩:=fun o ho=>by
        exact absurd ho (fU o)
       have OX:∀ L,upL ob (.t t0) none L≠some blk:=fun L hL=>by
        simp only[upL] at hL
        split at hL
        ·cases hL
        ·rename_i gv;exact gv (hst.oinj _ _ blk hL rM)
       have hg:w.grb (w.setRow blk (cur.toList.take (es.length*sz')++news++cur.toList.drop (es.length*sz'+news.length)).toArray) (some blk):=
        ⟨rfl,rfl,rfl,by simp,fun k _ hk=>jy w blk k _ (fun e=>hk (by rw[e])),ae _⟩
       have lS:=bH.growRow hg hbb mc OX (fun i=>hst.obx _ blk i rM) (I':=I)
        (fun _ _ h=>h) (fun b o hb=>.inl hb) (by simpa using uU)
       have j7:∀ b o,I b o→I b o∧
        (w.setRow blk (cur.toList.take (es.length*sz')++news++cur.toList.drop (es.length*sz'+news.length)).toArray).cell? ⟨b,o,none⟩=w.cell? ⟨b,o,none⟩:=
        fun b o hb=>⟨hb,hst.keeps hg (fun r e o ho=>by cases e;exact mc o ho) b o hb⟩
       have qE:=kY w blk cur (cur.toList.take (es.length*sz')++news++cur.toList.drop (es.length*sz'+news.length)).toArray e' (0,0) fQ
       have CO:(cur.toList.take (es.length*sz')++news++cur.toList.drop (es.length*sz'+news.length)).toArray.size=cap*sz':=by
        simp only[ea,ax,aZ,cY,bJ];omega
       have ja:∀ (q:Nat) (c:C),(es++[y1]).flatten[q]?=some c→CR I (w.setRow blk (cur.toList.take (es.length*sz')++news++cur.toList.drop (es.length*sz'+news.length)).toArray) ((cur.toList.take (es.length*sz')++news++cur.toList.drop (es.length*sz'+news.length)).toArray.getD q undef) c:=
        (fun q c hq=>by
         have oH:=(ak.1 hq).1
         rw[bz _ dh,ax,cR] at oH
         rw[flat_eq] at hq
         by_cases XY:q<es.flatten.length
         ·rw[aC XY] at hq
          obtain⟨u,hu,ja⟩:=AV q c hq
          have d5:=holds q u hu
          rw[ah,eY w blk q cur e' (0,0) fQ] at d5
          rw[ao,EY q (by omega),d5]
          exact ja.mono j7
         ·rw[aJ (by omega)] at hq
          obtain⟨u,hu,ja⟩:=HZ _ c hq
          have:(cur.toList.take (es.length*sz')++news++cur.toList.drop (es.length*sz'+news.length)).toArray[q]?=some u:=by
           simp only[cM]
           have Ie:(cur.toList.take (es.length*sz')).length=es.length*sz':=by
            have mL:cur.toList.length=cur.size:=bJ
            rw[aZ,mL];omega
           rw[aC (by rw[ax,Ie];omega),aJ (by rw[Ie];omega),← hu,Ie,hfe]
          rw[ao,this]
          exact ja.mono j7)
       have AL:s.after tr o (.gs none (some (e',sz')) (es++[y1]))=(s.clr t0).put o.dst (.gs none (some (e',sz')) (es++[y1])):=by
        unfold S.after
        rw[pp]
        simp only[S.use]
        have:(s.fr t0).isOw=true:=CN
        rw[if_pos this]
       rw[AL]
       cases kQ:o.dst with
       |none=>exact⟨_,_,_,lS⟩
       |some dd=>
        refine⟨_,_,_,lS.put dd (hd dd kQ) (o:=some blk) ?_ fun b hb=>?_⟩
        ·have rh:Value.slice (some ⟨blk,0,none⟩) (es.length+[y1].length) cap=Value.slice (some ⟨blk,0,none⟩) (es++[y1]).length cap:=by rw[ax]
         rw[rh]
         simp only[LR]
         exact⟨(fun _ h=>by cases h),.inr ⟨e',blk,cap,_,sz',rfl,rfl,rfl,hbb,qE,by simpa using me,HW,CO,dh,ja,fun u hu=>by
          rw[fF] at hu
          rcases aY.1 hu with hu | hu
          ·rcases aY.1 hu with hu | hu
           ·exact iY u (cA.1 (cz hu))
           ·exact Kg u hu
          ·exact iY u (cA.1 (cK hu)),fU⟩⟩
        ·simp only[am] at hb
         subst hb
         refine⟨⟨by simpa using uU,hbb⟩,fun L hL=>?_,fun i=>hst.obx _ blk i rM⟩
         simp only[upL] at hL
         split at hL
         ·cases hL
         ·split at hL
          ·cases hL
          ·rename_i h5 h6;exact h6 (hst.oinj _ _ blk hL rM)
      ·have bA:=grun (some ⟨blk,0,none⟩) es.length cap olds (iL (P:=P) w.drew j'.size es.length ⟨blk,0,none⟩ es.length cap olds (by rw[← ek];exact wy) (fun q u hq=>by rw[cQ];simpa using holds q u hq)) (by omega) (by omega) (by rw[← qD];exact g9 (by omega) hb)
       exact⟨_,_,_,h,by rw[wx];exact bA,grownCase olds cap wy AV ho1⟩
    ·exact h.elim
   ·cases lQ
  ·exact h.elim
 ·exact h.elim
theorem A1 {T ty:TypeId} {vx vy:Value} {ox:Option Nat} {es:List (List C)} {d:Option Tmp} {K:S→Prop} (hst:St G n I0 M w0 I β ob s a w)
 (hx:LR (Wr M w0) I β w ox vx (.ow none es)) (h:dX P T (.ow none es) y (UL s d K)) (hy:∀ ys,y=.c (.sl ys)→RD I w vy ys) :
 ∃ (e:TypeId) (sz:Nat) (es':List (List C)) (cells:Array Value) (cap:Nat),K ({ s with bx:=up s.bx s.nb (es'.flatten.map .c),nb:=s.nb+1 }.put d (.ms s.nb 0 es'.length es'.length sz))∧
  (Builtin.append_ #[T,T] ty #[vx,vy]).run P w=.ok (.slice (some ⟨w.heap.size,0,none⟩) es'.length cap) (w.drew.alloc (.cells cells e))∧es'.length≤cap∧es'.flatten.length≤cells.size∧
  (∀ q c,es'.flatten[q]?=some c→CR I w (cells.getD q undef) c)∧(∀ u∈cells,u.oneCell'=true):=by
 unfold dX at h
 split at h
 ·rename_i e _ _ _ _ _ _ E es1 hi uY
  cases uY
  obtain⟨j,d,h1,h2,h3,_⟩:=bn hi
  have pm:=df h3
  subst pm
  split at h
  ·rename_i sz by_ _ z _ _ rL
   obtain⟨j',d',jw,nQ,_,ek,qD,_,lQ,_⟩:=bn rL
   simp only at lQ ek qD
   obtain⟨⟨hp,tL,hE,pz⟩,h⟩:=h
   split at lQ
   ·rename_i zv rF
    split at h
    ·rename_i ys
     obtain⟨⟨hb,ce,uT⟩,h⟩:=h
     by_cases yJ:ys=[]
     ·subst yJ
      simp only[List.isEmpty_nil,cJ] at h
      exact h.elim
     have rE:ys.isEmpty=false:=by simpa using yJ
     simp only[rE,aS,dm] at h
     have Ub:=hy _ rfl
     have rf:=kz (I:=I) (w:=w) lQ.symm
     have OV:zv.cells.size=sz:=by rw[rf.1,tL]
     obtain⟨vsl,hvy⟩:∃ (p:Option Addr×Nat),vy=.slice p.1 ys.length p.2:=by
      rcases Ub with⟨h0,h1⟩ | ⟨b,off,cap,_,_,hv,_⟩
      ·obtain⟨a0,c0,h0,_⟩:=h0;exact⟨(a0,c0),by rw[h0,h1];rfl⟩
      ·exact⟨(some ⟨b,off,none⟩,cap),hv⟩
     obtain⟨ya,yc⟩:=vsl
     simp only at hvy
     subst hvy
     have Ug:=hx.2
     have tK:=hx.1
     obtain⟨yb,yoff,rfl⟩:=Ub.some' yJ
     obtain⟨news,tM,HY,HZ,Kg⟩:=Ub.flat uT
     have Uh:∀ (q:Nat) (u:Value),news[q]?=some u→w.cell? ((⟨yb,yoff,none⟩:Addr).add q)=some u:=fun q u hq=>by rw[cQ];exact(HY q u hq).1
     have hm0:0<ys.length:=iK.2 yJ
     have dh:∀ x∈es++ys,x.length=sz:=fun x hx=>by rcases aY.1 hx with hx | hx;exact pz x hx;exact uT x hx
     have OW:es.length+ys.length≤maxLen:=by unfold maxLen;omega
     have flat_eq:(es++ys).flatten=es.flatten++ys.flatten:=by simp
     have hfe:=bz es pz
     have hfa:=bz (es++ys) dh
     have zone:∀ u∈zv.cells,u.oneCell'=true:=fun u hu=>by
      obtain⟨q,hq,rfl⟩:=fk.1 hu
      have oH:q<z.length:=by rw[← rf.1];exact hq
      have:=(rf.2 q _ (aj oH)).oneCell
      simpa[ay hq,hq] using this
     have fin:∀ (olds:List Value) (cap0:Nat),olds.length=es.length*sz→(∀ (q:Nat) (c:C),es.flatten[q]?=some c→∃ u,olds[q]?=some u∧CR I w u c)→(∀ u∈olds,u.oneCell'=true)→
      (Builtin.append_ #[T,T] ty #[vx,.slice (some ⟨yb,yoff,none⟩) ys.length yc]).run P w=.ok (.slice (some ⟨w.heap.size,0,none⟩) (es.length+ys.length) (grownCap w (es.length+ys.length) cap0 e))
       (w.drew.alloc (.cells (olds.toArray++news.toArray++Builtin.zeroCells zv.cells (grownCap w (es.length+ys.length) cap0 e - (es.length+ys.length))) e))→
      ∃ (e:TypeId) (sz:Nat) (es':List (List C)) (cells:Array Value) (cap:Nat),K ({ s with bx:=up s.bx s.nb (es'.flatten.map .c),nb:=s.nb+1 }.put ‹Option Tmp› (.ms s.nb 0 es'.length es'.length sz))∧
       (Builtin.append_ #[T,T] ty #[vx,.slice (some ⟨yb,yoff,none⟩) ys.length yc]).run P w=.ok (.slice (some ⟨w.heap.size,0,none⟩) es'.length cap) (w.drew.alloc (.cells cells e))∧es'.length≤cap∧es'.flatten.length≤cells.size∧
       (∀ q c,es'.flatten[q]?=some c→CR I w (cells.getD q undef) c)∧(∀ u∈cells,u.oneCell'=true):=by
      intro olds cap0 wy AV ho1 bA
      have ga:=grownCap_ge w (es.length+ys.length) cap0 e
      refine⟨e,sz,es++ys,_,_,h,by rw[ax];exact bA,by rw[ax];exact ga,?_,fun q c hq=>?_,fun u hu=>?_⟩
      ·rw[hfa,ax]
       simp only[Array.size_append,ea,wy,tM,← cR]
       omega
      ·rw[flat_eq] at hq
       have ly:∃ u,(olds++news)[q]?=some u∧CR I w u c:=by
        by_cases oH:q<es.flatten.length
        ·rw[aC oH] at hq
         obtain⟨u,hu,ja⟩:=AV q c hq
         exact⟨u,by rw[aC (by omega)];exact hu,ja⟩
        ·rw[aJ (by omega)] at hq
         obtain⟨u,hu,ja⟩:=HZ _ c hq
         refine⟨u,?_,ja⟩
         rw[aJ (by omega),← hu]
         congr 1;omega
       obtain⟨u,hu,ja⟩:=ly
       rw[kA olds news _ q u hu];exact ja
      ·simp only[Array.mem_append,fF] at hu
       rcases hu with(hu | hu) | hu
       ·exact ho1 u hu
       ·exact Kg u hu
       ·exact zone u (t7 hu)
     rcases Ug with⟨hob0,_,xa,wx⟩ | ⟨e',blk,cap,cur,sz',Kh,Ib,_⟩
     ·cases xa with
      |none=>
       have EX:es=[]:=by
        rcases tK.sl_inv with⟨_,h1⟩ | ⟨b,off,cap,_,_,hv,_⟩
        ·exact h1
        ·rw[wx] at hv;cases hv
       subst EX
       have bA:=run_append_nil (P:=P) w T ty e j' zv h2 jw rF ⟨yb,yoff,none⟩ ys.length yc news (by rw[← ek];exact tM) Uh hm0 (by simp only[aK,ah] at ce;omega) (by rw[← qD];simp only[aK,ah] at hb;omega)
       refine fin [] 0 (by simp) (by simp) (by simp) ?_
       rw[wx]
       simpa using bA
      |some xaddr=>
       rw[wx] at tK
       obtain⟨olds,wy,holds,AV,ho1⟩:=tK.oldsOf pz
       have bA:=run_append_grow (P:=P) w T ty e j' zv h2 jw rF xaddr es.length es.length olds (by rw[← ek];exact wy) holds
        ⟨yb,yoff,none⟩ ys.length yc news (by rw[← ek];exact tM) Uh (by omega) (by omega) (by rw[← qD];exact g9 (by omega) hb)
       exact fin olds es.length wy AV ho1 (by rw[wx];exact bA)
     ·cases Ib
    ·exact h.elim
   ·cases lQ
  ·exact h.elim
 ·exact h.elim
end
section
variable {P:Program} {G:Gl} {tr:List Nat} {n:Nat} {I0:Ft} {M:Mx} {w0:World} {I:Ft} {β:Nat→Option Nat} {ob:Loc→Option Nat} {s:S} {a:Act} {w:World} {o:Oper}
 {next:Act→World→Prop} {Q:Exit→Act→World→Prop} {base:Nat→Prop} {v:Value} {x y:V} {K:V→Prop}
theorem qJ (isSlice:Bool) (len cap:Nat) (lo hi:Option Value) (l h:Int) (hl:(lo=none∧l=0)∨∃ k,lo=some (.int k l)) (hh:(hi=none∧h=len)∨∃ k,hi=some (.int k h))
 (h0:0≤l) (h1:l≤h) (h2:h≤len) (hc:len≤cap):(Instr.sliceBounds isSlice len cap lo hi none).run P w=.ok (l.toNat,h.toNat,cap) w:=by
 have eh:(h.toNat:Int)=h:=jQ (by omega)
 unfold Instr.sliceBounds
 have e0:(0:Int)≤h:=by omega
 have e1:h≤(cap:Int):=by omega
 rcases hl with⟨rfl,rfl⟩ | ⟨kl,rfl⟩<;>rcases hh with⟨rfl,rfl⟩ | ⟨kh,rfl⟩<;>
  simp[run_sliceBound,h0,h1,eh,e0,e1]
theorem Fl (isSlice:Bool) (len cap:Nat) (lo hi:Option Value) (l h:Int) (km:IntKind) (hl:(lo=none∧l=0)∨∃ k,lo=some (.int k l)) (hh:∃ k,hi=some (.int k h))
 (h0:0≤l) (h1:l≤h) (h2:h≤cap):(Instr.sliceBounds isSlice len cap lo hi (some (.int km h))).run P w=.ok (l.toNat,h.toNat,h.toNat) w:=by
 have eh:(h.toNat:Int)=h:=jQ (by omega)
 unfold Instr.sliceBounds
 have e0:(0:Int)≤h:=by omega
 rcases hl with⟨rfl,rfl⟩ | ⟨kl,rfl⟩<;>obtain⟨kh,rfl⟩:=hh<;>simp[run_sliceBound,h0,h1,h2,eh,e0]
theorem xH (len cap:Nat) (lo hi:Option Value) (l h:Int) (hl:(lo=none∧l=0)∨∃ k,lo=some (.int k l)) (hh:(hi=none∧h=len)∨∃ k,hi=some (.int k h))
 (h0:0≤l) (h1:l≤h) (h2:h≤cap):(Instr.sliceBounds true len cap lo hi none).run P w=.ok (l.toNat,h.toNat,cap) w:=by
 have eh:(h.toNat:Int)=h:=jQ (by omega)
 unfold Instr.sliceBounds
 have e0:(0:Int)≤h:=by omega
 rcases hl with⟨rfl,rfl⟩ | ⟨kl,rfl⟩<;>rcases hh with⟨rfl,rfl⟩ | ⟨kh,rfl⟩<;>
  simp[run_sliceBound,h0,h1,h2,eh,e0]
theorem xI (len cap:Nat) (lo hi:Option Value) (l h m:Int) (km:IntKind) (hl:(lo=none∧l=0)∨∃ k,lo=some (.int k l)) (hh:∃ k,hi=some (.int k h))
 (h0:0≤l) (h1:l≤h) (h2:h≤m) (h3:m≤cap):(Instr.sliceBounds true len cap lo hi (some (.int km m))).run P w=.ok (l.toNat,h.toNat,m.toNat) w:=by
 have eh:(h.toNat:Int)=h:=jQ (by omega)
 have em:(m.toNat:Int)=m:=jQ (by omega)
 unfold Instr.sliceBounds
 have e0:(0:Int)≤h:=by omega
 have e2:(0:Int)≤m:=by omega
 rcases hl with⟨rfl,rfl⟩ | ⟨kl,rfl⟩<;>obtain⟨kh,rfl⟩:=hh<;>
  simp[run_sliceBound,h0,h1,h2,h3,eh,em,e0,e2]
theorem kF (hst:St G n I0 M w0 I β ob s a w) {d:Int} {lo:Option Operand} {l:Int} (h:gC d (lo.map (ev G s))=some l):(lo.map a.eval=none∧l=d)∨∃ k,lo.map a.eval=some (.int k l):=by
 cases lo with
 |none=>simp[gC] at h;exact .inl ⟨rfl,h.symm⟩
 |some x=>
  have hx:=bB hst x
  simp only[bK,gC] at h
  split at h
  ·cases ‹some _=none›
  ·rename_i k m he
   simp only[am] at he h
   subst h
   rw[he] at hx
   exact .inr ⟨k,by rw[bK,hx.lit]⟩
  ·cases h
theorem oK {sz:Nat}:∀ (m:Nat) (cs:List C) (i:Nat),i<m→(lJ sz m cs)[i]?=some ((cs.drop (i*sz)).take sz)
 |0,_,i,h=>by omega
 |m+1,cs,0,_=>by simp[lJ]
 |m+1,cs,i+1,h=>by
  simp only[lJ,cH]
  rw[oK m _ i (by omega),fp]
  congr 3
  rw[dD];omega
theorem pV {sz:Nat}:∀ (m:Nat) (cs:List C),(lJ sz m cs).length=m
 |0,_=>rfl
 |m+1,cs=>by simp[lJ,pV m]
theorem C6 (hst:St G n I0 M w0 I β ob s a w) {i off len cap sz:Nat} {c:C} {v:Value} (h:lT s i off len sz=some c)
 (hx:len≤cap∧∃ blk off' cap',cap≤cap'∧β i=some blk∧(cap'=0∨off'=off)∧v=.slice (some ⟨blk,off',none⟩) len cap') :
 ∃ (es:List (List C)) (blk off' cap':Nat) (f:Nat→Nat→Value),c=.sl es∧v=.slice (some ⟨blk,off',none⟩) es.length cap'∧es.length≤cap'∧β i=some blk∧(∀ e∈es,e.length=sz)∧
  (∀ p q,p<es.length→q<sz→w.cell? ⟨blk,off'+p*sz+q,none⟩=some (f p q))∧(∀ p q e c,es[p]?=some e→e[q]?=some c→CR I w (f p q) c):=by
 unfold lT at h
 split at h
 ·rename_i cs iE
  split at h
  ·rename_i ri
   simp only[am] at h
   obtain⟨jL,blk,off',cap',y0,e1,mG,rfl⟩:=hx
   unfold yq at iE
   split at iE
   ·rename_i hi
    obtain⟨qC,cur,q1,q2,q3,q4,q5,q7⟩:=hst.bx i hi
    obtain⟨T,q3,q6⟩:=q3.cells (xC iE)
    rw[e1] at q1;cases q1
    have ce:cs.length=(s.bx i).length:=List.mapM_eq_some_length iE
    have hl:=pV (sz:=sz) len (cs.drop off)
    refine⟨_,blk,off',cap',fun p q=>cur.getD (off+p*sz+q) undef,h.symm,by rw[hl],by rw[hl];omega,e1,fun e he=>?_,fun p q hp hq=>?_,fun p q e c' he hc=>?_⟩
    ·obtain⟨p,hp,rfl⟩:=gZ.1 he
     have:=oK (sz:=sz) len (cs.drop off) p (by omega)
     rw[aj hp] at this
     simp only[am] at this
     rw[this]
     have hm':(p+1)*sz≤len*sz:=aP _ (by omega)
     rw[dD] at hm'
     simp;omega
    ·rw[hl] at hp
     have hm':(p+1)*sz≤len*sz:=aP _ (by omega)
     rw[dD] at hm'
     have:off'=off:=by rcases mG with h0 | h0;omega;exact h0
     subst this
     have bF:off'+p*sz+q<cur.size:=by omega
     rw[eY w blk _ cur T.t T.fz q3]
     simp[ay bF]
    ·have hp:p<len:=by have:=(ak.1 he).1;omega
     rw[oK len _ p hp] at he
     simp only[am] at he
     subst he
     rw[cu] at hc
     split at hc
     ·rw[bX,bX] at hc
      obtain⟨vv,rP,YP⟩:=List.mapM_eq_some_get iE _ c' hc
      have gX:=q5 (off+(p*sz+q))
      have:(s.bx i).getD (off+(p*sz+q)) .un=vv:=by simp[List.getD,rP]
      rw[this,← db] at gX
      cases vv<;>simp only[V.asC] at YP<;>try cases YP
      ·exact gX.toC
      ·exact gX.1
     ·cases hc
   ·cases iE
  ·cases h
 ·cases h
theorem UQ (hst:St G n I0 M w0 I β ob s a w) {i off len cap sz:Nat} {c:C} {v:Value} (h:lT s i off len sz=some c)
 (hx:len≤cap∧∃ blk off' cap',cap≤cap'∧β i=some blk∧(cap'=0∨off'=off)∧v=.slice (some ⟨blk,off',none⟩) len cap'):∃ es,c=.sl es∧RD I w v es:=by
 obtain⟨es,blk,off',cap',f,rfl,rfl,h2,h3,h4,h5,h6⟩:=C6 hst h hx
 exact⟨es,rfl,.inr ⟨blk,off',cap',sz,f,rfl,h2,h4,h5,h6⟩⟩
theorem C7 (hst:St G n I0 M w0 I β ob s a w) {i off len cap sz:Nat} {c:C} {v:Value} (h:lT s i off len sz=some c)
 (hx:len≤cap∧∃ blk off' cap',cap≤cap'∧β i=some blk∧(cap'=0∨off'=off)∧v=.slice (some ⟨blk,off',none⟩) len cap') {Ic:Ft} (rH:∀ b o,I b o→Ic b o) (hb:∀ b o,β i=some b→Ic b o):CR Ic w v c:=by
 obtain⟨es,blk,off',cap',f,rfl,rfl,h2,h3,h4,h5,h6⟩:=C6 hst h hx
 exact .sl blk off' cap' sz es f h2 h4 (fun p q hp hq=>⟨h5 p q hp hq,hb blk _ h3⟩) (fun p q e c he hc=>(h6 p q e c he hc).mono fun b o h=>⟨rH b o h,rfl⟩)
theorem C9 {T:TypeId} {lo hi mx:Option Operand} {vx:Value} {ox:Option Nat} (hst:St G n I0 M w0 I β ob s a w) (h:gG P T x (lo.map (ev G s)) (hi.map (ev G s)) (mx.map (ev G s)) K) (hx:LR (Wr M w0) I β w ox vx x) :
 ∃ z u,K z∧LR (Wr M w0) I β w none u z∧(Instr.sliceAt T vx (lo.map a.eval) (hi.map a.eval) (mx.map a.eval)).run P w=.ok u w:=by
 unfold gG at h
 split at h
 ·rename_i st rj
  obtain⟨j,d,h1,h2,h3,_⟩:=bn rj
  have hd:=nk h3
  subst hd
  rw[hx.lit]
  split at h
  ·rename_i l hh hl Ki hm
   obtain⟨⟨h0,OZ,Pd⟩,h⟩:=h
   have hmx:mx.map a.eval=none:=by cases mx<;>simp_all
   refine⟨_,_,h,.ofLit rfl,?_⟩
   unfold Instr.sliceAt
   simp only[aH,aO h2,aw]
   unfold Instr.slice
   simp only[aH,aO h2,aw,hmx]
   simp[qJ (P:=P) (w:=w) false st.size st.size _ _ l hh (kF hst hl) (kF hst Ki) h0 OZ Pd (ae _)]
  ·exact h.elim
 ·rename_i e _ _ _ _ _ _ es rj
  obtain⟨j,d,h1,h2,h3,_⟩:=bn rj
  have hd:=df h3
  subst hd
  have ja:=hx.toC
  split at h
  ·rename_i hm
   split at h
   case h_2=>exact h.elim
   rename_i ie l hh rE hl Ki
   obtain⟨j',d',jw,nQ,_,ek,_⟩:=bn rE
   obtain⟨⟨h0,OZ,Pd,hs⟩,h⟩:=h
   have hmx:mx.map a.eval=none:=by cases mx<;>simp_all
   have hb:=fun cap hc=>qJ (P:=P) (w:=w) true es.length cap _ _ l hh (kF hst hl) (kF hst Ki) h0 OZ Pd hc
   have gw:=eG (P:=P) w jw
   rcases ja.sl_inv with⟨⟨xa,xc,hv,tK⟩,rfl⟩ | ⟨b,off,cap,sz,f,hv,jL,_⟩
   ·simp only[aK] at Pd
    have:l=0∧hh=0:=by omega
    obtain⟨rfl,rfl⟩:=this
    refine⟨_,.slice xa 0 xc,h,.ofC (by simpa using CR.nil xa xc tK),?_⟩
    subst hv
    unfold Instr.sliceAt
    simp only[aH,aO h2,aw]
    unfold Instr.slice
    simp only[aH,aO h2,aw,hmx]
    have:=hb xc (by simp)
    simp only[aK] at this
    cases xa with
    |none=>obtain rfl:=tK rfl;simp[this,gw]
    |some xa=>simp[this,gw,Addr.add]
   ·subst hv
    refine⟨_,.slice (some (if cap=l.toNat then⟨b,off,none⟩ else⟨b,off+l.toNat*ie.size,none⟩)) (hh.toNat - l.toNat) (cap - l.toNat),h,.ofC ?_,?_⟩
    ·split
     ·rename_i mL
      have:(es.take hh.toNat).drop l.toNat=([]:List (List C)):=co (by simp;omega)
      rw[this]
      have e1:hh.toNat - l.toNat=0:=by omega
      have e2:cap - l.toNat=0:=by omega
      rw[e1,e2]
      exact .sl b off 0 0 [] (fun _ _=>undef) (ae _) (by simp) (by simp) (by simp)
     ·exact ja.subslice hs (by omega) (by omega) (by omega)
    ·unfold Instr.sliceAt
     simp only[aH,aO h2,aw]
     unfold Instr.slice
     simp only[aH,aO h2,aw,hmx,hb cap jL,gw,bh,ei jw,← ek]
     split<;>simp_all[cQ]
  ·rename_i km mm hm
   split at h
   ·rename_i ie l khh hh rE hl Ki
    obtain⟨j',d',jw,nQ,_,ek,_⟩:=bn rE
    obtain⟨⟨h0,OZ,Pd,rfl,hs⟩,h⟩:=h
    obtain⟨km',hmx⟩:∃ k,mx.map a.eval=some (.int k mm):=by
     rcases mx with _ | X
     ·simp at hm
     ·have hX:=bB hst X
      simp only[bK,am] at hm
      rw[hm] at hX
      exact⟨km,by rw[bK,hX.lit]⟩
    have XC:∃ k,hi.map a.eval=some (.int k mm):=by
     rcases hi with _ | X
     ·simp at Ki
     ·have hX:=bB hst X
      simp only[bK,am] at Ki
      rw[Ki] at hX
      exact⟨khh,by rw[bK,hX.lit]⟩
    have hb:=fun cap hc=>Fl (P:=P) (w:=w) true es.length cap _ _ l mm km' (kF hst hl) XC h0 OZ hc
    have gw:=eG (P:=P) w jw
    rcases ja.sl_inv with⟨⟨xa,xc,hv,tK⟩,rfl⟩ | ⟨b,off,cap,sz,f,hv,jL,_⟩
    ·simp only[aK] at Pd
     have:l=0∧mm=0:=by omega
     obtain⟨rfl,rfl⟩:=this
     refine⟨_,.slice xa 0 0,h,⟨by simpa using CR.nil xa 0 (fun _=>rfl),.inl ⟨rfl,rfl,xa,by simp⟩⟩,?_⟩
     subst hv
     unfold Instr.sliceAt
     simp only[aH,aO h2,aw]
     unfold Instr.slice
     simp only[aH,aO h2,aw,hmx]
     have:=hb xc (by simp)
     simp only[aK] at this
     cases xa with
     |none=>obtain rfl:=tK rfl;simp[this,gw]
     |some xa=>simp[this,gw,Addr.add]
    ·subst hv
     have ce:((es.take mm.toNat).drop l.toNat).length=mm.toNat - l.toNat:=by simp;omega
     refine⟨_,.slice (some (if mm.toNat=l.toNat then⟨b,off,none⟩ else⟨b,off+l.toNat*ie.size,none⟩)) (mm.toNat - l.toNat) (mm.toNat - l.toNat),h,⟨?_,.inl ⟨rfl,rfl,_,by rw[ce]⟩⟩,?_⟩
     ·split
      ·rename_i mL
       have:(es.take mm.toNat).drop l.toNat=([]:List (List C)):=co (by simp;omega)
       rw[this]
       have e1:mm.toNat - l.toNat=0:=by omega
       rw[e1]
       exact .sl b off 0 0 [] (fun _ _=>undef) (ae _) (by simp) (by simp) (by simp)
      ·exact ja.subslice hs (by omega) (by omega) (by omega)
     ·unfold Instr.sliceAt
      simp only[aH,aO h2,aw]
      unfold Instr.slice
      simp only[aH,aO h2,aw,hmx,hb cap (by omega),gw,bh,ei jw,← ek]
      split<;>simp_all[cQ]
   ·exact h.elim
  ·exact h.elim
 ·rename_i e _ _ _ _ _ _ b off len cap sz rj
  obtain⟨j,d,h1,h2,h3,_⟩:=bn rj
  have hd:=df h3
  subst hd
  split at h
  ·rename_i ie l hh mm rE hl Ki hmm
   obtain⟨j',d',jw,nQ,_,ek,_⟩:=bn rE
   obtain⟨⟨dR,h0,OZ,Pd,h03,h04⟩,h⟩:=h
   simp only[LR] at hx
   obtain⟨jL,blk,off',cap',y0,e1,mG,rfl⟩:=hx
   have gw:=eG (P:=P) w jw
   have hb:∃ M:Nat,mm≤(M:Int)∧M≤cap'∧(Instr.sliceBounds true len cap' (lo.map a.eval) (hi.map a.eval) (mx.map a.eval)).run P w=.ok (l.toNat,hh.toNat,M) w:=by
    rcases kF hst hmm with⟨e,rfl⟩ | ⟨km,e⟩
    ·refine⟨cap',by omega,ae _,?_⟩
     rw[e]
     have:=xH (P:=P) (w:=w) len cap' _ _ l hh (kF hst hl) (kF hst Ki) h0 OZ (by omega)
     simpa using this
    ·refine⟨mm.toNat,by omega,by omega,?_⟩
     rw[e]
     have XC:∃ k,hi.map a.eval=some (.int k hh):=by
      rcases kF hst Ki with⟨e5,_⟩ | h5
      ·cases mx with
       |none=>cases e
       |some X=>have:=h04 rfl;cases hi<;>simp_all
      ·exact h5
     exact xI (P:=P) (w:=w) len cap' _ _ l hh mm km (kF hst hl) XC h0 OZ Pd (by omega)
   obtain⟨M,hM1,hM2,hb⟩:=hb
   refine⟨_,.slice (some (if M=l.toNat then⟨blk,off',none⟩ else⟨blk,off'+l.toNat*ie.size,none⟩)) (hh.toNat - l.toNat) (M - l.toNat),h,?_,?_⟩
   ·simp only[LR]
    split
    ·exact⟨by omega,blk,off',M - l.toNat,by omega,e1,.inl (by omega),rfl⟩
    ·have:off'=off:=by rcases mG with h4 | h4;omega;exact h4
     exact⟨by omega,blk,_,M - l.toNat,by omega,e1,.inr (by rw[this,dR]),rfl⟩
   ·unfold Instr.sliceAt
    simp only[aH,aO h2,aw]
    unfold Instr.slice
    simp only[aH,aO h2,aw,hb,gw,bh,ei jw,← ek]
    split<;>simp_all[cQ]
  ·exact h.elim
 ·rename_i e _ _ _ _ _ _ blk off len cap rj
  obtain⟨j,d,h1,h2,h3,_⟩:=bn rj
  have hd:=df h3
  subst hd
  split at h
  ·rename_i ie l hh mm rE hl Ki hmm
   obtain⟨j',d',jw,nQ,_,ek,_⟩:=bn rE
   obtain⟨⟨h0,OZ,Pd,h03,h04⟩,h⟩:=h
   obtain rfl:=hx.toC.ex_inv
   have gw:=eG (P:=P) w jw
   have hb:(Instr.sliceBounds true len cap (lo.map a.eval) (hi.map a.eval) (mx.map a.eval)).run P w=.ok (l.toNat,hh.toNat,mm.toNat) w:=by
    rcases kF hst hmm with⟨e,rfl⟩ | ⟨km,e⟩
    ·rw[e]
     have:=xH (P:=P) (w:=w) len cap _ _ l hh (kF hst hl) (kF hst Ki) h0 OZ (by omega)
     simpa using this
    ·rw[e]
     have XC:∃ k,hi.map a.eval=some (.int k hh):=by
      rcases kF hst Ki with⟨e5,_⟩ | h5
      ·cases mx with
       |none=>cases e
       |some X=>have:=h04 rfl;cases hi<;>simp_all
      ·exact h5
     exact xI (P:=P) (w:=w) len cap _ _ l hh mm km (kF hst hl) XC h0 OZ Pd (by omega)
   refine⟨_,_,h,.ofC (.ex _ rfl rfl),?_⟩
   unfold Instr.sliceAt
   simp only[aH,aO h2,aw]
   unfold Instr.slice
   simp only[aH,aO h2,aw,hb,gw,bh,ei jw,← ek]
   split<;>simp_all[cQ]
  ·exact h.elim
 ·rename_i m e _ _ _ _ _ _ cs k rj
  obtain⟨j,d,h1,h2,h3,_⟩:=bn rj
  have hd:=nl h3
  subst hd
  obtain⟨b,off,f,rfl,d5,pn⟩:=hx.toC.rp_inv
  split at h
  ·rename_i ie rE hl hh hm
   obtain⟨j',d',jw,nQ,_,ek,_⟩:=bn rE
   obtain⟨fx,h⟩:=h
   have e1:lo.map a.eval=none:=by cases lo<;>simp_all
   have e2:hi.map a.eval=none:=by cases hi<;>simp_all
   have e3:mx.map a.eval=none:=by cases mx<;>simp_all
   have gw:=eG (P:=P) w jw
   refine⟨_,.slice (some ⟨b,off+k,none⟩) m m,h,.ofC ?_,?_⟩
   ·have mL:=pV (sz:=ie.size) m (cs.drop k)
    have abU:∀ i q,i<m→q<ie.size→k+i*ie.size+q<cs.length:=fun i q hi hq=>by
     have:(i+1)*ie.size≤m*ie.size:=aP _ hi
     rw[dD] at this;omega
    have jG:∀ x∈lJ ie.size m (cs.drop k),x.length=ie.size:=fun x hx=>by
     obtain⟨i,hi,he⟩:=gZ.1 hx
     have:=oK (sz:=ie.size) m (cs.drop k) i (by omega)
     rw[aj hi] at this
     simp only[am] at this
     rw[← he,this]
     have hm':(i+1)*ie.size≤m*ie.size:=aP _ (by omega)
     rw[dD] at hm'
     simp;omega
    have:=CR.sl (I:=I) (w:=w) b (off+k) m ie.size (lJ ie.size m (cs.drop k)) (fun i q=>f (k+i*ie.size+q)) (by omega) jG
     (fun i q hi hq=>by
      have:=d5 (k+i*ie.size+q) (abU i q (by omega) hq)
      rw[show off+k+i*ie.size+q=off+(k+i*ie.size+q) by omega]
      exact this)
     (fun i q e c he hc=>by
      have hi:i<m:=by have:=(ak.1 he).1;omega
      rw[oK m _ i hi] at he
      simp only[am] at he
      subst he
      rw[cu] at hc
      split at hc
      ·rw[bX,bX] at hc
       exact pn _ c (by rw[db];exact hc)
      ·cases hc)
    rw[mL] at this
    exact this
   ·unfold Instr.sliceAt
    simp only[aH,aO h2,aw,Instr.sureAddr,bh,e1,e2,e3]
    have:=qJ (P:=P) (w:=w) false m m none none 0 m (.inl ⟨rfl,rfl⟩) (.inl ⟨rfl,rfl⟩) (Int.le_refl _) (by omega) (Int.le_refl _) (ae _)
    simp only[this,aw,gw,aH,bh]
    simp[cQ]
  ·exact h.elim
 ·rename_i m e _ _ _ _ _ _ b k rj
  obtain⟨j,d,h1,h2,h3,_⟩:=bn rj
  have hd:=nl h3
  subst hd
  simp only[LR] at hx
  obtain⟨blk,hβ,rfl⟩:=hx
  split at h
  ·rename_i ie l hh rE hl Ki hm
   obtain⟨j',d',jw,nQ,_,ek,_⟩:=bn rE
   obtain⟨⟨h0,OZ,Pd⟩,h⟩:=h
   have e3:mx.map a.eval=none:=by cases mx<;>simp_all
   have gw:=eG (P:=P) w jw
   have hb:=qJ (P:=P) (w:=w) false m m _ _ l hh (kF hst hl) (kF hst Ki) h0 OZ Pd (ae _)
   refine⟨_,.slice (some (if m=l.toNat then⟨blk,k,none⟩ else⟨blk,k+l.toNat*ie.size,none⟩)) (hh.toNat - l.toNat) (m - l.toNat),h,?_,?_⟩
   ·simp only[LR]
    refine⟨by omega,?_⟩
    split
    ·exact⟨blk,k,_,ae _,hβ,.inl (by omega),rfl⟩
    ·exact⟨blk,_,_,ae _,hβ,.inr rfl,rfl⟩
   ·unfold Instr.sliceAt
    simp only[aH,aO h2,aw,Instr.sureAddr,bh,e3]
    simp only[hb,aw,gw,aH,bh,ei jw,← ek]
    split<;>simp_all[cQ]
  ·exact h.elim
 ·exact h.elim
theorem Iw {T:TypeId} {vx:Value} {ox:Option Nat} (h:Il P T x K) (hx:LR base I β w ox vx x) :
 ∃ z u,K z∧LR base I β w none u z∧(Instr.arrayAt T vx).run P w=.ok u w:=by
 unfold Il at h
 split at h
 ·rename_i m e _ _ _ _ _ _ b off len cap sz hi
  obtain⟨j,d,h1,h2,h3,_⟩:=bn hi
  have hd:=nl h3
  subst hd
  split at h
  ·obtain⟨⟨dR,h0,fx⟩,h⟩:=h
   simp only[LR] at hx
   obtain⟨jL,blk,off',cap',y0,hβ,mG,rfl⟩:=hx
   have:off'=off:=by rcases mG with h4 | h4;omega;exact h4
   subst this
   refine⟨_,.pointer (some ⟨blk,off',none⟩),h,by simp only[LR];exact⟨blk,hβ,rfl⟩,?_⟩
   unfold Instr.arrayAt
   simp only[aH,aO h2,aw]
   rw[if_neg (by omega)];rfl
  ·exact h.elim
 ·exact h.elim
end
section
variable {P:Program} {G:Gl} {tr:List Nat} {n:Nat} {I0:Ft} {M:Mx} {w0:World} {I:Ft} {β:Nat→Option Nat} {ob:Loc→Option Nat} {s:S} {a:Act} {w:World} {o:Oper}
 {next:Act→World→Prop} {Q:Exit→Act→World→Prop} {base:Nat→Prop} {v:Value} {x y:V} {K:V→Prop}
theorem vh:∀ (es:List (List C)) (l:List UInt8),u4 es=some l→es.length=l.length∧
 ∃ ns:List Int,ns.length=l.length∧l=ns.map (fun m=>UInt8.ofNat m.toNat)∧∀ (i:Nat) (m:Int),ns[i]?=some m→es[i]?=some [.lit (.int .u8 m)]
 |[],l,h=>by
  simp only[u4,am] at h
  subst h
  exact⟨rfl,[],rfl,rfl,by simp⟩
 |e::es,l,h=>by
  unfold u4 at h
  split at h
  ·cases ‹_::_=[]›
  ·rename_i m r he
   cases he
   simp only[aX] at h
   obtain⟨l',h1,rfl⟩:=h
   obtain⟨h2,ns,h3,h4,h5⟩:=vh _ _ h1
   refine⟨by simp[h2],m::ns,by simp[h3],by simp[h4],fun i q hq=>?_⟩
   cases i with
   |zero=>simp at hq;subst hq;rfl
   |succ i=>exact h5 i q (by simpa using hq)
  ·cases h
theorem rq:∀ (ns:List Int) (r:ByteArray),ns.foldl (fun r m=>r.push (UInt8.ofNat m.toNat)) r=⟨r.data++(ns.map fun m=>UInt8.ofNat m.toNat).toArray⟩
 |[],r=>by simp
 |m::ns,r=>by
  simp only[iz]
  rw[rq ns]
  simp[ByteArray.push]
theorem Fo {src dst:TypeId} {vx:Value} (hst:St G n I0 M w0 I β ob s a w) (hd:∀ d,o.dst=some d→d<n) (h:nU P src dst x K) (hx:(∃ ox,LR (Wr M w0) I β w ox vx x)∨∃ es,x=.c (.sl es)∧RD I w vx es) :
 ∃ z u w',K z∧(convert src dst vx).run P w=.ok u w'∧SE G n I0 M w0 (s.after tr o z) (a.put o.dst u) w':=by
 unfold nU at h
 split at h
 ·rename_i i k _ _ _ _ _ _ k' m hi rj
  obtain⟨j,d,_,h2,_⟩:=bn hi
  obtain⟨j',d',_,nQ,XE,_⟩:=bn rj
  have pm:=vb XE
  subst pm
  obtain⟨ox,hx⟩:∃ ox,LR (Wr M w0) I β w ox vx _:=by
   rcases hx with hx | ⟨es,e,_⟩
   ·exact hx
   ·cases e
  rw[hx.lit]
  refine⟨_,_,w,h,?_,.fin0 hst hd (.ofLit rfl)⟩
  simp[convert,aO h2,aO nQ,Conv.intToInt]
 ·rename_i i _ _ _ _ _ _ st hi rj
  obtain⟨j,d,_,h2,_⟩:=bn hi
  obtain⟨j',d',_,nQ,XE,_⟩:=bn rj
  have pm:=nk XE
  subst pm
  obtain⟨ox,hx⟩:∃ ox,LR (Wr M w0) I β w ox vx _:=by
   rcases hx with hx | ⟨es,e,_⟩
   ·exact hx
   ·cases e
  rw[hx.lit]
  refine⟨_,_,w,h,?_,.fin0 hst hd (.ofLit rfl)⟩
  simp[convert,aO h2,aO nQ]
 ·rename_i _ _ _ _ _ _ e _ _ _ _ _ _ st hi rj
  obtain⟨j,d,_,h2,h3,_⟩:=bn hi
  obtain⟨j',d',_,nQ,XE,_⟩:=bn rj
  have pm:=df XE
  subst pm
  have Uf:=nk h3
  subst Uf
  split at h
  ·rename_i _ _ _ _ _ _ rE
   obtain⟨je,de,_,h2e,h3e,_⟩:=bn rE
   have hde:=vb h3e
   subst hde
   obtain⟨ox,hx⟩:∃ ox,LR (Wr M w0) I β w ox vx _:=by
    rcases hx with hx | ⟨es,e,_⟩
    ·exact hx
    ·cases e
   rw[hx.lit]
   have lR:=(hst.drew).alloc (.cells (bytesRow st (grownCap w st.size 0 e)) e ((bytesRow st (grownCap w st.size 0 e)).size,(bytesRow st (grownCap w st.size 0 e)).size+1))
   have bA:=run_bytes_of_string (P:=P) w src dst e st h2 nQ h2e
   refine⟨_,_,_,h,bA,.fin0 lR hd (.ofC ?_)⟩
   have ce:(j8 st).length=st.size:=by simp[j8]
   rw[show Value.slice (some ⟨w.heap.size,0,none⟩) st.size (grownCap w st.size 0 e)=.slice (some ⟨w.heap.size,0,none⟩) (j8 st).length (grownCap w st.size 0 e) by rw[ce]]
   refine CR.row (sz:=1) (fq w.drew _) (by rw[ce];exact grownCap_ge w _ _ _) (by simp[j8]) (fun q c hq=>?_) (fun q _=>.inr rfl)
   have OY:q<st.size∧c=.lit (.int .u8 (st.data.toList.getD q 0).toNat):=by
    have:=lV (sz:=1) (j8 st) (by simp[j8]) q 0 (by omega)
    rw[Nat.mul_one,dL] at this
    rw[this] at hq
    simp only[j8,ba] at hq
    cases hb:st.data.toList[q]? with
    |none=>simp[hb] at hq
    |some b=>
     simp only[hb,bK,fE,bG,am] at hq
     have bF:=(ak.1 hb).1
     exact⟨by simpa using bF,by rw[← hq];simp[List.getD,hb]⟩
   obtain⟨oH,rfl⟩:=OY
   have ab1:q<st.data.size:=oH
   have dR:q<(bytesRow st (grownCap w st.size 0 e)).size:=by simp[bytesRow];omega
   refine⟨dR,?_⟩
   have:(bytesRow st (grownCap w st.size 0 e)).getD q undef=.int .u8 (st.data.toList.getD q 0).toNat:=by
    unfold bytesRow
    rw[ao,dx (by simpa using ab1),Array.getElem?_map,ay ab1]
    have:st.data.toList.getD q 0=st.data[q]:=by
     rw[aA,aQ,ay ab1];rfl
    rw[this];rfl
   rw[this]
   exact .lit _ rfl
  ·exact h.elim
 ·rename_i e _ _ _ _ _ _ _ _ _ _ _ _ es hi rj
  obtain⟨j,d,_,h2,h3,_⟩:=bn hi
  obtain⟨j',d',_,nQ,XE,_⟩:=bn rj
  have pm:=nk XE
  subst pm
  have Uf:=df h3
  subst Uf
  split at h
  ·rename_i _ _ _ _ _ _ rE
   obtain⟨je,de,_,h2e,h3e,_⟩:=bn rE
   have hde:=vb h3e
   subst hde
   split at h
   ·rename_i l hl
    obtain⟨ce,ns,tM,rfl,hns⟩:=vh _ _ hl
    have ja:RD I w vx es:=by
     rcases hx with⟨ox,hx⟩ | ⟨es',e,Kk⟩
     ·exact .ofCR hx.toC
     ·cases e;exact Kk
    refine⟨_,_,w,h,?_,.fin0 hst hd (.ofLit rfl)⟩
    rcases ja with⟨⟨xa,xc,hv,tK⟩,rfl⟩ | ⟨b,off,cap,sz,f,hv,jL,hs,d5,pn⟩
    ·subst hv
     have:ns=[]:=co (by simp at ce;omega)
     subst this
     rw[run_convert_bytes_string w src dst e xa 0 xc h2 h2e nQ]
     cases xa<;>rfl
    ·subst hv
     rw[run_convert_bytes_string w src dst e _ _ _ h2 h2e nQ,run_bytesToString w ⟨b,off,none⟩ es.length cap ns ?_,rq]
     ·simp
     ·have dh:∀ e∈es,e.length=1:=by
       intro e he
       obtain⟨i,hi⟩:=List.mem_iff_getElem?.1 he
       have bF:=(ak.1 hi).1
       have:ns[i]?=some ns[i]:=aj (by simp at ce;omega)
       rw[hns i _ this] at hi
       cases hi;rfl
      have hfv:∀ i,i<es.length→w.cell? ⟨b,off+i,none⟩=some (.int .u8 (ns.getD i 0)):=by
       intro i hi
       have hn:ns[i]?=some ns[i]:=aj (by simp at ce;omega)
       have he:=hns i _ hn
       have dR:sz=1:=by rw[← hs _ (bg he)];rfl
       subst dR
       have h1:=d5 i 0 hi (by omega)
       have h2:=pn i 0 _ _ he rfl
       have h3:f i 0=.int .u8 ns[i]:=h2.lit_eq
       rw[Nat.mul_one,dL,h3] at h1
       rw[h1]
       simp[List.getD,hn]
      rw[run_loadCells w ⟨b,off,none⟩ es.length (fun i=>.int .u8 (ns.getD i 0)) (fun i hi=>by rw[cQ];exact hfv i hi)]
      congr 2
      apply ir
      intro i
      by_cases hi:i<ns.length
      ·have:i<es.length:=by simp at ce;omega
       simp[hi,this]
      ·have:¬ i<es.length:=by simp at ce;omega
       simp[hi,this]
   ·exact h.elim
  ·exact h.elim
 ·exact h.elim
end
section
variable {P:Program} {G:Gl} {tr:List Nat} {n:Nat} {I0:Ft} {M:Mx} {w0:World} {I:Ft} {β:Nat→Option Nat} {ob:Loc→Option Nat} {s:S} {a:Act} {w:World} {o:Oper}
 {next:Act→World→Prop} {Q:Exit→Act→World→Prop} {base:Nat→Prop} {v:Value} {x y:V} {K:V→Prop}
def ArgsR (I:Ft) (w:World) (vs:List Value) (xs:List V):Prop:=vs.length=xs.length∧∀ (j:Nat) (x:V),xs[j]?=some x→DR I w (vs.getD j undef) x
theorem ArgsR.nil:ArgsR I w [] []:=⟨rfl,by simp⟩
theorem ArgsR.append {vs us:List Value} {xs ys:List V} (h:ArgsR I w vs xs) (h':ArgsR I w us ys):ArgsR I w (vs++us) (xs++ys):=by
 refine⟨by simp[h.1,h'.1],fun j x hx=>?_⟩
 have hl:=h.1
 by_cases hj:j<xs.length
 ·rw[aC hj] at hx
  have:=h.2 j x hx
  rw[aA,aC (by omega)]
  rw[aA] at this
  exact this
 ·rw[aJ (by omega)] at hx
  have:=h'.2 _ x hx
  rw[aA,aJ (by omega),hl]
  rw[aA] at this
  exact this
theorem KD (hst:St G n I0 M w0 I β ob s a w) {i off blk:Nat} {cs:List C} (h:yq s i=some cs) (hβ:β i=some blk) {Ic:Ft} (rH:∀ b o,I b o→Ic b o) (hb:∀ o,Ic blk o) :
 CR Ic w (.pointer (some ⟨blk,off,none⟩)) (.rp cs off):=by
 unfold yq at h
 split at h
 ·rename_i hi
  obtain⟨qC,cur,e1,e2,e3,e4,e5,e7⟩:=hst.bx i hi
  obtain⟨T,e3,e6⟩:=e3.cells (xC h)
  rw[hβ] at e1
  cases e1
  have ce:cs.length=(s.bx i).length:=List.mapM_eq_some_length h
  have:=CR.rp (I:=Ic) (w:=w) blk 0 off cs (fun j=>cur.getD j undef) (fun j hj=>by
   have hjc:j<cur.size:=by omega
   rw[ah]
   refine⟨?_,hb j⟩
   rw[eY w blk j cur T.t T.fz e3]
   simp[ay hjc]) (fun j c hc=>by
   obtain⟨vv,rP,YP⟩:=List.mapM_eq_some_get h j c hc
   have gX:=e5 j
   have:(s.bx i).getD j .un=vv:=by simp[List.getD,rP]
   rw[this] at gX
   cases vv<;>simp only[V.asC] at YP<;>try cases YP
   ·exact gX.toC.mono fun b o h=>⟨rH b o h,rfl⟩
   ·exact gX.1.mono fun b o h=>⟨rH b o h,rfl⟩)
  rw[ah] at this
  exact this
 ·cases h
theorem Da (hst:St G n I0 M w0 I β ob s a w) {c:C} (hx:PR I β w v x) (h:uq s x=some c) {Ic:Ft} (rH:∀ b o,I b o→Ic b o)
 (hb:x.isBp=true→∀ i b o,β i=some b→Ic b o):CR Ic w v c:=by
 cases x<;>simp only[PR] at hx<;>simp only[uq] at h
 ·cases h;exact hx.mono fun b o h=>⟨rH b o h,rfl⟩
 ·cases h;exact hx.2.1.mono fun b o h=>⟨rH b o h,rfl⟩
 ·obtain⟨blk,e1,rfl⟩:=hx
  simp only[aX] at h
  obtain⟨cs,h1,rfl⟩:=h
  exact KD hst h1 e1 rH (fun o=>hb rfl _ _ o e1)
 ·exact C7 hst h hx rH (fun b o e=>hb rfl _ b o e)
 ·cases h
 ·cases h
 ·cases h
theorem y9 (hst:St G n I0 M w0 I β ob s a w) {ox:Option Nat} (hx:LR base I β w ox v x) (h:imm s x=some y) {Ic:Ft} (rH:∀ b o,I b o→Ic b o)
 (hb:x.boxy=true→∀ i b o,β i=some b→Ic b o):DR Ic w v y:=by
 cases x<;>simp only[imm] at h<;>try cases h
 ·exact .c _ _ (hx.toC.mono fun b o h=>⟨rH b o h,rfl⟩)
 ·obtain⟨vs,rfl,h1,h2⟩:=hx.agg
  exact .agg vs _ h1 fun j c hc=>(h2 j c hc).mono fun b o h=>⟨rH b o h,rfl⟩
 ·exact .c _ _ (hx.1.mono fun b o h=>⟨rH b o h,rfl⟩)
 ·simp only[LR] at hx
  obtain⟨blk,e1,rfl⟩:=hx
  simp only[aX] at h
  obtain⟨cs,h1,rfl⟩:=h
  exact .c _ _ (KD hst h1 e1 rH (fun o=>hb rfl _ _ o e1))
 ·rename_i f fs cs
  simp only[LR] at hx
  obtain⟨vf,vc,rfl,h1,h2,h3,h4⟩:=hx
  split at h
  ·rename_i fs' cs' e1 e2
   cases h
   have l1:=List.mapM_eq_some_length e1
   have l2:=List.mapM_eq_some_length e2
   have hbf:∀ z∈fs,z.isBp=true→∀ i b o,β i=some b→Ic b o:=fun z hz hzb=>
    hb (by simp only[V.boxy,dF,dp];exact .inl ⟨z,hz,hzb⟩)
   have hbc:∀ z∈cs,z.isBp=true→∀ i b o,β i=some b→Ic b o:=fun z hz hzb=>
    hb (by simp only[V.boxy,dF,dp];exact .inr ⟨z,hz,hzb⟩)
   refine .c _ _ (.fn f vf vc fs' cs' (by omega) (by omega) (fun j c hc=>?_) (fun j c hc=>?_))
   ·obtain⟨z,hz,rf⟩:=List.mapM_eq_some_get e1 j c hc
    exact Da hst (h3 j z hz) rf rH (hbf z (bg hz))
   ·obtain⟨z,hz,rf⟩:=List.mapM_eq_some_get e2 j c hc
    exact Da hst (h4 j z hz) rf rH (hbc z (bg hz))
  ·cases h
 ·simp only[LR] at hx
  simp only[aX] at h
  obtain⟨c,h1,rfl⟩:=h
  exact .c _ _ (C7 hst h1 hx rH (fun b o e=>hb rfl _ b o e))
 ·rename_i vs
  simp only[LR] at hx
  obtain⟨cells,rfl,h2,h3⟩:=hx
  simp only[aX] at h
  obtain⟨cs,h1,rfl⟩:=h
  refine .agg _ _ (by rw[h2];exact(List.mapM_eq_some_length h1).symm) fun j c hc=>?_
  obtain⟨z,hz,rf⟩:=List.mapM_eq_some_get h1 j c hc
  exact Da hst (h3 j z hz) rf rH (fun hzb=>hb (by simp only[V.boxy,dp];exact⟨z,bg hz,hzb⟩))
theorem Db (hst:St G n I0 M w0 I β ob s a w) {Ic:Ft} (rH:∀ b o,I b o→Ic b o):∀ (l:List Operand) (ys:List V),(l.map (ev G s)).mapM (imm s)=some ys→
 ((l.map (ev G s)).any V.boxy=true→∀ i b o,β i=some b→Ic b o)→ArgsR Ic w (l.map a.eval) ys
 |[],ys,h,_=>by simp at h;subst h;exact .nil
 |x::l,ys,h,hb=>by
  simp only[aL,fm,bind,iq,pure,am] at h
  obtain⟨y,h1,ys',h2,rfl⟩:=h
  have hd:=y9 hst (bB hst x) h1 rH (fun hx=>hb (by simp[hx]))
  have ih:=Db hst rH l ys' h2 (fun hx=>hb (by simp only[aL,List.any_cons,hx,Bool.or_true]))
  refine⟨by simp[ih.1],fun j z hz=>?_⟩
  cases j with
  |zero=>simp at hz;subst hz;exact hd
  |succ j=>simpa using ih.2 j z (by simpa using hz)
theorem ArgsR.ofC {I':Ft} (vs:Array Value) (cs:List C) (h:vs.size=cs.length) (hc:∀ j c,cs[j]?=some c→CR I' w (vs.getD j undef) c):ArgsR I' w vs.toList (cs.map .c):=by
 refine⟨by simp[h],fun j x hx=>?_⟩
 simp only[ba,aX] at hx
 obtain⟨c,h1,rfl⟩:=hx
 have:=hc j c h1
 rw[aA,aQ]
 rw[ao] at this
 exact .c _ _ this
theorem KE (hst:St G n I0 M w0 I β ob s a w) {Ic:Ft} (rH:∀ b o,I b o→Ic b o) (vs:Array Value) (xs ys:List V) (hl:vs.size=xs.length) (h:xs.mapM (imm s)=some ys)
 (hr:∀ j x,xs[j]?=some x→PR I β w (vs.getD j undef) x) (hb:xs.any V.boxy=true→∀ i b o,β i=some b→Ic b o):ArgsR Ic w vs.toList ys:=by
 refine⟨by have:=List.mapM_eq_some_length h;simp;omega,fun j y hy=>?_⟩
 obtain⟨x,hx,hxy⟩:=List.mapM_eq_some_get h j y hy
 have hp:=hr j x hx
 rw[aA,aQ,← ao]
 have gX:LR (Wr M w0) I β w none (vs.getD j undef) x:=by
  cases x<;>simp only[PR] at hp<;>simp only[LR]
  ·exact .c _ _ hp
  ·exact⟨hp.2.1,.inl ⟨rfl,hp.1,hp.2.2⟩⟩
  ·exact hp
  ·exact hp
  ·exact hp
  ·exact hp
  ·exact hp
 exact y9 hst gX hxy rH (fun AS=>hb (by simp only[dp];exact⟨x,bg hx,AS⟩))
theorem LR.flat {r:V} {ob':Option Nat} (hf:r.isFlat=true) (h:LR base I β w ob' v r) {I':Ft} {w':World} {base':Nat→Prop} {β':Nat→Option Nat}:LR base' I' β' w' none v r:=by
 have lits:∀ (cs:List C) (vs:Array Value),cs.all C.isLit=true→(∀ j c,cs[j]?=some c→CR I w (vs.getD j undef) c)→∀ j c,cs[j]?=some c→CR I' w' (vs.getD j undef) c:=by
  intro cs vs hc h j c hj
  have h1:=h j c hj
  have h2:=aW.1 hc c (bg hj)
  cases c<;>simp[C.isLit] at h2
  obtain⟨h3,h4⟩:=h1.lit_inv
  rw[h3];exact .lit _ h4
 cases r with
 |un=>simp only[LR];exact .un _
 |sk=>simp only[LR] at h ⊢;cases h;exact .sk
 |c c=>
  cases c<;>simp only[V.isFlat] at hf<;>try cases hf
  obtain⟨h3,h4⟩:=h.toC.lit_inv
  rw[h3];exact .ofLit h4
 |agg cs=>
  obtain⟨vs,rfl,h1,h2⟩:=h.agg
  simp only[LR];exact .agg vs _ h1 (lits _ vs hf h2)
 |tup ds=>
  simp only[LR] at h ⊢
  cases h with
  |tup vs _ h1 h2=>
   refine .tup vs ds h1 fun j d hj=>?_
   have h3:=h2 j d hj
   have h4:=aW.1 hf d (bg hj)
   cases d with
   |c c=>
    cases c<;>simp only at h4<;>try cases h4
    generalize vs.getD j undef=vv at h3
    cases h3 with
    |c _ _ h5=>
     obtain⟨h6,h7⟩:=h5.lit_inv
     rw[h6];exact .c _ _ (.lit _ h7)
   |agg cs=>
    generalize vs.getD j undef=vv at h3
    cases h3 with
    |agg us _ h5 h6=>exact .agg us _ h5 (lits _ us h4 h6)
   |_=>cases h4
 |ow=>cases hf
 |bp=>cases hf
 |clo=>cases hf
 |ms=>cases hf
 |mag=>cases hf
 |mr=>cases hf
 |mk=>cases hf
 |it=>cases hf
 |gh=>cases hf
 |yl=>cases hf
 |lp=>cases hf
 |hh=>cases hf
 |bm=>cases hf
 |gs=>cases hf
 |gg=>cases hf
theorem KF (hst:St G n I0 M w0 I β ob s a w) (hd:∀ d,o.dst=some d→d<n) {f:FuncId} {vs:List Value} {xs:List V} {r:V} (dI:FnOK P G f xs r) (hr:K r)
 (boxy:Bool) (cv:∀ Ic:Ft,(∀ b o,I b o→Ic b o)→(boxy=true→∀ i b o,β i=some b→Ic b o)→ArgsR Ic w vs xs) (rG:boxy=true→r.isFlat=true)
 (bA:(execOp a.eval o).run P w=.ok (.enter f vs.toArray) w)
 (hk:∀ a' w' x,K x→SE G n I0 M w0 (s.after tr o x) a' w'→next a' w'):o.wp P a w next Q:=by
 unfold Oper.wp
 rw[bA]
 simp only[Oper.upon]
 cases boxy with
 |false=>
  obtain⟨h1,h2⟩:=cv I (fun _ _ h=>h) (by simp)
  refine (dI.2 I w vs.toArray hst.ibnd hst.glob (by simpa using h1) (fun j x hx=>by simpa using h2 j x hx)).mono ?_
  rintro e w' ⟨v,I',rfl,hg,Kj,Ig,ob',gX,jb⟩
  simp only
  refine hk _ _ r hr ?_
  have bH:=hst.grow hg Kj Ig
  refine .fin bH hd (o':=ob') ?_ fun b hb=>?_
  ·cases r<;>simp only[LR] at gX ⊢<;>try exact gX
   ·obtain⟨h3,h4⟩:=gX
    refine⟨h3,?_⟩
    rcases h4 with h4 | ⟨e,blk,cap,cur,sz,q1,q2,q3,q4,q5⟩
    ·exact .inl h4
    ·exact .inr ⟨e,blk,cap,cur,sz,q1,q2,q3,.inl (bY hst.below.size q4),q5⟩
   ·obtain⟨_,h3,_⟩:=gX;cases h3
   rotate_left
   ·obtain⟨_,_,_,_,_,h3,_⟩:=gX;cases h3
   ·obtain⟨cs,q1,q2,q3⟩:=gX
    exact⟨cs,q1,q2,fun j x hx=>(q3 j x hx).mono (fun b o h=>⟨h,rfl⟩) (by simp)⟩
   ·obtain⟨_,h3,_⟩:=gX;cases h3
   ·obtain⟨_,_,_,_,h3,_⟩:=gX;cases h3
   ·obtain⟨h3,h4⟩:=gX
    refine⟨h3,?_⟩
    rcases h4 with h4 | ⟨e,blk,cap,cur,sz,q1,q2,q3,q4,q5⟩
    ·exact .inl h4
    ·exact .inr ⟨e,blk,cap,cur,sz,q1,q2,q3,.inl (bY hst.below.size q4),q5⟩
   ·obtain⟨_,h3,_⟩:=gX;cases h3
   ·obtain⟨tm,q1,q2⟩:=gX
    exact⟨tm,q1,fun t x hx=>(q2 t x hx).mono (fun b o h=>⟨h,rfl⟩) (by simp)⟩
   ·obtain⟨h3,e,blk,cap,cur,sz,q1,q2,q3,q4,q5⟩:=gX
    exact⟨h3,e,blk,cap,cur,sz,q1,q2,q3,.inl (bY hst.below.size q4),q5⟩
   ·obtain⟨h3,h4⟩:=gX
    refine⟨h3,?_⟩
    rcases h4 with h4 | ⟨e,blk,cap,cur,sz,q1,q2,q3,q4,q5⟩
    ·exact .inl h4
    ·exact .inr ⟨e,blk,cap,cur,sz,q1,q2,q3,.inl (bY hst.below.size q4),q5⟩
   ·rcases gX with h4 | ⟨e,blk,cap,cur,sz,q1,q2,q3,q4,q5⟩
    ·exact .inl h4
    ·exact .inr ⟨e,blk,cap,cur,sz,q1,q2,q3,.inl (bY hst.below.size q4),q5⟩
   ·obtain⟨_,h3,_⟩:=gX;cases h3
   ·obtain⟨vf,vc,q1,q2,q3,q4,q5⟩:=gX
    exact⟨vf,vc,q1,q2,q3,fun j x hx=>(q4 j x hx).mono (fun b o h=>⟨h,rfl⟩) (by simp),fun j x hx=>(q5 j x hx).mono (fun b o h=>⟨h,rfl⟩) (by simp)⟩
  ·obtain⟨h3,h4⟩:=jb b hb
   obtain⟨f1,f2⟩:=hst.fresh h3
   exact⟨⟨h4,.inl (bY hst.below.size h3)⟩,f2,fun L hL=>absurd hL (f1 L)⟩
 |true=>
  have nF:∀ i b,β i=some b→b<w.heap.size:=fun i b hi=>by
   by_cases h:i<s.nb
   ·obtain⟨blk,cur,e1,_,e3,_⟩:=hst.bx i h
    rw[hi] at e1;cases e1
    exact e3.lt
   ·rw[hst.bnone i (by omega)] at hi;cases hi
  obtain⟨h1,h2⟩:=cv (fun b o=>I b o∨∃ i,β i=some b) (fun _ _ h=>.inl h) (fun _ i b o hi=>.inr ⟨i,hi⟩)
  refine (dI.2 (fun b o=>I b o∨∃ i,β i=some b) w vs.toArray (fun b o hb=>by
   rcases hb with hb | ⟨i,hi⟩
   ·exact hst.ibnd b o hb
   ·exact nF i b hi) (fun g cs hg=>(hst.glob g cs hg).mono fun b o h=>⟨.inl h,rfl⟩) (by simpa using h1) (fun j x hx=>by simpa using h2 j x hx)).mono ?_
  rintro e w' ⟨v,I',rfl,hg,Kj,Ig,ob',gX,jb⟩
  simp only
  refine hk _ _ r hr ?_
  have bH:=hst.grow hg (fun _ _ h=>h) (fun _ _ h=>.inl h)
  exact .fin0 bH hd (gX.flat (rG rfl))
theorem lD {f:Operand} {args:Array Operand} {ts:Array TypeId} (ho:o.op=.call { callee:=.value f,args:=args,argTypes:=ts }) {g:FuncId} {vf vc:Array Value} (hf:a.eval f=.func (.func g) vf vc)
 {fn:Func} {c:Code} (h1:P.funcs[g]?=some fn) (h2:(fn.name== "runtime.NumGoroutine")=false) (h3:fn.body=some c) :
 (execOp a.eval o).run P w=.ok (.enter g (vf++args.map a.eval++vc)) w:=by
 unfold execOp
 simp only[ho,resolve,Deferred.ofValue,hf,aH,bh,aw,invoke]
 have nQ:fn.name≠ "runtime.NumGoroutine" :=by simpa using h2
 simp[callFunc,h1,nQ,h3]
theorem Fp {f:Operand} {args:Array Operand} {ts:Array TypeId} (ho:o.op=.call { callee:=.value f,args:=args,argTypes:=ts }) (hst:St G n I0 M w0 I β ob s a w) (hd:∀ d,o.dst=some d→d<n)
 (h:qh P G s (ev G s f) (args.toList.map (ev G s)) K) (hk:∀ a' w' x,K x→SE G n I0 M w0 (s.after tr o x) a' w'→next a' w'):o.wp P a w next Q:=by
 have hf:=bB hst f
 unfold qh at h
 split at h
 ·rename_i g fs cs he
  rw[he] at hf
  split at h
  ·rename_i as has
   obtain⟨r,dI,rG,hr⟩:=h
   obtain⟨vf,vc,hv,q1,q2,q3,q4⟩:=hf.toC.fn_inv
   obtain⟨fn,h1,h2,c,h3⟩:=dI.1
   have bA:=lD (P:=P) (w:=w) ho hv h1 h2 h3
   refine KF hst hd dI hr ((args.toList.map (ev G s)).any V.boxy) (vs:=vf.toList++args.toList.map a.eval++vc.toList) (fun Ic rH hb=>?_) rG ?_ hk
   ·exact((ArgsR.ofC vf fs q1 fun j c hc=>(q3 j c hc).mono fun b o h=>⟨rH b o h,rfl⟩).append (Db hst rH _ as has hb)).append
     (ArgsR.ofC vc cs q2 fun j c hc=>(q4 j c hc).mono fun b o h=>⟨rH b o h,rfl⟩)
   ·rw[bA];congr 2;apply cP;simp
  ·exact h.elim
 ·rename_i g fs cs he
  rw[he] at hf
  simp only[LR] at hf
  obtain⟨vf,vc,hv,q1,q2,q3,q4⟩:=hf
  split at h
  ·rename_i fs' as cs' e1 e2 e3
   obtain⟨r,dI,rG,hr⟩:=h
   obtain⟨fn,h1,h2,c,h3⟩:=dI.1
   have bA:=lD (P:=P) (w:=w) ho hv h1 h2 h3
   refine KF hst hd dI hr ((fs++args.toList.map (ev G s)++cs).any V.boxy) (vs:=vf.toList++args.toList.map a.eval++vc.toList) (fun Ic rH hb=>?_) rG ?_ hk
   ·exact((KE hst rH vf fs fs' q1 e1 q3 fun hx=>hb (by simp only[List.any_append,hx,Bool.true_or])).append
     (Db hst rH _ as e2 fun hx=>hb (by simp only[List.any_append,hx,Bool.true_or,Bool.or_true]))).append
     (KE hst rH vc cs cs' q2 e3 q4 fun hx=>hb (by simp only[List.any_append,hx,Bool.or_true]))
   ·rw[bA];congr 2;apply cP;simp
  ·exact h.elim
 ·exact h.elim
theorem za {mx:Bool} {args:Array Operand} (hst:St G n I0 M w0 I β ob s a w) (h:Ip mx (args.toList.map (ev G s)) K) :
 ∃ u,flat u=true∧K (.c (.lit u))∧(if mx then Builtin.max_ #[] 0 (args.map a.eval) else Builtin.min_ #[] 0 (args.map a.eval)).run P w=.ok u w:=by
 unfold Ip at h
 split at h
 ·rename_i k p k' q cv
  obtain⟨X,l,hX,hXv,hl⟩:∃ X l,args.toList=X::l∧ev G s X=.c (.lit (.int k p))∧l.map (ev G s)=[.c (.lit (.int k' q))]:=by
   cases ha:args.toList with
   |nil=>simp[ha] at cv
   |cons X l=>simp only[ha,aL,bO] at cv;exact⟨X,l,rfl,cv.1,cv.2⟩
  obtain⟨Y,rfl,hYv⟩:∃ Y,l=[Y]∧ev G s Y=.c (.lit (.int k' q)):=by
   cases l with
   |nil=>simp at hl
   |cons Y l'=>simp only[aL,bO,dV] at hl;exact⟨Y,by rw[hl.2],hl.1⟩
  have e1:a.eval X=.int k p:=by have:=bB hst X;rw[hXv] at this;exact this.lit
  have e2:a.eval Y=.int k' q:=by have:=bB hst Y;rw[hYv] at this;exact this.lit
  refine⟨_,rfl,h,?_⟩
  cases mx
  ·simp[Builtin.min_,hX,e1,e2,Builtin.min2]
  ·simp[Builtin.max_,hX,e1,e2,Builtin.max2]
 ·exact h.elim
end
section
variable {P:Program} {I:Ft} {w:World}
theorem PC {k:EK} {c d:C} (h:eqC k c d=some true):∃ v,c=.lit v∧d=.lit v∧(∀ m,Instr.sameBits m v v=true):=by
 cases k with
 |int=>
  obtain⟨k,a,b,rfl,rfl,hr⟩:=CX h
  have:a=b:=by simpa using hr.symm
  subst this
  exact⟨_,rfl,rfl,fun m=>by cases m<;>simp[Instr.sameBits]⟩
 |bool=>
  obtain⟨a,b,rfl,rfl,hr⟩:=y7 h
  have:a=b:=by simpa using hr.symm
  subst this
  exact⟨_,rfl,rfl,fun m=>by cases m<;>simp[Instr.sameBits]⟩
 |str=>
  obtain⟨a,b,rfl,rfl,hr⟩:=CY h
  have:a=b:=by simpa using hr.symm
  subst this
  exact⟨_,rfl,rfl,fun m=>by cases m<;>simp[Instr.sameBits,wK]⟩
theorem Bv:∀ {ks:List EK} {cs ds:List C},jA ks cs ds=some true→cs.length=ks.length→ds.length=ks.length→
 cs=ds∧∀ c∈cs,∃ v,c=.lit v∧∀ m,Instr.sameBits m v v=true
 |[],cs,ds,_,h1,h2=>by simp at h1 h2;subst h1;subst h2;simp
 |k::ks,[],ds,h,h1,h2=>by simp at h1
 |k::ks,c::cs,[],h,h1,h2=>by simp at h2
 |k::ks,c::cs,d::ds,h,h1,h2=>by
  simp only[jA] at h
  split at h
  ·rename_i p q e1 e2
   simp only[am,aG] at h
   obtain⟨rfl,rfl⟩:=h
   obtain⟨v,rfl,rfl,hv⟩:=PC e1
   obtain⟨rfl,h4⟩:=Bv e2 (by simpa using h1) (by simpa using h2)
   exact⟨rfl,fun c hc=>by
    rcases bw.1 hc with rfl | hc
    ·exact⟨v,rfl,hv⟩
    ·exact h4 c hc⟩
  ·cases h
theorem Ix {xs ys:Array Value} {cs:List C} (hx:Cells I w xs cs) (hy:Cells I w ys cs) (hl:∀ c∈cs,∃ v,c=.lit v∧∀ m,Instr.sameBits m v v=true) :
 xs=ys∧∀ v∈xs.toList,∀ m,Instr.sameBits m v v=true:=by
 have each:∀ j,j<cs.length→∃ v,xs[j]?=some v∧ys[j]?=some v∧∀ m,Instr.sameBits m v v=true:=fun j hj=>by
  obtain⟨v,hv,hs⟩:=hl cs[j] (aF hj)
  have h1:=hx.2 j _ (aj hj)
  have h2:=hy.2 j _ (aj hj)
  rw[hv] at h1 h2
  exact⟨v,KA h1.lit_eq (by rw[hx.1];exact hj),KA h2.lit_eq (by rw[hy.1];exact hj),hs⟩
 refine⟨?_,fun v hv m=>?_⟩
 ·apply jn (by rw[hx.1,hy.1])
  intro j h1 h2
  obtain⟨v,e1,e2,_⟩:=each j (by rw[← hx.1];exact h1)
  rw[ay h1] at e1;rw[ay h2] at e2
  rw[dE e1,dE e2]
 ·obtain⟨j,hj,rfl⟩:=iJ hv
  obtain⟨v,e1,_,hs⟩:=each j (by rw[← hx.1];simpa using hj)
  simp only[bJ] at hj
  rw[ay hj] at e1
  simp only[Array.getElem_toList]
  rw[dE e1];exact hs m
theorem Dc {t:TypeId} {xs:Array Value} (h:∀ v∈xs.toList,∀ m,Instr.sameBits m v v=true) (h1:c9 P t=false→0<xs.size) (m:Nat) :
 Instr.sameBits (m+1) (mkv P t xs) (mkv P t xs)=true:=by
 unfold mkv
 cases hz:c9 P t with
 |false=>
  simp only[aS,dm]
  have:=h1 hz
  simp only[Array.getD,this,dif_pos]
  exact h _ (by simp) _
 |true=>
  simp only[cJ]
  have:∀ l:List Value,(∀ v∈l,∀ m,Instr.sameBits m v v=true)→(l.zip l).all (fun(x:Value×Value)=>Instr.sameBits m x.1 x.2)=true:=by
   intro l hl
   rw[aW]
   intro x hx
   have:x.1=x.2∧x.1∈l:=by
    have h2:l.zip l=l.map fun a=>(a,a):=by
     clear hx hl
     induction l with
     |nil=>rfl
     |cons a l ih=>simp[ih]
    rw[h2] at hx
    obtain⟨a,ha,rfl⟩:=bu.1 hx
    exact⟨rfl,ha⟩
   rw[← this.1];exact hl _ this.2 m
  simp only[Instr.sameBits,BEq.rfl,Bool.true_and]
  exact this _ h
theorem Dd {t:TypeId} {xs ys:Array Value} {ks:List EK} {cs ds:List C} (hx:Cells I w xs cs) (hy:Cells I w ys ds) (he:jA ks cs ds=some true) (h1:cs.length=ks.length) (h2:ds.length=ks.length) (hz:c9 P t=false→0<ks.length) :
 mkv P t xs=mkv P t ys∧(Instr.keyThatStays (mkv P t ys) (mkv P t xs)).run P w=.ok (mkv P t xs) w:=by
 obtain⟨rfl,hl⟩:=Bv he h1 h2
 obtain⟨rfl,hs⟩:=Ix hx hy hl
 refine⟨rfl,?_⟩
 unfold Instr.keyThatStays
 rw[Dc hs (fun h=>by rw[hx.1,h1];exact hz h) 9999]
 simp
theorem De (em:Bool):∀ (d:Nat) (t:TypeId) (ks:List EK),eqk P d t=some ks→∀ (n:Nat) (xs:Array Value),xs.size=ks.length→
 (Instr.checkKey em (d+n) t (mkv P t xs)).run P w=.ok () w:=by
 intro d
 induction d with
 |zero=>intro t ks h;simp[eqk] at h
 |succ d ih=>
  intro t ks h n xs AK
  rw[show d+1+n=(d+n)+1 by omega]
  unfold eqk at h
  split at h
  ·rename_i k hu
   rw[Instr.checkKey];simp[aO hu,Result.andThen]
  ·rename_i hu
   rw[Instr.checkKey];simp[aO hu,Result.andThen]
  ·rename_i hu
   rw[Instr.checkKey];simp[aO hu,Result.andThen]
  ·rename_i fs hu
   split at h
   ·cases h
   ·have lh:c9 P t=true:=by simp[c9,hu]
    simp only[mkv,lh,cJ]
    rw[Instr.checkKey]
    simp only[aH,aO hu,aw]
    rw[← Array.forIn_toList]
    have hh:∃ acc,AW P (eqk P d) fs.toList acc=some ks:=⟨[],h⟩
    clear h
    generalize fs.toList=l at hh
    induction l with
    |nil=>simp
    |cons f l ihl=>
     obtain⟨acc,h⟩:=hh
     simp only[AW] at h
     split at h
     ·rename_i k1 Kf
      split at h
      ·rename_i hc
       obtain⟨hn,mG,ce⟩:=hc
       obtain⟨rest,CM⟩:=wL (P:=P) _ _ _ _ h
       have dR:acc.length+k1.length≤ks.length:=by rw[CM];simp
       obtain⟨u,hfu⟩:=oq Kf
       have iY:c9 P f.type=false→P.cellsOf f.type=1:=fun hz=>by rw[← ce];exact sX Kf hz
       have hpx:=qj (w:=w) f.type u hfu xs f.offset (by rw[mG,← ce,AK];exact dR) iY
       have p2:=ih f.type k1 Kf n (xs.extract f.offset (f.offset+P.cellsOf f.type)) (by simp;omega)
       simp only[List.forIn_cons,aH,hn,ne_eq,not_false_eq_true,cJ,hpx,aw,p2,bh]
       exact ihl ⟨_,h⟩
      ·cases h
     ·cases h
  ·rename_i m e hu
   split at h
   ·rename_i k1 Kf
    split at h
    ·rename_i ce
     simp only[am] at h
     have lh:c9 P t=true:=by simp[c9,hu]
     obtain⟨u,heu⟩:=oq Kf
     obtain⟨i,hi⟩:=gq heu
     simp only[mkv,lh,cJ]
     rw[Instr.checkKey]
     simp only[aH,aO hu,aw]
     simp only[Std.Legacy.Range.forIn_eq_forIn_range',Std.Legacy.Range.size,lb,Nat.add_one_sub_one,Nat.div_one]
     have abR:ks.length=m*k1.length:=by rw[← h];simp
     have iY:c9 P e=false→P.cellsOf e=1:=fun hz=>by rw[← ce];exact sX Kf hz
     have ey:∀ j∈List.range' 0 m,j<m:=fun j hj=>by simp at hj;exact hj
     generalize List.range' 0 m=is at ey
     induction is with
     |nil=>simp
     |cons j is ihs=>
      have hj:=ey j (by simp)
      have dR:j*k1.length+k1.length≤ks.length:=by
       rw[abR,← dD];exact aP _ (by omega)
      have hpx:=qj (w:=w) e u heu xs (j*P.cellsOf e) (by rw[← ce,AK];exact dR) iY
      have p2:=ih e k1 Kf n (xs.extract (j*P.cellsOf e) (j*P.cellsOf e+P.cellsOf e)) (by simp;rw[← ce];omega)
      simp only[List.forIn_cons,aH,eG w hi,aw,hpx,p2,bh]
      exact ihs (fun y hy=>ey y (by simp[hy]))
    ·cases h
   ·cases h
  ·cases h
theorem Fq {t:TypeId} {u:TypeDesc} {d:Nat} {ks:List EK} (hu:P.underlying t=some u) (hk:eqk P (d+1) t=some ks) (hz:c9 P t=false) {xs ys:Array Value} {cs ds:List C} {r:Bool} (hx:Cells I w xs cs) (hy:Cells I w ys ds)
 (h1:cs.length=ks.length) (h2:ds.length=ks.length) (he:jA ks cs ds=some r):Instr.sameNow u (mkv P t xs) (mkv P t ys)=some r:=by
 have hl:=sX hk hz
 obtain⟨k,rfl⟩:=eH.1 hl
 obtain⟨c,rfl⟩:=eH.1 (h1.trans hl)
 obtain⟨e,rfl⟩:=eH.1 (h2.trans hl)
 have hr:eqC k c e=some r:=by
  simp only[jA] at he
  split at he
  ·rename_i p q e1 e2
   simp only[am] at e2 he
   subst e2;rw[e1];simpa using he
  ·cases he
 have hcx:CR I w (mkv P t xs) c:=by simp only[mkv,hz];exact hx.2 0 c rfl
 have Ub:CR I w (mkv P t ys) e:=by simp only[mkv,hz];exact hy.2 0 e rfl
 unfold eqk at hk
 split at hk
 ·rename_i q Bo
  rw[hu] at Bo;cases Bo
  simp only[am,bO,fY] at hk
  subst hk
  obtain⟨kk,a,b,rfl,rfl,rfl⟩:=CX hr
  rw[hcx.lit_eq,Ub.lit_eq]
  simp[Instr.sameNow,Bool.beq_eq_decide_eq]
 ·rename_i Bo
  rw[hu] at Bo;cases Bo
  simp only[am,bO,fY] at hk
  subst hk
  obtain⟨a,b,rfl,rfl,rfl⟩:=y7 hr
  rw[hcx.lit_eq,Ub.lit_eq]
  simp[Instr.sameNow]
 ·rename_i Bo
  rw[hu] at Bo;cases Bo
  simp only[am,bO,fY] at hk
  subst hk
  obtain⟨a,b,rfl,rfl,rfl⟩:=CY hr
  rw[hcx.lit_eq,Ub.lit_eq]
  simp[Instr.sameNow,wK]
 ·rename_i Bo;simp[c9,Bo] at hz
 ·rename_i Bo;simp[c9,Bo] at hz
 ·cases hk
theorem Bw {t:TypeId} {ks:List EK} (hk:eqk P 8 t=some ks) {xs:Array Value} {cs:List C} (hx:Cells I w xs cs) (h1:cs.length=ks.length) :
 ∀ (es:List MapEntry) (kc:List (List C)) (i:Nat) (r:Option Nat),es.length=kc.length→(∀ (j:Nat) (e:MapEntry) (c:List C),es[j]?=some e→kc[j]?=some c→∃ ys,e.key=mkv P t ys∧Cells I w ys c)→
  mM ks cs kc i=some r→(if c9 P t then(Instr.findAsking t (mkv P t xs) es i).run P w=.ok (r.map fun j=>(j,((es[j - i]?).map (·.val)).getD undef)) w
   else Instr.findNow ((P.underlying t).getD .bool) (mkv P t xs) es i=some (r.map fun j=>(j,((es[j - i]?).map (·.val)).getD undef)))∧∀ j,r=some j→i≤j
 |[],[],i,r,_,_,h=>by
  simp only[mM,am] at h;subst h
  refine⟨?_,by simp⟩
  split<;>simp[Instr.findAsking,Instr.findNow]
 |[],_::_,_,_,h,_,_=>by simp at h
 |_::_,[],_,_,h,_,_=>by simp at h
 |e::es,c::kc,i,r,hl,pz,h=>by
  simp only[mM] at h
  split at h
  ·rename_i h2
   obtain⟨ys,E0,hy⟩:=pz 0 e c rfl rfl
   obtain⟨u,hu⟩:=oq hk
   have step:∀ b,jA ks cs c=some b→(c9 P t=true→(Op.equal t (mkv P t xs) e.key).run P w=.ok b w)∧(c9 P t=false→Instr.sameNow u (mkv P t xs) e.key=some b):=fun b hb=>by
    rw[E0]
    exact⟨fun _=>Bs (w:=w) 8 t ks hk 10000 (by omega) xs ys cs c b hx hy (by rw[hx.1,h1]) (by rw[hy.1,h2]) hb,fun hz=>Fq hu hk hz hx hy h1 h2 hb⟩
   split at h
   ·rename_i hb
    simp only[am] at h;subst h
    obtain⟨s1,s2⟩:=step _ hb
    refine⟨?_,fun j hj=>by cases hj;exact ae _⟩
    split
    ·rename_i hz;simp[Instr.findAsking,s1 hz]
    ·rename_i hz;simp[Instr.findNow,hu,s2 (by simpa using hz)]
   ·rename_i hb
    obtain⟨s1,s2⟩:=step _ hb
    obtain⟨q1,q2⟩:=Bw hk hx h1 es kc (i+1) r (by simpa using hl) (fun j e c h1 h2=>pz (j+1) e c (by simpa using h1) (by simpa using h2)) h
    have ey:(r.map fun j=>(j,(((e::es)[j - i]?).map (·.val)).getD undef))=r.map fun j=>(j,((es[j - (i+1)]?).map (·.val)).getD undef):=by
     cases r with
     |none=>rfl
     |some j=>
      have:=q2 j rfl
      have e1:j - i=(j - (i+1))+1:=by omega
      simp[e1]
    refine⟨?_,fun j hj=>by have:=q2 j hj;omega⟩
    rw[ey]
    split
    ·rename_i hz
     rw[if_pos hz] at q1
     simpa[Instr.findAsking,s1 hz] using q1
    ·rename_i hz
     rw[if_neg hz] at q1
     simpa[Instr.findNow,hu,s2 (by simpa using hz)] using q1
   ·cases h
  ·cases h
theorem MA {t:TypeId} {ks:List EK} (hk:eqk P 8 t=some ks) {xs:Array Value} {cs:List C} (hx:Cells I w xs cs) (h1:cs.length=ks.length) {es:List MapEntry} {kc:List (List C)} {r:Option Nat} (hl:es.length=kc.length)
 (pz:∀ (j:Nat) (e:MapEntry) (c:List C),es[j]?=some e→kc[j]?=some c→∃ ys,e.key=mkv P t ys∧Cells I w ys c) (h:mM ks cs kc 0=some r) :
 (Instr.findKey t (mkv P t xs) es).run P w=.ok (r.map fun j=>(j,((es[j]?).map (·.val)).getD undef)) w:=by
 obtain⟨q,_⟩:=Bw hk hx h1 es kc 0 r hl pz h
 obtain⟨u,hu⟩:=oq hk
 cases hz:c9 P t with
 |true=>
  rw[if_pos hz] at q
  rw[run_findKey_eq w (by unfold c9 at hz;rw[hu] at hz ⊢;cases u<;>simp_all)]
  simpa using q
 |false=>
  rw[if_neg (by simp[hz])] at q
  simp only[hu,bQ] at q
  rw[MapKept.run_findKey hu q];simp
end
section
variable {P:Program} {G:Gl} {tr:List Nat} {n:Nat} {I0:Ft} {M:Mx} {w0:World} {I:Ft} {β:Nat→Option Nat} {ob:Loc→Option Nat} {s:S} {a:Act} {w:World} {o:Oper}
 {next:Act→World→Prop} {Q:Exit→Act→World→Prop} {base:Nat→Prop} {v:Value} {x y:V} {K:V→Prop}
theorem zb {d:TypeDesc} {k e:TypeId} (h:Vl.K.map k e=tQ d):d=.map k e:=by cases d<;>simp_all[tQ]
theorem zd {ag:Bool}:∀ {r:List V} {kcs:List (List C)},jB ag r=some kcs→r.length=2*kcs.length∧∀ (j:Nat) (c:List C),kcs[j]?=some c→(r.getD (2*j) .un).kcs ag=some c
 |[],kcs,h=>by simp only[jB,am] at h;subst h;exact⟨rfl,by simp⟩
 |[_],kcs,h=>by simp[jB] at h
 |k::v::r,kcs,h=>by
  simp only[jB] at h
  split at h
  ·rename_i q l h1 h2
   simp only[am] at h;subst h
   obtain⟨h3,h4⟩:=zd h2
   refine⟨by simp[h3];omega,fun j c hc=>?_⟩
   cases j with
   |zero=>simp at hc;subst hc;exact h1
   |succ j=>
    rw[show 2*(j+1)=2*j+1+1 by omega]
    simp only[dK]
    exact h4 j c (by simpa using hc)
  ·cases h
theorem ze {ks:List EK} {k:List C}:∀ {kcs:List (List C)} {i j:Nat},mM ks k kcs i=some (some j)→∃ q c,j=i+q∧kcs[q]?=some c∧c.length=ks.length∧jA ks k c=some true
 |[],i,j,h=>by simp[mM] at h
 |c::r,i,j,h=>by
  simp only[mM] at h
  split at h
  ·rename_i hl
   split at h
   ·rename_i he
    simp only[am] at h;subst h
    exact⟨0,c,rfl,rfl,hl,he⟩
   ·obtain⟨q,c',rfl,h2,h3,h4⟩:=ze h
    exact⟨q+1,c',by omega,by simpa using h2,h3,h4⟩
   ·cases h
  ·cases h
theorem qK:∀ (es:List MapEntry) (j:Nat) (e:MapEntry),es[j]?=some e→(kE es)[2*j]?=some e.key∧(kE es)[2*j+1]?=some e.val
 |[],j,e,h=>by simp at h
 |x::es,0,e,h=>by simp at h;subst h;exact⟨rfl,rfl⟩
 |x::es,j+1,e,h=>by
  obtain⟨h1,h2⟩:=qK es j e (by simpa using h)
  rw[show 2*(j+1)=2*j+1+1 by omega]
  simp only[kE,cH]
  exact⟨h1,h2⟩
theorem vj:∀ es:List MapEntry,(kE es).length=2*es.length
 |[]=>rfl
 |x::es=>by simp[kE,vj es];omega
theorem PD {ag:Bool} {kt:TypeId} (lh:ag=c9 P kt) {ox:Option Nat} (h:LR base I β w ox v x) {c:List C} (hc:x.kcs ag=some c):∃ ys,v=mkv P kt ys∧Cells I w ys c:=by
 cases x<;>simp only[V.kcs] at hc<;>try cases hc
 ·split at hc
  ·cases hc
  ·rename_i hf
   simp only[am] at hc;subst hc
   have hz:c9 P kt=false:=by rw[← lh];simpa using hf
   refine⟨#[v],by simp[mkv,hz],rfl,fun j c hc=>?_⟩
   cases j with
   |zero=>simp at hc;subst hc;exact h.toC
   |succ j=>simp at hc
 ·split at hc
  ·rename_i ht
   simp only[am] at hc;subst hc
   have hz:c9 P kt=true:=by rw[← lh];exact ht
   obtain⟨vs,rfl,h1,h2⟩:=h.agg
   exact⟨vs,by simp[mkv,hz],h1,h2⟩
  ·cases hc
theorem xJ {ox:Option Nat} (h:LR base I β w ox v x):DR I w v x.dr:=by
 cases x<;>simp only[V.dr]<;>first | exact .un _ | skip
 ·exact .c _ _ h.toC
 ·simp only[LR] at h;exact h
 ·exact .c _ _ h.1
theorem MB {et:TypeId} {e:TI} {z:V} (hi:ti P et=some e) (hz:pU e=some z) (ha:zaB P et=true):∃ zv,(zeroValue et).run P w=.ok zv w∧∀ (base:Nat→Prop) (β:Nat→Option Nat),LR base I β w none zv z:=by
 obtain⟨j,d,h1,h2,_,_,_,lh,YR,_⟩:=bn hi
 unfold zaB at ha
 rw[h1] at ha
 simp only at ha
 unfold pU at hz
 cases rF:j.zero with
 |none=>rw[rF] at ha;cases ha
 |some zv=>
  rw[rF] at ha YR
  refine⟨zv,by simp[zeroValue,typeInfo,h1,rF],fun base β=>?_⟩
  simp only at YR
  split at hz
  ·rename_i zc' Ke rf
   simp only[am] at hz;subst hz
   rw[rf] at YR
   rw[Ke] at lh
   cases zv<;>simp only[← lh,iU,aS] at ha
   rename_i cs
   simp only[LR]
   refine .agg _ _ (by have:=List.mapM_eq_some_length YR.symm;simpa[Value.cells] using this.symm) fun q c hc=>?_
   obtain⟨u,hu,huc⟩:=List.mapM_eq_some_get YR.symm q c hc
   have:cs.getD q undef=u:=by
    simp only[Value.cells,aQ] at hu
    simp[hu]
   rw[this];exact KC huc
  ·rename_i c EV rf
   simp only[am] at hz;subst hz
   rw[rf] at YR
   rw[EV] at lh
   have hl:=List.mapM_eq_some_length YR.symm
   obtain⟨u,hu,huc⟩:=List.mapM_eq_some_get YR.symm 0 c rfl
   have:zv=u:=by
    cases zv<;>simp only[← lh,j3,aS] at ha<;>simpa[Value.cells] using hu
   rw[this];exact .ofC (KC huc)
  ·cases hz
structure PE (P:Program) (I:Ft) (M:Mx) (w0:World) (β:Nat→Option Nat) (ob:Loc→Option Nat) (s:S) (w:World) (i:Nat) (bs:List Nat) (cl:Nat) (r:List V) (blk:Nat) (es:Array MapEntry):Prop where
 lt:i<s.nb
 bx:s.bx i=.mk bs cl::r
 bt:β i=some blk
 wr:Wr M w0 blk
 fr:∀ o,¬ I blk o
 heap:w.heap[blk]?=some (.map es cl)
 born:es.toList.map (·.born)=bs
 len:r.length=2*bs.length
 ent:∀ (j:Nat) (e:MapEntry),es.toList[j]?=some e→LR (Wr M w0) I β w (ob (.b i (2*j+1))) e.key (r.getD (2*j) .un)∧LR (Wr M w0) I β w (ob (.b i (2*j+2))) e.val (r.getD (2*j+1) .un)
theorem St.mapW (hst:St G n I0 M w0 I β ob s a w) {i blk cl:Nat} {bs:List Nat} {r:List V} (hi:i<s.nb) (hb:s.bx i=.mk bs cl::r) (hβ:β i=some blk):∃ es,PE P I M w0 β ob s w i bs cl r blk es:=by
 obtain⟨qC,cur,e1,e2,e3,e4,e5,e7⟩:=hst.bx i hi
 rw[hβ] at e1;cases e1
 have hm:nI (s.bx i)=some (.mp bs cl):=by rw[hb];rfl
 unfold HB at e3
 rw[hm] at e3
 obtain⟨es,q1,q2,q3,q4⟩:=e3
 refine⟨es,hi,hb,hβ,e2,e7,q1,q2,by rw[hb,aB] at q4;omega,fun j e he=>?_⟩
 obtain⟨c1,c2⟩:=qK _ _ _ he
 have g1:cur.getD (2*j+1) undef=e.key:=by
  rw[ao,← aQ,q3];simp[c1]
 have g2:cur.getD (2*j+2) undef=e.val:=by
  rw[ao,← aQ,q3,show 2*j+2=(2*j+1)+1 by omega];simp[c2]
 have l1:=e5 (2*j+1)
 have l2:=e5 (2*j+2)
 rw[g1,hb] at l1
 rw[g2,hb,show 2*j+2=(2*j+1)+1 by omega] at l2
 simp only[dK] at l1 l2
 exact⟨l1,l2⟩
theorem uu {T:TypeId} {K:Nat→List Nat→Nat→List V→Option Nat→V→Prop} (h:ix P T s x y K) :
 ∃ i kt et tT tk te ks kc z bs cl r kcs res,ti P T=some tT∧tT.kd=.map kt et∧x=.mr i∧ti P kt=some tk∧tk.eqs=some ks∧ti P et=some te∧y.kcs tk.agg=some kc∧pU te=some z∧
  s.bx i=.mk bs cl::r∧jB tk.agg r=some kcs∧mM ks kc kcs 0=some res∧(i<s.nb∧kc.length=ks.length∧jA ks kc kc=some true∧zaB P et=true)∧K i bs cl r res z:=by
 unfold ix at h
 split at h
 ·rename_i hT
  split at h
  ·rename_i h2 h3
   split at h
   ·rename_i h4 h5 h6
    split at h
    ·rename_i h7
     split at h
     ·rename_i h8
      exact⟨_,_,_,_,_,_,_,_,_,_,_,_,_,_,hT,rfl,rfl,h2,rfl,h3,h4,h5,h6,h7,h8,h.1,h.2⟩
     ·exact h.elim
    ·exact h.elim
   ·exact h.elim
  ·exact h.elim
 ·exact h.elim
theorem UR {t:TypeId} {i:TI} {ks:List EK} (h:ti P t=some i) (hk:i.eqs=some ks):eqk P 8 t=some ks:=by
 obtain⟨_,_,_,_,_,_,_,_,_,_,he,_⟩:=bn h
 rw[hk] at he
 split at he
 ·cases he
 ·exact he.symm
theorem qL {T:TypeId} {K:Nat→List Nat→Nat→List V→Option Nat→V→Prop} {vx vy:Value} {ox oy:Option Nat} (hst:St G n I0 M w0 I β ob s a w) (h:ix P T s x y K)
 (hx:LR (Wr M w0) I β w ox vx x) (hy:LR (Wr M w0) I β w oy vy y) :
 ∃ i bs cl r res z blk kt et es zv,K i bs cl r res z∧x=.mr i∧vx=.map (some blk)∧PE P I M w0 β ob s w i bs cl r blk es∧P.underlying T=some (.map kt et)∧
  (∀ em,(Instr.checkKey em 10000 kt vy).run P w=.ok () w)∧
  (Instr.findKey kt vy es.toList).run P w=.ok (res.map fun j=>(j,((es.toList[j]?).map (·.val)).getD undef)) w∧
  (∀ j,res=some j→∃ e,es.toList[j]?=some e∧e.key=vy∧(Instr.keyThatStays e.key vy).run P w=.ok vy w)∧
  (zeroValue et).run P w=.ok zv w∧LR (Wr M w0) I β w none zv z:=by
 obtain⟨i,kt,et,tT,tk,te,ks,kc,z,bs,cl,r,kcs,res,h1,h2,rfl,h3,h4,h5,h6,h7,h8,h9,h10,⟨c1,c2,c3,c4⟩,hK⟩:=uu h
 obtain⟨_,d,_,hu,hkd,_⟩:=bn h1
 rw[h2] at hkd
 have hd:=zb hkd
 subst hd
 have hek:=UR h3 h4
 have lh:tk.agg=c9 P kt:=by obtain⟨_,_,_,_,_,_,_,h,_⟩:=bn h3;exact h
 simp only[LR] at hx
 obtain⟨blk,hβ,rfl⟩:=hx
 obtain⟨es,hm⟩:=hst.mapW (P:=P) c1 h8 hβ
 obtain⟨xs,rfl,AK⟩:=PD (P:=P) lh hy h6
 obtain⟨zv,UF,YS⟩:=MB (I:=I) (w:=w) h5 h7 c4
 obtain⟨k1,k2⟩:=zd h9
 have hbl:es.toList.length=bs.length:=by rw[← hm.born,ap]
 have EU:es.toList.length=kcs.length:=by have:=hm.len;omega
 have pz:∀ (j:Nat) (e:MapEntry) (c:List C),es.toList[j]?=some e→kcs[j]?=some c→∃ ys,e.key=mkv P kt ys∧Cells I w ys c:=fun j e c he hc=>
  PD (P:=P) lh (hm.ent j e he).1 (k2 j c hc)
 refine⟨i,bs,cl,r,res,z,blk,kt,et,es,zv,hK,rfl,rfl,hm,hu,fun em=>?_,MA hek AK c2 EU pz h10,fun j hj=>?_,UF,YS _ _⟩
 ·exact De em 8 kt ks hek 9992 xs (by rw[AK.1];exact c2)
 ·subst hj
  obtain⟨q,c,hq,hc,hl,he⟩:=ze h10
  have bF:q<es.toList.length:=by rw[EU];exact(ak.1 hc).1
  have rL:es.toList[j]?=some es.toList[q]:=by rw[show j=q by omega];exact aj bF
  refine⟨_,rL,?_⟩
  obtain⟨ys,E0,uT⟩:=pz j _ c rL (by rw[show j=q by omega];exact hc)
  have:=Dd (P:=P) (t:=kt) AK uT he c2 hl (fun hz=>by
   have:=sX hek hz;omega)
  rw[E0]
  exact⟨this.1.symm,this.2⟩
theorem A2 {T:TypeId} {ok:Bool} {vx vy:Value} {ox oy:Option Nat} (hst:St G n I0 M w0 I β ob s a w) (h:ft P T s x y ok K)
 (hx:LR (Wr M w0) I β w ox vx x) (hy:LR (Wr M w0) I β w oy vy y) :
 ∃ z u,K z∧LR (Wr M w0) I β w none u z∧(Instr.lookup T vx vy ok).run P w=.ok u w:=by
 unfold ft at h
 obtain⟨i,bs,cl,r,res,z,blk,kt,et,es,zv,hK,rfl,rfl,hm,hu,pt,Ih,wv,UF,YS⟩:=qL hst h hx hy
 have hg:=fb (P:=P) hm.heap
 cases res with
 |some j=>
  obtain⟨e,he,_,_⟩:=wv j rfl
  have hv:=(hm.ent j e he).2
  simp only[bK,he,bQ] at Ih
  cases ok with
  |false=>
   simp only[aS,dm] at hK
   exact⟨_,e.val,hK,hv.fz none,by simp[Instr.lookup,aO hu,hg,pt,Ih,Result.andThen]⟩
  |true=>
   simp only[cJ] at hK
   refine⟨_,.tuple #[e.val,.bool true],hK,?_,by simp[Instr.lookup,aO hu,hg,pt,Ih,Result.andThen]⟩
   simp only[LR]
   refine .tup _ _ rfl fun q d hd=>?_
   match q with
   |0=>simp at hd;subst hd;exact xJ hv
   |1=>simp at hd;subst hd;exact .c _ _ (.lit _ rfl)
   |q+2=>simp at hd
 |none=>
  simp only[jo] at Ih
  cases ok with
  |false=>
   simp only[aS,dm] at hK
   exact⟨_,zv,hK,YS,by simp[Instr.lookup,aO hu,hg,pt,Ih,UF,Result.andThen]⟩
  |true=>
   simp only[cJ] at hK
   refine⟨_,.tuple #[zv,.bool false],hK,?_,by simp[Instr.lookup,aO hu,hg,pt,Ih,UF,Result.andThen]⟩
   simp only[LR]
   refine .tup _ _ rfl fun q d hd=>?_
   match q with
   |0=>simp at hd;subst hd;exact xJ YS
   |1=>simp at hd;subst hd;exact .c _ _ (.lit _ rfl)
   |q+2=>simp at hd
theorem MC {es:List MapEntry} {b j:Nat} (h:(es.map (·.born)).findIdx? (·==b)=some j):∃ e,es[j]?=some e∧es.find? (·.born==b)=some e:=by
 induction es generalizing j with
 |nil=>simp at h
 |cons e es ih=>
  simp only[aL,List.findIdx?_cons] at h
  cases hb:(e.born==b) with
  |true=>rw[hb] at h;simp at h;subst h;exact⟨e,rfl,by simp[hb]⟩
  |false=>
   rw[hb] at h
   simp only[aS,dm,aX] at h
   obtain⟨q,hq,rfl⟩:=h
   obtain⟨e',h1,h2⟩:=ih hq
   exact⟨e',by simpa using h1,by simp[hb,h2]⟩
theorem Df {vx:Value} {ox:Option Nat} (hst:St G n I0 M w0 I β ob s a w) (h:mT s x K) (hx:LR (Wr M w0) I β w ox vx x) :
 ∃ z u,K z∧LR (Wr M w0) I β w none u z∧(Instr.entry vx).run P w=.ok u w:=by
 unfold mT at h
 split at h
 ·rename_i i since stepped seen
  split at h
  ·rename_i bs cl r b hb hl
   split at h
   ·rename_i j hj
    obtain⟨⟨hi,rfl⟩,hK⟩:=h
    simp only[LR] at hx
    obtain⟨blk,m,_,_,hβ,rfl,hh,_⟩:=hx
    obtain⟨es,hm⟩:=hst.mapW (P:=P) hi hb hβ
    have YQ:=hj
    rw[← hm.born] at YQ
    obtain⟨e,he,hf⟩:=MC YQ
    obtain⟨l1,l2⟩:=hm.ent j e he
    have yp:es.find? (fun x=>x.born==b)=some e:=by rw[← Array.find?_toList];exact hf
    have hg:(getObj blk).run P w=.ok (.mapIter (some m) since seen.toArray cl) w:=by simp[getObj,Sem.run,hh]
    have E8:=fb (P:=P) hm.heap
    refine⟨_,.tuple #[e.key,e.val],hK,?_,?_⟩
    ·simp only[LR]
     refine .tup _ _ rfl fun q d hd=>?_
     match q with
     |0=>simp at hd;subst hd;exact xJ l1
     |1=>simp at hd;subst hd;exact xJ l2
     |q+2=>simp at hd
    ·simp[Instr.entry,hg,E8,yp,hl,Result.andThen]
   ·exact h.elim
  ·exact h.elim
 ·exact h.elim
theorem Dg {T:TypeId} {vx:Value} {ox:Option Nat} (hst:St G n I0 M w0 I β ob s a w) (hd:∀ d,o.dst=some d→d<n) (h:nK P T s x K) (hx:LR (Wr M w0) I β w ox vx x) :
 ∃ z u w',K z∧(Instr.range T vx).run P w=.ok u w'∧SE G n I0 M w0 (s.after tr o z) (a.put o.dst u) w':=by
 unfold nK at h
 split at h
 ·rename_i hT
  obtain⟨_,d,_,hu,hkd,_⟩:=bn hT
  have pm:=zb hkd
  subst pm
  split at h
  ·rename_i i bs cl r hb
   obtain⟨hi,hK⟩:=h
   simp only[LR] at hx
   obtain⟨blk,hβ,rfl⟩:=hx
   obtain⟨es,hm⟩:=hst.mapW (P:=P) hi hb hβ
   have hg:=fb (P:=P) hm.heap
   have hs:=hst.allocOwn (.mapIter (some blk) cl #[] cl)
   have jb:=hst.fresh (ae _)
   refine⟨_,.pointer (some ⟨w.heap.size,0,none⟩),w.alloc (.mapIter (some blk) cl #[] cl),hK,by simp[Instr.range,aO hu,hg,Result.andThen],?_⟩
   refine .fin hs hd (o':=some w.heap.size) ?_ fun b hb=>?_
   ·simp only[LR]
    exact⟨w.heap.size,blk,rfl,.inl hst.below.size,hβ,rfl,fq w _,fun o ho=>by have:=hst.ibnd _ _ ho;omega⟩
   ·cases hb
    refine⟨⟨by rw[dY];omega,.inl hst.below.size⟩,jb.2,fun L hL=>absurd hL (jb.1 L)⟩
  ·exact h.elim
 ·exact h.elim
theorem Fu {T ty:TypeId} {vx:Value} {ox:Option Nat} (hst:St G n I0 M w0 I β ob s a w) (h:E9 P s K [T] [x]) (hx:LR (Wr M w0) I β w ox vx x) :
 ∃ u,flat u=true∧K (.c (.lit u))∧(Builtin.len_ #[T] ty #[vx]).run P w=.ok u w:=by
 unfold E9 at h
 split at h
 ·rename_i T' i rk pu
  simp only[bO,fY] at rk pu
  subst rk;subst pu
  split at h
  ·rename_i hT hb
   obtain⟨_,d,_,hu,hkd,_⟩:=bn hT
   have pm:=zb hkd
   subst pm
   obtain⟨hi,hK⟩:=h
   simp only[LR] at hx
   obtain⟨blk,hβ,rfl⟩:=hx
   obtain⟨qC,cur,e1,e2,e3,e4,e5,e7⟩:=hst.bx i hi
   rw[hβ] at e1;cases e1
   unfold HB at e3
   rw[hb] at e3
   obtain⟨es,q1,q2,_⟩:=e3
   have hg:=fb (P:=P) q1
   refine⟨_,rfl,hK,?_⟩
   have hl:=jz List.length q2
   rw[ap,bJ] at hl
   simp[Builtin.len_,aO hu,hg,Result.andThen,goInt,hl]
  ·exact h.elim
 ·exact h.elim
end
section
variable {P:Program} {G:Gl} {tr:List Nat} {n:Nat} {I0:Ft} {M:Mx} {w0:World} {I:Ft} {β:Nat→Option Nat} {ob:Loc→Option Nat} {s:S} {a:Act} {w:World} {o:Oper}
 {next:Act→World→Prop} {Q:Exit→Act→World→Prop} {base:Nat→Prop} {v:Value} {x y:V}
theorem X5 (hst:St G n I0 M w0 I β ob s a w) (x:Operand):(∃ ox,LR (Wr M w0) I β w ox (a.eval x) (vw s (ev G s x)).fz)∨∃ es,(vw s (ev G s x)).fz=.c (.sl es)∧RD I w (a.eval x) es:=by
 have hx:=bB hst x
 cases he:ev G s x with
 |ms i off len cap sz=>
  rw[he] at hx
  simp only[LR] at hx
  simp only[vw]
  cases hv:lT s i off len sz with
  |none=>left;exact⟨none,by simp only[V.fz,LR];exact .un _⟩
  |some c=>
   obtain⟨es,rfl,Kk⟩:=UQ hst hv hx
   right;exact⟨es,rfl,Kk⟩
 |_=>left;rw[he] at hx;exact⟨none,hx.fz none⟩
theorem Fv (hst:St G n I0 M w0 I β ob s a w) (x:Operand) (ys:List (List C)) (h:(vw s (ev G s x)).fz=.c (.sl ys)):RD I w (a.eval x) ys:=by
 rcases X5 hst x with⟨ox,hx⟩ | ⟨es,he,Kk⟩
 ·rw[h] at hx;exact .ofCR hx.toC
 ·rw[h] at he;cases he;exact Kk
theorem X6 {x:V} {E:Option (TypeId×Nat)} {es:List (List C)} (h:vw s x=.ow E es):x=.ow E es:=by
 cases x<;>simp only[vw] at h<;>try exact h
 split at h<;>cases h
theorem zg {K:V→Prop} {X Y:Operand} {t t' ty:TypeId} (hst:St G n I0 M w0 I β ob s a w) (hd:∀ d,o.dst=some d→d<n) (pp:bR tr o=(match X with | .tmp t=>some t | _=>none))
 (h:eE P .append [t,t'] [vw s (ev G s X),vw s (ev G s Y)] K):∃ z u w',K z∧(Builtin.append_ #[t,t'] ty #[a.eval X,a.eval Y]).run P w=.ok u w'∧SE G n I0 M w0 (s.after tr o z) (a.put o.dst u) w':=by
 have key:∀ ys,dX P t (vw s (ev G s X)) ys K→(∀ ys' e,P.underlying t=some (.slice e)→∀ j,ti P e=some j→ys=.c (.sl ys')→(∀ x∈ys',x.length=j.size)→Fi P I w t' (a.eval Y) j.size ys')→
  ∃ z u w',K z∧(Builtin.append_ #[t,t'] ty #[a.eval X,a.eval Y]).run P w=.ok u w'∧SE G n I0 M w0 (s.after tr o z) (a.put o.dst u) w':=by
  intro ys h pq
  have h':dX P t (ev G s X) ys K:=by
   cases hx:vw s (ev G s X) with
   |ow E es=>rw[hx] at h;rw[X6 hx];exact h
   |_=>rw[hx] at h;simp[dX] at h
  exact A0 (tr:=tr) (U:=t') (ty:=ty) hst hd pp h' pq
 simp only[eE] at h
 split at h
 ·rename_i htt
  subst htt
  exact key _ h fun ys' e hu j hj hy hl=>(Fv hst Y ys' hy).src hu hl
 ·unfold pG at h
  split at h
  ·rename_i e _ _ _ _ _ _ _ _ _ _ _ _ st hi H2 hy
   obtain⟨j1,d1,_,h2,h3,_⟩:=bn hi
   have XD:=df h3
   subst XD
   obtain⟨j2,d2,_,h22,h32,_⟩:=bn H2
   have hd2:=nk h32
   subst hd2
   split at h
   ·rename_i ie rE
    obtain⟨Pe,h⟩:=h
    have agJ:ev G s Y=.c (.lit (.string st)):=by
     have:(vw s (ev G s Y)).fz=.c (.lit (.string st)):=hy
     cases uY:ev G s Y<;>rw[uY] at this
     case hh g E es=>cases g<;>simp[vw,V.fz] at this
     case gs g E es=>cases g<;>simp[vw,V.fz] at this
     case ms i off len cap sz=>
      simp only[vw] at this
      split at this
      ·rename_i c hc
       simp only[V.fz,V.c.injEq] at this
       subst this
       unfold lT at hc;split at hc
       ·split at hc<;>simp at hc
       ·cases hc
      ·simp[V.fz] at this
     all_goals simp_all[vw,V.fz]
    have hv:=bB hst Y
    rw[agJ] at hv
    refine key _ h fun ys' e' hu j hj O0 hl=>?_
    rw[h2] at hu
    simp only[am,TypeDesc.slice.injEq] at hu
    subst hu
    rw[rE] at hj
    cases hj
    simp only[V.c.injEq,C.sl.injEq] at O0
    subst O0
    rw[hv.lit,Pe]
    exact UP h22
   ·exact h.elim
  ·exact h.elim
theorem St.unghost {t d:Tmp} {v:Value} {E:Option (TypeId×Nat)} {es:List (List C)} (hst:St G n I0 M w0 I β ob s a w) (If:t≠d) (ht:s.fr t=.c (.ex v)) (Mk:s.fr d=.gh v E es) (Mj:d<n) (uV:t<n) :
 ∃ ob',St G n I0 M w0 I β ob' { s with fr:=up (up s.fr d .un) t (.ow E es) } a w:=by
 have hg:=hst.fr d
 rw[Mk] at hg
 simp only[LR] at hg
 have hx:=hst.fr t
 rw[ht] at hx
 have hv:a.tmps.getD t undef=v:=by
  have:=hx.toC
  generalize a.tmps.getD t undef=q at this
  cases this with
  |ex _ h1 h2=>rfl
 have h1:=hst.put d Mj (v:=a.tmps.getD d undef) (x:=.un) (o:=none) (by simp only[LR];exact .un _) FreeOb.nothing
 have h2:=h1.put t uV (v:=a.tmps.getD t undef) (x:=.ow E es) (o:=ob (.t d)) (by rw[hv];simp only[LR];exact hg) (fun b hb=>by
  refine⟨hst.obnd _ b hb,fun L hL=>?_,fun i=>hst.obx _ b i hb⟩
  simp only[upL] at hL
  split at hL
  ·cases hL
  ·split at hL
   ·cases hL
   ·rename_i h3 h4
    exact h4 (hst.oinj _ _ b hL hb))
 have back:∀ (a:Act) (q:Tmp),q<a.tmps.size→a.put (some q) (a.tmps.getD q undef)=a:=fun a q hq=>by
  have:a.tmps.set! q (a.tmps.getD q undef)=a.tmps:=by
   apply jn
   ·simp[bD]
   ·intro i h1 h2
    simp only[bD,eT h2]
    split
    ·rename_i e;subst e;simp[Array.getD,h2]
    ·rfl
  show(⟨a.tmps.set! q (a.tmps.getD q undef),a.defers⟩:Act)=a
  rw[this]
 rw[back a d (by rw[hst.size];exact Mj),back a t (by rw[hst.size];exact uV)] at h2
 exact⟨_,h2⟩
theorem St.unghostG {t d:Tmp} {v:Value} {E:Option (TypeId×Nat)} {es:List (List C)} (hst:St G n I0 M w0 I β ob s a w) (If:t≠d) (ht:s.fr t=.c (.ex v)) (Mk:s.fr d=.gg v E es) (Mj:d<n) (uV:t<n) :
 ∃ ob',St G n I0 M w0 I β ob' { s with fr:=up (up s.fr d .un) t (.gs none E es) } a w:=by
 have hg:=hst.fr d
 rw[Mk] at hg
 simp only[LR] at hg
 have hx:=hst.fr t
 rw[ht] at hx
 have hv:a.tmps.getD t undef=v:=by
  have:=hx.toC
  generalize a.tmps.getD t undef=q at this
  cases this with
  |ex _ h1 h2=>rfl
 have h1:=hst.put d Mj (v:=a.tmps.getD d undef) (x:=.un) (o:=none) (by simp only[LR];exact .un _) FreeOb.nothing
 have h2:=h1.put t uV (v:=a.tmps.getD t undef) (x:=.gs none E es) (o:=ob (.t d)) (by rw[hv];simp only[LR];exact⟨(fun _ h=>by cases h),hg⟩) (fun b hb=>by
  refine⟨hst.obnd _ b hb,fun L hL=>?_,fun i=>hst.obx _ b i hb⟩
  simp only[upL] at hL
  split at hL
  ·cases hL
  ·split at hL
   ·cases hL
   ·rename_i h3 h4
    exact h4 (hst.oinj _ _ b hL hb))
 have back:∀ (a:Act) (q:Tmp),q<a.tmps.size→a.put (some q) (a.tmps.getD q undef)=a:=fun a q hq=>by
  have:a.tmps.set! q (a.tmps.getD q undef)=a.tmps:=by
   apply jn
   ·simp[bD]
   ·intro i h1 h2
    simp only[bD,eT h2]
    split
    ·rename_i e;subst e;simp[Array.getD,h2]
    ·rfl
  show(⟨a.tmps.set! q (a.tmps.getD q undef),a.defers⟩:Act)=a
  rw[this]
 rw[back a d (by rw[hst.size];exact Mj),back a t (by rw[hst.size];exact uV)] at h2
 exact⟨_,h2⟩
theorem wP (hst:St G n I0 M w0 I β ob s a w) {t:Tmp} {v:Value} (ht:s.fr t=.c (.ex v)):a.tmps.getD t undef=v∧v.oneCell'=true∧v.cells=#[v]:=by
 have hx:=hst.fr t
 rw[ht] at hx
 have:=hx.toC
 generalize a.tmps.getD t undef=q at this
 cases this with
 |ex _ h1 h2=>exact⟨rfl,h1,h2⟩
theorem lE {q:Tmp} (hq:q<a.tmps.size):a.put (some q) (a.tmps.getD q undef)=a:=by
 have:a.tmps.set! q (a.tmps.getD q undef)=a.tmps:=by
  apply jn
  ·simp[bD]
  ·intro i h1 h2
   simp only[bD,eT h2]
   split
   ·rename_i e;subst e;simp[Array.getD,h2]
   ·rfl
 show(⟨a.tmps.set! q (a.tmps.getD q undef),a.defers⟩:Act)=a
 rw[this]
theorem MD {K:V→Prop} {t d:Tmp} {y:Operand} {v:Value} {E:Option (TypeId×Nat)} {es:List (List C)} {ts:List TypeId} {ty:TypeId} (hst:St G n I0 M w0 I β ob s a w) (hd:∀ d,o.dst=some d→d<n) (pp:∀ t' y',[Operand.tmp t,y]=[.tmp t',y']→bR tr o=some t')
 (kQ:o.dst=some d) (ht:s.fr t=.c (.ex v)) (Mk:s.fr d=.gg v E es) (If:t≠d) (hyt:y≠.tmp t) (hyd:y≠.tmp d) (h:mN P ts E es (vw s (ev G s y)).fz K) :
 ∃ X Y t0 t',[Operand.tmp t,y]=[X,Y]∧ts=[t0,t']∧∃ z u w',K z∧(Builtin.append_ #[t0,t'] ty #[a.eval X,a.eval Y]).run P w=.ok u w'∧SE G n I0 M w0 (s.after tr o z) (a.put o.dst u) w':=by
 have nZ:∃ q q',ts=[q,q']:=by
  unfold mN at h
  split at h
  ·exact⟨_,_,rfl⟩
  ·exact h.elim
 obtain⟨q,q',rfl⟩:=nZ
 have hqq:q=q':=by simp only[mN] at h;exact h.1
 subst hqq
 have Mj:d<n:=hd d kQ
 have uV:t<n:=by
  rcases cN t n with h' | h'
  ·exact h'
  ·exfalso
   obtain⟨e1,_,_⟩:=wP hst ht
   have e0:a.tmps.getD t undef=undef:=by rw[ao,cV (by rw[hst.size];exact h')];rfl
   have hg:=hst.fr d
   rw[Mk] at hg
   simp only[LR] at hg
   rw[← e1,e0] at hg
   rcases hg with⟨_,_,_,_,h1⟩ | ⟨_,_,_,_,_,_,_,h1,_⟩<;>simp[undef] at h1
 obtain⟨ob',bH⟩:=hst.unghostG If ht Mk Mj uV
 refine⟨_,_,q,q,rfl,rfl,?_⟩
 obtain⟨z,u,w',hz,bA,I2,β2,ob2,lS⟩:=xG (tr:=tr) (o:=o) (T:=q) (U:=q) (t0:=t) (E:=E) (es:=es) (vy:=a.eval y) (ty:=ty) (K:=K) bH hd (pp t y rfl) (by simp only[cn]) h
  (fun ys' e hu j hj hy hl=>(Fv hst y ys' hy).src hu hl)
 refine⟨z,u,w',hz,bA,?_⟩
 obtain⟨e1,e2,e3⟩:=wP hst ht
 have dR:(a.put (some d) u).tmps.size=n:=by simp only[Act.put,bD,dc];exact hst.size
 have hgt:(a.put (some d) u).tmps.getD t undef=v:=by
  rw[← e1]
  show(a.tmps.set! d u).getD t undef=_
  simp[ao,bD,iD,fM If]
 rw[kQ] at lS ⊢
 have cw:=lS.put t uV (v:=(a.put (some d) u).tmps.getD t undef) (x:=.c (.ex v)) (o:=none) (by rw[hgt];exact .ofC (.ex v e2 e3)) FreeOb.nothing
 rw[lE (by rw[dR];exact uV)] at cw
 have es:(S.after tr o { s with fr:=up (up s.fr d .un) t (.gs none E es) } z).put (some t) (.c (.ex v))=s.after tr o z:=by
  unfold S.after
  rw[pp t y rfl,kQ]
  have hu1:({ s with fr:=up (up s.fr d .un) t (.gs none E es) }:S).use (some t)=({ s with fr:=up (up s.fr d .un) t (.gs none E es) }:S).clr t:=by
   simp only[S.use,cn];rfl
  have hu2:s.use (some t)=s:=by simp only[S.use,ht];rfl
  rw[hu1,hu2]
  simp only[S.put,S.clr]
  congr 1
  funext r
  simp only[up]
  by_cases hr:r=t
  ·subst hr;rw[if_pos rfl,if_neg If];exact ht.symm
  ·rw[if_neg hr,if_neg hr,if_neg hr]
   by_cases Ij:r=d
   ·simp only[if_pos Ij]
   ·simp only[if_neg Ij]
 rw[es] at cw
 exact⟨_,_,_,cw⟩
theorem Dh {K:V→Prop} {args:List Operand} {ts:List TypeId} {ty:TypeId} (hst:St G n I0 M w0 I β ob s a w) (hd:∀ d,o.dst=some d→d<n) (pp:∀ t y,args=[.tmp t,y]→bR tr o=some t)
 (h:jC P G s o.dst ts args K):∃ X Y t t',args=[X,Y]∧ts=[t,t']∧∃ z u w',K z∧(Builtin.append_ #[t,t'] ty #[a.eval X,a.eval Y]).run P w=.ok u w'∧SE G n I0 M w0 (s.after tr o z) (a.put o.dst u) w':=by
 unfold jC at h
 split at h
 ·rename_i t y d kQ
  split at h
  ·rename_i v u E es ht Mk
   obtain⟨⟨If,rfl,hyt,hyd⟩,h⟩:=h
   have nZ:∃ q q',ts=[q,q']:=by
    unfold eE at h
    split at h<;>first | cases ‹Builtin.append=_› | skip
    ·rename_i q q' x y cv;exact⟨_,_,rfl⟩
    ·exact h.elim
   obtain⟨q,q',rfl⟩:=nZ
   have Mj:d<n:=hd d kQ
   have uV:t<n:=by
    rcases cN t n with h' | h'
    ·exact h'
    ·exfalso
     obtain⟨e1,_,_⟩:=wP hst ht
     have e0:a.tmps.getD t undef=undef:=by rw[ao,cV (by rw[hst.size];exact h')];rfl
     have hg:=hst.fr d
     rw[Mk] at hg
     simp only[LR] at hg
     rw[← e1,e0] at hg
     rcases hg.1.sl_inv with⟨⟨_,_,h1,_⟩,_⟩ | ⟨_,_,_,_,_,h1,_⟩<;>simp[undef] at h1
   obtain⟨ob',bH⟩:=hst.unghost If ht Mk Mj uV
   refine⟨_,_,q,q',rfl,rfl,?_⟩
   have hey:ev G { s with fr:=up (up s.fr d .un) t (.ow E es) } y=ev G s y:=by
    cases y with
    |tmp r=>
     have h1:r≠t:=fun e=>hyt (by rw[e])
     have h2:r≠d:=fun e=>hyd (by rw[e])
     simp only[ev,cZ _ _ h1,cZ _ _ h2]
    |_=>rfl
   have hvw:vw { s with fr:=up (up s.fr d .un) t (.ow E es) }=vw s:=rfl
   obtain⟨z,u,w',hz,bA,I2,β2,ob2,lS⟩:=zg (tr:=tr) (o:=o) (X:=.tmp t) (Y:=y) (t:=q) (t':=q') (ty:=ty) (K:=K) bH hd (pp t y rfl) (by
    rw[hey,hvw]
    have:vw s (ev G { s with fr:=up (up s.fr d .un) t (.ow E es) } (.tmp t))=.ow E es:=by simp only[ev,cn];rfl
    rw[this];exact h)
   refine⟨z,u,w',hz,bA,?_⟩
   obtain⟨e1,e2,e3⟩:=wP hst ht
   have dR:(a.put (some d) u).tmps.size=n:=by simp only[Act.put,bD,dc];exact hst.size
   have hgt:(a.put (some d) u).tmps.getD t undef=v:=by
    rw[← e1]
    show(a.tmps.set! d u).getD t undef=_
    simp[ao,bD,iD,fM If]
   rw[kQ] at lS ⊢
   have cw:=lS.put t uV (v:=(a.put (some d) u).tmps.getD t undef) (x:=.c (.ex v)) (o:=none) (by rw[hgt];exact .ofC (.ex v e2 e3)) FreeOb.nothing
   rw[lE (by rw[dR];exact uV)] at cw
   have es:(S.after tr o { s with fr:=up (up s.fr d .un) t (.ow E es) } z).put (some t) (.c (.ex v))=s.after tr o z:=by
    unfold S.after
    rw[pp t y rfl,kQ]
    have hu1:({ s with fr:=up (up s.fr d .un) t (.ow E es) }:S).use (some t)=({ s with fr:=up (up s.fr d .un) t (.ow E es) }:S).clr t:=by
     simp only[S.use,cn];rfl
    have hu2:s.use (some t)=s:=by simp only[S.use,ht];rfl
    rw[hu1,hu2]
    simp only[S.put,S.clr]
    congr 1
    funext r
    simp only[up]
    by_cases hr:r=t
    ·subst hr;rw[if_pos rfl,if_neg If];exact ht.symm
    ·rw[if_neg hr,if_neg hr,if_neg hr]
     by_cases Ij:r=d
     ·simp only[if_pos Ij]
     ·simp only[if_neg Ij]
   rw[es] at cw
   exact⟨_,_,_,cw⟩
  ·rename_i v u E es ht Mk
   obtain⟨⟨If,rfl,hyt,hyd⟩,h⟩:=h
   exact MD hst hd pp kQ ht Mk If hyt hyd h
  ·rename_i E es ht
   obtain⟨⟨If,hyt⟩,h⟩:=h
   have nZ:∃ q q',ts=[q,q']:=by
    unfold mN at h
    split at h
    ·exact⟨_,_,rfl⟩
    ·exact h.elim
   obtain⟨q,q',rfl⟩:=nZ
   have hqq:q=q':=by simp only[mN] at h;exact h.1
   subst hqq
   refine⟨_,_,q,q,rfl,rfl,?_⟩
   exact xG (tr:=tr) (o:=o) (T:=q) (U:=q) (t0:=t) (E:=E) (es:=es) (vy:=a.eval y) (ty:=ty) (K:=K) hst hd (pp t y rfl) ht h (fun ys' e hu j hj hy hl=>(Fv hst y ys' hy).src hu hl)
  ·exact h.elim
 ·exact h.elim
theorem Iy {K:V→Prop} {args:List Operand} {ts:List TypeId} {ty:TypeId} (hst:St G n I0 M w0 I β ob s a w) (hd:∀ d,o.dst=some d→d<n) (pp:∀ t y,args=[.tmp t,y]→bR tr o=some t)
 (h:u5 P G s o.dst ts args K):∃ X Y t t',args=[X,Y]∧ts=[t,t']∧∃ z u w',K z∧(Builtin.append_ #[t,t'] ty #[a.eval X,a.eval Y]).run P w=.ok u w'∧SE G n I0 M w0 (s.after tr o z) (a.put o.dst u) w':=by
 unfold u5 at h
 split at h
 ·rename_i t y d kQ
  split at h
  ·rename_i v u E es ht Mk
   obtain⟨⟨If,rfl,hyt,hyd⟩,h⟩:=h
   have nZ:∃ q q',ts=[q,q']:=by
    unfold t6 at h
    split at h
    ·exact⟨_,_,rfl⟩
    ·exact h.elim
   obtain⟨q,q',rfl⟩:=nZ
   have hqq:q=q':=by simp only[t6] at h;exact h.1
   subst hqq
   have Mj:d<n:=hd d kQ
   have uV:t<n:=by
    rcases cN t n with h' | h'
    ·exact h'
    ·exfalso
     obtain⟨e1,_,_⟩:=wP hst ht
     have e0:a.tmps.getD t undef=undef:=by rw[ao,cV (by rw[hst.size];exact h')];rfl
     have hg:=hst.fr d
     rw[Mk] at hg
     simp only[LR] at hg
     rw[← e1,e0] at hg
     rcases hg.1.sl_inv with⟨⟨_,_,h1,_⟩,_⟩ | ⟨_,_,_,_,_,h1,_⟩<;>simp[undef] at h1
   obtain⟨ob',bH⟩:=hst.unghost If ht Mk Mj uV
   refine⟨_,_,q,q,rfl,rfl,?_⟩
   obtain⟨z,u,w',hz,bA,I2,β2,ob2,lS⟩:=Fj (tr:=tr) (o:=o) (T:=q) (U:=q) (t0:=t) (E:=E) (es:=es) (vy:=a.eval y) (ty:=ty) (K:=K) bH hd (pp t y rfl) (by simp only[cn]) h
    (fun ys' e hu j hj hy hl=>(Fv hst y ys' hy).src hu hl)
   refine⟨z,u,w',hz,bA,?_⟩
   obtain⟨e1,e2,e3⟩:=wP hst ht
   have dR:(a.put (some d) u).tmps.size=n:=by simp only[Act.put,bD,dc];exact hst.size
   have hgt:(a.put (some d) u).tmps.getD t undef=v:=by
    rw[← e1]
    show(a.tmps.set! d u).getD t undef=_
    simp[ao,bD,iD,fM If]
   rw[kQ] at lS ⊢
   have cw:=lS.put t uV (v:=(a.put (some d) u).tmps.getD t undef) (x:=.c (.ex v)) (o:=none) (by rw[hgt];exact .ofC (.ex v e2 e3)) FreeOb.nothing
   rw[lE (by rw[dR];exact uV)] at cw
   have es:(S.after tr o { s with fr:=up (up s.fr d .un) t (.ow E es) } z).put (some t) (.c (.ex v))=s.after tr o z:=by
    unfold S.after
    rw[pp t y rfl,kQ]
    have hu1:({ s with fr:=up (up s.fr d .un) t (.ow E es) }:S).use (some t)=({ s with fr:=up (up s.fr d .un) t (.ow E es) }:S).clr t:=by
     simp only[S.use,cn];rfl
    have hu2:s.use (some t)=s:=by simp only[S.use,ht];rfl
    rw[hu1,hu2]
    simp only[S.put,S.clr]
    congr 1
    funext r
    simp only[up]
    by_cases hr:r=t
    ·subst hr;rw[if_pos rfl,if_neg If];exact ht.symm
    ·rw[if_neg hr,if_neg hr,if_neg hr]
     by_cases Ij:r=d
     ·simp only[if_pos Ij]
     ·simp only[if_neg Ij]
   rw[es] at cw
   exact⟨_,_,_,cw⟩
  ·exact h.elim
 ·exact h.elim
theorem ot {K:V→Prop} (hst:St G n I0 M w0 I β ob s a w) (hd:∀ d,o.dst=some d→d<n) (h:VYK P G tr o s K)
 (hk:∀ a' w' x,K x→SE G n I0 M w0 (s.after tr o x) a' w'→next a' w'):o.wp P a w next Q:=by
 have pure_:∀ {sem:Sem Value} {z:V} {u:Value},execOp a.eval o=(do pure (.value (← sem)))→K z→LR (Wr M w0) I β w none u z→sem.run P w=.ok u w→o.wp P a w next Q:=by
  intro sem z u he hz gX bA
  refine eo (v':=u) (w':=w) ?_ (hk _ _ _ hz (.fin0 hst hd gX))
  rw[he];simp[bA]
 have full:∀ {sem:Sem Value} {z:V} {u:Value} {w':World},execOp a.eval o=(do pure (.value (← sem)))→K z→sem.run P w=.ok u w'→SE G n I0 M w0 (s.after tr o z) (a.put o.dst u) w'→o.wp P a w next Q:=by
  intro sem z u w' he hz bA cw
  refine eo (v':=u) (w':=w') ?_ (hk _ _ _ hz cw)
  rw[he];simp[bA]
 obtain⟨dst,op,type,pos,after,guard⟩:=o
 cases op<;>simp only[VYK] at h<;>try exact h.elim
 case move x=>
  have bA:(execOp a.eval { dst,op:=.move x,type,pos,after,guard }).run P w=.ok (.value (a.eval x)) w:=rfl
  split at h
  ·rename_i htr
   exact eo bA (hk _ _ _ h (Kz hst hd (x:=x) (by cases x<;>simp[bR,htr])))
  ·exact eo bA (hk _ _ _ h (UO hst hd x))
 case assign x=>
  have bA:(execOp a.eval { dst,op:=.assign x,type,pos,after,guard }).run P w=.ok (.value (a.eval x)) w:=rfl
  exact eo bA (hk _ _ _ h (Kz hst hd (x:=x) (by cases x<;>simp[bR])))
 case pick c b b'=>
  split at h
  ·rename_i p hc
   have Ui:a.eval c=.bool p:=by have:=bB hst c;rw[hc] at this;exact this.lit
   refine eo (v':=if p then a.eval b else a.eval b') (w':=w) ?_ (hk _ _ _ h (.fin0 hst hd ?_))
   ·simp[execOp,Ui,asBool]
   ·cases p
    ·exact u9 hst b'
    ·exact u9 hst b
  ·exact h.elim
 case build T parts=>
  obtain⟨z,u,hz,gX,bA⟩:=C5 hst h
  exact pure_ rfl hz gX bA
 case buildSlice T len parts=>
  obtain⟨z,u,w',hz,bA,cw⟩:=vg (tr:=tr) hst hd h
  exact full rfl hz bA cw
 case load T x=>
  obtain⟨z,u,hz,gX,bA⟩:=rR hst h (bB hst x)
  exact pure_ rfl hz gX bA
 case binOp op T x y yT=>
  obtain⟨u,hf,hz,bA⟩:=Is h (bB hst x) (bB hst y) x y
  exact pure_ rfl hz (.ofLit hf) bA
 case unOp op T x=>
  obtain⟨u,hf,hz,bA⟩:=Mw h (bB hst x)
  exact pure_ rfl hz (.ofLit hf) bA
 case convert src dst' x=>
  obtain⟨z,u,w',hz,bA,cw⟩:=Fo (tr:=tr) hst hd h (X5 hst x)
  exact full rfl hz bA cw
 case makeFunc f first captured=>
  obtain⟨⟨h1,h2⟩,h⟩:=h
  have pr:∀ (l:Array Operand),(l.toList.map (ev G s)).all V.isPR=true→∀ j x,(l.toList.map (ev G s))[j]?=some x→PR I β w ((l.map a.eval).getD j undef) x:=by
   intro l hl j x hx
   have hm:=bg hx
   have hp:=aW.1 hl x hm
   simp only[ba,aX] at hx
   obtain⟨X,hX,rfl⟩:=hx
   have gX:=bB hst X
   have:(l.map a.eval).getD j undef=a.eval X:=by
    rw[aQ] at hX
    simp[hX]
   rw[this]
   cases hx:ev G s X<;>rw[hx] at hp gX<;>simp only[V.isPR] at hp<;>try cases hp
   ·exact gX.toC
   ·simp only[LR] at gX;exact gX
   ·simp only[LR] at gX;exact gX
   ·simp only[LR] at gX;exact gX
   ·simp only[LR] at gX;exact gX
   ·simp only[LR] at gX;exact gX
  refine eo (v':=.func f (first.map a.eval) (captured.map a.eval)) (w':=w) rfl (hk _ _ _ h (.fin0 hst hd ?_))
  simp only[LR]
  exact⟨_,_,rfl,by simp,by simp,pr first h1,pr captured h2⟩
 case lookup T x k ok=>
  obtain⟨z,u,hz,gX,bA⟩:=A2 hst h (bB hst x) (bB hst k)
  exact pure_ rfl hz gX bA
 case range T x=>
  obtain⟨z,u,w',hz,bA,cw⟩:=Dg (tr:=tr) hst hd h (bB hst x)
  exact full rfl hz bA cw
 case entry x=>
  obtain⟨z,u,hz,gX,bA⟩:=Df hst h (bB hst x)
  exact pure_ rfl hz gX bA
 case sliceToArrayPointer T x=>
  obtain⟨z,u,hz,gX,bA⟩:=Iw h (bB hst x)
  exact pure_ rfl hz gX bA
 case nilCheck x=>
  have hx:=bB hst x
  split at h
  ·rename_i i o uY
   rw[uY] at hx
   simp only[LR] at hx
   obtain⟨blk,hβ,hv⟩:=hx
   refine eo (v':=.pointer (some ⟨blk,o,none⟩)) (w':=w) ?_ (hk _ _ _ h (.fin0 hst hd (by simp only[LR];exact⟨blk,hβ,rfl⟩)))
   simp only[execOp,hv];rfl
  ·rename_i cs k uY
   rw[uY] at hx
   obtain⟨b,off,f,hv,_⟩:=hx.toC.rp_inv
   refine eo (v':=a.eval x) (w':=w) ?_ (hk _ _ _ h (.fin0 hst hd (.ofC hx.toC)))
   simp only[execOp,hv];rfl
  ·exact h.elim
 case slice T x lo hi mx=>
  obtain⟨z,u,hz,gX,bA⟩:=C9 hst h (u9 hst x)
  exact pure_ rfl hz gX bA
 case fieldAddr T x f=>
  obtain⟨z,u,hz,gX,bA⟩:=wM h (bB hst x)
  exact pure_ rfl hz gX bA
 case field T x f=>
  obtain⟨z,u,hz,gX,bA⟩:=C2 h (bB hst x)
  exact pure_ rfl hz gX bA
 case indexAddr T x i=>
  obtain⟨z,u,hz,gX,bA⟩:=wN h (u9 hst x) (bB hst i)
  exact pure_ rfl hz gX bA
 case index T x i=>
  obtain⟨z,u,hz,gX,bA⟩:=C3 h (bB hst x) (bB hst i)
  exact pure_ rfl hz gX bA
 case extract x i=>
  split at h
  ·rename_i ds hx
   split at h
   ·rename_i d hdi
    have gX:=bB hst x
    rw[hx] at gX
    simp only[LR] at gX
    generalize rP:a.eval x=vv at gX
    cases gX with
    |tup vs _ h1 h2=>
     have bF:i<vs.size:=by rw[h1];exact(ak.1 hdi).1
     have uo:=h2 i d hdi
     refine pure_ (u:=vs.getD i undef) rfl h ?_ (by simp[rP,Instr.extract,ay bF])
     generalize vs.getD i undef=vv' at uo
     cases d<;>simp only[LR]<;>first | exact uo | (cases uo;done)
   ·exact h.elim
  ·exact h.elim
 case call c=>
  obtain⟨callee,args,ts⟩:=c
  cases callee with
  |value f=>exact Fp (tr:=tr) (f:=f) (args:=args) (ts:=ts) rfl hst hd h hk
  |invoke r m=>exact h.elim
  |builtin b=>
   have wv:∀ sem:Sem Value,builtin b ts type (args.map fun | .const _=>true | _=>false) (args.map a.eval)=(do pure (.value (← sem)))→
    execOp a.eval { dst,op:=.call { callee:=.builtin b,args:=args,argTypes:=ts },type,pos,after,guard }=(do pure (.value (← sem))):=fun sem hs=>by
    simp only[execOp,resolve,invoke,pure_bind]
    exact hs
   have tY:(b=.append∧((wJ tr dst=true∧u5 P G s dst ts.toList args.toList K)∨(y4 tr dst=true∧jC P G s dst ts.toList args.toList K)∨(y4 tr dst=false∧eE P .append ts.toList (args.toList.map fun x=>vw s (ev G s x)) K)))∨(b≠.append∧eE P b ts.toList (args.toList.map (ev G s)) K):=by
    cases b<;>first | (refine .inl ⟨rfl,?_⟩;have h':(if y4 tr dst then(if wJ tr dst then u5 P G s dst ts.toList args.toList K else jC P G s dst ts.toList args.toList K) else eE P .append ts.toList (args.toList.map fun x=>vw s (ev G s x)) K):=h;by_cases hg:y4 tr dst=true;(rw[if_pos hg] at h';by_cases E8:wJ tr dst=true;(rw[if_pos E8] at h';exact .inl ⟨E8,h'⟩);(rw[if_neg E8] at h';exact .inr (.inl ⟨hg,h'⟩)));(rw[if_neg hg] at h';exact .inr (.inr ⟨by simpa using hg,h'⟩))) | exact .inr ⟨by simp,h⟩
   clear h
   rcases tY with⟨rfl,⟨_,h⟩ | ⟨_,h⟩ | ⟨_,h⟩⟩ | ⟨uZ,h⟩
   ·obtain⟨X,Y,t,t',hX,nZ,z,u,w',hz,bA,cw⟩:=Iy (tr:=tr) (o:={ dst,op:=.call { callee:=.builtin .append,args:=args,argTypes:=ts },type,pos,after,guard }) (ty:=type) hst hd (args:=args.toList) (fun t y hA=>by simp only[bR,hA]) h
    have e1:ts=#[t,t']:=cP nZ
    have e2:args.map a.eval=#[a.eval X,a.eval Y]:=by apply cP;simp[hX]
    subst e1
    refine full (sem:=Builtin.append_ #[t,t'] type (args.map a.eval)) (wv _ rfl) hz ?_ cw
    rw[e2];exact bA
   ·obtain⟨X,Y,t,t',hX,nZ,z,u,w',hz,bA,cw⟩:=Dh (tr:=tr) (o:={ dst,op:=.call { callee:=.builtin .append,args:=args,argTypes:=ts },type,pos,after,guard }) (ty:=type) hst hd (args:=args.toList) (fun t y hA=>by simp only[bR,hA]) h
    have e1:ts=#[t,t']:=cP nZ
    have e2:args.map a.eval=#[a.eval X,a.eval Y]:=by apply cP;simp[hX]
    subst e1
    refine full (sem:=Builtin.append_ #[t,t'] type (args.map a.eval)) (wv _ rfl) hz ?_ cw
    rw[e2];exact bA
   ·have nZ:∃ t t',ts.toList=[t,t']∧∃ X Y,args.toList=[X,Y]:=by
     unfold eE at h
     split at h<;>first | cases ‹Builtin.append=_› | skip
     ·rename_i t t' x y nZ cv
      refine⟨t,t',nZ,?_⟩
      cases ha:args.toList with
      |nil=>simp[ha] at cv
      |cons X l=>
       cases l with
       |nil=>simp[ha] at cv
       |cons Y l=>simp only[ha,aL,bO,dV] at cv;exact⟨X,Y,by rw[cv.2.2]⟩
     ·exact h.elim
    obtain⟨t,t',nZ,X,Y,hX⟩:=nZ
    have e1:ts=#[t,t']:=cP nZ
    have e2:args.map a.eval=#[a.eval X,a.eval Y]:=by apply cP;simp[hX]
    subst e1
    rw[hX] at h
    obtain⟨z,u,w',hz,bA,cw⟩:=zg (tr:=tr) (o:={ dst,op:=.call { callee:=.builtin .append,args:=args,argTypes:=#[t,t'] },type,pos,after,guard }) (ty:=type) hst hd (by simp only[bR,hX];cases X<;>rfl) h
    refine full (sem:=Builtin.append_ #[t,t'] type (args.map a.eval)) (wv _ rfl) hz ?_ cw
    rw[e2];exact bA
   ·unfold eE at h
    split at h
    ·rename_i t x nZ cv
     obtain⟨X,hX,rfl⟩:∃ X,args.toList=[X]∧x=ev G s X:=by
      cases ha:args.toList with
      |nil=>simp[ha] at cv
      |cons X l=>simp only[ha,aL,bO,dV] at cv;exact⟨X,by rw[cv.2],cv.1.symm⟩
     obtain⟨u,hf,hz,bA⟩:=Iu (ty:=type) h (bB hst X)
     have e1:ts=#[t]:=cP nZ
     have e2:args.map a.eval=#[a.eval X]:=by apply cP;simp[hX]
     subst e1
     refine pure_ (sem:=Builtin.len_ #[t] type (args.map a.eval)) (wv _ rfl) hz (.ofLit hf) ?_
     rw[e2];exact bA
    ·exact absurd rfl uZ
    ·obtain⟨u,hf,hz,bA⟩:=za (P:=P) (mx:=false) hst h
     exact pure_ (sem:=Builtin.min_ ts type (args.map a.eval)) (wv _ rfl) hz (.ofLit hf) bA
    ·obtain⟨u,hf,hz,bA⟩:=za (P:=P) (mx:=true) hst h
     exact pure_ (sem:=Builtin.max_ ts type (args.map a.eval)) (wv _ rfl) hz (.ofLit hf) bA
    ·exact h.elim
