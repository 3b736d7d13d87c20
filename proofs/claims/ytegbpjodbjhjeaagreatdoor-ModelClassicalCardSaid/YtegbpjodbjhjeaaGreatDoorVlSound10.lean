/- Values without memory: the operations keep the relation: append. -/
import Derived.Test.YtegbpjodbjhjeaaGreatDoorVlSound5
import Derived.Deep.AppendSrc
import Derived.Conc.MuLone
import Derived.MapKept
import Derived.WideKeyRuns
set_option linter.all false
namespace Go.Vl
open Go Go.RowKit
section
variable {P:Program} {G:Gl} {tr:List Nat} {n:Nat} {I0:Ft} {M:Mx} {w0:World} {I:Ft} {β:Nat→Option Nat} {ob:Loc→Option Nat} {s:S} {a:Act} {w:World} {o:Oper}
 {next:Act→World→Prop} {Q:Exit→Act→World→Prop} {base:Nat→Prop} {v:Value} {x y:V} {K:V→Prop}
theorem QI {J:Ft} {b off sz sz':Nat} {es:List (List C)} {f:Nat→Nat→Value} (hs:∀ x∈es,x.length=sz) (xx:∀ e∈es,e.length=sz')
 (eo:∀ i j,i<es.length→j<sz'→w.cell? ⟨b,off+i*sz'+j,none⟩=some (f i j)∧J b (off+i*sz'+j)) (pM:∀ i j e c,es[i]?=some e→e[j]?=some c→CR I w (f i j) c) :
 ∃ vs:List Value,vs.length=es.length*sz∧(∀ (q:Nat) (u:Value),vs[q]?=some u→w.cell? ⟨b,off+q,none⟩=some u∧J b (off+q))∧
  (∀ (q:Nat) (c:C),es.flatten[q]?=some c→∃ u,vs[q]?=some u∧CR I w u c)∧(∀ u∈vs,u.oneCell'=true):=by
 have m8:=bD es hs
 by_cases h0:es.length*sz=0
 ·refine⟨[],by simp[h0],by simp,fun q c hq=>?_,by simp⟩
  have:=(ak.1 hq).1
  omega
 have afv:0<sz:=Nat.pos_of_ne_zero fun e=>h0 (by simp[e])
 have Qk:0<es.length:=Nat.pos_of_ne_zero fun e=>h0 (by simp[e])
 have dZ:sz'=sz:=by rw[← xx es[0] (aF _),hs es[0] (aF _)]
 subst dZ
 have fJ:∀ q,q<es.length*sz'→q / sz'<es.length∧q % sz'<sz'∧q=q / sz'*sz'+q % sz':=fun q hq=>
  ⟨by rw[Nat.div_lt_iff_lt_mul afv];exact hq,lm _ afv,by rw[Nat.mul_comm];exact(Nat.div_add_mod q sz').symm⟩
 have si:∀ (q:Nat) (c:C),es.flatten[q]?=some c→q<es.length*sz'∧CR I w (f (q / sz') (q % sz')) c:=fun q c hq=>by
  have bB:=(ak.1 hq).1
  rw[m8] at bB
  obtain⟨h1,h2,h3⟩:=fJ q bB
  rw[h3,mj es hs _ _ h2] at hq
  simp only[aj h1,fP] at hq
  exact⟨bB,pM _ _ _ c (aj h1) hq⟩
 refine⟨(List.range (es.length*sz')).map fun q=>f (q / sz') (q % sz'),by simp,fun q u hq=>?_,fun q c hq=>?_,fun u hu=>?_⟩
 ·simp only[bb,aY] at hq
  obtain⟨q',P7,rfl⟩:=hq
  have bB:=(ak.1 P7).1
  simp at bB
  have hqq:q'=q:=by have:=(ak.1 P7).2;simpa using this.symm
  subst hqq
  obtain⟨h1,h2,h3⟩:=fJ q' bB
  have:=eo _ _ h1 h2
  rw[dn,← h3] at this
  exact this
 ·obtain⟨bB,jm⟩:=si q c hq
  exact⟨_,by simp[bB],jm⟩
 ·simp only[br,cQ] at hu
  obtain⟨q,hq,rfl⟩:=hu
  obtain⟨c,hc⟩:∃ c,es.flatten[q]?=some c:=⟨_,aj (by omega)⟩
  exact(si q c hc).2.oneCell
theorem CR.flat {b off cap sz:Nat} {es:List (List C)} (h:CR I w (.slice (some ⟨b,off,none⟩) es.length cap) (.sl es)) (hs:∀ x∈es,x.length=sz) :
 ∃ vs:List Value,vs.length=es.length*sz∧(∀ (q:Nat) (u:Value),vs[q]?=some u→w.cell? ⟨b,off+q,none⟩=some u∧I b (off+q))∧
  (∀ (q:Nat) (c:C),es.flatten[q]?=some c→∃ u,vs[q]?=some u∧CR I w u c)∧(∀ u∈vs,u.oneCell'=true):=by
 rcases h.sl_inv with⟨_,rfl⟩ | ⟨b',off',cap',sz',f,hv,jW,xx,eo,pM⟩
 ·exact⟨[],by simp,by simp,by simp,by simp⟩
 simp only[eO,ao,jf,ga,fZ] at hv
 obtain⟨⟨rfl,rfl⟩,rfl⟩:=hv
 exact QI hs xx eo pM
theorem CR.oldsOf {xa:Addr} {cap sz:Nat} {es:List (List C)} (h:CR I w (.slice (some xa) es.length cap) (.sl es)) (hs:∀ x∈es,x.length=sz) :
 ∃ vs:List Value,vs.length=es.length*sz∧(∀ (q:Nat) (u:Value),vs[q]?=some u→w.cell? (xa.add q)=some u)∧
  (∀ (q:Nat) (c:C),es.flatten[q]?=some c→∃ u,vs[q]?=some u∧CR I w u c)∧(∀ u∈vs,u.oneCell'=true):=by
 by_cases fO:es=[]
 ·subst fO;exact⟨[],by simp,by simp,by simp,by simp⟩
 ·rcases h.sl_inv with⟨_,h0⟩ | ⟨b,off,cap',_,_,hv,_⟩
  ·exact absurd h0 fO
  ·simp only[eO,ao] at hv
   obtain⟨rfl,_,_⟩:=hv
   obtain⟨vs,h1,h2,h3,h4⟩:=h.flat hs
   exact⟨vs,h1,fun q u hq=>by rw[cV];exact(h2 q u hq).1,h3,h4⟩
theorem RD.flat {b off cap sz:Nat} {es:List (List C)} (h:RD I w (.slice (some ⟨b,off,none⟩) es.length cap) es) (hs:∀ x∈es,x.length=sz) :
 ∃ vs:List Value,vs.length=es.length*sz∧(∀ (q:Nat) (u:Value),vs[q]?=some u→w.cell? ⟨b,off+q,none⟩=some u∧True)∧
  (∀ (q:Nat) (c:C),es.flatten[q]?=some c→∃ u,vs[q]?=some u∧CR I w u c)∧(∀ u∈vs,u.oneCell'=true):=by
 rcases h with⟨_,rfl⟩ | ⟨b',off',cap',sz',f,hv,jW,xx,eo,pM⟩
 ·exact⟨[],by simp,by simp,by simp,by simp⟩
 simp only[eO,ao,jf,ga,fZ] at hv
 obtain⟨⟨rfl,rfl⟩,rfl⟩:=hv
 exact QI (J:=fun _ _=>True) hs xx (fun i j hi hj=>⟨eo i j hi hj,trivial⟩) pM
theorem RD.some' {a':Option Addr} {n m:Nat} {es:List (List C)} (h:RD I w (.slice a' n m) es) (fO:es≠[]):∃ b off,a'=some ⟨b,off,none⟩:=by
 rcases h with⟨_,h0⟩ | ⟨b,off,cap,sz,f,hv,_⟩
 ·exact absurd h0 fO
 ·cases hv;exact⟨b,off,rfl⟩
theorem St.growRow (h:St G n I0 M w0 I β ob s a w) {w':World} {r:Nat} (hg:w.grb w' (some r)) (hr:Wr M w0 r) (eo:∀ o,I r o→w'.cell? ⟨r,o,none⟩=w.cell? ⟨r,o,none⟩)
 (kf:∀ L,ob L≠some r) (hβ:∀ i,β i≠some r) {I':Ft} (h1:∀ b o,I b o→I' b o) (h2:∀ b o,I' b o→I b o∨b=r) (bB:r<w'.heap.size):St G n I0 M w0 I' β ob s a w':=by
 have hk:=h.keeps hg (fun r' e o ho=>by cases e;exact eo o ho)
 have hI:∀ b o,I b o→I' b o∧w'.cell? ⟨b,o,none⟩=w.cell? ⟨b,o,none⟩:=fun b o hb=>⟨h1 b o hb,hk b o hb⟩
 have vT:∀ L b,ob L=some b→w'.heap[b]?=w.heap[b]?∧∀ o,I' b o→I b o:=fun L b hL=>by
  have fO:b≠r:=fun e=>kf L (e▸hL)
  refine⟨hg.block b (h.obnd L b hL).1 (by simpa using fO),fun o ho=>?_⟩
  rcases h2 b o ho with h5 | h5
  ·exact h5
  ·exact absurd h5 fO
 exact {
  size:=h.size,defers:=h.defers
  below:=h.below.grown hg (fun k e=>by cases e;exact hr)
  kept:=fun b o h0=>(hk b o (h.ilow b o h0)).trans (h.kept b o h0)
  ilow:=fun b o hb=>h1 b o (h.ilow b o hb)
  ihigh:=fun b o hb=>by
   rcases h2 b o hb with h3 | h3
   ·exact h.ihigh b o h3
   ·exact .inr (by rw[h3];exact hr)
  ibnd:=fun b o hb=>by
   rcases h2 b o hb with h3 | h3
   ·exact ce (h.ibnd b o h3) hg.size
   ·rw[h3];exact bB
  fr:=fun t=>(h.fr t).mono hI (fun _ _ e=>e) (vT (.t t))
  bx:=fun i hi=>by
   obtain⟨blk,cur,e1,e2,e3,e4,e5,e7⟩:=h.bx i hi
   have oa:blk<w.heap.size:=e3.lt
   have fO:blk≠r:=fun e=>hβ i (e▸e1)
   refine⟨blk,cur,e1,e2,e3.mono (hg.block blk oa (by simpa using fO)),e4,fun j=>(e5 j).mono hI (fun _ _ e=>e) (vT (.b i j)),fun o ho=>?_⟩
   rcases h2 blk o ho with h3 | h3
   ·exact e7 o h3
   ·exact fO h3
  bnone:=h.bnone,ext:=h.ext,bnew:=h.bnew,binj:=h.binj,oinj:=h.oinj,obx:=h.obx
  obnd:=fun L b hL=>⟨ce (h.obnd L b hL).1 hg.size,(h.obnd L b hL).2⟩
  glob:=fun g cs Vr=>(h.glob g cs Vr).mono hI }
theorem kM (olds news:List Value) (z:Array Value) (j:Nat) (u:Value) (h:(olds++news)[j]?=some u):(olds.toArray++news.toArray++z).getD j undef=u:=by
 have bB:=(ak.1 h).1
 simp at bB
 have:(olds.toArray++news.toArray++z)[j]?=some u:=by
  rw[dG (by simp;omega)]
  simpa using h
 rw[ap,this];rfl
theorem lK (T U ty e:TypeId) (i:TypeInfo) (ht:P.underlying T=some (.slice e)) (hi:P.info? e=some i) (b:Option Addr) (k cap:Nat) (hk:k≤cap) {x:Value} (hs:Src P i.size U x 0 [] w) :
 (Builtin.append_ #[T,U] ty #[.slice b k cap,x]).run P w=.ok (.slice b k cap) w:=by
 have hf:(Builtin.firstCells i.size 0 x).run P w=.ok #[] w:=hs.cells
 unfold Builtin.append_
 rcases hs.kind with⟨e',Nx⟩ | Nx<;>cases b<;>simp[aT ht,aT Nx,sizeOf,typeInfo,hi,hs.len,hk,hf,storeCells]
theorem fL (g o:Nat) (T:RT):∀ (vs:List Value) (i:Nat) (cur:Array Value) (w:World),w.heap[g]?=some (.cells cur T.t T.fz)→T.ok cur.size→o+i+vs.length≤cur.size→(∀ v∈vs,v.oneCell'=true)→
 (storeCells ⟨g,o,none⟩ vs i).run P w=.ok () (w.setRow g (cur.toList.take (o+i)++vs++cur.toList.drop (o+i+vs.length)).toArray)
 |[],i,cur,w,hg,_,_,_=>by
  simp only[storeCells,eK,aH,dR,d6,Array.toArray_toList]
  rw[setRow_self w g cur T.t T.fz hg]
  rfl
 |v::rest,i,cur,w,hg,hT,hl,h1=>by
  have hi:o+i<cur.size:=by simp at hl;omega
  have P3:(⟨g,o,none⟩:Addr).add i=⟨g,o+i,none⟩:=by unfold Addr.add;split<;>simp_all
  have eo:w.cell? ⟨g,o+i,none⟩=some cur[o+i]:=by simp[World.cell?,hg,hi]
  have ahN:w.frozen? ⟨g,o+i,none⟩=false:=by
   obtain⟨tt,lo,rS⟩:=T
   simp only[World.frozen?,hg,Bool.and_eq_false_iff,b9]
   unfold RT.ok at hT
   simp only at hT
   omega
  have hst:(store ((⟨g,o,none⟩:Addr).add i) v).run P w=.ok () (w.setRow g (cur.setIfInBounds (o+i) v)):=by
   rw[P3,run_store P w _ v _ (h1 v (by simp)),eo]
   simp[ahN,setCell_eq_setRow w g (o+i) cur T.t T.fz v hg]
  have ih:=fL g o T rest (i+1) (cur.setIfInBounds (o+i) v) (w.setRow g (cur.setIfInBounds (o+i) v)) (ln w g cur _ T.t _ hg) (by simpa using hT) (by simp at hl ⊢;omega) (fun x hx=>h1 x (by simp[hx]))
  simp only[storeCells,aJ,hst,aw,ih,setRow_setRow]
  congr 3
  have e:=list_seg_step cur.toList (o+i) v rest (by simp at hl ⊢;omega)
  simpa[Array.toList_setIfInBounds,dn] using e
theorem iS (t tx ty e:TypeId) (i:TypeInfo) (ht:P.underlying t=some (.slice e)) (hi:P.info? e=some i) (g off sLen sCap:Nat) (cur:Array Value) (T:RT) (hg:w.heap[g]?=some (.cells cur T.t T.fz)) (hT:T.ok cur.size)
 (x:Value) (n:Nat) (news:List Value) (hs:Src P i.size tx x n news w) (mG:sLen+n≤sCap) (rR:off+sLen*i.size+news.length≤cur.size) :
 (Builtin.append_ #[t,tx] ty #[.slice (some ⟨g,off,none⟩) sLen sCap,x]).run P w=
  .ok (.slice (some ⟨g,off,none⟩) (sLen+n) sCap) (w.setRow g (cur.toList.take (off+sLen*i.size)++news++cur.toList.drop (off+sLen*i.size+news.length)).toArray):=by
 have hst:=fL (P:=P) g (off+sLen*i.size) T news 0 cur w hg hT (by simpa using rR) hs.one
 simp only[dR] at hst
 rcases hs.kind with⟨e',hk⟩ | hk<;>simp[Builtin.append_,aT ht,aT hk,sizeOf,typeInfo,hi,hs.len,mG,hs.cells,cV,hst]
def Gw (P:Program) (I:Ft) (w:World) (U:TypeId) (v:Value) (sz:Nat) (ys:List (List C)):Prop:=
 ∃ news:List Value,Src P sz U v ys.length news w∧∀ (q:Nat) (c:C),ys.flatten[q]?=some c→∃ u:Value,news[q]?=some u∧CR I w u c
theorem RD.src {U e':TypeId} {v:Value} {sz:Nat} {ys:List (List C)} (h:RD I w v ys) (hu:P.underlying U=some (.slice e')) (hs:∀ x∈ys,x.length=sz):Gw P I w U v sz ys:=by
 rcases h with⟨⟨a0,c0,rfl,hc0⟩,rfl⟩ | ⟨b,off,cap,szx,f,rfl,jW,h1⟩
 ·cases a0 with
  |none=>exact⟨[],Src.ofNil w hu c0,by simp⟩
  |some x=>exact⟨[],Src.ofSlice w hu x 0 c0 [] (by simp) (by simp) (by simp),by simp⟩
 ·have h':RD I w (.slice (some ⟨b,off,none⟩) ys.length cap) ys:=.inr ⟨b,off,cap,szx,f,rfl,jW,h1⟩
  obtain⟨news,uE,Ja,Jb,Ls⟩:=h'.flat hs
  exact⟨news,Src.ofSlice w hu ⟨b,off,none⟩ _ _ news uE (fun q u hq=>by rw[cV];exact(Ja q u hq).1) Ls,Jb⟩
theorem V4 {U:TypeId} {st:ByteArray} (hu:P.underlying U=some .string):Gw P I w U (.string st) 1 (kq st):=by
 have hl:(kq st).length=st.size:=by simp[kq]
 refine⟨Go.byteCells st,by rw[hl];exact Src.ofString w hu st,fun q c hq=>?_⟩
 have:=mj (sz:=1) (kq st) (by simp[kq]) q 0 (by omega)
 rw[Nat.mul_one,dR] at this
 rw[this] at hq
 simp only[kq,bb] at hq
 unfold Go.byteCells
 rw[bb]
 cases hb:st.data.toList[q]? with
 |none=>simp[hb] at hq
 |some b=>
  simp only[hb,bO,fP,bJ,ao] at hq
  exact⟨_,rfl,by rw[← hq];exact .lit _ rfl⟩
theorem B1 {T U ty:TypeId} {X:Operand} {vy:Value} (hst:St G n I0 M w0 I β ob s a w) (hd:∀ d,o.dst=some d→d<n)
 (pO:bV tr o=(match X with | .tmp t=>some t | _=>none)) (h:ee P T (ev G s X) y K) (hy:∀ ys e,P.underlying T=some (.slice e)→∀ j,ti P e=some j→y=.c (.sl ys)→(∀ x∈ys,x.length=j.size)→Gw P I w U vy j.size ys) :
 ∃ z u w',K z∧(Builtin.append_ #[T,U] ty #[a.eval X,vy]).run P w=.ok u w'∧SE G n I0 M w0 (s.after tr o z) (a.put o.dst u) w':=by
 have hx:=bF hst X
 unfold ee at h
 split at h
 ·rename_i e _ _ _ _ _ _ E es hi vZ
  rw[vZ] at hx
  obtain⟨j,d,h1,h2,h3,_⟩:=bw hi
  have pL:=dq h3
  subst pL
  split at h
  ·rename_i sz by_ _ z _ _ sB
   obtain⟨j',d',jH,ot,_,eD,rb,_,me,_⟩:=bw sB
   simp only at me eD rb
   obtain⟨⟨hp,uD,hE,pT⟩,h⟩:=h
   split at me
   ·rename_i zv sh
    split at h
    ·rename_i ys
     obtain⟨⟨hb,cu,vU⟩,h⟩:=h
     obtain⟨news,pP,Jb⟩:=hy ys e h2 _ sB rfl vU
     simp only at pP
     have rP:=kL (I:=I) (w:=w) me.symm
     have P4:zv.cells.size=sz:=by rw[rP.1,uD]
     have Vu:=hx.2
     have uC:=hx.1
     have DZ:(ev G s X).isOw=true:=by rw[vZ];rfl
     by_cases zC:ys=[]
     ·
      subst zC
      simp only[List.isEmpty_nil,cL] at h
      obtain⟨xa,xk,xz,hxk⟩:∃ (xa:Option Addr) (xk:Nat),a.eval X=.slice xa es.length xk∧es.length≤xk:=by
       rcases Vu with⟨_,_,b,hv⟩ | ⟨_,blk,cap,_,_,_,_,hv,_,_,hc,_⟩
       ·exact⟨b,_,hv,ae _⟩
       ·exact⟨_,cap,hv,hc⟩
      refine⟨_,a.eval X,w,h,by
       have hn0:news=[]:=cy (by rw[pP.newsLen];simp)
       subst hn0
       rw[xz];exact lK T U ty e j' h2 jH xa _ xk hxk (by rw[← eD];exact pP),?_⟩
      rw[eK]
      refine .fin hst hd (o':=QB ob X) ?_ fun b hb=>?_
      ·simp only[LR]
       refine⟨uC,?_⟩
       rcases Vu with Vu | ⟨e',blk,cap,cur,sz',e1,e2,e3⟩
       ·exact .inl Vu
       ·exact .inr ⟨e',blk,cap,cur,sz',e1,e2,e3⟩
      ·cases X with
       |tmp t=>exact⟨hst.obnd _ b hb,fun i=>hst.obx _ b i hb,fun L hL=>⟨t,hst.oinj _ _ b hL hb,pO,DZ⟩⟩
       |_=>cases hb
     ·have sg:ys.isEmpty=false:=by simpa using zC
      simp only[sg,aM,dy] at h
      have uE:=pP.newsLen
      have Ls:=pP.one
      have pN:Src P j'.size U vy ys.length news w:=by rw[← eD];exact pP
      have grun:∀ (base:Option Addr) (sLen sCap:Nat) (olds:List Value) (_:(Builtin.firstCells j'.size sLen (.slice base sLen sCap)).run P w.drew=.ok olds.toArray w.drew) (_:sCap<sLen+ys.length) (_:sLen+ys.length≤9223372036854775807) (_:Builtin.nextslicecap (sLen+ys.length) sCap*j'.bytes≤281474976710656),
       (Builtin.append_ #[T,U] ty #[.slice base sLen sCap,vy]).run P w=.ok (.slice (some ⟨w.heap.size,0,none⟩) (sLen+ys.length) (grownCap w (sLen+ys.length) sCap e))
        (w.drew.alloc (.cells (olds.toArray++news.toArray++Builtin.zeroCells zv.cells (grownCap w (sLen+ys.length) sCap e - (sLen+ys.length))) e)):=by
       intro base sLen sCap olds ho hg h63 rR
       have:=run_append_grow_src (P:=P) w T U ty e j' zv h2 jH sh base sLen sCap olds ho vy ys.length news pN hg (by omega) rR
       rw[this];simp
      have hm0:0<ys.length:=iV.2 zC
      have dh:∀ x∈es++ys,x.length=sz:=fun x hx=>by rcases aZ.1 hx with hx | hx;exact pT x hx;exact vU x hx
      have P5:es.length+ys.length≤maxLen:=by unfold maxLen;omega
      have flat_eq:(es++ys).flatten=es.flatten++ys.flatten:=by simp
      have hfe:=bD es pT
      have grownCase:∀ (olds:List Value) (cap0:Nat),olds.length=es.length*sz→(∀ (q:Nat) (c:C),es.flatten[q]?=some c→∃ u,olds[q]?=some u∧CR I w u c)→
       SE G n I0 M w0 (s.after tr o (.ow (some (e,sz)) (es++ys))) (a.put o.dst (.slice (some ⟨w.heap.size,0,none⟩) (es.length+ys.length) (grownCap w (es.length+ys.length) cap0 e)))
        (w.drew.alloc (.cells (olds.toArray++news.toArray++Builtin.zeroCells zv.cells (grownCap w (es.length+ys.length) cap0 e - (es.length+ys.length))) e)):=by
       intro olds cap0 xA BW
       have fA:=grownCap_ge w (es.length+ys.length) cap0 e
       have I9:=grownCap_le_maxLen w (es.length+ys.length) cap0 e P5
       have:=SE.finRow (tr:=tr) (o:=o) (e:=e) (cap:=grownCap w (es.length+ys.length) cap0 e) (sz:=sz) (es:=es++ys)
        (cur:=olds.toArray++news.toArray++Builtin.zeroCells zv.cells (grownCap w (es.length+ys.length) cap0 e - (es.length+ys.length))) hst hd (w1:=w.drew) hst.drew rfl
        (by simpa using fA) I9 (by
         simp only[Array.size_append,er,size_zeroCells,P4,xA,uE,← cU]
         congr 1
         omega) dh (fun q c hq=>by
          rw[flat_eq] at hq
          have lR:∃ u,(olds++news)[q]?=some u∧CR I w u c:=by
           by_cases pa:q<es.flatten.length
           ·rw[aG pa] at hq
            obtain⟨u,hu,jm⟩:=BW q c hq
            exact⟨u,by rw[aG (by omega)];exact hu,jm⟩
           ·rw[aK (by omega)] at hq
            obtain⟨u,hu,jm⟩:=Jb _ c hq
            refine⟨u,?_,jm⟩
            rw[aK (by omega),← hu]
            congr 1;omega
          obtain⟨u,hu,jm⟩:=lR
          rw[kM olds news _ q u hu];exact jm) (fun _ _ _=>rfl)
       rw[ax] at this
       exact this
      rcases Vu with⟨hob0,_,xa,xz⟩ | ⟨e',blk,cap,cur,sz',Lt,Jm,xz,hbb,gp,hc,I9,iR,v7,hIb⟩
      ·cases xa with
       |none=>
        have Gb:es=[]:=by
         rcases uC.sl_inv with⟨_,h1⟩ | ⟨b,off,cap,_,_,hv,_⟩
         ·exact h1
         ·rw[xz] at hv;cases hv
        subst Gb
        have bA:=grun none 0 0 [] (by simpa using run_firstCells_none (P:=P) w.drew j'.size 0 0 0) (by simp only[aH,ah] at cu;omega) (by simp only[aH,ah] at cu;omega)
         (by rw[← rb];simp only[aH] at hb;exact iq (by omega) hb)
        simp only[ah] at bA
        have:=grownCase [] 0 (by simp) (by simp)
        simp only[gr,aH,ah,eE] at this h
        refine⟨_,_,_,h,by rw[xz];exact bA,?_⟩
        simpa using this
       |some xaddr=>
        rw[xz] at uC
        obtain⟨olds,xA,holds,BW,_⟩:=uC.oldsOf pT
        have bA:=grun (some xaddr) es.length es.length olds (iW (P:=P) w.drew j'.size es.length xaddr es.length es.length olds (by rw[← eD];exact xA) (by simpa using holds)) (by omega) (by omega) (by rw[← rb];exact iq (by omega) hb)
        exact⟨_,_,_,h,by rw[xz];exact bA,grownCase olds es.length xA BW⟩
      ·have hee:e'=e∧sz'=sz:=by
        rcases hE with hE | hE
        ·rw[hE] at Jm;cases Jm
        ·rw[hE] at Jm;cases Jm;exact⟨rfl,rfl⟩
       obtain⟨rfl,rfl⟩:=hee
       rw[xz] at uC
       obtain⟨olds,xA,holds,BW,_⟩:=uC.flat pT
       by_cases mG:es.length+ys.length≤cap
       ·
        cases X with
        |tmp t=>
         have sC:ob (.t t)=some blk:=Lt
         have bA:=iS (P:=P) (w:=w) T U ty e' j' h2 jH blk 0 es.length cap cur (.of e') gp RT.of_ok vy ys.length news pN mG (by
          rw[← eD,uE,iR,ah,← cU];exact aS _ mG)
         rw[← eD] at bA
         simp only[ah] at bA
         refine⟨_,_,_,h,by rw[xz];exact bA,?_⟩
         have vV:blk<w.heap.size:=(be.1 gp).1
         have Ns:es.length*sz'+news.length≤cur.size:=by
          rw[uE,iR,← cU];exact aS _ mG
         have bL:=hst.clr t
         have Gc:∀ o,o<es.length*sz'→(cur.toList.take (es.length*sz')++news++cur.toList.drop (es.length*sz'+news.length)).toArray[o]?=cur[o]?:=fun o ho=>by
          simp only[cP,bZ]
          rw[aG (by simp;omega),cC,if_pos ho,aV]
         have mF:∀ o,I blk o→(w.setRow blk (cur.toList.take (es.length*sz')++news++cur.toList.drop (es.length*sz'+news.length)).toArray).cell? ⟨blk,o,none⟩=w.cell? ⟨blk,o,none⟩:=fun o ho=>by
          rw[cell_setRow_same w blk o cur _ e' (0,0) gp,fk w blk o cur e' (0,0) gp]
          exact Gc o (hIb o ho)
         have P6:∀ L,upL ob (.t t) none L≠some blk:=fun L hL=>by
          simp only[upL] at hL
          split at hL
          ·cases hL
          ·rename_i fO;exact fO (hst.oinj _ _ blk hL sC)
         have hg:w.grb (w.setRow blk (cur.toList.take (es.length*sz')++news++cur.toList.drop (es.length*sz'+news.length)).toArray) (some blk):=
          ⟨rfl,rfl,rfl,by simp,fun k _ hk=>jI w blk k _ (fun e=>hk (by rw[e])),ae _⟩
         have mg:=bL.growRow hg hbb mF P6 (fun i=>hst.obx _ blk i sC) (I':=fun b o=>I b o∨(b=blk∧o<(es.length+ys.length)*sz'))
          (fun _ _ h=>.inl h) (fun b o hb=>by rcases hb with hb | hb;exact .inl hb;exact .inr hb.1) (by simpa using vV)
         have kp:∀ b o,I b o→(I b o∨(b=blk∧o<(es.length+ys.length)*sz'))∧
          (w.setRow blk (cur.toList.take (es.length*sz')++news++cur.toList.drop (es.length*sz'+news.length)).toArray).cell? ⟨b,o,none⟩=w.cell? ⟨b,o,none⟩:=
          fun b o hb=>⟨.inl hb,hst.keeps hg (fun r e o ho=>by cases e;exact mF o ho) b o hb⟩
         have rc:=ln w blk cur (cur.toList.take (es.length*sz')++news++cur.toList.drop (es.length*sz'+news.length)).toArray e' (0,0) gp
         have D1:(cur.toList.take (es.length*sz')++news++cur.toList.drop (es.length*sz'+news.length)).toArray.size=cap*sz':=by
          simp only[er,ax,a8,di,bN];omega
         have jm:CR (fun b o=>I b o∨(b=blk∧o<(es.length+ys.length)*sz')) (w.setRow blk (cur.toList.take (es.length*sz')++news++cur.toList.drop (es.length*sz'+news.length)).toArray)
          (.slice (some ⟨blk,0,none⟩) (es++ys).length cap) (.sl (es++ys)):=
          CR.row rc (by simpa using mG) dh (fun q c hq=>by
           have pa:=(ak.1 hq).1
           rw[bD _ dh,ax,cU] at pa
           refine⟨by rw[D1,← iR];omega,?_⟩
           rw[flat_eq] at hq
           by_cases Zd:q<es.flatten.length
           ·rw[aG Zd] at hq
            obtain⟨u,hu,jm⟩:=BW q c hq
            have eo:=(holds q u hu).1
            rw[ah,fk w blk q cur e' (0,0) gp] at eo
            rw[ap,Gc q (by omega),eo]
            exact jm.mono kp
           ·rw[aK (by omega)] at hq
            obtain⟨u,hu,jm⟩:=Jb _ c hq
            have:(cur.toList.take (es.length*sz')++news++cur.toList.drop (es.length*sz'+news.length)).toArray[q]?=some u:=by
             simp only[cP]
             have Jn:(cur.toList.take (es.length*sz')).length=es.length*sz':=by
              have m9:cur.toList.length=cur.size:=bN
              rw[a8,m9];omega
             rw[aG (by rw[ax,Jn];omega),aK (by rw[Jn];omega),← hu,Jn,hfe]
            rw[ap,this]
            exact jm.mono kp) (fun o ho=>.inr ⟨rfl,by simpa using ho⟩)
         have BN:s.after tr o (.ow (some (e',sz')) (es++ys))=(s.clr t).put o.dst (.ow (some (e',sz')) (es++ys)):=by
          unfold S.after
          rw[pO]
          simp only[S.use]
          have:(s.fr t).isOw=true:=DZ
          rw[if_pos this]
         rw[BN]
         cases lh:o.dst with
         |none=>exact⟨_,_,_,mg⟩
         |some dd=>
          refine⟨_,_,_,mg.put dd (hd dd lh) (o:=some blk) ?_ fun b hb=>?_⟩
          ·have rQ:Value.slice (some ⟨blk,0,none⟩) (es.length+ys.length) cap=Value.slice (some ⟨blk,0,none⟩) (es++ys).length cap:=by rw[ax]
           rw[rQ]
           simp only[LR]
           refine⟨jm,.inr ⟨e',blk,cap,_,sz',rfl,rfl,rfl,hbb,rc,by simpa using mG,I9,D1,dh,fun o ho=>?_⟩⟩
           rw[ax]
           rcases ho with ho | ho
           ·have:=hIb o ho;rw[cU];omega
           ·exact ho.2
          ·simp only[ao] at hb
           subst hb
           refine⟨⟨by simpa using vV,hbb⟩,fun L hL=>?_,fun i=>hst.obx _ blk i sC⟩
           simp only[upL] at hL
           split at hL
           ·cases hL
           ·split at hL
            ·cases hL
            ·rename_i h5 h6;exact h6 (hst.oinj _ _ blk hL sC)
        |_=>cases Lt
       ·have bA:=grun (some ⟨blk,0,none⟩) es.length cap olds (iW (P:=P) w.drew j'.size es.length ⟨blk,0,none⟩ es.length cap olds (by rw[← eD];exact xA) (fun q u hq=>by rw[cV];simpa using(holds q u hq).1)) (by omega) (by omega) (by rw[← rb];exact iq (by omega) hb)
        exact⟨_,_,_,h,by rw[xz];exact bA,grownCase olds cap xA BW⟩
    ·exact h.elim
   ·cases me
  ·exact h.elim
 ·exact h.elim
theorem Gx {T U ty:TypeId} {t0:Tmp} {E:Option (TypeId×Nat)} {es:List (List C)} {vy:Value} (hst:St G n I0 M w0 I β ob s a w) (hd:∀ d,o.dst=some d→d<n)
 (pO:bV tr o=some t0) (vZ:s.fr t0=.ow E es) (h:uT P [T,U] E es y K) (hy:∀ ys e,P.underlying T=some (.slice e)→∀ j,ti P e=some j→y=.c (.sl ys)→(∀ x∈ys,x.length=j.size)→Gw P I w U vy j.size ys) :
 ∃ z u w',K z∧(Builtin.append_ #[T,U] ty #[a.tmps.getD t0 undef,vy]).run P w=.ok u w'∧SE G n I0 M w0 (s.after tr o z) (a.put o.dst u) w':=by
 have hx:=hst.fr t0
 rw[vZ] at hx
 simp only[uT] at h
 obtain⟨rfl,h⟩:=h
 split at h
 ·rename_i e _ _ _ _ _ _ hi
  obtain⟨j,d,h1,h2,h3,_⟩:=bw hi
  have pL:=dq h3
  subst pL
  split at h
  ·rename_i sz by_ _ z _ _ sB
   obtain⟨j',d',jH,ot,_,eD,rb,_,me,_⟩:=bw sB
   simp only at me eD rb
   obtain⟨⟨hp,uD,hE,pT⟩,h⟩:=h
   split at me
   ·rename_i zv sh
    split at h
    ·rename_i y1
     obtain⟨⟨hb,cu,Gd⟩,h⟩:=h
     have vU:∀ x∈[y1],x.length=sz:=fun x hx=>by rw[aP] at hx;subst hx;exact Gd
     obtain⟨news,pP,Jb⟩:=hy [y1] e h2 _ sB rfl vU
     simp only at pP
     have rP:=kL (I:=I) (w:=w) me.symm
     have P4:zv.cells.size=sz:=by rw[rP.1,uD]
     have Vu:=hx.2
     have uC:=hx.1
     have DZ:(s.fr t0).isOw=true:=by rw[vZ];rfl
     have zC:([y1]:List (List C))≠[]:=by simp
     have uE:=pP.newsLen
     have Ls:=pP.one
     have pN:Src P j'.size T vy [y1].length news w:=by rw[← eD];exact pP
     have grun:∀ (base:Option Addr) (sLen sCap:Nat) (olds:List Value) (_:(Builtin.firstCells j'.size sLen (.slice base sLen sCap)).run P w.drew=.ok olds.toArray w.drew) (_:sCap<sLen+[y1].length) (_:sLen+[y1].length≤9223372036854775807) (_:Builtin.nextslicecap (sLen+[y1].length) sCap*j'.bytes≤281474976710656),
      (Builtin.append_ #[T,T] ty #[.slice base sLen sCap,vy]).run P w=.ok (.slice (some ⟨w.heap.size,0,none⟩) (sLen+[y1].length) (grownCap w (sLen+[y1].length) sCap e))
       (w.drew.alloc (.cells (olds.toArray++news.toArray++Builtin.zeroCells zv.cells (grownCap w (sLen+[y1].length) sCap e - (sLen+[y1].length))) e)):=by
      intro base sLen sCap olds ho hg h63 rR
      have:=run_append_grow_src (P:=P) w T T ty e j' zv h2 jH sh base sLen sCap olds ho vy [y1].length news pN hg (by omega) rR
      rw[this];simp
     have hm0:0<[y1].length:=iV.2 zC
     have dh:∀ x∈es++[y1],x.length=sz:=fun x hx=>by rcases aZ.1 hx with hx | hx;exact pT x hx;exact vU x hx
     have P5:es.length+[y1].length≤maxLen:=by unfold maxLen;omega
     have flat_eq:(es++[y1]).flatten=es.flatten++[y1].flatten:=by simp
     have hfe:=bD es pT
     have grownCase:∀ (olds:List Value) (cap0:Nat),olds.length=es.length*sz→(∀ (q:Nat) (c:C),es.flatten[q]?=some c→∃ u,olds[q]?=some u∧CR I w u c)→
      SE G n I0 M w0 (s.after tr o (.hh none (some (e,sz)) (es++[y1]))) (a.put o.dst (.slice (some ⟨w.heap.size,0,none⟩) (es.length+[y1].length) (grownCap w (es.length+[y1].length) cap0 e)))
       (w.drew.alloc (.cells (olds.toArray++news.toArray++Builtin.zeroCells zv.cells (grownCap w (es.length+[y1].length) cap0 e - (es.length+[y1].length))) e)):=by
      intro olds cap0 xA BW
      have fA:=grownCap_ge w (es.length+[y1].length) cap0 e
      have I9:=grownCap_le_maxLen w (es.length+[y1].length) cap0 e P5
      have:=SE.finRowH (tr:=tr) (o:=o) (e:=e) (cap:=grownCap w (es.length+[y1].length) cap0 e) (sz:=sz) (es:=es++[y1])
       (cur:=olds.toArray++news.toArray++Builtin.zeroCells zv.cells (grownCap w (es.length+[y1].length) cap0 e - (es.length+[y1].length))) hst hd (w1:=w.drew) hst.drew rfl
       (by simpa using fA) I9 (by
        simp only[Array.size_append,er,size_zeroCells,P4,xA,uE,← cU]
        congr 1
        omega) dh (fun q c hq=>by
         rw[flat_eq] at hq
         have lR:∃ u,(olds++news)[q]?=some u∧CR I w u c:=by
          by_cases pa:q<es.flatten.length
          ·rw[aG pa] at hq
           obtain⟨u,hu,jm⟩:=BW q c hq
           exact⟨u,by rw[aG (by omega)];exact hu,jm⟩
          ·rw[aK (by omega)] at hq
           obtain⟨u,hu,jm⟩:=Jb _ c hq
           refine⟨u,?_,jm⟩
           rw[aK (by omega),← hu]
           congr 1;omega
         obtain⟨u,hu,jm⟩:=lR
         rw[kM olds news _ q u hu];exact jm) (fun _ _ _=>rfl)
      rw[ax] at this
      exact this
     rcases Vu with⟨hob0,_,xa,xz⟩ | ⟨e',blk,cap,cur,sz',Lt,Jm,xz,hbb,gp,hc,I9,iR,v7,hIb⟩
     ·cases xa with
      |none=>
       have Gb:es=[]:=by
        rcases uC.sl_inv with⟨_,h1⟩ | ⟨b,off,cap,_,_,hv,_⟩
        ·exact h1
        ·rw[xz] at hv;cases hv
       subst Gb
       have bA:=grun none 0 0 [] (by simpa using run_firstCells_none (P:=P) w.drew j'.size 0 0 0) (by simp only[aH,ah] at cu;omega) (by simp only[aH,ah] at cu;omega)
        (by rw[← rb];simp only[aH] at hb;exact iq (by omega) hb)
       simp only[ah] at bA
       have:=grownCase [] 0 (by simp) (by simp)
       simp only[gr,aH,ah,eE] at this h
       refine⟨_,_,_,h,by rw[xz];exact bA,?_⟩
       simpa using this
      |some xaddr=>
       rw[xz] at uC
       obtain⟨olds,xA,holds,BW,_⟩:=uC.oldsOf pT
       have bA:=grun (some xaddr) es.length es.length olds (iW (P:=P) w.drew j'.size es.length xaddr es.length es.length olds (by rw[← eD];exact xA) (by simpa using holds)) (by omega) (by omega) (by rw[← rb];exact iq (by omega) hb)
       exact⟨_,_,_,h,by rw[xz];exact bA,grownCase olds es.length xA BW⟩
     ·have hee:e'=e∧sz'=sz:=by
       rcases hE with hE | hE
       ·rw[hE] at Jm;cases Jm
       ·rw[hE] at Jm;cases Jm;exact⟨rfl,rfl⟩
      obtain⟨rfl,rfl⟩:=hee
      rw[xz] at uC
      obtain⟨olds,xA,holds,BW,_⟩:=uC.flat pT
      by_cases mG:es.length+[y1].length≤cap
      ·
       have sC:ob (.t t0)=some blk:=Lt
       have bA:=iS (P:=P) (w:=w) T T ty e' j' h2 jH blk 0 es.length cap cur (.of e') gp RT.of_ok vy [y1].length news pN mG (by
        rw[← eD,uE,iR,ah,← cU];exact aS _ mG)
       rw[← eD] at bA
       simp only[ah] at bA
       refine⟨_,_,_,h,by rw[xz];exact bA,?_⟩
       have vV:blk<w.heap.size:=(be.1 gp).1
       have Ns:es.length*sz'+news.length≤cur.size:=by
        rw[uE,iR,← cU];exact aS _ mG
       have bL:=hst.clr t0
       have Gc:∀ o,o<es.length*sz'→(cur.toList.take (es.length*sz')++news++cur.toList.drop (es.length*sz'+news.length)).toArray[o]?=cur[o]?:=fun o ho=>by
        simp only[cP,bZ]
        rw[aG (by simp;omega),cC,if_pos ho,aV]
       have mF:∀ o,I blk o→(w.setRow blk (cur.toList.take (es.length*sz')++news++cur.toList.drop (es.length*sz'+news.length)).toArray).cell? ⟨blk,o,none⟩=w.cell? ⟨blk,o,none⟩:=fun o ho=>by
        rw[cell_setRow_same w blk o cur _ e' (0,0) gp,fk w blk o cur e' (0,0) gp]
        exact Gc o (hIb o ho)
       have P6:∀ L,upL ob (.t t0) none L≠some blk:=fun L hL=>by
        simp only[upL] at hL
        split at hL
        ·cases hL
        ·rename_i fO;exact fO (hst.oinj _ _ blk hL sC)
       have hg:w.grb (w.setRow blk (cur.toList.take (es.length*sz')++news++cur.toList.drop (es.length*sz'+news.length)).toArray) (some blk):=
        ⟨rfl,rfl,rfl,by simp,fun k _ hk=>jI w blk k _ (fun e=>hk (by rw[e])),ae _⟩
       have mg:=bL.growRow hg hbb mF P6 (fun i=>hst.obx _ blk i sC) (I':=I)
        (fun _ _ h=>h) (fun b o hb=>.inl hb) (by simpa using vV)
       have kp:∀ b o,I b o→I b o∧
        (w.setRow blk (cur.toList.take (es.length*sz')++news++cur.toList.drop (es.length*sz'+news.length)).toArray).cell? ⟨b,o,none⟩=w.cell? ⟨b,o,none⟩:=
        fun b o hb=>⟨hb,hst.keeps hg (fun r e o ho=>by cases e;exact mF o ho) b o hb⟩
       have rc:=ln w blk cur (cur.toList.take (es.length*sz')++news++cur.toList.drop (es.length*sz'+news.length)).toArray e' (0,0) gp
       have D1:(cur.toList.take (es.length*sz')++news++cur.toList.drop (es.length*sz'+news.length)).toArray.size=cap*sz':=by
        simp only[er,ax,a8,di,bN];omega
       have jm:∀ (q:Nat) (c:C),(es++[y1]).flatten[q]?=some c→CR I (w.setRow blk (cur.toList.take (es.length*sz')++news++cur.toList.drop (es.length*sz'+news.length)).toArray) ((cur.toList.take (es.length*sz')++news++cur.toList.drop (es.length*sz'+news.length)).toArray.getD q undef) c:=
        (fun q c hq=>by
         have pa:=(ak.1 hq).1
         rw[bD _ dh,ax,cU] at pa
         rw[flat_eq] at hq
         by_cases Zd:q<es.flatten.length
         ·rw[aG Zd] at hq
          obtain⟨u,hu,jm⟩:=BW q c hq
          have eo:=(holds q u hu).1
          rw[ah,fk w blk q cur e' (0,0) gp] at eo
          rw[ap,Gc q (by omega),eo]
          exact jm.mono kp
         ·rw[aK (by omega)] at hq
          obtain⟨u,hu,jm⟩:=Jb _ c hq
          have:(cur.toList.take (es.length*sz')++news++cur.toList.drop (es.length*sz'+news.length)).toArray[q]?=some u:=by
           simp only[cP]
           have Jn:(cur.toList.take (es.length*sz')).length=es.length*sz':=by
            have m9:cur.toList.length=cur.size:=bN
            rw[a8,m9];omega
           rw[aG (by rw[ax,Jn];omega),aK (by rw[Jn];omega),← hu,Jn,hfe]
          rw[ap,this]
          exact jm.mono kp)
       have BN:s.after tr o (.hh none (some (e',sz')) (es++[y1]))=(s.clr t0).put o.dst (.hh none (some (e',sz')) (es++[y1])):=by
        unfold S.after
        rw[pO]
        simp only[S.use]
        have:(s.fr t0).isOw=true:=DZ
        rw[if_pos this]
       rw[BN]
       cases lh:o.dst with
       |none=>exact⟨_,_,_,mg⟩
       |some dd=>
        refine⟨_,_,_,mg.put dd (hd dd lh) (o:=some blk) ?_ fun b hb=>?_⟩
        ·have rQ:Value.slice (some ⟨blk,0,none⟩) (es.length+[y1].length) cap=Value.slice (some ⟨blk,0,none⟩) (es++[y1]).length cap:=by rw[ax]
         rw[rQ]
         simp only[LR]
         refine⟨(fun _ h=>by cases h),e',blk,cap,_,sz',rfl,rfl,rfl,hbb,rc,by simpa using mG,I9,D1,dh,jm,fun o ho=>?_,fun o ho=>?_⟩
         ·rw[ax,dm,Nat.add_sub_cancel] at ho
          obtain⟨u,hu⟩:∃ u,olds[o]?=some u:=⟨_,aj (by omega)⟩
          have:=(holds o u hu).2
          rwa [ah] at this
         ·rw[ax,dm,Nat.add_sub_cancel]
          exact hIb o ho
        ·simp only[ao] at hb
         subst hb
         refine⟨⟨by simpa using vV,hbb⟩,fun L hL=>?_,fun i=>hst.obx _ blk i sC⟩
         simp only[upL] at hL
         split at hL
         ·cases hL
         ·split at hL
          ·cases hL
          ·rename_i h5 h6;exact h6 (hst.oinj _ _ blk hL sC)
      ·have bA:=grun (some ⟨blk,0,none⟩) es.length cap olds (iW (P:=P) w.drew j'.size es.length ⟨blk,0,none⟩ es.length cap olds (by rw[← eD];exact xA) (fun q u hq=>by rw[cV];simpa using(holds q u hq).1)) (by omega) (by omega) (by rw[← rb];exact iq (by omega) hb)
       exact⟨_,_,_,h,by rw[xz];exact bA,grownCase olds cap xA BW⟩
    ·exact h.elim
   ·cases me
  ·exact h.elim
 ·exact h.elim
theorem uU {z:Array Value} {m:Nat} {u:Value} (h:u∈Builtin.zeroCells z m):u∈z:=by
 unfold Builtin.zeroCells at h
 simp only[Array.mem_map,Array.mem_range] at h
 obtain⟨i,hi,rfl⟩:=h
 have hz:0<z.size:=Nat.pos_of_ne_zero fun h=>by rw[h] at hi;simp at hi
 have bB:i % z.size<z.size:=lm _ hz
 rw[getElem!_pos z _ bB]
 exact Array.getElem_mem bB
theorem yK {T U ty:TypeId} {t0:Tmp} {E:Option (TypeId×Nat)} {es:List (List C)} {vy:Value} (hst:St G n I0 M w0 I β ob s a w) (hd:∀ d,o.dst=some d→d<n)
 (pO:bV tr o=some t0) (vZ:s.fr t0=.gs none E es) (h:nf P [T,U] E es y K) (hy:∀ ys e,P.underlying T=some (.slice e)→∀ j,ti P e=some j→y=.c (.sl ys)→(∀ x∈ys,x.length=j.size)→Gw P I w U vy j.size ys) :
 ∃ z u w',K z∧(Builtin.append_ #[T,U] ty #[a.tmps.getD t0 undef,vy]).run P w=.ok u w'∧SE G n I0 M w0 (s.after tr o z) (a.put o.dst u) w':=by
 have hx:=hst.fr t0
 rw[vZ] at hx
 simp only[nf] at h
 obtain⟨rfl,h⟩:=h
 split at h
 ·rename_i e _ _ _ _ _ _ hi
  obtain⟨j,d,h1,h2,h3,_⟩:=bw hi
  have pL:=dq h3
  subst pL
  split at h
  ·rename_i sz by_ _ z _ _ sB
   obtain⟨j',d',jH,ot,_,eD,rb,_,me,_⟩:=bw sB
   simp only at me eD rb
   obtain⟨⟨hp,uD,hE,pT⟩,h⟩:=h
   split at me
   ·rename_i zv sh
    split at h
    ·rename_i y1
     obtain⟨⟨hb,cu,Gd⟩,h⟩:=h
     have vU:∀ x∈[y1],x.length=sz:=fun x hx=>by rw[aP] at hx;subst hx;exact Gd
     obtain⟨news,pP,Jb⟩:=hy [y1] e h2 _ sB rfl vU
     simp only at pP
     have rP:=kL (I:=I) (w:=w) me.symm
     have P4:zv.cells.size=sz:=by rw[rP.1,uD]
     have zone:∀ u∈zv.cells,u.oneCell'=true:=fun u hu=>by
      obtain⟨q,hq,rfl⟩:=fB.1 hu
      have pa:q<z.length:=by rw[← rP.1];exact hq
      have:=(rP.2 q _ (aj pa)).oneCell
      simpa[aA hq,hq] using this
     have Vu:=hx.2
     have DZ:(s.fr t0).isOw=true:=by rw[vZ];rfl
     have zC:([y1]:List (List C))≠[]:=by simp
     have uE:=pP.newsLen
     have Ls:=pP.one
     have pN:Src P j'.size T vy [y1].length news w:=by rw[← eD];exact pP
     have grun:∀ (base:Option Addr) (sLen sCap:Nat) (olds:List Value) (_:(Builtin.firstCells j'.size sLen (.slice base sLen sCap)).run P w.drew=.ok olds.toArray w.drew) (_:sCap<sLen+[y1].length) (_:sLen+[y1].length≤9223372036854775807) (_:Builtin.nextslicecap (sLen+[y1].length) sCap*j'.bytes≤281474976710656),
      (Builtin.append_ #[T,T] ty #[.slice base sLen sCap,vy]).run P w=.ok (.slice (some ⟨w.heap.size,0,none⟩) (sLen+[y1].length) (grownCap w (sLen+[y1].length) sCap e))
       (w.drew.alloc (.cells (olds.toArray++news.toArray++Builtin.zeroCells zv.cells (grownCap w (sLen+[y1].length) sCap e - (sLen+[y1].length))) e)):=by
      intro base sLen sCap olds ho hg h63 rR
      have:=run_append_grow_src (P:=P) w T T ty e j' zv h2 jH sh base sLen sCap olds ho vy [y1].length news pN hg (by omega) rR
      rw[this];simp
     have hm0:0<[y1].length:=iV.2 zC
     have dh:∀ x∈es++[y1],x.length=sz:=fun x hx=>by rcases aZ.1 hx with hx | hx;exact pT x hx;exact vU x hx
     have P5:es.length+[y1].length≤maxLen:=by unfold maxLen;omega
     have flat_eq:(es++[y1]).flatten=es.flatten++[y1].flatten:=by simp
     have hfe:=bD es pT
     have grownCase:∀ (olds:List Value) (cap0:Nat),olds.length=es.length*sz→(∀ (q:Nat) (c:C),es.flatten[q]?=some c→∃ u,olds[q]?=some u∧CR I w u c)→(∀ u∈olds,u.oneCell'=true)→
      SE G n I0 M w0 (s.after tr o (.gs none (some (e,sz)) (es++[y1]))) (a.put o.dst (.slice (some ⟨w.heap.size,0,none⟩) (es.length+[y1].length) (grownCap w (es.length+[y1].length) cap0 e)))
       (w.drew.alloc (.cells (olds.toArray++news.toArray++Builtin.zeroCells zv.cells (grownCap w (es.length+[y1].length) cap0 e - (es.length+[y1].length))) e)):=by
      intro olds cap0 xA BW ho1
      have fA:=grownCap_ge w (es.length+[y1].length) cap0 e
      have I9:=grownCap_le_maxLen w (es.length+[y1].length) cap0 e P5
      have:=SE.finRowG (tr:=tr) (o:=o) (e:=e) (cap:=grownCap w (es.length+[y1].length) cap0 e) (sz:=sz) (es:=es++[y1])
       (cur:=olds.toArray++news.toArray++Builtin.zeroCells zv.cells (grownCap w (es.length+[y1].length) cap0 e - (es.length+[y1].length))) hst hd (w1:=w.drew) hst.drew rfl
       (by simpa using fA) I9 (by
        simp only[Array.size_append,er,size_zeroCells,P4,xA,uE,← cU]
        congr 1
        omega) dh (fun q c hq=>by
         rw[flat_eq] at hq
         have lR:∃ u,(olds++news)[q]?=some u∧CR I w u c:=by
          by_cases pa:q<es.flatten.length
          ·rw[aG pa] at hq
           obtain⟨u,hu,jm⟩:=BW q c hq
           exact⟨u,by rw[aG (by omega)];exact hu,jm⟩
          ·rw[aK (by omega)] at hq
           obtain⟨u,hu,jm⟩:=Jb _ c hq
           refine⟨u,?_,jm⟩
           rw[aK (by omega),← hu]
           congr 1;omega
         obtain⟨u,hu,jm⟩:=lR
         rw[kM olds news _ q u hu];exact jm) (fun u hu=>by
          simp only[Array.mem_append,fQ] at hu
          rcases hu with(hu | hu) | hu
          ·exact ho1 u hu
          ·exact Ls u hu
          ·exact zone u (uU hu)) (fun _ _ _=>rfl)
      rw[ax] at this
      exact this
     rcases Vu with⟨hob0,hE0,Gb,xa,xz⟩ | ⟨e',blk,cap,cur,sz',Lt,Jm,xz,hbb,gp,hc,I9,iR,v7,zY,jk,fm⟩
     ·subst Gb
      have nilCase:∀ (base:Option Addr),(Builtin.append_ #[T,T] ty #[.slice base 0 0,vy]).run P w=.ok (.slice (some ⟨w.heap.size,0,none⟩) (0+[y1].length) (grownCap w (0+[y1].length) 0 e))
       (w.drew.alloc (.cells (([]:List Value).toArray++news.toArray++Builtin.zeroCells zv.cells (grownCap w (0+[y1].length) 0 e - (0+[y1].length))) e)):=fun base=>by
       refine grun base 0 0 [] ?_ (by simp) (by simp) (by rw[← rb];exact iq (by simp) (by simpa using hb))
       cases base with
       |none=>simpa using run_firstCells_none (P:=P) w.drew j'.size 0 0 0
       |some xaddr=>exact iW (P:=P) w.drew j'.size 0 xaddr 0 0 [] (by simp) (by simp)
      have bA:=nilCase xa
      have:=grownCase [] 0 (by simp) (by simp) (by simp)
      simp only[gr,aH,ah,eE] at this h bA
      refine⟨_,_,_,h,by rw[xz];exact bA,?_⟩
      simpa using this
     ·have hee:e'=e∧sz'=sz:=by
       rcases hE with hE | hE
       ·rw[hE] at Jm;cases Jm
       ·rw[hE] at Jm;cases Jm;exact⟨rfl,rfl⟩
      obtain⟨rfl,rfl⟩:=hee
      have ahO:=aS sz' hc
      obtain⟨olds,xA,adg⟩:∃ olds:List Value,olds.length=es.length*sz'∧∀ q,q<es.length*sz'→olds[q]?=cur[q]?:=⟨cur.toList.take (es.length*sz'),by rw[a8];exact cv (by have h9:cur.toList.length=cur.size:=bN;rw[h9,iR];exact ahO),fun q hq=>by rw[cC,if_pos hq,aV]⟩
      have BW:∀ (q:Nat) (c:C),es.flatten[q]?=some c→∃ u,olds[q]?=some u∧CR I w u c:=fun q c hq=>by
       have pa:=(ak.1 hq).1
       rw[hfe] at pa
       refine⟨cur.getD q undef,?_,zY q c hq⟩
       rw[adg q pa,ap,aA (show q<cur.size by omega)];rfl
      have ho1:∀ u∈olds,u.oneCell'=true:=fun u hu=>by
       obtain⟨q,hq,rfl⟩:=gi hu
       have h7:=adg q (by omega)
       rw[aj hq] at h7
       exact jk _ (dz h7.symm)
      have holds:∀ (q:Nat) (u:Value),olds[q]?=some u→w.cell? ⟨blk,0+q,none⟩=some u:=fun q u hq=>by
       have pa:=(ak.1 hq).1
       rw[ah,fk w blk q cur e' (0,0) gp,← hq,adg q (by omega)]
      by_cases mG:es.length+[y1].length≤cap
      ·
       have sC:ob (.t t0)=some blk:=Lt
       have bA:=iS (P:=P) (w:=w) T T ty e' j' h2 jH blk 0 es.length cap cur (.of e') gp RT.of_ok vy [y1].length news pN mG (by
        rw[← eD,uE,iR,ah,← cU];exact aS _ mG)
       rw[← eD] at bA
       simp only[ah] at bA
       refine⟨_,_,_,h,by rw[xz];exact bA,?_⟩
       have vV:blk<w.heap.size:=(be.1 gp).1
       have Ns:es.length*sz'+news.length≤cur.size:=by
        rw[uE,iR,← cU];exact aS _ mG
       have bL:=hst.clr t0
       have Gc:∀ o,o<es.length*sz'→(cur.toList.take (es.length*sz')++news++cur.toList.drop (es.length*sz'+news.length)).toArray[o]?=cur[o]?:=fun o ho=>by
        simp only[cP,bZ]
        rw[aG (by simp;omega),cC,if_pos ho,aV]
       have mF:∀ o,I blk o→(w.setRow blk (cur.toList.take (es.length*sz')++news++cur.toList.drop (es.length*sz'+news.length)).toArray).cell? ⟨blk,o,none⟩=w.cell? ⟨blk,o,none⟩:=fun o ho=>by
        exact absurd ho (fm o)
       have P6:∀ L,upL ob (.t t0) none L≠some blk:=fun L hL=>by
        simp only[upL] at hL
        split at hL
        ·cases hL
        ·rename_i fO;exact fO (hst.oinj _ _ blk hL sC)
       have hg:w.grb (w.setRow blk (cur.toList.take (es.length*sz')++news++cur.toList.drop (es.length*sz'+news.length)).toArray) (some blk):=
        ⟨rfl,rfl,rfl,by simp,fun k _ hk=>jI w blk k _ (fun e=>hk (by rw[e])),ae _⟩
       have mg:=bL.growRow hg hbb mF P6 (fun i=>hst.obx _ blk i sC) (I':=I)
        (fun _ _ h=>h) (fun b o hb=>.inl hb) (by simpa using vV)
       have kp:∀ b o,I b o→I b o∧
        (w.setRow blk (cur.toList.take (es.length*sz')++news++cur.toList.drop (es.length*sz'+news.length)).toArray).cell? ⟨b,o,none⟩=w.cell? ⟨b,o,none⟩:=
        fun b o hb=>⟨hb,hst.keeps hg (fun r e o ho=>by cases e;exact mF o ho) b o hb⟩
       have rc:=ln w blk cur (cur.toList.take (es.length*sz')++news++cur.toList.drop (es.length*sz'+news.length)).toArray e' (0,0) gp
       have D1:(cur.toList.take (es.length*sz')++news++cur.toList.drop (es.length*sz'+news.length)).toArray.size=cap*sz':=by
        simp only[er,ax,a8,di,bN];omega
       have jm:∀ (q:Nat) (c:C),(es++[y1]).flatten[q]?=some c→CR I (w.setRow blk (cur.toList.take (es.length*sz')++news++cur.toList.drop (es.length*sz'+news.length)).toArray) ((cur.toList.take (es.length*sz')++news++cur.toList.drop (es.length*sz'+news.length)).toArray.getD q undef) c:=
        (fun q c hq=>by
         have pa:=(ak.1 hq).1
         rw[bD _ dh,ax,cU] at pa
         rw[flat_eq] at hq
         by_cases Zd:q<es.flatten.length
         ·rw[aG Zd] at hq
          obtain⟨u,hu,jm⟩:=BW q c hq
          have eo:=holds q u hu
          rw[ah,fk w blk q cur e' (0,0) gp] at eo
          rw[ap,Gc q (by omega),eo]
          exact jm.mono kp
         ·rw[aK (by omega)] at hq
          obtain⟨u,hu,jm⟩:=Jb _ c hq
          have:(cur.toList.take (es.length*sz')++news++cur.toList.drop (es.length*sz'+news.length)).toArray[q]?=some u:=by
           simp only[cP]
           have Jn:(cur.toList.take (es.length*sz')).length=es.length*sz':=by
            have m9:cur.toList.length=cur.size:=bN
            rw[a8,m9];omega
           rw[aG (by rw[ax,Jn];omega),aK (by rw[Jn];omega),← hu,Jn,hfe]
          rw[ap,this]
          exact jm.mono kp)
       have BN:s.after tr o (.gs none (some (e',sz')) (es++[y1]))=(s.clr t0).put o.dst (.gs none (some (e',sz')) (es++[y1])):=by
        unfold S.after
        rw[pO]
        simp only[S.use]
        have:(s.fr t0).isOw=true:=DZ
        rw[if_pos this]
       rw[BN]
       cases lh:o.dst with
       |none=>exact⟨_,_,_,mg⟩
       |some dd=>
        refine⟨_,_,_,mg.put dd (hd dd lh) (o:=some blk) ?_ fun b hb=>?_⟩
        ·have rQ:Value.slice (some ⟨blk,0,none⟩) (es.length+[y1].length) cap=Value.slice (some ⟨blk,0,none⟩) (es++[y1]).length cap:=by rw[ax]
         rw[rQ]
         simp only[LR]
         exact⟨(fun _ h=>by cases h),.inr ⟨e',blk,cap,_,sz',rfl,rfl,rfl,hbb,rc,by simpa using mG,I9,D1,dh,jm,fun u hu=>by
          rw[fQ] at hu
          rcases aZ.1 hu with hu | hu
          ·rcases aZ.1 hu with hu | hu
           ·exact jk u (cH.1 (cJ hu))
           ·exact Ls u hu
          ·exact jk u (cH.1 (cM hu)),fm⟩⟩
        ·simp only[ao] at hb
         subst hb
         refine⟨⟨by simpa using vV,hbb⟩,fun L hL=>?_,fun i=>hst.obx _ blk i sC⟩
         simp only[upL] at hL
         split at hL
         ·cases hL
         ·split at hL
          ·cases hL
          ·rename_i h5 h6;exact h6 (hst.oinj _ _ blk hL sC)
      ·have bA:=grun (some ⟨blk,0,none⟩) es.length cap olds (iW (P:=P) w.drew j'.size es.length ⟨blk,0,none⟩ es.length cap olds (by rw[← eD];exact xA) (fun q u hq=>by rw[cV];simpa using holds q u hq)) (by omega) (by omega) (by rw[← rb];exact iq (by omega) hb)
       exact⟨_,_,_,h,by rw[xz];exact bA,grownCase olds cap xA BW ho1⟩
    ·exact h.elim
   ·cases me
  ·exact h.elim
 ·exact h.elim
theorem B2 {T ty:TypeId} {vx vy:Value} {ox:Option Nat} {es:List (List C)} {d:Option Tmp} {K:S→Prop} (hst:St G n I0 M w0 I β ob s a w)
 (hx:LR (Wr M w0) I β w ox vx (.ow none es)) (h:ee P T (.ow none es) y (V0 s d K)) (hy:∀ ys,y=.c (.sl ys)→RD I w vy ys) :
 ∃ (e:TypeId) (sz:Nat) (es':List (List C)) (cells:Array Value) (cap:Nat),K ({ s with bx:=up s.bx s.nb (es'.flatten.map .c),nb:=s.nb+1 }.put d (.ms s.nb 0 es'.length es'.length sz))∧
  (Builtin.append_ #[T,T] ty #[vx,vy]).run P w=.ok (.slice (some ⟨w.heap.size,0,none⟩) es'.length cap) (w.drew.alloc (.cells cells e))∧es'.length≤cap∧es'.flatten.length≤cells.size∧
  (∀ q c,es'.flatten[q]?=some c→CR I w (cells.getD q undef) c)∧(∀ u∈cells,u.oneCell'=true):=by
 unfold ee at h
 split at h
 ·rename_i e _ _ _ _ _ _ E es1 hi vZ
  cases vZ
  obtain⟨j,d,h1,h2,h3,_⟩:=bw hi
  have pL:=dq h3
  subst pL
  split at h
  ·rename_i sz by_ _ z _ _ sB
   obtain⟨j',d',jH,ot,_,eD,rb,_,me,_⟩:=bw sB
   simp only at me eD rb
   obtain⟨⟨hp,uD,hE,pT⟩,h⟩:=h
   split at me
   ·rename_i zv sh
    split at h
    ·rename_i ys
     obtain⟨⟨hb,cu,vU⟩,h⟩:=h
     by_cases zC:ys=[]
     ·subst zC
      simp only[List.isEmpty_nil,cL] at h
      exact h.elim
     have sg:ys.isEmpty=false:=by simpa using zC
     simp only[sg,aM,dy] at h
     have Vp:=hy _ rfl
     have rP:=kL (I:=I) (w:=w) me.symm
     have P4:zv.cells.size=sz:=by rw[rP.1,uD]
     obtain⟨vsl,hvy⟩:∃ (p:Option Addr×Nat),vy=.slice p.1 ys.length p.2:=by
      rcases Vp with⟨h0,h1⟩ | ⟨b,off,cap,_,_,hv,_⟩
      ·obtain⟨a0,c0,h0,_⟩:=h0;exact⟨(a0,c0),by rw[h0,h1];rfl⟩
      ·exact⟨(some ⟨b,off,none⟩,cap),hv⟩
     obtain⟨ya,yc⟩:=vsl
     simp only at hvy
     subst hvy
     have Vu:=hx.2
     have uC:=hx.1
     obtain⟨yb,yoff,rfl⟩:=Vp.some' zC
     obtain⟨news,uE,Ja,Jb,Ls⟩:=Vp.flat vU
     have Vv:∀ (q:Nat) (u:Value),news[q]?=some u→w.cell? ((⟨yb,yoff,none⟩:Addr).add q)=some u:=fun q u hq=>by rw[cV];exact(Ja q u hq).1
     have hm0:0<ys.length:=iV.2 zC
     have dh:∀ x∈es++ys,x.length=sz:=fun x hx=>by rcases aZ.1 hx with hx | hx;exact pT x hx;exact vU x hx
     have P5:es.length+ys.length≤maxLen:=by unfold maxLen;omega
     have flat_eq:(es++ys).flatten=es.flatten++ys.flatten:=by simp
     have hfe:=bD es pT
     have hfa:=bD (es++ys) dh
     have zone:∀ u∈zv.cells,u.oneCell'=true:=fun u hu=>by
      obtain⟨q,hq,rfl⟩:=fB.1 hu
      have pa:q<z.length:=by rw[← rP.1];exact hq
      have:=(rP.2 q _ (aj pa)).oneCell
      simpa[aA hq,hq] using this
     have fin:∀ (olds:List Value) (cap0:Nat),olds.length=es.length*sz→(∀ (q:Nat) (c:C),es.flatten[q]?=some c→∃ u,olds[q]?=some u∧CR I w u c)→(∀ u∈olds,u.oneCell'=true)→
      (Builtin.append_ #[T,T] ty #[vx,.slice (some ⟨yb,yoff,none⟩) ys.length yc]).run P w=.ok (.slice (some ⟨w.heap.size,0,none⟩) (es.length+ys.length) (grownCap w (es.length+ys.length) cap0 e))
       (w.drew.alloc (.cells (olds.toArray++news.toArray++Builtin.zeroCells zv.cells (grownCap w (es.length+ys.length) cap0 e - (es.length+ys.length))) e))→
      ∃ (e:TypeId) (sz:Nat) (es':List (List C)) (cells:Array Value) (cap:Nat),K ({ s with bx:=up s.bx s.nb (es'.flatten.map .c),nb:=s.nb+1 }.put ‹Option Tmp› (.ms s.nb 0 es'.length es'.length sz))∧
       (Builtin.append_ #[T,T] ty #[vx,.slice (some ⟨yb,yoff,none⟩) ys.length yc]).run P w=.ok (.slice (some ⟨w.heap.size,0,none⟩) es'.length cap) (w.drew.alloc (.cells cells e))∧es'.length≤cap∧es'.flatten.length≤cells.size∧
       (∀ q c,es'.flatten[q]?=some c→CR I w (cells.getD q undef) c)∧(∀ u∈cells,u.oneCell'=true):=by
      intro olds cap0 xA BW ho1 bA
      have fA:=grownCap_ge w (es.length+ys.length) cap0 e
      refine⟨e,sz,es++ys,_,_,h,by rw[ax];exact bA,by rw[ax];exact fA,?_,fun q c hq=>?_,fun u hu=>?_⟩
      ·rw[hfa,ax]
       simp only[Array.size_append,er,xA,uE,← cU]
       omega
      ·rw[flat_eq] at hq
       have lR:∃ u,(olds++news)[q]?=some u∧CR I w u c:=by
        by_cases pa:q<es.flatten.length
        ·rw[aG pa] at hq
         obtain⟨u,hu,jm⟩:=BW q c hq
         exact⟨u,by rw[aG (by omega)];exact hu,jm⟩
        ·rw[aK (by omega)] at hq
         obtain⟨u,hu,jm⟩:=Jb _ c hq
         refine⟨u,?_,jm⟩
         rw[aK (by omega),← hu]
         congr 1;omega
       obtain⟨u,hu,jm⟩:=lR
       rw[kM olds news _ q u hu];exact jm
      ·simp only[Array.mem_append,fQ] at hu
       rcases hu with(hu | hu) | hu
       ·exact ho1 u hu
       ·exact Ls u hu
       ·exact zone u (uU hu)
     rcases Vu with⟨hob0,_,xa,xz⟩ | ⟨e',blk,cap,cur,sz',Lt,Jm,_⟩
     ·cases xa with
      |none=>
       have Gb:es=[]:=by
        rcases uC.sl_inv with⟨_,h1⟩ | ⟨b,off,cap,_,_,hv,_⟩
        ·exact h1
        ·rw[xz] at hv;cases hv
       subst Gb
       have bA:=run_append_nil (P:=P) w T ty e j' zv h2 jH sh ⟨yb,yoff,none⟩ ys.length yc news (by rw[← eD];exact uE) Vv hm0 (by simp only[aH,ah] at cu;omega) (by rw[← rb];simp only[aH,ah] at hb;omega)
       refine fin [] 0 (by simp) (by simp) (by simp) ?_
       rw[xz]
       simpa using bA
      |some xaddr=>
       rw[xz] at uC
       obtain⟨olds,xA,holds,BW,ho1⟩:=uC.oldsOf pT
       have bA:=run_append_grow (P:=P) w T ty e j' zv h2 jH sh xaddr es.length es.length olds (by rw[← eD];exact xA) holds
        ⟨yb,yoff,none⟩ ys.length yc news (by rw[← eD];exact uE) Vv (by omega) (by omega) (by rw[← rb];exact iq (by omega) hb)
       exact fin olds es.length xA BW ho1 (by rw[xz];exact bA)
     ·cases Jm
    ·exact h.elim
   ·cases me
  ·exact h.elim
 ·exact h.elim
end
section
variable {P:Program} {G:Gl} {tr:List Nat} {n:Nat} {I0:Ft} {M:Mx} {w0:World} {I:Ft} {β:Nat→Option Nat} {ob:Loc→Option Nat} {s:S} {a:Act} {w:World} {o:Oper}
 {next:Act→World→Prop} {Q:Exit→Act→World→Prop} {base:Nat→Prop} {v:Value} {x y:V} {K:V→Prop}
theorem ri (isSlice:Bool) (len cap:Nat) (lo hi:Option Value) (l h:Int) (hl:(lo=none∧l=0)∨∃ k,lo=some (.int k l)) (hh:(hi=none∧h=len)∨∃ k,hi=some (.int k h))
 (h0:0≤l) (h1:l≤h) (h2:h≤len) (hc:len≤cap):(Instr.sliceBounds isSlice len cap lo hi none).run P w=.ok (l.toNat,h.toNat,cap) w:=by
 have eh:(h.toNat:Int)=h:=j0 (by omega)
 unfold Instr.sliceBounds
 have e0:(0:Int)≤h:=by omega
 have e1:h≤(cap:Int):=by omega
 rcases hl with⟨rfl,rfl⟩ | ⟨kl,rfl⟩<;>rcases hh with⟨rfl,rfl⟩ | ⟨kh,rfl⟩<;>
  simp[run_sliceBound,h0,h1,eh,e0,e1]
theorem Gy (isSlice:Bool) (len cap:Nat) (lo hi:Option Value) (l h:Int) (km:IntKind) (hl:(lo=none∧l=0)∨∃ k,lo=some (.int k l)) (hh:∃ k,hi=some (.int k h))
 (h0:0≤l) (h1:l≤h) (h2:h≤cap):(Instr.sliceBounds isSlice len cap lo hi (some (.int km h))).run P w=.ok (l.toNat,h.toNat,h.toNat) w:=by
 have eh:(h.toNat:Int)=h:=j0 (by omega)
 unfold Instr.sliceBounds
 have e0:(0:Int)≤h:=by omega
 rcases hl with⟨rfl,rfl⟩ | ⟨kl,rfl⟩<;>obtain⟨kh,rfl⟩:=hh<;>simp[run_sliceBound,h0,h1,h2,eh,e0]
theorem yL (len cap:Nat) (lo hi:Option Value) (l h:Int) (hl:(lo=none∧l=0)∨∃ k,lo=some (.int k l)) (hh:(hi=none∧h=len)∨∃ k,hi=some (.int k h))
 (h0:0≤l) (h1:l≤h) (h2:h≤cap):(Instr.sliceBounds true len cap lo hi none).run P w=.ok (l.toNat,h.toNat,cap) w:=by
 have eh:(h.toNat:Int)=h:=j0 (by omega)
 unfold Instr.sliceBounds
 have e0:(0:Int)≤h:=by omega
 rcases hl with⟨rfl,rfl⟩ | ⟨kl,rfl⟩<;>rcases hh with⟨rfl,rfl⟩ | ⟨kh,rfl⟩<;>
  simp[run_sliceBound,h0,h1,h2,eh,e0]
theorem yM (len cap:Nat) (lo hi:Option Value) (l h m:Int) (km:IntKind) (hl:(lo=none∧l=0)∨∃ k,lo=some (.int k l)) (hh:∃ k,hi=some (.int k h))
 (h0:0≤l) (h1:l≤h) (h2:h≤m) (h3:m≤cap):(Instr.sliceBounds true len cap lo hi (some (.int km m))).run P w=.ok (l.toNat,h.toNat,m.toNat) w:=by
 have eh:(h.toNat:Int)=h:=j0 (by omega)
 have em:(m.toNat:Int)=m:=j0 (by omega)
 unfold Instr.sliceBounds
 have e0:(0:Int)≤h:=by omega
 have e2:(0:Int)≤m:=by omega
 rcases hl with⟨rfl,rfl⟩ | ⟨kl,rfl⟩<;>obtain⟨kh,rfl⟩:=hh<;>
  simp[run_sliceBound,h0,h1,h2,h3,eh,em,e0,e2]
theorem kV (hst:St G n I0 M w0 I β ob s a w) {d:Int} {lo:Option Operand} {l:Int} (h:gX d (lo.map (ev G s))=some l):(lo.map a.eval=none∧l=d)∨∃ k,lo.map a.eval=some (.int k l):=by
 cases lo with
 |none=>simp[gX] at h;exact .inl ⟨rfl,h.symm⟩
 |some x=>
  have hx:=bF hst x
  simp only[bO,gX] at h
  split at h
  ·cases ‹some _=none›
  ·rename_i k m he
   simp only[ao] at he h
   subst h
   rw[he] at hx
   exact .inr ⟨k,by rw[bO,hx.lit]⟩
  ·cases h
theorem pf {sz:Nat}:∀ (m:Nat) (cs:List C) (i:Nat),i<m→(l0 sz m cs)[i]?=some ((cs.drop (i*sz)).take sz)
 |0,_,i,h=>by omega
 |m+1,cs,0,_=>by simp[l0]
 |m+1,cs,i+1,h=>by
  simp only[l0,cK]
  rw[pf m _ i (by omega),fD]
  congr 3
  rw[dJ];omega
theorem qp {sz:Nat}:∀ (m:Nat) (cs:List C),(l0 sz m cs).length=m
 |0,_=>rfl
 |m+1,cs=>by simp[l0,qp m]
theorem Eh (hst:St G n I0 M w0 I β ob s a w) {i off len cap sz:Nat} {c:C} {v:Value} (h:mh s i off len sz=some c)
 (hx:len≤cap∧∃ blk off' cap',cap≤cap'∧β i=some blk∧(cap'=0∨off'=off)∧v=.slice (some ⟨blk,off',none⟩) len cap') :
 ∃ (es:List (List C)) (blk off' cap':Nat) (f:Nat→Nat→Value),c=.sl es∧v=.slice (some ⟨blk,off',none⟩) es.length cap'∧es.length≤cap'∧β i=some blk∧(∀ e∈es,e.length=sz)∧
  (∀ p q,p<es.length→q<sz→w.cell? ⟨blk,off'+p*sz+q,none⟩=some (f p q))∧(∀ p q e c,es[p]?=some e→e[q]?=some c→CR I w (f p q) c):=by
 unfold mh at h
 split at h
 ·rename_i cs iR
  split at h
  ·rename_i rR
   simp only[ao] at h
   obtain⟨jW,blk,off',cap',zY,e1,m0,rfl⟩:=hx
   unfold zh at iR
   split at iR
   ·rename_i hi
    obtain⟨ra,cur,q1,q2,q3,q4,q5,q7⟩:=hst.bx i hi
    obtain⟨T,q3,q6⟩:=q3.cells (yH iR)
    rw[e1] at q1;cases q1
    have cu:cs.length=(s.bx i).length:=List.mapM_eq_some_length iR
    have hl:=qp (sz:=sz) len (cs.drop off)
    refine⟨_,blk,off',cap',fun p q=>cur.getD (off+p*sz+q) undef,h.symm,by rw[hl],by rw[hl];omega,e1,fun e he=>?_,fun p q hp hq=>?_,fun p q e c' he hc=>?_⟩
    ·obtain⟨p,hp,rfl⟩:=ir.1 he
     have:=pf (sz:=sz) len (cs.drop off) p (by omega)
     rw[aj hp] at this
     simp only[ao] at this
     rw[this]
     have hm':(p+1)*sz≤len*sz:=aS _ (by omega)
     rw[dJ] at hm'
     simp;omega
    ·rw[hl] at hp
     have hm':(p+1)*sz≤len*sz:=aS _ (by omega)
     rw[dJ] at hm'
     have:off'=off:=by rcases m0 with h0 | h0;omega;exact h0
     subst this
     have bB:off'+p*sz+q<cur.size:=by omega
     rw[fk w blk _ cur T.t T.fz q3]
     simp[aA bB]
    ·have hp:p<len:=by have:=(ak.1 he).1;omega
     rw[pf len _ p hp] at he
     simp only[ao] at he
     subst he
     rw[cC] at hc
     split at hc
     ·rw[ci,ci] at hc
      obtain⟨vv,sA,Z5⟩:=List.mapM_eq_some_get iR _ c' hc
      have im:=q5 (off+(p*sz+q))
      have:(s.bx i).getD (off+(p*sz+q)) .un=vv:=by simp[List.getD,sA]
      rw[this,← dn] at im
      cases vv<;>simp only[V.asC] at Z5<;>try cases Z5
      ·exact im.toC
      ·exact im.1
     ·cases hc
   ·cases iR
  ·cases h
 ·cases h
theorem V5 (hst:St G n I0 M w0 I β ob s a w) {i off len cap sz:Nat} {c:C} {v:Value} (h:mh s i off len sz=some c)
 (hx:len≤cap∧∃ blk off' cap',cap≤cap'∧β i=some blk∧(cap'=0∨off'=off)∧v=.slice (some ⟨blk,off',none⟩) len cap'):∃ es,c=.sl es∧RD I w v es:=by
 obtain⟨es,blk,off',cap',f,rfl,rfl,h2,h3,h4,h5,h6⟩:=Eh hst h hx
 exact⟨es,rfl,.inr ⟨blk,off',cap',sz,f,rfl,h2,h4,h5,h6⟩⟩
theorem Ei (hst:St G n I0 M w0 I β ob s a w) {i off len cap sz:Nat} {c:C} {v:Value} (h:mh s i off len sz=some c)
 (hx:len≤cap∧∃ blk off' cap',cap≤cap'∧β i=some blk∧(cap'=0∨off'=off)∧v=.slice (some ⟨blk,off',none⟩) len cap') {Ic:Ft} (sj:∀ b o,I b o→Ic b o) (hb:∀ b o,β i=some b→Ic b o):CR Ic w v c:=by
 obtain⟨es,blk,off',cap',f,rfl,rfl,h2,h3,h4,h5,h6⟩:=Eh hst h hx
 exact .sl blk off' cap' sz es f h2 h4 (fun p q hp hq=>⟨h5 p q hp hq,hb blk _ h3⟩) (fun p q e c he hc=>(h6 p q e c he hc).mono fun b o h=>⟨sj b o h,rfl⟩)
theorem Ej {T:TypeId} {lo hi mx:Option Operand} {vx:Value} {ox:Option Nat} (hst:St G n I0 M w0 I β ob s a w) (h:gY P T x (lo.map (ev G s)) (hi.map (ev G s)) (mx.map (ev G s)) K) (hx:LR (Wr M w0) I β w ox vx x) :
 ∃ z u,K z∧LR (Wr M w0) I β w none u z∧(Instr.sliceAt T vx (lo.map a.eval) (hi.map a.eval) (mx.map a.eval)).run P w=.ok u w:=by
 unfold gY at h
 split at h
 ·rename_i st rS
  obtain⟨j,d,h1,h2,h3,_⟩:=bw rS
  have hd:=nL h3
  subst hd
  rw[hx.lit]
  split at h
  ·rename_i l hh hl Lu hm
   obtain⟨⟨h0,P8,Ql⟩,h⟩:=h
   have hmx:mx.map a.eval=none:=by cases mx<;>simp_all
   refine⟨_,_,h,.ofLit rfl,?_⟩
   unfold Instr.sliceAt
   simp only[aJ,aT h2,aw]
   unfold Instr.slice
   simp only[aJ,aT h2,aw,hmx]
   simp[ri (P:=P) (w:=w) false st.size st.size _ _ l hh (kV hst hl) (kV hst Lu) h0 P8 Ql (ae _)]
  ·exact h.elim
 ·rename_i e _ _ _ _ _ _ es rS
  obtain⟨j,d,h1,h2,h3,_⟩:=bw rS
  have hd:=dq h3
  subst hd
  have jm:=hx.toC
  split at h
  ·rename_i hm
   split at h
   case h_2=>exact h.elim
   rename_i ie l hh sg hl Lu
   obtain⟨j',d',jH,ot,_,eD,_⟩:=bw sg
   obtain⟨⟨h0,P8,Ql,hs⟩,h⟩:=h
   have hmx:mx.map a.eval=none:=by cases mx<;>simp_all
   have hb:=fun cap hc=>ri (P:=P) (w:=w) true es.length cap _ _ l hh (kV hst hl) (kV hst Lu) h0 P8 Ql hc
   have gP:=eR (P:=P) w jH
   rcases jm.sl_inv with⟨⟨xa,xc,hv,uC⟩,rfl⟩ | ⟨b,off,cap,sz,f,hv,jW,_⟩
   ·simp only[aH] at Ql
    have:l=0∧hh=0:=by omega
    obtain⟨rfl,rfl⟩:=this
    refine⟨_,.slice xa 0 xc,h,.ofC (by simpa using CR.nil xa xc uC),?_⟩
    subst hv
    unfold Instr.sliceAt
    simp only[aJ,aT h2,aw]
    unfold Instr.slice
    simp only[aJ,aT h2,aw,hmx]
    have:=hb xc (by simp)
    simp only[aH] at this
    cases xa with
    |none=>obtain rfl:=uC rfl;simp[this,gP]
    |some xa=>simp[this,gP,Addr.add]
   ·subst hv
    refine⟨_,.slice (some (if cap=l.toNat then⟨b,off,none⟩ else⟨b,off+l.toNat*ie.size,none⟩)) (hh.toNat - l.toNat) (cap - l.toNat),h,.ofC ?_,?_⟩
    ·split
     ·rename_i m9
      have:(es.take hh.toNat).drop l.toNat=([]:List (List C)):=cy (by simp;omega)
      rw[this]
      have e1:hh.toNat - l.toNat=0:=by omega
      have e2:cap - l.toNat=0:=by omega
      rw[e1,e2]
      exact .sl b off 0 0 [] (fun _ _=>undef) (ae _) (by simp) (by simp) (by simp)
     ·exact jm.subslice hs (by omega) (by omega) (by omega)
    ·unfold Instr.sliceAt
     simp only[aJ,aT h2,aw]
     unfold Instr.slice
     simp only[aJ,aT h2,aw,hmx,hb cap jW,gP,bi,eB jH,← eD]
     split<;>simp_all[cV]
  ·rename_i km mm hm
   split at h
   ·rename_i ie l khh hh sg hl Lu
    obtain⟨j',d',jH,ot,_,eD,_⟩:=bw sg
    obtain⟨⟨h0,P8,Ql,rfl,hs⟩,h⟩:=h
    obtain⟨km',hmx⟩:∃ k,mx.map a.eval=some (.int k mm):=by
     rcases mx with _ | X
     ·simp at hm
     ·have hX:=bF hst X
      simp only[bO,ao] at hm
      rw[hm] at hX
      exact⟨km,by rw[bO,hX.lit]⟩
    have YV:∃ k,hi.map a.eval=some (.int k mm):=by
     rcases hi with _ | X
     ·simp at Lu
     ·have hX:=bF hst X
      simp only[bO,ao] at Lu
      rw[Lu] at hX
      exact⟨khh,by rw[bO,hX.lit]⟩
    have hb:=fun cap hc=>Gy (P:=P) (w:=w) true es.length cap _ _ l mm km' (kV hst hl) YV h0 P8 hc
    have gP:=eR (P:=P) w jH
    rcases jm.sl_inv with⟨⟨xa,xc,hv,uC⟩,rfl⟩ | ⟨b,off,cap,sz,f,hv,jW,_⟩
    ·simp only[aH] at Ql
     have:l=0∧mm=0:=by omega
     obtain⟨rfl,rfl⟩:=this
     refine⟨_,.slice xa 0 0,h,⟨by simpa using CR.nil xa 0 (fun _=>rfl),.inl ⟨rfl,rfl,xa,by simp⟩⟩,?_⟩
     subst hv
     unfold Instr.sliceAt
     simp only[aJ,aT h2,aw]
     unfold Instr.slice
     simp only[aJ,aT h2,aw,hmx]
     have:=hb xc (by simp)
     simp only[aH] at this
     cases xa with
     |none=>obtain rfl:=uC rfl;simp[this,gP]
     |some xa=>simp[this,gP,Addr.add]
    ·subst hv
     have cu:((es.take mm.toNat).drop l.toNat).length=mm.toNat - l.toNat:=by simp;omega
     refine⟨_,.slice (some (if mm.toNat=l.toNat then⟨b,off,none⟩ else⟨b,off+l.toNat*ie.size,none⟩)) (mm.toNat - l.toNat) (mm.toNat - l.toNat),h,⟨?_,.inl ⟨rfl,rfl,_,by rw[cu]⟩⟩,?_⟩
     ·split
      ·rename_i m9
       have:(es.take mm.toNat).drop l.toNat=([]:List (List C)):=cy (by simp;omega)
       rw[this]
       have e1:mm.toNat - l.toNat=0:=by omega
       rw[e1]
       exact .sl b off 0 0 [] (fun _ _=>undef) (ae _) (by simp) (by simp) (by simp)
      ·exact jm.subslice hs (by omega) (by omega) (by omega)
     ·unfold Instr.sliceAt
      simp only[aJ,aT h2,aw]
      unfold Instr.slice
      simp only[aJ,aT h2,aw,hmx,hb cap (by omega),gP,bi,eB jH,← eD]
      split<;>simp_all[cV]
   ·exact h.elim
  ·exact h.elim
 ·rename_i e _ _ _ _ _ _ b off len cap sz rS
  obtain⟨j,d,h1,h2,h3,_⟩:=bw rS
  have hd:=dq h3
  subst hd
  split at h
  ·rename_i ie l hh mm sg hl Lu hmm
   obtain⟨j',d',jH,ot,_,eD,_⟩:=bw sg
   obtain⟨⟨dZ,h0,P8,Ql,h03,h04⟩,h⟩:=h
   simp only[LR] at hx
   obtain⟨jW,blk,off',cap',zY,e1,m0,rfl⟩:=hx
   have gP:=eR (P:=P) w jH
   have hb:∃ M:Nat,mm≤(M:Int)∧M≤cap'∧(Instr.sliceBounds true len cap' (lo.map a.eval) (hi.map a.eval) (mx.map a.eval)).run P w=.ok (l.toNat,hh.toNat,M) w:=by
    rcases kV hst hmm with⟨e,rfl⟩ | ⟨km,e⟩
    ·refine⟨cap',by omega,ae _,?_⟩
     rw[e]
     have:=yL (P:=P) (w:=w) len cap' _ _ l hh (kV hst hl) (kV hst Lu) h0 P8 (by omega)
     simpa using this
    ·refine⟨mm.toNat,by omega,by omega,?_⟩
     rw[e]
     have YV:∃ k,hi.map a.eval=some (.int k hh):=by
      rcases kV hst Lu with⟨e5,_⟩ | h5
      ·cases mx with
       |none=>cases e
       |some X=>have:=h04 rfl;cases hi<;>simp_all
      ·exact h5
     exact yM (P:=P) (w:=w) len cap' _ _ l hh mm km (kV hst hl) YV h0 P8 Ql (by omega)
   obtain⟨M,hM1,hM2,hb⟩:=hb
   refine⟨_,.slice (some (if M=l.toNat then⟨blk,off',none⟩ else⟨blk,off'+l.toNat*ie.size,none⟩)) (hh.toNat - l.toNat) (M - l.toNat),h,?_,?_⟩
   ·simp only[LR]
    split
    ·exact⟨by omega,blk,off',M - l.toNat,by omega,e1,.inl (by omega),rfl⟩
    ·have:off'=off:=by rcases m0 with h4 | h4;omega;exact h4
     exact⟨by omega,blk,_,M - l.toNat,by omega,e1,.inr (by rw[this,dZ]),rfl⟩
   ·unfold Instr.sliceAt
    simp only[aJ,aT h2,aw]
    unfold Instr.slice
    simp only[aJ,aT h2,aw,hb,gP,bi,eB jH,← eD]
    split<;>simp_all[cV]
  ·exact h.elim
 ·rename_i e _ _ _ _ _ _ blk off len cap rS
  obtain⟨j,d,h1,h2,h3,_⟩:=bw rS
  have hd:=dq h3
  subst hd
  split at h
  ·rename_i ie l hh mm sg hl Lu hmm
   obtain⟨j',d',jH,ot,_,eD,_⟩:=bw sg
   obtain⟨⟨h0,P8,Ql,h03,h04⟩,h⟩:=h
   obtain rfl:=hx.toC.ex_inv
   have gP:=eR (P:=P) w jH
   have hb:(Instr.sliceBounds true len cap (lo.map a.eval) (hi.map a.eval) (mx.map a.eval)).run P w=.ok (l.toNat,hh.toNat,mm.toNat) w:=by
    rcases kV hst hmm with⟨e,rfl⟩ | ⟨km,e⟩
    ·rw[e]
     have:=yL (P:=P) (w:=w) len cap _ _ l hh (kV hst hl) (kV hst Lu) h0 P8 (by omega)
     simpa using this
    ·rw[e]
     have YV:∃ k,hi.map a.eval=some (.int k hh):=by
      rcases kV hst Lu with⟨e5,_⟩ | h5
      ·cases mx with
       |none=>cases e
       |some X=>have:=h04 rfl;cases hi<;>simp_all
      ·exact h5
     exact yM (P:=P) (w:=w) len cap _ _ l hh mm km (kV hst hl) YV h0 P8 Ql (by omega)
   refine⟨_,_,h,.ofC (.ex _ rfl rfl),?_⟩
   unfold Instr.sliceAt
   simp only[aJ,aT h2,aw]
   unfold Instr.slice
   simp only[aJ,aT h2,aw,hb,gP,bi,eB jH,← eD]
   split<;>simp_all[cV]
  ·exact h.elim
 ·rename_i m e _ _ _ _ _ _ cs k rS
  obtain⟨j,d,h1,h2,h3,_⟩:=bw rS
  have hd:=nM h3
  subst hd
  obtain⟨b,off,f,rfl,eo,pM⟩:=hx.toC.rp_inv
  split at h
  ·rename_i ie sg hl hh hm
   obtain⟨j',d',jH,ot,_,eD,_⟩:=bw sg
   obtain⟨fy,h⟩:=h
   have e1:lo.map a.eval=none:=by cases lo<;>simp_all
   have e2:hi.map a.eval=none:=by cases hi<;>simp_all
   have e3:mx.map a.eval=none:=by cases mx<;>simp_all
   have gP:=eR (P:=P) w jH
   refine⟨_,.slice (some ⟨b,off+k,none⟩) m m,h,.ofC ?_,?_⟩
   ·have m9:=qp (sz:=ie.size) m (cs.drop k)
    have ac5:∀ i q,i<m→q<ie.size→k+i*ie.size+q<cs.length:=fun i q hi hq=>by
     have:(i+1)*ie.size≤m*ie.size:=aS _ hi
     rw[dJ] at this;omega
    have jS:∀ x∈l0 ie.size m (cs.drop k),x.length=ie.size:=fun x hx=>by
     obtain⟨i,hi,he⟩:=ir.1 hx
     have:=pf (sz:=ie.size) m (cs.drop k) i (by omega)
     rw[aj hi] at this
     simp only[ao] at this
     rw[← he,this]
     have hm':(i+1)*ie.size≤m*ie.size:=aS _ (by omega)
     rw[dJ] at hm'
     simp;omega
    have:=CR.sl (I:=I) (w:=w) b (off+k) m ie.size (l0 ie.size m (cs.drop k)) (fun i q=>f (k+i*ie.size+q)) (by omega) jS
     (fun i q hi hq=>by
      have:=eo (k+i*ie.size+q) (ac5 i q (by omega) hq)
      rw[show off+k+i*ie.size+q=off+(k+i*ie.size+q) by omega]
      exact this)
     (fun i q e c he hc=>by
      have hi:i<m:=by have:=(ak.1 he).1;omega
      rw[pf m _ i hi] at he
      simp only[ao] at he
      subst he
      rw[cC] at hc
      split at hc
      ·rw[ci,ci] at hc
       exact pM _ c (by rw[dn];exact hc)
      ·cases hc)
    rw[m9] at this
    exact this
   ·unfold Instr.sliceAt
    simp only[aJ,aT h2,aw,Instr.sureAddr,bi,e1,e2,e3]
    have:=ri (P:=P) (w:=w) false m m none none 0 m (.inl ⟨rfl,rfl⟩) (.inl ⟨rfl,rfl⟩) (jJ _) (by omega) (jJ _) (ae _)
    simp only[this,aw,gP,aJ,bi]
    simp[cV]
  ·exact h.elim
 ·rename_i m e _ _ _ _ _ _ b k rS
  obtain⟨j,d,h1,h2,h3,_⟩:=bw rS
  have hd:=nM h3
  subst hd
  simp only[LR] at hx
  obtain⟨blk,hβ,rfl⟩:=hx
  split at h
  ·rename_i ie l hh sg hl Lu hm
   obtain⟨j',d',jH,ot,_,eD,_⟩:=bw sg
   obtain⟨⟨h0,P8,Ql⟩,h⟩:=h
   have e3:mx.map a.eval=none:=by cases mx<;>simp_all
   have gP:=eR (P:=P) w jH
   have hb:=ri (P:=P) (w:=w) false m m _ _ l hh (kV hst hl) (kV hst Lu) h0 P8 Ql (ae _)
   refine⟨_,.slice (some (if m=l.toNat then⟨blk,k,none⟩ else⟨blk,k+l.toNat*ie.size,none⟩)) (hh.toNat - l.toNat) (m - l.toNat),h,?_,?_⟩
   ·simp only[LR]
    refine⟨by omega,?_⟩
    split
    ·exact⟨blk,k,_,ae _,hβ,.inl (by omega),rfl⟩
    ·exact⟨blk,_,_,ae _,hβ,.inr rfl,rfl⟩
   ·unfold Instr.sliceAt
    simp only[aJ,aT h2,aw,Instr.sureAddr,bi,e3]
    simp only[hb,aw,gP,aJ,bi,eB jH,← eD]
    split<;>simp_all[cV]
  ·exact h.elim
 ·exact h.elim
theorem JD {T:TypeId} {vx:Value} {ox:Option Nat} (h:Ju P T x K) (hx:LR base I β w ox vx x) :
 ∃ z u,K z∧LR base I β w none u z∧(Instr.arrayAt T vx).run P w=.ok u w:=by
 unfold Ju at h
 split at h
 ·rename_i m e _ _ _ _ _ _ b off len cap sz hi
  obtain⟨j,d,h1,h2,h3,_⟩:=bw hi
  have hd:=nM h3
  subst hd
  split at h
  ·obtain⟨⟨dZ,h0,fy⟩,h⟩:=h
   simp only[LR] at hx
   obtain⟨jW,blk,off',cap',zY,hβ,m0,rfl⟩:=hx
   have:off'=off:=by rcases m0 with h4 | h4;omega;exact h4
   subst this
   refine⟨_,.pointer (some ⟨blk,off',none⟩),h,by simp only[LR];exact⟨blk,hβ,rfl⟩,?_⟩
   unfold Instr.arrayAt
   simp only[aJ,aT h2,aw]
   rw[if_neg (by omega)];rfl
  ·exact h.elim
 ·exact h.elim
end
section
variable {P:Program} {G:Gl} {tr:List Nat} {n:Nat} {I0:Ft} {M:Mx} {w0:World} {I:Ft} {β:Nat→Option Nat} {ob:Loc→Option Nat} {s:S} {a:Act} {w:World} {o:Oper}
 {next:Act→World→Prop} {Q:Exit→Act→World→Prop} {base:Nat→Prop} {v:Value} {x y:V} {K:V→Prop}
theorem wm:∀ (es:List (List C)) (l:List UInt8),v8 es=some l→es.length=l.length∧
 ∃ ns:List Int,ns.length=l.length∧l=ns.map (fun m=>UInt8.ofNat m.toNat)∧∀ (i:Nat) (m:Int),ns[i]?=some m→es[i]?=some [.lit (.int .u8 m)]
 |[],l,h=>by
  simp only[v8,ao] at h
  subst h
  exact⟨rfl,[],rfl,rfl,by simp⟩
 |e::es,l,h=>by
  unfold v8 at h
  split at h
  ·cases ‹_::_=[]›
  ·rename_i m r he
   cases he
   simp only[aY] at h
   obtain⟨l',h1,rfl⟩:=h
   obtain⟨h2,ns,h3,h4,h5⟩:=wm _ _ h1
   refine⟨by simp[h2],m::ns,by simp[h3],by simp[h4],fun i q hq=>?_⟩
   cases i with
   |zero=>simp at hq;subst hq;rfl
   |succ i=>exact h5 i q (by simpa using hq)
  ·cases h
theorem rW:∀ (ns:List Int) (r:ByteArray),ns.foldl (fun r m=>r.push (UInt8.ofNat m.toNat)) r=⟨r.data++(ns.map fun m=>UInt8.ofNat m.toNat).toArray⟩
 |[],r=>by simp
 |m::ns,r=>by
  simp only[iP]
  rw[rW ns]
  simp[ByteArray.push]
theorem Gz {src dst:TypeId} {vx:Value} (hst:St G n I0 M w0 I β ob s a w) (hd:∀ d,o.dst=some d→d<n) (h:oD P src dst x K) (hx:(∃ ox,LR (Wr M w0) I β w ox vx x)∨∃ es,x=.c (.sl es)∧RD I w vx es) :
 ∃ z u w',K z∧(convert src dst vx).run P w=.ok u w'∧SE G n I0 M w0 (s.after tr o z) (a.put o.dst u) w':=by
 unfold oD at h
 split at h
 ·rename_i i k _ _ _ _ _ _ k' m hi rS
  obtain⟨j,d,_,h2,_⟩:=bw hi
  obtain⟨j',d',_,ot,YX,_⟩:=bw rS
  have pL:=wh YX
  subst pL
  obtain⟨ox,hx⟩:∃ ox,LR (Wr M w0) I β w ox vx _:=by
   rcases hx with hx | ⟨es,e,_⟩
   ·exact hx
   ·cases e
  rw[hx.lit]
  refine⟨_,_,w,h,?_,.fin0 hst hd (.ofLit rfl)⟩
  simp[convert,aT h2,aT ot,Conv.intToInt]
 ·rename_i i _ _ _ _ _ _ st hi rS
  obtain⟨j,d,_,h2,_⟩:=bw hi
  obtain⟨j',d',_,ot,YX,_⟩:=bw rS
  have pL:=nL YX
  subst pL
  obtain⟨ox,hx⟩:∃ ox,LR (Wr M w0) I β w ox vx _:=by
   rcases hx with hx | ⟨es,e,_⟩
   ·exact hx
   ·cases e
  rw[hx.lit]
  refine⟨_,_,w,h,?_,.fin0 hst hd (.ofLit rfl)⟩
  simp[convert,aT h2,aT ot]
 ·rename_i _ _ _ _ _ _ e _ _ _ _ _ _ st hi rS
  obtain⟨j,d,_,h2,h3,_⟩:=bw hi
  obtain⟨j',d',_,ot,YX,_⟩:=bw rS
  have pL:=dq YX
  subst pL
  have Vt:=nL h3
  subst Vt
  split at h
  ·rename_i _ _ _ _ _ _ sg
   obtain⟨je,de,_,h2e,h3e,_⟩:=bw sg
   have hde:=wh h3e
   subst hde
   obtain⟨ox,hx⟩:∃ ox,LR (Wr M w0) I β w ox vx _:=by
    rcases hx with hx | ⟨es,e,_⟩
    ·exact hx
    ·cases e
   rw[hx.lit]
   have mf:=(hst.drew).alloc (.cells (bytesRow st (grownCap w st.size 0 e)) e ((bytesRow st (grownCap w st.size 0 e)).size,(bytesRow st (grownCap w st.size 0 e)).size+1))
   have bA:=run_bytes_of_string (P:=P) w src dst e st h2 ot h2e
   refine⟨_,_,_,h,bA,.fin0 mf hd (.ofC ?_)⟩
   have cu:(kq st).length=st.size:=by simp[kq]
   rw[show Value.slice (some ⟨w.heap.size,0,none⟩) st.size (grownCap w st.size 0 e)=.slice (some ⟨w.heap.size,0,none⟩) (kq st).length (grownCap w st.size 0 e) by rw[cu]]
   refine CR.row (sz:=1) (fF w.drew _) (by rw[cu];exact grownCap_ge w _ _ _) (by simp[kq]) (fun q c hq=>?_) (fun q _=>.inr rfl)
   have P7:q<st.size∧c=.lit (.int .u8 (st.data.toList.getD q 0).toNat):=by
    have:=mj (sz:=1) (kq st) (by simp[kq]) q 0 (by omega)
    rw[Nat.mul_one,dR] at this
    rw[this] at hq
    simp only[kq,bb] at hq
    cases hb:st.data.toList[q]? with
    |none=>simp[hb] at hq
    |some b=>
     simp only[hb,bO,fP,bJ,ao] at hq
     have bB:=(ak.1 hb).1
     exact⟨by simpa using bB,by rw[← hq];simp[List.getD,hb]⟩
   obtain⟨pa,rfl⟩:=P7
   have ade:q<st.data.size:=pa
   have dZ:q<(bytesRow st (grownCap w st.size 0 e)).size:=by simp[bytesRow];omega
   refine⟨dZ,?_⟩
   have:(bytesRow st (grownCap w st.size 0 e)).getD q undef=.int .u8 (st.data.toList.getD q 0).toNat:=by
    unfold bytesRow
    rw[ap,dG (by simpa using ade),Array.getElem?_map,aA ade]
    have:st.data.toList.getD q 0=st.data[q]:=by
     rw[aB,aV,aA ade];rfl
    rw[this];rfl
   rw[this]
   exact .lit _ rfl
  ·exact h.elim
 ·rename_i e _ _ _ _ _ _ _ _ _ _ _ _ es hi rS
  obtain⟨j,d,_,h2,h3,_⟩:=bw hi
  obtain⟨j',d',_,ot,YX,_⟩:=bw rS
  have pL:=nL YX
  subst pL
  have Vt:=dq h3
  subst Vt
  split at h
  ·rename_i _ _ _ _ _ _ sg
   obtain⟨je,de,_,h2e,h3e,_⟩:=bw sg
   have hde:=wh h3e
   subst hde
   split at h
   ·rename_i l hl
    obtain⟨cu,ns,uE,rfl,hns⟩:=wm _ _ hl
    have jm:RD I w vx es:=by
     rcases hx with⟨ox,hx⟩ | ⟨es',e,Lx⟩
     ·exact .ofCR hx.toC
     ·cases e;exact Lx
    refine⟨_,_,w,h,?_,.fin0 hst hd (.ofLit rfl)⟩
    rcases jm with⟨⟨xa,xc,hv,uC⟩,rfl⟩ | ⟨b,off,cap,sz,f,hv,jW,hs,eo,pM⟩
    ·subst hv
     have:ns=[]:=cy (by simp at cu;omega)
     subst this
     rw[run_convert_bytes_string w src dst e xa 0 xc h2 h2e ot]
     cases xa<;>rfl
    ·subst hv
     rw[run_convert_bytes_string w src dst e _ _ _ h2 h2e ot,run_bytesToString w ⟨b,off,none⟩ es.length cap ns ?_,rW]
     ·simp
     ·have dh:∀ e∈es,e.length=1:=by
       intro e he
       obtain⟨i,hi⟩:=List.mem_iff_getElem?.1 he
       have bB:=(ak.1 hi).1
       have:ns[i]?=some ns[i]:=aj (by simp at cu;omega)
       rw[hns i _ this] at hi
       cases hi;rfl
      have hfv:∀ i,i<es.length→w.cell? ⟨b,off+i,none⟩=some (.int .u8 (ns.getD i 0)):=by
       intro i hi
       have hn:ns[i]?=some ns[i]:=aj (by simp at cu;omega)
       have he:=hns i _ hn
       have dZ:sz=1:=by rw[← hs _ (bh he)];rfl
       subst dZ
       have h1:=eo i 0 hi (by omega)
       have h2:=pM i 0 _ _ he rfl
       have h3:f i 0=.int .u8 ns[i]:=h2.lit_eq
       rw[Nat.mul_one,dR,h3] at h1
       rw[h1]
       simp[List.getD,hn]
      rw[run_loadCells w ⟨b,off,none⟩ es.length (fun i=>.int .u8 (ns.getD i 0)) (fun i hi=>by rw[cV];exact hfv i hi)]
      congr 2
      apply iF
      intro i
      by_cases hi:i<ns.length
      ·have:i<es.length:=by simp at cu;omega
       simp[hi,this]
      ·have:¬ i<es.length:=by simp at cu;omega
       simp[hi,this]
   ·exact h.elim
  ·exact h.elim
 ·exact h.elim
end
section
variable {P:Program} {G:Gl} {tr:List Nat} {n:Nat} {I0:Ft} {M:Mx} {w0:World} {I:Ft} {β:Nat→Option Nat} {ob:Loc→Option Nat} {s:S} {a:Act} {w:World} {o:Oper}
 {next:Act→World→Prop} {Q:Exit→Act→World→Prop} {base:Nat→Prop} {v:Value} {x y:V} {K:V→Prop}
def ArgsR (I:Ft) (w:World) (vs:List Value) (xs:List V):Prop:=vs.length=xs.length∧∀ (j:Nat) (x:V),xs[j]?=some x→DR I w (vs.getD j undef) x
theorem ArgsR.nil:ArgsR I w [] []:=⟨rfl,by simp⟩
theorem ArgsR.append {vs us:List Value} {xs ys:List V} (h:ArgsR I w vs xs) (h':ArgsR I w us ys):ArgsR I w (vs++us) (xs++ys):=by
 refine⟨by simp[h.1,h'.1],fun j x hx=>?_⟩
 have hl:=h.1
 by_cases hj:j<xs.length
 ·rw[aG hj] at hx
  have:=h.2 j x hx
  rw[aB,aG (by omega)]
  rw[aB] at this
  exact this
 ·rw[aK (by omega)] at hx
  have:=h'.2 _ x hx
  rw[aB,aK (by omega),hl]
  rw[aB] at this
  exact this
theorem LU (hst:St G n I0 M w0 I β ob s a w) {i off blk:Nat} {cs:List C} (h:zh s i=some cs) (hβ:β i=some blk) {Ic:Ft} (sj:∀ b o,I b o→Ic b o) (hb:∀ o,Ic blk o) :
 CR Ic w (.pointer (some ⟨blk,off,none⟩)) (.rp cs off):=by
 unfold zh at h
 split at h
 ·rename_i hi
  obtain⟨ra,cur,e1,e2,e3,e4,e5,e7⟩:=hst.bx i hi
  obtain⟨T,e3,e6⟩:=e3.cells (yH h)
  rw[hβ] at e1
  cases e1
  have cu:cs.length=(s.bx i).length:=List.mapM_eq_some_length h
  have:=CR.rp (I:=Ic) (w:=w) blk 0 off cs (fun j=>cur.getD j undef) (fun j hj=>by
   have hjc:j<cur.size:=by omega
   rw[ah]
   refine⟨?_,hb j⟩
   rw[fk w blk j cur T.t T.fz e3]
   simp[aA hjc]) (fun j c hc=>by
   obtain⟨vv,sA,Z5⟩:=List.mapM_eq_some_get h j c hc
   have im:=e5 j
   have:(s.bx i).getD j .un=vv:=by simp[List.getD,sA]
   rw[this] at im
   cases vv<;>simp only[V.asC] at Z5<;>try cases Z5
   ·exact im.toC.mono fun b o h=>⟨sj b o h,rfl⟩
   ·exact im.1.mono fun b o h=>⟨sj b o h,rfl⟩)
  rw[ah] at this
  exact this
 ·cases h
theorem Ek (hst:St G n I0 M w0 I β ob s a w) {c:C} (hx:PR I β w v x) (h:vj s x=some c) {Ic:Ft} (sj:∀ b o,I b o→Ic b o)
 (hb:x.isBp=true→∀ i b o,β i=some b→Ic b o):CR Ic w v c:=by
 cases x<;>simp only[PR] at hx<;>simp only[vj] at h
 ·cases h;exact hx.mono fun b o h=>⟨sj b o h,rfl⟩
 ·cases h;exact hx.2.1.mono fun b o h=>⟨sj b o h,rfl⟩
 ·obtain⟨blk,e1,rfl⟩:=hx
  simp only[aY] at h
  obtain⟨cs,h1,rfl⟩:=h
  exact LU hst h1 e1 sj (fun o=>hb rfl _ _ o e1)
 ·exact Ei hst h hx sj (fun b o e=>hb rfl _ b o e)
 ·cases h
 ·cases h
 ·cases h
theorem Ag (hst:St G n I0 M w0 I β ob s a w) {ox:Option Nat} (hx:LR base I β w ox v x) (h:imm s x=some y) {Ic:Ft} (sj:∀ b o,I b o→Ic b o)
 (hb:x.boxy=true→∀ i b o,β i=some b→Ic b o):DR Ic w v y:=by
 cases x<;>simp only[imm] at h<;>try cases h
 ·exact .c _ _ (hx.toC.mono fun b o h=>⟨sj b o h,rfl⟩)
 ·obtain⟨vs,rfl,h1,h2⟩:=hx.agg
  exact .agg vs _ h1 fun j c hc=>(h2 j c hc).mono fun b o h=>⟨sj b o h,rfl⟩
 ·exact .c _ _ (hx.1.mono fun b o h=>⟨sj b o h,rfl⟩)
 ·simp only[LR] at hx
  obtain⟨blk,e1,rfl⟩:=hx
  simp only[aY] at h
  obtain⟨cs,h1,rfl⟩:=h
  exact .c _ _ (LU hst h1 e1 sj (fun o=>hb rfl _ _ o e1))
 ·rename_i f fs cs
  simp only[LR] at hx
  obtain⟨vf,vc,rfl,h1,h2,h3,h4⟩:=hx
  split at h
  ·rename_i fs' cs' e1 e2
   cases h
   have l1:=List.mapM_eq_some_length e1
   have l2:=List.mapM_eq_some_length e2
   have hbf:∀ z∈fs,z.isBp=true→∀ i b o,β i=some b→Ic b o:=fun z hz hzb=>
    hb (by simp only[V.boxy,dM,dt];exact .inl ⟨z,hz,hzb⟩)
   have hbc:∀ z∈cs,z.isBp=true→∀ i b o,β i=some b→Ic b o:=fun z hz hzb=>
    hb (by simp only[V.boxy,dM,dt];exact .inr ⟨z,hz,hzb⟩)
   refine .c _ _ (.fn f vf vc fs' cs' (by omega) (by omega) (fun j c hc=>?_) (fun j c hc=>?_))
   ·obtain⟨z,hz,rP⟩:=List.mapM_eq_some_get e1 j c hc
    exact Ek hst (h3 j z hz) rP sj (hbf z (bh hz))
   ·obtain⟨z,hz,rP⟩:=List.mapM_eq_some_get e2 j c hc
    exact Ek hst (h4 j z hz) rP sj (hbc z (bh hz))
  ·cases h
 ·simp only[LR] at hx
  simp only[aY] at h
  obtain⟨c,h1,rfl⟩:=h
  exact .c _ _ (Ei hst h1 hx sj (fun b o e=>hb rfl _ b o e))
 ·rename_i vs
  simp only[LR] at hx
  obtain⟨cells,rfl,h2,h3⟩:=hx
  simp only[aY] at h
  obtain⟨cs,h1,rfl⟩:=h
  refine .agg _ _ (by rw[h2];exact(List.mapM_eq_some_length h1).symm) fun j c hc=>?_
  obtain⟨z,hz,rP⟩:=List.mapM_eq_some_get h1 j c hc
  exact Ek hst (h3 j z hz) rP sj (fun hzb=>hb (by simp only[V.boxy,dt];exact⟨z,bh hz,hzb⟩))
theorem El (hst:St G n I0 M w0 I β ob s a w) {Ic:Ft} (sj:∀ b o,I b o→Ic b o):∀ (l:List Operand) (ys:List V),(l.map (ev G s)).mapM (imm s)=some ys→
 ((l.map (ev G s)).any V.boxy=true→∀ i b o,β i=some b→Ic b o)→ArgsR Ic w (l.map a.eval) ys
 |[],ys,h,_=>by simp at h;subst h;exact .nil
 |x::l,ys,h,hb=>by
  simp only[aO,fE,bind,iG,pure,ao] at h
  obtain⟨y,h1,ys',h2,rfl⟩:=h
  have hd:=Ag hst (bF hst x) h1 sj (fun hx=>hb (by simp[hx]))
  have ih:=El hst sj l ys' h2 (fun hx=>hb (by simp only[aO,List.any_cons,hx,lD]))
  refine⟨by simp[ih.1],fun j z hz=>?_⟩
  cases j with
  |zero=>simp at hz;subst hz;exact hd
  |succ j=>simpa using ih.2 j z (by simpa using hz)
theorem ArgsR.ofC {I':Ft} (vs:Array Value) (cs:List C) (h:vs.size=cs.length) (hc:∀ j c,cs[j]?=some c→CR I' w (vs.getD j undef) c):ArgsR I' w vs.toList (cs.map .c):=by
 refine⟨by simp[h],fun j x hx=>?_⟩
 simp only[bb,aY] at hx
 obtain⟨c,h1,rfl⟩:=hx
 have:=hc j c h1
 rw[aB,aV]
 rw[ap] at this
 exact .c _ _ this
theorem LV (hst:St G n I0 M w0 I β ob s a w) {Ic:Ft} (sj:∀ b o,I b o→Ic b o) (vs:Array Value) (xs ys:List V) (hl:vs.size=xs.length) (h:xs.mapM (imm s)=some ys)
 (hr:∀ j x,xs[j]?=some x→PR I β w (vs.getD j undef) x) (hb:xs.any V.boxy=true→∀ i b o,β i=some b→Ic b o):ArgsR Ic w vs.toList ys:=by
 refine⟨by have:=List.mapM_eq_some_length h;simp;omega,fun j y hy=>?_⟩
 obtain⟨x,hx,hxy⟩:=List.mapM_eq_some_get h j y hy
 have hp:=hr j x hx
 rw[aB,aV,← ap]
 have im:LR (Wr M w0) I β w none (vs.getD j undef) x:=by
  cases x<;>simp only[PR] at hp<;>simp only[LR]
  ·exact .c _ _ hp
  ·exact⟨hp.2.1,.inl ⟨rfl,hp.1,hp.2.2⟩⟩
  ·exact hp
  ·exact hp
  ·exact hp
  ·exact hp
  ·exact hp
 exact Ag hst im hxy sj (fun BU=>hb (by simp only[dt];exact⟨x,bh hx,BU⟩))
theorem LR.flat {r:V} {ob':Option Nat} (hf:r.isFlat=true) (h:LR base I β w ob' v r) {I':Ft} {w':World} {base':Nat→Prop} {β':Nat→Option Nat}:LR base' I' β' w' none v r:=by
 have lits:∀ (cs:List C) (vs:Array Value),cs.all C.isLit=true→(∀ j c,cs[j]?=some c→CR I w (vs.getD j undef) c)→∀ j c,cs[j]?=some c→CR I' w' (vs.getD j undef) c:=by
  intro cs vs hc h j c hj
  have h1:=h j c hj
  have h2:=aU.1 hc c (bh hj)
  cases c<;>simp[C.isLit] at h2
  obtain⟨h3,h4⟩:=h1.lit_inv
  rw[h3];exact .lit _ h4
 cases r with
 |un=>simp only[LR];exact .un _
 |sk=>simp only[LR] at h ⊢;cases h;exact .sk
 |c c=>
  cases c<;>simp only[V.isFlat] at hf<;>try cases hf
  obtain⟨h3,h4⟩:=h.toC.lit_inv
  rw[h3];exact .ofLit h4
 |agg cs=>
  obtain⟨vs,rfl,h1,h2⟩:=h.agg
  simp only[LR];exact .agg vs _ h1 (lits _ vs hf h2)
 |tup ds=>
  simp only[LR] at h ⊢
  cases h with
  |tup vs _ h1 h2=>
   refine .tup vs ds h1 fun j d hj=>?_
   have h3:=h2 j d hj
   have h4:=aU.1 hf d (bh hj)
   cases d with
   |c c=>
    cases c<;>simp only at h4<;>try cases h4
    generalize vs.getD j undef=vv at h3
    cases h3 with
    |c _ _ h5=>
     obtain⟨h6,h7⟩:=h5.lit_inv
     rw[h6];exact .c _ _ (.lit _ h7)
   |agg cs=>
    generalize vs.getD j undef=vv at h3
    cases h3 with
    |agg us _ h5 h6=>exact .agg us _ h5 (lits _ us h4 h6)
   |_=>cases h4
 |ow=>cases hf
 |bp=>cases hf
 |clo=>cases hf
 |ms=>cases hf
 |mag=>cases hf
 |mr=>cases hf
 |mk=>cases hf
 |it=>cases hf
 |gh=>cases hf
 |yl=>cases hf
 |lp=>cases hf
 |hh=>cases hf
 |bm=>cases hf
 |gs=>cases hf
 |gg=>cases hf
theorem LW (hst:St G n I0 M w0 I β ob s a w) (hd:∀ d,o.dst=some d→d<n) {f:FuncId} {vs:List Value} {xs:List V} {r:V} (dC:FnOK P G f xs r) (hr:K r)
 (boxy:Bool) (cD:∀ Ic:Ft,(∀ b o,I b o→Ic b o)→(boxy=true→∀ i b o,β i=some b→Ic b o)→ArgsR Ic w vs xs) (si:boxy=true→r.isFlat=true)
 (bA:(execOp a.eval o).run P w=.ok (.enter f vs.toArray) w)
 (hk:∀ a' w' x,K x→SE G n I0 M w0 (s.after tr o x) a' w'→next a' w'):o.wp P a w next Q:=by
 unfold Oper.wp
 rw[bA]
 simp only[Oper.upon]
 cases boxy with
 |false=>
  obtain⟨h1,h2⟩:=cD I (fun _ _ h=>h) (by simp)
  refine (dC.2 I w vs.toArray hst.ibnd hst.glob (by simpa using h1) (fun j x hx=>by simpa using h2 j x hx)).mono ?_
  rintro e w' ⟨v,I',rfl,hg,Lv,Jp,ob',im,jn⟩
  simp only
  refine hk _ _ r hr ?_
  have bL:=hst.grow hg Lv Jp
  refine .fin bL hd (o':=ob') ?_ fun b hb=>?_
  ·cases r<;>simp only[LR] at im ⊢<;>try exact im
   ·obtain⟨h3,h4⟩:=im
    refine⟨h3,?_⟩
    rcases h4 with h4 | ⟨e,blk,cap,cur,sz,q1,q2,q3,q4,q5⟩
    ·exact .inl h4
    ·exact .inr ⟨e,blk,cap,cur,sz,q1,q2,q3,.inl (cj hst.below.size q4),q5⟩
   ·obtain⟨_,h3,_⟩:=im;cases h3
   rotate_left
   ·obtain⟨_,_,_,_,_,h3,_⟩:=im;cases h3
   ·obtain⟨cs,q1,q2,q3⟩:=im
    exact⟨cs,q1,q2,fun j x hx=>(q3 j x hx).mono (fun b o h=>⟨h,rfl⟩) (by simp)⟩
   ·obtain⟨_,h3,_⟩:=im;cases h3
   ·obtain⟨_,_,_,_,h3,_⟩:=im;cases h3
   ·obtain⟨h3,h4⟩:=im
    refine⟨h3,?_⟩
    rcases h4 with h4 | ⟨e,blk,cap,cur,sz,q1,q2,q3,q4,q5⟩
    ·exact .inl h4
    ·exact .inr ⟨e,blk,cap,cur,sz,q1,q2,q3,.inl (cj hst.below.size q4),q5⟩
   ·obtain⟨_,h3,_⟩:=im;cases h3
   ·obtain⟨tm,q1,q2⟩:=im
    exact⟨tm,q1,fun t x hx=>(q2 t x hx).mono (fun b o h=>⟨h,rfl⟩) (by simp)⟩
   ·obtain⟨h3,e,blk,cap,cur,sz,q1,q2,q3,q4,q5⟩:=im
    exact⟨h3,e,blk,cap,cur,sz,q1,q2,q3,.inl (cj hst.below.size q4),q5⟩
   ·obtain⟨h3,h4⟩:=im
    refine⟨h3,?_⟩
    rcases h4 with h4 | ⟨e,blk,cap,cur,sz,q1,q2,q3,q4,q5⟩
    ·exact .inl h4
    ·exact .inr ⟨e,blk,cap,cur,sz,q1,q2,q3,.inl (cj hst.below.size q4),q5⟩
   ·rcases im with h4 | ⟨e,blk,cap,cur,sz,q1,q2,q3,q4,q5⟩
    ·exact .inl h4
    ·exact .inr ⟨e,blk,cap,cur,sz,q1,q2,q3,.inl (cj hst.below.size q4),q5⟩
   ·obtain⟨_,h3,_⟩:=im;cases h3
   ·obtain⟨vf,vc,q1,q2,q3,q4,q5⟩:=im
    exact⟨vf,vc,q1,q2,q3,fun j x hx=>(q4 j x hx).mono (fun b o h=>⟨h,rfl⟩) (by simp),fun j x hx=>(q5 j x hx).mono (fun b o h=>⟨h,rfl⟩) (by simp)⟩
  ·obtain⟨h3,h4⟩:=jn b hb
   obtain⟨f1,f2⟩:=hst.fresh h3
   exact⟨⟨h4,.inl (cj hst.below.size h3)⟩,f2,fun L hL=>absurd hL (f1 L)⟩
 |true=>
  have n0:∀ i b,β i=some b→b<w.heap.size:=fun i b hi=>by
   by_cases h:i<s.nb
   ·obtain⟨blk,cur,e1,_,e3,_⟩:=hst.bx i h
    rw[hi] at e1;cases e1
    exact e3.lt
   ·rw[hst.bnone i (by omega)] at hi;cases hi
  obtain⟨h1,h2⟩:=cD (fun b o=>I b o∨∃ i,β i=some b) (fun _ _ h=>.inl h) (fun _ i b o hi=>.inr ⟨i,hi⟩)
  refine (dC.2 (fun b o=>I b o∨∃ i,β i=some b) w vs.toArray (fun b o hb=>by
   rcases hb with hb | ⟨i,hi⟩
   ·exact hst.ibnd b o hb
   ·exact n0 i b hi) (fun g cs hg=>(hst.glob g cs hg).mono fun b o h=>⟨.inl h,rfl⟩) (by simpa using h1) (fun j x hx=>by simpa using h2 j x hx)).mono ?_
  rintro e w' ⟨v,I',rfl,hg,Lv,Jp,ob',im,jn⟩
  simp only
  refine hk _ _ r hr ?_
  have bL:=hst.grow hg (fun _ _ h=>h) (fun _ _ h=>.inl h)
  exact .fin0 bL hd (im.flat (si rfl))
theorem lU {f:Operand} {args:Array Operand} {ts:Array TypeId} (ho:o.op=.call { callee:=.value f,args:=args,argTypes:=ts }) {g:FuncId} {vf vc:Array Value} (hf:a.eval f=.func (.func g) vf vc)
 {fn:Func} {c:Code} (h1:P.funcs[g]?=some fn) (h2:(fn.name== "runtime.NumGoroutine")=false) (h3:fn.body=some c) :
 (execOp a.eval o).run P w=.ok (.enter g (vf++args.map a.eval++vc)) w:=by
 unfold execOp
 simp only[ho,resolve,Deferred.ofValue,hf,aJ,bi,aw,invoke]
 have ot:fn.name≠ "runtime.NumGoroutine" :=by simpa using h2
 simp[callFunc,h1,ot,h3]
theorem GA {f:Operand} {args:Array Operand} {ts:Array TypeId} (ho:o.op=.call { callee:=.value f,args:=args,argTypes:=ts }) (hst:St G n I0 M w0 I β ob s a w) (hd:∀ d,o.dst=some d→d<n)
 (h:qF P G s (ev G s f) (args.toList.map (ev G s)) K) (hk:∀ a' w' x,K x→SE G n I0 M w0 (s.after tr o x) a' w'→next a' w'):o.wp P a w next Q:=by
 have hf:=bF hst f
 unfold qF at h
 split at h
 ·rename_i g fs cs he
  rw[he] at hf
  split at h
  ·rename_i as has
   obtain⟨r,dC,si,hr⟩:=h
   obtain⟨vf,vc,hv,q1,q2,q3,q4⟩:=hf.toC.fn_inv
   obtain⟨fn,h1,h2,c,h3⟩:=dC.1
   have bA:=lU (P:=P) (w:=w) ho hv h1 h2 h3
   refine LW hst hd dC hr ((args.toList.map (ev G s)).any V.boxy) (vs:=vf.toList++args.toList.map a.eval++vc.toList) (fun Ic sj hb=>?_) si ?_ hk
   ·exact((ArgsR.ofC vf fs q1 fun j c hc=>(q3 j c hc).mono fun b o h=>⟨sj b o h,rfl⟩).append (El hst sj _ as has hb)).append
     (ArgsR.ofC vc cs q2 fun j c hc=>(q4 j c hc).mono fun b o h=>⟨sj b o h,rfl⟩)
   ·rw[bA];congr 2;apply cT;simp
  ·exact h.elim
 ·rename_i g fs cs he
  rw[he] at hf
  simp only[LR] at hf
  obtain⟨vf,vc,hv,q1,q2,q3,q4⟩:=hf
  split at h
  ·rename_i fs' as cs' e1 e2 e3
   obtain⟨r,dC,si,hr⟩:=h
   obtain⟨fn,h1,h2,c,h3⟩:=dC.1
   have bA:=lU (P:=P) (w:=w) ho hv h1 h2 h3
   refine LW hst hd dC hr ((fs++args.toList.map (ev G s)++cs).any V.boxy) (vs:=vf.toList++args.toList.map a.eval++vc.toList) (fun Ic sj hb=>?_) si ?_ hk
   ·exact((LV hst sj vf fs fs' q1 e1 q3 fun hx=>hb (by simp only[List.any_append,hx,lC])).append
     (El hst sj _ as e2 fun hx=>hb (by simp only[List.any_append,hx,lC,lD]))).append
     (LV hst sj vc cs cs' q2 e3 q4 fun hx=>hb (by simp only[List.any_append,hx,lD]))
   ·rw[bA];congr 2;apply cT;simp
  ·exact h.elim
 ·exact h.elim
theorem Ah {mx:Bool} {args:Array Operand} (hst:St G n I0 M w0 I β ob s a w) (h:Jw mx (args.toList.map (ev G s)) K) :
 ∃ u,flat u=true∧K (.c (.lit u))∧(if mx then Builtin.max_ #[] 0 (args.map a.eval) else Builtin.min_ #[] 0 (args.map a.eval)).run P w=.ok u w:=by
 unfold Jw at h
 split at h
 ·rename_i k p k' q cD
  obtain⟨X,l,hX,hXv,hl⟩:∃ X l,args.toList=X::l∧ev G s X=.c (.lit (.int k p))∧l.map (ev G s)=[.c (.lit (.int k' q))]:=by
   cases ha:args.toList with
   |nil=>simp[ha] at cD
   |cons X l=>simp only[ha,aO,bP] at cD;exact⟨X,l,rfl,cD.1,cD.2⟩
  obtain⟨Y,rfl,hYv⟩:∃ Y,l=[Y]∧ev G s Y=.c (.lit (.int k' q)):=by
   cases l with
   |nil=>simp at hl
   |cons Y l'=>simp only[aO,bP,eb] at hl;exact⟨Y,by rw[hl.2],hl.1⟩
  have e1:a.eval X=.int k p:=by have:=bF hst X;rw[hXv] at this;exact this.lit
  have e2:a.eval Y=.int k' q:=by have:=bF hst Y;rw[hYv] at this;exact this.lit
  refine⟨_,rfl,h,?_⟩
  cases mx
  ·simp[Builtin.min_,hX,e1,e2,Builtin.min2]
  ·simp[Builtin.max_,hX,e1,e2,Builtin.max2]
 ·exact h.elim
end
section
variable {P:Program} {I:Ft} {w:World}
theorem QJ {k:EK} {c d:C} (h:eqC k c d=some true):∃ v,c=.lit v∧d=.lit v∧(∀ m,Instr.sameBits m v v=true):=by
 cases k with
 |int=>
  obtain⟨k,a,b,rfl,rfl,hr⟩:=D8 h
  have:a=b:=by simpa using hr.symm
  subst this
  exact⟨_,rfl,rfl,fun m=>by cases m<;>simp[Instr.sameBits]⟩
 |bool=>
  obtain⟨a,b,rfl,rfl,hr⟩:=Ae h
  have:a=b:=by simpa using hr.symm
  subst this
  exact⟨_,rfl,rfl,fun m=>by cases m<;>simp[Instr.sameBits]⟩
 |str=>
  obtain⟨a,b,rfl,rfl,hr⟩:=D9 h
  have:a=b:=by simpa using hr.symm
  subst this
  exact⟨_,rfl,rfl,fun m=>by cases m<;>simp[Instr.sameBits,xN]⟩
theorem Cw:∀ {ks:List EK} {cs ds:List C},jM ks cs ds=some true→cs.length=ks.length→ds.length=ks.length→
 cs=ds∧∀ c∈cs,∃ v,c=.lit v∧∀ m,Instr.sameBits m v v=true
 |[],cs,ds,_,h1,h2=>by simp at h1 h2;subst h1;subst h2;simp
 |k::ks,[],ds,h,h1,h2=>by simp at h1
 |k::ks,c::cs,[],h,h1,h2=>by simp at h2
 |k::ks,c::cs,d::ds,h,h1,h2=>by
  simp only[jM] at h
  split at h
  ·rename_i p q e1 e2
   simp only[ao,aI] at h
   obtain⟨rfl,rfl⟩:=h
   obtain⟨v,rfl,rfl,hv⟩:=QJ e1
   obtain⟨rfl,h4⟩:=Cw e2 (by simpa using h1) (by simpa using h2)
   exact⟨rfl,fun c hc=>by
    rcases bu.1 hc with rfl | hc
    ·exact⟨v,rfl,hv⟩
    ·exact h4 c hc⟩
  ·cases h
theorem JE {xs ys:Array Value} {cs:List C} (hx:Cells I w xs cs) (hy:Cells I w ys cs) (hl:∀ c∈cs,∃ v,c=.lit v∧∀ m,Instr.sameBits m v v=true) :
 xs=ys∧∀ v∈xs.toList,∀ m,Instr.sameBits m v v=true:=by
 have each:∀ j,j<cs.length→∃ v,xs[j]?=some v∧ys[j]?=some v∧∀ m,Instr.sameBits m v v=true:=fun j hj=>by
  obtain⟨v,hv,hs⟩:=hl cs[j] (aF hj)
  have h1:=hx.2 j _ (aj hj)
  have h2:=hy.2 j _ (aj hj)
  rw[hv] at h1 h2
  exact⟨v,LP h1.lit_eq (by rw[hx.1];exact hj),LP h2.lit_eq (by rw[hy.1];exact hj),hs⟩
 refine⟨?_,fun v hv m=>?_⟩
 ·apply jw (by rw[hx.1,hy.1])
  intro j h1 h2
  obtain⟨v,e1,e2,_⟩:=each j (by rw[← hx.1];exact h1)
  rw[aA h1] at e1;rw[aA h2] at e2
  rw[cN e1,cN e2]
 ·obtain⟨j,hj,rfl⟩:=gi hv
  obtain⟨v,e1,_,hs⟩:=each j (by rw[← hx.1];simpa using hj)
  simp only[bN] at hj
  rw[aA hj] at e1
  simp only[Array.getElem_toList]
  rw[cN e1];exact hs m
theorem Em {t:TypeId} {xs:Array Value} (h:∀ v∈xs.toList,∀ m,Instr.sameBits m v v=true) (h1:c9 P t=false→0<xs.size) (m:Nat) :
 Instr.sameBits (m+1) (mkv P t xs) (mkv P t xs)=true:=by
 unfold mkv
 cases hz:c9 P t with
 |false=>
  simp only[aM,dy]
  have:=h1 hz
  simp only[Array.getD,this,dif_pos]
  exact h _ (by simp) _
 |true=>
  simp only[cL]
  have:∀ l:List Value,(∀ v∈l,∀ m,Instr.sameBits m v v=true)→(l.zip l).all (fun(x:Value×Value)=>Instr.sameBits m x.1 x.2)=true:=by
   intro l hl
   rw[aU]
   intro x hx
   have:x.1=x.2∧x.1∈l:=by
    have h2:l.zip l=l.map fun a=>(a,a):=by
     clear hx hl
     induction l with
     |nil=>rfl
     |cons a l ih=>simp[ih]
    rw[h2] at hx
    obtain⟨a,ha,rfl⟩:=br.1 hx
    exact⟨rfl,ha⟩
   rw[← this.1];exact hl _ this.2 m
  simp only[Instr.sameBits,BEq.rfl,Bool.true_and]
  exact this _ h
theorem En {t:TypeId} {xs ys:Array Value} {ks:List EK} {cs ds:List C} (hx:Cells I w xs cs) (hy:Cells I w ys ds) (he:jM ks cs ds=some true) (h1:cs.length=ks.length) (h2:ds.length=ks.length) (hz:c9 P t=false→0<ks.length) :
 mkv P t xs=mkv P t ys∧(Instr.keyThatStays (mkv P t ys) (mkv P t xs)).run P w=.ok (mkv P t xs) w:=by
 obtain⟨rfl,hl⟩:=Cw he h1 h2
 obtain⟨rfl,hs⟩:=JE hx hy hl
 refine⟨rfl,?_⟩
 unfold Instr.keyThatStays
 rw[Em hs (fun h=>by rw[hx.1,h1];exact hz h) 9999]
 simp
theorem Eo (em:Bool):∀ (d:Nat) (t:TypeId) (ks:List EK),eqk P d t=some ks→∀ (n:Nat) (xs:Array Value),xs.size=ks.length→
 (Instr.checkKey em (d+n) t (mkv P t xs)).run P w=.ok () w:=by
 intro d
 induction d with
 |zero=>intro t ks h;simp[eqk] at h
 |succ d ih=>
  intro t ks h n xs xt
  rw[show d+1+n=(d+n)+1 by omega]
  unfold eqk at h
  split at h
  ·rename_i k hu
   rw[Instr.checkKey];simp[aT hu,Result.andThen]
  ·rename_i hu
   rw[Instr.checkKey];simp[aT hu,Result.andThen]
  ·rename_i hu
   rw[Instr.checkKey];simp[aT hu,Result.andThen]
  ·rename_i fs hu
   split at h
   ·cases h
   ·have lH:c9 P t=true:=by simp[c9,hu]
    simp only[mkv,lH,cL]
    rw[Instr.checkKey]
    simp only[aJ,aT hu,aw]
    rw[← Array.forIn_toList]
    have hh:∃ acc,BX P (eqk P d) fs.toList acc=some ks:=⟨[],h⟩
    clear h
    generalize fs.toList=l at hh
    induction l with
    |nil=>simp
    |cons f l ihl=>
     obtain⟨acc,h⟩:=hh
     simp only[BX] at h
     split at h
     ·rename_i k1 Lr
      split at h
      ·rename_i hc
       obtain⟨hn,m0,cu⟩:=hc
       obtain⟨rest,DY⟩:=xO (P:=P) _ _ _ _ h
       have dZ:acc.length+k1.length≤ks.length:=by rw[DY];simp
       obtain⟨u,hfu⟩:=oZ Lr
       have jk:c9 P f.type=false→P.cellsOf f.type=1:=fun hz=>by rw[← cu];exact t8 Lr hz
       have hpx:=qH (w:=w) f.type u hfu xs f.offset (by rw[m0,← cu,xt];exact dZ) jk
       have p2:=ih f.type k1 Lr n (xs.extract f.offset (f.offset+P.cellsOf f.type)) (by simp;omega)
       simp only[List.forIn_cons,aJ,hn,ne_eq,not_false_eq_true,cL,hpx,aw,p2,bi]
       exact ihl ⟨_,h⟩
      ·cases h
     ·cases h
  ·rename_i m e hu
   split at h
   ·rename_i k1 Lr
    split at h
    ·rename_i cu
     simp only[ao] at h
     have lH:c9 P t=true:=by simp[c9,hu]
     obtain⟨u,heu⟩:=oZ Lr
     obtain⟨i,hi⟩:=gJ heu
     simp only[mkv,lH,cL]
     rw[Instr.checkKey]
     simp only[aJ,aT hu,aw]
     simp only[Std.Legacy.Range.forIn_eq_forIn_range',Std.Legacy.Range.size,lF,Nat.add_one_sub_one,Nat.div_one]
     have ac2:ks.length=m*k1.length:=by rw[← h];simp
     have jk:c9 P e=false→P.cellsOf e=1:=fun hz=>by rw[← cu];exact t8 Lr hz
     have eJ:∀ j∈List.range' 0 m,j<m:=fun j hj=>by simp at hj;exact hj
     generalize List.range' 0 m=is at eJ
     induction is with
     |nil=>simp
     |cons j is ihs=>
      have hj:=eJ j (by simp)
      have dZ:j*k1.length+k1.length≤ks.length:=by
       rw[ac2,← dJ];exact aS _ (by omega)
      have hpx:=qH (w:=w) e u heu xs (j*P.cellsOf e) (by rw[← cu,xt];exact dZ) jk
      have p2:=ih e k1 Lr n (xs.extract (j*P.cellsOf e) (j*P.cellsOf e+P.cellsOf e)) (by simp;rw[← cu];omega)
      simp only[List.forIn_cons,aJ,eR w hi,aw,hpx,p2,bi]
      exact ihs (fun y hy=>eJ y (by simp[hy]))
    ·cases h
   ·cases h
  ·cases h
theorem GB {t:TypeId} {u:TypeDesc} {d:Nat} {ks:List EK} (hu:P.underlying t=some u) (hk:eqk P (d+1) t=some ks) (hz:c9 P t=false) {xs ys:Array Value} {cs ds:List C} {r:Bool} (hx:Cells I w xs cs) (hy:Cells I w ys ds)
 (h1:cs.length=ks.length) (h2:ds.length=ks.length) (he:jM ks cs ds=some r):Instr.sameNow u (mkv P t xs) (mkv P t ys)=some r:=by
 have hl:=t8 hk hz
 obtain⟨k,rfl⟩:=eS.1 hl
 obtain⟨c,rfl⟩:=eS.1 (h1.trans hl)
 obtain⟨e,rfl⟩:=eS.1 (h2.trans hl)
 have hr:eqC k c e=some r:=by
  simp only[jM] at he
  split at he
  ·rename_i p q e1 e2
   simp only[ao] at e2 he
   subst e2;rw[e1];simpa using he
  ·cases he
 have hcx:CR I w (mkv P t xs) c:=by simp only[mkv,hz];exact hx.2 0 c rfl
 have Vp:CR I w (mkv P t ys) e:=by simp only[mkv,hz];exact hy.2 0 e rfl
 unfold eqk at hk
 split at hk
 ·rename_i q Cp
  rw[hu] at Cp;cases Cp
  simp only[ao,bP,ga] at hk
  subst hk
  obtain⟨kk,a,b,rfl,rfl,rfl⟩:=D8 hr
  rw[hcx.lit_eq,Vp.lit_eq]
  simp[Instr.sameNow,Bool.beq_eq_decide_eq]
 ·rename_i Cp
  rw[hu] at Cp;cases Cp
  simp only[ao,bP,ga] at hk
  subst hk
  obtain⟨a,b,rfl,rfl,rfl⟩:=Ae hr
  rw[hcx.lit_eq,Vp.lit_eq]
  simp[Instr.sameNow]
 ·rename_i Cp
  rw[hu] at Cp;cases Cp
  simp only[ao,bP,ga] at hk
  subst hk
  obtain⟨a,b,rfl,rfl,rfl⟩:=D9 hr
  rw[hcx.lit_eq,Vp.lit_eq]
  simp[Instr.sameNow,xN]
 ·rename_i Cp;simp[c9,Cp] at hz
 ·rename_i Cp;simp[c9,Cp] at hz
 ·cases hk
theorem Cx {t:TypeId} {ks:List EK} (hk:eqk P 8 t=some ks) {xs:Array Value} {cs:List C} (hx:Cells I w xs cs) (h1:cs.length=ks.length) :
 ∀ (es:List MapEntry) (kc:List (List C)) (i:Nat) (r:Option Nat),es.length=kc.length→(∀ (j:Nat) (e:MapEntry) (c:List C),es[j]?=some e→kc[j]?=some c→∃ ys,e.key=mkv P t ys∧Cells I w ys c)→
  nc ks cs kc i=some r→(if c9 P t then(Instr.findAsking t (mkv P t xs) es i).run P w=.ok (r.map fun j=>(j,((es[j - i]?).map (·.val)).getD undef)) w
   else Instr.findNow ((P.underlying t).getD .bool) (mkv P t xs) es i=some (r.map fun j=>(j,((es[j - i]?).map (·.val)).getD undef)))∧∀ j,r=some j→i≤j
 |[],[],i,r,_,_,h=>by
  simp only[nc,ao] at h;subst h
  refine⟨?_,by simp⟩
  split<;>simp[Instr.findAsking,Instr.findNow]
 |[],_::_,_,_,h,_,_=>by simp at h
 |_::_,[],_,_,h,_,_=>by simp at h
 |e::es,c::kc,i,r,hl,pT,h=>by
  simp only[nc] at h
  split at h
  ·rename_i h2
   obtain⟨ys,Ge,hy⟩:=pT 0 e c rfl rfl
   obtain⟨u,hu⟩:=oZ hk
   have step:∀ b,jM ks cs c=some b→(c9 P t=true→(Op.equal t (mkv P t xs) e.key).run P w=.ok b w)∧(c9 P t=false→Instr.sameNow u (mkv P t xs) e.key=some b):=fun b hb=>by
    rw[Ge]
    exact⟨fun _=>Ct (w:=w) 8 t ks hk 10000 (by omega) xs ys cs c b hx hy (by rw[hx.1,h1]) (by rw[hy.1,h2]) hb,fun hz=>GB hu hk hz hx hy h1 h2 hb⟩
   split at h
   ·rename_i hb
    simp only[ao] at h;subst h
    obtain⟨s1,s2⟩:=step _ hb
    refine⟨?_,fun j hj=>by cases hj;exact ae _⟩
    split
    ·rename_i hz;simp[Instr.findAsking,s1 hz]
    ·rename_i hz;simp[Instr.findNow,hu,s2 (by simpa using hz)]
   ·rename_i hb
    obtain⟨s1,s2⟩:=step _ hb
    obtain⟨q1,q2⟩:=Cx hk hx h1 es kc (i+1) r (by simpa using hl) (fun j e c h1 h2=>pT (j+1) e c (by simpa using h1) (by simpa using h2)) h
    have eJ:(r.map fun j=>(j,(((e::es)[j - i]?).map (·.val)).getD undef))=r.map fun j=>(j,((es[j - (i+1)]?).map (·.val)).getD undef):=by
     cases r with
     |none=>rfl
     |some j=>
      have:=q2 j rfl
      have e1:j - i=(j - (i+1))+1:=by omega
      simp[e1]
    refine⟨?_,fun j hj=>by have:=q2 j hj;omega⟩
    rw[eJ]
    split
    ·rename_i hz
     rw[if_pos hz] at q1
     simpa[Instr.findAsking,s1 hz] using q1
    ·rename_i hz
     rw[if_neg hz] at q1
     simpa[Instr.findNow,hu,s2 (by simpa using hz)] using q1
   ·cases h
  ·cases h
theorem NI {t:TypeId} {ks:List EK} (hk:eqk P 8 t=some ks) {xs:Array Value} {cs:List C} (hx:Cells I w xs cs) (h1:cs.length=ks.length) {es:List MapEntry} {kc:List (List C)} {r:Option Nat} (hl:es.length=kc.length)
 (pT:∀ (j:Nat) (e:MapEntry) (c:List C),es[j]?=some e→kc[j]?=some c→∃ ys,e.key=mkv P t ys∧Cells I w ys c) (h:nc ks cs kc 0=some r) :
 (Instr.findKey t (mkv P t xs) es).run P w=.ok (r.map fun j=>(j,((es[j]?).map (·.val)).getD undef)) w:=by
 obtain⟨q,_⟩:=Cx hk hx h1 es kc 0 r hl pT h
 obtain⟨u,hu⟩:=oZ hk
 cases hz:c9 P t with
 |true=>
  rw[if_pos hz] at q
  rw[run_findKey_eq w (by unfold c9 at hz;rw[hu] at hz ⊢;cases u<;>simp_all)]
  simpa using q
 |false=>
  rw[if_neg (by simp[hz])] at q
  simp only[hu,bU] at q
  rw[MapKept.run_findKey hu q];simp
end
section
variable {P:Program} {G:Gl} {tr:List Nat} {n:Nat} {I0:Ft} {M:Mx} {w0:World} {I:Ft} {β:Nat→Option Nat} {ob:Loc→Option Nat} {s:S} {a:Act} {w:World} {o:Oper}
 {next:Act→World→Prop} {Q:Exit→Act→World→Prop} {base:Nat→Prop} {v:Value} {x y:V} {K:V→Prop}
theorem Ai {d:TypeDesc} {k e:TypeId} (h:Vl.K.map k e=uH d):d=.map k e:=by cases d<;>simp_all[uH]
theorem Aj {ag:Bool}:∀ {r:List V} {kcs:List (List C)},jN ag r=some kcs→r.length=2*kcs.length∧∀ (j:Nat) (c:List C),kcs[j]?=some c→(r.getD (2*j) .un).kcs ag=some c
 |[],kcs,h=>by simp only[jN,ao] at h;subst h;exact⟨rfl,by simp⟩
 |[_],kcs,h=>by simp[jN] at h
 |k::v::r,kcs,h=>by
  simp only[jN] at h
  split at h
  ·rename_i q l h1 h2
   simp only[ao] at h;subst h
   obtain⟨h3,h4⟩:=Aj h2
   refine⟨by simp[h3];omega,fun j c hc=>?_⟩
   cases j with
   |zero=>simp at hc;subst hc;exact h1
   |succ j=>
    rw[show 2*(j+1)=2*j+1+1 by omega]
    simp only[dQ]
    exact h4 j c (by simpa using hc)
  ·cases h
theorem Ak {ks:List EK} {k:List C}:∀ {kcs:List (List C)} {i j:Nat},nc ks k kcs i=some (some j)→∃ q c,j=i+q∧kcs[q]?=some c∧c.length=ks.length∧jM ks k c=some true
 |[],i,j,h=>by simp[nc] at h
 |c::r,i,j,h=>by
  simp only[nc] at h
  split at h
  ·rename_i hl
   split at h
   ·rename_i he
    simp only[ao] at h;subst h
    exact⟨0,c,rfl,rfl,hl,he⟩
   ·obtain⟨q,c',rfl,h2,h3,h4⟩:=Ak h
    exact⟨q+1,c',by omega,by simpa using h2,h3,h4⟩
   ·cases h
  ·cases h
theorem rj:∀ (es:List MapEntry) (j:Nat) (e:MapEntry),es[j]?=some e→(kU es)[2*j]?=some e.key∧(kU es)[2*j+1]?=some e.val
 |[],j,e,h=>by simp at h
 |x::es,0,e,h=>by simp at h;subst h;exact⟨rfl,rfl⟩
 |x::es,j+1,e,h=>by
  obtain⟨h1,h2⟩:=rj es j e (by simpa using h)
  rw[show 2*(j+1)=2*j+1+1 by omega]
  simp only[kU,cK]
  exact⟨h1,h2⟩
theorem wn:∀ es:List MapEntry,(kU es).length=2*es.length
 |[]=>rfl
 |x::es=>by simp[kU,wn es];omega
theorem QK {ag:Bool} {kt:TypeId} (lH:ag=c9 P kt) {ox:Option Nat} (h:LR base I β w ox v x) {c:List C} (hc:x.kcs ag=some c):∃ ys,v=mkv P kt ys∧Cells I w ys c:=by
 cases x<;>simp only[V.kcs] at hc<;>try cases hc
 ·split at hc
  ·cases hc
  ·rename_i hf
   simp only[ao] at hc;subst hc
   have hz:c9 P kt=false:=by rw[← lH];simpa using hf
   refine⟨#[v],by simp[mkv,hz],rfl,fun j c hc=>?_⟩
   cases j with
   |zero=>simp at hc;subst hc;exact h.toC
   |succ j=>simp at hc
 ·split at hc
  ·rename_i ht
   simp only[ao] at hc;subst hc
   have hz:c9 P kt=true:=by rw[← lH];exact ht
   obtain⟨vs,rfl,h1,h2⟩:=h.agg
   exact⟨vs,by simp[mkv,hz],h1,h2⟩
  ·cases hc
theorem yN {ox:Option Nat} (h:LR base I β w ox v x):DR I w v x.dr:=by
 cases x<;>simp only[V.dr]<;>first | exact .un _ | skip
 ·exact .c _ _ h.toC
 ·simp only[LR] at h;exact h
 ·exact .c _ _ h.1
theorem NJ {et:TypeId} {e:TI} {z:V} (hi:ti P et=some e) (hz:qo e=some z) (ha:zaB P et=true):∃ zv,(zeroValue et).run P w=.ok zv w∧∀ (base:Nat→Prop) (β:Nat→Option Nat),LR base I β w none zv z:=by
 obtain⟨j,d,h1,h2,_,_,_,lH,Z7,_⟩:=bw hi
 unfold zaB at ha
 rw[h1] at ha
 simp only at ha
 unfold qo at hz
 cases sh:j.zero with
 |none=>rw[sh] at ha;cases ha
 |some zv=>
  rw[sh] at ha Z7
  refine⟨zv,by simp[zeroValue,typeInfo,h1,sh],fun base β=>?_⟩
  simp only at Z7
  split at hz
  ·rename_i zc' Lq rP
   simp only[ao] at hz;subst hz
   rw[rP] at Z7
   rw[Lq] at lH
   cases zv<;>simp only[← lH,fV,aM] at ha
   rename_i cs
   simp only[LR]
   refine .agg _ _ (by have:=List.mapM_eq_some_length Z7.symm;simpa[Value.cells] using this.symm) fun q c hc=>?_
   obtain⟨u,hu,huc⟩:=List.mapM_eq_some_get Z7.symm q c hc
   have:cs.getD q undef=u:=by
    simp only[Value.cells,aV] at hu
    simp[hu]
   rw[this];exact LS huc
  ·rename_i c F9 rP
   simp only[ao] at hz;subst hz
   rw[rP] at Z7
   rw[F9] at lH
   have hl:=List.mapM_eq_some_length Z7.symm
   obtain⟨u,hu,huc⟩:=List.mapM_eq_some_get Z7.symm 0 c rfl
   have:zv=u:=by
    cases zv<;>simp only[← lH,fC,aM] at ha<;>simpa[Value.cells] using hu
   rw[this];exact .ofC (LS huc)
  ·cases hz
structure QL (P:Program) (I:Ft) (M:Mx) (w0:World) (β:Nat→Option Nat) (ob:Loc→Option Nat) (s:S) (w:World) (i:Nat) (bs:List Nat) (cl:Nat) (r:List V) (blk:Nat) (es:Array MapEntry):Prop where
 lt:i<s.nb
 bx:s.bx i=.mk bs cl::r
 bt:β i=some blk
 wr:Wr M w0 blk
 fr:∀ o,¬ I blk o
 heap:w.heap[blk]?=some (.map es cl)
 born:es.toList.map (·.born)=bs
 len:r.length=2*bs.length
 ent:∀ (j:Nat) (e:MapEntry),es.toList[j]?=some e→LR (Wr M w0) I β w (ob (.b i (2*j+1))) e.key (r.getD (2*j) .un)∧LR (Wr M w0) I β w (ob (.b i (2*j+2))) e.val (r.getD (2*j+1) .un)
theorem St.mapW (hst:St G n I0 M w0 I β ob s a w) {i blk cl:Nat} {bs:List Nat} {r:List V} (hi:i<s.nb) (hb:s.bx i=.mk bs cl::r) (hβ:β i=some blk):∃ es,QL P I M w0 β ob s w i bs cl r blk es:=by
 obtain⟨ra,cur,e1,e2,e3,e4,e5,e7⟩:=hst.bx i hi
 rw[hβ] at e1;cases e1
 have hm:oe (s.bx i)=some (.mp bs cl):=by rw[hb];rfl
 unfold HB at e3
 rw[hm] at e3
 obtain⟨es,q1,q2,q3,q4⟩:=e3
 refine⟨es,hi,hb,hβ,e2,e7,q1,q2,by rw[hb,aC] at q4;omega,fun j e he=>?_⟩
 obtain⟨c1,c2⟩:=rj _ _ _ he
 have g1:cur.getD (2*j+1) undef=e.key:=by
  rw[ap,← aV,q3];simp[c1]
 have g2:cur.getD (2*j+2) undef=e.val:=by
  rw[ap,← aV,q3,show 2*j+2=(2*j+1)+1 by omega];simp[c2]
 have l1:=e5 (2*j+1)
 have l2:=e5 (2*j+2)
 rw[g1,hb] at l1
 rw[g2,hb,show 2*j+2=(2*j+1)+1 by omega] at l2
 simp only[dQ] at l1 l2
 exact⟨l1,l2⟩
theorem vm {T:TypeId} {K:Nat→List Nat→Nat→List V→Option Nat→V→Prop} (h:iI P T s x y K) :
 ∃ i kt et tT tk te ks kc z bs cl r kcs res,ti P T=some tT∧tT.kd=.map kt et∧x=.mr i∧ti P kt=some tk∧tk.eqs=some ks∧ti P et=some te∧y.kcs tk.agg=some kc∧qo te=some z∧
  s.bx i=.mk bs cl::r∧jN tk.agg r=some kcs∧nc ks kc kcs 0=some res∧(i<s.nb∧kc.length=ks.length∧jM ks kc kc=some true∧zaB P et=true)∧K i bs cl r res z:=by
 unfold iI at h
 split at h
 ·rename_i hT
  split at h
  ·rename_i h2 h3
   split at h
   ·rename_i h4 h5 h6
    split at h
    ·rename_i h7
     split at h
     ·rename_i h8
      exact⟨_,_,_,_,_,_,_,_,_,_,_,_,_,_,hT,rfl,rfl,h2,rfl,h3,h4,h5,h6,h7,h8,h.1,h.2⟩
     ·exact h.elim
    ·exact h.elim
   ·exact h.elim
  ·exact h.elim
 ·exact h.elim
theorem V6 {t:TypeId} {i:TI} {ks:List EK} (h:ti P t=some i) (hk:i.eqs=some ks):eqk P 8 t=some ks:=by
 obtain⟨_,_,_,_,_,_,_,_,_,_,he,_⟩:=bw h
 rw[hk] at he
 split at he
 ·cases he
 ·exact he.symm
theorem rk {T:TypeId} {K:Nat→List Nat→Nat→List V→Option Nat→V→Prop} {vx vy:Value} {ox oy:Option Nat} (hst:St G n I0 M w0 I β ob s a w) (h:iI P T s x y K)
 (hx:LR (Wr M w0) I β w ox vx x) (hy:LR (Wr M w0) I β w oy vy y) :
 ∃ i bs cl r res z blk kt et es zv,K i bs cl r res z∧x=.mr i∧vx=.map (some blk)∧QL P I M w0 β ob s w i bs cl r blk es∧P.underlying T=some (.map kt et)∧
  (∀ em,(Instr.checkKey em 10000 kt vy).run P w=.ok () w)∧
  (Instr.findKey kt vy es.toList).run P w=.ok (res.map fun j=>(j,((es.toList[j]?).map (·.val)).getD undef)) w∧
  (∀ j,res=some j→∃ e,es.toList[j]?=some e∧e.key=vy∧(Instr.keyThatStays e.key vy).run P w=.ok vy w)∧
  (zeroValue et).run P w=.ok zv w∧LR (Wr M w0) I β w none zv z:=by
 obtain⟨i,kt,et,tT,tk,te,ks,kc,z,bs,cl,r,kcs,res,h1,h2,rfl,h3,h4,h5,h6,h7,h8,h9,h10,⟨c1,c2,c3,c4⟩,hK⟩:=vm h
 obtain⟨_,d,_,hu,VU,_⟩:=bw h1
 rw[h2] at VU
 have hd:=Ai VU
 subst hd
 have hek:=V6 h3 h4
 have lH:tk.agg=c9 P kt:=by obtain⟨_,_,_,_,_,_,_,h,_⟩:=bw h3;exact h
 simp only[LR] at hx
 obtain⟨blk,hβ,rfl⟩:=hx
 obtain⟨es,hm⟩:=hst.mapW (P:=P) c1 h8 hβ
 obtain⟨xs,rfl,xt⟩:=QK (P:=P) lH hy h6
 obtain⟨zv,VV,Z8⟩:=NJ (I:=I) (w:=w) h5 h7 c4
 obtain⟨k1,k2⟩:=Aj h9
 have hbl:es.toList.length=bs.length:=by rw[← hm.born,am]
 have F8:es.toList.length=kcs.length:=by have:=hm.len;omega
 have pT:∀ (j:Nat) (e:MapEntry) (c:List C),es.toList[j]?=some e→kcs[j]?=some c→∃ ys,e.key=mkv P kt ys∧Cells I w ys c:=fun j e c he hc=>
  QK (P:=P) lH (hm.ent j e he).1 (k2 j c hc)
 refine⟨i,bs,cl,r,res,z,blk,kt,et,es,zv,hK,rfl,rfl,hm,hu,fun em=>?_,NI hek xt c2 F8 pT h10,fun j hj=>?_,VV,Z8 _ _⟩
 ·exact Eo em 8 kt ks hek 9992 xs (by rw[xt.1];exact c2)
 ·subst hj
  obtain⟨q,c,hq,hc,hl,he⟩:=Ak h10
  have bB:q<es.toList.length:=by rw[F8];exact(ak.1 hc).1
  have sB:es.toList[j]?=some es.toList[q]:=by rw[show j=q by omega];exact aj bB
  refine⟨_,sB,?_⟩
  obtain⟨ys,Ge,vU⟩:=pT j _ c sB (by rw[show j=q by omega];exact hc)
  have:=En (P:=P) (t:=kt) xt vU he c2 hl (fun hz=>by
   have:=t8 hek hz;omega)
  rw[Ge]
  exact⟨this.1.symm,this.2⟩
theorem B5 {T:TypeId} {ok:Bool} {vx vy:Value} {ox oy:Option Nat} (hst:St G n I0 M w0 I β ob s a w) (h:fG P T s x y ok K)
 (hx:LR (Wr M w0) I β w ox vx x) (hy:LR (Wr M w0) I β w oy vy y) :
 ∃ z u,K z∧LR (Wr M w0) I β w none u z∧(Instr.lookup T vx vy ok).run P w=.ok u w:=by
 unfold fG at h
 obtain⟨i,bs,cl,r,res,z,blk,kt,et,es,zv,hK,rfl,rfl,hm,hu,pQ,Jq,xw,VV,Z8⟩:=rk hst h hx hy
 have hg:=fq (P:=P) hm.heap
 cases res with
 |some j=>
  obtain⟨e,he,_,_⟩:=xw j rfl
  have hv:=(hm.ent j e he).2
  simp only[bO,he,bU] at Jq
  cases ok with
  |false=>
   simp only[aM,dy] at hK
   exact⟨_,e.val,hK,hv.fz none,by simp[Instr.lookup,aT hu,hg,pQ,Jq,Result.andThen]⟩
  |true=>
   simp only[cL] at hK
   refine⟨_,.tuple #[e.val,.bool true],hK,?_,by simp[Instr.lookup,aT hu,hg,pQ,Jq,Result.andThen]⟩
   simp only[LR]
   refine .tup _ _ rfl fun q d hd=>?_
   match q with
   |0=>simp at hd;subst hd;exact yN hv
   |1=>simp at hd;subst hd;exact .c _ _ (.lit _ rfl)
   |q+2=>simp at hd
 |none=>
  simp only[jv] at Jq
  cases ok with
  |false=>
   simp only[aM,dy] at hK
   exact⟨_,zv,hK,Z8,by simp[Instr.lookup,aT hu,hg,pQ,Jq,VV,Result.andThen]⟩
  |true=>
   simp only[cL] at hK
   refine⟨_,.tuple #[zv,.bool false],hK,?_,by simp[Instr.lookup,aT hu,hg,pQ,Jq,VV,Result.andThen]⟩
   simp only[LR]
   refine .tup _ _ rfl fun q d hd=>?_
   match q with
   |0=>simp at hd;subst hd;exact yN Z8
   |1=>simp at hd;subst hd;exact .c _ _ (.lit _ rfl)
   |q+2=>simp at hd
theorem NK {es:List MapEntry} {b j:Nat} (h:(es.map (·.born)).findIdx? (·==b)=some j):∃ e,es[j]?=some e∧es.find? (·.born==b)=some e:=by
 induction es generalizing j with
 |nil=>simp at h
 |cons e es ih=>
  simp only[aO,List.findIdx?_cons] at h
  cases hb:(e.born==b) with
  |true=>rw[hb] at h;simp at h;subst h;exact⟨e,rfl,by simp[hb]⟩
  |false=>
   rw[hb] at h
   simp only[aM,dy,aY] at h
   obtain⟨q,hq,rfl⟩:=h
   obtain⟨e',h1,h2⟩:=ih hq
   exact⟨e',by simpa using h1,by simp[hb,h2]⟩
theorem Ep {vx:Value} {ox:Option Nat} (hst:St G n I0 M w0 I β ob s a w) (h:nk s x K) (hx:LR (Wr M w0) I β w ox vx x) :
 ∃ z u,K z∧LR (Wr M w0) I β w none u z∧(Instr.entry vx).run P w=.ok u w:=by
 unfold nk at h
 split at h
 ·rename_i i since stepped seen
  split at h
  ·rename_i bs cl r b hb hl
   split at h
   ·rename_i j hj
    obtain⟨⟨hi,rfl⟩,hK⟩:=h
    simp only[LR] at hx
    obtain⟨blk,m,_,_,hβ,rfl,hh,_⟩:=hx
    obtain⟨es,hm⟩:=hst.mapW (P:=P) hi hb hβ
    have Z6:=hj
    rw[← hm.born] at Z6
    obtain⟨e,he,hf⟩:=NK Z6
    obtain⟨l1,l2⟩:=hm.ent j e he
    have zg:es.find? (fun x=>x.born==b)=some e:=by rw[← Array.find?_toList];exact hf
    have hg:(getObj blk).run P w=.ok (.mapIter (some m) since seen.toArray cl) w:=by simp[getObj,Sem.run,hh]
    have Gn:=fq (P:=P) hm.heap
    refine⟨_,.tuple #[e.key,e.val],hK,?_,?_⟩
    ·simp only[LR]
     refine .tup _ _ rfl fun q d hd=>?_
     match q with
     |0=>simp at hd;subst hd;exact yN l1
     |1=>simp at hd;subst hd;exact yN l2
     |q+2=>simp at hd
    ·simp[Instr.entry,hg,Gn,zg,hl,Result.andThen]
   ·exact h.elim
  ·exact h.elim
 ·exact h.elim
theorem Er {T:TypeId} {vx:Value} {ox:Option Nat} (hst:St G n I0 M w0 I β ob s a w) (hd:∀ d,o.dst=some d→d<n) (h:oh P T s x K) (hx:LR (Wr M w0) I β w ox vx x) :
 ∃ z u w',K z∧(Instr.range T vx).run P w=.ok u w'∧SE G n I0 M w0 (s.after tr o z) (a.put o.dst u) w':=by
 unfold oh at h
 split at h
 ·rename_i hT
  obtain⟨_,d,_,hu,VU,_⟩:=bw hT
  have pL:=Ai VU
  subst pL
  split at h
  ·rename_i i bs cl r hb
   obtain⟨hi,hK⟩:=h
   simp only[LR] at hx
   obtain⟨blk,hβ,rfl⟩:=hx
   obtain⟨es,hm⟩:=hst.mapW (P:=P) hi hb hβ
   have hg:=fq (P:=P) hm.heap
   have hs:=hst.allocOwn (.mapIter (some blk) cl #[] cl)
   have jn:=hst.fresh (ae _)
   refine⟨_,.pointer (some ⟨w.heap.size,0,none⟩),w.alloc (.mapIter (some blk) cl #[] cl),hK,by simp[Instr.range,aT hu,hg,Result.andThen],?_⟩
   refine .fin hs hd (o':=some w.heap.size) ?_ fun b hb=>?_
   ·simp only[LR]
    exact⟨w.heap.size,blk,rfl,.inl hst.below.size,hβ,rfl,fF w _,fun o ho=>by have:=hst.ibnd _ _ ho;omega⟩
   ·cases hb
    refine⟨⟨by rw[ej];omega,.inl hst.below.size⟩,jn.2,fun L hL=>absurd hL (jn.1 L)⟩
  ·exact h.elim
 ·exact h.elim
theorem GE {T ty:TypeId} {vx:Value} {ox:Option Nat} (hst:St G n I0 M w0 I β ob s a w) (h:Gp P s K [T] [x]) (hx:LR (Wr M w0) I β w ox vx x) :
 ∃ u,flat u=true∧K (.c (.lit u))∧(Builtin.len_ #[T] ty #[vx]).run P w=.ok u w:=by
 unfold Gp at h
 split at h
 ·rename_i T' i rT na
  simp only[bP,ga] at rT na
  subst rT;subst na
  split at h
  ·rename_i hT hb
   obtain⟨_,d,_,hu,VU,_⟩:=bw hT
   have pL:=Ai VU
   subst pL
   obtain⟨hi,hK⟩:=h
   simp only[LR] at hx
   obtain⟨blk,hβ,rfl⟩:=hx
   obtain⟨ra,cur,e1,e2,e3,e4,e5,e7⟩:=hst.bx i hi
   rw[hβ] at e1;cases e1
   unfold HB at e3
   rw[hb] at e3
   obtain⟨es,q1,q2,_⟩:=e3
   have hg:=fq (P:=P) q1
   refine⟨_,rfl,hK,?_⟩
   have hl:=iY List.length q2
   rw[am,bN] at hl
   simp[Builtin.len_,aT hu,hg,Result.andThen,goInt,hl]
  ·exact h.elim
 ·exact h.elim
end
section
variable {P:Program} {G:Gl} {tr:List Nat} {n:Nat} {I0:Ft} {M:Mx} {w0:World} {I:Ft} {β:Nat→Option Nat} {ob:Loc→Option Nat} {s:S} {a:Act} {w:World} {o:Oper}
 {next:Act→World→Prop} {Q:Exit→Act→World→Prop} {base:Nat→Prop} {v:Value} {x y:V}
theorem Zk (hst:St G n I0 M w0 I β ob s a w) (x:Operand):(∃ ox,LR (Wr M w0) I β w ox (a.eval x) (vw s (ev G s x)).fz)∨∃ es,(vw s (ev G s x)).fz=.c (.sl es)∧RD I w (a.eval x) es:=by
 have hx:=bF hst x
 cases he:ev G s x with
 |ms i off len cap sz=>
  rw[he] at hx
  simp only[LR] at hx
  simp only[vw]
  cases hv:mh s i off len sz with
  |none=>left;exact⟨none,by simp only[V.fz,LR];exact .un _⟩
  |some c=>
   obtain⟨es,rfl,Lx⟩:=V5 hst hv hx
   right;exact⟨es,rfl,Lx⟩
 |_=>left;rw[he] at hx;exact⟨none,hx.fz none⟩
theorem GF (hst:St G n I0 M w0 I β ob s a w) (x:Operand) (ys:List (List C)) (h:(vw s (ev G s x)).fz=.c (.sl ys)):RD I w (a.eval x) ys:=by
 rcases Zk hst x with⟨ox,hx⟩ | ⟨es,he,Lx⟩
 ·rw[h] at hx;exact .ofCR hx.toC
 ·rw[h] at he;cases he;exact Lx
theorem Zl {x:V} {E:Option (TypeId×Nat)} {es:List (List C)} (h:vw s x=.ow E es):x=.ow E es:=by
 cases x<;>simp only[vw] at h<;>try exact h
 split at h<;>cases h
theorem Al {K:V→Prop} {X Y:Operand} {t t' ty:TypeId} (hst:St G n I0 M w0 I β ob s a w) (hd:∀ d,o.dst=some d→d<n) (pO:bV tr o=(match X with | .tmp t=>some t | _=>none))
 (h:eP P .append [t,t'] [vw s (ev G s X),vw s (ev G s Y)] K):∃ z u w',K z∧(Builtin.append_ #[t,t'] ty #[a.eval X,a.eval Y]).run P w=.ok u w'∧SE G n I0 M w0 (s.after tr o z) (a.put o.dst u) w':=by
 have key:∀ ys,ee P t (vw s (ev G s X)) ys K→(∀ ys' e,P.underlying t=some (.slice e)→∀ j,ti P e=some j→ys=.c (.sl ys')→(∀ x∈ys',x.length=j.size)→Gw P I w t' (a.eval Y) j.size ys')→
  ∃ z u w',K z∧(Builtin.append_ #[t,t'] ty #[a.eval X,a.eval Y]).run P w=.ok u w'∧SE G n I0 M w0 (s.after tr o z) (a.put o.dst u) w':=by
  intro ys h pP
  have h':ee P t (ev G s X) ys K:=by
   cases hx:vw s (ev G s X) with
   |ow E es=>rw[hx] at h;rw[Zl hx];exact h
   |_=>rw[hx] at h;simp[ee] at h
  exact B1 (tr:=tr) (U:=t') (ty:=ty) hst hd pO h' pP
 simp only[eP] at h
 split at h
 ·rename_i htt
  subst htt
  exact key _ h fun ys' e hu j hj hy hl=>(GF hst Y ys' hy).src hu hl
 ·unfold qa at h
  split at h
  ·rename_i e _ _ _ _ _ _ _ _ _ _ _ _ st hi Jc hy
   obtain⟨j1,d1,_,h2,h3,_⟩:=bw hi
   have YW:=dq h3
   subst YW
   obtain⟨j2,d2,_,h22,h32,_⟩:=bw Jc
   have hd2:=nL h32
   subst hd2
   split at h
   ·rename_i ie sg
    obtain⟨Qm,h⟩:=h
    have ahR:ev G s Y=.c (.lit (.string st)):=by
     have:(vw s (ev G s Y)).fz=.c (.lit (.string st)):=hy
     cases vZ:ev G s Y<;>rw[vZ] at this
     case hh g E es=>cases g<;>simp[vw,V.fz] at this
     case gs g E es=>cases g<;>simp[vw,V.fz] at this
     case ms i off len cap sz=>
      simp only[vw] at this
      split at this
      ·rename_i c hc
       simp only[V.fz,V.c.injEq] at this
       subst this
       unfold mh at hc;split at hc
       ·split at hc<;>simp at hc
       ·cases hc
      ·simp[V.fz] at this
     all_goals simp_all[vw,V.fz]
    have hv:=bF hst Y
    rw[ahR] at hv
    refine key _ h fun ys' e' hu j hj P9 hl=>?_
    rw[h2] at hu
    simp only[ao,TypeDesc.slice.injEq] at hu
    subst hu
    rw[sg] at hj
    cases hj
    simp only[V.c.injEq,C.sl.injEq] at P9
    subst P9
    rw[hv.lit,Qm]
    exact V4 h22
   ·exact h.elim
  ·exact h.elim
theorem St.unghost {t d:Tmp} {v:Value} {E:Option (TypeId×Nat)} {es:List (List C)} (hst:St G n I0 M w0 I β ob s a w) (Jo:t≠d) (ht:s.fr t=.c (.ex v)) (Nu:s.fr d=.gh v E es) (Nt:d<n) (vW:t<n) :
 ∃ ob',St G n I0 M w0 I β ob' { s with fr:=up (up s.fr d .un) t (.ow E es) } a w:=by
 have hg:=hst.fr d
 rw[Nu] at hg
 simp only[LR] at hg
 have hx:=hst.fr t
 rw[ht] at hx
 have hv:a.tmps.getD t undef=v:=by
  have:=hx.toC
  generalize a.tmps.getD t undef=q at this
  cases this with
  |ex _ h1 h2=>rfl
 have h1:=hst.put d Nt (v:=a.tmps.getD d undef) (x:=.un) (o:=none) (by simp only[LR];exact .un _) FreeOb.nothing
 have h2:=h1.put t vW (v:=a.tmps.getD t undef) (x:=.ow E es) (o:=ob (.t d)) (by rw[hv];simp only[LR];exact hg) (fun b hb=>by
  refine⟨hst.obnd _ b hb,fun L hL=>?_,fun i=>hst.obx _ b i hb⟩
  simp only[upL] at hL
  split at hL
  ·cases hL
  ·split at hL
   ·cases hL
   ·rename_i h3 h4
    exact h4 (hst.oinj _ _ b hL hb))
 have back:∀ (a:Act) (q:Tmp),q<a.tmps.size→a.put (some q) (a.tmps.getD q undef)=a:=fun a q hq=>by
  have:a.tmps.set! q (a.tmps.getD q undef)=a.tmps:=by
   apply jw
   ·simp[bH]
   ·intro i h1 h2
    simp only[bH,ff h2]
    split
    ·rename_i e;subst e;simp[Array.getD,h2]
    ·rfl
  show(⟨a.tmps.set! q (a.tmps.getD q undef),a.defers⟩:Act)=a
  rw[this]
 rw[back a d (by rw[hst.size];exact Nt),back a t (by rw[hst.size];exact vW)] at h2
 exact⟨_,h2⟩
theorem St.unghostG {t d:Tmp} {v:Value} {E:Option (TypeId×Nat)} {es:List (List C)} (hst:St G n I0 M w0 I β ob s a w) (Jo:t≠d) (ht:s.fr t=.c (.ex v)) (Nu:s.fr d=.gg v E es) (Nt:d<n) (vW:t<n) :
 ∃ ob',St G n I0 M w0 I β ob' { s with fr:=up (up s.fr d .un) t (.gs none E es) } a w:=by
 have hg:=hst.fr d
 rw[Nu] at hg
 simp only[LR] at hg
 have hx:=hst.fr t
 rw[ht] at hx
 have hv:a.tmps.getD t undef=v:=by
  have:=hx.toC
  generalize a.tmps.getD t undef=q at this
  cases this with
  |ex _ h1 h2=>rfl
 have h1:=hst.put d Nt (v:=a.tmps.getD d undef) (x:=.un) (o:=none) (by simp only[LR];exact .un _) FreeOb.nothing
 have h2:=h1.put t vW (v:=a.tmps.getD t undef) (x:=.gs none E es) (o:=ob (.t d)) (by rw[hv];simp only[LR];exact⟨(fun _ h=>by cases h),hg⟩) (fun b hb=>by
  refine⟨hst.obnd _ b hb,fun L hL=>?_,fun i=>hst.obx _ b i hb⟩
  simp only[upL] at hL
  split at hL
  ·cases hL
  ·split at hL
   ·cases hL
   ·rename_i h3 h4
    exact h4 (hst.oinj _ _ b hL hb))
 have back:∀ (a:Act) (q:Tmp),q<a.tmps.size→a.put (some q) (a.tmps.getD q undef)=a:=fun a q hq=>by
  have:a.tmps.set! q (a.tmps.getD q undef)=a.tmps:=by
   apply jw
   ·simp[bH]
   ·intro i h1 h2
    simp only[bH,ff h2]
    split
    ·rename_i e;subst e;simp[Array.getD,h2]
    ·rfl
  show(⟨a.tmps.set! q (a.tmps.getD q undef),a.defers⟩:Act)=a
  rw[this]
 rw[back a d (by rw[hst.size];exact Nt),back a t (by rw[hst.size];exact vW)] at h2
 exact⟨_,h2⟩
theorem xT (hst:St G n I0 M w0 I β ob s a w) {t:Tmp} {v:Value} (ht:s.fr t=.c (.ex v)):a.tmps.getD t undef=v∧v.oneCell'=true∧v.cells=#[v]:=by
 have hx:=hst.fr t
 rw[ht] at hx
 have:=hx.toC
 generalize a.tmps.getD t undef=q at this
 cases this with
 |ex _ h1 h2=>exact⟨rfl,h1,h2⟩
theorem lV {q:Tmp} (hq:q<a.tmps.size):a.put (some q) (a.tmps.getD q undef)=a:=by
 have:a.tmps.set! q (a.tmps.getD q undef)=a.tmps:=by
  apply jw
  ·simp[bH]
  ·intro i h1 h2
   simp only[bH,ff h2]
   split
   ·rename_i e;subst e;simp[Array.getD,h2]
   ·rfl
 show(⟨a.tmps.set! q (a.tmps.getD q undef),a.defers⟩:Act)=a
 rw[this]
theorem NL {K:V→Prop} {t d:Tmp} {y:Operand} {v:Value} {E:Option (TypeId×Nat)} {es:List (List C)} {ts:List TypeId} {ty:TypeId} (hst:St G n I0 M w0 I β ob s a w) (hd:∀ d,o.dst=some d→d<n) (pO:∀ t' y',[Operand.tmp t,y]=[.tmp t',y']→bV tr o=some t')
 (lh:o.dst=some d) (ht:s.fr t=.c (.ex v)) (Nu:s.fr d=.gg v E es) (Jo:t≠d) (hyt:y≠.tmp t) (hyd:y≠.tmp d) (h:nf P ts E es (vw s (ev G s y)).fz K) :
 ∃ X Y t0 t',[Operand.tmp t,y]=[X,Y]∧ts=[t0,t']∧∃ z u w',K z∧(Builtin.append_ #[t0,t'] ty #[a.eval X,a.eval Y]).run P w=.ok u w'∧SE G n I0 M w0 (s.after tr o z) (a.put o.dst u) w':=by
 have oK:∃ q q',ts=[q,q']:=by
  unfold nf at h
  split at h
  ·exact⟨_,_,rfl⟩
  ·exact h.elim
 obtain⟨q,q',rfl⟩:=oK
 have hqq:q=q':=by simp only[nf] at h;exact h.1
 subst hqq
 have Nt:d<n:=hd d lh
 have vW:t<n:=by
  rcases ct t n with h' | h'
  ·exact h'
  ·exfalso
   obtain⟨e1,_,_⟩:=xT hst ht
   have e0:a.tmps.getD t undef=undef:=by rw[ap,db (by rw[hst.size];exact h')];rfl
   have hg:=hst.fr d
   rw[Nu] at hg
   simp only[LR] at hg
   rw[← e1,e0] at hg
   rcases hg with⟨_,_,_,_,h1⟩ | ⟨_,_,_,_,_,_,_,h1,_⟩<;>simp[undef] at h1
 obtain⟨ob',bL⟩:=hst.unghostG Jo ht Nu Nt vW
 refine⟨_,_,q,q,rfl,rfl,?_⟩
 obtain⟨z,u,w',hz,bA,I2,β2,ob2,mg⟩:=yK (tr:=tr) (o:=o) (T:=q) (U:=q) (t0:=t) (E:=E) (es:=es) (vy:=a.eval y) (ty:=ty) (K:=K) bL hd (pO t y rfl) (by simp only[cx]) h
  (fun ys' e hu j hj hy hl=>(GF hst y ys' hy).src hu hl)
 refine⟨z,u,w',hz,bA,?_⟩
 obtain⟨e1,e2,e3⟩:=xT hst ht
 have dZ:(a.put (some d) u).tmps.size=n:=by simp only[Act.put,bH,dp];exact hst.size
 have hgt:(a.put (some d) u).tmps.getD t undef=v:=by
  rw[← e1]
  show(a.tmps.set! d u).getD t undef=_
  simp[ap,bH,iQ,gb Jo]
 rw[lh] at mg ⊢
 have cE:=mg.put t vW (v:=(a.put (some d) u).tmps.getD t undef) (x:=.c (.ex v)) (o:=none) (by rw[hgt];exact .ofC (.ex v e2 e3)) FreeOb.nothing
 rw[lV (by rw[dZ];exact vW)] at cE
 have es:(S.after tr o { s with fr:=up (up s.fr d .un) t (.gs none E es) } z).put (some t) (.c (.ex v))=s.after tr o z:=by
  unfold S.after
  rw[pO t y rfl,lh]
  have hu1:({ s with fr:=up (up s.fr d .un) t (.gs none E es) }:S).use (some t)=({ s with fr:=up (up s.fr d .un) t (.gs none E es) }:S).clr t:=by
   simp only[S.use,cx];rfl
  have hu2:s.use (some t)=s:=by simp only[S.use,ht];rfl
  rw[hu1,hu2]
  simp only[S.put,S.clr]
  congr 1
  funext r
  simp only[up]
  by_cases hr:r=t
  ·subst hr;rw[if_pos rfl,if_neg Jo];exact ht.symm
  ·rw[if_neg hr,if_neg hr,if_neg hr]
   by_cases Js:r=d
   ·simp only[if_pos Js]
   ·simp only[if_neg Js]
 rw[es] at cE
 exact⟨_,_,_,cE⟩
theorem Es {K:V→Prop} {args:List Operand} {ts:List TypeId} {ty:TypeId} (hst:St G n I0 M w0 I β ob s a w) (hd:∀ d,o.dst=some d→d<n) (pO:∀ t y,args=[.tmp t,y]→bV tr o=some t)
 (h:jO P G s o.dst ts args K):∃ X Y t t',args=[X,Y]∧ts=[t,t']∧∃ z u w',K z∧(Builtin.append_ #[t,t'] ty #[a.eval X,a.eval Y]).run P w=.ok u w'∧SE G n I0 M w0 (s.after tr o z) (a.put o.dst u) w':=by
 unfold jO at h
 split at h
 ·rename_i t y d lh
  split at h
  ·rename_i v u E es ht Nu
   obtain⟨⟨Jo,rfl,hyt,hyd⟩,h⟩:=h
   have oK:∃ q q',ts=[q,q']:=by
    unfold eP at h
    split at h<;>first | cases ‹Builtin.append=_› | skip
    ·rename_i q q' x y cD;exact⟨_,_,rfl⟩
    ·exact h.elim
   obtain⟨q,q',rfl⟩:=oK
   have Nt:d<n:=hd d lh
   have vW:t<n:=by
    rcases ct t n with h' | h'
    ·exact h'
    ·exfalso
     obtain⟨e1,_,_⟩:=xT hst ht
     have e0:a.tmps.getD t undef=undef:=by rw[ap,db (by rw[hst.size];exact h')];rfl
     have hg:=hst.fr d
     rw[Nu] at hg
     simp only[LR] at hg
     rw[← e1,e0] at hg
     rcases hg.1.sl_inv with⟨⟨_,_,h1,_⟩,_⟩ | ⟨_,_,_,_,_,h1,_⟩<;>simp[undef] at h1
   obtain⟨ob',bL⟩:=hst.unghost Jo ht Nu Nt vW
   refine⟨_,_,q,q',rfl,rfl,?_⟩
   have hey:ev G { s with fr:=up (up s.fr d .un) t (.ow E es) } y=ev G s y:=by
    cases y with
    |tmp r=>
     have h1:r≠t:=fun e=>hyt (by rw[e])
     have h2:r≠d:=fun e=>hyd (by rw[e])
     simp only[ev,dj _ _ h1,dj _ _ h2]
    |_=>rfl
   have hvw:vw { s with fr:=up (up s.fr d .un) t (.ow E es) }=vw s:=rfl
   obtain⟨z,u,w',hz,bA,I2,β2,ob2,mg⟩:=Al (tr:=tr) (o:=o) (X:=.tmp t) (Y:=y) (t:=q) (t':=q') (ty:=ty) (K:=K) bL hd (pO t y rfl) (by
    rw[hey,hvw]
    have:vw s (ev G { s with fr:=up (up s.fr d .un) t (.ow E es) } (.tmp t))=.ow E es:=by simp only[ev,cx];rfl
    rw[this];exact h)
   refine⟨z,u,w',hz,bA,?_⟩
   obtain⟨e1,e2,e3⟩:=xT hst ht
   have dZ:(a.put (some d) u).tmps.size=n:=by simp only[Act.put,bH,dp];exact hst.size
   have hgt:(a.put (some d) u).tmps.getD t undef=v:=by
    rw[← e1]
    show(a.tmps.set! d u).getD t undef=_
    simp[ap,bH,iQ,gb Jo]
   rw[lh] at mg ⊢
   have cE:=mg.put t vW (v:=(a.put (some d) u).tmps.getD t undef) (x:=.c (.ex v)) (o:=none) (by rw[hgt];exact .ofC (.ex v e2 e3)) FreeOb.nothing
   rw[lV (by rw[dZ];exact vW)] at cE
   have es:(S.after tr o { s with fr:=up (up s.fr d .un) t (.ow E es) } z).put (some t) (.c (.ex v))=s.after tr o z:=by
    unfold S.after
    rw[pO t y rfl,lh]
    have hu1:({ s with fr:=up (up s.fr d .un) t (.ow E es) }:S).use (some t)=({ s with fr:=up (up s.fr d .un) t (.ow E es) }:S).clr t:=by
     simp only[S.use,cx];rfl
    have hu2:s.use (some t)=s:=by simp only[S.use,ht];rfl
    rw[hu1,hu2]
    simp only[S.put,S.clr]
    congr 1
    funext r
    simp only[up]
    by_cases hr:r=t
    ·subst hr;rw[if_pos rfl,if_neg Jo];exact ht.symm
    ·rw[if_neg hr,if_neg hr,if_neg hr]
     by_cases Js:r=d
     ·simp only[if_pos Js]
     ·simp only[if_neg Js]
   rw[es] at cE
   exact⟨_,_,_,cE⟩
  ·rename_i v u E es ht Nu
   obtain⟨⟨Jo,rfl,hyt,hyd⟩,h⟩:=h
   exact NL hst hd pO lh ht Nu Jo hyt hyd h
  ·rename_i E es ht
   obtain⟨⟨Jo,hyt⟩,h⟩:=h
   have oK:∃ q q',ts=[q,q']:=by
    unfold nf at h
    split at h
    ·exact⟨_,_,rfl⟩
    ·exact h.elim
   obtain⟨q,q',rfl⟩:=oK
   have hqq:q=q':=by simp only[nf] at h;exact h.1
   subst hqq
   refine⟨_,_,q,q,rfl,rfl,?_⟩
   exact yK (tr:=tr) (o:=o) (T:=q) (U:=q) (t0:=t) (E:=E) (es:=es) (vy:=a.eval y) (ty:=ty) (K:=K) hst hd (pO t y rfl) ht h (fun ys' e hu j hj hy hl=>(GF hst y ys' hy).src hu hl)
  ·exact h.elim
 ·exact h.elim
theorem JF {K:V→Prop} {args:List Operand} {ts:List TypeId} {ty:TypeId} (hst:St G n I0 M w0 I β ob s a w) (hd:∀ d,o.dst=some d→d<n) (pO:∀ t y,args=[.tmp t,y]→bV tr o=some t)
 (h:wa P G s o.dst ts args K):∃ X Y t t',args=[X,Y]∧ts=[t,t']∧∃ z u w',K z∧(Builtin.append_ #[t,t'] ty #[a.eval X,a.eval Y]).run P w=.ok u w'∧SE G n I0 M w0 (s.after tr o z) (a.put o.dst u) w':=by
 unfold wa at h
 split at h
 ·rename_i t y d lh
  split at h
  ·rename_i v u E es ht Nu
   obtain⟨⟨Jo,rfl,hyt,hyd⟩,h⟩:=h
   have oK:∃ q q',ts=[q,q']:=by
    unfold uT at h
    split at h
    ·exact⟨_,_,rfl⟩
    ·exact h.elim
   obtain⟨q,q',rfl⟩:=oK
   have hqq:q=q':=by simp only[uT] at h;exact h.1
   subst hqq
   have Nt:d<n:=hd d lh
   have vW:t<n:=by
    rcases ct t n with h' | h'
    ·exact h'
    ·exfalso
     obtain⟨e1,_,_⟩:=xT hst ht
     have e0:a.tmps.getD t undef=undef:=by rw[ap,db (by rw[hst.size];exact h')];rfl
     have hg:=hst.fr d
     rw[Nu] at hg
     simp only[LR] at hg
     rw[← e1,e0] at hg
     rcases hg.1.sl_inv with⟨⟨_,_,h1,_⟩,_⟩ | ⟨_,_,_,_,_,h1,_⟩<;>simp[undef] at h1
   obtain⟨ob',bL⟩:=hst.unghost Jo ht Nu Nt vW
   refine⟨_,_,q,q,rfl,rfl,?_⟩
   obtain⟨z,u,w',hz,bA,I2,β2,ob2,mg⟩:=Gx (tr:=tr) (o:=o) (T:=q) (U:=q) (t0:=t) (E:=E) (es:=es) (vy:=a.eval y) (ty:=ty) (K:=K) bL hd (pO t y rfl) (by simp only[cx]) h
    (fun ys' e hu j hj hy hl=>(GF hst y ys' hy).src hu hl)
   refine⟨z,u,w',hz,bA,?_⟩
   obtain⟨e1,e2,e3⟩:=xT hst ht
   have dZ:(a.put (some d) u).tmps.size=n:=by simp only[Act.put,bH,dp];exact hst.size
   have hgt:(a.put (some d) u).tmps.getD t undef=v:=by
    rw[← e1]
    show(a.tmps.set! d u).getD t undef=_
    simp[ap,bH,iQ,gb Jo]
   rw[lh] at mg ⊢
   have cE:=mg.put t vW (v:=(a.put (some d) u).tmps.getD t undef) (x:=.c (.ex v)) (o:=none) (by rw[hgt];exact .ofC (.ex v e2 e3)) FreeOb.nothing
   rw[lV (by rw[dZ];exact vW)] at cE
   have es:(S.after tr o { s with fr:=up (up s.fr d .un) t (.ow E es) } z).put (some t) (.c (.ex v))=s.after tr o z:=by
    unfold S.after
    rw[pO t y rfl,lh]
    have hu1:({ s with fr:=up (up s.fr d .un) t (.ow E es) }:S).use (some t)=({ s with fr:=up (up s.fr d .un) t (.ow E es) }:S).clr t:=by
     simp only[S.use,cx];rfl
    have hu2:s.use (some t)=s:=by simp only[S.use,ht];rfl
    rw[hu1,hu2]
    simp only[S.put,S.clr]
    congr 1
    funext r
    simp only[up]
    by_cases hr:r=t
    ·subst hr;rw[if_pos rfl,if_neg Jo];exact ht.symm
    ·rw[if_neg hr,if_neg hr,if_neg hr]
     by_cases Js:r=d
     ·simp only[if_pos Js]
     ·simp only[if_neg Js]
   rw[es] at cE
   exact⟨_,_,_,cE⟩
  ·exact h.elim
 ·exact h.elim
theorem o0 {K:V→Prop} (hst:St G n I0 M w0 I β ob s a w) (hd:∀ d,o.dst=some d→d<n) (h:VYK P G tr o s K)
 (hk:∀ a' w' x,K x→SE G n I0 M w0 (s.after tr o x) a' w'→next a' w'):o.wp P a w next Q:=by
 have pure_:∀ {sem:Sem Value} {z:V} {u:Value},execOp a.eval o=(do pure (.value (← sem)))→K z→LR (Wr M w0) I β w none u z→sem.run P w=.ok u w→o.wp P a w next Q:=by
  intro sem z u he hz im bA
  refine eF (v':=u) (w':=w) ?_ (hk _ _ _ hz (.fin0 hst hd im))
  rw[he];simp[bA]
 have full:∀ {sem:Sem Value} {z:V} {u:Value} {w':World},execOp a.eval o=(do pure (.value (← sem)))→K z→sem.run P w=.ok u w'→SE G n I0 M w0 (s.after tr o z) (a.put o.dst u) w'→o.wp P a w next Q:=by
  intro sem z u w' he hz bA cE
  refine eF (v':=u) (w':=w') ?_ (hk _ _ _ hz cE)
  rw[he];simp[bA]
 obtain⟨dst,op,type,pos,after,guard⟩:=o
 cases op<;>simp only[VYK] at h<;>try exact h.elim
 case move x=>
  have bA:(execOp a.eval { dst,op:=.move x,type,pos,after,guard }).run P w=.ok (.value (a.eval x)) w:=rfl
  split at h
  ·rename_i htr
   exact eF bA (hk _ _ _ h (LO hst hd (x:=x) (by cases x<;>simp[bV,htr])))
  ·exact eF bA (hk _ _ _ h (V3 hst hd x))
 case assign x=>
  have bA:(execOp a.eval { dst,op:=.assign x,type,pos,after,guard }).run P w=.ok (.value (a.eval x)) w:=rfl
  exact eF bA (hk _ _ _ h (LO hst hd (x:=x) (by cases x<;>simp[bV])))
 case pick c b b'=>
  split at h
  ·rename_i p hc
   have Vw:a.eval c=.bool p:=by have:=bF hst c;rw[hc] at this;exact this.lit
   refine eF (v':=if p then a.eval b else a.eval b') (w':=w) ?_ (hk _ _ _ h (.fin0 hst hd ?_))
   ·simp[execOp,Vw,asBool]
   ·cases p
    ·exact we hst b'
    ·exact we hst b
  ·exact h.elim
 case build T parts=>
  obtain⟨z,u,hz,im,bA⟩:=Eg hst h
  exact pure_ rfl hz im bA
 case buildSlice T len parts=>
  obtain⟨z,u,w',hz,bA,cE⟩:=wl (tr:=tr) hst hd h
  exact full rfl hz bA cE
 case load T x=>
  obtain⟨z,u,hz,im,bA⟩:=sF hst h (bF hst x)
  exact pure_ rfl hz im bA
 case binOp op T x y yT=>
  obtain⟨u,hf,hz,bA⟩:=Jz h (bF hst x) (bF hst y) x y
  exact pure_ rfl hz (.ofLit hf) bA
 case unOp op T x=>
  obtain⟨u,hf,hz,bA⟩:=NF h (bF hst x)
  exact pure_ rfl hz (.ofLit hf) bA
 case convert src dst' x=>
  obtain⟨z,u,w',hz,bA,cE⟩:=Gz (tr:=tr) hst hd h (Zk hst x)
  exact full rfl hz bA cE
 case makeFunc f first captured=>
  obtain⟨⟨h1,h2⟩,h⟩:=h
  have pr:∀ (l:Array Operand),(l.toList.map (ev G s)).all V.isPR=true→∀ j x,(l.toList.map (ev G s))[j]?=some x→PR I β w ((l.map a.eval).getD j undef) x:=by
   intro l hl j x hx
   have hm:=bh hx
   have hp:=aU.1 hl x hm
   simp only[bb,aY] at hx
   obtain⟨X,hX,rfl⟩:=hx
   have im:=bF hst X
   have:(l.map a.eval).getD j undef=a.eval X:=by
    rw[aV] at hX
    simp[hX]
   rw[this]
   cases hx:ev G s X<;>rw[hx] at hp im<;>simp only[V.isPR] at hp<;>try cases hp
   ·exact im.toC
   ·simp only[LR] at im;exact im
   ·simp only[LR] at im;exact im
   ·simp only[LR] at im;exact im
   ·simp only[LR] at im;exact im
   ·simp only[LR] at im;exact im
  refine eF (v':=.func f (first.map a.eval) (captured.map a.eval)) (w':=w) rfl (hk _ _ _ h (.fin0 hst hd ?_))
  simp only[LR]
  exact⟨_,_,rfl,by simp,by simp,pr first h1,pr captured h2⟩
 case lookup T x k ok=>
  obtain⟨z,u,hz,im,bA⟩:=B5 hst h (bF hst x) (bF hst k)
  exact pure_ rfl hz im bA
 case range T x=>
  obtain⟨z,u,w',hz,bA,cE⟩:=Er (tr:=tr) hst hd h (bF hst x)
  exact full rfl hz bA cE
 case entry x=>
  obtain⟨z,u,hz,im,bA⟩:=Ep hst h (bF hst x)
  exact pure_ rfl hz im bA
 case sliceToArrayPointer T x=>
  obtain⟨z,u,hz,im,bA⟩:=JD h (bF hst x)
  exact pure_ rfl hz im bA
 case nilCheck x=>
  have hx:=bF hst x
  split at h
  ·rename_i i o vZ
   rw[vZ] at hx
   simp only[LR] at hx
   obtain⟨blk,hβ,hv⟩:=hx
   refine eF (v':=.pointer (some ⟨blk,o,none⟩)) (w':=w) ?_ (hk _ _ _ h (.fin0 hst hd (by simp only[LR];exact⟨blk,hβ,rfl⟩)))
   simp only[execOp,hv];rfl
  ·rename_i cs k vZ
   rw[vZ] at hx
   obtain⟨b,off,f,hv,_⟩:=hx.toC.rp_inv
   refine eF (v':=a.eval x) (w':=w) ?_ (hk _ _ _ h (.fin0 hst hd (.ofC hx.toC)))
   simp only[execOp,hv];rfl
  ·exact h.elim
 case slice T x lo hi mx=>
  obtain⟨z,u,hz,im,bA⟩:=Ej hst h (we hst x)
  exact pure_ rfl hz im bA
 case fieldAddr T x f=>
  obtain⟨z,u,hz,im,bA⟩:=xP h (bF hst x)
  exact pure_ rfl hz im bA
 case field T x f=>
  obtain⟨z,u,hz,im,bA⟩:=Ec h (bF hst x)
  exact pure_ rfl hz im bA
 case indexAddr T x i=>
  obtain⟨z,u,hz,im,bA⟩:=xQ h (we hst x) (bF hst i)
  exact pure_ rfl hz im bA
 case index T x i=>
  obtain⟨z,u,hz,im,bA⟩:=Ed h (bF hst x) (bF hst i)
  exact pure_ rfl hz im bA
 case extract x i=>
  split at h
  ·rename_i ds hx
   split at h
   ·rename_i d hdi
    have im:=bF hst x
    rw[hx] at im
    simp only[LR] at im
    generalize sA:a.eval x=vv at im
    cases im with
    |tup vs _ h1 h2=>
     have bB:i<vs.size:=by rw[h1];exact(ak.1 hdi).1
     have vh:=h2 i d hdi
     refine pure_ (u:=vs.getD i undef) rfl h ?_ (by simp[sA,Instr.extract,aA bB])
     generalize vs.getD i undef=vv' at vh
     cases d<;>simp only[LR]<;>first | exact vh | (cases vh;done)
   ·exact h.elim
  ·exact h.elim
 case call c=>
  obtain⟨callee,args,ts⟩:=c
  cases callee with
  |value f=>exact GA (tr:=tr) (f:=f) (args:=args) (ts:=ts) rfl hst hd h hk
  |invoke r m=>exact h.elim
  |builtin b=>
   have xw:∀ sem:Sem Value,builtin b ts type (args.map fun | .const _=>true | _=>false) (args.map a.eval)=(do pure (.value (← sem)))→
    execOp a.eval { dst,op:=.call { callee:=.builtin b,args:=args,argTypes:=ts },type,pos,after,guard }=(do pure (.value (← sem))):=fun sem hs=>by
    simp only[execOp,resolve,invoke,pure_bind]
    exact hs
   have uR:(b=.append∧((xM tr dst=true∧wa P G s dst ts.toList args.toList K)∨(Ab tr dst=true∧jO P G s dst ts.toList args.toList K)∨(Ab tr dst=false∧eP P .append ts.toList (args.toList.map fun x=>vw s (ev G s x)) K)))∨(b≠.append∧eP P b ts.toList (args.toList.map (ev G s)) K):=by
    cases b<;>first | (refine .inl ⟨rfl,?_⟩;have h':(if Ab tr dst then(if xM tr dst then wa P G s dst ts.toList args.toList K else jO P G s dst ts.toList args.toList K) else eP P .append ts.toList (args.toList.map fun x=>vw s (ev G s x)) K):=h;by_cases hg:Ab tr dst=true;(rw[if_pos hg] at h';by_cases Gn:xM tr dst=true;(rw[if_pos Gn] at h';exact .inl ⟨Gn,h'⟩);(rw[if_neg Gn] at h';exact .inr (.inl ⟨hg,h'⟩)));(rw[if_neg hg] at h';exact .inr (.inr ⟨by simpa using hg,h'⟩))) | exact .inr ⟨by simp,h⟩
   clear h
   rcases uR with⟨rfl,⟨_,h⟩ | ⟨_,h⟩ | ⟨_,h⟩⟩ | ⟨v6,h⟩
   ·obtain⟨X,Y,t,t',hX,oK,z,u,w',hz,bA,cE⟩:=JF (tr:=tr) (o:={ dst,op:=.call { callee:=.builtin .append,args:=args,argTypes:=ts },type,pos,after,guard }) (ty:=type) hst hd (args:=args.toList) (fun t y hA=>by simp only[bV,hA]) h
    have e1:ts=#[t,t']:=cT oK
    have e2:args.map a.eval=#[a.eval X,a.eval Y]:=by apply cT;simp[hX]
    subst e1
    refine full (sem:=Builtin.append_ #[t,t'] type (args.map a.eval)) (xw _ rfl) hz ?_ cE
    rw[e2];exact bA
   ·obtain⟨X,Y,t,t',hX,oK,z,u,w',hz,bA,cE⟩:=Es (tr:=tr) (o:={ dst,op:=.call { callee:=.builtin .append,args:=args,argTypes:=ts },type,pos,after,guard }) (ty:=type) hst hd (args:=args.toList) (fun t y hA=>by simp only[bV,hA]) h
    have e1:ts=#[t,t']:=cT oK
    have e2:args.map a.eval=#[a.eval X,a.eval Y]:=by apply cT;simp[hX]
    subst e1
    refine full (sem:=Builtin.append_ #[t,t'] type (args.map a.eval)) (xw _ rfl) hz ?_ cE
    rw[e2];exact bA
   ·have oK:∃ t t',ts.toList=[t,t']∧∃ X Y,args.toList=[X,Y]:=by
     unfold eP at h
     split at h<;>first | cases ‹Builtin.append=_› | skip
     ·rename_i t t' x y oK cD
      refine⟨t,t',oK,?_⟩
      cases ha:args.toList with
      |nil=>simp[ha] at cD
      |cons X l=>
       cases l with
       |nil=>simp[ha] at cD
       |cons Y l=>simp only[ha,aO,bP,eb] at cD;exact⟨X,Y,by rw[cD.2.2]⟩
     ·exact h.elim
    obtain⟨t,t',oK,X,Y,hX⟩:=oK
    have e1:ts=#[t,t']:=cT oK
    have e2:args.map a.eval=#[a.eval X,a.eval Y]:=by apply cT;simp[hX]
    subst e1
    rw[hX] at h
    obtain⟨z,u,w',hz,bA,cE⟩:=Al (tr:=tr) (o:={ dst,op:=.call { callee:=.builtin .append,args:=args,argTypes:=#[t,t'] },type,pos,after,guard }) (ty:=type) hst hd (by simp only[bV,hX];cases X<;>rfl) h
    refine full (sem:=Builtin.append_ #[t,t'] type (args.map a.eval)) (xw _ rfl) hz ?_ cE
    rw[e2];exact bA
   ·unfold eP at h
    split at h
    ·rename_i t x oK cD
     obtain⟨X,hX,rfl⟩:∃ X,args.toList=[X]∧x=ev G s X:=by
      cases ha:args.toList with
      |nil=>simp[ha] at cD
      |cons X l=>simp only[ha,aO,bP,eb] at cD;exact⟨X,by rw[cD.2],cD.1.symm⟩
     obtain⟨u,hf,hz,bA⟩:=JB (ty:=type) h (bF hst X)
     have e1:ts=#[t]:=cT oK
     have e2:args.map a.eval=#[a.eval X]:=by apply cT;simp[hX]
     subst e1
     refine pure_ (sem:=Builtin.len_ #[t] type (args.map a.eval)) (xw _ rfl) hz (.ofLit hf) ?_
     rw[e2];exact bA
    ·exact absurd rfl v6
    ·obtain⟨u,hf,hz,bA⟩:=Ah (P:=P) (mx:=false) hst h
     exact pure_ (sem:=Builtin.min_ ts type (args.map a.eval)) (xw _ rfl) hz (.ofLit hf) bA
    ·obtain⟨u,hf,hz,bA⟩:=Ah (P:=P) (mx:=true) hst h
     exact pure_ (sem:=Builtin.max_ ts type (args.map a.eval)) (xw _ rfl) hz (.ofLit hf) bA
    ·exact h.elim
