/- Values without memory: the operations keep the relation: append. -/
import Derived.Test.YtjfjdomfldolcaaGreatVlSound5
import Derived.Deep.AppendSrc
import Derived.Conc.MuLone
import Derived.MapKept
import Derived.WideKeyRuns
set_option linter.all false
namespace Go.Vl
open Go Go.RowKit
section
variable {P:Program} {G:Gl} {tr:List Nat} {n:Nat} {I0:Ft} {M:Mx} {w0:World} {I:Ft} {β:Nat→Option Nat} {ob:Loc→Option Nat} {s:S} {a:Act} {w:World} {o:Oper}
 {next:Act→World→Prop} {Q:Exit→Act→World→Prop} {base:Nat→Prop} {v:Value} {x y:V} {K:V→Prop}
theorem QL {J:Ft} {b off sz sz':Nat} {es:List (List C)} {f:Nat→Nat→Value} (hs:∀ x∈es,x.length=sz) (Dm:∀ e∈es,e.length=sz')
 (fb:∀ i j,i<es.length→j<sz'→w.cell? ⟨b,off+i*sz'+j,none⟩=some (f i j)∧J b (off+i*sz'+j)) (qp:∀ i j e c,es[i]?=some e→e[j]?=some c→CR I w (f i j) c) :
 ∃ vs:List Value,vs.length=es.length*sz∧(∀ (q:Nat) (u:Value),vs[q]?=some u→w.cell? ⟨b,off+q,none⟩=some u∧J b (off+q))∧
  (∀ (q:Nat) (c:C),es.flatten[q]?=some c→∃ u,vs[q]?=some u∧CR I w u c)∧(∀ u∈vs,u.oneCell'=true):=by
 have kP:=bI es hs
 by_cases h0:es.length*sz=0
 ·refine⟨[],by simp[h0],by simp,fun q c hq=>?_,by simp⟩
  have:=(ah.1 hq).1
  omega
 have aiV:0<sz:=Nat.pos_of_ne_zero fun e=>h0 (by simp[e])
 have Qp:0<es.length:=Nat.pos_of_ne_zero fun e=>h0 (by simp[e])
 have fW:sz'=sz:=by rw[← Dm es[0] (bL _),hs es[0] (bL _)]
 subst fW
 have gC:∀ q,q<es.length*sz'→q / sz'<es.length∧q % sz'<sz'∧q=q / sz'*sz'+q % sz':=fun q hq=>
  ⟨by rw[Nat.div_lt_iff_lt_mul aiV];exact hq,Nat.mod_lt _ aiV,by rw[Nat.mul_comm];exact(Nat.div_add_mod q sz').symm⟩
 have tN:∀ (q:Nat) (c:C),es.flatten[q]?=some c→q<es.length*sz'∧CR I w (f (q / sz') (q % sz')) c:=fun q c hq=>by
  have bK:=(ah.1 hq).1
  rw[kP] at bK
  obtain⟨h1,h2,h3⟩:=gC q bK
  rw[h3,mc es hs _ _ h2] at hq
  simp only[ae h1,ji] at hq
  exact⟨bK,qp _ _ _ c (ae h1) hq⟩
 refine⟨(List.range (es.length*sz')).map fun q=>f (q / sz') (q % sz'),by simp,fun q u hq=>?_,fun q c hq=>?_,fun u hu=>?_⟩
 ·simp only[bb,aW] at hq
  obtain⟨q',Qc,rfl⟩:=hq
  have bK:=(ah.1 Qc).1
  simp at bK
  have hqq:q'=q:=by have:=(ah.1 Qc).2;simpa using this.symm
  subst hqq
  obtain⟨h1,h2,h3⟩:=gC q' bK
  have:=fb _ _ h1 h2
  rw[dF,← h3] at this
  exact this
 ·obtain⟨bK,iW⟩:=tN q c hq
  exact⟨_,by simp[bK],iW⟩
 ·simp only[bj,df] at hu
  obtain⟨q,hq,rfl⟩:=hu
  obtain⟨c,hc⟩:∃ c,es.flatten[q]?=some c:=⟨_,ae (by omega)⟩
  exact(tN q c hc).2.oneCell
theorem CR.flat {b off cap sz:Nat} {es:List (List C)} (h:CR I w (.slice (some ⟨b,off,none⟩) es.length cap) (.sl es)) (hs:∀ x∈es,x.length=sz) :
 ∃ vs:List Value,vs.length=es.length*sz∧(∀ (q:Nat) (u:Value),vs[q]?=some u→w.cell? ⟨b,off+q,none⟩=some u∧I b (off+q))∧
  (∀ (q:Nat) (c:C),es.flatten[q]?=some c→∃ u,vs[q]?=some u∧CR I w u c)∧(∀ u∈vs,u.oneCell'=true):=by
 rcases h.sl_inv with⟨_,rfl⟩ | ⟨b',off',cap',sz',f,hv,j7,Dm,fb,qp⟩
 ·exact⟨[],by simp,by simp,by simp,by simp⟩
 simp only[eM,ao,iE,gK,jt] at hv
 obtain⟨⟨rfl,rfl⟩,rfl⟩:=hv
 exact QL hs Dm fb qp
theorem CR.oldsOf {xa:Addr} {cap sz:Nat} {es:List (List C)} (h:CR I w (.slice (some xa) es.length cap) (.sl es)) (hs:∀ x∈es,x.length=sz) :
 ∃ vs:List Value,vs.length=es.length*sz∧(∀ (q:Nat) (u:Value),vs[q]?=some u→w.cell? (xa.add q)=some u)∧
  (∀ (q:Nat) (c:C),es.flatten[q]?=some c→∃ u,vs[q]?=some u∧CR I w u c)∧(∀ u∈vs,u.oneCell'=true):=by
 by_cases gW:es=[]
 ·subst gW;exact⟨[],by simp,by simp,by simp,by simp⟩
 ·rcases h.sl_inv with⟨_,h0⟩ | ⟨b,off,cap',_,_,hv,_⟩
  ·exact absurd h0 gW
  ·simp only[eM,ao] at hv
   obtain⟨rfl,_,_⟩:=hv
   obtain⟨vs,h1,h2,h3,h4⟩:=h.flat hs
   exact⟨vs,h1,fun q u hq=>by rw[c9];exact(h2 q u hq).1,h3,h4⟩
theorem RD.flat {b off cap sz:Nat} {es:List (List C)} (h:RD I w (.slice (some ⟨b,off,none⟩) es.length cap) es) (hs:∀ x∈es,x.length=sz) :
 ∃ vs:List Value,vs.length=es.length*sz∧(∀ (q:Nat) (u:Value),vs[q]?=some u→w.cell? ⟨b,off+q,none⟩=some u∧True)∧
  (∀ (q:Nat) (c:C),es.flatten[q]?=some c→∃ u,vs[q]?=some u∧CR I w u c)∧(∀ u∈vs,u.oneCell'=true):=by
 rcases h with⟨_,rfl⟩ | ⟨b',off',cap',sz',f,hv,j7,Dm,fb,qp⟩
 ·exact⟨[],by simp,by simp,by simp,by simp⟩
 simp only[eM,ao,iE,gK,jt] at hv
 obtain⟨⟨rfl,rfl⟩,rfl⟩:=hv
 exact QL (J:=fun _ _=>True) hs Dm (fun i j hi hj=>⟨fb i j hi hj,trivial⟩) qp
theorem RD.some' {a':Option Addr} {n m:Nat} {es:List (List C)} (h:RD I w (.slice a' n m) es) (gW:es≠[]):∃ b off,a'=some ⟨b,off,none⟩:=by
 rcases h with⟨_,h0⟩ | ⟨b,off,cap,sz,f,hv,_⟩
 ·exact absurd h0 gW
 ·cases hv;exact⟨b,off,rfl⟩
theorem St.growRow (h:St G n I0 M w0 I β ob s a w) {w':World} {r:Nat} (hg:w.grb w' (some r)) (hr:Wr M w0 r) (fb:∀ o,I r o→w'.cell? ⟨r,o,none⟩=w.cell? ⟨r,o,none⟩)
 (jV:∀ L,ob L≠some r) (hβ:∀ i,β i≠some r) {I':Ft} (h1:∀ b o,I b o→I' b o) (h2:∀ b o,I' b o→I b o∨b=r) (bK:r<w'.heap.size):St G n I0 M w0 I' β ob s a w':=by
 have hk:=h.keeps hg (fun r' e o ho=>by cases e;exact fb o ho)
 have hI:∀ b o,I b o→I' b o∧w'.cell? ⟨b,o,none⟩=w.cell? ⟨b,o,none⟩:=fun b o hb=>⟨h1 b o hb,hk b o hb⟩
 have wY:∀ L b,ob L=some b→w'.heap[b]?=w.heap[b]?∧∀ o,I' b o→I b o:=fun L b hL=>by
  have gW:b≠r:=fun e=>jV L (e▸hL)
  refine⟨hg.block b (h.obnd L b hL).1 (by simpa using gW),fun o ho=>?_⟩
  rcases h2 b o ho with h5 | h5
  ·exact h5
  ·exact absurd h5 gW
 exact {
  size:=h.size,defers:=h.defers
  below:=h.below.grown hg (fun k e=>by cases e;exact hr)
  kept:=fun b o h0=>(hk b o (h.ilow b o h0)).trans (h.kept b o h0)
  ilow:=fun b o hb=>h1 b o (h.ilow b o hb)
  ihigh:=fun b o hb=>by
   rcases h2 b o hb with h3 | h3
   ·exact h.ihigh b o h3
   ·exact .inr (by rw[h3];exact hr)
  ibnd:=fun b o hb=>by
   rcases h2 b o hb with h3 | h3
   ·exact bZ (h.ibnd b o h3) hg.size
   ·rw[h3];exact bK
  fr:=fun t=>(h.fr t).mono hI (fun _ _ e=>e) (wY (.t t))
  bx:=fun i hi=>by
   obtain⟨blk,cur,e1,e2,e3,e4,e5,e7⟩:=h.bx i hi
   have af1:blk<w.heap.size:=e3.lt
   have gW:blk≠r:=fun e=>hβ i (e▸e1)
   refine⟨blk,cur,e1,e2,e3.mono (hg.block blk af1 (by simpa using gW)),e4,fun j=>(e5 j).mono hI (fun _ _ e=>e) (wY (.b i j)),fun o ho=>?_⟩
   rcases h2 blk o ho with h3 | h3
   ·exact e7 o h3
   ·exact gW h3
  bnone:=h.bnone,ext:=h.ext,bnew:=h.bnew,binj:=h.binj,oinj:=h.oinj,obx:=h.obx
  obnd:=fun L b hL=>⟨bZ (h.obnd L b hL).1 hg.size,(h.obnd L b hL).2⟩
  glob:=fun g cs VS=>(h.glob g cs VS).mono hI }
theorem kN (olds news:List Value) (z:Array Value) (j:Nat) (u:Value) (h:(olds++news)[j]?=some u):(olds.toArray++news.toArray++z).getD j undef=u:=by
 have bK:=(ah.1 h).1
 simp at bK
 have:(olds.toArray++news.toArray++z)[j]?=some u:=by
  rw[eB (by simp;omega)]
  simpa using h
 rw[aj,this];rfl
theorem lL (T U ty e:TypeId) (i:TypeInfo) (ht:P.underlying T=some (.slice e)) (hi:P.info? e=some i) (b:Option Addr) (k cap:Nat) (hk:k≤cap) {x:Value} (hs:Src P i.size U x 0 [] w) :
 (Builtin.append_ #[T,U] ty #[.slice b k cap,x]).run P w=.ok (.slice b k cap) w:=by
 have hf:(Builtin.firstCells i.size 0 x).run P w=.ok #[] w:=hs.cells
 unfold Builtin.append_
 rcases hs.kind with⟨e',Qi⟩ | Qi<;>cases b<;>simp[aP ht,aP Qi,sizeOf,typeInfo,hi,hs.len,hk,hf,storeCells]
theorem fO (g o:Nat) (T:RT):∀ (vs:List Value) (i:Nat) (cur:Array Value) (w:World),w.heap[g]?=some (.cells cur T.t T.fz)→T.ok cur.size→o+i+vs.length≤cur.size→(∀ v∈vs,v.oneCell'=true)→
 (storeCells ⟨g,o,none⟩ vs i).run P w=.ok () (w.setRow g (cur.toList.take (o+i)++vs++cur.toList.drop (o+i+vs.length)).toArray)
 |[],i,cur,w,hg,_,_,_=>by
  simp only[storeCells,bq,aU,eC,dI,Array.toArray_toList]
  rw[setRow_self w g cur T.t T.fz hg]
  rfl
 |v::rest,i,cur,w,hg,hT,hl,h1=>by
  have hi:o+i<cur.size:=by simp at hl;omega
  have Dl:(⟨g,o,none⟩:Addr).add i=⟨g,o+i,none⟩:=by unfold Addr.add;split<;>simp_all
  have fb:w.cell? ⟨g,o+i,none⟩=some cur[o+i]:=by simp[World.cell?,hg,hi]
  have ald:w.frozen? ⟨g,o+i,none⟩=false:=by
   obtain⟨tt,lo,sy⟩:=T
   simp only[World.frozen?,hg,Bool.and_eq_false_iff,cQ]
   unfold RT.ok at hT
   simp only at hT
   omega
  have aR:(store ((⟨g,o,none⟩:Addr).add i) v).run P w=.ok () (w.setRow g (cur.setIfInBounds (o+i) v)):=by
   rw[Dl,run_store P w _ v _ (h1 v (by simp)),fb]
   simp[ald,setCell_eq_setRow w g (o+i) cur T.t T.fz v hg]
  have ih:=fO g o T rest (i+1) (cur.setIfInBounds (o+i) v) (w.setRow g (cur.setIfInBounds (o+i) v)) (lu w g cur _ T.t _ hg) (by simpa using hT) (by simp at hl ⊢;omega) (fun x hx=>h1 x (by simp[hx]))
  simp only[storeCells,aF,aR,ax,ih,setRow_setRow]
  congr 3
  have e:=list_seg_step cur.toList (o+i) v rest (by simp at hl ⊢;omega)
  simpa[Array.toList_setIfInBounds,dF] using e
theorem iN (t tx ty e:TypeId) (i:TypeInfo) (ht:P.underlying t=some (.slice e)) (hi:P.info? e=some i) (g off sLen sCap:Nat) (cur:Array Value) (T:RT) (hg:w.heap[g]?=some (.cells cur T.t T.fz)) (hT:T.ok cur.size)
 (x:Value) (n:Nat) (news:List Value) (hs:Src P i.size tx x n news w) (mB:sLen+n≤sCap) (tp:off+sLen*i.size+news.length≤cur.size) :
 (Builtin.append_ #[t,tx] ty #[.slice (some ⟨g,off,none⟩) sLen sCap,x]).run P w=
  .ok (.slice (some ⟨g,off,none⟩) (sLen+n) sCap) (w.setRow g (cur.toList.take (off+sLen*i.size)++news++cur.toList.drop (off+sLen*i.size+news.length)).toArray):=by
 have aR:=fO (P:=P) g (off+sLen*i.size) T news 0 cur w hg hT (by simpa using tp) hs.one
 simp only[eC] at aR
 rcases hs.kind with⟨e',hk⟩ | hk<;>simp[Builtin.append_,aP ht,aP hk,sizeOf,typeInfo,hi,hs.len,mB,hs.cells,c9,aR]
def GV (P:Program) (I:Ft) (w:World) (U:TypeId) (v:Value) (sz:Nat) (ys:List (List C)):Prop:=
 ∃ news:List Value,Src P sz U v ys.length news w∧∀ (q:Nat) (c:C),ys.flatten[q]?=some c→∃ u:Value,news[q]?=some u∧CR I w u c
theorem RD.src {U e':TypeId} {v:Value} {sz:Nat} {ys:List (List C)} (h:RD I w v ys) (hu:P.underlying U=some (.slice e')) (hs:∀ x∈ys,x.length=sz):GV P I w U v sz ys:=by
 rcases h with⟨⟨a0,c0,rfl,kQ⟩,rfl⟩ | ⟨b,off,cap,szx,f,rfl,j7,h1⟩
 ·cases a0 with
  |none=>exact⟨[],Src.ofNil w hu c0,by simp⟩
  |some x=>exact⟨[],Src.ofSlice w hu x 0 c0 [] (by simp) (by simp) (by simp),by simp⟩
 ·have h':RD I w (.slice (some ⟨b,off,none⟩) ys.length cap) ys:=.inr ⟨b,off,cap,szx,f,rfl,j7,h1⟩
  obtain⟨news,tX,JC,JY,EH⟩:=h'.flat hs
  exact⟨news,Src.ofSlice w hu ⟨b,off,none⟩ _ _ news tX (fun q u hq=>by rw[c9];exact(JC q u hq).1) EH,JY⟩
theorem WT {U:TypeId} {st:ByteArray} (hu:P.underlying U=some .string):GV P I w U (.string st) 1 (mF st):=by
 have hl:(mF st).length=st.size:=by simp[mF]
 refine⟨Go.byteCells st,by rw[hl];exact Src.ofString w hu st,fun q c hq=>?_⟩
 have:=mc (sz:=1) (mF st) (by simp[mF]) q 0 (by omega)
 rw[Nat.mul_one,eC] at this
 rw[this] at hq
 simp only[mF,bb] at hq
 unfold Go.byteCells
 rw[bb]
 cases hb:st.data.toList[q]? with
 |none=>simp[hb] at hq
 |some b=>
  simp only[hb,b8,ji,cw,ao] at hq
  exact⟨_,rfl,by rw[← hq];exact .lit _ rfl⟩
theorem CW {T U ty:TypeId} {X:Operand} {vy:Value} (aR:St G n I0 M w0 I β ob s a w) (hd:∀ d,o.dst=some d→d<n)
 (tw:bY tr o=(match X with | .tmp t=>some t | _=>none)) (h:dN P T (ev G s X) y K) (hy:∀ ys e,P.underlying T=some (.slice e)→∀ j,ti P e=some j→y=.c (.sl ys)→(∀ x∈ys,x.length=j.size)→GV P I w U vy j.size ys) :
 ∃ z u w',K z∧(Builtin.append_ #[T,U] ty #[a.eval X,vy]).run P w=.ok u w'∧SE G n I0 M w0 (s.after tr o z) (a.put o.dst u) w':=by
 have hx:=bH aR X
 unfold dN at h
 split at h
 ·rename_i e _ _ _ _ _ _ E es hi tO
  rw[tO] at hx
  obtain⟨j,d,h1,h2,h3,_⟩:=bB hi
  have qo:=dx h3
  subst qo
  split at h
  ·rename_i sz by_ _ z _ _ tW
   obtain⟨j',d',jf,mG,_,eT,su,_,lT,_⟩:=bB tW
   simp only at lT eT su
   obtain⟨⟨hp,uc,hE,pg⟩,h⟩:=h
   split at lT
   ·rename_i zv tM
    split at h
    ·rename_i ys
     obtain⟨⟨hb,cg,uS⟩,h⟩:=h
     obtain⟨news,rz,JY⟩:=hy ys e h2 _ tW rfl uS
     simp only at rz
     have tj:=kM (I:=I) (w:=w) lT.symm
     have Qa:zv.cells.size=sz:=by rw[tj.1,uc]
     have VU:=hx.2
     have qY:=hx.1
     have EG:(ev G s X).isOw=true:=by rw[tO];rfl
     by_cases Av:ys=[]
     ·
      subst Av
      simp only[List.isEmpty_nil,db] at h
      obtain⟨xa,xk,yy,hxk⟩:∃ (xa:Option Addr) (xk:Nat),a.eval X=.slice xa es.length xk∧es.length≤xk:=by
       rcases VU with⟨_,_,b,hv⟩ | ⟨_,blk,cap,_,_,_,_,hv,_,_,hc,_⟩
       ·exact⟨b,_,hv,ab _⟩
       ·exact⟨_,cap,hv,hc⟩
      refine⟨_,a.eval X,w,h,by
       have hn0:news=[]:=du (by rw[rz.newsLen];simp)
       subst hn0
       rw[yy];exact lL T U ty e j' h2 jf xa _ xk hxk (by rw[← eT];exact rz),?_⟩
      rw[bq]
      refine .fin aR hd (o':=QF ob X) ?_ fun b hb=>?_
      ·simp only[LR]
       refine⟨qY,?_⟩
       rcases VU with VU | ⟨e',blk,cap,cur,sz',e1,e2,e3⟩
       ·exact .inl VU
       ·exact .inr ⟨e',blk,cap,cur,sz',e1,e2,e3⟩
      ·cases X with
       |tmp t=>exact⟨aR.obnd _ b hb,fun i=>aR.obx _ b i hb,fun L hL=>⟨t,aR.oinj _ _ b hL hb,tw,EG⟩⟩
       |_=>cases hb
     ·have kU:ys.isEmpty=false:=by simpa using Av
      simp only[kU,aY,dm] at h
      have tX:=rz.newsLen
      have EH:=rz.one
      have qq:Src P j'.size U vy ys.length news w:=by rw[← eT];exact rz
      have grun:∀ (base:Option Addr) (sLen sCap:Nat) (olds:List Value) (_:(Builtin.firstCells j'.size sLen (.slice base sLen sCap)).run P w.drew=.ok olds.toArray w.drew) (_:sCap<sLen+ys.length) (_:sLen+ys.length≤9223372036854775807) (_:Builtin.nextslicecap (sLen+ys.length) sCap*j'.bytes≤281474976710656),
       (Builtin.append_ #[T,U] ty #[.slice base sLen sCap,vy]).run P w=.ok (.slice (some ⟨w.heap.size,0,none⟩) (sLen+ys.length) (grownCap w (sLen+ys.length) sCap e))
        (w.drew.alloc (.cells (olds.toArray++news.toArray++Builtin.zeroCells zv.cells (grownCap w (sLen+ys.length) sCap e - (sLen+ys.length))) e)):=by
       intro base sLen sCap olds ho hg h63 tp
       have:=run_append_grow_src (P:=P) w T U ty e j' zv h2 jf tM base sLen sCap olds ho vy ys.length news qq hg (by omega) tp
       rw[this];simp
      have Mf:0<ys.length:=fx.2 Av
      have eF:∀ x∈es++ys,x.length=sz:=fun x hx=>by rcases aV.1 hx with hx | hx;exact pg x hx;exact uS x hx
      have Cy:es.length+ys.length≤maxLen:=by unfold maxLen;omega
      have flat_eq:(es++ys).flatten=es.flatten++ys.flatten:=by simp
      have hfe:=bI es pg
      have grownCase:∀ (olds:List Value) (cap0:Nat),olds.length=es.length*sz→(∀ (q:Nat) (c:C),es.flatten[q]?=some c→∃ u,olds[q]?=some u∧CR I w u c)→
       SE G n I0 M w0 (s.after tr o (.ow (some (e,sz)) (es++ys))) (a.put o.dst (.slice (some ⟨w.heap.size,0,none⟩) (es.length+ys.length) (grownCap w (es.length+ys.length) cap0 e)))
        (w.drew.alloc (.cells (olds.toArray++news.toArray++Builtin.zeroCells zv.cells (grownCap w (es.length+ys.length) cap0 e - (es.length+ys.length))) e)):=by
       intro olds cap0 zg CM
       have gr:=grownCap_ge w (es.length+ys.length) cap0 e
       have Qb:=grownCap_le_maxLen w (es.length+ys.length) cap0 e Cy
       have:=SE.finRow (tr:=tr) (o:=o) (e:=e) (cap:=grownCap w (es.length+ys.length) cap0 e) (sz:=sz) (es:=es++ys)
        (cur:=olds.toArray++news.toArray++Builtin.zeroCells zv.cells (grownCap w (es.length+ys.length) cap0 e - (es.length+ys.length))) aR hd (w1:=w.drew) aR.drew rfl
        (by simpa using gr) Qb (by
         simp only[Array.size_append,eN,size_zeroCells,Qa,zg,tX,← di]
         congr 1
         omega) eF (fun q c hq=>by
          rw[flat_eq] at hq
          have nM:∃ u,(olds++news)[q]?=some u∧CR I w u c:=by
           by_cases mZ:q<es.flatten.length
           ·rw[az mZ] at hq
            obtain⟨u,hu,iW⟩:=CM q c hq
            exact⟨u,by rw[az (by omega)];exact hu,iW⟩
           ·rw[aH (by omega)] at hq
            obtain⟨u,hu,iW⟩:=JY _ c hq
            refine⟨u,?_,iW⟩
            rw[aH (by omega),← hu]
            congr 1;omega
          obtain⟨u,hu,iW⟩:=nM
          rw[kN olds news _ q u hu];exact iW) (fun _ _ _=>rfl)
       rw[ai] at this
       exact this
      rcases VU with⟨hob0,_,xa,yy⟩ | ⟨e',blk,cap,cur,sz',Mg,JW,yy,hbb,gY,hc,Qb,jc,dV,hIb⟩
      ·cases xa with
       |none=>
        have Gw:es=[]:=by
         rcases qY.sl_inv with⟨_,h1⟩ | ⟨b,off,cap,_,_,hv,_⟩
         ·exact h1
         ·rw[yy] at hv;cases hv
        subst Gw
        have bM:=grun none 0 0 [] (by simpa using run_firstCells_none (P:=P) w.drew j'.size 0 0 0) (by simp only[aU,aX] at cg;omega) (by simp only[aU,aX] at cg;omega)
         (by rw[← su];simp only[aU] at hb;exact iH (by omega) hb)
        simp only[aX] at bM
        have:=grownCase [] 0 (by simp) (by simp)
        simp only[eI,aU,aX,eQ] at this h
        refine⟨_,_,_,h,by rw[yy];exact bM,?_⟩
        simpa using this
       |some xaddr=>
        rw[yy] at qY
        obtain⟨olds,zg,holds,CM,_⟩:=qY.oldsOf pg
        have bM:=grun (some xaddr) es.length es.length olds (iV (P:=P) w.drew j'.size es.length xaddr es.length es.length olds (by rw[← eT];exact zg) (by simpa using holds)) (by omega) (by omega) (by rw[← su];exact iH (by omega) hb)
        exact⟨_,_,_,h,by rw[yy];exact bM,grownCase olds es.length zg CM⟩
      ·have hee:e'=e∧sz'=sz:=by
        rcases hE with hE | hE
        ·rw[hE] at JW;cases JW
        ·rw[hE] at JW;cases JW;exact⟨rfl,rfl⟩
       obtain⟨rfl,rfl⟩:=hee
       rw[yy] at qY
       obtain⟨olds,zg,holds,CM,_⟩:=qY.flat pg
       by_cases mB:es.length+ys.length≤cap
       ·
        cases X with
        |tmp t=>
         have tY:ob (.t t)=some blk:=Mg
         have bM:=iN (P:=P) (w:=w) T U ty e' j' h2 jf blk 0 es.length cap cur (.of e') gY RT.of_ok vy ys.length news qq mB (by
          rw[← eT,tX,jc,aX,← di];exact aO _ mB)
         rw[← eT] at bM
         simp only[aX] at bM
         refine⟨_,_,_,h,by rw[yy];exact bM,?_⟩
         have w9:blk<w.heap.size:=(bh.1 gY).1
         have NJ:es.length*sz'+news.length≤cur.size:=by
          rw[tX,jc,← di];exact aO _ mB
         have cK:=aR.clr t
         have nN:∀ o,o<es.length*sz'→(cur.toList.take (es.length*sz')++news++cur.toList.drop (es.length*sz'+news.length)).toArray[o]?=cur[o]?:=fun o ho=>by
          simp only[dq,aI]
          rw[az (by simp;omega),cF,if_pos ho,aM]
         have mA:∀ o,I blk o→(w.setRow blk (cur.toList.take (es.length*sz')++news++cur.toList.drop (es.length*sz'+news.length)).toArray).cell? ⟨blk,o,none⟩=w.cell? ⟨blk,o,none⟩:=fun o ho=>by
          rw[cell_setRow_same w blk o cur _ e' (0,0) gY,ff w blk o cur e' (0,0) gY]
          exact nN o (hIb o ho)
         have VV:∀ L,upL ob (.t t) none L≠some blk:=fun L hL=>by
          simp only[upL] at hL
          split at hL
          ·cases hL
          ·rename_i gW;exact gW (aR.oinj _ _ blk hL tY)
         have hg:w.grb (w.setRow blk (cur.toList.take (es.length*sz')++news++cur.toList.drop (es.length*sz'+news.length)).toArray) (some blk):=
          ⟨rfl,rfl,rfl,by simp,fun k _ hk=>jO w blk k _ (fun e=>hk (by rw[e])),ab _⟩
         have pj:=cK.growRow hg hbb mA VV (fun i=>aR.obx _ blk i tY) (I':=fun b o=>I b o∨(b=blk∧o<(es.length+ys.length)*sz'))
          (fun _ _ h=>.inl h) (fun b o hb=>by rcases hb with hb | hb;exact .inl hb;exact .inr hb.1) (by simpa using w9)
         have kb:∀ b o,I b o→(I b o∨(b=blk∧o<(es.length+ys.length)*sz'))∧
          (w.setRow blk (cur.toList.take (es.length*sz')++news++cur.toList.drop (es.length*sz'+news.length)).toArray).cell? ⟨b,o,none⟩=w.cell? ⟨b,o,none⟩:=
          fun b o hb=>⟨.inl hb,aR.keeps hg (fun r e o ho=>by cases e;exact mA o ho) b o hb⟩
         have sw:=lu w blk cur (cur.toList.take (es.length*sz')++news++cur.toList.drop (es.length*sz'+news.length)).toArray e' (0,0) gY
         have EI:(cur.toList.take (es.length*sz')++news++cur.toList.drop (es.length*sz'+news.length)).toArray.size=cap*sz':=by
          simp only[eN,ai,aN,cW,bP];omega
         have iW:CR (fun b o=>I b o∨(b=blk∧o<(es.length+ys.length)*sz')) (w.setRow blk (cur.toList.take (es.length*sz')++news++cur.toList.drop (es.length*sz'+news.length)).toArray)
          (.slice (some ⟨blk,0,none⟩) (es++ys).length cap) (.sl (es++ys)):=
          CR.row sw (by simpa using mB) eF (fun q c hq=>by
           have mZ:=(ah.1 hq).1
           rw[bI _ eF,ai,di] at mZ
           refine⟨by rw[EI,← jc];omega,?_⟩
           rw[flat_eq] at hq
           by_cases hq1:q<es.flatten.length
           ·rw[az hq1] at hq
            obtain⟨u,hu,iW⟩:=CM q c hq
            have fb:=(holds q u hu).1
            rw[aX,ff w blk q cur e' (0,0) gY] at fb
            rw[aj,nN q (by omega),fb]
            exact iW.mono kb
           ·rw[aH (by omega)] at hq
            obtain⟨u,hu,iW⟩:=JY _ c hq
            have:(cur.toList.take (es.length*sz')++news++cur.toList.drop (es.length*sz'+news.length)).toArray[q]?=some u:=by
             simp only[dq]
             have NK:(cur.toList.take (es.length*sz')).length=es.length*sz':=by
              have jI:cur.toList.length=cur.size:=bP
              rw[aN,jI];omega
             rw[az (by rw[ai,NK];omega),aH (by rw[NK];omega),← hu,NK,hfe]
            rw[aj,this]
            exact iW.mono kb) (fun o ho=>.inr ⟨rfl,by simpa using ho⟩)
         have Cz:s.after tr o (.ow (some (e',sz')) (es++ys))=(s.clr t).put o.dst (.ow (some (e',sz')) (es++ys)):=by
          unfold S.after
          rw[tw]
          simp only[S.use]
          have:(s.fr t).isOw=true:=EG
          rw[if_pos this]
         rw[Cz]
         cases lk:o.dst with
         |none=>exact⟨_,_,_,pj⟩
         |some dd=>
          refine⟨_,_,_,pj.put dd (hd dd lk) (o:=some blk) ?_ fun b hb=>?_⟩
          ·have ze:Value.slice (some ⟨blk,0,none⟩) (es.length+ys.length) cap=Value.slice (some ⟨blk,0,none⟩) (es++ys).length cap:=by rw[ai]
           rw[ze]
           simp only[LR]
           refine⟨iW,.inr ⟨e',blk,cap,_,sz',rfl,rfl,rfl,hbb,sw,by simpa using mB,Qb,EI,eF,fun o ho=>?_⟩⟩
           rw[ai]
           rcases ho with ho | ho
           ·have:=hIb o ho;rw[di];omega
           ·exact ho.2
          ·simp only[ao] at hb
           subst hb
           refine⟨⟨by simpa using w9,hbb⟩,fun L hL=>?_,fun i=>aR.obx _ blk i tY⟩
           simp only[upL] at hL
           split at hL
           ·cases hL
           ·split at hL
            ·cases hL
            ·rename_i h5 h6;exact h6 (aR.oinj _ _ blk hL tY)
        |_=>cases Mg
       ·have bM:=grun (some ⟨blk,0,none⟩) es.length cap olds (iV (P:=P) w.drew j'.size es.length ⟨blk,0,none⟩ es.length cap olds (by rw[← eT];exact zg) (fun q u hq=>by rw[c9];simpa using(holds q u hq).1)) (by omega) (by omega) (by rw[← su];exact iH (by omega) hb)
        exact⟨_,_,_,h,by rw[yy];exact bM,grownCase olds cap zg CM⟩
    ·exact h.elim
   ·cases lT
  ·exact h.elim
 ·exact h.elim
theorem GW {T U ty:TypeId} {t0:Tmp} {E:Option (TypeId×Nat)} {es:List (List C)} {vy:Value} (aR:St G n I0 M w0 I β ob s a w) (hd:∀ d,o.dst=some d→d<n)
 (tw:bY tr o=some t0) (tO:s.fr t0=.ow E es) (h:ud P [T,U] E es y K) (hy:∀ ys e,P.underlying T=some (.slice e)→∀ j,ti P e=some j→y=.c (.sl ys)→(∀ x∈ys,x.length=j.size)→GV P I w U vy j.size ys) :
 ∃ z u w',K z∧(Builtin.append_ #[T,U] ty #[a.tmps.getD t0 undef,vy]).run P w=.ok u w'∧SE G n I0 M w0 (s.after tr o z) (a.put o.dst u) w':=by
 have hx:=aR.fr t0
 rw[tO] at hx
 simp only[ud] at h
 obtain⟨rfl,h⟩:=h
 split at h
 ·rename_i e _ _ _ _ _ _ hi
  obtain⟨j,d,h1,h2,h3,_⟩:=bB hi
  have qo:=dx h3
  subst qo
  split at h
  ·rename_i sz by_ _ z _ _ tW
   obtain⟨j',d',jf,mG,_,eT,su,_,lT,_⟩:=bB tW
   simp only at lT eT su
   obtain⟨⟨hp,uc,hE,pg⟩,h⟩:=h
   split at lT
   ·rename_i zv tM
    split at h
    ·rename_i y1
     obtain⟨⟨hb,cg,EJ⟩,h⟩:=h
     have uS:∀ x∈[y1],x.length=sz:=fun x hx=>by rw[a7] at hx;subst hx;exact EJ
     obtain⟨news,rz,JY⟩:=hy [y1] e h2 _ tW rfl uS
     simp only at rz
     have tj:=kM (I:=I) (w:=w) lT.symm
     have Qa:zv.cells.size=sz:=by rw[tj.1,uc]
     have VU:=hx.2
     have qY:=hx.1
     have EG:(s.fr t0).isOw=true:=by rw[tO];rfl
     have Av:([y1]:List (List C))≠[]:=by simp
     have tX:=rz.newsLen
     have EH:=rz.one
     have qq:Src P j'.size T vy [y1].length news w:=by rw[← eT];exact rz
     have grun:∀ (base:Option Addr) (sLen sCap:Nat) (olds:List Value) (_:(Builtin.firstCells j'.size sLen (.slice base sLen sCap)).run P w.drew=.ok olds.toArray w.drew) (_:sCap<sLen+[y1].length) (_:sLen+[y1].length≤9223372036854775807) (_:Builtin.nextslicecap (sLen+[y1].length) sCap*j'.bytes≤281474976710656),
      (Builtin.append_ #[T,T] ty #[.slice base sLen sCap,vy]).run P w=.ok (.slice (some ⟨w.heap.size,0,none⟩) (sLen+[y1].length) (grownCap w (sLen+[y1].length) sCap e))
       (w.drew.alloc (.cells (olds.toArray++news.toArray++Builtin.zeroCells zv.cells (grownCap w (sLen+[y1].length) sCap e - (sLen+[y1].length))) e)):=by
      intro base sLen sCap olds ho hg h63 tp
      have:=run_append_grow_src (P:=P) w T T ty e j' zv h2 jf tM base sLen sCap olds ho vy [y1].length news qq hg (by omega) tp
      rw[this];simp
     have Mf:0<[y1].length:=fx.2 Av
     have eF:∀ x∈es++[y1],x.length=sz:=fun x hx=>by rcases aV.1 hx with hx | hx;exact pg x hx;exact uS x hx
     have Cy:es.length+[y1].length≤maxLen:=by unfold maxLen;omega
     have flat_eq:(es++[y1]).flatten=es.flatten++[y1].flatten:=by simp
     have hfe:=bI es pg
     have grownCase:∀ (olds:List Value) (cap0:Nat),olds.length=es.length*sz→(∀ (q:Nat) (c:C),es.flatten[q]?=some c→∃ u,olds[q]?=some u∧CR I w u c)→
      SE G n I0 M w0 (s.after tr o (.hh none (some (e,sz)) (es++[y1]))) (a.put o.dst (.slice (some ⟨w.heap.size,0,none⟩) (es.length+[y1].length) (grownCap w (es.length+[y1].length) cap0 e)))
       (w.drew.alloc (.cells (olds.toArray++news.toArray++Builtin.zeroCells zv.cells (grownCap w (es.length+[y1].length) cap0 e - (es.length+[y1].length))) e)):=by
      intro olds cap0 zg CM
      have gr:=grownCap_ge w (es.length+[y1].length) cap0 e
      have Qb:=grownCap_le_maxLen w (es.length+[y1].length) cap0 e Cy
      have:=SE.finRowH (tr:=tr) (o:=o) (e:=e) (cap:=grownCap w (es.length+[y1].length) cap0 e) (sz:=sz) (es:=es++[y1])
       (cur:=olds.toArray++news.toArray++Builtin.zeroCells zv.cells (grownCap w (es.length+[y1].length) cap0 e - (es.length+[y1].length))) aR hd (w1:=w.drew) aR.drew rfl
       (by simpa using gr) Qb (by
        simp only[Array.size_append,eN,size_zeroCells,Qa,zg,tX,← di]
        congr 1
        omega) eF (fun q c hq=>by
         rw[flat_eq] at hq
         have nM:∃ u,(olds++news)[q]?=some u∧CR I w u c:=by
          by_cases mZ:q<es.flatten.length
          ·rw[az mZ] at hq
           obtain⟨u,hu,iW⟩:=CM q c hq
           exact⟨u,by rw[az (by omega)];exact hu,iW⟩
          ·rw[aH (by omega)] at hq
           obtain⟨u,hu,iW⟩:=JY _ c hq
           refine⟨u,?_,iW⟩
           rw[aH (by omega),← hu]
           congr 1;omega
         obtain⟨u,hu,iW⟩:=nM
         rw[kN olds news _ q u hu];exact iW) (fun _ _ _=>rfl)
      rw[ai] at this
      exact this
     rcases VU with⟨hob0,_,xa,yy⟩ | ⟨e',blk,cap,cur,sz',Mg,JW,yy,hbb,gY,hc,Qb,jc,dV,hIb⟩
     ·cases xa with
      |none=>
       have Gw:es=[]:=by
        rcases qY.sl_inv with⟨_,h1⟩ | ⟨b,off,cap,_,_,hv,_⟩
        ·exact h1
        ·rw[yy] at hv;cases hv
       subst Gw
       have bM:=grun none 0 0 [] (by simpa using run_firstCells_none (P:=P) w.drew j'.size 0 0 0) (by simp only[aU,aX] at cg;omega) (by simp only[aU,aX] at cg;omega)
        (by rw[← su];simp only[aU] at hb;exact iH (by omega) hb)
       simp only[aX] at bM
       have:=grownCase [] 0 (by simp) (by simp)
       simp only[eI,aU,aX,eQ] at this h
       refine⟨_,_,_,h,by rw[yy];exact bM,?_⟩
       simpa using this
      |some xaddr=>
       rw[yy] at qY
       obtain⟨olds,zg,holds,CM,_⟩:=qY.oldsOf pg
       have bM:=grun (some xaddr) es.length es.length olds (iV (P:=P) w.drew j'.size es.length xaddr es.length es.length olds (by rw[← eT];exact zg) (by simpa using holds)) (by omega) (by omega) (by rw[← su];exact iH (by omega) hb)
       exact⟨_,_,_,h,by rw[yy];exact bM,grownCase olds es.length zg CM⟩
     ·have hee:e'=e∧sz'=sz:=by
       rcases hE with hE | hE
       ·rw[hE] at JW;cases JW
       ·rw[hE] at JW;cases JW;exact⟨rfl,rfl⟩
      obtain⟨rfl,rfl⟩:=hee
      rw[yy] at qY
      obtain⟨olds,zg,holds,CM,_⟩:=qY.flat pg
      by_cases mB:es.length+[y1].length≤cap
      ·
       have tY:ob (.t t0)=some blk:=Mg
       have bM:=iN (P:=P) (w:=w) T T ty e' j' h2 jf blk 0 es.length cap cur (.of e') gY RT.of_ok vy [y1].length news qq mB (by
        rw[← eT,tX,jc,aX,← di];exact aO _ mB)
       rw[← eT] at bM
       simp only[aX] at bM
       refine⟨_,_,_,h,by rw[yy];exact bM,?_⟩
       have w9:blk<w.heap.size:=(bh.1 gY).1
       have NJ:es.length*sz'+news.length≤cur.size:=by
        rw[tX,jc,← di];exact aO _ mB
       have cK:=aR.clr t0
       have nN:∀ o,o<es.length*sz'→(cur.toList.take (es.length*sz')++news++cur.toList.drop (es.length*sz'+news.length)).toArray[o]?=cur[o]?:=fun o ho=>by
        simp only[dq,aI]
        rw[az (by simp;omega),cF,if_pos ho,aM]
       have mA:∀ o,I blk o→(w.setRow blk (cur.toList.take (es.length*sz')++news++cur.toList.drop (es.length*sz'+news.length)).toArray).cell? ⟨blk,o,none⟩=w.cell? ⟨blk,o,none⟩:=fun o ho=>by
        rw[cell_setRow_same w blk o cur _ e' (0,0) gY,ff w blk o cur e' (0,0) gY]
        exact nN o (hIb o ho)
       have VV:∀ L,upL ob (.t t0) none L≠some blk:=fun L hL=>by
        simp only[upL] at hL
        split at hL
        ·cases hL
        ·rename_i gW;exact gW (aR.oinj _ _ blk hL tY)
       have hg:w.grb (w.setRow blk (cur.toList.take (es.length*sz')++news++cur.toList.drop (es.length*sz'+news.length)).toArray) (some blk):=
        ⟨rfl,rfl,rfl,by simp,fun k _ hk=>jO w blk k _ (fun e=>hk (by rw[e])),ab _⟩
       have pj:=cK.growRow hg hbb mA VV (fun i=>aR.obx _ blk i tY) (I':=I)
        (fun _ _ h=>h) (fun b o hb=>.inl hb) (by simpa using w9)
       have kb:∀ b o,I b o→I b o∧
        (w.setRow blk (cur.toList.take (es.length*sz')++news++cur.toList.drop (es.length*sz'+news.length)).toArray).cell? ⟨b,o,none⟩=w.cell? ⟨b,o,none⟩:=
        fun b o hb=>⟨hb,aR.keeps hg (fun r e o ho=>by cases e;exact mA o ho) b o hb⟩
       have sw:=lu w blk cur (cur.toList.take (es.length*sz')++news++cur.toList.drop (es.length*sz'+news.length)).toArray e' (0,0) gY
       have EI:(cur.toList.take (es.length*sz')++news++cur.toList.drop (es.length*sz'+news.length)).toArray.size=cap*sz':=by
        simp only[eN,ai,aN,cW,bP];omega
       have iW:∀ (q:Nat) (c:C),(es++[y1]).flatten[q]?=some c→CR I (w.setRow blk (cur.toList.take (es.length*sz')++news++cur.toList.drop (es.length*sz'+news.length)).toArray) ((cur.toList.take (es.length*sz')++news++cur.toList.drop (es.length*sz'+news.length)).toArray.getD q undef) c:=
        (fun q c hq=>by
         have mZ:=(ah.1 hq).1
         rw[bI _ eF,ai,di] at mZ
         rw[flat_eq] at hq
         by_cases hq1:q<es.flatten.length
         ·rw[az hq1] at hq
          obtain⟨u,hu,iW⟩:=CM q c hq
          have fb:=(holds q u hu).1
          rw[aX,ff w blk q cur e' (0,0) gY] at fb
          rw[aj,nN q (by omega),fb]
          exact iW.mono kb
         ·rw[aH (by omega)] at hq
          obtain⟨u,hu,iW⟩:=JY _ c hq
          have:(cur.toList.take (es.length*sz')++news++cur.toList.drop (es.length*sz'+news.length)).toArray[q]?=some u:=by
           simp only[dq]
           have NK:(cur.toList.take (es.length*sz')).length=es.length*sz':=by
            have jI:cur.toList.length=cur.size:=bP
            rw[aN,jI];omega
           rw[az (by rw[ai,NK];omega),aH (by rw[NK];omega),← hu,NK,hfe]
          rw[aj,this]
          exact iW.mono kb)
       have Cz:s.after tr o (.hh none (some (e',sz')) (es++[y1]))=(s.clr t0).put o.dst (.hh none (some (e',sz')) (es++[y1])):=by
        unfold S.after
        rw[tw]
        simp only[S.use]
        have:(s.fr t0).isOw=true:=EG
        rw[if_pos this]
       rw[Cz]
       cases lk:o.dst with
       |none=>exact⟨_,_,_,pj⟩
       |some dd=>
        refine⟨_,_,_,pj.put dd (hd dd lk) (o:=some blk) ?_ fun b hb=>?_⟩
        ·have ze:Value.slice (some ⟨blk,0,none⟩) (es.length+[y1].length) cap=Value.slice (some ⟨blk,0,none⟩) (es++[y1]).length cap:=by rw[ai]
         rw[ze]
         simp only[LR]
         refine⟨(fun _ h=>by cases h),e',blk,cap,_,sz',rfl,rfl,rfl,hbb,sw,by simpa using mB,Qb,EI,eF,iW,fun o ho=>?_,fun o ho=>?_⟩
         ·rw[ai,bF,Nat.add_sub_cancel] at ho
          obtain⟨u,hu⟩:∃ u,olds[o]?=some u:=⟨_,ae (by omega)⟩
          have:=(holds o u hu).2
          rwa [aX] at this
         ·rw[ai,bF,Nat.add_sub_cancel]
          exact hIb o ho
        ·simp only[ao] at hb
         subst hb
         refine⟨⟨by simpa using w9,hbb⟩,fun L hL=>?_,fun i=>aR.obx _ blk i tY⟩
         simp only[upL] at hL
         split at hL
         ·cases hL
         ·split at hL
          ·cases hL
          ·rename_i h5 h6;exact h6 (aR.oinj _ _ blk hL tY)
      ·have bM:=grun (some ⟨blk,0,none⟩) es.length cap olds (iV (P:=P) w.drew j'.size es.length ⟨blk,0,none⟩ es.length cap olds (by rw[← eT];exact zg) (fun q u hq=>by rw[c9];simpa using(holds q u hq).1)) (by omega) (by omega) (by rw[← su];exact iH (by omega) hb)
       exact⟨_,_,_,h,by rw[yy];exact bM,grownCase olds cap zg CM⟩
    ·exact h.elim
   ·cases lT
  ·exact h.elim
 ·exact h.elim
theorem vM {z:Array Value} {m:Nat} {u:Value} (h:u∈Builtin.zeroCells z m):u∈z:=by
 unfold Builtin.zeroCells at h
 simp only[Array.mem_map,Array.mem_range] at h
 obtain⟨i,hi,rfl⟩:=h
 have hz:0<z.size:=Nat.pos_of_ne_zero fun h=>by rw[h] at hi;simp at hi
 have bK:i % z.size<z.size:=Nat.mod_lt _ hz
 rw[getElem!_pos z _ bK]
 exact Array.getElem_mem bK
theorem zq {T U ty:TypeId} {t0:Tmp} {E:Option (TypeId×Nat)} {es:List (List C)} {vy:Value} (aR:St G n I0 M w0 I β ob s a w) (hd:∀ d,o.dst=some d→d<n)
 (tw:bY tr o=some t0) (tO:s.fr t0=.gs none E es) (h:nh P [T,U] E es y K) (hy:∀ ys e,P.underlying T=some (.slice e)→∀ j,ti P e=some j→y=.c (.sl ys)→(∀ x∈ys,x.length=j.size)→GV P I w U vy j.size ys) :
 ∃ z u w',K z∧(Builtin.append_ #[T,U] ty #[a.tmps.getD t0 undef,vy]).run P w=.ok u w'∧SE G n I0 M w0 (s.after tr o z) (a.put o.dst u) w':=by
 have hx:=aR.fr t0
 rw[tO] at hx
 simp only[nh] at h
 obtain⟨rfl,h⟩:=h
 split at h
 ·rename_i e _ _ _ _ _ _ hi
  obtain⟨j,d,h1,h2,h3,_⟩:=bB hi
  have qo:=dx h3
  subst qo
  split at h
  ·rename_i sz by_ _ z _ _ tW
   obtain⟨j',d',jf,mG,_,eT,su,_,lT,_⟩:=bB tW
   simp only at lT eT su
   obtain⟨⟨hp,uc,hE,pg⟩,h⟩:=h
   split at lT
   ·rename_i zv tM
    split at h
    ·rename_i y1
     obtain⟨⟨hb,cg,EJ⟩,h⟩:=h
     have uS:∀ x∈[y1],x.length=sz:=fun x hx=>by rw[a7] at hx;subst hx;exact EJ
     obtain⟨news,rz,JY⟩:=hy [y1] e h2 _ tW rfl uS
     simp only at rz
     have tj:=kM (I:=I) (w:=w) lT.symm
     have Qa:zv.cells.size=sz:=by rw[tj.1,uc]
     have zone:∀ u∈zv.cells,u.oneCell'=true:=fun u hu=>by
      obtain⟨q,hq,rfl⟩:=fA.1 hu
      have mZ:q<z.length:=by rw[← tj.1];exact hq
      have:=(tj.2 q _ (ae mZ)).oneCell
      simpa[ay hq,hq] using this
     have VU:=hx.2
     have EG:(s.fr t0).isOw=true:=by rw[tO];rfl
     have Av:([y1]:List (List C))≠[]:=by simp
     have tX:=rz.newsLen
     have EH:=rz.one
     have qq:Src P j'.size T vy [y1].length news w:=by rw[← eT];exact rz
     have grun:∀ (base:Option Addr) (sLen sCap:Nat) (olds:List Value) (_:(Builtin.firstCells j'.size sLen (.slice base sLen sCap)).run P w.drew=.ok olds.toArray w.drew) (_:sCap<sLen+[y1].length) (_:sLen+[y1].length≤9223372036854775807) (_:Builtin.nextslicecap (sLen+[y1].length) sCap*j'.bytes≤281474976710656),
      (Builtin.append_ #[T,T] ty #[.slice base sLen sCap,vy]).run P w=.ok (.slice (some ⟨w.heap.size,0,none⟩) (sLen+[y1].length) (grownCap w (sLen+[y1].length) sCap e))
       (w.drew.alloc (.cells (olds.toArray++news.toArray++Builtin.zeroCells zv.cells (grownCap w (sLen+[y1].length) sCap e - (sLen+[y1].length))) e)):=by
      intro base sLen sCap olds ho hg h63 tp
      have:=run_append_grow_src (P:=P) w T T ty e j' zv h2 jf tM base sLen sCap olds ho vy [y1].length news qq hg (by omega) tp
      rw[this];simp
     have Mf:0<[y1].length:=fx.2 Av
     have eF:∀ x∈es++[y1],x.length=sz:=fun x hx=>by rcases aV.1 hx with hx | hx;exact pg x hx;exact uS x hx
     have Cy:es.length+[y1].length≤maxLen:=by unfold maxLen;omega
     have flat_eq:(es++[y1]).flatten=es.flatten++[y1].flatten:=by simp
     have hfe:=bI es pg
     have grownCase:∀ (olds:List Value) (cap0:Nat),olds.length=es.length*sz→(∀ (q:Nat) (c:C),es.flatten[q]?=some c→∃ u,olds[q]?=some u∧CR I w u c)→(∀ u∈olds,u.oneCell'=true)→
      SE G n I0 M w0 (s.after tr o (.gs none (some (e,sz)) (es++[y1]))) (a.put o.dst (.slice (some ⟨w.heap.size,0,none⟩) (es.length+[y1].length) (grownCap w (es.length+[y1].length) cap0 e)))
       (w.drew.alloc (.cells (olds.toArray++news.toArray++Builtin.zeroCells zv.cells (grownCap w (es.length+[y1].length) cap0 e - (es.length+[y1].length))) e)):=by
      intro olds cap0 zg CM ho1
      have gr:=grownCap_ge w (es.length+[y1].length) cap0 e
      have Qb:=grownCap_le_maxLen w (es.length+[y1].length) cap0 e Cy
      have:=SE.finRowG (tr:=tr) (o:=o) (e:=e) (cap:=grownCap w (es.length+[y1].length) cap0 e) (sz:=sz) (es:=es++[y1])
       (cur:=olds.toArray++news.toArray++Builtin.zeroCells zv.cells (grownCap w (es.length+[y1].length) cap0 e - (es.length+[y1].length))) aR hd (w1:=w.drew) aR.drew rfl
       (by simpa using gr) Qb (by
        simp only[Array.size_append,eN,size_zeroCells,Qa,zg,tX,← di]
        congr 1
        omega) eF (fun q c hq=>by
         rw[flat_eq] at hq
         have nM:∃ u,(olds++news)[q]?=some u∧CR I w u c:=by
          by_cases mZ:q<es.flatten.length
          ·rw[az mZ] at hq
           obtain⟨u,hu,iW⟩:=CM q c hq
           exact⟨u,by rw[az (by omega)];exact hu,iW⟩
          ·rw[aH (by omega)] at hq
           obtain⟨u,hu,iW⟩:=JY _ c hq
           refine⟨u,?_,iW⟩
           rw[aH (by omega),← hu]
           congr 1;omega
         obtain⟨u,hu,iW⟩:=nM
         rw[kN olds news _ q u hu];exact iW) (fun u hu=>by
          simp only[Array.mem_append,gu] at hu
          rcases hu with(hu | hu) | hu
          ·exact ho1 u hu
          ·exact EH u hu
          ·exact zone u (vM hu)) (fun _ _ _=>rfl)
      rw[ai] at this
      exact this
     rcases VU with⟨hob0,hE0,Gw,xa,yy⟩ | ⟨e',blk,cap,cur,sz',Mg,JW,yy,hbb,gY,hc,Qb,jc,dV,CL,jE,mH⟩
     ·subst Gw
      have nilCase:∀ (base:Option Addr),(Builtin.append_ #[T,T] ty #[.slice base 0 0,vy]).run P w=.ok (.slice (some ⟨w.heap.size,0,none⟩) (0+[y1].length) (grownCap w (0+[y1].length) 0 e))
       (w.drew.alloc (.cells (([]:List Value).toArray++news.toArray++Builtin.zeroCells zv.cells (grownCap w (0+[y1].length) 0 e - (0+[y1].length))) e)):=fun base=>by
       refine grun base 0 0 [] ?_ (by simp) (by simp) (by rw[← su];exact iH (by simp) (by simpa using hb))
       cases base with
       |none=>simpa using run_firstCells_none (P:=P) w.drew j'.size 0 0 0
       |some xaddr=>exact iV (P:=P) w.drew j'.size 0 xaddr 0 0 [] (by simp) (by simp)
      have bM:=nilCase xa
      have:=grownCase [] 0 (by simp) (by simp) (by simp)
      simp only[eI,aU,aX,eQ] at this h bM
      refine⟨_,_,_,h,by rw[yy];exact bM,?_⟩
      simpa using this
     ·have hee:e'=e∧sz'=sz:=by
       rcases hE with hE | hE
       ·rw[hE] at JW;cases JW
       ·rw[hE] at JW;cases JW;exact⟨rfl,rfl⟩
      obtain⟨rfl,rfl⟩:=hee
      have alf:=aO sz' hc
      obtain⟨olds,zg,aga⟩:∃ olds:List Value,olds.length=es.length*sz'∧∀ q,q<es.length*sz'→olds[q]?=cur[q]?:=⟨cur.toList.take (es.length*sz'),by rw[aN];exact bO (by have h9:cur.toList.length=cur.size:=bP;rw[h9,jc];exact alf),fun q hq=>by rw[cF,if_pos hq,aM]⟩
      have CM:∀ (q:Nat) (c:C),es.flatten[q]?=some c→∃ u,olds[q]?=some u∧CR I w u c:=fun q c hq=>by
       have mZ:=(ah.1 hq).1
       rw[hfe] at mZ
       refine⟨cur.getD q undef,?_,CL q c hq⟩
       rw[aga q mZ,aj,ay (show q<cur.size by omega)];rfl
      have ho1:∀ u∈olds,u.oneCell'=true:=fun u hu=>by
       obtain⟨q,hq,rfl⟩:=gU hu
       have h7:=aga q (by omega)
       rw[ae hq] at h7
       exact jE _ (fX h7.symm)
      have holds:∀ (q:Nat) (u:Value),olds[q]?=some u→w.cell? ⟨blk,0+q,none⟩=some u:=fun q u hq=>by
       have mZ:=(ah.1 hq).1
       rw[aX,ff w blk q cur e' (0,0) gY,← hq,aga q (by omega)]
      by_cases mB:es.length+[y1].length≤cap
      ·
       have tY:ob (.t t0)=some blk:=Mg
       have bM:=iN (P:=P) (w:=w) T T ty e' j' h2 jf blk 0 es.length cap cur (.of e') gY RT.of_ok vy [y1].length news qq mB (by
        rw[← eT,tX,jc,aX,← di];exact aO _ mB)
       rw[← eT] at bM
       simp only[aX] at bM
       refine⟨_,_,_,h,by rw[yy];exact bM,?_⟩
       have w9:blk<w.heap.size:=(bh.1 gY).1
       have NJ:es.length*sz'+news.length≤cur.size:=by
        rw[tX,jc,← di];exact aO _ mB
       have cK:=aR.clr t0
       have nN:∀ o,o<es.length*sz'→(cur.toList.take (es.length*sz')++news++cur.toList.drop (es.length*sz'+news.length)).toArray[o]?=cur[o]?:=fun o ho=>by
        simp only[dq,aI]
        rw[az (by simp;omega),cF,if_pos ho,aM]
       have mA:∀ o,I blk o→(w.setRow blk (cur.toList.take (es.length*sz')++news++cur.toList.drop (es.length*sz'+news.length)).toArray).cell? ⟨blk,o,none⟩=w.cell? ⟨blk,o,none⟩:=fun o ho=>by
        exact absurd ho (mH o)
       have VV:∀ L,upL ob (.t t0) none L≠some blk:=fun L hL=>by
        simp only[upL] at hL
        split at hL
        ·cases hL
        ·rename_i gW;exact gW (aR.oinj _ _ blk hL tY)
       have hg:w.grb (w.setRow blk (cur.toList.take (es.length*sz')++news++cur.toList.drop (es.length*sz'+news.length)).toArray) (some blk):=
        ⟨rfl,rfl,rfl,by simp,fun k _ hk=>jO w blk k _ (fun e=>hk (by rw[e])),ab _⟩
       have pj:=cK.growRow hg hbb mA VV (fun i=>aR.obx _ blk i tY) (I':=I)
        (fun _ _ h=>h) (fun b o hb=>.inl hb) (by simpa using w9)
       have kb:∀ b o,I b o→I b o∧
        (w.setRow blk (cur.toList.take (es.length*sz')++news++cur.toList.drop (es.length*sz'+news.length)).toArray).cell? ⟨b,o,none⟩=w.cell? ⟨b,o,none⟩:=
        fun b o hb=>⟨hb,aR.keeps hg (fun r e o ho=>by cases e;exact mA o ho) b o hb⟩
       have sw:=lu w blk cur (cur.toList.take (es.length*sz')++news++cur.toList.drop (es.length*sz'+news.length)).toArray e' (0,0) gY
       have EI:(cur.toList.take (es.length*sz')++news++cur.toList.drop (es.length*sz'+news.length)).toArray.size=cap*sz':=by
        simp only[eN,ai,aN,cW,bP];omega
       have iW:∀ (q:Nat) (c:C),(es++[y1]).flatten[q]?=some c→CR I (w.setRow blk (cur.toList.take (es.length*sz')++news++cur.toList.drop (es.length*sz'+news.length)).toArray) ((cur.toList.take (es.length*sz')++news++cur.toList.drop (es.length*sz'+news.length)).toArray.getD q undef) c:=
        (fun q c hq=>by
         have mZ:=(ah.1 hq).1
         rw[bI _ eF,ai,di] at mZ
         rw[flat_eq] at hq
         by_cases hq1:q<es.flatten.length
         ·rw[az hq1] at hq
          obtain⟨u,hu,iW⟩:=CM q c hq
          have fb:=holds q u hu
          rw[aX,ff w blk q cur e' (0,0) gY] at fb
          rw[aj,nN q (by omega),fb]
          exact iW.mono kb
         ·rw[aH (by omega)] at hq
          obtain⟨u,hu,iW⟩:=JY _ c hq
          have:(cur.toList.take (es.length*sz')++news++cur.toList.drop (es.length*sz'+news.length)).toArray[q]?=some u:=by
           simp only[dq]
           have NK:(cur.toList.take (es.length*sz')).length=es.length*sz':=by
            have jI:cur.toList.length=cur.size:=bP
            rw[aN,jI];omega
           rw[az (by rw[ai,NK];omega),aH (by rw[NK];omega),← hu,NK,hfe]
          rw[aj,this]
          exact iW.mono kb)
       have Cz:s.after tr o (.gs none (some (e',sz')) (es++[y1]))=(s.clr t0).put o.dst (.gs none (some (e',sz')) (es++[y1])):=by
        unfold S.after
        rw[tw]
        simp only[S.use]
        have:(s.fr t0).isOw=true:=EG
        rw[if_pos this]
       rw[Cz]
       cases lk:o.dst with
       |none=>exact⟨_,_,_,pj⟩
       |some dd=>
        refine⟨_,_,_,pj.put dd (hd dd lk) (o:=some blk) ?_ fun b hb=>?_⟩
        ·have ze:Value.slice (some ⟨blk,0,none⟩) (es.length+[y1].length) cap=Value.slice (some ⟨blk,0,none⟩) (es++[y1]).length cap:=by rw[ai]
         rw[ze]
         simp only[LR]
         exact⟨(fun _ h=>by cases h),.inr ⟨e',blk,cap,_,sz',rfl,rfl,rfl,hbb,sw,by simpa using mB,Qb,EI,eF,iW,fun u hu=>by
          rw[gu] at hu
          rcases aV.1 hu with hu | hu
          ·rcases aV.1 hu with hu | hu
           ·exact jE u (cm.1 (cn hu))
           ·exact EH u hu
          ·exact jE u (cm.1 (cT hu)),mH⟩⟩
        ·simp only[ao] at hb
         subst hb
         refine⟨⟨by simpa using w9,hbb⟩,fun L hL=>?_,fun i=>aR.obx _ blk i tY⟩
         simp only[upL] at hL
         split at hL
         ·cases hL
         ·split at hL
          ·cases hL
          ·rename_i h5 h6;exact h6 (aR.oinj _ _ blk hL tY)
      ·have bM:=grun (some ⟨blk,0,none⟩) es.length cap olds (iV (P:=P) w.drew j'.size es.length ⟨blk,0,none⟩ es.length cap olds (by rw[← eT];exact zg) (fun q u hq=>by rw[c9];simpa using holds q u hq)) (by omega) (by omega) (by rw[← su];exact iH (by omega) hb)
       exact⟨_,_,_,h,by rw[yy];exact bM,grownCase olds cap zg CM ho1⟩
    ·exact h.elim
   ·cases lT
  ·exact h.elim
 ·exact h.elim
theorem CX {T ty:TypeId} {vx vy:Value} {ox:Option Nat} {es:List (List C)} {d:Option Tmp} {K:S→Prop} (aR:St G n I0 M w0 I β ob s a w)
 (hx:LR (Wr M w0) I β w ox vx (.ow none es)) (h:dN P T (.ow none es) y (WL s d K)) (hy:∀ ys,y=.c (.sl ys)→RD I w vy ys) :
 ∃ (e:TypeId) (sz:Nat) (es':List (List C)) (cells:Array Value) (cap:Nat),K ({ s with bx:=up s.bx s.nb (es'.flatten.map .c),nb:=s.nb+1 }.put d (.ms s.nb 0 es'.length es'.length sz))∧
  (Builtin.append_ #[T,T] ty #[vx,vy]).run P w=.ok (.slice (some ⟨w.heap.size,0,none⟩) es'.length cap) (w.drew.alloc (.cells cells e))∧es'.length≤cap∧es'.flatten.length≤cells.size∧
  (∀ q c,es'.flatten[q]?=some c→CR I w (cells.getD q undef) c)∧(∀ u∈cells,u.oneCell'=true):=by
 unfold dN at h
 split at h
 ·rename_i e _ _ _ _ _ _ E es1 hi tO
  cases tO
  obtain⟨j,d,h1,h2,h3,_⟩:=bB hi
  have qo:=dx h3
  subst qo
  split at h
  ·rename_i sz by_ _ z _ _ tW
   obtain⟨j',d',jf,mG,_,eT,su,_,lT,_⟩:=bB tW
   simp only at lT eT su
   obtain⟨⟨hp,uc,hE,pg⟩,h⟩:=h
   split at lT
   ·rename_i zv tM
    split at h
    ·rename_i ys
     obtain⟨⟨hb,cg,uS⟩,h⟩:=h
     by_cases Av:ys=[]
     ·subst Av
      simp only[List.isEmpty_nil,db] at h
      exact h.elim
     have kU:ys.isEmpty=false:=by simpa using Av
     simp only[kU,aY,dm] at h
     have VQ:=hy _ rfl
     have tj:=kM (I:=I) (w:=w) lT.symm
     have Qa:zv.cells.size=sz:=by rw[tj.1,uc]
     obtain⟨vsl,hvy⟩:∃ (p:Option Addr×Nat),vy=.slice p.1 ys.length p.2:=by
      rcases VQ with⟨h0,h1⟩ | ⟨b,off,cap,_,_,hv,_⟩
      ·obtain⟨a0,c0,h0,_⟩:=h0;exact⟨(a0,c0),by rw[h0,h1];rfl⟩
      ·exact⟨(some ⟨b,off,none⟩,cap),hv⟩
     obtain⟨ya,yc⟩:=vsl
     simp only at hvy
     subst hvy
     have VU:=hx.2
     have qY:=hx.1
     obtain⟨yb,yoff,rfl⟩:=VQ.some' Av
     obtain⟨news,tX,JC,JY,EH⟩:=VQ.flat uS
     have VW:∀ (q:Nat) (u:Value),news[q]?=some u→w.cell? ((⟨yb,yoff,none⟩:Addr).add q)=some u:=fun q u hq=>by rw[c9];exact(JC q u hq).1
     have Mf:0<ys.length:=fx.2 Av
     have eF:∀ x∈es++ys,x.length=sz:=fun x hx=>by rcases aV.1 hx with hx | hx;exact pg x hx;exact uS x hx
     have Cy:es.length+ys.length≤maxLen:=by unfold maxLen;omega
     have flat_eq:(es++ys).flatten=es.flatten++ys.flatten:=by simp
     have hfe:=bI es pg
     have hfa:=bI (es++ys) eF
     have zone:∀ u∈zv.cells,u.oneCell'=true:=fun u hu=>by
      obtain⟨q,hq,rfl⟩:=fA.1 hu
      have mZ:q<z.length:=by rw[← tj.1];exact hq
      have:=(tj.2 q _ (ae mZ)).oneCell
      simpa[ay hq,hq] using this
     have fin:∀ (olds:List Value) (cap0:Nat),olds.length=es.length*sz→(∀ (q:Nat) (c:C),es.flatten[q]?=some c→∃ u,olds[q]?=some u∧CR I w u c)→(∀ u∈olds,u.oneCell'=true)→
      (Builtin.append_ #[T,T] ty #[vx,.slice (some ⟨yb,yoff,none⟩) ys.length yc]).run P w=.ok (.slice (some ⟨w.heap.size,0,none⟩) (es.length+ys.length) (grownCap w (es.length+ys.length) cap0 e))
       (w.drew.alloc (.cells (olds.toArray++news.toArray++Builtin.zeroCells zv.cells (grownCap w (es.length+ys.length) cap0 e - (es.length+ys.length))) e))→
      ∃ (e:TypeId) (sz:Nat) (es':List (List C)) (cells:Array Value) (cap:Nat),K ({ s with bx:=up s.bx s.nb (es'.flatten.map .c),nb:=s.nb+1 }.put ‹Option Tmp› (.ms s.nb 0 es'.length es'.length sz))∧
       (Builtin.append_ #[T,T] ty #[vx,.slice (some ⟨yb,yoff,none⟩) ys.length yc]).run P w=.ok (.slice (some ⟨w.heap.size,0,none⟩) es'.length cap) (w.drew.alloc (.cells cells e))∧es'.length≤cap∧es'.flatten.length≤cells.size∧
       (∀ q c,es'.flatten[q]?=some c→CR I w (cells.getD q undef) c)∧(∀ u∈cells,u.oneCell'=true):=by
      intro olds cap0 zg CM ho1 bM
      have gr:=grownCap_ge w (es.length+ys.length) cap0 e
      refine⟨e,sz,es++ys,_,_,h,by rw[ai];exact bM,by rw[ai];exact gr,?_,fun q c hq=>?_,fun u hu=>?_⟩
      ·rw[hfa,ai]
       simp only[Array.size_append,eN,zg,tX,← di]
       omega
      ·rw[flat_eq] at hq
       have nM:∃ u,(olds++news)[q]?=some u∧CR I w u c:=by
        by_cases mZ:q<es.flatten.length
        ·rw[az mZ] at hq
         obtain⟨u,hu,iW⟩:=CM q c hq
         exact⟨u,by rw[az (by omega)];exact hu,iW⟩
        ·rw[aH (by omega)] at hq
         obtain⟨u,hu,iW⟩:=JY _ c hq
         refine⟨u,?_,iW⟩
         rw[aH (by omega),← hu]
         congr 1;omega
       obtain⟨u,hu,iW⟩:=nM
       rw[kN olds news _ q u hu];exact iW
      ·simp only[Array.mem_append,gu] at hu
       rcases hu with(hu | hu) | hu
       ·exact ho1 u hu
       ·exact EH u hu
       ·exact zone u (vM hu)
     rcases VU with⟨hob0,_,xa,yy⟩ | ⟨e',blk,cap,cur,sz',Mg,JW,_⟩
     ·cases xa with
      |none=>
       have Gw:es=[]:=by
        rcases qY.sl_inv with⟨_,h1⟩ | ⟨b,off,cap,_,_,hv,_⟩
        ·exact h1
        ·rw[yy] at hv;cases hv
       subst Gw
       have bM:=run_append_nil (P:=P) w T ty e j' zv h2 jf tM ⟨yb,yoff,none⟩ ys.length yc news (by rw[← eT];exact tX) VW Mf (by simp only[aU,aX] at cg;omega) (by rw[← su];simp only[aU,aX] at hb;omega)
       refine fin [] 0 (by simp) (by simp) (by simp) ?_
       rw[yy]
       simpa using bM
      |some xaddr=>
       rw[yy] at qY
       obtain⟨olds,zg,holds,CM,ho1⟩:=qY.oldsOf pg
       have bM:=run_append_grow (P:=P) w T ty e j' zv h2 jf tM xaddr es.length es.length olds (by rw[← eT];exact zg) holds
        ⟨yb,yoff,none⟩ ys.length yc news (by rw[← eT];exact tX) VW (by omega) (by omega) (by rw[← su];exact iH (by omega) hb)
       exact fin olds es.length zg CM ho1 (by rw[yy];exact bM)
     ·cases JW
    ·exact h.elim
   ·cases lT
  ·exact h.elim
 ·exact h.elim
end
section
variable {P:Program} {G:Gl} {tr:List Nat} {n:Nat} {I0:Ft} {M:Mx} {w0:World} {I:Ft} {β:Nat→Option Nat} {ob:Loc→Option Nat} {s:S} {a:Act} {w:World} {o:Oper}
 {next:Act→World→Prop} {Q:Exit→Act→World→Prop} {base:Nat→Prop} {v:Value} {x y:V} {K:V→Prop}
theorem sE (isSlice:Bool) (len cap:Nat) (lo hi:Option Value) (l h:Int) (hl:(lo=none∧l=0)∨∃ k,lo=some (.int k l)) (hh:(hi=none∧h=len)∨∃ k,hi=some (.int k h))
 (h0:0≤l) (h1:l≤h) (h2:h≤len) (hc:len≤cap):(Instr.sliceBounds isSlice len cap lo hi none).run P w=.ok (l.toNat,h.toNat,cap) w:=by
 have eh:(h.toNat:Int)=h:=gV (by omega)
 unfold Instr.sliceBounds
 have e0:(0:Int)≤h:=by omega
 have e1:h≤(cap:Int):=by omega
 rcases hl with⟨rfl,rfl⟩ | ⟨kl,rfl⟩<;>rcases hh with⟨rfl,rfl⟩ | ⟨kh,rfl⟩<;>
  simp[run_sliceBound,h0,h1,eh,e0,e1]
theorem GX (isSlice:Bool) (len cap:Nat) (lo hi:Option Value) (l h:Int) (km:IntKind) (hl:(lo=none∧l=0)∨∃ k,lo=some (.int k l)) (hh:∃ k,hi=some (.int k h))
 (h0:0≤l) (h1:l≤h) (h2:h≤cap):(Instr.sliceBounds isSlice len cap lo hi (some (.int km h))).run P w=.ok (l.toNat,h.toNat,h.toNat) w:=by
 have eh:(h.toNat:Int)=h:=gV (by omega)
 unfold Instr.sliceBounds
 have e0:(0:Int)≤h:=by omega
 rcases hl with⟨rfl,rfl⟩ | ⟨kl,rfl⟩<;>obtain⟨kh,rfl⟩:=hh<;>simp[run_sliceBound,h0,h1,h2,eh,e0]
theorem zr (len cap:Nat) (lo hi:Option Value) (l h:Int) (hl:(lo=none∧l=0)∨∃ k,lo=some (.int k l)) (hh:(hi=none∧h=len)∨∃ k,hi=some (.int k h))
 (h0:0≤l) (h1:l≤h) (h2:h≤cap):(Instr.sliceBounds true len cap lo hi none).run P w=.ok (l.toNat,h.toNat,cap) w:=by
 have eh:(h.toNat:Int)=h:=gV (by omega)
 unfold Instr.sliceBounds
 have e0:(0:Int)≤h:=by omega
 rcases hl with⟨rfl,rfl⟩ | ⟨kl,rfl⟩<;>rcases hh with⟨rfl,rfl⟩ | ⟨kh,rfl⟩<;>
  simp[run_sliceBound,h0,h1,h2,eh,e0]
theorem zt (len cap:Nat) (lo hi:Option Value) (l h m:Int) (km:IntKind) (hl:(lo=none∧l=0)∨∃ k,lo=some (.int k l)) (hh:∃ k,hi=some (.int k h))
 (h0:0≤l) (h1:l≤h) (h2:h≤m) (h3:m≤cap):(Instr.sliceBounds true len cap lo hi (some (.int km m))).run P w=.ok (l.toNat,h.toNat,m.toNat) w:=by
 have eh:(h.toNat:Int)=h:=gV (by omega)
 have em:(m.toNat:Int)=m:=gV (by omega)
 unfold Instr.sliceBounds
 have e0:(0:Int)≤h:=by omega
 have e2:(0:Int)≤m:=by omega
 rcases hl with⟨rfl,rfl⟩ | ⟨kl,rfl⟩<;>obtain⟨kh,rfl⟩:=hh<;>
  simp[run_sliceBound,h0,h1,h2,h3,eh,em,e0,e2]
theorem kX (aR:St G n I0 M w0 I β ob s a w) {d:Int} {lo:Option Operand} {l:Int} (h:jP d (lo.map (ev G s))=some l):(lo.map a.eval=none∧l=d)∨∃ k,lo.map a.eval=some (.int k l):=by
 cases lo with
 |none=>simp[jP] at h;exact .inl ⟨rfl,h.symm⟩
 |some x=>
  have hx:=bH aR x
  simp only[b8,jP] at h
  split at h
  ·cases ‹some _=none›
  ·rename_i k m he
   simp only[ao] at he h
   subst h
   rw[he] at hx
   exact .inr ⟨k,by rw[b8,hx.lit]⟩
  ·cases h
theorem pD {sz:Nat}:∀ (m:Nat) (cs:List C) (i:Nat),i<m→(oF sz m cs)[i]?=some ((cs.drop (i*sz)).take sz)
 |0,_,i,h=>by omega
 |m+1,cs,0,_=>by simp[oF]
 |m+1,cs,i+1,h=>by
  simp only[oF,dp]
  rw[pD m _ i (by omega),gb]
  congr 3
  rw[dZ];omega
theorem rf {sz:Nat}:∀ (m:Nat) (cs:List C),(oF sz m cs).length=m
 |0,_=>rfl
 |m+1,cs=>by simp[oF,rf m]
theorem E4 (aR:St G n I0 M w0 I β ob s a w) {i off len cap sz:Nat} {c:C} {v:Value} (h:mJ s i off len sz=some c)
 (hx:len≤cap∧∃ blk off' cap',cap≤cap'∧β i=some blk∧(cap'=0∨off'=off)∧v=.slice (some ⟨blk,off',none⟩) len cap') :
 ∃ (es:List (List C)) (blk off' cap':Nat) (f:Nat→Nat→Value),c=.sl es∧v=.slice (some ⟨blk,off',none⟩) es.length cap'∧es.length≤cap'∧β i=some blk∧(∀ e∈es,e.length=sz)∧
  (∀ p q,p<es.length→q<sz→w.cell? ⟨blk,off'+p*sz+q,none⟩=some (f p q))∧(∀ p q e c,es[p]?=some e→e[q]?=some c→CR I w (f p q) c):=by
 unfold mJ at h
 split at h
 ·rename_i cs jc
  split at h
  ·rename_i tp
   simp only[ao] at h
   obtain⟨j7,blk,off',cap',CL,e1,mW,rfl⟩:=hx
   unfold Af at jc
   split at jc
   ·rename_i hi
    obtain⟨tn,cur,q1,q2,q3,q4,q5,q7⟩:=aR.bx i hi
    obtain⟨T,q3,q6⟩:=q3.cells (zn jc)
    rw[e1] at q1;cases q1
    have cg:cs.length=(s.bx i).length:=List.mapM_eq_some_length jc
    have hl:=rf (sz:=sz) len (cs.drop off)
    refine⟨_,blk,off',cap',fun p q=>cur.getD (off+p*sz+q) undef,h.symm,by rw[hl],by rw[hl];omega,e1,fun e he=>?_,fun p q hp hq=>?_,fun p q e c' he hc=>?_⟩
    ·obtain⟨p,hp,rfl⟩:=iF.1 he
     have:=pD (sz:=sz) len (cs.drop off) p (by omega)
     rw[ae hp] at this
     simp only[ao] at this
     rw[this]
     have hm':(p+1)*sz≤len*sz:=aO _ (by omega)
     rw[dZ] at hm'
     simp;omega
    ·rw[hl] at hp
     have hm':(p+1)*sz≤len*sz:=aO _ (by omega)
     rw[dZ] at hm'
     have:off'=off:=by rcases mW with h0 | h0;omega;exact h0
     subst this
     have bK:off'+p*sz+q<cur.size:=by omega
     rw[ff w blk _ cur T.t T.fz q3]
     simp[ay bK]
    ·have hp:p<len:=by have:=(ah.1 he).1;omega
     rw[pD len _ p hp] at he
     simp only[ao] at he
     subst he
     rw[cF] at hc
     split at hc
     ·rw[cN,cN] at hc
      obtain⟨vv,Gx,hvc⟩:=List.mapM_eq_some_get jc _ c' hc
      have hZ:=q5 (off+(p*sz+q))
      have:(s.bx i).getD (off+(p*sz+q)) .un=vv:=by simp[List.getD,Gx]
      rw[this,← dF] at hZ
      cases vv<;>simp only[V.asC] at hvc<;>try cases hvc
      ·exact hZ.toC
      ·exact hZ.1
     ·cases hc
   ·cases jc
  ·cases h
 ·cases h
theorem WU (aR:St G n I0 M w0 I β ob s a w) {i off len cap sz:Nat} {c:C} {v:Value} (h:mJ s i off len sz=some c)
 (hx:len≤cap∧∃ blk off' cap',cap≤cap'∧β i=some blk∧(cap'=0∨off'=off)∧v=.slice (some ⟨blk,off',none⟩) len cap'):∃ es,c=.sl es∧RD I w v es:=by
 obtain⟨es,blk,off',cap',f,rfl,rfl,h2,h3,h4,h5,h6⟩:=E4 aR h hx
 exact⟨es,rfl,.inr ⟨blk,off',cap',sz,f,rfl,h2,h4,h5,h6⟩⟩
theorem E5 (aR:St G n I0 M w0 I β ob s a w) {i off len cap sz:Nat} {c:C} {v:Value} (h:mJ s i off len sz=some c)
 (hx:len≤cap∧∃ blk off' cap',cap≤cap'∧β i=some blk∧(cap'=0∨off'=off)∧v=.slice (some ⟨blk,off',none⟩) len cap') {Ic:Ft} (tP:∀ b o,I b o→Ic b o) (hb:∀ b o,β i=some b→Ic b o):CR Ic w v c:=by
 obtain⟨es,blk,off',cap',f,rfl,rfl,h2,h3,h4,h5,h6⟩:=E4 aR h hx
 exact .sl blk off' cap' sz es f h2 h4 (fun p q hp hq=>⟨h5 p q hp hq,hb blk _ h3⟩) (fun p q e c he hc=>(h6 p q e c he hc).mono fun b o h=>⟨tP b o h,rfl⟩)
theorem E6 {T:TypeId} {lo hi mx:Option Operand} {vx:Value} {ox:Option Nat} (aR:St G n I0 M w0 I β ob s a w) (h:kI P T x (lo.map (ev G s)) (hi.map (ev G s)) (mx.map (ev G s)) K) (hx:LR (Wr M w0) I β w ox vx x) :
 ∃ z u,K z∧LR (Wr M w0) I β w none u z∧(Instr.sliceAt T vx (lo.map a.eval) (hi.map a.eval) (mx.map a.eval)).run P w=.ok u w:=by
 unfold kI at h
 split at h
 ·rename_i st sy
  obtain⟨j,d,h1,h2,h3,_⟩:=bB sy
  have hd:=nT h3
  subst hd
  rw[hx.lit]
  split at h
  ·rename_i l hh hl Mh hm
   obtain⟨⟨h0,Qd,Qq⟩,h⟩:=h
   have hmx:mx.map a.eval=none:=by cases mx<;>simp_all
   refine⟨_,_,h,.ofLit rfl,?_⟩
   unfold Instr.sliceAt
   simp only[aF,aP h2,ax]
   unfold Instr.slice
   simp only[aF,aP h2,ax,hmx]
   simp[sE (P:=P) (w:=w) false st.size st.size _ _ l hh (kX aR hl) (kX aR Mh) h0 Qd Qq (ab _)]
  ·exact h.elim
 ·rename_i e _ _ _ _ _ _ es sy
  obtain⟨j,d,h1,h2,h3,_⟩:=bB sy
  have hd:=dx h3
  subst hd
  have iW:=hx.toC
  split at h
  ·rename_i hm
   split at h
   case h_2=>exact h.elim
   rename_i ie l hh kU hl Mh
   obtain⟨j',d',jf,mG,_,eT,_⟩:=bB kU
   obtain⟨⟨h0,Qd,Qq,hs⟩,h⟩:=h
   have hmx:mx.map a.eval=none:=by cases mx<;>simp_all
   have hb:=fun cap hc=>sE (P:=P) (w:=w) true es.length cap _ _ l hh (kX aR hl) (kX aR Mh) h0 Qd Qq hc
   have jA:=e9 (P:=P) w jf
   rcases iW.sl_inv with⟨⟨xa,xc,hv,qY⟩,rfl⟩ | ⟨b,off,cap,sz,f,hv,j7,_⟩
   ·simp only[aU] at Qq
    have:l=0∧hh=0:=by omega
    obtain⟨rfl,rfl⟩:=this
    refine⟨_,.slice xa 0 xc,h,.ofC (by simpa using CR.nil xa xc qY),?_⟩
    subst hv
    unfold Instr.sliceAt
    simp only[aF,aP h2,ax]
    unfold Instr.slice
    simp only[aF,aP h2,ax,hmx]
    have:=hb xc (by simp)
    simp only[aU] at this
    cases xa with
    |none=>obtain rfl:=qY rfl;simp[this,jA]
    |some xa=>simp[this,jA,Addr.add]
   ·subst hv
    refine⟨_,.slice (some (if cap=l.toNat then⟨b,off,none⟩ else⟨b,off+l.toNat*ie.size,none⟩)) (hh.toNat - l.toNat) (cap - l.toNat),h,.ofC ?_,?_⟩
    ·split
     ·rename_i jI
      have:(es.take hh.toNat).drop l.toNat=([]:List (List C)):=du (by simp;omega)
      rw[this]
      have e1:hh.toNat - l.toNat=0:=by omega
      have e2:cap - l.toNat=0:=by omega
      rw[e1,e2]
      exact .sl b off 0 0 [] (fun _ _=>undef) (ab _) (by simp) (by simp) (by simp)
     ·exact iW.subslice hs (by omega) (by omega) (by omega)
    ·unfold Instr.sliceAt
     simp only[aF,aP h2,ax]
     unfold Instr.slice
     simp only[aF,aP h2,ax,hmx,hb cap j7,jA,bg,eA jf,← eT]
     split<;>simp_all[c9]
  ·rename_i km mm hm
   split at h
   ·rename_i ie l khh hh kU hl Mh
    obtain⟨j',d',jf,mG,_,eT,_⟩:=bB kU
    obtain⟨⟨h0,Qd,Qq,rfl,hs⟩,h⟩:=h
    obtain⟨km',hmx⟩:∃ k,mx.map a.eval=some (.int k mm):=by
     rcases mx with _ | X
     ·simp at hm
     ·have hX:=bH aR X
      simp only[b8,ao] at hm
      rw[hm] at hX
      exact⟨km,by rw[b8,hX.lit]⟩
    have WA:∃ k,hi.map a.eval=some (.int k mm):=by
     rcases hi with _ | X
     ·simp at Mh
     ·have hX:=bH aR X
      simp only[b8,ao] at Mh
      rw[Mh] at hX
      exact⟨khh,by rw[b8,hX.lit]⟩
    have hb:=fun cap hc=>GX (P:=P) (w:=w) true es.length cap _ _ l mm km' (kX aR hl) WA h0 Qd hc
    have jA:=e9 (P:=P) w jf
    rcases iW.sl_inv with⟨⟨xa,xc,hv,qY⟩,rfl⟩ | ⟨b,off,cap,sz,f,hv,j7,_⟩
    ·simp only[aU] at Qq
     have:l=0∧mm=0:=by omega
     obtain⟨rfl,rfl⟩:=this
     refine⟨_,.slice xa 0 0,h,⟨by simpa using CR.nil xa 0 (fun _=>rfl),.inl ⟨rfl,rfl,xa,by simp⟩⟩,?_⟩
     subst hv
     unfold Instr.sliceAt
     simp only[aF,aP h2,ax]
     unfold Instr.slice
     simp only[aF,aP h2,ax,hmx]
     have:=hb xc (by simp)
     simp only[aU] at this
     cases xa with
     |none=>obtain rfl:=qY rfl;simp[this,jA]
     |some xa=>simp[this,jA,Addr.add]
    ·subst hv
     have cg:((es.take mm.toNat).drop l.toNat).length=mm.toNat - l.toNat:=by simp;omega
     refine⟨_,.slice (some (if mm.toNat=l.toNat then⟨b,off,none⟩ else⟨b,off+l.toNat*ie.size,none⟩)) (mm.toNat - l.toNat) (mm.toNat - l.toNat),h,⟨?_,.inl ⟨rfl,rfl,_,by rw[cg]⟩⟩,?_⟩
     ·split
      ·rename_i jI
       have:(es.take mm.toNat).drop l.toNat=([]:List (List C)):=du (by simp;omega)
       rw[this]
       have e1:mm.toNat - l.toNat=0:=by omega
       rw[e1]
       exact .sl b off 0 0 [] (fun _ _=>undef) (ab _) (by simp) (by simp) (by simp)
      ·exact iW.subslice hs (by omega) (by omega) (by omega)
     ·unfold Instr.sliceAt
      simp only[aF,aP h2,ax]
      unfold Instr.slice
      simp only[aF,aP h2,ax,hmx,hb cap (by omega),jA,bg,eA jf,← eT]
      split<;>simp_all[c9]
   ·exact h.elim
  ·exact h.elim
 ·rename_i e _ _ _ _ _ _ b off len cap sz sy
  obtain⟨j,d,h1,h2,h3,_⟩:=bB sy
  have hd:=dx h3
  subst hd
  split at h
  ·rename_i ie l hh mm kU hl Mh hmm
   obtain⟨j',d',jf,mG,_,eT,_⟩:=bB kU
   obtain⟨⟨fW,h0,Qd,Qq,h03,h04⟩,h⟩:=h
   simp only[LR] at hx
   obtain⟨j7,blk,off',cap',CL,e1,mW,rfl⟩:=hx
   have jA:=e9 (P:=P) w jf
   have hb:∃ M:Nat,mm≤(M:Int)∧M≤cap'∧(Instr.sliceBounds true len cap' (lo.map a.eval) (hi.map a.eval) (mx.map a.eval)).run P w=.ok (l.toNat,hh.toNat,M) w:=by
    rcases kX aR hmm with⟨e,rfl⟩ | ⟨km,e⟩
    ·refine⟨cap',by omega,ab _,?_⟩
     rw[e]
     have:=zr (P:=P) (w:=w) len cap' _ _ l hh (kX aR hl) (kX aR Mh) h0 Qd (by omega)
     simpa using this
    ·refine⟨mm.toNat,by omega,by omega,?_⟩
     rw[e]
     have WA:∃ k,hi.map a.eval=some (.int k hh):=by
      rcases kX aR Mh with⟨e5,_⟩ | h5
      ·cases mx with
       |none=>cases e
       |some X=>have:=h04 rfl;cases hi<;>simp_all
      ·exact h5
     exact zt (P:=P) (w:=w) len cap' _ _ l hh mm km (kX aR hl) WA h0 Qd Qq (by omega)
   obtain⟨M,hM1,hM2,hb⟩:=hb
   refine⟨_,.slice (some (if M=l.toNat then⟨blk,off',none⟩ else⟨blk,off'+l.toNat*ie.size,none⟩)) (hh.toNat - l.toNat) (M - l.toNat),h,?_,?_⟩
   ·simp only[LR]
    split
    ·exact⟨by omega,blk,off',M - l.toNat,by omega,e1,.inl (by omega),rfl⟩
    ·have:off'=off:=by rcases mW with h4 | h4;omega;exact h4
     exact⟨by omega,blk,_,M - l.toNat,by omega,e1,.inr (by rw[this,fW]),rfl⟩
   ·unfold Instr.sliceAt
    simp only[aF,aP h2,ax]
    unfold Instr.slice
    simp only[aF,aP h2,ax,hb,jA,bg,eA jf,← eT]
    split<;>simp_all[c9]
  ·exact h.elim
 ·rename_i e _ _ _ _ _ _ blk off len cap sy
  obtain⟨j,d,h1,h2,h3,_⟩:=bB sy
  have hd:=dx h3
  subst hd
  split at h
  ·rename_i ie l hh mm kU hl Mh hmm
   obtain⟨j',d',jf,mG,_,eT,_⟩:=bB kU
   obtain⟨⟨h0,Qd,Qq,h03,h04⟩,h⟩:=h
   obtain rfl:=hx.toC.ex_inv
   have jA:=e9 (P:=P) w jf
   have hb:(Instr.sliceBounds true len cap (lo.map a.eval) (hi.map a.eval) (mx.map a.eval)).run P w=.ok (l.toNat,hh.toNat,mm.toNat) w:=by
    rcases kX aR hmm with⟨e,rfl⟩ | ⟨km,e⟩
    ·rw[e]
     have:=zr (P:=P) (w:=w) len cap _ _ l hh (kX aR hl) (kX aR Mh) h0 Qd (by omega)
     simpa using this
    ·rw[e]
     have WA:∃ k,hi.map a.eval=some (.int k hh):=by
      rcases kX aR Mh with⟨e5,_⟩ | h5
      ·cases mx with
       |none=>cases e
       |some X=>have:=h04 rfl;cases hi<;>simp_all
      ·exact h5
     exact zt (P:=P) (w:=w) len cap _ _ l hh mm km (kX aR hl) WA h0 Qd Qq (by omega)
   refine⟨_,_,h,.ofC (.ex _ rfl rfl),?_⟩
   unfold Instr.sliceAt
   simp only[aF,aP h2,ax]
   unfold Instr.slice
   simp only[aF,aP h2,ax,hb,jA,bg,eA jf,← eT]
   split<;>simp_all[c9]
  ·exact h.elim
 ·rename_i m e _ _ _ _ _ _ cs k sy
  obtain⟨j,d,h1,h2,h3,_⟩:=bB sy
  have hd:=nU h3
  subst hd
  obtain⟨b,off,f,rfl,fb,qp⟩:=hx.toC.rp_inv
  split at h
  ·rename_i ie kU hl hh hm
   obtain⟨j',d',jf,mG,_,eT,_⟩:=bB kU
   obtain⟨jW,h⟩:=h
   have e1:lo.map a.eval=none:=by cases lo<;>simp_all
   have e2:hi.map a.eval=none:=by cases hi<;>simp_all
   have e3:mx.map a.eval=none:=by cases mx<;>simp_all
   have jA:=e9 (P:=P) w jf
   refine⟨_,.slice (some ⟨b,off+k,none⟩) m m,h,.ofC ?_,?_⟩
   ·have jI:=rf (sz:=ie.size) m (cs.drop k)
    have af0:∀ i q,i<m→q<ie.size→k+i*ie.size+q<cs.length:=fun i q hi hq=>by
     have:(i+1)*ie.size≤m*ie.size:=aO _ hi
     rw[dZ] at this;omega
    have j8:∀ x∈oF ie.size m (cs.drop k),x.length=ie.size:=fun x hx=>by
     obtain⟨i,hi,he⟩:=iF.1 hx
     have:=pD (sz:=ie.size) m (cs.drop k) i (by omega)
     rw[ae hi] at this
     simp only[ao] at this
     rw[← he,this]
     have hm':(i+1)*ie.size≤m*ie.size:=aO _ (by omega)
     rw[dZ] at hm'
     simp;omega
    have:=CR.sl (I:=I) (w:=w) b (off+k) m ie.size (oF ie.size m (cs.drop k)) (fun i q=>f (k+i*ie.size+q)) (by omega) j8
     (fun i q hi hq=>by
      have:=fb (k+i*ie.size+q) (af0 i q (by omega) hq)
      rw[show off+k+i*ie.size+q=off+(k+i*ie.size+q) by omega]
      exact this)
     (fun i q e c he hc=>by
      have hi:i<m:=by have:=(ah.1 he).1;omega
      rw[pD m _ i hi] at he
      simp only[ao] at he
      subst he
      rw[cF] at hc
      split at hc
      ·rw[cN,cN] at hc
       exact qp _ c (by rw[dF];exact hc)
      ·cases hc)
    rw[jI] at this
    exact this
   ·unfold Instr.sliceAt
    simp only[aF,aP h2,ax,Instr.sureAddr,bg,e1,e2,e3]
    have:=sE (P:=P) (w:=w) false m m none none 0 m (.inl ⟨rfl,rfl⟩) (.inl ⟨rfl,rfl⟩) (mC _) (by omega) (mC _) (ab _)
    simp only[this,ax,jA,aF,bg]
    simp[c9]
  ·exact h.elim
 ·rename_i m e _ _ _ _ _ _ b k sy
  obtain⟨j,d,h1,h2,h3,_⟩:=bB sy
  have hd:=nU h3
  subst hd
  simp only[LR] at hx
  obtain⟨blk,hβ,rfl⟩:=hx
  split at h
  ·rename_i ie l hh kU hl Mh hm
   obtain⟨j',d',jf,mG,_,eT,_⟩:=bB kU
   obtain⟨⟨h0,Qd,Qq⟩,h⟩:=h
   have e3:mx.map a.eval=none:=by cases mx<;>simp_all
   have jA:=e9 (P:=P) w jf
   have hb:=sE (P:=P) (w:=w) false m m _ _ l hh (kX aR hl) (kX aR Mh) h0 Qd Qq (ab _)
   refine⟨_,.slice (some (if m=l.toNat then⟨blk,k,none⟩ else⟨blk,k+l.toNat*ie.size,none⟩)) (hh.toNat - l.toNat) (m - l.toNat),h,?_,?_⟩
   ·simp only[LR]
    refine⟨by omega,?_⟩
    split
    ·exact⟨blk,k,_,ab _,hβ,.inl (by omega),rfl⟩
    ·exact⟨blk,_,_,ab _,hβ,.inr rfl,rfl⟩
   ·unfold Instr.sliceAt
    simp only[aF,aP h2,ax,Instr.sureAddr,bg,e3]
    simp only[hb,ax,jA,aF,bg,eA jf,← eT]
    split<;>simp_all[c9]
  ·exact h.elim
 ·exact h.elim
theorem Kf {T:TypeId} {vx:Value} {ox:Option Nat} (h:GH P T x K) (hx:LR base I β w ox vx x) :
 ∃ z u,K z∧LR base I β w none u z∧(Instr.arrayAt T vx).run P w=.ok u w:=by
 unfold GH at h
 split at h
 ·rename_i m e _ _ _ _ _ _ b off len cap sz hi
  obtain⟨j,d,h1,h2,h3,_⟩:=bB hi
  have hd:=nU h3
  subst hd
  split at h
  ·obtain⟨⟨fW,h0,jW⟩,h⟩:=h
   simp only[LR] at hx
   obtain⟨j7,blk,off',cap',CL,hβ,mW,rfl⟩:=hx
   have:off'=off:=by rcases mW with h4 | h4;omega;exact h4
   subst this
   refine⟨_,.pointer (some ⟨blk,off',none⟩),h,by simp only[LR];exact⟨blk,hβ,rfl⟩,?_⟩
   unfold Instr.arrayAt
   simp only[aF,aP h2,ax]
   rw[if_neg (by omega)];rfl
  ·exact h.elim
 ·exact h.elim
end
section
variable {P:Program} {G:Gl} {tr:List Nat} {n:Nat} {I0:Ft} {M:Mx} {w0:World} {I:Ft} {β:Nat→Option Nat} {ob:Loc→Option Nat} {s:S} {a:Act} {w:World} {o:Oper}
 {next:Act→World→Prop} {Q:Exit→Act→World→Prop} {base:Nat→Prop} {v:Value} {x y:V} {K:V→Prop}
theorem xt:∀ (es:List (List C)) (l:List UInt8),xh es=some l→es.length=l.length∧
 ∃ ns:List Int,ns.length=l.length∧l=ns.map (fun m=>UInt8.ofNat m.toNat)∧∀ (i:Nat) (m:Int),ns[i]?=some m→es[i]?=some [.lit (.int .u8 m)]
 |[],l,h=>by
  simp only[xh,ao] at h
  subst h
  exact⟨rfl,[],rfl,rfl,by simp⟩
 |e::es,l,h=>by
  unfold xh at h
  split at h
  ·cases ‹_::_=[]›
  ·rename_i m r he
   cases he
   simp only[aW] at h
   obtain⟨l',h1,rfl⟩:=h
   obtain⟨h2,ns,h3,h4,h5⟩:=xt _ _ h1
   refine⟨by simp[h2],m::ns,by simp[h3],by simp[h4],fun i q hq=>?_⟩
   cases i with
   |zero=>simp at hq;subst hq;rfl
   |succ i=>exact h5 i q (by simpa using hq)
  ·cases h
theorem tG:∀ (ns:List Int) (r:ByteArray),ns.foldl (fun r m=>r.push (UInt8.ofNat m.toNat)) r=⟨r.data++(ns.map fun m=>UInt8.ofNat m.toNat).toArray⟩
 |[],r=>by simp
 |m::ns,r=>by
  simp only[br]
  rw[tG ns]
  simp[ByteArray.push]
theorem GY {src dst:TypeId} {vx:Value} (aR:St G n I0 M w0 I β ob s a w) (hd:∀ d,o.dst=some d→d<n) (h:qG P src dst x K) (hx:(∃ ox,LR (Wr M w0) I β w ox vx x)∨∃ es,x=.c (.sl es)∧RD I w vx es) :
 ∃ z u w',K z∧(convert src dst vx).run P w=.ok u w'∧SE G n I0 M w0 (s.after tr o z) (a.put o.dst u) w':=by
 unfold qG at h
 split at h
 ·rename_i i k _ _ _ _ _ _ k' m hi sy
  obtain⟨j,d,_,h2,_⟩:=bB hi
  obtain⟨j',d',_,mG,h3',_⟩:=bB sy
  have qo:=xo h3'
  subst qo
  obtain⟨ox,hx⟩:∃ ox,LR (Wr M w0) I β w ox vx _:=by
   rcases hx with hx | ⟨es,e,_⟩
   ·exact hx
   ·cases e
  rw[hx.lit]
  refine⟨_,_,w,h,?_,.fin0 aR hd (.ofLit rfl)⟩
  simp[convert,aP h2,aP mG,Conv.intToInt]
 ·rename_i i _ _ _ _ _ _ st hi sy
  obtain⟨j,d,_,h2,_⟩:=bB hi
  obtain⟨j',d',_,mG,h3',_⟩:=bB sy
  have qo:=nT h3'
  subst qo
  obtain⟨ox,hx⟩:∃ ox,LR (Wr M w0) I β w ox vx _:=by
   rcases hx with hx | ⟨es,e,_⟩
   ·exact hx
   ·cases e
  rw[hx.lit]
  refine⟨_,_,w,h,?_,.fin0 aR hd (.ofLit rfl)⟩
  simp[convert,aP h2,aP mG]
 ·rename_i _ _ _ _ _ _ e _ _ _ _ _ _ st hi sy
  obtain⟨j,d,_,h2,h3,_⟩:=bB hi
  obtain⟨j',d',_,mG,h3',_⟩:=bB sy
  have qo:=dx h3'
  subst qo
  have hds:=nT h3
  subst hds
  split at h
  ·rename_i _ _ _ _ _ _ kU
   obtain⟨je,de,_,h2e,h3e,_⟩:=bB kU
   have hde:=xo h3e
   subst hde
   obtain⟨ox,hx⟩:∃ ox,LR (Wr M w0) I β w ox vx _:=by
    rcases hx with hx | ⟨es,e,_⟩
    ·exact hx
    ·cases e
   rw[hx.lit]
   have nL:=(aR.drew).alloc (.cells (bytesRow st (grownCap w st.size 0 e)) e ((bytesRow st (grownCap w st.size 0 e)).size,(bytesRow st (grownCap w st.size 0 e)).size+1))
   have bM:=run_bytes_of_string (P:=P) w src dst e st h2 mG h2e
   refine⟨_,_,_,h,bM,.fin0 nL hd (.ofC ?_)⟩
   have cg:(mF st).length=st.size:=by simp[mF]
   rw[show Value.slice (some ⟨w.heap.size,0,none⟩) st.size (grownCap w st.size 0 e)=.slice (some ⟨w.heap.size,0,none⟩) (mF st).length (grownCap w st.size 0 e) by rw[cg]]
   refine CR.row (sz:=1) (gd w.drew _) (by rw[cg];exact grownCap_ge w _ _ _) (by simp[mF]) (fun q c hq=>?_) (fun q _=>.inr rfl)
   have Qc:q<st.size∧c=.lit (.int .u8 (st.data.toList.getD q 0).toNat):=by
    have:=mc (sz:=1) (mF st) (by simp[mF]) q 0 (by omega)
    rw[Nat.mul_one,eC] at this
    rw[this] at hq
    simp only[mF,bb] at hq
    cases hb:st.data.toList[q]? with
    |none=>simp[hb] at hq
    |some b=>
     simp only[hb,b8,ji,cw,ao] at hq
     have bK:=(ah.1 hb).1
     exact⟨by simpa using bK,by rw[← hq];simp[List.getD,hb]⟩
   obtain⟨mZ,rfl⟩:=Qc
   have af8:q<st.data.size:=mZ
   have fW:q<(bytesRow st (grownCap w st.size 0 e)).size:=by simp[bytesRow];omega
   refine⟨fW,?_⟩
   have:(bytesRow st (grownCap w st.size 0 e)).getD q undef=.int .u8 (st.data.toList.getD q 0).toNat:=by
    unfold bytesRow
    rw[aj,eB (by simpa using af8),Array.getElem?_map,ay af8]
    have:st.data.toList.getD q 0=st.data[q]:=by
     rw[aw,aM,ay af8];rfl
    rw[this];rfl
   rw[this]
   exact .lit _ rfl
  ·exact h.elim
 ·rename_i e _ _ _ _ _ _ _ _ _ _ _ _ es hi sy
  obtain⟨j,d,_,h2,h3,_⟩:=bB hi
  obtain⟨j',d',_,mG,h3',_⟩:=bB sy
  have qo:=nT h3'
  subst qo
  have hds:=dx h3
  subst hds
  split at h
  ·rename_i _ _ _ _ _ _ kU
   obtain⟨je,de,_,h2e,h3e,_⟩:=bB kU
   have hde:=xo h3e
   subst hde
   split at h
   ·rename_i l hl
    obtain⟨cg,ns,tX,rfl,hns⟩:=xt _ _ hl
    have iW:RD I w vx es:=by
     rcases hx with⟨ox,hx⟩ | ⟨es',e,hrd⟩
     ·exact .ofCR hx.toC
     ·cases e;exact hrd
    refine⟨_,_,w,h,?_,.fin0 aR hd (.ofLit rfl)⟩
    rcases iW with⟨⟨xa,xc,hv,qY⟩,rfl⟩ | ⟨b,off,cap,sz,f,hv,j7,hs,fb,qp⟩
    ·subst hv
     have:ns=[]:=du (by simp at cg;omega)
     subst this
     rw[run_convert_bytes_string w src dst e xa 0 xc h2 h2e mG]
     cases xa<;>rfl
    ·subst hv
     rw[run_convert_bytes_string w src dst e _ _ _ h2 h2e mG,run_bytesToString w ⟨b,off,none⟩ es.length cap ns ?_,tG]
     ·simp
     ·have eF:∀ e∈es,e.length=1:=by
       intro e he
       obtain⟨i,hi⟩:=da.1 he
       have bK:=(ah.1 hi).1
       have:ns[i]?=some ns[i]:=ae (by simp at cg;omega)
       rw[hns i _ this] at hi
       cases hi;rfl
      have hfv:∀ i,i<es.length→w.cell? ⟨b,off+i,none⟩=some (.int .u8 (ns.getD i 0)):=by
       intro i hi
       have hn:ns[i]?=some ns[i]:=ae (by simp at cg;omega)
       have he:=hns i _ hn
       have fW:sz=1:=by rw[← hs _ (aQ he)];rfl
       subst fW
       have h1:=fb i 0 hi (by omega)
       have h2:=qp i 0 _ _ he rfl
       have h3:f i 0=.int .u8 ns[i]:=h2.lit_eq
       rw[Nat.mul_one,eC,h3] at h1
       rw[h1]
       simp[List.getD,hn]
      rw[run_loadCells w ⟨b,off,none⟩ es.length (fun i=>.int .u8 (ns.getD i 0)) (fun i hi=>by rw[c9];exact hfv i hi)]
      congr 2
      apply gI
      intro i
      by_cases hi:i<ns.length
      ·have:i<es.length:=by simp at cg;omega
       simp[hi,this]
      ·have:¬ i<es.length:=by simp at cg;omega
       simp[hi,this]
   ·exact h.elim
  ·exact h.elim
 ·exact h.elim
end
section
variable {P:Program} {G:Gl} {tr:List Nat} {n:Nat} {I0:Ft} {M:Mx} {w0:World} {I:Ft} {β:Nat→Option Nat} {ob:Loc→Option Nat} {s:S} {a:Act} {w:World} {o:Oper}
 {next:Act→World→Prop} {Q:Exit→Act→World→Prop} {base:Nat→Prop} {v:Value} {x y:V} {K:V→Prop}
def ArgsR (I:Ft) (w:World) (vs:List Value) (xs:List V):Prop:=vs.length=xs.length∧∀ (j:Nat) (x:V),xs[j]?=some x→DR I w (vs.getD j undef) x
theorem ArgsR.nil:ArgsR I w [] []:=⟨rfl,by simp⟩
theorem ArgsR.append {vs us:List Value} {xs ys:List V} (h:ArgsR I w vs xs) (h':ArgsR I w us ys):ArgsR I w (vs++us) (xs++ys):=by
 refine⟨by simp[h.1,h'.1],fun j x hx=>?_⟩
 have hl:=h.1
 by_cases hj:j<xs.length
 ·rw[az hj] at hx
  have:=h.2 j x hx
  rw[aw,az (by omega)]
  rw[aw] at this
  exact this
 ·rw[aH (by omega)] at hx
  have:=h'.2 _ x hx
  rw[aw,aH (by omega),hl]
  rw[aw] at this
  exact this
theorem MC (aR:St G n I0 M w0 I β ob s a w) {i off blk:Nat} {cs:List C} (h:Af s i=some cs) (hβ:β i=some blk) {Ic:Ft} (tP:∀ b o,I b o→Ic b o) (hb:∀ o,Ic blk o) :
 CR Ic w (.pointer (some ⟨blk,off,none⟩)) (.rp cs off):=by
 unfold Af at h
 split at h
 ·rename_i hi
  obtain⟨tn,cur,e1,e2,e3,e4,e5,e7⟩:=aR.bx i hi
  obtain⟨T,e3,e6⟩:=e3.cells (zn h)
  rw[hβ] at e1
  cases e1
  have cg:cs.length=(s.bx i).length:=List.mapM_eq_some_length h
  have:=CR.rp (I:=Ic) (w:=w) blk 0 off cs (fun j=>cur.getD j undef) (fun j hj=>by
   have hjc:j<cur.size:=by omega
   rw[aX]
   refine⟨?_,hb j⟩
   rw[ff w blk j cur T.t T.fz e3]
   simp[ay hjc]) (fun j c hc=>by
   obtain⟨vv,Gx,hvc⟩:=List.mapM_eq_some_get h j c hc
   have hZ:=e5 j
   have:(s.bx i).getD j .un=vv:=by simp[List.getD,Gx]
   rw[this] at hZ
   cases vv<;>simp only[V.asC] at hvc<;>try cases hvc
   ·exact hZ.toC.mono fun b o h=>⟨tP b o h,rfl⟩
   ·exact hZ.1.mono fun b o h=>⟨tP b o h,rfl⟩)
  rw[aX] at this
  exact this
 ·cases h
theorem E7 (aR:St G n I0 M w0 I β ob s a w) {c:C} (hx:PR I β w v x) (h:v8 s x=some c) {Ic:Ft} (tP:∀ b o,I b o→Ic b o)
 (hb:x.isBp=true→∀ i b o,β i=some b→Ic b o):CR Ic w v c:=by
 cases x<;>simp only[PR] at hx<;>simp only[v8] at h
 ·cases h;exact hx.mono fun b o h=>⟨tP b o h,rfl⟩
 ·cases h;exact hx.2.1.mono fun b o h=>⟨tP b o h,rfl⟩
 ·obtain⟨blk,e1,rfl⟩:=hx
  simp only[aW] at h
  obtain⟨cs,h1,rfl⟩:=h
  exact MC aR h1 e1 tP (fun o=>hb rfl _ _ o e1)
 ·exact E5 aR h hx tP (fun b o e=>hb rfl _ b o e)
 ·cases h
 ·cases h
 ·cases h
theorem A7 (aR:St G n I0 M w0 I β ob s a w) {ox:Option Nat} (hx:LR base I β w ox v x) (h:imm s x=some y) {Ic:Ft} (tP:∀ b o,I b o→Ic b o)
 (hb:x.boxy=true→∀ i b o,β i=some b→Ic b o):DR Ic w v y:=by
 cases x<;>simp only[imm] at h<;>try cases h
 ·exact .c _ _ (hx.toC.mono fun b o h=>⟨tP b o h,rfl⟩)
 ·obtain⟨vs,rfl,h1,h2⟩:=hx.agg
  exact .agg vs _ h1 fun j c hc=>(h2 j c hc).mono fun b o h=>⟨tP b o h,rfl⟩
 ·exact .c _ _ (hx.1.mono fun b o h=>⟨tP b o h,rfl⟩)
 ·simp only[LR] at hx
  obtain⟨blk,e1,rfl⟩:=hx
  simp only[aW] at h
  obtain⟨cs,h1,rfl⟩:=h
  exact .c _ _ (MC aR h1 e1 tP (fun o=>hb rfl _ _ o e1))
 ·rename_i f fs cs
  simp only[LR] at hx
  obtain⟨vf,vc,rfl,h1,h2,h3,h4⟩:=hx
  split at h
  ·rename_i fs' cs' e1 e2
   cases h
   have l1:=List.mapM_eq_some_length e1
   have l2:=List.mapM_eq_some_length e2
   have hbf:∀ z∈fs,z.isBp=true→∀ i b o,β i=some b→Ic b o:=fun z hz hzb=>
    hb (by simp only[V.boxy,eV,dU];exact .inl ⟨z,hz,hzb⟩)
   have hbc:∀ z∈cs,z.isBp=true→∀ i b o,β i=some b→Ic b o:=fun z hz hzb=>
    hb (by simp only[V.boxy,eV,dU];exact .inr ⟨z,hz,hzb⟩)
   refine .c _ _ (.fn f vf vc fs' cs' (by omega) (by omega) (fun j c hc=>?_) (fun j c hc=>?_))
   ·obtain⟨z,hz,tj⟩:=List.mapM_eq_some_get e1 j c hc
    exact E7 aR (h3 j z hz) tj tP (hbf z (aQ hz))
   ·obtain⟨z,hz,tj⟩:=List.mapM_eq_some_get e2 j c hc
    exact E7 aR (h4 j z hz) tj tP (hbc z (aQ hz))
  ·cases h
 ·simp only[LR] at hx
  simp only[aW] at h
  obtain⟨c,h1,rfl⟩:=h
  exact .c _ _ (E5 aR h1 hx tP (fun b o e=>hb rfl _ b o e))
 ·rename_i vs
  simp only[LR] at hx
  obtain⟨cells,rfl,h2,h3⟩:=hx
  simp only[aW] at h
  obtain⟨cs,h1,rfl⟩:=h
  refine .agg _ _ (by rw[h2];exact(List.mapM_eq_some_length h1).symm) fun j c hc=>?_
  obtain⟨z,hz,tj⟩:=List.mapM_eq_some_get h1 j c hc
  exact E7 aR (h3 j z hz) tj tP (fun hzb=>hb (by simp only[V.boxy,dU];exact⟨z,aQ hz,hzb⟩))
theorem E8 (aR:St G n I0 M w0 I β ob s a w) {Ic:Ft} (tP:∀ b o,I b o→Ic b o):∀ (l:List Operand) (ys:List V),(l.map (ev G s)).mapM (imm s)=some ys→
 ((l.map (ev G s)).any V.boxy=true→∀ i b o,β i=some b→Ic b o)→ArgsR Ic w (l.map a.eval) ys
 |[],ys,h,_=>by simp at h;subst h;exact .nil
 |x::l,ys,h,hb=>by
  simp only[bA,fm,bind,iL,pure,ao] at h
  obtain⟨y,h1,ys',h2,rfl⟩:=h
  have hd:=A7 aR (bH aR x) h1 tP (fun hx=>hb (by simp[hx]))
  have ih:=E8 aR tP l ys' h2 (fun hx=>hb (by simp only[bA,List.any_cons,hx,Bool.or_true]))
  refine⟨by simp[ih.1],fun j z hz=>?_⟩
  cases j with
  |zero=>simp at hz;subst hz;exact hd
  |succ j=>simpa using ih.2 j z (by simpa using hz)
theorem ArgsR.ofC {I':Ft} (vs:Array Value) (cs:List C) (h:vs.size=cs.length) (hc:∀ j c,cs[j]?=some c→CR I' w (vs.getD j undef) c):ArgsR I' w vs.toList (cs.map .c):=by
 refine⟨by simp[h],fun j x hx=>?_⟩
 simp only[bb,aW] at hx
 obtain⟨c,h1,rfl⟩:=hx
 have:=hc j c h1
 rw[aw,aM]
 rw[aj] at this
 exact .c _ _ this
theorem MD (aR:St G n I0 M w0 I β ob s a w) {Ic:Ft} (tP:∀ b o,I b o→Ic b o) (vs:Array Value) (xs ys:List V) (hl:vs.size=xs.length) (h:xs.mapM (imm s)=some ys)
 (hr:∀ j x,xs[j]?=some x→PR I β w (vs.getD j undef) x) (hb:xs.any V.boxy=true→∀ i b o,β i=some b→Ic b o):ArgsR Ic w vs.toList ys:=by
 refine⟨by have:=List.mapM_eq_some_length h;simp;omega,fun j y hy=>?_⟩
 obtain⟨x,hx,hxy⟩:=List.mapM_eq_some_get h j y hy
 have hp:=hr j x hx
 rw[aw,aM,← aj]
 have hZ:LR (Wr M w0) I β w none (vs.getD j undef) x:=by
  cases x<;>simp only[PR] at hp<;>simp only[LR]
  ·exact .c _ _ hp
  ·exact⟨hp.2.1,.inl ⟨rfl,hp.1,hp.2.2⟩⟩
  ·exact hp
  ·exact hp
  ·exact hp
  ·exact hp
  ·exact hp
 exact A7 aR hZ hxy tP (fun yC=>hb (by simp only[dU];exact⟨x,aQ hx,yC⟩))
theorem LR.flat {r:V} {ob':Option Nat} (hf:r.isFlat=true) (h:LR base I β w ob' v r) {I':Ft} {w':World} {base':Nat→Prop} {β':Nat→Option Nat}:LR base' I' β' w' none v r:=by
 have lits:∀ (cs:List C) (vs:Array Value),cs.all C.isLit=true→(∀ j c,cs[j]?=some c→CR I w (vs.getD j undef) c)→∀ j c,cs[j]?=some c→CR I' w' (vs.getD j undef) c:=by
  intro cs vs hc h j c hj
  have h1:=h j c hj
  have h2:=ba.1 hc c (aQ hj)
  cases c<;>simp[C.isLit] at h2
  obtain⟨h3,h4⟩:=h1.lit_inv
  rw[h3];exact .lit _ h4
 cases r with
 |un=>simp only[LR];exact .un _
 |sk=>simp only[LR] at h ⊢;cases h;exact .sk
 |c c=>
  cases c<;>simp only[V.isFlat] at hf<;>try cases hf
  obtain⟨h3,h4⟩:=h.toC.lit_inv
  rw[h3];exact .ofLit h4
 |agg cs=>
  obtain⟨vs,rfl,h1,h2⟩:=h.agg
  simp only[LR];exact .agg vs _ h1 (lits _ vs hf h2)
 |tup ds=>
  simp only[LR] at h ⊢
  cases h with
  |tup vs _ h1 h2=>
   refine .tup vs ds h1 fun j d hj=>?_
   have h3:=h2 j d hj
   have h4:=ba.1 hf d (aQ hj)
   cases d with
   |c c=>
    cases c<;>simp only at h4<;>try cases h4
    generalize vs.getD j undef=vv at h3
    cases h3 with
    |c _ _ h5=>
     obtain⟨h6,h7⟩:=h5.lit_inv
     rw[h6];exact .c _ _ (.lit _ h7)
   |agg cs=>
    generalize vs.getD j undef=vv at h3
    cases h3 with
    |agg us _ h5 h6=>exact .agg us _ h5 (lits _ us h4 h6)
   |_=>cases h4
 |ow=>cases hf
 |bp=>cases hf
 |clo=>cases hf
 |ms=>cases hf
 |mag=>cases hf
 |mr=>cases hf
 |mk=>cases hf
 |it=>cases hf
 |gh=>cases hf
 |yl=>cases hf
 |lp=>cases hf
 |hh=>cases hf
 |bm=>cases hf
 |gs=>cases hf
 |gg=>cases hf
theorem ME (aR:St G n I0 M w0 I β ob s a w) (hd:∀ d,o.dst=some d→d<n) {f:FuncId} {vs:List Value} {xs:List V} {r:V} (eH:FnOK P G f xs r) (hr:K r)
 (boxy:Bool) (dD:∀ Ic:Ft,(∀ b o,I b o→Ic b o)→(boxy=true→∀ i b o,β i=some b→Ic b o)→ArgsR Ic w vs xs) (tN:boxy=true→r.isFlat=true)
 (bM:(execOp a.eval o).run P w=.ok (.enter f vs.toArray) w)
 (hk:∀ a' w' x,K x→SE G n I0 M w0 (s.after tr o x) a' w'→next a' w'):o.wp P a w next Q:=by
 unfold Oper.wp
 rw[bM]
 simp only[Oper.upon]
 cases boxy with
 |false=>
  obtain⟨h1,h2⟩:=dD I (fun _ _ h=>h) (by simp)
  refine (eH.2 I w vs.toArray aR.ibnd aR.glob (by simpa using h1) (fun j x hx=>by simpa using h2 j x hx)).mono ?_
  rintro e w' ⟨v,I',rfl,hg,Qe,NN,ob',hZ,tq⟩
  simp only
  refine hk _ _ r hr ?_
  have cK:=aR.grow hg Qe NN
  refine .fin cK hd (o':=ob') ?_ fun b hb=>?_
  ·cases r<;>simp only[LR] at hZ ⊢<;>try exact hZ
   ·obtain⟨h3,h4⟩:=hZ
    refine⟨h3,?_⟩
    rcases h4 with h4 | ⟨e,blk,cap,cur,sz,q1,q2,q3,q4,q5⟩
    ·exact .inl h4
    ·exact .inr ⟨e,blk,cap,cur,sz,q1,q2,q3,.inl (bN aR.below.size q4),q5⟩
   ·obtain⟨_,h3,_⟩:=hZ;cases h3
   rotate_left
   ·obtain⟨_,_,_,_,_,h3,_⟩:=hZ;cases h3
   ·obtain⟨cs,q1,q2,q3⟩:=hZ
    exact⟨cs,q1,q2,fun j x hx=>(q3 j x hx).mono (fun b o h=>⟨h,rfl⟩) (by simp)⟩
   ·obtain⟨_,h3,_⟩:=hZ;cases h3
   ·obtain⟨_,_,_,_,h3,_⟩:=hZ;cases h3
   ·obtain⟨h3,h4⟩:=hZ
    refine⟨h3,?_⟩
    rcases h4 with h4 | ⟨e,blk,cap,cur,sz,q1,q2,q3,q4,q5⟩
    ·exact .inl h4
    ·exact .inr ⟨e,blk,cap,cur,sz,q1,q2,q3,.inl (bN aR.below.size q4),q5⟩
   ·obtain⟨_,h3,_⟩:=hZ;cases h3
   ·obtain⟨tm,q1,q2⟩:=hZ
    exact⟨tm,q1,fun t x hx=>(q2 t x hx).mono (fun b o h=>⟨h,rfl⟩) (by simp)⟩
   ·obtain⟨h3,e,blk,cap,cur,sz,q1,q2,q3,q4,q5⟩:=hZ
    exact⟨h3,e,blk,cap,cur,sz,q1,q2,q3,.inl (bN aR.below.size q4),q5⟩
   ·obtain⟨h3,h4⟩:=hZ
    refine⟨h3,?_⟩
    rcases h4 with h4 | ⟨e,blk,cap,cur,sz,q1,q2,q3,q4,q5⟩
    ·exact .inl h4
    ·exact .inr ⟨e,blk,cap,cur,sz,q1,q2,q3,.inl (bN aR.below.size q4),q5⟩
   ·rcases hZ with h4 | ⟨e,blk,cap,cur,sz,q1,q2,q3,q4,q5⟩
    ·exact .inl h4
    ·exact .inr ⟨e,blk,cap,cur,sz,q1,q2,q3,.inl (bN aR.below.size q4),q5⟩
   ·obtain⟨_,h3,_⟩:=hZ;cases h3
   ·obtain⟨vf,vc,q1,q2,q3,q4,q5⟩:=hZ
    exact⟨vf,vc,q1,q2,q3,fun j x hx=>(q4 j x hx).mono (fun b o h=>⟨h,rfl⟩) (by simp),fun j x hx=>(q5 j x hx).mono (fun b o h=>⟨h,rfl⟩) (by simp)⟩
  ·obtain⟨h3,h4⟩:=tq b hb
   obtain⟨f1,f2⟩:=aR.fresh h3
   exact⟨⟨h4,.inl (bN aR.below.size h3)⟩,f2,fun L hL=>absurd hL (f1 L)⟩
 |true=>
  have ou:∀ i b,β i=some b→b<w.heap.size:=fun i b hi=>by
   by_cases h:i<s.nb
   ·obtain⟨blk,cur,e1,_,e3,_⟩:=aR.bx i h
    rw[hi] at e1;cases e1
    exact e3.lt
   ·rw[aR.bnone i (by omega)] at hi;cases hi
  obtain⟨h1,h2⟩:=dD (fun b o=>I b o∨∃ i,β i=some b) (fun _ _ h=>.inl h) (fun _ i b o hi=>.inr ⟨i,hi⟩)
  refine (eH.2 (fun b o=>I b o∨∃ i,β i=some b) w vs.toArray (fun b o hb=>by
   rcases hb with hb | ⟨i,hi⟩
   ·exact aR.ibnd b o hb
   ·exact ou i b hi) (fun g cs hg=>(aR.glob g cs hg).mono fun b o h=>⟨.inl h,rfl⟩) (by simpa using h1) (fun j x hx=>by simpa using h2 j x hx)).mono ?_
  rintro e w' ⟨v,I',rfl,hg,Qe,NN,ob',hZ,tq⟩
  simp only
  refine hk _ _ r hr ?_
  have cK:=aR.grow hg (fun _ _ h=>h) (fun _ _ h=>.inl h)
  exact .fin0 cK hd (hZ.flat (tN rfl))
theorem rI {f:Operand} {args:Array Operand} {ts:Array TypeId} (ho:o.op=.call { callee:=.value f,args:=args,argTypes:=ts }) {g:FuncId} {vf vc:Array Value} (hf:a.eval f=.func (.func g) vf vc)
 {fn:Func} {c:Code} (h1:P.funcs[g]?=some fn) (h2:(fn.name== "runtime.NumGoroutine")=false) (h3:fn.body=some c) :
 (execOp a.eval o).run P w=.ok (.enter g (vf++args.map a.eval++vc)) w:=by
 unfold execOp
 simp only[ho,resolve,Deferred.ofValue,hf,aF,bg,ax,invoke]
 have mG:fn.name≠ "runtime.NumGoroutine" :=by simpa using h2
 simp[callFunc,h1,mG,h3]
theorem GZ {f:Operand} {args:Array Operand} {ts:Array TypeId} (ho:o.op=.call { callee:=.value f,args:=args,argTypes:=ts }) (aR:St G n I0 M w0 I β ob s a w) (hd:∀ d,o.dst=some d→d<n)
 (h:rD P G s (ev G s f) (args.toList.map (ev G s)) K) (hk:∀ a' w' x,K x→SE G n I0 M w0 (s.after tr o x) a' w'→next a' w'):o.wp P a w next Q:=by
 have hf:=bH aR f
 unfold rD at h
 split at h
 ·rename_i g fs cs he
  rw[he] at hf
  split at h
  ·rename_i as has
   obtain⟨r,eH,tN,hr⟩:=h
   obtain⟨vf,vc,hv,q1,q2,q3,q4⟩:=hf.toC.fn_inv
   obtain⟨fn,h1,h2,c,h3⟩:=eH.1
   have bM:=rI (P:=P) (w:=w) ho hv h1 h2 h3
   refine ME aR hd eH hr ((args.toList.map (ev G s)).any V.boxy) (vs:=vf.toList++args.toList.map a.eval++vc.toList) (fun Ic tP hb=>?_) tN ?_ hk
   ·exact((ArgsR.ofC vf fs q1 fun j c hc=>(q3 j c hc).mono fun b o h=>⟨tP b o h,rfl⟩).append (E8 aR tP _ as has hb)).append
     (ArgsR.ofC vc cs q2 fun j c hc=>(q4 j c hc).mono fun b o h=>⟨tP b o h,rfl⟩)
   ·rw[bM];congr 2;apply dn;simp
  ·exact h.elim
 ·rename_i g fs cs he
  rw[he] at hf
  simp only[LR] at hf
  obtain⟨vf,vc,hv,q1,q2,q3,q4⟩:=hf
  split at h
  ·rename_i fs' as cs' e1 e2 e3
   obtain⟨r,eH,tN,hr⟩:=h
   obtain⟨fn,h1,h2,c,h3⟩:=eH.1
   have bM:=rI (P:=P) (w:=w) ho hv h1 h2 h3
   refine ME aR hd eH hr ((fs++args.toList.map (ev G s)++cs).any V.boxy) (vs:=vf.toList++args.toList.map a.eval++vc.toList) (fun Ic tP hb=>?_) tN ?_ hk
   ·exact((MD aR tP vf fs fs' q1 e1 q3 fun hx=>hb (by simp only[List.any_append,hx,Bool.true_or])).append
     (E8 aR tP _ as e2 fun hx=>hb (by simp only[List.any_append,hx,Bool.true_or,Bool.or_true]))).append
     (MD aR tP vc cs cs' q2 e3 q4 fun hx=>hb (by simp only[List.any_append,hx,Bool.or_true]))
   ·rw[bM];congr 2;apply dn;simp
  ·exact h.elim
 ·exact h.elim
theorem A8 {mx:Bool} {args:Array Operand} (aR:St G n I0 M w0 I β ob s a w) (h:Ah mx (args.toList.map (ev G s)) K) :
 ∃ u,flat u=true∧K (.c (.lit u))∧(if mx then Builtin.max_ #[] 0 (args.map a.eval) else Builtin.min_ #[] 0 (args.map a.eval)).run P w=.ok u w:=by
 unfold Ah at h
 split at h
 ·rename_i k p k' q dD
  obtain⟨X,l,hX,hXv,hl⟩:∃ X l,args.toList=X::l∧ev G s X=.c (.lit (.int k p))∧l.map (ev G s)=[.c (.lit (.int k' q))]:=by
   cases ha:args.toList with
   |nil=>simp[ha] at dD
   |cons X l=>simp only[ha,bA,cB] at dD;exact⟨X,l,rfl,dD.1,dD.2⟩
  obtain⟨Y,rfl,hYv⟩:∃ Y,l=[Y]∧ev G s Y=.c (.lit (.int k' q)):=by
   cases l with
   |nil=>simp at hl
   |cons Y l'=>simp only[bA,cB,eE] at hl;exact⟨Y,by rw[hl.2],hl.1⟩
  have e1:a.eval X=.int k p:=by have:=bH aR X;rw[hXv] at this;exact this.lit
  have e2:a.eval Y=.int k' q:=by have:=bH aR Y;rw[hYv] at this;exact this.lit
  refine⟨_,rfl,h,?_⟩
  cases mx
  ·simp[Builtin.min_,hX,e1,e2,Builtin.min2]
  ·simp[Builtin.max_,hX,e1,e2,Builtin.max2]
 ·exact h.elim
end
section
variable {P:Program} {I:Ft} {w:World}
theorem QM {k:EK} {c d:C} (h:eqC k c d=some true):∃ v,c=.lit v∧d=.lit v∧(∀ m,Instr.sameBits m v v=true):=by
 cases k with
 |int=>
  obtain⟨k,a,b,rfl,rfl,hr⟩:=EV h
  have:a=b:=by simpa using hr.symm
  subst this
  exact⟨_,rfl,rfl,fun m=>by cases m<;>simp[Instr.sameBits]⟩
 |bool=>
  obtain⟨a,b,rfl,rfl,hr⟩:=A5 h
  have:a=b:=by simpa using hr.symm
  subst this
  exact⟨_,rfl,rfl,fun m=>by cases m<;>simp[Instr.sameBits]⟩
 |str=>
  obtain⟨a,b,rfl,rfl,hr⟩:=EW h
  have:a=b:=by simpa using hr.symm
  subst this
  exact⟨_,rfl,rfl,fun m=>by cases m<;>simp[Instr.sameBits,yG]⟩
theorem Dw:∀ {ks:List EK} {cs ds:List C},jB ks cs ds=some true→cs.length=ks.length→ds.length=ks.length→
 cs=ds∧∀ c∈cs,∃ v,c=.lit v∧∀ m,Instr.sameBits m v v=true
 |[],cs,ds,_,h1,h2=>by simp at h1 h2;subst h1;subst h2;simp
 |k::ks,[],ds,h,h1,h2=>by simp at h1
 |k::ks,c::cs,[],h,h1,h2=>by simp at h2
 |k::ks,c::cs,d::ds,h,h1,h2=>by
  simp only[jB] at h
  split at h
  ·rename_i p q e1 e2
   simp only[ao,aS] at h
   obtain⟨rfl,rfl⟩:=h
   obtain⟨v,rfl,rfl,hv⟩:=QM e1
   obtain⟨rfl,h4⟩:=Dw e2 (by simpa using h1) (by simpa using h2)
   exact⟨rfl,fun c hc=>by
    rcases aK.1 hc with rfl | hc
    ·exact⟨v,rfl,hv⟩
    ·exact h4 c hc⟩
  ·cases h
theorem Kg {xs ys:Array Value} {cs:List C} (hx:Cells I w xs cs) (hy:Cells I w ys cs) (hl:∀ c∈cs,∃ v,c=.lit v∧∀ m,Instr.sameBits m v v=true) :
 xs=ys∧∀ v∈xs.toList,∀ m,Instr.sameBits m v v=true:=by
 have each:∀ j,j<cs.length→∃ v,xs[j]?=some v∧ys[j]?=some v∧∀ m,Instr.sameBits m v v=true:=fun j hj=>by
  obtain⟨v,hv,hs⟩:=hl cs[j] (bL hj)
  have h1:=hx.2 j _ (ae hj)
  have h2:=hy.2 j _ (ae hj)
  rw[hv] at h1 h2
  exact⟨v,Mz h1.lit_eq (by rw[hx.1];exact hj),Mz h2.lit_eq (by rw[hy.1];exact hj),hs⟩
 refine⟨?_,fun v hv m=>?_⟩
 ·apply mE (by rw[hx.1,hy.1])
  intro j h1 h2
  obtain⟨v,e1,e2,_⟩:=each j (by rw[← hx.1];exact h1)
  rw[ay h1] at e1;rw[ay h2] at e2
  rw[jK e1,jK e2]
 ·obtain⟨j,hj,rfl⟩:=gU hv
  obtain⟨v,e1,_,hs⟩:=each j (by rw[← hx.1];simpa using hj)
  simp only[bP] at hj
  rw[ay hj] at e1
  simp only[Array.getElem_toList]
  rw[jK e1];exact hs m
theorem E9 {t:TypeId} {xs:Array Value} (h:∀ v∈xs.toList,∀ m,Instr.sameBits m v v=true) (h1:cZ P t=false→0<xs.size) (m:Nat) :
 Instr.sameBits (m+1) (mkv P t xs) (mkv P t xs)=true:=by
 unfold mkv
 cases hz:cZ P t with
 |false=>
  simp only[aY,dm]
  have:=h1 hz
  simp only[Array.getD,this,dif_pos]
  exact h _ (by simp) _
 |true=>
  simp only[db]
  have:∀ l:List Value,(∀ v∈l,∀ m,Instr.sameBits m v v=true)→(l.zip l).all (fun(x:Value×Value)=>Instr.sameBits m x.1 x.2)=true:=by
   intro l hl
   rw[ba]
   intro x hx
   have:x.1=x.2∧x.1∈l:=by
    have h2:l.zip l=l.map fun a=>(a,a):=by
     clear hx hl
     induction l with
     |nil=>rfl
     |cons a l ih=>simp[ih]
    rw[h2] at hx
    obtain⟨a,ha,rfl⟩:=bj.1 hx
    exact⟨rfl,ha⟩
   rw[← this.1];exact hl _ this.2 m
  simp only[Instr.sameBits,BEq.rfl,jX]
  exact this _ h
theorem Fb {t:TypeId} {xs ys:Array Value} {ks:List EK} {cs ds:List C} (hx:Cells I w xs cs) (hy:Cells I w ys ds) (he:jB ks cs ds=some true) (h1:cs.length=ks.length) (h2:ds.length=ks.length) (hz:cZ P t=false→0<ks.length) :
 mkv P t xs=mkv P t ys∧(Instr.keyThatStays (mkv P t ys) (mkv P t xs)).run P w=.ok (mkv P t xs) w:=by
 obtain⟨rfl,hl⟩:=Dw he h1 h2
 obtain⟨rfl,hs⟩:=Kg hx hy hl
 refine⟨rfl,?_⟩
 unfold Instr.keyThatStays
 rw[E9 hs (fun h=>by rw[hx.1,h1];exact hz h) 9999]
 simp
theorem Fc (em:Bool):∀ (d:Nat) (t:TypeId) (ks:List EK),eqk P d t=some ks→∀ (n:Nat) (xs:Array Value),xs.size=ks.length→
 (Instr.checkKey em (d+n) t (mkv P t xs)).run P w=.ok () w:=by
 intro d
 induction d with
 |zero=>intro t ks h;simp[eqk] at h
 |succ d ih=>
  intro t ks h n xs oE
  rw[show d+1+n=(d+n)+1 by omega]
  unfold eqk at h
  split at h
  ·rename_i k hu
   rw[Instr.checkKey];simp[aP hu,Result.andThen]
  ·rename_i hu
   rw[Instr.checkKey];simp[aP hu,Result.andThen]
  ·rename_i hu
   rw[Instr.checkKey];simp[aP hu,Result.andThen]
  ·rename_i fs hu
   split at h
   ·cases h
   ·have kT:cZ P t=true:=by simp[cZ,hu]
    simp only[mkv,kT,db]
    rw[Instr.checkKey]
    simp only[aF,aP hu,ax]
    rw[← Array.forIn_toList]
    have hh:∃ acc,CO P (eqk P d) fs.toList acc=some ks:=⟨[],h⟩
    clear h
    generalize fs.toList=l at hh
    induction l with
    |nil=>simp
    |cons f l ihl=>
     obtain⟨acc,h⟩:=hh
     simp only[CO] at h
     split at h
     ·rename_i k1 Dk
      split at h
      ·rename_i hc
       obtain⟨hn,mW,cg⟩:=hc
       obtain⟨rest,NH⟩:=yH (P:=P) _ _ _ _ h
       have fW:acc.length+k1.length≤ks.length:=by rw[NH];simp
       obtain⟨u,hfu⟩:=po Dk
       have jE:cZ P f.type=false→P.cellsOf f.type=1:=fun hz=>by rw[← cg];exact uX Dk hz
       have hpx:=rG (w:=w) f.type u hfu xs f.offset (by rw[mW,← cg,oE];exact fW) jE
       have p2:=ih f.type k1 Dk n (xs.extract f.offset (f.offset+P.cellsOf f.type)) (by simp;omega)
       simp only[List.forIn_cons,aF,hn,ne_eq,not_false_eq_true,db,hpx,ax,p2,bg]
       exact ihl ⟨_,h⟩
      ·cases h
     ·cases h
  ·rename_i m e hu
   split at h
   ·rename_i k1 Dk
    split at h
    ·rename_i cg
     simp only[ao] at h
     have kT:cZ P t=true:=by simp[cZ,hu]
     obtain⟨u,heu⟩:=po Dk
     obtain⟨i,hi⟩:=iC heu
     simp only[mkv,kT,db]
     rw[Instr.checkKey]
     simp only[aF,aP hu,ax]
     simp only[Std.Legacy.Range.forIn_eq_forIn_range',Std.Legacy.Range.size,Nat.sub_zero,Nat.add_one_sub_one,Nat.div_one]
     have afY:ks.length=m*k1.length:=by rw[← h];simp
     have jE:cZ P e=false→P.cellsOf e=1:=fun hz=>by rw[← cg];exact uX Dk hz
     have fc:∀ j∈List.range' 0 m,j<m:=fun j hj=>by simp at hj;exact hj
     generalize List.range' 0 m=is at fc
     induction is with
     |nil=>simp
     |cons j is ihs=>
      have hj:=fc j (by simp)
      have fW:j*k1.length+k1.length≤ks.length:=by
       rw[afY,← dZ];exact aO _ (by omega)
      have hpx:=rG (w:=w) e u heu xs (j*P.cellsOf e) (by rw[← cg,oE];exact fW) jE
      have p2:=ih e k1 Dk n (xs.extract (j*P.cellsOf e) (j*P.cellsOf e+P.cellsOf e)) (by simp;rw[← cg];omega)
      simp only[List.forIn_cons,aF,e9 w hi,ax,hpx,p2,bg]
      exact ihs (fun y hy=>fc y (by simp[hy]))
    ·cases h
   ·cases h
  ·cases h
theorem G0 {t:TypeId} {u:TypeDesc} {d:Nat} {ks:List EK} (hu:P.underlying t=some u) (hk:eqk P (d+1) t=some ks) (hz:cZ P t=false) {xs ys:Array Value} {cs ds:List C} {r:Bool} (hx:Cells I w xs cs) (hy:Cells I w ys ds)
 (h1:cs.length=ks.length) (h2:ds.length=ks.length) (he:jB ks cs ds=some r):Instr.sameNow u (mkv P t xs) (mkv P t ys)=some r:=by
 have hl:=uX hk hz
 obtain⟨k,rfl⟩:=gP.1 hl
 obtain⟨c,rfl⟩:=gP.1 (h1.trans hl)
 obtain⟨e,rfl⟩:=gP.1 (h2.trans hl)
 have hr:eqC k c e=some r:=by
  simp only[jB] at he
  split at he
  ·rename_i p q e1 e2
   simp only[ao] at e2 he
   subst e2;rw[e1];simpa using he
  ·cases he
 have hcx:CR I w (mkv P t xs) c:=by simp only[mkv,hz];exact hx.2 0 c rfl
 have VQ:CR I w (mkv P t ys) e:=by simp only[mkv,hz];exact hy.2 0 e rfl
 unfold eqk at hk
 split at hk
 ·rename_i q A1
  rw[hu] at A1;cases A1
  simp only[ao,cB,gK] at hk
  subst hk
  obtain⟨kk,a,b,rfl,rfl,rfl⟩:=EV hr
  rw[hcx.lit_eq,VQ.lit_eq]
  simp[Instr.sameNow,Bool.beq_eq_decide_eq]
 ·rename_i A1
  rw[hu] at A1;cases A1
  simp only[ao,cB,gK] at hk
  subst hk
  obtain⟨a,b,rfl,rfl,rfl⟩:=A5 hr
  rw[hcx.lit_eq,VQ.lit_eq]
  simp[Instr.sameNow]
 ·rename_i A1
  rw[hu] at A1;cases A1
  simp only[ao,cB,gK] at hk
  subst hk
  obtain⟨a,b,rfl,rfl,rfl⟩:=EW hr
  rw[hcx.lit_eq,VQ.lit_eq]
  simp[Instr.sameNow,yG]
 ·rename_i A1;simp[cZ,A1] at hz
 ·rename_i A1;simp[cZ,A1] at hz
 ·cases hk
theorem Dx {t:TypeId} {ks:List EK} (hk:eqk P 8 t=some ks) {xs:Array Value} {cs:List C} (hx:Cells I w xs cs) (h1:cs.length=ks.length) :
 ∀ (es:List MapEntry) (kc:List (List C)) (i:Nat) (r:Option Nat),es.length=kc.length→(∀ (j:Nat) (e:MapEntry) (c:List C),es[j]?=some e→kc[j]?=some c→∃ ys,e.key=mkv P t ys∧Cells I w ys c)→
  ng ks cs kc i=some r→(if cZ P t then(Instr.findAsking t (mkv P t xs) es i).run P w=.ok (r.map fun j=>(j,((es[j - i]?).map (·.val)).getD undef)) w
   else Instr.findNow ((P.underlying t).getD .bool) (mkv P t xs) es i=some (r.map fun j=>(j,((es[j - i]?).map (·.val)).getD undef)))∧∀ j,r=some j→i≤j
 |[],[],i,r,_,_,h=>by
  simp only[ng,ao] at h;subst h
  refine⟨?_,by simp⟩
  split<;>simp[Instr.findAsking,Instr.findNow]
 |[],_::_,_,_,h,_,_=>by simp at h
 |_::_,[],_,_,h,_,_=>by simp at h
 |e::es,c::kc,i,r,hl,pg,h=>by
  simp only[ng] at h
  split at h
  ·rename_i h2
   obtain⟨ys,Ax,hy⟩:=pg 0 e c rfl rfl
   obtain⟨u,hu⟩:=po hk
   have step:∀ b,jB ks cs c=some b→(cZ P t=true→(Op.equal t (mkv P t xs) e.key).run P w=.ok b w)∧(cZ P t=false→Instr.sameNow u (mkv P t xs) e.key=some b):=fun b hb=>by
    rw[Ax]
    exact⟨fun _=>Dt (w:=w) 8 t ks hk 10000 (by omega) xs ys cs c b hx hy (by rw[hx.1,h1]) (by rw[hy.1,h2]) hb,fun hz=>G0 hu hk hz hx hy h1 h2 hb⟩
   split at h
   ·rename_i hb
    simp only[ao] at h;subst h
    obtain⟨s1,s2⟩:=step _ hb
    refine⟨?_,fun j hj=>by cases hj;exact ab _⟩
    split
    ·rename_i hz;simp[Instr.findAsking,s1 hz]
    ·rename_i hz;simp[Instr.findNow,hu,s2 (by simpa using hz)]
   ·rename_i hb
    obtain⟨s1,s2⟩:=step _ hb
    obtain⟨q1,q2⟩:=Dx hk hx h1 es kc (i+1) r (by simpa using hl) (fun j e c h1 h2=>pg (j+1) e c (by simpa using h1) (by simpa using h2)) h
    have fc:(r.map fun j=>(j,(((e::es)[j - i]?).map (·.val)).getD undef))=r.map fun j=>(j,((es[j - (i+1)]?).map (·.val)).getD undef):=by
     cases r with
     |none=>rfl
     |some j=>
      have:=q2 j rfl
      have e1:j - i=(j - (i+1))+1:=by omega
      simp[e1]
    refine⟨?_,fun j hj=>by have:=q2 j hj;omega⟩
    rw[fc]
    split
    ·rename_i hz
     rw[if_pos hz] at q1
     simpa[Instr.findAsking,s1 hz] using q1
    ·rename_i hz
     rw[if_neg hz] at q1
     simpa[Instr.findNow,hu,s2 (by simpa using hz)] using q1
   ·cases h
  ·cases h
theorem N3 {t:TypeId} {ks:List EK} (hk:eqk P 8 t=some ks) {xs:Array Value} {cs:List C} (hx:Cells I w xs cs) (h1:cs.length=ks.length) {es:List MapEntry} {kc:List (List C)} {r:Option Nat} (hl:es.length=kc.length)
 (pg:∀ (j:Nat) (e:MapEntry) (c:List C),es[j]?=some e→kc[j]?=some c→∃ ys,e.key=mkv P t ys∧Cells I w ys c) (h:ng ks cs kc 0=some r) :
 (Instr.findKey t (mkv P t xs) es).run P w=.ok (r.map fun j=>(j,((es[j]?).map (·.val)).getD undef)) w:=by
 obtain⟨q,_⟩:=Dx hk hx h1 es kc 0 r hl pg h
 obtain⟨u,hu⟩:=po hk
 cases hz:cZ P t with
 |true=>
  rw[if_pos hz] at q
  rw[run_findKey_eq w (by unfold cZ at hz;rw[hu] at hz ⊢;cases u<;>simp_all)]
  simpa using q
 |false=>
  rw[if_neg (by simp[hz])] at q
  simp only[hu,cx] at q
  rw[MapKept.run_findKey hu q];simp
end
section
variable {P:Program} {G:Gl} {tr:List Nat} {n:Nat} {I0:Ft} {M:Mx} {w0:World} {I:Ft} {β:Nat→Option Nat} {ob:Loc→Option Nat} {s:S} {a:Act} {w:World} {o:Oper}
 {next:Act→World→Prop} {Q:Exit→Act→World→Prop} {base:Nat→Prop} {v:Value} {x y:V} {K:V→Prop}
theorem A9 {d:TypeDesc} {k e:TypeId} (h:Vl.K.map k e=vC d):d=.map k e:=by cases d<;>simp_all[vC]
theorem Ba {ag:Bool}:∀ {r:List V} {kcs:List (List C)},jQ ag r=some kcs→r.length=2*kcs.length∧∀ (j:Nat) (c:List C),kcs[j]?=some c→(r.getD (2*j) .un).kcs ag=some c
 |[],kcs,h=>by simp only[jQ,ao] at h;subst h;exact⟨rfl,by simp⟩
 |[_],kcs,h=>by simp[jQ] at h
 |k::v::r,kcs,h=>by
  simp only[jQ] at h
  split at h
  ·rename_i q l h1 h2
   simp only[ao] at h;subst h
   obtain⟨h3,h4⟩:=Ba h2
   refine⟨by simp[h3];omega,fun j c hc=>?_⟩
   cases j with
   |zero=>simp at hc;subst hc;exact h1
   |succ j=>
    rw[show 2*(j+1)=2*j+1+1 by omega]
    simp only[fy]
    exact h4 j c (by simpa using hc)
  ·cases h
theorem Bb {ks:List EK} {k:List C}:∀ {kcs:List (List C)} {i j:Nat},ng ks k kcs i=some (some j)→∃ q c,j=i+q∧kcs[q]?=some c∧c.length=ks.length∧jB ks k c=some true
 |[],i,j,h=>by simp[ng] at h
 |c::r,i,j,h=>by
  simp only[ng] at h
  split at h
  ·rename_i hl
   split at h
   ·rename_i he
    simp only[ao] at h;subst h
    exact⟨0,c,rfl,rfl,hl,he⟩
   ·obtain⟨q,c',rfl,h2,h3,h4⟩:=Bb h
    exact⟨q+1,c',by omega,by simpa using h2,h3,h4⟩
   ·cases h
  ·cases h
theorem sF:∀ (es:List MapEntry) (j:Nat) (e:MapEntry),es[j]?=some e→(kV es)[2*j]?=some e.key∧(kV es)[2*j+1]?=some e.val
 |[],j,e,h=>by simp at h
 |x::es,0,e,h=>by simp at h;subst h;exact⟨rfl,rfl⟩
 |x::es,j+1,e,h=>by
  obtain⟨h1,h2⟩:=sF es j e (by simpa using h)
  rw[show 2*(j+1)=2*j+1+1 by omega]
  simp only[kV,dp]
  exact⟨h1,h2⟩
theorem xu:∀ es:List MapEntry,(kV es).length=2*es.length
 |[]=>rfl
 |x::es=>by simp[kV,xu es];omega
theorem QN {ag:Bool} {kt:TypeId} (kT:ag=cZ P kt) {ox:Option Nat} (h:LR base I β w ox v x) {c:List C} (hc:x.kcs ag=some c):∃ ys,v=mkv P kt ys∧Cells I w ys c:=by
 cases x<;>simp only[V.kcs] at hc<;>try cases hc
 ·split at hc
  ·cases hc
  ·rename_i hf
   simp only[ao] at hc;subst hc
   have hz:cZ P kt=false:=by rw[← kT];simpa using hf
   refine⟨#[v],by simp[mkv,hz],rfl,fun j c hc=>?_⟩
   cases j with
   |zero=>simp at hc;subst hc;exact h.toC
   |succ j=>simp at hc
 ·split at hc
  ·rename_i ht
   simp only[ao] at hc;subst hc
   have hz:cZ P kt=true:=by rw[← kT];exact ht
   obtain⟨vs,rfl,h1,h2⟩:=h.agg
   exact⟨vs,by simp[mkv,hz],h1,h2⟩
  ·cases hc
theorem vN {ox:Option Nat} (h:LR base I β w ox v x):DR I w v x.dr:=by
 cases x<;>simp only[V.dr]<;>first | exact .un _ | skip
 ·exact .c _ _ h.toC
 ·simp only[LR] at h;exact h
 ·exact .c _ _ h.1
theorem N4 {et:TypeId} {e:TI} {z:V} (hi:ti P et=some e) (hz:re e=some z) (ha:zaB P et=true):∃ zv,(zeroValue et).run P w=.ok zv w∧∀ (base:Nat→Prop) (β:Nat→Option Nat),LR base I β w none zv z:=by
 obtain⟨j,d,h1,h2,_,_,_,kT,hze,_⟩:=bB hi
 unfold zaB at ha
 rw[h1] at ha
 simp only at ha
 unfold re at hz
 cases tM:j.zero with
 |none=>rw[tM] at ha;cases ha
 |some zv=>
  rw[tM] at ha hze
  refine⟨zv,by simp[zeroValue,typeInfo,h1,tM],fun base β=>?_⟩
  simp only at hze
  split at hz
  ·rename_i zc' Mc tj
   simp only[ao] at hz;subst hz
   rw[tj] at hze
   rw[Mc] at kT
   cases zv<;>simp only[← kT,kG,aY] at ha
   rename_i cs
   simp only[LR]
   refine .agg _ _ (by have:=List.mapM_eq_some_length hze.symm;simpa[Value.cells] using this.symm) fun q c hc=>?_
   obtain⟨u,hu,huc⟩:=List.mapM_eq_some_get hze.symm q c hc
   have:cs.getD q undef=u:=by
    simp only[Value.cells,aM] at hu
    simp[hu]
   rw[this];exact MB huc
  ·rename_i c Gu tj
   simp only[ao] at hz;subst hz
   rw[tj] at hze
   rw[Gu] at kT
   have hl:=List.mapM_eq_some_length hze.symm
   obtain⟨u,hu,huc⟩:=List.mapM_eq_some_get hze.symm 0 c rfl
   have:zv=u:=by
    cases zv<;>simp only[← kT,Bool.not_false,aY] at ha<;>simpa[Value.cells] using hu
   rw[this];exact .ofC (MB huc)
  ·cases hz
structure QO (P:Program) (I:Ft) (M:Mx) (w0:World) (β:Nat→Option Nat) (ob:Loc→Option Nat) (s:S) (w:World) (i:Nat) (bs:List Nat) (cl:Nat) (r:List V) (blk:Nat) (es:Array MapEntry):Prop where
 lt:i<s.nb
 bx:s.bx i=.mk bs cl::r
 bt:β i=some blk
 wr:Wr M w0 blk
 fr:∀ o,¬ I blk o
 heap:w.heap[blk]?=some (.map es cl)
 born:es.toList.map (·.born)=bs
 len:r.length=2*bs.length
 ent:∀ (j:Nat) (e:MapEntry),es.toList[j]?=some e→LR (Wr M w0) I β w (ob (.b i (2*j+1))) e.key (r.getD (2*j) .un)∧LR (Wr M w0) I β w (ob (.b i (2*j+2))) e.val (r.getD (2*j+1) .un)
theorem St.mapW (aR:St G n I0 M w0 I β ob s a w) {i blk cl:Nat} {bs:List Nat} {r:List V} (hi:i<s.nb) (hb:s.bx i=.mk bs cl::r) (hβ:β i=some blk):∃ es,QO P I M w0 β ob s w i bs cl r blk es:=by
 obtain⟨tn,cur,e1,e2,e3,e4,e5,e7⟩:=aR.bx i hi
 rw[hβ] at e1;cases e1
 have hm:qZ (s.bx i)=some (.mp bs cl):=by rw[hb];rfl
 unfold HB at e3
 rw[hm] at e3
 obtain⟨es,q1,q2,q3,q4⟩:=e3
 refine⟨es,hi,hb,hβ,e2,e7,q1,q2,by rw[hb,aZ] at q4;omega,fun j e he=>?_⟩
 obtain⟨c1,c2⟩:=sF _ _ _ he
 have g1:cur.getD (2*j+1) undef=e.key:=by
  rw[aj,← aM,q3];simp[c1]
 have g2:cur.getD (2*j+2) undef=e.val:=by
  rw[aj,← aM,q3,show 2*j+2=(2*j+1)+1 by omega];simp[c2]
 have l1:=e5 (2*j+1)
 have l2:=e5 (2*j+2)
 rw[g1,hb] at l1
 rw[g2,hb,show 2*j+2=(2*j+1)+1 by omega] at l2
 simp only[fy] at l1 l2
 exact⟨l1,l2⟩
theorem wu {T:TypeId} {K:Nat→List Nat→Nat→List V→Option Nat→V→Prop} (h:ij P T s x y K) :
 ∃ i kt et tT tk te ks kc z bs cl r kcs res,ti P T=some tT∧tT.kd=.map kt et∧x=.mr i∧ti P kt=some tk∧tk.eqs=some ks∧ti P et=some te∧y.kcs tk.agg=some kc∧re te=some z∧
  s.bx i=.mk bs cl::r∧jQ tk.agg r=some kcs∧ng ks kc kcs 0=some res∧(i<s.nb∧kc.length=ks.length∧jB ks kc kc=some true∧zaB P et=true)∧K i bs cl r res z:=by
 unfold ij at h
 split at h
 ·rename_i hT
  split at h
  ·rename_i h2 h3
   split at h
   ·rename_i h4 h5 h6
    split at h
    ·rename_i h7
     split at h
     ·rename_i h8
      exact⟨_,_,_,_,_,_,_,_,_,_,_,_,_,_,hT,rfl,rfl,h2,rfl,h3,h4,h5,h6,h7,h8,h.1,h.2⟩
     ·exact h.elim
    ·exact h.elim
   ·exact h.elim
  ·exact h.elim
 ·exact h.elim
theorem WV {t:TypeId} {i:TI} {ks:List EK} (h:ti P t=some i) (hk:i.eqs=some ks):eqk P 8 t=some ks:=by
 obtain⟨_,_,_,_,_,_,_,_,_,_,he,_⟩:=bB h
 rw[hk] at he
 split at he
 ·cases he
 ·exact he.symm
theorem o4 {T:TypeId} {K:Nat→List Nat→Nat→List V→Option Nat→V→Prop} {vx vy:Value} {ox oy:Option Nat} (aR:St G n I0 M w0 I β ob s a w) (h:ij P T s x y K)
 (hx:LR (Wr M w0) I β w ox vx x) (hy:LR (Wr M w0) I β w oy vy y) :
 ∃ i bs cl r res z blk kt et es zv,K i bs cl r res z∧x=.mr i∧vx=.map (some blk)∧QO P I M w0 β ob s w i bs cl r blk es∧P.underlying T=some (.map kt et)∧
  (∀ em,(Instr.checkKey em 10000 kt vy).run P w=.ok () w)∧
  (Instr.findKey kt vy es.toList).run P w=.ok (res.map fun j=>(j,((es.toList[j]?).map (·.val)).getD undef)) w∧
  (∀ j,res=some j→∃ e,es.toList[j]?=some e∧e.key=vy∧(Instr.keyThatStays e.key vy).run P w=.ok vy w)∧
  (zeroValue et).run P w=.ok zv w∧LR (Wr M w0) I β w none zv z:=by
 obtain⟨i,kt,et,tT,tk,te,ks,kc,z,bs,cl,r,kcs,res,h1,h2,rfl,h3,h4,h5,h6,h7,h8,h9,h10,⟨c1,c2,c3,c4⟩,hK⟩:=wu h
 obtain⟨_,d,_,hu,hkd,_⟩:=bB h1
 rw[h2] at hkd
 have hd:=A9 hkd
 subst hd
 have hek:=WV h3 h4
 have kT:tk.agg=cZ P kt:=by obtain⟨_,_,_,_,_,_,_,h,_⟩:=bB h3;exact h
 simp only[LR] at hx
 obtain⟨blk,hβ,rfl⟩:=hx
 obtain⟨es,hm⟩:=aR.mapW (P:=P) c1 h8 hβ
 obtain⟨xs,rfl,oE⟩:=QN (P:=P) kT hy h6
 obtain⟨zv,V0,Qf⟩:=N4 (I:=I) (w:=w) h5 h7 c4
 obtain⟨k1,k2⟩:=Ba h9
 have WC:es.toList.length=bs.length:=by rw[← hm.born,au]
 have vX:es.toList.length=kcs.length:=by have:=hm.len;omega
 have pg:∀ (j:Nat) (e:MapEntry) (c:List C),es.toList[j]?=some e→kcs[j]?=some c→∃ ys,e.key=mkv P kt ys∧Cells I w ys c:=fun j e c he hc=>
  QN (P:=P) kT (hm.ent j e he).1 (k2 j c hc)
 refine⟨i,bs,cl,r,res,z,blk,kt,et,es,zv,hK,rfl,rfl,hm,hu,fun em=>?_,N3 hek oE c2 vX pg h10,fun j hj=>?_,V0,Qf _ _⟩
 ·exact Fc em 8 kt ks hek 9992 xs (by rw[oE.1];exact c2)
 ·subst hj
  obtain⟨q,c,hq,hc,hl,he⟩:=Bb h10
  have bK:q<es.toList.length:=by rw[vX];exact(ah.1 hc).1
  have tW:es.toList[j]?=some es.toList[q]:=by rw[show j=q by omega];exact ae bK
  refine⟨_,tW,?_⟩
  obtain⟨ys,Ax,uS⟩:=pg j _ c tW (by rw[show j=q by omega];exact hc)
  have:=Fb (P:=P) (t:=kt) oE uS he c2 hl (fun hz=>by
   have:=uX hek hz;omega)
  rw[Ax]
  exact⟨this.1.symm,this.2⟩
theorem CY {T:TypeId} {ok:Bool} {vx vy:Value} {ox oy:Option Nat} (aR:St G n I0 M w0 I β ob s a w) (h:fM P T s x y ok K)
 (hx:LR (Wr M w0) I β w ox vx x) (hy:LR (Wr M w0) I β w oy vy y) :
 ∃ z u,K z∧LR (Wr M w0) I β w none u z∧(Instr.lookup T vx vy ok).run P w=.ok u w:=by
 unfold fM at h
 obtain⟨i,bs,cl,r,res,z,blk,kt,et,es,zv,hK,rfl,rfl,hm,hu,vK,Dn,mX,V0,Qf⟩:=o4 aR h hx hy
 have hg:=fh (P:=P) hm.heap
 cases res with
 |some j=>
  obtain⟨e,he,_,_⟩:=mX j rfl
  have hv:=(hm.ent j e he).2
  simp only[b8,he,cx] at Dn
  cases ok with
  |false=>
   simp only[aY,dm] at hK
   exact⟨_,e.val,hK,hv.fz none,by simp[Instr.lookup,aP hu,hg,vK,Dn,Result.andThen]⟩
  |true=>
   simp only[db] at hK
   refine⟨_,.tuple #[e.val,.bool true],hK,?_,by simp[Instr.lookup,aP hu,hg,vK,Dn,Result.andThen]⟩
   simp only[LR]
   refine .tup _ _ rfl fun q d hd=>?_
   match q with
   |0=>simp at hd;subst hd;exact vN hv
   |1=>simp at hd;subst hd;exact .c _ _ (.lit _ rfl)
   |q+2=>simp at hd
 |none=>
  simp only[jJ] at Dn
  cases ok with
  |false=>
   simp only[aY,dm] at hK
   exact⟨_,zv,hK,Qf,by simp[Instr.lookup,aP hu,hg,vK,Dn,V0,Result.andThen]⟩
  |true=>
   simp only[db] at hK
   refine⟨_,.tuple #[zv,.bool false],hK,?_,by simp[Instr.lookup,aP hu,hg,vK,Dn,V0,Result.andThen]⟩
   simp only[LR]
   refine .tup _ _ rfl fun q d hd=>?_
   match q with
   |0=>simp at hd;subst hd;exact vN Qf
   |1=>simp at hd;subst hd;exact .c _ _ (.lit _ rfl)
   |q+2=>simp at hd
theorem N5 {es:List MapEntry} {b j:Nat} (h:(es.map (·.born)).findIdx? (·==b)=some j):∃ e,es[j]?=some e∧es.find? (·.born==b)=some e:=by
 induction es generalizing j with
 |nil=>simp at h
 |cons e es ih=>
  simp only[bA,List.findIdx?_cons] at h
  cases hb:(e.born==b) with
  |true=>rw[hb] at h;simp at h;subst h;exact⟨e,rfl,by simp[hb]⟩
  |false=>
   rw[hb] at h
   simp only[aY,dm,aW] at h
   obtain⟨q,hq,rfl⟩:=h
   obtain⟨e',h1,h2⟩:=ih hq
   exact⟨e',by simpa using h1,by simp[hb,h2]⟩
theorem Fe {vx:Value} {ox:Option Nat} (aR:St G n I0 M w0 I β ob s a w) (h:oI s x K) (hx:LR (Wr M w0) I β w ox vx x) :
 ∃ z u,K z∧LR (Wr M w0) I β w none u z∧(Instr.entry vx).run P w=.ok u w:=by
 unfold oI at h
 split at h
 ·rename_i i since stepped seen
  split at h
  ·rename_i bs cl r b hb hl
   split at h
   ·rename_i j hj
    obtain⟨⟨hi,rfl⟩,hK⟩:=h
    simp only[LR] at hx
    obtain⟨blk,m,_,_,hβ,rfl,hh,_⟩:=hx
    obtain⟨es,hm⟩:=aR.mapW (P:=P) hi hb hβ
    have VX:=hj
    rw[← hm.born] at VX
    obtain⟨e,he,hf⟩:=N5 VX
    obtain⟨l1,l2⟩:=hm.ent j e he
    have GF:es.find? (fun x=>x.born==b)=some e:=by rw[← Array.find?_toList];exact hf
    have hg:(getObj blk).run P w=.ok (.mapIter (some m) since seen.toArray cl) w:=by simp[getObj,Sem.run,hh]
    have NL:=fh (P:=P) hm.heap
    refine⟨_,.tuple #[e.key,e.val],hK,?_,?_⟩
    ·simp only[LR]
     refine .tup _ _ rfl fun q d hd=>?_
     match q with
     |0=>simp at hd;subst hd;exact vN l1
     |1=>simp at hd;subst hd;exact vN l2
     |q+2=>simp at hd
    ·simp[Instr.entry,hg,NL,GF,hl,Result.andThen]
   ·exact h.elim
  ·exact h.elim
 ·exact h.elim
theorem Ff {T:TypeId} {vx:Value} {ox:Option Nat} (aR:St G n I0 M w0 I β ob s a w) (hd:∀ d,o.dst=some d→d<n) (h:oH P T s x K) (hx:LR (Wr M w0) I β w ox vx x) :
 ∃ z u w',K z∧(Instr.range T vx).run P w=.ok u w'∧SE G n I0 M w0 (s.after tr o z) (a.put o.dst u) w':=by
 unfold oH at h
 split at h
 ·rename_i hT
  obtain⟨_,d,_,hu,hkd,_⟩:=bB hT
  have qo:=A9 hkd
  subst qo
  split at h
  ·rename_i i bs cl r hb
   obtain⟨hi,hK⟩:=h
   simp only[LR] at hx
   obtain⟨blk,hβ,rfl⟩:=hx
   obtain⟨es,hm⟩:=aR.mapW (P:=P) hi hb hβ
   have hg:=fh (P:=P) hm.heap
   have hs:=aR.allocOwn (.mapIter (some blk) cl #[] cl)
   have tq:=aR.fresh (ab _)
   refine⟨_,.pointer (some ⟨w.heap.size,0,none⟩),w.alloc (.mapIter (some blk) cl #[] cl),hK,by simp[Instr.range,aP hu,hg,Result.andThen],?_⟩
   refine .fin hs hd (o':=some w.heap.size) ?_ fun b hb=>?_
   ·simp only[LR]
    exact⟨w.heap.size,blk,rfl,.inl aR.below.size,hβ,rfl,gd w _,fun o ho=>by have:=aR.ibnd _ _ ho;omega⟩
   ·cases hb
    refine⟨⟨by rw[eu];omega,.inl aR.below.size⟩,tq.2,fun L hL=>absurd hL (tq.1 L)⟩
  ·exact h.elim
 ·exact h.elim
theorem G1 {T ty:TypeId} {vx:Value} {ox:Option Nat} (aR:St G n I0 M w0 I β ob s a w) (h:GL P s K [T] [x]) (hx:LR (Wr M w0) I β w ox vx x) :
 ∃ u,flat u=true∧K (.c (.lit u))∧(Builtin.len_ #[T] ty #[vx]).run P w=.ok u w:=by
 unfold GL at h
 split at h
 ·rename_i T' i tz qt
  simp only[cB,gK] at tz qt
  subst tz;subst qt
  split at h
  ·rename_i hT hb
   obtain⟨_,d,_,hu,hkd,_⟩:=bB hT
   have qo:=A9 hkd
   subst qo
   obtain⟨hi,hK⟩:=h
   simp only[LR] at hx
   obtain⟨blk,hβ,rfl⟩:=hx
   obtain⟨tn,cur,e1,e2,e3,e4,e5,e7⟩:=aR.bx i hi
   rw[hβ] at e1;cases e1
   unfold HB at e3
   rw[hb] at e3
   obtain⟨es,q1,q2,_⟩:=e3
   have hg:=fh (P:=P) q1
   refine⟨_,rfl,hK,?_⟩
   have hl:=dK List.length q2
   rw[au,bP] at hl
   simp[Builtin.len_,aP hu,hg,Result.andThen,goInt,hl]
  ·exact h.elim
 ·exact h.elim
end
section
variable {P:Program} {G:Gl} {tr:List Nat} {n:Nat} {I0:Ft} {M:Mx} {w0:World} {I:Ft} {β:Nat→Option Nat} {ob:Loc→Option Nat} {s:S} {a:Act} {w:World} {o:Oper}
 {next:Act→World→Prop} {Q:Exit→Act→World→Prop} {base:Nat→Prop} {v:Value} {x y:V}
theorem abe (aR:St G n I0 M w0 I β ob s a w) (x:Operand):(∃ ox,LR (Wr M w0) I β w ox (a.eval x) (vw s (ev G s x)).fz)∨∃ es,(vw s (ev G s x)).fz=.c (.sl es)∧RD I w (a.eval x) es:=by
 have hx:=bH aR x
 cases he:ev G s x with
 |ms i off len cap sz=>
  rw[he] at hx
  simp only[LR] at hx
  simp only[vw]
  cases hv:mJ s i off len sz with
  |none=>left;exact⟨none,by simp only[V.fz,LR];exact .un _⟩
  |some c=>
   obtain⟨es,rfl,hrd⟩:=WU aR hv hx
   right;exact⟨es,rfl,hrd⟩
 |_=>left;rw[he] at hx;exact⟨none,hx.fz none⟩
theorem G2 (aR:St G n I0 M w0 I β ob s a w) (x:Operand) (ys:List (List C)) (h:(vw s (ev G s x)).fz=.c (.sl ys)):RD I w (a.eval x) ys:=by
 rcases abe aR x with⟨ox,hx⟩ | ⟨es,he,hrd⟩
 ·rw[h] at hx;exact .ofCR hx.toC
 ·rw[h] at he;cases he;exact hrd
theorem abf {x:V} {E:Option (TypeId×Nat)} {es:List (List C)} (h:vw s x=.ow E es):x=.ow E es:=by
 cases x<;>simp only[vw] at h<;>try exact h
 split at h<;>cases h
theorem Bc {K:V→Prop} {X Y:Operand} {t t' ty:TypeId} (aR:St G n I0 M w0 I β ob s a w) (hd:∀ d,o.dst=some d→d<n) (tw:bY tr o=(match X with | .tmp t=>some t | _=>none))
 (h:eW P .append [t,t'] [vw s (ev G s X),vw s (ev G s Y)] K):∃ z u w',K z∧(Builtin.append_ #[t,t'] ty #[a.eval X,a.eval Y]).run P w=.ok u w'∧SE G n I0 M w0 (s.after tr o z) (a.put o.dst u) w':=by
 have key:∀ ys,dN P t (vw s (ev G s X)) ys K→(∀ ys' e,P.underlying t=some (.slice e)→∀ j,ti P e=some j→ys=.c (.sl ys')→(∀ x∈ys',x.length=j.size)→GV P I w t' (a.eval Y) j.size ys')→
  ∃ z u w',K z∧(Builtin.append_ #[t,t'] ty #[a.eval X,a.eval Y]).run P w=.ok u w'∧SE G n I0 M w0 (s.after tr o z) (a.put o.dst u) w':=by
  intro ys h rz
  have h':dN P t (ev G s X) ys K:=by
   cases hx:vw s (ev G s X) with
   |ow E es=>rw[hx] at h;rw[abf hx];exact h
   |_=>rw[hx] at h;simp[dN] at h
  exact CW (tr:=tr) (U:=t') (ty:=ty) aR hd tw h' rz
 simp only[eW] at h
 split at h
 ·rename_i htt
  subst htt
  exact key _ h fun ys' e hu j hj hy hl=>(G2 aR Y ys' hy).src hu hl
 ·unfold qH at h
  split at h
  ·rename_i e _ _ _ _ _ _ _ _ _ _ _ _ st hi JD hy
   obtain⟨j1,d1,_,h2,h3,_⟩:=bB hi
   have VY:=dx h3
   subst VY
   obtain⟨j2,d2,_,h22,h32,_⟩:=bB JD
   have hd2:=nT h32
   subst hd2
   split at h
   ·rename_i ie kU
    obtain⟨Aa,h⟩:=h
    have ali:ev G s Y=.c (.lit (.string st)):=by
     have:(vw s (ev G s Y)).fz=.c (.lit (.string st)):=hy
     cases tO:ev G s Y<;>rw[tO] at this
     case hh g E es=>cases g<;>simp[vw,V.fz] at this
     case gs g E es=>cases g<;>simp[vw,V.fz] at this
     case ms i off len cap sz=>
      simp only[vw] at this
      split at this
      ·rename_i c hc
       simp only[V.fz,V.c.injEq] at this
       subst this
       unfold mJ at hc;split at hc
       ·split at hc<;>simp at hc
       ·cases hc
      ·simp[V.fz] at this
     all_goals simp_all[vw,V.fz]
    have hv:=bH aR Y
    rw[ali] at hv
    refine key _ h fun ys' e' hu j hj Qg hl=>?_
    rw[h2] at hu
    simp only[ao,TypeDesc.slice.injEq] at hu
    subst hu
    rw[kU] at hj
    cases hj
    simp only[V.c.injEq,C.sl.injEq] at Qg
    subst Qg
    rw[hv.lit,Aa]
    exact WT h22
   ·exact h.elim
  ·exact h.elim
theorem St.unghost {t d:Tmp} {v:Value} {E:Option (TypeId×Nat)} {es:List (List C)} (aR:St G n I0 M w0 I β ob s a w) (JX:t≠d) (ht:s.fr t=.c (.ex v)) (NM:s.fr d=.gh v E es) (VZ:d<n) (rC:t<n) :
 ∃ ob',St G n I0 M w0 I β ob' { s with fr:=up (up s.fr d .un) t (.ow E es) } a w:=by
 have hg:=aR.fr d
 rw[NM] at hg
 simp only[LR] at hg
 have hx:=aR.fr t
 rw[ht] at hx
 have hv:a.tmps.getD t undef=v:=by
  have:=hx.toC
  generalize a.tmps.getD t undef=q at this
  cases this with
  |ex _ h1 h2=>rfl
 have h1:=aR.put d VZ (v:=a.tmps.getD d undef) (x:=.un) (o:=none) (by simp only[LR];exact .un _) FreeOb.nothing
 have h2:=h1.put t rC (v:=a.tmps.getD t undef) (x:=.ow E es) (o:=ob (.t d)) (by rw[hv];simp only[LR];exact hg) (fun b hb=>by
  refine⟨aR.obnd _ b hb,fun L hL=>?_,fun i=>aR.obx _ b i hb⟩
  simp only[upL] at hL
  split at hL
  ·cases hL
  ·split at hL
   ·cases hL
   ·rename_i h3 h4
    exact h4 (aR.oinj _ _ b hL hb))
 have back:∀ (a:Act) (q:Tmp),q<a.tmps.size→a.put (some q) (a.tmps.getD q undef)=a:=fun a q hq=>by
  have:a.tmps.set! q (a.tmps.getD q undef)=a.tmps:=by
   apply mE
   ·simp[b9]
   ·intro i h1 h2
    simp only[b9,gx h2]
    split
    ·rename_i e;subst e;simp[Array.getD,h2]
    ·rfl
  show(⟨a.tmps.set! q (a.tmps.getD q undef),a.defers⟩:Act)=a
  rw[this]
 rw[back a d (by rw[aR.size];exact VZ),back a t (by rw[aR.size];exact rC)] at h2
 exact⟨_,h2⟩
theorem St.unghostG {t d:Tmp} {v:Value} {E:Option (TypeId×Nat)} {es:List (List C)} (aR:St G n I0 M w0 I β ob s a w) (JX:t≠d) (ht:s.fr t=.c (.ex v)) (NM:s.fr d=.gg v E es) (VZ:d<n) (rC:t<n) :
 ∃ ob',St G n I0 M w0 I β ob' { s with fr:=up (up s.fr d .un) t (.gs none E es) } a w:=by
 have hg:=aR.fr d
 rw[NM] at hg
 simp only[LR] at hg
 have hx:=aR.fr t
 rw[ht] at hx
 have hv:a.tmps.getD t undef=v:=by
  have:=hx.toC
  generalize a.tmps.getD t undef=q at this
  cases this with
  |ex _ h1 h2=>rfl
 have h1:=aR.put d VZ (v:=a.tmps.getD d undef) (x:=.un) (o:=none) (by simp only[LR];exact .un _) FreeOb.nothing
 have h2:=h1.put t rC (v:=a.tmps.getD t undef) (x:=.gs none E es) (o:=ob (.t d)) (by rw[hv];simp only[LR];exact⟨(fun _ h=>by cases h),hg⟩) (fun b hb=>by
  refine⟨aR.obnd _ b hb,fun L hL=>?_,fun i=>aR.obx _ b i hb⟩
  simp only[upL] at hL
  split at hL
  ·cases hL
  ·split at hL
   ·cases hL
   ·rename_i h3 h4
    exact h4 (aR.oinj _ _ b hL hb))
 have back:∀ (a:Act) (q:Tmp),q<a.tmps.size→a.put (some q) (a.tmps.getD q undef)=a:=fun a q hq=>by
  have:a.tmps.set! q (a.tmps.getD q undef)=a.tmps:=by
   apply mE
   ·simp[b9]
   ·intro i h1 h2
    simp only[b9,gx h2]
    split
    ·rename_i e;subst e;simp[Array.getD,h2]
    ·rfl
  show(⟨a.tmps.set! q (a.tmps.getD q undef),a.defers⟩:Act)=a
  rw[this]
 rw[back a d (by rw[aR.size];exact VZ),back a t (by rw[aR.size];exact rC)] at h2
 exact⟨_,h2⟩
theorem yL (aR:St G n I0 M w0 I β ob s a w) {t:Tmp} {v:Value} (ht:s.fr t=.c (.ex v)):a.tmps.getD t undef=v∧v.oneCell'=true∧v.cells=#[v]:=by
 have hx:=aR.fr t
 rw[ht] at hx
 have:=hx.toC
 generalize a.tmps.getD t undef=q at this
 cases this with
 |ex _ h1 h2=>exact⟨rfl,h1,h2⟩
theorem jn {q:Tmp} (hq:q<a.tmps.size):a.put (some q) (a.tmps.getD q undef)=a:=by
 have:a.tmps.set! q (a.tmps.getD q undef)=a.tmps:=by
  apply mE
  ·simp[b9]
  ·intro i h1 h2
   simp only[b9,gx h2]
   split
   ·rename_i e;subst e;simp[Array.getD,h2]
   ·rfl
 show(⟨a.tmps.set! q (a.tmps.getD q undef),a.defers⟩:Act)=a
 rw[this]
theorem N6 {K:V→Prop} {t d:Tmp} {y:Operand} {v:Value} {E:Option (TypeId×Nat)} {es:List (List C)} {ts:List TypeId} {ty:TypeId} (aR:St G n I0 M w0 I β ob s a w) (hd:∀ d,o.dst=some d→d<n) (tw:∀ t' y',[Operand.tmp t,y]=[.tmp t',y']→bY tr o=some t')
 (lk:o.dst=some d) (ht:s.fr t=.c (.ex v)) (NM:s.fr d=.gg v E es) (JX:t≠d) (hyt:y≠.tmp t) (hyd:y≠.tmp d) (h:nh P ts E es (vw s (ev G s y)).fz K) :
 ∃ X Y t0 t',[Operand.tmp t,y]=[X,Y]∧ts=[t0,t']∧∃ z u w',K z∧(Builtin.append_ #[t0,t'] ty #[a.eval X,a.eval Y]).run P w=.ok u w'∧SE G n I0 M w0 (s.after tr o z) (a.put o.dst u) w':=by
 have nQ:∃ q q',ts=[q,q']:=by
  unfold nh at h
  split at h
  ·exact⟨_,_,rfl⟩
  ·exact h.elim
 obtain⟨q,q',rfl⟩:=nQ
 have hqq:q=q':=by simp only[nh] at h;exact h.1
 subst hqq
 have VZ:d<n:=hd d lk
 have rC:t<n:=by
  rcases dG t n with h' | h'
  ·exact h'
  ·exfalso
   obtain⟨e1,_,_⟩:=yL aR ht
   have e0:a.tmps.getD t undef=undef:=by rw[aj,dB (by rw[aR.size];exact h')];rfl
   have hg:=aR.fr d
   rw[NM] at hg
   simp only[LR] at hg
   rw[← e1,e0] at hg
   rcases hg with⟨_,_,_,_,h1⟩ | ⟨_,_,_,_,_,_,_,h1,_⟩<;>simp[undef] at h1
 obtain⟨ob',cK⟩:=aR.unghostG JX ht NM VZ rC
 refine⟨_,_,q,q,rfl,rfl,?_⟩
 obtain⟨z,u,w',hz,bM,I2,β2,ob2,pj⟩:=zq (tr:=tr) (o:=o) (T:=q) (U:=q) (t0:=t) (E:=E) (es:=es) (vy:=a.eval y) (ty:=ty) (K:=K) cK hd (tw t y rfl) (by simp only[bW]) h
  (fun ys' e hu j hj hy hl=>(G2 aR y ys' hy).src hu hl)
 refine⟨z,u,w',hz,bM,?_⟩
 obtain⟨e1,e2,e3⟩:=yL aR ht
 have fW:(a.put (some d) u).tmps.size=n:=by simp only[Act.put,b9,dw];exact aR.size
 have hgt:(a.put (some d) u).tmps.getD t undef=v:=by
  rw[← e1]
  show(a.tmps.set! d u).getD t undef=_
  simp[aj,b9,Array.getElem?_setIfInBounds,gJ JX]
 rw[lk] at pj ⊢
 have dE:=pj.put t rC (v:=(a.put (some d) u).tmps.getD t undef) (x:=.c (.ex v)) (o:=none) (by rw[hgt];exact .ofC (.ex v e2 e3)) FreeOb.nothing
 rw[jn (by rw[fW];exact rC)] at dE
 have es:(S.after tr o { s with fr:=up (up s.fr d .un) t (.gs none E es) } z).put (some t) (.c (.ex v))=s.after tr o z:=by
  unfold S.after
  rw[tw t y rfl,lk]
  have hu1:({ s with fr:=up (up s.fr d .un) t (.gs none E es) }:S).use (some t)=({ s with fr:=up (up s.fr d .un) t (.gs none E es) }:S).clr t:=by
   simp only[S.use,bW];rfl
  have hu2:s.use (some t)=s:=by simp only[S.use,ht];rfl
  rw[hu1,hu2]
  simp only[S.put,S.clr]
  congr 1
  funext r
  simp only[up]
  by_cases hr:r=t
  ·subst hr;rw[if_pos rfl,if_neg JX];exact ht.symm
  ·rw[if_neg hr,if_neg hr,if_neg hr]
   by_cases Ww:r=d
   ·simp only[if_pos Ww]
   ·simp only[if_neg Ww]
 rw[es] at dE
 exact⟨_,_,_,dE⟩
theorem Fg {K:V→Prop} {args:List Operand} {ts:List TypeId} {ty:TypeId} (aR:St G n I0 M w0 I β ob s a w) (hd:∀ d,o.dst=some d→d<n) (tw:∀ t y,args=[.tmp t,y]→bY tr o=some t)
 (h:jl P G s o.dst ts args K):∃ X Y t t',args=[X,Y]∧ts=[t,t']∧∃ z u w',K z∧(Builtin.append_ #[t,t'] ty #[a.eval X,a.eval Y]).run P w=.ok u w'∧SE G n I0 M w0 (s.after tr o z) (a.put o.dst u) w':=by
 unfold jl at h
 split at h
 ·rename_i t y d lk
  split at h
  ·rename_i v u E es ht NM
   obtain⟨⟨JX,rfl,hyt,hyd⟩,h⟩:=h
   have nQ:∃ q q',ts=[q,q']:=by
    unfold eW at h
    split at h<;>first | cases ‹Builtin.append=_› | skip
    ·rename_i q q' x y dD;exact⟨_,_,rfl⟩
    ·exact h.elim
   obtain⟨q,q',rfl⟩:=nQ
   have VZ:d<n:=hd d lk
   have rC:t<n:=by
    rcases dG t n with h' | h'
    ·exact h'
    ·exfalso
     obtain⟨e1,_,_⟩:=yL aR ht
     have e0:a.tmps.getD t undef=undef:=by rw[aj,dB (by rw[aR.size];exact h')];rfl
     have hg:=aR.fr d
     rw[NM] at hg
     simp only[LR] at hg
     rw[← e1,e0] at hg
     rcases hg.1.sl_inv with⟨⟨_,_,h1,_⟩,_⟩ | ⟨_,_,_,_,_,h1,_⟩<;>simp[undef] at h1
   obtain⟨ob',cK⟩:=aR.unghost JX ht NM VZ rC
   refine⟨_,_,q,q',rfl,rfl,?_⟩
   have hey:ev G { s with fr:=up (up s.fr d .un) t (.ow E es) } y=ev G s y:=by
    cases y with
    |tmp r=>
     have h1:r≠t:=fun e=>hyt (by rw[e])
     have h2:r≠d:=fun e=>hyd (by rw[e])
     simp only[ev,cY _ _ h1,cY _ _ h2]
    |_=>rfl
   have hvw:vw { s with fr:=up (up s.fr d .un) t (.ow E es) }=vw s:=rfl
   obtain⟨z,u,w',hz,bM,I2,β2,ob2,pj⟩:=Bc (tr:=tr) (o:=o) (X:=.tmp t) (Y:=y) (t:=q) (t':=q') (ty:=ty) (K:=K) cK hd (tw t y rfl) (by
    rw[hey,hvw]
    have:vw s (ev G { s with fr:=up (up s.fr d .un) t (.ow E es) } (.tmp t))=.ow E es:=by simp only[ev,bW];rfl
    rw[this];exact h)
   refine⟨z,u,w',hz,bM,?_⟩
   obtain⟨e1,e2,e3⟩:=yL aR ht
   have fW:(a.put (some d) u).tmps.size=n:=by simp only[Act.put,b9,dw];exact aR.size
   have hgt:(a.put (some d) u).tmps.getD t undef=v:=by
    rw[← e1]
    show(a.tmps.set! d u).getD t undef=_
    simp[aj,b9,Array.getElem?_setIfInBounds,gJ JX]
   rw[lk] at pj ⊢
   have dE:=pj.put t rC (v:=(a.put (some d) u).tmps.getD t undef) (x:=.c (.ex v)) (o:=none) (by rw[hgt];exact .ofC (.ex v e2 e3)) FreeOb.nothing
   rw[jn (by rw[fW];exact rC)] at dE
   have es:(S.after tr o { s with fr:=up (up s.fr d .un) t (.ow E es) } z).put (some t) (.c (.ex v))=s.after tr o z:=by
    unfold S.after
    rw[tw t y rfl,lk]
    have hu1:({ s with fr:=up (up s.fr d .un) t (.ow E es) }:S).use (some t)=({ s with fr:=up (up s.fr d .un) t (.ow E es) }:S).clr t:=by
     simp only[S.use,bW];rfl
    have hu2:s.use (some t)=s:=by simp only[S.use,ht];rfl
    rw[hu1,hu2]
    simp only[S.put,S.clr]
    congr 1
    funext r
    simp only[up]
    by_cases hr:r=t
    ·subst hr;rw[if_pos rfl,if_neg JX];exact ht.symm
    ·rw[if_neg hr,if_neg hr,if_neg hr]
     by_cases Ww:r=d
     ·simp only[if_pos Ww]
     ·simp only[if_neg Ww]
   rw[es] at dE
   exact⟨_,_,_,dE⟩
  ·rename_i v u E es ht NM
   obtain⟨⟨JX,rfl,hyt,hyd⟩,h⟩:=h
   exact N6 aR hd tw lk ht NM JX hyt hyd h
  ·rename_i E es ht
   obtain⟨⟨JX,hyt⟩,h⟩:=h
   have nQ:∃ q q',ts=[q,q']:=by
    unfold nh at h
    split at h
    ·exact⟨_,_,rfl⟩
    ·exact h.elim
   obtain⟨q,q',rfl⟩:=nQ
   have hqq:q=q':=by simp only[nh] at h;exact h.1
   subst hqq
   refine⟨_,_,q,q,rfl,rfl,?_⟩
   exact zq (tr:=tr) (o:=o) (T:=q) (U:=q) (t0:=t) (E:=E) (es:=es) (vy:=a.eval y) (ty:=ty) (K:=K) aR hd (tw t y rfl) ht h (fun ys' e hu j hj hy hl=>(G2 aR y ys' hy).src hu hl)
  ·exact h.elim
 ·exact h.elim
theorem Kh {K:V→Prop} {args:List Operand} {ts:List TypeId} {ty:TypeId} (aR:St G n I0 M w0 I β ob s a w) (hd:∀ d,o.dst=some d→d<n) (tw:∀ t y,args=[.tmp t,y]→bY tr o=some t)
 (h:vD P G s o.dst ts args K):∃ X Y t t',args=[X,Y]∧ts=[t,t']∧∃ z u w',K z∧(Builtin.append_ #[t,t'] ty #[a.eval X,a.eval Y]).run P w=.ok u w'∧SE G n I0 M w0 (s.after tr o z) (a.put o.dst u) w':=by
 unfold vD at h
 split at h
 ·rename_i t y d lk
  split at h
  ·rename_i v u E es ht NM
   obtain⟨⟨JX,rfl,hyt,hyd⟩,h⟩:=h
   have nQ:∃ q q',ts=[q,q']:=by
    unfold ud at h
    split at h
    ·exact⟨_,_,rfl⟩
    ·exact h.elim
   obtain⟨q,q',rfl⟩:=nQ
   have hqq:q=q':=by simp only[ud] at h;exact h.1
   subst hqq
   have VZ:d<n:=hd d lk
   have rC:t<n:=by
    rcases dG t n with h' | h'
    ·exact h'
    ·exfalso
     obtain⟨e1,_,_⟩:=yL aR ht
     have e0:a.tmps.getD t undef=undef:=by rw[aj,dB (by rw[aR.size];exact h')];rfl
     have hg:=aR.fr d
     rw[NM] at hg
     simp only[LR] at hg
     rw[← e1,e0] at hg
     rcases hg.1.sl_inv with⟨⟨_,_,h1,_⟩,_⟩ | ⟨_,_,_,_,_,h1,_⟩<;>simp[undef] at h1
   obtain⟨ob',cK⟩:=aR.unghost JX ht NM VZ rC
   refine⟨_,_,q,q,rfl,rfl,?_⟩
   obtain⟨z,u,w',hz,bM,I2,β2,ob2,pj⟩:=GW (tr:=tr) (o:=o) (T:=q) (U:=q) (t0:=t) (E:=E) (es:=es) (vy:=a.eval y) (ty:=ty) (K:=K) cK hd (tw t y rfl) (by simp only[bW]) h
    (fun ys' e hu j hj hy hl=>(G2 aR y ys' hy).src hu hl)
   refine⟨z,u,w',hz,bM,?_⟩
   obtain⟨e1,e2,e3⟩:=yL aR ht
   have fW:(a.put (some d) u).tmps.size=n:=by simp only[Act.put,b9,dw];exact aR.size
   have hgt:(a.put (some d) u).tmps.getD t undef=v:=by
    rw[← e1]
    show(a.tmps.set! d u).getD t undef=_
    simp[aj,b9,Array.getElem?_setIfInBounds,gJ JX]
   rw[lk] at pj ⊢
   have dE:=pj.put t rC (v:=(a.put (some d) u).tmps.getD t undef) (x:=.c (.ex v)) (o:=none) (by rw[hgt];exact .ofC (.ex v e2 e3)) FreeOb.nothing
   rw[jn (by rw[fW];exact rC)] at dE
   have es:(S.after tr o { s with fr:=up (up s.fr d .un) t (.ow E es) } z).put (some t) (.c (.ex v))=s.after tr o z:=by
    unfold S.after
    rw[tw t y rfl,lk]
    have hu1:({ s with fr:=up (up s.fr d .un) t (.ow E es) }:S).use (some t)=({ s with fr:=up (up s.fr d .un) t (.ow E es) }:S).clr t:=by
     simp only[S.use,bW];rfl
    have hu2:s.use (some t)=s:=by simp only[S.use,ht];rfl
    rw[hu1,hu2]
    simp only[S.put,S.clr]
    congr 1
    funext r
    simp only[up]
    by_cases hr:r=t
    ·subst hr;rw[if_pos rfl,if_neg JX];exact ht.symm
    ·rw[if_neg hr,if_neg hr,if_neg hr]
     by_cases Ww:r=d
     ·simp only[if_pos Ww]
     ·simp only[if_neg Ww]
   rw[es] at dE
   exact⟨_,_,_,dE⟩
  ·exact h.elim
 ·exact h.elim
theorem pq {K:V→Prop} (aR:St G n I0 M w0 I β ob s a w) (hd:∀ d,o.dst=some d→d<n) (h:VYK P G tr o s K)
 (hk:∀ a' w' x,K x→SE G n I0 M w0 (s.after tr o x) a' w'→next a' w'):o.wp P a w next Q:=by
 have pure_:∀ {sem:Sem Value} {z:V} {u:Value},execOp a.eval o=(do pure (.value (← sem)))→K z→LR (Wr M w0) I β w none u z→sem.run P w=.ok u w→o.wp P a w next Q:=by
  intro sem z u he hz hZ bM
  refine ey (v':=u) (w':=w) ?_ (hk _ _ _ hz (.fin0 aR hd hZ))
  rw[he];simp[bM]
 have full:∀ {sem:Sem Value} {z:V} {u:Value} {w':World},execOp a.eval o=(do pure (.value (← sem)))→K z→sem.run P w=.ok u w'→SE G n I0 M w0 (s.after tr o z) (a.put o.dst u) w'→o.wp P a w next Q:=by
  intro sem z u w' he hz bM dE
  refine ey (v':=u) (w':=w') ?_ (hk _ _ _ hz dE)
  rw[he];simp[bM]
 obtain⟨dst,op,type,pos,after,guard⟩:=o
 cases op<;>simp only[VYK] at h<;>try exact h.elim
 case move x=>
  have bM:(execOp a.eval { dst,op:=.move x,type,pos,after,guard }).run P w=.ok (.value (a.eval x)) w:=rfl
  split at h
  ·rename_i htr
   exact ey bM (hk _ _ _ h (My aR hd (x:=x) (by cases x<;>simp[bY,htr])))
  ·exact ey bM (hk _ _ _ h (WS aR hd x))
 case assign x=>
  have bM:(execOp a.eval { dst,op:=.assign x,type,pos,after,guard }).run P w=.ok (.value (a.eval x)) w:=rfl
  exact ey bM (hk _ _ _ h (My aR hd (x:=x) (by cases x<;>simp[bY])))
 case pick c b b'=>
  split at h
  ·rename_i p hc
   have GG:a.eval c=.bool p:=by have:=bH aR c;rw[hc] at this;exact this.lit
   refine ey (v':=if p then a.eval b else a.eval b') (w':=w) ?_ (hk _ _ _ h (.fin0 aR hd ?_))
   ·simp[execOp,GG,asBool]
   ·cases p
    ·exact xn aR b'
    ·exact xn aR b
  ·exact h.elim
 case build T parts=>
  obtain⟨z,u,hz,hZ,bM⟩:=E3 aR h
  exact pure_ rfl hz hZ bM
 case buildSlice T len parts=>
  obtain⟨z,u,w',hz,bM,dE⟩:=xr (tr:=tr) aR hd h
  exact full rfl hz bM dE
 case load T x=>
  obtain⟨z,u,hz,hZ,bM⟩:=uf aR h (bH aR x)
  exact pure_ rfl hz hZ bM
 case binOp op T x y yT=>
  obtain⟨u,hf,hz,bM⟩:=Ka h (bH aR x) (bH aR y) x y
  exact pure_ rfl hz (.ofLit hf) bM
 case unOp op T x=>
  obtain⟨u,hf,hz,bM⟩:=N0 h (bH aR x)
  exact pure_ rfl hz (.ofLit hf) bM
 case convert src dst' x=>
  obtain⟨z,u,w',hz,bM,dE⟩:=GY (tr:=tr) aR hd h (abe aR x)
  exact full rfl hz bM dE
 case makeFunc f first captured=>
  obtain⟨⟨h1,h2⟩,h⟩:=h
  have pr:∀ (l:Array Operand),(l.toList.map (ev G s)).all V.isPR=true→∀ j x,(l.toList.map (ev G s))[j]?=some x→PR I β w ((l.map a.eval).getD j undef) x:=by
   intro l hl j x hx
   have hm:=aQ hx
   have hp:=ba.1 hl x hm
   simp only[bb,aW] at hx
   obtain⟨X,hX,rfl⟩:=hx
   have hZ:=bH aR X
   have:(l.map a.eval).getD j undef=a.eval X:=by
    rw[aM] at hX
    simp[hX]
   rw[this]
   cases hx:ev G s X<;>rw[hx] at hp hZ<;>simp only[V.isPR] at hp<;>try cases hp
   ·exact hZ.toC
   ·simp only[LR] at hZ;exact hZ
   ·simp only[LR] at hZ;exact hZ
   ·simp only[LR] at hZ;exact hZ
   ·simp only[LR] at hZ;exact hZ
   ·simp only[LR] at hZ;exact hZ
  refine ey (v':=.func f (first.map a.eval) (captured.map a.eval)) (w':=w) rfl (hk _ _ _ h (.fin0 aR hd ?_))
  simp only[LR]
  exact⟨_,_,rfl,by simp,by simp,pr first h1,pr captured h2⟩
 case lookup T x k ok=>
  obtain⟨z,u,hz,hZ,bM⟩:=CY aR h (bH aR x) (bH aR k)
  exact pure_ rfl hz hZ bM
 case range T x=>
  obtain⟨z,u,w',hz,bM,dE⟩:=Ff (tr:=tr) aR hd h (bH aR x)
  exact full rfl hz bM dE
 case entry x=>
  obtain⟨z,u,hz,hZ,bM⟩:=Fe aR h (bH aR x)
  exact pure_ rfl hz hZ bM
 case sliceToArrayPointer T x=>
  obtain⟨z,u,hz,hZ,bM⟩:=Kf h (bH aR x)
  exact pure_ rfl hz hZ bM
 case nilCheck x=>
  have hx:=bH aR x
  split at h
  ·rename_i i o tO
   rw[tO] at hx
   simp only[LR] at hx
   obtain⟨blk,hβ,hv⟩:=hx
   refine ey (v':=.pointer (some ⟨blk,o,none⟩)) (w':=w) ?_ (hk _ _ _ h (.fin0 aR hd (by simp only[LR];exact⟨blk,hβ,rfl⟩)))
   simp only[execOp,hv];rfl
  ·rename_i cs k tO
   rw[tO] at hx
   obtain⟨b,off,f,hv,_⟩:=hx.toC.rp_inv
   refine ey (v':=a.eval x) (w':=w) ?_ (hk _ _ _ h (.fin0 aR hd (.ofC hx.toC)))
   simp only[execOp,hv];rfl
  ·rename_i ad tO
   rw[tO] at hx
   have hv:=hx.toC.ex_inv
   refine ey (v':=a.eval x) (w':=w) ?_ (hk _ _ _ h (.fin0 aR hd (.ofC hx.toC)))
   simp only[execOp,hv];rfl
  ·exact h.elim
 case slice T x lo hi mx=>
  obtain⟨z,u,hz,hZ,bM⟩:=E6 aR h (xn aR x)
  exact pure_ rfl hz hZ bM
 case fieldAddr T x f=>
  obtain⟨z,u,hz,hZ,bM⟩:=yI h (bH aR x)
  exact pure_ rfl hz hZ bM
 case field T x f=>
  obtain⟨z,u,hz,hZ,bM⟩:=EZ h (bH aR x)
  exact pure_ rfl hz hZ bM
 case indexAddr T x i=>
  obtain⟨z,u,hz,hZ,bM⟩:=yJ h (xn aR x) (bH aR i)
  exact pure_ rfl hz hZ bM
 case index T x i=>
  obtain⟨z,u,hz,hZ,bM⟩:=E0 h (bH aR x) (bH aR i)
  exact pure_ rfl hz hZ bM
 case extract x i=>
  split at h
  ·rename_i ds hx
   split at h
   ·rename_i d hdi
    have hZ:=bH aR x
    rw[hx] at hZ
    simp only[LR] at hZ
    generalize Gx:a.eval x=vv at hZ
    cases hZ with
    |tup vs _ h1 h2=>
     have bK:i<vs.size:=by rw[h1];exact(ah.1 hdi).1
     have vZ:=h2 i d hdi
     refine pure_ (u:=vs.getD i undef) rfl h ?_ (by simp[Gx,Instr.extract,ay bK])
     generalize vs.getD i undef=vv' at vZ
     cases d<;>simp only[LR]<;>first | exact vZ | (cases vZ;done)
   ·exact h.elim
  ·exact h.elim
 case call c=>
  obtain⟨callee,args,ts⟩:=c
  cases callee with
  |value f=>exact GZ (tr:=tr) (f:=f) (args:=args) (ts:=ts) rfl aR hd h hk
  |invoke r m=>exact h.elim
  |builtin b=>
   have mX:∀ sem:Sem Value,builtin b ts type (args.map fun | .const _=>true | _=>false) (args.map a.eval)=(do pure (.value (← sem)))→
    execOp a.eval { dst,op:=.call { callee:=.builtin b,args:=args,argTypes:=ts },type,pos,after,guard }=(do pure (.value (← sem))):=fun sem hs=>by
    simp only[execOp,resolve,invoke,pure_bind]
    exact hs
   have Aw:(b=.append∧((wh tr dst=true∧vD P G s dst ts.toList args.toList K)∨(A2 tr dst=true∧jl P G s dst ts.toList args.toList K)∨(A2 tr dst=false∧eW P .append ts.toList (args.toList.map fun x=>vw s (ev G s x)) K)))∨(b≠.append∧eW P b ts.toList (args.toList.map (ev G s)) K):=by
    cases b<;>first | (refine .inl ⟨rfl,?_⟩;have h':(if A2 tr dst then(if wh tr dst then vD P G s dst ts.toList args.toList K else jl P G s dst ts.toList args.toList K) else eW P .append ts.toList (args.toList.map fun x=>vw s (ev G s x)) K):=h;by_cases hg:A2 tr dst=true;(rw[if_pos hg] at h';by_cases NL:wh tr dst=true;(rw[if_pos NL] at h';exact .inl ⟨NL,h'⟩);(rw[if_neg NL] at h';exact .inr (.inl ⟨hg,h'⟩)));(rw[if_neg hg] at h';exact .inr (.inr ⟨by simpa using hg,h'⟩))) | exact .inr ⟨by simp,h⟩
   clear h
   rcases Aw with⟨rfl,⟨_,h⟩ | ⟨_,h⟩ | ⟨_,h⟩⟩ | ⟨zi,h⟩
   ·obtain⟨X,Y,t,t',hX,nQ,z,u,w',hz,bM,dE⟩:=Kh (tr:=tr) (o:={ dst,op:=.call { callee:=.builtin .append,args:=args,argTypes:=ts },type,pos,after,guard }) (ty:=type) aR hd (args:=args.toList) (fun t y hA=>by simp only[bY,hA]) h
    have e1:ts=#[t,t']:=dn nQ
    have e2:args.map a.eval=#[a.eval X,a.eval Y]:=by apply dn;simp[hX]
    subst e1
    refine full (sem:=Builtin.append_ #[t,t'] type (args.map a.eval)) (mX _ rfl) hz ?_ dE
    rw[e2];exact bM
   ·obtain⟨X,Y,t,t',hX,nQ,z,u,w',hz,bM,dE⟩:=Fg (tr:=tr) (o:={ dst,op:=.call { callee:=.builtin .append,args:=args,argTypes:=ts },type,pos,after,guard }) (ty:=type) aR hd (args:=args.toList) (fun t y hA=>by simp only[bY,hA]) h
    have e1:ts=#[t,t']:=dn nQ
    have e2:args.map a.eval=#[a.eval X,a.eval Y]:=by apply dn;simp[hX]
    subst e1
    refine full (sem:=Builtin.append_ #[t,t'] type (args.map a.eval)) (mX _ rfl) hz ?_ dE
    rw[e2];exact bM
   ·have nQ:∃ t t',ts.toList=[t,t']∧∃ X Y,args.toList=[X,Y]:=by
     unfold eW at h
     split at h<;>first | cases ‹Builtin.append=_› | skip
     ·rename_i t t' x y nQ dD
      refine⟨t,t',nQ,?_⟩
      cases ha:args.toList with
      |nil=>simp[ha] at dD
      |cons X l=>
       cases l with
       |nil=>simp[ha] at dD
       |cons Y l=>simp only[ha,bA,cB,eE] at dD;exact⟨X,Y,by rw[dD.2.2]⟩
     ·exact h.elim
    obtain⟨t,t',nQ,X,Y,hX⟩:=nQ
    have e1:ts=#[t,t']:=dn nQ
    have e2:args.map a.eval=#[a.eval X,a.eval Y]:=by apply dn;simp[hX]
    subst e1
    rw[hX] at h
    obtain⟨z,u,w',hz,bM,dE⟩:=Bc (tr:=tr) (o:={ dst,op:=.call { callee:=.builtin .append,args:=args,argTypes:=#[t,t'] },type,pos,after,guard }) (ty:=type) aR hd (by simp only[bY,hX];cases X<;>rfl) h
    refine full (sem:=Builtin.append_ #[t,t'] type (args.map a.eval)) (mX _ rfl) hz ?_ dE
    rw[e2];exact bM
   ·unfold eW at h
    split at h
    ·rename_i t x nQ dD
     obtain⟨X,hX,rfl⟩:∃ X,args.toList=[X]∧x=ev G s X:=by
      cases ha:args.toList with
      |nil=>simp[ha] at dD
      |cons X l=>simp only[ha,bA,cB,eE] at dD;exact⟨X,by rw[dD.2],dD.1.symm⟩
     obtain⟨u,hf,hz,bM⟩:=Kd (ty:=type) h (bH aR X)
     have e1:ts=#[t]:=dn nQ
     have e2:args.map a.eval=#[a.eval X]:=by apply dn;simp[hX]
     subst e1
     refine pure_ (sem:=Builtin.len_ #[t] type (args.map a.eval)) (mX _ rfl) hz (.ofLit hf) ?_
     rw[e2];exact bM
    ·exact absurd rfl zi
    ·obtain⟨u,hf,hz,bM⟩:=A8 (P:=P) (mx:=false) aR h
     exact pure_ (sem:=Builtin.min_ ts type (args.map a.eval)) (mX _ rfl) hz (.ofLit hf) bM
    ·obtain⟨u,hf,hz,bM⟩:=A8 (P:=P) (mx:=true) aR h
     exact pure_ (sem:=Builtin.max_ ts type (args.map a.eval)) (mX _ rfl) hz (.ofLit hf) bM
    ·exact h.elim
