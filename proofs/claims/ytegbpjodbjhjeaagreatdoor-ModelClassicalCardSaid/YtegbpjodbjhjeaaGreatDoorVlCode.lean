/- Values without memory: boxes: variables that lie in memory. -/
import Derived.Test.YtegbpjodbjhjeaaGreatDoorVlSound10
import Derived.Maps.RangeRun
import Derived.OrdersIn
import Derived.LoopNIn
import Derived.RangeFuncLeaves
import Derived.LoopN
set_option linter.all false
namespace Go.Vl
open Go Go.RowKit
section
variable {P:Program} {G:Gl} {tr:List Nat} {n:Nat} {I0:Ft} {M:Mx} {w0:World} {I:Ft} {β:Nat→Option Nat} {ob:Loc→Option Nat} {s:S} {a:Act} {w:World} {o:Oper}
 {next:Act→World→Prop} {Q:Exit→Act→World→Prop} {base:Nat→Prop} {v:Value} {x y:V}
theorem PR.oneCell {c:V} (h:PR I β w v c):v.oneCell'=true:=by
 cases c<;>simp only[PR] at h
 ·exact h.oneCell
 ·exact h.2.1.oneCell
 ·obtain⟨_,_,rfl⟩:=h;rfl
 ·obtain⟨_,_,_,_,_,_,_,rfl⟩:=h;rfl
 ·obtain⟨_,_,rfl⟩:=h;rfl
 ·obtain⟨_,_,rfl⟩:=h;rfl
 ·obtain⟨_,_,rfl⟩:=h;rfl
theorem LR.oneCell {c:V} {ox:Option Nat} (h:LR base I β w ox v c) (hc:c.one=true):v.oneCell'=true∧v.cells=#[v]:=by
 cases c<;>simp only[V.one] at hc<;>try cases hc
 ·exact⟨h.toC.oneCell,h.toC.notAgg⟩
 ·exact⟨h.1.oneCell,h.1.notAgg⟩
 ·obtain⟨_,_,rfl⟩:=h;exact⟨rfl,rfl⟩
 ·obtain⟨_,_,rfl,_⟩:=h;exact⟨rfl,rfl⟩
 ·obtain⟨_,_,_,_,_,_,_,rfl⟩:=h;exact⟨rfl,rfl⟩
 ·obtain⟨_,_,rfl⟩:=h;exact⟨rfl,rfl⟩
 ·obtain⟨_,_,rfl⟩:=h;exact⟨rfl,rfl⟩
 ·obtain⟨_,_,_,_,_,_,_,_,rfl,_⟩:=h;exact⟨rfl,rfl⟩
theorem LR.gs_one {ox:Option Nat} {g:Option Value} {E:Option (TypeId×Nat)} {es:List (List C)} (h:LR base I β w ox v (.gs g E es)):v.oneCell'=true∧v.cells=#[v]:=by
 rcases h.gsO.2 with⟨_,_,_,_,rfl⟩ | ⟨_,_,_,_,_,_,_,rfl,_⟩<;>exact⟨rfl,rfl⟩
theorem Cy {ox:Option Nat} (h:LR base I β w ox v x) {ds:List V} (hx:x.bcells=some ds):v.cells.size=ds.length∧
 (∀ j,LR base I β w (if j=0∧x.isOw=true then ox else none) (v.cells.getD j undef) (ds.getD j .un))∧(∀ u∈v.cells,u.oneCell'=true):=by
 have one:∀ c:V,c.one=true→x=c→ds=[c]→v.cells.size=ds.length∧
  (∀ j,LR base I β w (if j=0∧x.isOw=true then ox else none) (v.cells.getD j undef) (ds.getD j .un))∧(∀ u∈v.cells,u.oneCell'=true):=by
  rintro c hc rfl rfl
  obtain⟨h1,h2⟩:=h.oneCell hc
  rw[h2]
  refine⟨rfl,fun j=>?_,by simpa using h1⟩
  cases j with
  |zero=>
   show LR base I β w _ v x
   by_cases ho:x.isOw=true
   ·rw[if_pos ⟨rfl,ho⟩];exact h
   ·rw[if_neg (by simp[ho])];exact h.other (by simpa using ho)
  |succ j=>simp only[dQ,jT,LR];exact .un _
 cases x<;>simp only[V.bcells] at hx<;>try cases hx
 ·exact one (.c _) rfl rfl rfl
 ·rename_i cs
  obtain⟨vs,rfl,h1,h2⟩:=h.agg
  refine⟨by simpa[Value.cells] using h1,fun j=>?_,fun u hu=>?_⟩
  ·rw[if_neg (by simp[V.isOw])]
   simp only[Value.cells]
   by_cases hj:j<cs.length
   ·have:((cs.map V.c).getD j .un)=.c cs[j]:=by simp[List.getD,hj]
    rw[this]
    exact .ofC (h2 j _ (aj hj))
   ·have:((cs.map V.c).getD j .un)=.un:=by simp[List.getD,co (dX hj)]
    rw[this];simp only[LR];exact .un _
  ·obtain⟨j,hj,rfl⟩:=fB.1 hu
   simp only[Value.cells] at hj
   have:=(h2 j _ (aj (by omega))).oneCell
   simpa[Value.cells,aA hj,hj] using this
 ·exact one (.ow _ _) rfl rfl rfl
 ·exact one (.bp _ _) rfl rfl rfl
 ·exact one (.clo _ _ _) rfl rfl rfl
 ·exact one (.ms _ _ _ _ _) rfl rfl rfl
 ·simp only[LR] at h
  obtain⟨cells,rfl,h1,h2⟩:=h
  refine⟨by simpa[Value.cells] using h1,fun j=>?_,fun u hu=>?_⟩
  ·rw[if_neg (by simp[V.isOw])]
   simp only[Value.cells]
   by_cases hj:j<ds.length
   ·have:(ds.getD j .un)=ds[j]:=by simp[List.getD,hj]
    rw[this]
    exact(h2 j _ (aj hj)).toLR
   ·have:(ds.getD j .un)=.un:=by simp[List.getD,co (dX hj)]
    rw[this];simp only[LR];exact .un _
  ·obtain⟨j,hj,rfl⟩:=fB.1 hu
   simp only[Value.cells] at hj
   have:=(h2 j _ (aj (by omega))).oneCell
   simpa[Value.cells,aA hj,hj] using this
 ·exact one (.mr _) rfl rfl rfl
 ·exact one (.yl _) rfl rfl rfl
 ·exact one (.hh _ _ _) rfl rfl rfl
 ·obtain⟨h1,h2⟩:=h.gs_one
  rw[h2]
  refine⟨rfl,fun j=>?_,by simpa using h1⟩
  cases j with
  |zero=>rw[if_pos ⟨rfl,rfl⟩];exact h
  |succ j=>simp only[dQ,jT,LR];exact .un _
 ·have hb:=h
  simp only[LR] at hb
  obtain⟨blk,e1,rfl⟩:=hb
  refine⟨rfl,fun j=>?_,by simp[Value.cells,Value.oneCell']⟩
  cases j with
  |zero=>rw[if_neg (by simp[V.isOw])];exact h.other rfl
  |succ j=>simp only[dQ,jT,LR];exact .un _
theorem Cz {ox:Option Nat} (h:LR base I β w ox v x) {ds:List V} (hx:x.bcells=some ds):∀ d∈ds,d.isMk=false:=by
 cases x<;>simp only[V.bcells] at hx<;>try cases hx
 ·simp[V.isMk]
 ·simp[V.isMk]
 ·simp[V.isMk]
 ·simp[V.isMk]
 ·simp[V.isMk]
 ·simp[V.isMk]
 ·simp only[LR] at h
  obtain⟨cells,rfl,h1,h2⟩:=h
  intro d hd
  obtain⟨j,hj,rfl⟩:=gi hd
  have:=h2 j _ (aj hj)
  cases hc:ds[j]<;>first | rfl | (rw[hc] at this;exact this.elim)
 ·simp[V.isMk]
 ·simp[V.isMk]
 ·simp[V.isMk]
 ·simp[V.isMk]
 ·simp[V.isMk]
theorem zH {l:List V} (h:∀ d∈l,d.isMk=false):dc l=false:=by
 cases l with
 |nil=>rfl
 |cons x l=>exact h x (by simp)
theorem NM {l ds:List V} {k:Nat} (h:dc l=false) (h2:∀ d∈ds,d.isMk=false) (hk:k≤l.length):dc (eU l k ds)=false:=by
 unfold dc eU at *
 cases k with
 |succ k=>cases l with
  |nil=>simp at hk
  |cons x l=>simpa using h
 |zero=>cases ds with
  |nil=>simpa using h
  |cons d ds=>exact h2 d (by simp)
theorem St.newBox (h:St G n I0 M w0 I β ob s a w) {cur:Array Value} {T:RT} {cs:List V} {od:Nat→Option Nat} (dZ:cs.length≤cur.size) (hT:T.ok cur.size)
 (hc:∀ j,LR (Wr M w0) I β w (od j) (cur.getD j undef) (cs.getD j .un)) (h1:∀ u∈cur,u.oneCell'=true)
 (Jd:∀ j b,od j=some b→(b<w.heap.size∧Wr M w0 b)∧(∀ L,ob L≠some b)∧∀ i,β i≠some b) (pY:∀ j j' b,od j=some b→od j'=some b→j=j') (jl:dc cs=false) :
 St G n I0 M w0 I (up β s.nb (some w.heap.size)) (fun L=>match L with | .b i j=>if i=s.nb then od j else ob (.b i j) | L=>ob L)
  { s with bx:=up s.bx s.nb cs,nb:=s.nb+1 } a (w.alloc (.cells cur T.t T.fz)):=by
 have hs:=h.allocOwn (.cells cur T.t T.fz)
 have hβ:∀ i b,β i=some b→up β s.nb (some w.heap.size) i=some b:=fun i b hi=>by
  have:i≠s.nb:=fun e=>by rw[h.bnone i (by omega)] at hi;cases hi
  rw[dj _ _ this];exact hi
 have kf:∀ (o':Option Nat),(∀ b,o'=some b→b<w.heap.size)→∀ b,o'=some b→(w.alloc (.cells cur T.t T.fz)).heap[b]?=w.heap[b]?∧∀ k,I b k→I b k:=fun o' ho b hb=>
  ⟨ek w _ b (ho b hb),fun _ h=>h⟩
 have hI:∀ b k,I b k→I b k∧(w.alloc (.cells cur T.t T.fz)).cell? ⟨b,k,none⟩=w.cell? ⟨b,k,none⟩:=fun b k hb=>⟨hb,dV (a:=⟨b,k,none⟩) (ek w _ b (h.ibnd b k hb))⟩
 have jn:=h.fresh (ae _)
 exact {
  size:=h.size,defers:=h.defers,below:=hs.below,kept:=hs.kept,ilow:=h.ilow,ihigh:=h.ihigh,ibnd:=hs.ibnd
  fr:=fun t=>(h.fr t).mono hI hβ (kf _ fun b hb=>(h.obnd _ b hb).1)
  bx:=fun i hi=>by
   by_cases fJ:i=s.nb
   ·subst fJ
    refine⟨w.heap.size,cur,by simp,.inl h.below.size,.of (fF w _) h1 hT (by simpa using jl),by simpa using dZ,fun j=>?_,fun k hk=>?_⟩
    ·simp only[cx,cL]
     exact(hc j).mono hI hβ (kf _ fun b hb=>(Jd j b hb).1.1)
    ·have:=h.ibnd _ _ hk;omega
   ·obtain⟨blk,cur',e1,e2,e3,e4,e5,e7⟩:=h.bx i (by simp only at hi;omega)
    have bB:blk<w.heap.size:=e3.lt
    refine⟨blk,cur',hβ i blk e1,e2,by simpa only[dj _ _ fJ] using e3.mono (ek w _ blk bB),by simpa only[dj _ _ fJ] using e4,fun j=>?_,e7⟩
    simp only[dj _ _ fJ,if_neg fJ]
    exact(e5 j).mono hI hβ (kf _ fun b hb=>(h.obnd _ b hb).1)
  bnone:=fun i hi=>by
   simp only at hi
   rw[dj _ _ (by omega)]
   exact h.bnone i (by omega)
  ext:=fun i b he=>hβ i b (h.ext i b he)
  bnew:=fun i b hi=>by
   by_cases h1:i=s.nb
   ·subst h1;rw[cx] at hi;cases hi;exact .inr (.inl h.below.size)
   ·rw[dj _ _ h1] at hi;exact h.bnew i b hi
  binj:=fun i j b hi hj=>by
   by_cases h1:i=s.nb<;>by_cases h2:j=s.nb
   ·rw[h1,h2]
   ·subst h1;rw[cx] at hi;cases hi;rw[dj _ _ h2] at hj;exact absurd hj (jn.2 j)
   ·subst h2;rw[cx] at hj;cases hj;rw[dj _ _ h1] at hi;exact absurd hi (jn.2 i)
   ·rw[dj _ _ h1] at hi;rw[dj _ _ h2] at hj;exact h.binj i j b hi hj
  oinj:=fun L L' b hL xH=>by
   have key:∀ L,(match L with | .b i j=>if i=s.nb then od j else ob (.b i j) | L=>ob L)=some b→(∃ j,L=.b s.nb j∧od j=some b)∨ob L=some b:=fun L hL=>by
    cases L with
    |t i=>exact .inr hL
    |b i j=>
     simp only at hL
     split at hL
     ·rename_i e;exact .inl ⟨j,by rw[e],hL⟩
     ·exact .inr hL
   rcases key L hL with⟨j,rfl,hj⟩ | h1<;>rcases key L' xH with⟨j',rfl,Z6⟩ | h2
   ·rw[pY j j' b hj Z6]
   ·exact absurd h2 ((Jd j b hj).2.1 L')
   ·exact absurd h1 ((Jd j' b Z6).2.1 L)
   ·exact h.oinj L L' b h1 h2
  obx:=fun L b i hL hi=>by
   have key:((∃ j,L=.b s.nb j∧od j=some b)∨ob L=some b):=by
    cases L with
    |t i=>exact .inr hL
    |b i' j=>
     simp only at hL
     split at hL
     ·rename_i e;exact .inl ⟨j,by rw[e],hL⟩
     ·exact .inr hL
   by_cases fJ:i=s.nb
   ·subst fJ;rw[cx] at hi;cases hi
    rcases key with⟨j,_,hj⟩ | hj
    ·have:=(Jd j _ hj).1.1;omega
    ·exact jn.1 L hj
   ·rw[dj _ _ fJ] at hi
    rcases key with⟨j,_,hj⟩ | hj
    ·exact(Jd j b hj).2.2 i hi
    ·exact h.obx L b i hj hi
  obnd:=fun L b hL=>by
   have key:((∃ j,L=.b s.nb j∧od j=some b)∨ob L=some b):=by
    cases L with
    |t i=>exact .inr hL
    |b i' j=>
     simp only at hL
     split at hL
     ·rename_i e;exact .inl ⟨j,by rw[e],hL⟩
     ·exact .inr hL
   rw[ej]
   rcases key with⟨j,_,hj⟩ | hj
   ·have:=(Jd j b hj).1;exact⟨by omega,this.2⟩
   ·have:=h.obnd L b hj;exact⟨by omega,this.2⟩
  glob:=fun g cs hg=>(h.glob g cs hg).mono hI }
theorem HB.same {w:World} {blk:Nat} {c1 c2:Array Value} {l:List V} (hm:dc l=false) (h1:HB w blk c1 l) (h2:HB w blk c2 l):c1=c2:=by
 obtain⟨T1,e1,_⟩:=h1.cells hm
 obtain⟨T2,e2,_⟩:=h2.cells hm
 rw[e1] at e2
 simp only[ao,Obj.cells.injEq] at e2
 exact e2.1
theorem St.recell (h:St G n I0 M w0 I β ob s a w) {b k blk:Nat} {x x':V} (hb:b<s.nb) (hk:(s.bx b)[k]?=some x) (hxm:x.isMk=false) (Gh:x'.isMk=false) (kf:ob (.b b k)=some blk)
 {w':World} (hg:w.grb w' (some blk)) (eo:∀ o,I blk o→w'.cell? ⟨blk,o,none⟩=w.cell? ⟨blk,o,none⟩) {I':Ft} (h1:∀ b o,I b o→I' b o) (h2:∀ b o,I' b o→I b o∨b=blk)
 (F7:∀ b1 cur,β b=some b1→HB w b1 cur (s.bx b)→LR (Wr M w0) I β w (some blk) (cur.getD k undef) x→LR (Wr M w0) I' β w' (some blk) (cur.getD k undef) x') :
 St G n I0 M w0 I' β ob { s with bx:=up s.bx b ((s.bx b).set k x') } a w':=by
 have Gf:=h.obnd _ _ kf
 have oc:=h.keeps hg (fun r e o ho=>by cases e;exact eo o ho)
 have hI:∀ b o,I b o→I' b o∧w'.cell? ⟨b,o,none⟩=w.cell? ⟨b,o,none⟩:=fun b o hb=>⟨h1 b o hb,oc b o hb⟩
 have xC:∀ c,c≠blk→c<w.heap.size→w'.heap[c]?=w.heap[c]?∧∀ o,I' c o→I c o:=fun c hc bB=>by
  refine⟨hg.block c bB (by simpa using hc),fun o ho=>?_⟩
  rcases h2 c o ho with h5 | h5
  ·exact h5
  ·exact absurd h5 hc
 have vT:∀ L,L≠.b b k→∀ c,ob L=some c→w'.heap[c]?=w.heap[c]?∧∀ o,I' c o→I c o:=fun L hL c hc=>
  xC c (fun e=>hL (h.oinj _ _ blk (e▸hc) kf)) (h.obnd L c hc).1
 have re:k<(s.bx b).length:=(ak.1 hk).1
 have tU:(s.bx b).getD k .un=x:=by simp[List.getD,hk]
 exact {
  size:=h.size,defers:=h.defers
  below:=h.below.grown hg (fun q e=>by cases e;exact Gf.2)
  kept:=fun b o h0=>(oc b o (h.ilow b o h0)).trans (h.kept b o h0)
  ilow:=fun b o hb=>h1 b o (h.ilow b o hb)
  ihigh:=fun b o hb=>by
   rcases h2 b o hb with h3 | h3
   ·exact h.ihigh b o h3
   ·subst h3;exact .inr Gf.2
  ibnd:=fun b o hb=>by
   rcases h2 b o hb with h3 | h3
   ·exact ce (h.ibnd b o h3) hg.size
   ·subst h3;exact ce Gf.1 hg.size
  fr:=fun t=>(h.fr t).mono hI (fun _ _ e=>e) (vT (.t t) (by simp))
  bx:=fun i hi=>by
   obtain⟨b1,cur,e1,e2,e3,e4,e5,e7⟩:=h.bx i hi
   have fO:b1≠blk:=fun e=>h.obx _ _ i kf (e▸e1)
   obtain⟨q1,q2⟩:=xC b1 fO e3.lt
   by_cases tX:i=b
   ·subst tX
    refine⟨b1,cur,e1,e2,?_,by simp only[cx,iM];exact e4,fun j=>?_,fun o ho=>e7 o (q2 o ho)⟩
    ·simp only[cx]
     refine (e3.mono q1).congr (by simp) ?_
     by_cases tY:k=0
     ·subst tY
      have g1:((s.bx i).set 0 x').getD 0 .un=x':=by simp[List.getD,re]
      rw[iw (by unfold dc;rw[g1];exact Gh),iw (by unfold dc;rw[tU];exact hxm)]
     ·have:((s.bx i).set k x').getD 0 .un=(s.bx i).getD 0 .un:=by simp[List.getD,dw tY]
      unfold oe
      rw[this]
    ·simp only[cx]
     by_cases hjk:j=k
     ·subst hjk
      have:((s.bx i).set j x').getD j .un=x':=by simp[List.getD,re]
      rw[this,kf]
      have h5:=e5 j
      rw[tU,kf] at h5
      exact F7 b1 cur e1 e3 h5
     ·have:((s.bx i).set k x').getD j .un=(s.bx i).getD j .un:=by simp[List.getD,dw (gb hjk)]
      rw[this]
      exact(e5 j).mono hI (fun _ _ e=>e) (vT (.b i j) (by simp[hjk]))
   ·refine⟨b1,cur,e1,e2,by simp only[dj _ _ tX];exact e3.mono q1,by simp only[dj _ _ tX];exact e4,fun j=>?_,fun o ho=>e7 o (q2 o ho)⟩
    simp only[dj _ _ tX]
    exact(e5 j).mono hI (fun _ _ e=>e) (vT (.b i j) (by simp[tX]))
  bnone:=h.bnone,ext:=h.ext,bnew:=h.bnew,binj:=h.binj,oinj:=h.oinj,obx:=h.obx
  obnd:=fun L c q1=>⟨ce (h.obnd L c q1).1 hg.size,(h.obnd L c q1).2⟩
  glob:=fun g cs Vr=>(h.glob g cs Vr).mono hI }
theorem wo (w:World) (row:Option Nat):w.grb w row:=⟨rfl,rfl,rfl,ae _,fun _ _ _=>rfl,ae _⟩
theorem St.hotCell (h:St G n I0 M w0 I β ob s a w) {b k:Nat} {g:Option Value} {E:Option (TypeId×Nat)} {es:List (List C)} (hb:b<s.nb) (hk:(s.bx b)[k]?=some (.hh g E es)):∃ blk cur b1,ob (.b b k)=some blk∧β b=some b1∧HB w b1 cur (s.bx b)∧
 LR (Wr M w0) I β w (some blk) (cur.getD k undef) (.hh g E es):=by
 obtain⟨b1,cur,e1,e2,e3,e4,e5,e7⟩:=h.bx b hb
 have h5:=e5 k
 have tU:(s.bx b).getD k .un=.hh g E es:=by simp[List.getD,hk]
 rw[tU] at h5
 obtain⟨_,e,blk,cap,c2,sz,q1,_⟩:=h5.hot
 rw[q1] at h5
 exact⟨blk,cur,b1,q1,e1,e3,h5⟩
theorem St.name (h:St G n I0 M w0 I β ob s a w) {b k:Nat} {g:Option Value} {E:Option (TypeId×Nat)} {es:List (List C)} (hb:b<s.nb) (jl:dc (s.bx b)=false) (hk:(s.bx b)[k]?=some (.hh g E es)) :
 ∃ blk cap,St G n I0 M w0 I β ob (s.name b k (.slice (some ⟨blk,0,none⟩) es.length cap) E es) a w:=by
 obtain⟨blk,cur,b1,q1,q2,q3,q4⟩:=h.hotCell hb hk
 have q4':=q4
 obtain⟨_,e,ra,cap,c2,sz,r1,r2,r3,_⟩:=q4.hot
 cases r1
 refine⟨blk,cap,?_⟩
 exact h.recell hb hk rfl rfl q1 (wo w _) (fun _ _=>rfl) (fun _ _ h=>h) (fun _ _ h=>.inl h) fun b2 cur2 f1 f2 f3=>by
  rw[q2] at f1;cases f1
  cases q3.same jl f2
  exact⟨fun u hu=>by cases hu;exact r3,f3.hot.2⟩
theorem aar {es:List (List C)} {sz:Nat} (h:∀ x∈es,x.length=sz):∀ x∈es.map (·.map C.wk),x.length=sz:=fun x hx=>by
 obtain⟨y,hy,rfl⟩:=br.1 hx
 rw[am];exact h y hy
theorem CR.wk {I:Ft} {w:World} {v:Value} {c:C} (h:CR I w v c):CR I w v c.wk:=by
 cases c with
 |sx es=>exact h.sx_inv.1
 |_=>exact h
theorem V7 {es:List (List C)}:(es.map (·.map C.wk)).flatten=es.flatten.map C.wk:=by
 induction es with
 |nil=>rfl
 |cons x l ih=>simp only[aO,dY,dL,ih]
theorem St.cool (h:St G n I0 M w0 I β ob s a w) {b k:Nat} {g:Option Value} {E:Option (TypeId×Nat)} {es:List (List C)} (hb:b<s.nb) (hk:(s.bx b)[k]?=some (.hh g E es)):SE G n I0 M w0 (s.cool b k E es) a w:=by
 obtain⟨blk,cur,b1,q1,q2,q3,q4⟩:=h.hotCell hb hk
 obtain⟨_,e,ra,cap,c2,sz,r1,r2,r3,r4,r5,r6,r7,r8,r9,r10,r11,r12⟩:=q4.hot
 cases r1
 refine⟨fun b' o=>I b' o∨(b'=blk∧o<es.length*sz),β,ob,h.recell hb hk rfl rfl q1 (wo w _) (fun _ _=>rfl) (fun _ _ h=>.inl h) (fun b' o h=>?_) fun b2 cur2 f1 f2 f3=>?_⟩
 ·rcases h with h | h
  ·exact .inl h
  ·exact .inr h.1
 ·obtain⟨_,e',blk2,cap',c3,sz',s1,s2,s3,s4,s5,s6,s7,s8,s9,s10,s11,s12⟩:=f3.hot
  cases s1
  rw[r2] at s2;cases s2
  rw[r5] at s5
  simp only[ao,Obj.cells.injEq] at s5
  obtain⟨rfl,_⟩:=s5
  rw[s3]
  have hwl:=aar r9
  have m8:(es.map (·.map C.wk)).flatten.length=es.length*sz:=by rw[bD _ hwl,am]
  have jm:CR (fun b' o=>I b' o∨(b'=blk∧o<es.length*sz)) w (.slice (some ⟨blk,0,none⟩) es.length cap') (.sl (es.map (·.map C.wk))):=by
   have:=CR.row (I':=fun b' o=>I b' o∨(b'=blk∧o<es.length*sz)) (cap:=cap') (es:=es.map (·.map C.wk)) (sz:=sz) r5 (by rw[am];exact s6) hwl (fun q c hq=>by
    rw[V7,bb,aY] at hq
    obtain⟨c0,hc0,rfl⟩:=hq
    have h0:=(ak.1 hc0).1
    rw[bD _ r9] at h0
    have h1:=aS sz s6
    refine⟨by rw[s8];omega,((r10 q c0 hc0).wk).mono fun b o h=>⟨.inl h,rfl⟩⟩) (fun o ho=>.inr ⟨rfl,by rw[am] at ho;exact ho⟩)
   rw[am] at this
   exact this
  simp only[LR]
  refine⟨jm,.inr ⟨e,blk,cap',c2,sz,rfl,r2,by rw[am],r4,r5,by rw[am];exact s6,s7,s8,hwl,fun o ho=>?_⟩⟩
  rw[am]
  rcases ho with ho | ho
  ·have h1:=r12 o ho
   exact ce h1 (aS _ (Nat.sub_le _ _))
  ·exact ho.2
theorem St.setBox (h:St G n I0 M w0 I β ob s a w) {i k blk:Nat} {cur:Array Value} {T:RT} {vs:List Value} {ds:List V} {od:Nat→Option Nat} (hi:i<s.nb) (hβ:β i=some blk)
 (gp:w.heap[blk]?=some (.cells cur T.t T.fz)) (hT:T.ok cur.size) (cu:vs.length=ds.length) (rR:k+ds.length≤(s.bx i).length)
 (hc:∀ j,LR (Wr M w0) I β w (od j) (vs.getD j undef) (ds.getD j .un)) (h1:∀ u∈vs,u.oneCell'=true)
 (Jd:∀ j b,od j=some b→(b<w.heap.size∧Wr M w0 b)∧(∀ L,ob L≠some b)∧∀ i,β i≠some b) (pY:∀ j j' b,od j=some b→od j'=some b→j=j') (jl:dc (s.bx i)=false) (hmd:∀ d∈ds,d.isMk=false) :
 St G n I0 M w0 I β (fun L=>match L with | .b i' j=>if i'=i∧k≤j∧j<k+ds.length then od (j - k) else ob (.b i' j) | L=>ob L)
  { s with bx:=up s.bx i (eU (s.bx i) k ds) } a (w.setRow blk (cur.toList.take k++vs++cur.toList.drop (k+vs.length)).toArray):=by
 obtain⟨ra,cur',e1,e2,e3,e4,e5,e7⟩:=h.bx i hi
 obtain⟨T',e3,e6⟩:=e3.cells jl
 rw[hβ] at e1;cases e1
 rw[gp] at e3
 simp only[ao,Obj.cells.injEq] at e3
 obtain⟨rfl,_,_⟩:=e3
 have vV:blk<w.heap.size:=(be.1 gp).1
 have m9:cur.toList.length=cur.size:=bN
 have hg:w.grb (w.setRow blk (cur.toList.take k++vs++cur.toList.drop (k+vs.length)).toArray) (some blk):=
  ⟨rfl,rfl,rfl,by simp,fun q _ hq=>jI w blk q _ (fun e=>hq (by rw[e])),ae _⟩
 have oc:=h.keeps hg (fun r e o ho=>by cases e;exact absurd ho (e7 o))
 have hI:∀ b q,I b q→I b q∧(w.setRow blk (cur.toList.take k++vs++cur.toList.drop (k+vs.length)).toArray).cell? ⟨b,q,none⟩=w.cell? ⟨b,q,none⟩:=fun b q hb=>⟨hb,oc b q hb⟩
 have kf:∀ (o':Option Nat),(∀ b,o'=some b→∀ i,β i≠some b)→∀ b,o'=some b→(w.setRow blk (cur.toList.take k++vs++cur.toList.drop (k+vs.length)).toArray).heap[b]?=w.heap[b]?∧∀ q,I b q→I b q:=
  fun o' ho b hb=>⟨jI w blk b _ (fun e=>ho b hb i (by rw[e];exact hβ)),fun _ h=>h⟩
 have key:∀ L b,(match L with | .b i' j=>if i'=i∧k≤j∧j<k+ds.length then od (j - k) else ob (.b i' j) | L=>ob L)=some b→
  (∃ j,L=.b i (k+j)∧od j=some b)∨ob L=some b:=fun L b hL=>by
  cases L with
  |t i=>exact .inr hL
  |b i' j=>
   simp only at hL
   split at hL
   ·rename_i e;exact .inl ⟨j - k,by rw[e.1];congr 1;omega,hL⟩
   ·exact .inr hL
 exact {
  size:=h.size,defers:=h.defers
  below:=h.below.grown hg (fun q e=>by cases e;exact e2)
  kept:=fun b o h0=>(oc b o (h.ilow b o h0)).trans (h.kept b o h0)
  ilow:=h.ilow,ihigh:=h.ihigh
  ibnd:=fun b q hb=>by simpa using h.ibnd b q hb
  fr:=fun t=>(h.fr t).mono hI (fun _ _ e=>e) (kf _ fun b hb i=>h.obx _ b i hb)
  bx:=fun i' rS=>by
   by_cases hii:i'=i
   ·subst hii
    refine⟨blk,_,hβ,e2,.of (ln w blk cur _ T.t _ gp) (fun u hu=>?_) ?_ (by simpa only[cx] using NM jl hmd (by omega)),?_,fun j=>?_,e7⟩
    rotate_left
    ·have:(cur.toList.take k++vs++cur.toList.drop (k+vs.length)).toArray.size=cur.size:=by
      simp only[er,ax,a8,di,m9];omega
     rw[this];exact hT
    ·simp only[cx,eU,er,ax,a8,di,m9];omega
    ·have afG:((cur.toList.take k++vs++cur.toList.drop (k+vs.length)).toArray.getD j undef)=if k≤j∧j<k+ds.length then vs.getD (j - k) undef else cur.getD j undef:=by
      rw[ap,cP]
      have F8:(cur.toList.take k).length=k:=by rw[a8,m9];omega
      by_cases ha:j<k
      ·rw[if_neg (by omega),bZ,aG (by omega),cC,if_pos ha,aV,← ap]
      ·by_cases hb:j<k+ds.length
       ·rw[if_pos ⟨by omega,hb⟩,bZ,aK (by omega),F8,aG (by omega),aB]
       ·rw[if_neg (by omega),aK (by rw[ax,F8];omega),ci,ax,F8,aV,
         show k+vs.length+(j - (k+vs.length))=j by omega,← ap]
     have afH:(eU (s.bx i') k ds).getD j .un=if k≤j∧j<k+ds.length then ds.getD (j - k) .un else(s.bx i').getD j .un:=by
      unfold eU
      rw[aB]
      have F8:((s.bx i').take k).length=k:=by rw[a8];omega
      by_cases ha:j<k
      ·rw[if_neg (by omega),bZ,aG (by omega),cC,if_pos ha,← aB]
      ·by_cases hb:j<k+ds.length
       ·rw[if_pos ⟨by omega,hb⟩,bZ,aK (by omega),F8,aG (by omega),aB]
       ·rw[if_neg (by omega),aK (by rw[ax,F8];omega),ci,ax,F8,
         show k+ds.length+(j - (k+ds.length))=j by omega,← aB]
     simp only[cx]
     rw[afG,afH]
     by_cases fJ:k≤j∧j<k+ds.length
     ·rw[if_pos fJ,if_pos fJ,if_pos ⟨trivial,fJ⟩]
      exact(hc (j - k)).mono hI (fun _ _ e=>e) (kf _ fun b hb=>(Jd _ b hb).2.2)
     ·rw[if_neg fJ,if_neg fJ,if_neg (fun e=>fJ e.2)]
      exact(e5 j).mono hI (fun _ _ e=>e) (kf _ fun b hb i=>h.obx _ b i hb)
    ·simp only[fQ,aZ] at hu
     rcases hu with(hu | hu) | hu
     ·exact e6.1 u (by simpa using cJ hu)
     ·exact h1 u hu
     ·exact e6.1 u (by simpa using cM hu)
   ·obtain⟨b2,c2,q1,q2,q3,q4,q5,q7⟩:=h.bx i' rS
    have fO:b2≠blk:=fun e=>hii (h.binj i' i blk (by rw[← e];exact q1) hβ)
    refine⟨b2,c2,q1,q2,by simpa only[dj _ _ hii] using q3.mono (jI w blk b2 _ fO),by simpa only[dj _ _ hii] using q4,fun j=>?_,q7⟩
    simp only[dj _ _ hii]
    rw[if_neg (fun e=>hii e.1)]
    exact(q5 j).mono hI (fun _ _ e=>e) (kf _ fun b hb i=>h.obx _ b i hb)
  bnone:=h.bnone,ext:=h.ext,bnew:=h.bnew,binj:=h.binj
  oinj:=fun L L' b hL xH=>by
   rcases key L b hL with⟨j,rfl,hj⟩ | h1<;>rcases key L' b xH with⟨j',rfl,Z6⟩ | h2
   ·rw[pY j j' b hj Z6]
   ·exact absurd h2 ((Jd j b hj).2.1 L')
   ·exact absurd h1 ((Jd j' b Z6).2.1 L)
   ·exact h.oinj L L' b h1 h2
  obx:=fun L b q hL=>by
   rcases key L b hL with⟨j,_,hj⟩ | hj
   ·exact(Jd j b hj).2.2 q
   ·exact h.obx L b q hj
  obnd:=fun L b hL=>by
   rw[size_setRow]
   rcases key L b hL with⟨j,_,hj⟩ | hj
   ·exact(Jd j b hj).1
   ·exact h.obnd L b hj
  glob:=fun g cs Vr=>(h.glob g cs Vr).mono hI }
theorem St.boxblk (hst:St G n I0 M w0 I β ob s a w) {i b:Nat} (h:β i=some b):i<s.nb∧Wr M w0 b∧b<w.heap.size:=by
 by_cases hi:i<s.nb
 ·obtain⟨blk,cur,e1,e2,e3,_⟩:=hst.bx i hi
  rw[h] at e1;cases e1
  exact⟨hi,e2,e3.lt⟩
 ·rw[hst.bnone i (by omega)] at h;cases h
end
section
variable {P:Program} {G:Gl} {tr:List Nat} {n:Nat} {I0:Ft} {M:Mx} {w0:World} {I:Ft} {β:Nat→Option Nat} {ob:Loc→Option Nat} {s:S} {a:Act} {w:World} {o:Oper}
 {next:Act→World→Prop} {Q:Exit→Act→World→Prop} {base:Nat→Prop} {v:Value} {x y:V}
def World.putObj (w:World) (r:Nat) (o:Obj):World:={ w with heap:=w.heap.setIfInBounds r o }
theorem nN {r:Nat} {o:Obj} (h:r<w.heap.size):(World.putObj w r o).heap[r]?=some o:=by simp[World.putObj,h]
theorem oM {r q:Nat} {o:Obj} (h:q≠r):(World.putObj w r o).heap[q]?=w.heap[q]?:=by simp[World.putObj,gb h]
theorem putObj_size {r:Nat} {o:Obj}:(World.putObj w r o).heap.size=w.heap.size:=by simp[World.putObj]
theorem rl (r:Nat) (o:Obj):w.grb (World.putObj w r o) (some r):=
 ⟨rfl,rfl,rfl,by simp[World.putObj],fun q _ hq=>oM (fun e=>hq (by rw[e])),ae _⟩
theorem St.reBox (h:St G n I0 M w0 I β ob s a w) {i blk:Nat} {o:Obj} {cur:Array Value} {l:List V} (hi:i<s.nb) (hβ:β i=some blk)
 (hHB:HB (World.putObj w blk o) blk cur l) (hl:l.length≤cur.size) {od:Nat→Option Nat} (hc:∀ j,LR (Wr M w0) I β w (od j) (cur.getD j undef) (l.getD j .un))
 (Jd:∀ j b,od j=some b→ob (.b i j)=some b) :
 St G n I0 M w0 I β (fun L=>match L with | .b i' j=>if i'=i then od j else ob (.b i' j) | L=>ob L) { s with bx:=up s.bx i l } a (World.putObj w blk o):=by
 obtain⟨ra,cur',e1,e2,e3,e4,e5,e7⟩:=h.bx i hi
 rw[hβ] at e1;cases e1
 have vV:blk<w.heap.size:=e3.lt
 have hg:=rl (w:=w) blk o
 have oc:=h.keeps hg (fun r e o ho=>by cases e;exact absurd ho (e7 o))
 have hI:∀ b q,I b q→I b q∧(World.putObj w blk o).cell? ⟨b,q,none⟩=w.cell? ⟨b,q,none⟩:=fun b q hb=>⟨hb,oc b q hb⟩
 have kf:∀ (o':Option Nat),(∀ b,o'=some b→∀ i,β i≠some b)→∀ b,o'=some b→(World.putObj w blk o).heap[b]?=w.heap[b]?∧∀ q,I b q→I b q:=
  fun o' ho b hb=>⟨oM (fun e=>ho b hb i (by rw[e];exact hβ)),fun _ h=>h⟩
 have key:∀ L b,(match L with | .b i' j=>if i'=i then od j else ob (.b i' j) | L=>ob L)=some b→ob L=some b:=fun L b hL=>by
  cases L with
  |t i=>exact hL
  |b i' j=>
   simp only at hL
   split at hL
   ·rename_i e;rw[e];exact Jd j b hL
   ·exact hL
 exact {
  size:=h.size,defers:=h.defers
  below:=h.below.grown hg (fun q e=>by cases e;exact e2)
  kept:=fun b o h0=>(oc b o (h.ilow b o h0)).trans (h.kept b o h0)
  ilow:=h.ilow,ihigh:=h.ihigh
  ibnd:=fun b q hb=>by rw[putObj_size];exact h.ibnd b q hb
  fr:=fun t=>(h.fr t).mono hI (fun _ _ e=>e) (kf _ fun b hb i=>h.obx _ b i hb)
  bx:=fun i' rS=>by
   by_cases hii:i'=i
   ·subst hii
    refine⟨blk,cur,hβ,e2,by simpa only[cx] using hHB,by simpa only[cx] using hl,fun j=>?_,e7⟩
    simp only[cx,cL]
    exact(hc j).mono hI (fun _ _ e=>e) (kf _ fun b hb q=>h.obx _ b q (Jd j b hb))
   ·obtain⟨b2,c2,q1,q2,q3,q4,q5,q7⟩:=h.bx i' rS
    have fO:b2≠blk:=fun e=>hii (h.binj i' i blk (by rw[← e];exact q1) hβ)
    refine⟨b2,c2,q1,q2,by simpa only[dj _ _ hii] using q3.mono (oM fO),by simpa only[dj _ _ hii] using q4,fun j=>?_,q7⟩
    simp only[dj _ _ hii,if_neg hii]
    exact(q5 j).mono hI (fun _ _ e=>e) (kf _ fun b hb i=>h.obx _ b i hb)
  bnone:=h.bnone,ext:=h.ext,bnew:=h.bnew,binj:=h.binj
  oinj:=fun L L' b hL xH=>h.oinj L L' b (key L b hL) (key L' b xH)
  obx:=fun L b q hL=>h.obx L b q (key L b hL)
  obnd:=fun L b hL=>by rw[putObj_size];exact h.obnd L b (key L b hL)
  glob:=fun g cs Vr=>(h.glob g cs Vr).mono hI }
theorem NN {es:List MapEntry} {r:List V} {bs:List Nat} {cl:Nat} {od:Nat→Option Nat} (hr:r.length=2*es.length)
 (h:∀ (j:Nat) (e:MapEntry),es[j]?=some e→LR base I β w (od (2*j+1)) e.key (r.getD (2*j) .un)∧LR base I β w (od (2*j+2)) e.val (r.getD (2*j+1) .un)) (j:Nat) :
 LR base I β w (od j) ((undef::kU es).toArray.getD j undef) ((V.mk bs cl::r).getD j .un):=by
 have hg:∀ q,(undef::kU es).toArray.getD (q+1) undef=((kU es)[q]?).getD undef:=fun q=>by
  simp
 cases j with
 |zero=>simp[LR]
 |succ q=>
  rw[hg]
  simp only[dQ]
  by_cases hq:q<r.length
  ·have bB:q / 2<es.length:=by omega
   obtain⟨l1,l2⟩:=h (q / 2) _ (aj bB)
   obtain⟨c1,c2⟩:=rj es (q / 2) _ (aj bB)
   rcases Nat.mod_two_eq_zero_or_one q with hm | hm
   ·have e:2*(q / 2)=q:=by omega
    rw[e] at l1 c1
    rw[c1];exact l1
   ·have e:2*(q / 2)+1=q:=by omega
    rw[show 2*(q / 2)+2=2*(q / 2)+1+1 by omega,e] at l2
    rw[e] at c2
    rw[c2];exact l2
  ·have:r.getD q .un=.un:=by simp[List.getD,co (dX hq)]
   rw[this];simp only[LR];exact .un _
theorem St.reMap (h:St G n I0 M w0 I β ob s a w) {i cl blk:Nat} {bs:List Nat} {r:List V} {es:Array MapEntry} (hm:QL P I M w0 β ob s w i bs cl r blk es) {es':Array MapEntry} {cl':Nat} {bs':List Nat} {r':List V}
 (hb:es'.toList.map (·.born)=bs') (hr:r'.length=2*bs'.length) {od:Nat→Option Nat} (Jd:∀ j b,od j=some b→ob (.b i j)=some b)
 (ah6:∀ (j:Nat) (e:MapEntry),es'.toList[j]?=some e→LR (Wr M w0) I β w (od (2*j+1)) e.key (r'.getD (2*j) .un)∧LR (Wr M w0) I β w (od (2*j+2)) e.val (r'.getD (2*j+1) .un)) :
 ∃ ob',St G n I0 M w0 I β ob' { s with bx:=up s.bx i (.mk bs' cl'::r') } a (World.putObj w blk (.map es' cl')):=by
 have bB:blk<w.heap.size:=(be.1 hm.heap).1
 have cu:es'.toList.length=bs'.length:=by rw[← hb,am]
 refine⟨_,h.reBox (cur:=(undef::kU es'.toList).toArray) (od:=od) hm.lt hm.bt ?_ ?_ (fun j=>NN (by omega) ah6 j) Jd⟩
 ·unfold HB
  have:oe (V.mk bs' cl'::r')=some (.mp bs' cl'):=rfl
  rw[this]
  exact⟨es',nN bB,hb,rfl,by simp[hr];omega⟩
 ·simp[wn,cu,hr]
theorem sJ {l:List V} {i j:Nat} {x:V} (h:i≠j):(l.set i x).getD j .un=l.getD j .un:=by
 simp[List.getD,List.getElem?_set,h]
theorem B6 {l:List V} {i:Nat} {x:V} (h:i<l.length):(l.set i x).getD i .un=x:=by
 simp[List.getD,h]
theorem St.newMap (h:St G n I0 M w0 I β ob s a w) :
 St G n I0 M w0 I (up β s.nb (some w.heap.size)) (fun L=>match L with | .b i j=>if i=s.nb then none else ob (.b i j) | L=>ob L)
  { s with bx:=up s.bx s.nb [.mk [] 0],nb:=s.nb+1 } a (w.alloc (.map #[] 0)):=by
 have hs:=h.allocOwn (.map #[] 0)
 have hβ:∀ i b,β i=some b→up β s.nb (some w.heap.size) i=some b:=fun i b hi=>by
  have:i≠s.nb:=fun e=>by rw[h.bnone i (by omega)] at hi;cases hi
  rw[dj _ _ this];exact hi
 have kf:∀ (o':Option Nat),(∀ b,o'=some b→b<w.heap.size)→∀ b,o'=some b→(w.alloc (.map #[] 0)).heap[b]?=w.heap[b]?∧∀ k,I b k→I b k:=fun o' ho b hb=>
  ⟨ek w _ b (ho b hb),fun _ h=>h⟩
 have hI:∀ b k,I b k→I b k∧(w.alloc (.map #[] 0)).cell? ⟨b,k,none⟩=w.cell? ⟨b,k,none⟩:=fun b k hb=>⟨hb,dV (a:=⟨b,k,none⟩) (ek w _ b (h.ibnd b k hb))⟩
 have jn:=h.fresh (ae _)
 have key:∀ L b,(match L with | .b i j=>if i=s.nb then none else ob (.b i j) | L=>ob L)=some b→ob L=some b:=fun L b hL=>by
  cases L with
  |t i=>exact hL
  |b i j=>
   simp only at hL
   split at hL
   ·cases hL
   ·exact hL
 exact {
  size:=h.size,defers:=h.defers,below:=hs.below,kept:=hs.kept,ilow:=h.ilow,ihigh:=h.ihigh,ibnd:=hs.ibnd
  fr:=fun t=>(h.fr t).mono hI hβ (kf _ fun b hb=>(h.obnd _ b hb).1)
  bx:=fun i hi=>by
   by_cases fJ:i=s.nb
   ·subst fJ
    refine⟨w.heap.size,#[undef],by simp,.inl h.below.size,?_,by simp,fun j=>?_,fun k hk=>?_⟩
    ·simp only[cx]
     exact⟨#[],fF w _,rfl,rfl,rfl⟩
    ·simp only[cx,cL]
     cases j with
     |zero=>simp[LR]
     |succ j=>simp only[dQ,jT,LR];exact .un _
    ·have:=h.ibnd _ _ hk;omega
   ·obtain⟨blk,cur',e1,e2,e3,e4,e5,e7⟩:=h.bx i (by simp only at hi;omega)
    have bB:blk<w.heap.size:=e3.lt
    refine⟨blk,cur',hβ i blk e1,e2,by simpa only[dj _ _ fJ] using e3.mono (ek w _ blk bB),by simpa only[dj _ _ fJ] using e4,fun j=>?_,e7⟩
    simp only[dj _ _ fJ,if_neg fJ]
    exact(e5 j).mono hI hβ (kf _ fun b hb=>(h.obnd _ b hb).1)
  bnone:=fun i hi=>by
   simp only at hi
   rw[dj _ _ (by omega)]
   exact h.bnone i (by omega)
  ext:=fun i b he=>hβ i b (h.ext i b he)
  bnew:=fun i b hi=>by
   by_cases h1:i=s.nb
   ·subst h1;rw[cx] at hi;cases hi;exact .inr (.inl h.below.size)
   ·rw[dj _ _ h1] at hi;exact h.bnew i b hi
  binj:=fun i j b hi hj=>by
   by_cases h1:i=s.nb<;>by_cases h2:j=s.nb
   ·rw[h1,h2]
   ·subst h1;rw[cx] at hi;cases hi;rw[dj _ _ h2] at hj;exact absurd hj (jn.2 j)
   ·subst h2;rw[cx] at hj;cases hj;rw[dj _ _ h1] at hi;exact absurd hi (jn.2 i)
   ·rw[dj _ _ h1] at hi;rw[dj _ _ h2] at hj;exact h.binj i j b hi hj
  oinj:=fun L L' b hL xH=>h.oinj L L' b (key L b hL) (key L' b xH)
  obx:=fun L b i hL hi=>by
   by_cases fJ:i=s.nb
   ·subst fJ;rw[cx] at hi;cases hi
    exact jn.1 L (key L _ hL)
   ·rw[dj _ _ fJ] at hi
    exact h.obx L b i (key L b hL) hi
  obnd:=fun L b hL=>by
   rw[ej]
   have:=h.obnd L b (key L b hL);exact⟨by omega,this.2⟩
  glob:=fun g cs hg=>(h.glob g cs hg).mono hI }
theorem CB (hst:St G n I0 M w0 I β ob s a w) {i cl blk j:Nat} {bs:List Nat} {r:List V} {es:Array MapEntry} (hm:QL P I M w0 β ob s w i bs cl r blk es) {e:MapEntry} (he:es.toList[j]?=some e)
 {vv:Value} (hv:LR (Wr M w0) I β w none vv y) {f:MapEntry→MapEntry} (hf:f e={ e with val:=vv }) :
 ∃ ob',St G n I0 M w0 I β ob' { s with bx:=up s.bx i (.mk bs cl::r.set (2*j+1) y) } a (World.putObj w blk (.map (es.modify j f) cl)):=by
 have hj:j<es.toList.length:=(ak.1 he).1
 have hbl:es.toList.length=bs.length:=by rw[← hm.born,am]
 have lR:∀ q,(es.modify j f).toList[q]?=if q=j then some { e with val:=vv } else es.toList[q]?:=fun q=>by
  rw[Array.toList_modify,List.getElem?_modify]
  by_cases hq:j=q
  ·subst hq;simp[he,hf]
  ·simp[hq,gb hq]
 refine hst.reMap hm (es':=es.modify j f) (bs':=bs) (cl':=cl) (od:=fun q=>if q=2*j+2 then none else ob (.b i q)) ?_ (by rw[iM];exact hm.len) (fun q b hq=>by split at hq;cases hq;exact hq) fun q e' hq=>?_
 ·rw[← hm.born]
  apply iF
  intro q
  rw[bb,bb,lR]
  by_cases hq:q=j
  ·subst hq;simp only[cL,he,bO]
  ·rw[if_neg hq]
 ·rw[lR] at hq
  by_cases hqj:q=j
  ·subst hqj
   simp only[cL,ao] at hq;subst hq
   obtain⟨l1,_⟩:=hm.ent q e he
   refine⟨?_,?_⟩
   ·rw[sJ (by omega),if_neg (by omega)];exact l1
   ·rw[B6 (by have:=hm.len;omega),if_pos rfl];exact hv
  ·rw[if_neg hqj] at hq
   obtain⟨l1,l2⟩:=hm.ent q e' hq
   refine⟨?_,?_⟩
   ·rw[sJ (by omega),if_neg (by omega)];exact l1
   ·rw[sJ (by omega),if_neg (by omega)];exact l2
theorem Am (hst:St G n I0 M w0 I β ob s a w) {i cl blk:Nat} {bs:List Nat} {r:List V} {es:Array MapEntry} (hm:QL P I M w0 β ob s w i bs cl r blk es)
 {vk vv:Value} (hk:LR (Wr M w0) I β w none vk x) (hv:LR (Wr M w0) I β w none vv y) :
 ∃ ob',St G n I0 M w0 I β ob' { s with bx:=up s.bx i (.mk (bs++[cl]) (cl+1)::(r++[x,y])) } a (World.putObj w blk (.map (es.push { key:=vk,val:=vv,born:=cl }) (cl+1))):=by
 have hbl:es.toList.length=bs.length:=by rw[← hm.born,am]
 have cu:=hm.len
 refine hst.reMap hm (es':=es.push { key:=vk,val:=vv,born:=cl }) (bs':=bs++[cl]) (cl':=cl+1) (od:=fun q=>if q<1+r.length then ob (.b i q) else none) (by simp[hm.born]) (by simp[cu];omega)
  (fun q b hq=>by split at hq;exact hq;cases hq) fun q e' hq=>?_
 rw[Array.toList_push] at hq
 by_cases hqj:q<es.toList.length
 ·rw[aG hqj] at hq
  obtain⟨l1,l2⟩:=hm.ent q e' hq
  have g:∀ p,p<r.length→(r++[x,y]).getD p .un=r.getD p .un:=fun p hp=>by simp[List.getD,aG hp]
  refine⟨?_,?_⟩
  ·rw[g _ (by omega),if_pos (by omega)];exact l1
  ·rw[g _ (by omega),if_pos (by omega)];exact l2
 ·rw[aK (by omega)] at hq
  have hq0:q - es.toList.length=0:=by have:=(ak.1 hq).1;simp at this;omega
  rw[hq0] at hq
  simp only[bJ,ao] at hq;subst hq
  have e1:2*q=r.length:=by omega
  refine⟨?_,?_⟩
  ·rw[if_neg (by omega),e1]
   have:(r++[x,y]).getD r.length .un=x:=by simp[List.getD]
   rw[this];exact hk
  ·rw[if_neg (by omega),e1]
   have:(r++[x,y]).getD (r.length+1) .un=y:=by simp[List.getD]
   rw[this];exact hv
theorem ad0 {I:Ft} {w:World} {u1 u2:Value} {d1 d2:V} (h1:DR I w u1 d1) (h2:DR I w u2 d2):DR I w (.tuple #[u1,u2]) (.tup [d1,d2]):=by
 refine .tup _ _ rfl fun q d hd=>?_
 match q with
 |0=>simp at hd;subst hd;exact h1
 |1=>simp at hd;subst hd;exact h2
 |q+2=>simp at hd
theorem uV {T:TypeId} {k z:V} {K:S→Prop} {vx vk vv:Value} {ox oy oz:Option Nat} (hst:St G n I0 M w0 I β ob s a w) (h:ix P T s x k z K)
 (hx:LR (Wr M w0) I β w ox vx x) (hy:LR (Wr M w0) I β w oy vk k) (hz:LR (Wr M w0) I β w oz vv z) :
 ∃ s' ob' w',K s'∧(Instr.mapUpdate T vx vk vv).run P w=.ok () w'∧St G n I0 M w0 I β ob' s' a w':=by
 unfold ix at h
 obtain⟨i,bs,cl,r,res,z0,blk,kt,et,es,zv,hK,rfl,rfl,hm,hu,pQ,Jq,xw,VV,Z8⟩:=rk hst h hx hy
 have hg:=fq (P:=P) hm.heap
 cases res with
 |some j=>
  obtain⟨e,he,Ge,VC⟩:=xw j rfl
  simp only[bO,he,bU] at Jq
  obtain⟨ob',bL⟩:=CB hst hm he (hz.fz none) (f:=fun e=>{ e with key:=vk,val:=vv }) (by rw[Ge])
  have he':es[j]?=some e:=by rw[← aV];exact he
  refine⟨_,ob',_,hK,?_,bL⟩
  simp[Instr.mapUpdate,aT hu,hg,pQ,Jq,he',VC,i8 _ hm.heap,Result.andThen,World.putObj]
 |none=>
  simp only[jv] at Jq
  obtain⟨ob',bL⟩:=Am hst hm (hy.fz none) (hz.fz none)
  refine⟨_,ob',_,hK,?_,bL⟩
  simp[Instr.mapUpdate,aT hu,hg,pQ,Jq,i8 _ hm.heap,Result.andThen,World.putObj]
theorem zk {T:TypeId} {k:V} {K:S→V→Prop} {vx vk:Value} {ox oy:Option Nat} (hst:St G n I0 M w0 I β ob s a w) (h:fK P T s x k K)
 (hx:LR (Wr M w0) I β w ox vx x) (hy:LR (Wr M w0) I β w oy vk k) :
 ∃ s' ob' w' z u,K s' z∧(Instr.mapEntry T vx vk).run P w=.ok u w'∧St G n I0 M w0 I β ob' s' a w'∧LR (Wr M w0) I β w' none u z:=by
 unfold fK at h
 obtain⟨i,bs,cl,r,res,z0,blk,kt,et,es,zv,hK,rfl,rfl,hm,hu,pQ,Jq,xw,VV,Z8⟩:=rk hst h hx hy
 have hg:=fq (P:=P) hm.heap
 have hI:∀ (o':Obj) b o,I b o→I b o∧(World.putObj w blk o').cell? ⟨b,o,none⟩=w.cell? ⟨b,o,none⟩:=fun o' b o hb=>
  ⟨hb,hst.keeps (rl blk o') (fun r e o ho=>by cases e;exact absurd ho (hm.fr o)) b o hb⟩
 cases res with
 |some j=>
  obtain⟨e,he,Ge,VC⟩:=xw j rfl
  simp only[bO,he,bU] at Jq
  obtain⟨l1,l2⟩:=hm.ent j e he
  have he':es[j]?=some e:=by rw[← aV];exact he
  have hbj:bs.getD j 0=e.born:=by rw[← hm.born];simp[List.getD,he]
  have hr:(r.set (2*j+1) (r.getD (2*j+1) .un))=r:=by
   apply iF
   intro q
   rw[List.getElem?_set]
   split
   ·rename_i e;subst e
    split
    ·rename_i hl;simp[List.getD,hl]
    ·rename_i hl;rw[co (by omega)]
   ·rfl
  have n0:up s.bx i (V.mk bs cl::r)=s.bx:=by rw[← hm.bx];exact pZ _ _
  have bL:∃ ob',St G n I0 M w0 I β ob' s a (World.putObj w blk (.map (es.modify j fun e=>{ e with key:=vk }) cl)):=by
   have lR:∀ q,(es.modify j fun e=>{ e with key:=vk }).toList[q]?=es.toList[q]?:=fun q=>by
    rw[Array.toList_modify,List.getElem?_modify]
    by_cases hq:j=q
    ·subst hq;rw[he,← Ge];simp
    ·cases es.toList[q]?<;>simp[hq]
   have hl:(es.modify j fun e=>{ e with key:=vk })=es:=cT (iF lR)
   rw[hl]
   obtain⟨ob',h'⟩:=hst.reMap hm (es':=es) (bs':=bs) (cl':=cl) (r':=r) (od:=fun q=>ob (.b i q)) hm.born hm.len (fun _ _ h=>h) hm.ent
   rw[n0] at h'
   exact⟨ob',h'⟩
  obtain⟨ob',bL⟩:=bL
  refine⟨s,ob',_,_,.tuple #[e.val,.int .i64 e.born],hK,?_,bL,?_⟩
  ·simp[Instr.mapEntry,aT hu,hg,pQ,Jq,he',VC,i8 _ hm.heap,Result.andThen,World.putObj,goInt]
  ·simp only[LR]
   rw[hbj]
   exact(ad0 (yN l2) (.c _ _ (.lit _ rfl))).mono (hI _)
 |none=>
  simp only[jv] at Jq
  obtain⟨ob',bL⟩:=Am hst hm (hy.fz none) Z8
  refine⟨_,ob',_,_,.tuple #[zv,.int .i64 cl],hK,?_,bL,?_⟩
  ·simp[Instr.mapEntry,aT hu,hg,pQ,Jq,VV,i8 _ hm.heap,Result.andThen,World.putObj,goInt]
  ·simp only[LR]
   exact(ad0 (yN Z8) (.c _ _ (.lit _ rfl))).mono (hI _)
theorem JG {es:List MapEntry} {m:Int} {j:Nat} (h:(es.map (·.born)).findIdx? (fun(b:Nat)=>(b:Int)==m)=some j):∃ e,es[j]?=some e∧es.findIdx? (fun e=>(e.born:Int)==m)=some j:=by
 have h1:es.findIdx? (fun e=>(e.born:Int)==m)=some j:=by
  rw[List.findIdx?_map] at h;exact h
 have bB:j<es.length:=by
  have:=bW.1 h1
  exact this.1
 exact⟨_,aj bB,h1⟩
theorem zl {T:TypeId} {k z:V} {K:S→Prop} {vx vk vv:Value} {ox oy oz:Option Nat} (hst:St G n I0 M w0 I β ob s a w) (h:gd s x k z K)
 (hx:LR (Wr M w0) I β w ox vx x) (hy:LR (Wr M w0) I β w oy vk k) (hz:LR (Wr M w0) I β w oz vv z) :
 ∃ s' ob' w',K s'∧(Instr.entryStore T vx vk vv).run P w=.ok () w'∧St G n I0 M w0 I β ob' s' a w':=by
 unfold gd at h
 split at h
 ·rename_i i ik m
  split at h
  ·rename_i bs cl r hb
   split at h
   ·rename_i j hj
    obtain⟨hi,hK⟩:=h
    simp only[LR] at hx
    obtain⟨blk,hβ,rfl⟩:=hx
    obtain⟨es,hm⟩:=hst.mapW (P:=P) hi hb hβ
    have hg:=fq (P:=P) hm.heap
    have:=hy.lit
    subst this
    rw[← hm.born] at hj
    obtain⟨e,he,hf⟩:=JG hj
    have zg:es.findIdx? (fun e=>(e.born:Int)==m)=some j:=by rw[show es=es.toList.toArray by simp,List.findIdx?_toArray];exact hf
    obtain⟨ob',bL⟩:=CB hst hm he (hz.fz none) (f:=fun e=>{ e with val:=vv }) rfl
    refine⟨_,ob',_,hK,?_,bL⟩
    simp[Instr.entryStore,hg,zg,asInt,asIntOf,i8 _ hm.heap,Result.andThen,World.putObj]
   ·exact h.elim
  ·exact h.elim
 ·exact h.elim
theorem QM {t:Nat} {u:Value} (h:a.tmps.getD t undef=u) (ht:t<a.tmps.size):a.put (some t) u=a:=by
 have:a.tmps.setIfInBounds t u=a.tmps:=by
  apply jw (by simp)
  intro i h1 h2
  rw[ff]
  split
  ·rename_i e;subst e;rw[← h];simp[ht]
  ·rfl
 simp only[Act.put,this]
theorem GG {t:Nat} {ty:TypeId} {K:Option V→V→Prop} (hst:St G n I0 M w0 I β ob s a w) (hd:∀ d,o.dst=some d→d<n) (h:Aa s (s.fr t) K) :
 ∃ it z u w',K it z∧(Instr.next (a.tmps.getD t undef) false ty).run P w=.ok u w'∧SE G n I0 M w0 ((match it with | some x=>{ s with fr:=up s.fr t x } | none=>s:S).put o.dst z) (a.put o.dst u) w':=by
 unfold Aa at h
 have hx:=hst.fr t
 split at h
 ·rename_i i since stepped seen jn
  rw[jn] at hx
  split at h
  ·rename_i bs cl r hb
   obtain⟨⟨hi,hsc,Gc⟩,Qc,sf⟩:=h
   simp only[LR] at hx
   obtain⟨blk,m,sC,tW,hβ,hv,hh,hni⟩:=hx
   obtain⟨es,hm⟩:=hst.mapW (P:=P) hi hb hβ
   rw[hv]
   rcases run_next_at (P:=P) w ty blk m since stepped seen.toArray es cl hh hm.heap (fun x hx=>Gc _ (by rw[← hm.born];exact br.2 ⟨x,hx,rfl⟩)) hsc with⟨h0,bA⟩ | ⟨e,he,w1,hw1,bA⟩
   ·refine⟨none,_,_,_,Qc fun b hbm=>?_,bA,?_⟩
    ·rw[← hm.born] at hbm
     obtain⟨x,hxm,rfl⟩:=br.1 hbm
     have:=Array.size_eq_zero_iff.1 h0
     unfold leftOf at this
     rw[Array.filter_eq_empty_iff] at this
     have h2:=this x (by simpa using hxm)
     simpa using h2
    ·cases lh:o.dst with
     |none=>exact⟨_,_,_,hst⟩
     |some d=>
      exact⟨_,_,_,hst.put d (hd d lh) (o:=none) (by
       simp only[LR]
       refine .tup _ _ rfl fun q x hq=>?_
       match q with
       |0=>simp at hq;subst hq;exact .c _ _ (.lit _ rfl)
       |q+1=>simp at hq) FreeOb.nothing⟩
   ·have jS:e∈es.toList∧e.born∉seen:=by
     unfold leftOf at he
     simp only[Array.toList_filter,List.mem_filter] at he
     exact⟨he.1,by simpa using he.2⟩
    obtain⟨j,hj⟩:=List.getElem?_of_mem jS.1
    obtain⟨l1,l2⟩:=hm.ent j e hj
    have hbj:bs[j]?=some e.born:=by rw[← hm.born,bb,hj];rfl
    refine⟨_,_,_,_,sf j e.born hbj jS.2,bA,?_⟩
    have mf:St G n I0 M w0 I β ob s a w1:=by rcases hw1 with rfl | rfl;exact hst;exact hst.drew
    have gp:w1.heap=w.heap:=by rcases hw1 with rfl | rfl<;>rfl
    have dZ:t<a.tmps.size:=by
     by_cases ht:t<a.tmps.size
     ·exact ht
     ·exfalso
      have:a.tmps.getD t undef=undef:=by simp[db (dX ht)]
      rw[this] at hv
      cases hv
    have vV:blk<w1.heap.size:=by rw[gp];exact(hst.obnd _ _ sC).1
    have hc:=mf.clr t
    have hL:∀ L,upL ob (.t t) none L≠some blk:=fun L hL=>by
     simp only[upL] at hL
     split at hL
     ·cases hL
     ·rename_i fO;exact fO (hst.oinj _ _ blk hL sC)
    have Z9:∀ q,β q≠some blk:=fun q hq=>hst.obx _ blk q sC hq
    have hg:=hc.growRow (I':=I) (rl (w:=w1) blk (.mapIter (some m) since (seen.toArray.push e.born) cl)) tW (fun o ho=>absurd ho (hni o)) hL Z9 (fun _ _ h=>h) (fun _ _ h=>.inl h) (by rw[putObj_size];exact vV)
    have hp:=hg.put t (by rw[← hst.size];exact dZ) (v:=.pointer (some ⟨blk,0,none⟩)) (x:=.it i since cl (seen++[e.born])) (o:=some blk) (by
     simp only[LR]
     exact⟨blk,m,rfl,tW,hβ,rfl,by rw[nN vV];simp,hni⟩) (fun b hb=>by
     cases hb
     refine⟨⟨by rw[putObj_size];exact vV,tW⟩,fun L xH=>?_,Z9⟩
     simp only[upL] at xH
     split at xH
     ·cases xH
     ·exact hL L (by simp only[upL];split<;>simp_all))
    rw[QM hv dZ] at hp
    have xx:(s.clr t).put (some t) (.it i since cl (seen++[e.born]))={ s with fr:=up s.fr t (.it i since cl (seen++[e.born])) }:=by
     simp only[S.clr,S.put]
     congr 1
     funext q
     simp only[up];split<;>simp_all
    rw[xx] at hp
    cases lh:o.dst with
    |none=>exact⟨_,_,_,hp⟩
    |some d=>
     refine⟨_,_,_,hp.put d (hd d lh) (o:=none) ?_ FreeOb.nothing⟩
     have hI:∀ b o,I b o→I b o∧(World.putObj w1 blk (.mapIter (some m) since (seen.toArray.push e.born) cl)).cell? ⟨b,o,none⟩=w.cell? ⟨b,o,none⟩:=fun b o hb=>by
      refine⟨hb,dV (a:=⟨b,o,none⟩) ?_⟩
      have fO:b≠blk:=fun e=>hni o (by rw[← e];exact hb)
      exact(oM fO).trans (by rw[gp])
     have:=(DR.tup (w:=w) (I:=I) #[.bool true,e.key,e.val] [.c (.lit (.bool true)),(r.getD (2*j) .un).dr,(r.getD (2*j+1) .un).dr] rfl fun q x hq=>by
      match q with
      |0=>simp at hq;subst hq;exact .c _ _ (.lit _ rfl)
      |1=>simp at hq;subst hq;exact yN l1
      |2=>simp at hq;subst hq;exact yN l2
      |q+3=>simp at hq).mono hI
     simp only[LR];exact this
  ·exact h.elim
 ·exact h.elim
end
section
variable {P:Program} {G:Gl} {tr:List Nat} {n:Nat} {I0:Ft} {M:Mx} {w0:World} {I:Ft} {β:Nat→Option Nat} {ob:Loc→Option Nat} {s:S} {a:Act} {w:World} {o:Oper}
 {next:Act→World→Prop} {Q:Exit→Act→World→Prop} {base:Nat→Prop} {v:Value} {x y:V} {K:V→Prop}
theorem St.write (hst:St G n I0 M w0 I β ob s a w) {b k:Nat} {blk:Nat} {cs:List C} {vs:List Value} (hb:b<s.nb) (hβ:β b=some blk) (jl:dc (s.bx b)=false) (cu:vs.length=cs.length) (rR:k+cs.length≤(s.bx b).length)
 (hc:∀ (q:Nat) (c:C),cs[q]?=some c→∃ u:Value,vs[q]?=some u∧CR I w u c) :
 ∃ (cur:Array Value) (T:RT) (ob':Loc→Option Nat),w.heap[blk]?=some (.cells cur T.t T.fz)∧T.ok cur.size∧(s.bx b).length≤cur.size∧(∀ u∈vs,u.oneCell'=true)∧
  St G n I0 M w0 I β ob' { s with bx:=up s.bx b (eU (s.bx b) k (cs.map .c)) } a (w.setRow blk (cur.toList.take k++vs++cur.toList.drop (k+vs.length)).toArray):=by
 obtain⟨ra,cur,e1,e2,e3,e4,_⟩:=hst.bx b hb
 obtain⟨T,e3,_,hT⟩:=e3.cells jl
 rw[hβ] at e1;cases e1
 have jk:∀ u∈vs,u.oneCell'=true:=fun u hu=>by
  obtain⟨q,hq⟩:=List.mem_iff_getElem?.1 hu
  have pa:q<cs.length:=by rw[← cu];exact(ak.1 hq).1
  obtain⟨u',Cp,jm⟩:=hc q cs[q] (aj pa)
  rw[hq] at Cp;cases Cp
  exact jm.oneCell
 refine⟨cur,T,_,e3,hT,e4,jk,hst.setBox (i:=b) (k:=k) (blk:=blk) (cur:=cur) (T:=T) (vs:=vs) (ds:=cs.map .c) (od:=fun _=>none) hb hβ e3 hT (by simpa using cu) (by simpa using rR) (fun q=>?_) jk
  (fun _ _ h=>by cases h) (fun _ _ _ h=>by cases h) jl (fun d hd=>?_)⟩
 ·by_cases hq:q<cs.length
  ·obtain⟨u,hu,jm⟩:=hc q cs[q] (aj hq)
   have e1:vs.getD q undef=u:=by rw[aB,hu];rfl
   have e2:(cs.map V.c).getD q .un=.c cs[q]:=by simp[List.getD,hq]
   rw[e1,e2];exact .ofC jm
  ·have e2:(cs.map V.c).getD q .un=.un:=by simp[List.getD,co (dX hq)]
   rw[e2];simp only[LR];exact .un _
 ·obtain⟨c,_,rfl⟩:=br.1 hd;rfl
theorem St.write_nil (hst:St G n I0 M w0 I β ob s a w) {b k:Nat}:St G n I0 M w0 I β ob { s with bx:=up s.bx b (eU (s.bx b) k []) } a w:=by
 have:eU (s.bx b) k []=s.bx b:=by simp[eU]
 rw[this,pZ];exact hst
def om (st:ByteArray) (m:Nat):List Value:=(st.data.toList.take m).map fun b=>Value.int .u8 b.toNat
theorem NP (st:ByteArray) (m:Nat):(om st m).length=(((kq st).take m).flatten).length∧∀ (q:Nat) (c:C),(((kq st).take m).flatten)[q]?=some c→∃ u:Value,(om st m)[q]?=some u∧CR I w u c:=by
 have e:((kq st).take m).flatten=(st.data.toList.take m).map fun b=>C.lit (.int .u8 b.toNat):=by
  unfold kq
  rw[← kH]
  generalize st.data.toList.take m=l
  induction l with
  |nil=>rfl
  |cons b l ih=>simp only[aO,dY,ih];rfl
 rw[e]
 refine⟨by simp[om],fun q c hq=>?_⟩
 unfold om
 rw[bb] at hq ⊢
 cases hb:(st.data.toList.take m)[q]? with
 |none=>simp[hb] at hq
 |some b=>
  simp only[hb,bO,ao] at hq
  exact⟨_,rfl,by rw[← hq];exact .lit _ rfl⟩
theorem Et {dT sT ty e:TypeId} {j:TypeInfo} (hu:P.underlying dT=some (.slice e)) (hj:P.info? e=some j) (hs:j.size=1) {g off len cap:Nat} {st:ByteArray} {cur:Array Value} {T:RT}
 (hg:w.heap[g]?=some (.cells cur T.t T.fz)) (hT:T.ok cur.size) (rR:off+min st.size len≤cur.size) :
 (Builtin.copy_ #[dT,sT] ty #[.slice (some ⟨g,off,none⟩) len cap,.string st]).run P w=
  .ok (goInt ((min st.size len:Nat):Int)) (w.setRow g (cur.toList.take off++om st len++cur.toList.drop (off+(om st len).length)).toArray):=by
 have cu:(om st len).length=min st.size len:=by
  unfold om;rw[am,a8,bN,Nat.min_comm];rfl
 have jk:∀ u∈om st len,u.oneCell'=true:=fun u hu=>by
  obtain⟨_,_,rfl⟩:=br.1 hu;rfl
 have hst:=fL (P:=P) g off T (om st len) 0 cur w hg hT (by rw[cu];simpa using rR) jk
 simp only[dR] at hst
 have Qa:List.take (Nat.min st.size len) (List.map (fun b:UInt8=>Value.int IntKind.u8 (b.toNat:Int)) st.data.toList)=om st len:=by
  unfold om
  rw[← kH]
  congr 1
  rw[show Nat.min st.size len=min len st.size from Nat.min_comm _ _,← List.take_take]
  congr 1
  exact dS (by rw[bN];exact ae _)
 simp[Builtin.copy_,aT hu,Builtin.lenOf,Builtin.firstCells,sizeOf,typeInfo,hj,hs]
 rw[Qa,hst]
 simp only[Result.andThen,bZ]
theorem B7 {dT sT ty e:TypeId} {j:TypeInfo} (hu:P.underlying dT=some (.slice e)) (hj:P.info? e=some j) {d:Option Addr} {len cap:Nat} {st:ByteArray} (h0:min st.size len=0) :
 (Builtin.copy_ #[dT,sT] ty #[.slice d len cap,.string st]).run P w=.ok (goInt 0) w:=by
 have h0':Nat.min st.size len=0:=h0
 cases d<;>simp[Builtin.copy_,aT hu,Builtin.lenOf,Builtin.firstCells,sizeOf,typeInfo,hj,h0',storeCells]
theorem GH {t u ty:TypeId} {vx vy:Value} {ox oy:Option Nat} {K:S→V→Prop} (hst:St G n I0 M w0 I β ob s a w) (h:nJ P s K [t,u] [x,y]) (hx:LR (Wr M w0) I β w ox vx x) (hy:LR (Wr M w0) I β w oy vy y) :
 ∃ s' ob' w' z v,K s' z∧(Builtin.copy_ #[t,u] ty #[vx,vy]).run P w=.ok v w'∧St G n I0 M w0 I β ob' s' a w'∧LR (Wr M w0) I β w' none v z:=by
 unfold nJ at h
 split at h
 ·rename_i t' u' b off len cap sz st rT na
  simp only[bP,ga] at rT na
  obtain⟨rfl,rfl⟩:=rT
  obtain⟨rfl,rfl⟩:=na
  split at h
  ·rename_i e _ _ _ _ _ _ hi
   obtain⟨j,d,h1,h2,h3,_⟩:=bw hi
   have hd:=dq h3
   subst hd
   split at h
   ·rename_i ie sg
    obtain⟨j',d',jH,ot,_,eD,_⟩:=bw sg
    obtain⟨⟨Qm,rfl,hb,jl,rR⟩,h⟩:=h
    simp only[LR] at hx
    obtain⟨jW,blk,off',cap',zY,hβ,m0,rfl⟩:=hx
    rw[hy.lit]
    have uE:(((kq st).take len).flatten).length=min st.size len:=by
     rw[bD (sz:=1) _ (fun x hx=>by have:=cJ hx;simp only[kq,br] at this;obtain⟨_,_,rfl⟩:=this;rfl),a8]
     simp[kq];exact Nat.min_comm _ _
    by_cases h0:min st.size len=0
    ·have e0:((kq st).take len).flatten=[]:=cy (by rw[uE];exact h0)
     rw[e0,h0] at h
     exact⟨_,_,w,_,_,h,B7 h2 jH h0,hst.write_nil,.ofLit rfl⟩
    ·have:off'=off:=by rcases m0 with h4 | h4;omega;exact h4
     subst this
     obtain⟨q1,q2⟩:=NP (I:=I) (w:=w) st len
     obtain⟨cur,T,ob',gp,hT,Y0,jk,bL⟩:=hst.write (k:=off') hb hβ jl q1 (by rw[uE];omega) q2
     exact⟨_,_,_,_,_,h,Et h2 jH (by rw[← eD];exact Qm) gp hT (by omega),bL,.ofLit rfl⟩
   ·exact h.elim
  ·exact h.elim
 ·exact h.elim
theorem QN {U e':TypeId} {vy:Value} {oy:Option Nat} {sz:Nat} {ys:List (List C)} (hst:St G n I0 M w0 I β ob s a w) (hy:LR (Wr M w0) I β w oy vy y) (h:vj s y=some (.sl ys)) (hu:P.underlying U=some (.slice e')) (hs:∀ x∈ys,x.length=sz):Gw P I w U vy sz ys:=by
 have flat:∀ {es:List (List C)} {blk off' cap':Nat} {f:Nat→Nat→Value} {z:Nat},vy=.slice (some ⟨blk,off',none⟩) es.length cap'→(∀ e∈es,e.length=z)→es=ys→
  (∀ p q,p<es.length→q<z→w.cell? ⟨blk,off'+p*z+q,none⟩=some (f p q))→(∀ p q e c,es[p]?=some e→e[q]?=some c→CR I w (f p q) c)→Gw P I w U vy sz ys:=by
  rintro es blk off' cap' f z rfl h1 rfl h2 h3
  obtain⟨news,uE,Ja,Jb,Ls⟩:=QI (J:=fun _ _=>True) hs h1 (fun i j hi hj=>⟨h2 i j hi hj,trivial⟩) h3
  exact⟨news,Src.ofSlice w hu ⟨blk,off',none⟩ _ _ news uE (fun q u hq=>by rw[cV];exact(Ja q u hq).1) Ls,Jb⟩
 cases y<;>simp only[vj] at h<;>try cases h
 ·exact(RD.ofCR hy.toC).src hu hs
 ·exact(RD.ofCR hy.1).src hu hs
 ·simp only[aY] at h
  obtain⟨cs,_,h2⟩:=h
  cases h2
 ·simp only[LR] at hy
  obtain⟨es,blk,off',cap',f,e1,e2,_,_,h4,h5,h6⟩:=Eh hst h hy
  cases e1
  exact flat e2 h4 rfl h5 h6
def RelL (I:Ft) (w:World) (L:List Value) (cs:List C):Prop:=∀ (q:Nat) (c:C),cs[q]?=some c→∃ u:Value,L[q]?=some u∧CR I w u c
theorem RelL.take {L:List Value} {cs:List C} (h:RelL I w L cs) (k:Nat):RelL I w (L.take k) (cs.take k):=fun q c hq=>by
 rw[cC] at hq
 split at hq
 ·rename_i hk
  obtain⟨u,h1,h2⟩:=h q c hq
  exact⟨u,by rw[cC,if_pos hk];exact h1,h2⟩
 ·cases hq
theorem RelL.drop {L:List Value} {cs:List C} (h:RelL I w L cs) (k:Nat):RelL I w (L.drop k) (cs.drop k):=fun q c hq=>by
 rw[ci] at hq
 obtain⟨u,h1,h2⟩:=h _ c hq
 exact⟨u,by rw[ci];exact h1,h2⟩
theorem RelL.append {L L':List Value} {cs cs':List C} (h:RelL I w L cs) (h':RelL I w L' cs') (hl:L.length=cs.length):RelL I w (L++L') (cs++cs'):=fun q c hq=>by
 by_cases Zd:q<cs.length
 ·rw[aG Zd] at hq
  obtain⟨u,h1,h2⟩:=h q c hq
  exact⟨u,by rw[aG (by omega)];exact h1,h2⟩
 ·rw[aK (by omega)] at hq
  obtain⟨u,h1,h2⟩:=h' _ c hq
  exact⟨u,by rw[aK (by omega),hl];exact h1,h2⟩
theorem oN {α:Type} {sz:Nat} {es:List (List α)} (h:∀ e∈es,e.length=sz) {k:Nat} (hk:k≤es.length):(es.take k).flatten=es.flatten.take (k*sz):=by
 have e:es.flatten=(es.take k).flatten++(es.drop k).flatten:=by rw[← ea,d6]
 have hl:(es.take k).flatten.length=k*sz:=by rw[bD _ (fun x hx=>h x (cJ hx)),a8,cv hk]
 rw[e,gq hl]
theorem mM {α:Type} {sz:Nat} {es:List (List α)} (h:∀ e∈es,e.length=sz) {k:Nat} (hk:k≤es.length):(es.drop k).flatten=es.flatten.drop (k*sz):=by
 have e:es.flatten=(es.take k).flatten++(es.drop k).flatten:=by rw[← ea,d6]
 have hl:(es.take k).flatten.length=k*sz:=by rw[bD _ (fun x hx=>h x (cJ hx)),a8,cv hk]
 rw[e,List.drop_left' hl]
theorem St.gsSet (hst:St G n I0 M w0 I β ob s a w) {b k blk cap sz:Nat} {e:TypeId} {es es':List (List C)} {cur:Array Value} {L:List Value} (hb:b<s.nb) (jl:dc (s.bx b)=false)
 (hk:(s.bx b)[k]?=some (.gs (some (.slice (some ⟨blk,0,none⟩) es.length cap)) (some (e,sz)) es)) (gp:w.heap[blk]?=some (.cells cur e (0,0))) (dZ:cur.size=cap*sz) (cu:es'.length=es.length) (pT:∀ x∈es',x.length=sz)
 (hL:L.length=cur.size) (jk:∀ u∈L,u.oneCell'=true) (pM:RelL I w L es'.flatten) :
 St G n I0 M w0 I β ob { s with bx:=up s.bx b ((s.bx b).set k (.gs (some (.slice (some ⟨blk,0,none⟩) es.length cap)) (some (e,sz)) es')) } a (w.setRow blk L.toArray):=by
 rcases hst.gsAt hb hk with⟨_,_,_,hE⟩ | ⟨cur1,e1,sz1,kf,hE,_,g1,g2,g3,g4,gm,g5,g6,g7⟩
 ·cases hE
 cases hE
 rw[gp] at g1
 simp only[ao,Obj.cells.injEq,ga] at g1
 subst g1
 have vV:blk<w.heap.size:=(be.1 gp).1
 have hg:w.grb (w.setRow blk L.toArray) (some blk):=⟨rfl,rfl,rfl,by simp,fun k _ hk=>jI w blk k _ (fun e=>hk (by rw[e])),ae _⟩
 have kp:∀ b o,I b o→I b o∧(w.setRow blk L.toArray).cell? ⟨b,o,none⟩=w.cell? ⟨b,o,none⟩:=fun b o hb=>⟨hb,hst.keeps hg (fun r e o ho=>by cases e;exact absurd ho (g7 o)) b o hb⟩
 refine hst.recell hb hk rfl rfl kf hg (fun o ho=>absurd ho (g7 o)) (fun _ _ h=>h) (fun _ _ h=>.inl h) fun b1 cur0 _ _ hx=>?_
 obtain⟨h1,h2⟩:=hx.gsO
 refine⟨h1,?_⟩
 have hv:=h1 _ rfl
 have Vx:Wr M w0 blk:=(hst.obnd _ _ kf).2
 exact .inr ⟨e,blk,cap,L.toArray,sz,rfl,rfl,by rw[hv,cu],Vx,ln w blk cur _ e (0,0) gp,by rw[cu];exact g4,gm,by rw[er,hL,dZ],pT,fun j c hj=>by
  obtain⟨u,q1,q2⟩:=pM j c hj
  have:L.toArray.getD j undef=u:=by rw[ap,cP,q1];rfl
  rw[this];exact q2.mono kp,fun u hu=>jk u (fQ.1 hu),g7⟩
theorem St.ggSet (hst:St G n I0 M w0 I β ob s a w) {b k blk len cap sz:Nat} {e:TypeId} {es:List (List C)} (hb:b<s.nb) (hk:(s.bx b)[k]?=some (.gg (.slice (some ⟨blk,0,none⟩) len cap) (some (e,sz)) es)) :
 ∃ cur:Array Value,(len=es.length∧w.heap[blk]?=some (.cells cur e (0,0))∧cur.size=cap*sz∧es.length≤cap∧(∀ x∈es,x.length=sz)∧(∀ j c,es.flatten[j]?=some c→CR I w (cur.getD j undef) c)∧(∀ u∈cur,u.oneCell'=true))∧
  ∀ (es':List (List C)) (L:List Value),es'.length=es.length→(∀ x∈es',x.length=sz)→L.length=cur.size→(∀ u∈L,u.oneCell'=true)→RelL I w L es'.flatten→
   St G n I0 M w0 I β ob { s with bx:=up s.bx b ((s.bx b).set k (.gg (.slice (some ⟨blk,0,none⟩) len cap) (some (e,sz)) es')) } a (w.setRow blk L.toArray):=by
 obtain⟨b1,cur0,e1,e2,e3,e4,e5,e7⟩:=hst.bx b hb
 have h5:=e5 k
 have tU:(s.bx b).getD k .un=.gg (.slice (some ⟨blk,0,none⟩) len cap) (some (e,sz)) es:=by simp[List.getD,hk]
 rw[tU] at h5
 have h6:OwnG (Wr M w0) I w (some (e,sz)) es (ob (.b b k)) (.slice (some ⟨blk,0,none⟩) len cap):=h5
 rcases h6 with⟨_,hE,_⟩ | ⟨e',ra,cap',cur,sz',kf,hE,hv,Vx,hh,hc,hm,hs,hl,hf,jk,fm⟩
 ·cases hE
 cases hE
 simp only[eO,ao,jf] at hv
 obtain⟨⟨rfl,_⟩,rfl,rfl⟩:=hv
 refine⟨cur,⟨rfl,hh,hs,hc,hl,hf,jk⟩,fun es' L cu pT hL afL pM=>?_⟩
 have hg:w.grb (w.setRow blk L.toArray) (some blk):=⟨rfl,rfl,rfl,by simp,fun k _ hk=>jI w blk k _ (fun e=>hk (by rw[e])),ae _⟩
 have kp:∀ b o,I b o→I b o∧(w.setRow blk L.toArray).cell? ⟨b,o,none⟩=w.cell? ⟨b,o,none⟩:=fun b o hb=>⟨hb,hst.keeps hg (fun r e o ho=>by cases e;exact absurd ho (fm o)) b o hb⟩
 refine hst.recell hb hk rfl rfl kf hg (fun o ho=>absurd ho (fm o)) (fun _ _ h=>h) (fun _ _ h=>.inl h) fun b1 cur0 _ _ hx=>?_
 show OwnG (Wr M w0) I (w.setRow blk L.toArray) (some (e,sz)) es' (some blk) _
 exact .inr ⟨e,blk,cap,L.toArray,sz,rfl,rfl,by rw[cu],Vx,ln w blk cur _ e (0,0) hh,by rw[cu];exact hc,hm,by rw[er,hL,hs],pT,fun j c hj=>by
  obtain⟨u,q1,q2⟩:=pM j c hj
  have:L.toArray.getD j undef=u:=by rw[ap,cP,q1];rfl
  rw[this];exact q2.mono kp,fun u hu=>afL u (fQ.1 hu),fm⟩
theorem Eu {α:Type} {sz:Nat} {es:List (List α)} (h:∀ e∈es,e.length=sz) {q:Nat} (hq:q<es.length) (x:List α):(es.set q x).flatten=es.flatten.take (q*sz)++x++es.flatten.drop (q*sz+sz):=by
 rw[List.set_eq_take_append_cons_drop,if_pos hq,ea,dY,oN h (Nat.le_of_lt hq),mM h hq,dJ,bZ]
theorem An {t u ty:TypeId} {vx vy:Value} {ox oy:Option Nat} {K:S→V→Prop} (hst:St G n I0 M w0 I β ob s a w) (h:eV P s K [t,u] [x,y]) (hx:LR (Wr M w0) I β w ox vx x) (hy:LR (Wr M w0) I β w oy vy y) :
 ∃ s' ob' w' z v,K s' z∧(Builtin.append_ #[t,u] ty #[vx,vy]).run P w=.ok v w'∧St G n I0 M w0 I β ob' s' a w'∧LR (Wr M w0) I β w' none v z:=by
 unfold eV at h
 split at h
 ·rename_i t' u' b off len cap sz y' rT na
  simp only[bP,ga] at rT na
  obtain⟨rfl,rfl⟩:=rT
  obtain⟨rfl,rfl⟩:=na
  split at h
  ·rename_i e _ _ _ _ _ _ ys hi hyf
   obtain⟨j,d,h1,h2,h3,_⟩:=bw hi
   have hd:=dq h3
   subst hd
   split at h
   ·rename_i ie sg
    obtain⟨j',d',jH,ot,_,eD,_⟩:=bw sg
    obtain⟨⟨rfl,dZ,hp,hb,jl,rR,mG,vU⟩,h⟩:=h
    simp only[LR] at hx
    obtain⟨jW,blk,off',cap',zY,hβ,m0,rfl⟩:=hx
    obtain⟨news,pP,Jb⟩:=QN hst hy hyf h2 vU
    have pN:Src P j'.size t vy ys.length news w:=by rw[← eD,dZ];exact pP
    have uE:=pP.newsLen
    have m8:=bD ys vU
    by_cases h0:ys=[]
    ·subst h0
     have:news=[]:=cy (by rw[uE];simp)
     subst this
     refine⟨_,_,w,_,_,h,lK t t ty e j' h2 jH _ len cap' (by omega) pN,hst.write_nil,?_⟩
     simp only[LR]
     exact⟨by simpa using jW,blk,off',cap',zY,hβ,m0,rfl⟩
    ·have hyl:0<ys.length:=iV.2 h0
     have:off'=off:=by rcases m0 with h4 | h4;omega;exact h4
     subst this
     have hm:(len+ys.length)*sz≤cap*sz:=aS _ mG
     rw[cU] at hm
     obtain⟨cur,T,ob',gp,hT,Y0,jk,bL⟩:=hst.write (k:=off'+len*sz) (cs:=ys.flatten) (vs:=news) hb hβ jl (by rw[uE,m8]) (by rw[m8];omega) Jb
     have bA:=iS (P:=P) (w:=w) t t ty e j' h2 jH blk off' len cap' cur T gp hT vy ys.length news pN (by omega) (by rw[← eD,dZ,uE];omega)
     rw[← eD,dZ] at bA
     refine⟨_,_,_,_,_,h,bA,bL,?_⟩
     simp only[LR]
     exact⟨mG,blk,off',cap',zY,hβ,.inr rfl,rfl⟩
   ·exact h.elim
  ·exact h.elim
 ·rename_i t' u' blk n' cap blk2 off m cap2 rT na
  simp only[bP,ga] at rT na
  obtain⟨rfl,rfl⟩:=rT
  obtain⟨rfl,rfl⟩:=na
  obtain rfl:=hx.toC.ex_inv
  obtain rfl:=hy.toC.ex_inv
  split at h
  ·rename_i e _ _ _ _ _ _ hi
   obtain⟨j,d,h1,h2,h3,_⟩:=bw hi
   have hd:=dq h3
   subst hd
   split at h
   ·rename_i ie sg
    obtain⟨j',d',jH,ot,_,eD,_⟩:=bw sg
    obtain⟨b,k,jj,E,es,⟨rfl,rfl,hp,⟨e1,rfl⟩,hb,jl,hk,m0,hjm,hnm,hmc⟩,h⟩:=h
    rcases hst.gsAt hb hk with⟨_,_,_,hE⟩ | ⟨cur,e2,sz,kf,hE,_,g1,g2,g3,g4,gm,g5,g6,g7⟩
    ·cases hE
    simp only[ao,dU] at hE
    obtain⟨rfl,rfl⟩:=hE
    generalize dZ:ie.size=sz at *
    by_cases h0:m=0
    ·subst h0
     have pN:Src P j'.size t (.slice (some ⟨blk2,off,none⟩) 0 cap2) 0 [] w:=Src.ofSlice w h2 ⟨blk2,off,none⟩ _ _ [] (by simp) (by simp) (by simp)
     have adh:es.take n'++(es.drop jj).take 0++es.drop (n'+0)=es:=by simp
     rw[adh] at h
     have gv:(s.bx b).set k (.gs (some (.slice (some ⟨blk2,0,none⟩) es.length cap)) (some (e1,sz)) es)=s.bx b:=by
      obtain⟨F8,hke⟩:=ak.1 hk
      rw[← hke,List.set_getElem_self]
     rw[gv,pZ] at h
     exact⟨_,_,w,_,_,h,lK t t ty e j' h2 jH _ n' cap (by omega) pN,hst,.ofC (.ex _ rfl rfl)⟩
    ·have Vy:off=jj*sz:=by rcases m0 with h4 | h4;exact absurd h4 h0;exact h4
     subst Vy
     have m9:cur.toList.length=cur.size:=bN
     have q1:(jj+m)*sz≤cur.size:=by rw[g2];exact aS _ (by omega)
     have q2:(n'+m)*sz≤cur.size:=by rw[g2];exact aS _ (by omega)
     rw[cU] at q1 q2
     have uE:((cur.toList.drop (jj*sz)).take (m*sz)).length=m*sz:=by rw[a8,di,m9];exact cv (by omega)
     have jS:∀ u∈(cur.toList.drop (jj*sz)).take (m*sz),u.oneCell'=true:=fun u hu=>g6 u (cH.1 (cM (cJ hu)))
     have pN:Src P j'.size t (.slice (some ⟨blk2,jj*sz,none⟩) m cap2) m ((cur.toList.drop (jj*sz)).take (m*sz)) w:=by
      rw[← eD]
      refine Src.ofSlice w h2 ⟨blk2,jj*sz,none⟩ _ _ _ uE (fun q u hq=>?_) jS
      rw[cV,fk w blk2 (jj*sz+q) cur e1 (0,0) g1]
      rw[cC] at hq
      split at hq
      ·rw[ci,aV] at hq;exact hq
      ·cases hq
     have bA:=iS (P:=P) (w:=w) t t ty e j' h2 jH blk2 0 n' cap cur (.of e1) g1 RT.of_ok _ m _ pN (by omega) (by rw[← eD,uE];omega)
     rw[← eD,uE] at bA
     simp only[ah] at bA
     have xE:RelL I w cur.toList es.flatten:=fun q c hq=>by
      have pa:=(ak.1 hq).1
      rw[bD es g3] at pa
      have:=aS sz g4
      refine⟨cur.getD q undef,?_,g5 q c hq⟩
      rw[aV,ap,aA (show q<cur.size by omega)];rfl
     have m8:=bD es g3
     have fy:=aS sz (show n'+m≤es.length from hnm)
     have Ly:=aS sz (show jj+m≤es.length from hjm)
     rw[cU] at fy Ly
     have hdl:∀ x∈es.drop jj,x.length=sz:=fun x hx=>g3 x (cM hx)
     have bL:=hst.gsSet (L:=cur.toList.take (n'*sz)++(cur.toList.drop (jj*sz)).take (m*sz)++cur.toList.drop (n'*sz+m*sz)) (es':=es.take n'++(es.drop jj).take m++es.drop (n'+m)) hb jl hk g1 g2
      (by simp only[ax,a8,di];omega)
      (fun x hx=>by
       rcases aZ.1 hx with hx | hx
       ·rcases aZ.1 hx with hx | hx
        ·exact g3 x (cJ hx)
        ·exact hdl x (cJ hx)
       ·exact g3 x (cM hx))
      (by rw[ax,ax,uE,a8,di,m9,cv (by omega)];omega)
      (fun u hu=>by
       rcases aZ.1 hu with hu | hu
       ·rcases aZ.1 hu with hu | hu
        ·exact g6 u (cH.1 (cJ hu))
        ·exact jS u hu
       ·exact g6 u (cH.1 (cM hu)))
      (by
       rw[ea,ea,oN g3 (by omega),oN hdl (by rw[di];omega),mM g3 (by omega),mM g3 (by omega),cU]
       refine RelL.append (RelL.append (xE.take _) ((xE.drop _).take _) ?_) (xE.drop _) ?_
       ·rw[a8,a8,m9,m8,cv (by omega),cv (by omega)]
       ·rw[ax,ax,uE,a8,a8,a8,di,m9,m8,cv (by omega),cv (by omega),cv (by omega)])
     exact⟨_,_,_,_,_,h,bA,bL,.ofC (.ex _ rfl rfl)⟩
   ·exact h.elim
  ·exact h.elim
 ·exact h.elim
theorem Ev {t ty:TypeId} {vx:Value} {ox:Option Nat} {K:S→Prop} (hst:St G n I0 M w0 I β ob s a w) (h:iJ P s K [t] [x]) (hx:LR (Wr M w0) I β w ox vx x) :
 ∃ s' ob' w',K s'∧(Builtin.clear_ #[t] ty #[vx]).run P w=.ok (.tuple #[]) w'∧St G n I0 M w0 I β ob' s' a w':=by
 unfold iJ at h
 split at h
 ·rename_i t' b off len cap sz rT na
  simp only[bP,ga] at rT na
  subst rT
  subst na
  split at h
  ·rename_i e _ _ _ _ _ _ hi
   obtain⟨j,d,h1,h2,h3,_⟩:=bw hi
   have hd:=dq h3
   subst hd
   split at h
   ·rename_i m _ _ z _ _ sg
    obtain⟨j',d',jH,ot,_,eD,_,_,me,_⟩:=bw sg
    simp only at me eD
    obtain⟨⟨rfl,hp,uD,hb,jl,rR⟩,h⟩:=h
    split at me
    ·rename_i zv sh
     simp only[LR] at hx
     obtain⟨jW,blk,off',cap',zY,hβ,m0,rfl⟩:=hx
     have rP:=kL (I:=I) (w:=w) me.symm
     by_cases h0:len=0
     ·subst h0
      refine⟨_,_,w,h,?_,hst.write_nil⟩
      unfold Builtin.clear_
      simp[aT h2]
     ·have:off'=off:=by rcases m0 with h4 | h4;omega;exact h4
      subst this
      have e1:((Array.range (len*z.length)).map (zv.cells[· % zv.cells.size]!))=Builtin.zeroCells zv.cells len:=by
       unfold Builtin.zeroCells
       rw[rP.1]
      have m3:=qI rP (by omega) len
      rw[e1] at m3
      have m8:(List.replicate len z).flatten.length=len*m:=by rw[bD (sz:=m) _ (fun x hx=>by rw[eY hx];exact uD),List.length_replicate]
      have tV:(Builtin.zeroCells zv.cells len).toList.length=(List.replicate len z).flatten.length:=by
       rw[bN];exact m3.1
      obtain⟨cur,T,ob',gp,hT,Y0,jk,bL⟩:=hst.write (k:=off') (cs:=(List.replicate len z).flatten) (vs:=(Builtin.zeroCells zv.cells len).toList) hb hβ jl tV (by rw[m8];exact rR) (fun q c hq=>by
       have:=m3.2 q c hq
       have pa:q<(Builtin.zeroCells zv.cells len).size:=by rw[← bN,tV];exact(ak.1 hq).1
       refine⟨(Builtin.zeroCells zv.cells len)[q],by rw[aV,aA pa],?_⟩
       rw[ap] at this
       rw[aA pa] at this
       exact this)
      have bA:=fL (P:=P) blk off' T (Builtin.zeroCells zv.cells len).toList 0 cur w gp hT (by rw[tV,m8];omega) jk
      simp only[dR] at bA
      refine⟨_,_,_,h,?_,bL⟩
      obtain⟨len,rfl⟩:∃ k,len=k+1:=⟨len - 1,by omega⟩
      unfold Builtin.clear_
      simp[aT h2,zeroValue,typeInfo,jH,sh,bA]
    ·cases me
   ·exact h.elim
  ·exact h.elim
 ·rename_i t' blk off m cap2 rT na
  simp only[bP,ga] at rT na
  subst rT
  subst na
  obtain rfl:=hx.toC.ex_inv
  split at h
  ·rename_i e _ _ _ _ _ _ hi
   obtain⟨j,d,h1,h2,h3,_⟩:=bw hi
   have hd:=dq h3
   subst hd
   split at h
   ·rename_i sz0 _ _ z _ _ sg
    obtain⟨j',d',jH,ot,_,eD,_,_,me,_⟩:=bw sg
    simp only at me eD
    obtain⟨b,k,jj,cap,E,es,⟨hp,uD,⟨e1,rfl⟩,hb,jl,hk,m0,hjm⟩,h⟩:=h
    split at me
    ·rename_i zv sh
     have rP:=kL (I:=I) (w:=w) me.symm
     rcases hst.gsAt hb hk with⟨_,_,_,hE⟩ | ⟨cur,e2,sz,kf,hE,_,g1,g2,g3,g4,gm,g5,g6,g7⟩
     ·cases hE
     simp only[ao,dU] at hE
     obtain⟨rfl,rfl⟩:=hE
     by_cases h0:m=0
     ·subst h0
      have adh:es.take jj++List.replicate 0 z++es.drop (jj+0)=es:=by simp
      rw[adh] at h
      have gv:(s.bx b).set k (.gs (some (.slice (some ⟨blk,0,none⟩) es.length cap)) (some (e1,sz0)) es)=s.bx b:=by
       obtain⟨F8,hke⟩:=ak.1 hk
       rw[← hke,List.set_getElem_self]
      rw[gv,pZ] at h
      refine⟨_,_,w,h,?_,hst⟩
      unfold Builtin.clear_
      simp[aT h2]
     ·have Vy:off=jj*sz0:=by rcases m0 with h4 | h4;exact absurd h4 h0;exact h4
      subst Vy
      have ez:((Array.range (m*z.length)).map (zv.cells[· % zv.cells.size]!))=Builtin.zeroCells zv.cells m:=by
       unfold Builtin.zeroCells
       rw[rP.1]
      have m3:=qI rP (by omega) m
      rw[ez] at m3
      have YY:(List.replicate m z).flatten.length=m*sz0:=by rw[bD (sz:=sz0) _ (fun x hx=>by rw[eY hx];exact uD),List.length_replicate]
      have tV:(Builtin.zeroCells zv.cells m).toList.length=m*sz0:=by
       rw[bN,m3.1,YY]
      have m9:cur.toList.length=cur.size:=bN
      have q1:(jj+m)*sz0≤cur.size:=by rw[g2];exact aS _ (by omega)
      rw[cU] at q1
      have aaa:RelL I w (Builtin.zeroCells zv.cells m).toList (List.replicate m z).flatten:=fun q c hq=>by
       have:=m3.2 q c hq
       have pa:q<(Builtin.zeroCells zv.cells m).size:=by rw[← bN,tV,← YY];exact(ak.1 hq).1
       refine⟨(Builtin.zeroCells zv.cells m)[q],by rw[aV,aA pa],?_⟩
       rw[ap] at this
       rw[aA pa] at this
       exact this
      have aab:∀ u∈(Builtin.zeroCells zv.cells m).toList,u.oneCell'=true:=fun u hu=>by
       obtain⟨q,hq⟩:=List.mem_iff_getElem?.1 hu
       have pa:q<(List.replicate m z).flatten.length:=by rw[YY,← tV];exact(ak.1 hq).1
       obtain⟨u',Cp,jm⟩:=aaa q _ (aj pa)
       rw[hq] at Cp;cases Cp
       exact jm.oneCell
      have bA:=fL (P:=P) blk (jj*sz0) (.of e1) (Builtin.zeroCells zv.cells m).toList 0 cur w g1 RT.of_ok (by rw[tV];omega) aab
      simp only[dR,tV] at bA
      have xE:RelL I w cur.toList es.flatten:=fun q c hq=>by
       have pa:=(ak.1 hq).1
       rw[bD es g3] at pa
       have:=aS sz0 g4
       refine⟨cur.getD q undef,?_,g5 q c hq⟩
       rw[aV,ap,aA (show q<cur.size by omega)];rfl
      have m8:=bD es g3
      have Ly:=aS sz0 (show jj+m≤es.length from hjm)
      rw[cU] at Ly
      have bL:=hst.gsSet (L:=cur.toList.take (jj*sz0)++(Builtin.zeroCells zv.cells m).toList++cur.toList.drop (jj*sz0+m*sz0)) (es':=es.take jj++List.replicate m z++es.drop (jj+m)) hb jl hk g1 g2
       (by simp only[ax,a8,di,List.length_replicate];omega)
       (fun x hx=>by
        rcases aZ.1 hx with hx | hx
        ·rcases aZ.1 hx with hx | hx
         ·exact g3 x (cJ hx)
         ·rw[eY hx];exact uD
        ·exact g3 x (cM hx))
       (by rw[ax,ax,tV,a8,di,m9,cv (by omega)];omega)
       (fun u hu=>by
        rcases aZ.1 hu with hu | hu
        ·rcases aZ.1 hu with hu | hu
         ·exact g6 u (cH.1 (cJ hu))
         ·exact aab u hu
        ·exact g6 u (cH.1 (cM hu)))
       (by
        rw[ea,ea,oN g3 (by omega),mM g3 (by omega),cU]
        refine RelL.append (RelL.append (xE.take _) aaa ?_) (xE.drop _) ?_
        ·rw[a8,a8,m9,m8,cv (by omega),cv (by omega)]
        ·rw[ax,ax,tV,YY,a8,a8,m9,m8,cv (by omega),cv (by omega)])
      refine⟨_,_,_,h,?_,bL⟩
      obtain⟨m,rfl⟩:∃ k,m=k+1:=⟨m - 1,by omega⟩
      unfold Builtin.clear_
      simp[aT h2,zeroValue,typeInfo,jH,sh,bA]
    ·cases me
   ·exact h.elim
  ·exact h.elim
 ·exact h.elim
theorem Ew {src dst:TypeId} {d:Option Tmp} {X:Operand} {K:S→Prop} (hst:St G n I0 M w0 I β ob s a w) (hd:∀ t,d=some t→t<n) (h:D4 P s d src dst K (ev G s X)) :
 ∃ s' v w',K (s'.put d v)∧∃ u,(convert src dst (a.eval X)).run P w=.ok u w'∧∃ β' ob',St G n I0 M w0 I β' ob' s' a w'∧LR (Wr M w0) I β' w' none u v:=by
 unfold D4 at h
 split at h
 ·rename_i st vZ
  split at h
  ·rename_i e _ _ _ _ _ _ hi rS
   obtain⟨j,d1,_,h2,h3,_⟩:=bw hi
   obtain⟨j',d',_,ot,YX,_⟩:=bw rS
   have pL:=dq YX
   subst pL
   have Vt:=nL h3
   subst Vt
   split at h
   ·rename_i sg
    obtain⟨je,de,_,h2e,h3e,_⟩:=bw sg
    have hde:=wh h3e
    subst hde
    have hx:=bF hst X
    rw[vZ] at hx
    have bA:=run_bytes_of_string (P:=P) w src dst e st h2 ot h2e
    rw[← hx.lit] at bA
    have si:(kq st).flatten=st.data.toList.map fun b=>C.lit (.int .u8 b.toNat):=by
     unfold kq
     generalize st.data.toList=l
     induction l with
     |nil=>rfl
     |cons b l ih=>simp only[aO,dY,ih];rfl
    have dZ:st.size≤(bytesRow st (grownCap w st.size 0 e)).size:=by simp[bytesRow]
    have lR:∀ q,q<st.size→(bytesRow st (grownCap w st.size 0 e)).getD q undef=.int .u8 ((st.data.toList.getD q 0).toNat:Int):=fun q hq=>by
     have P7:q<st.data.size:=hq
     unfold bytesRow
     rw[ap,dG (by simpa using P7),Array.getElem?_map,aA P7]
     have:st.data.toList.getD q 0=st.data[q]:=by
      rw[aB,aV,aA P7];rfl
     rw[this];rfl
    have v6:=hst.drew.newBox (cur:=bytesRow st (grownCap w st.size 0 e)) (T:=⟨e,((bytesRow st (grownCap w st.size 0 e)).size,(bytesRow st (grownCap w st.size 0 e)).size+1)⟩)
     (cs:=(kq st).flatten.map .c) (od:=fun _=>none) (by rw[si];simpa using dZ) (.inr (ae _)) (fun q=>by
      by_cases hq:q<st.size
      ·have P7:q<st.data.toList.length:=by simpa using hq
       have e2:((kq st).flatten.map V.c).getD q .un=.c (.lit (.int .u8 ((st.data.toList.getD q 0).toNat:Int))):=by
        rw[si,aB,aB,bb,bb,aj P7];rfl
       rw[lR q hq,e2];exact .ofLit rfl
      ·have e2:((kq st).flatten.map V.c).getD q .un=.un:=by
        rw[si];rw[aB,co (by simpa using hq)];rfl
       rw[e2];simp only[LR];exact .un _) (fun u hu=>by
      unfold bytesRow at hu
      rcases Array.mem_append.1 hu with hu | hu
      ·obtain⟨b,_,rfl⟩:=Array.mem_map.1 hu;rfl
      ·rw[Array.mem_replicate] at hu;rw[hu.2];rfl) (fun _ _ h=>by cases h) (fun _ _ _ h=>by cases h) (zH fun x hx=>by
      obtain⟨c,_,rfl⟩:=br.1 hx;rfl)
    refine⟨_,_,_,h,_,bA,_,_,v6,?_⟩
    simp only[LR]
    exact⟨ae _,w.heap.size,0,_,grownCap_ge w _ _ _,by simp,.inr rfl,rfl⟩
   ·exact h.elim
  ·exact h.elim
 ·exact h.elim
end
section
variable {P:Program} {G:Gl} {tr:List Nat} {n:Nat} {I0:Ft} {M:Mx} {w0:World} {I:Ft} {β:Nat→Option Nat} {ob:Loc→Option Nat} {s:S} {a:Act} {w:World} {base:Nat→Prop} {v:Value} {x:V}
 {g:Option Value} {E:Option (TypeId×Nat)} {es:List (List C)} {ops:Array Oper} {K:S→Prop}
theorem OwnG.gsV {o:Option Nat} (h:OwnG base I w E es o v):GsV E es v:=by
 rcases h with⟨_,h1,h2,h3⟩ | ⟨e,blk,cap,cur,sz,_,_,hv,_,_,hc,_⟩
 ·exact .inr ⟨h2,h1,h3⟩
 ·exact .inl ⟨blk,cap,hv,hc⟩
theorem St.reown (h:St G n I0 M w0 I β ob s a w) {b k:Nat} {x x':V} {o':Option Nat} (hb:b<s.nb) (hk:(s.bx b)[k]?=some x) (hxm:x.isMk=false) (Gh:x'.isMk=false) (ho:o'=none∨o'=ob (.b b k))
 (F7:∀ cur:Array Value,LR (Wr M w0) I β w (ob (.b b k)) (cur.getD k undef) x→LR (Wr M w0) I β w o' (cur.getD k undef) x') :
 St G n I0 M w0 I β (upL ob (.b b k) o') { s with bx:=up s.bx b ((s.bx b).set k x') } a w:=by
 have eJ:∀ L c,upL ob (.b b k) o' L=some c→ob L=some c:=fun L c hL=>by
  simp only[upL] at hL
  split at hL
  ·rename_i e;subst e
   rcases ho with ho | ho
   ·rw[ho] at hL;cases hL
   ·rw[← ho];exact hL
  ·exact hL
 have re:k<(s.bx b).length:=(ak.1 hk).1
 have tU:(s.bx b).getD k .un=x:=by simp[List.getD,hk]
 exact {
  size:=h.size,defers:=h.defers,below:=h.below,ilow:=h.ilow,kept:=h.kept,ihigh:=h.ihigh,ibnd:=h.ibnd
  fr:=fun t=>by
   have:=h.fr t
   have e:upL ob (.b b k) o' (.t t)=ob (.t t):=by simp[upL]
   rw[e];exact this
  bx:=fun i hi=>by
   obtain⟨b1,cur,e1,e2,e3,e4,e5,e7⟩:=h.bx i hi
   by_cases tX:i=b
   ·subst tX
    refine⟨b1,cur,e1,e2,?_,by simp only[cx,iM];exact e4,fun j=>?_,e7⟩
    ·simp only[cx]
     refine e3.congr (by simp) ?_
     by_cases tY:k=0
     ·subst tY
      have g1:((s.bx i).set 0 x').getD 0 .un=x':=by simp[List.getD,re]
      rw[iw (by unfold dc;rw[g1];exact Gh),iw (by unfold dc;rw[tU];exact hxm)]
     ·have:((s.bx i).set k x').getD 0 .un=(s.bx i).getD 0 .un:=by simp[List.getD,dw tY]
      unfold oe
      rw[this]
    ·simp only[cx]
     by_cases hjk:j=k
     ·subst hjk
      have:((s.bx i).set j x').getD j .un=x':=by simp[List.getD,re]
      rw[this]
      have e:upL ob (.b i j) o' (.b i j)=o':=by simp[upL]
      rw[e]
      have h5:=e5 j
      rw[tU] at h5
      exact F7 cur h5
     ·have:((s.bx i).set k x').getD j .un=(s.bx i).getD j .un:=by simp[List.getD,dw (gb hjk)]
      rw[this]
      have e:upL ob (.b i k) o' (.b i j)=ob (.b i j):=by simp[upL,hjk]
      rw[e];exact e5 j
   ·refine⟨b1,cur,e1,e2,by simp only[dj _ _ tX];exact e3,by simp only[dj _ _ tX];exact e4,fun j=>?_,e7⟩
    simp only[dj _ _ tX]
    have e:upL ob (.b b k) o' (.b i j)=ob (.b i j):=by simp[upL,tX]
    rw[e];exact e5 j
  bnone:=h.bnone,ext:=h.ext,bnew:=h.bnew,binj:=h.binj
  oinj:=fun L L' c q1 q2=>h.oinj L L' c (eJ L c q1) (eJ L' c q2)
  obx:=fun L c i q1=>h.obx L c i (eJ L c q1)
  obnd:=fun L c q1=>h.obnd L c (eJ L c q1)
  glob:=h.glob }
theorem St.reword (h:St G n I0 M w0 I β ob s a w) {b k:Nat} {x x':V} (hb:b<s.nb) (hk:(s.bx b)[k]?=some x) (hxm:x.isMk=false) (Gh:x'.isMk=false)
 (F7:∀ cur,LR (Wr M w0) I β w (ob (.b b k)) (Array.getD cur k undef) x→LR (Wr M w0) I β w (ob (.b b k)) (Array.getD cur k undef) x') :
 SE G n I0 M w0 (s.cell b k x') a w:=⟨_,_,_,h.reown hb hk hxm Gh (.inr rfl) F7⟩
theorem St.adopt (h:St G n I0 M w0 I β ob s a w) {blk:Nat} {cur:Array Value} {T:RT} {cs:List C} (tW:Wr M w0 blk) (gp:w.heap[blk]?=some (.cells cur T.t T.fz)) (hT:T.ok cur.size) (jk:∀ u∈cur,u.oneCell'=true)
 (dZ:cs.length≤cur.size) (hc:∀ j c,cs[j]?=some c→CR I w (cur.getD j undef) c) (kf:∀ L,ob L≠some blk) (hβ:∀ i,β i≠some blk) (hI:∀ o,¬ I blk o) :
 St G n I0 M w0 I (up β s.nb (some blk)) (fun L=>match L with | .b i j=>if i=s.nb then none else ob (.b i j) | L=>ob L) { s with bx:=up s.bx s.nb (cs.map .c),nb:=s.nb+1 } a w:=by
 have hβ':∀ i b,β i=some b→up β s.nb (some blk) i=some b:=fun i b hi=>by
  have:i≠s.nb:=fun e=>by rw[h.bnone i (by omega)] at hi;cases hi
  rw[dj _ _ this];exact hi
 have eJ:∀ L b,(match L with | .b i j=>if i=s.nb then none else ob (.b i j) | L=>ob L)=some b→ob L=some b:=fun L b hL=>by
  cases L with
  |t i=>exact hL
  |b i j=>
   simp only at hL
   split at hL
   ·cases hL
   ·exact hL
 have kp:∀ {o:Option Nat} {v:Value} {x:V},LR (Wr M w0) I β w o v x→LR (Wr M w0) I (up β s.nb (some blk)) w o v x:=fun hx=>hx.mono (fun _ _ h=>⟨h,rfl⟩) hβ' (fun _ _=>⟨rfl,fun _ h=>h⟩)
 have jl:dc (cs.map V.c)=false:=by cases cs<;>rfl
 exact {
  size:=h.size,defers:=h.defers,below:=h.below,kept:=h.kept,ilow:=h.ilow,ihigh:=h.ihigh,ibnd:=h.ibnd
  fr:=fun t=>kp (h.fr t)
  bx:=fun i hi=>by
   by_cases fJ:i=s.nb
   ·subst fJ
    refine⟨blk,cur,by simp,tW,.of gp jk hT (by simpa using jl),by simpa using dZ,fun j=>?_,hI⟩
    simp only[cx,cL]
    by_cases hj:j<cs.length
    ·have e2:(cs.map V.c).getD j .un=.c cs[j]:=by simp[List.getD,hj]
     rw[e2];exact .ofC (hc j _ (aj hj))
    ·have e2:(cs.map V.c).getD j .un=.un:=by simp[List.getD,co (dX hj)]
     rw[e2];simp only[LR];exact .un _
   ·obtain⟨b1,cur',e1,e2,e3,e4,e5,e7⟩:=h.bx i (by simp only at hi;omega)
    refine⟨b1,cur',hβ' i b1 e1,e2,by simpa only[dj _ _ fJ] using e3,by simpa only[dj _ _ fJ] using e4,fun j=>?_,e7⟩
    simp only[dj _ _ fJ,if_neg fJ]
    exact kp (e5 j)
  bnone:=fun i hi=>by
   simp only at hi
   rw[dj _ _ (by omega)]
   exact h.bnone i (by omega)
  ext:=fun i b he=>hβ' i b (h.ext i b he)
  bnew:=fun i b hi=>by
   by_cases h1:i=s.nb
   ·subst h1;rw[cx] at hi;cases hi;exact .inr tW
   ·rw[dj _ _ h1] at hi;exact h.bnew i b hi
  binj:=fun i j b hi hj=>by
   by_cases h1:i=s.nb<;>by_cases h2:j=s.nb
   ·rw[h1,h2]
   ·subst h1;rw[cx] at hi;cases hi;rw[dj _ _ h2] at hj;exact absurd hj (hβ j)
   ·subst h2;rw[cx] at hj;cases hj;rw[dj _ _ h1] at hi;exact absurd hi (hβ i)
   ·rw[dj _ _ h1] at hi;rw[dj _ _ h2] at hj;exact h.binj i j b hi hj
  oinj:=fun L L' b hL xH=>h.oinj L L' b (eJ L b hL) (eJ L' b xH)
  obx:=fun L b i hL hi=>by
   by_cases fJ:i=s.nb
   ·subst fJ;rw[cx] at hi;cases hi
    exact kf L (eJ L _ hL)
   ·rw[dj _ _ fJ] at hi
    exact h.obx L b i (eJ L b hL) hi
  obnd:=fun L b hL=>h.obnd L b (eJ L b hL)
  glob:=h.glob }
theorem St.gsCell (h:St G n I0 M w0 I β ob s a w) {b k:Nat} (hb:b<s.nb) (jl:dc (s.bx b)=false) (hk:(s.bx b)[k]?=some (.gs g E es)):∃ blk cur,β b=some blk∧HB w blk cur (s.bx b)∧(∀ u,g=some u→cur.getD k undef=u)∧OwnG (Wr M w0) I w E es (ob (.b b k)) (cur.getD k undef):=by
 obtain⟨b1,cur,e1,e2,e3,e4,e5,e7⟩:=h.bx b hb
 have h5:=e5 k
 have tU:(s.bx b).getD k .un=.gs g E es:=by simp[List.getD,hk]
 rw[tU] at h5
 exact⟨b1,cur,e1,e3,h5.1,h5.2⟩
theorem St.reownAt (h:St G n I0 M w0 I β ob s a w) {b k blk:Nat} {cur:Array Value} {x x':V} {o':Option Nat} (hb:b<s.nb) (jl:dc (s.bx b)=false) (hβ:β b=some blk) (hB:HB w blk cur (s.bx b)) (hk:(s.bx b)[k]?=some x) (Gh:x'.isMk=false) (ho:o'=none∨o'=ob (.b b k))
 (F7:LR (Wr M w0) I β w o' (cur.getD k undef) x') :
 St G n I0 M w0 I β (upL ob (.b b k) o') { s with bx:=up s.bx b ((s.bx b).set k x') } a w:=by
 have eJ:∀ L c,upL ob (.b b k) o' L=some c→ob L=some c:=fun L c hL=>by
  simp only[upL] at hL
  split at hL
  ·rename_i e;subst e
   rcases ho with ho | ho
   ·rw[ho] at hL;cases hL
   ·rw[← ho];exact hL
  ·exact hL
 have re:k<(s.bx b).length:=(ak.1 hk).1
 exact {
  size:=h.size,defers:=h.defers,below:=h.below,ilow:=h.ilow,kept:=h.kept,ihigh:=h.ihigh,ibnd:=h.ibnd
  fr:=fun t=>by
   have:=h.fr t
   have e:upL ob (.b b k) o' (.t t)=ob (.t t):=by simp[upL]
   rw[e];exact this
  bx:=fun i hi=>by
   obtain⟨b1,cur1,e1,e2,e3,e4,e5,e7⟩:=h.bx i hi
   by_cases tX:i=b
   ·subst tX
    rw[hβ] at e1;cases e1
    cases hB.same jl e3
    refine⟨blk,cur,hβ,e2,?_,by simp only[cx,iM];exact e4,fun j=>?_,e7⟩
    ·simp only[cx]
     refine e3.congr (by simp) ?_
     by_cases tY:k=0
     ·subst tY
      have g1:((s.bx i).set 0 x').getD 0 .un=x':=by simp[List.getD,re]
      rw[iw (by unfold dc;rw[g1];exact Gh),iw jl]
     ·have:((s.bx i).set k x').getD 0 .un=(s.bx i).getD 0 .un:=by simp[List.getD,dw tY]
      unfold oe
      rw[this]
    ·simp only[cx]
     by_cases hjk:j=k
     ·subst hjk
      have:((s.bx i).set j x').getD j .un=x':=by simp[List.getD,re]
      rw[this]
      have e:upL ob (.b i j) o' (.b i j)=o':=by simp[upL]
      rw[e]
      exact F7
     ·have:((s.bx i).set k x').getD j .un=(s.bx i).getD j .un:=by simp[List.getD,dw (gb hjk)]
      rw[this]
      have e:upL ob (.b i k) o' (.b i j)=ob (.b i j):=by simp[upL,hjk]
      rw[e];exact e5 j
   ·refine⟨b1,cur1,e1,e2,by simp only[dj _ _ tX];exact e3,by simp only[dj _ _ tX];exact e4,fun j=>?_,e7⟩
    simp only[dj _ _ tX]
    have e:upL ob (.b b k) o' (.b i j)=ob (.b i j):=by simp[upL,tX]
    rw[e];exact e5 j
  bnone:=h.bnone,ext:=h.ext,bnew:=h.bnew,binj:=h.binj
  oinj:=fun L L' c q1 q2=>h.oinj L L' c (eJ L c q1) (eJ L' c q2)
  obx:=fun L c i q1=>h.obx L c i (eJ L c q1)
  obnd:=fun L c q1=>h.obnd L c (eJ L c q1)
  glob:=h.glob }
theorem St.giveCell (h:St G n I0 M w0 I β ob s a w) {b k blk:Nat} {cur:Array Value} {x':V} {o':Option Nat} (hb:b<s.nb) (jl:dc (s.bx b)=false) (hβ:β b=some blk) (hB:HB w blk cur (s.bx b)) (re:k<(s.bx b).length) (Gh:x'.isMk=false) (ho:∀ c,o'=some c→(c<w.heap.size∧Wr M w0 c)∧(∀ L,ob L≠some c)∧∀ i,β i≠some c)
 (F7:LR (Wr M w0) I β w o' (cur.getD k undef) x') :
 St G n I0 M w0 I β (upL ob (.b b k) o') { s with bx:=up s.bx b ((s.bx b).set k x') } a w:=by
 have eJ:∀ L c,upL ob (.b b k) o' L=some c→(L=.b b k∧o'=some c)∨(L≠.b b k∧ob L=some c):=fun L c hL=>by
  simp only[upL] at hL
  split at hL
  ·rename_i e;exact .inl ⟨e,hL⟩
  ·rename_i e;exact .inr ⟨e,hL⟩
 exact {
  size:=h.size,defers:=h.defers,below:=h.below,ilow:=h.ilow,kept:=h.kept,ihigh:=h.ihigh,ibnd:=h.ibnd
  fr:=fun t=>by
   have:=h.fr t
   have e:upL ob (.b b k) o' (.t t)=ob (.t t):=by simp[upL]
   rw[e];exact this
  bx:=fun i hi=>by
   obtain⟨b1,cur1,e1,e2,e3,e4,e5,e7⟩:=h.bx i hi
   by_cases tX:i=b
   ·subst tX
    rw[hβ] at e1;cases e1
    cases hB.same jl e3
    refine⟨blk,cur,hβ,e2,?_,by simp only[cx,iM];exact e4,fun j=>?_,e7⟩
    ·simp only[cx]
     refine e3.congr (by simp) ?_
     by_cases tY:k=0
     ·subst tY
      have g1:((s.bx i).set 0 x').getD 0 .un=x':=by simp[List.getD,re]
      rw[iw (by unfold dc;rw[g1];exact Gh),iw jl]
     ·have:((s.bx i).set k x').getD 0 .un=(s.bx i).getD 0 .un:=by simp[List.getD,dw tY]
      unfold oe
      rw[this]
    ·simp only[cx]
     by_cases hjk:j=k
     ·subst hjk
      have:((s.bx i).set j x').getD j .un=x':=by simp[List.getD,re]
      rw[this]
      have e:upL ob (.b i j) o' (.b i j)=o':=by simp[upL]
      rw[e]
      exact F7
     ·have:((s.bx i).set k x').getD j .un=(s.bx i).getD j .un:=by simp[List.getD,dw (gb hjk)]
      rw[this]
      have e:upL ob (.b i k) o' (.b i j)=ob (.b i j):=by simp[upL,hjk]
      rw[e];exact e5 j
   ·refine⟨b1,cur1,e1,e2,by simp only[dj _ _ tX];exact e3,by simp only[dj _ _ tX];exact e4,fun j=>?_,e7⟩
    simp only[dj _ _ tX]
    have e:upL ob (.b b k) o' (.b i j)=ob (.b i j):=by simp[upL,tX]
    rw[e];exact e5 j
  bnone:=h.bnone,ext:=h.ext,bnew:=h.bnew,binj:=h.binj
  oinj:=fun L L' c q1 q2=>by
   rcases eJ L c q1 with⟨h1,h2⟩ | ⟨h1,h2⟩<;>rcases eJ L' c q2 with⟨h3,h4⟩ | ⟨h3,h4⟩
   ·rw[h1,h3]
   ·exact absurd h4 ((ho c h2).2.1 L')
   ·exact absurd h2 ((ho c h4).2.1 L)
   ·exact h.oinj L L' c h2 h4
  obx:=fun L c i q1=>by
   rcases eJ L c q1 with⟨_,h2⟩ | ⟨_,h2⟩
   ·exact(ho c h2).2.2 i
   ·exact h.obx L c i h2
  obnd:=fun L c q1=>by
   rcases eJ L c q1 with⟨_,h2⟩ | ⟨_,h2⟩
   ·exact(ho c h2).1
   ·exact h.obnd L c h2
  glob:=h.glob }
theorem OwnG.cool {o:Option Nat} (h:OwnG base I w E es o v):∃ I':Ft,(∀ b o,I b o→I' b o)∧(∀ b k,I' b k→I b k∨some b=o)∧OwnR base I' w E es o v:=by
 rcases h with⟨h0,h1,h2,a,h3⟩ | ⟨e,blk,cap,cur,sz,r1,r2,r3,r4,r5,r6,r7,r8,r9,r10,_,r12⟩
 ·subst h2;subst h3
  exact⟨I,fun _ _ h=>h,fun _ _ h=>.inl h,.nil a 0 (fun _=>rfl),.inl ⟨h0,h1,a,rfl⟩⟩
 ·subst r1
  refine⟨fun b' o=>I b' o∨(b'=blk∧o<es.length*sz),fun _ _ h=>.inl h,fun b k h=>?_,?_⟩
  ·rcases h with h | ⟨rfl,_⟩
   ·exact .inl h
   ·exact .inr rfl
  ·have jm:CR (fun b' o=>I b' o∨(b'=blk∧o<es.length*sz)) w (.slice (some ⟨blk,0,none⟩) es.length cap) (.sl es):=
    CR.row (I':=fun b' o=>I b' o∨(b'=blk∧o<es.length*sz)) (cap:=cap) (es:=es) (sz:=sz) r5 r6 r9 (fun q c hq=>by
     have h0:=(ak.1 hq).1
     rw[bD _ r9] at h0
     have h1:=aS sz r6
     exact⟨by rw[r8];omega,(r10 q c hq).mono fun b o h=>⟨.inl h,rfl⟩⟩) (fun o ho=>.inr ⟨rfl,ho⟩)
   rw[r3]
   refine⟨jm,.inr ⟨e,blk,cap,cur,sz,rfl,r2,rfl,r4,r5,r6,r7,r8,r9,fun o ho=>?_⟩⟩
   rcases ho with ho | ho
   ·exact absurd ho (r12 o)
   ·exact ho.2
end
section
variable {P:Program} {G:Gl} {tr:List Nat} {n:Nat} {I0:Ft} {M:Mx} {w0:World} {I:Ft} {β:Nat→Option Nat} {ob:Loc→Option Nat} {s:S} {a:Act} {w:World} {o:Oper}
 {next:Act→World→Prop} {Q:Exit→Act→World→Prop} {base:Nat→Prop} {v:Value} {x y:V}
theorem PR.ren {ρ:Nat→Nat} {β':Nat→Option Nat} {m:Nat} (h:PR I β w v (x.renP ρ)) (hx:x.ltP m) (hβ:∀ i b,i<m→β (ρ i)=some b→β' i=some b):PR I β' w v x:=by
 cases x<;>simp only[V.ltP] at hx<;>simp only[V.renP,PR] at h ⊢<;>try exact h
 ·obtain⟨blk,h1,h2⟩:=h;exact⟨blk,hβ _ _ hx h1,h2⟩
 ·obtain⟨h0,blk,o',c',zB,h1,h2⟩:=h;exact⟨h0,blk,o',c',zB,hβ _ _ hx h1,h2⟩
 ·obtain⟨blk,h1,h2⟩:=h;exact⟨blk,hβ _ _ hx h1,h2⟩
 ·obtain⟨blk,h1,h2⟩:=h;exact⟨blk,hβ _ _ hx h1,h2⟩
 ·obtain⟨blk,h1,h2⟩:=h;exact⟨blk,hβ _ _ hx h1,h2⟩
theorem V8 {ρ:Nat→Nat} (h:x.renP ρ=.un):x=.un:=by cases x<;>first | rfl | cases h
theorem LX {ρ:Nat→Nat} (h:(x.renP ρ).isAT=true):x.renP ρ=x:=by cases x<;>first | rfl | cases h
theorem NQ {ρ:Nat→Nat}:(x.renP ρ).isAT=x.isAT:=by cases x<;>rfl
theorem KR.ren {ρ:Nat→Nat} {β':Nat→Option Nat} {m:Nat} (h:KR I β w v (x.renP ρ)) (hx:x.ltP m) (hβ:∀ i b,i<m→β (ρ i)=some b→β' i=some b):KR I β' w v x:=by
 rcases h with h | ⟨h1,h2⟩ | h
 ·exact .inl (V8 h)
 ·have e:=LX h1;rw[e] at h1 h2;exact .inr (.inl ⟨h1,h2⟩)
 ·exact .inr (.inr (h.ren hx hβ))
theorem LR.ren {ρ:Nat→Nat} {β':Nat→Option Nat} {m:Nat} {ox:Option Nat} (h:LR base I β w ox v (x.ren ρ)) (hx:x.lt m) (hβ:∀ i b,i<m→β (ρ i)=some b→β' i=some b):LR base I β' w ox v x:=by
 cases x<;>simp only[V.lt] at hx<;>simp only[V.ren,LR] at h ⊢<;>try exact h
 ·obtain⟨blk,h1,h2⟩:=h;exact⟨blk,hβ _ _ hx h1,h2⟩
 ·obtain⟨vf,vc,h1,h2,h3,h4,h5⟩:=h
  rw[am] at h2 h3
  exact⟨vf,vc,h1,h2,h3,fun j x hj=>(h4 j (x.renP ρ) (by simp[hj])).ren (hx.1 x (bh hj)) hβ,fun j x hj=>(h5 j (x.renP ρ) (by simp[hj])).ren (hx.2 x (bh hj)) hβ⟩
 ·obtain⟨h0,blk,o',c',zB,h1,h2⟩:=h;exact⟨h0,blk,o',c',zB,hβ _ _ hx h1,h2⟩
 ·obtain⟨cs,h1,h2,h3⟩:=h
  rw[am] at h2
  exact⟨cs,h1,h2,fun j x hj=>(h3 j (x.renP ρ) (by simp[hj])).ren (hx x (bh hj)) hβ⟩
 ·obtain⟨blk,h1,h2⟩:=h;exact⟨blk,hβ _ _ hx h1,h2⟩
 ·obtain⟨blk,m,h1,h2,h3,h4⟩:=h;exact⟨blk,m,h1,h2,hβ _ _ hx h3,h4⟩
 ·obtain⟨blk,h1,h2⟩:=h;exact⟨blk,hβ _ _ hx h1,h2⟩
 ·obtain⟨tm,h1,h2⟩:=h
  exact⟨tm,h1,fun t y hy=>KR.ren (m:=m) (ρ:=ρ) (h2 t (y.renP ρ) (br.2 ⟨(t,y),hy,rfl⟩)) (hx _ hy) hβ⟩
 ·obtain⟨blk,h1,h2⟩:=h;exact⟨blk,hβ _ _ hx h1,h2⟩
theorem PR.toRen {ρ:Nat→Nat} {β':Nat→Option Nat} (h:PR I β w v x) (hβ:∀ i b,β i=some b→β' (ρ i)=some b):PR I β' w v (x.renP ρ):=by
 cases x<;>simp only[V.renP,PR] at h ⊢<;>try exact h
 ·obtain⟨blk,h1,h2⟩:=h;exact⟨blk,hβ _ _ h1,h2⟩
 ·obtain⟨h0,blk,o',c',zB,h1,h2⟩:=h;exact⟨h0,blk,o',c',zB,hβ _ _ h1,h2⟩
 ·obtain⟨blk,h1,h2⟩:=h;exact⟨blk,hβ _ _ h1,h2⟩
 ·obtain⟨blk,h1,h2⟩:=h;exact⟨blk,hβ _ _ h1,h2⟩
 ·obtain⟨blk,h1,h2⟩:=h;exact⟨blk,hβ _ _ h1,h2⟩
theorem KR.toRen {ρ:Nat→Nat} {β':Nat→Option Nat} (h:KR I β w v x) (hβ:∀ i b,β i=some b→β' (ρ i)=some b):KR I β' w v (x.renP ρ):=by
 rcases h with rfl | ⟨h1,h2⟩ | h
 ·exact .inl rfl
 ·have h3:(x.renP ρ).isAT=true:=by rw[NQ];exact h1
  rw[LX h3];exact .inr (.inl ⟨h1,h2⟩)
 ·exact .inr (.inr (h.toRen hβ))
theorem zI {α γ:Type} {l:List α} {f:α→γ} {j:Nat} {y:γ} (h:(l.map f)[j]?=some y):∃ x,l[j]?=some x∧f x=y:=by simpa using h
theorem LR.toRen {ρ:Nat→Nat} {β':Nat→Option Nat} {ox:Option Nat} (h:LR base I β w ox v x) (hβ:∀ i b,β i=some b→β' (ρ i)=some b):LR base I β' w ox v (x.ren ρ):=by
 cases x<;>simp only[V.ren,LR] at h ⊢<;>try exact h
 ·obtain⟨blk,h1,h2⟩:=h;exact⟨blk,hβ _ _ h1,h2⟩
 ·obtain⟨vf,vc,h1,h2,h3,h4,h5⟩:=h
  refine⟨vf,vc,h1,by rw[am];exact h2,by rw[am];exact h3,fun j x hj=>?_,fun j x hj=>?_⟩
  ·obtain⟨y,hy,rfl⟩:=zI hj;exact(h4 j y hy).toRen hβ
  ·obtain⟨y,hy,rfl⟩:=zI hj;exact(h5 j y hy).toRen hβ
 ·obtain⟨h0,blk,o',c',zB,h1,h2⟩:=h;exact⟨h0,blk,o',c',zB,hβ _ _ h1,h2⟩
 ·obtain⟨cs,h1,h2,h3⟩:=h
  refine⟨cs,h1,by rw[am];exact h2,fun j x hj=>?_⟩
  obtain⟨y,hy,rfl⟩:=zI hj;exact(h3 j y hy).toRen hβ
 ·obtain⟨blk,h1,h2⟩:=h;exact⟨blk,hβ _ _ h1,h2⟩
 ·obtain⟨blk,m,h1,h2,h3,h4⟩:=h;exact⟨blk,m,h1,h2,hβ _ _ h3,h4⟩
 ·obtain⟨blk,h1,h2⟩:=h;exact⟨blk,hβ _ _ h1,h2⟩
 ·obtain⟨tm,h1,h2⟩:=h
  refine⟨tm,h1,fun t y hy=>?_⟩
  obtain⟨⟨t',z⟩,hz,e⟩:=br.1 hy
  cases e
  exact(h2 _ z hz).toRen hβ
 ·obtain⟨blk,h1,h2⟩:=h;exact⟨blk,hβ _ _ h1,h2⟩
theorem LR.wider {base':Nat→Prop} {ox:Option Nat} (h:LR base I β w ox v x) (hb:∀ b,ox=some b→base' b):LR base' I β w ox v x:=by
 cases x<;>simp only[LR] at h ⊢<;>try exact h
 ·obtain⟨h1,h2⟩:=h
  refine⟨h1,?_⟩
  rcases h2 with h2 | ⟨e,blk,cap,cur,sz,q1,q2,q3,q4,q5⟩
  ·exact .inl h2
  ·exact .inr ⟨e,blk,cap,cur,sz,q1,q2,q3,hb _ q1,q5⟩
 ·obtain⟨blk,m,h1,h2,h3⟩:=h;exact⟨blk,m,h1,hb _ h1,h3⟩
 ·obtain⟨h1,h2⟩:=h
  refine⟨h1,?_⟩
  rcases h2 with h2 | ⟨e,blk,cap,cur,sz,q1,q2,q3,q4,q5⟩
  ·exact .inl h2
  ·exact .inr ⟨e,blk,cap,cur,sz,q1,q2,q3,hb _ q1,q5⟩
 ·obtain⟨h1,e,blk,cap,cur,sz,q1,q2,q3,q4,q5⟩:=h
  exact⟨h1,e,blk,cap,cur,sz,q1,q2,q3,hb _ q1,q5⟩
 ·obtain⟨h1,h2⟩:=h
  refine⟨h1,?_⟩
  rcases h2 with h2 | ⟨e,blk,cap,cur,sz,q1,q2,q3,q4,q5⟩
  ·exact .inl h2
  ·exact .inr ⟨e,blk,cap,cur,sz,q1,q2,q3,hb _ q1,q5⟩
 ·rcases h with h2 | ⟨e,blk,cap,cur,sz,q1,q2,q3,q4,q5⟩
  ·exact .inl h2
  ·exact .inr ⟨e,blk,cap,cur,sz,q1,q2,q3,hb _ q1,q5⟩
theorem Ao {ρ:Nat→Nat} (l:List V) (j:Nat):(l.map (V.ren ρ)).getD j .un=(l.getD j .un).ren ρ:=by
 simp only[aB,bb]
 cases l[j]?<;>rfl
theorem GI {ρ:Nat→Nat} (l:List V):oe (l.map (V.ren ρ))=oe l:=by
 unfold oe
 rw[Ao]
 cases l.getD 0 .un<;>rfl
theorem nO {ρ:Nat→Nat}:∀ (bl:List (List V)) (k i:Nat) (b:List V),pV s.bx s.nb ρ k bl→bl[i]?=some b→ρ (k+i)<s.nb∧s.bx (ρ (k+i))=b.map (V.ren ρ)
 |[],_,i,b,_,hb=>by simp at hb
 |c::r,k,0,b,h,hb=>by simp at hb;subst hb;exact h.1
 |c::r,k,i+1,b,h,hb=>by
  have:=nO r (k+1) i b h.2 (by simpa using hb)
  rw[show k+(i+1)=k+1+i by omega];exact this
theorem qd {ρ:Nat→Nat}:∀ (bl:List (List V)) (k:Nat) (f:Nat→List V) (j:Nat),(∀ i,i<bl.length→ρ (k+i)≠j)→fu ρ k bl f j=f j
 |[],_,_,_,_=>rfl
 |b::r,k,f,j,h=>by
  simp only[fu]
  rw[qd r (k+1) _ j (fun i hi=>by rw[show k+1+i=k+(i+1) by omega];exact h (i+1) (by simp;omega))]
  exact dj _ _ (fun e=>h 0 (by simp) e.symm)
theorem Ap {ρ:Nat→Nat}:∀ (bl:List (List V)) (k:Nat) (f:Nat→List V) (i:Nat) (b:List V),bl[i]?=some b→(∀ i j,i<bl.length→j<bl.length→ρ (k+i)=ρ (k+j)→i=j)→
 fu ρ k bl f (ρ (k+i))=b.map (V.ren ρ)
 |[],_,_,i,b,h,_=>by simp at h
 |c::r,k,f,0,b,h,pY=>by
  simp at h;subst h
  simp only[fu]
  rw[qd r (k+1) _ _ (fun i hi e=>by
   have:=pY (i+1) 0 (by simp;omega) (by simp) (by rw[show k+(i+1)=k+1+i by omega];exact e)
   omega)]
  rw[dR];exact cx _ _ _
 |c::r,k,f,i+1,b,h,pY=>by
  simp only[fu]
  rw[show k+(i+1)=k+1+i by omega]
  refine Ap r (k+1) _ i b (by simpa using h) fun i' j' hi hj e=>?_
  have:=pY (i'+1) (j'+1) (by simp;omega) (by simp;omega) (by rw[show k+(i'+1)=k+1+i' by omega,show k+(j'+1)=k+1+j' by omega];exact e)
  omega
theorem ua {ρ:List Nat} {nb:Nat} (hn:ρ.Nodup) (hl:∀ i,i<ρ.length→ρ.getD i 0<nb) (i j:Nat) (h:rho ρ nb i=rho ρ nb j):i=j:=by
 unfold rho at h
 by_cases hi:i<ρ.length<;>by_cases hj:j<ρ.length
 ·rw[if_pos hi,if_pos hj] at h
  simp only[aB,aj hi,aj hj,bU] at h
  exact(List.getElem_inj hn).1 h
 ·rw[if_pos hi,if_neg hj] at h
  have:=hl i hi;omega
 ·rw[if_neg hi,if_pos hj] at h
  have:=hl j hj;omega
 ·rw[if_neg hi,if_neg hj] at h;omega
def Mof (β:Nat→Option Nat) (ob:Loc→Option Nat) (ρ:Nat→Nat) (k:Nat) (b:Nat):Prop:=(∃ q,q<k∧β (ρ q)=some b)∨∃ q j,q<k∧ob (.b (ρ q) j)=some b
def kD (β:Nat→Option Nat) (ρ:Nat→Nat) (k i:Nat):Option Nat:=if i<k then β (ρ i) else none
def obC (ob:Loc→Option Nat) (ρ:Nat→Nat) (k i j:Nat):Option Nat:=if i<k then ob (.b (ρ i) j) else none
theorem nn {ρ:Nat→Nat} {k i b:Nat} (h:kD β ρ k i=some b):i<k∧β (ρ i)=some b:=by
 unfold kD at h;split at h
 ·exact⟨‹_›,h⟩
 ·cases h
theorem wt {ρ:Nat→Nat} {k i j b:Nat} (h:obC ob ρ k i j=some b):i<k∧ob (.b (ρ i) j)=some b:=by
 unfold obC at h;split at h
 ·exact⟨‹_›,h⟩
 ·cases h
theorem St.give (hst:St G n I0 M w0 I β ob s a w) {ρ:Nat→Nat} {b0:List (List V)} (pY:∀ i j,ρ i=ρ j→i=j) (fJ:pV s.bx s.nb ρ 0 b0) (bB:∀ b∈b0,∀ x∈b,x.lt b0.length) :
 BxR (Wr ⟨Mof β ob ρ b0.length,fun _=>none,[]⟩ w) I w (kD β ρ b0.length) (obC ob ρ b0.length) b0 where
 bx:=fun i cs iR=>by
  have hi:i<b0.length:=(ak.1 iR).1
  obtain⟨h1,h2⟩:=nO b0 0 i cs fJ iR
  rw[ah] at h1 h2
  obtain⟨blk,cur,e1,e2,e3,e4,e5,e7⟩:=hst.bx (ρ i) h1
  refine⟨blk,cur,by simp[kD,hi,e1],.inr (.inl ⟨i,hi,e1⟩),e3.congr (by rw[h2,am]) (by rw[h2,GI]),by have:=e4;rw[h2,am] at this;exact this,fun j=>?_,e7⟩
  have:=e5 j
  rw[h2,Ao] at this
  have hx:(cs.getD j .un).lt b0.length:=by
   by_cases hj:j<cs.length
   ·have:cs.getD j .un=cs[j]:=by simp[List.getD,hj]
    rw[this];exact bB cs (bh iR) _ (aF hj)
   ·have:cs.getD j .un=.un:=by simp[List.getD,co (dX hj)]
    rw[this];exact trivial
  have h3:=this.ren (β':=kD β ρ b0.length) hx (fun i b hi hb=>by simp[kD,hi,hb])
  have h4:obC ob ρ b0.length i j=ob (.b (ρ i) j):=by simp[obC,hi]
  rw[h4]
  exact h3.wider fun b hb=>.inr (.inr ⟨i,j,hi,hb⟩)
 bnone:=fun i hi=>by simp[kD,Nat.not_lt.2 hi]
 binj:=fun i j b hi hj=>by
  obtain⟨_,h1⟩:=nn hi
  obtain⟨_,h2⟩:=nn hj
  exact pY _ _ (hst.binj _ _ b h1 h2)
 oinj:=fun i j i' j' b h h'=>by
  obtain⟨_,h1⟩:=wt h
  obtain⟨_,h2⟩:=wt h'
  have:=hst.oinj _ _ b h1 h2
  simp only[Loc.b.injEq] at this
  exact⟨pY _ _ this.1,this.2⟩
 obx:=fun i j b k h hk=>by
  obtain⟨_,h1⟩:=wt h
  obtain⟨_,h2⟩:=nn hk
  exact hst.obx _ b _ h1 h2
 obnd:=fun i j b h=>by
  obtain⟨hi,h1⟩:=wt h
  exact⟨(hst.obnd _ b h1).1,.inr (.inr ⟨i,j,hi,h1⟩)⟩
 olen:=fun i j hi=>by simp[obC,Nat.not_lt.2 hi]
def rm (ρ:List Nat) (nb i:Nat):Option Nat:=if i∈ρ then some (ρ.idxOf i) else if nb≤i then some (i - nb+ρ.length) else none
theorem QO {ρ:List Nat} {nb:Nat} (hn:ρ.Nodup) (hl:∀ i,i<ρ.length→ρ.getD i 0<nb) (q:Nat):rm ρ nb (rho ρ nb q)=some q:=by
 unfold rm rho
 by_cases hq:q<ρ.length
 ·have e:ρ.getD q 0=ρ[q]:=by simp[List.getD,hq]
  rw[if_pos hq,e,if_pos (aF hq),hn.idxOf_getElem]
 ·rw[if_neg hq]
  have:¬ (nb+(q - ρ.length))∈ρ:=fun h=>by
   obtain⟨i,hi,e⟩:=ir.1 h
   have:=hl i hi
   have e':ρ.getD i 0=ρ[i]:=by simp[List.getD,hi]
   omega
  rw[if_neg this,if_pos (by omega)]
  congr 1;omega
theorem nP {ρ:List Nat} {nb i q:Nat} (h:rm ρ nb i=some q):rho ρ nb q=i:=by
 unfold rm at h
 split at h
 ·rename_i hi
  simp only[ao] at h
  subst h
  have bB:=List.idxOf_lt_length_of_mem hi
  unfold rho
  rw[if_pos bB]
  simp[List.getD,aj bB]
 ·split at h
  ·rename_i h1 h2
   simp only[ao] at h
   subst h
   unfold rho
   rw[if_neg (by omega)];omega
  ·cases h
theorem CC {ρ:List Nat} {nb i:Nat} (h:rm ρ nb i=none):i<nb:=by
 unfold rm at h
 split at h
 ·cases h
 ·split at h
  ·cases h
  ·omega
end
section
variable {P:Program} {G:Gl} {tr:List Nat} {n:Nat} {I0:Ft} {M:Mx} {w0:World} {I:Ft} {β:Nat→Option Nat} {ob:Loc→Option Nat} {s:S} {a:Act} {w:World} {o:Oper}
 {next:Act→World→Prop} {Q:Exit→Act→World→Prop} {base:Nat→Prop} {v:Value} {x y:V}
def pg (β β':Nat→Option Nat) (ρ:List Nat) (nb i:Nat):Option Nat:=match rm ρ nb i with
 |some q=>β' q
 |none=>β i
def obN (ob:Loc→Option Nat) (ob':Nat→Nat→Option Nat) (ρ:List Nat) (nb:Nat):Loc→Option Nat
 | .t i=>ob (.t i)
 | .b i j=>match rm ρ nb i with
  |some q=>ob' q j
  |none=>ob (.b i j)
theorem St.called (hst:St G n I0 M w0 I β ob s a w) {ρ:List Nat} {b0 b1:List (List V)} (hρl:ρ.length=b0.length) (hn:ρ.Nodup) (fJ:pV s.bx s.nb (rho ρ s.nb) 0 b0) (fy:b0.length≤b1.length)
 {w':World} {I':Ft} {β':Nat→Option Nat} {ob':Nat→Nat→Option Nat} (ou:BelowM (GT G) ⟨Mof β ob (rho ρ s.nb) b0.length,fun _=>none,[]⟩ w w') (Lv:∀ b o,I b o→I' b o)
 (Jp:∀ b o,I' b o→I b o∨(Wr ⟨Mof β ob (rho ρ s.nb) b0.length,fun _=>none,[]⟩ w b∧b<w'.heap.size)) (sn:∀ b o,I b o→w'.cell? ⟨b,o,none⟩=w.cell? ⟨b,o,none⟩)
 (Qb:∀ i,i<b0.length→β' i=kD β (rho ρ s.nb) b0.length i) (Je:∀ i b,b0.length≤i→β' i=some b→Wr ⟨Mof β ob (rho ρ s.nb) b0.length,fun _=>none,[]⟩ w b)
 (n0:BxR (Wr ⟨Mof β ob (rho ρ s.nb) b0.length,fun _=>none,[]⟩ w) I' w' β' ob' b1) :
 St G n I0 M w0 I' (pg β β' ρ s.nb) (obN ob ob' ρ s.nb) { s with bx:=fu (rho ρ s.nb) 0 b1 s.bx,nb:=s.nb+(b1.length - b0.length) } a w'∧
 (∀ i b,β' i=some b→pg β β' ρ s.nb (rho ρ s.nb i)=some b)∧
 (∀ b,Wr ⟨Mof β ob (rho ρ s.nb) b0.length,fun _=>none,[]⟩ w b→Wr M w0 b)∧
 (∀ b,Wr ⟨Mof β ob (rho ρ s.nb) b0.length,fun _=>none,[]⟩ w b→(∀ i j,ob' i j≠some b)→∀ L,obN ob ob' ρ s.nb L≠some b)∧
 (∀ b,Wr ⟨Mof β ob (rho ρ s.nb) b0.length,fun _=>none,[]⟩ w b→(∀ i,β' i≠some b)→∀ i,pg β β' ρ s.nb i≠some b)∧
 (∀ i b,β i=some b→pg β β' ρ s.nb i=some b):=by
 have hl:∀ i,i<ρ.length→ρ.getD i 0<s.nb:=fun i hi=>by
  obtain⟨b,hb⟩:∃ b,b0[i]?=some b:=⟨_,aj (by omega)⟩
  have:=(nO b0 0 i b fJ hb).1
  rw[ah] at this
  simpa[rho,hi] using this
 have pY:=ua hn hl
 have hir:=QO hn hl
 have tW:∀ b,Wr ⟨Mof β ob (rho ρ s.nb) b0.length,fun _=>none,[]⟩ w b→Wr M w0 b:=fun b hb=>by
  rcases hb with hb | ⟨q,hq,hb⟩ | ⟨q,j,hq,hb⟩
  ·exact .new hst.below hb
  ·exact(hst.boxblk hb).2.1
  ·exact(hst.obnd _ b hb).2
 have notM1:∀ i b,rm ρ s.nb i=none→β i=some b→¬ Wr ⟨Mof β ob (rho ρ s.nb) b0.length,fun _=>none,[]⟩ w b:=fun i b hi hb hw=>by
  rcases hw with hw | ⟨q,hq,h1⟩ | ⟨q,j,hq,h1⟩
  ·have:=(hst.boxblk hb).2.2;omega
  ·have:=hst.binj _ _ b h1 hb
   rw[← this,hir] at hi;cases hi
  ·exact hst.obx _ b i h1 hb
 have notM2:∀ L b,(∀ i j q,L=.b i j→rm ρ s.nb i≠some q)→ob L=some b→¬ Wr ⟨Mof β ob (rho ρ s.nb) b0.length,fun _=>none,[]⟩ w b:=fun L b hL hb hw=>by
  rcases hw with hw | ⟨q,hq,h1⟩ | ⟨q,j,hq,h1⟩
  ·have:=(hst.obnd _ b hb).1;omega
  ·exact hst.obx _ b _ hb h1
  ·have:=hst.oinj _ _ b hb h1
   exact hL _ _ q this (hir q)
 have Z9:∀ i b,β i=some b→pg β β' ρ s.nb i=some b:=fun i b hb=>by
  unfold pg
  cases hi:rm ρ s.nb i with
  |none=>exact hb
  |some q=>
   have e:=nP hi
   have bB:=(hst.boxblk hb).1
   have hq:q<ρ.length:=by
    by_cases hq:q<ρ.length
    ·exact hq
    ·unfold rho at e;rw[if_neg hq] at e;omega
   simp only
   rw[Qb q (by omega)]
   unfold kD
   rw[if_pos (by omega),e];exact hb
 have hI:∀ b o,I b o→I' b o∧w'.cell? ⟨b,o,none⟩=w.cell? ⟨b,o,none⟩:=fun b o hb=>⟨Lv b o hb,sn b o hb⟩
 have li:∀ b,b<w.heap.size→¬ Wr ⟨Mof β ob (rho ρ s.nb) b0.length,fun _=>none,[]⟩ w b→w'.heap[b]?=w.heap[b]?∧∀ o,I' b o→I b o:=fun b hb hw=>
  ⟨ou.block b hb (fun h=>hw (.inr h)),fun o ho=>by
   rcases Jp b o ho with h | h
   ·exact h
   ·exact absurd h.1 hw⟩
 have hbN:∀ i b,pg β β' ρ s.nb i=some b→(∃ q,rm ρ s.nb i=some q∧β' q=some b)∨(rm ρ s.nb i=none∧β i=some b):=fun i b hb=>by
  unfold pg at hb
  cases hi:rm ρ s.nb i with
  |none=>rw[hi] at hb;exact .inr ⟨rfl,hb⟩
  |some q=>rw[hi] at hb;exact .inl ⟨q,rfl,hb⟩
 have hoN:∀ L b,obN ob ob' ρ s.nb L=some b→(∃ i j q,L=.b i j∧rm ρ s.nb i=some q∧ob' q j=some b)∨((∀ i j q,L=.b i j→rm ρ s.nb i≠some q)∧ob L=some b):=fun L b hb=>by
  cases L with
  |t i=>exact .inr ⟨fun i j q h=>(by cases h),hb⟩
  |b i j=>
   simp only[obN] at hb
   cases hi:rm ρ s.nb i with
   |none=>rw[hi] at hb;exact .inr ⟨fun i' j' q h=>(by cases h;rw[hi];simp),hb⟩
   |some q=>rw[hi] at hb;exact .inl ⟨i,j,q,rfl,hi,hb⟩
 have hβw:∀ q b,β' q=some b→Wr ⟨Mof β ob (rho ρ s.nb) b0.length,fun _=>none,[]⟩ w b:=fun q b hb=>by
  by_cases hq:q<b0.length
  ·rw[Qb q hq] at hb
   exact .inr (.inl ⟨q,(nn hb).1,(nn hb).2⟩)
  ·exact Je q b (by omega) hb
 have how:∀ i j b,ob' i j=some b→Wr ⟨Mof β ob (rho ρ s.nb) b0.length,fun _=>none,[]⟩ w b:=fun i j b hb=>(n0.obnd i j b hb).2
 have eJ:∀ i b,β' i=some b→pg β β' ρ s.nb (rho ρ s.nb i)=some b:=fun i b hb=>by
  unfold pg;rw[hir];exact hb
 refine⟨{
  size:=hst.size,defers:=hst.defers
  below:=⟨ou.os.trans hst.below.os,ou.tape.trans hst.below.tape,ou.output.trans hst.below.output,cj hst.below.size ou.size,fun k hk hM=>
   (ou.block k (ce hk hst.below.size) (fun h=>by
    rcases tW k (.inr h) with h1 | h1
    ·omega
    ·exact hM h1)).trans (hst.below.block k hk hM),fun t=>cj (hst.below.drawn t) (ou.drawn t)⟩
  ilow:=fun b o h=>Lv b o (hst.ilow b o h)
  kept:=fun b o h=>(sn b o (hst.ilow b o h)).trans (hst.kept b o h)
  ihigh:=fun b o h=>by
   rcases Jp b o h with h | h
   ·exact hst.ihigh b o h
   ·exact .inr (tW b h.1)
  ibnd:=fun b o h=>by
   rcases Jp b o h with h | h
   ·exact ce (hst.ibnd b o h) ou.size
   ·exact h.2
  fr:=fun t=>(hst.fr t).mono hI Z9 fun b hb=>li b (hst.obnd _ b hb).1 (notM2 (.t t) b (fun i j q h=>by cases h) hb)
  bx:=fun i hi=>by
   simp only at hi
   cases hq:rm ρ s.nb i with
   |some q=>
    have e:=nP hq
    have hqb:q<b1.length:=by
     by_cases h1:q<ρ.length
     ·omega
     ·unfold rho at e;rw[if_neg h1] at e;omega
    obtain⟨blk,cur,e1,e2,e3,e4,e5,e7⟩:=n0.bx q _ (aj hqb)
    have gv:fu (rho ρ s.nb) 0 b1 s.bx i=b1[q].map (V.ren (rho ρ s.nb)):=by
     have:=Ap (ρ:=rho ρ s.nb) b1 0 s.bx q _ (aj hqb) (fun i j _ _ h=>by rw[ah,ah] at h;exact pY i j h)
     rw[ah,e] at this;exact this
    refine⟨blk,cur,by unfold pg;rw[hq];exact e1,tW _ e2,e3.congr (by simp only[gv,am]) (by simp only[gv,GI]),by simp only[gv,am];exact e4,fun j=>?_,e7⟩
    simp only[gv,Ao]
    have:obN ob ob' ρ s.nb (.b i j)=ob' q j:=by simp only[obN,hq]
    rw[this]
    exact((e5 j).toRen eJ).wider fun b hb=>tW b (how q j b hb)
   |none=>
    have bB:=CC hq
    obtain⟨blk,cur,e1,e2,e3,e4,e5,e7⟩:=hst.bx i bB
    have hnw:=notM1 i blk hq e1
    obtain⟨g1,g2⟩:=li blk e3.lt hnw
    have gv:fu (rho ρ s.nb) 0 b1 s.bx i=s.bx i:=qd b1 0 s.bx i fun q _ h=>by
     rw[ah] at h
     rw[← h,hir] at hq;cases hq
    refine⟨blk,cur,Z9 i blk e1,e2,(e3.mono g1).congr (by simp only[gv]) (by simp only[gv]),by simp only[gv];exact e4,fun j=>?_,fun o ho=>e7 o (g2 o ho)⟩
    simp only[gv]
    have:obN ob ob' ρ s.nb (.b i j)=ob (.b i j):=by simp only[obN,hq]
    rw[this]
    exact(e5 j).mono hI Z9 fun b hb=>li b (hst.obnd _ b hb).1 (notM2 (.b i j) b (fun i' j' q h=>by cases h;rw[hq];simp) hb)
  bnone:=fun i hi=>by
   simp only at hi
   unfold pg
   cases hq:rm ρ s.nb i with
   |some q=>
    have e:=nP hq
    refine n0.bnone q ?_
    by_cases h1:q<ρ.length
    ·unfold rho at e;rw[if_pos h1] at e;have:=hl q h1;omega
    ·unfold rho at e;rw[if_neg h1] at e;omega
   |none=>have:=CC hq;omega
  ext:=fun i b he=>Z9 i b (hst.ext i b he)
  bnew:=fun i b hi=>by
   rcases hbN i b hi with⟨q,h1,h2⟩ | ⟨h1,h2⟩
   ·by_cases hq:q<b0.length
    ·rw[Qb q hq] at h2
     have:=hst.bnew _ b (nn h2).2
     rw[nP h1] at this;exact this
    ·exact .inr (tW b (Je q b (by omega) h2))
   ·exact hst.bnew i b h2
  binj:=fun i j b hi hj=>by
   rcases hbN i b hi with⟨q,h1,h2⟩ | ⟨h1,h2⟩<;>rcases hbN j b hj with⟨p,h3,h4⟩ | ⟨h3,h4⟩
   ·have:=n0.binj q p b h2 h4
    rw[← nP h1,← nP h3,this]
   ·exact absurd (hβw q b h2) (notM1 j b h3 h4)
   ·exact absurd (hβw p b h4) (notM1 i b h1 h2)
   ·exact hst.binj i j b h2 h4
  oinj:=fun L L' b hL xH=>by
   rcases hoN L b hL with⟨i,j,q,rfl,h1,h2⟩ | ⟨h1,h2⟩<;>rcases hoN L' b xH with⟨i',j',q',rfl,h3,h4⟩ | ⟨h3,h4⟩
   ·obtain⟨e1,e2⟩:=n0.oinj q j q' j' b h2 h4
    rw[← nP h1,← nP h3,e1,e2]
   ·exact absurd (how q j b h2) (notM2 L' b h3 h4)
   ·exact absurd (how q' j' b h4) (notM2 L b h1 h2)
   ·exact hst.oinj L L' b h2 h4
  obx:=fun L b i hL hi=>by
   rcases hoN L b hL with⟨i',j,q,rfl,h1,h2⟩ | ⟨h1,h2⟩<;>rcases hbN i b hi with⟨p,h3,h4⟩ | ⟨h3,h4⟩
   ·exact n0.obx q j b p h2 h4
   ·exact absurd (how q j b h2) (notM1 i b h3 h4)
   ·exact absurd (hβw p b h4) (notM2 L b h1 h2)
   ·exact hst.obx L b i h2 h4
  obnd:=fun L b hL=>by
   rcases hoN L b hL with⟨i',j,q,rfl,h1,h2⟩ | ⟨h1,h2⟩
   ·exact⟨(n0.obnd q j b h2).1,tW b (how q j b h2)⟩
   ·exact⟨ce (hst.obnd L b h2).1 ou.size,(hst.obnd L b h2).2⟩
  glob:=fun g cs hg=>(hst.glob g cs hg).mono hI },eJ,tW,fun b hw fm L hL=>by
  rcases hoN L b hL with⟨i',j,q,rfl,h1,h2⟩ | ⟨h1,h2⟩
  ·exact fm q j h2
  ·exact notM2 L b h1 h2 hw,fun b hw fm i hi=>by
  rcases hbN i b hi with⟨q,h1,h2⟩ | ⟨h1,h2⟩
  ·exact fm q h2
  ·exact notM1 i b h1 h2 hw,Z9⟩
end
section
variable {P:Program} {G:Gl} {tr:List Nat} {n:Nat} {I0:Ft} {M:Mx} {w0:World} {I:Ft} {β:Nat→Option Nat} {ob:Loc→Option Nat} {s:S} {a:Act} {w:World} {o:Oper}
 {next:Act→World→Prop} {Q:Exit→Act→World→Prop} {base:Nat→Prop} {v:Value} {x y:V}
def ArgsL (base:Nat→Prop) (I:Ft) (β:Nat→Option Nat) (w:World) (vs:List Value) (xs:List V):Prop:=vs.length=xs.length∧∀ (j:Nat) (x:V),xs[j]?=some x→LR base I β w none (vs.getD j undef) x.fz
theorem ArgsL.append {vs us:List Value} {xs ys:List V} (h:ArgsL base I β w vs xs) (h':ArgsL base I β w us ys):ArgsL base I β w (vs++us) (xs++ys):=by
 refine⟨by simp[h.1,h'.1],fun j x hx=>?_⟩
 have hl:=h.1
 by_cases hj:j<xs.length
 ·rw[aG hj] at hx
  have:=h.2 j x hx
  rw[aB,aG (by omega)]
  rw[aB] at this
  exact this
 ·rw[aK (by omega)] at hx
  have:=h'.2 _ x hx
  rw[aB,aK (by omega),hl]
  rw[aB] at this
  exact this
theorem ml (hst:St G n I0 M w0 I β ob s a w):∀ l:List Operand,ArgsL (Wr M w0) I β w (l.map a.eval) (l.map (ev G s))
 |[]=>⟨rfl,by simp⟩
 |x::l=>by
  have ih:=ml hst l
  refine⟨by simp,fun j z hz=>?_⟩
  cases j with
  |zero=>simp at hz;subst hz;exact we hst x
  |succ j=>simpa using ih.2 j z (by simpa using hz)
theorem xU (hst:St G n I0 M w0 I β ob s a w):∀ l:List Operand,ArgsL (Wr M w0) I β w (l.map a.eval) (l.map (evX G s))
 |[]=>⟨rfl,by simp⟩
 |x::l=>by
  have ih:=xU hst l
  refine⟨by simp,fun j z hz=>?_⟩
  cases j with
  |zero=>
   simp at hz;subst hz
   unfold evX
   split
   ·exact .ofC (.ex _ rfl rfl)
   ·exact we hst x
  |succ j=>simpa using ih.2 j z (by simpa using hz)
theorem nA (vs:Array Value) (cs:List C) (h:vs.size=cs.length) (hc:∀ j c,cs[j]?=some c→CR I w (vs.getD j undef) c):ArgsL base I β w vs.toList (cs.map .c):=by
 refine⟨by simp[h],fun j x hx=>?_⟩
 obtain⟨c,h1,rfl⟩:=zI hx
 have:=hc j c h1
 rw[aB,aV]
 rw[ap] at this
 exact .ofC this
theorem nB (vs:Array Value) (xs:List V) (h:vs.size=xs.length) (hc:∀ j x,xs[j]?=some x→PR I β w (vs.getD j undef) x):ArgsL base I β w vs.toList xs:=by
 refine⟨by simp[h],fun j x hx=>?_⟩
 have:=hc j x hx
 rw[aB,aV]
 rw[ap] at this
 exact(PR.toLR this).fz none
theorem GK (hst:St G n I0 M w0 I β ob s a w) (hd:∀ d,o.dst=some d→d<n) {f:FuncId} {vs:List Value} {all:List V} {ρ:List Nat} {cargs:List V} {b0 b1:List (List V)} {r:V}
 (dC:FnB P G f cargs b0 r b1) (cD:ArgsL (Wr M w0) I β w vs all) (dh:all.map V.fz=cargs.map (V.ren (rho ρ s.nb))) (hρ:ρ.length=b0.length∧ρ.Nodup) (fJ:pV s.bx s.nb (rho ρ s.nb) 0 b0)
 (bA:(execOp a.eval o).run P w=.ok (.enter f vs.toArray) w)
 (hk:∀ a' w',SE G n I0 M w0 (({ s with bx:=fu (rho ρ s.nb) 0 b1 s.bx,nb:=s.nb+(b1.length - b0.length) }:S).put o.dst (r.ren (rho ρ s.nb))) a' w'→next a' w'):o.wp P a w next Q:=by
 unfold Oper.wp
 rw[bA]
 simp only[Oper.upon]
 obtain⟨hρl,hn⟩:=hρ
 obtain⟨BO,m4,fy⟩:=dC.2.1
 have hl:∀ i,i<ρ.length→ρ.getD i 0<s.nb:=fun i hi=>by
  obtain⟨b,hb⟩:∃ b,b0[i]?=some b:=⟨_,aj (by omega)⟩
  have:=(nO b0 0 i b fJ hb).1
  rw[ah] at this
  simpa[rho,hi] using this
 have pY:=ua hn hl
 have cu:all.length=cargs.length:=by simpa using iY List.length dh
 refine (dC.2.2 I ⟨Mof β ob (rho ρ s.nb) b0.length,fun _=>none,[]⟩ w vs.toArray (kD β (rho ρ s.nb) b0.length) (obC ob (rho ρ s.nb) b0.length) hst.ibnd hst.glob (hst.give pY fJ m4)
  (by have:=cD.1;simp;omega) (fun j x hx=>?_)).mono ?_
 ·have hj:j<cargs.length:=(ak.1 hx).1
  have hz:all[j]?=some all[j]:=aj (by omega)
  have h1:=cD.2 j _ hz
  have h2:all[j].fz=x.ren (rho ρ s.nb):=by
   have e1:(all.map V.fz)[j]?=some all[j].fz:=by simp[hz]
   have e2:(cargs.map (V.ren (rho ρ s.nb)))[j]?=some (x.ren (rho ρ s.nb)):=by simp[hx]
   rw[dh,e2] at e1
   exact(cN e1).symm
  rw[h2] at h1
  have h3:=h1.ren (β':=kD β (rho ρ s.nb) b0.length) (BO x (bh hx)) (fun i b hi hb=>by simp[kD,hi,hb])
  have h4:=h3.wider (base':=Wr ⟨Mof β ob (rho ρ s.nb) b0.length,fun _=>none,[]⟩ w) fun b hb=>by cases hb
  simpa using h4
 ·rintro e w' ⟨v,I',β',ob',o',rfl,ou,Lv,Jp,sn,Qb,Je,n0,im,jn⟩
  simp only
  obtain⟨bL,eJ,tW,fm,v6,_⟩:=hst.called hρl hn fJ fy ou Lv Jp sn Qb Je n0
  refine hk _ _ ?_
  have Vz:LR (Wr M w0) I' (pg β β' ρ s.nb) w' o' v (r.ren (rho ρ s.nb)):=(im.toRen eJ).wider fun b hb=>tW b (jn b hb).1.2
  cases lh:o.dst with
  |none=>exact⟨_,_,_,bL⟩
  |some d=>
   refine⟨_,_,_,bL.put d (hd d lh) Vz fun b hb=>?_⟩
   obtain⟨⟨h1,h2⟩,h3,h4⟩:=jn b hb
   refine⟨⟨h1,tW b h2⟩,fun L hL=>?_,v6 b h2 h4⟩
   simp only[upL] at hL
   split at hL
   ·cases hL
   ·exact fm b h2 h3 L hL
theorem rq {K:S→V→Prop} {f:Operand} {args:Array Operand} {ts:Array TypeId} (ho:o.op=.call { callee:=.value f,args:=args,argTypes:=ts }) (hst:St G n I0 M w0 I β ob s a w)
 (hd:∀ d,o.dst=some d→d<n) (h:vcallB P G s (ev G s f) (args.toList.map (ev G s)) K) (hk:∀ a' w' s' x,K s' x→SE G n I0 M w0 (s'.put o.dst x) a' w'→next a' w'):o.wp P a w next Q:=by
 have hf:=bF hst f
 unfold vcallB j4 at h
 split at h
 ·rename_i g all lj
  obtain⟨ρ,cargs,b0,r,b1,dC,dh,hρ,fJ,hK⟩:=h
  obtain⟨fn,h1,h2,c,h3⟩:=dC.1
  unfold eI at lj
  split at lj
  ·rename_i g' fs cs he
   simp only[ao,dU] at lj
   obtain⟨rfl,rfl⟩:=lj
   rw[he] at hf
   obtain⟨vf,vc,hv,q1,q2,q3,q4⟩:=hf.toC.fn_inv
   have bA:=lU (P:=P) (w:=w) ho hv h1 h2 h3
   refine GK hst hd dC (vs:=vf.toList++args.toList.map a.eval++vc.toList) (((nA vf fs q1 q3).append (ml hst _)).append (nA vc cs q2 q4)) dh hρ fJ ?_ (fun a' w'=>hk a' w' _ _ hK)
   rw[bA];congr 2;apply cT;simp
  ·rename_i g' fs cs he
   simp only[ao,dU] at lj
   obtain⟨rfl,rfl⟩:=lj
   rw[he] at hf
   simp only[LR] at hf
   obtain⟨vf,vc,hv,q1,q2,q3,q4⟩:=hf
   have bA:=lU (P:=P) (w:=w) ho hv h1 h2 h3
   refine GK hst hd dC (vs:=vf.toList++args.toList.map a.eval++vc.toList) (((nB vf fs q1 q3).append (ml hst _)).append (nB vc cs q2 q4)) dh hρ fJ ?_ (fun a' w'=>hk a' w' _ _ hK)
   rw[bA];congr 2;apply cT;simp
  ·cases lj
 ·exact h.elim
theorem GL (hst:St G n I0 M w0 I β ob s a w) (hd:∀ d,o.dst=some d→d<n) {f:FuncId} {vs:List Value} {all:List V} {ρ:List Nat} {cargs:List V} {b0:List (List V)} {R:V→List (List V)→Prop}
 (dC:FnE P G f cargs b0 R) (cD:ArgsL (Wr M w0) I β w vs all) (dh:all.map V.fz=cargs.map (V.ren (rho ρ s.nb))) (hρ:ρ.length=b0.length∧ρ.Nodup) (fJ:pV s.bx s.nb (rho ρ s.nb) 0 b0)
 (bA:(execOp a.eval o).run P w=.ok (.enter f vs.toArray) w)
 (hk:∀ r b1,R r b1→∀ a' w',SE G n I0 M w0 (({ s with bx:=fu (rho ρ s.nb) 0 b1 s.bx,nb:=s.nb+(b1.length - b0.length) }:S).put o.dst (r.ren (rho ρ s.nb))) a' w'→next a' w'):o.wp P a w next Q:=by
 unfold Oper.wp
 rw[bA]
 simp only[Oper.upon]
 obtain⟨hρl,hn⟩:=hρ
 obtain⟨BO,m4,fy⟩:=dC.2.1
 have hl:∀ i,i<ρ.length→ρ.getD i 0<s.nb:=fun i hi=>by
  obtain⟨b,hb⟩:∃ b,b0[i]?=some b:=⟨_,aj (by omega)⟩
  have:=(nO b0 0 i b fJ hb).1
  rw[ah] at this
  simpa[rho,hi] using this
 have pY:=ua hn hl
 have cu:all.length=cargs.length:=by simpa using iY List.length dh
 refine (dC.2.2 I ⟨Mof β ob (rho ρ s.nb) b0.length,fun _=>none,[]⟩ w vs.toArray (kD β (rho ρ s.nb) b0.length) (obC ob (rho ρ s.nb) b0.length) hst.ibnd hst.glob (hst.give pY fJ m4)
  (by have:=cD.1;simp;omega) (fun j x hx=>?_)).mono ?_
 ·have hj:j<cargs.length:=(ak.1 hx).1
  have hz:all[j]?=some all[j]:=aj (by omega)
  have h1:=cD.2 j _ hz
  have h2:all[j].fz=x.ren (rho ρ s.nb):=by
   have e1:(all.map V.fz)[j]?=some all[j].fz:=by simp[hz]
   have e2:(cargs.map (V.ren (rho ρ s.nb)))[j]?=some (x.ren (rho ρ s.nb)):=by simp[hx]
   rw[dh,e2] at e1
   exact(cN e1).symm
  rw[h2] at h1
  have h3:=h1.ren (β':=kD β (rho ρ s.nb) b0.length) (BO x (bh hx)) (fun i b hi hb=>by simp[kD,hi,hb])
  have h4:=h3.wider (base':=Wr ⟨Mof β ob (rho ρ s.nb) b0.length,fun _=>none,[]⟩ w) fun b hb=>by cases hb
  simpa using h4
 ·rintro e w' ⟨r,b1,hR,v,I',β',ob',o',rfl,ou,Lv,Jp,sn,Qb,Je,n0,im,jn⟩
  simp only
  obtain⟨bL,eJ,tW,fm,v6,_⟩:=hst.called hρl hn fJ (fy r b1 hR) ou Lv Jp sn Qb Je n0
  refine hk r b1 hR _ _ ?_
  have Vz:LR (Wr M w0) I' (pg β β' ρ s.nb) w' o' v (r.ren (rho ρ s.nb)):=(im.toRen eJ).wider fun b hb=>tW b (jn b hb).1.2
  cases lh:o.dst with
  |none=>exact⟨_,_,_,bL⟩
  |some d=>
   refine⟨_,_,_,bL.put d (hd d lh) Vz fun b hb=>?_⟩
   obtain⟨⟨h1,h2⟩,h3,h4⟩:=jn b hb
   refine⟨⟨h1,tW b h2⟩,fun L hL=>?_,v6 b h2 h4⟩
   simp only[upL] at hL
   split at hL
   ·cases hL
   ·exact fm b h2 h3 L hL
theorem Ex {K:S→V→Prop} {f:Operand} {args:Array Operand} {ts:Array TypeId} (ho:o.op=.call { callee:=.value f,args:=args,argTypes:=ts }) (hst:St G n I0 M w0 I β ob s a w)
 (hd:∀ d,o.dst=some d→d<n) (h:og P G s (ev G s f) (args.toList.map (evX G s)) K) (hk:∀ a' w' s' x,K s' x→SE G n I0 M w0 (s'.put o.dst x) a' w'→next a' w'):o.wp P a w next Q:=by
 have hf:=bF hst f
 unfold og at h
 split at h
 ·rename_i g all lj
  obtain⟨ρ,cargs,b0,R,dC,dh,hρ,fJ,hK⟩:=h
  obtain⟨fn,h1,h2,c,h3⟩:=dC.1
  unfold eI at lj
  split at lj
  ·rename_i g' fs cs he
   simp only[ao,dU] at lj
   obtain⟨rfl,rfl⟩:=lj
   rw[he] at hf
   obtain⟨vf,vc,hv,q1,q2,q3,q4⟩:=hf.toC.fn_inv
   have bA:=lU (P:=P) (w:=w) ho hv h1 h2 h3
   refine GL hst hd dC (vs:=vf.toList++args.toList.map a.eval++vc.toList) (((nA vf fs q1 q3).append (xU hst _)).append (nA vc cs q2 q4)) dh hρ fJ ?_ (fun r b1 hR a' w'=>hk a' w' _ _ (hK r b1 hR))
   rw[bA];congr 2;apply cT;simp
  ·rename_i g' fs cs he
   simp only[ao,dU] at lj
   obtain⟨rfl,rfl⟩:=lj
   rw[he] at hf
   simp only[LR] at hf
   obtain⟨vf,vc,hv,q1,q2,q3,q4⟩:=hf
   have bA:=lU (P:=P) (w:=w) ho hv h1 h2 h3
   refine GL hst hd dC (vs:=vf.toList++args.toList.map a.eval++vc.toList) (((nB vf fs q1 q3).append (xU hst _)).append (nB vc cs q2 q4)) dh hρ fJ ?_ (fun r b1 hR a' w'=>hk a' w' _ _ (hK r b1 hR))
   rw[bA];congr 2;apply cT;simp
  ·cases lj
 ·exact h.elim
end
def FW (l:Option Nat):Fence:={ Fence.wide with round:=l }
section
variable {P:Program} {n:Nat} {l:Option Nat} {a:Act} {w:World} {o:Oper} {next:Act→World→Prop} {Q:Exit→Act→World→Prop}
theorem pj {f:FuncId} {args:Array Value} {R:Ending→World→Prop}:CallsIn (FW l) n P f args w R↔Calls P f args w R:=callsIn_wide (n:=n)
theorem NR {row:String} {args:Array Value} {R:Value→World→Prop} (h:Rows P row args w R):RowsIn (FW l) n P row args w R:=
 fun c cs _=>let⟨v,w',h1,h2⟩:=h c cs;⟨v,w',h1,stepsIn_wide.2 h2⟩
theorem JH {k:Nat} {r:Nat} {f:FuncId} {tmps:Array Value} {assign body:Code} {R:Ending→World→Prop} (h:RoundIn Fence.wide k P r f tmps assign body w R):RoundIn (FW l) n P r f tmps assign body w R:=
 ⟨trivial,fun c cs _=>h.2 c cs (room_wide _)⟩
theorem Aq (pU:∀ c,o.op≠.defer c) (h:o.wp P a w next Q):o.wpIn (FW l) n P a w next Q:=by
 refine⟨fun _ _=>trivial,?_⟩
 rw[Oper.semAt_eq _ _ _ pU]
 unfold Oper.wp at h
 have hd:(FW l).depth.isSome=true→1≤n:=fun h=>by cases h
 generalize (execOp a.eval o).run P w=r at *
 cases r with
 |ok x w'=>
  cases x<;>simp only[Oper.upon,Oper.uponIn] at h ⊢<;>first
   |exact h
   |exact⟨hd,pj.2 h⟩
   |exact⟨hd,NR h⟩
   |exact h.elim
 |halt x w'=>cases x<;>simp only[Oper.upon,Oper.uponIn] at h ⊢<;>exact h
def Ar (ops:Array Oper):Bool:=ops.toList.all fun o=>match o.op with | .defer _=>false | _=>true
theorem JI {ops:Array Oper} (h:Ar ops=true) (ho:o∈ops.toList):∀ c,o.op≠.defer c:=fun c hc=>by
 have:=aU.1 h o ho
 rw[hc] at this;cases this
theorem V9 {ops:Array Oper} (pU:Ar ops=true) (hQ:¬ LetsOut Q) {i:Nat} {K K':Act→World→Prop} (hK:∀ a w,K a w→K' a w) (h:wpOp P ops Q i K a w):wpOpIn (FW l) n P ops Q i K' a w:=by
 unfold wpOp at h
 unfold wpOpIn
 split
 ·rename_i ho;rw[ho] at h;exact hK _ _ h
 ·rename_i o ho
  rw[ho] at h
  have hm:o∈ops.toList:=by have:=dz ho;simpa using this
  simp only at h
  split
  ·rename_i hw
   rw[if_pos hw] at h
   rcases h with h | h
   ·exact Aq (JI pU hm) (Oper.wp_mono hK h)
   ·exact absurd h.2 hQ
  ·rename_i hw
   rw[if_neg hw] at h
   exact⟨fun _ _=>trivial,hK _ _ h⟩
theorem wu {ops:Array Oper} {md:Region.Mode} (pU:Ar ops=true) (hQ:¬ LetsOut Q):∀ (fuel:Nat) (listed:Array Bool) (a:Act) (w:World),wpAny P md ops Q fuel listed a w→wpAnyIn (FW l) n P md ops Q fuel listed a w
 |0,_,_,_,h=>h
 |fuel+1,_,_,_,h=>⟨h.1,fun i hi=>V9 pU hQ (fun a w h=>wu pU hQ fuel _ a w h) (h.2 i hi)⟩
section
variable {b:Frame} {k:List Item} {cs:List Frame}
theorem mn {c:Code}:step P (lone (b.atR a (.code (.scope c)::k)) cs w)=.next (lone (b.atR a (.code c::.inScope c::k)) cs w):=
 step_lone_go (by simp[stepG,stepG.exec,Frame.atR])
theorem B8 {c:Code}:step P (lone (b.atR a (.inScope c::k)) cs w)=.next (lone (b.atR a k) cs w):=
 step_lone_go (by simp[stepG,stepG.exec,Frame.atR])
end
theorem uJ {c:Code} (h:c.wpIn (FW l) n P (Exit.noGoto Q) a w):(Code.scope c).wpIn (FW l) n P Q a w:=by
 intro b k cs Nv hb hr
 have h0:(lone (b.atR a (.code (.scope c)::k)) cs w).fenced P (FW l):=fenced_calm hb hr rfl
 obtain⟨e,a₁,w₁,hq,Qd⟩:=h b (.inScope c::k) cs Nv hb hr
 cases e with
 |normal=>exact⟨.normal,a₁,w₁,hq,.head h0 mn (StepsIn.trans Qd (.one (fenced_calm hb hr rfl) B8))⟩
 |exit id=>
  have hx:exitTo id (.inScope c::k)=exitTo id k:=by simp[exitTo]
  exact⟨.exit id,a₁,w₁,hq,fun k' hk=>.head h0 mn (Qd.1 k' (by rw[hx];exact hk)),
   fun hr' hk=>let⟨k₁,h1,h2⟩:=Qd.2 hr' (by rw[hx];exact hk);⟨k₁,h1,.head h0 mn h2⟩⟩
 |goto l=>exact hq.elim
 |ret=>exact⟨_,a₁,w₁,hq,.of_steps (.one h0 mn) Qd⟩
 |panic ch=>exact⟨_,a₁,w₁,hq,.of_steps (.one h0 mn) Qd⟩
 |outgrown=>exact⟨_,a₁,w₁,hq,.of_steps (.one h0 mn) Qd⟩
end
section
variable {P:Program} {G:Gl} {tr:List Nat} {n:Nat} {I0:Ft} {M:Mx} {w0:World} {I:Ft} {β:Nat→Option Nat} {ob:Loc→Option Nat} {s:S} {a:Act} {w:World} {o:Oper}
 {next:Act→World→Prop} {Q:Exit→Act→World→Prop} {base:Nat→Prop} {v:Value} {x y:V}
theorem SE.put (h:St G n I0 M w0 I β ob s a w) {dst:Option Tmp} (hd:∀ d,dst=some d→d<n) (hv:LR (Wr M w0) I β w none v x):SE G n I0 M w0 (s.put dst x) (a.put dst v) w:=by
 cases dst with
 |none=>exact⟨_,_,_,h⟩
 |some d=>exact⟨_,_,_,h.put d (hd d rfl) hv FreeOb.nothing⟩
theorem QP {u:Value} {c:C} (h:zc u=some c):LR base I β w none u (nH c):=by
 unfold zc at h
 split at h
 ·simp only[ao] at h;subst h
  exact⟨.nil none 0 (fun _=>rfl),.inl ⟨rfl,rfl,none,rfl⟩⟩
 ·split at h
  ·simp only[ao] at h;subst h
   exact .ofLit ‹_›
  ·cases h
theorem St.newCells (hst:St G n I0 M w0 I β ob s a w) (e:TypeId) {cells:Array Value} {cs:List C} (hc:Cells I w cells cs) :
 St G n I0 M w0 I (up β s.nb (some w.heap.size)) (fun L=>match L with | .b i j=>if i=s.nb then none else ob (.b i j) | L=>ob L)
  { s with bx:=up s.bx s.nb (cs.map .c),nb:=s.nb+1 } a (w.alloc (.cells cells e)):=
 hst.newBox (cur:=cells) (T:=.of e) (cs:=cs.map .c) (od:=fun _=>none) (dE (by simpa using hc.1.symm)) RT.of_ok (fun q=>by
  by_cases hq:q<cs.length
  ·have e2:(cs.map V.c).getD q .un=.c cs[q]:=by simp[List.getD,hq]
   rw[e2];exact .ofC (hc.2 q _ (aj hq))
  ·have e2:(cs.map V.c).getD q .un=.un:=by simp[List.getD,co (dX hq)]
   rw[e2];simp only[LR];exact .un _) (fun u hu=>by
  obtain⟨q,hq,rfl⟩:=fB.1 hu
  have pa:q<cs.length:=by rw[← hc.1];exact hq
  have:=(hc.2 q _ (aj pa)).oneCell
  simpa[aA hq,hq] using this) (fun _ _ h=>by cases h) (fun _ _ _ h=>by cases h) (by cases cs<;>rfl)
theorem St.newPre (hst:St G n I0 M w0 I β ob s a w) (e:TypeId) {cells:Array Value} {cs:List C} (dZ:cs.length≤cells.size) (jm:∀ q c,cs[q]?=some c→CR I w (cells.getD q undef) c)
 (jk:∀ u∈cells,u.oneCell'=true) :
 St G n I0 M w0 I (up β s.nb (some w.heap.size)) (fun L=>match L with | .b i j=>if i=s.nb then none else ob (.b i j) | L=>ob L)
  { s with bx:=up s.bx s.nb (cs.map .c),nb:=s.nb+1 } a (w.alloc (.cells cells e)):=
 hst.newBox (cur:=cells) (T:=.of e) (cs:=cs.map .c) (od:=fun _=>none) (by simpa using dZ) RT.of_ok (fun q=>by
  by_cases hq:q<cs.length
  ·have e2:(cs.map V.c).getD q .un=.c cs[q]:=by simp[List.getD,hq]
   rw[e2];exact .ofC (jm q _ (aj hq))
  ·have e2:(cs.map V.c).getD q .un=.un:=by simp[List.getD,co (dX hq)]
   rw[e2];simp only[LR];exact .un _) jk (fun _ _ h=>by cases h) (fun _ _ _ h=>by cases h) (by cases cs<;>rfl)
theorem JJ {K:S→Prop} {T:TypeId} {p X:Operand} {i:TI} {blk j b k len cap q:Nat} {E:TypeId} {es:List (List C)} {cs:List C} (hst:St G n I0 M w0 I β ob s a w) (hd:∀ d,o.dst=some d→d<n) (cm:o.op=.store T p X) (hi:ti P T=some i) (hp:ev G s p=.c (.ex (.pointer (some ⟨blk,j,none⟩))))
 (hb:b<s.nb) (jl:dc (s.bx b)=false) (VB:(s.bx b)[k]?=some (.gg (.slice (some ⟨blk,0,none⟩) len cap) (some (E,i.size)) es)) (iR:(ev G s X).cs=some cs) (m9:cs.length=i.size) (hpz:0<i.size) (hq:q<es.length) (hj:q*i.size=j)
 (h:K ((let s':=s.use (bV tr o);{ s' with bx:=up s.bx b ((s.bx b).set k (.gg (.slice (some ⟨blk,0,none⟩) len cap) (some (E,i.size)) (es.set q cs))) }:S).put o.dst .sk))
 (hk:∀ a' w' s',K s'→SE G n I0 M w0 s' a' w'→next a' w'):o.wp P a w next Q:=by
 obtain⟨j',d,Nw,Jc,_,dZ,_,lH,_⟩:=bw hi
 obtain⟨ob',h1,h2⟩:=hst.use (bV tr o)
 have n0:(s.use (bV tr o)).bx=s.bx∧(s.use (bV tr o)).nb=s.nb:=by
  cases bV tr o with
  |none=>exact⟨rfl,rfl⟩
  |some t=>simp only[S.use];split<;>exact⟨rfl,rfl⟩
 have YZ:=bF hst p
 rw[hp] at YZ
 have hpe:=YZ.toC.ex_inv
 have uC:=QE (bF hst X) iR
 obtain⟨cur,⟨g1,g2,g3,g4,g5,g6,g7⟩,gv⟩:=h1.ggSet (b:=b) (k:=k) (by rw[n0.2];exact hb) (by rw[n0.1];exact VB)
 have m8:=bD es g5
 have tV:(a.eval X).cells.toList.length=i.size:=by rw[bN,uC.1,m9]
 have Lz:cur.toList.length=cur.size:=bN
 have fy:=aS i.size (show q+1≤cap by omega)
 have Ly:=aS i.size (show q+1≤es.length from hq)
 rw[cU,Nat.one_mul,← g3,hj] at fy
 rw[cU,Nat.one_mul,hj] at Ly
 have aac:RelL I w (a.eval X).cells.toList cs:=fun q c hq=>by
  have:=uC.2 q c hq
  have pa:q<(a.eval X).cells.size:=by rw[uC.1];exact(ak.1 hq).1
  refine⟨(a.eval X).cells[q],by rw[aV,aA pa],?_⟩
  rw[ap,aA pa] at this
  exact this
 have aad:∀ u∈(a.eval X).cells.toList,u.oneCell'=true:=fun u hu=>by
  obtain⟨q,hq⟩:=List.mem_iff_getElem?.1 hu
  have pa:q<cs.length:=by rw[m9,← tV];exact(ak.1 hq).1
  obtain⟨u',Cp,jm⟩:=aac q _ (aj pa)
  rw[hq] at Cp;cases Cp
  exact jm.oneCell
 have xE:RelL I w cur.toList es.flatten:=fun q c hq=>by
  have pa:=(ak.1 hq).1
  rw[m8] at pa
  have:=aS i.size g4
  refine⟨cur.getD q undef,?_,g6 q c hq⟩
  rw[aV,ap,aA (show q<cur.size by omega)];rfl
 have bA:(Instr.storeAt T (a.eval p) (a.eval X)).run P w=.ok () (w.setRow blk (cur.toList.take j++(a.eval X).cells.toList++cur.toList.drop (j+i.size)).toArray):=by
  rw[hpe]
  simp only[Instr.storeAt,Instr.sureAddr,aJ,bi,aw]
  unfold storeVar
  simp only[aJ,eR w Nw,aw]
  rw[if_neg (by rw[eB Nw,← dZ,uC.1,m9];simp)]
  have:=fL (P:=P) blk j (.of E) (a.eval X).cells.toList 0 cur w g2 RT.of_ok (by rw[tV];omega) aad
  rw[tV] at this
  simpa using this
 have mg:=gv (es.set q cs) (cur.toList.take j++(a.eval X).cells.toList++cur.toList.drop (j+i.size)) (by simp) (fun x hx=>by
  rcases List.mem_or_eq_of_mem_set hx with hx | rfl
  ·exact g5 x hx
  ·exact m9)
  (by rw[ax,ax,tV,a8,di,Lz,cv (by omega)];omega)
  (fun u hu=>by
   rcases aZ.1 hu with hu | hu
   ·rcases aZ.1 hu with hu | hu
    ·exact g7 u (cH.1 (cJ hu))
    ·exact aad u hu
   ·exact g7 u (cH.1 (cM hu)))
  (by
   rw[Eu g5 hq,hj]
   refine RelL.append (RelL.append (xE.take _) aac ?_) (xE.drop _) ?_
   ·rw[a8,a8,Lz,m8,cv (by omega),cv (by omega)]
   ·rw[ax,ax,tV,m9,a8,a8,Lz,m8,cv (by omega),cv (by omega)])
 unfold Oper.wp
 obtain⟨dst,op,type,pos,after,guard⟩:=o
 simp only at cm;subst cm
 simp only[execOp,aJ,bA,aw,bi,Oper.upon]
 rw[n0.1] at mg
 have LA:=SE.put (v:=undef) (x:=.sk) mg hd (by simp only[LR];exact .sk)
 exact hk _ _ _ h LA
theorem As {ρ:Nat→Nat}:∀ (b:List (List V)) (i:Nat) (bx:Nat→List V) (nb:Nat),pV bx nb ρ i b→fu ρ i b bx=bx
 |[],_,_,_,_=>rfl
 |x::r,i,bx,nb,h=>by
  have e:up bx (ρ i) (x.map (V.ren ρ))=bx:=by rw[← h.1.2,pZ]
  show fu ρ (i+1) r (up bx (ρ i) (x.map (V.ren ρ)))=bx
  rw[e];exact As r (i+1) bx nb h.2
theorem QQ {f:V} {args:List V} {K:V→Prop} (h:l6 P G s f args K):vcallB P G s f args (fun s' x=>s'=s∧K x):=by
 unfold l6 at h
 unfold vcallB j4
 split at h
 ·rename_i g all hc
  simp only[hc]
  obtain⟨ρ,cargs,b0,r,h1,h2,h3,h4,h5,h6⟩:=h
  refine⟨ρ,cargs,b0,r,b0,h1,h2 _,h3,h4 _,?_,by rw[h5];exact h6⟩
  rw[As _ _ _ _ (h4 s.nb),kB];rfl
 ·exact h.elim
theorem CE {K:V→Prop} {f:Operand} {args:Array Operand} {ts:Array TypeId} (ho:o.op=.call { callee:=.value f,args:=args,argTypes:=ts }) (hst:St G n I0 M w0 I β ob s a w) (hd:∀ d,o.dst=some d→d<n)
 (h:VYQ P G tr o s f args K) (hk:∀ a' w' x,K x→SE G n I0 M w0 (s.after tr o x) a' w'→next a' w'):o.wp P a w next Q:=by
 unfold VYQ at h
 split at h
 ·refine rq ho hst hd (QQ h) (fun a' w' s' x hK cE=>?_)
  obtain⟨rfl,hx⟩:=hK
  refine hk a' w' x hx ?_
  have hc:bV tr o=none:=by simp[bV,ho]
  unfold S.after
  rw[hc];exact cE
 ·exact o0 (tr:=tr) hst hd h hk
theorem nQ {K:S→Prop} (hst:St G n I0 M w0 I β ob s a w) (hd:∀ d,o.dst=some d→d<n) (hy:pW tr o=false) (h:VStep P G tr o s K)
 (hk:∀ a' w' s',K s'→SE G n I0 M w0 s' a' w'→next a' w'):o.wp P a w next Q:=by
 have gen:VYK P G tr o s (fun v=>K (s.after tr o v))→o.wp P a w next Q:=fun h=>o0 (tr:=tr) hst hd h (fun a' w' x hx cE=>hk _ _ _ hx cE)
 unfold VStep at h
 split at h
 ·
  rename_i T cm
  split at h
  ·rename_i z _ _ hi
   obtain⟨j,d,h1,h2,_,_,_,_,hz,_⟩:=bw hi
   simp only at hz
   split at hz
   ·rename_i zv sh
    have cu:=List.mapM_eq_some_length hz.symm
    have v6:=hst.newBox (cur:=zv.cells) (T:=.of T) (cs:=z.map nH) (od:=fun _=>none) (dE (by simpa using cu)) RT.of_ok (fun q=>by
     by_cases hq:q<z.length
     ·obtain⟨u,hu,rP⟩:=List.mapM_eq_some_get hz.symm q z[q] (aj hq)
      have e1:zv.cells.getD q undef=u:=by rw[aV] at hu;simp[hu]
      have e2:(z.map nH).getD q .un=nH z[q]:=by simp[List.getD,hq]
      rw[e1,e2];exact QP rP
     ·have e2:(z.map nH).getD q .un=.un:=by simp[List.getD,co (dX hq)]
      rw[e2];simp only[LR];exact .un _) (fun u hu=>by
     obtain⟨q,hq,rfl⟩:=fB.1 hu
     have pa:q<z.length:=by rw[cu];simpa using hq
     obtain⟨u,hu,rP⟩:=List.mapM_eq_some_get hz.symm q z[q] (aj pa)
     rw[aV,aA hq] at hu
     cases hu
     exact(LS (I:=I) (w:=w) rP).oneCell) (fun _ _ h=>by cases h) (fun _ _ _ h=>by cases h) (zH fun x hx=>by
     obtain⟨c,_,rfl⟩:=br.1 hx
     unfold nH;split<;>rfl)
    refine eF (v':=.pointer (some ⟨w.heap.size,0,none⟩)) (w':=w.alloc (.cells zv.cells T)) ?_ (hk _ _ _ h (SE.put v6 hd ?_))
    ·have bA:(Instr.alloc T true (.tuple #[])).run P w=.ok (.pointer (some ⟨w.heap.size,0,none⟩)) (w.alloc (.cells zv.cells T)):=by
      simp[Instr.alloc,zeroValue,typeInfo,h1,sh,newVar,newRow]
     obtain⟨dst,op,type,pos,after,guard⟩:=o
     simp only at cm
     subst cm
     simp only[execOp,aJ,bA,aw,bi]
    ·simp only[LR];exact⟨w.heap.size,by simp,rfl⟩
   ·cases hz
  ·exact h.elim
 ·
  rename_i T X cm
  split at h
  ·rename_i cs iR
   obtain⟨ob',h1,h2⟩:=hst.use (bV tr o)
   obtain⟨b1,b2,b3⟩:=Cy (bF hst X) iR
   have VA:bV tr o=(match X with | .tmp t=>some t | _=>none):=by
    obtain⟨dst,op,type,pos,after,guard⟩:=o
    simp only at cm;subst cm
    cases X<;>rfl
   have n0:(s.use (bV tr o)).bx=s.bx∧(s.use (bV tr o)).nb=s.nb:=by
    cases bV tr o with
    |none=>exact⟨rfl,rfl⟩
    |some t=>simp only[S.use];split<;>exact⟨rfl,rfl⟩
   have v6:=h1.newBox (cur:=(a.eval X).cells) (T:=.of T) (cs:=cs) (od:=fun j=>if j=0∧(ev G s X).isOw=true then QB ob X else none) (dE b1.symm) RT.of_ok b2 b3 (fun j b hb=>by
    split at hb
    ·rename_i hj
     cases X with
     |tmp t=>
      refine⟨hst.obnd _ b hb,fun L hL=>?_,fun i=>hst.obx _ b i hb⟩
      obtain⟨q1,q2⟩:=h2 L b hL
      have:=q2 t VA (hst.oinj _ _ b q1 hb)
      simp only[ev] at hj
      rw[hj.2] at this;cases this
     |_=>cases hb
    ·cases hb) (fun j j' b hb BU=>by
    split at hb<;>split at BU<;>try cases hb
    all_goals try cases BU
    rename_i q1 q2
    rw[q1.1,q2.1]) (zH (Cz (bF hst X) iR))
   refine eF (v':=.pointer (some ⟨w.heap.size,0,none⟩)) (w':=w.alloc (.cells (a.eval X).cells T)) ?_ (hk _ _ _ h (SE.put v6 hd ?_))
   ·obtain⟨dst,op,type,pos,after,guard⟩:=o
    simp only at cm;subst cm
    simp[execOp,Instr.box,newVar,newRow]
   ·simp only[LR];exact⟨w.heap.size,by rw[n0.2];simp,rfl⟩
  ·exact h.elim
 ·
  rename_i T p X cm
  replace h:=h.2
  split at h
  ·rename_i i b k cs hi hp iR
   obtain⟨j,d,Nw,Jc,_,dZ,_⟩:=bw hi
   obtain⟨⟨hb,cu,rR,jl⟩,h⟩:=h
   obtain⟨ob',h1,h2⟩:=hst.use (bV tr o)
   obtain⟨b1,b2,b3⟩:=Cy (bF hst X) iR
   have VA:bV tr o=(match X with | .tmp t=>some t | _=>none):=by
    obtain⟨dst,op,type,pos,after,guard⟩:=o
    simp only at cm;subst cm
    cases X<;>rfl
   have n0:(s.use (bV tr o)).bx=s.bx∧(s.use (bV tr o)).nb=s.nb:=by
    cases bV tr o with
    |none=>exact⟨rfl,rfl⟩
    |some t=>simp only[S.use];split<;>exact⟨rfl,rfl⟩
   have YZ:=bF hst p
   rw[hp] at YZ
   simp only[LR] at YZ
   obtain⟨blk,hβ,hpe⟩:=YZ
   obtain⟨ra,cur,e1,e2,e3,e4,_⟩:=hst.bx b hb
   obtain⟨T',e3,_,hT⟩:=e3.cells jl
   rw[hβ] at e1;cases e1
   have hsb:=h1.setBox (i:=b) (k:=k) (blk:=blk) (cur:=cur) (T:=T') (vs:=(a.eval X).cells.toList) (ds:=cs) (od:=fun j=>if j=0∧(ev G s X).isOw=true then QB ob X else none)
    (by rw[n0.2];exact hb) hβ e3 hT (by simpa using b1) (by rw[n0.1,cu];exact rR) (fun q=>by
     have:=b2 q
     rw[aB,aV,← ap];exact this) (by simpa using b3) (fun j b hb=>by
    split at hb
    ·rename_i hj
     cases X with
     |tmp t=>
      refine⟨hst.obnd _ b hb,fun L hL=>?_,fun i=>hst.obx _ b i hb⟩
      obtain⟨q1,q2⟩:=h2 L b hL
      have:=q2 t VA (hst.oinj _ _ b q1 hb)
      simp only[ev] at hj
      rw[hj.2] at this;cases this
     |_=>cases hb
    ·cases hb) (fun j j' b hb BU=>by
    split at hb<;>split at BU<;>try cases hb
    all_goals try cases BU
    rename_i q1 q2
    rw[q1.1,q2.1]) (by rw[n0.1];exact jl) (Cz (bF hst X) iR)
   have bA:(Instr.storeAt T (a.eval p) (a.eval X)).run P w=.ok () (w.setRow blk (cur.toList.take k++(a.eval X).cells.toList++cur.toList.drop (k+(a.eval X).cells.toList.length)).toArray):=by
    rw[hpe]
    simp only[Instr.storeAt,Instr.sureAddr,aJ,bi,aw]
    unfold storeVar
    simp only[aJ,eR w Nw,aw]
    rw[if_neg (by rw[eB Nw,← dZ,b1,cu];simp)]
    have:=fL (P:=P) blk k T' (a.eval X).cells.toList 0 cur w e3 hT (by simp only[bN,dR,b1,cu];omega) (by simpa using b3)
    simpa using this
   unfold Oper.wp
   obtain⟨dst,op,type,pos,after,guard⟩:=o
   simp only at cm;subst cm
   simp only[execOp,aJ,bA,aw,bi,Oper.upon]
   have LA:=SE.put (v:=undef) (x:=.sk) hsb hd (by simp only[LR];exact .sk)
   exact hk _ _ _ h LA
  ·rename_i i blk j hi hp
   obtain⟨j',d,Nw,Jc,_,dZ,_,lH,_⟩:=bw hi
   rcases h with h | ⟨b,k,len,cap,q,E,es,cs,⟨hb,jl,VB,iR,m9,hpz,hq,hj⟩,h⟩
   rotate_left
   ·exact JJ hst hd cm hi hp hb jl VB iR m9 hpz hq hj h hk
   obtain⟨b,k,len,cap,E,es,r,e,c,⟨F9,hb,jl,VB,⟨hj,hr⟩,hc⟩,h⟩:=h
   obtain⟨ob',h1,h2⟩:=hst.use (bV tr o)
   have n0:(s.use (bV tr o)).bx=s.bx∧(s.use (bV tr o)).nb=s.nb:=by
    cases bV tr o with
    |none=>exact⟨rfl,rfl⟩
    |some t=>simp only[S.use];split<;>exact⟨rfl,rfl⟩
   have YZ:=bF hst p
   rw[hp] at YZ
   have hpe:=YZ.toC.ex_inv
   have uC:CR I w (a.eval X) c:=by
    have:=bF hst X
    generalize ev G s X=x at this hc
    cases x<;>simp only[V.asC,ao] at hc<;>try cases hc
    ·exact this.toC
    ·exact this.1
   obtain⟨blk2,cur,b1,g1,g2,g3,g4⟩:=h1.hotCell (b:=b) (k:=k) (by rw[n0.2];exact hb) (by rw[n0.1];exact VB)
   obtain⟨f0,te,blk3,cap',c2,sz,f1,f2,f3,f4,f5,f6,f7,f8,f9,f10,f11,f12⟩:=g4.hot
   cases f1
   have hv0:=f0 _ rfl
   rw[f3] at hv0
   simp only[eO,ao,jf] at hv0
   obtain⟨⟨rfl,_⟩,rfl,rfl⟩:=hv0
   have he1:(es++[e]).length=es.length+1:=by simp
   have m8:es.flatten.length=es.length*sz:=bD es fun x hx=>f9 x (eu _ hx)
   have Qk:e.length=sz:=f9 e (by simp)
   have hjs:j<c2.size:=by
    have:=aS sz f6
    rw[he1,dJ] at this
    omega
   have m3:=uC.notAgg
   have adk:(c2.toList.take j++(a.eval X).cells.toList++c2.toList.drop (j+(a.eval X).cells.toList.length)).toArray=c2.setIfInBounds j (a.eval X):=by
    rw[m3]
    apply cT
    rw[Array.toList_setIfInBounds,List.set_eq_take_append_cons_drop,if_pos (by simpa using hjs)]
    simp
   have bA:(Instr.storeAt T (a.eval p) (a.eval X)).run P w=.ok () (w.setRow blk2 (c2.setIfInBounds j (a.eval X))):=by
    rw[hpe,← adk]
    simp only[Instr.storeAt,Instr.sureAddr,aJ,bi,aw]
    unfold storeVar
    simp only[aJ,eR w Nw,aw]
    have jk:i.size=1:=F9
    rw[if_neg (by rw[eB Nw,← dZ,jk,m3];simp)]
    have:=fL (P:=P) blk2 j (.of te) (a.eval X).cells.toList 0 c2 w f5 RT.of_ok (by rw[m3];simp;omega) (by rw[m3];simpa using uC.oneCell)
    simpa using this
   have hg:w.grb (w.setRow blk2 (c2.setIfInBounds j (a.eval X))) (some blk2):=⟨rfl,rfl,rfl,by simp,fun q _ hq=>jI w blk2 q _ (fun e=>hq (by rw[e])),ae _⟩
   have hnh:=ln w blk2 c2 (c2.setIfInBounds j (a.eval X)) te (0,0) f5
   have iR:∀ o,I blk2 o→(w.setRow blk2 (c2.setIfInBounds j (a.eval X))).cell? ⟨blk2,o,none⟩=w.cell? ⟨blk2,o,none⟩:=fun o ho=>by
    have:=f12 o ho
    rw[he1,Nat.add_sub_cancel] at this
    rw[fk _ blk2 o _ te (0,0) hnh,fk w blk2 o c2 te (0,0) f5,Array.getElem?_setIfInBounds_ne (by omega)]
   have oc:∀ b o,I b o→I b o∧(w.setRow blk2 (c2.setIfInBounds j (a.eval X))).cell? ⟨b,o,none⟩=w.cell? ⟨b,o,none⟩:=fun b o ho=>
    ⟨ho,h1.keeps hg (fun r e o ho=>by cases e;exact iR o ho) b o ho⟩
   have hfs:(es++[e.set r c]).flatten=(es++[e]).flatten.set j c:=by
    rw[ea,ea,List.flatten_singleton,List.flatten_singleton,List.set_append_right _ _ (by omega),← hj,Nat.add_sub_cancel_left]
   have hsb:=h1.recell (b:=b) (k:=k) (x':=.hh (some (.slice (some ⟨blk2,0,none⟩) (es++[e]).length cap')) E (es++[e.set r c])) (by rw[n0.2];exact hb) (by rw[n0.1];exact VB) rfl rfl g1 hg iR (fun _ _ h=>h) (fun _ _ h=>.inl h)
    (fun b2 cur2 q1 q2 q3=>by
     have q4:=q3.hot.1
     refine⟨q4,te,blk2,cap',_,sz,rfl,f2,?_,f4,hnh,?_,f7,by simpa using f8,fun x hx=>?_,fun q d hq=>?_,fun o ho=>?_,fun o ho=>?_⟩
     ·rw[q4 _ rfl];simp
     ·rw[ax] at f6 ⊢;simpa using f6
     ·rcases aZ.1 hx with hx | hx
      ·exact f9 x (eu _ hx)
      ·rw[aP] at hx;subst hx;rw[iM];exact Qk
     ·rw[hfs,List.getElem?_set] at hq
      split at hq
      ·rename_i hqj
       subst hqj
       split at hq
       ·cases hq
        rw[lS _ _ _ hjs]
        exact uC.mono oc
       ·cases hq
      ·rename_i hqj
       rw[getD_set_ne _ _ _ _ (fun e=>hqj e.symm)]
       exact(f10 q d hq).mono oc
     ·exact f11 o (by simpa using ho)
     ·simpa using f12 o ho)
   unfold Oper.wp
   obtain⟨dst,op,type,pos,after,guard⟩:=o
   simp only at cm;subst cm
   simp only[execOp,aJ,bA,aw,bi,Oper.upon]
   have LA:=SE.put (v:=undef) (x:=.sk) hsb hd (by simp only[LR];exact .sk)
   exact hk _ _ _ h LA
  ·exact h.elim
 ·
  rename_i T len parts cm
  split at h
  ·obtain⟨e,sz,es,cells,hK,bA,hc⟩:=zj hst h
   have v6:=hst.newCells e hc
   refine eF (v':=.slice (some ⟨w.heap.size,0,none⟩) len len) (w':=w.alloc (.cells cells e)) ?_ (hk _ _ _ hK (SE.put v6 hd ?_))
   ·obtain⟨dst,op,type,pos,after,guard⟩:=o
    simp only at cm;subst cm
    simp only[execOp,aJ,bA,aw,bi]
   ·simp only[LR];exact⟨ae _,w.heap.size,0,_,ae _,by simp,.inr rfl,rfl⟩
  split at h
  ·rcases h with h | h
   rotate_left
   ·obtain⟨z,u,w',hz,bA,cE⟩:=B0 (tr:=tr) hst hd h
    refine eF (v':=u) (w':=w') ?_ (hk _ _ _ hz cE)
    obtain⟨dst,op,type,pos,after,guard⟩:=o
    simp only at cm;subst cm
    simp only[execOp,aJ,bA,aw,bi]
   unfold D5 at h
   split at h
   ·rename_i e _ _ _ _ _ _ hi
    obtain⟨j,d,h1,h2,h3,_⟩:=bw hi
    have pL:=dq h3
    subst pL
    split at h
    ·rename_i sz _ _ z _ _ sB
     obtain⟨j',d',jH,ot,_,eD,_,_,me,_⟩:=bw sB
     simp only at me eD
     obtain⟨⟨rfl,uD,Y1,jk,q0,Jl⟩,h⟩:=h
     split at me
     ·rename_i zv sh
      have xu:∀ p∈(parts.map fun(i,x)=>(i,a.eval x)).toList,p.2.cells=#[p.2]∧p.2.oneCell'=true:=fun p hp=>by
       simp only[Array.toList_map,br] at hp
       obtain⟨⟨i,x⟩,hx,rfl⟩:=hp
       have h5:=jk (i,ev G s x) (br.2 ⟨(i,x),hx,rfl⟩)
       have:=(we hst x).oneCell h5
       exact⟨this.2,this.1⟩
      have cu:parts.toList.length=len:=by
       have:=iY List.length Y1
       simpa using this
      have VV:zv.cells.size=1:=by have:=List.mapM_eq_some_length me.symm;rw[uD] at this;simpa using this.symm
      obtain⟨cells,f1,f2,f3⟩:=Cv (parts.map fun(i,x)=>(i,a.eval x)).toList ((Array.range (len*1)).map (zv.cells[· % zv.cells.size]!)) 0 (by
       rw[← ey]
       have:((parts.map fun(i,x)=>(i,a.eval x)).toList).length=len:=by simpa using cu
       rw[this,← Y1,Array.toList_map,gV,gV];rfl) (fun p hp=>(xu p hp).1) (by rw[Array.toList_map,am,cu];simp)
      have bA:=lZ (P:=P) w T e len (parts.map fun(i,x)=>(i,a.eval x)) cells j' zv h2 jH sh (by rw[← eD];omega) (by rw[← eD];exact f1)
      have gP:cells.size=len:=by rw[f2];simp
      have v6:=hst.newBox (cur:=cells) (T:=.of e) (cs:=(parts.toList.map fun(i,x)=>(i,ev G s x)).map fun p=>p.2.fz) (od:=fun _=>none) (dE (by simp;rw[gP];simpa using cu)) RT.of_ok (fun q=>by
       by_cases hq:q<parts.size
       ·have e1:cells.getD q undef=a.eval parts[q].2:=by
         rw[f3 q,if_pos (by simp;exact hq)]
         simp[List.getD,hq]
        have e2:(((parts.toList.map fun(i,x)=>(i,ev G s x)).map fun p=>p.2.fz)).getD q .un=(ev G s parts[q].2).fz:=by simp[List.getD,hq]
        rw[e1,e2];exact we hst _
       ·have e2:(((parts.toList.map fun(i,x)=>(i,ev G s x)).map fun p=>p.2.fz)).getD q .un=.un:=by simp[List.getD,co (l:=parts.toList) (by simpa using hq)]
        rw[e2];simp only[LR];exact .un _) (fun u hu=>by
       obtain⟨q,hq,rfl⟩:=fB.1 hu
       have P7:q<parts.size:=by rw[gP] at hq;rw[← cu] at hq;simpa using hq
       have e1:cells.getD q undef=a.eval parts[q].2:=by
        rw[f3 q,if_pos (by simp;exact P7)]
        simp[List.getD,P7]
       have e2:cells.getD q undef=cells[q]:=by simp[hq]
       rw[← e2,e1]
       exact(xu (parts[q].1,a.eval parts[q].2) (by rw[Array.toList_map];exact br.2 ⟨parts[q],by simp,rfl⟩)).2) (fun _ _ h=>by cases h) (fun _ _ _ h=>by cases h) (zH fun d hd=>by
       obtain⟨p,hp,rfl⟩:=br.1 hd
       have:=jk p hp
       cases hx:p.2.fz<;>rw[hx] at this<;>first | rfl | cases this)
      refine eF (v':=.slice (some ⟨w.heap.size,0,none⟩) len len) (w':=w.alloc (.cells cells e)) ?_ (hk _ _ _ h (SE.put v6 hd ?_))
      ·obtain⟨dst,op,type,pos,after,guard⟩:=o
       simp only at cm;subst cm
       simp only[execOp,aJ,bA,aw,bi]
      ·simp only[LR];exact⟨ae _,w.heap.size,0,_,ae _,by simp,.inr rfl,rfl⟩
     ·cases me
    ·exact h.elim
   ·exact h.elim
  ·exact gen h
 ·
  rename_i T l c cm
  obtain⟨e,p,m,sz,z,cells,hK,hpm,bA,hc⟩:=Gv hst h
  have v6:=hst.newCells e hc
  refine eF (v':=.slice (some ⟨w.heap.size,0,none⟩) p m) (w':=w.alloc (.cells cells e)) ?_ (hk _ _ _ hK (SE.put v6 hd ?_))
  ·obtain⟨dst,op,type,pos,after,guard⟩:=o
   simp only at cm;subst cm
   simp only[execOp,aJ,bA,aw,bi]
  ·simp only[LR];exact⟨hpm,w.heap.size,0,_,ae _,by simp,.inr rfl,rfl⟩
 ·rename_i f args ts cm
  have hy:Jv tr o.dst=false:=by
   unfold pW at hy;rw[cm] at hy;exact hy
  rw[hy] at h
  simp only[aM,dy] at h
  split at h
  ·exact Ex cm hst hd h (fun a' w' s' x hK cE=>hk _ _ _ hK cE)
  split at h
  ·refine rq cm hst hd h (fun a' w' s' x hK cE=>hk _ _ _ ?_ cE)
   by_cases hl:BY tr o.dst=true
   ·rw[if_pos hl] at hK;exact hK.2
   ·rw[if_neg hl] at hK;exact hK
  ·exact CE cm hst hd h (fun a' w' x hx cE=>hk _ _ _ hx cE)
 ·
  rename_i args ts cm
  split at h
  ·unfold wd at h
   split at h
   ·rename_i t u es y oK cD
    obtain⟨htu,h⟩:=h
    subst htu
    obtain⟨X,Y,hX,hxe,hye⟩:∃ X Y,args.toList=[X,Y]∧V.ow none es=vw s (ev G s X)∧y=vw s (ev G s Y):=by
     cases ha:args.toList with
     |nil=>simp[ha] at cD
     |cons X l=>
      cases l with
      |nil=>simp[ha] at cD
      |cons Y l=>simp only[ha,aO,bP,eb] at cD;exact⟨X,Y,by rw[cD.2.2],cD.1.symm,cD.2.1.symm⟩
    have e1:ts=#[t,t]:=cT oK
    have e2:args.map a.eval=#[a.eval X,a.eval Y]:=by apply cT;simp[hX]
    subst e1
    subst hye
    have hxl:LR (Wr M w0) I β w (QB ob X) (a.eval X) (.ow none es):=by
     have:=bF hst X
     rw[Zl hxe.symm] at this;exact this
    obtain⟨e,sz,es',cells,cap,hK,bA,jW,dZ,jm,jk⟩:=B2 (ty:=o.type) hst hxl h (GF hst Y)
    have v6:=hst.drew.newPre e (cs:=es'.flatten) dZ (fun q c hq=>(jm q c hq).mono fun b o h=>⟨h,rfl⟩) jk
    refine eF (v':=.slice (some ⟨w.heap.size,0,none⟩) es'.length cap) (w':=w.drew.alloc (.cells cells e)) ?_ (hk _ _ _ hK (SE.put v6 hd ?_))
    ·obtain⟨dst,op,type,pos,after,guard⟩:=o
     simp only at cm bA;subst cm
     have hb:∀ cs,builtin .append #[t,t] type cs (args.map a.eval)=(do pure (.value (← Builtin.append_ #[t,t] type (args.map a.eval)))):=fun _=>rfl
     have:execOp a.eval { dst,op:=.call { callee:=.builtin .append,args:=args,argTypes:=#[t,t] },type,pos,after,guard }=(do pure (.value (← Builtin.append_ #[t,t] type (args.map a.eval)))):=by
      simp only[execOp,resolve,invoke,pure_bind]
      exact hb _
     rw[this,e2]
     simp only[aJ,bA,aw,bi]
    ·simp only[LR];exact⟨ae _,w.heap.size,0,cap,jW,by simp,.inr rfl,rfl⟩
   ·exact h.elim
  ·split at h
   ·
    obtain⟨t,u,X,Y,oK,hX⟩:∃ t u X Y,ts.toList=[t,u]∧args.toList=[X,Y]:=by
     unfold eV at h
     split at h
     ·rename_i t u _ _ _ _ _ _ oK cD
      cases ha:args.toList with
      |nil=>simp[ha] at cD
      |cons X l=>
       cases l with
       |nil=>simp[ha] at cD
       |cons Y l=>simp only[ha,aO,bP,eb] at cD;exact⟨t,u,X,Y,oK,by rw[cD.2.2]⟩
     ·rename_i t u _ _ _ _ _ _ _ oK cD
      cases ha:args.toList with
      |nil=>simp[ha] at cD
      |cons X l=>
       cases l with
       |nil=>simp[ha] at cD
       |cons Y l=>simp only[ha,aO,bP,eb] at cD;exact⟨t,u,X,Y,oK,by rw[cD.2.2]⟩
     ·exact h.elim
    have e1:ts=#[t,u]:=cT oK
    have e2:args.map a.eval=#[a.eval X,a.eval Y]:=by apply cT;simp[hX]
    subst e1
    rw[hX] at h
    obtain⟨s',ob',w',z,v,hK,bA,bL,im⟩:=An (ty:=o.type) hst h (bF hst X) (bF hst Y)
    refine eF (v':=v) (w':=w') ?_ (hk _ _ _ hK (SE.put bL hd im))
    obtain⟨dst,op,type,pos,after,guard⟩:=o
    simp only at cm bA;subst cm
    have hb:∀ cs,builtin .append #[t,u] type cs (args.map a.eval)=(do pure (.value (← Builtin.append_ #[t,u] type (args.map a.eval)))):=fun _=>rfl
    have:execOp a.eval { dst,op:=.call { callee:=.builtin .append,args:=args,argTypes:=#[t,u] },type,pos,after,guard }=(do pure (.value (← Builtin.append_ #[t,u] type (args.map a.eval)))):=by
     simp only[execOp,resolve,invoke,pure_bind]
     exact hb _
    rw[this,e2]
    simp only[aJ,bA,aw,bi]
   ·exact gen h
 ·
  rename_i args ts cm
  obtain⟨t,u,X,Y,oK,hX⟩:∃ t u X Y,ts.toList=[t,u]∧args.toList=[X,Y]:=by
   unfold nJ at h
   split at h
   ·rename_i t u _ _ _ _ _ _ oK cD
    cases ha:args.toList with
    |nil=>simp[ha] at cD
    |cons X l=>
     cases l with
     |nil=>simp[ha] at cD
     |cons Y l=>simp only[ha,aO,bP,eb] at cD;exact⟨t,u,X,Y,oK,by rw[cD.2.2]⟩
   ·exact h.elim
  have e1:ts=#[t,u]:=cT oK
  have e2:args.map a.eval=#[a.eval X,a.eval Y]:=by apply cT;simp[hX]
  subst e1
  rw[hX] at h
  obtain⟨s',ob',w',z,v,hK,bA,bL,im⟩:=GH (ty:=o.type) hst h (bF hst X) (bF hst Y)
  refine eF (v':=v) (w':=w') ?_ (hk _ _ _ hK (SE.put bL hd im))
  obtain⟨dst,op,type,pos,after,guard⟩:=o
  simp only at cm bA;subst cm
  have hb:∀ cs,builtin .copy #[t,u] type cs (args.map a.eval)=(do pure (.value (← Builtin.copy_ #[t,u] type (args.map a.eval)))):=fun _=>rfl
  have:execOp a.eval { dst,op:=.call { callee:=.builtin .copy,args:=args,argTypes:=#[t,u] },type,pos,after,guard }=(do pure (.value (← Builtin.copy_ #[t,u] type (args.map a.eval)))):=by
   simp only[execOp,resolve,invoke,pure_bind]
   exact hb _
  rw[this,e2]
  simp only[aJ,bA,aw,bi]
 ·
  rename_i args ts cm
  obtain⟨t,X,oK,hX⟩:∃ t X,ts.toList=[t]∧args.toList=[X]:=by
   unfold iJ at h
   split at h
   ·rename_i t _ _ _ _ _ oK cD
    cases ha:args.toList with
    |nil=>simp[ha] at cD
    |cons X l=>simp only[ha,aO,bP,eb] at cD;exact⟨t,X,oK,by rw[cD.2]⟩
   ·rename_i t _ _ _ _ oK cD
    cases ha:args.toList with
    |nil=>simp[ha] at cD
    |cons X l=>simp only[ha,aO,bP,eb] at cD;exact⟨t,X,oK,by rw[cD.2]⟩
   ·exact h.elim
  have e1:ts=#[t]:=cT oK
  have e2:args.map a.eval=#[a.eval X]:=by apply cT;simp[hX]
  subst e1
  rw[hX] at h
  obtain⟨s',ob',w',hK,bA,bL⟩:=Ev (ty:=o.type) hst h (bF hst X)
  refine eF (v':=.tuple #[]) (w':=w') ?_ (hk _ _ _ hK (SE.put bL hd (x:=.un) (by simp only[LR];exact .un _)))
  obtain⟨dst,op,type,pos,after,guard⟩:=o
  simp only at cm bA;subst cm
  have hb:∀ cs,builtin .clear #[t] type cs (args.map a.eval)=(do pure (.value (← Builtin.clear_ #[t] type (args.map a.eval)))):=fun _=>rfl
  have:execOp a.eval { dst,op:=.call { callee:=.builtin .clear,args:=args,argTypes:=#[t] },type,pos,after,guard }=(do pure (.value (← Builtin.clear_ #[t] type (args.map a.eval)))):=by
   simp only[execOp,resolve,invoke,pure_bind]
   exact hb _
  rw[this,e2]
  simp only[aJ,bA,aw,bi]
 ·
  rename_i args ts cm
  split at h
  ·obtain⟨t,X,oK,hX⟩:∃ t X,ts.toList=[t]∧args.toList=[X]:=by
    unfold Gp at h
    split at h
    ·rename_i t _ oK cD
     cases ha:args.toList with
     |nil=>simp[ha] at cD
     |cons X l=>simp only[ha,aO,bP,eb] at cD;exact⟨t,X,oK,by rw[cD.2]⟩
    ·exact h.elim
   have e1:ts=#[t]:=cT oK
   have e2:args.map a.eval=#[a.eval X]:=by apply cT;simp[hX]
   subst e1
   rw[hX] at h
   obtain⟨u,hf,hK,bA⟩:=GE (ty:=o.type) hst h (bF hst X)
   refine eF (v':=u) (w':=w) ?_ (hk _ _ _ hK (.fin0 hst hd (.ofLit hf)))
   obtain⟨dst,op,type,pos,after,guard⟩:=o
   simp only at cm bA;subst cm
   have hb:∀ cs,builtin .len #[t] type cs (args.map a.eval)=(do pure (.value (← Builtin.len_ #[t] type (args.map a.eval)))):=fun _=>rfl
   have:execOp a.eval { dst,op:=.call { callee:=.builtin .len,args:=args,argTypes:=#[t] },type,pos,after,guard }=(do pure (.value (← Builtin.len_ #[t] type (args.map a.eval)))):=by
    simp only[execOp,resolve,invoke,pure_bind]
    exact hb _
   rw[this,e2]
   simp only[aJ,bA,aw,bi]
  ·exact gen h
 ·
  rename_i src dst' X cm
  split at h
  ·obtain⟨s',v,w',hK,u,bA,β',ob',bL,im⟩:=Ew hst hd h
   refine eF (v':=u) (w':=w') ?_ (hk _ _ _ hK (SE.put bL hd im))
   obtain⟨dst,op,type,pos,after,guard⟩:=o
   simp only at cm bA;subst cm
   simp only[execOp,aJ,bA,aw,bi]
  ·exact gen h
 ·
  rename_i op T X Y yT cm
  split at h
  ·rename_i hy
   unfold Zg at h
   have fin:∀ c:Value,Y=.const c→(∃ u,flat u=true∧K (s.after tr o (.c (.lit u)))∧(do eqGuard op T X Y (a.eval X) c;binOp op T (a.eval X) c:Sem Value).run P w=.ok u w)→o.wp P a w next Q:=by
    rintro c rfl ⟨u,hf,hz,bA⟩
    refine eF (v':=u) (w':=w) ?_ (hk _ _ _ hz (.fin0 hst hd (.ofLit hf)))
    obtain⟨dst,op',type,pos,after,guard⟩:=o
    simp only at cm;subst cm
    have hx:execOp a.eval { dst,op:=.binOp op T X (.const c) yT,type,pos,after,guard }=(do pure (.value (← (do eqGuard op T X (.const c) (a.eval X) c;binOp op T (a.eval X) c)))):=by
     simp only[execOp];simp[Act.eval]
    rw[hx]
    simp only[aJ] at bA ⊢
    rw[bA]
    simp
   cases hp:D3 Y with
   |some fn=>
    rw[hp] at h
    have hY:Y=.const (if fn then .nilFunc else .pointer none):=by
     unfold D3 at hp
     split at hp
     ·cases hp;rfl
     ·cases hp;rfl
     ·cases hp
    exact fin _ hY (Gs (K:=fun v=>K (s.after tr o v)) h (bF hst X) X Y)
   |none=>
    rw[hp] at h
    have hY:Y=.const (.slice none 0 0):=by
     unfold zF at hy
     rw[hp] at hy
     simp only[kA,kG] at hy
     unfold Qv at hy
     split at hy
     ·rfl
     ·cases hy
    exact fin _ hY (JA (K:=fun v=>K (s.after tr o v)) h (bF hst X) X Y)
  ·exact gen h
 ·
  rename_i T X cm
  split at h
  ·obtain⟨z,u,hz,im,bA⟩:=Eb hst h (bF hst X)
   refine eF (v':=u) (w':=w) ?_ (hk _ _ _ hz (SE.put hst hd im))
   obtain⟨dst,op',type,pos,after,guard⟩:=o
   simp only at cm;subst cm
   simp only[execOp,aJ,bA,aw,bi]
  ·exact gen h.2
 ·
  rename_i T parts cm
  split at h
  ·obtain⟨z,u,hz,im,bA⟩:=BZ hst h
   refine eF (v':=u) (w':=w) ?_ (hk _ _ _ hz (SE.put hst hd im))
   obtain⟨dst,op',type,pos,after,guard⟩:=o
   simp only at cm;subst cm
   simp only[execOp,aJ,bA,aw,bi]
  ·exact gen h
 ·
  rename_i T cm
  split at h
  ·have v6:=hst.newMap
   refine eF (v':=.map (some w.heap.size)) (w':=w.alloc (.map #[] 0)) ?_ (hk _ _ _ h (SE.put v6 hd ?_))
   ·obtain⟨dst,op',type,pos,after,guard⟩:=o
    simp only at cm;subst cm
    simp[execOp,Instr.makeMap]
   ·simp only[LR];exact⟨w.heap.size,by simp,rfl⟩
  ·exact h.elim
 ·
  rename_i T m k X cm
  obtain⟨s',ob',w',hK,bA,bL⟩:=uV hst h (bF hst m) (bF hst k) (bF hst X)
  unfold Oper.wp
  obtain⟨dst,op',type,pos,after,guard⟩:=o
  simp only at cm;subst cm
  simp only[execOp,aJ,bA,aw,bi,Oper.upon]
  exact hk _ _ _ hK (SE.put (v:=undef) (x:=.sk) bL hd (by simp only[LR];exact .sk))
 ·
  rename_i T m k cm
  obtain⟨s',ob',w',z,u,hK,bA,bL,im⟩:=zk hst h (bF hst m) (bF hst k)
  refine eF (v':=u) (w':=w') ?_ (hk _ _ _ hK (SE.put bL hd im))
  obtain⟨dst,op',type,pos,after,guard⟩:=o
  simp only at cm;subst cm
  simp only[execOp,aJ,bA,aw,bi]
 ·
  rename_i T m k X cm
  obtain⟨s',ob',w',hK,bA,bL⟩:=zl (P:=P) (T:=T) hst h (bF hst m) (bF hst k) (bF hst X)
  unfold Oper.wp
  obtain⟨dst,op',type,pos,after,guard⟩:=o
  simp only at cm;subst cm
  simp only[execOp,aJ,bA,aw,bi,Oper.upon]
  exact hk _ _ _ hK (SE.put (v:=undef) (x:=.sk) bL hd (by simp only[LR];exact .sk))
 ·
  rename_i t cm
  obtain⟨it,z,u,w',hK,bA,cE⟩:=GG (P:=P) (ty:=o.type) hst hd h
  refine eF (v':=u) (w':=w') ?_ (hk _ _ _ hK cE)
  obtain⟨dst,op',type,pos,after,guard⟩:=o
  simp only at cm;subst cm
  simp only[execOp,Act.eval,aJ,bA,aw,bi]
 ·
  rename_i T m k X cm
  obtain⟨s',ob',w',hK,bA,bL⟩:=uV hst h (bF hst m) (bF hst k) (bF hst X)
  unfold Oper.wp
  obtain⟨dst,op',type,pos,after,guard⟩:=o
  simp only at cm;subst cm
  simp only[execOp,aJ,bA,aw,bi,Oper.upon]
  exact hk _ _ _ hK (SE.put (v:=undef) (x:=.sk) bL hd (by simp only[LR];exact .sk))
 ·exact gen h
theorem wv (hst:St G n I0 M w0 I β ob s a w) {ops:Array Oper} {j d:Nat} (hd:(ops[j]?).bind (·.dst)=some d) {p:Bool} (h:s.fr d=.c (.lit (.bool p))):yielded ops a.tmps j=some p:=by
 have:=hst.fr d
 rw[h] at this
 have hv:=this.lit
 unfold yielded
 rw[hd]
 simp only[fP]
 rw[ap] at hv
 cases hx:a.tmps[d]? with
 |none=>rw[hx] at hv;cases hv
 |some u=>rw[hx] at hv;simp only[bU] at hv;rw[hv]
theorem Au (hst:St G n I0 M w0 I β ob s a w) {ops:Array Oper} {j d:Nat} (hd:(ops[j]?).bind (·.dst)=some d) (h:s.fr d=.sk):yielded ops a.tmps j=none:=by
 have:=hst.fr d
 rw[h] at this
 have hv:a.tmps.getD d undef=undef:=by simp only[LR] at this;generalize a.tmps.getD d undef=u at this;cases this;rfl
 unfold yielded
 rw[hd]
 simp only[fP]
 rw[ap] at hv
 cases hx:a.tmps[d]? with
 |none=>rfl
 |some u=>rw[hx] at hv;simp only[bU] at hv;rw[hv];rfl
theorem S.up_id {d:Nat} {x:V} (h:s.fr d=x):{ s with fr:=up s.fr d x }=s:=by
 rw[← h,pZ]
theorem ru {ops:Array Oper} {yes no:S→Prop} (hst:St G n I0 M w0 I β ob s a w) (h:nl ops o s yes no) :
 (Region.wanted o (yielded ops a.tmps)=true∧yes s)∨(Region.wanted o (yielded ops a.tmps)=false∧no s):=by
 unfold nl at h
 unfold Region.wanted
 split at h
 ·rename_i hg
  rw[hg];exact .inl ⟨rfl,h⟩
 ·rename_i j want hg
  rw[hg]
  split at h
  ·rename_i d hd
   split at h
   ·rename_i p hp
    simp only[wv hst hd hp]
    by_cases hpw:p=want
    ·subst hpw
     have:=h.1 rfl
     rw[S.up_id hp] at this
     exact .inl ⟨by simp,this⟩
    ·have Gg:p=!want:=by cases p<;>cases want<;>simp_all
     have:=h.2 Gg
     rw[← Gg,S.up_id hp] at this
     exact .inr ⟨by simpa using hpw,this⟩
   ·rename_i hp
    simp only[Au hst hd hp]
    exact .inr ⟨rfl,h⟩
   ·exact h.elim
  ·exact h.elim
def jV (n:Nat) (ops:Array Oper):Bool:=ops.toList.all fun o=>match o.dst with | some d=>decide (d<n) | none=>true
theorem fb {ops:Array Oper} (h:jV n ops=true) {o:Oper} (ho:o∈ops.toList):∀ d,o.dst=some d→d<n:=fun d hd=>by
 have:=aU.1 h o ho
 rw[hd] at this
 simpa using this
theorem QR {l:Option Nat} {m:Nat} (hst:St G n I0 M w0 I β ob s a w) (hd:∀ d,o.dst=some d→d<n) (pU:∀ c,o.op≠.defer c) {i blk:Nat} {vs:List Value} {all:List V} {ρ:List Nat} {cargs:List V} {b0 b1:List (List V)} {r:V}
 (dC:YB P G cargs b0 r b1) (cD:ArgsL (Wr M w0) I β w vs all) (dh:all.map V.fz=cargs.map (V.ren (rho ρ s.nb))) (hρ:ρ.length=b0.length∧ρ.Nodup) (fJ:pV s.bx s.nb (rho ρ s.nb) 0 b0)
 (hhd:ρ.head?=some i) (Gf:β i=some blk)
 (bA:(execOp a.eval o).run P w=(Instr.yield blk vs.toArray).run P w)
 (hk:∀ a' w',SE G n I0 M w0 (({ s with bx:=fu (rho ρ s.nb) 0 b1 s.bx,nb:=s.nb+(b1.length - b0.length) }:S).put o.dst (r.ren (rho ρ s.nb))) a' w'→next a' w'):o.wpIn (FW l) m P a w next Q:=by
 obtain⟨hρl,hn⟩:=hρ
 obtain⟨BO,m4,fy⟩:=dC.1
 have hl:∀ i,i<ρ.length→ρ.getD i 0<s.nb:=fun i hi=>by
  obtain⟨b,hb⟩:∃ b,b0[i]?=some b:=⟨_,aj (by omega)⟩
  have:=(nO b0 0 i b fJ hb).1
  rw[ah] at this
  simpa[rho,hi] using this
 have pY:=ua hn hl
 have cu:all.length=cargs.length:=by simpa using iY List.length dh
 have q0:0<ρ.length:=by cases ρ with | nil=>cases hhd | cons x r=>simp
 have hr0:rho ρ s.nb 0=i:=by
  unfold rho
  rw[if_pos q0]
  cases ρ with
  |nil=>cases hhd
  |cons x r=>simpa using hhd
 obtain⟨fn,tmps,assign,body,hyr,LC⟩:=dC.2 I ⟨Mof β ob (rho ρ s.nb) b0.length,fun _=>none,[]⟩ w vs.toArray (kD β (rho ρ s.nb) b0.length) (obC ob (rho ρ s.nb) b0.length) blk hst.ibnd hst.glob (hst.give pY fJ m4)
  (by unfold kD;rw[if_pos (by omega),hr0];exact Gf) (by have:=cD.1;simp;omega) (fun j x hx=>by
   have hj:j<cargs.length:=(ak.1 hx).1
   have hz:all[j]?=some all[j]:=aj (by omega)
   have h1:=cD.2 j _ hz
   have h2:all[j].fz=x.ren (rho ρ s.nb):=by
    have e1:(all.map V.fz)[j]?=some all[j].fz:=by simp[hz]
    have e2:(cargs.map (V.ren (rho ρ s.nb)))[j]?=some (x.ren (rho ρ s.nb)):=by simp[hx]
    rw[dh,e2] at e1
    exact(cN e1).symm
   rw[h2] at h1
   have h3:=h1.ren (β':=kD β (rho ρ s.nb) b0.length) (BO x (bh hx)) (fun i b hi hb=>by simp[kD,hi,hb])
   have h4:=h3.wider (base':=Wr ⟨Mof β ob (rho ρ s.nb) b0.length,fun _=>none,[]⟩ w) fun b hb=>by cases hb
   simpa using h4)
 refine⟨fun _ _=>trivial,?_⟩
 rw[Oper.semAt_eq _ _ _ pU,bA,hyr]
 refine⟨fun h=>(by cases h),RoundIn.mono (JH LC) ?_⟩
 rintro e w' ⟨v,I',β',ob',o',rfl,ou,Lv,Jp,sn,Qb,Je,n0,im,jn⟩
 simp only
 obtain⟨bL,eJ,tW,fm,v6,_⟩:=hst.called hρl hn fJ fy ou Lv Jp sn Qb Je n0
 refine hk _ _ ?_
 have Vz:LR (Wr M w0) I' (pg β β' ρ s.nb) w' o' v (r.ren (rho ρ s.nb)):=(im.toRen eJ).wider fun b hb=>tW b (jn b hb).1.2
 cases lh:o.dst with
 |none=>exact⟨_,_,_,bL⟩
 |some d=>
  refine⟨_,_,_,bL.put d (hd d lh) Vz fun b hb=>?_⟩
  obtain⟨⟨h1,h2⟩,h3,h4⟩:=jn b hb
  refine⟨⟨h1,tW b h2⟩,fun L hL=>?_,v6 b h2 h4⟩
  simp only[upL] at hL
  split at hL
  ·cases hL
  ·exact fm b h2 h3 L hL
theorem NS {f:Operand} {args:Array Operand} {ts:Array TypeId} {blk:Nat} (ho:o.op=.call { callee:=.value f,args:=args,argTypes:=ts }) (hf:a.eval f=.func (.yield blk) #[] #[]) :
 (execOp a.eval o).run P w=(Instr.yield blk (args.toList.map a.eval).toArray).run P w:=by
 unfold execOp
 have e:(args.toList.map a.eval).toArray=args.map a.eval:=by apply cT;simp
 rw[e]
 simp only[ho,resolve,Deferred.ofValue,hf,aJ,bi,aw,invoke]
 simp
theorem Ey {l:Option Nat} {m:Nat} {K:S→V→Prop} {f:Operand} {args:Array Operand} {ts:Array TypeId} (ho:o.op=.call { callee:=.value f,args:=args,argTypes:=ts }) (hst:St G n I0 M w0 I β ob s a w)
 (hd:∀ d,o.dst=some d→d<n) (h:xK P G s (ev G s f) (args.toList.map (ev G s)) K) (hk:∀ a' w' s' x,K s' x→SE G n I0 M w0 (s'.put o.dst x) a' w'→next a' w'):o.wpIn (FW l) m P a w next Q:=by
 have hf:=bF hst f
 unfold xK at h
 split at h
 ·rename_i i he
  obtain⟨ρ,cargs,b0,r,b1,dC,dh,⟨hρ1,hρ2,hρ3⟩,fJ,hK⟩:=h
  rw[he] at hf
  simp only[LR] at hf
  obtain⟨blk,hb,hv⟩:=hf
  exact QR hst hd (fun c hc=>by rw[ho] at hc;cases hc) dC (ml hst _) dh ⟨hρ1,hρ2⟩ fJ hρ3 hb (NS ho hv) (fun a' w'=>hk a' w' _ _ hK)
 ·exact h.elim
theorem QS {K:S→Prop} (h:VStep P G tr o s K):∀ c,o.op≠.defer c:=fun c hc=>by
 unfold VStep VYK at h
 rw[hc] at h
 exact h
theorem uW {l:Option Nat} {m:Nat} {K:S→Prop} (hst:St G n I0 M w0 I β ob s a w) (hd:∀ d,o.dst=some d→d<n) (h:VStep P G tr o s K)
 (hk:∀ a' w' s',K s'→SE G n I0 M w0 s' a' w'→next a' w'):o.wpIn (FW l) m P a w next Q:=by
 cases hy:pW tr o with
 |false=>exact Aq (QS h) (nQ (tr:=tr) hst hd hy h hk)
 |true=>
  unfold pW at hy
  split at hy
  ·rename_i f args ts cm
   unfold VStep at h
   rw[cm] at h
   simp only[hy,cL] at h
   exact Ey cm hst hd h fun a' w' s' x hK cE=>hk _ _ _ hK cE
  ·cases hy
theorem vn {l:Option Nat} {m:Nat} {ops:Array Oper} (dC:jV n ops=true) {K:S→Prop} (hK:∀ a w s,K s→SE G n I0 M w0 s a w→Q .normal a w):∀ (ls:List Oper) (k:Nat),ops.toList.drop k=ls→∀ (s:S) (a:Act) (w:World),
 eW P G tr ops ls s K→SE G n I0 M w0 s a w→wpOpsIn (FW l) m P ops Q (List.range' k ls.length) a w
 |[],k,_,s,a,w,h,cE=>by simp only[aH,List.range'_zero,wpOpsIn];exact hK _ _ _ h cE
 |o::ls,k,hl,s,a,w,h,cE=>by
  have lR:ops[k]?=some o:=by
   have:(ops.toList.drop k)[0]?=some o:=by rw[hl];rfl
   rw[ci] at this
   simpa using this
  have Jk:ops.toList.drop (k+1)=ls:=by
   rw[← fD,hl];rfl
  have jS:o∈ops.toList:=cM (i:=k) (by rw[hl];simp)
  obtain⟨I,β,ob,hst⟩:=cE
  simp only[aC,gK,wpOpsIn,lR]
  simp only[eW] at h
  rcases ru hst h with⟨hw,h⟩ | ⟨hw,h⟩
  ·rw[if_pos hw]
   refine uW (tr:=tr) hst (fb dC jS) h fun a' w' s' xx nz=>?_
   exact vn dC hK ls (k+1) Jk s' a' w' xx nz
  ·rw[hw]
   simp only[aM,dy]
   exact⟨fun _ _=>trivial,vn dC hK ls (k+1) Jk _ _ w h (SE.put hst (fb dC jS) (by simp only[LR];exact .sk))⟩
theorem PR.ltP {β':Nat→Option Nat} {m:Nat} (h:PR I β w v x) (hx:x.ltP m) (hβ:∀ i,i<m→β' i=β i):PR I β' w v x:=by
 cases x<;>simp only[V.ltP] at hx<;>simp only[PR] at h ⊢<;>try exact h
 ·obtain⟨blk,h1,h2⟩:=h;exact⟨blk,by rw[hβ _ hx];exact h1,h2⟩
 ·obtain⟨h0,blk,o',c',zB,h1,h2⟩:=h;exact⟨h0,blk,o',c',zB,by rw[hβ _ hx];exact h1,h2⟩
 ·obtain⟨blk,h1,h2⟩:=h;exact⟨blk,by rw[hβ _ hx];exact h1,h2⟩
 ·obtain⟨blk,h1,h2⟩:=h;exact⟨blk,by rw[hβ _ hx];exact h1,h2⟩
 ·obtain⟨blk,h1,h2⟩:=h;exact⟨blk,by rw[hβ _ hx];exact h1,h2⟩
theorem KR.ltP {β':Nat→Option Nat} {m:Nat} (h:KR I β w v x) (hx:x.ltP m) (hβ:∀ i,i<m→β' i=β i):KR I β' w v x:=by
 rcases h with h | h | h
 ·exact .inl h
 ·exact .inr (.inl h)
 ·exact .inr (.inr (h.ltP hx hβ))
theorem LR.lt {β':Nat→Option Nat} {m:Nat} {ox:Option Nat} (h:LR base I β w ox v x) (hx:x.lt m) (hβ:∀ i,i<m→β' i=β i):LR base I β' w ox v x:=by
 cases x<;>simp only[V.lt] at hx<;>simp only[LR] at h ⊢<;>try exact h
 ·obtain⟨blk,h1,h2⟩:=h;exact⟨blk,by rw[hβ _ hx];exact h1,h2⟩
 ·obtain⟨vf,vc,h1,h2,h3,h4,h5⟩:=h
  exact⟨vf,vc,h1,h2,h3,fun j x hj=>(h4 j x hj).ltP (hx.1 x (bh hj)) hβ,fun j x hj=>(h5 j x hj).ltP (hx.2 x (bh hj)) hβ⟩
 ·obtain⟨h0,blk,o',c',zB,h1,h2⟩:=h;exact⟨h0,blk,o',c',zB,by rw[hβ _ hx];exact h1,h2⟩
 ·obtain⟨cs,h1,h2,h3⟩:=h
  exact⟨cs,h1,h2,fun j x hj=>(h3 j x hj).ltP (hx x (bh hj)) hβ⟩
 ·obtain⟨blk,h1,h2⟩:=h;exact⟨blk,by rw[hβ _ hx];exact h1,h2⟩
 ·obtain⟨blk,m,h1,h2,h3,h4⟩:=h;exact⟨blk,m,h1,h2,by rw[hβ _ hx];exact h3,h4⟩
 ·obtain⟨blk,h1,h2⟩:=h;exact⟨blk,by rw[hβ _ hx];exact h1,h2⟩
 ·obtain⟨tm,h1,h2⟩:=h
  exact⟨tm,h1,fun t y hy=>(h2 t y hy).ltP (hx _ hy) hβ⟩
 ·obtain⟨blk,h1,h2⟩:=h;exact⟨blk,by rw[hβ _ hx];exact h1,h2⟩
theorem SE.weaken {s':S} {k:Nat} (h:SE G n I0 M w0 s a w) (qC:∀ i b,M.e i=some b→i<k) (fy:S.Le k s' s):SE G n I0 M w0 s' a w:=by
 obtain⟨I,β,ob,h⟩:=h
 have hβ:∀ i b,(if i<s'.nb then β i else none)=some b→β i=some b:=fun i b hb=>by split at hb;exact hb;cases hb
 let ob':Loc→Option Nat:=fun L=>match L with
  | .t i=>if(s'.fr i).isOw then ob (.t i) else none
  | .b i j=>if i<s'.nb then ob (.b i j) else none
 have kf:∀ L b,ob' L=some b→ob L=some b:=fun L b hL=>by
  cases L with
  |t i=>simp only[ob'] at hL;split at hL;exact hL;cases hL
  |b i j=>simp only[ob'] at hL;split at hL;exact hL;cases hL
 refine⟨I,fun i=>if i<s'.nb then β i else none,ob',{
  size:=h.size,defers:=h.defers,below:=h.below,kept:=h.kept,ilow:=h.ilow,ihigh:=h.ihigh,ibnd:=h.ibnd
  fr:=fun t=>?_
  bx:=fun i hi=>?_
  bnone:=fun i hi=>by rw[if_neg (by omega)]
  ext:=fun i b he=>by rw[if_pos (ce (qC i b he) fy.ext)];exact h.ext i b he
  bnew:=fun i b hi=>h.bnew i b (hβ i b hi)
  binj:=fun i j b hi hj=>h.binj i j b (hβ _ _ hi) (hβ _ _ hj)
  oinj:=fun L L' b hL xH=>h.oinj L L' b (kf _ _ hL) (kf _ _ xH)
  obx:=fun L b i hL hi=>h.obx L b i (kf _ _ hL) (hβ _ _ hi)
  obnd:=fun L b hL=>h.obnd L b (kf _ _ hL)
  glob:=h.glob }⟩
 ·rcases fy.fr t with e | e
  ·rw[e];simp only[LR];exact .un _
  ·have:=h.fr t
   rw[← e] at this
   have h2:LR (Wr M w0) I β w (ob' (.t t)) (a.tmps.getD t undef) (s'.fr t):=by
    simp only[ob']
    by_cases ho:(s'.fr t).isOw=true
    ·rw[if_pos ho];exact this
    ·rw[if_neg ho];exact this.other (by simpa using ho)
   exact h2.lt (fy.lt t) (fun i hi=>by rw[if_pos hi])
 ·obtain⟨blk,cur,e1,e2,e3,e4,e5,e7⟩:=h.bx i (ce hi fy.nb)
  refine⟨blk,cur,by rw[if_pos hi];exact e1,e2,by rw[fy.bx i hi];exact e3,by rw[fy.bx i hi];exact e4,fun j=>?_,e7⟩
  have:=e5 j
  rw[← fy.bx i hi] at this
  have bB:((s'.bx i).getD j .un).lt s'.nb:=by
   by_cases hj:j<(s'.bx i).length
   ·have:(s'.bx i).getD j .un=(s'.bx i)[j]:=by simp[List.getD,hj]
    rw[this];exact fy.blt i hi _ (aF hj)
   ·have:(s'.bx i).getD j .un=.un:=by simp[List.getD,co (dX hj)]
    rw[this];exact trivial
  have h2:=this.lt (β':=fun i=>if i<s'.nb then β i else none) bB (fun i hi=>by rw[if_pos hi])
  simpa only[ob',if_pos hi] using h2
theorem Wa {s:S} {m:Nat} {l l':List V} (h:l'.getD 0 .un=l.getD 0 .un∨FzV s m (l'.getD 0 .un) (l.getD 0 .un)):oe l'=oe l:=by
 unfold oe
 rcases h with h | ⟨i,off,len,cap,sz,c,h1,_,_,h2⟩
 ·rw[h]
 ·rw[h1,h2]
theorem SE.freeze {s':S} {k:Nat} (h:SE G n I0 M w0 s a w) (qC:∀ i b,M.e i=some b→i<k) (fy:S.Fz k s' s):SE G n I0 M w0 s' a w:=by
 obtain⟨I,β,ob,h⟩:=h
 have hβ:∀ i b,(if i<s'.nb then β i else none)=some b→β i=some b:=fun i b hb=>by split at hb;exact hb;cases hb
 let ob':Loc→Option Nat:=fun L=>match L with
  | .t i=>if(s'.fr i).isOw then ob (.t i) else none
  | .b i j=>if i<s'.nb then ob (.b i j) else none
 have kf:∀ L b,ob' L=some b→ob L=some b:=fun L b hL=>by
  cases L with
  |t i=>simp only[ob'] at hL;split at hL;exact hL;cases hL
  |b i j=>simp only[ob'] at hL;split at hL;exact hL;cases hL
 let I':Ft:=fun b o=>I b o∨∃ i,s'.nb≤i∧i<s.nb∧β i=some b
 have hII:∀ b o,I b o→I' b o:=fun _ _ h=>.inl h
 have kp:∀ (v:Value) (x:V) (o:Option Nat),(∀ b,o=some b→∃ L,ob L=some b)→LR (Wr M w0) I β w o v x→LR (Wr M w0) I' β w o v x:=fun v x o ho hx=>
  hx.mono (fun b o hb=>⟨.inl hb,rfl⟩) (fun _ _ e=>e) (fun b hb=>⟨rfl,fun o hI=>by
   rcases hI with hI | ⟨i,_,_,hi⟩
   ·exact hI
   ·obtain⟨L,hL⟩:=ho b hb
    exact absurd hi (h.obx L b i hL)⟩)
 have aaf:∀ (v:Value) (x y:V) (o:Option Nat),LR (Wr M w0) I β w o v y→FzV s s'.nb x y→∃ c,x=.c c∧CR I' w v c:=fun v x y o hy hf=>by
  obtain⟨i,off,len,cap,sz,c,rfl,hi,hv,rfl⟩:=hf
  simp only[LR] at hy
  refine⟨c,rfl,Ei h hv hy hII (fun b o hb=>?_)⟩
  have tX:i<s.nb:=by
   unfold mh zh at hv
   split at hv
   ·rename_i hc
    split at hc
    ·assumption
    ·cases hc
   ·cases hv
  exact .inr ⟨i,hi,tX,hb⟩
 refine⟨I',fun i=>if i<s'.nb then β i else none,ob',{
  size:=h.size,defers:=h.defers,below:=h.below,ilow:=fun b o hb=>.inl (h.ilow b o hb),kept:=h.kept
  ihigh:=fun b o hb=>by
   rcases hb with hb | ⟨i,_,hi,hb⟩
   ·exact h.ihigh b o hb
   ·obtain⟨blk,cur,e1,e2,e3,_⟩:=h.bx i hi
    rw[hb] at e1;cases e1;exact .inr e2
  ibnd:=fun b o hb=>by
   rcases hb with hb | ⟨i,_,hi,hb⟩
   ·exact h.ibnd b o hb
   ·obtain⟨blk,cur,e1,e2,e3,_⟩:=h.bx i hi
    rw[hb] at e1;cases e1
    exact e3.lt
  fr:=fun t=>?_
  bx:=fun i hi=>?_
  bnone:=fun i hi=>by rw[if_neg (by omega)]
  ext:=fun i b he=>by rw[if_pos (ce (qC i b he) fy.ext)];exact h.ext i b he
  bnew:=fun i b hi=>h.bnew i b (hβ i b hi)
  binj:=fun i j b hi hj=>h.binj i j b (hβ _ _ hi) (hβ _ _ hj)
  oinj:=fun L L' b hL xH=>h.oinj L L' b (kf _ _ hL) (kf _ _ xH)
  obx:=fun L b i hL hi=>h.obx L b i (kf _ _ hL) (hβ _ _ hi)
  obnd:=fun L b hL=>h.obnd L b (kf _ _ hL)
  glob:=fun g cs hg=>(h.glob g cs hg).mono fun b o hb=>⟨.inl hb,rfl⟩ }⟩
 ·rcases fy.fr t with e | e | e
  ·rw[e];simp only[LR];exact .un _
  ·have:=kp _ _ _ (fun b hb=>⟨_,hb⟩) (h.fr t)
   rw[← e] at this
   have h2:LR (Wr M w0) I' β w (ob' (.t t)) (a.tmps.getD t undef) (s'.fr t):=by
    simp only[ob']
    by_cases ho:(s'.fr t).isOw=true
    ·rw[if_pos ho];exact this
    ·rw[if_neg ho];exact this.other (by simpa using ho)
   exact h2.lt (fy.lt t) (fun i hi=>by rw[if_pos hi])
  ·obtain⟨c,hc,jm⟩:=aaf _ _ _ _ (h.fr t) e
   rw[hc];exact .ofC jm
 ·obtain⟨blk,cur,e1,e2,e3,e4,e5,e7⟩:=h.bx i (ce hi fy.nb)
  refine⟨blk,cur,by rw[if_pos hi];exact e1,e2,e3.congr (fy.bl i hi) (Wa (fy.bx i hi 0)),by rw[fy.bl i hi];exact e4,fun j=>?_,fun o ho=>?_⟩
  ·rcases fy.bx i hi j with e | e
   ·have:=kp _ _ _ (fun b hb=>⟨_,hb⟩) (e5 j)
    rw[← e] at this
    have bB:((s'.bx i).getD j .un).lt s'.nb:=by
     by_cases hj:j<(s'.bx i).length
     ·have:(s'.bx i).getD j .un=(s'.bx i)[j]:=by simp[List.getD,hj]
      rw[this];exact fy.blt i hi _ (aF hj)
     ·have:(s'.bx i).getD j .un=.un:=by simp[List.getD,co (dX hj)]
      rw[this];exact trivial
    have h2:=this.lt (β':=fun i=>if i<s'.nb then β i else none) bB (fun i hi=>by rw[if_pos hi])
    simpa only[ob',if_pos hi] using h2
   ·obtain⟨c,hc,jm⟩:=aaf _ _ _ _ (e5 j) e
    rw[hc];exact .ofC jm
  ·rcases ho with ho | ⟨i',rS,_,hb⟩
   ·exact e7 o ho
   ·have:=h.binj i i' blk e1 hb
    omega
