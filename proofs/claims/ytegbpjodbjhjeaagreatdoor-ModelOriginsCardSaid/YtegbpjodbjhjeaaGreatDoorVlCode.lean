/- Values without memory: boxes: variables that lie in memory. -/
import Derived.Test.YtegbpjodbjhjeaaGreatDoorVlSound10
import Derived.Maps.RangeRun
import Derived.OrdersIn
import Derived.LoopNIn
import Derived.RangeFuncLeaves
import Derived.LoopN
set_option linter.all false
namespace Go.Vl
open Go Go.RowKit
section
variable {P:Program} {G:Gl} {tr:List Nat} {n:Nat} {I0:Ft} {M:Mx} {w0:World} {I:Ft} {β:Nat→Option Nat} {ob:Loc→Option Nat} {s:S} {a:Act} {w:World} {o:Oper}
 {next:Act→World→Prop} {Q:Exit→Act→World→Prop} {base:Nat→Prop} {v:Value} {x y:V}
theorem PR.oneCell {c:V} (h:PR I β w v c):v.oneCell'=true:=by
 cases c<;>simp only[PR] at h
 ·exact h.oneCell
 ·exact h.2.1.oneCell
 ·obtain⟨_,_,rfl⟩:=h;rfl
 ·obtain⟨_,_,_,_,_,_,_,rfl⟩:=h;rfl
 ·obtain⟨_,_,rfl⟩:=h;rfl
 ·obtain⟨_,_,rfl⟩:=h;rfl
 ·obtain⟨_,_,rfl⟩:=h;rfl
theorem LR.oneCell {c:V} {ox:Option Nat} (h:LR base I β w ox v c) (hc:c.one=true):v.oneCell'=true∧v.cells=#[v]:=by
 cases c<;>simp only[V.one] at hc<;>try cases hc
 ·exact⟨h.toC.oneCell,h.toC.notAgg⟩
 ·exact⟨h.1.oneCell,h.1.notAgg⟩
 ·obtain⟨_,_,rfl⟩:=h;exact⟨rfl,rfl⟩
 ·obtain⟨_,_,rfl,_⟩:=h;exact⟨rfl,rfl⟩
 ·obtain⟨_,_,_,_,_,_,_,rfl⟩:=h;exact⟨rfl,rfl⟩
 ·obtain⟨_,_,rfl⟩:=h;exact⟨rfl,rfl⟩
 ·obtain⟨_,_,rfl⟩:=h;exact⟨rfl,rfl⟩
 ·obtain⟨_,_,_,_,_,_,_,_,rfl,_⟩:=h;exact⟨rfl,rfl⟩
theorem LR.gs_one {ox:Option Nat} {g:Option Value} {E:Option (TypeId×Nat)} {es:List (List C)} (h:LR base I β w ox v (.gs g E es)):v.oneCell'=true∧v.cells=#[v]:=by
 rcases h.gsO.2 with⟨_,_,_,_,rfl⟩ | ⟨_,_,_,_,_,_,_,rfl,_⟩<;>exact⟨rfl,rfl⟩
theorem Bz {ox:Option Nat} (h:LR base I β w ox v x) {ds:List V} (hx:x.bcells=some ds):v.cells.size=ds.length∧
 (∀ j,LR base I β w (if j=0∧x.isOw=true then ox else none) (v.cells.getD j undef) (ds.getD j .un))∧(∀ u∈v.cells,u.oneCell'=true):=by
 have one:∀ c:V,c.one=true→x=c→ds=[c]→v.cells.size=ds.length∧
  (∀ j,LR base I β w (if j=0∧x.isOw=true then ox else none) (v.cells.getD j undef) (ds.getD j .un))∧(∀ u∈v.cells,u.oneCell'=true):=by
  rintro c hc rfl rfl
  obtain⟨h1,h2⟩:=h.oneCell hc
  rw[h2]
  refine⟨rfl,fun j=>?_,by simpa using h1⟩
  cases j with
  |zero=>
   show LR base I β w _ v x
   by_cases ho:x.isOw=true
   ·rw[if_pos ⟨rfl,ho⟩];exact h
   ·rw[if_neg (by simp[ho])];exact h.other (by simpa using ho)
  |succ j=>simp only[dK,jH,LR];exact .un _
 cases x<;>simp only[V.bcells] at hx<;>try cases hx
 ·exact one (.c _) rfl rfl rfl
 ·rename_i cs
  obtain⟨vs,rfl,h1,h2⟩:=h.agg
  refine⟨by simpa[Value.cells] using h1,fun j=>?_,fun u hu=>?_⟩
  ·rw[if_neg (by simp[V.isOw])]
   simp only[Value.cells]
   by_cases hj:j<cs.length
   ·have:((cs.map V.c).getD j .un)=.c cs[j]:=by simp[List.getD,hj]
    rw[this]
    exact .ofC (h2 j _ (aj hj))
   ·have:((cs.map V.c).getD j .un)=.un:=by simp[List.getD,b8 (dP hj)]
    rw[this];simp only[LR];exact .un _
  ·obtain⟨j,hj,rfl⟩:=fk.1 hu
   simp only[Value.cells] at hj
   have:=(h2 j _ (aj (by omega))).oneCell
   simpa[Value.cells,ay hj,hj] using this
 ·exact one (.ow _ _) rfl rfl rfl
 ·exact one (.bp _ _) rfl rfl rfl
 ·exact one (.clo _ _ _) rfl rfl rfl
 ·exact one (.ms _ _ _ _ _) rfl rfl rfl
 ·simp only[LR] at h
  obtain⟨cells,rfl,h1,h2⟩:=h
  refine⟨by simpa[Value.cells] using h1,fun j=>?_,fun u hu=>?_⟩
  ·rw[if_neg (by simp[V.isOw])]
   simp only[Value.cells]
   by_cases hj:j<ds.length
   ·have:(ds.getD j .un)=ds[j]:=by simp[List.getD,hj]
    rw[this]
    exact(h2 j _ (aj hj)).toLR
   ·have:(ds.getD j .un)=.un:=by simp[List.getD,b8 (dP hj)]
    rw[this];simp only[LR];exact .un _
  ·obtain⟨j,hj,rfl⟩:=fk.1 hu
   simp only[Value.cells] at hj
   have:=(h2 j _ (aj (by omega))).oneCell
   simpa[Value.cells,ay hj,hj] using this
 ·exact one (.mr _) rfl rfl rfl
 ·exact one (.yl _) rfl rfl rfl
 ·exact one (.hh _ _ _) rfl rfl rfl
 ·obtain⟨h1,h2⟩:=h.gs_one
  rw[h2]
  refine⟨rfl,fun j=>?_,by simpa using h1⟩
  cases j with
  |zero=>rw[if_pos ⟨rfl,rfl⟩];exact h
  |succ j=>simp only[dK,jH,LR];exact .un _
 ·have hb:=h
  simp only[LR] at hb
  obtain⟨blk,e1,rfl⟩:=hb
  refine⟨rfl,fun j=>?_,by simp[Value.cells,Value.oneCell']⟩
  cases j with
  |zero=>rw[if_neg (by simp[V.isOw])];exact h.other rfl
  |succ j=>simp only[dK,jH,LR];exact .un _
theorem BA {ox:Option Nat} (h:LR base I β w ox v x) {ds:List V} (hx:x.bcells=some ds):∀ d∈ds,d.isMk=false:=by
 cases x<;>simp only[V.bcells] at hx<;>try cases hx
 ·simp[V.isMk]
 ·simp[V.isMk]
 ·simp[V.isMk]
 ·simp[V.isMk]
 ·simp[V.isMk]
 ·simp[V.isMk]
 ·simp only[LR] at h
  obtain⟨cells,rfl,h1,h2⟩:=h
  intro d hd
  obtain⟨j,hj,rfl⟩:=iJ hd
  have:=h2 j _ (aj hj)
  cases hc:ds[j]<;>first | rfl | (rw[hc] at this;exact this.elim)
 ·simp[V.isMk]
 ·simp[V.isMk]
 ·simp[V.isMk]
 ·simp[V.isMk]
 ·simp[V.isMk]
theorem yN {l:List V} (h:∀ d∈l,d.isMk=false):cX l=false:=by
 cases l with
 |nil=>rfl
 |cons x l=>exact h x (by simp)
theorem ME {l ds:List V} {k:Nat} (h:cX l=false) (h2:∀ d∈ds,d.isMk=false) (hk:k≤l.length):cX (eU l k ds)=false:=by
 unfold cX eU at *
 cases k with
 |succ k=>cases l with
  |nil=>simp at hk
  |cons x l=>simpa using h
 |zero=>cases ds with
  |nil=>simpa using h
  |cons d ds=>exact h2 d (by simp)
theorem St.newBox (h:St G n I0 M w0 I β ob s a w) {cur:Array Value} {T:RT} {cs:List V} {od:Nat→Option Nat} (dR:cs.length≤cur.size) (hT:T.ok cur.size)
 (hc:∀ j,LR (Wr M w0) I β w (od j) (cur.getD j undef) (cs.getD j .un)) (h1:∀ u∈cur,u.oneCell'=true)
 (H3:∀ j b,od j=some b→(b<w.heap.size∧Wr M w0 b)∧(∀ L,ob L≠some b)∧∀ i,β i≠some b) (pE:∀ j j' b,od j=some b→od j'=some b→j=j') (iZ:cX cs=false) :
 St G n I0 M w0 I (up β s.nb (some w.heap.size)) (fun L=>match L with | .b i j=>if i=s.nb then od j else ob (.b i j) | L=>ob L)
  { s with bx:=up s.bx s.nb cs,nb:=s.nb+1 } a (w.alloc (.cells cur T.t T.fz)):=by
 have hs:=h.allocOwn (.cells cur T.t T.fz)
 have hβ:∀ i b,β i=some b→up β s.nb (some w.heap.size) i=some b:=fun i b hi=>by
  have:i≠s.nb:=fun e=>by rw[h.bnone i (by omega)] at hi;cases hi
  rw[cZ _ _ this];exact hi
 have j4:∀ (o':Option Nat),(∀ b,o'=some b→b<w.heap.size)→∀ b,o'=some b→(w.alloc (.cells cur T.t T.fz)).heap[b]?=w.heap[b]?∧∀ k,I b k→I b k:=fun o' ho b hb=>
  ⟨dZ w _ b (ho b hb),fun _ h=>h⟩
 have hI:∀ b k,I b k→I b k∧(w.alloc (.cells cur T.t T.fz)).cell? ⟨b,k,none⟩=w.cell? ⟨b,k,none⟩:=fun b k hb=>⟨hb,dN (a:=⟨b,k,none⟩) (dZ w _ b (h.ibnd b k hb))⟩
 have jb:=h.fresh (ae _)
 exact {
  size:=h.size,defers:=h.defers,below:=hs.below,kept:=hs.kept,ilow:=h.ilow,ihigh:=h.ihigh,ibnd:=hs.ibnd
  fr:=fun t=>(h.fr t).mono hI hβ (j4 _ fun b hb=>(h.obnd _ b hb).1)
  bx:=fun i hi=>by
   by_cases fy:i=s.nb
   ·subst fy
    refine⟨w.heap.size,cur,by simp,.inl h.below.size,.of (fq w _) h1 hT (by simpa using iZ),by simpa using dR,fun j=>?_,fun k hk=>?_⟩
    ·simp only[cn,cJ]
     exact(hc j).mono hI hβ (j4 _ fun b hb=>(H3 j b hb).1.1)
    ·have:=h.ibnd _ _ hk;omega
   ·obtain⟨blk,cur',e1,e2,e3,e4,e5,e7⟩:=h.bx i (by simp only at hi;omega)
    have bF:blk<w.heap.size:=e3.lt
    refine⟨blk,cur',hβ i blk e1,e2,by simpa only[cZ _ _ fy] using e3.mono (dZ w _ blk bF),by simpa only[cZ _ _ fy] using e4,fun j=>?_,e7⟩
    simp only[cZ _ _ fy,if_neg fy]
    exact(e5 j).mono hI hβ (j4 _ fun b hb=>(h.obnd _ b hb).1)
  bnone:=fun i hi=>by
   simp only at hi
   rw[cZ _ _ (by omega)]
   exact h.bnone i (by omega)
  ext:=fun i b he=>hβ i b (h.ext i b he)
  bnew:=fun i b hi=>by
   by_cases h1:i=s.nb
   ·subst h1;rw[cn] at hi;cases hi;exact .inr (.inl h.below.size)
   ·rw[cZ _ _ h1] at hi;exact h.bnew i b hi
  binj:=fun i j b hi hj=>by
   by_cases h1:i=s.nb<;>by_cases h2:j=s.nb
   ·rw[h1,h2]
   ·subst h1;rw[cn] at hi;cases hi;rw[cZ _ _ h2] at hj;exact absurd hj (jb.2 j)
   ·subst h2;rw[cn] at hj;cases hj;rw[cZ _ _ h1] at hi;exact absurd hi (jb.2 i)
   ·rw[cZ _ _ h1] at hi;rw[cZ _ _ h2] at hj;exact h.binj i j b hi hj
  oinj:=fun L L' b hL wE=>by
   have key:∀ L,(match L with | .b i j=>if i=s.nb then od j else ob (.b i j) | L=>ob L)=some b→(∃ j,L=.b s.nb j∧od j=some b)∨ob L=some b:=fun L hL=>by
    cases L with
    |t i=>exact .inr hL
    |b i j=>
     simp only at hL
     split at hL
     ·rename_i e;exact .inl ⟨j,by rw[e],hL⟩
     ·exact .inr hL
   rcases key L hL with⟨j,rfl,hj⟩ | h1<;>rcases key L' wE with⟨j',rfl,YQ⟩ | h2
   ·rw[pE j j' b hj YQ]
   ·exact absurd h2 ((H3 j b hj).2.1 L')
   ·exact absurd h1 ((H3 j' b YQ).2.1 L)
   ·exact h.oinj L L' b h1 h2
  obx:=fun L b i hL hi=>by
   have key:((∃ j,L=.b s.nb j∧od j=some b)∨ob L=some b):=by
    cases L with
    |t i=>exact .inr hL
    |b i' j=>
     simp only at hL
     split at hL
     ·rename_i e;exact .inl ⟨j,by rw[e],hL⟩
     ·exact .inr hL
   by_cases fy:i=s.nb
   ·subst fy;rw[cn] at hi;cases hi
    rcases key with⟨j,_,hj⟩ | hj
    ·have:=(H3 j _ hj).1.1;omega
    ·exact jb.1 L hj
   ·rw[cZ _ _ fy] at hi
    rcases key with⟨j,_,hj⟩ | hj
    ·exact(H3 j b hj).2.2 i hi
    ·exact h.obx L b i hj hi
  obnd:=fun L b hL=>by
   have key:((∃ j,L=.b s.nb j∧od j=some b)∨ob L=some b):=by
    cases L with
    |t i=>exact .inr hL
    |b i' j=>
     simp only at hL
     split at hL
     ·rename_i e;exact .inl ⟨j,by rw[e],hL⟩
     ·exact .inr hL
   rw[dY]
   rcases key with⟨j,_,hj⟩ | hj
   ·have:=(H3 j b hj).1;exact⟨by omega,this.2⟩
   ·have:=h.obnd L b hj;exact⟨by omega,this.2⟩
  glob:=fun g cs hg=>(h.glob g cs hg).mono hI }
theorem HB.same {w:World} {blk:Nat} {c1 c2:Array Value} {l:List V} (hm:cX l=false) (h1:HB w blk c1 l) (h2:HB w blk c2 l):c1=c2:=by
 obtain⟨T1,e1,_⟩:=h1.cells hm
 obtain⟨T2,e2,_⟩:=h2.cells hm
 rw[e1] at e2
 simp only[am,Obj.cells.injEq] at e2
 exact e2.1
theorem St.recell (h:St G n I0 M w0 I β ob s a w) {b k blk:Nat} {x x':V} (hb:b<s.nb) (hk:(s.bx b)[k]?=some x) (hxm:x.isMk=false) (E3:x'.isMk=false) (j4:ob (.b b k)=some blk)
 {w':World} (hg:w.grb w' (some blk)) (d5:∀ o,I blk o→w'.cell? ⟨blk,o,none⟩=w.cell? ⟨blk,o,none⟩) {I':Ft} (h1:∀ b o,I b o→I' b o) (h2:∀ b o,I' b o→I b o∨b=blk)
 (ET:∀ b1 cur,β b=some b1→HB w b1 cur (s.bx b)→LR (Wr M w0) I β w (some blk) (cur.getD k undef) x→LR (Wr M w0) I' β w' (some blk) (cur.getD k undef) x') :
 St G n I0 M w0 I' β ob { s with bx:=up s.bx b ((s.bx b).set k x') } a w':=by
 have E1:=h.obnd _ _ j4
 have nH:=h.keeps hg (fun r e o ho=>by cases e;exact d5 o ho)
 have hI:∀ b o,I b o→I' b o∧w'.cell? ⟨b,o,none⟩=w.cell? ⟨b,o,none⟩:=fun b o hb=>⟨h1 b o hb,nH b o hb⟩
 have wz:∀ c,c≠blk→c<w.heap.size→w'.heap[c]?=w.heap[c]?∧∀ o,I' c o→I c o:=fun c hc bF=>by
  refine⟨hg.block c bF (by simpa using hc),fun o ho=>?_⟩
  rcases h2 c o ho with h5 | h5
  ·exact h5
  ·exact absurd h5 hc
 have uS:∀ L,L≠.b b k→∀ c,ob L=some c→w'.heap[c]?=w.heap[c]?∧∀ o,I' c o→I c o:=fun L hL c hc=>
  wz c (fun e=>hL (h.oinj _ _ blk (e▸hc) j4)) (h.obnd L c hc).1
 have qF:k<(s.bx b).length:=(ak.1 hk).1
 have sO:(s.bx b).getD k .un=x:=by simp[List.getD,hk]
 exact {
  size:=h.size,defers:=h.defers
  below:=h.below.grown hg (fun q e=>by cases e;exact E1.2)
  kept:=fun b o h0=>(nH b o (h.ilow b o h0)).trans (h.kept b o h0)
  ilow:=fun b o hb=>h1 b o (h.ilow b o hb)
  ihigh:=fun b o hb=>by
   rcases h2 b o hb with h3 | h3
   ·exact h.ihigh b o h3
   ·subst h3;exact .inr E1.2
  ibnd:=fun b o hb=>by
   rcases h2 b o hb with h3 | h3
   ·exact bW (h.ibnd b o h3) hg.size
   ·subst h3;exact bW E1.1 hg.size
  fr:=fun t=>(h.fr t).mono hI (fun _ _ e=>e) (uS (.t t) (by simp))
  bx:=fun i hi=>by
   obtain⟨b1,cur,e1,e2,e3,e4,e5,e7⟩:=h.bx i hi
   have gv:b1≠blk:=fun e=>h.obx _ _ i j4 (e▸e1)
   obtain⟨q1,q2⟩:=wz b1 gv e3.lt
   by_cases sR:i=b
   ·subst sR
    refine⟨b1,cur,e1,e2,?_,by simp only[cn,iC];exact e4,fun j=>?_,fun o ho=>e7 o (q2 o ho)⟩
    ·simp only[cn]
     refine (e3.mono q1).congr (by simp) ?_
     by_cases sS:k=0
     ·subst sS
      have g1:((s.bx i).set 0 x').getD 0 .un=x':=by simp[List.getD,qF]
      rw[hZ (by unfold cX;rw[g1];exact E3),hZ (by unfold cX;rw[sO];exact hxm)]
     ·have:((s.bx i).set k x').getD 0 .un=(s.bx i).getD 0 .un:=by simp[List.getD,dj sS]
      unfold nI
      rw[this]
    ·simp only[cn]
     by_cases hjk:j=k
     ·subst hjk
      have:((s.bx i).set j x').getD j .un=x':=by simp[List.getD,qF]
      rw[this,j4]
      have h5:=e5 j
      rw[sO,j4] at h5
      exact ET b1 cur e1 e3 h5
     ·have:((s.bx i).set k x').getD j .un=(s.bx i).getD j .un:=by simp[List.getD,dj (fM hjk)]
      rw[this]
      exact(e5 j).mono hI (fun _ _ e=>e) (uS (.b i j) (by simp[hjk]))
   ·refine⟨b1,cur,e1,e2,by simp only[cZ _ _ sR];exact e3.mono q1,by simp only[cZ _ _ sR];exact e4,fun j=>?_,fun o ho=>e7 o (q2 o ho)⟩
    simp only[cZ _ _ sR]
    exact(e5 j).mono hI (fun _ _ e=>e) (uS (.b i j) (by simp[sR]))
  bnone:=h.bnone,ext:=h.ext,bnew:=h.bnew,binj:=h.binj,oinj:=h.oinj,obx:=h.obx
  obnd:=fun L c q1=>⟨bW (h.obnd L c q1).1 hg.size,(h.obnd L c q1).2⟩
  glob:=fun g cs Ud=>(h.glob g cs Ud).mono hI }
theorem vl (w:World) (row:Option Nat):w.grb w row:=⟨rfl,rfl,rfl,ae _,fun _ _ _=>rfl,ae _⟩
theorem St.hotCell (h:St G n I0 M w0 I β ob s a w) {b k:Nat} {g:Option Value} {E:Option (TypeId×Nat)} {es:List (List C)} (hb:b<s.nb) (hk:(s.bx b)[k]?=some (.hh g E es)):∃ blk cur b1,ob (.b b k)=some blk∧β b=some b1∧HB w b1 cur (s.bx b)∧
 LR (Wr M w0) I β w (some blk) (cur.getD k undef) (.hh g E es):=by
 obtain⟨b1,cur,e1,e2,e3,e4,e5,e7⟩:=h.bx b hb
 have h5:=e5 k
 have sO:(s.bx b).getD k .un=.hh g E es:=by simp[List.getD,hk]
 rw[sO] at h5
 obtain⟨_,e,blk,cap,c2,sz,q1,_⟩:=h5.hot
 rw[q1] at h5
 exact⟨blk,cur,b1,q1,e1,e3,h5⟩
theorem St.name (h:St G n I0 M w0 I β ob s a w) {b k:Nat} {g:Option Value} {E:Option (TypeId×Nat)} {es:List (List C)} (hb:b<s.nb) (iZ:cX (s.bx b)=false) (hk:(s.bx b)[k]?=some (.hh g E es)) :
 ∃ blk cap,St G n I0 M w0 I β ob (s.name b k (.slice (some ⟨blk,0,none⟩) es.length cap) E es) a w:=by
 obtain⟨blk,cur,b1,q1,q2,q3,q4⟩:=h.hotCell hb hk
 have q4':=q4
 obtain⟨_,e,qC,cap,c2,sz,r1,r2,r3,_⟩:=q4.hot
 cases r1
 refine⟨blk,cap,?_⟩
 exact h.recell hb hk rfl rfl q1 (vl w _) (fun _ _=>rfl) (fun _ _ h=>h) (fun _ _ h=>.inl h) fun b2 cur2 f1 f2 f3=>by
  rw[q2] at f1;cases f1
  cases q3.same iZ f2
  exact⟨fun u hu=>by cases hu;exact r3,f3.hot.2⟩
theorem Zc {es:List (List C)} {sz:Nat} (h:∀ x∈es,x.length=sz):∀ x∈es.map (·.map C.wk),x.length=sz:=fun x hx=>by
 obtain⟨y,hy,rfl⟩:=bu.1 hx
 rw[ap];exact h y hy
theorem CR.wk {I:Ft} {w:World} {v:Value} {c:C} (h:CR I w v c):CR I w v c.wk:=by
 cases c with
 |sx es=>exact h.sx_inv.1
 |_=>exact h
theorem US {es:List (List C)}:(es.map (·.map C.wk)).flatten=es.flatten.map C.wk:=by
 induction es with
 |nil=>rfl
 |cons x l ih=>simp only[aL,dQ,dG,ih]
theorem St.cool (h:St G n I0 M w0 I β ob s a w) {b k:Nat} {g:Option Value} {E:Option (TypeId×Nat)} {es:List (List C)} (hb:b<s.nb) (hk:(s.bx b)[k]?=some (.hh g E es)):SE G n I0 M w0 (s.cool b k E es) a w:=by
 obtain⟨blk,cur,b1,q1,q2,q3,q4⟩:=h.hotCell hb hk
 obtain⟨_,e,qC,cap,c2,sz,r1,r2,r3,r4,r5,r6,r7,r8,r9,r10,r11,r12⟩:=q4.hot
 cases r1
 refine⟨fun b' o=>I b' o∨(b'=blk∧o<es.length*sz),β,ob,h.recell hb hk rfl rfl q1 (vl w _) (fun _ _=>rfl) (fun _ _ h=>.inl h) (fun b' o h=>?_) fun b2 cur2 f1 f2 f3=>?_⟩
 ·rcases h with h | h
  ·exact .inl h
  ·exact .inr h.1
 ·obtain⟨_,e',blk2,cap',c3,sz',s1,s2,s3,s4,s5,s6,s7,s8,s9,s10,s11,s12⟩:=f3.hot
  cases s1
  rw[r2] at s2;cases s2
  rw[r5] at s5
  simp only[am,Obj.cells.injEq] at s5
  obtain⟨rfl,_⟩:=s5
  rw[s3]
  have hwl:=Zc r9
  have mK:(es.map (·.map C.wk)).flatten.length=es.length*sz:=by rw[bz _ hwl,ap]
  have ja:CR (fun b' o=>I b' o∨(b'=blk∧o<es.length*sz)) w (.slice (some ⟨blk,0,none⟩) es.length cap') (.sl (es.map (·.map C.wk))):=by
   have:=CR.row (I':=fun b' o=>I b' o∨(b'=blk∧o<es.length*sz)) (cap:=cap') (es:=es.map (·.map C.wk)) (sz:=sz) r5 (by rw[ap];exact s6) hwl (fun q c hq=>by
    rw[US,ba,aX] at hq
    obtain⟨c0,hc0,rfl⟩:=hq
    have h0:=(ak.1 hc0).1
    rw[bz _ r9] at h0
    have h1:=aP sz s6
    refine⟨by rw[s8];omega,((r10 q c0 hc0).wk).mono fun b o h=>⟨.inl h,rfl⟩⟩) (fun o ho=>.inr ⟨rfl,by rw[ap] at ho;exact ho⟩)
   rw[ap] at this
   exact this
  simp only[LR]
  refine⟨ja,.inr ⟨e,blk,cap',c2,sz,rfl,r2,by rw[ap],r4,r5,by rw[ap];exact s6,s7,s8,hwl,fun o ho=>?_⟩⟩
  rw[ap]
  rcases ho with ho | ho
  ·have h1:=r12 o ho
   exact bW h1 (aP _ (Nat.sub_le _ _))
  ·exact ho.2
theorem St.setBox (h:St G n I0 M w0 I β ob s a w) {i k blk:Nat} {cur:Array Value} {T:RT} {vs:List Value} {ds:List V} {od:Nat→Option Nat} (hi:i<s.nb) (hβ:β i=some blk)
 (fQ:w.heap[blk]?=some (.cells cur T.t T.fz)) (hT:T.ok cur.size) (ce:vs.length=ds.length) (ri:k+ds.length≤(s.bx i).length)
 (hc:∀ j,LR (Wr M w0) I β w (od j) (vs.getD j undef) (ds.getD j .un)) (h1:∀ u∈vs,u.oneCell'=true)
 (H3:∀ j b,od j=some b→(b<w.heap.size∧Wr M w0 b)∧(∀ L,ob L≠some b)∧∀ i,β i≠some b) (pE:∀ j j' b,od j=some b→od j'=some b→j=j') (iZ:cX (s.bx i)=false) (hmd:∀ d∈ds,d.isMk=false) :
 St G n I0 M w0 I β (fun L=>match L with | .b i' j=>if i'=i∧k≤j∧j<k+ds.length then od (j - k) else ob (.b i' j) | L=>ob L)
  { s with bx:=up s.bx i (eU (s.bx i) k ds) } a (w.setRow blk (cur.toList.take k++vs++cur.toList.drop (k+vs.length)).toArray):=by
 obtain⟨qC,cur',e1,e2,e3,e4,e5,e7⟩:=h.bx i hi
 obtain⟨T',e3,e6⟩:=e3.cells iZ
 rw[hβ] at e1;cases e1
 rw[fQ] at e3
 simp only[am,Obj.cells.injEq] at e3
 obtain⟨rfl,_,_⟩:=e3
 have uU:blk<w.heap.size:=(be.1 fQ).1
 have mL:cur.toList.length=cur.size:=bJ
 have hg:w.grb (w.setRow blk (cur.toList.take k++vs++cur.toList.drop (k+vs.length)).toArray) (some blk):=
  ⟨rfl,rfl,rfl,by simp,fun q _ hq=>jy w blk q _ (fun e=>hq (by rw[e])),ae _⟩
 have nH:=h.keeps hg (fun r e o ho=>by cases e;exact absurd ho (e7 o))
 have hI:∀ b q,I b q→I b q∧(w.setRow blk (cur.toList.take k++vs++cur.toList.drop (k+vs.length)).toArray).cell? ⟨b,q,none⟩=w.cell? ⟨b,q,none⟩:=fun b q hb=>⟨hb,nH b q hb⟩
 have j4:∀ (o':Option Nat),(∀ b,o'=some b→∀ i,β i≠some b)→∀ b,o'=some b→(w.setRow blk (cur.toList.take k++vs++cur.toList.drop (k+vs.length)).toArray).heap[b]?=w.heap[b]?∧∀ q,I b q→I b q:=
  fun o' ho b hb=>⟨jy w blk b _ (fun e=>ho b hb i (by rw[e];exact hβ)),fun _ h=>h⟩
 have key:∀ L b,(match L with | .b i' j=>if i'=i∧k≤j∧j<k+ds.length then od (j - k) else ob (.b i' j) | L=>ob L)=some b→
  (∃ j,L=.b i (k+j)∧od j=some b)∨ob L=some b:=fun L b hL=>by
  cases L with
  |t i=>exact .inr hL
  |b i' j=>
   simp only at hL
   split at hL
   ·rename_i e;exact .inl ⟨j - k,by rw[e.1];congr 1;omega,hL⟩
   ·exact .inr hL
 exact {
  size:=h.size,defers:=h.defers
  below:=h.below.grown hg (fun q e=>by cases e;exact e2)
  kept:=fun b o h0=>(nH b o (h.ilow b o h0)).trans (h.kept b o h0)
  ilow:=h.ilow,ihigh:=h.ihigh
  ibnd:=fun b q hb=>by simpa using h.ibnd b q hb
  fr:=fun t=>(h.fr t).mono hI (fun _ _ e=>e) (j4 _ fun b hb i=>h.obx _ b i hb)
  bx:=fun i' rj=>by
   by_cases hii:i'=i
   ·subst hii
    refine⟨blk,_,hβ,e2,.of (kY w blk cur _ T.t _ fQ) (fun u hu=>?_) ?_ (by simpa only[cn] using ME iZ hmd (by omega)),?_,fun j=>?_,e7⟩
    rotate_left
    ·have:(cur.toList.take k++vs++cur.toList.drop (k+vs.length)).toArray.size=cur.size:=by
      simp only[ea,ax,aZ,cY,mL];omega
     rw[this];exact hT
    ·simp only[cn,eU,ea,ax,aZ,cY,mL];omega
    ·have aeA:((cur.toList.take k++vs++cur.toList.drop (k+vs.length)).toArray.getD j undef)=if k≤j∧j<k+ds.length then vs.getD (j - k) undef else cur.getD j undef:=by
      rw[ao,cM]
      have EU:(cur.toList.take k).length=k:=by rw[aZ,mL];omega
      by_cases ha:j<k
      ·rw[if_neg (by omega),bU,aC (by omega),cu,if_pos ha,aQ,← ao]
      ·by_cases hb:j<k+ds.length
       ·rw[if_pos ⟨by omega,hb⟩,bU,aJ (by omega),EU,aC (by omega),aA]
       ·rw[if_neg (by omega),aJ (by rw[ax,EU];omega),bX,ax,EU,aQ,
         show k+vs.length+(j - (k+vs.length))=j by omega,← ao]
     have aeB:(eU (s.bx i') k ds).getD j .un=if k≤j∧j<k+ds.length then ds.getD (j - k) .un else(s.bx i').getD j .un:=by
      unfold eU
      rw[aA]
      have EU:((s.bx i').take k).length=k:=by rw[aZ];omega
      by_cases ha:j<k
      ·rw[if_neg (by omega),bU,aC (by omega),cu,if_pos ha,← aA]
      ·by_cases hb:j<k+ds.length
       ·rw[if_pos ⟨by omega,hb⟩,bU,aJ (by omega),EU,aC (by omega),aA]
       ·rw[if_neg (by omega),aJ (by rw[ax,EU];omega),bX,ax,EU,
         show k+ds.length+(j - (k+ds.length))=j by omega,← aA]
     simp only[cn]
     rw[aeA,aeB]
     by_cases fy:k≤j∧j<k+ds.length
     ·rw[if_pos fy,if_pos fy,if_pos ⟨trivial,fy⟩]
      exact(hc (j - k)).mono hI (fun _ _ e=>e) (j4 _ fun b hb=>(H3 _ b hb).2.2)
     ·rw[if_neg fy,if_neg fy,if_neg (fun e=>fy e.2)]
      exact(e5 j).mono hI (fun _ _ e=>e) (j4 _ fun b hb i=>h.obx _ b i hb)
    ·simp only[fF,aY] at hu
     rcases hu with(hu | hu) | hu
     ·exact e6.1 u (by simpa using cz hu)
     ·exact h1 u hu
     ·exact e6.1 u (by simpa using cK hu)
   ·obtain⟨b2,c2,q1,q2,q3,q4,q5,q7⟩:=h.bx i' rj
    have gv:b2≠blk:=fun e=>hii (h.binj i' i blk (by rw[← e];exact q1) hβ)
    refine⟨b2,c2,q1,q2,by simpa only[cZ _ _ hii] using q3.mono (jy w blk b2 _ gv),by simpa only[cZ _ _ hii] using q4,fun j=>?_,q7⟩
    simp only[cZ _ _ hii]
    rw[if_neg (fun e=>hii e.1)]
    exact(q5 j).mono hI (fun _ _ e=>e) (j4 _ fun b hb i=>h.obx _ b i hb)
  bnone:=h.bnone,ext:=h.ext,bnew:=h.bnew,binj:=h.binj
  oinj:=fun L L' b hL wE=>by
   rcases key L b hL with⟨j,rfl,hj⟩ | h1<;>rcases key L' b wE with⟨j',rfl,YQ⟩ | h2
   ·rw[pE j j' b hj YQ]
   ·exact absurd h2 ((H3 j b hj).2.1 L')
   ·exact absurd h1 ((H3 j' b YQ).2.1 L)
   ·exact h.oinj L L' b h1 h2
  obx:=fun L b q hL=>by
   rcases key L b hL with⟨j,_,hj⟩ | hj
   ·exact(H3 j b hj).2.2 q
   ·exact h.obx L b q hj
  obnd:=fun L b hL=>by
   rw[size_setRow]
   rcases key L b hL with⟨j,_,hj⟩ | hj
   ·exact(H3 j b hj).1
   ·exact h.obnd L b hj
  glob:=fun g cs Ud=>(h.glob g cs Ud).mono hI }
theorem St.boxblk (hst:St G n I0 M w0 I β ob s a w) {i b:Nat} (h:β i=some b):i<s.nb∧Wr M w0 b∧b<w.heap.size:=by
 by_cases hi:i<s.nb
 ·obtain⟨blk,cur,e1,e2,e3,_⟩:=hst.bx i hi
  rw[h] at e1;cases e1
  exact⟨hi,e2,e3.lt⟩
 ·rw[hst.bnone i (by omega)] at h;cases h
end
section
variable {P:Program} {G:Gl} {tr:List Nat} {n:Nat} {I0:Ft} {M:Mx} {w0:World} {I:Ft} {β:Nat→Option Nat} {ob:Loc→Option Nat} {s:S} {a:Act} {w:World} {o:Oper}
 {next:Act→World→Prop} {Q:Exit→Act→World→Prop} {base:Nat→Prop} {v:Value} {x y:V}
def World.putObj (w:World) (r:Nat) (o:Obj):World:={ w with heap:=w.heap.setIfInBounds r o }
theorem nn {r:Nat} {o:Obj} (h:r<w.heap.size):(World.putObj w r o).heap[r]?=some o:=by simp[World.putObj,h]
theorem oa {r q:Nat} {o:Obj} (h:q≠r):(World.putObj w r o).heap[q]?=w.heap[q]?:=by simp[World.putObj,fM h]
theorem putObj_size {r:Nat} {o:Obj}:(World.putObj w r o).heap.size=w.heap.size:=by simp[World.putObj]
theorem qM (r:Nat) (o:Obj):w.grb (World.putObj w r o) (some r):=
 ⟨rfl,rfl,rfl,by simp[World.putObj],fun q _ hq=>oa (fun e=>hq (by rw[e])),ae _⟩
theorem St.reBox (h:St G n I0 M w0 I β ob s a w) {i blk:Nat} {o:Obj} {cur:Array Value} {l:List V} (hi:i<s.nb) (hβ:β i=some blk)
 (hHB:HB (World.putObj w blk o) blk cur l) (hl:l.length≤cur.size) {od:Nat→Option Nat} (hc:∀ j,LR (Wr M w0) I β w (od j) (cur.getD j undef) (l.getD j .un))
 (H3:∀ j b,od j=some b→ob (.b i j)=some b) :
 St G n I0 M w0 I β (fun L=>match L with | .b i' j=>if i'=i then od j else ob (.b i' j) | L=>ob L) { s with bx:=up s.bx i l } a (World.putObj w blk o):=by
 obtain⟨qC,cur',e1,e2,e3,e4,e5,e7⟩:=h.bx i hi
 rw[hβ] at e1;cases e1
 have uU:blk<w.heap.size:=e3.lt
 have hg:=qM (w:=w) blk o
 have nH:=h.keeps hg (fun r e o ho=>by cases e;exact absurd ho (e7 o))
 have hI:∀ b q,I b q→I b q∧(World.putObj w blk o).cell? ⟨b,q,none⟩=w.cell? ⟨b,q,none⟩:=fun b q hb=>⟨hb,nH b q hb⟩
 have j4:∀ (o':Option Nat),(∀ b,o'=some b→∀ i,β i≠some b)→∀ b,o'=some b→(World.putObj w blk o).heap[b]?=w.heap[b]?∧∀ q,I b q→I b q:=
  fun o' ho b hb=>⟨oa (fun e=>ho b hb i (by rw[e];exact hβ)),fun _ h=>h⟩
 have key:∀ L b,(match L with | .b i' j=>if i'=i then od j else ob (.b i' j) | L=>ob L)=some b→ob L=some b:=fun L b hL=>by
  cases L with
  |t i=>exact hL
  |b i' j=>
   simp only at hL
   split at hL
   ·rename_i e;rw[e];exact H3 j b hL
   ·exact hL
 exact {
  size:=h.size,defers:=h.defers
  below:=h.below.grown hg (fun q e=>by cases e;exact e2)
  kept:=fun b o h0=>(nH b o (h.ilow b o h0)).trans (h.kept b o h0)
  ilow:=h.ilow,ihigh:=h.ihigh
  ibnd:=fun b q hb=>by rw[putObj_size];exact h.ibnd b q hb
  fr:=fun t=>(h.fr t).mono hI (fun _ _ e=>e) (j4 _ fun b hb i=>h.obx _ b i hb)
  bx:=fun i' rj=>by
   by_cases hii:i'=i
   ·subst hii
    refine⟨blk,cur,hβ,e2,by simpa only[cn] using hHB,by simpa only[cn] using hl,fun j=>?_,e7⟩
    simp only[cn,cJ]
    exact(hc j).mono hI (fun _ _ e=>e) (j4 _ fun b hb q=>h.obx _ b q (H3 j b hb))
   ·obtain⟨b2,c2,q1,q2,q3,q4,q5,q7⟩:=h.bx i' rj
    have gv:b2≠blk:=fun e=>hii (h.binj i' i blk (by rw[← e];exact q1) hβ)
    refine⟨b2,c2,q1,q2,by simpa only[cZ _ _ hii] using q3.mono (oa gv),by simpa only[cZ _ _ hii] using q4,fun j=>?_,q7⟩
    simp only[cZ _ _ hii,if_neg hii]
    exact(q5 j).mono hI (fun _ _ e=>e) (j4 _ fun b hb i=>h.obx _ b i hb)
  bnone:=h.bnone,ext:=h.ext,bnew:=h.bnew,binj:=h.binj
  oinj:=fun L L' b hL wE=>h.oinj L L' b (key L b hL) (key L' b wE)
  obx:=fun L b q hL=>h.obx L b q (key L b hL)
  obnd:=fun L b hL=>by rw[putObj_size];exact h.obnd L b (key L b hL)
  glob:=fun g cs Ud=>(h.glob g cs Ud).mono hI }
theorem MF {es:List MapEntry} {r:List V} {bs:List Nat} {cl:Nat} {od:Nat→Option Nat} (hr:r.length=2*es.length)
 (h:∀ (j:Nat) (e:MapEntry),es[j]?=some e→LR base I β w (od (2*j+1)) e.key (r.getD (2*j) .un)∧LR base I β w (od (2*j+2)) e.val (r.getD (2*j+1) .un)) (j:Nat) :
 LR base I β w (od j) ((undef::kE es).toArray.getD j undef) ((V.mk bs cl::r).getD j .un):=by
 have hg:∀ q,(undef::kE es).toArray.getD (q+1) undef=((kE es)[q]?).getD undef:=fun q=>by
  simp
 cases j with
 |zero=>simp[LR]
 |succ q=>
  rw[hg]
  simp only[dK]
  by_cases hq:q<r.length
  ·have bF:q / 2<es.length:=by omega
   obtain⟨l1,l2⟩:=h (q / 2) _ (aj bF)
   obtain⟨c1,c2⟩:=qK es (q / 2) _ (aj bF)
   rcases Nat.mod_two_eq_zero_or_one q with hm | hm
   ·have e:2*(q / 2)=q:=by omega
    rw[e] at l1 c1
    rw[c1];exact l1
   ·have e:2*(q / 2)+1=q:=by omega
    rw[show 2*(q / 2)+2=2*(q / 2)+1+1 by omega,e] at l2
    rw[e] at c2
    rw[c2];exact l2
  ·have:r.getD q .un=.un:=by simp[List.getD,b8 (dP hq)]
   rw[this];simp only[LR];exact .un _
theorem St.reMap (h:St G n I0 M w0 I β ob s a w) {i cl blk:Nat} {bs:List Nat} {r:List V} {es:Array MapEntry} (hm:PE P I M w0 β ob s w i bs cl r blk es) {es':Array MapEntry} {cl':Nat} {bs':List Nat} {r':List V}
 (hb:es'.toList.map (·.born)=bs') (hr:r'.length=2*bs'.length) {od:Nat→Option Nat} (H3:∀ j b,od j=some b→ob (.b i j)=some b)
 (agY:∀ (j:Nat) (e:MapEntry),es'.toList[j]?=some e→LR (Wr M w0) I β w (od (2*j+1)) e.key (r'.getD (2*j) .un)∧LR (Wr M w0) I β w (od (2*j+2)) e.val (r'.getD (2*j+1) .un)) :
 ∃ ob',St G n I0 M w0 I β ob' { s with bx:=up s.bx i (.mk bs' cl'::r') } a (World.putObj w blk (.map es' cl')):=by
 have bF:blk<w.heap.size:=(be.1 hm.heap).1
 have ce:es'.toList.length=bs'.length:=by rw[← hb,ap]
 refine⟨_,h.reBox (cur:=(undef::kE es'.toList).toArray) (od:=od) hm.lt hm.bt ?_ ?_ (fun j=>MF (by omega) agY j) H3⟩
 ·unfold HB
  have:nI (V.mk bs' cl'::r')=some (.mp bs' cl'):=rfl
  rw[this]
  exact⟨es',nn bF,hb,rfl,by simp[hr];omega⟩
 ·simp[vj,ce,hr]
theorem rU {l:List V} {i j:Nat} {x:V} (h:i≠j):(l.set i x).getD j .un=l.getD j .un:=by
 simp[List.getD,List.getElem?_set,h]
theorem A3 {l:List V} {i:Nat} {x:V} (h:i<l.length):(l.set i x).getD i .un=x:=by
 simp[List.getD,h]
theorem St.newMap (h:St G n I0 M w0 I β ob s a w) :
 St G n I0 M w0 I (up β s.nb (some w.heap.size)) (fun L=>match L with | .b i j=>if i=s.nb then none else ob (.b i j) | L=>ob L)
  { s with bx:=up s.bx s.nb [.mk [] 0],nb:=s.nb+1 } a (w.alloc (.map #[] 0)):=by
 have hs:=h.allocOwn (.map #[] 0)
 have hβ:∀ i b,β i=some b→up β s.nb (some w.heap.size) i=some b:=fun i b hi=>by
  have:i≠s.nb:=fun e=>by rw[h.bnone i (by omega)] at hi;cases hi
  rw[cZ _ _ this];exact hi
 have j4:∀ (o':Option Nat),(∀ b,o'=some b→b<w.heap.size)→∀ b,o'=some b→(w.alloc (.map #[] 0)).heap[b]?=w.heap[b]?∧∀ k,I b k→I b k:=fun o' ho b hb=>
  ⟨dZ w _ b (ho b hb),fun _ h=>h⟩
 have hI:∀ b k,I b k→I b k∧(w.alloc (.map #[] 0)).cell? ⟨b,k,none⟩=w.cell? ⟨b,k,none⟩:=fun b k hb=>⟨hb,dN (a:=⟨b,k,none⟩) (dZ w _ b (h.ibnd b k hb))⟩
 have jb:=h.fresh (ae _)
 have key:∀ L b,(match L with | .b i j=>if i=s.nb then none else ob (.b i j) | L=>ob L)=some b→ob L=some b:=fun L b hL=>by
  cases L with
  |t i=>exact hL
  |b i j=>
   simp only at hL
   split at hL
   ·cases hL
   ·exact hL
 exact {
  size:=h.size,defers:=h.defers,below:=hs.below,kept:=hs.kept,ilow:=h.ilow,ihigh:=h.ihigh,ibnd:=hs.ibnd
  fr:=fun t=>(h.fr t).mono hI hβ (j4 _ fun b hb=>(h.obnd _ b hb).1)
  bx:=fun i hi=>by
   by_cases fy:i=s.nb
   ·subst fy
    refine⟨w.heap.size,#[undef],by simp,.inl h.below.size,?_,by simp,fun j=>?_,fun k hk=>?_⟩
    ·simp only[cn]
     exact⟨#[],fq w _,rfl,rfl,rfl⟩
    ·simp only[cn,cJ]
     cases j with
     |zero=>simp[LR]
     |succ j=>simp only[dK,jH,LR];exact .un _
    ·have:=h.ibnd _ _ hk;omega
   ·obtain⟨blk,cur',e1,e2,e3,e4,e5,e7⟩:=h.bx i (by simp only at hi;omega)
    have bF:blk<w.heap.size:=e3.lt
    refine⟨blk,cur',hβ i blk e1,e2,by simpa only[cZ _ _ fy] using e3.mono (dZ w _ blk bF),by simpa only[cZ _ _ fy] using e4,fun j=>?_,e7⟩
    simp only[cZ _ _ fy,if_neg fy]
    exact(e5 j).mono hI hβ (j4 _ fun b hb=>(h.obnd _ b hb).1)
  bnone:=fun i hi=>by
   simp only at hi
   rw[cZ _ _ (by omega)]
   exact h.bnone i (by omega)
  ext:=fun i b he=>hβ i b (h.ext i b he)
  bnew:=fun i b hi=>by
   by_cases h1:i=s.nb
   ·subst h1;rw[cn] at hi;cases hi;exact .inr (.inl h.below.size)
   ·rw[cZ _ _ h1] at hi;exact h.bnew i b hi
  binj:=fun i j b hi hj=>by
   by_cases h1:i=s.nb<;>by_cases h2:j=s.nb
   ·rw[h1,h2]
   ·subst h1;rw[cn] at hi;cases hi;rw[cZ _ _ h2] at hj;exact absurd hj (jb.2 j)
   ·subst h2;rw[cn] at hj;cases hj;rw[cZ _ _ h1] at hi;exact absurd hi (jb.2 i)
   ·rw[cZ _ _ h1] at hi;rw[cZ _ _ h2] at hj;exact h.binj i j b hi hj
  oinj:=fun L L' b hL wE=>h.oinj L L' b (key L b hL) (key L' b wE)
  obx:=fun L b i hL hi=>by
   by_cases fy:i=s.nb
   ·subst fy;rw[cn] at hi;cases hi
    exact jb.1 L (key L _ hL)
   ·rw[cZ _ _ fy] at hi
    exact h.obx L b i (key L b hL) hi
  obnd:=fun L b hL=>by
   rw[dY]
   have:=h.obnd L b (key L b hL);exact⟨by omega,this.2⟩
  glob:=fun g cs hg=>(h.glob g cs hg).mono hI }
theorem BB (hst:St G n I0 M w0 I β ob s a w) {i cl blk j:Nat} {bs:List Nat} {r:List V} {es:Array MapEntry} (hm:PE P I M w0 β ob s w i bs cl r blk es) {e:MapEntry} (he:es.toList[j]?=some e)
 {vv:Value} (hv:LR (Wr M w0) I β w none vv y) {f:MapEntry→MapEntry} (hf:f e={ e with val:=vv }) :
 ∃ ob',St G n I0 M w0 I β ob' { s with bx:=up s.bx i (.mk bs cl::r.set (2*j+1) y) } a (World.putObj w blk (.map (es.modify j f) cl)):=by
 have hj:j<es.toList.length:=(ak.1 he).1
 have hbl:es.toList.length=bs.length:=by rw[← hm.born,ap]
 have ly:∀ q,(es.modify j f).toList[q]?=if q=j then some { e with val:=vv } else es.toList[q]?:=fun q=>by
  rw[Array.toList_modify,List.getElem?_modify]
  by_cases hq:j=q
  ·subst hq;simp[he,hf]
  ·simp[hq,fM hq]
 refine hst.reMap hm (es':=es.modify j f) (bs':=bs) (cl':=cl) (od:=fun q=>if q=2*j+2 then none else ob (.b i q)) ?_ (by rw[iC];exact hm.len) (fun q b hq=>by split at hq;cases hq;exact hq) fun q e' hq=>?_
 ·rw[← hm.born]
  apply ir
  intro q
  rw[ba,ba,ly]
  by_cases hq:q=j
  ·subst hq;simp only[cJ,he,bK]
  ·rw[if_neg hq]
 ·rw[ly] at hq
  by_cases YY:q=j
  ·subst YY
   simp only[cJ,am] at hq;subst hq
   obtain⟨l1,_⟩:=hm.ent q e he
   refine⟨?_,?_⟩
   ·rw[rU (by omega),if_neg (by omega)];exact l1
   ·rw[A3 (by have:=hm.len;omega),if_pos rfl];exact hv
  ·rw[if_neg YY] at hq
   obtain⟨l1,l2⟩:=hm.ent q e' hq
   refine⟨?_,?_⟩
   ·rw[rU (by omega),if_neg (by omega)];exact l1
   ·rw[rU (by omega),if_neg (by omega)];exact l2
theorem zh (hst:St G n I0 M w0 I β ob s a w) {i cl blk:Nat} {bs:List Nat} {r:List V} {es:Array MapEntry} (hm:PE P I M w0 β ob s w i bs cl r blk es)
 {vk vv:Value} (hk:LR (Wr M w0) I β w none vk x) (hv:LR (Wr M w0) I β w none vv y) :
 ∃ ob',St G n I0 M w0 I β ob' { s with bx:=up s.bx i (.mk (bs++[cl]) (cl+1)::(r++[x,y])) } a (World.putObj w blk (.map (es.push { key:=vk,val:=vv,born:=cl }) (cl+1))):=by
 have hbl:es.toList.length=bs.length:=by rw[← hm.born,ap]
 have ce:=hm.len
 refine hst.reMap hm (es':=es.push { key:=vk,val:=vv,born:=cl }) (bs':=bs++[cl]) (cl':=cl+1) (od:=fun q=>if q<1+r.length then ob (.b i q) else none) (by simp[hm.born]) (by simp[ce];omega)
  (fun q b hq=>by split at hq;exact hq;cases hq) fun q e' hq=>?_
 rw[Array.toList_push] at hq
 by_cases YY:q<es.toList.length
 ·rw[aC YY] at hq
  obtain⟨l1,l2⟩:=hm.ent q e' hq
  have g:∀ p,p<r.length→(r++[x,y]).getD p .un=r.getD p .un:=fun p hp=>by simp[List.getD,aC hp]
  refine⟨?_,?_⟩
  ·rw[g _ (by omega),if_pos (by omega)];exact l1
  ·rw[g _ (by omega),if_pos (by omega)];exact l2
 ·rw[aJ (by omega)] at hq
  have hq0:q - es.toList.length=0:=by have:=(ak.1 hq).1;simp at this;omega
  rw[hq0] at hq
  simp only[bG,am] at hq;subst hq
  have e1:2*q=r.length:=by omega
  refine⟨?_,?_⟩
  ·rw[if_neg (by omega),e1]
   have:(r++[x,y]).getD r.length .un=x:=by simp[List.getD]
   rw[this];exact hk
  ·rw[if_neg (by omega),e1]
   have:(r++[x,y]).getD (r.length+1) .un=y:=by simp[List.getD]
   rw[this];exact hv
theorem acO {I:Ft} {w:World} {u1 u2:Value} {d1 d2:V} (h1:DR I w u1 d1) (h2:DR I w u2 d2):DR I w (.tuple #[u1,u2]) (.tup [d1,d2]):=by
 refine .tup _ _ rfl fun q d hd=>?_
 match q with
 |0=>simp at hd;subst hd;exact h1
 |1=>simp at hd;subst hd;exact h2
 |q+2=>simp at hd
theorem t8 {T:TypeId} {k z:V} {K:S→Prop} {vx vk vv:Value} {ox oy oz:Option Nat} (hst:St G n I0 M w0 I β ob s a w) (h:ib P T s x k z K)
 (hx:LR (Wr M w0) I β w ox vx x) (hy:LR (Wr M w0) I β w oy vk k) (hz:LR (Wr M w0) I β w oz vv z) :
 ∃ s' ob' w',K s'∧(Instr.mapUpdate T vx vk vv).run P w=.ok () w'∧St G n I0 M w0 I β ob' s' a w':=by
 unfold ib at h
 obtain⟨i,bs,cl,r,res,z0,blk,kt,et,es,zv,hK,rfl,rfl,hm,hu,pt,Ih,wv,UF,YS⟩:=qL hst h hx hy
 have hg:=fb (P:=P) hm.heap
 cases res with
 |some j=>
  obtain⟨e,he,E0,Uo⟩:=wv j rfl
  simp only[bK,he,bQ] at Ih
  obtain⟨ob',bH⟩:=BB hst hm he (hz.fz none) (f:=fun e=>{ e with key:=vk,val:=vv }) (by rw[E0])
  have he':es[j]?=some e:=by rw[← aQ];exact he
  refine⟨_,ob',_,hK,?_,bH⟩
  simp[Instr.mapUpdate,aO hu,hg,pt,Ih,he',Uo,iM _ hm.heap,Result.andThen,World.putObj]
 |none=>
  simp only[jo] at Ih
  obtain⟨ob',bH⟩:=zh hst hm (hy.fz none) (hz.fz none)
  refine⟨_,ob',_,hK,?_,bH⟩
  simp[Instr.mapUpdate,aO hu,hg,pt,Ih,iM _ hm.heap,Result.andThen,World.putObj]
theorem yu {T:TypeId} {k:V} {K:S→V→Prop} {vx vk:Value} {ox oy:Option Nat} (hst:St G n I0 M w0 I β ob s a w) (h:fA P T s x k K)
 (hx:LR (Wr M w0) I β w ox vx x) (hy:LR (Wr M w0) I β w oy vk k) :
 ∃ s' ob' w' z u,K s' z∧(Instr.mapEntry T vx vk).run P w=.ok u w'∧St G n I0 M w0 I β ob' s' a w'∧LR (Wr M w0) I β w' none u z:=by
 unfold fA at h
 obtain⟨i,bs,cl,r,res,z0,blk,kt,et,es,zv,hK,rfl,rfl,hm,hu,pt,Ih,wv,UF,YS⟩:=qL hst h hx hy
 have hg:=fb (P:=P) hm.heap
 have hI:∀ (o':Obj) b o,I b o→I b o∧(World.putObj w blk o').cell? ⟨b,o,none⟩=w.cell? ⟨b,o,none⟩:=fun o' b o hb=>
  ⟨hb,hst.keeps (qM blk o') (fun r e o ho=>by cases e;exact absurd ho (hm.fr o)) b o hb⟩
 cases res with
 |some j=>
  obtain⟨e,he,E0,Uo⟩:=wv j rfl
  simp only[bK,he,bQ] at Ih
  obtain⟨l1,l2⟩:=hm.ent j e he
  have he':es[j]?=some e:=by rw[← aQ];exact he
  have hbj:bs.getD j 0=e.born:=by rw[← hm.born];simp[List.getD,he]
  have hr:(r.set (2*j+1) (r.getD (2*j+1) .un))=r:=by
   apply ir
   intro q
   rw[List.getElem?_set]
   split
   ·rename_i e;subst e
    split
    ·rename_i hl;simp[List.getD,hl]
    ·rename_i hl;rw[b8 (by omega)]
   ·rfl
  have nF:up s.bx i (V.mk bs cl::r)=s.bx:=by rw[← hm.bx];exact pF _ _
  have bH:∃ ob',St G n I0 M w0 I β ob' s a (World.putObj w blk (.map (es.modify j fun e=>{ e with key:=vk }) cl)):=by
   have ly:∀ q,(es.modify j fun e=>{ e with key:=vk }).toList[q]?=es.toList[q]?:=fun q=>by
    rw[Array.toList_modify,List.getElem?_modify]
    by_cases hq:j=q
    ·subst hq;rw[he,← E0];simp
    ·cases es.toList[q]?<;>simp[hq]
   have hl:(es.modify j fun e=>{ e with key:=vk })=es:=cP (ir ly)
   rw[hl]
   obtain⟨ob',h'⟩:=hst.reMap hm (es':=es) (bs':=bs) (cl':=cl) (r':=r) (od:=fun q=>ob (.b i q)) hm.born hm.len (fun _ _ h=>h) hm.ent
   rw[nF] at h'
   exact⟨ob',h'⟩
  obtain⟨ob',bH⟩:=bH
  refine⟨s,ob',_,_,.tuple #[e.val,.int .i64 e.born],hK,?_,bH,?_⟩
  ·simp[Instr.mapEntry,aO hu,hg,pt,Ih,he',Uo,iM _ hm.heap,Result.andThen,World.putObj,goInt]
  ·simp only[LR]
   rw[hbj]
   exact(acO (xJ l2) (.c _ _ (.lit _ rfl))).mono (hI _)
 |none=>
  simp only[jo] at Ih
  obtain⟨ob',bH⟩:=zh hst hm (hy.fz none) YS
  refine⟨_,ob',_,_,.tuple #[zv,.int .i64 cl],hK,?_,bH,?_⟩
  ·simp[Instr.mapEntry,aO hu,hg,pt,Ih,UF,iM _ hm.heap,Result.andThen,World.putObj,goInt]
  ·simp only[LR]
   exact(acO (xJ YS) (.c _ _ (.lit _ rfl))).mono (hI _)
theorem Iz {es:List MapEntry} {m:Int} {j:Nat} (h:(es.map (·.born)).findIdx? (fun(b:Nat)=>(b:Int)==m)=some j):∃ e,es[j]?=some e∧es.findIdx? (fun e=>(e.born:Int)==m)=some j:=by
 have h1:es.findIdx? (fun e=>(e.born:Int)==m)=some j:=by
  rw[List.findIdx?_map] at h;exact h
 have bF:j<es.length:=by
  have:=bS.1 h1
  exact this.1
 exact⟨_,aj bF,h1⟩
theorem yv {T:TypeId} {k z:V} {K:S→Prop} {vx vk vv:Value} {ox oy oz:Option Nat} (hst:St G n I0 M w0 I β ob s a w) (h:fN s x k z K)
 (hx:LR (Wr M w0) I β w ox vx x) (hy:LR (Wr M w0) I β w oy vk k) (hz:LR (Wr M w0) I β w oz vv z) :
 ∃ s' ob' w',K s'∧(Instr.entryStore T vx vk vv).run P w=.ok () w'∧St G n I0 M w0 I β ob' s' a w':=by
 unfold fN at h
 split at h
 ·rename_i i ik m
  split at h
  ·rename_i bs cl r hb
   split at h
   ·rename_i j hj
    obtain⟨hi,hK⟩:=h
    simp only[LR] at hx
    obtain⟨blk,hβ,rfl⟩:=hx
    obtain⟨es,hm⟩:=hst.mapW (P:=P) hi hb hβ
    have hg:=fb (P:=P) hm.heap
    have:=hy.lit
    subst this
    rw[← hm.born] at hj
    obtain⟨e,he,hf⟩:=Iz hj
    have yp:es.findIdx? (fun e=>(e.born:Int)==m)=some j:=by rw[show es=es.toList.toArray by simp,List.findIdx?_toArray];exact hf
    obtain⟨ob',bH⟩:=BB hst hm he (hz.fz none) (f:=fun e=>{ e with val:=vv }) rfl
    refine⟨_,ob',_,hK,?_,bH⟩
    simp[Instr.entryStore,hg,yp,asInt,asIntOf,iM _ hm.heap,Result.andThen,World.putObj]
   ·exact h.elim
  ·exact h.elim
 ·exact h.elim
theorem PG {t:Nat} {u:Value} (h:a.tmps.getD t undef=u) (ht:t<a.tmps.size):a.put (some t) u=a:=by
 have:a.tmps.setIfInBounds t u=a.tmps:=by
  apply jn (by simp)
  intro i h1 h2
  rw[eT]
  split
  ·rename_i e;subst e;rw[← h];simp[ht]
  ·rfl
 simp only[Act.put,this]
theorem Fw {t:Nat} {ty:TypeId} {K:Option V→V→Prop} (hst:St G n I0 M w0 I β ob s a w) (hd:∀ d,o.dst=some d→d<n) (h:y3 s (s.fr t) K) :
 ∃ it z u w',K it z∧(Instr.next (a.tmps.getD t undef) false ty).run P w=.ok u w'∧SE G n I0 M w0 ((match it with | some x=>{ s with fr:=up s.fr t x } | none=>s:S).put o.dst z) (a.put o.dst u) w':=by
 unfold y3 at h
 have hx:=hst.fr t
 split at h
 ·rename_i i since stepped seen jb
  rw[jb] at hx
  split at h
  ·rename_i bs cl r hb
   obtain⟨⟨hi,hsc,EY⟩,O3,rD⟩:=h
   simp only[LR] at hx
   obtain⟨blk,m,rM,sQ,hβ,hv,hh,hni⟩:=hx
   obtain⟨es,hm⟩:=hst.mapW (P:=P) hi hb hβ
   rw[hv]
   rcases run_next_at (P:=P) w ty blk m since stepped seen.toArray es cl hh hm.heap (fun x hx=>EY _ (by rw[← hm.born];exact bu.2 ⟨x,hx,rfl⟩)) hsc with⟨h0,bA⟩ | ⟨e,he,w1,hw1,bA⟩
   ·refine⟨none,_,_,_,O3 fun b hbm=>?_,bA,?_⟩
    ·rw[← hm.born] at hbm
     obtain⟨x,hxm,rfl⟩:=bu.1 hbm
     have:=Array.size_eq_zero_iff.1 h0
     unfold leftOf at this
     rw[Array.filter_eq_empty_iff] at this
     have h2:=this x (by simpa using hxm)
     simpa using h2
    ·cases kQ:o.dst with
     |none=>exact⟨_,_,_,hst⟩
     |some d=>
      exact⟨_,_,_,hst.put d (hd d kQ) (o:=none) (by
       simp only[LR]
       refine .tup _ _ rfl fun q x hq=>?_
       match q with
       |0=>simp at hq;subst hq;exact .c _ _ (.lit _ rfl)
       |q+1=>simp at hq) FreeOb.nothing⟩
   ·have jG:e∈es.toList∧e.born∉seen:=by
     unfold leftOf at he
     simp only[Array.toList_filter,List.mem_filter] at he
     exact⟨he.1,by simpa using he.2⟩
    obtain⟨j,hj⟩:=List.getElem?_of_mem jG.1
    obtain⟨l1,l2⟩:=hm.ent j e hj
    have hbj:bs[j]?=some e.born:=by rw[← hm.born,ba,hj];rfl
    refine⟨_,_,_,_,rD j e.born hbj jG.2,bA,?_⟩
    have lR:St G n I0 M w0 I β ob s a w1:=by rcases hw1 with rfl | rfl;exact hst;exact hst.drew
    have fQ:w1.heap=w.heap:=by rcases hw1 with rfl | rfl<;>rfl
    have dR:t<a.tmps.size:=by
     by_cases ht:t<a.tmps.size
     ·exact ht
     ·exfalso
      have:a.tmps.getD t undef=undef:=by simp[cV (dP ht)]
      rw[this] at hv
      cases hv
    have uU:blk<w1.heap.size:=by rw[fQ];exact(hst.obnd _ _ rM).1
    have hc:=lR.clr t
    have hL:∀ L,upL ob (.t t) none L≠some blk:=fun L hL=>by
     simp only[upL] at hL
     split at hL
     ·cases hL
     ·rename_i gv;exact gv (hst.oinj _ _ blk hL rM)
    have YT:∀ q,β q≠some blk:=fun q hq=>hst.obx _ blk q rM hq
    have hg:=hc.growRow (I':=I) (qM (w:=w1) blk (.mapIter (some m) since (seen.toArray.push e.born) cl)) sQ (fun o ho=>absurd ho (hni o)) hL YT (fun _ _ h=>h) (fun _ _ h=>.inl h) (by rw[putObj_size];exact uU)
    have hp:=hg.put t (by rw[← hst.size];exact dR) (v:=.pointer (some ⟨blk,0,none⟩)) (x:=.it i since cl (seen++[e.born])) (o:=some blk) (by
     simp only[LR]
     exact⟨blk,m,rfl,sQ,hβ,rfl,by rw[nn uU];simp,hni⟩) (fun b hb=>by
     cases hb
     refine⟨⟨by rw[putObj_size];exact uU,sQ⟩,fun L wE=>?_,YT⟩
     simp only[upL] at wE
     split at wE
     ·cases wE
     ·exact hL L (by simp only[upL];split<;>simp_all))
    rw[PG hv dR] at hp
    have wF:(s.clr t).put (some t) (.it i since cl (seen++[e.born]))={ s with fr:=up s.fr t (.it i since cl (seen++[e.born])) }:=by
     simp only[S.clr,S.put]
     congr 1
     funext q
     simp only[up];split<;>simp_all
    rw[wF] at hp
    cases kQ:o.dst with
    |none=>exact⟨_,_,_,hp⟩
    |some d=>
     refine⟨_,_,_,hp.put d (hd d kQ) (o:=none) ?_ FreeOb.nothing⟩
     have hI:∀ b o,I b o→I b o∧(World.putObj w1 blk (.mapIter (some m) since (seen.toArray.push e.born) cl)).cell? ⟨b,o,none⟩=w.cell? ⟨b,o,none⟩:=fun b o hb=>by
      refine⟨hb,dN (a:=⟨b,o,none⟩) ?_⟩
      have gv:b≠blk:=fun e=>hni o (by rw[← e];exact hb)
      exact(oa gv).trans (by rw[fQ])
     have:=(DR.tup (w:=w) (I:=I) #[.bool true,e.key,e.val] [.c (.lit (.bool true)),(r.getD (2*j) .un).dr,(r.getD (2*j+1) .un).dr] rfl fun q x hq=>by
      match q with
      |0=>simp at hq;subst hq;exact .c _ _ (.lit _ rfl)
      |1=>simp at hq;subst hq;exact xJ l1
      |2=>simp at hq;subst hq;exact xJ l2
      |q+3=>simp at hq).mono hI
     simp only[LR];exact this
  ·exact h.elim
 ·exact h.elim
end
section
variable {P:Program} {G:Gl} {tr:List Nat} {n:Nat} {I0:Ft} {M:Mx} {w0:World} {I:Ft} {β:Nat→Option Nat} {ob:Loc→Option Nat} {s:S} {a:Act} {w:World} {o:Oper}
 {next:Act→World→Prop} {Q:Exit→Act→World→Prop} {base:Nat→Prop} {v:Value} {x y:V} {K:V→Prop}
theorem St.write (hst:St G n I0 M w0 I β ob s a w) {b k:Nat} {blk:Nat} {cs:List C} {vs:List Value} (hb:b<s.nb) (hβ:β b=some blk) (iZ:cX (s.bx b)=false) (ce:vs.length=cs.length) (ri:k+cs.length≤(s.bx b).length)
 (hc:∀ (q:Nat) (c:C),cs[q]?=some c→∃ u:Value,vs[q]?=some u∧CR I w u c) :
 ∃ (cur:Array Value) (T:RT) (ob':Loc→Option Nat),w.heap[blk]?=some (.cells cur T.t T.fz)∧T.ok cur.size∧(s.bx b).length≤cur.size∧(∀ u∈vs,u.oneCell'=true)∧
  St G n I0 M w0 I β ob' { s with bx:=up s.bx b (eU (s.bx b) k (cs.map .c)) } a (w.setRow blk (cur.toList.take k++vs++cur.toList.drop (k+vs.length)).toArray):=by
 obtain⟨qC,cur,e1,e2,e3,e4,_⟩:=hst.bx b hb
 obtain⟨T,e3,_,hT⟩:=e3.cells iZ
 rw[hβ] at e1;cases e1
 have iY:∀ u∈vs,u.oneCell'=true:=fun u hu=>by
  obtain⟨q,hq⟩:=List.mem_iff_getElem?.1 hu
  have oH:q<cs.length:=by rw[← ce];exact(ak.1 hq).1
  obtain⟨u',Bo,ja⟩:=hc q cs[q] (aj oH)
  rw[hq] at Bo;cases Bo
  exact ja.oneCell
 refine⟨cur,T,_,e3,hT,e4,iY,hst.setBox (i:=b) (k:=k) (blk:=blk) (cur:=cur) (T:=T) (vs:=vs) (ds:=cs.map .c) (od:=fun _=>none) hb hβ e3 hT (by simpa using ce) (by simpa using ri) (fun q=>?_) iY
  (fun _ _ h=>by cases h) (fun _ _ _ h=>by cases h) iZ (fun d hd=>?_)⟩
 ·by_cases hq:q<cs.length
  ·obtain⟨u,hu,ja⟩:=hc q cs[q] (aj hq)
   have e1:vs.getD q undef=u:=by rw[aA,hu];rfl
   have e2:(cs.map V.c).getD q .un=.c cs[q]:=by simp[List.getD,hq]
   rw[e1,e2];exact .ofC ja
  ·have e2:(cs.map V.c).getD q .un=.un:=by simp[List.getD,b8 (dP hq)]
   rw[e2];simp only[LR];exact .un _
 ·obtain⟨c,_,rfl⟩:=bu.1 hd;rfl
theorem St.write_nil (hst:St G n I0 M w0 I β ob s a w) {b k:Nat}:St G n I0 M w0 I β ob { s with bx:=up s.bx b (eU (s.bx b) k []) } a w:=by
 have:eU (s.bx b) k []=s.bx b:=by simp[eU]
 rw[this,pF];exact hst
def nM (st:ByteArray) (m:Nat):List Value:=(st.data.toList.take m).map fun b=>Value.int .u8 b.toNat
theorem MG (st:ByteArray) (m:Nat):(nM st m).length=(((j8 st).take m).flatten).length∧∀ (q:Nat) (c:C),(((j8 st).take m).flatten)[q]?=some c→∃ u:Value,(nM st m)[q]?=some u∧CR I w u c:=by
 have e:((j8 st).take m).flatten=(st.data.toList.take m).map fun b=>C.lit (.int .u8 b.toNat):=by
  unfold j8
  rw[← List.map_take]
  generalize st.data.toList.take m=l
  induction l with
  |nil=>rfl
  |cons b l ih=>simp only[aL,dQ,ih];rfl
 rw[e]
 refine⟨by simp[nM],fun q c hq=>?_⟩
 unfold nM
 rw[ba] at hq ⊢
 cases hb:(st.data.toList.take m)[q]? with
 |none=>simp[hb] at hq
 |some b=>
  simp only[hb,bK,am] at hq
  exact⟨_,rfl,by rw[← hq];exact .lit _ rfl⟩
theorem Di {dT sT ty e:TypeId} {j:TypeInfo} (hu:P.underlying dT=some (.slice e)) (hj:P.info? e=some j) (hs:j.size=1) {g off len cap:Nat} {st:ByteArray} {cur:Array Value} {T:RT}
 (hg:w.heap[g]?=some (.cells cur T.t T.fz)) (hT:T.ok cur.size) (ri:off+min st.size len≤cur.size) :
 (Builtin.copy_ #[dT,sT] ty #[.slice (some ⟨g,off,none⟩) len cap,.string st]).run P w=
  .ok (goInt ((min st.size len:Nat):Int)) (w.setRow g (cur.toList.take off++nM st len++cur.toList.drop (off+(nM st len).length)).toArray):=by
 have ce:(nM st len).length=min st.size len:=by
  unfold nM;rw[ap,aZ,bJ,Nat.min_comm];rfl
 have iY:∀ u∈nM st len,u.oneCell'=true:=fun u hu=>by
  obtain⟨_,_,rfl⟩:=bu.1 hu;rfl
 have hst:=fB (P:=P) g off T (nM st len) 0 cur w hg hT (by rw[ce];simpa using ri) iY
 simp only[dL] at hst
 have O1:List.take (Nat.min st.size len) (List.map (fun b:UInt8=>Value.int IntKind.u8 (b.toNat:Int)) st.data.toList)=nM st len:=by
  unfold nM
  rw[← List.map_take]
  congr 1
  rw[show Nat.min st.size len=min len st.size from Nat.min_comm _ _,← List.take_take]
  congr 1
  exact dM (by rw[bJ];exact ae _)
 simp[Builtin.copy_,aO hu,Builtin.lenOf,Builtin.firstCells,sizeOf,typeInfo,hj,hs]
 rw[O1,hst]
 simp only[Result.andThen,bU]
theorem A4 {dT sT ty e:TypeId} {j:TypeInfo} (hu:P.underlying dT=some (.slice e)) (hj:P.info? e=some j) {d:Option Addr} {len cap:Nat} {st:ByteArray} (h0:min st.size len=0) :
 (Builtin.copy_ #[dT,sT] ty #[.slice d len cap,.string st]).run P w=.ok (goInt 0) w:=by
 have h0':Nat.min st.size len=0:=h0
 cases d<;>simp[Builtin.copy_,aO hu,Builtin.lenOf,Builtin.firstCells,sizeOf,typeInfo,hj,h0',storeCells]
theorem Fx {t u ty:TypeId} {vx vy:Value} {ox oy:Option Nat} {K:S→V→Prop} (hst:St G n I0 M w0 I β ob s a w) (h:ni P s K [t,u] [x,y]) (hx:LR (Wr M w0) I β w ox vx x) (hy:LR (Wr M w0) I β w oy vy y) :
 ∃ s' ob' w' z v,K s' z∧(Builtin.copy_ #[t,u] ty #[vx,vy]).run P w=.ok v w'∧St G n I0 M w0 I β ob' s' a w'∧LR (Wr M w0) I β w' none v z:=by
 unfold ni at h
 split at h
 ·rename_i t' u' b off len cap sz st rk pu
  simp only[bO,fY] at rk pu
  obtain⟨rfl,rfl⟩:=rk
  obtain⟨rfl,rfl⟩:=pu
  split at h
  ·rename_i e _ _ _ _ _ _ hi
   obtain⟨j,d,h1,h2,h3,_⟩:=bn hi
   have hd:=df h3
   subst hd
   split at h
   ·rename_i ie rE
    obtain⟨j',d',jw,nQ,_,ek,_⟩:=bn rE
    obtain⟨⟨Pe,rfl,hb,iZ,ri⟩,h⟩:=h
    simp only[LR] at hx
    obtain⟨jL,blk,off',cap',y0,hβ,mG,rfl⟩:=hx
    rw[hy.lit]
    have tM:(((j8 st).take len).flatten).length=min st.size len:=by
     rw[bz (sz:=1) _ (fun x hx=>by have:=cz hx;simp only[j8,bu] at this;obtain⟨_,_,rfl⟩:=this;rfl),aZ]
     simp[j8];exact Nat.min_comm _ _
    by_cases h0:min st.size len=0
    ·have e0:((j8 st).take len).flatten=[]:=co (by rw[tM];exact h0)
     rw[e0,h0] at h
     exact⟨_,_,w,_,_,h,A4 h2 jw h0,hst.write_nil,.ofLit rfl⟩
    ·have:off'=off:=by rcases mG with h4 | h4;omega;exact h4
     subst this
     obtain⟨q1,q2⟩:=MG (I:=I) (w:=w) st len
     obtain⟨cur,T,ob',fQ,hT,XI,iY,bH⟩:=hst.write (k:=off') hb hβ iZ q1 (by rw[tM];omega) q2
     exact⟨_,_,_,_,_,h,Di h2 jw (by rw[← ek];exact Pe) fQ hT (by omega),bH,.ofLit rfl⟩
   ·exact h.elim
  ·exact h.elim
 ·exact h.elim
theorem PH {U e':TypeId} {vy:Value} {oy:Option Nat} {sz:Nat} {ys:List (List C)} (hst:St G n I0 M w0 I β ob s a w) (hy:LR (Wr M w0) I β w oy vy y) (h:uq s y=some (.sl ys)) (hu:P.underlying U=some (.slice e')) (hs:∀ x∈ys,x.length=sz):Fi P I w U vy sz ys:=by
 have flat:∀ {es:List (List C)} {blk off' cap':Nat} {f:Nat→Nat→Value} {z:Nat},vy=.slice (some ⟨blk,off',none⟩) es.length cap'→(∀ e∈es,e.length=z)→es=ys→
  (∀ p q,p<es.length→q<z→w.cell? ⟨blk,off'+p*z+q,none⟩=some (f p q))→(∀ p q e c,es[p]?=some e→e[q]?=some c→CR I w (f p q) c)→Fi P I w U vy sz ys:=by
  rintro es blk off' cap' f z rfl h1 rfl h2 h3
  obtain⟨news,tM,HY,HZ,Kg⟩:=Pz (J:=fun _ _=>True) hs h1 (fun i j hi hj=>⟨h2 i j hi hj,trivial⟩) h3
  exact⟨news,Src.ofSlice w hu ⟨blk,off',none⟩ _ _ news tM (fun q u hq=>by rw[cQ];exact(HY q u hq).1) Kg,HZ⟩
 cases y<;>simp only[uq] at h<;>try cases h
 ·exact(RD.ofCR hy.toC).src hu hs
 ·exact(RD.ofCR hy.1).src hu hs
 ·simp only[aX] at h
  obtain⟨cs,_,h2⟩:=h
  cases h2
 ·simp only[LR] at hy
  obtain⟨es,blk,off',cap',f,e1,e2,_,_,h4,h5,h6⟩:=C6 hst h hy
  cases e1
  exact flat e2 h4 rfl h5 h6
def RelL (I:Ft) (w:World) (L:List Value) (cs:List C):Prop:=∀ (q:Nat) (c:C),cs[q]?=some c→∃ u:Value,L[q]?=some u∧CR I w u c
theorem RelL.take {L:List Value} {cs:List C} (h:RelL I w L cs) (k:Nat):RelL I w (L.take k) (cs.take k):=fun q c hq=>by
 rw[cu] at hq
 split at hq
 ·rename_i hk
  obtain⟨u,h1,h2⟩:=h q c hq
  exact⟨u,by rw[cu,if_pos hk];exact h1,h2⟩
 ·cases hq
theorem RelL.drop {L:List Value} {cs:List C} (h:RelL I w L cs) (k:Nat):RelL I w (L.drop k) (cs.drop k):=fun q c hq=>by
 rw[bX] at hq
 obtain⟨u,h1,h2⟩:=h _ c hq
 exact⟨u,by rw[bX];exact h1,h2⟩
theorem RelL.append {L L':List Value} {cs cs':List C} (h:RelL I w L cs) (h':RelL I w L' cs') (hl:L.length=cs.length):RelL I w (L++L') (cs++cs'):=fun q c hq=>by
 by_cases XY:q<cs.length
 ·rw[aC XY] at hq
  obtain⟨u,h1,h2⟩:=h q c hq
  exact⟨u,by rw[aC (by omega)];exact h1,h2⟩
 ·rw[aJ (by omega)] at hq
  obtain⟨u,h1,h2⟩:=h' _ c hq
  exact⟨u,by rw[aJ (by omega),hl];exact h1,h2⟩
theorem oc {α:Type} {sz:Nat} {es:List (List α)} (h:∀ e∈es,e.length=sz) {k:Nat} (hk:k≤es.length):(es.take k).flatten=es.flatten.take (k*sz):=by
 have e:es.flatten=(es.take k).flatten++(es.drop k).flatten:=by rw[← dW,dS]
 have hl:(es.take k).flatten.length=k*sz:=by rw[bz _ (fun x hx=>h x (cz hx)),aZ,ci hk]
 rw[e,fR hl]
theorem mj {α:Type} {sz:Nat} {es:List (List α)} (h:∀ e∈es,e.length=sz) {k:Nat} (hk:k≤es.length):(es.drop k).flatten=es.flatten.drop (k*sz):=by
 have e:es.flatten=(es.take k).flatten++(es.drop k).flatten:=by rw[← dW,dS]
 have hl:(es.take k).flatten.length=k*sz:=by rw[bz _ (fun x hx=>h x (cz hx)),aZ,ci hk]
 rw[e,List.drop_left' hl]
theorem St.gsSet (hst:St G n I0 M w0 I β ob s a w) {b k blk cap sz:Nat} {e:TypeId} {es es':List (List C)} {cur:Array Value} {L:List Value} (hb:b<s.nb) (iZ:cX (s.bx b)=false)
 (hk:(s.bx b)[k]?=some (.gs (some (.slice (some ⟨blk,0,none⟩) es.length cap)) (some (e,sz)) es)) (fQ:w.heap[blk]?=some (.cells cur e (0,0))) (dR:cur.size=cap*sz) (ce:es'.length=es.length) (pz:∀ x∈es',x.length=sz)
 (hL:L.length=cur.size) (iY:∀ u∈L,u.oneCell'=true) (pn:RelL I w L es'.flatten) :
 St G n I0 M w0 I β ob { s with bx:=up s.bx b ((s.bx b).set k (.gs (some (.slice (some ⟨blk,0,none⟩) es.length cap)) (some (e,sz)) es')) } a (w.setRow blk L.toArray):=by
 rcases hst.gsAt hb hk with⟨_,_,_,hE⟩ | ⟨cur1,e1,sz1,j4,hE,_,g1,g2,g3,g4,gm,g5,g6,g7⟩
 ·cases hE
 cases hE
 rw[fQ] at g1
 simp only[am,Obj.cells.injEq,fY] at g1
 subst g1
 have uU:blk<w.heap.size:=(be.1 fQ).1
 have hg:w.grb (w.setRow blk L.toArray) (some blk):=⟨rfl,rfl,rfl,by simp,fun k _ hk=>jy w blk k _ (fun e=>hk (by rw[e])),ae _⟩
 have j7:∀ b o,I b o→I b o∧(w.setRow blk L.toArray).cell? ⟨b,o,none⟩=w.cell? ⟨b,o,none⟩:=fun b o hb=>⟨hb,hst.keeps hg (fun r e o ho=>by cases e;exact absurd ho (g7 o)) b o hb⟩
 refine hst.recell hb hk rfl rfl j4 hg (fun o ho=>absurd ho (g7 o)) (fun _ _ h=>h) (fun _ _ h=>.inl h) fun b1 cur0 _ _ hx=>?_
 obtain⟨h1,h2⟩:=hx.gsO
 refine⟨h1,?_⟩
 have hv:=h1 _ rfl
 have Uj:Wr M w0 blk:=(hst.obnd _ _ j4).2
 exact .inr ⟨e,blk,cap,L.toArray,sz,rfl,rfl,by rw[hv,ce],Uj,kY w blk cur _ e (0,0) fQ,by rw[ce];exact g4,gm,by rw[ea,hL,dR],pz,fun j c hj=>by
  obtain⟨u,q1,q2⟩:=pn j c hj
  have:L.toArray.getD j undef=u:=by rw[ao,cM,q1];rfl
  rw[this];exact q2.mono j7,fun u hu=>iY u (fF.1 hu),g7⟩
theorem St.ggSet (hst:St G n I0 M w0 I β ob s a w) {b k blk len cap sz:Nat} {e:TypeId} {es:List (List C)} (hb:b<s.nb) (hk:(s.bx b)[k]?=some (.gg (.slice (some ⟨blk,0,none⟩) len cap) (some (e,sz)) es)) :
 ∃ cur:Array Value,(len=es.length∧w.heap[blk]?=some (.cells cur e (0,0))∧cur.size=cap*sz∧es.length≤cap∧(∀ x∈es,x.length=sz)∧(∀ j c,es.flatten[j]?=some c→CR I w (cur.getD j undef) c)∧(∀ u∈cur,u.oneCell'=true))∧
  ∀ (es':List (List C)) (L:List Value),es'.length=es.length→(∀ x∈es',x.length=sz)→L.length=cur.size→(∀ u∈L,u.oneCell'=true)→RelL I w L es'.flatten→
   St G n I0 M w0 I β ob { s with bx:=up s.bx b ((s.bx b).set k (.gg (.slice (some ⟨blk,0,none⟩) len cap) (some (e,sz)) es')) } a (w.setRow blk L.toArray):=by
 obtain⟨b1,cur0,e1,e2,e3,e4,e5,e7⟩:=hst.bx b hb
 have h5:=e5 k
 have sO:(s.bx b).getD k .un=.gg (.slice (some ⟨blk,0,none⟩) len cap) (some (e,sz)) es:=by simp[List.getD,hk]
 rw[sO] at h5
 have h6:OwnG (Wr M w0) I w (some (e,sz)) es (ob (.b b k)) (.slice (some ⟨blk,0,none⟩) len cap):=h5
 rcases h6 with⟨_,hE,_⟩ | ⟨e',qC,cap',cur,sz',j4,hE,hv,Uj,hh,hc,hm,hs,hl,hf,iY,fU⟩
 ·cases hE
 cases hE
 simp only[eD,am,iT] at hv
 obtain⟨⟨rfl,_⟩,rfl,rfl⟩:=hv
 refine⟨cur,⟨rfl,hh,hs,hc,hl,hf,iY⟩,fun es' L ce pz hL aeF pn=>?_⟩
 have hg:w.grb (w.setRow blk L.toArray) (some blk):=⟨rfl,rfl,rfl,by simp,fun k _ hk=>jy w blk k _ (fun e=>hk (by rw[e])),ae _⟩
 have j7:∀ b o,I b o→I b o∧(w.setRow blk L.toArray).cell? ⟨b,o,none⟩=w.cell? ⟨b,o,none⟩:=fun b o hb=>⟨hb,hst.keeps hg (fun r e o ho=>by cases e;exact absurd ho (fU o)) b o hb⟩
 refine hst.recell hb hk rfl rfl j4 hg (fun o ho=>absurd ho (fU o)) (fun _ _ h=>h) (fun _ _ h=>.inl h) fun b1 cur0 _ _ hx=>?_
 show OwnG (Wr M w0) I (w.setRow blk L.toArray) (some (e,sz)) es' (some blk) _
 exact .inr ⟨e,blk,cap,L.toArray,sz,rfl,rfl,by rw[ce],Uj,kY w blk cur _ e (0,0) hh,by rw[ce];exact hc,hm,by rw[ea,hL,hs],pz,fun j c hj=>by
  obtain⟨u,q1,q2⟩:=pn j c hj
  have:L.toArray.getD j undef=u:=by rw[ao,cM,q1];rfl
  rw[this];exact q2.mono j7,fun u hu=>aeF u (fF.1 hu),fU⟩
theorem Dj {α:Type} {sz:Nat} {es:List (List α)} (h:∀ e∈es,e.length=sz) {q:Nat} (hq:q<es.length) (x:List α):(es.set q x).flatten=es.flatten.take (q*sz)++x++es.flatten.drop (q*sz+sz):=by
 rw[List.set_eq_take_append_cons_drop,if_pos hq,dW,dQ,oc h (Nat.le_of_lt hq),mj h hq,dD,bU]
theorem zi {t u ty:TypeId} {vx vy:Value} {ox oy:Option Nat} {K:S→V→Prop} (hst:St G n I0 M w0 I β ob s a w) (h:eI P s K [t,u] [x,y]) (hx:LR (Wr M w0) I β w ox vx x) (hy:LR (Wr M w0) I β w oy vy y) :
 ∃ s' ob' w' z v,K s' z∧(Builtin.append_ #[t,u] ty #[vx,vy]).run P w=.ok v w'∧St G n I0 M w0 I β ob' s' a w'∧LR (Wr M w0) I β w' none v z:=by
 unfold eI at h
 split at h
 ·rename_i t' u' b off len cap sz y' rk pu
  simp only[bO,fY] at rk pu
  obtain⟨rfl,rfl⟩:=rk
  obtain⟨rfl,rfl⟩:=pu
  split at h
  ·rename_i e _ _ _ _ _ _ ys hi hyf
   obtain⟨j,d,h1,h2,h3,_⟩:=bn hi
   have hd:=df h3
   subst hd
   split at h
   ·rename_i ie rE
    obtain⟨j',d',jw,nQ,_,ek,_⟩:=bn rE
    obtain⟨⟨rfl,dR,hp,hb,iZ,ri,me,uT⟩,h⟩:=h
    simp only[LR] at hx
    obtain⟨jL,blk,off',cap',y0,hβ,mG,rfl⟩:=hx
    obtain⟨news,pq,HZ⟩:=PH hst hy hyf h2 uT
    have po:Src P j'.size t vy ys.length news w:=by rw[← ek,dR];exact pq
    have tM:=pq.newsLen
    have mK:=bz ys uT
    by_cases h0:ys=[]
    ·subst h0
     have:news=[]:=co (by rw[tM];simp)
     subst this
     refine⟨_,_,w,_,_,h,lj t t ty e j' h2 jw _ len cap' (by omega) po,hst.write_nil,?_⟩
     simp only[LR]
     exact⟨by simpa using jL,blk,off',cap',y0,hβ,mG,rfl⟩
    ·have hyl:0<ys.length:=iK.2 h0
     have:off'=off:=by rcases mG with h4 | h4;omega;exact h4
     subst this
     have hm:(len+ys.length)*sz≤cap*sz:=aP _ me
     rw[cR] at hm
     obtain⟨cur,T,ob',fQ,hT,XI,iY,bH⟩:=hst.write (k:=off'+len*sz) (cs:=ys.flatten) (vs:=news) hb hβ iZ (by rw[tM,mK]) (by rw[mK];omega) HZ
     have bA:=iF (P:=P) (w:=w) t t ty e j' h2 jw blk off' len cap' cur T fQ hT vy ys.length news po (by omega) (by rw[← ek,dR,tM];omega)
     rw[← ek,dR] at bA
     refine⟨_,_,_,_,_,h,bA,bH,?_⟩
     simp only[LR]
     exact⟨me,blk,off',cap',y0,hβ,.inr rfl,rfl⟩
   ·exact h.elim
  ·exact h.elim
 ·rename_i t' u' blk n' cap blk2 off m cap2 rk pu
  simp only[bO,fY] at rk pu
  obtain⟨rfl,rfl⟩:=rk
  obtain⟨rfl,rfl⟩:=pu
  obtain rfl:=hx.toC.ex_inv
  obtain rfl:=hy.toC.ex_inv
  split at h
  ·rename_i e _ _ _ _ _ _ hi
   obtain⟨j,d,h1,h2,h3,_⟩:=bn hi
   have hd:=df h3
   subst hd
   split at h
   ·rename_i ie rE
    obtain⟨j',d',jw,nQ,_,ek,_⟩:=bn rE
    obtain⟨b,k,jj,E,es,⟨rfl,rfl,hp,⟨e1,rfl⟩,hb,iZ,hk,mG,hjm,Y0,hmc⟩,h⟩:=h
    rcases hst.gsAt hb hk with⟨_,_,_,hE⟩ | ⟨cur,e2,sz,j4,hE,_,g1,g2,g3,g4,gm,g5,g6,g7⟩
    ·cases hE
    simp only[am,dU] at hE
    obtain⟨rfl,rfl⟩:=hE
    generalize dR:ie.size=sz at *
    by_cases h0:m=0
    ·subst h0
     have po:Src P j'.size t (.slice (some ⟨blk2,off,none⟩) 0 cap2) 0 [] w:=Src.ofSlice w h2 ⟨blk2,off,none⟩ _ _ [] (by simp) (by simp) (by simp)
     have ab4:es.take n'++(es.drop jj).take 0++es.drop (n'+0)=es:=by simp
     rw[ab4] at h
     have gp:(s.bx b).set k (.gs (some (.slice (some ⟨blk2,0,none⟩) es.length cap)) (some (e1,sz)) es)=s.bx b:=by
      obtain⟨EU,hke⟩:=ak.1 hk
      rw[← hke,List.set_getElem_self]
     rw[gp,pF] at h
     exact⟨_,_,w,_,_,h,lj t t ty e j' h2 jw _ n' cap (by omega) po,hst,.ofC (.ex _ rfl rfl)⟩
    ·have Uk:off=jj*sz:=by rcases mG with h4 | h4;exact absurd h4 h0;exact h4
     subst Uk
     have mL:cur.toList.length=cur.size:=bJ
     have q1:(jj+m)*sz≤cur.size:=by rw[g2];exact aP _ (by omega)
     have q2:(n'+m)*sz≤cur.size:=by rw[g2];exact aP _ (by omega)
     rw[cR] at q1 q2
     have tM:((cur.toList.drop (jj*sz)).take (m*sz)).length=m*sz:=by rw[aZ,cY,mL];exact ci (by omega)
     have jG:∀ u∈(cur.toList.drop (jj*sz)).take (m*sz),u.oneCell'=true:=fun u hu=>g6 u (cA.1 (cK (cz hu)))
     have po:Src P j'.size t (.slice (some ⟨blk2,jj*sz,none⟩) m cap2) m ((cur.toList.drop (jj*sz)).take (m*sz)) w:=by
      rw[← ek]
      refine Src.ofSlice w h2 ⟨blk2,jj*sz,none⟩ _ _ _ tM (fun q u hq=>?_) jG
      rw[cQ,eY w blk2 (jj*sz+q) cur e1 (0,0) g1]
      rw[cu] at hq
      split at hq
      ·rw[bX,aQ] at hq;exact hq
      ·cases hq
     have bA:=iF (P:=P) (w:=w) t t ty e j' h2 jw blk2 0 n' cap cur (.of e1) g1 RT.of_ok _ m _ po (by omega) (by rw[← ek,tM];omega)
     rw[← ek,tM] at bA
     simp only[ah] at bA
     have wA:RelL I w cur.toList es.flatten:=fun q c hq=>by
      have oH:=(ak.1 hq).1
      rw[bz es g3] at oH
      have:=aP sz g4
      refine⟨cur.getD q undef,?_,g5 q c hq⟩
      rw[aQ,ao,ay (show q<cur.size by omega)];rfl
     have mK:=bz es g3
     have fx:=aP sz (show n'+m≤es.length from Y0)
     have Kl:=aP sz (show jj+m≤es.length from hjm)
     rw[cR] at fx Kl
     have hdl:∀ x∈es.drop jj,x.length=sz:=fun x hx=>g3 x (cK hx)
     have bH:=hst.gsSet (L:=cur.toList.take (n'*sz)++(cur.toList.drop (jj*sz)).take (m*sz)++cur.toList.drop (n'*sz+m*sz)) (es':=es.take n'++(es.drop jj).take m++es.drop (n'+m)) hb iZ hk g1 g2
      (by simp only[ax,aZ,cY];omega)
      (fun x hx=>by
       rcases aY.1 hx with hx | hx
       ·rcases aY.1 hx with hx | hx
        ·exact g3 x (cz hx)
        ·exact hdl x (cz hx)
       ·exact g3 x (cK hx))
      (by rw[ax,ax,tM,aZ,cY,mL,ci (by omega)];omega)
      (fun u hu=>by
       rcases aY.1 hu with hu | hu
       ·rcases aY.1 hu with hu | hu
        ·exact g6 u (cA.1 (cz hu))
        ·exact jG u hu
       ·exact g6 u (cA.1 (cK hu)))
      (by
       rw[dW,dW,oc g3 (by omega),oc hdl (by rw[cY];omega),mj g3 (by omega),mj g3 (by omega),cR]
       refine RelL.append (RelL.append (wA.take _) ((wA.drop _).take _) ?_) (wA.drop _) ?_
       ·rw[aZ,aZ,mL,mK,ci (by omega),ci (by omega)]
       ·rw[ax,ax,tM,aZ,aZ,aZ,cY,mL,mK,ci (by omega),ci (by omega),ci (by omega)])
     exact⟨_,_,_,_,_,h,bA,bH,.ofC (.ex _ rfl rfl)⟩
   ·exact h.elim
  ·exact h.elim
 ·exact h.elim
theorem Dk {t ty:TypeId} {vx:Value} {ox:Option Nat} {K:S→Prop} (hst:St G n I0 M w0 I β ob s a w) (h:iy P s K [t] [x]) (hx:LR (Wr M w0) I β w ox vx x) :
 ∃ s' ob' w',K s'∧(Builtin.clear_ #[t] ty #[vx]).run P w=.ok (.tuple #[]) w'∧St G n I0 M w0 I β ob' s' a w':=by
 unfold iy at h
 split at h
 ·rename_i t' b off len cap sz rk pu
  simp only[bO,fY] at rk pu
  subst rk
  subst pu
  split at h
  ·rename_i e _ _ _ _ _ _ hi
   obtain⟨j,d,h1,h2,h3,_⟩:=bn hi
   have hd:=df h3
   subst hd
   split at h
   ·rename_i m _ _ z _ _ rE
    obtain⟨j',d',jw,nQ,_,ek,_,_,lQ,_⟩:=bn rE
    simp only at lQ ek
    obtain⟨⟨rfl,hp,tL,hb,iZ,ri⟩,h⟩:=h
    split at lQ
    ·rename_i zv rF
     simp only[LR] at hx
     obtain⟨jL,blk,off',cap',y0,hβ,mG,rfl⟩:=hx
     have rf:=kz (I:=I) (w:=w) lQ.symm
     by_cases h0:len=0
     ·subst h0
      refine⟨_,_,w,h,?_,hst.write_nil⟩
      unfold Builtin.clear_
      simp[aO h2]
     ·have:off'=off:=by rcases mG with h4 | h4;omega;exact h4
      subst this
      have e1:((Array.range (len*z.length)).map (zv.cells[· % zv.cells.size]!))=Builtin.zeroCells zv.cells len:=by
       unfold Builtin.zeroCells
       rw[rf.1]
      have mH:=qk rf (by omega) len
      rw[e1] at mH
      have mK:(List.replicate len z).flatten.length=len*m:=by rw[bz (sz:=m) _ (fun x hx=>by rw[eN hx];exact tL),List.length_replicate]
      have sP:(Builtin.zeroCells zv.cells len).toList.length=(List.replicate len z).flatten.length:=by
       rw[bJ];exact mH.1
      obtain⟨cur,T,ob',fQ,hT,XI,iY,bH⟩:=hst.write (k:=off') (cs:=(List.replicate len z).flatten) (vs:=(Builtin.zeroCells zv.cells len).toList) hb hβ iZ sP (by rw[mK];exact ri) (fun q c hq=>by
       have:=mH.2 q c hq
       have oH:q<(Builtin.zeroCells zv.cells len).size:=by rw[← bJ,sP];exact(ak.1 hq).1
       refine⟨(Builtin.zeroCells zv.cells len)[q],by rw[aQ,ay oH],?_⟩
       rw[ao] at this
       rw[ay oH] at this
       exact this)
      have bA:=fB (P:=P) blk off' T (Builtin.zeroCells zv.cells len).toList 0 cur w fQ hT (by rw[sP,mK];omega) iY
      simp only[dL] at bA
      refine⟨_,_,_,h,?_,bH⟩
      obtain⟨len,rfl⟩:∃ k,len=k+1:=⟨len - 1,by omega⟩
      unfold Builtin.clear_
      simp[aO h2,zeroValue,typeInfo,jw,rF,bA]
    ·cases lQ
   ·exact h.elim
  ·exact h.elim
 ·rename_i t' blk off m cap2 rk pu
  simp only[bO,fY] at rk pu
  subst rk
  subst pu
  obtain rfl:=hx.toC.ex_inv
  split at h
  ·rename_i e _ _ _ _ _ _ hi
   obtain⟨j,d,h1,h2,h3,_⟩:=bn hi
   have hd:=df h3
   subst hd
   split at h
   ·rename_i sz0 _ _ z _ _ rE
    obtain⟨j',d',jw,nQ,_,ek,_,_,lQ,_⟩:=bn rE
    simp only at lQ ek
    obtain⟨b,k,jj,cap,E,es,⟨hp,tL,⟨e1,rfl⟩,hb,iZ,hk,mG,hjm⟩,h⟩:=h
    split at lQ
    ·rename_i zv rF
     have rf:=kz (I:=I) (w:=w) lQ.symm
     rcases hst.gsAt hb hk with⟨_,_,_,hE⟩ | ⟨cur,e2,sz,j4,hE,_,g1,g2,g3,g4,gm,g5,g6,g7⟩
     ·cases hE
     simp only[am,dU] at hE
     obtain⟨rfl,rfl⟩:=hE
     by_cases h0:m=0
     ·subst h0
      have ab4:es.take jj++List.replicate 0 z++es.drop (jj+0)=es:=by simp
      rw[ab4] at h
      have gp:(s.bx b).set k (.gs (some (.slice (some ⟨blk,0,none⟩) es.length cap)) (some (e1,sz0)) es)=s.bx b:=by
       obtain⟨EU,hke⟩:=ak.1 hk
       rw[← hke,List.set_getElem_self]
      rw[gp,pF] at h
      refine⟨_,_,w,h,?_,hst⟩
      unfold Builtin.clear_
      simp[aO h2]
     ·have Uk:off=jj*sz0:=by rcases mG with h4 | h4;exact absurd h4 h0;exact h4
      subst Uk
      have ez:((Array.range (m*z.length)).map (zv.cells[· % zv.cells.size]!))=Builtin.zeroCells zv.cells m:=by
       unfold Builtin.zeroCells
       rw[rf.1]
      have mH:=qk rf (by omega) m
      rw[ez] at mH
      have XG:(List.replicate m z).flatten.length=m*sz0:=by rw[bz (sz:=sz0) _ (fun x hx=>by rw[eN hx];exact tL),List.length_replicate]
      have sP:(Builtin.zeroCells zv.cells m).toList.length=m*sz0:=by
       rw[bJ,mH.1,XG]
      have mL:cur.toList.length=cur.size:=bJ
      have q1:(jj+m)*sz0≤cur.size:=by rw[g2];exact aP _ (by omega)
      rw[cR] at q1
      have YU:RelL I w (Builtin.zeroCells zv.cells m).toList (List.replicate m z).flatten:=fun q c hq=>by
       have:=mH.2 q c hq
       have oH:q<(Builtin.zeroCells zv.cells m).size:=by rw[← bJ,sP,← XG];exact(ak.1 hq).1
       refine⟨(Builtin.zeroCells zv.cells m)[q],by rw[aQ,ay oH],?_⟩
       rw[ao] at this
       rw[ay oH] at this
       exact this
      have YV:∀ u∈(Builtin.zeroCells zv.cells m).toList,u.oneCell'=true:=fun u hu=>by
       obtain⟨q,hq⟩:=List.mem_iff_getElem?.1 hu
       have oH:q<(List.replicate m z).flatten.length:=by rw[XG,← sP];exact(ak.1 hq).1
       obtain⟨u',Bo,ja⟩:=YU q _ (aj oH)
       rw[hq] at Bo;cases Bo
       exact ja.oneCell
      have bA:=fB (P:=P) blk (jj*sz0) (.of e1) (Builtin.zeroCells zv.cells m).toList 0 cur w g1 RT.of_ok (by rw[sP];omega) YV
      simp only[dL,sP] at bA
      have wA:RelL I w cur.toList es.flatten:=fun q c hq=>by
       have oH:=(ak.1 hq).1
       rw[bz es g3] at oH
       have:=aP sz0 g4
       refine⟨cur.getD q undef,?_,g5 q c hq⟩
       rw[aQ,ao,ay (show q<cur.size by omega)];rfl
      have mK:=bz es g3
      have Kl:=aP sz0 (show jj+m≤es.length from hjm)
      rw[cR] at Kl
      have bH:=hst.gsSet (L:=cur.toList.take (jj*sz0)++(Builtin.zeroCells zv.cells m).toList++cur.toList.drop (jj*sz0+m*sz0)) (es':=es.take jj++List.replicate m z++es.drop (jj+m)) hb iZ hk g1 g2
       (by simp only[ax,aZ,cY,List.length_replicate];omega)
       (fun x hx=>by
        rcases aY.1 hx with hx | hx
        ·rcases aY.1 hx with hx | hx
         ·exact g3 x (cz hx)
         ·rw[eN hx];exact tL
        ·exact g3 x (cK hx))
       (by rw[ax,ax,sP,aZ,cY,mL,ci (by omega)];omega)
       (fun u hu=>by
        rcases aY.1 hu with hu | hu
        ·rcases aY.1 hu with hu | hu
         ·exact g6 u (cA.1 (cz hu))
         ·exact YV u hu
        ·exact g6 u (cA.1 (cK hu)))
       (by
        rw[dW,dW,oc g3 (by omega),mj g3 (by omega),cR]
        refine RelL.append (RelL.append (wA.take _) YU ?_) (wA.drop _) ?_
        ·rw[aZ,aZ,mL,mK,ci (by omega),ci (by omega)]
        ·rw[ax,ax,sP,XG,aZ,aZ,mL,mK,ci (by omega),ci (by omega)])
      refine⟨_,_,_,h,?_,bH⟩
      obtain⟨m,rfl⟩:∃ k,m=k+1:=⟨m - 1,by omega⟩
      unfold Builtin.clear_
      simp[aO h2,zeroValue,typeInfo,jw,rF,bA]
    ·cases lQ
   ·exact h.elim
  ·exact h.elim
 ·exact h.elim
theorem Dl {src dst:TypeId} {d:Option Tmp} {X:Operand} {K:S→Prop} (hst:St G n I0 M w0 I β ob s a w) (hd:∀ t,d=some t→t<n) (h:CS P s d src dst K (ev G s X)) :
 ∃ s' v w',K (s'.put d v)∧∃ u,(convert src dst (a.eval X)).run P w=.ok u w'∧∃ β' ob',St G n I0 M w0 I β' ob' s' a w'∧LR (Wr M w0) I β' w' none u v:=by
 unfold CS at h
 split at h
 ·rename_i st uY
  split at h
  ·rename_i e _ _ _ _ _ _ hi rj
   obtain⟨j,d1,_,h2,h3,_⟩:=bn hi
   obtain⟨j',d',_,nQ,XE,_⟩:=bn rj
   have pm:=df XE
   subst pm
   have Uf:=nk h3
   subst Uf
   split at h
   ·rename_i rE
    obtain⟨je,de,_,h2e,h3e,_⟩:=bn rE
    have hde:=vb h3e
    subst hde
    have hx:=bB hst X
    rw[uY] at hx
    have bA:=run_bytes_of_string (P:=P) w src dst e st h2 nQ h2e
    rw[← hx.lit] at bA
    have rG:(j8 st).flatten=st.data.toList.map fun b=>C.lit (.int .u8 b.toNat):=by
     unfold j8
     generalize st.data.toList=l
     induction l with
     |nil=>rfl
     |cons b l ih=>simp only[aL,dQ,ih];rfl
    have dR:st.size≤(bytesRow st (grownCap w st.size 0 e)).size:=by simp[bytesRow]
    have ly:∀ q,q<st.size→(bytesRow st (grownCap w st.size 0 e)).getD q undef=.int .u8 ((st.data.toList.getD q 0).toNat:Int):=fun q hq=>by
     have OY:q<st.data.size:=hq
     unfold bytesRow
     rw[ao,dx (by simpa using OY),Array.getElem?_map,ay OY]
     have:st.data.toList.getD q 0=st.data[q]:=by
      rw[aA,aQ,ay OY];rfl
     rw[this];rfl
    have uZ:=hst.drew.newBox (cur:=bytesRow st (grownCap w st.size 0 e)) (T:=⟨e,((bytesRow st (grownCap w st.size 0 e)).size,(bytesRow st (grownCap w st.size 0 e)).size+1)⟩)
     (cs:=(j8 st).flatten.map .c) (od:=fun _=>none) (by rw[rG];simpa using dR) (.inr (ae _)) (fun q=>by
      by_cases hq:q<st.size
      ·have OY:q<st.data.toList.length:=by simpa using hq
       have e2:((j8 st).flatten.map V.c).getD q .un=.c (.lit (.int .u8 ((st.data.toList.getD q 0).toNat:Int))):=by
        rw[rG,aA,aA,ba,ba,aj OY];rfl
       rw[ly q hq,e2];exact .ofLit rfl
      ·have e2:((j8 st).flatten.map V.c).getD q .un=.un:=by
        rw[rG];rw[aA,b8 (by simpa using hq)];rfl
       rw[e2];simp only[LR];exact .un _) (fun u hu=>by
      unfold bytesRow at hu
      rcases Array.mem_append.1 hu with hu | hu
      ·obtain⟨b,_,rfl⟩:=Array.mem_map.1 hu;rfl
      ·rw[Array.mem_replicate] at hu;rw[hu.2];rfl) (fun _ _ h=>by cases h) (fun _ _ _ h=>by cases h) (yN fun x hx=>by
      obtain⟨c,_,rfl⟩:=bu.1 hx;rfl)
    refine⟨_,_,_,h,_,bA,_,_,uZ,?_⟩
    simp only[LR]
    exact⟨ae _,w.heap.size,0,_,grownCap_ge w _ _ _,by simp,.inr rfl,rfl⟩
   ·exact h.elim
  ·exact h.elim
 ·exact h.elim
end
section
variable {P:Program} {G:Gl} {tr:List Nat} {n:Nat} {I0:Ft} {M:Mx} {w0:World} {I:Ft} {β:Nat→Option Nat} {ob:Loc→Option Nat} {s:S} {a:Act} {w:World} {base:Nat→Prop} {v:Value} {x:V}
 {g:Option Value} {E:Option (TypeId×Nat)} {es:List (List C)} {ops:Array Oper} {K:S→Prop}
theorem OwnG.gsV {o:Option Nat} (h:OwnG base I w E es o v):GsV E es v:=by
 rcases h with⟨_,h1,h2,h3⟩ | ⟨e,blk,cap,cur,sz,_,_,hv,_,_,hc,_⟩
 ·exact .inr ⟨h2,h1,h3⟩
 ·exact .inl ⟨blk,cap,hv,hc⟩
theorem St.reown (h:St G n I0 M w0 I β ob s a w) {b k:Nat} {x x':V} {o':Option Nat} (hb:b<s.nb) (hk:(s.bx b)[k]?=some x) (hxm:x.isMk=false) (E3:x'.isMk=false) (ho:o'=none∨o'=ob (.b b k))
 (ET:∀ cur:Array Value,LR (Wr M w0) I β w (ob (.b b k)) (cur.getD k undef) x→LR (Wr M w0) I β w o' (cur.getD k undef) x') :
 St G n I0 M w0 I β (upL ob (.b b k) o') { s with bx:=up s.bx b ((s.bx b).set k x') } a w:=by
 have ey:∀ L c,upL ob (.b b k) o' L=some c→ob L=some c:=fun L c hL=>by
  simp only[upL] at hL
  split at hL
  ·rename_i e;subst e
   rcases ho with ho | ho
   ·rw[ho] at hL;cases hL
   ·rw[← ho];exact hL
  ·exact hL
 have qF:k<(s.bx b).length:=(ak.1 hk).1
 have sO:(s.bx b).getD k .un=x:=by simp[List.getD,hk]
 exact {
  size:=h.size,defers:=h.defers,below:=h.below,ilow:=h.ilow,kept:=h.kept,ihigh:=h.ihigh,ibnd:=h.ibnd
  fr:=fun t=>by
   have:=h.fr t
   have e:upL ob (.b b k) o' (.t t)=ob (.t t):=by simp[upL]
   rw[e];exact this
  bx:=fun i hi=>by
   obtain⟨b1,cur,e1,e2,e3,e4,e5,e7⟩:=h.bx i hi
   by_cases sR:i=b
   ·subst sR
    refine⟨b1,cur,e1,e2,?_,by simp only[cn,iC];exact e4,fun j=>?_,e7⟩
    ·simp only[cn]
     refine e3.congr (by simp) ?_
     by_cases sS:k=0
     ·subst sS
      have g1:((s.bx i).set 0 x').getD 0 .un=x':=by simp[List.getD,qF]
      rw[hZ (by unfold cX;rw[g1];exact E3),hZ (by unfold cX;rw[sO];exact hxm)]
     ·have:((s.bx i).set k x').getD 0 .un=(s.bx i).getD 0 .un:=by simp[List.getD,dj sS]
      unfold nI
      rw[this]
    ·simp only[cn]
     by_cases hjk:j=k
     ·subst hjk
      have:((s.bx i).set j x').getD j .un=x':=by simp[List.getD,qF]
      rw[this]
      have e:upL ob (.b i j) o' (.b i j)=o':=by simp[upL]
      rw[e]
      have h5:=e5 j
      rw[sO] at h5
      exact ET cur h5
     ·have:((s.bx i).set k x').getD j .un=(s.bx i).getD j .un:=by simp[List.getD,dj (fM hjk)]
      rw[this]
      have e:upL ob (.b i k) o' (.b i j)=ob (.b i j):=by simp[upL,hjk]
      rw[e];exact e5 j
   ·refine⟨b1,cur,e1,e2,by simp only[cZ _ _ sR];exact e3,by simp only[cZ _ _ sR];exact e4,fun j=>?_,e7⟩
    simp only[cZ _ _ sR]
    have e:upL ob (.b b k) o' (.b i j)=ob (.b i j):=by simp[upL,sR]
    rw[e];exact e5 j
  bnone:=h.bnone,ext:=h.ext,bnew:=h.bnew,binj:=h.binj
  oinj:=fun L L' c q1 q2=>h.oinj L L' c (ey L c q1) (ey L' c q2)
  obx:=fun L c i q1=>h.obx L c i (ey L c q1)
  obnd:=fun L c q1=>h.obnd L c (ey L c q1)
  glob:=h.glob }
theorem St.reword (h:St G n I0 M w0 I β ob s a w) {b k:Nat} {x x':V} (hb:b<s.nb) (hk:(s.bx b)[k]?=some x) (hxm:x.isMk=false) (E3:x'.isMk=false)
 (ET:∀ cur,LR (Wr M w0) I β w (ob (.b b k)) (Array.getD cur k undef) x→LR (Wr M w0) I β w (ob (.b b k)) (Array.getD cur k undef) x') :
 SE G n I0 M w0 (s.cell b k x') a w:=⟨_,_,_,h.reown hb hk hxm E3 (.inr rfl) ET⟩
theorem St.adopt (h:St G n I0 M w0 I β ob s a w) {blk:Nat} {cur:Array Value} {T:RT} {cs:List C} (sQ:Wr M w0 blk) (fQ:w.heap[blk]?=some (.cells cur T.t T.fz)) (hT:T.ok cur.size) (iY:∀ u∈cur,u.oneCell'=true)
 (dR:cs.length≤cur.size) (hc:∀ j c,cs[j]?=some c→CR I w (cur.getD j undef) c) (j4:∀ L,ob L≠some blk) (hβ:∀ i,β i≠some blk) (hI:∀ o,¬ I blk o) :
 St G n I0 M w0 I (up β s.nb (some blk)) (fun L=>match L with | .b i j=>if i=s.nb then none else ob (.b i j) | L=>ob L) { s with bx:=up s.bx s.nb (cs.map .c),nb:=s.nb+1 } a w:=by
 have hβ':∀ i b,β i=some b→up β s.nb (some blk) i=some b:=fun i b hi=>by
  have:i≠s.nb:=fun e=>by rw[h.bnone i (by omega)] at hi;cases hi
  rw[cZ _ _ this];exact hi
 have ey:∀ L b,(match L with | .b i j=>if i=s.nb then none else ob (.b i j) | L=>ob L)=some b→ob L=some b:=fun L b hL=>by
  cases L with
  |t i=>exact hL
  |b i j=>
   simp only at hL
   split at hL
   ·cases hL
   ·exact hL
 have j7:∀ {o:Option Nat} {v:Value} {x:V},LR (Wr M w0) I β w o v x→LR (Wr M w0) I (up β s.nb (some blk)) w o v x:=fun hx=>hx.mono (fun _ _ h=>⟨h,rfl⟩) hβ' (fun _ _=>⟨rfl,fun _ h=>h⟩)
 have iZ:cX (cs.map V.c)=false:=by cases cs<;>rfl
 exact {
  size:=h.size,defers:=h.defers,below:=h.below,kept:=h.kept,ilow:=h.ilow,ihigh:=h.ihigh,ibnd:=h.ibnd
  fr:=fun t=>j7 (h.fr t)
  bx:=fun i hi=>by
   by_cases fy:i=s.nb
   ·subst fy
    refine⟨blk,cur,by simp,sQ,.of fQ iY hT (by simpa using iZ),by simpa using dR,fun j=>?_,hI⟩
    simp only[cn,cJ]
    by_cases hj:j<cs.length
    ·have e2:(cs.map V.c).getD j .un=.c cs[j]:=by simp[List.getD,hj]
     rw[e2];exact .ofC (hc j _ (aj hj))
    ·have e2:(cs.map V.c).getD j .un=.un:=by simp[List.getD,b8 (dP hj)]
     rw[e2];simp only[LR];exact .un _
   ·obtain⟨b1,cur',e1,e2,e3,e4,e5,e7⟩:=h.bx i (by simp only at hi;omega)
    refine⟨b1,cur',hβ' i b1 e1,e2,by simpa only[cZ _ _ fy] using e3,by simpa only[cZ _ _ fy] using e4,fun j=>?_,e7⟩
    simp only[cZ _ _ fy,if_neg fy]
    exact j7 (e5 j)
  bnone:=fun i hi=>by
   simp only at hi
   rw[cZ _ _ (by omega)]
   exact h.bnone i (by omega)
  ext:=fun i b he=>hβ' i b (h.ext i b he)
  bnew:=fun i b hi=>by
   by_cases h1:i=s.nb
   ·subst h1;rw[cn] at hi;cases hi;exact .inr sQ
   ·rw[cZ _ _ h1] at hi;exact h.bnew i b hi
  binj:=fun i j b hi hj=>by
   by_cases h1:i=s.nb<;>by_cases h2:j=s.nb
   ·rw[h1,h2]
   ·subst h1;rw[cn] at hi;cases hi;rw[cZ _ _ h2] at hj;exact absurd hj (hβ j)
   ·subst h2;rw[cn] at hj;cases hj;rw[cZ _ _ h1] at hi;exact absurd hi (hβ i)
   ·rw[cZ _ _ h1] at hi;rw[cZ _ _ h2] at hj;exact h.binj i j b hi hj
  oinj:=fun L L' b hL wE=>h.oinj L L' b (ey L b hL) (ey L' b wE)
  obx:=fun L b i hL hi=>by
   by_cases fy:i=s.nb
   ·subst fy;rw[cn] at hi;cases hi
    exact j4 L (ey L _ hL)
   ·rw[cZ _ _ fy] at hi
    exact h.obx L b i (ey L b hL) hi
  obnd:=fun L b hL=>h.obnd L b (ey L b hL)
  glob:=h.glob }
theorem St.gsCell (h:St G n I0 M w0 I β ob s a w) {b k:Nat} (hb:b<s.nb) (iZ:cX (s.bx b)=false) (hk:(s.bx b)[k]?=some (.gs g E es)):∃ blk cur,β b=some blk∧HB w blk cur (s.bx b)∧(∀ u,g=some u→cur.getD k undef=u)∧OwnG (Wr M w0) I w E es (ob (.b b k)) (cur.getD k undef):=by
 obtain⟨b1,cur,e1,e2,e3,e4,e5,e7⟩:=h.bx b hb
 have h5:=e5 k
 have sO:(s.bx b).getD k .un=.gs g E es:=by simp[List.getD,hk]
 rw[sO] at h5
 exact⟨b1,cur,e1,e3,h5.1,h5.2⟩
theorem St.reownAt (h:St G n I0 M w0 I β ob s a w) {b k blk:Nat} {cur:Array Value} {x x':V} {o':Option Nat} (hb:b<s.nb) (iZ:cX (s.bx b)=false) (hβ:β b=some blk) (hB:HB w blk cur (s.bx b)) (hk:(s.bx b)[k]?=some x) (E3:x'.isMk=false) (ho:o'=none∨o'=ob (.b b k))
 (ET:LR (Wr M w0) I β w o' (cur.getD k undef) x') :
 St G n I0 M w0 I β (upL ob (.b b k) o') { s with bx:=up s.bx b ((s.bx b).set k x') } a w:=by
 have ey:∀ L c,upL ob (.b b k) o' L=some c→ob L=some c:=fun L c hL=>by
  simp only[upL] at hL
  split at hL
  ·rename_i e;subst e
   rcases ho with ho | ho
   ·rw[ho] at hL;cases hL
   ·rw[← ho];exact hL
  ·exact hL
 have qF:k<(s.bx b).length:=(ak.1 hk).1
 exact {
  size:=h.size,defers:=h.defers,below:=h.below,ilow:=h.ilow,kept:=h.kept,ihigh:=h.ihigh,ibnd:=h.ibnd
  fr:=fun t=>by
   have:=h.fr t
   have e:upL ob (.b b k) o' (.t t)=ob (.t t):=by simp[upL]
   rw[e];exact this
  bx:=fun i hi=>by
   obtain⟨b1,cur1,e1,e2,e3,e4,e5,e7⟩:=h.bx i hi
   by_cases sR:i=b
   ·subst sR
    rw[hβ] at e1;cases e1
    cases hB.same iZ e3
    refine⟨blk,cur,hβ,e2,?_,by simp only[cn,iC];exact e4,fun j=>?_,e7⟩
    ·simp only[cn]
     refine e3.congr (by simp) ?_
     by_cases sS:k=0
     ·subst sS
      have g1:((s.bx i).set 0 x').getD 0 .un=x':=by simp[List.getD,qF]
      rw[hZ (by unfold cX;rw[g1];exact E3),hZ iZ]
     ·have:((s.bx i).set k x').getD 0 .un=(s.bx i).getD 0 .un:=by simp[List.getD,dj sS]
      unfold nI
      rw[this]
    ·simp only[cn]
     by_cases hjk:j=k
     ·subst hjk
      have:((s.bx i).set j x').getD j .un=x':=by simp[List.getD,qF]
      rw[this]
      have e:upL ob (.b i j) o' (.b i j)=o':=by simp[upL]
      rw[e]
      exact ET
     ·have:((s.bx i).set k x').getD j .un=(s.bx i).getD j .un:=by simp[List.getD,dj (fM hjk)]
      rw[this]
      have e:upL ob (.b i k) o' (.b i j)=ob (.b i j):=by simp[upL,hjk]
      rw[e];exact e5 j
   ·refine⟨b1,cur1,e1,e2,by simp only[cZ _ _ sR];exact e3,by simp only[cZ _ _ sR];exact e4,fun j=>?_,e7⟩
    simp only[cZ _ _ sR]
    have e:upL ob (.b b k) o' (.b i j)=ob (.b i j):=by simp[upL,sR]
    rw[e];exact e5 j
  bnone:=h.bnone,ext:=h.ext,bnew:=h.bnew,binj:=h.binj
  oinj:=fun L L' c q1 q2=>h.oinj L L' c (ey L c q1) (ey L' c q2)
  obx:=fun L c i q1=>h.obx L c i (ey L c q1)
  obnd:=fun L c q1=>h.obnd L c (ey L c q1)
  glob:=h.glob }
theorem St.giveCell (h:St G n I0 M w0 I β ob s a w) {b k blk:Nat} {cur:Array Value} {x':V} {o':Option Nat} (hb:b<s.nb) (iZ:cX (s.bx b)=false) (hβ:β b=some blk) (hB:HB w blk cur (s.bx b)) (qF:k<(s.bx b).length) (E3:x'.isMk=false) (ho:∀ c,o'=some c→(c<w.heap.size∧Wr M w0 c)∧(∀ L,ob L≠some c)∧∀ i,β i≠some c)
 (ET:LR (Wr M w0) I β w o' (cur.getD k undef) x') :
 St G n I0 M w0 I β (upL ob (.b b k) o') { s with bx:=up s.bx b ((s.bx b).set k x') } a w:=by
 have ey:∀ L c,upL ob (.b b k) o' L=some c→(L=.b b k∧o'=some c)∨(L≠.b b k∧ob L=some c):=fun L c hL=>by
  simp only[upL] at hL
  split at hL
  ·rename_i e;exact .inl ⟨e,hL⟩
  ·rename_i e;exact .inr ⟨e,hL⟩
 exact {
  size:=h.size,defers:=h.defers,below:=h.below,ilow:=h.ilow,kept:=h.kept,ihigh:=h.ihigh,ibnd:=h.ibnd
  fr:=fun t=>by
   have:=h.fr t
   have e:upL ob (.b b k) o' (.t t)=ob (.t t):=by simp[upL]
   rw[e];exact this
  bx:=fun i hi=>by
   obtain⟨b1,cur1,e1,e2,e3,e4,e5,e7⟩:=h.bx i hi
   by_cases sR:i=b
   ·subst sR
    rw[hβ] at e1;cases e1
    cases hB.same iZ e3
    refine⟨blk,cur,hβ,e2,?_,by simp only[cn,iC];exact e4,fun j=>?_,e7⟩
    ·simp only[cn]
     refine e3.congr (by simp) ?_
     by_cases sS:k=0
     ·subst sS
      have g1:((s.bx i).set 0 x').getD 0 .un=x':=by simp[List.getD,qF]
      rw[hZ (by unfold cX;rw[g1];exact E3),hZ iZ]
     ·have:((s.bx i).set k x').getD 0 .un=(s.bx i).getD 0 .un:=by simp[List.getD,dj sS]
      unfold nI
      rw[this]
    ·simp only[cn]
     by_cases hjk:j=k
     ·subst hjk
      have:((s.bx i).set j x').getD j .un=x':=by simp[List.getD,qF]
      rw[this]
      have e:upL ob (.b i j) o' (.b i j)=o':=by simp[upL]
      rw[e]
      exact ET
     ·have:((s.bx i).set k x').getD j .un=(s.bx i).getD j .un:=by simp[List.getD,dj (fM hjk)]
      rw[this]
      have e:upL ob (.b i k) o' (.b i j)=ob (.b i j):=by simp[upL,hjk]
      rw[e];exact e5 j
   ·refine⟨b1,cur1,e1,e2,by simp only[cZ _ _ sR];exact e3,by simp only[cZ _ _ sR];exact e4,fun j=>?_,e7⟩
    simp only[cZ _ _ sR]
    have e:upL ob (.b b k) o' (.b i j)=ob (.b i j):=by simp[upL,sR]
    rw[e];exact e5 j
  bnone:=h.bnone,ext:=h.ext,bnew:=h.bnew,binj:=h.binj
  oinj:=fun L L' c q1 q2=>by
   rcases ey L c q1 with⟨h1,h2⟩ | ⟨h1,h2⟩<;>rcases ey L' c q2 with⟨h3,h4⟩ | ⟨h3,h4⟩
   ·rw[h1,h3]
   ·exact absurd h4 ((ho c h2).2.1 L')
   ·exact absurd h2 ((ho c h4).2.1 L)
   ·exact h.oinj L L' c h2 h4
  obx:=fun L c i q1=>by
   rcases ey L c q1 with⟨_,h2⟩ | ⟨_,h2⟩
   ·exact(ho c h2).2.2 i
   ·exact h.obx L c i h2
  obnd:=fun L c q1=>by
   rcases ey L c q1 with⟨_,h2⟩ | ⟨_,h2⟩
   ·exact(ho c h2).1
   ·exact h.obnd L c h2
  glob:=h.glob }
theorem OwnG.cool {o:Option Nat} (h:OwnG base I w E es o v):∃ I':Ft,(∀ b o,I b o→I' b o)∧(∀ b k,I' b k→I b k∨some b=o)∧OwnR base I' w E es o v:=by
 rcases h with⟨h0,h1,h2,a,h3⟩ | ⟨e,blk,cap,cur,sz,r1,r2,r3,r4,r5,r6,r7,r8,r9,r10,_,r12⟩
 ·subst h2;subst h3
  exact⟨I,fun _ _ h=>h,fun _ _ h=>.inl h,.nil a 0 (fun _=>rfl),.inl ⟨h0,h1,a,rfl⟩⟩
 ·subst r1
  refine⟨fun b' o=>I b' o∨(b'=blk∧o<es.length*sz),fun _ _ h=>.inl h,fun b k h=>?_,?_⟩
  ·rcases h with h | ⟨rfl,_⟩
   ·exact .inl h
   ·exact .inr rfl
  ·have ja:CR (fun b' o=>I b' o∨(b'=blk∧o<es.length*sz)) w (.slice (some ⟨blk,0,none⟩) es.length cap) (.sl es):=
    CR.row (I':=fun b' o=>I b' o∨(b'=blk∧o<es.length*sz)) (cap:=cap) (es:=es) (sz:=sz) r5 r6 r9 (fun q c hq=>by
     have h0:=(ak.1 hq).1
     rw[bz _ r9] at h0
     have h1:=aP sz r6
     exact⟨by rw[r8];omega,(r10 q c hq).mono fun b o h=>⟨.inl h,rfl⟩⟩) (fun o ho=>.inr ⟨rfl,ho⟩)
   rw[r3]
   refine⟨ja,.inr ⟨e,blk,cap,cur,sz,rfl,r2,rfl,r4,r5,r6,r7,r8,r9,fun o ho=>?_⟩⟩
   rcases ho with ho | ho
   ·exact absurd ho (r12 o)
   ·exact ho.2
end
section
variable {P:Program} {G:Gl} {tr:List Nat} {n:Nat} {I0:Ft} {M:Mx} {w0:World} {I:Ft} {β:Nat→Option Nat} {ob:Loc→Option Nat} {s:S} {a:Act} {w:World} {o:Oper}
 {next:Act→World→Prop} {Q:Exit→Act→World→Prop} {base:Nat→Prop} {v:Value} {x y:V}
theorem PR.ren {ρ:Nat→Nat} {β':Nat→Option Nat} {m:Nat} (h:PR I β w v (x.renP ρ)) (hx:x.ltP m) (hβ:∀ i b,i<m→β (ρ i)=some b→β' i=some b):PR I β' w v x:=by
 cases x<;>simp only[V.ltP] at hx<;>simp only[V.renP,PR] at h ⊢<;>try exact h
 ·obtain⟨blk,h1,h2⟩:=h;exact⟨blk,hβ _ _ hx h1,h2⟩
 ·obtain⟨h0,blk,o',c',yI,h1,h2⟩:=h;exact⟨h0,blk,o',c',yI,hβ _ _ hx h1,h2⟩
 ·obtain⟨blk,h1,h2⟩:=h;exact⟨blk,hβ _ _ hx h1,h2⟩
 ·obtain⟨blk,h1,h2⟩:=h;exact⟨blk,hβ _ _ hx h1,h2⟩
 ·obtain⟨blk,h1,h2⟩:=h;exact⟨blk,hβ _ _ hx h1,h2⟩
theorem UT {ρ:Nat→Nat} (h:x.renP ρ=.un):x=.un:=by cases x<;>first | rfl | cases h
theorem KG {ρ:Nat→Nat} (h:(x.renP ρ).isAT=true):x.renP ρ=x:=by cases x<;>first | rfl | cases h
theorem MH {ρ:Nat→Nat}:(x.renP ρ).isAT=x.isAT:=by cases x<;>rfl
theorem KR.ren {ρ:Nat→Nat} {β':Nat→Option Nat} {m:Nat} (h:KR I β w v (x.renP ρ)) (hx:x.ltP m) (hβ:∀ i b,i<m→β (ρ i)=some b→β' i=some b):KR I β' w v x:=by
 rcases h with h | ⟨h1,h2⟩ | h
 ·exact .inl (UT h)
 ·have e:=KG h1;rw[e] at h1 h2;exact .inr (.inl ⟨h1,h2⟩)
 ·exact .inr (.inr (h.ren hx hβ))
theorem LR.ren {ρ:Nat→Nat} {β':Nat→Option Nat} {m:Nat} {ox:Option Nat} (h:LR base I β w ox v (x.ren ρ)) (hx:x.lt m) (hβ:∀ i b,i<m→β (ρ i)=some b→β' i=some b):LR base I β' w ox v x:=by
 cases x<;>simp only[V.lt] at hx<;>simp only[V.ren,LR] at h ⊢<;>try exact h
 ·obtain⟨blk,h1,h2⟩:=h;exact⟨blk,hβ _ _ hx h1,h2⟩
 ·obtain⟨vf,vc,h1,h2,h3,h4,h5⟩:=h
  rw[ap] at h2 h3
  exact⟨vf,vc,h1,h2,h3,fun j x hj=>(h4 j (x.renP ρ) (by simp[hj])).ren (hx.1 x (bg hj)) hβ,fun j x hj=>(h5 j (x.renP ρ) (by simp[hj])).ren (hx.2 x (bg hj)) hβ⟩
 ·obtain⟨h0,blk,o',c',yI,h1,h2⟩:=h;exact⟨h0,blk,o',c',yI,hβ _ _ hx h1,h2⟩
 ·obtain⟨cs,h1,h2,h3⟩:=h
  rw[ap] at h2
  exact⟨cs,h1,h2,fun j x hj=>(h3 j (x.renP ρ) (by simp[hj])).ren (hx x (bg hj)) hβ⟩
 ·obtain⟨blk,h1,h2⟩:=h;exact⟨blk,hβ _ _ hx h1,h2⟩
 ·obtain⟨blk,m,h1,h2,h3,h4⟩:=h;exact⟨blk,m,h1,h2,hβ _ _ hx h3,h4⟩
 ·obtain⟨blk,h1,h2⟩:=h;exact⟨blk,hβ _ _ hx h1,h2⟩
 ·obtain⟨tm,h1,h2⟩:=h
  exact⟨tm,h1,fun t y hy=>KR.ren (m:=m) (ρ:=ρ) (h2 t (y.renP ρ) (bu.2 ⟨(t,y),hy,rfl⟩)) (hx _ hy) hβ⟩
 ·obtain⟨blk,h1,h2⟩:=h;exact⟨blk,hβ _ _ hx h1,h2⟩
theorem PR.toRen {ρ:Nat→Nat} {β':Nat→Option Nat} (h:PR I β w v x) (hβ:∀ i b,β i=some b→β' (ρ i)=some b):PR I β' w v (x.renP ρ):=by
 cases x<;>simp only[V.renP,PR] at h ⊢<;>try exact h
 ·obtain⟨blk,h1,h2⟩:=h;exact⟨blk,hβ _ _ h1,h2⟩
 ·obtain⟨h0,blk,o',c',yI,h1,h2⟩:=h;exact⟨h0,blk,o',c',yI,hβ _ _ h1,h2⟩
 ·obtain⟨blk,h1,h2⟩:=h;exact⟨blk,hβ _ _ h1,h2⟩
 ·obtain⟨blk,h1,h2⟩:=h;exact⟨blk,hβ _ _ h1,h2⟩
 ·obtain⟨blk,h1,h2⟩:=h;exact⟨blk,hβ _ _ h1,h2⟩
theorem KR.toRen {ρ:Nat→Nat} {β':Nat→Option Nat} (h:KR I β w v x) (hβ:∀ i b,β i=some b→β' (ρ i)=some b):KR I β' w v (x.renP ρ):=by
 rcases h with rfl | ⟨h1,h2⟩ | h
 ·exact .inl rfl
 ·have h3:(x.renP ρ).isAT=true:=by rw[MH];exact h1
  rw[KG h3];exact .inr (.inl ⟨h1,h2⟩)
 ·exact .inr (.inr (h.toRen hβ))
theorem yO {α γ:Type} {l:List α} {f:α→γ} {j:Nat} {y:γ} (h:(l.map f)[j]?=some y):∃ x,l[j]?=some x∧f x=y:=by simpa using h
theorem LR.toRen {ρ:Nat→Nat} {β':Nat→Option Nat} {ox:Option Nat} (h:LR base I β w ox v x) (hβ:∀ i b,β i=some b→β' (ρ i)=some b):LR base I β' w ox v (x.ren ρ):=by
 cases x<;>simp only[V.ren,LR] at h ⊢<;>try exact h
 ·obtain⟨blk,h1,h2⟩:=h;exact⟨blk,hβ _ _ h1,h2⟩
 ·obtain⟨vf,vc,h1,h2,h3,h4,h5⟩:=h
  refine⟨vf,vc,h1,by rw[ap];exact h2,by rw[ap];exact h3,fun j x hj=>?_,fun j x hj=>?_⟩
  ·obtain⟨y,hy,rfl⟩:=yO hj;exact(h4 j y hy).toRen hβ
  ·obtain⟨y,hy,rfl⟩:=yO hj;exact(h5 j y hy).toRen hβ
 ·obtain⟨h0,blk,o',c',yI,h1,h2⟩:=h;exact⟨h0,blk,o',c',yI,hβ _ _ h1,h2⟩
 ·obtain⟨cs,h1,h2,h3⟩:=h
  refine⟨cs,h1,by rw[ap];exact h2,fun j x hj=>?_⟩
  obtain⟨y,hy,rfl⟩:=yO hj;exact(h3 j y hy).toRen hβ
 ·obtain⟨blk,h1,h2⟩:=h;exact⟨blk,hβ _ _ h1,h2⟩
 ·obtain⟨blk,m,h1,h2,h3,h4⟩:=h;exact⟨blk,m,h1,h2,hβ _ _ h3,h4⟩
 ·obtain⟨blk,h1,h2⟩:=h;exact⟨blk,hβ _ _ h1,h2⟩
 ·obtain⟨tm,h1,h2⟩:=h
  refine⟨tm,h1,fun t y hy=>?_⟩
  obtain⟨⟨t',z⟩,hz,e⟩:=bu.1 hy
  cases e
  exact(h2 _ z hz).toRen hβ
 ·obtain⟨blk,h1,h2⟩:=h;exact⟨blk,hβ _ _ h1,h2⟩
theorem LR.wider {base':Nat→Prop} {ox:Option Nat} (h:LR base I β w ox v x) (hb:∀ b,ox=some b→base' b):LR base' I β w ox v x:=by
 cases x<;>simp only[LR] at h ⊢<;>try exact h
 ·obtain⟨h1,h2⟩:=h
  refine⟨h1,?_⟩
  rcases h2 with h2 | ⟨e,blk,cap,cur,sz,q1,q2,q3,q4,q5⟩
  ·exact .inl h2
  ·exact .inr ⟨e,blk,cap,cur,sz,q1,q2,q3,hb _ q1,q5⟩
 ·obtain⟨blk,m,h1,h2,h3⟩:=h;exact⟨blk,m,h1,hb _ h1,h3⟩
 ·obtain⟨h1,h2⟩:=h
  refine⟨h1,?_⟩
  rcases h2 with h2 | ⟨e,blk,cap,cur,sz,q1,q2,q3,q4,q5⟩
  ·exact .inl h2
  ·exact .inr ⟨e,blk,cap,cur,sz,q1,q2,q3,hb _ q1,q5⟩
 ·obtain⟨h1,e,blk,cap,cur,sz,q1,q2,q3,q4,q5⟩:=h
  exact⟨h1,e,blk,cap,cur,sz,q1,q2,q3,hb _ q1,q5⟩
 ·obtain⟨h1,h2⟩:=h
  refine⟨h1,?_⟩
  rcases h2 with h2 | ⟨e,blk,cap,cur,sz,q1,q2,q3,q4,q5⟩
  ·exact .inl h2
  ·exact .inr ⟨e,blk,cap,cur,sz,q1,q2,q3,hb _ q1,q5⟩
 ·rcases h with h2 | ⟨e,blk,cap,cur,sz,q1,q2,q3,q4,q5⟩
  ·exact .inl h2
  ·exact .inr ⟨e,blk,cap,cur,sz,q1,q2,q3,hb _ q1,q5⟩
theorem zj {ρ:Nat→Nat} (l:List V) (j:Nat):(l.map (V.ren ρ)).getD j .un=(l.getD j .un).ren ρ:=by
 simp only[aA,ba]
 cases l[j]?<;>rfl
theorem Fy {ρ:Nat→Nat} (l:List V):nI (l.map (V.ren ρ))=nI l:=by
 unfold nI
 rw[zj]
 cases l.getD 0 .un<;>rfl
theorem np {ρ:Nat→Nat}:∀ (bl:List (List V)) (k i:Nat) (b:List V),pB s.bx s.nb ρ k bl→bl[i]?=some b→ρ (k+i)<s.nb∧s.bx (ρ (k+i))=b.map (V.ren ρ)
 |[],_,i,b,_,hb=>by simp at hb
 |c::r,k,0,b,h,hb=>by simp at hb;subst hb;exact h.1
 |c::r,k,i+1,b,h,hb=>by
  have:=np r (k+1) i b h.2 (by simpa using hb)
  rw[show k+(i+1)=k+1+i by omega];exact this
theorem pJ {ρ:Nat→Nat}:∀ (bl:List (List V)) (k:Nat) (f:Nat→List V) (j:Nat),(∀ i,i<bl.length→ρ (k+i)≠j)→ff ρ k bl f j=f j
 |[],_,_,_,_=>rfl
 |b::r,k,f,j,h=>by
  simp only[ff]
  rw[pJ r (k+1) _ j (fun i hi=>by rw[show k+1+i=k+(i+1) by omega];exact h (i+1) (by simp;omega))]
  exact cZ _ _ (fun e=>h 0 (by simp) e.symm)
theorem zk {ρ:Nat→Nat}:∀ (bl:List (List V)) (k:Nat) (f:Nat→List V) (i:Nat) (b:List V),bl[i]?=some b→(∀ i j,i<bl.length→j<bl.length→ρ (k+i)=ρ (k+j)→i=j)→
 ff ρ k bl f (ρ (k+i))=b.map (V.ren ρ)
 |[],_,_,i,b,h,_=>by simp at h
 |c::r,k,f,0,b,h,pE=>by
  simp at h;subst h
  simp only[ff]
  rw[pJ r (k+1) _ _ (fun i hi e=>by
   have:=pE (i+1) 0 (by simp;omega) (by simp) (by rw[show k+(i+1)=k+1+i by omega];exact e)
   omega)]
  rw[dL];exact cn _ _ _
 |c::r,k,f,i+1,b,h,pE=>by
  simp only[ff]
  rw[show k+(i+1)=k+1+i by omega]
  refine zk r (k+1) _ i b (by simpa using h) fun i' j' hi hj e=>?_
  have:=pE (i'+1) (j'+1) (by simp;omega) (by simp;omega) (by rw[show k+(i'+1)=k+1+i' by omega,show k+(j'+1)=k+1+j' by omega];exact e)
  omega
theorem sY {ρ:List Nat} {nb:Nat} (hn:ρ.Nodup) (hl:∀ i,i<ρ.length→ρ.getD i 0<nb) (i j:Nat) (h:rho ρ nb i=rho ρ nb j):i=j:=by
 unfold rho at h
 by_cases hi:i<ρ.length<;>by_cases hj:j<ρ.length
 ·rw[if_pos hi,if_pos hj] at h
  simp only[aA,aj hi,aj hj,bQ] at h
  exact(List.getElem_inj hn).1 h
 ·rw[if_pos hi,if_neg hj] at h
  have:=hl i hi;omega
 ·rw[if_neg hi,if_pos hj] at h
  have:=hl j hj;omega
 ·rw[if_neg hi,if_neg hj] at h;omega
def Mof (β:Nat→Option Nat) (ob:Loc→Option Nat) (ρ:Nat→Nat) (k:Nat) (b:Nat):Prop:=(∃ q,q<k∧β (ρ q)=some b)∨∃ q j,q<k∧ob (.b (ρ q) j)=some b
def kp (β:Nat→Option Nat) (ρ:Nat→Nat) (k i:Nat):Option Nat:=if i<k then β (ρ i) else none
def obC (ob:Loc→Option Nat) (ρ:Nat→Nat) (k i j:Nat):Option Nat:=if i<k then ob (.b (ρ i) j) else none
theorem mV {ρ:Nat→Nat} {k i b:Nat} (h:kp β ρ k i=some b):i<k∧β (ρ i)=some b:=by
 unfold kp at h;split at h
 ·exact⟨‹_›,h⟩
 ·cases h
theorem vm {ρ:Nat→Nat} {k i j b:Nat} (h:obC ob ρ k i j=some b):i<k∧ob (.b (ρ i) j)=some b:=by
 unfold obC at h;split at h
 ·exact⟨‹_›,h⟩
 ·cases h
theorem St.give (hst:St G n I0 M w0 I β ob s a w) {ρ:Nat→Nat} {b0:List (List V)} (pE:∀ i j,ρ i=ρ j→i=j) (fy:pB s.bx s.nb ρ 0 b0) (bF:∀ b∈b0,∀ x∈b,x.lt b0.length) :
 BxR (Wr ⟨Mof β ob ρ b0.length,fun _=>none,[]⟩ w) I w (kp β ρ b0.length) (obC ob ρ b0.length) b0 where
 bx:=fun i cs iE=>by
  have hi:i<b0.length:=(ak.1 iE).1
  obtain⟨h1,h2⟩:=np b0 0 i cs fy iE
  rw[ah] at h1 h2
  obtain⟨blk,cur,e1,e2,e3,e4,e5,e7⟩:=hst.bx (ρ i) h1
  refine⟨blk,cur,by simp[kp,hi,e1],.inr (.inl ⟨i,hi,e1⟩),e3.congr (by rw[h2,ap]) (by rw[h2,Fy]),by have:=e4;rw[h2,ap] at this;exact this,fun j=>?_,e7⟩
  have:=e5 j
  rw[h2,zj] at this
  have hx:(cs.getD j .un).lt b0.length:=by
   by_cases hj:j<cs.length
   ·have:cs.getD j .un=cs[j]:=by simp[List.getD,hj]
    rw[this];exact bF cs (bg iE) _ (aF hj)
   ·have:cs.getD j .un=.un:=by simp[List.getD,b8 (dP hj)]
    rw[this];exact trivial
  have h3:=this.ren (β':=kp β ρ b0.length) hx (fun i b hi hb=>by simp[kp,hi,hb])
  have h4:obC ob ρ b0.length i j=ob (.b (ρ i) j):=by simp[obC,hi]
  rw[h4]
  exact h3.wider fun b hb=>.inr (.inr ⟨i,j,hi,hb⟩)
 bnone:=fun i hi=>by simp[kp,Nat.not_lt.2 hi]
 binj:=fun i j b hi hj=>by
  obtain⟨_,h1⟩:=mV hi
  obtain⟨_,h2⟩:=mV hj
  exact pE _ _ (hst.binj _ _ b h1 h2)
 oinj:=fun i j i' j' b h h'=>by
  obtain⟨_,h1⟩:=vm h
  obtain⟨_,h2⟩:=vm h'
  have:=hst.oinj _ _ b h1 h2
  simp only[Loc.b.injEq] at this
  exact⟨pE _ _ this.1,this.2⟩
 obx:=fun i j b k h hk=>by
  obtain⟨_,h1⟩:=vm h
  obtain⟨_,h2⟩:=mV hk
  exact hst.obx _ b _ h1 h2
 obnd:=fun i j b h=>by
  obtain⟨hi,h1⟩:=vm h
  exact⟨(hst.obnd _ b h1).1,.inr (.inr ⟨i,j,hi,h1⟩)⟩
 olen:=fun i j hi=>by simp[obC,Nat.not_lt.2 hi]
def qN (ρ:List Nat) (nb i:Nat):Option Nat:=if i∈ρ then some (ρ.idxOf i) else if nb≤i then some (i - nb+ρ.length) else none
theorem PI {ρ:List Nat} {nb:Nat} (hn:ρ.Nodup) (hl:∀ i,i<ρ.length→ρ.getD i 0<nb) (q:Nat):qN ρ nb (rho ρ nb q)=some q:=by
 unfold qN rho
 by_cases hq:q<ρ.length
 ·have e:ρ.getD q 0=ρ[q]:=by simp[List.getD,hq]
  rw[if_pos hq,e,if_pos (aF hq),hn.idxOf_getElem]
 ·rw[if_neg hq]
  have:¬ (nb+(q - ρ.length))∈ρ:=fun h=>by
   obtain⟨i,hi,e⟩:=gZ.1 h
   have:=hl i hi
   have e':ρ.getD i 0=ρ[i]:=by simp[List.getD,hi]
   omega
  rw[if_neg this,if_pos (by omega)]
  congr 1;omega
theorem nq {ρ:List Nat} {nb i q:Nat} (h:qN ρ nb i=some q):rho ρ nb q=i:=by
 unfold qN at h
 split at h
 ·rename_i hi
  simp only[am] at h
  subst h
  have bF:=List.idxOf_lt_length_of_mem hi
  unfold rho
  rw[if_pos bF]
  simp[List.getD,aj bF]
 ·split at h
  ·rename_i h1 h2
   simp only[am] at h
   subst h
   unfold rho
   rw[if_neg (by omega)];omega
  ·cases h
theorem BC {ρ:List Nat} {nb i:Nat} (h:qN ρ nb i=none):i<nb:=by
 unfold qN at h
 split at h
 ·cases h
 ·split at h
  ·cases h
  ·omega
end
section
variable {P:Program} {G:Gl} {tr:List Nat} {n:Nat} {I0:Ft} {M:Mx} {w0:World} {I:Ft} {β:Nat→Option Nat} {ob:Loc→Option Nat} {s:S} {a:Act} {w:World} {o:Oper}
 {next:Act→World→Prop} {Q:Exit→Act→World→Prop} {base:Nat→Prop} {v:Value} {x y:V}
def oL (β β':Nat→Option Nat) (ρ:List Nat) (nb i:Nat):Option Nat:=match qN ρ nb i with
 |some q=>β' q
 |none=>β i
def obN (ob:Loc→Option Nat) (ob':Nat→Nat→Option Nat) (ρ:List Nat) (nb:Nat):Loc→Option Nat
 | .t i=>ob (.t i)
 | .b i j=>match qN ρ nb i with
  |some q=>ob' q j
  |none=>ob (.b i j)
theorem St.called (hst:St G n I0 M w0 I β ob s a w) {ρ:List Nat} {b0 b1:List (List V)} (hρl:ρ.length=b0.length) (hn:ρ.Nodup) (fy:pB s.bx s.nb (rho ρ s.nb) 0 b0) (fx:b0.length≤b1.length)
 {w':World} {I':Ft} {β':Nat→Option Nat} {ob':Nat→Nat→Option Nat} (nR:BelowM (GT G) ⟨Mof β ob (rho ρ s.nb) b0.length,fun _=>none,[]⟩ w w') (Kj:∀ b o,I b o→I' b o)
 (Ig:∀ b o,I' b o→I b o∨(Wr ⟨Mof β ob (rho ρ s.nb) b0.length,fun _=>none,[]⟩ w b∧b<w'.heap.size)) (rI:∀ b o,I b o→w'.cell? ⟨b,o,none⟩=w.cell? ⟨b,o,none⟩)
 (O2:∀ i,i<b0.length→β' i=kp β (rho ρ s.nb) b0.length i) (H4:∀ i b,b0.length≤i→β' i=some b→Wr ⟨Mof β ob (rho ρ s.nb) b0.length,fun _=>none,[]⟩ w b)
 (nF:BxR (Wr ⟨Mof β ob (rho ρ s.nb) b0.length,fun _=>none,[]⟩ w) I' w' β' ob' b1) :
 St G n I0 M w0 I' (oL β β' ρ s.nb) (obN ob ob' ρ s.nb) { s with bx:=ff (rho ρ s.nb) 0 b1 s.bx,nb:=s.nb+(b1.length - b0.length) } a w'∧
 (∀ i b,β' i=some b→oL β β' ρ s.nb (rho ρ s.nb i)=some b)∧
 (∀ b,Wr ⟨Mof β ob (rho ρ s.nb) b0.length,fun _=>none,[]⟩ w b→Wr M w0 b)∧
 (∀ b,Wr ⟨Mof β ob (rho ρ s.nb) b0.length,fun _=>none,[]⟩ w b→(∀ i j,ob' i j≠some b)→∀ L,obN ob ob' ρ s.nb L≠some b)∧
 (∀ b,Wr ⟨Mof β ob (rho ρ s.nb) b0.length,fun _=>none,[]⟩ w b→(∀ i,β' i≠some b)→∀ i,oL β β' ρ s.nb i≠some b)∧
 (∀ i b,β i=some b→oL β β' ρ s.nb i=some b):=by
 have hl:∀ i,i<ρ.length→ρ.getD i 0<s.nb:=fun i hi=>by
  obtain⟨b,hb⟩:∃ b,b0[i]?=some b:=⟨_,aj (by omega)⟩
  have:=(np b0 0 i b fy hb).1
  rw[ah] at this
  simpa[rho,hi] using this
 have pE:=sY hn hl
 have hir:=PI hn hl
 have sQ:∀ b,Wr ⟨Mof β ob (rho ρ s.nb) b0.length,fun _=>none,[]⟩ w b→Wr M w0 b:=fun b hb=>by
  rcases hb with hb | ⟨q,hq,hb⟩ | ⟨q,j,hq,hb⟩
  ·exact .new hst.below hb
  ·exact(hst.boxblk hb).2.1
  ·exact(hst.obnd _ b hb).2
 have notM1:∀ i b,qN ρ s.nb i=none→β i=some b→¬ Wr ⟨Mof β ob (rho ρ s.nb) b0.length,fun _=>none,[]⟩ w b:=fun i b hi hb hw=>by
  rcases hw with hw | ⟨q,hq,h1⟩ | ⟨q,j,hq,h1⟩
  ·have:=(hst.boxblk hb).2.2;omega
  ·have:=hst.binj _ _ b h1 hb
   rw[← this,hir] at hi;cases hi
  ·exact hst.obx _ b i h1 hb
 have notM2:∀ L b,(∀ i j q,L=.b i j→qN ρ s.nb i≠some q)→ob L=some b→¬ Wr ⟨Mof β ob (rho ρ s.nb) b0.length,fun _=>none,[]⟩ w b:=fun L b hL hb hw=>by
  rcases hw with hw | ⟨q,hq,h1⟩ | ⟨q,j,hq,h1⟩
  ·have:=(hst.obnd _ b hb).1;omega
  ·exact hst.obx _ b _ hb h1
  ·have:=hst.oinj _ _ b hb h1
   exact hL _ _ q this (hir q)
 have YT:∀ i b,β i=some b→oL β β' ρ s.nb i=some b:=fun i b hb=>by
  unfold oL
  cases hi:qN ρ s.nb i with
  |none=>exact hb
  |some q=>
   have e:=nq hi
   have bF:=(hst.boxblk hb).1
   have hq:q<ρ.length:=by
    by_cases hq:q<ρ.length
    ·exact hq
    ·unfold rho at e;rw[if_neg hq] at e;omega
   simp only
   rw[O2 q (by omega)]
   unfold kp
   rw[if_pos (by omega),e];exact hb
 have hI:∀ b o,I b o→I' b o∧w'.cell? ⟨b,o,none⟩=w.cell? ⟨b,o,none⟩:=fun b o hb=>⟨Kj b o hb,rI b o hb⟩
 have kR:∀ b,b<w.heap.size→¬ Wr ⟨Mof β ob (rho ρ s.nb) b0.length,fun _=>none,[]⟩ w b→w'.heap[b]?=w.heap[b]?∧∀ o,I' b o→I b o:=fun b hb hw=>
  ⟨nR.block b hb (fun h=>hw (.inr h)),fun o ho=>by
   rcases Ig b o ho with h | h
   ·exact h
   ·exact absurd h.1 hw⟩
 have hbN:∀ i b,oL β β' ρ s.nb i=some b→(∃ q,qN ρ s.nb i=some q∧β' q=some b)∨(qN ρ s.nb i=none∧β i=some b):=fun i b hb=>by
  unfold oL at hb
  cases hi:qN ρ s.nb i with
  |none=>rw[hi] at hb;exact .inr ⟨rfl,hb⟩
  |some q=>rw[hi] at hb;exact .inl ⟨q,rfl,hb⟩
 have hoN:∀ L b,obN ob ob' ρ s.nb L=some b→(∃ i j q,L=.b i j∧qN ρ s.nb i=some q∧ob' q j=some b)∨((∀ i j q,L=.b i j→qN ρ s.nb i≠some q)∧ob L=some b):=fun L b hb=>by
  cases L with
  |t i=>exact .inr ⟨fun i j q h=>(by cases h),hb⟩
  |b i j=>
   simp only[obN] at hb
   cases hi:qN ρ s.nb i with
   |none=>rw[hi] at hb;exact .inr ⟨fun i' j' q h=>(by cases h;rw[hi];simp),hb⟩
   |some q=>rw[hi] at hb;exact .inl ⟨i,j,q,rfl,hi,hb⟩
 have hβw:∀ q b,β' q=some b→Wr ⟨Mof β ob (rho ρ s.nb) b0.length,fun _=>none,[]⟩ w b:=fun q b hb=>by
  by_cases hq:q<b0.length
  ·rw[O2 q hq] at hb
   exact .inr (.inl ⟨q,(mV hb).1,(mV hb).2⟩)
  ·exact H4 q b (by omega) hb
 have how:∀ i j b,ob' i j=some b→Wr ⟨Mof β ob (rho ρ s.nb) b0.length,fun _=>none,[]⟩ w b:=fun i j b hb=>(nF.obnd i j b hb).2
 have ey:∀ i b,β' i=some b→oL β β' ρ s.nb (rho ρ s.nb i)=some b:=fun i b hb=>by
  unfold oL;rw[hir];exact hb
 refine⟨{
  size:=hst.size,defers:=hst.defers
  below:=⟨nR.os.trans hst.below.os,nR.tape.trans hst.below.tape,nR.output.trans hst.below.output,bY hst.below.size nR.size,fun k hk hM=>
   (nR.block k (bW hk hst.below.size) (fun h=>by
    rcases sQ k (.inr h) with h1 | h1
    ·omega
    ·exact hM h1)).trans (hst.below.block k hk hM),fun t=>bY (hst.below.drawn t) (nR.drawn t)⟩
  ilow:=fun b o h=>Kj b o (hst.ilow b o h)
  kept:=fun b o h=>(rI b o (hst.ilow b o h)).trans (hst.kept b o h)
  ihigh:=fun b o h=>by
   rcases Ig b o h with h | h
   ·exact hst.ihigh b o h
   ·exact .inr (sQ b h.1)
  ibnd:=fun b o h=>by
   rcases Ig b o h with h | h
   ·exact bW (hst.ibnd b o h) nR.size
   ·exact h.2
  fr:=fun t=>(hst.fr t).mono hI YT fun b hb=>kR b (hst.obnd _ b hb).1 (notM2 (.t t) b (fun i j q h=>by cases h) hb)
  bx:=fun i hi=>by
   simp only at hi
   cases hq:qN ρ s.nb i with
   |some q=>
    have e:=nq hq
    have hqb:q<b1.length:=by
     by_cases h1:q<ρ.length
     ·omega
     ·unfold rho at e;rw[if_neg h1] at e;omega
    obtain⟨blk,cur,e1,e2,e3,e4,e5,e7⟩:=nF.bx q _ (aj hqb)
    have gp:ff (rho ρ s.nb) 0 b1 s.bx i=b1[q].map (V.ren (rho ρ s.nb)):=by
     have:=zk (ρ:=rho ρ s.nb) b1 0 s.bx q _ (aj hqb) (fun i j _ _ h=>by rw[ah,ah] at h;exact pE i j h)
     rw[ah,e] at this;exact this
    refine⟨blk,cur,by unfold oL;rw[hq];exact e1,sQ _ e2,e3.congr (by simp only[gp,ap]) (by simp only[gp,Fy]),by simp only[gp,ap];exact e4,fun j=>?_,e7⟩
    simp only[gp,zj]
    have:obN ob ob' ρ s.nb (.b i j)=ob' q j:=by simp only[obN,hq]
    rw[this]
    exact((e5 j).toRen ey).wider fun b hb=>sQ b (how q j b hb)
   |none=>
    have bF:=BC hq
    obtain⟨blk,cur,e1,e2,e3,e4,e5,e7⟩:=hst.bx i bF
    have hnw:=notM1 i blk hq e1
    obtain⟨g1,g2⟩:=kR blk e3.lt hnw
    have gp:ff (rho ρ s.nb) 0 b1 s.bx i=s.bx i:=pJ b1 0 s.bx i fun q _ h=>by
     rw[ah] at h
     rw[← h,hir] at hq;cases hq
    refine⟨blk,cur,YT i blk e1,e2,(e3.mono g1).congr (by simp only[gp]) (by simp only[gp]),by simp only[gp];exact e4,fun j=>?_,fun o ho=>e7 o (g2 o ho)⟩
    simp only[gp]
    have:obN ob ob' ρ s.nb (.b i j)=ob (.b i j):=by simp only[obN,hq]
    rw[this]
    exact(e5 j).mono hI YT fun b hb=>kR b (hst.obnd _ b hb).1 (notM2 (.b i j) b (fun i' j' q h=>by cases h;rw[hq];simp) hb)
  bnone:=fun i hi=>by
   simp only at hi
   unfold oL
   cases hq:qN ρ s.nb i with
   |some q=>
    have e:=nq hq
    refine nF.bnone q ?_
    by_cases h1:q<ρ.length
    ·unfold rho at e;rw[if_pos h1] at e;have:=hl q h1;omega
    ·unfold rho at e;rw[if_neg h1] at e;omega
   |none=>have:=BC hq;omega
  ext:=fun i b he=>YT i b (hst.ext i b he)
  bnew:=fun i b hi=>by
   rcases hbN i b hi with⟨q,h1,h2⟩ | ⟨h1,h2⟩
   ·by_cases hq:q<b0.length
    ·rw[O2 q hq] at h2
     have:=hst.bnew _ b (mV h2).2
     rw[nq h1] at this;exact this
    ·exact .inr (sQ b (H4 q b (by omega) h2))
   ·exact hst.bnew i b h2
  binj:=fun i j b hi hj=>by
   rcases hbN i b hi with⟨q,h1,h2⟩ | ⟨h1,h2⟩<;>rcases hbN j b hj with⟨p,h3,h4⟩ | ⟨h3,h4⟩
   ·have:=nF.binj q p b h2 h4
    rw[← nq h1,← nq h3,this]
   ·exact absurd (hβw q b h2) (notM1 j b h3 h4)
   ·exact absurd (hβw p b h4) (notM1 i b h1 h2)
   ·exact hst.binj i j b h2 h4
  oinj:=fun L L' b hL wE=>by
   rcases hoN L b hL with⟨i,j,q,rfl,h1,h2⟩ | ⟨h1,h2⟩<;>rcases hoN L' b wE with⟨i',j',q',rfl,h3,h4⟩ | ⟨h3,h4⟩
   ·obtain⟨e1,e2⟩:=nF.oinj q j q' j' b h2 h4
    rw[← nq h1,← nq h3,e1,e2]
   ·exact absurd (how q j b h2) (notM2 L' b h3 h4)
   ·exact absurd (how q' j' b h4) (notM2 L b h1 h2)
   ·exact hst.oinj L L' b h2 h4
  obx:=fun L b i hL hi=>by
   rcases hoN L b hL with⟨i',j,q,rfl,h1,h2⟩ | ⟨h1,h2⟩<;>rcases hbN i b hi with⟨p,h3,h4⟩ | ⟨h3,h4⟩
   ·exact nF.obx q j b p h2 h4
   ·exact absurd (how q j b h2) (notM1 i b h3 h4)
   ·exact absurd (hβw p b h4) (notM2 L b h1 h2)
   ·exact hst.obx L b i h2 h4
  obnd:=fun L b hL=>by
   rcases hoN L b hL with⟨i',j,q,rfl,h1,h2⟩ | ⟨h1,h2⟩
   ·exact⟨(nF.obnd q j b h2).1,sQ b (how q j b h2)⟩
   ·exact⟨bW (hst.obnd L b h2).1 nR.size,(hst.obnd L b h2).2⟩
  glob:=fun g cs hg=>(hst.glob g cs hg).mono hI },ey,sQ,fun b hw fU L hL=>by
  rcases hoN L b hL with⟨i',j,q,rfl,h1,h2⟩ | ⟨h1,h2⟩
  ·exact fU q j h2
  ·exact notM2 L b h1 h2 hw,fun b hw fU i hi=>by
  rcases hbN i b hi with⟨q,h1,h2⟩ | ⟨h1,h2⟩
  ·exact fU q h2
  ·exact notM1 i b h1 h2 hw,YT⟩
end
section
variable {P:Program} {G:Gl} {tr:List Nat} {n:Nat} {I0:Ft} {M:Mx} {w0:World} {I:Ft} {β:Nat→Option Nat} {ob:Loc→Option Nat} {s:S} {a:Act} {w:World} {o:Oper}
 {next:Act→World→Prop} {Q:Exit→Act→World→Prop} {base:Nat→Prop} {v:Value} {x y:V}
def ArgsL (base:Nat→Prop) (I:Ft) (β:Nat→Option Nat) (w:World) (vs:List Value) (xs:List V):Prop:=vs.length=xs.length∧∀ (j:Nat) (x:V),xs[j]?=some x→LR base I β w none (vs.getD j undef) x.fz
theorem ArgsL.append {vs us:List Value} {xs ys:List V} (h:ArgsL base I β w vs xs) (h':ArgsL base I β w us ys):ArgsL base I β w (vs++us) (xs++ys):=by
 refine⟨by simp[h.1,h'.1],fun j x hx=>?_⟩
 have hl:=h.1
 by_cases hj:j<xs.length
 ·rw[aC hj] at hx
  have:=h.2 j x hx
  rw[aA,aC (by omega)]
  rw[aA] at this
  exact this
 ·rw[aJ (by omega)] at hx
  have:=h'.2 _ x hx
  rw[aA,aJ (by omega),hl]
  rw[aA] at this
  exact this
theorem lW (hst:St G n I0 M w0 I β ob s a w):∀ l:List Operand,ArgsL (Wr M w0) I β w (l.map a.eval) (l.map (ev G s))
 |[]=>⟨rfl,by simp⟩
 |x::l=>by
  have ih:=lW hst l
  refine⟨by simp,fun j z hz=>?_⟩
  cases j with
  |zero=>simp at hz;subst hz;exact u9 hst x
  |succ j=>simpa using ih.2 j z (by simpa using hz)
theorem wQ (hst:St G n I0 M w0 I β ob s a w):∀ l:List Operand,ArgsL (Wr M w0) I β w (l.map a.eval) (l.map (evX G s))
 |[]=>⟨rfl,by simp⟩
 |x::l=>by
  have ih:=wQ hst l
  refine⟨by simp,fun j z hz=>?_⟩
  cases j with
  |zero=>
   simp at hz;subst hz
   unfold evX
   split
   ·exact .ofC (.ex _ rfl rfl)
   ·exact u9 hst x
  |succ j=>simpa using ih.2 j z (by simpa using hz)
theorem m6 (vs:Array Value) (cs:List C) (h:vs.size=cs.length) (hc:∀ j c,cs[j]?=some c→CR I w (vs.getD j undef) c):ArgsL base I β w vs.toList (cs.map .c):=by
 refine⟨by simp[h],fun j x hx=>?_⟩
 obtain⟨c,h1,rfl⟩:=yO hx
 have:=hc j c h1
 rw[aA,aQ]
 rw[ao] at this
 exact .ofC this
theorem m7 (vs:Array Value) (xs:List V) (h:vs.size=xs.length) (hc:∀ j x,xs[j]?=some x→PR I β w (vs.getD j undef) x):ArgsL base I β w vs.toList xs:=by
 refine⟨by simp[h],fun j x hx=>?_⟩
 have:=hc j x hx
 rw[aA,aQ]
 rw[ao] at this
 exact(PR.toLR this).fz none
theorem FA (hst:St G n I0 M w0 I β ob s a w) (hd:∀ d,o.dst=some d→d<n) {f:FuncId} {vs:List Value} {all:List V} {ρ:List Nat} {cargs:List V} {b0 b1:List (List V)} {r:V}
 (dI:FnB P G f cargs b0 r b1) (cv:ArgsL (Wr M w0) I β w vs all) (dh:all.map V.fz=cargs.map (V.ren (rho ρ s.nb))) (hρ:ρ.length=b0.length∧ρ.Nodup) (fy:pB s.bx s.nb (rho ρ s.nb) 0 b0)
 (bA:(execOp a.eval o).run P w=.ok (.enter f vs.toArray) w)
 (hk:∀ a' w',SE G n I0 M w0 (({ s with bx:=ff (rho ρ s.nb) 0 b1 s.bx,nb:=s.nb+(b1.length - b0.length) }:S).put o.dst (r.ren (rho ρ s.nb))) a' w'→next a' w'):o.wp P a w next Q:=by
 unfold Oper.wp
 rw[bA]
 simp only[Oper.upon]
 obtain⟨hρl,hn⟩:=hρ
 obtain⟨AM,nS,fx⟩:=dI.2.1
 have hl:∀ i,i<ρ.length→ρ.getD i 0<s.nb:=fun i hi=>by
  obtain⟨b,hb⟩:∃ b,b0[i]?=some b:=⟨_,aj (by omega)⟩
  have:=(np b0 0 i b fy hb).1
  rw[ah] at this
  simpa[rho,hi] using this
 have pE:=sY hn hl
 have ce:all.length=cargs.length:=by simpa using jz List.length dh
 refine (dI.2.2 I ⟨Mof β ob (rho ρ s.nb) b0.length,fun _=>none,[]⟩ w vs.toArray (kp β (rho ρ s.nb) b0.length) (obC ob (rho ρ s.nb) b0.length) hst.ibnd hst.glob (hst.give pE fy nS)
  (by have:=cv.1;simp;omega) (fun j x hx=>?_)).mono ?_
 ·have hj:j<cargs.length:=(ak.1 hx).1
  have hz:all[j]?=some all[j]:=aj (by omega)
  have h1:=cv.2 j _ hz
  have h2:all[j].fz=x.ren (rho ρ s.nb):=by
   have e1:(all.map V.fz)[j]?=some all[j].fz:=by simp[hz]
   have e2:(cargs.map (V.ren (rho ρ s.nb)))[j]?=some (x.ren (rho ρ s.nb)):=by simp[hx]
   rw[dh,e2] at e1
   exact(dE e1).symm
  rw[h2] at h1
  have h3:=h1.ren (β':=kp β (rho ρ s.nb) b0.length) (AM x (bg hx)) (fun i b hi hb=>by simp[kp,hi,hb])
  have h4:=h3.wider (base':=Wr ⟨Mof β ob (rho ρ s.nb) b0.length,fun _=>none,[]⟩ w) fun b hb=>by cases hb
  simpa using h4
 ·rintro e w' ⟨v,I',β',ob',o',rfl,nR,Kj,Ig,rI,O2,H4,nF,gX,jb⟩
  simp only
  obtain⟨bH,ey,sQ,fU,uZ,_⟩:=hst.called hρl hn fy fx nR Kj Ig rI O2 H4 nF
  refine hk _ _ ?_
  have Ul:LR (Wr M w0) I' (oL β β' ρ s.nb) w' o' v (r.ren (rho ρ s.nb)):=(gX.toRen ey).wider fun b hb=>sQ b (jb b hb).1.2
  cases kQ:o.dst with
  |none=>exact⟨_,_,_,bH⟩
  |some d=>
   refine⟨_,_,_,bH.put d (hd d kQ) Ul fun b hb=>?_⟩
   obtain⟨⟨h1,h2⟩,h3,h4⟩:=jb b hb
   refine⟨⟨h1,sQ b h2⟩,fun L hL=>?_,uZ b h2 h4⟩
   simp only[upL] at hL
   split at hL
   ·cases hL
   ·exact fU b h2 h3 L hL
theorem qO {K:S→V→Prop} {f:Operand} {args:Array Operand} {ts:Array TypeId} (ho:o.op=.call { callee:=.value f,args:=args,argTypes:=ts }) (hst:St G n I0 M w0 I β ob s a w)
 (hd:∀ d,o.dst=some d→d<n) (h:vcallB P G s (ev G s f) (args.toList.map (ev G s)) K) (hk:∀ a' w' s' x,K s' x→SE G n I0 M w0 (s'.put o.dst x) a' w'→next a' w'):o.wp P a w next Q:=by
 have hf:=bB hst f
 unfold vcallB jR at h
 split at h
 ·rename_i g all kS
  obtain⟨ρ,cargs,b0,r,b1,dI,dh,hρ,fy,hK⟩:=h
  obtain⟨fn,h1,h2,c,h3⟩:=dI.1
  unfold ew at kS
  split at kS
  ·rename_i g' fs cs he
   simp only[am,dU] at kS
   obtain⟨rfl,rfl⟩:=kS
   rw[he] at hf
   obtain⟨vf,vc,hv,q1,q2,q3,q4⟩:=hf.toC.fn_inv
   have bA:=lD (P:=P) (w:=w) ho hv h1 h2 h3
   refine FA hst hd dI (vs:=vf.toList++args.toList.map a.eval++vc.toList) (((m6 vf fs q1 q3).append (lW hst _)).append (m6 vc cs q2 q4)) dh hρ fy ?_ (fun a' w'=>hk a' w' _ _ hK)
   rw[bA];congr 2;apply cP;simp
  ·rename_i g' fs cs he
   simp only[am,dU] at kS
   obtain⟨rfl,rfl⟩:=kS
   rw[he] at hf
   simp only[LR] at hf
   obtain⟨vf,vc,hv,q1,q2,q3,q4⟩:=hf
   have bA:=lD (P:=P) (w:=w) ho hv h1 h2 h3
   refine FA hst hd dI (vs:=vf.toList++args.toList.map a.eval++vc.toList) (((m7 vf fs q1 q3).append (lW hst _)).append (m7 vc cs q2 q4)) dh hρ fy ?_ (fun a' w'=>hk a' w' _ _ hK)
   rw[bA];congr 2;apply cP;simp
  ·cases kS
 ·exact h.elim
theorem FB (hst:St G n I0 M w0 I β ob s a w) (hd:∀ d,o.dst=some d→d<n) {f:FuncId} {vs:List Value} {all:List V} {ρ:List Nat} {cargs:List V} {b0:List (List V)} {R:V→List (List V)→Prop}
 (dI:FnE P G f cargs b0 R) (cv:ArgsL (Wr M w0) I β w vs all) (dh:all.map V.fz=cargs.map (V.ren (rho ρ s.nb))) (hρ:ρ.length=b0.length∧ρ.Nodup) (fy:pB s.bx s.nb (rho ρ s.nb) 0 b0)
 (bA:(execOp a.eval o).run P w=.ok (.enter f vs.toArray) w)
 (hk:∀ r b1,R r b1→∀ a' w',SE G n I0 M w0 (({ s with bx:=ff (rho ρ s.nb) 0 b1 s.bx,nb:=s.nb+(b1.length - b0.length) }:S).put o.dst (r.ren (rho ρ s.nb))) a' w'→next a' w'):o.wp P a w next Q:=by
 unfold Oper.wp
 rw[bA]
 simp only[Oper.upon]
 obtain⟨hρl,hn⟩:=hρ
 obtain⟨AM,nS,fx⟩:=dI.2.1
 have hl:∀ i,i<ρ.length→ρ.getD i 0<s.nb:=fun i hi=>by
  obtain⟨b,hb⟩:∃ b,b0[i]?=some b:=⟨_,aj (by omega)⟩
  have:=(np b0 0 i b fy hb).1
  rw[ah] at this
  simpa[rho,hi] using this
 have pE:=sY hn hl
 have ce:all.length=cargs.length:=by simpa using jz List.length dh
 refine (dI.2.2 I ⟨Mof β ob (rho ρ s.nb) b0.length,fun _=>none,[]⟩ w vs.toArray (kp β (rho ρ s.nb) b0.length) (obC ob (rho ρ s.nb) b0.length) hst.ibnd hst.glob (hst.give pE fy nS)
  (by have:=cv.1;simp;omega) (fun j x hx=>?_)).mono ?_
 ·have hj:j<cargs.length:=(ak.1 hx).1
  have hz:all[j]?=some all[j]:=aj (by omega)
  have h1:=cv.2 j _ hz
  have h2:all[j].fz=x.ren (rho ρ s.nb):=by
   have e1:(all.map V.fz)[j]?=some all[j].fz:=by simp[hz]
   have e2:(cargs.map (V.ren (rho ρ s.nb)))[j]?=some (x.ren (rho ρ s.nb)):=by simp[hx]
   rw[dh,e2] at e1
   exact(dE e1).symm
  rw[h2] at h1
  have h3:=h1.ren (β':=kp β (rho ρ s.nb) b0.length) (AM x (bg hx)) (fun i b hi hb=>by simp[kp,hi,hb])
  have h4:=h3.wider (base':=Wr ⟨Mof β ob (rho ρ s.nb) b0.length,fun _=>none,[]⟩ w) fun b hb=>by cases hb
  simpa using h4
 ·rintro e w' ⟨r,b1,hR,v,I',β',ob',o',rfl,nR,Kj,Ig,rI,O2,H4,nF,gX,jb⟩
  simp only
  obtain⟨bH,ey,sQ,fU,uZ,_⟩:=hst.called hρl hn fy (fx r b1 hR) nR Kj Ig rI O2 H4 nF
  refine hk r b1 hR _ _ ?_
  have Ul:LR (Wr M w0) I' (oL β β' ρ s.nb) w' o' v (r.ren (rho ρ s.nb)):=(gX.toRen ey).wider fun b hb=>sQ b (jb b hb).1.2
  cases kQ:o.dst with
  |none=>exact⟨_,_,_,bH⟩
  |some d=>
   refine⟨_,_,_,bH.put d (hd d kQ) Ul fun b hb=>?_⟩
   obtain⟨⟨h1,h2⟩,h3,h4⟩:=jb b hb
   refine⟨⟨h1,sQ b h2⟩,fun L hL=>?_,uZ b h2 h4⟩
   simp only[upL] at hL
   split at hL
   ·cases hL
   ·exact fU b h2 h3 L hL
theorem Dm {K:S→V→Prop} {f:Operand} {args:Array Operand} {ts:Array TypeId} (ho:o.op=.call { callee:=.value f,args:=args,argTypes:=ts }) (hst:St G n I0 M w0 I β ob s a w)
 (hd:∀ d,o.dst=some d→d<n) (h:nJ P G s (ev G s f) (args.toList.map (evX G s)) K) (hk:∀ a' w' s' x,K s' x→SE G n I0 M w0 (s'.put o.dst x) a' w'→next a' w'):o.wp P a w next Q:=by
 have hf:=bB hst f
 unfold nJ at h
 split at h
 ·rename_i g all kS
  obtain⟨ρ,cargs,b0,R,dI,dh,hρ,fy,hK⟩:=h
  obtain⟨fn,h1,h2,c,h3⟩:=dI.1
  unfold ew at kS
  split at kS
  ·rename_i g' fs cs he
   simp only[am,dU] at kS
   obtain⟨rfl,rfl⟩:=kS
   rw[he] at hf
   obtain⟨vf,vc,hv,q1,q2,q3,q4⟩:=hf.toC.fn_inv
   have bA:=lD (P:=P) (w:=w) ho hv h1 h2 h3
   refine FB hst hd dI (vs:=vf.toList++args.toList.map a.eval++vc.toList) (((m6 vf fs q1 q3).append (wQ hst _)).append (m6 vc cs q2 q4)) dh hρ fy ?_ (fun r b1 hR a' w'=>hk a' w' _ _ (hK r b1 hR))
   rw[bA];congr 2;apply cP;simp
  ·rename_i g' fs cs he
   simp only[am,dU] at kS
   obtain⟨rfl,rfl⟩:=kS
   rw[he] at hf
   simp only[LR] at hf
   obtain⟨vf,vc,hv,q1,q2,q3,q4⟩:=hf
   have bA:=lD (P:=P) (w:=w) ho hv h1 h2 h3
   refine FB hst hd dI (vs:=vf.toList++args.toList.map a.eval++vc.toList) (((m7 vf fs q1 q3).append (wQ hst _)).append (m7 vc cs q2 q4)) dh hρ fy ?_ (fun r b1 hR a' w'=>hk a' w' _ _ (hK r b1 hR))
   rw[bA];congr 2;apply cP;simp
  ·cases kS
 ·exact h.elim
end
def FW (l:Option Nat):Fence:={ Fence.wide with round:=l }
section
variable {P:Program} {n:Nat} {l:Option Nat} {a:Act} {w:World} {o:Oper} {next:Act→World→Prop} {Q:Exit→Act→World→Prop}
theorem oM {f:FuncId} {args:Array Value} {R:Ending→World→Prop}:CallsIn (FW l) n P f args w R↔Calls P f args w R:=callsIn_wide (n:=n)
theorem MI {row:String} {args:Array Value} {R:Value→World→Prop} (h:Rows P row args w R):RowsIn (FW l) n P row args w R:=
 fun c cs _=>let⟨v,w',h1,h2⟩:=h c cs;⟨v,w',h1,stepsIn_wide.2 h2⟩
theorem IA {k:Nat} {r:Nat} {f:FuncId} {tmps:Array Value} {assign body:Code} {R:Ending→World→Prop} (h:RoundIn Fence.wide k P r f tmps assign body w R):RoundIn (FW l) n P r f tmps assign body w R:=
 ⟨trivial,fun c cs _=>h.2 c cs (room_wide _)⟩
theorem zl (pA:∀ c,o.op≠.defer c) (h:o.wp P a w next Q):o.wpIn (FW l) n P a w next Q:=by
 refine⟨fun _ _=>trivial,?_⟩
 rw[Oper.semAt_eq _ _ _ pA]
 unfold Oper.wp at h
 have hd:(FW l).depth.isSome=true→1≤n:=fun h=>by cases h
 generalize (execOp a.eval o).run P w=r at *
 cases r with
 |ok x w'=>
  cases x<;>simp only[Oper.upon,Oper.uponIn] at h ⊢<;>first
   |exact h
   |exact⟨hd,oM.2 h⟩
   |exact⟨hd,MI h⟩
   |exact h.elim
 |halt x w'=>cases x<;>simp only[Oper.upon,Oper.uponIn] at h ⊢<;>exact h
def zm (ops:Array Oper):Bool:=ops.toList.all fun o=>match o.op with | .defer _=>false | _=>true
theorem IB {ops:Array Oper} (h:zm ops=true) (ho:o∈ops.toList):∀ c,o.op≠.defer c:=fun c hc=>by
 have:=aW.1 h o ho
 rw[hc] at this;cases this
theorem UU {ops:Array Oper} (pA:zm ops=true) (hQ:¬ LetsOut Q) {i:Nat} {K K':Act→World→Prop} (hK:∀ a w,K a w→K' a w) (h:wpOp P ops Q i K a w):wpOpIn (FW l) n P ops Q i K' a w:=by
 unfold wpOp at h
 unfold wpOpIn
 split
 ·rename_i ho;rw[ho] at h;exact hK _ _ h
 ·rename_i o ho
  rw[ho] at h
  have hm:o∈ops.toList:=by have:=eu ho;simpa using this
  simp only at h
  split
  ·rename_i hw
   rw[if_pos hw] at h
   rcases h with h | h
   ·exact zl (IB pA hm) (Oper.wp_mono hK h)
   ·exact absurd h.2 hQ
  ·rename_i hw
   rw[if_neg hw] at h
   exact⟨fun _ _=>trivial,hK _ _ h⟩
theorem vn {ops:Array Oper} {md:Region.Mode} (pA:zm ops=true) (hQ:¬ LetsOut Q):∀ (fuel:Nat) (listed:Array Bool) (a:Act) (w:World),wpAny P md ops Q fuel listed a w→wpAnyIn (FW l) n P md ops Q fuel listed a w
 |0,_,_,_,h=>h
 |fuel+1,_,_,_,h=>⟨h.1,fun i hi=>UU pA hQ (fun a w h=>vn pA hQ fuel _ a w h) (h.2 i hi)⟩
section
variable {b:Frame} {k:List Item} {cs:List Frame}
theorem lX {c:Code}:step P (lone (b.atR a (.code (.scope c)::k)) cs w)=.next (lone (b.atR a (.code c::.inScope c::k)) cs w):=
 step_lone_go (by simp[stepG,stepG.exec,Frame.atR])
theorem A5 {c:Code}:step P (lone (b.atR a (.inScope c::k)) cs w)=.next (lone (b.atR a k) cs w):=
 step_lone_go (by simp[stepG,stepG.exec,Frame.atR])
end
theorem tU {c:Code} (h:c.wpIn (FW l) n P (Exit.noGoto Q) a w):(Code.scope c).wpIn (FW l) n P Q a w:=by
 intro b k cs Ml hb hr
 have h0:(lone (b.atR a (.code (.scope c)::k)) cs w).fenced P (FW l):=fenced_calm hb hr rfl
 obtain⟨e,a₁,w₁,hq,O4⟩:=h b (.inScope c::k) cs Ml hb hr
 cases e with
 |normal=>exact⟨.normal,a₁,w₁,hq,.head h0 lX (StepsIn.trans O4 (.one (fenced_calm hb hr rfl) A5))⟩
 |exit id=>
  have hx:exitTo id (.inScope c::k)=exitTo id k:=by simp[exitTo]
  exact⟨.exit id,a₁,w₁,hq,fun k' hk=>.head h0 lX (O4.1 k' (by rw[hx];exact hk)),
   fun hr' hk=>let⟨k₁,h1,h2⟩:=O4.2 hr' (by rw[hx];exact hk);⟨k₁,h1,.head h0 lX h2⟩⟩
 |goto l=>exact hq.elim
 |ret=>exact⟨_,a₁,w₁,hq,.of_steps (.one h0 lX) O4⟩
 |panic ch=>exact⟨_,a₁,w₁,hq,.of_steps (.one h0 lX) O4⟩
 |outgrown=>exact⟨_,a₁,w₁,hq,.of_steps (.one h0 lX) O4⟩
end
section
variable {P:Program} {G:Gl} {tr:List Nat} {n:Nat} {I0:Ft} {M:Mx} {w0:World} {I:Ft} {β:Nat→Option Nat} {ob:Loc→Option Nat} {s:S} {a:Act} {w:World} {o:Oper}
 {next:Act→World→Prop} {Q:Exit→Act→World→Prop} {base:Nat→Prop} {v:Value} {x y:V}
theorem SE.put (h:St G n I0 M w0 I β ob s a w) {dst:Option Tmp} (hd:∀ d,dst=some d→d<n) (hv:LR (Wr M w0) I β w none v x):SE G n I0 M w0 (s.put dst x) (a.put dst v) w:=by
 cases dst with
 |none=>exact⟨_,_,_,h⟩
 |some d=>exact⟨_,_,_,h.put d (hd d rfl) hv FreeOb.nothing⟩
theorem PK {u:Value} {c:C} (h:zc u=some c):LR base I β w none u (ng c):=by
 unfold zc at h
 split at h
 ·simp only[am] at h;subst h
  exact⟨.nil none 0 (fun _=>rfl),.inl ⟨rfl,rfl,none,rfl⟩⟩
 ·split at h
  ·simp only[am] at h;subst h
   exact .ofLit ‹_›
  ·cases h
theorem St.newCells (hst:St G n I0 M w0 I β ob s a w) (e:TypeId) {cells:Array Value} {cs:List C} (hc:Cells I w cells cs) :
 St G n I0 M w0 I (up β s.nb (some w.heap.size)) (fun L=>match L with | .b i j=>if i=s.nb then none else ob (.b i j) | L=>ob L)
  { s with bx:=up s.bx s.nb (cs.map .c),nb:=s.nb+1 } a (w.alloc (.cells cells e)):=
 hst.newBox (cur:=cells) (T:=.of e) (cs:=cs.map .c) (od:=fun _=>none) (du (by simpa using hc.1.symm)) RT.of_ok (fun q=>by
  by_cases hq:q<cs.length
  ·have e2:(cs.map V.c).getD q .un=.c cs[q]:=by simp[List.getD,hq]
   rw[e2];exact .ofC (hc.2 q _ (aj hq))
  ·have e2:(cs.map V.c).getD q .un=.un:=by simp[List.getD,b8 (dP hq)]
   rw[e2];simp only[LR];exact .un _) (fun u hu=>by
  obtain⟨q,hq,rfl⟩:=fk.1 hu
  have oH:q<cs.length:=by rw[← hc.1];exact hq
  have:=(hc.2 q _ (aj oH)).oneCell
  simpa[ay hq,hq] using this) (fun _ _ h=>by cases h) (fun _ _ _ h=>by cases h) (by cases cs<;>rfl)
theorem St.newPre (hst:St G n I0 M w0 I β ob s a w) (e:TypeId) {cells:Array Value} {cs:List C} (dR:cs.length≤cells.size) (ja:∀ q c,cs[q]?=some c→CR I w (cells.getD q undef) c)
 (iY:∀ u∈cells,u.oneCell'=true) :
 St G n I0 M w0 I (up β s.nb (some w.heap.size)) (fun L=>match L with | .b i j=>if i=s.nb then none else ob (.b i j) | L=>ob L)
  { s with bx:=up s.bx s.nb (cs.map .c),nb:=s.nb+1 } a (w.alloc (.cells cells e)):=
 hst.newBox (cur:=cells) (T:=.of e) (cs:=cs.map .c) (od:=fun _=>none) (by simpa using dR) RT.of_ok (fun q=>by
  by_cases hq:q<cs.length
  ·have e2:(cs.map V.c).getD q .un=.c cs[q]:=by simp[List.getD,hq]
   rw[e2];exact .ofC (ja q _ (aj hq))
  ·have e2:(cs.map V.c).getD q .un=.un:=by simp[List.getD,b8 (dP hq)]
   rw[e2];simp only[LR];exact .un _) iY (fun _ _ h=>by cases h) (fun _ _ _ h=>by cases h) (by cases cs<;>rfl)
theorem IC {K:S→Prop} {T:TypeId} {p X:Operand} {i:TI} {blk j b k len cap q:Nat} {E:TypeId} {es:List (List C)} {cs:List C} (hst:St G n I0 M w0 I β ob s a w) (hd:∀ d,o.dst=some d→d<n) (bZ:o.op=.store T p X) (hi:ti P T=some i) (hp:ev G s p=.c (.ex (.pointer (some ⟨blk,j,none⟩))))
 (hb:b<s.nb) (iZ:cX (s.bx b)=false) (Un:(s.bx b)[k]?=some (.gg (.slice (some ⟨blk,0,none⟩) len cap) (some (E,i.size)) es)) (iE:(ev G s X).cs=some cs) (mL:cs.length=i.size) (hpz:0<i.size) (hq:q<es.length) (hj:q*i.size=j)
 (h:K ((let s':=s.use (bR tr o);{ s' with bx:=up s.bx b ((s.bx b).set k (.gg (.slice (some ⟨blk,0,none⟩) len cap) (some (E,i.size)) (es.set q cs))) }:S).put o.dst .sk))
 (hk:∀ a' w' s',K s'→SE G n I0 M w0 s' a' w'→next a' w'):o.wp P a w next Q:=by
 obtain⟨j',d,Mm,H2,_,dR,_,lh,_⟩:=bn hi
 obtain⟨ob',h1,h2⟩:=hst.use (bR tr o)
 have nF:(s.use (bR tr o)).bx=s.bx∧(s.use (bR tr o)).nb=s.nb:=by
  cases bR tr o with
  |none=>exact⟨rfl,rfl⟩
  |some t=>simp only[S.use];split<;>exact⟨rfl,rfl⟩
 have XH:=bB hst p
 rw[hp] at XH
 have hpe:=XH.toC.ex_inv
 have tK:=Pv (bB hst X) iE
 obtain⟨cur,⟨g1,g2,g3,g4,g5,g6,g7⟩,gp⟩:=h1.ggSet (b:=b) (k:=k) (by rw[nF.2];exact hb) (by rw[nF.1];exact Un)
 have mK:=bz es g5
 have sP:(a.eval X).cells.toList.length=i.size:=by rw[bJ,tK.1,mL]
 have Km:cur.toList.length=cur.size:=bJ
 have fx:=aP i.size (show q+1≤cap by omega)
 have Kl:=aP i.size (show q+1≤es.length from hq)
 rw[cR,Nat.one_mul,← g3,hj] at fx
 rw[cR,Nat.one_mul,hj] at Kl
 have YW:RelL I w (a.eval X).cells.toList cs:=fun q c hq=>by
  have:=tK.2 q c hq
  have oH:q<(a.eval X).cells.size:=by rw[tK.1];exact(ak.1 hq).1
  refine⟨(a.eval X).cells[q],by rw[aQ,ay oH],?_⟩
  rw[ao,ay oH] at this
  exact this
 have YX:∀ u∈(a.eval X).cells.toList,u.oneCell'=true:=fun u hu=>by
  obtain⟨q,hq⟩:=List.mem_iff_getElem?.1 hu
  have oH:q<cs.length:=by rw[mL,← sP];exact(ak.1 hq).1
  obtain⟨u',Bo,ja⟩:=YW q _ (aj oH)
  rw[hq] at Bo;cases Bo
  exact ja.oneCell
 have wA:RelL I w cur.toList es.flatten:=fun q c hq=>by
  have oH:=(ak.1 hq).1
  rw[mK] at oH
  have:=aP i.size g4
  refine⟨cur.getD q undef,?_,g6 q c hq⟩
  rw[aQ,ao,ay (show q<cur.size by omega)];rfl
 have bA:(Instr.storeAt T (a.eval p) (a.eval X)).run P w=.ok () (w.setRow blk (cur.toList.take j++(a.eval X).cells.toList++cur.toList.drop (j+i.size)).toArray):=by
  rw[hpe]
  simp only[Instr.storeAt,Instr.sureAddr,aH,bh,aw]
  unfold storeVar
  simp only[aH,eG w Mm,aw]
  rw[if_neg (by rw[ei Mm,← dR,tK.1,mL];simp)]
  have:=fB (P:=P) blk j (.of E) (a.eval X).cells.toList 0 cur w g2 RT.of_ok (by rw[sP];omega) YX
  rw[sP] at this
  simpa using this
 have lS:=gp (es.set q cs) (cur.toList.take j++(a.eval X).cells.toList++cur.toList.drop (j+i.size)) (by simp) (fun x hx=>by
  rcases List.mem_or_eq_of_mem_set hx with hx | rfl
  ·exact g5 x hx
  ·exact mL)
  (by rw[ax,ax,sP,aZ,cY,Km,ci (by omega)];omega)
  (fun u hu=>by
   rcases aY.1 hu with hu | hu
   ·rcases aY.1 hu with hu | hu
    ·exact g7 u (cA.1 (cz hu))
    ·exact YX u hu
   ·exact g7 u (cA.1 (cK hu)))
  (by
   rw[Dj g5 hq,hj]
   refine RelL.append (RelL.append (wA.take _) YW ?_) (wA.drop _) ?_
   ·rw[aZ,aZ,Km,mK,ci (by omega),ci (by omega)]
   ·rw[ax,ax,sP,mL,aZ,aZ,Km,mK,ci (by omega),ci (by omega)])
 unfold Oper.wp
 obtain⟨dst,op,type,pos,after,guard⟩:=o
 simp only at bZ;subst bZ
 simp only[execOp,aH,bA,aw,bh,Oper.upon]
 rw[nF.1] at lS
 have Ko:=SE.put (v:=undef) (x:=.sk) lS hd (by simp only[LR];exact .sk)
 exact hk _ _ _ h Ko
theorem zn {ρ:Nat→Nat}:∀ (b:List (List V)) (i:Nat) (bx:Nat→List V) (nb:Nat),pB bx nb ρ i b→ff ρ i b bx=bx
 |[],_,_,_,_=>rfl
 |x::r,i,bx,nb,h=>by
  have e:up bx (ρ i) (x.map (V.ren ρ))=bx:=by rw[← h.1.2,pF]
  show ff ρ (i+1) r (up bx (ρ i) (x.map (V.ren ρ)))=bx
  rw[e];exact zn r (i+1) bx nb h.2
theorem PL {f:V} {args:List V} {K:V→Prop} (h:lK P G s f args K):vcallB P G s f args (fun s' x=>s'=s∧K x):=by
 unfold lK at h
 unfold vcallB jR
 split at h
 ·rename_i g all hc
  simp only[hc]
  obtain⟨ρ,cargs,b0,r,h1,h2,h3,h4,h5,h6⟩:=h
  refine⟨ρ,cargs,b0,r,b0,h1,h2 _,h3,h4 _,?_,by rw[h5];exact h6⟩
  rw[zn _ _ _ _ (h4 s.nb),kj];rfl
 ·exact h.elim
theorem BD {K:V→Prop} {f:Operand} {args:Array Operand} {ts:Array TypeId} (ho:o.op=.call { callee:=.value f,args:=args,argTypes:=ts }) (hst:St G n I0 M w0 I β ob s a w) (hd:∀ d,o.dst=some d→d<n)
 (h:VYQ P G tr o s f args K) (hk:∀ a' w' x,K x→SE G n I0 M w0 (s.after tr o x) a' w'→next a' w'):o.wp P a w next Q:=by
 unfold VYQ at h
 split at h
 ·refine qO ho hst hd (PL h) (fun a' w' s' x hK cw=>?_)
  obtain⟨rfl,hx⟩:=hK
  refine hk a' w' x hx ?_
  have hc:bR tr o=none:=by simp[bR,ho]
  unfold S.after
  rw[hc];exact cw
 ·exact ot (tr:=tr) hst hd h hk
theorem nr {K:S→Prop} (hst:St G n I0 M w0 I β ob s a w) (hd:∀ d,o.dst=some d→d<n) (hy:pC tr o=false) (h:VStep P G tr o s K)
 (hk:∀ a' w' s',K s'→SE G n I0 M w0 s' a' w'→next a' w'):o.wp P a w next Q:=by
 have gen:VYK P G tr o s (fun v=>K (s.after tr o v))→o.wp P a w next Q:=fun h=>ot (tr:=tr) hst hd h (fun a' w' x hx cw=>hk _ _ _ hx cw)
 unfold VStep at h
 split at h
 ·
  rename_i T bZ
  split at h
  ·rename_i z _ _ hi
   obtain⟨j,d,h1,h2,_,_,_,_,hz,_⟩:=bn hi
   simp only at hz
   split at hz
   ·rename_i zv rF
    have ce:=List.mapM_eq_some_length hz.symm
    have uZ:=hst.newBox (cur:=zv.cells) (T:=.of T) (cs:=z.map ng) (od:=fun _=>none) (du (by simpa using ce)) RT.of_ok (fun q=>by
     by_cases hq:q<z.length
     ·obtain⟨u,hu,rf⟩:=List.mapM_eq_some_get hz.symm q z[q] (aj hq)
      have e1:zv.cells.getD q undef=u:=by rw[aQ] at hu;simp[hu]
      have e2:(z.map ng).getD q .un=ng z[q]:=by simp[List.getD,hq]
      rw[e1,e2];exact PK rf
     ·have e2:(z.map ng).getD q .un=.un:=by simp[List.getD,b8 (dP hq)]
      rw[e2];simp only[LR];exact .un _) (fun u hu=>by
     obtain⟨q,hq,rfl⟩:=fk.1 hu
     have oH:q<z.length:=by rw[ce];simpa using hq
     obtain⟨u,hu,rf⟩:=List.mapM_eq_some_get hz.symm q z[q] (aj oH)
     rw[aQ,ay hq] at hu
     cases hu
     exact(KC (I:=I) (w:=w) rf).oneCell) (fun _ _ h=>by cases h) (fun _ _ _ h=>by cases h) (yN fun x hx=>by
     obtain⟨c,_,rfl⟩:=bu.1 hx
     unfold ng;split<;>rfl)
    refine eo (v':=.pointer (some ⟨w.heap.size,0,none⟩)) (w':=w.alloc (.cells zv.cells T)) ?_ (hk _ _ _ h (SE.put uZ hd ?_))
    ·have bA:(Instr.alloc T true (.tuple #[])).run P w=.ok (.pointer (some ⟨w.heap.size,0,none⟩)) (w.alloc (.cells zv.cells T)):=by
      simp[Instr.alloc,zeroValue,typeInfo,h1,rF,newVar,newRow]
     obtain⟨dst,op,type,pos,after,guard⟩:=o
     simp only at bZ
     subst bZ
     simp only[execOp,aH,bA,aw,bh]
    ·simp only[LR];exact⟨w.heap.size,by simp,rfl⟩
   ·cases hz
  ·exact h.elim
 ·
  rename_i T X bZ
  split at h
  ·rename_i cs iE
   obtain⟨ob',h1,h2⟩:=hst.use (bR tr o)
   obtain⟨b1,b2,b3⟩:=Bz (bB hst X) iE
   have Um:bR tr o=(match X with | .tmp t=>some t | _=>none):=by
    obtain⟨dst,op,type,pos,after,guard⟩:=o
    simp only at bZ;subst bZ
    cases X<;>rfl
   have nF:(s.use (bR tr o)).bx=s.bx∧(s.use (bR tr o)).nb=s.nb:=by
    cases bR tr o with
    |none=>exact⟨rfl,rfl⟩
    |some t=>simp only[S.use];split<;>exact⟨rfl,rfl⟩
   have uZ:=h1.newBox (cur:=(a.eval X).cells) (T:=.of T) (cs:=cs) (od:=fun j=>if j=0∧(ev G s X).isOw=true then Pr ob X else none) (du b1.symm) RT.of_ok b2 b3 (fun j b hb=>by
    split at hb
    ·rename_i hj
     cases X with
     |tmp t=>
      refine⟨hst.obnd _ b hb,fun L hL=>?_,fun i=>hst.obx _ b i hb⟩
      obtain⟨q1,q2⟩:=h2 L b hL
      have:=q2 t Um (hst.oinj _ _ b q1 hb)
      simp only[ev] at hj
      rw[hj.2] at this;cases this
     |_=>cases hb
    ·cases hb) (fun j j' b hb AS=>by
    split at hb<;>split at AS<;>try cases hb
    all_goals try cases AS
    rename_i q1 q2
    rw[q1.1,q2.1]) (yN (BA (bB hst X) iE))
   refine eo (v':=.pointer (some ⟨w.heap.size,0,none⟩)) (w':=w.alloc (.cells (a.eval X).cells T)) ?_ (hk _ _ _ h (SE.put uZ hd ?_))
   ·obtain⟨dst,op,type,pos,after,guard⟩:=o
    simp only at bZ;subst bZ
    simp[execOp,Instr.box,newVar,newRow]
   ·simp only[LR];exact⟨w.heap.size,by rw[nF.2];simp,rfl⟩
  ·exact h.elim
 ·
  rename_i T p X bZ
  replace h:=h.2
  split at h
  ·rename_i i b k cs hi hp iE
   obtain⟨j,d,Mm,H2,_,dR,_⟩:=bn hi
   obtain⟨⟨hb,ce,ri,iZ⟩,h⟩:=h
   obtain⟨ob',h1,h2⟩:=hst.use (bR tr o)
   obtain⟨b1,b2,b3⟩:=Bz (bB hst X) iE
   have Um:bR tr o=(match X with | .tmp t=>some t | _=>none):=by
    obtain⟨dst,op,type,pos,after,guard⟩:=o
    simp only at bZ;subst bZ
    cases X<;>rfl
   have nF:(s.use (bR tr o)).bx=s.bx∧(s.use (bR tr o)).nb=s.nb:=by
    cases bR tr o with
    |none=>exact⟨rfl,rfl⟩
    |some t=>simp only[S.use];split<;>exact⟨rfl,rfl⟩
   have XH:=bB hst p
   rw[hp] at XH
   simp only[LR] at XH
   obtain⟨blk,hβ,hpe⟩:=XH
   obtain⟨qC,cur,e1,e2,e3,e4,_⟩:=hst.bx b hb
   obtain⟨T',e3,_,hT⟩:=e3.cells iZ
   rw[hβ] at e1;cases e1
   have hsb:=h1.setBox (i:=b) (k:=k) (blk:=blk) (cur:=cur) (T:=T') (vs:=(a.eval X).cells.toList) (ds:=cs) (od:=fun j=>if j=0∧(ev G s X).isOw=true then Pr ob X else none)
    (by rw[nF.2];exact hb) hβ e3 hT (by simpa using b1) (by rw[nF.1,ce];exact ri) (fun q=>by
     have:=b2 q
     rw[aA,aQ,← ao];exact this) (by simpa using b3) (fun j b hb=>by
    split at hb
    ·rename_i hj
     cases X with
     |tmp t=>
      refine⟨hst.obnd _ b hb,fun L hL=>?_,fun i=>hst.obx _ b i hb⟩
      obtain⟨q1,q2⟩:=h2 L b hL
      have:=q2 t Um (hst.oinj _ _ b q1 hb)
      simp only[ev] at hj
      rw[hj.2] at this;cases this
     |_=>cases hb
    ·cases hb) (fun j j' b hb AS=>by
    split at hb<;>split at AS<;>try cases hb
    all_goals try cases AS
    rename_i q1 q2
    rw[q1.1,q2.1]) (by rw[nF.1];exact iZ) (BA (bB hst X) iE)
   have bA:(Instr.storeAt T (a.eval p) (a.eval X)).run P w=.ok () (w.setRow blk (cur.toList.take k++(a.eval X).cells.toList++cur.toList.drop (k+(a.eval X).cells.toList.length)).toArray):=by
    rw[hpe]
    simp only[Instr.storeAt,Instr.sureAddr,aH,bh,aw]
    unfold storeVar
    simp only[aH,eG w Mm,aw]
    rw[if_neg (by rw[ei Mm,← dR,b1,ce];simp)]
    have:=fB (P:=P) blk k T' (a.eval X).cells.toList 0 cur w e3 hT (by simp only[bJ,dL,b1,ce];omega) (by simpa using b3)
    simpa using this
   unfold Oper.wp
   obtain⟨dst,op,type,pos,after,guard⟩:=o
   simp only at bZ;subst bZ
   simp only[execOp,aH,bA,aw,bh,Oper.upon]
   have Ko:=SE.put (v:=undef) (x:=.sk) hsb hd (by simp only[LR];exact .sk)
   exact hk _ _ _ h Ko
  ·rename_i i blk j hi hp
   obtain⟨j',d,Mm,H2,_,dR,_,lh,_⟩:=bn hi
   rcases h with h | ⟨b,k,len,cap,q,E,es,cs,⟨hb,iZ,Un,iE,mL,hpz,hq,hj⟩,h⟩
   rotate_left
   ·exact IC hst hd bZ hi hp hb iZ Un iE mL hpz hq hj h hk
   obtain⟨b,k,len,cap,E,es,r,e,c,⟨EV,hb,iZ,Un,⟨hj,hr⟩,hc⟩,h⟩:=h
   obtain⟨ob',h1,h2⟩:=hst.use (bR tr o)
   have nF:(s.use (bR tr o)).bx=s.bx∧(s.use (bR tr o)).nb=s.nb:=by
    cases bR tr o with
    |none=>exact⟨rfl,rfl⟩
    |some t=>simp only[S.use];split<;>exact⟨rfl,rfl⟩
   have XH:=bB hst p
   rw[hp] at XH
   have hpe:=XH.toC.ex_inv
   have tK:CR I w (a.eval X) c:=by
    have:=bB hst X
    generalize ev G s X=x at this hc
    cases x<;>simp only[V.asC,am] at hc<;>try cases hc
    ·exact this.toC
    ·exact this.1
   obtain⟨blk2,cur,b1,g1,g2,g3,g4⟩:=h1.hotCell (b:=b) (k:=k) (by rw[nF.2];exact hb) (by rw[nF.1];exact Un)
   obtain⟨f0,te,blk3,cap',c2,sz,f1,f2,f3,f4,f5,f6,f7,f8,f9,f10,f11,f12⟩:=g4.hot
   cases f1
   have hv0:=f0 _ rfl
   rw[f3] at hv0
   simp only[eD,am,iT] at hv0
   obtain⟨⟨rfl,_⟩,rfl,rfl⟩:=hv0
   have he1:(es++[e]).length=es.length+1:=by simp
   have mK:es.flatten.length=es.length*sz:=bz es fun x hx=>f9 x (ee _ hx)
   have Pb:e.length=sz:=f9 e (by simp)
   have hjs:j<c2.size:=by
    have:=aP sz f6
    rw[he1,dD] at this
    omega
   have mH:=tK.notAgg
   have ab7:(c2.toList.take j++(a.eval X).cells.toList++c2.toList.drop (j+(a.eval X).cells.toList.length)).toArray=c2.setIfInBounds j (a.eval X):=by
    rw[mH]
    apply cP
    rw[Array.toList_setIfInBounds,List.set_eq_take_append_cons_drop,if_pos (by simpa using hjs)]
    simp
   have bA:(Instr.storeAt T (a.eval p) (a.eval X)).run P w=.ok () (w.setRow blk2 (c2.setIfInBounds j (a.eval X))):=by
    rw[hpe,← ab7]
    simp only[Instr.storeAt,Instr.sureAddr,aH,bh,aw]
    unfold storeVar
    simp only[aH,eG w Mm,aw]
    have iY:i.size=1:=EV
    rw[if_neg (by rw[ei Mm,← dR,iY,mH];simp)]
    have:=fB (P:=P) blk2 j (.of te) (a.eval X).cells.toList 0 c2 w f5 RT.of_ok (by rw[mH];simp;omega) (by rw[mH];simpa using tK.oneCell)
    simpa using this
   have hg:w.grb (w.setRow blk2 (c2.setIfInBounds j (a.eval X))) (some blk2):=⟨rfl,rfl,rfl,by simp,fun q _ hq=>jy w blk2 q _ (fun e=>hq (by rw[e])),ae _⟩
   have hnh:=kY w blk2 c2 (c2.setIfInBounds j (a.eval X)) te (0,0) f5
   have iE:∀ o,I blk2 o→(w.setRow blk2 (c2.setIfInBounds j (a.eval X))).cell? ⟨blk2,o,none⟩=w.cell? ⟨blk2,o,none⟩:=fun o ho=>by
    have:=f12 o ho
    rw[he1,Nat.add_sub_cancel] at this
    rw[eY _ blk2 o _ te (0,0) hnh,eY w blk2 o c2 te (0,0) f5,Array.getElem?_setIfInBounds_ne (by omega)]
   have nH:∀ b o,I b o→I b o∧(w.setRow blk2 (c2.setIfInBounds j (a.eval X))).cell? ⟨b,o,none⟩=w.cell? ⟨b,o,none⟩:=fun b o ho=>
    ⟨ho,h1.keeps hg (fun r e o ho=>by cases e;exact iE o ho) b o ho⟩
   have hfs:(es++[e.set r c]).flatten=(es++[e]).flatten.set j c:=by
    rw[dW,dW,List.flatten_singleton,List.flatten_singleton,List.set_append_right _ _ (by omega),← hj,Nat.add_sub_cancel_left]
   have hsb:=h1.recell (b:=b) (k:=k) (x':=.hh (some (.slice (some ⟨blk2,0,none⟩) (es++[e]).length cap')) E (es++[e.set r c])) (by rw[nF.2];exact hb) (by rw[nF.1];exact Un) rfl rfl g1 hg iE (fun _ _ h=>h) (fun _ _ h=>.inl h)
    (fun b2 cur2 q1 q2 q3=>by
     have q4:=q3.hot.1
     refine⟨q4,te,blk2,cap',_,sz,rfl,f2,?_,f4,hnh,?_,f7,by simpa using f8,fun x hx=>?_,fun q d hq=>?_,fun o ho=>?_,fun o ho=>?_⟩
     ·rw[q4 _ rfl];simp
     ·rw[ax] at f6 ⊢;simpa using f6
     ·rcases aY.1 hx with hx | hx
      ·exact f9 x (ee _ hx)
      ·rw[aN] at hx;subst hx;rw[iC];exact Pb
     ·rw[hfs,List.getElem?_set] at hq
      split at hq
      ·rename_i YY
       subst YY
       split at hq
       ·cases hq
        rw[lz _ _ _ hjs]
        exact tK.mono nH
       ·cases hq
      ·rename_i YY
       rw[getD_set_ne _ _ _ _ (fun e=>YY e.symm)]
       exact(f10 q d hq).mono nH
     ·exact f11 o (by simpa using ho)
     ·simpa using f12 o ho)
   unfold Oper.wp
   obtain⟨dst,op,type,pos,after,guard⟩:=o
   simp only at bZ;subst bZ
   simp only[execOp,aH,bA,aw,bh,Oper.upon]
   have Ko:=SE.put (v:=undef) (x:=.sk) hsb hd (by simp only[LR];exact .sk)
   exact hk _ _ _ h Ko
  ·exact h.elim
 ·
  rename_i T len parts bZ
  split at h
  ·obtain⟨e,sz,es,cells,hK,bA,hc⟩:=yt hst h
   have uZ:=hst.newCells e hc
   refine eo (v':=.slice (some ⟨w.heap.size,0,none⟩) len len) (w':=w.alloc (.cells cells e)) ?_ (hk _ _ _ hK (SE.put uZ hd ?_))
   ·obtain⟨dst,op,type,pos,after,guard⟩:=o
    simp only at bZ;subst bZ
    simp only[execOp,aH,bA,aw,bh]
   ·simp only[LR];exact⟨ae _,w.heap.size,0,_,ae _,by simp,.inr rfl,rfl⟩
  split at h
  ·rcases h with h | h
   rotate_left
   ·obtain⟨z,u,w',hz,bA,cw⟩:=AZ (tr:=tr) hst hd h
    refine eo (v':=u) (w':=w') ?_ (hk _ _ _ hz cw)
    obtain⟨dst,op,type,pos,after,guard⟩:=o
    simp only at bZ;subst bZ
    simp only[execOp,aH,bA,aw,bh]
   unfold CU at h
   split at h
   ·rename_i e _ _ _ _ _ _ hi
    obtain⟨j,d,h1,h2,h3,_⟩:=bn hi
    have pm:=df h3
    subst pm
    split at h
    ·rename_i sz _ _ z _ _ rL
     obtain⟨j',d',jw,nQ,_,ek,_,_,lQ,_⟩:=bn rL
     simp only at lQ ek
     obtain⟨⟨rfl,tL,XJ,iY,qB,OT⟩,h⟩:=h
     split at lQ
     ·rename_i zv rF
      have wu:∀ p∈(parts.map fun(i,x)=>(i,a.eval x)).toList,p.2.cells=#[p.2]∧p.2.oneCell'=true:=fun p hp=>by
       simp only[Array.toList_map,bu] at hp
       obtain⟨⟨i,x⟩,hx,rfl⟩:=hp
       have h5:=iY (i,ev G s x) (bu.2 ⟨(i,x),hx,rfl⟩)
       have:=(u9 hst x).oneCell h5
       exact⟨this.2,this.1⟩
      have ce:parts.toList.length=len:=by
       have:=jz List.length XJ
       simpa using this
      have UF:zv.cells.size=1:=by have:=List.mapM_eq_some_length lQ.symm;rw[tL] at this;simpa using this.symm
      obtain⟨cells,f1,f2,f3⟩:=Bu (parts.map fun(i,x)=>(i,a.eval x)).toList ((Array.range (len*1)).map (zv.cells[· % zv.cells.size]!)) 0 (by
       rw[← d6]
       have:((parts.map fun(i,x)=>(i,a.eval x)).toList).length=len:=by simpa using ce
       rw[this,← XJ,Array.toList_map,gA,gA];rfl) (fun p hp=>(wu p hp).1) (by rw[Array.toList_map,ap,ce];simp)
      have bA:=lH (P:=P) w T e len (parts.map fun(i,x)=>(i,a.eval x)) cells j' zv h2 jw rF (by rw[← ek];omega) (by rw[← ek];exact f1)
      have gw:cells.size=len:=by rw[f2];simp
      have uZ:=hst.newBox (cur:=cells) (T:=.of e) (cs:=(parts.toList.map fun(i,x)=>(i,ev G s x)).map fun p=>p.2.fz) (od:=fun _=>none) (du (by simp;rw[gw];simpa using ce)) RT.of_ok (fun q=>by
       by_cases hq:q<parts.size
       ·have e1:cells.getD q undef=a.eval parts[q].2:=by
         rw[f3 q,if_pos (by simp;exact hq)]
         simp[List.getD,hq]
        have e2:(((parts.toList.map fun(i,x)=>(i,ev G s x)).map fun p=>p.2.fz)).getD q .un=(ev G s parts[q].2).fz:=by simp[List.getD,hq]
        rw[e1,e2];exact u9 hst _
       ·have e2:(((parts.toList.map fun(i,x)=>(i,ev G s x)).map fun p=>p.2.fz)).getD q .un=.un:=by simp[List.getD,b8 (l:=parts.toList) (by simpa using hq)]
        rw[e2];simp only[LR];exact .un _) (fun u hu=>by
       obtain⟨q,hq,rfl⟩:=fk.1 hu
       have OY:q<parts.size:=by rw[gw] at hq;rw[← ce] at hq;simpa using hq
       have e1:cells.getD q undef=a.eval parts[q].2:=by
        rw[f3 q,if_pos (by simp;exact OY)]
        simp[List.getD,OY]
       have e2:cells.getD q undef=cells[q]:=by simp[hq]
       rw[← e2,e1]
       exact(wu (parts[q].1,a.eval parts[q].2) (by rw[Array.toList_map];exact bu.2 ⟨parts[q],by simp,rfl⟩)).2) (fun _ _ h=>by cases h) (fun _ _ _ h=>by cases h) (yN fun d hd=>by
       obtain⟨p,hp,rfl⟩:=bu.1 hd
       have:=iY p hp
       cases hx:p.2.fz<;>rw[hx] at this<;>first | rfl | cases this)
      refine eo (v':=.slice (some ⟨w.heap.size,0,none⟩) len len) (w':=w.alloc (.cells cells e)) ?_ (hk _ _ _ h (SE.put uZ hd ?_))
      ·obtain⟨dst,op,type,pos,after,guard⟩:=o
       simp only at bZ;subst bZ
       simp only[execOp,aH,bA,aw,bh]
      ·simp only[LR];exact⟨ae _,w.heap.size,0,_,ae _,by simp,.inr rfl,rfl⟩
     ·cases lQ
    ·exact h.elim
   ·exact h.elim
  ·exact gen h
 ·
  rename_i T l c bZ
  obtain⟨e,p,m,sz,z,cells,hK,hpm,bA,hc⟩:=Fh hst h
  have uZ:=hst.newCells e hc
  refine eo (v':=.slice (some ⟨w.heap.size,0,none⟩) p m) (w':=w.alloc (.cells cells e)) ?_ (hk _ _ _ hK (SE.put uZ hd ?_))
  ·obtain⟨dst,op,type,pos,after,guard⟩:=o
   simp only at bZ;subst bZ
   simp only[execOp,aH,bA,aw,bh]
  ·simp only[LR];exact⟨hpm,w.heap.size,0,_,ae _,by simp,.inr rfl,rfl⟩
 ·rename_i f args ts bZ
  have hy:Im tr o.dst=false:=by
   unfold pC at hy;rw[bZ] at hy;exact hy
  rw[hy] at h
  simp only[aS,dm] at h
  split at h
  ·exact Dm bZ hst hd h (fun a' w' s' x hK cw=>hk _ _ _ hK cw)
  split at h
  ·refine qO bZ hst hd h (fun a' w' s' x hK cw=>hk _ _ _ ?_ cw)
   by_cases hl:AX tr o.dst=true
   ·rw[if_pos hl] at hK;exact hK.2
   ·rw[if_neg hl] at hK;exact hK
  ·exact BD bZ hst hd h (fun a' w' x hx cw=>hk _ _ _ hx cw)
 ·
  rename_i args ts bZ
  split at h
  ·unfold u7 at h
   split at h
   ·rename_i t u es y nZ cv
    obtain⟨htu,h⟩:=h
    subst htu
    obtain⟨X,Y,hX,hxe,hye⟩:∃ X Y,args.toList=[X,Y]∧V.ow none es=vw s (ev G s X)∧y=vw s (ev G s Y):=by
     cases ha:args.toList with
     |nil=>simp[ha] at cv
     |cons X l=>
      cases l with
      |nil=>simp[ha] at cv
      |cons Y l=>simp only[ha,aL,bO,dV] at cv;exact⟨X,Y,by rw[cv.2.2],cv.1.symm,cv.2.1.symm⟩
    have e1:ts=#[t,t]:=cP nZ
    have e2:args.map a.eval=#[a.eval X,a.eval Y]:=by apply cP;simp[hX]
    subst e1
    subst hye
    have hxl:LR (Wr M w0) I β w (Pr ob X) (a.eval X) (.ow none es):=by
     have:=bB hst X
     rw[X6 hxe.symm] at this;exact this
    obtain⟨e,sz,es',cells,cap,hK,bA,jL,dR,ja,iY⟩:=A1 (ty:=o.type) hst hxl h (Fv hst Y)
    have uZ:=hst.drew.newPre e (cs:=es'.flatten) dR (fun q c hq=>(ja q c hq).mono fun b o h=>⟨h,rfl⟩) iY
    refine eo (v':=.slice (some ⟨w.heap.size,0,none⟩) es'.length cap) (w':=w.drew.alloc (.cells cells e)) ?_ (hk _ _ _ hK (SE.put uZ hd ?_))
    ·obtain⟨dst,op,type,pos,after,guard⟩:=o
     simp only at bZ bA;subst bZ
     have hb:∀ cs,builtin .append #[t,t] type cs (args.map a.eval)=(do pure (.value (← Builtin.append_ #[t,t] type (args.map a.eval)))):=fun _=>rfl
     have:execOp a.eval { dst,op:=.call { callee:=.builtin .append,args:=args,argTypes:=#[t,t] },type,pos,after,guard }=(do pure (.value (← Builtin.append_ #[t,t] type (args.map a.eval)))):=by
      simp only[execOp,resolve,invoke,pure_bind]
      exact hb _
     rw[this,e2]
     simp only[aH,bA,aw,bh]
    ·simp only[LR];exact⟨ae _,w.heap.size,0,cap,jL,by simp,.inr rfl,rfl⟩
   ·exact h.elim
  ·split at h
   ·
    obtain⟨t,u,X,Y,nZ,hX⟩:∃ t u X Y,ts.toList=[t,u]∧args.toList=[X,Y]:=by
     unfold eI at h
     split at h
     ·rename_i t u _ _ _ _ _ _ nZ cv
      cases ha:args.toList with
      |nil=>simp[ha] at cv
      |cons X l=>
       cases l with
       |nil=>simp[ha] at cv
       |cons Y l=>simp only[ha,aL,bO,dV] at cv;exact⟨t,u,X,Y,nZ,by rw[cv.2.2]⟩
     ·rename_i t u _ _ _ _ _ _ _ nZ cv
      cases ha:args.toList with
      |nil=>simp[ha] at cv
      |cons X l=>
       cases l with
       |nil=>simp[ha] at cv
       |cons Y l=>simp only[ha,aL,bO,dV] at cv;exact⟨t,u,X,Y,nZ,by rw[cv.2.2]⟩
     ·exact h.elim
    have e1:ts=#[t,u]:=cP nZ
    have e2:args.map a.eval=#[a.eval X,a.eval Y]:=by apply cP;simp[hX]
    subst e1
    rw[hX] at h
    obtain⟨s',ob',w',z,v,hK,bA,bH,gX⟩:=zi (ty:=o.type) hst h (bB hst X) (bB hst Y)
    refine eo (v':=v) (w':=w') ?_ (hk _ _ _ hK (SE.put bH hd gX))
    obtain⟨dst,op,type,pos,after,guard⟩:=o
    simp only at bZ bA;subst bZ
    have hb:∀ cs,builtin .append #[t,u] type cs (args.map a.eval)=(do pure (.value (← Builtin.append_ #[t,u] type (args.map a.eval)))):=fun _=>rfl
    have:execOp a.eval { dst,op:=.call { callee:=.builtin .append,args:=args,argTypes:=#[t,u] },type,pos,after,guard }=(do pure (.value (← Builtin.append_ #[t,u] type (args.map a.eval)))):=by
     simp only[execOp,resolve,invoke,pure_bind]
     exact hb _
    rw[this,e2]
    simp only[aH,bA,aw,bh]
   ·exact gen h
 ·
  rename_i args ts bZ
  obtain⟨t,u,X,Y,nZ,hX⟩:∃ t u X Y,ts.toList=[t,u]∧args.toList=[X,Y]:=by
   unfold ni at h
   split at h
   ·rename_i t u _ _ _ _ _ _ nZ cv
    cases ha:args.toList with
    |nil=>simp[ha] at cv
    |cons X l=>
     cases l with
     |nil=>simp[ha] at cv
     |cons Y l=>simp only[ha,aL,bO,dV] at cv;exact⟨t,u,X,Y,nZ,by rw[cv.2.2]⟩
   ·exact h.elim
  have e1:ts=#[t,u]:=cP nZ
  have e2:args.map a.eval=#[a.eval X,a.eval Y]:=by apply cP;simp[hX]
  subst e1
  rw[hX] at h
  obtain⟨s',ob',w',z,v,hK,bA,bH,gX⟩:=Fx (ty:=o.type) hst h (bB hst X) (bB hst Y)
  refine eo (v':=v) (w':=w') ?_ (hk _ _ _ hK (SE.put bH hd gX))
  obtain⟨dst,op,type,pos,after,guard⟩:=o
  simp only at bZ bA;subst bZ
  have hb:∀ cs,builtin .copy #[t,u] type cs (args.map a.eval)=(do pure (.value (← Builtin.copy_ #[t,u] type (args.map a.eval)))):=fun _=>rfl
  have:execOp a.eval { dst,op:=.call { callee:=.builtin .copy,args:=args,argTypes:=#[t,u] },type,pos,after,guard }=(do pure (.value (← Builtin.copy_ #[t,u] type (args.map a.eval)))):=by
   simp only[execOp,resolve,invoke,pure_bind]
   exact hb _
  rw[this,e2]
  simp only[aH,bA,aw,bh]
 ·
  rename_i args ts bZ
  obtain⟨t,X,nZ,hX⟩:∃ t X,ts.toList=[t]∧args.toList=[X]:=by
   unfold iy at h
   split at h
   ·rename_i t _ _ _ _ _ nZ cv
    cases ha:args.toList with
    |nil=>simp[ha] at cv
    |cons X l=>simp only[ha,aL,bO,dV] at cv;exact⟨t,X,nZ,by rw[cv.2]⟩
   ·rename_i t _ _ _ _ nZ cv
    cases ha:args.toList with
    |nil=>simp[ha] at cv
    |cons X l=>simp only[ha,aL,bO,dV] at cv;exact⟨t,X,nZ,by rw[cv.2]⟩
   ·exact h.elim
  have e1:ts=#[t]:=cP nZ
  have e2:args.map a.eval=#[a.eval X]:=by apply cP;simp[hX]
  subst e1
  rw[hX] at h
  obtain⟨s',ob',w',hK,bA,bH⟩:=Dk (ty:=o.type) hst h (bB hst X)
  refine eo (v':=.tuple #[]) (w':=w') ?_ (hk _ _ _ hK (SE.put bH hd (x:=.un) (by simp only[LR];exact .un _)))
  obtain⟨dst,op,type,pos,after,guard⟩:=o
  simp only at bZ bA;subst bZ
  have hb:∀ cs,builtin .clear #[t] type cs (args.map a.eval)=(do pure (.value (← Builtin.clear_ #[t] type (args.map a.eval)))):=fun _=>rfl
  have:execOp a.eval { dst,op:=.call { callee:=.builtin .clear,args:=args,argTypes:=#[t] },type,pos,after,guard }=(do pure (.value (← Builtin.clear_ #[t] type (args.map a.eval)))):=by
   simp only[execOp,resolve,invoke,pure_bind]
   exact hb _
  rw[this,e2]
  simp only[aH,bA,aw,bh]
 ·
  rename_i args ts bZ
  split at h
  ·obtain⟨t,X,nZ,hX⟩:∃ t X,ts.toList=[t]∧args.toList=[X]:=by
    unfold E9 at h
    split at h
    ·rename_i t _ nZ cv
     cases ha:args.toList with
     |nil=>simp[ha] at cv
     |cons X l=>simp only[ha,aL,bO,dV] at cv;exact⟨t,X,nZ,by rw[cv.2]⟩
    ·exact h.elim
   have e1:ts=#[t]:=cP nZ
   have e2:args.map a.eval=#[a.eval X]:=by apply cP;simp[hX]
   subst e1
   rw[hX] at h
   obtain⟨u,hf,hK,bA⟩:=Fu (ty:=o.type) hst h (bB hst X)
   refine eo (v':=u) (w':=w) ?_ (hk _ _ _ hK (.fin0 hst hd (.ofLit hf)))
   obtain⟨dst,op,type,pos,after,guard⟩:=o
   simp only at bZ bA;subst bZ
   have hb:∀ cs,builtin .len #[t] type cs (args.map a.eval)=(do pure (.value (← Builtin.len_ #[t] type (args.map a.eval)))):=fun _=>rfl
   have:execOp a.eval { dst,op:=.call { callee:=.builtin .len,args:=args,argTypes:=#[t] },type,pos,after,guard }=(do pure (.value (← Builtin.len_ #[t] type (args.map a.eval)))):=by
    simp only[execOp,resolve,invoke,pure_bind]
    exact hb _
   rw[this,e2]
   simp only[aH,bA,aw,bh]
  ·exact gen h
 ·
  rename_i src dst' X bZ
  split at h
  ·obtain⟨s',v,w',hK,u,bA,β',ob',bH,gX⟩:=Dl hst hd h
   refine eo (v':=u) (w':=w') ?_ (hk _ _ _ hK (SE.put bH hd gX))
   obtain⟨dst,op,type,pos,after,guard⟩:=o
   simp only at bZ bA;subst bZ
   simp only[execOp,aH,bA,aw,bh]
  ·exact gen h
 ·
  rename_i op T X Y yT bZ
  split at h
  ·rename_i hy
   unfold X1 at h
   have fin:∀ c:Value,Y=.const c→(∃ u,flat u=true∧K (s.after tr o (.c (.lit u)))∧(do eqGuard op T X Y (a.eval X) c;binOp op T (a.eval X) c:Sem Value).run P w=.ok u w)→o.wp P a w next Q:=by
    rintro c rfl ⟨u,hf,hz,bA⟩
    refine eo (v':=u) (w':=w) ?_ (hk _ _ _ hz (.fin0 hst hd (.ofLit hf)))
    obtain⟨dst,op',type,pos,after,guard⟩:=o
    simp only at bZ;subst bZ
    have hx:execOp a.eval { dst,op:=.binOp op T X (.const c) yT,type,pos,after,guard }=(do pure (.value (← (do eqGuard op T X (.const c) (a.eval X) c;binOp op T (a.eval X) c)))):=by
     simp only[execOp];simp[Act.eval]
    rw[hx]
    simp only[aH] at bA ⊢
    rw[bA]
    simp
   cases hp:CQ Y with
   |some fn=>
    rw[hp] at h
    have hY:Y=.const (if fn then .nilFunc else .pointer none):=by
     unfold CQ at hp
     split at hp
     ·cases hp;rfl
     ·cases hp;rfl
     ·cases hp
    exact fin _ hY (Fe (K:=fun v=>K (s.after tr o v)) h (bB hst X) X Y)
   |none=>
    rw[hp] at h
    have hY:Y=.const (.slice none 0 0):=by
     unfold yL at hy
     rw[hp] at hy
     simp only[kg,Bool.or_false] at hy
     unfold Pl at hy
     split at hy
     ·rfl
     ·cases hy
    exact fin _ hY (It (K:=fun v=>K (s.after tr o v)) h (bB hst X) X Y)
  ·exact gen h
 ·
  rename_i T X bZ
  split at h
  ·obtain⟨z,u,hz,gX,bA⟩:=C0 hst h (bB hst X)
   refine eo (v':=u) (w':=w) ?_ (hk _ _ _ hz (SE.put hst hd gX))
   obtain⟨dst,op',type,pos,after,guard⟩:=o
   simp only at bZ;subst bZ
   simp only[execOp,aH,bA,aw,bh]
  ·exact gen h.2
 ·
  rename_i T parts bZ
  split at h
  ·obtain⟨z,u,hz,gX,bA⟩:=AY hst h
   refine eo (v':=u) (w':=w) ?_ (hk _ _ _ hz (SE.put hst hd gX))
   obtain⟨dst,op',type,pos,after,guard⟩:=o
   simp only at bZ;subst bZ
   simp only[execOp,aH,bA,aw,bh]
  ·exact gen h
 ·
  rename_i T bZ
  split at h
  ·have uZ:=hst.newMap
   refine eo (v':=.map (some w.heap.size)) (w':=w.alloc (.map #[] 0)) ?_ (hk _ _ _ h (SE.put uZ hd ?_))
   ·obtain⟨dst,op',type,pos,after,guard⟩:=o
    simp only at bZ;subst bZ
    simp[execOp,Instr.makeMap]
   ·simp only[LR];exact⟨w.heap.size,by simp,rfl⟩
  ·exact h.elim
 ·
  rename_i T m k X bZ
  obtain⟨s',ob',w',hK,bA,bH⟩:=t8 hst h (bB hst m) (bB hst k) (bB hst X)
  unfold Oper.wp
  obtain⟨dst,op',type,pos,after,guard⟩:=o
  simp only at bZ;subst bZ
  simp only[execOp,aH,bA,aw,bh,Oper.upon]
  exact hk _ _ _ hK (SE.put (v:=undef) (x:=.sk) bH hd (by simp only[LR];exact .sk))
 ·
  rename_i T m k bZ
  obtain⟨s',ob',w',z,u,hK,bA,bH,gX⟩:=yu hst h (bB hst m) (bB hst k)
  refine eo (v':=u) (w':=w') ?_ (hk _ _ _ hK (SE.put bH hd gX))
  obtain⟨dst,op',type,pos,after,guard⟩:=o
  simp only at bZ;subst bZ
  simp only[execOp,aH,bA,aw,bh]
 ·
  rename_i T m k X bZ
  obtain⟨s',ob',w',hK,bA,bH⟩:=yv (P:=P) (T:=T) hst h (bB hst m) (bB hst k) (bB hst X)
  unfold Oper.wp
  obtain⟨dst,op',type,pos,after,guard⟩:=o
  simp only at bZ;subst bZ
  simp only[execOp,aH,bA,aw,bh,Oper.upon]
  exact hk _ _ _ hK (SE.put (v:=undef) (x:=.sk) bH hd (by simp only[LR];exact .sk))
 ·
  rename_i t bZ
  obtain⟨it,z,u,w',hK,bA,cw⟩:=Fw (P:=P) (ty:=o.type) hst hd h
  refine eo (v':=u) (w':=w') ?_ (hk _ _ _ hK cw)
  obtain⟨dst,op',type,pos,after,guard⟩:=o
  simp only at bZ;subst bZ
  simp only[execOp,Act.eval,aH,bA,aw,bh]
 ·
  rename_i T m k X bZ
  obtain⟨s',ob',w',hK,bA,bH⟩:=t8 hst h (bB hst m) (bB hst k) (bB hst X)
  unfold Oper.wp
  obtain⟨dst,op',type,pos,after,guard⟩:=o
  simp only at bZ;subst bZ
  simp only[execOp,aH,bA,aw,bh,Oper.upon]
  exact hk _ _ _ hK (SE.put (v:=undef) (x:=.sk) bH hd (by simp only[LR];exact .sk))
 ·exact gen h
theorem vo (hst:St G n I0 M w0 I β ob s a w) {ops:Array Oper} {j d:Nat} (hd:(ops[j]?).bind (·.dst)=some d) {p:Bool} (h:s.fr d=.c (.lit (.bool p))):yielded ops a.tmps j=some p:=by
 have:=hst.fr d
 rw[h] at this
 have hv:=this.lit
 unfold yielded
 rw[hd]
 simp only[fE]
 rw[ao] at hv
 cases hx:a.tmps[d]? with
 |none=>rw[hx] at hv;cases hv
 |some u=>rw[hx] at hv;simp only[bQ] at hv;rw[hv]
theorem zo (hst:St G n I0 M w0 I β ob s a w) {ops:Array Oper} {j d:Nat} (hd:(ops[j]?).bind (·.dst)=some d) (h:s.fr d=.sk):yielded ops a.tmps j=none:=by
 have:=hst.fr d
 rw[h] at this
 have hv:a.tmps.getD d undef=undef:=by simp only[LR] at this;generalize a.tmps.getD d undef=u at this;cases this;rfl
 unfold yielded
 rw[hd]
 simp only[fE]
 rw[ao] at hv
 cases hx:a.tmps[d]? with
 |none=>rfl
 |some u=>rw[hx] at hv;simp only[bQ] at hv;rw[hv];rfl
theorem S.up_id {d:Nat} {x:V} (h:s.fr d=x):{ s with fr:=up s.fr d x }=s:=by
 rw[← h,pF]
theorem qP {ops:Array Oper} {yes no:S→Prop} (hst:St G n I0 M w0 I β ob s a w) (h:mU ops o s yes no) :
 (Region.wanted o (yielded ops a.tmps)=true∧yes s)∨(Region.wanted o (yielded ops a.tmps)=false∧no s):=by
 unfold mU at h
 unfold Region.wanted
 split at h
 ·rename_i hg
  rw[hg];exact .inl ⟨rfl,h⟩
 ·rename_i j want hg
  rw[hg]
  split at h
  ·rename_i d hd
   split at h
   ·rename_i p hp
    simp only[vo hst hd hp]
    by_cases hpw:p=want
    ·subst hpw
     have:=h.1 rfl
     rw[S.up_id hp] at this
     exact .inl ⟨by simp,this⟩
    ·have E2:p=!want:=by cases p<;>cases want<;>simp_all
     have:=h.2 E2
     rw[← E2,S.up_id hp] at this
     exact .inr ⟨by simpa using hpw,this⟩
   ·rename_i hp
    simp only[zo hst hd hp]
    exact .inr ⟨rfl,h⟩
   ·exact h.elim
  ·exact h.elim
def jJ (n:Nat) (ops:Array Oper):Bool:=ops.toList.all fun o=>match o.dst with | some d=>decide (d<n) | none=>true
theorem eQ {ops:Array Oper} (h:jJ n ops=true) {o:Oper} (ho:o∈ops.toList):∀ d,o.dst=some d→d<n:=fun d hd=>by
 have:=aW.1 h o ho
 rw[hd] at this
 simpa using this
theorem PM {l:Option Nat} {m:Nat} (hst:St G n I0 M w0 I β ob s a w) (hd:∀ d,o.dst=some d→d<n) (pA:∀ c,o.op≠.defer c) {i blk:Nat} {vs:List Value} {all:List V} {ρ:List Nat} {cargs:List V} {b0 b1:List (List V)} {r:V}
 (dI:YB P G cargs b0 r b1) (cv:ArgsL (Wr M w0) I β w vs all) (dh:all.map V.fz=cargs.map (V.ren (rho ρ s.nb))) (hρ:ρ.length=b0.length∧ρ.Nodup) (fy:pB s.bx s.nb (rho ρ s.nb) 0 b0)
 (hhd:ρ.head?=some i) (E1:β i=some blk)
 (bA:(execOp a.eval o).run P w=(Instr.yield blk vs.toArray).run P w)
 (hk:∀ a' w',SE G n I0 M w0 (({ s with bx:=ff (rho ρ s.nb) 0 b1 s.bx,nb:=s.nb+(b1.length - b0.length) }:S).put o.dst (r.ren (rho ρ s.nb))) a' w'→next a' w'):o.wpIn (FW l) m P a w next Q:=by
 obtain⟨hρl,hn⟩:=hρ
 obtain⟨AM,nS,fx⟩:=dI.1
 have hl:∀ i,i<ρ.length→ρ.getD i 0<s.nb:=fun i hi=>by
  obtain⟨b,hb⟩:∃ b,b0[i]?=some b:=⟨_,aj (by omega)⟩
  have:=(np b0 0 i b fy hb).1
  rw[ah] at this
  simpa[rho,hi] using this
 have pE:=sY hn hl
 have ce:all.length=cargs.length:=by simpa using jz List.length dh
 have qB:0<ρ.length:=by cases ρ with | nil=>cases hhd | cons x r=>simp
 have hr0:rho ρ s.nb 0=i:=by
  unfold rho
  rw[if_pos qB]
  cases ρ with
  |nil=>cases hhd
  |cons x r=>simpa using hhd
 obtain⟨fn,tmps,assign,body,hyr,Kq⟩:=dI.2 I ⟨Mof β ob (rho ρ s.nb) b0.length,fun _=>none,[]⟩ w vs.toArray (kp β (rho ρ s.nb) b0.length) (obC ob (rho ρ s.nb) b0.length) blk hst.ibnd hst.glob (hst.give pE fy nS)
  (by unfold kp;rw[if_pos (by omega),hr0];exact E1) (by have:=cv.1;simp;omega) (fun j x hx=>by
   have hj:j<cargs.length:=(ak.1 hx).1
   have hz:all[j]?=some all[j]:=aj (by omega)
   have h1:=cv.2 j _ hz
   have h2:all[j].fz=x.ren (rho ρ s.nb):=by
    have e1:(all.map V.fz)[j]?=some all[j].fz:=by simp[hz]
    have e2:(cargs.map (V.ren (rho ρ s.nb)))[j]?=some (x.ren (rho ρ s.nb)):=by simp[hx]
    rw[dh,e2] at e1
    exact(dE e1).symm
   rw[h2] at h1
   have h3:=h1.ren (β':=kp β (rho ρ s.nb) b0.length) (AM x (bg hx)) (fun i b hi hb=>by simp[kp,hi,hb])
   have h4:=h3.wider (base':=Wr ⟨Mof β ob (rho ρ s.nb) b0.length,fun _=>none,[]⟩ w) fun b hb=>by cases hb
   simpa using h4)
 refine⟨fun _ _=>trivial,?_⟩
 rw[Oper.semAt_eq _ _ _ pA,bA,hyr]
 refine⟨fun h=>(by cases h),RoundIn.mono (IA Kq) ?_⟩
 rintro e w' ⟨v,I',β',ob',o',rfl,nR,Kj,Ig,rI,O2,H4,nF,gX,jb⟩
 simp only
 obtain⟨bH,ey,sQ,fU,uZ,_⟩:=hst.called hρl hn fy fx nR Kj Ig rI O2 H4 nF
 refine hk _ _ ?_
 have Ul:LR (Wr M w0) I' (oL β β' ρ s.nb) w' o' v (r.ren (rho ρ s.nb)):=(gX.toRen ey).wider fun b hb=>sQ b (jb b hb).1.2
 cases kQ:o.dst with
 |none=>exact⟨_,_,_,bH⟩
 |some d=>
  refine⟨_,_,_,bH.put d (hd d kQ) Ul fun b hb=>?_⟩
  obtain⟨⟨h1,h2⟩,h3,h4⟩:=jb b hb
  refine⟨⟨h1,sQ b h2⟩,fun L hL=>?_,uZ b h2 h4⟩
  simp only[upL] at hL
  split at hL
  ·cases hL
  ·exact fU b h2 h3 L hL
theorem MJ {f:Operand} {args:Array Operand} {ts:Array TypeId} {blk:Nat} (ho:o.op=.call { callee:=.value f,args:=args,argTypes:=ts }) (hf:a.eval f=.func (.yield blk) #[] #[]) :
 (execOp a.eval o).run P w=(Instr.yield blk (args.toList.map a.eval).toArray).run P w:=by
 unfold execOp
 have e:(args.toList.map a.eval).toArray=args.map a.eval:=by apply cP;simp
 rw[e]
 simp only[ho,resolve,Deferred.ofValue,hf,aH,bh,aw,invoke]
 simp
theorem Dn {l:Option Nat} {m:Nat} {K:S→V→Prop} {f:Operand} {args:Array Operand} {ts:Array TypeId} (ho:o.op=.call { callee:=.value f,args:=args,argTypes:=ts }) (hst:St G n I0 M w0 I β ob s a w)
 (hd:∀ d,o.dst=some d→d<n) (h:wI P G s (ev G s f) (args.toList.map (ev G s)) K) (hk:∀ a' w' s' x,K s' x→SE G n I0 M w0 (s'.put o.dst x) a' w'→next a' w'):o.wpIn (FW l) m P a w next Q:=by
 have hf:=bB hst f
 unfold wI at h
 split at h
 ·rename_i i he
  obtain⟨ρ,cargs,b0,r,b1,dI,dh,⟨hρ1,hρ2,hρ3⟩,fy,hK⟩:=h
  rw[he] at hf
  simp only[LR] at hf
  obtain⟨blk,hb,hv⟩:=hf
  exact PM hst hd (fun c hc=>by rw[ho] at hc;cases hc) dI (lW hst _) dh ⟨hρ1,hρ2⟩ fy hρ3 hb (MJ ho hv) (fun a' w'=>hk a' w' _ _ hK)
 ·exact h.elim
theorem PN {K:S→Prop} (h:VStep P G tr o s K):∀ c,o.op≠.defer c:=fun c hc=>by
 unfold VStep VYK at h
 rw[hc] at h
 exact h
theorem ua {l:Option Nat} {m:Nat} {K:S→Prop} (hst:St G n I0 M w0 I β ob s a w) (hd:∀ d,o.dst=some d→d<n) (h:VStep P G tr o s K)
 (hk:∀ a' w' s',K s'→SE G n I0 M w0 s' a' w'→next a' w'):o.wpIn (FW l) m P a w next Q:=by
 cases hy:pC tr o with
 |false=>exact zl (PN h) (nr (tr:=tr) hst hd hy h hk)
 |true=>
  unfold pC at hy
  split at hy
  ·rename_i f args ts bZ
   unfold VStep at h
   rw[bZ] at h
   simp only[hy,cJ] at h
   exact Dn bZ hst hd h fun a' w' s' x hK cw=>hk _ _ _ hK cw
  ·cases hy
theorem uv {l:Option Nat} {m:Nat} {ops:Array Oper} (dI:jJ n ops=true) {K:S→Prop} (hK:∀ a w s,K s→SE G n I0 M w0 s a w→Q .normal a w):∀ (ls:List Oper) (k:Nat),ops.toList.drop k=ls→∀ (s:S) (a:Act) (w:World),
 eJ P G tr ops ls s K→SE G n I0 M w0 s a w→wpOpsIn (FW l) m P ops Q (List.range' k ls.length) a w
 |[],k,_,s,a,w,h,cw=>by simp only[aK,List.range'_zero,wpOpsIn];exact hK _ _ _ h cw
 |o::ls,k,hl,s,a,w,h,cw=>by
  have ly:ops[k]?=some o:=by
   have:(ops.toList.drop k)[0]?=some o:=by rw[hl];rfl
   rw[bX] at this
   simpa using this
  have Ia:ops.toList.drop (k+1)=ls:=by
   rw[← fp,hl];rfl
  have jG:o∈ops.toList:=cK (i:=k) (by rw[hl];simp)
  obtain⟨I,β,ob,hst⟩:=cw
  simp only[aB,gr,wpOpsIn,ly]
  simp only[eJ] at h
  rcases qP hst h with⟨hw,h⟩ | ⟨hw,h⟩
  ·rw[if_pos hw]
   refine ua (tr:=tr) hst (eQ dI jG) h fun a' w' s' wF m5=>?_
   exact uv dI hK ls (k+1) Ia s' a' w' wF m5
  ·rw[hw]
   simp only[aS,dm]
   exact⟨fun _ _=>trivial,uv dI hK ls (k+1) Ia _ _ w h (SE.put hst (eQ dI jG) (by simp only[LR];exact .sk))⟩
theorem PR.ltP {β':Nat→Option Nat} {m:Nat} (h:PR I β w v x) (hx:x.ltP m) (hβ:∀ i,i<m→β' i=β i):PR I β' w v x:=by
 cases x<;>simp only[V.ltP] at hx<;>simp only[PR] at h ⊢<;>try exact h
 ·obtain⟨blk,h1,h2⟩:=h;exact⟨blk,by rw[hβ _ hx];exact h1,h2⟩
 ·obtain⟨h0,blk,o',c',yI,h1,h2⟩:=h;exact⟨h0,blk,o',c',yI,by rw[hβ _ hx];exact h1,h2⟩
 ·obtain⟨blk,h1,h2⟩:=h;exact⟨blk,by rw[hβ _ hx];exact h1,h2⟩
 ·obtain⟨blk,h1,h2⟩:=h;exact⟨blk,by rw[hβ _ hx];exact h1,h2⟩
 ·obtain⟨blk,h1,h2⟩:=h;exact⟨blk,by rw[hβ _ hx];exact h1,h2⟩
theorem KR.ltP {β':Nat→Option Nat} {m:Nat} (h:KR I β w v x) (hx:x.ltP m) (hβ:∀ i,i<m→β' i=β i):KR I β' w v x:=by
 rcases h with h | h | h
 ·exact .inl h
 ·exact .inr (.inl h)
 ·exact .inr (.inr (h.ltP hx hβ))
theorem LR.lt {β':Nat→Option Nat} {m:Nat} {ox:Option Nat} (h:LR base I β w ox v x) (hx:x.lt m) (hβ:∀ i,i<m→β' i=β i):LR base I β' w ox v x:=by
 cases x<;>simp only[V.lt] at hx<;>simp only[LR] at h ⊢<;>try exact h
 ·obtain⟨blk,h1,h2⟩:=h;exact⟨blk,by rw[hβ _ hx];exact h1,h2⟩
 ·obtain⟨vf,vc,h1,h2,h3,h4,h5⟩:=h
  exact⟨vf,vc,h1,h2,h3,fun j x hj=>(h4 j x hj).ltP (hx.1 x (bg hj)) hβ,fun j x hj=>(h5 j x hj).ltP (hx.2 x (bg hj)) hβ⟩
 ·obtain⟨h0,blk,o',c',yI,h1,h2⟩:=h;exact⟨h0,blk,o',c',yI,by rw[hβ _ hx];exact h1,h2⟩
 ·obtain⟨cs,h1,h2,h3⟩:=h
  exact⟨cs,h1,h2,fun j x hj=>(h3 j x hj).ltP (hx x (bg hj)) hβ⟩
 ·obtain⟨blk,h1,h2⟩:=h;exact⟨blk,by rw[hβ _ hx];exact h1,h2⟩
 ·obtain⟨blk,m,h1,h2,h3,h4⟩:=h;exact⟨blk,m,h1,h2,by rw[hβ _ hx];exact h3,h4⟩
 ·obtain⟨blk,h1,h2⟩:=h;exact⟨blk,by rw[hβ _ hx];exact h1,h2⟩
 ·obtain⟨tm,h1,h2⟩:=h
  exact⟨tm,h1,fun t y hy=>(h2 t y hy).ltP (hx _ hy) hβ⟩
 ·obtain⟨blk,h1,h2⟩:=h;exact⟨blk,by rw[hβ _ hx];exact h1,h2⟩
theorem SE.weaken {s':S} {k:Nat} (h:SE G n I0 M w0 s a w) (qf:∀ i b,M.e i=some b→i<k) (fx:S.Le k s' s):SE G n I0 M w0 s' a w:=by
 obtain⟨I,β,ob,h⟩:=h
 have hβ:∀ i b,(if i<s'.nb then β i else none)=some b→β i=some b:=fun i b hb=>by split at hb;exact hb;cases hb
 let ob':Loc→Option Nat:=fun L=>match L with
  | .t i=>if(s'.fr i).isOw then ob (.t i) else none
  | .b i j=>if i<s'.nb then ob (.b i j) else none
 have j4:∀ L b,ob' L=some b→ob L=some b:=fun L b hL=>by
  cases L with
  |t i=>simp only[ob'] at hL;split at hL;exact hL;cases hL
  |b i j=>simp only[ob'] at hL;split at hL;exact hL;cases hL
 refine⟨I,fun i=>if i<s'.nb then β i else none,ob',{
  size:=h.size,defers:=h.defers,below:=h.below,kept:=h.kept,ilow:=h.ilow,ihigh:=h.ihigh,ibnd:=h.ibnd
  fr:=fun t=>?_
  bx:=fun i hi=>?_
  bnone:=fun i hi=>by rw[if_neg (by omega)]
  ext:=fun i b he=>by rw[if_pos (bW (qf i b he) fx.ext)];exact h.ext i b he
  bnew:=fun i b hi=>h.bnew i b (hβ i b hi)
  binj:=fun i j b hi hj=>h.binj i j b (hβ _ _ hi) (hβ _ _ hj)
  oinj:=fun L L' b hL wE=>h.oinj L L' b (j4 _ _ hL) (j4 _ _ wE)
  obx:=fun L b i hL hi=>h.obx L b i (j4 _ _ hL) (hβ _ _ hi)
  obnd:=fun L b hL=>h.obnd L b (j4 _ _ hL)
  glob:=h.glob }⟩
 ·rcases fx.fr t with e | e
  ·rw[e];simp only[LR];exact .un _
  ·have:=h.fr t
   rw[← e] at this
   have h2:LR (Wr M w0) I β w (ob' (.t t)) (a.tmps.getD t undef) (s'.fr t):=by
    simp only[ob']
    by_cases ho:(s'.fr t).isOw=true
    ·rw[if_pos ho];exact this
    ·rw[if_neg ho];exact this.other (by simpa using ho)
   exact h2.lt (fx.lt t) (fun i hi=>by rw[if_pos hi])
 ·obtain⟨blk,cur,e1,e2,e3,e4,e5,e7⟩:=h.bx i (bW hi fx.nb)
  refine⟨blk,cur,by rw[if_pos hi];exact e1,e2,by rw[fx.bx i hi];exact e3,by rw[fx.bx i hi];exact e4,fun j=>?_,e7⟩
  have:=e5 j
  rw[← fx.bx i hi] at this
  have bF:((s'.bx i).getD j .un).lt s'.nb:=by
   by_cases hj:j<(s'.bx i).length
   ·have:(s'.bx i).getD j .un=(s'.bx i)[j]:=by simp[List.getD,hj]
    rw[this];exact fx.blt i hi _ (aF hj)
   ·have:(s'.bx i).getD j .un=.un:=by simp[List.getD,b8 (dP hj)]
    rw[this];exact trivial
  have h2:=this.lt (β':=fun i=>if i<s'.nb then β i else none) bF (fun i hi=>by rw[if_pos hi])
  simpa only[ob',if_pos hi] using h2
theorem UV {s:S} {m:Nat} {l l':List V} (h:l'.getD 0 .un=l.getD 0 .un∨FzV s m (l'.getD 0 .un) (l.getD 0 .un)):nI l'=nI l:=by
 unfold nI
 rcases h with h | ⟨i,off,len,cap,sz,c,h1,_,_,h2⟩
 ·rw[h]
 ·rw[h1,h2]
theorem SE.freeze {s':S} {k:Nat} (h:SE G n I0 M w0 s a w) (qf:∀ i b,M.e i=some b→i<k) (fx:S.Fz k s' s):SE G n I0 M w0 s' a w:=by
 obtain⟨I,β,ob,h⟩:=h
 have hβ:∀ i b,(if i<s'.nb then β i else none)=some b→β i=some b:=fun i b hb=>by split at hb;exact hb;cases hb
 let ob':Loc→Option Nat:=fun L=>match L with
  | .t i=>if(s'.fr i).isOw then ob (.t i) else none
  | .b i j=>if i<s'.nb then ob (.b i j) else none
 have j4:∀ L b,ob' L=some b→ob L=some b:=fun L b hL=>by
  cases L with
  |t i=>simp only[ob'] at hL;split at hL;exact hL;cases hL
  |b i j=>simp only[ob'] at hL;split at hL;exact hL;cases hL
 let I':Ft:=fun b o=>I b o∨∃ i,s'.nb≤i∧i<s.nb∧β i=some b
 have hII:∀ b o,I b o→I' b o:=fun _ _ h=>.inl h
 have j7:∀ (v:Value) (x:V) (o:Option Nat),(∀ b,o=some b→∃ L,ob L=some b)→LR (Wr M w0) I β w o v x→LR (Wr M w0) I' β w o v x:=fun v x o ho hx=>
  hx.mono (fun b o hb=>⟨.inl hb,rfl⟩) (fun _ _ e=>e) (fun b hb=>⟨rfl,fun o hI=>by
   rcases hI with hI | ⟨i,_,_,hi⟩
   ·exact hI
   ·obtain⟨L,hL⟩:=ho b hb
    exact absurd hi (h.obx L b i hL)⟩)
 have YZ:∀ (v:Value) (x y:V) (o:Option Nat),LR (Wr M w0) I β w o v y→FzV s s'.nb x y→∃ c,x=.c c∧CR I' w v c:=fun v x y o hy hf=>by
  obtain⟨i,off,len,cap,sz,c,rfl,hi,hv,rfl⟩:=hf
  simp only[LR] at hy
  refine⟨c,rfl,C7 h hv hy hII (fun b o hb=>?_)⟩
  have sR:i<s.nb:=by
   unfold lT yq at hv
   split at hv
   ·rename_i hc
    split at hc
    ·assumption
    ·cases hc
   ·cases hv
  exact .inr ⟨i,hi,sR,hb⟩
 refine⟨I',fun i=>if i<s'.nb then β i else none,ob',{
  size:=h.size,defers:=h.defers,below:=h.below,ilow:=fun b o hb=>.inl (h.ilow b o hb),kept:=h.kept
  ihigh:=fun b o hb=>by
   rcases hb with hb | ⟨i,_,hi,hb⟩
   ·exact h.ihigh b o hb
   ·obtain⟨blk,cur,e1,e2,e3,_⟩:=h.bx i hi
    rw[hb] at e1;cases e1;exact .inr e2
  ibnd:=fun b o hb=>by
   rcases hb with hb | ⟨i,_,hi,hb⟩
   ·exact h.ibnd b o hb
   ·obtain⟨blk,cur,e1,e2,e3,_⟩:=h.bx i hi
    rw[hb] at e1;cases e1
    exact e3.lt
  fr:=fun t=>?_
  bx:=fun i hi=>?_
  bnone:=fun i hi=>by rw[if_neg (by omega)]
  ext:=fun i b he=>by rw[if_pos (bW (qf i b he) fx.ext)];exact h.ext i b he
  bnew:=fun i b hi=>h.bnew i b (hβ i b hi)
  binj:=fun i j b hi hj=>h.binj i j b (hβ _ _ hi) (hβ _ _ hj)
  oinj:=fun L L' b hL wE=>h.oinj L L' b (j4 _ _ hL) (j4 _ _ wE)
  obx:=fun L b i hL hi=>h.obx L b i (j4 _ _ hL) (hβ _ _ hi)
  obnd:=fun L b hL=>h.obnd L b (j4 _ _ hL)
  glob:=fun g cs hg=>(h.glob g cs hg).mono fun b o hb=>⟨.inl hb,rfl⟩ }⟩
 ·rcases fx.fr t with e | e | e
  ·rw[e];simp only[LR];exact .un _
  ·have:=j7 _ _ _ (fun b hb=>⟨_,hb⟩) (h.fr t)
   rw[← e] at this
   have h2:LR (Wr M w0) I' β w (ob' (.t t)) (a.tmps.getD t undef) (s'.fr t):=by
    simp only[ob']
    by_cases ho:(s'.fr t).isOw=true
    ·rw[if_pos ho];exact this
    ·rw[if_neg ho];exact this.other (by simpa using ho)
   exact h2.lt (fx.lt t) (fun i hi=>by rw[if_pos hi])
  ·obtain⟨c,hc,ja⟩:=YZ _ _ _ _ (h.fr t) e
   rw[hc];exact .ofC ja
 ·obtain⟨blk,cur,e1,e2,e3,e4,e5,e7⟩:=h.bx i (bW hi fx.nb)
  refine⟨blk,cur,by rw[if_pos hi];exact e1,e2,e3.congr (fx.bl i hi) (UV (fx.bx i hi 0)),by rw[fx.bl i hi];exact e4,fun j=>?_,fun o ho=>?_⟩
  ·rcases fx.bx i hi j with e | e
   ·have:=j7 _ _ _ (fun b hb=>⟨_,hb⟩) (e5 j)
    rw[← e] at this
    have bF:((s'.bx i).getD j .un).lt s'.nb:=by
     by_cases hj:j<(s'.bx i).length
     ·have:(s'.bx i).getD j .un=(s'.bx i)[j]:=by simp[List.getD,hj]
      rw[this];exact fx.blt i hi _ (aF hj)
     ·have:(s'.bx i).getD j .un=.un:=by simp[List.getD,b8 (dP hj)]
      rw[this];exact trivial
    have h2:=this.lt (β':=fun i=>if i<s'.nb then β i else none) bF (fun i hi=>by rw[if_pos hi])
    simpa only[ob',if_pos hi] using h2
   ·obtain⟨c,hc,ja⟩:=YZ _ _ _ _ (e5 j) e
    rw[hc];exact .ofC ja
  ·rcases ho with ho | ⟨i',rj,_,hb⟩
   ·exact e7 o ho
   ·have:=h.binj i i' blk e1 hb
    omega
