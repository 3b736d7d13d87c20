/- Values without memory: boxes: variables that lie in memory. -/
import Derived.Test.YtloppcgcepgbnaaGreatDoorVlSound10
import Derived.Maps.RangeRun
import Derived.OrdersIn
import Derived.LoopNIn
import Derived.RangeFuncLeaves
import Derived.LoopN
set_option linter.all false
namespace Go.Vl
open Go Go.RowKit
section
variable {P:Program} {G:Gl} {tr:List Nat} {n:Nat} {I0:Ft} {M:Mx} {w0:World} {I:Ft} {β:Nat→Option Nat} {ob:Loc→Option Nat} {s:S} {a:Act} {w:World} {o:Oper}
 {next:Act→World→Prop} {Q:Exit→Act→World→Prop} {base:Nat→Prop} {v:Value} {x y:V}
theorem PR.oneCell {c:V} (h:PR I β w v c):v.oneCell'=true:=by
 cases c<;>simp only[PR] at h
 ·exact h.oneCell
 ·exact h.2.1.oneCell
 ·obtain⟨_,_,rfl⟩:=h;rfl
 ·obtain⟨_,_,_,_,_,_,_,rfl⟩:=h;rfl
 ·obtain⟨_,_,rfl⟩:=h;rfl
 ·obtain⟨_,_,rfl⟩:=h;rfl
 ·obtain⟨_,_,rfl⟩:=h;rfl
theorem LR.oneCell {c:V} {ox:Option Nat} (h:LR base I β w ox v c) (hc:c.one=true):v.oneCell'=true∧v.cells=#[v]:=by
 cases c<;>simp only[V.one] at hc<;>try cases hc
 ·exact⟨h.toC.oneCell,h.toC.notAgg⟩
 ·exact⟨h.1.oneCell,h.1.notAgg⟩
 ·obtain⟨_,_,rfl⟩:=h;exact⟨rfl,rfl⟩
 ·obtain⟨_,_,rfl,_⟩:=h;exact⟨rfl,rfl⟩
 ·obtain⟨_,_,_,_,_,_,_,rfl⟩:=h;exact⟨rfl,rfl⟩
 ·obtain⟨_,_,rfl⟩:=h;exact⟨rfl,rfl⟩
 ·obtain⟨_,_,rfl⟩:=h;exact⟨rfl,rfl⟩
 ·obtain⟨_,_,_,_,_,_,_,_,rfl,_⟩:=h;exact⟨rfl,rfl⟩
theorem LR.gs_one {ox:Option Nat} {g:Option Value} {E:Option (TypeId×Nat)} {es:List (List C)} (h:LR base I β w ox v (.gs g E es)):v.oneCell'=true∧v.cells=#[v]:=by
 rcases h.gsO.2 with⟨_,_,_,_,rfl⟩ | ⟨_,_,_,_,_,_,_,rfl,_⟩<;>exact⟨rfl,rfl⟩
theorem Ej {ox:Option Nat} (h:LR base I β w ox v x) {ds:List V} (hx:x.bcells=some ds):v.cells.size=ds.length∧
 (∀ j,LR base I β w (if j=0∧x.isOw=true then ox else none) (v.cells.getD j undef) (ds.getD j .un))∧(∀ u∈v.cells,u.oneCell'=true):=by
 have one:∀ c:V,c.one=true→x=c→ds=[c]→v.cells.size=ds.length∧
  (∀ j,LR base I β w (if j=0∧x.isOw=true then ox else none) (v.cells.getD j undef) (ds.getD j .un))∧(∀ u∈v.cells,u.oneCell'=true):=by
  rintro c hc rfl rfl
  obtain⟨h1,h2⟩:=h.oneCell hc
  rw[h2]
  refine⟨rfl,fun j=>?_,by simpa using h1⟩
  cases j with
  |zero=>
   show LR base I β w _ v x
   by_cases ho:x.isOw=true
   ·rw[if_pos ⟨rfl,ho⟩];exact h
   ·rw[if_neg (by simp[ho])];exact h.other (by simpa using ho)
  |succ j=>simp only[fk,List.getD_nil,LR];exact .un _
 cases x<;>simp only[V.bcells] at hx<;>try cases hx
 ·exact one (.c _) rfl rfl rfl
 ·rename_i cs
  obtain⟨vs,rfl,h1,h2⟩:=h.agg
  refine⟨by simpa[Value.cells] using h1,fun j=>?_,fun u hu=>?_⟩
  ·rw[if_neg (by simp[V.isOw])]
   simp only[Value.cells]
   by_cases hj:j<cs.length
   ·have:((cs.map V.c).getD j .un)=.c cs[j]:=by simp[List.getD,hj]
    rw[this]
    exact .ofC (h2 j _ (ab hj))
   ·have:((cs.map V.c).getD j .un)=.un:=by simp[List.getD,bq (ec hj)]
    rw[this];simp only[LR];exact .un _
  ·obtain⟨j,hj,rfl⟩:=fq.1 hu
   simp only[Value.cells] at hj
   have:=(h2 j _ (ab (by omega))).oneCell
   simpa[Value.cells,ax hj,hj] using this
 ·exact one (.ow _ _) rfl rfl rfl
 ·exact one (.bp _ _) rfl rfl rfl
 ·exact one (.clo _ _ _) rfl rfl rfl
 ·exact one (.ms _ _ _ _ _) rfl rfl rfl
 ·simp only[LR] at h
  obtain⟨cells,rfl,h1,h2⟩:=h
  refine⟨by simpa[Value.cells] using h1,fun j=>?_,fun u hu=>?_⟩
  ·rw[if_neg (by simp[V.isOw])]
   simp only[Value.cells]
   by_cases hj:j<ds.length
   ·have:(ds.getD j .un)=ds[j]:=by simp[List.getD,hj]
    rw[this]
    exact(h2 j _ (ab hj)).toLR
   ·have:(ds.getD j .un)=.un:=by simp[List.getD,bq (ec hj)]
    rw[this];simp only[LR];exact .un _
  ·obtain⟨j,hj,rfl⟩:=fq.1 hu
   simp only[Value.cells] at hj
   have:=(h2 j _ (ab (by omega))).oneCell
   simpa[Value.cells,ax hj,hj] using this
 ·exact one (.mr _) rfl rfl rfl
 ·exact one (.yl _) rfl rfl rfl
 ·exact one (.hh _ _ _) rfl rfl rfl
 ·obtain⟨h1,h2⟩:=h.gs_one
  rw[h2]
  refine⟨rfl,fun j=>?_,by simpa using h1⟩
  cases j with
  |zero=>rw[if_pos ⟨rfl,rfl⟩];exact h
  |succ j=>simp only[fk,List.getD_nil,LR];exact .un _
 ·have hb:=h
  simp only[LR] at hb
  obtain⟨blk,e1,rfl⟩:=hb
  refine⟨rfl,fun j=>?_,by simp[Value.cells,Value.oneCell']⟩
  cases j with
  |zero=>rw[if_neg (by simp[V.isOw])];exact h.other rfl
  |succ j=>simp only[fk,List.getD_nil,LR];exact .un _
theorem Ek {ox:Option Nat} (h:LR base I β w ox v x) {ds:List V} (hx:x.bcells=some ds):∀ d∈ds,d.isMk=false:=by
 cases x<;>simp only[V.bcells] at hx<;>try cases hx
 ·simp[V.isMk]
 ·simp[V.isMk]
 ·simp[V.isMk]
 ·simp[V.isMk]
 ·simp[V.isMk]
 ·simp[V.isMk]
 ·simp only[LR] at h
  obtain⟨cells,rfl,h1,h2⟩:=h
  intro d hd
  obtain⟨j,hj,rfl⟩:=gG hd
  have:=h2 j _ (ab hj)
  cases hc:ds[j]<;>first | rfl | (rw[hc] at this;exact this.elim)
 ·simp[V.isMk]
 ·simp[V.isMk]
 ·simp[V.isMk]
 ·simp[V.isMk]
 ·simp[V.isMk]
theorem AN {l:List V} (h:∀ d∈l,d.isMk=false):bY l=false:=by
 cases l with
 |nil=>rfl
 |cons x l=>exact h x (by simp)
theorem QB {l ds:List V} {k:Nat} (h:bY l=false) (h2:∀ d∈ds,d.isMk=false) (hk:k≤l.length):bY (eS l k ds)=false:=by
 unfold bY eS at *
 cases k with
 |succ k=>cases l with
  |nil=>simp at hk
  |cons x l=>simpa using h
 |zero=>cases ds with
  |nil=>simpa using h
  |cons d ds=>exact h2 d (by simp)
theorem St.newBox (h:St G n I0 M w0 I β ob s a w) {cur:Array Value} {T:RT} {cs:List V} {od:Nat→Option Nat} (fC:cs.length≤cur.size) (hT:T.ok cur.size)
 (hc:∀ j,LR (Wr M w0) I β w (od j) (cur.getD j undef) (cs.getD j .un)) (h1:∀ u∈cur,u.oneCell'=true)
 (LG:∀ j b,od j=some b→(b<w.heap.size∧Wr M w0 b)∧(∀ L,ob L≠some b)∧∀ i,β i≠some b) (qa:∀ j j' b,od j=some b→od j'=some b→j=j') (kR:bY cs=false) :
 St G n I0 M w0 I (up β s.nb (some w.heap.size)) (fun L=>match L with | .b i j=>if i=s.nb then od j else ob (.b i j) | L=>ob L)
  { s with bx:=up s.bx s.nb cs,nb:=s.nb+1 } a (w.alloc (.cells cur T.t T.fz)):=by
 have hs:=h.allocOwn (.cells cur T.t T.fz)
 have hβ:∀ i b,β i=some b→up β s.nb (some w.heap.size) i=some b:=fun i b hi=>by
  have:i≠s.nb:=fun e=>by rw[h.bnone i (by omega)] at hi;cases hi
  rw[cF _ _ this];exact hi
 have j4:∀ (o':Option Nat),(∀ b,o'=some b→b<w.heap.size)→∀ b,o'=some b→(w.alloc (.cells cur T.t T.fz)).heap[b]?=w.heap[b]?∧∀ k,I b k→I b k:=fun o' ho b hb=>
  ⟨dY w _ b (ho b hb),fun _ h=>h⟩
 have hI:∀ b k,I b k→I b k∧(w.alloc (.cells cur T.t T.fz)).cell? ⟨b,k,none⟩=w.cell? ⟨b,k,none⟩:=fun b k hb=>⟨hb,dJ (a:=⟨b,k,none⟩) (dY w _ b (h.ibnd b k hb))⟩
 have sP:=h.fresh (ar _)
 exact {
  size:=h.size,defers:=h.defers,below:=hs.below,kept:=hs.kept,ilow:=h.ilow,ihigh:=h.ihigh,ibnd:=hs.ibnd
  fr:=fun t=>(h.fr t).mono hI hβ (j4 _ fun b hb=>(h.obnd _ b hb).1)
  bx:=fun i hi=>by
   by_cases jg:i=s.nb
   ·subst jg
    refine⟨w.heap.size,cur,by simp,.inl h.below.size,.of (fY w _) h1 hT (by simpa using kR),by simpa using fC,fun j=>?_,fun k hk=>?_⟩
    ·simp only[bT,dn]
     exact(hc j).mono hI hβ (j4 _ fun b hb=>(LG j b hb).1.1)
    ·have:=h.ibnd _ _ hk;omega
   ·obtain⟨blk,cur',e1,e2,e3,e4,e5,e7⟩:=h.bx i (by simp only at hi;omega)
    have bV:blk<w.heap.size:=e3.lt
    refine⟨blk,cur',hβ i blk e1,e2,by simpa only[cF _ _ jg] using e3.mono (dY w _ blk bV),by simpa only[cF _ _ jg] using e4,fun j=>?_,e7⟩
    simp only[cF _ _ jg,if_neg jg]
    exact(e5 j).mono hI hβ (j4 _ fun b hb=>(h.obnd _ b hb).1)
  bnone:=fun i hi=>by
   simp only at hi
   rw[cF _ _ (by omega)]
   exact h.bnone i (by omega)
  ext:=fun i b he=>hβ i b (h.ext i b he)
  bnew:=fun i b hi=>by
   by_cases h1:i=s.nb
   ·subst h1;rw[bT] at hi;cases hi;exact .inr (.inl h.below.size)
   ·rw[cF _ _ h1] at hi;exact h.bnew i b hi
  binj:=fun i j b hi hj=>by
   by_cases h1:i=s.nb<;>by_cases h2:j=s.nb
   ·rw[h1,h2]
   ·subst h1;rw[bT] at hi;cases hi;rw[cF _ _ h2] at hj;exact absurd hj (sP.2 j)
   ·subst h2;rw[bT] at hj;cases hj;rw[cF _ _ h1] at hi;exact absurd hi (sP.2 i)
   ·rw[cF _ _ h1] at hi;rw[cF _ _ h2] at hj;exact h.binj i j b hi hj
  oinj:=fun L L' b hL yA=>by
   have key:∀ L,(match L with | .b i j=>if i=s.nb then od j else ob (.b i j) | L=>ob L)=some b→(∃ j,L=.b s.nb j∧od j=some b)∨ob L=some b:=fun L hL=>by
    cases L with
    |t i=>exact .inr hL
    |b i j=>
     simp only at hL
     split at hL
     ·rename_i e;exact .inl ⟨j,by rw[e],hL⟩
     ·exact .inr hL
   rcases key L hL with⟨j,rfl,hj⟩ | h1<;>rcases key L' yA with⟨j',rfl,Z8⟩ | h2
   ·rw[qa j j' b hj Z8]
   ·exact absurd h2 ((LG j b hj).2.1 L')
   ·exact absurd h1 ((LG j' b Z8).2.1 L)
   ·exact h.oinj L L' b h1 h2
  obx:=fun L b i hL hi=>by
   have key:((∃ j,L=.b s.nb j∧od j=some b)∨ob L=some b):=by
    cases L with
    |t i=>exact .inr hL
    |b i' j=>
     simp only at hL
     split at hL
     ·rename_i e;exact .inl ⟨j,by rw[e],hL⟩
     ·exact .inr hL
   by_cases jg:i=s.nb
   ·subst jg;rw[bT] at hi;cases hi
    rcases key with⟨j,_,hj⟩ | hj
    ·have:=(LG j _ hj).1.1;omega
    ·exact sP.1 L hj
   ·rw[cF _ _ jg] at hi
    rcases key with⟨j,_,hj⟩ | hj
    ·exact(LG j b hj).2.2 i hi
    ·exact h.obx L b i hj hi
  obnd:=fun L b hL=>by
   have key:((∃ j,L=.b s.nb j∧od j=some b)∨ob L=some b):=by
    cases L with
    |t i=>exact .inr hL
    |b i' j=>
     simp only at hL
     split at hL
     ·rename_i e;exact .inl ⟨j,by rw[e],hL⟩
     ·exact .inr hL
   rw[dZ]
   rcases key with⟨j,_,hj⟩ | hj
   ·have:=(LG j b hj).1;exact⟨by omega,this.2⟩
   ·have:=h.obnd L b hj;exact⟨by omega,this.2⟩
  glob:=fun g cs hg=>(h.glob g cs hg).mono hI }
theorem HB.same {w:World} {blk:Nat} {c1 c2:Array Value} {l:List V} (hm:bY l=false) (h1:HB w blk c1 l) (h2:HB w blk c2 l):c1=c2:=by
 obtain⟨T1,e1,_⟩:=h1.cells hm
 obtain⟨T2,e2,_⟩:=h2.cells hm
 rw[e1] at e2
 simp only[ai,Obj.cells.injEq] at e2
 exact e2.1
theorem St.recell (h:St G n I0 M w0 I β ob s a w) {b k blk:Nat} {x x':V} (hb:b<s.nb) (hk:(s.bx b)[k]?=some x) (Uk:x.isMk=false) (Di:x'.isMk=false) (j4:ob (.b b k)=some blk)
 {w':World} (hg:w.grb w' (some blk)) (eQ:∀ o,I blk o→w'.cell? ⟨blk,o,none⟩=w.cell? ⟨blk,o,none⟩) {I':Ft} (h1:∀ b o,I b o→I' b o) (h2:∀ b o,I' b o→I b o∨b=blk)
 (Db:∀ b1 cur,β b=some b1→HB w b1 cur (s.bx b)→LR (Wr M w0) I β w (some blk) (cur.getD k undef) x→LR (Wr M w0) I' β w' (some blk) (cur.getD k undef) x') :
 St G n I0 M w0 I' β ob { s with bx:=up s.bx b ((s.bx b).set k x') } a w':=by
 have zp:=h.obnd _ _ j4
 have ou:=h.keeps hg (fun r e o ho=>by cases e;exact eQ o ho)
 have hI:∀ b o,I b o→I' b o∧w'.cell? ⟨b,o,none⟩=w.cell? ⟨b,o,none⟩:=fun b o hb=>⟨h1 b o hb,ou b o hb⟩
 have iH:∀ c,c≠blk→c<w.heap.size→w'.heap[c]?=w.heap[c]?∧∀ o,I' c o→I c o:=fun c hc bV=>by
  refine⟨hg.block c bV (by simpa using hc),fun o ho=>?_⟩
  rcases h2 c o ho with h5 | h5
  ·exact h5
  ·exact absurd h5 hc
 have w9:∀ L,L≠.b b k→∀ c,ob L=some c→w'.heap[c]?=w.heap[c]?∧∀ o,I' c o→I c o:=fun L hL c hc=>
  iH c (fun e=>hL (h.oinj _ _ blk (e▸hc) j4)) (h.obnd L c hc).1
 have pY:k<(s.bx b).length:=(ae.1 hk).1
 have ml:(s.bx b).getD k .un=x:=by simp[List.getD,hk]
 exact {
  size:=h.size,defers:=h.defers
  below:=h.below.grown hg (fun q e=>by cases e;exact zp.2)
  kept:=fun b o h0=>(ou b o (h.ilow b o h0)).trans (h.kept b o h0)
  ilow:=fun b o hb=>h1 b o (h.ilow b o hb)
  ihigh:=fun b o hb=>by
   rcases h2 b o hb with h3 | h3
   ·exact h.ihigh b o h3
   ·subst h3;exact .inr zp.2
  ibnd:=fun b o hb=>by
   rcases h2 b o hb with h3 | h3
   ·exact bW (h.ibnd b o h3) hg.size
   ·subst h3;exact bW zp.1 hg.size
  fr:=fun t=>(h.fr t).mono hI (fun _ _ e=>e) (w9 (.t t) (by simp))
  bx:=fun i hi=>by
   obtain⟨b1,cur,e1,e2,e3,e4,e5,e7⟩:=h.bx i hi
   have gK:b1≠blk:=fun e=>h.obx _ _ i j4 (e▸e1)
   obtain⟨q1,q2⟩:=iH b1 gK e3.lt
   by_cases qb:i=b
   ·subst qb
    refine⟨b1,cur,e1,e2,?_,by simp only[bT,fD];exact e4,fun j=>?_,fun o ho=>e7 o (q2 o ho)⟩
    ·simp only[bT]
     refine (e3.mono q1).congr (by simp) ?_
     by_cases xg:k=0
     ·subst xg
      have g1:((s.bx i).set 0 x').getD 0 .un=x':=by simp[List.getD,pY]
      rw[gC (by unfold bY;rw[g1];exact Di),gC (by unfold bY;rw[ml];exact Uk)]
     ·have:((s.bx i).set k x').getD 0 .un=(s.bx i).getD 0 .un:=by simp[List.getD,cV xg]
      unfold qG
      rw[this]
    ·simp only[bT]
     by_cases hjk:j=k
     ·subst hjk
      have:((s.bx i).set j x').getD j .un=x':=by simp[List.getD,pY]
      rw[this,j4]
      have h5:=e5 j
      rw[ml,j4] at h5
      exact Db b1 cur e1 e3 h5
     ·have:((s.bx i).set k x').getD j .un=(s.bx i).getD j .un:=by simp[List.getD,cV (gX hjk)]
      rw[this]
      exact(e5 j).mono hI (fun _ _ e=>e) (w9 (.b i j) (by simp[hjk]))
   ·refine⟨b1,cur,e1,e2,by simp only[cF _ _ qb];exact e3.mono q1,by simp only[cF _ _ qb];exact e4,fun j=>?_,fun o ho=>e7 o (q2 o ho)⟩
    simp only[cF _ _ qb]
    exact(e5 j).mono hI (fun _ _ e=>e) (w9 (.b i j) (by simp[qb]))
  bnone:=h.bnone,ext:=h.ext,bnew:=h.bnew,binj:=h.binj,oinj:=h.oinj,obx:=h.obx
  obnd:=fun L c q1=>⟨bW (h.obnd L c q1).1 hg.size,(h.obnd L c q1).2⟩
  glob:=fun g cs Z2=>(h.glob g cs Z2).mono hI }
theorem tI (w:World) (row:Option Nat):w.grb w row:=⟨rfl,rfl,rfl,ar _,fun _ _ _=>rfl,ar _⟩
theorem St.hotCell (h:St G n I0 M w0 I β ob s a w) {b k:Nat} {g:Option Value} {E:Option (TypeId×Nat)} {es:List (List C)} (hb:b<s.nb) (hk:(s.bx b)[k]?=some (.hh g E es)):∃ blk cur b1,ob (.b b k)=some blk∧β b=some b1∧HB w b1 cur (s.bx b)∧
 LR (Wr M w0) I β w (some blk) (cur.getD k undef) (.hh g E es):=by
 obtain⟨b1,cur,e1,e2,e3,e4,e5,e7⟩:=h.bx b hb
 have h5:=e5 k
 have ml:(s.bx b).getD k .un=.hh g E es:=by simp[List.getD,hk]
 rw[ml] at h5
 obtain⟨_,e,blk,cap,c2,sz,q1,_⟩:=h5.hot
 rw[q1] at h5
 exact⟨blk,cur,b1,q1,e1,e3,h5⟩
theorem St.name (h:St G n I0 M w0 I β ob s a w) {b k:Nat} {g:Option Value} {E:Option (TypeId×Nat)} {es:List (List C)} (hb:b<s.nb) (kR:bY (s.bx b)=false) (hk:(s.bx b)[k]?=some (.hh g E es)) :
 ∃ blk cap,St G n I0 M w0 I β ob (s.name b k (.slice (some ⟨blk,0,none⟩) es.length cap) E es) a w:=by
 obtain⟨blk,cur,b1,q1,q2,q3,q4⟩:=h.hotCell hb hk
 have q4':=q4
 obtain⟨_,e,sN,cap,c2,sz,r1,r2,r3,_⟩:=q4.hot
 cases r1
 refine⟨blk,cap,?_⟩
 exact h.recell hb hk rfl rfl q1 (tI w _) (fun _ _=>rfl) (fun _ _ h=>h) (fun _ _ h=>.inl h) fun b2 cur2 f1 f2 f3=>by
  rw[q2] at f1;cases f1
  cases q3.same kR f2
  exact⟨fun u hu=>by cases hu;exact r3,f3.hot.2⟩
theorem agq {es:List (List C)} {sz:Nat} (h:∀ x∈es,x.length=sz):∀ x∈es.map (·.map C.wk),x.length=sz:=fun x hx=>by
 obtain⟨y,hy,rfl⟩:=bA.1 hx
 rw[ak];exact h y hy
theorem CR.wk {I:Ft} {w:World} {v:Value} {c:C} (h:CR I w v c):CR I w v c.wk:=by
 cases c with
 |sx es=>exact h.sx_inv.1
 |_=>exact h
theorem aaL {es:List (List C)}:(es.map (·.map C.wk)).flatten=es.flatten.map C.wk:=by
 induction es with
 |nil=>rfl
 |cons x l ih=>simp only[br,cu,dA,ih]
theorem St.cool (h:St G n I0 M w0 I β ob s a w) {b k:Nat} {g:Option Value} {E:Option (TypeId×Nat)} {es:List (List C)} (hb:b<s.nb) (hk:(s.bx b)[k]?=some (.hh g E es)):SE G n I0 M w0 (s.cool b k E es) a w:=by
 obtain⟨blk,cur,b1,q1,q2,q3,q4⟩:=h.hotCell hb hk
 obtain⟨_,e,sN,cap,c2,sz,r1,r2,r3,r4,r5,r6,r7,r8,r9,r10,r11,r12⟩:=q4.hot
 cases r1
 refine⟨fun b' o=>I b' o∨(b'=blk∧o<es.length*sz),β,ob,h.recell hb hk rfl rfl q1 (tI w _) (fun _ _=>rfl) (fun _ _ h=>.inl h) (fun b' o h=>?_) fun b2 cur2 f1 f2 f3=>?_⟩
 ·rcases h with h | h
  ·exact .inl h
  ·exact .inr h.1
 ·obtain⟨_,e',blk2,cap',c3,sz',s1,s2,s3,s4,s5,s6,s7,s8,s9,s10,s11,s12⟩:=f3.hot
  cases s1
  rw[r2] at s2;cases s2
  rw[r5] at s5
  simp only[ai,Obj.cells.injEq] at s5
  obtain⟨rfl,_⟩:=s5
  rw[s3]
  have hwl:=agq r9
  have kU:(es.map (·.map C.wk)).flatten.length=es.length*sz:=by rw[bE _ hwl,ak]
  have jn:CR (fun b' o=>I b' o∨(b'=blk∧o<es.length*sz)) w (.slice (some ⟨blk,0,none⟩) es.length cap') (.sl (es.map (·.map C.wk))):=by
   have:=CR.row (I':=fun b' o=>I b' o∨(b'=blk∧o<es.length*sz)) (cap:=cap') (es:=es.map (·.map C.wk)) (sz:=sz) r5 (by rw[ak];exact s6) hwl (fun q c hq=>by
    rw[aaL,ba,aU] at hq
    obtain⟨c0,hc0,rfl⟩:=hq
    have h0:=(ae.1 hc0).1
    rw[bE _ r9] at h0
    have h1:=aL sz s6
    refine⟨by rw[s8];omega,((r10 q c0 hc0).wk).mono fun b o h=>⟨.inl h,rfl⟩⟩) (fun o ho=>.inr ⟨rfl,by rw[ak] at ho;exact ho⟩)
   rw[ak] at this
   exact this
  simp only[LR]
  refine⟨jn,.inr ⟨e,blk,cap',c2,sz,rfl,r2,by rw[ak],r4,r5,by rw[ak];exact s6,s7,s8,hwl,fun o ho=>?_⟩⟩
  rw[ak]
  rcases ho with ho | ho
  ·have h1:=r12 o ho
   exact bW h1 (aL _ (Nat.sub_le _ _))
  ·exact ho.2
theorem St.setBox (h:St G n I0 M w0 I β ob s a w) {i k blk:Nat} {cur:Array Value} {T:RT} {vs:List Value} {ds:List V} {od:Nat→Option Nat} (hi:i<s.nb) (hβ:β i=some blk)
 (gP:w.heap[blk]?=some (.cells cur T.t T.fz)) (hT:T.ok cur.size) (cn:vs.length=ds.length) (sO:k+ds.length≤(s.bx i).length)
 (hc:∀ j,LR (Wr M w0) I β w (od j) (vs.getD j undef) (ds.getD j .un)) (h1:∀ u∈vs,u.oneCell'=true)
 (LG:∀ j b,od j=some b→(b<w.heap.size∧Wr M w0 b)∧(∀ L,ob L≠some b)∧∀ i,β i≠some b) (qa:∀ j j' b,od j=some b→od j'=some b→j=j') (kR:bY (s.bx i)=false) (hmd:∀ d∈ds,d.isMk=false) :
 St G n I0 M w0 I β (fun L=>match L with | .b i' j=>if i'=i∧k≤j∧j<k+ds.length then od (j - k) else ob (.b i' j) | L=>ob L)
  { s with bx:=up s.bx i (eS (s.bx i) k ds) } a (w.setRow blk (cur.toList.take k++vs++cur.toList.drop (k+vs.length)).toArray):=by
 obtain⟨sN,cur',e1,e2,e3,e4,e5,e7⟩:=h.bx i hi
 obtain⟨T',e3,e6⟩:=e3.cells kR
 rw[hβ] at e1;cases e1
 rw[gP] at e3
 simp only[ai,Obj.cells.injEq] at e3
 obtain⟨rfl,_,_⟩:=e3
 have xb:blk<w.heap.size:=(bf.1 gP).1
 have kf:cur.toList.length=cur.size:=bK
 have hg:w.grb (w.setRow blk (cur.toList.take k++vs++cur.toList.drop (k+vs.length)).toArray) (some blk):=
  ⟨rfl,rfl,rfl,by simp,fun q _ hq=>jT w blk q _ (fun e=>hq (by rw[e])),ar _⟩
 have ou:=h.keeps hg (fun r e o ho=>by cases e;exact absurd ho (e7 o))
 have hI:∀ b q,I b q→I b q∧(w.setRow blk (cur.toList.take k++vs++cur.toList.drop (k+vs.length)).toArray).cell? ⟨b,q,none⟩=w.cell? ⟨b,q,none⟩:=fun b q hb=>⟨hb,ou b q hb⟩
 have j4:∀ (o':Option Nat),(∀ b,o'=some b→∀ i,β i≠some b)→∀ b,o'=some b→(w.setRow blk (cur.toList.take k++vs++cur.toList.drop (k+vs.length)).toArray).heap[b]?=w.heap[b]?∧∀ q,I b q→I b q:=
  fun o' ho b hb=>⟨jT w blk b _ (fun e=>ho b hb i (by rw[e];exact hβ)),fun _ h=>h⟩
 have key:∀ L b,(match L with | .b i' j=>if i'=i∧k≤j∧j<k+ds.length then od (j - k) else ob (.b i' j) | L=>ob L)=some b→
  (∃ j,L=.b i (k+j)∧od j=some b)∨ob L=some b:=fun L b hL=>by
  cases L with
  |t i=>exact .inr hL
  |b i' j=>
   simp only at hL
   split at hL
   ·rename_i e;exact .inl ⟨j - k,by rw[e.1];congr 1;omega,hL⟩
   ·exact .inr hL
 exact {
  size:=h.size,defers:=h.defers
  below:=h.below.grown hg (fun q e=>by cases e;exact e2)
  kept:=fun b o h0=>(ou b o (h.ilow b o h0)).trans (h.kept b o h0)
  ilow:=h.ilow,ihigh:=h.ihigh
  ibnd:=fun b q hb=>by simpa using h.ibnd b q hb
  fr:=fun t=>(h.fr t).mono hI (fun _ _ e=>e) (j4 _ fun b hb i=>h.obx _ b i hb)
  bx:=fun i' rQ=>by
   by_cases hii:i'=i
   ·subst hii
    refine⟨blk,_,hβ,e2,.of (lJ w blk cur _ T.t _ gP) (fun u hu=>?_) ?_ (by simpa only[bT] using QB kR hmd (by omega)),?_,fun j=>?_,e7⟩
    rotate_left
    ·have:(cur.toList.take k++vs++cur.toList.drop (k+vs.length)).toArray.size=cur.size:=by
      simp only[eJ,aj,aG,b9,kf];omega
     rw[this];exact hT
    ·simp only[bT,eS,eJ,aj,aG,b9,kf];omega
    ·have am5:((cur.toList.take k++vs++cur.toList.drop (k+vs.length)).toArray.getD j undef)=if k≤j∧j<k+ds.length then vs.getD (j - k) undef else cur.getD j undef:=by
      rw[ah,di]
      have zn:(cur.toList.take k).length=k:=by rw[aG,kf];omega
      by_cases ha:j<k
      ·rw[if_neg (by omega),bw,az (by omega),ck,if_pos ha,aO,← ah]
      ·by_cases hb:j<k+ds.length
       ·rw[if_pos ⟨by omega,hb⟩,bw,aF (by omega),zn,az (by omega),ay]
       ·rw[if_neg (by omega),aF (by rw[aj,zn];omega),cA,aj,zn,aO,
         show k+vs.length+(j - (k+vs.length))=j by omega,← ah]
     have am6:(eS (s.bx i') k ds).getD j .un=if k≤j∧j<k+ds.length then ds.getD (j - k) .un else(s.bx i').getD j .un:=by
      unfold eS
      rw[ay]
      have zn:((s.bx i').take k).length=k:=by rw[aG];omega
      by_cases ha:j<k
      ·rw[if_neg (by omega),bw,az (by omega),ck,if_pos ha,← ay]
      ·by_cases hb:j<k+ds.length
       ·rw[if_pos ⟨by omega,hb⟩,bw,aF (by omega),zn,az (by omega),ay]
       ·rw[if_neg (by omega),aF (by rw[aj,zn];omega),cA,aj,zn,
         show k+ds.length+(j - (k+ds.length))=j by omega,← ay]
     simp only[bT]
     rw[am5,am6]
     by_cases jg:k≤j∧j<k+ds.length
     ·rw[if_pos jg,if_pos jg,if_pos ⟨trivial,jg⟩]
      exact(hc (j - k)).mono hI (fun _ _ e=>e) (j4 _ fun b hb=>(LG _ b hb).2.2)
     ·rw[if_neg jg,if_neg jg,if_neg (fun e=>jg e.2)]
      exact(e5 j).mono hI (fun _ _ e=>e) (j4 _ fun b hb i=>h.obx _ b i hb)
    ·simp only[gk,aZ] at hu
     rcases hu with(hu | hu) | hu
     ·exact e6.1 u (by simpa using cU hu)
     ·exact h1 u hu
     ·exact e6.1 u (by simpa using cM hu)
   ·obtain⟨b2,c2,q1,q2,q3,q4,q5,q7⟩:=h.bx i' rQ
    have gK:b2≠blk:=fun e=>hii (h.binj i' i blk (by rw[← e];exact q1) hβ)
    refine⟨b2,c2,q1,q2,by simpa only[cF _ _ hii] using q3.mono (jT w blk b2 _ gK),by simpa only[cF _ _ hii] using q4,fun j=>?_,q7⟩
    simp only[cF _ _ hii]
    rw[if_neg (fun e=>hii e.1)]
    exact(q5 j).mono hI (fun _ _ e=>e) (j4 _ fun b hb i=>h.obx _ b i hb)
  bnone:=h.bnone,ext:=h.ext,bnew:=h.bnew,binj:=h.binj
  oinj:=fun L L' b hL yA=>by
   rcases key L b hL with⟨j,rfl,hj⟩ | h1<;>rcases key L' b yA with⟨j',rfl,Z8⟩ | h2
   ·rw[qa j j' b hj Z8]
   ·exact absurd h2 ((LG j b hj).2.1 L')
   ·exact absurd h1 ((LG j' b Z8).2.1 L)
   ·exact h.oinj L L' b h1 h2
  obx:=fun L b q hL=>by
   rcases key L b hL with⟨j,_,hj⟩ | hj
   ·exact(LG j b hj).2.2 q
   ·exact h.obx L b q hj
  obnd:=fun L b hL=>by
   rw[size_setRow]
   rcases key L b hL with⟨j,_,hj⟩ | hj
   ·exact(LG j b hj).1
   ·exact h.obnd L b hj
  glob:=fun g cs Z2=>(h.glob g cs Z2).mono hI }
theorem St.boxblk (hst:St G n I0 M w0 I β ob s a w) {i b:Nat} (h:β i=some b):i<s.nb∧Wr M w0 b∧b<w.heap.size:=by
 by_cases hi:i<s.nb
 ·obtain⟨blk,cur,e1,e2,e3,_⟩:=hst.bx i hi
  rw[h] at e1;cases e1
  exact⟨hi,e2,e3.lt⟩
 ·rw[hst.bnone i (by omega)] at h;cases h
end
section
variable {P:Program} {G:Gl} {tr:List Nat} {n:Nat} {I0:Ft} {M:Mx} {w0:World} {I:Ft} {β:Nat→Option Nat} {ob:Loc→Option Nat} {s:S} {a:Act} {w:World} {o:Oper}
 {next:Act→World→Prop} {Q:Exit→Act→World→Prop} {base:Nat→Prop} {v:Value} {x y:V}
def World.putObj (w:World) (r:Nat) (o:Obj):World:={ w with heap:=w.heap.setIfInBounds r o }
theorem nZ {r:Nat} {o:Obj} (h:r<w.heap.size):(World.putObj w r o).heap[r]?=some o:=by simp[World.putObj,h]
theorem o0 {r q:Nat} {o:Obj} (h:q≠r):(World.putObj w r o).heap[q]?=w.heap[q]?:=by simp[World.putObj,gX h]
theorem putObj_size {r:Nat} {o:Obj}:(World.putObj w r o).heap.size=w.heap.size:=by simp[World.putObj]
theorem o5 (r:Nat) (o:Obj):w.grb (World.putObj w r o) (some r):=
 ⟨rfl,rfl,rfl,by simp[World.putObj],fun q _ hq=>o0 (fun e=>hq (by rw[e])),ar _⟩
theorem St.reBox (h:St G n I0 M w0 I β ob s a w) {i blk:Nat} {o:Obj} {cur:Array Value} {l:List V} (hi:i<s.nb) (hβ:β i=some blk)
 (hHB:HB (World.putObj w blk o) blk cur l) (hl:l.length≤cur.size) {od:Nat→Option Nat} (hc:∀ j,LR (Wr M w0) I β w (od j) (cur.getD j undef) (l.getD j .un))
 (LG:∀ j b,od j=some b→ob (.b i j)=some b) :
 St G n I0 M w0 I β (fun L=>match L with | .b i' j=>if i'=i then od j else ob (.b i' j) | L=>ob L) { s with bx:=up s.bx i l } a (World.putObj w blk o):=by
 obtain⟨sN,cur',e1,e2,e3,e4,e5,e7⟩:=h.bx i hi
 rw[hβ] at e1;cases e1
 have xb:blk<w.heap.size:=e3.lt
 have hg:=o5 (w:=w) blk o
 have ou:=h.keeps hg (fun r e o ho=>by cases e;exact absurd ho (e7 o))
 have hI:∀ b q,I b q→I b q∧(World.putObj w blk o).cell? ⟨b,q,none⟩=w.cell? ⟨b,q,none⟩:=fun b q hb=>⟨hb,ou b q hb⟩
 have j4:∀ (o':Option Nat),(∀ b,o'=some b→∀ i,β i≠some b)→∀ b,o'=some b→(World.putObj w blk o).heap[b]?=w.heap[b]?∧∀ q,I b q→I b q:=
  fun o' ho b hb=>⟨o0 (fun e=>ho b hb i (by rw[e];exact hβ)),fun _ h=>h⟩
 have key:∀ L b,(match L with | .b i' j=>if i'=i then od j else ob (.b i' j) | L=>ob L)=some b→ob L=some b:=fun L b hL=>by
  cases L with
  |t i=>exact hL
  |b i' j=>
   simp only at hL
   split at hL
   ·rename_i e;rw[e];exact LG j b hL
   ·exact hL
 exact {
  size:=h.size,defers:=h.defers
  below:=h.below.grown hg (fun q e=>by cases e;exact e2)
  kept:=fun b o h0=>(ou b o (h.ilow b o h0)).trans (h.kept b o h0)
  ilow:=h.ilow,ihigh:=h.ihigh
  ibnd:=fun b q hb=>by rw[putObj_size];exact h.ibnd b q hb
  fr:=fun t=>(h.fr t).mono hI (fun _ _ e=>e) (j4 _ fun b hb i=>h.obx _ b i hb)
  bx:=fun i' rQ=>by
   by_cases hii:i'=i
   ·subst hii
    refine⟨blk,cur,hβ,e2,by simpa only[bT] using hHB,by simpa only[bT] using hl,fun j=>?_,e7⟩
    simp only[bT,dn]
    exact(hc j).mono hI (fun _ _ e=>e) (j4 _ fun b hb q=>h.obx _ b q (LG j b hb))
   ·obtain⟨b2,c2,q1,q2,q3,q4,q5,q7⟩:=h.bx i' rQ
    have gK:b2≠blk:=fun e=>hii (h.binj i' i blk (by rw[← e];exact q1) hβ)
    refine⟨b2,c2,q1,q2,by simpa only[cF _ _ hii] using q3.mono (o0 gK),by simpa only[cF _ _ hii] using q4,fun j=>?_,q7⟩
    simp only[cF _ _ hii,if_neg hii]
    exact(q5 j).mono hI (fun _ _ e=>e) (j4 _ fun b hb i=>h.obx _ b i hb)
  bnone:=h.bnone,ext:=h.ext,bnew:=h.bnew,binj:=h.binj
  oinj:=fun L L' b hL yA=>h.oinj L L' b (key L b hL) (key L' b yA)
  obx:=fun L b q hL=>h.obx L b q (key L b hL)
  obnd:=fun L b hL=>by rw[putObj_size];exact h.obnd L b (key L b hL)
  glob:=fun g cs Z2=>(h.glob g cs Z2).mono hI }
theorem QC {es:List MapEntry} {r:List V} {bs:List Nat} {cl:Nat} {od:Nat→Option Nat} (hr:r.length=2*es.length)
 (h:∀ (j:Nat) (e:MapEntry),es[j]?=some e→LR base I β w (od (2*j+1)) e.key (r.getD (2*j) .un)∧LR base I β w (od (2*j+2)) e.val (r.getD (2*j+1) .un)) (j:Nat) :
 LR base I β w (od j) ((undef::lx es).toArray.getD j undef) ((V.mk bs cl::r).getD j .un):=by
 have hg:∀ q,(undef::lx es).toArray.getD (q+1) undef=((lx es)[q]?).getD undef:=fun q=>by
  simp
 cases j with
 |zero=>simp[LR]
 |succ q=>
  rw[hg]
  simp only[fk]
  by_cases hq:q<r.length
  ·have bV:q / 2<es.length:=by omega
   obtain⟨l1,l2⟩:=h (q / 2) _ (ab bV)
   obtain⟨c1,c2⟩:=rW es (q / 2) _ (ab bV)
   rcases Nat.mod_two_eq_zero_or_one q with hm | hm
   ·have e:2*(q / 2)=q:=by omega
    rw[e] at l1 c1
    rw[c1];exact l1
   ·have e:2*(q / 2)+1=q:=by omega
    rw[show 2*(q / 2)+2=2*(q / 2)+1+1 by omega,e] at l2
    rw[e] at c2
    rw[c2];exact l2
  ·have:r.getD q .un=.un:=by simp[List.getD,bq (ec hq)]
   rw[this];simp only[LR];exact .un _
theorem St.reMap (h:St G n I0 M w0 I β ob s a w) {i cl blk:Nat} {bs:List Nat} {r:List V} {es:Array MapEntry} (hm:UX P I M w0 β ob s w i bs cl r blk es) {es':Array MapEntry} {cl':Nat} {bs':List Nat} {r':List V}
 (hb:es'.toList.map (·.born)=bs') (hr:r'.length=2*bs'.length) {od:Nat→Option Nat} (LG:∀ j b,od j=some b→ob (.b i j)=some b)
 (apt:∀ (j:Nat) (e:MapEntry),es'.toList[j]?=some e→LR (Wr M w0) I β w (od (2*j+1)) e.key (r'.getD (2*j) .un)∧LR (Wr M w0) I β w (od (2*j+2)) e.val (r'.getD (2*j+1) .un)) :
 ∃ ob',St G n I0 M w0 I β ob' { s with bx:=up s.bx i (.mk bs' cl'::r') } a (World.putObj w blk (.map es' cl')):=by
 have bV:blk<w.heap.size:=(bf.1 hm.heap).1
 have cn:es'.toList.length=bs'.length:=by rw[← hb,ak]
 refine⟨_,h.reBox (cur:=(undef::lx es'.toList).toArray) (od:=od) hm.lt hm.bt ?_ ?_ (fun j=>QC (by omega) apt j) LG⟩
 ·unfold HB
  have:qG (V.mk bs' cl'::r')=some (.mp bs' cl'):=rfl
  rw[this]
  exact⟨es',nZ bV,hb,rfl,by simp[hr];omega⟩
 ·simp[xw,cn,hr]
theorem tJ {l:List V} {i j:Nat} {x:V} (h:i≠j):(l.set i x).getD j .un=l.getD j .un:=by
 simp[List.getD,List.getElem?_set,h]
theorem DD {l:List V} {i:Nat} {x:V} (h:i<l.length):(l.set i x).getD i .un=x:=by
 simp[List.getD,h]
theorem St.newMap (h:St G n I0 M w0 I β ob s a w) :
 St G n I0 M w0 I (up β s.nb (some w.heap.size)) (fun L=>match L with | .b i j=>if i=s.nb then none else ob (.b i j) | L=>ob L)
  { s with bx:=up s.bx s.nb [.mk [] 0],nb:=s.nb+1 } a (w.alloc (.map #[] 0)):=by
 have hs:=h.allocOwn (.map #[] 0)
 have hβ:∀ i b,β i=some b→up β s.nb (some w.heap.size) i=some b:=fun i b hi=>by
  have:i≠s.nb:=fun e=>by rw[h.bnone i (by omega)] at hi;cases hi
  rw[cF _ _ this];exact hi
 have j4:∀ (o':Option Nat),(∀ b,o'=some b→b<w.heap.size)→∀ b,o'=some b→(w.alloc (.map #[] 0)).heap[b]?=w.heap[b]?∧∀ k,I b k→I b k:=fun o' ho b hb=>
  ⟨dY w _ b (ho b hb),fun _ h=>h⟩
 have hI:∀ b k,I b k→I b k∧(w.alloc (.map #[] 0)).cell? ⟨b,k,none⟩=w.cell? ⟨b,k,none⟩:=fun b k hb=>⟨hb,dJ (a:=⟨b,k,none⟩) (dY w _ b (h.ibnd b k hb))⟩
 have sP:=h.fresh (ar _)
 have key:∀ L b,(match L with | .b i j=>if i=s.nb then none else ob (.b i j) | L=>ob L)=some b→ob L=some b:=fun L b hL=>by
  cases L with
  |t i=>exact hL
  |b i j=>
   simp only at hL
   split at hL
   ·cases hL
   ·exact hL
 exact {
  size:=h.size,defers:=h.defers,below:=hs.below,kept:=hs.kept,ilow:=h.ilow,ihigh:=h.ihigh,ibnd:=hs.ibnd
  fr:=fun t=>(h.fr t).mono hI hβ (j4 _ fun b hb=>(h.obnd _ b hb).1)
  bx:=fun i hi=>by
   by_cases jg:i=s.nb
   ·subst jg
    refine⟨w.heap.size,#[undef],by simp,.inl h.below.size,?_,by simp,fun j=>?_,fun k hk=>?_⟩
    ·simp only[bT]
     exact⟨#[],fY w _,rfl,rfl,rfl⟩
    ·simp only[bT,dn]
     cases j with
     |zero=>simp[LR]
     |succ j=>simp only[fk,List.getD_nil,LR];exact .un _
    ·have:=h.ibnd _ _ hk;omega
   ·obtain⟨blk,cur',e1,e2,e3,e4,e5,e7⟩:=h.bx i (by simp only at hi;omega)
    have bV:blk<w.heap.size:=e3.lt
    refine⟨blk,cur',hβ i blk e1,e2,by simpa only[cF _ _ jg] using e3.mono (dY w _ blk bV),by simpa only[cF _ _ jg] using e4,fun j=>?_,e7⟩
    simp only[cF _ _ jg,if_neg jg]
    exact(e5 j).mono hI hβ (j4 _ fun b hb=>(h.obnd _ b hb).1)
  bnone:=fun i hi=>by
   simp only at hi
   rw[cF _ _ (by omega)]
   exact h.bnone i (by omega)
  ext:=fun i b he=>hβ i b (h.ext i b he)
  bnew:=fun i b hi=>by
   by_cases h1:i=s.nb
   ·subst h1;rw[bT] at hi;cases hi;exact .inr (.inl h.below.size)
   ·rw[cF _ _ h1] at hi;exact h.bnew i b hi
  binj:=fun i j b hi hj=>by
   by_cases h1:i=s.nb<;>by_cases h2:j=s.nb
   ·rw[h1,h2]
   ·subst h1;rw[bT] at hi;cases hi;rw[cF _ _ h2] at hj;exact absurd hj (sP.2 j)
   ·subst h2;rw[bT] at hj;cases hj;rw[cF _ _ h1] at hi;exact absurd hi (sP.2 i)
   ·rw[cF _ _ h1] at hi;rw[cF _ _ h2] at hj;exact h.binj i j b hi hj
  oinj:=fun L L' b hL yA=>h.oinj L L' b (key L b hL) (key L' b yA)
  obx:=fun L b i hL hi=>by
   by_cases jg:i=s.nb
   ·subst jg;rw[bT] at hi;cases hi
    exact sP.1 L (key L _ hL)
   ·rw[cF _ _ jg] at hi
    exact h.obx L b i (key L b hL) hi
  obnd:=fun L b hL=>by
   rw[dZ]
   have:=h.obnd L b (key L b hL);exact⟨by omega,this.2⟩
  glob:=fun g cs hg=>(h.glob g cs hg).mono hI }
theorem Em (hst:St G n I0 M w0 I β ob s a w) {i cl blk j:Nat} {bs:List Nat} {r:List V} {es:Array MapEntry} (hm:UX P I M w0 β ob s w i bs cl r blk es) {e:MapEntry} (he:es.toList[j]?=some e)
 {vv:Value} (hv:LR (Wr M w0) I β w none vv y) {f:MapEntry→MapEntry} (hf:f e={ e with val:=vv }) :
 ∃ ob',St G n I0 M w0 I β ob' { s with bx:=up s.bx i (.mk bs cl::r.set (2*j+1) y) } a (World.putObj w blk (.map (es.modify j f) cl)):=by
 have hj:j<es.toList.length:=(ae.1 he).1
 have Ux:es.toList.length=bs.length:=by rw[← hm.born,ak]
 have oK:∀ q,(es.modify j f).toList[q]?=if q=j then some { e with val:=vv } else es.toList[q]?:=fun q=>by
  rw[Array.toList_modify,List.getElem?_modify]
  by_cases hq:j=q
  ·subst hq;simp[he,hf]
  ·simp[hq,gX hq]
 refine hst.reMap hm (es':=es.modify j f) (bs':=bs) (cl':=cl) (od:=fun q=>if q=2*j+2 then none else ob (.b i q)) ?_ (by rw[fD];exact hm.len) (fun q b hq=>by split at hq;cases hq;exact hq) fun q e' hq=>?_
 ·rw[← hm.born]
  apply fP
  intro q
  rw[ba,ba,oK]
  by_cases hq:q=j
  ·subst hq;simp only[dn,he,cD]
  ·rw[if_neg hq]
 ·rw[oK] at hq
  by_cases hqj:q=j
  ·subst hqj
   simp only[dn,ai] at hq;subst hq
   obtain⟨l1,_⟩:=hm.ent q e he
   refine⟨?_,?_⟩
   ·rw[tJ (by omega),if_neg (by omega)];exact l1
   ·rw[DD (by have:=hm.len;omega),if_pos rfl];exact hv
  ·rw[if_neg hqj] at hq
   obtain⟨l1,l2⟩:=hm.ent q e' hq
   refine⟨?_,?_⟩
   ·rw[tJ (by omega),if_neg (by omega)];exact l1
   ·rw[tJ (by omega),if_neg (by omega)];exact l2
theorem wj (hst:St G n I0 M w0 I β ob s a w) {i cl blk:Nat} {bs:List Nat} {r:List V} {es:Array MapEntry} (hm:UX P I M w0 β ob s w i bs cl r blk es)
 {vk vv:Value} (hk:LR (Wr M w0) I β w none vk x) (hv:LR (Wr M w0) I β w none vv y) :
 ∃ ob',St G n I0 M w0 I β ob' { s with bx:=up s.bx i (.mk (bs++[cl]) (cl+1)::(r++[x,y])) } a (World.putObj w blk (.map (es.push { key:=vk,val:=vv,born:=cl }) (cl+1))):=by
 have Ux:es.toList.length=bs.length:=by rw[← hm.born,ak]
 have cn:=hm.len
 refine hst.reMap hm (es':=es.push { key:=vk,val:=vv,born:=cl }) (bs':=bs++[cl]) (cl':=cl+1) (od:=fun q=>if q<1+r.length then ob (.b i q) else none) (by simp[hm.born]) (by simp[cn];omega)
  (fun q b hq=>by split at hq;exact hq;cases hq) fun q e' hq=>?_
 rw[Array.toList_push] at hq
 by_cases hqj:q<es.toList.length
 ·rw[az hqj] at hq
  obtain⟨l1,l2⟩:=hm.ent q e' hq
  have g:∀ p,p<r.length→(r++[x,y]).getD p .un=r.getD p .un:=fun p hp=>by simp[List.getD,az hp]
  refine⟨?_,?_⟩
  ·rw[g _ (by omega),if_pos (by omega)];exact l1
  ·rw[g _ (by omega),if_pos (by omega)];exact l2
 ·rw[aF (by omega)] at hq
  have hq0:q - es.toList.length=0:=by have:=(ae.1 hq).1;simp at this;omega
  rw[hq0] at hq
  simp only[bJ,ai] at hq;subst hq
  have e1:2*q=r.length:=by omega
  refine⟨?_,?_⟩
  ·rw[if_neg (by omega),e1]
   have:(r++[x,y]).getD r.length .un=x:=by simp[List.getD]
   rw[this];exact hk
  ·rw[if_neg (by omega),e1]
   have:(r++[x,y]).getD (r.length+1) .un=y:=by simp[List.getD]
   rw[this];exact hv
theorem aaM {I:Ft} {w:World} {u1 u2:Value} {d1 d2:V} (h1:DR I w u1 d1) (h2:DR I w u2 d2):DR I w (.tuple #[u1,u2]) (.tup [d1,d2]):=by
 refine .tup _ _ rfl fun q d hd=>?_
 match q with
 |0=>simp at hd;subst hd;exact h1
 |1=>simp at hd;subst hd;exact h2
 |q+2=>simp at hd
theorem vN {T:TypeId} {k z:V} {K:S→Prop} {vx vk vv:Value} {ox oy oz:Option Nat} (hst:St G n I0 M w0 I β ob s a w) (h:gV P T s x k z K)
 (hx:LR (Wr M w0) I β w ox vx x) (hy:LR (Wr M w0) I β w oy vk k) (hz:LR (Wr M w0) I β w oz vv z) :
 ∃ s' ob' w',K s'∧(Instr.mapUpdate T vx vk vv).run P w=.ok () w'∧St G n I0 M w0 I β ob' s' a w':=by
 unfold gV at h
 obtain⟨i,bs,cl,r,res,z0,blk,kt,et,es,zv,hK,rfl,rfl,hm,hu,vG,D5,vF,hz1,hz2⟩:=oZ hst h hx hy
 have hg:=fc (P:=P) hm.heap
 cases res with
 |some j=>
  obtain⟨e,he,HY,LH⟩:=vF j rfl
  simp only[cD,he,cG] at D5
  obtain⟨ob',cy⟩:=Em hst hm he (hz.fz none) (f:=fun e=>{ e with key:=vk,val:=vv }) (by rw[HY])
  have he':es[j]?=some e:=by rw[← aO];exact he
  refine⟨_,ob',_,hK,?_,cy⟩
  simp[Instr.mapUpdate,aP hu,hg,vG,D5,he',LH,fK _ hm.heap,Result.andThen,World.putObj]
 |none=>
  simp only[kS] at D5
  obtain⟨ob',cy⟩:=wj hst hm (hy.fz none) (hz.fz none)
  refine⟨_,ob',_,hK,?_,cy⟩
  simp[Instr.mapUpdate,aP hu,hg,vG,D5,fK _ hm.heap,Result.andThen,World.putObj]
theorem Ak {T:TypeId} {k:V} {K:S→V→Prop} {vx vk:Value} {ox oy:Option Nat} (hst:St G n I0 M w0 I β ob s a w) (h:fQ P T s x k K)
 (hx:LR (Wr M w0) I β w ox vx x) (hy:LR (Wr M w0) I β w oy vk k) :
 ∃ s' ob' w' z u,K s' z∧(Instr.mapEntry T vx vk).run P w=.ok u w'∧St G n I0 M w0 I β ob' s' a w'∧LR (Wr M w0) I β w' none u z:=by
 unfold fQ at h
 obtain⟨i,bs,cl,r,res,z0,blk,kt,et,es,zv,hK,rfl,rfl,hm,hu,vG,D5,vF,hz1,hz2⟩:=oZ hst h hx hy
 have hg:=fc (P:=P) hm.heap
 have hI:∀ (o':Obj) b o,I b o→I b o∧(World.putObj w blk o').cell? ⟨b,o,none⟩=w.cell? ⟨b,o,none⟩:=fun o' b o hb=>
  ⟨hb,hst.keeps (o5 blk o') (fun r e o ho=>by cases e;exact absurd ho (hm.fr o)) b o hb⟩
 cases res with
 |some j=>
  obtain⟨e,he,HY,LH⟩:=vF j rfl
  simp only[cD,he,cG] at D5
  obtain⟨l1,l2⟩:=hm.ent j e he
  have he':es[j]?=some e:=by rw[← aO];exact he
  have hbj:bs.getD j 0=e.born:=by rw[← hm.born];simp[List.getD,he]
  have hr:(r.set (2*j+1) (r.getD (2*j+1) .un))=r:=by
   apply fP
   intro q
   rw[List.getElem?_set]
   split
   ·rename_i e;subst e
    split
    ·rename_i hl;simp[List.getD,hl]
    ·rename_i hl;rw[bq (by omega)]
   ·rfl
  have ot:up s.bx i (V.mk bs cl::r)=s.bx:=by rw[← hm.bx];exact rS _ _
  have cy:∃ ob',St G n I0 M w0 I β ob' s a (World.putObj w blk (.map (es.modify j fun e=>{ e with key:=vk }) cl)):=by
   have oK:∀ q,(es.modify j fun e=>{ e with key:=vk }).toList[q]?=es.toList[q]?:=fun q=>by
    rw[Array.toList_modify,List.getElem?_modify]
    by_cases hq:j=q
    ·subst hq;rw[he,← HY];simp
    ·cases es.toList[q]?<;>simp[hq]
   have hl:(es.modify j fun e=>{ e with key:=vk })=es:=da (fP oK)
   rw[hl]
   obtain⟨ob',h'⟩:=hst.reMap hm (es':=es) (bs':=bs) (cl':=cl) (r':=r) (od:=fun q=>ob (.b i q)) hm.born hm.len (fun _ _ h=>h) hm.ent
   rw[ot] at h'
   exact⟨ob',h'⟩
  obtain⟨ob',cy⟩:=cy
  refine⟨s,ob',_,_,.tuple #[e.val,.int .i64 e.born],hK,?_,cy,?_⟩
  ·simp[Instr.mapEntry,aP hu,hg,vG,D5,he',LH,fK _ hm.heap,Result.andThen,World.putObj,goInt]
  ·simp only[LR]
   rw[hbj]
   exact(aaM (vM l2) (.c _ _ (.lit _ rfl))).mono (hI _)
 |none=>
  simp only[kS] at D5
  obtain⟨ob',cy⟩:=wj hst hm (hy.fz none) hz2
  refine⟨_,ob',_,_,.tuple #[zv,.int .i64 cl],hK,?_,cy,?_⟩
  ·simp[Instr.mapEntry,aP hu,hg,vG,D5,hz1,fK _ hm.heap,Result.andThen,World.putObj,goInt]
  ·simp only[LR]
   exact(aaM (vM hz2) (.c _ _ (.lit _ rfl))).mono (hI _)
theorem ME {es:List MapEntry} {m:Int} {j:Nat} (h:(es.map (·.born)).findIdx? (fun(b:Nat)=>(b:Int)==m)=some j):∃ e,es[j]?=some e∧es.findIdx? (fun e=>(e.born:Int)==m)=some j:=by
 have h1:es.findIdx? (fun e=>(e.born:Int)==m)=some j:=by
  rw[List.findIdx?_map] at h;exact h
 have bV:j<es.length:=by
  have:=eG.1 h1
  exact this.1
 exact⟨_,ab bV,h1⟩
theorem Am {T:TypeId} {k z:V} {K:S→Prop} {vx vk vv:Value} {ox oy oz:Option Nat} (hst:St G n I0 M w0 I β ob s a w) (h:fG s x k z K)
 (hx:LR (Wr M w0) I β w ox vx x) (hy:LR (Wr M w0) I β w oy vk k) (hz:LR (Wr M w0) I β w oz vv z) :
 ∃ s' ob' w',K s'∧(Instr.entryStore T vx vk vv).run P w=.ok () w'∧St G n I0 M w0 I β ob' s' a w':=by
 unfold fG at h
 split at h
 ·rename_i i ik m
  split at h
  ·rename_i bs cl r hb
   split at h
   ·rename_i j hj
    obtain⟨hi,hK⟩:=h
    simp only[LR] at hx
    obtain⟨blk,hβ,rfl⟩:=hx
    obtain⟨es,hm⟩:=hst.mapW (P:=P) hi hb hβ
    have hg:=fc (P:=P) hm.heap
    have:=hy.lit
    subst this
    rw[← hm.born] at hj
    obtain⟨e,he,hf⟩:=ME hj
    have H4:es.findIdx? (fun e=>(e.born:Int)==m)=some j:=by rw[show es=es.toList.toArray by simp,List.findIdx?_toArray];exact hf
    obtain⟨ob',cy⟩:=Em hst hm he (hz.fz none) (f:=fun e=>{ e with val:=vv }) rfl
    refine⟨_,ob',_,hK,?_,cy⟩
    simp[Instr.entryStore,hg,H4,asInt,asIntOf,fK _ hm.heap,Result.andThen,World.putObj]
   ·exact h.elim
  ·exact h.elim
 ·exact h.elim
theorem UY {t:Nat} {u:Value} (h:a.tmps.getD t undef=u) (ht:t<a.tmps.size):a.put (some t) u=a:=by
 have:a.tmps.setIfInBounds t u=a.tmps:=by
  apply mL (by simp)
  intro i h1 h2
  rw[gq]
  split
  ·rename_i e;subst e;rw[← h];simp[ht]
  ·rfl
 simp only[Act.put,this]
theorem Iw {t:Nat} {ty:TypeId} {K:Option V→V→Prop} (hst:St G n I0 M w0 I β ob s a w) (hd:∀ d,o.dst=some d→d<n) (h:Eb s (s.fr t) K) :
 ∃ it z u w',K it z∧(Instr.next (a.tmps.getD t undef) false ty).run P w=.ok u w'∧SE G n I0 M w0 ((match it with | some x=>{ s with fr:=up s.fr t x } | none=>s:S).put o.dst z) (a.put o.dst u) w':=by
 unfold Eb at h
 have hx:=hst.fr t
 split at h
 ·rename_i i since stepped seen sP
  rw[sP] at hx
  split at h
  ·rename_i bs cl r hb
   obtain⟨⟨hi,hsc,vE⟩,afn,Qb⟩:=h
   simp only[LR] at hx
   obtain⟨blk,m,tw,zq,hβ,hv,hh,hni⟩:=hx
   obtain⟨es,hm⟩:=hst.mapW (P:=P) hi hb hβ
   rw[hv]
   rcases run_next_at (P:=P) w ty blk m since stepped seen.toArray es cl hh hm.heap (fun x hx=>vE _ (by rw[← hm.born];exact bA.2 ⟨x,hx,rfl⟩)) hsc with⟨h0,bH⟩ | ⟨e,he,w1,Ae,bH⟩
   ·refine⟨none,_,_,_,afn fun b hbm=>?_,bH,?_⟩
    ·rw[← hm.born] at hbm
     obtain⟨x,Uk,rfl⟩:=bA.1 hbm
     have:=Array.size_eq_zero_iff.1 h0
     unfold leftOf at this
     rw[Array.filter_eq_empty_iff] at this
     have h2:=this x (by simpa using Uk)
     simpa using h2
    ·cases lF:o.dst with
     |none=>exact⟨_,_,_,hst⟩
     |some d=>
      exact⟨_,_,_,hst.put d (hd d lF) (o:=none) (by
       simp only[LR]
       refine .tup _ _ rfl fun q x hq=>?_
       match q with
       |0=>simp at hq;subst hq;exact .c _ _ (.lit _ rfl)
       |q+1=>simp at hq) FreeOb.nothing⟩
   ·have jE:e∈es.toList∧e.born∉seen:=by
     unfold leftOf at he
     simp only[Array.toList_filter,gb] at he
     exact⟨he.1,by simpa using he.2⟩
    obtain⟨j,hj⟩:=List.getElem?_of_mem jE.1
    obtain⟨l1,l2⟩:=hm.ent j e hj
    have hbj:bs[j]?=some e.born:=by rw[← hm.born,ba,hj];rfl
    refine⟨_,_,_,_,Qb j e.born hbj jE.2,bH,?_⟩
    have nP:St G n I0 M w0 I β ob s a w1:=by rcases Ae with rfl | rfl;exact hst;exact hst.drew
    have gP:w1.heap=w.heap:=by rcases Ae with rfl | rfl<;>rfl
    have fC:t<a.tmps.size:=by
     by_cases ht:t<a.tmps.size
     ·exact ht
     ·exfalso
      have:a.tmps.getD t undef=undef:=by simp[c9 (ec ht)]
      rw[this] at hv
      cases hv
    have xb:blk<w1.heap.size:=by rw[gP];exact(hst.obnd _ _ tw).1
    have hc:=nP.clr t
    have hL:∀ L,upL ob (.t t) none L≠some blk:=fun L hL=>by
     simp only[upL] at hL
     split at hL
     ·cases hL
     ·rename_i gK;exact gK (hst.oinj _ _ blk hL tw)
    have hβn:∀ q,β q≠some blk:=fun q hq=>hst.obx _ blk q tw hq
    have hg:=hc.growRow (I':=I) (o5 (w:=w1) blk (.mapIter (some m) since (seen.toArray.push e.born) cl)) zq (fun o ho=>absurd ho (hni o)) hL hβn (fun _ _ h=>h) (fun _ _ h=>.inl h) (by rw[putObj_size];exact xb)
    have hp:=hg.put t (by rw[← hst.size];exact fC) (v:=.pointer (some ⟨blk,0,none⟩)) (x:=.it i since cl (seen++[e.born])) (o:=some blk) (by
     simp only[LR]
     exact⟨blk,m,rfl,zq,hβ,rfl,by rw[nZ xb];simp,hni⟩) (fun b hb=>by
     cases hb
     refine⟨⟨by rw[putObj_size];exact xb,zq⟩,fun L yA=>?_,hβn⟩
     simp only[upL] at yA
     split at yA
     ·cases yA
     ·exact hL L (by simp only[upL];split<;>simp_all))
    rw[UY hv fC] at hp
    have D4:(s.clr t).put (some t) (.it i since cl (seen++[e.born]))={ s with fr:=up s.fr t (.it i since cl (seen++[e.born])) }:=by
     simp only[S.clr,S.put]
     congr 1
     funext q
     simp only[up];split<;>simp_all
    rw[D4] at hp
    cases lF:o.dst with
    |none=>exact⟨_,_,_,hp⟩
    |some d=>
     refine⟨_,_,_,hp.put d (hd d lF) (o:=none) ?_ FreeOb.nothing⟩
     have hI:∀ b o,I b o→I b o∧(World.putObj w1 blk (.mapIter (some m) since (seen.toArray.push e.born) cl)).cell? ⟨b,o,none⟩=w.cell? ⟨b,o,none⟩:=fun b o hb=>by
      refine⟨hb,dJ (a:=⟨b,o,none⟩) ?_⟩
      have gK:b≠blk:=fun e=>hni o (by rw[← e];exact hb)
      exact(o0 gK).trans (by rw[gP])
     have:=(DR.tup (w:=w) (I:=I) #[.bool true,e.key,e.val] [.c (.lit (.bool true)),(r.getD (2*j) .un).dr,(r.getD (2*j+1) .un).dr] rfl fun q x hq=>by
      match q with
      |0=>simp at hq;subst hq;exact .c _ _ (.lit _ rfl)
      |1=>simp at hq;subst hq;exact vM l1
      |2=>simp at hq;subst hq;exact vM l2
      |q+3=>simp at hq).mono hI
     simp only[LR];exact this
  ·exact h.elim
 ·exact h.elim
end
section
variable {P:Program} {G:Gl} {tr:List Nat} {n:Nat} {I0:Ft} {M:Mx} {w0:World} {I:Ft} {β:Nat→Option Nat} {ob:Loc→Option Nat} {s:S} {a:Act} {w:World} {o:Oper}
 {next:Act→World→Prop} {Q:Exit→Act→World→Prop} {base:Nat→Prop} {v:Value} {x y:V} {K:V→Prop}
theorem St.write (hst:St G n I0 M w0 I β ob s a w) {b k:Nat} {blk:Nat} {cs:List C} {vs:List Value} (hb:b<s.nb) (hβ:β b=some blk) (kR:bY (s.bx b)=false) (cn:vs.length=cs.length) (sO:k+cs.length≤(s.bx b).length)
 (hc:∀ (q:Nat) (c:C),cs[q]?=some c→∃ u:Value,vs[q]?=some u∧CR I w u c) :
 ∃ (cur:Array Value) (T:RT) (ob':Loc→Option Nat),w.heap[blk]?=some (.cells cur T.t T.fz)∧T.ok cur.size∧(s.bx b).length≤cur.size∧(∀ u∈vs,u.oneCell'=true)∧
  St G n I0 M w0 I β ob' { s with bx:=up s.bx b (eS (s.bx b) k (cs.map .c)) } a (w.setRow blk (cur.toList.take k++vs++cur.toList.drop (k+vs.length)).toArray):=by
 obtain⟨sN,cur,e1,e2,e3,e4,_⟩:=hst.bx b hb
 obtain⟨T,e3,_,hT⟩:=e3.cells kR
 rw[hβ] at e1;cases e1
 have jJ:∀ u∈vs,u.oneCell'=true:=fun u hu=>by
  obtain⟨q,hq⟩:=eA.1 hu
  have nr:q<cs.length:=by rw[← cn];exact(ae.1 hq).1
  obtain⟨u',A4,jn⟩:=hc q cs[q] (ab nr)
  rw[hq] at A4;cases A4
  exact jn.oneCell
 refine⟨cur,T,_,e3,hT,e4,jJ,hst.setBox (i:=b) (k:=k) (blk:=blk) (cur:=cur) (T:=T) (vs:=vs) (ds:=cs.map .c) (od:=fun _=>none) hb hβ e3 hT (by simpa using cn) (by simpa using sO) (fun q=>?_) jJ
  (fun _ _ h=>by cases h) (fun _ _ _ h=>by cases h) kR (fun d hd=>?_)⟩
 ·by_cases hq:q<cs.length
  ·obtain⟨u,hu,jn⟩:=hc q cs[q] (ab hq)
   have e1:vs.getD q undef=u:=by rw[ay,hu];rfl
   have e2:(cs.map V.c).getD q .un=.c cs[q]:=by simp[List.getD,hq]
   rw[e1,e2];exact .ofC jn
  ·have e2:(cs.map V.c).getD q .un=.un:=by simp[List.getD,bq (ec hq)]
   rw[e2];simp only[LR];exact .un _
 ·obtain⟨c,_,rfl⟩:=bA.1 hd;rfl
theorem St.write_nil (hst:St G n I0 M w0 I β ob s a w) {b k:Nat}:St G n I0 M w0 I β ob { s with bx:=up s.bx b (eS (s.bx b) k []) } a w:=by
 have:eS (s.bx b) k []=s.bx b:=by simp[eS]
 rw[this,rS];exact hst
def oH (st:ByteArray) (m:Nat):List Value:=(st.data.toList.take m).map fun b=>Value.int .u8 b.toNat
theorem QD (st:ByteArray) (m:Nat):(oH st m).length=(((kC st).take m).flatten).length∧∀ (q:Nat) (c:C),(((kC st).take m).flatten)[q]?=some c→∃ u:Value,(oH st m)[q]?=some u∧CR I w u c:=by
 have e:((kC st).take m).flatten=(st.data.toList.take m).map fun b=>C.lit (.int .u8 b.toNat):=by
  unfold kC
  rw[← j7]
  generalize st.data.toList.take m=l
  induction l with
  |nil=>rfl
  |cons b l ih=>simp only[br,cu,ih];rfl
 rw[e]
 refine⟨by simp[oH],fun q c hq=>?_⟩
 unfold oH
 rw[ba] at hq ⊢
 cases hb:(st.data.toList.take m)[q]? with
 |none=>simp[hb] at hq
 |some b=>
  simp only[hb,cD,ai] at hq
  exact⟨_,rfl,by rw[← hq];exact .lit _ rfl⟩
theorem Gi {dT sT ty e:TypeId} {j:TypeInfo} (hu:P.underlying dT=some (.slice e)) (hj:P.info? e=some j) (hs:j.size=1) {g off len cap:Nat} {st:ByteArray} {cur:Array Value} {T:RT}
 (hg:w.heap[g]?=some (.cells cur T.t T.fz)) (hT:T.ok cur.size) (sO:off+min st.size len≤cur.size) :
 (Builtin.copy_ #[dT,sT] ty #[.slice (some ⟨g,off,none⟩) len cap,.string st]).run P w=
  .ok (goInt ((min st.size len:Nat):Int)) (w.setRow g (cur.toList.take off++oH st len++cur.toList.drop (off+(oH st len).length)).toArray):=by
 have cn:(oH st len).length=min st.size len:=by
  unfold oH;rw[ak,aG,bK,Nat.min_comm];rfl
 have jJ:∀ u∈oH st len,u.oneCell'=true:=fun u hu=>by
  obtain⟨_,_,rfl⟩:=bA.1 hu;rfl
 have hst:=fH (P:=P) g off T (oH st len) 0 cur w hg hT (by rw[cn];simpa using sO) jJ
 simp only[eI] at hst
 have htk:List.take (Nat.min st.size len) (List.map (fun b:UInt8=>Value.int IntKind.u8 (b.toNat:Int)) st.data.toList)=oH st len:=by
  unfold oH
  rw[← j7]
  congr 1
  rw[show Nat.min st.size len=min len st.size from Nat.min_comm _ _,← List.take_take]
  congr 1
  exact dW (by rw[bK];exact ar _)
 simp[Builtin.copy_,aP hu,Builtin.lenOf,Builtin.firstCells,sizeOf,typeInfo,hj,hs]
 rw[htk,hst]
 simp only[Result.andThen,bw]
theorem DF {dT sT ty e:TypeId} {j:TypeInfo} (hu:P.underlying dT=some (.slice e)) (hj:P.info? e=some j) {d:Option Addr} {len cap:Nat} {st:ByteArray} (h0:min st.size len=0) :
 (Builtin.copy_ #[dT,sT] ty #[.slice d len cap,.string st]).run P w=.ok (goInt 0) w:=by
 have h0':Nat.min st.size len=0:=h0
 cases d<;>simp[Builtin.copy_,aP hu,Builtin.lenOf,Builtin.firstCells,sizeOf,typeInfo,hj,h0',storeCells]
theorem Ix {t u ty:TypeId} {vx vy:Value} {ox oy:Option Nat} {K:S→V→Prop} (hst:St G n I0 M w0 I β ob s a w) (h:nz P s K [t,u] [x,y]) (hx:LR (Wr M w0) I β w ox vx x) (hy:LR (Wr M w0) I β w oy vy y) :
 ∃ s' ob' w' z v,K s' z∧(Builtin.copy_ #[t,u] ty #[vx,vy]).run P w=.ok v w'∧St G n I0 M w0 I β ob' s' a w'∧LR (Wr M w0) I β w' none v z:=by
 unfold nz at h
 split at h
 ·rename_i t' u' b off len cap sz st sR pX
  simp only[cj,gj] at sR pX
  obtain⟨rfl,rfl⟩:=sR
  obtain⟨rfl,rfl⟩:=pX
  split at h
  ·rename_i e _ _ _ _ _ _ hi
   obtain⟨j,d,h1,h2,h3,_⟩:=bu hi
   have hd:=dq h3
   subst hd
   split at h
   ·rename_i ie ra
    obtain⟨j',d',jR,oJ,_,eP,_⟩:=bu ra
    obtain⟨⟨Ab,rfl,hb,kR,sO⟩,h⟩:=h
    simp only[LR] at hx
    obtain⟨ky,blk,off',cap',Aa,hβ,nk,rfl⟩:=hx
    rw[hy.lit]
    have uG:(((kC st).take len).flatten).length=min st.size len:=by
     rw[bE (sz:=1) _ (fun x hx=>by have:=cU hx;simp only[kC,bA] at this;obtain⟨_,_,rfl⟩:=this;rfl),aG]
     simp[kC];exact Nat.min_comm _ _
    by_cases h0:min st.size len=0
    ·have e0:((kC st).take len).flatten=[]:=cY (by rw[uG];exact h0)
     rw[e0,h0] at h
     exact⟨_,_,w,_,_,h,DF h2 jR h0,hst.write_nil,.ofLit rfl⟩
    ·have:off'=off:=by rcases nk with h4 | h4;omega;exact h4
     subst this
     obtain⟨q1,q2⟩:=QD (I:=I) (w:=w) st len
     obtain⟨cur,T,ob',gP,hT,afo,jJ,cy⟩:=hst.write (k:=off') hb hβ kR q1 (by rw[uG];omega) q2
     exact⟨_,_,_,_,_,h,Gi h2 jR (by rw[← eP];exact Ab) gP hT (by omega),cy,.ofLit rfl⟩
   ·exact h.elim
  ·exact h.elim
 ·exact h.elim
theorem UZ {U e':TypeId} {vy:Value} {oy:Option Nat} {sz:Nat} {ys:List (List C)} (hst:St G n I0 M w0 I β ob s a w) (hy:LR (Wr M w0) I β w oy vy y) (h:vX s y=some (.sl ys)) (hu:P.underlying U=some (.slice e')) (hs:∀ x∈ys,x.length=sz):Ik P I w U vy sz ys:=by
 have flat:∀ {es:List (List C)} {blk off' cap':Nat} {f:Nat→Nat→Value} {z:Nat},vy=.slice (some ⟨blk,off',none⟩) es.length cap'→(∀ e∈es,e.length=z)→es=ys→
  (∀ p q,p<es.length→q<z→w.cell? ⟨blk,off'+p*z+q,none⟩=some (f p q))→(∀ p q e c,es[p]?=some e→e[q]?=some c→CR I w (f p q) c)→Ik P I w U vy sz ys:=by
  rintro es blk off' cap' f z rfl h1 rfl h2 h3
  obtain⟨news,uG,LC,LS,Uw⟩:=UT (J:=fun _ _=>True) hs h1 (fun i j hi hj=>⟨h2 i j hi hj,trivial⟩) h3
  exact⟨news,Src.ofSlice w hu ⟨blk,off',none⟩ _ _ news uG (fun q u hq=>by rw[cX];exact(LC q u hq).1) Uw,LS⟩
 cases y<;>simp only[vX] at h<;>try cases h
 ·exact(RD.ofCR hy.toC).src hu hs
 ·exact(RD.ofCR hy.1).src hu hs
 ·simp only[aU] at h
  obtain⟨cs,_,h2⟩:=h
  cases h2
 ·simp only[LR] at hy
  obtain⟨es,blk,off',cap',f,e1,e2,_,_,h4,h5,h6⟩:=F3 hst h hy
  cases e1
  exact flat e2 h4 rfl h5 h6
def RelL (I:Ft) (w:World) (L:List Value) (cs:List C):Prop:=∀ (q:Nat) (c:C),cs[q]?=some c→∃ u:Value,L[q]?=some u∧CR I w u c
theorem RelL.take {L:List Value} {cs:List C} (h:RelL I w L cs) (k:Nat):RelL I w (L.take k) (cs.take k):=fun q c hq=>by
 rw[ck] at hq
 split at hq
 ·rename_i hk
  obtain⟨u,h1,h2⟩:=h q c hq
  exact⟨u,by rw[ck,if_pos hk];exact h1,h2⟩
 ·cases hq
theorem RelL.drop {L:List Value} {cs:List C} (h:RelL I w L cs) (k:Nat):RelL I w (L.drop k) (cs.drop k):=fun q c hq=>by
 rw[cA] at hq
 obtain⟨u,h1,h2⟩:=h _ c hq
 exact⟨u,by rw[cA];exact h1,h2⟩
theorem RelL.append {L L':List Value} {cs cs':List C} (h:RelL I w L cs) (h':RelL I w L' cs') (hl:L.length=cs.length):RelL I w (L++L') (cs++cs'):=fun q c hq=>by
 by_cases hq1:q<cs.length
 ·rw[az hq1] at hq
  obtain⟨u,h1,h2⟩:=h q c hq
  exact⟨u,by rw[az (by omega)];exact h1,h2⟩
 ·rw[aF (by omega)] at hq
  obtain⟨u,h1,h2⟩:=h' _ c hq
  exact⟨u,by rw[aF (by omega),hl];exact h1,h2⟩
theorem o6 {α:Type} {sz:Nat} {es:List (List α)} (h:∀ e∈es,e.length=sz) {k:Nat} (hk:k≤es.length):(es.take k).flatten=es.flatten.take (k*sz):=by
 have e:es.flatten=(es.take k).flatten++(es.drop k).flatten:=by rw[← dG,dh]
 have hl:(es.take k).flatten.length=k*sz:=by rw[bE _ (fun x hx=>h x (cU hx)),aG,bI hk]
 rw[e,iV hl]
theorem o7 {α:Type} {sz:Nat} {es:List (List α)} (h:∀ e∈es,e.length=sz) {k:Nat} (hk:k≤es.length):(es.drop k).flatten=es.flatten.drop (k*sz):=by
 have e:es.flatten=(es.take k).flatten++(es.drop k).flatten:=by rw[← dG,dh]
 have hl:(es.take k).flatten.length=k*sz:=by rw[bE _ (fun x hx=>h x (cU hx)),aG,bI hk]
 rw[e,kT hl]
theorem St.gsSet (hst:St G n I0 M w0 I β ob s a w) {b k blk cap sz:Nat} {e:TypeId} {es es':List (List C)} {cur:Array Value} {L:List Value} (hb:b<s.nb) (kR:bY (s.bx b)=false)
 (hk:(s.bx b)[k]?=some (.gs (some (.slice (some ⟨blk,0,none⟩) es.length cap)) (some (e,sz)) es)) (gP:w.heap[blk]?=some (.cells cur e (0,0))) (fC:cur.size=cap*sz) (cn:es'.length=es.length) (pV:∀ x∈es',x.length=sz)
 (hL:L.length=cur.size) (jJ:∀ u∈L,u.oneCell'=true) (pU:RelL I w L es'.flatten) :
 St G n I0 M w0 I β ob { s with bx:=up s.bx b ((s.bx b).set k (.gs (some (.slice (some ⟨blk,0,none⟩) es.length cap)) (some (e,sz)) es')) } a (w.setRow blk L.toArray):=by
 rcases hst.gsAt hb hk with⟨_,_,_,hE⟩ | ⟨cur1,e1,sz1,j4,hE,_,g1,g2,g3,g4,gm,g5,g6,g7⟩
 ·cases hE
 cases hE
 rw[gP] at g1
 simp only[ai,Obj.cells.injEq,gj] at g1
 subst g1
 have xb:blk<w.heap.size:=(bf.1 gP).1
 have hg:w.grb (w.setRow blk L.toArray) (some blk):=⟨rfl,rfl,rfl,by simp,fun k _ hk=>jT w blk k _ (fun e=>hk (by rw[e])),ar _⟩
 have kB:∀ b o,I b o→I b o∧(w.setRow blk L.toArray).cell? ⟨b,o,none⟩=w.cell? ⟨b,o,none⟩:=fun b o hb=>⟨hb,hst.keeps hg (fun r e o ho=>by cases e;exact absurd ho (g7 o)) b o hb⟩
 refine hst.recell hb hk rfl rfl j4 hg (fun o ho=>absurd ho (g7 o)) (fun _ _ h=>h) (fun _ _ h=>.inl h) fun b1 cur0 _ _ hx=>?_
 obtain⟨h1,h2⟩:=hx.gsO
 refine⟨h1,?_⟩
 have hv:=h1 _ rfl
 have aac:Wr M w0 blk:=(hst.obnd _ _ j4).2
 exact .inr ⟨e,blk,cap,L.toArray,sz,rfl,rfl,by rw[hv,cn],aac,lJ w blk cur _ e (0,0) gP,by rw[cn];exact g4,gm,by rw[eJ,hL,fC],pV,fun j c hj=>by
  obtain⟨u,q1,q2⟩:=pU j c hj
  have:L.toArray.getD j undef=u:=by rw[ah,di,q1];rfl
  rw[this];exact q2.mono kB,fun u hu=>jJ u (gk.1 hu),g7⟩
theorem St.ggSet (hst:St G n I0 M w0 I β ob s a w) {b k blk len cap sz:Nat} {e:TypeId} {es:List (List C)} (hb:b<s.nb) (hk:(s.bx b)[k]?=some (.gg (.slice (some ⟨blk,0,none⟩) len cap) (some (e,sz)) es)) :
 ∃ cur:Array Value,(len=es.length∧w.heap[blk]?=some (.cells cur e (0,0))∧cur.size=cap*sz∧es.length≤cap∧(∀ x∈es,x.length=sz)∧(∀ j c,es.flatten[j]?=some c→CR I w (cur.getD j undef) c)∧(∀ u∈cur,u.oneCell'=true))∧
  ∀ (es':List (List C)) (L:List Value),es'.length=es.length→(∀ x∈es',x.length=sz)→L.length=cur.size→(∀ u∈L,u.oneCell'=true)→RelL I w L es'.flatten→
   St G n I0 M w0 I β ob { s with bx:=up s.bx b ((s.bx b).set k (.gg (.slice (some ⟨blk,0,none⟩) len cap) (some (e,sz)) es')) } a (w.setRow blk L.toArray):=by
 obtain⟨b1,cur0,e1,e2,e3,e4,e5,e7⟩:=hst.bx b hb
 have h5:=e5 k
 have ml:(s.bx b).getD k .un=.gg (.slice (some ⟨blk,0,none⟩) len cap) (some (e,sz)) es:=by simp[List.getD,hk]
 rw[ml] at h5
 have h6:OwnG (Wr M w0) I w (some (e,sz)) es (ob (.b b k)) (.slice (some ⟨blk,0,none⟩) len cap):=h5
 rcases h6 with⟨_,hE,_⟩ | ⟨e',sN,cap',cur,sz',j4,hE,hv,aac,hh,hc,hm,hs,hl,hf,jJ,fS⟩
 ·cases hE
 cases hE
 simp only[eH,ai,iz] at hv
 obtain⟨⟨rfl,_⟩,rfl,rfl⟩:=hv
 refine⟨cur,⟨rfl,hh,hs,hc,hl,hf,jJ⟩,fun es' L cn pV hL ang pU=>?_⟩
 have hg:w.grb (w.setRow blk L.toArray) (some blk):=⟨rfl,rfl,rfl,by simp,fun k _ hk=>jT w blk k _ (fun e=>hk (by rw[e])),ar _⟩
 have kB:∀ b o,I b o→I b o∧(w.setRow blk L.toArray).cell? ⟨b,o,none⟩=w.cell? ⟨b,o,none⟩:=fun b o hb=>⟨hb,hst.keeps hg (fun r e o ho=>by cases e;exact absurd ho (fS o)) b o hb⟩
 refine hst.recell hb hk rfl rfl j4 hg (fun o ho=>absurd ho (fS o)) (fun _ _ h=>h) (fun _ _ h=>.inl h) fun b1 cur0 _ _ hx=>?_
 show OwnG (Wr M w0) I (w.setRow blk L.toArray) (some (e,sz)) es' (some blk) _
 exact .inr ⟨e,blk,cap,L.toArray,sz,rfl,rfl,by rw[cn],aac,lJ w blk cur _ e (0,0) hh,by rw[cn];exact hc,hm,by rw[eJ,hL,hs],pV,fun j c hj=>by
  obtain⟨u,q1,q2⟩:=pU j c hj
  have:L.toArray.getD j undef=u:=by rw[ah,di,q1];rfl
  rw[this];exact q2.mono kB,fun u hu=>ang u (gk.1 hu),fS⟩
theorem Gj {α:Type} {sz:Nat} {es:List (List α)} (h:∀ e∈es,e.length=sz) {q:Nat} (hq:q<es.length) (x:List α):(es.set q x).flatten=es.flatten.take (q*sz)++x++es.flatten.drop (q*sz+sz):=by
 rw[List.set_eq_take_append_cons_drop,if_pos hq,dG,cu,o6 h (Nat.le_of_lt hq),o7 h hq,eC,bw]
theorem Bj {t u ty:TypeId} {vx vy:Value} {ox oy:Option Nat} {K:S→V→Prop} (hst:St G n I0 M w0 I β ob s a w) (h:fy P s K [t,u] [x,y]) (hx:LR (Wr M w0) I β w ox vx x) (hy:LR (Wr M w0) I β w oy vy y) :
 ∃ s' ob' w' z v,K s' z∧(Builtin.append_ #[t,u] ty #[vx,vy]).run P w=.ok v w'∧St G n I0 M w0 I β ob' s' a w'∧LR (Wr M w0) I β w' none v z:=by
 unfold fy at h
 split at h
 ·rename_i t' u' b off len cap sz y' sR pX
  simp only[cj,gj] at sR pX
  obtain⟨rfl,rfl⟩:=sR
  obtain⟨rfl,rfl⟩:=pX
  split at h
  ·rename_i e _ _ _ _ _ _ ys hi hyf
   obtain⟨j,d,h1,h2,h3,_⟩:=bu hi
   have hd:=dq h3
   subst hd
   split at h
   ·rename_i ie ra
    obtain⟨j',d',jR,oJ,_,eP,_⟩:=bu ra
    obtain⟨⟨rfl,fC,hp,hb,kR,sO,mJ,uF⟩,h⟩:=h
    simp only[LR] at hx
    obtain⟨ky,blk,off',cap',Aa,hβ,nk,rfl⟩:=hx
    obtain⟨news,qZ,LS⟩:=UZ hst hy hyf h2 uF
    have pW:Src P j'.size t vy ys.length news w:=by rw[← eP,fC];exact qZ
    have uG:=qZ.newsLen
    have kU:=bE ys uF
    by_cases h0:ys=[]
    ·subst h0
     have:news=[]:=cY (by rw[uG];simp)
     subst this
     refine⟨_,_,w,_,_,h,lT t t ty e j' h2 jR _ len cap' (by omega) pW,hst.write_nil,?_⟩
     simp only[LR]
     exact⟨by simpa using ky,blk,off',cap',Aa,hβ,nk,rfl⟩
    ·have hyl:0<ys.length:=fm.2 h0
     have:off'=off:=by rcases nk with h4 | h4;omega;exact h4
     subst this
     have hm:(len+ys.length)*sz≤cap*sz:=aL _ mJ
     rw[c8] at hm
     obtain⟨cur,T,ob',gP,hT,afo,jJ,cy⟩:=hst.write (k:=off'+len*sz) (cs:=ys.flatten) (vs:=news) hb hβ kR (by rw[uG,kU]) (by rw[kU];omega) LS
     have bH:=iY (P:=P) (w:=w) t t ty e j' h2 jR blk off' len cap' cur T gP hT vy ys.length news pW (by omega) (by rw[← eP,fC,uG];omega)
     rw[← eP,fC] at bH
     refine⟨_,_,_,_,_,h,bH,cy,?_⟩
     simp only[LR]
     exact⟨mJ,blk,off',cap',Aa,hβ,.inr rfl,rfl⟩
   ·exact h.elim
  ·exact h.elim
 ·rename_i t' u' blk n' cap blk2 off m cap2 sR pX
  simp only[cj,gj] at sR pX
  obtain⟨rfl,rfl⟩:=sR
  obtain⟨rfl,rfl⟩:=pX
  obtain rfl:=hx.toC.ex_inv
  obtain rfl:=hy.toC.ex_inv
  split at h
  ·rename_i e _ _ _ _ _ _ hi
   obtain⟨j,d,h1,h2,h3,_⟩:=bu hi
   have hd:=dq h3
   subst hd
   split at h
   ·rename_i ie ra
    obtain⟨j',d',jR,oJ,_,eP,_⟩:=bu ra
    obtain⟨b,k,jj,E,es,⟨rfl,rfl,hp,⟨e1,rfl⟩,hb,kR,hk,nk,hjm,hnm,hmc⟩,h⟩:=h
    rcases hst.gsAt hb hk with⟨_,_,_,hE⟩ | ⟨cur,e2,sz,j4,hE,_,g1,g2,g3,g4,gm,g5,g6,g7⟩
    ·cases hE
    simp only[ai,dC] at hE
    obtain⟨rfl,rfl⟩:=hE
    generalize fC:ie.size=sz at *
    by_cases h0:m=0
    ·subst h0
     have pW:Src P j'.size t (.slice (some ⟨blk2,off,none⟩) 0 cap2) 0 [] w:=Src.ofSlice w h2 ⟨blk2,off,none⟩ _ _ [] (by simp) (by simp) (by simp)
     have akf:es.take n'++(es.drop jj).take 0++es.drop (n'+0)=es:=by simp
     rw[akf] at h
     have pZ:(s.bx b).set k (.gs (some (.slice (some ⟨blk2,0,none⟩) es.length cap)) (some (e1,sz)) es)=s.bx b:=by
      obtain⟨zn,hke⟩:=ae.1 hk
      rw[← hke,List.set_getElem_self]
     rw[pZ,rS] at h
     exact⟨_,_,w,_,_,h,lT t t ty e j' h2 jR _ n' cap (by omega) pW,hst,.ofC (.ex _ rfl rfl)⟩
    ·have aad:off=jj*sz:=by rcases nk with h4 | h4;exact absurd h4 h0;exact h4
     subst aad
     have kf:cur.toList.length=cur.size:=bK
     have q1:(jj+m)*sz≤cur.size:=by rw[g2];exact aL _ (by omega)
     have q2:(n'+m)*sz≤cur.size:=by rw[g2];exact aL _ (by omega)
     rw[c8] at q1 q2
     have uG:((cur.toList.drop (jj*sz)).take (m*sz)).length=m*sz:=by rw[aG,b9,kf];exact bI (by omega)
     have jE:∀ u∈(cur.toList.drop (jj*sz)).take (m*sz),u.oneCell'=true:=fun u hu=>g6 u (bZ.1 (cM (cU hu)))
     have pW:Src P j'.size t (.slice (some ⟨blk2,jj*sz,none⟩) m cap2) m ((cur.toList.drop (jj*sz)).take (m*sz)) w:=by
      rw[← eP]
      refine Src.ofSlice w h2 ⟨blk2,jj*sz,none⟩ _ _ _ uG (fun q u hq=>?_) jE
      rw[cX,eZ w blk2 (jj*sz+q) cur e1 (0,0) g1]
      rw[ck] at hq
      split at hq
      ·rw[cA,aO] at hq;exact hq
      ·cases hq
     have bH:=iY (P:=P) (w:=w) t t ty e j' h2 jR blk2 0 n' cap cur (.of e1) g1 RT.of_ok _ m _ pW (by omega) (by rw[← eP,uG];omega)
     rw[← eP,uG] at bH
     simp only[aK] at bH
     have tf:RelL I w cur.toList es.flatten:=fun q c hq=>by
      have nr:=(ae.1 hq).1
      rw[bE es g3] at nr
      have:=aL sz g4
      refine⟨cur.getD q undef,?_,g5 q c hq⟩
      rw[aO,ah,ax (show q<cur.size by omega)];rfl
     have kU:=bE es g3
     have ke:=aL sz (show n'+m≤es.length from hnm)
     have aae:=aL sz (show jj+m≤es.length from hjm)
     rw[c8] at ke aae
     have hdl:∀ x∈es.drop jj,x.length=sz:=fun x hx=>g3 x (cM hx)
     have cy:=hst.gsSet (L:=cur.toList.take (n'*sz)++(cur.toList.drop (jj*sz)).take (m*sz)++cur.toList.drop (n'*sz+m*sz)) (es':=es.take n'++(es.drop jj).take m++es.drop (n'+m)) hb kR hk g1 g2
      (by simp only[aj,aG,b9];omega)
      (fun x hx=>by
       rcases aZ.1 hx with hx | hx
       ·rcases aZ.1 hx with hx | hx
        ·exact g3 x (cU hx)
        ·exact hdl x (cU hx)
       ·exact g3 x (cM hx))
      (by rw[aj,aj,uG,aG,b9,kf,bI (by omega)];omega)
      (fun u hu=>by
       rcases aZ.1 hu with hu | hu
       ·rcases aZ.1 hu with hu | hu
        ·exact g6 u (bZ.1 (cU hu))
        ·exact jE u hu
       ·exact g6 u (bZ.1 (cM hu)))
      (by
       rw[dG,dG,o6 g3 (by omega),o6 hdl (by rw[b9];omega),o7 g3 (by omega),o7 g3 (by omega),c8]
       refine RelL.append (RelL.append (tf.take _) ((tf.drop _).take _) ?_) (tf.drop _) ?_
       ·rw[aG,aG,kf,kU,bI (by omega),bI (by omega)]
       ·rw[aj,aj,uG,aG,aG,aG,b9,kf,kU,bI (by omega),bI (by omega),bI (by omega)])
     exact⟨_,_,_,_,_,h,bH,cy,.ofC (.ex _ rfl rfl)⟩
   ·exact h.elim
  ·exact h.elim
 ·exact h.elim
theorem Gk {t ty:TypeId} {vx:Value} {ox:Option Nat} {K:S→Prop} (hst:St G n I0 M w0 I β ob s a w) (h:ju P s K [t] [x]) (hx:LR (Wr M w0) I β w ox vx x) :
 ∃ s' ob' w',K s'∧(Builtin.clear_ #[t] ty #[vx]).run P w=.ok (.tuple #[]) w'∧St G n I0 M w0 I β ob' s' a w':=by
 unfold ju at h
 split at h
 ·rename_i t' b off len cap sz sR pX
  simp only[cj,gj] at sR pX
  subst sR
  subst pX
  split at h
  ·rename_i e _ _ _ _ _ _ hi
   obtain⟨j,d,h1,h2,h3,_⟩:=bu hi
   have hd:=dq h3
   subst hd
   split at h
   ·rename_i m _ _ z _ _ ra
    obtain⟨j',d',jR,oJ,_,eP,_,_,nj,_⟩:=bu ra
    simp only at nj eP
    obtain⟨⟨rfl,hp,vo,hb,kR,sO⟩,h⟩:=h
    split at nj
    ·rename_i zv ta
     simp only[LR] at hx
     obtain⟨ky,blk,off',cap',Aa,hβ,nk,rfl⟩:=hx
     have sM:=ln (I:=I) (w:=w) nj.symm
     by_cases h0:len=0
     ·subst h0
      refine⟨_,_,w,h,?_,hst.write_nil⟩
      unfold Builtin.clear_
      simp[aP h2]
     ·have:off'=off:=by rcases nk with h4 | h4;omega;exact h4
      subst this
      have e1:((Array.range (len*z.length)).map (zv.cells[· % zv.cells.size]!))=Builtin.zeroCells zv.cells len:=by
       unfold Builtin.zeroCells
       rw[sM.1]
      have oL:=ri sM (by omega) len
      rw[e1] at oL
      have kU:(List.replicate len z).flatten.length=len*m:=by rw[bE (sz:=m) _ (fun x hx=>by rw[fj hx];exact vo),List.length_replicate]
      have AD:(Builtin.zeroCells zv.cells len).toList.length=(List.replicate len z).flatten.length:=by
       rw[bK];exact oL.1
      obtain⟨cur,T,ob',gP,hT,afo,jJ,cy⟩:=hst.write (k:=off') (cs:=(List.replicate len z).flatten) (vs:=(Builtin.zeroCells zv.cells len).toList) hb hβ kR AD (by rw[kU];exact sO) (fun q c hq=>by
       have:=oL.2 q c hq
       have nr:q<(Builtin.zeroCells zv.cells len).size:=by rw[← bK,AD];exact(ae.1 hq).1
       refine⟨(Builtin.zeroCells zv.cells len)[q],by rw[aO,ax nr],?_⟩
       rw[ah] at this
       rw[ax nr] at this
       exact this)
      have bH:=fH (P:=P) blk off' T (Builtin.zeroCells zv.cells len).toList 0 cur w gP hT (by rw[AD,kU];omega) jJ
      simp only[eI] at bH
      refine⟨_,_,_,h,?_,cy⟩
      obtain⟨len,rfl⟩:∃ k,len=k+1:=⟨len - 1,by omega⟩
      unfold Builtin.clear_
      simp[aP h2,zeroValue,typeInfo,jR,ta,bH]
    ·cases nj
   ·exact h.elim
  ·exact h.elim
 ·rename_i t' blk off m cap2 sR pX
  simp only[cj,gj] at sR pX
  subst sR
  subst pX
  obtain rfl:=hx.toC.ex_inv
  split at h
  ·rename_i e _ _ _ _ _ _ hi
   obtain⟨j,d,h1,h2,h3,_⟩:=bu hi
   have hd:=dq h3
   subst hd
   split at h
   ·rename_i sz0 _ _ z _ _ ra
    obtain⟨j',d',jR,oJ,_,eP,_,_,nj,_⟩:=bu ra
    simp only at nj eP
    obtain⟨b,k,jj,cap,E,es,⟨hp,vo,⟨e1,rfl⟩,hb,kR,hk,nk,hjm⟩,h⟩:=h
    split at nj
    ·rename_i zv ta
     have sM:=ln (I:=I) (w:=w) nj.symm
     rcases hst.gsAt hb hk with⟨_,_,_,hE⟩ | ⟨cur,e2,sz,j4,hE,_,g1,g2,g3,g4,gm,g5,g6,g7⟩
     ·cases hE
     simp only[ai,dC] at hE
     obtain⟨rfl,rfl⟩:=hE
     by_cases h0:m=0
     ·subst h0
      have akf:es.take jj++List.replicate 0 z++es.drop (jj+0)=es:=by simp
      rw[akf] at h
      have pZ:(s.bx b).set k (.gs (some (.slice (some ⟨blk,0,none⟩) es.length cap)) (some (e1,sz0)) es)=s.bx b:=by
       obtain⟨zn,hke⟩:=ae.1 hk
       rw[← hke,List.set_getElem_self]
      rw[pZ,rS] at h
      refine⟨_,_,w,h,?_,hst⟩
      unfold Builtin.clear_
      simp[aP h2]
     ·have aad:off=jj*sz0:=by rcases nk with h4 | h4;exact absurd h4 h0;exact h4
      subst aad
      have ez:((Array.range (m*z.length)).map (zv.cells[· % zv.cells.size]!))=Builtin.zeroCells zv.cells m:=by
       unfold Builtin.zeroCells
       rw[sM.1]
      have oL:=ri sM (by omega) m
      rw[ez] at oL
      have hfz:(List.replicate m z).flatten.length=m*sz0:=by rw[bE (sz:=sz0) _ (fun x hx=>by rw[fj hx];exact vo),List.length_replicate]
      have AD:(Builtin.zeroCells zv.cells m).toList.length=m*sz0:=by
       rw[bK,oL.1,hfz]
      have kf:cur.toList.length=cur.size:=bK
      have q1:(jj+m)*sz0≤cur.size:=by rw[g2];exact aL _ (by omega)
      rw[c8] at q1
      have age:RelL I w (Builtin.zeroCells zv.cells m).toList (List.replicate m z).flatten:=fun q c hq=>by
       have:=oL.2 q c hq
       have nr:q<(Builtin.zeroCells zv.cells m).size:=by rw[← bK,AD,← hfz];exact(ae.1 hq).1
       refine⟨(Builtin.zeroCells zv.cells m)[q],by rw[aO,ax nr],?_⟩
       rw[ah] at this
       rw[ax nr] at this
       exact this
      have agf:∀ u∈(Builtin.zeroCells zv.cells m).toList,u.oneCell'=true:=fun u hu=>by
       obtain⟨q,hq⟩:=eA.1 hu
       have nr:q<(List.replicate m z).flatten.length:=by rw[hfz,← AD];exact(ae.1 hq).1
       obtain⟨u',A4,jn⟩:=age q _ (ab nr)
       rw[hq] at A4;cases A4
       exact jn.oneCell
      have bH:=fH (P:=P) blk (jj*sz0) (.of e1) (Builtin.zeroCells zv.cells m).toList 0 cur w g1 RT.of_ok (by rw[AD];omega) agf
      simp only[eI,AD] at bH
      have tf:RelL I w cur.toList es.flatten:=fun q c hq=>by
       have nr:=(ae.1 hq).1
       rw[bE es g3] at nr
       have:=aL sz0 g4
       refine⟨cur.getD q undef,?_,g5 q c hq⟩
       rw[aO,ah,ax (show q<cur.size by omega)];rfl
      have kU:=bE es g3
      have aae:=aL sz0 (show jj+m≤es.length from hjm)
      rw[c8] at aae
      have cy:=hst.gsSet (L:=cur.toList.take (jj*sz0)++(Builtin.zeroCells zv.cells m).toList++cur.toList.drop (jj*sz0+m*sz0)) (es':=es.take jj++List.replicate m z++es.drop (jj+m)) hb kR hk g1 g2
       (by simp only[aj,aG,b9,List.length_replicate];omega)
       (fun x hx=>by
        rcases aZ.1 hx with hx | hx
        ·rcases aZ.1 hx with hx | hx
         ·exact g3 x (cU hx)
         ·rw[fj hx];exact vo
        ·exact g3 x (cM hx))
       (by rw[aj,aj,AD,aG,b9,kf,bI (by omega)];omega)
       (fun u hu=>by
        rcases aZ.1 hu with hu | hu
        ·rcases aZ.1 hu with hu | hu
         ·exact g6 u (bZ.1 (cU hu))
         ·exact agf u hu
        ·exact g6 u (bZ.1 (cM hu)))
       (by
        rw[dG,dG,o6 g3 (by omega),o7 g3 (by omega),c8]
        refine RelL.append (RelL.append (tf.take _) age ?_) (tf.drop _) ?_
        ·rw[aG,aG,kf,kU,bI (by omega),bI (by omega)]
        ·rw[aj,aj,AD,hfz,aG,aG,kf,kU,bI (by omega),bI (by omega)])
      refine⟨_,_,_,h,?_,cy⟩
      obtain⟨m,rfl⟩:∃ k,m=k+1:=⟨m - 1,by omega⟩
      unfold Builtin.clear_
      simp[aP h2,zeroValue,typeInfo,jR,ta,bH]
    ·cases nj
   ·exact h.elim
  ·exact h.elim
 ·exact h.elim
theorem Gm {src dst:TypeId} {d:Option Tmp} {X:Operand} {K:S→Prop} (hst:St G n I0 M w0 I β ob s a w) (hd:∀ t,d=some t→t<n) (h:FO P s d src dst K (ev G s X)) :
 ∃ s' v w',K (s'.put d v)∧∃ u,(convert src dst (a.eval X)).run P w=.ok u w'∧∃ β' ob',St G n I0 M w0 I β' ob' s' a w'∧LR (Wr M w0) I β' w' none u v:=by
 unfold FO at h
 split at h
 ·rename_i st rR
  split at h
  ·rename_i e _ _ _ _ _ _ hi rQ
   obtain⟨j,d1,_,h2,h3,_⟩:=bu hi
   obtain⟨j',d',_,oJ,h3',_⟩:=bu rQ
   have pT:=dq h3'
   subst pT
   have hds:=nW h3
   subst hds
   split at h
   ·rename_i ra
    obtain⟨je,de,_,h2e,h3e,_⟩:=bu ra
    have hde:=xp h3e
    subst hde
    have hx:=bD hst X
    rw[rR] at hx
    have bH:=run_bytes_of_string (P:=P) w src dst e st h2 oJ h2e
    rw[← hx.lit] at bH
    have tc:(kC st).flatten=st.data.toList.map fun b=>C.lit (.int .u8 b.toNat):=by
     unfold kC
     generalize st.data.toList=l
     induction l with
     |nil=>rfl
     |cons b l ih=>simp only[br,cu,ih];rfl
    have fC:st.size≤(bytesRow st (grownCap w st.size 0 e)).size:=by simp[bytesRow]
    have oK:∀ q,q<st.size→(bytesRow st (grownCap w st.size 0 e)).getD q undef=.int .u8 ((st.data.toList.getD q 0).toNat:Int):=fun q hq=>by
     have Uf:q<st.data.size:=hq
     unfold bytesRow
     rw[ah,ew (by simpa using Uf),Array.getElem?_map,ax Uf]
     have:st.data.toList.getD q 0=st.data[q]:=by
      rw[ay,aO,ax Uf];rfl
     rw[this];rfl
    have AE:=hst.drew.newBox (cur:=bytesRow st (grownCap w st.size 0 e)) (T:=⟨e,((bytesRow st (grownCap w st.size 0 e)).size,(bytesRow st (grownCap w st.size 0 e)).size+1)⟩)
     (cs:=(kC st).flatten.map .c) (od:=fun _=>none) (by rw[tc];simpa using fC) (.inr (ar _)) (fun q=>by
      by_cases hq:q<st.size
      ·have Uf:q<st.data.toList.length:=by simpa using hq
       have e2:((kC st).flatten.map V.c).getD q .un=.c (.lit (.int .u8 ((st.data.toList.getD q 0).toNat:Int))):=by
        rw[tc,ay,ay,ba,ba,ab Uf];rfl
       rw[oK q hq,e2];exact .ofLit rfl
      ·have e2:((kC st).flatten.map V.c).getD q .un=.un:=by
        rw[tc];rw[ay,bq (by simpa using hq)];rfl
       rw[e2];simp only[LR];exact .un _) (fun u hu=>by
      unfold bytesRow at hu
      rcases Array.mem_append.1 hu with hu | hu
      ·obtain⟨b,_,rfl⟩:=Array.mem_map.1 hu;rfl
      ·rw[Array.mem_replicate] at hu;rw[hu.2];rfl) (fun _ _ h=>by cases h) (fun _ _ _ h=>by cases h) (AN fun x hx=>by
      obtain⟨c,_,rfl⟩:=bA.1 hx;rfl)
    refine⟨_,_,_,h,_,bH,_,_,AE,?_⟩
    simp only[LR]
    exact⟨ar _,w.heap.size,0,_,grownCap_ge w _ _ _,by simp,.inr rfl,rfl⟩
   ·exact h.elim
  ·exact h.elim
 ·exact h.elim
end
section
variable {P:Program} {G:Gl} {tr:List Nat} {n:Nat} {I0:Ft} {M:Mx} {w0:World} {I:Ft} {β:Nat→Option Nat} {ob:Loc→Option Nat} {s:S} {a:Act} {w:World} {base:Nat→Prop} {v:Value} {x:V}
 {g:Option Value} {E:Option (TypeId×Nat)} {es:List (List C)} {ops:Array Oper} {K:S→Prop}
theorem OwnG.gsV {o:Option Nat} (h:OwnG base I w E es o v):GsV E es v:=by
 rcases h with⟨_,h1,h2,h3⟩ | ⟨e,blk,cap,cur,sz,_,_,hv,_,_,hc,_⟩
 ·exact .inr ⟨h2,h1,h3⟩
 ·exact .inl ⟨blk,cap,hv,hc⟩
theorem St.reown (h:St G n I0 M w0 I β ob s a w) {b k:Nat} {x x':V} {o':Option Nat} (hb:b<s.nb) (hk:(s.bx b)[k]?=some x) (Uk:x.isMk=false) (Di:x'.isMk=false) (ho:o'=none∨o'=ob (.b b k))
 (Db:∀ cur:Array Value,LR (Wr M w0) I β w (ob (.b b k)) (cur.getD k undef) x→LR (Wr M w0) I β w o' (cur.getD k undef) x') :
 St G n I0 M w0 I β (upL ob (.b b k) o') { s with bx:=up s.bx b ((s.bx b).set k x') } a w:=by
 have fJ:∀ L c,upL ob (.b b k) o' L=some c→ob L=some c:=fun L c hL=>by
  simp only[upL] at hL
  split at hL
  ·rename_i e;subst e
   rcases ho with ho | ho
   ·rw[ho] at hL;cases hL
   ·rw[← ho];exact hL
  ·exact hL
 have pY:k<(s.bx b).length:=(ae.1 hk).1
 have ml:(s.bx b).getD k .un=x:=by simp[List.getD,hk]
 exact {
  size:=h.size,defers:=h.defers,below:=h.below,ilow:=h.ilow,kept:=h.kept,ihigh:=h.ihigh,ibnd:=h.ibnd
  fr:=fun t=>by
   have:=h.fr t
   have e:upL ob (.b b k) o' (.t t)=ob (.t t):=by simp[upL]
   rw[e];exact this
  bx:=fun i hi=>by
   obtain⟨b1,cur,e1,e2,e3,e4,e5,e7⟩:=h.bx i hi
   by_cases qb:i=b
   ·subst qb
    refine⟨b1,cur,e1,e2,?_,by simp only[bT,fD];exact e4,fun j=>?_,e7⟩
    ·simp only[bT]
     refine e3.congr (by simp) ?_
     by_cases xg:k=0
     ·subst xg
      have g1:((s.bx i).set 0 x').getD 0 .un=x':=by simp[List.getD,pY]
      rw[gC (by unfold bY;rw[g1];exact Di),gC (by unfold bY;rw[ml];exact Uk)]
     ·have:((s.bx i).set k x').getD 0 .un=(s.bx i).getD 0 .un:=by simp[List.getD,cV xg]
      unfold qG
      rw[this]
    ·simp only[bT]
     by_cases hjk:j=k
     ·subst hjk
      have:((s.bx i).set j x').getD j .un=x':=by simp[List.getD,pY]
      rw[this]
      have e:upL ob (.b i j) o' (.b i j)=o':=by simp[upL]
      rw[e]
      have h5:=e5 j
      rw[ml] at h5
      exact Db cur h5
     ·have:((s.bx i).set k x').getD j .un=(s.bx i).getD j .un:=by simp[List.getD,cV (gX hjk)]
      rw[this]
      have e:upL ob (.b i k) o' (.b i j)=ob (.b i j):=by simp[upL,hjk]
      rw[e];exact e5 j
   ·refine⟨b1,cur,e1,e2,by simp only[cF _ _ qb];exact e3,by simp only[cF _ _ qb];exact e4,fun j=>?_,e7⟩
    simp only[cF _ _ qb]
    have e:upL ob (.b b k) o' (.b i j)=ob (.b i j):=by simp[upL,qb]
    rw[e];exact e5 j
  bnone:=h.bnone,ext:=h.ext,bnew:=h.bnew,binj:=h.binj
  oinj:=fun L L' c q1 q2=>h.oinj L L' c (fJ L c q1) (fJ L' c q2)
  obx:=fun L c i q1=>h.obx L c i (fJ L c q1)
  obnd:=fun L c q1=>h.obnd L c (fJ L c q1)
  glob:=h.glob }
theorem St.reword (h:St G n I0 M w0 I β ob s a w) {b k:Nat} {x x':V} (hb:b<s.nb) (hk:(s.bx b)[k]?=some x) (Uk:x.isMk=false) (Di:x'.isMk=false)
 (Db:∀ cur,LR (Wr M w0) I β w (ob (.b b k)) (Array.getD cur k undef) x→LR (Wr M w0) I β w (ob (.b b k)) (Array.getD cur k undef) x') :
 SE G n I0 M w0 (s.cell b k x') a w:=⟨_,_,_,h.reown hb hk Uk Di (.inr rfl) Db⟩
theorem St.adopt (h:St G n I0 M w0 I β ob s a w) {blk:Nat} {cur:Array Value} {T:RT} {cs:List C} (zq:Wr M w0 blk) (gP:w.heap[blk]?=some (.cells cur T.t T.fz)) (hT:T.ok cur.size) (jJ:∀ u∈cur,u.oneCell'=true)
 (fC:cs.length≤cur.size) (hc:∀ j c,cs[j]?=some c→CR I w (cur.getD j undef) c) (j4:∀ L,ob L≠some blk) (hβ:∀ i,β i≠some blk) (hI:∀ o,¬ I blk o) :
 St G n I0 M w0 I (up β s.nb (some blk)) (fun L=>match L with | .b i j=>if i=s.nb then none else ob (.b i j) | L=>ob L) { s with bx:=up s.bx s.nb (cs.map .c),nb:=s.nb+1 } a w:=by
 have hβ':∀ i b,β i=some b→up β s.nb (some blk) i=some b:=fun i b hi=>by
  have:i≠s.nb:=fun e=>by rw[h.bnone i (by omega)] at hi;cases hi
  rw[cF _ _ this];exact hi
 have fJ:∀ L b,(match L with | .b i j=>if i=s.nb then none else ob (.b i j) | L=>ob L)=some b→ob L=some b:=fun L b hL=>by
  cases L with
  |t i=>exact hL
  |b i j=>
   simp only at hL
   split at hL
   ·cases hL
   ·exact hL
 have kB:∀ {o:Option Nat} {v:Value} {x:V},LR (Wr M w0) I β w o v x→LR (Wr M w0) I (up β s.nb (some blk)) w o v x:=fun hx=>hx.mono (fun _ _ h=>⟨h,rfl⟩) hβ' (fun _ _=>⟨rfl,fun _ h=>h⟩)
 have kR:bY (cs.map V.c)=false:=by cases cs<;>rfl
 exact {
  size:=h.size,defers:=h.defers,below:=h.below,kept:=h.kept,ilow:=h.ilow,ihigh:=h.ihigh,ibnd:=h.ibnd
  fr:=fun t=>kB (h.fr t)
  bx:=fun i hi=>by
   by_cases jg:i=s.nb
   ·subst jg
    refine⟨blk,cur,by simp,zq,.of gP jJ hT (by simpa using kR),by simpa using fC,fun j=>?_,hI⟩
    simp only[bT,dn]
    by_cases hj:j<cs.length
    ·have e2:(cs.map V.c).getD j .un=.c cs[j]:=by simp[List.getD,hj]
     rw[e2];exact .ofC (hc j _ (ab hj))
    ·have e2:(cs.map V.c).getD j .un=.un:=by simp[List.getD,bq (ec hj)]
     rw[e2];simp only[LR];exact .un _
   ·obtain⟨b1,cur',e1,e2,e3,e4,e5,e7⟩:=h.bx i (by simp only at hi;omega)
    refine⟨b1,cur',hβ' i b1 e1,e2,by simpa only[cF _ _ jg] using e3,by simpa only[cF _ _ jg] using e4,fun j=>?_,e7⟩
    simp only[cF _ _ jg,if_neg jg]
    exact kB (e5 j)
  bnone:=fun i hi=>by
   simp only at hi
   rw[cF _ _ (by omega)]
   exact h.bnone i (by omega)
  ext:=fun i b he=>hβ' i b (h.ext i b he)
  bnew:=fun i b hi=>by
   by_cases h1:i=s.nb
   ·subst h1;rw[bT] at hi;cases hi;exact .inr zq
   ·rw[cF _ _ h1] at hi;exact h.bnew i b hi
  binj:=fun i j b hi hj=>by
   by_cases h1:i=s.nb<;>by_cases h2:j=s.nb
   ·rw[h1,h2]
   ·subst h1;rw[bT] at hi;cases hi;rw[cF _ _ h2] at hj;exact absurd hj (hβ j)
   ·subst h2;rw[bT] at hj;cases hj;rw[cF _ _ h1] at hi;exact absurd hi (hβ i)
   ·rw[cF _ _ h1] at hi;rw[cF _ _ h2] at hj;exact h.binj i j b hi hj
  oinj:=fun L L' b hL yA=>h.oinj L L' b (fJ L b hL) (fJ L' b yA)
  obx:=fun L b i hL hi=>by
   by_cases jg:i=s.nb
   ·subst jg;rw[bT] at hi;cases hi
    exact j4 L (fJ L _ hL)
   ·rw[cF _ _ jg] at hi
    exact h.obx L b i (fJ L b hL) hi
  obnd:=fun L b hL=>h.obnd L b (fJ L b hL)
  glob:=h.glob }
theorem St.gsCell (h:St G n I0 M w0 I β ob s a w) {b k:Nat} (hb:b<s.nb) (kR:bY (s.bx b)=false) (hk:(s.bx b)[k]?=some (.gs g E es)):∃ blk cur,β b=some blk∧HB w blk cur (s.bx b)∧(∀ u,g=some u→cur.getD k undef=u)∧OwnG (Wr M w0) I w E es (ob (.b b k)) (cur.getD k undef):=by
 obtain⟨b1,cur,e1,e2,e3,e4,e5,e7⟩:=h.bx b hb
 have h5:=e5 k
 have ml:(s.bx b).getD k .un=.gs g E es:=by simp[List.getD,hk]
 rw[ml] at h5
 exact⟨b1,cur,e1,e3,h5.1,h5.2⟩
theorem St.reownAt (h:St G n I0 M w0 I β ob s a w) {b k blk:Nat} {cur:Array Value} {x x':V} {o':Option Nat} (hb:b<s.nb) (kR:bY (s.bx b)=false) (hβ:β b=some blk) (hB:HB w blk cur (s.bx b)) (hk:(s.bx b)[k]?=some x) (Di:x'.isMk=false) (ho:o'=none∨o'=ob (.b b k))
 (Db:LR (Wr M w0) I β w o' (cur.getD k undef) x') :
 St G n I0 M w0 I β (upL ob (.b b k) o') { s with bx:=up s.bx b ((s.bx b).set k x') } a w:=by
 have fJ:∀ L c,upL ob (.b b k) o' L=some c→ob L=some c:=fun L c hL=>by
  simp only[upL] at hL
  split at hL
  ·rename_i e;subst e
   rcases ho with ho | ho
   ·rw[ho] at hL;cases hL
   ·rw[← ho];exact hL
  ·exact hL
 have pY:k<(s.bx b).length:=(ae.1 hk).1
 exact {
  size:=h.size,defers:=h.defers,below:=h.below,ilow:=h.ilow,kept:=h.kept,ihigh:=h.ihigh,ibnd:=h.ibnd
  fr:=fun t=>by
   have:=h.fr t
   have e:upL ob (.b b k) o' (.t t)=ob (.t t):=by simp[upL]
   rw[e];exact this
  bx:=fun i hi=>by
   obtain⟨b1,cur1,e1,e2,e3,e4,e5,e7⟩:=h.bx i hi
   by_cases qb:i=b
   ·subst qb
    rw[hβ] at e1;cases e1
    cases hB.same kR e3
    refine⟨blk,cur,hβ,e2,?_,by simp only[bT,fD];exact e4,fun j=>?_,e7⟩
    ·simp only[bT]
     refine e3.congr (by simp) ?_
     by_cases xg:k=0
     ·subst xg
      have g1:((s.bx i).set 0 x').getD 0 .un=x':=by simp[List.getD,pY]
      rw[gC (by unfold bY;rw[g1];exact Di),gC kR]
     ·have:((s.bx i).set k x').getD 0 .un=(s.bx i).getD 0 .un:=by simp[List.getD,cV xg]
      unfold qG
      rw[this]
    ·simp only[bT]
     by_cases hjk:j=k
     ·subst hjk
      have:((s.bx i).set j x').getD j .un=x':=by simp[List.getD,pY]
      rw[this]
      have e:upL ob (.b i j) o' (.b i j)=o':=by simp[upL]
      rw[e]
      exact Db
     ·have:((s.bx i).set k x').getD j .un=(s.bx i).getD j .un:=by simp[List.getD,cV (gX hjk)]
      rw[this]
      have e:upL ob (.b i k) o' (.b i j)=ob (.b i j):=by simp[upL,hjk]
      rw[e];exact e5 j
   ·refine⟨b1,cur1,e1,e2,by simp only[cF _ _ qb];exact e3,by simp only[cF _ _ qb];exact e4,fun j=>?_,e7⟩
    simp only[cF _ _ qb]
    have e:upL ob (.b b k) o' (.b i j)=ob (.b i j):=by simp[upL,qb]
    rw[e];exact e5 j
  bnone:=h.bnone,ext:=h.ext,bnew:=h.bnew,binj:=h.binj
  oinj:=fun L L' c q1 q2=>h.oinj L L' c (fJ L c q1) (fJ L' c q2)
  obx:=fun L c i q1=>h.obx L c i (fJ L c q1)
  obnd:=fun L c q1=>h.obnd L c (fJ L c q1)
  glob:=h.glob }
theorem St.giveCell (h:St G n I0 M w0 I β ob s a w) {b k blk:Nat} {cur:Array Value} {x':V} {o':Option Nat} (hb:b<s.nb) (kR:bY (s.bx b)=false) (hβ:β b=some blk) (hB:HB w blk cur (s.bx b)) (pY:k<(s.bx b).length) (Di:x'.isMk=false) (ho:∀ c,o'=some c→(c<w.heap.size∧Wr M w0 c)∧(∀ L,ob L≠some c)∧∀ i,β i≠some c)
 (Db:LR (Wr M w0) I β w o' (cur.getD k undef) x') :
 St G n I0 M w0 I β (upL ob (.b b k) o') { s with bx:=up s.bx b ((s.bx b).set k x') } a w:=by
 have fJ:∀ L c,upL ob (.b b k) o' L=some c→(L=.b b k∧o'=some c)∨(L≠.b b k∧ob L=some c):=fun L c hL=>by
  simp only[upL] at hL
  split at hL
  ·rename_i e;exact .inl ⟨e,hL⟩
  ·rename_i e;exact .inr ⟨e,hL⟩
 exact {
  size:=h.size,defers:=h.defers,below:=h.below,ilow:=h.ilow,kept:=h.kept,ihigh:=h.ihigh,ibnd:=h.ibnd
  fr:=fun t=>by
   have:=h.fr t
   have e:upL ob (.b b k) o' (.t t)=ob (.t t):=by simp[upL]
   rw[e];exact this
  bx:=fun i hi=>by
   obtain⟨b1,cur1,e1,e2,e3,e4,e5,e7⟩:=h.bx i hi
   by_cases qb:i=b
   ·subst qb
    rw[hβ] at e1;cases e1
    cases hB.same kR e3
    refine⟨blk,cur,hβ,e2,?_,by simp only[bT,fD];exact e4,fun j=>?_,e7⟩
    ·simp only[bT]
     refine e3.congr (by simp) ?_
     by_cases xg:k=0
     ·subst xg
      have g1:((s.bx i).set 0 x').getD 0 .un=x':=by simp[List.getD,pY]
      rw[gC (by unfold bY;rw[g1];exact Di),gC kR]
     ·have:((s.bx i).set k x').getD 0 .un=(s.bx i).getD 0 .un:=by simp[List.getD,cV xg]
      unfold qG
      rw[this]
    ·simp only[bT]
     by_cases hjk:j=k
     ·subst hjk
      have:((s.bx i).set j x').getD j .un=x':=by simp[List.getD,pY]
      rw[this]
      have e:upL ob (.b i j) o' (.b i j)=o':=by simp[upL]
      rw[e]
      exact Db
     ·have:((s.bx i).set k x').getD j .un=(s.bx i).getD j .un:=by simp[List.getD,cV (gX hjk)]
      rw[this]
      have e:upL ob (.b i k) o' (.b i j)=ob (.b i j):=by simp[upL,hjk]
      rw[e];exact e5 j
   ·refine⟨b1,cur1,e1,e2,by simp only[cF _ _ qb];exact e3,by simp only[cF _ _ qb];exact e4,fun j=>?_,e7⟩
    simp only[cF _ _ qb]
    have e:upL ob (.b b k) o' (.b i j)=ob (.b i j):=by simp[upL,qb]
    rw[e];exact e5 j
  bnone:=h.bnone,ext:=h.ext,bnew:=h.bnew,binj:=h.binj
  oinj:=fun L L' c q1 q2=>by
   rcases fJ L c q1 with⟨h1,h2⟩ | ⟨h1,h2⟩<;>rcases fJ L' c q2 with⟨h3,h4⟩ | ⟨h3,h4⟩
   ·rw[h1,h3]
   ·exact absurd h4 ((ho c h2).2.1 L')
   ·exact absurd h2 ((ho c h4).2.1 L)
   ·exact h.oinj L L' c h2 h4
  obx:=fun L c i q1=>by
   rcases fJ L c q1 with⟨_,h2⟩ | ⟨_,h2⟩
   ·exact(ho c h2).2.2 i
   ·exact h.obx L c i h2
  obnd:=fun L c q1=>by
   rcases fJ L c q1 with⟨_,h2⟩ | ⟨_,h2⟩
   ·exact(ho c h2).1
   ·exact h.obnd L c h2
  glob:=h.glob }
theorem St.giveAny (h:St G n I0 M w0 I β ob s a w) {b k:Nat} {x x':V} {o':Option Nat} (hb:b<s.nb) (hk:(s.bx b)[k]?=some x) (Uk:x.isMk=false) (Di:x'.isMk=false) (ho:∀ c,o'=some c→(c<w.heap.size∧Wr M w0 c)∧(∀ L,ob L≠some c)∧∀ i,β i≠some c)
 (Db:∀ v,LR (Wr M w0) I β w o' v x') :
 St G n I0 M w0 I β (upL ob (.b b k) o') { s with bx:=up s.bx b ((s.bx b).set k x') } a w:=by
 have pY:k<(s.bx b).length:=(ae.1 hk).1
 have ml:(s.bx b).getD k .un=x:=by simp[List.getD,hk]
 have fJ:∀ L c,upL ob (.b b k) o' L=some c→(L=.b b k∧o'=some c)∨(L≠.b b k∧ob L=some c):=fun L c hL=>by
  simp only[upL] at hL
  split at hL
  ·rename_i e;exact .inl ⟨e,hL⟩
  ·rename_i e;exact .inr ⟨e,hL⟩
 exact {
  size:=h.size,defers:=h.defers,below:=h.below,ilow:=h.ilow,kept:=h.kept,ihigh:=h.ihigh,ibnd:=h.ibnd
  fr:=fun t=>by
   have:=h.fr t
   have e:upL ob (.b b k) o' (.t t)=ob (.t t):=by simp[upL]
   rw[e];exact this
  bx:=fun i hi=>by
   obtain⟨b1,cur1,e1,e2,e3,e4,e5,e7⟩:=h.bx i hi
   by_cases qb:i=b
   ·subst qb
    refine⟨b1,cur1,e1,e2,?_,by simp only[bT,fD];exact e4,fun j=>?_,e7⟩
    ·simp only[bT]
     refine e3.congr (by simp) ?_
     by_cases xg:k=0
     ·subst xg
      have g1:((s.bx i).set 0 x').getD 0 .un=x':=by simp[List.getD,pY]
      rw[gC (by unfold bY;rw[g1];exact Di),gC (by unfold bY;rw[ml];exact Uk)]
     ·have:((s.bx i).set k x').getD 0 .un=(s.bx i).getD 0 .un:=by simp[List.getD,cV xg]
      unfold qG
      rw[this]
    ·simp only[bT]
     by_cases hjk:j=k
     ·subst hjk
      have:((s.bx i).set j x').getD j .un=x':=by simp[List.getD,pY]
      rw[this]
      have e:upL ob (.b i j) o' (.b i j)=o':=by simp[upL]
      rw[e]
      exact Db _
     ·have:((s.bx i).set k x').getD j .un=(s.bx i).getD j .un:=by simp[List.getD,cV (gX hjk)]
      rw[this]
      have e:upL ob (.b i k) o' (.b i j)=ob (.b i j):=by simp[upL,hjk]
      rw[e];exact e5 j
   ·refine⟨b1,cur1,e1,e2,by simp only[cF _ _ qb];exact e3,by simp only[cF _ _ qb];exact e4,fun j=>?_,e7⟩
    simp only[cF _ _ qb]
    have e:upL ob (.b b k) o' (.b i j)=ob (.b i j):=by simp[upL,qb]
    rw[e];exact e5 j
  bnone:=h.bnone,ext:=h.ext,bnew:=h.bnew,binj:=h.binj
  oinj:=fun L L' c q1 q2=>by
   rcases fJ L c q1 with⟨h1,h2⟩ | ⟨h1,h2⟩<;>rcases fJ L' c q2 with⟨h3,h4⟩ | ⟨h3,h4⟩
   ·rw[h1,h3]
   ·exact absurd h4 ((ho c h2).2.1 L')
   ·exact absurd h2 ((ho c h4).2.1 L)
   ·exact h.oinj L L' c h2 h4
  obx:=fun L c i q1=>by
   rcases fJ L c q1 with⟨_,h2⟩ | ⟨_,h2⟩
   ·exact(ho c h2).2.2 i
   ·exact h.obx L c i h2
  obnd:=fun L c q1=>by
   rcases fJ L c q1 with⟨_,h2⟩ | ⟨_,h2⟩
   ·exact(ho c h2).1
   ·exact h.obnd L c h2
  glob:=h.glob }
theorem St.more (h:St G n I0 M w0 I β ob s a w) {b:Nat} (hb:b<s.nb) (hl:UL (s.bx b)=true):St G n I0 M w0 I β ob { s with bx:=up s.bx b (s.bx b++[.un]) } a w:=by
 obtain⟨r,fl,l,ot⟩:∃ r fl l,s.bx b=.lp r fl::l:=by
  unfold UL at hl
  split at hl
  ·rename_i e;exact⟨_,_,_,e⟩
  ·cases hl
 exact {
  size:=h.size,defers:=h.defers,below:=h.below,ilow:=h.ilow,kept:=h.kept,ihigh:=h.ihigh,ibnd:=h.ibnd,fr:=h.fr
  bx:=fun i hi=>by
   obtain⟨b1,cur1,e1,e2,e3,e4,e5,e7⟩:=h.bx i hi
   by_cases qb:i=b
   ·subst qb
    refine⟨b1,cur1.push undef,e1,e2,?_,?_,fun j=>?_,e7⟩
    ·simp only[bT]
     rw[ot] at e3 ⊢
     unfold HB at e3 ⊢
     simp only[qG,dx,List.getD_cons_zero] at e3 ⊢
     obtain⟨f,tm,d,g1,m,g2⟩:=e3
     refine⟨f,tm,d,g1,m+1,?_⟩
     rw[g2,Array.push_eq_append,Array.append_assoc,Array.replicate_succ,Array.push_eq_append]
    ·simp only[bT,aj,Array.size_push,bN];omega
    ·simp only[bT]
     have g1:(cur1.push undef).getD j undef=cur1.getD j undef:=by
      rw[ah,ah,Array.getElem?_push]
      split
      ·rename_i e;subst e;simp
      ·rfl
     have g2:(s.bx i++[V.un]).getD j .un=(s.bx i).getD j .un:=by
      rw[ay,ay,List.getElem?_append]
      split
      ·rfl
      ·rename_i hj
       rw[bq (by omega:(s.bx i).length≤j)]
       cases hq:([V.un]:List V)[j - (s.bx i).length]? with
       |none=>rfl
       |some q=>have:=aT hq;simp at this;subst this;rfl
     rw[g1,g2];exact e5 j
   ·refine⟨b1,cur1,e1,e2,by simp only[cF _ _ qb];exact e3,by simp only[cF _ _ qb];exact e4,fun j=>?_,e7⟩
    simp only[cF _ _ qb];exact e5 j
  bnone:=h.bnone,ext:=h.ext,bnew:=h.bnew,binj:=h.binj,oinj:=h.oinj,obx:=h.obx,obnd:=h.obnd,glob:=h.glob }
theorem OwnG.cool {o:Option Nat} (h:OwnG base I w E es o v):∃ I':Ft,(∀ b o,I b o→I' b o)∧(∀ b k,I' b k→I b k∨some b=o)∧OwnR base I' w E es o v:=by
 rcases h with⟨h0,h1,h2,a,h3⟩ | ⟨e,blk,cap,cur,sz,r1,r2,r3,r4,r5,r6,r7,r8,r9,r10,_,r12⟩
 ·subst h2;subst h3
  exact⟨I,fun _ _ h=>h,fun _ _ h=>.inl h,.nil a 0 (fun _=>rfl),.inl ⟨h0,h1,a,rfl⟩⟩
 ·subst r1
  refine⟨fun b' o=>I b' o∨(b'=blk∧o<es.length*sz),fun _ _ h=>.inl h,fun b k h=>?_,?_⟩
  ·rcases h with h | ⟨rfl,_⟩
   ·exact .inl h
   ·exact .inr rfl
  ·have jn:CR (fun b' o=>I b' o∨(b'=blk∧o<es.length*sz)) w (.slice (some ⟨blk,0,none⟩) es.length cap) (.sl es):=
    CR.row (I':=fun b' o=>I b' o∨(b'=blk∧o<es.length*sz)) (cap:=cap) (es:=es) (sz:=sz) r5 r6 r9 (fun q c hq=>by
     have h0:=(ae.1 hq).1
     rw[bE _ r9] at h0
     have h1:=aL sz r6
     exact⟨by rw[r8];omega,(r10 q c hq).mono fun b o h=>⟨.inl h,rfl⟩⟩) (fun o ho=>.inr ⟨rfl,ho⟩)
   rw[r3]
   refine⟨jn,.inr ⟨e,blk,cap,cur,sz,rfl,r2,rfl,r4,r5,r6,r7,r8,r9,fun o ho=>?_⟩⟩
   rcases ho with ho | ho
   ·exact absurd ho (r12 o)
   ·exact ho.2
end
section
variable {P:Program} {G:Gl} {tr:List Nat} {n:Nat} {I0:Ft} {M:Mx} {w0:World} {I:Ft} {β:Nat→Option Nat} {ob:Loc→Option Nat} {s:S} {a:Act} {w:World} {o:Oper}
 {next:Act→World→Prop} {Q:Exit→Act→World→Prop} {base:Nat→Prop} {v:Value} {x y:V}
theorem PR.ren {ρ:Nat→Nat} {β':Nat→Option Nat} {m:Nat} (h:PR I β w v (x.renP ρ)) (hx:x.ltP m) (hβ:∀ i b,i<m→β (ρ i)=some b→β' i=some b):PR I β' w v x:=by
 cases x<;>simp only[V.ltP] at hx<;>simp only[V.renP,PR] at h ⊢<;>try exact h
 ·obtain⟨blk,h1,h2⟩:=h;exact⟨blk,hβ _ _ hx h1,h2⟩
 ·obtain⟨h0,blk,o',c',D2,h1,h2⟩:=h;exact⟨h0,blk,o',c',D2,hβ _ _ hx h1,h2⟩
 ·obtain⟨blk,h1,h2⟩:=h;exact⟨blk,hβ _ _ hx h1,h2⟩
 ·obtain⟨blk,h1,h2⟩:=h;exact⟨blk,hβ _ _ hx h1,h2⟩
 ·obtain⟨blk,h1,h2⟩:=h;exact⟨blk,hβ _ _ hx h1,h2⟩
theorem aaN {ρ:Nat→Nat} (h:x.renP ρ=.un):x=.un:=by cases x<;>first | rfl | cases h
theorem OZ {ρ:Nat→Nat} (h:(x.renP ρ).isAT=true):x.renP ρ=x:=by cases x<;>first | rfl | cases h
theorem QE {ρ:Nat→Nat}:(x.renP ρ).isAT=x.isAT:=by cases x<;>rfl
theorem KR.ren {ρ:Nat→Nat} {β':Nat→Option Nat} {m:Nat} (h:KR I β w v (x.renP ρ)) (hx:x.ltP m) (hβ:∀ i b,i<m→β (ρ i)=some b→β' i=some b):KR I β' w v x:=by
 rcases h with h | ⟨h1,h2⟩ | h
 ·exact .inl (aaN h)
 ·have e:=OZ h1;rw[e] at h1 h2;exact .inr (.inl ⟨h1,h2⟩)
 ·exact .inr (.inr (h.ren hx hβ))
theorem LR.ren {ρ:Nat→Nat} {β':Nat→Option Nat} {m:Nat} {ox:Option Nat} (h:LR base I β w ox v (x.ren ρ)) (hx:x.lt m) (hβ:∀ i b,i<m→β (ρ i)=some b→β' i=some b):LR base I β' w ox v x:=by
 cases x<;>simp only[V.lt] at hx<;>simp only[V.ren,LR] at h ⊢<;>try exact h
 ·obtain⟨blk,h1,h2⟩:=h;exact⟨blk,hβ _ _ hx h1,h2⟩
 ·obtain⟨vf,vc,h1,h2,h3,h4,h5⟩:=h
  rw[ak] at h2 h3
  exact⟨vf,vc,h1,h2,h3,fun j x hj=>(h4 j (x.renP ρ) (by simp[hj])).ren (hx.1 x (aT hj)) hβ,fun j x hj=>(h5 j (x.renP ρ) (by simp[hj])).ren (hx.2 x (aT hj)) hβ⟩
 ·obtain⟨h0,blk,o',c',D2,h1,h2⟩:=h;exact⟨h0,blk,o',c',D2,hβ _ _ hx h1,h2⟩
 ·obtain⟨cs,h1,h2,h3⟩:=h
  rw[ak] at h2
  exact⟨cs,h1,h2,fun j x hj=>(h3 j (x.renP ρ) (by simp[hj])).ren (hx x (aT hj)) hβ⟩
 ·obtain⟨blk,h1,h2⟩:=h;exact⟨blk,hβ _ _ hx h1,h2⟩
 ·obtain⟨blk,m,h1,h2,h3,h4⟩:=h;exact⟨blk,m,h1,h2,hβ _ _ hx h3,h4⟩
 ·obtain⟨blk,h1,h2⟩:=h;exact⟨blk,hβ _ _ hx h1,h2⟩
 ·obtain⟨tm,h1,h2⟩:=h
  exact⟨tm,h1,fun t y hy=>KR.ren (m:=m) (ρ:=ρ) (h2 t (y.renP ρ) (bA.2 ⟨(t,y),hy,rfl⟩)) (hx _ hy) hβ⟩
 ·obtain⟨blk,h1,h2⟩:=h;exact⟨blk,hβ _ _ hx h1,h2⟩
theorem PR.toRen {ρ:Nat→Nat} {β':Nat→Option Nat} (h:PR I β w v x) (hβ:∀ i b,β i=some b→β' (ρ i)=some b):PR I β' w v (x.renP ρ):=by
 cases x<;>simp only[V.renP,PR] at h ⊢<;>try exact h
 ·obtain⟨blk,h1,h2⟩:=h;exact⟨blk,hβ _ _ h1,h2⟩
 ·obtain⟨h0,blk,o',c',D2,h1,h2⟩:=h;exact⟨h0,blk,o',c',D2,hβ _ _ h1,h2⟩
 ·obtain⟨blk,h1,h2⟩:=h;exact⟨blk,hβ _ _ h1,h2⟩
 ·obtain⟨blk,h1,h2⟩:=h;exact⟨blk,hβ _ _ h1,h2⟩
 ·obtain⟨blk,h1,h2⟩:=h;exact⟨blk,hβ _ _ h1,h2⟩
theorem KR.toRen {ρ:Nat→Nat} {β':Nat→Option Nat} (h:KR I β w v x) (hβ:∀ i b,β i=some b→β' (ρ i)=some b):KR I β' w v (x.renP ρ):=by
 rcases h with rfl | ⟨h1,h2⟩ | h
 ·exact .inl rfl
 ·have h3:(x.renP ρ).isAT=true:=by rw[QE];exact h1
  rw[OZ h3];exact .inr (.inl ⟨h1,h2⟩)
 ·exact .inr (.inr (h.toRen hβ))
theorem AO {α γ:Type} {l:List α} {f:α→γ} {j:Nat} {y:γ} (h:(l.map f)[j]?=some y):∃ x,l[j]?=some x∧f x=y:=by simpa using h
theorem LR.toRen {ρ:Nat→Nat} {β':Nat→Option Nat} {ox:Option Nat} (h:LR base I β w ox v x) (hβ:∀ i b,β i=some b→β' (ρ i)=some b):LR base I β' w ox v (x.ren ρ):=by
 cases x<;>simp only[V.ren,LR] at h ⊢<;>try exact h
 ·obtain⟨blk,h1,h2⟩:=h;exact⟨blk,hβ _ _ h1,h2⟩
 ·obtain⟨vf,vc,h1,h2,h3,h4,h5⟩:=h
  refine⟨vf,vc,h1,by rw[ak];exact h2,by rw[ak];exact h3,fun j x hj=>?_,fun j x hj=>?_⟩
  ·obtain⟨y,hy,rfl⟩:=AO hj;exact(h4 j y hy).toRen hβ
  ·obtain⟨y,hy,rfl⟩:=AO hj;exact(h5 j y hy).toRen hβ
 ·obtain⟨h0,blk,o',c',D2,h1,h2⟩:=h;exact⟨h0,blk,o',c',D2,hβ _ _ h1,h2⟩
 ·obtain⟨cs,h1,h2,h3⟩:=h
  refine⟨cs,h1,by rw[ak];exact h2,fun j x hj=>?_⟩
  obtain⟨y,hy,rfl⟩:=AO hj;exact(h3 j y hy).toRen hβ
 ·obtain⟨blk,h1,h2⟩:=h;exact⟨blk,hβ _ _ h1,h2⟩
 ·obtain⟨blk,m,h1,h2,h3,h4⟩:=h;exact⟨blk,m,h1,h2,hβ _ _ h3,h4⟩
 ·obtain⟨blk,h1,h2⟩:=h;exact⟨blk,hβ _ _ h1,h2⟩
 ·obtain⟨tm,h1,h2⟩:=h
  refine⟨tm,h1,fun t y hy=>?_⟩
  obtain⟨⟨t',z⟩,hz,e⟩:=bA.1 hy
  cases e
  exact(h2 _ z hz).toRen hβ
 ·obtain⟨blk,h1,h2⟩:=h;exact⟨blk,hβ _ _ h1,h2⟩
theorem LR.wider {base':Nat→Prop} {ox:Option Nat} (h:LR base I β w ox v x) (hb:∀ b,ox=some b→base' b):LR base' I β w ox v x:=by
 cases x<;>simp only[LR] at h ⊢<;>try exact h
 ·obtain⟨h1,h2⟩:=h
  refine⟨h1,?_⟩
  rcases h2 with h2 | ⟨e,blk,cap,cur,sz,q1,q2,q3,q4,q5⟩
  ·exact .inl h2
  ·exact .inr ⟨e,blk,cap,cur,sz,q1,q2,q3,hb _ q1,q5⟩
 ·obtain⟨blk,m,h1,h2,h3⟩:=h;exact⟨blk,m,h1,hb _ h1,h3⟩
 ·obtain⟨h1,h2⟩:=h
  refine⟨h1,?_⟩
  rcases h2 with h2 | ⟨e,blk,cap,cur,sz,q1,q2,q3,q4,q5⟩
  ·exact .inl h2
  ·exact .inr ⟨e,blk,cap,cur,sz,q1,q2,q3,hb _ q1,q5⟩
 ·obtain⟨h1,e,blk,cap,cur,sz,q1,q2,q3,q4,q5⟩:=h
  exact⟨h1,e,blk,cap,cur,sz,q1,q2,q3,hb _ q1,q5⟩
 ·obtain⟨h1,h2⟩:=h
  refine⟨h1,?_⟩
  rcases h2 with h2 | ⟨e,blk,cap,cur,sz,q1,q2,q3,q4,q5⟩
  ·exact .inl h2
  ·exact .inr ⟨e,blk,cap,cur,sz,q1,q2,q3,hb _ q1,q5⟩
 ·rcases h with h2 | ⟨e,blk,cap,cur,sz,q1,q2,q3,q4,q5⟩
  ·exact .inl h2
  ·exact .inr ⟨e,blk,cap,cur,sz,q1,q2,q3,hb _ q1,q5⟩
theorem Bl {ρ:Nat→Nat} (l:List V) (j:Nat):(l.map (V.ren ρ)).getD j .un=(l.getD j .un).ren ρ:=by
 simp only[ay,ba]
 cases l[j]?<;>rfl
theorem Iy {ρ:Nat→Nat} (l:List V):qG (l.map (V.ren ρ))=qG l:=by
 unfold qG
 rw[Bl]
 cases l.getD 0 .un<;>rfl
theorem pC {ρ:Nat→Nat}:∀ (bl:List (List V)) (k i:Nat) (b:List V),qH s.bx s.nb ρ k bl→bl[i]?=some b→ρ (k+i)<s.nb∧s.bx (ρ (k+i))=b.map (V.ren ρ)
 |[],_,i,b,_,hb=>by simp at hb
 |c::r,k,0,b,h,hb=>by simp at hb;subst hb;exact h.1
 |c::r,k,i+1,b,h,hb=>by
  have:=pC r (k+1) i b h.2 (by simpa using hb)
  rw[show k+(i+1)=k+1+i by omega];exact this
theorem n0 {ρ:Nat→Nat}:∀ (bl:List (List V)) (k:Nat) (f:Nat→List V) (j:Nat),(∀ i,i<bl.length→ρ (k+i)≠j)→fM ρ k bl f j=f j
 |[],_,_,_,_=>rfl
 |b::r,k,f,j,h=>by
  simp only[fM]
  rw[n0 r (k+1) _ j (fun i hi=>by rw[show k+1+i=k+(i+1) by omega];exact h (i+1) (by simp;omega))]
  exact cF _ _ (fun e=>h 0 (by simp) e.symm)
theorem tK {ρ:Nat→Nat}:∀ (bl:List (List V)) (k:Nat) (f:Nat→List V) (i:Nat) (b:List V),bl[i]?=some b→(∀ i j,i<bl.length→j<bl.length→ρ (k+i)=ρ (k+j)→i=j)→
 fM ρ k bl f (ρ (k+i))=b.map (V.ren ρ)
 |[],_,_,i,b,h,_=>by simp at h
 |c::r,k,f,0,b,h,qa=>by
  simp at h;subst h
  simp only[fM]
  rw[n0 r (k+1) _ _ (fun i hi e=>by
   have:=qa (i+1) 0 (by simp;omega) (by simp) (by rw[show k+(i+1)=k+1+i by omega];exact e)
   omega)]
  rw[eI];exact bT _ _ _
 |c::r,k,f,i+1,b,h,qa=>by
  simp only[fM]
  rw[show k+(i+1)=k+1+i by omega]
  refine tK r (k+1) _ i b (by simpa using h) fun i' j' hi hj e=>?_
  have:=qa (i'+1) (j'+1) (by simp;omega) (by simp;omega) (by rw[show k+(i'+1)=k+1+i' by omega,show k+(j'+1)=k+1+j' by omega];exact e)
  omega
theorem xx {ρ:List Nat} {nb:Nat} (hn:ρ.Nodup) (hl:∀ i,i<ρ.length→ρ.getD i 0<nb) (i j:Nat) (h:rho ρ nb i=rho ρ nb j):i=j:=by
 unfold rho at h
 by_cases hi:i<ρ.length<;>by_cases hj:j<ρ.length
 ·rw[if_pos hi,if_pos hj] at h
  simp only[ay,ab hi,ab hj,cG] at h
  exact(List.getElem_inj hn).1 h
 ·rw[if_pos hi,if_neg hj] at h
  have:=hl i hi;omega
 ·rw[if_neg hi,if_pos hj] at h
  have:=hl j hj;omega
 ·rw[if_neg hi,if_neg hj] at h;omega
def Mof (β:Nat→Option Nat) (ob:Loc→Option Nat) (ρ:Nat→Nat) (k:Nat) (b:Nat):Prop:=(∃ q,q<k∧β (ρ q)=some b)∨∃ q j,q<k∧ob (.b (ρ q) j)=some b
def lP (β:Nat→Option Nat) (ρ:Nat→Nat) (k i:Nat):Option Nat:=if i<k then β (ρ i) else none
def obC (ob:Loc→Option Nat) (ρ:Nat→Nat) (k i j:Nat):Option Nat:=if i<k then ob (.b (ρ i) j) else none
theorem nE {ρ:Nat→Nat} {k i b:Nat} (h:lP β ρ k i=some b):i<k∧β (ρ i)=some b:=by
 unfold lP at h;split at h
 ·exact⟨‹_›,h⟩
 ·cases h
theorem xz {ρ:Nat→Nat} {k i j b:Nat} (h:obC ob ρ k i j=some b):i<k∧ob (.b (ρ i) j)=some b:=by
 unfold obC at h;split at h
 ·exact⟨‹_›,h⟩
 ·cases h
theorem St.give (hst:St G n I0 M w0 I β ob s a w) {ρ:Nat→Nat} {b0:List (List V)} (qa:∀ i j,ρ i=ρ j→i=j) (jg:qH s.bx s.nb ρ 0 b0) (bV:∀ b∈b0,∀ x∈b,x.lt b0.length) :
 BxR (Wr ⟨Mof β ob ρ b0.length,fun _=>none,[]⟩ w) I w (lP β ρ b0.length) (obC ob ρ b0.length) b0 where
 bx:=fun i cs jo=>by
  have hi:i<b0.length:=(ae.1 jo).1
  obtain⟨h1,h2⟩:=pC b0 0 i cs jg jo
  rw[aK] at h1 h2
  obtain⟨blk,cur,e1,e2,e3,e4,e5,e7⟩:=hst.bx (ρ i) h1
  refine⟨blk,cur,by simp[lP,hi,e1],.inr (.inl ⟨i,hi,e1⟩),e3.congr (by rw[h2,ak]) (by rw[h2,Iy]),by have:=e4;rw[h2,ak] at this;exact this,fun j=>?_,e7⟩
  have:=e5 j
  rw[h2,Bl] at this
  have hx:(cs.getD j .un).lt b0.length:=by
   by_cases hj:j<cs.length
   ·have:cs.getD j .un=cs[j]:=by simp[List.getD,hj]
    rw[this];exact bV cs (aT jo) _ (bM hj)
   ·have:cs.getD j .un=.un:=by simp[List.getD,bq (ec hj)]
    rw[this];exact trivial
  have h3:=this.ren (β':=lP β ρ b0.length) hx (fun i b hi hb=>by simp[lP,hi,hb])
  have h4:obC ob ρ b0.length i j=ob (.b (ρ i) j):=by simp[obC,hi]
  rw[h4]
  exact h3.wider fun b hb=>.inr (.inr ⟨i,j,hi,hb⟩)
 bnone:=fun i hi=>by simp[lP,Nat.not_lt.2 hi]
 binj:=fun i j b hi hj=>by
  obtain⟨_,h1⟩:=nE hi
  obtain⟨_,h2⟩:=nE hj
  exact qa _ _ (hst.binj _ _ b h1 h2)
 oinj:=fun i j i' j' b h h'=>by
  obtain⟨_,h1⟩:=xz h
  obtain⟨_,h2⟩:=xz h'
  have:=hst.oinj _ _ b h1 h2
  simp only[Loc.b.injEq] at this
  exact⟨qa _ _ this.1,this.2⟩
 obx:=fun i j b k h hk=>by
  obtain⟨_,h1⟩:=xz h
  obtain⟨_,h2⟩:=nE hk
  exact hst.obx _ b _ h1 h2
 obnd:=fun i j b h=>by
  obtain⟨hi,h1⟩:=xz h
  exact⟨(hst.obnd _ b h1).1,.inr (.inr ⟨i,j,hi,h1⟩)⟩
 olen:=fun i j hi=>by simp[obC,Nat.not_lt.2 hi]
def rX (ρ:List Nat) (nb i:Nat):Option Nat:=if i∈ρ then some (ρ.idxOf i) else if nb≤i then some (i - nb+ρ.length) else none
theorem U0 {ρ:List Nat} {nb:Nat} (hn:ρ.Nodup) (hl:∀ i,i<ρ.length→ρ.getD i 0<nb) (q:Nat):rX ρ nb (rho ρ nb q)=some q:=by
 unfold rX rho
 by_cases hq:q<ρ.length
 ·have e:ρ.getD q 0=ρ[q]:=by simp[List.getD,hq]
  rw[if_pos hq,e,if_pos (bM hq),hn.idxOf_getElem]
 ·rw[if_neg hq]
  have:¬ (nb+(q - ρ.length))∈ρ:=fun h=>by
   obtain⟨i,hi,e⟩:=fa.1 h
   have:=hl i hi
   have e':ρ.getD i 0=ρ[i]:=by simp[List.getD,hi]
   omega
  rw[if_neg this,if_pos (by omega)]
  congr 1;omega
theorem oa {ρ:List Nat} {nb i q:Nat} (h:rX ρ nb i=some q):rho ρ nb q=i:=by
 unfold rX at h
 split at h
 ·rename_i hi
  simp only[ai] at h
  subst h
  have bV:=List.idxOf_lt_length_of_mem hi
  unfold rho
  rw[if_pos bV]
  simp[List.getD,ab bV]
 ·split at h
  ·rename_i h1 h2
   simp only[ai] at h
   subst h
   unfold rho
   rw[if_neg (by omega)];omega
  ·cases h
theorem En {ρ:List Nat} {nb i:Nat} (h:rX ρ nb i=none):i<nb:=by
 unfold rX at h
 split at h
 ·cases h
 ·split at h
  ·cases h
  ·omega
end
section
variable {P:Program} {G:Gl} {tr:List Nat} {n:Nat} {I0:Ft} {M:Mx} {w0:World} {I:Ft} {β:Nat→Option Nat} {ob:Loc→Option Nat} {s:S} {a:Act} {w:World} {o:Oper}
 {next:Act→World→Prop} {Q:Exit→Act→World→Prop} {base:Nat→Prop} {v:Value} {x y:V}
def pD (β β':Nat→Option Nat) (ρ:List Nat) (nb i:Nat):Option Nat:=match rX ρ nb i with
 |some q=>β' q
 |none=>β i
def obN (ob:Loc→Option Nat) (ob':Nat→Nat→Option Nat) (ρ:List Nat) (nb:Nat):Loc→Option Nat
 | .t i=>ob (.t i)
 | .b i j=>match rX ρ nb i with
  |some q=>ob' q j
  |none=>ob (.b i j)
theorem St.called (hst:St G n I0 M w0 I β ob s a w) {ρ:List Nat} {b0 b1:List (List V)} (hρl:ρ.length=b0.length) (hn:ρ.Nodup) (jg:qH s.bx s.nb (rho ρ s.nb) 0 b0) (ke:b0.length≤b1.length)
 {w':World} {I':Ft} {β':Nat→Option Nat} {ob':Nat→Nat→Option Nat} (uH:BelowM (GT G) ⟨Mof β ob (rho ρ s.nb) b0.length,fun _=>none,[]⟩ w w') (Uh:∀ b o,I b o→I' b o)
 (Qi:∀ b o,I' b o→I b o∨(Wr ⟨Mof β ob (rho ρ s.nb) b0.length,fun _=>none,[]⟩ w b∧b<w'.heap.size)) (vV:∀ b o,I b o→w'.cell? ⟨b,o,none⟩=w.cell? ⟨b,o,none⟩)
 (hβ1:∀ i,i<b0.length→β' i=lP β (rho ρ s.nb) b0.length i) (Uz:∀ i b,b0.length≤i→β' i=some b→Wr ⟨Mof β ob (rho ρ s.nb) b0.length,fun _=>none,[]⟩ w b)
 (ot:BxR (Wr ⟨Mof β ob (rho ρ s.nb) b0.length,fun _=>none,[]⟩ w) I' w' β' ob' b1) :
 St G n I0 M w0 I' (pD β β' ρ s.nb) (obN ob ob' ρ s.nb) { s with bx:=fM (rho ρ s.nb) 0 b1 s.bx,nb:=s.nb+(b1.length - b0.length) } a w'∧
 (∀ i b,β' i=some b→pD β β' ρ s.nb (rho ρ s.nb i)=some b)∧
 (∀ b,Wr ⟨Mof β ob (rho ρ s.nb) b0.length,fun _=>none,[]⟩ w b→Wr M w0 b)∧
 (∀ b,Wr ⟨Mof β ob (rho ρ s.nb) b0.length,fun _=>none,[]⟩ w b→(∀ i j,ob' i j≠some b)→∀ L,obN ob ob' ρ s.nb L≠some b)∧
 (∀ b,Wr ⟨Mof β ob (rho ρ s.nb) b0.length,fun _=>none,[]⟩ w b→(∀ i,β' i≠some b)→∀ i,pD β β' ρ s.nb i≠some b)∧
 (∀ i b,β i=some b→pD β β' ρ s.nb i=some b):=by
 have hl:∀ i,i<ρ.length→ρ.getD i 0<s.nb:=fun i hi=>by
  obtain⟨b,hb⟩:∃ b,b0[i]?=some b:=⟨_,ab (by omega)⟩
  have:=(pC b0 0 i b jg hb).1
  rw[aK] at this
  simpa[rho,hi] using this
 have qa:=xx hn hl
 have hir:=U0 hn hl
 have zq:∀ b,Wr ⟨Mof β ob (rho ρ s.nb) b0.length,fun _=>none,[]⟩ w b→Wr M w0 b:=fun b hb=>by
  rcases hb with hb | ⟨q,hq,hb⟩ | ⟨q,j,hq,hb⟩
  ·exact .new hst.below hb
  ·exact(hst.boxblk hb).2.1
  ·exact(hst.obnd _ b hb).2
 have notM1:∀ i b,rX ρ s.nb i=none→β i=some b→¬ Wr ⟨Mof β ob (rho ρ s.nb) b0.length,fun _=>none,[]⟩ w b:=fun i b hi hb hw=>by
  rcases hw with hw | ⟨q,hq,h1⟩ | ⟨q,j,hq,h1⟩
  ·have:=(hst.boxblk hb).2.2;omega
  ·have:=hst.binj _ _ b h1 hb
   rw[← this,hir] at hi;cases hi
  ·exact hst.obx _ b i h1 hb
 have notM2:∀ L b,(∀ i j q,L=.b i j→rX ρ s.nb i≠some q)→ob L=some b→¬ Wr ⟨Mof β ob (rho ρ s.nb) b0.length,fun _=>none,[]⟩ w b:=fun L b hL hb hw=>by
  rcases hw with hw | ⟨q,hq,h1⟩ | ⟨q,j,hq,h1⟩
  ·have:=(hst.obnd _ b hb).1;omega
  ·exact hst.obx _ b _ hb h1
  ·have:=hst.oinj _ _ b hb h1
   exact hL _ _ q this (hir q)
 have hβn:∀ i b,β i=some b→pD β β' ρ s.nb i=some b:=fun i b hb=>by
  unfold pD
  cases hi:rX ρ s.nb i with
  |none=>exact hb
  |some q=>
   have e:=oa hi
   have bV:=(hst.boxblk hb).1
   have hq:q<ρ.length:=by
    by_cases hq:q<ρ.length
    ·exact hq
    ·unfold rho at e;rw[if_neg hq] at e;omega
   simp only
   rw[hβ1 q (by omega)]
   unfold lP
   rw[if_pos (by omega),e];exact hb
 have hI:∀ b o,I b o→I' b o∧w'.cell? ⟨b,o,none⟩=w.cell? ⟨b,o,none⟩:=fun b o hb=>⟨Uh b o hb,vV b o hb⟩
 have lG:∀ b,b<w.heap.size→¬ Wr ⟨Mof β ob (rho ρ s.nb) b0.length,fun _=>none,[]⟩ w b→w'.heap[b]?=w.heap[b]?∧∀ o,I' b o→I b o:=fun b hb hw=>
  ⟨uH.block b hb (fun h=>hw (.inr h)),fun o ho=>by
   rcases Qi b o ho with h | h
   ·exact h
   ·exact absurd h.1 hw⟩
 have hbN:∀ i b,pD β β' ρ s.nb i=some b→(∃ q,rX ρ s.nb i=some q∧β' q=some b)∨(rX ρ s.nb i=none∧β i=some b):=fun i b hb=>by
  unfold pD at hb
  cases hi:rX ρ s.nb i with
  |none=>rw[hi] at hb;exact .inr ⟨rfl,hb⟩
  |some q=>rw[hi] at hb;exact .inl ⟨q,rfl,hb⟩
 have hoN:∀ L b,obN ob ob' ρ s.nb L=some b→(∃ i j q,L=.b i j∧rX ρ s.nb i=some q∧ob' q j=some b)∨((∀ i j q,L=.b i j→rX ρ s.nb i≠some q)∧ob L=some b):=fun L b hb=>by
  cases L with
  |t i=>exact .inr ⟨fun i j q h=>(by cases h),hb⟩
  |b i j=>
   simp only[obN] at hb
   cases hi:rX ρ s.nb i with
   |none=>rw[hi] at hb;exact .inr ⟨fun i' j' q h=>(by cases h;rw[hi];simp),hb⟩
   |some q=>rw[hi] at hb;exact .inl ⟨i,j,q,rfl,hi,hb⟩
 have hβw:∀ q b,β' q=some b→Wr ⟨Mof β ob (rho ρ s.nb) b0.length,fun _=>none,[]⟩ w b:=fun q b hb=>by
  by_cases hq:q<b0.length
  ·rw[hβ1 q hq] at hb
   exact .inr (.inl ⟨q,(nE hb).1,(nE hb).2⟩)
  ·exact Uz q b (by omega) hb
 have how:∀ i j b,ob' i j=some b→Wr ⟨Mof β ob (rho ρ s.nb) b0.length,fun _=>none,[]⟩ w b:=fun i j b hb=>(ot.obnd i j b hb).2
 have fJ:∀ i b,β' i=some b→pD β β' ρ s.nb (rho ρ s.nb i)=some b:=fun i b hb=>by
  unfold pD;rw[hir];exact hb
 refine⟨{
  size:=hst.size,defers:=hst.defers
  below:=⟨uH.os.trans hst.below.os,uH.tape.trans hst.below.tape,uH.output.trans hst.below.output,df hst.below.size uH.size,fun k hk hM=>
   (uH.block k (bW hk hst.below.size) (fun h=>by
    rcases zq k (.inr h) with h1 | h1
    ·omega
    ·exact hM h1)).trans (hst.below.block k hk hM),fun t=>df (hst.below.drawn t) (uH.drawn t)⟩
  ilow:=fun b o h=>Uh b o (hst.ilow b o h)
  kept:=fun b o h=>(vV b o (hst.ilow b o h)).trans (hst.kept b o h)
  ihigh:=fun b o h=>by
   rcases Qi b o h with h | h
   ·exact hst.ihigh b o h
   ·exact .inr (zq b h.1)
  ibnd:=fun b o h=>by
   rcases Qi b o h with h | h
   ·exact bW (hst.ibnd b o h) uH.size
   ·exact h.2
  fr:=fun t=>(hst.fr t).mono hI hβn fun b hb=>lG b (hst.obnd _ b hb).1 (notM2 (.t t) b (fun i j q h=>by cases h) hb)
  bx:=fun i hi=>by
   simp only at hi
   cases hq:rX ρ s.nb i with
   |some q=>
    have e:=oa hq
    have hqb:q<b1.length:=by
     by_cases h1:q<ρ.length
     ·omega
     ·unfold rho at e;rw[if_neg h1] at e;omega
    obtain⟨blk,cur,e1,e2,e3,e4,e5,e7⟩:=ot.bx q _ (ab hqb)
    have pZ:fM (rho ρ s.nb) 0 b1 s.bx i=b1[q].map (V.ren (rho ρ s.nb)):=by
     have:=tK (ρ:=rho ρ s.nb) b1 0 s.bx q _ (ab hqb) (fun i j _ _ h=>by rw[aK,aK] at h;exact qa i j h)
     rw[aK,e] at this;exact this
    refine⟨blk,cur,by unfold pD;rw[hq];exact e1,zq _ e2,e3.congr (by simp only[pZ,ak]) (by simp only[pZ,Iy]),by simp only[pZ,ak];exact e4,fun j=>?_,e7⟩
    simp only[pZ,Bl]
    have:obN ob ob' ρ s.nb (.b i j)=ob' q j:=by simp only[obN,hq]
    rw[this]
    exact((e5 j).toRen fJ).wider fun b hb=>zq b (how q j b hb)
   |none=>
    have bV:=En hq
    obtain⟨blk,cur,e1,e2,e3,e4,e5,e7⟩:=hst.bx i bV
    have hnw:=notM1 i blk hq e1
    obtain⟨g1,g2⟩:=lG blk e3.lt hnw
    have pZ:fM (rho ρ s.nb) 0 b1 s.bx i=s.bx i:=n0 b1 0 s.bx i fun q _ h=>by
     rw[aK] at h
     rw[← h,hir] at hq;cases hq
    refine⟨blk,cur,hβn i blk e1,e2,(e3.mono g1).congr (by simp only[pZ]) (by simp only[pZ]),by simp only[pZ];exact e4,fun j=>?_,fun o ho=>e7 o (g2 o ho)⟩
    simp only[pZ]
    have:obN ob ob' ρ s.nb (.b i j)=ob (.b i j):=by simp only[obN,hq]
    rw[this]
    exact(e5 j).mono hI hβn fun b hb=>lG b (hst.obnd _ b hb).1 (notM2 (.b i j) b (fun i' j' q h=>by cases h;rw[hq];simp) hb)
  bnone:=fun i hi=>by
   simp only at hi
   unfold pD
   cases hq:rX ρ s.nb i with
   |some q=>
    have e:=oa hq
    refine ot.bnone q ?_
    by_cases h1:q<ρ.length
    ·unfold rho at e;rw[if_pos h1] at e;have:=hl q h1;omega
    ·unfold rho at e;rw[if_neg h1] at e;omega
   |none=>have:=En hq;omega
  ext:=fun i b he=>hβn i b (hst.ext i b he)
  bnew:=fun i b hi=>by
   rcases hbN i b hi with⟨q,h1,h2⟩ | ⟨h1,h2⟩
   ·by_cases hq:q<b0.length
    ·rw[hβ1 q hq] at h2
     have:=hst.bnew _ b (nE h2).2
     rw[oa h1] at this;exact this
    ·exact .inr (zq b (Uz q b (by omega) h2))
   ·exact hst.bnew i b h2
  binj:=fun i j b hi hj=>by
   rcases hbN i b hi with⟨q,h1,h2⟩ | ⟨h1,h2⟩<;>rcases hbN j b hj with⟨p,h3,h4⟩ | ⟨h3,h4⟩
   ·have:=ot.binj q p b h2 h4
    rw[← oa h1,← oa h3,this]
   ·exact absurd (hβw q b h2) (notM1 j b h3 h4)
   ·exact absurd (hβw p b h4) (notM1 i b h1 h2)
   ·exact hst.binj i j b h2 h4
  oinj:=fun L L' b hL yA=>by
   rcases hoN L b hL with⟨i,j,q,rfl,h1,h2⟩ | ⟨h1,h2⟩<;>rcases hoN L' b yA with⟨i',j',q',rfl,h3,h4⟩ | ⟨h3,h4⟩
   ·obtain⟨e1,e2⟩:=ot.oinj q j q' j' b h2 h4
    rw[← oa h1,← oa h3,e1,e2]
   ·exact absurd (how q j b h2) (notM2 L' b h3 h4)
   ·exact absurd (how q' j' b h4) (notM2 L b h1 h2)
   ·exact hst.oinj L L' b h2 h4
  obx:=fun L b i hL hi=>by
   rcases hoN L b hL with⟨i',j,q,rfl,h1,h2⟩ | ⟨h1,h2⟩<;>rcases hbN i b hi with⟨p,h3,h4⟩ | ⟨h3,h4⟩
   ·exact ot.obx q j b p h2 h4
   ·exact absurd (how q j b h2) (notM1 i b h3 h4)
   ·exact absurd (hβw p b h4) (notM2 L b h1 h2)
   ·exact hst.obx L b i h2 h4
  obnd:=fun L b hL=>by
   rcases hoN L b hL with⟨i',j,q,rfl,h1,h2⟩ | ⟨h1,h2⟩
   ·exact⟨(ot.obnd q j b h2).1,zq b (how q j b h2)⟩
   ·exact⟨bW (hst.obnd L b h2).1 uH.size,(hst.obnd L b h2).2⟩
  glob:=fun g cs hg=>(hst.glob g cs hg).mono hI },fJ,zq,fun b hw fS L hL=>by
  rcases hoN L b hL with⟨i',j,q,rfl,h1,h2⟩ | ⟨h1,h2⟩
  ·exact fS q j h2
  ·exact notM2 L b h1 h2 hw,fun b hw fS i hi=>by
  rcases hbN i b hi with⟨q,h1,h2⟩ | ⟨h1,h2⟩
  ·exact fS q h2
  ·exact notM1 i b h1 h2 hw,hβn⟩
end
section
variable {P:Program} {G:Gl} {tr:List Nat} {n:Nat} {I0:Ft} {M:Mx} {w0:World} {I:Ft} {β:Nat→Option Nat} {ob:Loc→Option Nat} {s:S} {a:Act} {w:World} {o:Oper}
 {next:Act→World→Prop} {Q:Exit→Act→World→Prop} {base:Nat→Prop} {v:Value} {x y:V}
def ArgsL (base:Nat→Prop) (I:Ft) (β:Nat→Option Nat) (w:World) (vs:List Value) (xs:List V):Prop:=vs.length=xs.length∧∀ (j:Nat) (x:V),xs[j]?=some x→LR base I β w none (vs.getD j undef) x.fz
theorem ArgsL.append {vs us:List Value} {xs ys:List V} (h:ArgsL base I β w vs xs) (h':ArgsL base I β w us ys):ArgsL base I β w (vs++us) (xs++ys):=by
 refine⟨by simp[h.1,h'.1],fun j x hx=>?_⟩
 have hl:=h.1
 by_cases hj:j<xs.length
 ·rw[az hj] at hx
  have:=h.2 j x hx
  rw[ay,az (by omega)]
  rw[ay] at this
  exact this
 ·rw[aF (by omega)] at hx
  have:=h'.2 _ x hx
  rw[ay,aF (by omega),hl]
  rw[ay] at this
  exact this
theorem uK (hst:St G n I0 M w0 I β ob s a w):∀ l:List Operand,ArgsL (Wr M w0) I β w (l.map a.eval) (l.map (ev G s))
 |[]=>⟨rfl,by simp⟩
 |x::l=>by
  have ih:=uK hst l
  refine⟨by simp,fun j z hz=>?_⟩
  cases j with
  |zero=>simp at hz;subst hz;exact xo hst x
  |succ j=>simpa using ih.2 j z (by simpa using hz)
theorem yK (hst:St G n I0 M w0 I β ob s a w):∀ l:List Operand,ArgsL (Wr M w0) I β w (l.map a.eval) (l.map (evX G s))
 |[]=>⟨rfl,by simp⟩
 |x::l=>by
  have ih:=yK hst l
  refine⟨by simp,fun j z hz=>?_⟩
  cases j with
  |zero=>
   simp at hz;subst hz
   unfold evX
   split
   ·exact .ofC (.ex _ rfl rfl)
   ·exact xo hst x
  |succ j=>simpa using ih.2 j z (by simpa using hz)
theorem uL (vs:Array Value) (cs:List C) (h:vs.size=cs.length) (hc:∀ j c,cs[j]?=some c→CR I w (vs.getD j undef) c):ArgsL base I β w vs.toList (cs.map .c):=by
 refine⟨by simp[h],fun j x hx=>?_⟩
 obtain⟨c,h1,rfl⟩:=AO hx
 have:=hc j c h1
 rw[ay,aO]
 rw[ah] at this
 exact .ofC this
theorem uN (vs:Array Value) (xs:List V) (h:vs.size=xs.length) (hc:∀ j x,xs[j]?=some x→PR I β w (vs.getD j undef) x):ArgsL base I β w vs.toList xs:=by
 refine⟨by simp[h],fun j x hx=>?_⟩
 have:=hc j x hx
 rw[ay,aO]
 rw[ah] at this
 exact(PR.toLR this).fz none
theorem Iz (hst:St G n I0 M w0 I β ob s a w) (hd:∀ d,o.dst=some d→d<n) {f:FuncId} {vs:List Value} {all:List V} {ρ:List Nat} {cargs:List V} {b0 b1:List (List V)} {r:V}
 (eK:FnB P G f cargs b0 r b1) (dy:ArgsL (Wr M w0) I β w vs all) (en:all.map V.fz=cargs.map (V.ren (rho ρ s.nb))) (hρ:ρ.length=b0.length∧ρ.Nodup) (jg:qH s.bx s.nb (rho ρ s.nb) 0 b0)
 (bH:(execOp a.eval o).run P w=.ok (.enter f vs.toArray) w)
 (hk:∀ a' w',SE G n I0 M w0 (({ s with bx:=fM (rho ρ s.nb) 0 b1 s.bx,nb:=s.nb+(b1.length - b0.length) }:S).put o.dst (r.ren (rho ρ s.nb))) a' w'→next a' w'):o.wp P a w next Q:=by
 unfold Oper.wp
 rw[bH]
 simp only[Oper.upon]
 obtain⟨hρl,hn⟩:=hρ
 obtain⟨zr,yz,ke⟩:=eK.2.1
 have hl:∀ i,i<ρ.length→ρ.getD i 0<s.nb:=fun i hi=>by
  obtain⟨b,hb⟩:∃ b,b0[i]?=some b:=⟨_,ab (by omega)⟩
  have:=(pC b0 0 i b jg hb).1
  rw[aK] at this
  simpa[rho,hi] using this
 have qa:=xx hn hl
 have cn:all.length=cargs.length:=by simpa using nq List.length en
 refine (eK.2.2 I ⟨Mof β ob (rho ρ s.nb) b0.length,fun _=>none,[]⟩ w vs.toArray (lP β (rho ρ s.nb) b0.length) (obC ob (rho ρ s.nb) b0.length) hst.ibnd hst.glob (hst.give qa jg yz)
  (by have:=dy.1;simp;omega) (fun j x hx=>?_)).mono ?_
 ·have hj:j<cargs.length:=(ae.1 hx).1
  have hz:all[j]?=some all[j]:=ab (by omega)
  have h1:=dy.2 j _ hz
  have h2:all[j].fz=x.ren (rho ρ s.nb):=by
   have e1:(all.map V.fz)[j]?=some all[j].fz:=by simp[hz]
   have e2:(cargs.map (V.ren (rho ρ s.nb)))[j]?=some (x.ren (rho ρ s.nb)):=by simp[hx]
   rw[en,e2] at e1
   exact(dz e1).symm
  rw[h2] at h1
  have h3:=h1.ren (β':=lP β (rho ρ s.nb) b0.length) (zr x (aT hx)) (fun i b hi hb=>by simp[lP,hi,hb])
  have h4:=h3.wider (base':=Wr ⟨Mof β ob (rho ρ s.nb) b0.length,fun _=>none,[]⟩ w) fun b hb=>by cases hb
  simpa using h4
 ·rintro e w' ⟨v,I',β',ob',o',rfl,uH,Uh,Qi,vV,hβ1,Uz,ot,hZ,sP⟩
  simp only
  obtain⟨cy,fJ,zq,fS,AE,_⟩:=hst.called hρl hn jg ke uH Uh Qi vV hβ1 Uz ot
  refine hk _ _ ?_
  have aaf:LR (Wr M w0) I' (pD β β' ρ s.nb) w' o' v (r.ren (rho ρ s.nb)):=(hZ.toRen fJ).wider fun b hb=>zq b (sP b hb).1.2
  cases lF:o.dst with
  |none=>exact⟨_,_,_,cy⟩
  |some d=>
   refine⟨_,_,_,cy.put d (hd d lF) aaf fun b hb=>?_⟩
   obtain⟨⟨h1,h2⟩,h3,h4⟩:=sP b hb
   refine⟨⟨h1,zq b h2⟩,fun L hL=>?_,AE b h2 h4⟩
   simp only[upL] at hL
   split at hL
   ·cases hL
   ·exact fS b h2 h3 L hL
theorem rY {K:S→V→Prop} {f:Operand} {args:Array Operand} {ts:Array TypeId} (ho:o.op=.call { callee:=.value f,args:=args,argTypes:=ts }) (hst:St G n I0 M w0 I β ob s a w)
 (hd:∀ d,o.dst=some d→d<n) (h:vcallB P G s (ev G s f) (args.toList.map (ev G s)) K) (hk:∀ a' w' s' x,K s' x→SE G n I0 M w0 (s'.put o.dst x) a' w'→next a' w'):o.wp P a w next Q:=by
 have hf:=bD hst f
 unfold vcallB kD at h
 split at h
 ·rename_i g all sS
  obtain⟨ρ,cargs,b0,r,b1,eK,en,hρ,jg,hK⟩:=h
  obtain⟨fn,h1,h2,c,h3⟩:=eK.1
  unfold gu at sS
  split at sS
  ·rename_i g' fs cs he
   simp only[ai,dC] at sS
   obtain⟨rfl,rfl⟩:=sS
   rw[he] at hf
   obtain⟨vf,vc,hv,q1,q2,q3,q4⟩:=hf.toC.fn_inv
   have bH:=rj (P:=P) (w:=w) ho hv h1 h2 h3
   refine Iz hst hd eK (vs:=vf.toList++args.toList.map a.eval++vc.toList) (((uL vf fs q1 q3).append (uK hst _)).append (uL vc cs q2 q4)) en hρ jg ?_ (fun a' w'=>hk a' w' _ _ hK)
   rw[bH];congr 2;apply da;simp
  ·rename_i g' fs cs he
   simp only[ai,dC] at sS
   obtain⟨rfl,rfl⟩:=sS
   rw[he] at hf
   simp only[LR] at hf
   obtain⟨vf,vc,hv,q1,q2,q3,q4⟩:=hf
   have bH:=rj (P:=P) (w:=w) ho hv h1 h2 h3
   refine Iz hst hd eK (vs:=vf.toList++args.toList.map a.eval++vc.toList) (((uN vf fs q1 q3).append (uK hst _)).append (uN vc cs q2 q4)) en hρ jg ?_ (fun a' w'=>hk a' w' _ _ hK)
   rw[bH];congr 2;apply da;simp
  ·cases sS
 ·exact h.elim
theorem IA (hst:St G n I0 M w0 I β ob s a w) (hd:∀ d,o.dst=some d→d<n) {f:FuncId} {vs:List Value} {all:List V} {ρ:List Nat} {cargs:List V} {b0:List (List V)} {R:V→List (List V)→Prop}
 (eK:FnE P G f cargs b0 R) (dy:ArgsL (Wr M w0) I β w vs all) (en:all.map V.fz=cargs.map (V.ren (rho ρ s.nb))) (hρ:ρ.length=b0.length∧ρ.Nodup) (jg:qH s.bx s.nb (rho ρ s.nb) 0 b0)
 (bH:(execOp a.eval o).run P w=.ok (.enter f vs.toArray) w)
 (hk:∀ r b1,R r b1→∀ a' w',SE G n I0 M w0 (({ s with bx:=fM (rho ρ s.nb) 0 b1 s.bx,nb:=s.nb+(b1.length - b0.length) }:S).put o.dst (r.ren (rho ρ s.nb))) a' w'→next a' w'):o.wp P a w next Q:=by
 unfold Oper.wp
 rw[bH]
 simp only[Oper.upon]
 obtain⟨hρl,hn⟩:=hρ
 obtain⟨zr,yz,ke⟩:=eK.2.1
 have hl:∀ i,i<ρ.length→ρ.getD i 0<s.nb:=fun i hi=>by
  obtain⟨b,hb⟩:∃ b,b0[i]?=some b:=⟨_,ab (by omega)⟩
  have:=(pC b0 0 i b jg hb).1
  rw[aK] at this
  simpa[rho,hi] using this
 have qa:=xx hn hl
 have cn:all.length=cargs.length:=by simpa using nq List.length en
 refine (eK.2.2 I ⟨Mof β ob (rho ρ s.nb) b0.length,fun _=>none,[]⟩ w vs.toArray (lP β (rho ρ s.nb) b0.length) (obC ob (rho ρ s.nb) b0.length) hst.ibnd hst.glob (hst.give qa jg yz)
  (by have:=dy.1;simp;omega) (fun j x hx=>?_)).mono ?_
 ·have hj:j<cargs.length:=(ae.1 hx).1
  have hz:all[j]?=some all[j]:=ab (by omega)
  have h1:=dy.2 j _ hz
  have h2:all[j].fz=x.ren (rho ρ s.nb):=by
   have e1:(all.map V.fz)[j]?=some all[j].fz:=by simp[hz]
   have e2:(cargs.map (V.ren (rho ρ s.nb)))[j]?=some (x.ren (rho ρ s.nb)):=by simp[hx]
   rw[en,e2] at e1
   exact(dz e1).symm
  rw[h2] at h1
  have h3:=h1.ren (β':=lP β (rho ρ s.nb) b0.length) (zr x (aT hx)) (fun i b hi hb=>by simp[lP,hi,hb])
  have h4:=h3.wider (base':=Wr ⟨Mof β ob (rho ρ s.nb) b0.length,fun _=>none,[]⟩ w) fun b hb=>by cases hb
  simpa using h4
 ·rintro e w' ⟨r,b1,hR,v,I',β',ob',o',rfl,uH,Uh,Qi,vV,hβ1,Uz,ot,hZ,sP⟩
  simp only
  obtain⟨cy,fJ,zq,fS,AE,_⟩:=hst.called hρl hn jg (ke r b1 hR) uH Uh Qi vV hβ1 Uz ot
  refine hk r b1 hR _ _ ?_
  have aaf:LR (Wr M w0) I' (pD β β' ρ s.nb) w' o' v (r.ren (rho ρ s.nb)):=(hZ.toRen fJ).wider fun b hb=>zq b (sP b hb).1.2
  cases lF:o.dst with
  |none=>exact⟨_,_,_,cy⟩
  |some d=>
   refine⟨_,_,_,cy.put d (hd d lF) aaf fun b hb=>?_⟩
   obtain⟨⟨h1,h2⟩,h3,h4⟩:=sP b hb
   refine⟨⟨h1,zq b h2⟩,fun L hL=>?_,AE b h2 h4⟩
   simp only[upL] at hL
   split at hL
   ·cases hL
   ·exact fS b h2 h3 L hL
theorem Gn {K:S→V→Prop} {f:Operand} {args:Array Operand} {ts:Array TypeId} (ho:o.op=.call { callee:=.value f,args:=args,argTypes:=ts }) (hst:St G n I0 M w0 I β ob s a w)
 (hd:∀ d,o.dst=some d→d<n) (h:kZ P G s (ev G s f) (args.toList.map (evX G s)) K) (hk:∀ a' w' s' x,K s' x→SE G n I0 M w0 (s'.put o.dst x) a' w'→next a' w'):o.wp P a w next Q:=by
 have hf:=bD hst f
 unfold kZ at h
 split at h
 ·rename_i g all sS
  obtain⟨ρ,cargs,b0,R,eK,en,hρ,jg,hK⟩:=h
  obtain⟨fn,h1,h2,c,h3⟩:=eK.1
  unfold gu at sS
  split at sS
  ·rename_i g' fs cs he
   simp only[ai,dC] at sS
   obtain⟨rfl,rfl⟩:=sS
   rw[he] at hf
   obtain⟨vf,vc,hv,q1,q2,q3,q4⟩:=hf.toC.fn_inv
   have bH:=rj (P:=P) (w:=w) ho hv h1 h2 h3
   refine IA hst hd eK (vs:=vf.toList++args.toList.map a.eval++vc.toList) (((uL vf fs q1 q3).append (yK hst _)).append (uL vc cs q2 q4)) en hρ jg ?_ (fun r b1 hR a' w'=>hk a' w' _ _ (hK r b1 hR))
   rw[bH];congr 2;apply da;simp
  ·rename_i g' fs cs he
   simp only[ai,dC] at sS
   obtain⟨rfl,rfl⟩:=sS
   rw[he] at hf
   simp only[LR] at hf
   obtain⟨vf,vc,hv,q1,q2,q3,q4⟩:=hf
   have bH:=rj (P:=P) (w:=w) ho hv h1 h2 h3
   refine IA hst hd eK (vs:=vf.toList++args.toList.map a.eval++vc.toList) (((uN vf fs q1 q3).append (yK hst _)).append (uN vc cs q2 q4)) en hρ jg ?_ (fun r b1 hR a' w'=>hk a' w' _ _ (hK r b1 hR))
   rw[bH];congr 2;apply da;simp
  ·cases sS
 ·exact h.elim
end
def FW (l:Option Nat):Fence:={ Fence.wide with round:=l }
section
variable {P:Program} {n:Nat} {l:Option Nat} {a:Act} {w:World} {o:Oper} {next:Act→World→Prop} {Q:Exit→Act→World→Prop}
theorem pE {f:FuncId} {args:Array Value} {R:Ending→World→Prop}:CallsIn (FW l) n P f args w R↔Calls P f args w R:=callsIn_wide (n:=n)
theorem QF {row:String} {args:Array Value} {R:Value→World→Prop} (h:Rows P row args w R):RowsIn (FW l) n P row args w R:=
 fun c cs _=>let⟨v,w',h1,h2⟩:=h c cs;⟨v,w',h1,stepsIn_wide.2 h2⟩
theorem MF {k:Nat} {r:Nat} {f:FuncId} {tmps:Array Value} {assign body:Code} {R:Ending→World→Prop} (h:RoundIn Fence.wide k P r f tmps assign body w R):RoundIn (FW l) n P r f tmps assign body w R:=
 ⟨trivial,fun c cs _=>h.2 c cs (room_wide _)⟩
theorem wm (oV:∀ c,o.op≠.defer c) (h:o.wp P a w next Q):o.wpIn (FW l) n P a w next Q:=by
 refine⟨fun _ _=>trivial,?_⟩
 rw[Oper.semAt_eq _ _ _ oV]
 unfold Oper.wp at h
 have hd:(FW l).depth.isSome=true→1≤n:=fun h=>by cases h
 generalize (execOp a.eval o).run P w=r at *
 cases r with
 |ok x w'=>
  cases x<;>simp only[Oper.upon,Oper.uponIn] at h ⊢<;>first
   |exact h
   |exact⟨hd,pE.2 h⟩
   |exact⟨hd,QF h⟩
   |exact h.elim
 |halt x w'=>cases x<;>simp only[Oper.upon,Oper.uponIn] at h ⊢<;>exact h
def Bm (ops:Array Oper):Bool:=ops.toList.all fun o=>match o.op with | .defer _=>false | _=>true
theorem MG {ops:Array Oper} (h:Bm ops=true) (ho:o∈ops.toList):∀ c,o.op≠.defer c:=fun c hc=>by
 have:=aV.1 h o ho
 rw[hc] at this;cases this
theorem aaO {ops:Array Oper} (oV:Bm ops=true) (hQ:¬ LetsOut Q) {i:Nat} {K K':Act→World→Prop} (hK:∀ a w,K a w→K' a w) (h:wpOp P ops Q i K a w):wpOpIn (FW l) n P ops Q i K' a w:=by
 unfold wpOp at h
 unfold wpOpIn
 split
 ·rename_i ho;rw[ho] at h;exact hK _ _ h
 ·rename_i o ho
  rw[ho] at h
  have hm:o∈ops.toList:=by have:=eB ho;simpa using this
  simp only at h
  split
  ·rename_i hw
   rw[if_pos hw] at h
   rcases h with h | h
   ·exact wm (MG oV hm) (Oper.wp_mono hK h)
   ·exact absurd h.2 hQ
  ·rename_i hw
   rw[if_neg hw] at h
   exact⟨fun _ _=>trivial,hK _ _ h⟩
theorem xA {ops:Array Oper} {md:Region.Mode} (oV:Bm ops=true) (hQ:¬ LetsOut Q):∀ (fuel:Nat) (listed:Array Bool) (a:Act) (w:World),wpAny P md ops Q fuel listed a w→wpAnyIn (FW l) n P md ops Q fuel listed a w
 |0,_,_,_,h=>h
 |fuel+1,_,_,_,h=>⟨h.1,fun i hi=>aaO oV hQ (fun a w h=>xA oV hQ fuel _ a w h) (h.2 i hi)⟩
section
variable {b:Frame} {k:List Item} {cs:List Frame}
theorem mq {c:Code}:step P (lone (b.atR a (.code (.scope c)::k)) cs w)=.next (lone (b.atR a (.code c::.inScope c::k)) cs w):=
 step_lone_go (by simp[stepG,stepG.exec,Frame.atR])
theorem DG {c:Code}:step P (lone (b.atR a (.inScope c::k)) cs w)=.next (lone (b.atR a k) cs w):=
 step_lone_go (by simp[stepG,stepG.exec,Frame.atR])
end
theorem vt {c:Code} (h:c.wpIn (FW l) n P (Exit.noGoto Q) a w):(Code.scope c).wpIn (FW l) n P Q a w:=by
 intro b k cs Qj hb hr
 have h0:(lone (b.atR a (.code (.scope c)::k)) cs w).fenced P (FW l):=fenced_calm hb hr rfl
 obtain⟨e,a₁,w₁,hq,Ul⟩:=h b (.inScope c::k) cs Qj hb hr
 cases e with
 |normal=>exact⟨.normal,a₁,w₁,hq,.head h0 mq (StepsIn.trans Ul (.one (fenced_calm hb hr rfl) DG))⟩
 |exit id=>
  have hx:exitTo id (.inScope c::k)=exitTo id k:=by simp[exitTo]
  exact⟨.exit id,a₁,w₁,hq,fun k' hk=>.head h0 mq (Ul.1 k' (by rw[hx];exact hk)),
   fun hr' hk=>let⟨k₁,h1,h2⟩:=Ul.2 hr' (by rw[hx];exact hk);⟨k₁,h1,.head h0 mq h2⟩⟩
 |goto l=>exact hq.elim
 |ret=>exact⟨_,a₁,w₁,hq,.of_steps (.one h0 mq) Ul⟩
 |panic ch=>exact⟨_,a₁,w₁,hq,.of_steps (.one h0 mq) Ul⟩
 |outgrown=>exact⟨_,a₁,w₁,hq,.of_steps (.one h0 mq) Ul⟩
end
section
variable {P:Program} {G:Gl} {tr:List Nat} {n:Nat} {I0:Ft} {M:Mx} {w0:World} {I:Ft} {β:Nat→Option Nat} {ob:Loc→Option Nat} {s:S} {a:Act} {w:World} {o:Oper}
 {next:Act→World→Prop} {Q:Exit→Act→World→Prop} {base:Nat→Prop} {v:Value} {x y:V}
theorem SE.put (h:St G n I0 M w0 I β ob s a w) {dst:Option Tmp} (hd:∀ d,dst=some d→d<n) (hv:LR (Wr M w0) I β w none v x):SE G n I0 M w0 (s.put dst x) (a.put dst v) w:=by
 cases dst with
 |none=>exact⟨_,_,_,h⟩
 |some d=>exact⟨_,_,_,h.put d (hd d rfl) hv FreeOb.nothing⟩
theorem U1 {u:Value} {c:C} (h:zc u=some c):LR base I β w none u (ny c):=by
 unfold zc at h
 split at h
 ·simp only[ai] at h;subst h
  exact⟨.nil none 0 (fun _=>rfl),.inl ⟨rfl,rfl,none,rfl⟩⟩
 ·split at h
  ·simp only[ai] at h;subst h
   exact .ofLit ‹_›
  ·cases h
theorem St.newCells (hst:St G n I0 M w0 I β ob s a w) (e:TypeId) {cells:Array Value} {cs:List C} (hc:Cells I w cells cs) :
 St G n I0 M w0 I (up β s.nb (some w.heap.size)) (fun L=>match L with | .b i j=>if i=s.nb then none else ob (.b i j) | L=>ob L)
  { s with bx:=up s.bx s.nb (cs.map .c),nb:=s.nb+1 } a (w.alloc (.cells cells e)):=
 hst.newBox (cur:=cells) (T:=.of e) (cs:=cs.map .c) (od:=fun _=>none) (Nat.le_of_eq (by simpa using hc.1.symm)) RT.of_ok (fun q=>by
  by_cases hq:q<cs.length
  ·have e2:(cs.map V.c).getD q .un=.c cs[q]:=by simp[List.getD,hq]
   rw[e2];exact .ofC (hc.2 q _ (ab hq))
  ·have e2:(cs.map V.c).getD q .un=.un:=by simp[List.getD,bq (ec hq)]
   rw[e2];simp only[LR];exact .un _) (fun u hu=>by
  obtain⟨q,hq,rfl⟩:=fq.1 hu
  have nr:q<cs.length:=by rw[← hc.1];exact hq
  have:=(hc.2 q _ (ab nr)).oneCell
  simpa[ax hq,hq] using this) (fun _ _ h=>by cases h) (fun _ _ _ h=>by cases h) (by cases cs<;>rfl)
theorem St.newPre (hst:St G n I0 M w0 I β ob s a w) (e:TypeId) {cells:Array Value} {cs:List C} (fC:cs.length≤cells.size) (jn:∀ q c,cs[q]?=some c→CR I w (cells.getD q undef) c)
 (jJ:∀ u∈cells,u.oneCell'=true) :
 St G n I0 M w0 I (up β s.nb (some w.heap.size)) (fun L=>match L with | .b i j=>if i=s.nb then none else ob (.b i j) | L=>ob L)
  { s with bx:=up s.bx s.nb (cs.map .c),nb:=s.nb+1 } a (w.alloc (.cells cells e)):=
 hst.newBox (cur:=cells) (T:=.of e) (cs:=cs.map .c) (od:=fun _=>none) (by simpa using fC) RT.of_ok (fun q=>by
  by_cases hq:q<cs.length
  ·have e2:(cs.map V.c).getD q .un=.c cs[q]:=by simp[List.getD,hq]
   rw[e2];exact .ofC (jn q _ (ab hq))
  ·have e2:(cs.map V.c).getD q .un=.un:=by simp[List.getD,bq (ec hq)]
   rw[e2];simp only[LR];exact .un _) jJ (fun _ _ h=>by cases h) (fun _ _ _ h=>by cases h) (by cases cs<;>rfl)
theorem MH {K:S→Prop} {T:TypeId} {p X:Operand} {i:TI} {blk j b k len cap q:Nat} {E:TypeId} {es:List (List C)} {cs:List C} (hst:St G n I0 M w0 I β ob s a w) (hd:∀ d,o.dst=some d→d<n) (b8:o.op=.store T p X) (hi:ti P T=some i) (hp:ev G s p=.c (.ex (.pointer (some ⟨blk,j,none⟩))))
 (hb:b<s.nb) (kR:bY (s.bx b)=false) (hkk:(s.bx b)[k]?=some (.gg (.slice (some ⟨blk,0,none⟩) len cap) (some (E,i.size)) es)) (jo:(ev G s X).cs=some cs) (kf:cs.length=i.size) (hpz:0<i.size) (hq:q<es.length) (hj:q*i.size=j)
 (h:K ((let s':=s.use (bU tr o);{ s' with bx:=up s.bx b ((s.bx b).set k (.gg (.slice (some ⟨blk,0,none⟩) len cap) (some (E,i.size)) (es.set q cs))) }:S).put o.dst .sk))
 (hk:∀ a' w' s',K s'→SE G n I0 M w0 s' a' w'→next a' w'):o.wp P a w next Q:=by
 obtain⟨j',d,FC,D6,_,fC,_,kO,_⟩:=bu hi
 obtain⟨ob',h1,h2⟩:=hst.use (bU tr o)
 have ot:(s.use (bU tr o)).bx=s.bx∧(s.use (bU tr o)).nb=s.nb:=by
  cases bU tr o with
  |none=>exact⟨rfl,rfl⟩
  |some t=>simp only[S.use];split<;>exact⟨rfl,rfl⟩
 have OH:=bD hst p
 rw[hp] at OH
 have hpe:=OH.toC.ex_inv
 have qF:=Ih (bD hst X) jo
 obtain⟨cur,⟨g1,g2,g3,g4,g5,g6,g7⟩,pZ⟩:=h1.ggSet (b:=b) (k:=k) (by rw[ot.2];exact hb) (by rw[ot.1];exact hkk)
 have kU:=bE es g5
 have AD:(a.eval X).cells.toList.length=i.size:=by rw[bK,qF.1,kf]
 have OI:cur.toList.length=cur.size:=bK
 have ke:=aL i.size (show q+1≤cap by omega)
 have aae:=aL i.size (show q+1≤es.length from hq)
 rw[c8,mK,← g3,hj] at ke
 rw[c8,mK,hj] at aae
 have LD:RelL I w (a.eval X).cells.toList cs:=fun q c hq=>by
  have:=qF.2 q c hq
  have nr:q<(a.eval X).cells.size:=by rw[qF.1];exact(ae.1 hq).1
  refine⟨(a.eval X).cells[q],by rw[aO,ax nr],?_⟩
  rw[ah,ax nr] at this
  exact this
 have LF:∀ u∈(a.eval X).cells.toList,u.oneCell'=true:=fun u hu=>by
  obtain⟨q,hq⟩:=eA.1 hu
  have nr:q<cs.length:=by rw[kf,← AD];exact(ae.1 hq).1
  obtain⟨u',A4,jn⟩:=LD q _ (ab nr)
  rw[hq] at A4;cases A4
  exact jn.oneCell
 have tf:RelL I w cur.toList es.flatten:=fun q c hq=>by
  have nr:=(ae.1 hq).1
  rw[kU] at nr
  have:=aL i.size g4
  refine⟨cur.getD q undef,?_,g6 q c hq⟩
  rw[aO,ah,ax (show q<cur.size by omega)];rfl
 have bH:(Instr.storeAt T (a.eval p) (a.eval X)).run P w=.ok () (w.setRow blk (cur.toList.take j++(a.eval X).cells.toList++cur.toList.drop (j+i.size)).toArray):=by
  rw[hpe]
  simp only[Instr.storeAt,Instr.sureAddr,aC,a8,aw]
  unfold storeVar
  simp only[aC,eW w FC,aw]
  rw[if_neg (by rw[eu FC,← fC,qF.1,kf];simp)]
  have:=fH (P:=P) blk j (.of E) (a.eval X).cells.toList 0 cur w g2 RT.of_ok (by rw[AD];omega) LF
  rw[AD] at this
  simpa using this
 have pg:=pZ (es.set q cs) (cur.toList.take j++(a.eval X).cells.toList++cur.toList.drop (j+i.size)) (by simp) (fun x hx=>by
  rcases List.mem_or_eq_of_mem_set hx with hx | rfl
  ·exact g5 x hx
  ·exact kf)
  (by rw[aj,aj,AD,aG,b9,OI,bI (by omega)];omega)
  (fun u hu=>by
   rcases aZ.1 hu with hu | hu
   ·rcases aZ.1 hu with hu | hu
    ·exact g7 u (bZ.1 (cU hu))
    ·exact LF u hu
   ·exact g7 u (bZ.1 (cM hu)))
  (by
   rw[Gj g5 hq,hj]
   refine RelL.append (RelL.append (tf.take _) LD ?_) (tf.drop _) ?_
   ·rw[aG,aG,OI,kU,bI (by omega),bI (by omega)]
   ·rw[aj,aj,AD,kf,aG,aG,OI,kU,bI (by omega),bI (by omega)])
 unfold Oper.wp
 obtain⟨dst,op,type,pos,after,guard⟩:=o
 simp only at b8;subst b8
 simp only[execOp,aC,bH,aw,a8,Oper.upon]
 rw[ot.1] at pg
 have vH:=SE.put (v:=undef) (x:=.sk) pg hd (by simp only[LR];exact .sk)
 exact hk _ _ _ h vH
theorem Bn {ρ:Nat→Nat}:∀ (b:List (List V)) (i:Nat) (bx:Nat→List V) (nb:Nat),qH bx nb ρ i b→fM ρ i b bx=bx
 |[],_,_,_,_=>rfl
 |x::r,i,bx,nb,h=>by
  have e:up bx (ρ i) (x.map (V.ren ρ))=bx:=by rw[← h.1.2,rS]
  show fM ρ (i+1) r (up bx (ρ i) (x.map (V.ren ρ)))=bx
  rw[e];exact Bn r (i+1) bx nb h.2
theorem U2 {f:V} {args:List V} {K:V→Prop} (h:pz P G s f args K):vcallB P G s f args (fun s' x=>s'=s∧K x):=by
 unfold pz at h
 unfold vcallB kD
 split at h
 ·rename_i g all hc
  simp only[hc]
  obtain⟨ρ,cargs,b0,r,h1,h2,h3,h4,h5,h6⟩:=h
  refine⟨ρ,cargs,b0,r,b0,h1,h2 _,h3,h4 _,?_,by rw[h5];exact h6⟩
  rw[Bn _ _ _ _ (h4 s.nb),Nat.sub_self];rfl
 ·exact h.elim
theorem Eo {K:V→Prop} {f:Operand} {args:Array Operand} {ts:Array TypeId} (ho:o.op=.call { callee:=.value f,args:=args,argTypes:=ts }) (hst:St G n I0 M w0 I β ob s a w) (hd:∀ d,o.dst=some d→d<n)
 (h:VYQ P G tr o s f args K) (hk:∀ a' w' x,K x→SE G n I0 M w0 (s.after tr o x) a' w'→next a' w'):o.wp P a w next Q:=by
 unfold VYQ at h
 split at h
 ·refine rY ho hst hd (U2 h) (fun a' w' s' x hK dB=>?_)
  obtain⟨rfl,hx⟩:=hK
  refine hk a' w' x hx ?_
  have hc:bU tr o=none:=by simp[bU,ho]
  unfold S.after
  rw[hc];exact dB
 ·exact po (tr:=tr) hst hd h hk
theorem qk {K:S→Prop} (hst:St G n I0 M w0 I β ob s a w) (hd:∀ d,o.dst=some d→d<n) (hy:qd tr o=false) (h:VStep P G tr o s K)
 (hk:∀ a' w' s',K s'→SE G n I0 M w0 s' a' w'→next a' w'):o.wp P a w next Q:=by
 have gen:VYK P G tr o s (fun v=>K (s.after tr o v))→o.wp P a w next Q:=fun h=>po (tr:=tr) hst hd h (fun a' w' x hx dB=>hk _ _ _ hx dB)
 unfold VStep at h
 split at h
 ·
  rename_i T b8
  split at h
  ·rename_i z _ _ hi
   obtain⟨j,d,h1,h2,_,_,_,_,hz,_⟩:=bu hi
   simp only at hz
   split at hz
   ·rename_i zv ta
    have cn:=List.mapM_eq_some_length hz.symm
    have AE:=hst.newBox (cur:=zv.cells) (T:=.of T) (cs:=z.map ny) (od:=fun _=>none) (Nat.le_of_eq (by simpa using cn)) RT.of_ok (fun q=>by
     by_cases hq:q<z.length
     ·obtain⟨u,hu,sM⟩:=List.mapM_eq_some_get hz.symm q z[q] (ab hq)
      have e1:zv.cells.getD q undef=u:=by rw[aO] at hu;simp[hu]
      have e2:(z.map ny).getD q .un=ny z[q]:=by simp[List.getD,hq]
      rw[e1,e2];exact U1 sM
     ·have e2:(z.map ny).getD q .un=.un:=by simp[List.getD,bq (ec hq)]
      rw[e2];simp only[LR];exact .un _) (fun u hu=>by
     obtain⟨q,hq,rfl⟩:=fq.1 hu
     have nr:q<z.length:=by rw[cn];simpa using hq
     obtain⟨u,hu,sM⟩:=List.mapM_eq_some_get hz.symm q z[q] (ab nr)
     rw[aO,ax hq] at hu
     cases hu
     exact(OV (I:=I) (w:=w) sM).oneCell) (fun _ _ h=>by cases h) (fun _ _ _ h=>by cases h) (AN fun x hx=>by
     obtain⟨c,_,rfl⟩:=bA.1 hx
     unfold ny;split<;>rfl)
    refine ep (v':=.pointer (some ⟨w.heap.size,0,none⟩)) (w':=w.alloc (.cells zv.cells T)) ?_ (hk _ _ _ h (SE.put AE hd ?_))
    ·have bH:(Instr.alloc T true (.tuple #[])).run P w=.ok (.pointer (some ⟨w.heap.size,0,none⟩)) (w.alloc (.cells zv.cells T)):=by
      simp[Instr.alloc,zeroValue,typeInfo,h1,ta,newVar,newRow]
     obtain⟨dst,op,type,pos,after,guard⟩:=o
     simp only at b8
     subst b8
     simp only[execOp,aC,bH,aw,a8]
    ·simp only[LR];exact⟨w.heap.size,by simp,rfl⟩
   ·cases hz
  ·exact h.elim
 ·
  rename_i T X b8
  split at h
  ·rename_i cs jo
   obtain⟨ob',h1,h2⟩:=hst.use (bU tr o)
   obtain⟨b1,b2,b3⟩:=Ej (bD hst X) jo
   have aag:bU tr o=(match X with | .tmp t=>some t | _=>none):=by
    obtain⟨dst,op,type,pos,after,guard⟩:=o
    simp only at b8;subst b8
    cases X<;>rfl
   have ot:(s.use (bU tr o)).bx=s.bx∧(s.use (bU tr o)).nb=s.nb:=by
    cases bU tr o with
    |none=>exact⟨rfl,rfl⟩
    |some t=>simp only[S.use];split<;>exact⟨rfl,rfl⟩
   have AE:=h1.newBox (cur:=(a.eval X).cells) (T:=.of T) (cs:=cs) (od:=fun j=>if j=0∧(ev G s X).isOw=true then UN ob X else none) (Nat.le_of_eq b1.symm) RT.of_ok b2 b3 (fun j b hb=>by
    split at hb
    ·rename_i hj
     cases X with
     |tmp t=>
      refine⟨hst.obnd _ b hb,fun L hL=>?_,fun i=>hst.obx _ b i hb⟩
      obtain⟨q1,q2⟩:=h2 L b hL
      have:=q2 t aag (hst.oinj _ _ b q1 hb)
      simp only[ev] at hj
      rw[hj.2] at this;cases this
     |_=>cases hb
    ·cases hb) (fun j j' b hb yB=>by
    split at hb<;>split at yB<;>try cases hb
    all_goals try cases yB
    rename_i q1 q2
    rw[q1.1,q2.1]) (AN (Ek (bD hst X) jo))
   refine ep (v':=.pointer (some ⟨w.heap.size,0,none⟩)) (w':=w.alloc (.cells (a.eval X).cells T)) ?_ (hk _ _ _ h (SE.put AE hd ?_))
   ·obtain⟨dst,op,type,pos,after,guard⟩:=o
    simp only at b8;subst b8
    simp[execOp,Instr.box,newVar,newRow]
   ·simp only[LR];exact⟨w.heap.size,by rw[ot.2];simp,rfl⟩
  ·exact h.elim
 ·
  rename_i T p X b8
  replace h:=h.2
  split at h
  ·rename_i i b k cs hi hp jo
   obtain⟨j,d,FC,D6,_,fC,_⟩:=bu hi
   obtain⟨⟨hb,cn,sO,kR⟩,h⟩:=h
   obtain⟨ob',h1,h2⟩:=hst.use (bU tr o)
   obtain⟨b1,b2,b3⟩:=Ej (bD hst X) jo
   have aag:bU tr o=(match X with | .tmp t=>some t | _=>none):=by
    obtain⟨dst,op,type,pos,after,guard⟩:=o
    simp only at b8;subst b8
    cases X<;>rfl
   have ot:(s.use (bU tr o)).bx=s.bx∧(s.use (bU tr o)).nb=s.nb:=by
    cases bU tr o with
    |none=>exact⟨rfl,rfl⟩
    |some t=>simp only[S.use];split<;>exact⟨rfl,rfl⟩
   have OH:=bD hst p
   rw[hp] at OH
   simp only[LR] at OH
   obtain⟨blk,hβ,hpe⟩:=OH
   obtain⟨sN,cur,e1,e2,e3,e4,_⟩:=hst.bx b hb
   obtain⟨T',e3,_,hT⟩:=e3.cells kR
   rw[hβ] at e1;cases e1
   have hsb:=h1.setBox (i:=b) (k:=k) (blk:=blk) (cur:=cur) (T:=T') (vs:=(a.eval X).cells.toList) (ds:=cs) (od:=fun j=>if j=0∧(ev G s X).isOw=true then UN ob X else none)
    (by rw[ot.2];exact hb) hβ e3 hT (by simpa using b1) (by rw[ot.1,cn];exact sO) (fun q=>by
     have:=b2 q
     rw[ay,aO,← ah];exact this) (by simpa using b3) (fun j b hb=>by
    split at hb
    ·rename_i hj
     cases X with
     |tmp t=>
      refine⟨hst.obnd _ b hb,fun L hL=>?_,fun i=>hst.obx _ b i hb⟩
      obtain⟨q1,q2⟩:=h2 L b hL
      have:=q2 t aag (hst.oinj _ _ b q1 hb)
      simp only[ev] at hj
      rw[hj.2] at this;cases this
     |_=>cases hb
    ·cases hb) (fun j j' b hb yB=>by
    split at hb<;>split at yB<;>try cases hb
    all_goals try cases yB
    rename_i q1 q2
    rw[q1.1,q2.1]) (by rw[ot.1];exact kR) (Ek (bD hst X) jo)
   have bH:(Instr.storeAt T (a.eval p) (a.eval X)).run P w=.ok () (w.setRow blk (cur.toList.take k++(a.eval X).cells.toList++cur.toList.drop (k+(a.eval X).cells.toList.length)).toArray):=by
    rw[hpe]
    simp only[Instr.storeAt,Instr.sureAddr,aC,a8,aw]
    unfold storeVar
    simp only[aC,eW w FC,aw]
    rw[if_neg (by rw[eu FC,← fC,b1,cn];simp)]
    have:=fH (P:=P) blk k T' (a.eval X).cells.toList 0 cur w e3 hT (by simp only[bK,eI,b1,cn];omega) (by simpa using b3)
    simpa using this
   unfold Oper.wp
   obtain⟨dst,op,type,pos,after,guard⟩:=o
   simp only at b8;subst b8
   simp only[execOp,aC,bH,aw,a8,Oper.upon]
   have vH:=SE.put (v:=undef) (x:=.sk) hsb hd (by simp only[LR];exact .sk)
   exact hk _ _ _ h vH
  ·rename_i i blk j hi hp
   obtain⟨j',d,FC,D6,_,fC,_,kO,_⟩:=bu hi
   rcases h with h | ⟨b,k,len,cap,q,E,es,cs,⟨hb,kR,hkk,jo,kf,hpz,hq,hj⟩,h⟩
   rotate_left
   ·exact MH hst hd b8 hi hp hb kR hkk jo kf hpz hq hj h hk
   obtain⟨b,k,len,cap,E,es,r,e,c,⟨HS,hb,kR,hkk,⟨hj,hr⟩,hc⟩,h⟩:=h
   obtain⟨ob',h1,h2⟩:=hst.use (bU tr o)
   have ot:(s.use (bU tr o)).bx=s.bx∧(s.use (bU tr o)).nb=s.nb:=by
    cases bU tr o with
    |none=>exact⟨rfl,rfl⟩
    |some t=>simp only[S.use];split<;>exact⟨rfl,rfl⟩
   have OH:=bD hst p
   rw[hp] at OH
   have hpe:=OH.toC.ex_inv
   have qF:CR I w (a.eval X) c:=by
    have:=bD hst X
    generalize ev G s X=x at this hc
    cases x<;>simp only[V.asC,ai] at hc<;>try cases hc
    ·exact this.toC
    ·exact this.1
   obtain⟨blk2,cur,b1,g1,g2,g3,g4⟩:=h1.hotCell (b:=b) (k:=k) (by rw[ot.2];exact hb) (by rw[ot.1];exact hkk)
   obtain⟨f0,te,blk3,cap',c2,sz,f1,f2,f3,f4,f5,f6,f7,f8,f9,f10,f11,f12⟩:=g4.hot
   cases f1
   have Uj:=f0 _ rfl
   rw[f3] at Uj
   simp only[eH,ai,iz] at Uj
   obtain⟨⟨rfl,_⟩,rfl,rfl⟩:=Uj
   have he1:(es++[e]).length=es.length+1:=by simp
   have kU:es.flatten.length=es.length*sz:=bE es fun x hx=>f9 x (fB _ hx)
   have Qc:e.length=sz:=f9 e (by simp)
   have hjs:j<c2.size:=by
    have:=aL sz f6
    rw[he1,eC] at this
    omega
   have oL:=qF.notAgg
   have vI:(c2.toList.take j++(a.eval X).cells.toList++c2.toList.drop (j+(a.eval X).cells.toList.length)).toArray=c2.setIfInBounds j (a.eval X):=by
    rw[oL]
    apply da
    rw[Array.toList_setIfInBounds,List.set_eq_take_append_cons_drop,if_pos (by simpa using hjs)]
    simp
   have bH:(Instr.storeAt T (a.eval p) (a.eval X)).run P w=.ok () (w.setRow blk2 (c2.setIfInBounds j (a.eval X))):=by
    rw[hpe,← vI]
    simp only[Instr.storeAt,Instr.sureAddr,aC,a8,aw]
    unfold storeVar
    simp only[aC,eW w FC,aw]
    have jJ:i.size=1:=HS
    rw[if_neg (by rw[eu FC,← fC,jJ,oL];simp)]
    have:=fH (P:=P) blk2 j (.of te) (a.eval X).cells.toList 0 c2 w f5 RT.of_ok (by rw[oL];simp;omega) (by rw[oL];simpa using qF.oneCell)
    simpa using this
   have hg:w.grb (w.setRow blk2 (c2.setIfInBounds j (a.eval X))) (some blk2):=⟨rfl,rfl,rfl,by simp,fun q _ hq=>jT w blk2 q _ (fun e=>hq (by rw[e])),ar _⟩
   have hnh:=lJ w blk2 c2 (c2.setIfInBounds j (a.eval X)) te (0,0) f5
   have jo:∀ o,I blk2 o→(w.setRow blk2 (c2.setIfInBounds j (a.eval X))).cell? ⟨blk2,o,none⟩=w.cell? ⟨blk2,o,none⟩:=fun o ho=>by
    have:=f12 o ho
    rw[he1,Nat.add_sub_cancel] at this
    rw[eZ _ blk2 o _ te (0,0) hnh,eZ w blk2 o c2 te (0,0) f5,Array.getElem?_setIfInBounds_ne (by omega)]
   have ou:∀ b o,I b o→I b o∧(w.setRow blk2 (c2.setIfInBounds j (a.eval X))).cell? ⟨b,o,none⟩=w.cell? ⟨b,o,none⟩:=fun b o ho=>
    ⟨ho,h1.keeps hg (fun r e o ho=>by cases e;exact jo o ho) b o ho⟩
   have hfs:(es++[e.set r c]).flatten=(es++[e]).flatten.set j c:=by
    rw[dG,dG,List.flatten_singleton,List.flatten_singleton,List.set_append_right _ _ (by omega),← hj,iP]
   have hsb:=h1.recell (b:=b) (k:=k) (x':=.hh (some (.slice (some ⟨blk2,0,none⟩) (es++[e]).length cap')) E (es++[e.set r c])) (by rw[ot.2];exact hb) (by rw[ot.1];exact hkk) rfl rfl g1 hg jo (fun _ _ h=>h) (fun _ _ h=>.inl h)
    (fun b2 cur2 q1 q2 q3=>by
     have q4:=q3.hot.1
     refine⟨q4,te,blk2,cap',_,sz,rfl,f2,?_,f4,hnh,?_,f7,by simpa using f8,fun x hx=>?_,fun q d hq=>?_,fun o ho=>?_,fun o ho=>?_⟩
     ·rw[q4 _ rfl];simp
     ·rw[aj] at f6 ⊢;simpa using f6
     ·rcases aZ.1 hx with hx | hx
      ·exact f9 x (fB _ hx)
      ·rw[aW] at hx;subst hx;rw[fD];exact Qc
     ·rw[hfs,List.getElem?_set] at hq
      split at hq
      ·rename_i hqj
       subst hqj
       split at hq
       ·cases hq
        rw[lV _ _ _ hjs]
        exact qF.mono ou
       ·cases hq
      ·rename_i hqj
       rw[getD_set_ne _ _ _ _ (fun e=>hqj e.symm)]
       exact(f10 q d hq).mono ou
     ·exact f11 o (by simpa using ho)
     ·simpa using f12 o ho)
   unfold Oper.wp
   obtain⟨dst,op,type,pos,after,guard⟩:=o
   simp only at b8;subst b8
   simp only[execOp,aC,bH,aw,a8,Oper.upon]
   have vH:=SE.put (v:=undef) (x:=.sk) hsb hd (by simp only[LR];exact .sk)
   exact hk _ _ _ h vH
  ·exact h.elim
 ·
  rename_i T len parts b8
  split at h
  ·obtain⟨e,sz,es,cells,hK,bH,hc⟩:=Aj hst h
   have AE:=hst.newCells e hc
   refine ep (v':=.slice (some ⟨w.heap.size,0,none⟩) len len) (w':=w.alloc (.cells cells e)) ?_ (hk _ _ _ hK (SE.put AE hd ?_))
   ·obtain⟨dst,op,type,pos,after,guard⟩:=o
    simp only at b8;subst b8
    simp only[execOp,aC,bH,aw,a8]
   ·simp only[LR];exact⟨ar _,w.heap.size,0,_,ar _,by simp,.inr rfl,rfl⟩
  split at h
  ·rcases h with h | h
   rotate_left
   ·obtain⟨z,u,w',hz,bH,dB⟩:=Dw (tr:=tr) hst hd h
    refine ep (v':=u) (w':=w') ?_ (hk _ _ _ hz dB)
    obtain⟨dst,op,type,pos,after,guard⟩:=o
    simp only at b8;subst b8
    simp only[execOp,aC,bH,aw,a8]
   unfold xm at h
   split at h
   ·rename_i e _ _ _ _ _ _ hi
    obtain⟨j,d,h1,h2,h3,_⟩:=bu hi
    have pT:=dq h3
    subst pT
    split at h
    ·rename_i sz _ _ z _ _ tu
     obtain⟨j',d',jR,oJ,_,eP,_,_,nj,_⟩:=bu tu
     simp only at nj eP
     obtain⟨⟨rfl,vo,hix,jJ,qY,hsm⟩,h⟩:=h
     split at nj
     ·rename_i zv ta
      have vD:∀ p∈(parts.map fun(i,x)=>(i,a.eval x)).toList,p.2.cells=#[p.2]∧p.2.oneCell'=true:=fun p hp=>by
       simp only[Array.toList_map,bA] at hp
       obtain⟨⟨i,x⟩,hx,rfl⟩:=hp
       have h5:=jJ (i,ev G s x) (bA.2 ⟨(i,x),hx,rfl⟩)
       have:=(xo hst x).oneCell h5
       exact⟨this.2,this.1⟩
      have cn:parts.toList.length=len:=by
       have:=nq List.length hix
       simpa using this
      have hz1:zv.cells.size=1:=by have:=List.mapM_eq_some_length nj.symm;rw[vo] at this;simpa using this.symm
      obtain⟨cells,f1,f2,f3⟩:=Eg (parts.map fun(i,x)=>(i,a.eval x)).toList ((Array.range (len*1)).map (zv.cells[· % zv.cells.size]!)) 0 (by
       rw[← e9]
       have:((parts.map fun(i,x)=>(i,a.eval x)).toList).length=len:=by simpa using cn
       rw[this,← hix,Array.toList_map,fu,fu];rfl) (fun p hp=>(vD p hp).1) (by rw[Array.toList_map,ak,cn];simp)
      have bH:=lZ (P:=P) w T e len (parts.map fun(i,x)=>(i,a.eval x)) cells j' zv h2 jR ta (by rw[← eP];omega) (by rw[← eP];exact f1)
      have jG:cells.size=len:=by rw[f2];simp
      have AE:=hst.newBox (cur:=cells) (T:=.of e) (cs:=(parts.toList.map fun(i,x)=>(i,ev G s x)).map fun p=>p.2.fz) (od:=fun _=>none) (Nat.le_of_eq (by simp;rw[jG];simpa using cn)) RT.of_ok (fun q=>by
       by_cases hq:q<parts.size
       ·have e1:cells.getD q undef=a.eval parts[q].2:=by
         rw[f3 q,if_pos (by simp;exact hq)]
         simp[List.getD,hq]
        have e2:(((parts.toList.map fun(i,x)=>(i,ev G s x)).map fun p=>p.2.fz)).getD q .un=(ev G s parts[q].2).fz:=by simp[List.getD,hq]
        rw[e1,e2];exact xo hst _
       ·have e2:(((parts.toList.map fun(i,x)=>(i,ev G s x)).map fun p=>p.2.fz)).getD q .un=.un:=by simp[List.getD,bq (l:=parts.toList) (by simpa using hq)]
        rw[e2];simp only[LR];exact .un _) (fun u hu=>by
       obtain⟨q,hq,rfl⟩:=fq.1 hu
       have Uf:q<parts.size:=by rw[jG] at hq;rw[← cn] at hq;simpa using hq
       have e1:cells.getD q undef=a.eval parts[q].2:=by
        rw[f3 q,if_pos (by simp;exact Uf)]
        simp[List.getD,Uf]
       have e2:cells.getD q undef=cells[q]:=by simp[hq]
       rw[← e2,e1]
       exact(vD (parts[q].1,a.eval parts[q].2) (by rw[Array.toList_map];exact bA.2 ⟨parts[q],by simp,rfl⟩)).2) (fun _ _ h=>by cases h) (fun _ _ _ h=>by cases h) (AN fun d hd=>by
       obtain⟨p,hp,rfl⟩:=bA.1 hd
       have:=jJ p hp
       cases hx:p.2.fz<;>rw[hx] at this<;>first | rfl | cases this)
      refine ep (v':=.slice (some ⟨w.heap.size,0,none⟩) len len) (w':=w.alloc (.cells cells e)) ?_ (hk _ _ _ h (SE.put AE hd ?_))
      ·obtain⟨dst,op,type,pos,after,guard⟩:=o
       simp only at b8;subst b8
       simp only[execOp,aC,bH,aw,a8]
      ·simp only[LR];exact⟨ar _,w.heap.size,0,_,ar _,by simp,.inr rfl,rfl⟩
     ·cases nj
    ·exact h.elim
   ·exact h.elim
  ·exact gen h
 ·
  rename_i T l c b8
  obtain⟨e,p,m,sz,z,cells,hK,hpm,bH,hc⟩:=Ij hst h
  have AE:=hst.newCells e hc
  refine ep (v':=.slice (some ⟨w.heap.size,0,none⟩) p m) (w':=w.alloc (.cells cells e)) ?_ (hk _ _ _ hK (SE.put AE hd ?_))
  ·obtain⟨dst,op,type,pos,after,guard⟩:=o
   simp only at b8;subst b8
   simp only[execOp,aC,bH,aw,a8]
  ·simp only[LR];exact⟨hpm,w.heap.size,0,_,ar _,by simp,.inr rfl,rfl⟩
 ·rename_i f args ts b8
  have hy:FM tr o.dst=false:=by
   unfold qd at hy;rw[b8] at hy;exact hy
  rw[hy] at h
  simp only[aI,dj] at h
  split at h
  ·exact Gn b8 hst hd h (fun a' w' s' x hK dB=>hk _ _ _ hK dB)
  split at h
  ·refine rY b8 hst hd h (fun a' w' s' x hK dB=>hk _ _ _ ?_ dB)
   by_cases hl:Ds tr o.dst=true
   ·rw[if_pos hl] at hK;exact hK.2
   ·rw[if_neg hl] at hK;exact hK
  ·exact Eo b8 hst hd h (fun a' w' x hx dB=>hk _ _ _ hx dB)
 ·
  rename_i args ts b8
  split at h
  ·unfold xl at h
   split at h
   ·rename_i t u es y oU dy
    obtain⟨htu,h⟩:=h
    subst htu
    obtain⟨X,Y,hX,hxe,hye⟩:∃ X Y,args.toList=[X,Y]∧V.ow none es=vw s (ev G s X)∧y=vw s (ev G s Y):=by
     cases ha:args.toList with
     |nil=>simp[ha] at dy
     |cons X l=>
      cases l with
      |nil=>simp[ha] at dy
      |cons Y l=>simp only[ha,br,cj,eF] at dy;exact⟨X,Y,by rw[dy.2.2],dy.1.symm,dy.2.1.symm⟩
    have e1:ts=#[t,t]:=da oU
    have e2:args.map a.eval=#[a.eval X,a.eval Y]:=by apply da;simp[hX]
    subst e1
    subst hye
    have hxl:LR (Wr M w0) I β w (UN ob X) (a.eval X) (.ow none es):=by
     have:=bD hst X
     rw[afG hxe.symm] at this;exact this
    obtain⟨e,sz,es',cells,cap,hK,bH,ky,fC,jn,jJ⟩:=Dy (ty:=o.type) hst hxl h (Iu hst Y)
    have AE:=hst.drew.newPre e (cs:=es'.flatten) fC (fun q c hq=>(jn q c hq).mono fun b o h=>⟨h,rfl⟩) jJ
    refine ep (v':=.slice (some ⟨w.heap.size,0,none⟩) es'.length cap) (w':=w.drew.alloc (.cells cells e)) ?_ (hk _ _ _ hK (SE.put AE hd ?_))
    ·obtain⟨dst,op,type,pos,after,guard⟩:=o
     simp only at b8 bH;subst b8
     have hb:∀ cs,builtin .append #[t,t] type cs (args.map a.eval)=(do pure (.value (← Builtin.append_ #[t,t] type (args.map a.eval)))):=fun _=>rfl
     have:execOp a.eval { dst,op:=.call { callee:=.builtin .append,args:=args,argTypes:=#[t,t] },type,pos,after,guard }=(do pure (.value (← Builtin.append_ #[t,t] type (args.map a.eval)))):=by
      simp only[execOp,resolve,invoke,pure_bind]
      exact hb _
     rw[this,e2]
     simp only[aC,bH,aw,a8]
    ·simp only[LR];exact⟨ar _,w.heap.size,0,cap,ky,by simp,.inr rfl,rfl⟩
   ·exact h.elim
  ·split at h
   ·
    obtain⟨t,u,X,Y,oU,hX⟩:∃ t u X Y,ts.toList=[t,u]∧args.toList=[X,Y]:=by
     unfold fy at h
     split at h
     ·rename_i t u _ _ _ _ _ _ oU dy
      cases ha:args.toList with
      |nil=>simp[ha] at dy
      |cons X l=>
       cases l with
       |nil=>simp[ha] at dy
       |cons Y l=>simp only[ha,br,cj,eF] at dy;exact⟨t,u,X,Y,oU,by rw[dy.2.2]⟩
     ·rename_i t u _ _ _ _ _ _ _ oU dy
      cases ha:args.toList with
      |nil=>simp[ha] at dy
      |cons X l=>
       cases l with
       |nil=>simp[ha] at dy
       |cons Y l=>simp only[ha,br,cj,eF] at dy;exact⟨t,u,X,Y,oU,by rw[dy.2.2]⟩
     ·exact h.elim
    have e1:ts=#[t,u]:=da oU
    have e2:args.map a.eval=#[a.eval X,a.eval Y]:=by apply da;simp[hX]
    subst e1
    rw[hX] at h
    obtain⟨s',ob',w',z,v,hK,bH,cy,hZ⟩:=Bj (ty:=o.type) hst h (bD hst X) (bD hst Y)
    refine ep (v':=v) (w':=w') ?_ (hk _ _ _ hK (SE.put cy hd hZ))
    obtain⟨dst,op,type,pos,after,guard⟩:=o
    simp only at b8 bH;subst b8
    have hb:∀ cs,builtin .append #[t,u] type cs (args.map a.eval)=(do pure (.value (← Builtin.append_ #[t,u] type (args.map a.eval)))):=fun _=>rfl
    have:execOp a.eval { dst,op:=.call { callee:=.builtin .append,args:=args,argTypes:=#[t,u] },type,pos,after,guard }=(do pure (.value (← Builtin.append_ #[t,u] type (args.map a.eval)))):=by
     simp only[execOp,resolve,invoke,pure_bind]
     exact hb _
    rw[this,e2]
    simp only[aC,bH,aw,a8]
   ·exact gen h
 ·
  rename_i args ts b8
  obtain⟨t,u,X,Y,oU,hX⟩:∃ t u X Y,ts.toList=[t,u]∧args.toList=[X,Y]:=by
   unfold nz at h
   split at h
   ·rename_i t u _ _ _ _ _ _ oU dy
    cases ha:args.toList with
    |nil=>simp[ha] at dy
    |cons X l=>
     cases l with
     |nil=>simp[ha] at dy
     |cons Y l=>simp only[ha,br,cj,eF] at dy;exact⟨t,u,X,Y,oU,by rw[dy.2.2]⟩
   ·exact h.elim
  have e1:ts=#[t,u]:=da oU
  have e2:args.map a.eval=#[a.eval X,a.eval Y]:=by apply da;simp[hX]
  subst e1
  rw[hX] at h
  obtain⟨s',ob',w',z,v,hK,bH,cy,hZ⟩:=Ix (ty:=o.type) hst h (bD hst X) (bD hst Y)
  refine ep (v':=v) (w':=w') ?_ (hk _ _ _ hK (SE.put cy hd hZ))
  obtain⟨dst,op,type,pos,after,guard⟩:=o
  simp only at b8 bH;subst b8
  have hb:∀ cs,builtin .copy #[t,u] type cs (args.map a.eval)=(do pure (.value (← Builtin.copy_ #[t,u] type (args.map a.eval)))):=fun _=>rfl
  have:execOp a.eval { dst,op:=.call { callee:=.builtin .copy,args:=args,argTypes:=#[t,u] },type,pos,after,guard }=(do pure (.value (← Builtin.copy_ #[t,u] type (args.map a.eval)))):=by
   simp only[execOp,resolve,invoke,pure_bind]
   exact hb _
  rw[this,e2]
  simp only[aC,bH,aw,a8]
 ·
  rename_i args ts b8
  obtain⟨t,X,oU,hX⟩:∃ t X,ts.toList=[t]∧args.toList=[X]:=by
   unfold ju at h
   split at h
   ·rename_i t _ _ _ _ _ oU dy
    cases ha:args.toList with
    |nil=>simp[ha] at dy
    |cons X l=>simp only[ha,br,cj,eF] at dy;exact⟨t,X,oU,by rw[dy.2]⟩
   ·rename_i t _ _ _ _ oU dy
    cases ha:args.toList with
    |nil=>simp[ha] at dy
    |cons X l=>simp only[ha,br,cj,eF] at dy;exact⟨t,X,oU,by rw[dy.2]⟩
   ·exact h.elim
  have e1:ts=#[t]:=da oU
  have e2:args.map a.eval=#[a.eval X]:=by apply da;simp[hX]
  subst e1
  rw[hX] at h
  obtain⟨s',ob',w',hK,bH,cy⟩:=Gk (ty:=o.type) hst h (bD hst X)
  refine ep (v':=.tuple #[]) (w':=w') ?_ (hk _ _ _ hK (SE.put cy hd (x:=.un) (by simp only[LR];exact .un _)))
  obtain⟨dst,op,type,pos,after,guard⟩:=o
  simp only at b8 bH;subst b8
  have hb:∀ cs,builtin .clear #[t] type cs (args.map a.eval)=(do pure (.value (← Builtin.clear_ #[t] type (args.map a.eval)))):=fun _=>rfl
  have:execOp a.eval { dst,op:=.call { callee:=.builtin .clear,args:=args,argTypes:=#[t] },type,pos,after,guard }=(do pure (.value (← Builtin.clear_ #[t] type (args.map a.eval)))):=by
   simp only[execOp,resolve,invoke,pure_bind]
   exact hb _
  rw[this,e2]
  simp only[aC,bH,aw,a8]
 ·
  rename_i args ts b8
  split at h
  ·obtain⟨t,X,oU,hX⟩:∃ t X,ts.toList=[t]∧args.toList=[X]:=by
    unfold H9 at h
    split at h
    ·rename_i t _ oU dy
     cases ha:args.toList with
     |nil=>simp[ha] at dy
     |cons X l=>simp only[ha,br,cj,eF] at dy;exact⟨t,X,oU,by rw[dy.2]⟩
    ·exact h.elim
   have e1:ts=#[t]:=da oU
   have e2:args.map a.eval=#[a.eval X]:=by apply da;simp[hX]
   subst e1
   rw[hX] at h
   obtain⟨u,hf,hK,bH⟩:=Is (ty:=o.type) hst h (bD hst X)
   refine ep (v':=u) (w':=w) ?_ (hk _ _ _ hK (.fin0 hst hd (.ofLit hf)))
   obtain⟨dst,op,type,pos,after,guard⟩:=o
   simp only at b8 bH;subst b8
   have hb:∀ cs,builtin .len #[t] type cs (args.map a.eval)=(do pure (.value (← Builtin.len_ #[t] type (args.map a.eval)))):=fun _=>rfl
   have:execOp a.eval { dst,op:=.call { callee:=.builtin .len,args:=args,argTypes:=#[t] },type,pos,after,guard }=(do pure (.value (← Builtin.len_ #[t] type (args.map a.eval)))):=by
    simp only[execOp,resolve,invoke,pure_bind]
    exact hb _
   rw[this,e2]
   simp only[aC,bH,aw,a8]
  ·exact gen h
 ·
  rename_i src dst' X b8
  split at h
  ·obtain⟨s',v,w',hK,u,bH,β',ob',cy,hZ⟩:=Gm hst hd h
   refine ep (v':=u) (w':=w') ?_ (hk _ _ _ hK (SE.put cy hd hZ))
   obtain⟨dst,op,type,pos,after,guard⟩:=o
   simp only at b8 bH;subst b8
   simp only[execOp,aC,bH,aw,a8]
  ·exact gen h
 ·
  rename_i op T X Y yT b8
  split at h
  ·rename_i hy
   unfold afB at h
   have fin:∀ c:Value,Y=.const c→(∃ u,flat u=true∧K (s.after tr o (.c (.lit u)))∧(do eqGuard op T X Y (a.eval X) c;binOp op T (a.eval X) c:Sem Value).run P w=.ok u w)→o.wp P a w next Q:=by
    rintro c rfl ⟨u,hf,hz,bH⟩
    refine ep (v':=u) (w':=w) ?_ (hk _ _ _ hz (.fin0 hst hd (.ofLit hf)))
    obtain⟨dst,op',type,pos,after,guard⟩:=o
    simp only at b8;subst b8
    have hx:execOp a.eval { dst,op:=.binOp op T X (.const c) yT,type,pos,after,guard }=(do pure (.value (← (do eqGuard op T X (.const c) (a.eval X) c;binOp op T (a.eval X) c)))):=by
     simp only[execOp];simp[Act.eval]
    rw[hx]
    simp only[aC] at bH ⊢
    rw[bH]
    simp
   cases hp:FN Y with
   |some fn=>
    rw[hp] at h
    have hY:Y=.const (if fn then .nilFunc else .pointer none):=by
     unfold FN at hp
     split at hp
     ·cases hp;rfl
     ·cases hp;rfl
     ·cases hp
    exact fin _ hY (Ie (K:=fun v=>K (s.after tr o v)) h (bD hst X) X Y)
   |none=>
    rw[hp] at h
    have hY:Y=.const (.slice none 0 0):=by
     unfold AL at hy
     rw[hp] at hy
     simp only[Option.isSome_none,j6] at hy
     unfold UH at hy
     split at hy
     ·rfl
     ·cases hy
    exact fin _ hY (Mc (K:=fun v=>K (s.after tr o v)) h (bD hst X) X Y)
  ·exact gen h
 ·
  rename_i T X b8
  split at h
  ·obtain⟨z,u,hz,hZ,bH⟩:=FV hst h (bD hst X)
   refine ep (v':=u) (w':=w) ?_ (hk _ _ _ hz (SE.put hst hd hZ))
   obtain⟨dst,op',type,pos,after,guard⟩:=o
   simp only at b8;subst b8
   simp only[execOp,aC,bH,aw,a8]
  ·exact gen h.2
 ·
  rename_i T parts b8
  split at h
  ·obtain⟨z,u,hz,hZ,bH⟩:=Dv hst h
   refine ep (v':=u) (w':=w) ?_ (hk _ _ _ hz (SE.put hst hd hZ))
   obtain⟨dst,op',type,pos,after,guard⟩:=o
   simp only at b8;subst b8
   simp only[execOp,aC,bH,aw,a8]
  ·exact gen h
 ·
  rename_i T b8
  split at h
  ·have AE:=hst.newMap
   refine ep (v':=.map (some w.heap.size)) (w':=w.alloc (.map #[] 0)) ?_ (hk _ _ _ h (SE.put AE hd ?_))
   ·obtain⟨dst,op',type,pos,after,guard⟩:=o
    simp only at b8;subst b8
    simp[execOp,Instr.makeMap]
   ·simp only[LR];exact⟨w.heap.size,by simp,rfl⟩
  ·exact h.elim
 ·
  rename_i T m k X b8
  obtain⟨s',ob',w',hK,bH,cy⟩:=vN hst h (bD hst m) (bD hst k) (bD hst X)
  unfold Oper.wp
  obtain⟨dst,op',type,pos,after,guard⟩:=o
  simp only at b8;subst b8
  simp only[execOp,aC,bH,aw,a8,Oper.upon]
  exact hk _ _ _ hK (SE.put (v:=undef) (x:=.sk) cy hd (by simp only[LR];exact .sk))
 ·
  rename_i T m k b8
  obtain⟨s',ob',w',z,u,hK,bH,cy,hZ⟩:=Ak hst h (bD hst m) (bD hst k)
  refine ep (v':=u) (w':=w') ?_ (hk _ _ _ hK (SE.put cy hd hZ))
  obtain⟨dst,op',type,pos,after,guard⟩:=o
  simp only at b8;subst b8
  simp only[execOp,aC,bH,aw,a8]
 ·
  rename_i T m k X b8
  obtain⟨s',ob',w',hK,bH,cy⟩:=Am (P:=P) (T:=T) hst h (bD hst m) (bD hst k) (bD hst X)
  unfold Oper.wp
  obtain⟨dst,op',type,pos,after,guard⟩:=o
  simp only at b8;subst b8
  simp only[execOp,aC,bH,aw,a8,Oper.upon]
  exact hk _ _ _ hK (SE.put (v:=undef) (x:=.sk) cy hd (by simp only[LR];exact .sk))
 ·
  rename_i t b8
  obtain⟨it,z,u,w',hK,bH,dB⟩:=Iw (P:=P) (ty:=o.type) hst hd h
  refine ep (v':=u) (w':=w') ?_ (hk _ _ _ hK dB)
  obtain⟨dst,op',type,pos,after,guard⟩:=o
  simp only at b8;subst b8
  simp only[execOp,Act.eval,aC,bH,aw,a8]
 ·
  rename_i T m k X b8
  obtain⟨s',ob',w',hK,bH,cy⟩:=vN hst h (bD hst m) (bD hst k) (bD hst X)
  unfold Oper.wp
  obtain⟨dst,op',type,pos,after,guard⟩:=o
  simp only at b8;subst b8
  simp only[execOp,aC,bH,aw,a8,Oper.upon]
  exact hk _ _ _ hK (SE.put (v:=undef) (x:=.sk) cy hd (by simp only[LR];exact .sk))
 ·exact gen h
theorem xB (hst:St G n I0 M w0 I β ob s a w) {ops:Array Oper} {j d:Nat} (hd:(ops[j]?).bind (·.dst)=some d) {p:Bool} (h:s.fr d=.c (.lit (.bool p))):yielded ops a.tmps j=some p:=by
 have:=hst.fr d
 rw[h] at this
 have hv:=this.lit
 unfold yielded
 rw[hd]
 simp only[js]
 rw[ah] at hv
 cases hx:a.tmps[d]? with
 |none=>rw[hx] at hv;cases hv
 |some u=>rw[hx] at hv;simp only[cG] at hv;rw[hv]
theorem Bo (hst:St G n I0 M w0 I β ob s a w) {ops:Array Oper} {j d:Nat} (hd:(ops[j]?).bind (·.dst)=some d) (h:s.fr d=.sk):yielded ops a.tmps j=none:=by
 have:=hst.fr d
 rw[h] at this
 have hv:a.tmps.getD d undef=undef:=by simp only[LR] at this;generalize a.tmps.getD d undef=u at this;cases this;rfl
 unfold yielded
 rw[hd]
 simp only[js]
 rw[ah] at hv
 cases hx:a.tmps[d]? with
 |none=>rfl
 |some u=>rw[hx] at hv;simp only[cG] at hv;rw[hv];rfl
theorem S.up_id {d:Nat} {x:V} (h:s.fr d=x):{ s with fr:=up s.fr d x }=s:=by
 rw[← h,rS]
theorem mR {ops:Array Oper} {yes no:S→Prop} (hst:St G n I0 M w0 I β ob s a w) (h:nC ops o s yes no) :
 (Region.wanted o (yielded ops a.tmps)=true∧yes s)∨(Region.wanted o (yielded ops a.tmps)=false∧no s):=by
 unfold nC at h
 unfold Region.wanted
 split at h
 ·rename_i hg
  rw[hg];exact .inl ⟨rfl,h⟩
 ·rename_i j want hg
  rw[hg]
  split at h
  ·rename_i d hd
   split at h
   ·rename_i p hp
    simp only[xB hst hd hp]
    by_cases hpw:p=want
    ·subst hpw
     have:=h.1 rfl
     rw[S.up_id hp] at this
     exact .inl ⟨by simp,this⟩
    ·have hpn:p=!want:=by cases p<;>cases want<;>simp_all
     have:=h.2 hpn
     rw[← hpn,S.up_id hp] at this
     exact .inr ⟨by simpa using hpw,this⟩
   ·rename_i hp
    simp only[Bo hst hd hp]
    exact .inr ⟨rfl,h⟩
   ·exact h.elim
  ·exact h.elim
def mw (n:Nat) (ops:Array Oper):Bool:=ops.toList.all fun o=>match o.dst with | some d=>decide (d<n) | none=>true
theorem eU {ops:Array Oper} (h:mw n ops=true) {o:Oper} (ho:o∈ops.toList):∀ d,o.dst=some d→d<n:=fun d hd=>by
 have:=aV.1 h o ho
 rw[hd] at this
 simpa using this
theorem U3 {l:Option Nat} {m:Nat} (hst:St G n I0 M w0 I β ob s a w) (hd:∀ d,o.dst=some d→d<n) (oV:∀ c,o.op≠.defer c) {i blk:Nat} {vs:List Value} {all:List V} {ρ:List Nat} {cargs:List V} {b0:List (List V)} {R:V→List (List V)→Prop}
 (eK:YE P G cargs b0 R) (dy:ArgsL (Wr M w0) I β w vs all) (en:all.map V.fz=cargs.map (V.ren (rho ρ s.nb))) (hρ:ρ.length=b0.length∧ρ.Nodup) (jg:qH s.bx s.nb (rho ρ s.nb) 0 b0)
 (hhd:ρ.head?=some i) (zp:β i=some blk)
 (bH:(execOp a.eval o).run P w=(Instr.yield blk vs.toArray).run P w)
 (hk:∀ r b1,R r b1→∀ a' w',SE G n I0 M w0 (({ s with bx:=fM (rho ρ s.nb) 0 b1 s.bx,nb:=s.nb+(b1.length - b0.length) }:S).put o.dst (r.ren (rho ρ s.nb))) a' w'→next a' w'):o.wpIn (FW l) m P a w next Q:=by
 obtain⟨hρl,hn⟩:=hρ
 obtain⟨zr,yz,ke⟩:=eK.1
 have hl:∀ i,i<ρ.length→ρ.getD i 0<s.nb:=fun i hi=>by
  obtain⟨b,hb⟩:∃ b,b0[i]?=some b:=⟨_,ab (by omega)⟩
  have:=(pC b0 0 i b jg hb).1
  rw[aK] at this
  simpa[rho,hi] using this
 have qa:=xx hn hl
 have cn:all.length=cargs.length:=by simpa using nq List.length en
 have qY:0<ρ.length:=by cases ρ with | nil=>cases hhd | cons x r=>simp
 have hr0:rho ρ s.nb 0=i:=by
  unfold rho
  rw[if_pos qY]
  cases ρ with
  |nil=>cases hhd
  |cons x r=>simpa using hhd
 obtain⟨fn,tmps,assign,body,hyr,akj⟩:=eK.2 I ⟨Mof β ob (rho ρ s.nb) b0.length,fun _=>none,[]⟩ w vs.toArray (lP β (rho ρ s.nb) b0.length) (obC ob (rho ρ s.nb) b0.length) blk hst.ibnd hst.glob (hst.give qa jg yz)
  (by unfold lP;rw[if_pos (by omega),hr0];exact zp) (by have:=dy.1;simp;omega) (fun j x hx=>by
   have hj:j<cargs.length:=(ae.1 hx).1
   have hz:all[j]?=some all[j]:=ab (by omega)
   have h1:=dy.2 j _ hz
   have h2:all[j].fz=x.ren (rho ρ s.nb):=by
    have e1:(all.map V.fz)[j]?=some all[j].fz:=by simp[hz]
    have e2:(cargs.map (V.ren (rho ρ s.nb)))[j]?=some (x.ren (rho ρ s.nb)):=by simp[hx]
    rw[en,e2] at e1
    exact(dz e1).symm
   rw[h2] at h1
   have h3:=h1.ren (β':=lP β (rho ρ s.nb) b0.length) (zr x (aT hx)) (fun i b hi hb=>by simp[lP,hi,hb])
   have h4:=h3.wider (base':=Wr ⟨Mof β ob (rho ρ s.nb) b0.length,fun _=>none,[]⟩ w) fun b hb=>by cases hb
   simpa using h4)
 refine⟨fun _ _=>trivial,?_⟩
 rw[Oper.semAt_eq _ _ _ oV,bH,hyr]
 refine⟨fun h=>(by cases h),RoundIn.mono (MF akj) ?_⟩
 rintro e w' ⟨r,b1,hR,v,I',β',ob',o',rfl,uH,Uh,Qi,vV,hβ1,Uz,ot,hZ,sP⟩
 simp only
 obtain⟨cy,fJ,zq,fS,AE,_⟩:=hst.called hρl hn jg (ke r b1 hR) uH Uh Qi vV hβ1 Uz ot
 refine hk r b1 hR _ _ ?_
 have aaf:LR (Wr M w0) I' (pD β β' ρ s.nb) w' o' v (r.ren (rho ρ s.nb)):=(hZ.toRen fJ).wider fun b hb=>zq b (sP b hb).1.2
 cases lF:o.dst with
 |none=>exact⟨_,_,_,cy⟩
 |some d=>
  refine⟨_,_,_,cy.put d (hd d lF) aaf fun b hb=>?_⟩
  obtain⟨⟨h1,h2⟩,h3,h4⟩:=sP b hb
  refine⟨⟨h1,zq b h2⟩,fun L hL=>?_,AE b h2 h4⟩
  simp only[upL] at hL
  split at hL
  ·cases hL
  ·exact fS b h2 h3 L hL
theorem QG {f:Operand} {args:Array Operand} {ts:Array TypeId} {blk:Nat} (ho:o.op=.call { callee:=.value f,args:=args,argTypes:=ts }) (hf:a.eval f=.func (.yield blk) #[] #[]) :
 (execOp a.eval o).run P w=(Instr.yield blk (args.toList.map a.eval).toArray).run P w:=by
 unfold execOp
 have e:(args.toList.map a.eval).toArray=args.map a.eval:=by apply da;simp
 rw[e]
 simp only[ho,resolve,Deferred.ofValue,hf,aC,a8,aw,invoke]
 simp
theorem Gp {l:Option Nat} {m:Nat} {K:S→V→Prop} {f:Operand} {args:Array Operand} {ts:Array TypeId} (ho:o.op=.call { callee:=.value f,args:=args,argTypes:=ts }) (hst:St G n I0 M w0 I β ob s a w)
 (hd:∀ d,o.dst=some d→d<n) (h:vZ P G s (ev G s f) (args.toList.map (ev G s)) K) (hk:∀ a' w' s' x,K s' x→SE G n I0 M w0 (s'.put o.dst x) a' w'→next a' w'):o.wpIn (FW l) m P a w next Q:=by
 have hf:=bD hst f
 unfold vZ at h
 split at h
 ·rename_i i he
  obtain⟨ρ,cargs,b0,R,eK,en,⟨hρ1,hρ2,hρ3⟩,jg,hK⟩:=h
  rw[he] at hf
  simp only[LR] at hf
  obtain⟨blk,hb,hv⟩:=hf
  exact U3 hst hd (fun c hc=>by rw[ho] at hc;cases hc) eK (uK hst _) en ⟨hρ1,hρ2⟩ jg hρ3 hb (QG ho hv) (fun r b1 hR a' w'=>hk a' w' _ _ (hK r b1 hR))
 ·exact h.elim
theorem U4 {K:S→Prop} (h:VStep P G tr o s K):∀ c,o.op≠.defer c:=fun c hc=>by
 unfold VStep VYK at h
 rw[hc] at h
 exact h
theorem qJ {l:Option Nat} {m:Nat} {K:S→Prop} (hst:St G n I0 M w0 I β ob s a w) (hd:∀ d,o.dst=some d→d<n) (h:VStep P G tr o s K)
 (hk:∀ a' w' s',K s'→SE G n I0 M w0 s' a' w'→next a' w'):o.wpIn (FW l) m P a w next Q:=by
 cases hy:qd tr o with
 |false=>exact wm (U4 h) (qk (tr:=tr) hst hd hy h hk)
 |true=>
  unfold qd at hy
  split at hy
  ·rename_i f args ts b8
   unfold VStep at h
   rw[b8] at h
   simp only[hy,dn] at h
   exact Gp b8 hst hd h fun a' w' s' x hK dB=>hk _ _ _ hK dB
  ·cases hy
theorem wo {l:Option Nat} {m:Nat} {ops:Array Oper} (eK:mw n ops=true) {K:S→Prop} (hK:∀ a w s,K s→SE G n I0 M w0 s a w→Q .normal a w):∀ (ls:List Oper) (k:Nat),ops.toList.drop k=ls→∀ (s:S) (a:Act) (w:World),
 gY P G tr ops ls s K→SE G n I0 M w0 s a w→wpOpsIn (FW l) m P ops Q (List.range' k ls.length) a w
 |[],k,_,s,a,w,h,dB=>by simp only[aB,List.range'_zero,wpOpsIn];exact hK _ _ _ h dB
 |o::ls,k,hl,s,a,w,h,dB=>by
  have oK:ops[k]?=some o:=by
   have:(ops.toList.drop k)[0]?=some o:=by rw[hl];rfl
   rw[cA] at this
   simpa using this
  have OD:ops.toList.drop (k+1)=ls:=by
   rw[← fX,hl];rfl
  have jE:o∈ops.toList:=cM (i:=k) (by rw[hl];simp)
  obtain⟨I,β,ob,hst⟩:=dB
  simp only[aA,ir,wpOpsIn,oK]
  simp only[gY] at h
  rcases mR hst h with⟨hw,h⟩ | ⟨hw,h⟩
  ·rw[if_pos hw]
   refine qJ (tr:=tr) hst (eU eK jE) h fun a' w' s' D4 tA=>?_
   exact wo eK hK ls (k+1) OD s' a' w' D4 tA
  ·rw[hw]
   simp only[aI,dj]
   exact⟨fun _ _=>trivial,wo eK hK ls (k+1) OD _ _ w h (SE.put hst (eU eK jE) (by simp only[LR];exact .sk))⟩
theorem PR.ltP {β':Nat→Option Nat} {m:Nat} (h:PR I β w v x) (hx:x.ltP m) (hβ:∀ i,i<m→β' i=β i):PR I β' w v x:=by
 cases x<;>simp only[V.ltP] at hx<;>simp only[PR] at h ⊢<;>try exact h
 ·obtain⟨blk,h1,h2⟩:=h;exact⟨blk,by rw[hβ _ hx];exact h1,h2⟩
 ·obtain⟨h0,blk,o',c',D2,h1,h2⟩:=h;exact⟨h0,blk,o',c',D2,by rw[hβ _ hx];exact h1,h2⟩
 ·obtain⟨blk,h1,h2⟩:=h;exact⟨blk,by rw[hβ _ hx];exact h1,h2⟩
 ·obtain⟨blk,h1,h2⟩:=h;exact⟨blk,by rw[hβ _ hx];exact h1,h2⟩
 ·obtain⟨blk,h1,h2⟩:=h;exact⟨blk,by rw[hβ _ hx];exact h1,h2⟩
theorem KR.ltP {β':Nat→Option Nat} {m:Nat} (h:KR I β w v x) (hx:x.ltP m) (hβ:∀ i,i<m→β' i=β i):KR I β' w v x:=by
 rcases h with h | h | h
 ·exact .inl h
 ·exact .inr (.inl h)
 ·exact .inr (.inr (h.ltP hx hβ))
theorem LR.lt {β':Nat→Option Nat} {m:Nat} {ox:Option Nat} (h:LR base I β w ox v x) (hx:x.lt m) (hβ:∀ i,i<m→β' i=β i):LR base I β' w ox v x:=by
 cases x<;>simp only[V.lt] at hx<;>simp only[LR] at h ⊢<;>try exact h
 ·obtain⟨blk,h1,h2⟩:=h;exact⟨blk,by rw[hβ _ hx];exact h1,h2⟩
 ·obtain⟨vf,vc,h1,h2,h3,h4,h5⟩:=h
  exact⟨vf,vc,h1,h2,h3,fun j x hj=>(h4 j x hj).ltP (hx.1 x (aT hj)) hβ,fun j x hj=>(h5 j x hj).ltP (hx.2 x (aT hj)) hβ⟩
 ·obtain⟨h0,blk,o',c',D2,h1,h2⟩:=h;exact⟨h0,blk,o',c',D2,by rw[hβ _ hx];exact h1,h2⟩
 ·obtain⟨cs,h1,h2,h3⟩:=h
  exact⟨cs,h1,h2,fun j x hj=>(h3 j x hj).ltP (hx x (aT hj)) hβ⟩
 ·obtain⟨blk,h1,h2⟩:=h;exact⟨blk,by rw[hβ _ hx];exact h1,h2⟩
 ·obtain⟨blk,m,h1,h2,h3,h4⟩:=h;exact⟨blk,m,h1,h2,by rw[hβ _ hx];exact h3,h4⟩
 ·obtain⟨blk,h1,h2⟩:=h;exact⟨blk,by rw[hβ _ hx];exact h1,h2⟩
 ·obtain⟨tm,h1,h2⟩:=h
  exact⟨tm,h1,fun t y hy=>(h2 t y hy).ltP (hx _ hy) hβ⟩
 ·obtain⟨blk,h1,h2⟩:=h;exact⟨blk,by rw[hβ _ hx];exact h1,h2⟩
theorem SE.weaken {s':S} {k:Nat} (h:SE G n I0 M w0 s a w) (xd:∀ i b,M.e i=some b→i<k) (ke:S.Le k s' s):SE G n I0 M w0 s' a w:=by
 obtain⟨I,β,ob,h⟩:=h
 have hβ:∀ i b,(if i<s'.nb then β i else none)=some b→β i=some b:=fun i b hb=>by split at hb;exact hb;cases hb
 let ob':Loc→Option Nat:=fun L=>match L with
  | .t i=>if(s'.fr i).isOw then ob (.t i) else none
  | .b i j=>if i<s'.nb then ob (.b i j) else none
 have j4:∀ L b,ob' L=some b→ob L=some b:=fun L b hL=>by
  cases L with
  |t i=>simp only[ob'] at hL;split at hL;exact hL;cases hL
  |b i j=>simp only[ob'] at hL;split at hL;exact hL;cases hL
 refine⟨I,fun i=>if i<s'.nb then β i else none,ob',{
  size:=h.size,defers:=h.defers,below:=h.below,kept:=h.kept,ilow:=h.ilow,ihigh:=h.ihigh,ibnd:=h.ibnd
  fr:=fun t=>?_
  bx:=fun i hi=>?_
  bnone:=fun i hi=>by rw[if_neg (by omega)]
  ext:=fun i b he=>by rw[if_pos (bW (xd i b he) ke.ext)];exact h.ext i b he
  bnew:=fun i b hi=>h.bnew i b (hβ i b hi)
  binj:=fun i j b hi hj=>h.binj i j b (hβ _ _ hi) (hβ _ _ hj)
  oinj:=fun L L' b hL yA=>h.oinj L L' b (j4 _ _ hL) (j4 _ _ yA)
  obx:=fun L b i hL hi=>h.obx L b i (j4 _ _ hL) (hβ _ _ hi)
  obnd:=fun L b hL=>h.obnd L b (j4 _ _ hL)
  glob:=h.glob }⟩
 ·rcases ke.fr t with e | e
  ·rw[e];simp only[LR];exact .un _
  ·have:=h.fr t
   rw[← e] at this
   have h2:LR (Wr M w0) I β w (ob' (.t t)) (a.tmps.getD t undef) (s'.fr t):=by
    simp only[ob']
    by_cases ho:(s'.fr t).isOw=true
    ·rw[if_pos ho];exact this
    ·rw[if_neg ho];exact this.other (by simpa using ho)
   exact h2.lt (ke.lt t) (fun i hi=>by rw[if_pos hi])
 ·obtain⟨blk,cur,e1,e2,e3,e4,e5,e7⟩:=h.bx i (bW hi ke.nb)
  refine⟨blk,cur,by rw[if_pos hi];exact e1,e2,by rw[ke.bx i hi];exact e3,by rw[ke.bx i hi];exact e4,fun j=>?_,e7⟩
  have:=e5 j
  rw[← ke.bx i hi] at this
  have bV:((s'.bx i).getD j .un).lt s'.nb:=by
   by_cases hj:j<(s'.bx i).length
   ·have:(s'.bx i).getD j .un=(s'.bx i)[j]:=by simp[List.getD,hj]
    rw[this];exact ke.blt i hi _ (bM hj)
   ·have:(s'.bx i).getD j .un=.un:=by simp[List.getD,bq (ec hj)]
    rw[this];exact trivial
  have h2:=this.lt (β':=fun i=>if i<s'.nb then β i else none) bV (fun i hi=>by rw[if_pos hi])
  simpa only[ob',if_pos hi] using h2
theorem aaP {s:S} {m:Nat} {l l':List V} (h:l'.getD 0 .un=l.getD 0 .un∨FzV s m (l'.getD 0 .un) (l.getD 0 .un)):qG l'=qG l:=by
 unfold qG
 rcases h with h | ⟨i,off,len,cap,sz,c,h1,_,_,h2⟩
 ·rw[h]
 ·rw[h1,h2]
theorem SE.freeze {s':S} {k:Nat} (h:SE G n I0 M w0 s a w) (xd:∀ i b,M.e i=some b→i<k) (ke:S.Fz k s' s):SE G n I0 M w0 s' a w:=by
 obtain⟨I,β,ob,h⟩:=h
 have hβ:∀ i b,(if i<s'.nb then β i else none)=some b→β i=some b:=fun i b hb=>by split at hb;exact hb;cases hb
 let ob':Loc→Option Nat:=fun L=>match L with
  | .t i=>if(s'.fr i).isOw then ob (.t i) else none
  | .b i j=>if i<s'.nb then ob (.b i j) else none
 have j4:∀ L b,ob' L=some b→ob L=some b:=fun L b hL=>by
  cases L with
  |t i=>simp only[ob'] at hL;split at hL;exact hL;cases hL
  |b i j=>simp only[ob'] at hL;split at hL;exact hL;cases hL
 let I':Ft:=fun b o=>I b o∨∃ i,s'.nb≤i∧i<s.nb∧β i=some b
 have hII:∀ b o,I b o→I' b o:=fun _ _ h=>.inl h
 have kB:∀ (v:Value) (x:V) (o:Option Nat),(∀ b,o=some b→∃ L,ob L=some b)→LR (Wr M w0) I β w o v x→LR (Wr M w0) I' β w o v x:=fun v x o ho hx=>
  hx.mono (fun b o hb=>⟨.inl hb,rfl⟩) (fun _ _ e=>e) (fun b hb=>⟨rfl,fun o hI=>by
   rcases hI with hI | ⟨i,_,_,hi⟩
   ·exact hI
   ·obtain⟨L,hL⟩:=ho b hb
    exact absurd hi (h.obx L b i hL)⟩)
 have agi:∀ (v:Value) (x y:V) (o:Option Nat),LR (Wr M w0) I β w o v y→FzV s s'.nb x y→∃ c,x=.c c∧CR I' w v c:=fun v x y o hy hf=>by
  obtain⟨i,off,len,cap,sz,c,rfl,hi,hv,rfl⟩:=hf
  simp only[LR] at hy
  refine⟨c,rfl,F4 h hv hy hII (fun b o hb=>?_)⟩
  have qb:i<s.nb:=by
   unfold mn Ah at hv
   split at hv
   ·rename_i hc
    split at hc
    ·assumption
    ·cases hc
   ·cases hv
  exact .inr ⟨i,hi,qb,hb⟩
 refine⟨I',fun i=>if i<s'.nb then β i else none,ob',{
  size:=h.size,defers:=h.defers,below:=h.below,ilow:=fun b o hb=>.inl (h.ilow b o hb),kept:=h.kept
  ihigh:=fun b o hb=>by
   rcases hb with hb | ⟨i,_,hi,hb⟩
   ·exact h.ihigh b o hb
   ·obtain⟨blk,cur,e1,e2,e3,_⟩:=h.bx i hi
    rw[hb] at e1;cases e1;exact .inr e2
  ibnd:=fun b o hb=>by
   rcases hb with hb | ⟨i,_,hi,hb⟩
   ·exact h.ibnd b o hb
   ·obtain⟨blk,cur,e1,e2,e3,_⟩:=h.bx i hi
    rw[hb] at e1;cases e1
    exact e3.lt
  fr:=fun t=>?_
  bx:=fun i hi=>?_
  bnone:=fun i hi=>by rw[if_neg (by omega)]
  ext:=fun i b he=>by rw[if_pos (bW (xd i b he) ke.ext)];exact h.ext i b he
  bnew:=fun i b hi=>h.bnew i b (hβ i b hi)
  binj:=fun i j b hi hj=>h.binj i j b (hβ _ _ hi) (hβ _ _ hj)
  oinj:=fun L L' b hL yA=>h.oinj L L' b (j4 _ _ hL) (j4 _ _ yA)
  obx:=fun L b i hL hi=>h.obx L b i (j4 _ _ hL) (hβ _ _ hi)
  obnd:=fun L b hL=>h.obnd L b (j4 _ _ hL)
  glob:=fun g cs hg=>(h.glob g cs hg).mono fun b o hb=>⟨.inl hb,rfl⟩ }⟩
 ·rcases ke.fr t with e | e | e
  ·rw[e];simp only[LR];exact .un _
  ·have:=kB _ _ _ (fun b hb=>⟨_,hb⟩) (h.fr t)
   rw[← e] at this
   have h2:LR (Wr M w0) I' β w (ob' (.t t)) (a.tmps.getD t undef) (s'.fr t):=by
    simp only[ob']
    by_cases ho:(s'.fr t).isOw=true
    ·rw[if_pos ho];exact this
    ·rw[if_neg ho];exact this.other (by simpa using ho)
   exact h2.lt (ke.lt t) (fun i hi=>by rw[if_pos hi])
  ·obtain⟨c,hc,jn⟩:=agi _ _ _ _ (h.fr t) e
   rw[hc];exact .ofC jn
 ·obtain⟨blk,cur,e1,e2,e3,e4,e5,e7⟩:=h.bx i (bW hi ke.nb)
  refine⟨blk,cur,by rw[if_pos hi];exact e1,e2,e3.congr (ke.bl i hi) (aaP (ke.bx i hi 0)),by rw[ke.bl i hi];exact e4,fun j=>?_,fun o ho=>?_⟩
  ·rcases ke.bx i hi j with e | e
   ·have:=kB _ _ _ (fun b hb=>⟨_,hb⟩) (e5 j)
    rw[← e] at this
    have bV:((s'.bx i).getD j .un).lt s'.nb:=by
     by_cases hj:j<(s'.bx i).length
     ·have:(s'.bx i).getD j .un=(s'.bx i)[j]:=by simp[List.getD,hj]
      rw[this];exact ke.blt i hi _ (bM hj)
     ·have:(s'.bx i).getD j .un=.un:=by simp[List.getD,bq (ec hj)]
      rw[this];exact trivial
    have h2:=this.lt (β':=fun i=>if i<s'.nb then β i else none) bV (fun i hi=>by rw[if_pos hi])
    simpa only[ob',if_pos hi] using h2
   ·obtain⟨c,hc,jn⟩:=agi _ _ _ _ (e5 j) e
    rw[hc];exact .ofC jn
  ·rcases ho with ho | ⟨i',rQ,_,hb⟩
   ·exact e7 o ho
   ·have:=h.binj i i' blk e1 hb
    omega
