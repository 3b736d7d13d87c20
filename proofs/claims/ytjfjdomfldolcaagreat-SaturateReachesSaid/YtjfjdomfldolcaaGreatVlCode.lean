/- Values without memory: boxes: variables that lie in memory. -/
import Derived.Test.YtjfjdomfldolcaaGreatVlSound10
import Derived.Maps.RangeRun
import Derived.OrdersIn
import Derived.LoopNIn
import Derived.RangeFuncLeaves
import Derived.LoopN
set_option linter.all false
namespace Go.Vl
open Go Go.RowKit
section
variable {P:Program} {G:Gl} {tr:List Nat} {n:Nat} {I0:Ft} {M:Mx} {w0:World} {I:Ft} {β:Nat→Option Nat} {ob:Loc→Option Nat} {s:S} {a:Act} {w:World} {o:Oper}
 {next:Act→World→Prop} {Q:Exit→Act→World→Prop} {base:Nat→Prop} {v:Value} {x y:V}
theorem PR.oneCell {c:V} (h:PR I β w v c):v.oneCell'=true:=by
 cases c<;>simp only[PR] at h
 ·exact h.oneCell
 ·exact h.2.1.oneCell
 ·obtain⟨_,_,rfl⟩:=h;rfl
 ·obtain⟨_,_,_,_,_,_,_,rfl⟩:=h;rfl
 ·obtain⟨_,_,rfl⟩:=h;rfl
 ·obtain⟨_,_,rfl⟩:=h;rfl
 ·obtain⟨_,_,rfl⟩:=h;rfl
theorem LR.oneCell {c:V} {ox:Option Nat} (h:LR base I β w ox v c) (hc:c.one=true):v.oneCell'=true∧v.cells=#[v]:=by
 cases c<;>simp only[V.one] at hc<;>try cases hc
 ·exact⟨h.toC.oneCell,h.toC.notAgg⟩
 ·exact⟨h.1.oneCell,h.1.notAgg⟩
 ·obtain⟨_,_,rfl⟩:=h;exact⟨rfl,rfl⟩
 ·obtain⟨_,_,rfl,_⟩:=h;exact⟨rfl,rfl⟩
 ·obtain⟨_,_,_,_,_,_,_,rfl⟩:=h;exact⟨rfl,rfl⟩
 ·obtain⟨_,_,rfl⟩:=h;exact⟨rfl,rfl⟩
 ·obtain⟨_,_,rfl⟩:=h;exact⟨rfl,rfl⟩
 ·obtain⟨_,_,_,_,_,_,_,_,rfl,_⟩:=h;exact⟨rfl,rfl⟩
theorem LR.gs_one {ox:Option Nat} {g:Option Value} {E:Option (TypeId×Nat)} {es:List (List C)} (h:LR base I β w ox v (.gs g E es)):v.oneCell'=true∧v.cells=#[v]:=by
 rcases h.gsO.2 with⟨_,_,_,_,rfl⟩ | ⟨_,_,_,_,_,_,_,rfl,_⟩<;>exact⟨rfl,rfl⟩
theorem Dy {ox:Option Nat} (h:LR base I β w ox v x) {ds:List V} (hx:x.bcells=some ds):v.cells.size=ds.length∧
 (∀ j,LR base I β w (if j=0∧x.isOw=true then ox else none) (v.cells.getD j undef) (ds.getD j .un))∧(∀ u∈v.cells,u.oneCell'=true):=by
 have one:∀ c:V,c.one=true→x=c→ds=[c]→v.cells.size=ds.length∧
  (∀ j,LR base I β w (if j=0∧x.isOw=true then ox else none) (v.cells.getD j undef) (ds.getD j .un))∧(∀ u∈v.cells,u.oneCell'=true):=by
  rintro c hc rfl rfl
  obtain⟨h1,h2⟩:=h.oneCell hc
  rw[h2]
  refine⟨rfl,fun j=>?_,by simpa using h1⟩
  cases j with
  |zero=>
   show LR base I β w _ v x
   by_cases ho:x.isOw=true
   ·rw[if_pos ⟨rfl,ho⟩];exact h
   ·rw[if_neg (by simp[ho])];exact h.other (by simpa using ho)
  |succ j=>simp only[fy,List.getD_nil,LR];exact .un _
 cases x<;>simp only[V.bcells] at hx<;>try cases hx
 ·exact one (.c _) rfl rfl rfl
 ·rename_i cs
  obtain⟨vs,rfl,h1,h2⟩:=h.agg
  refine⟨by simpa[Value.cells] using h1,fun j=>?_,fun u hu=>?_⟩
  ·rw[if_neg (by simp[V.isOw])]
   simp only[Value.cells]
   by_cases hj:j<cs.length
   ·have:((cs.map V.c).getD j .un)=.c cs[j]:=by simp[List.getD,hj]
    rw[this]
    exact .ofC (h2 j _ (ae hj))
   ·have:((cs.map V.c).getD j .un)=.un:=by simp[List.getD,bw (en hj)]
    rw[this];simp only[LR];exact .un _
  ·obtain⟨j,hj,rfl⟩:=fA.1 hu
   simp only[Value.cells] at hj
   have:=(h2 j _ (ae (by omega))).oneCell
   simpa[Value.cells,ay hj,hj] using this
 ·exact one (.ow _ _) rfl rfl rfl
 ·exact one (.bp _ _) rfl rfl rfl
 ·exact one (.clo _ _ _) rfl rfl rfl
 ·exact one (.ms _ _ _ _ _) rfl rfl rfl
 ·simp only[LR] at h
  obtain⟨cells,rfl,h1,h2⟩:=h
  refine⟨by simpa[Value.cells] using h1,fun j=>?_,fun u hu=>?_⟩
  ·rw[if_neg (by simp[V.isOw])]
   simp only[Value.cells]
   by_cases hj:j<ds.length
   ·have:(ds.getD j .un)=ds[j]:=by simp[List.getD,hj]
    rw[this]
    exact(h2 j _ (ae hj)).toLR
   ·have:(ds.getD j .un)=.un:=by simp[List.getD,bw (en hj)]
    rw[this];simp only[LR];exact .un _
  ·obtain⟨j,hj,rfl⟩:=fA.1 hu
   simp only[Value.cells] at hj
   have:=(h2 j _ (ae (by omega))).oneCell
   simpa[Value.cells,ay hj,hj] using this
 ·exact one (.mr _) rfl rfl rfl
 ·exact one (.yl _) rfl rfl rfl
 ·exact one (.hh _ _ _) rfl rfl rfl
 ·obtain⟨h1,h2⟩:=h.gs_one
  rw[h2]
  refine⟨rfl,fun j=>?_,by simpa using h1⟩
  cases j with
  |zero=>rw[if_pos ⟨rfl,rfl⟩];exact h
  |succ j=>simp only[fy,List.getD_nil,LR];exact .un _
 ·have hb:=h
  simp only[LR] at hb
  obtain⟨blk,e1,rfl⟩:=hb
  refine⟨rfl,fun j=>?_,by simp[Value.cells,Value.oneCell']⟩
  cases j with
  |zero=>rw[if_neg (by simp[V.isOw])];exact h.other rfl
  |succ j=>simp only[fy,List.getD_nil,LR];exact .un _
theorem Dz {ox:Option Nat} (h:LR base I β w ox v x) {ds:List V} (hx:x.bcells=some ds):∀ d∈ds,d.isMk=false:=by
 cases x<;>simp only[V.bcells] at hx<;>try cases hx
 ·simp[V.isMk]
 ·simp[V.isMk]
 ·simp[V.isMk]
 ·simp[V.isMk]
 ·simp[V.isMk]
 ·simp[V.isMk]
 ·simp only[LR] at h
  obtain⟨cells,rfl,h1,h2⟩:=h
  intro d hd
  obtain⟨j,hj,rfl⟩:=gU hd
  have:=h2 j _ (ae hj)
  cases hc:ds[j]<;>first | rfl | (rw[hc] at this;exact this.elim)
 ·simp[V.isMk]
 ·simp[V.isMk]
 ·simp[V.isMk]
 ·simp[V.isMk]
 ·simp[V.isMk]
theorem AE {l:List V} (h:∀ d∈l,d.isMk=false):cy l=false:=by
 cases l with
 |nil=>rfl
 |cons x l=>exact h x (by simp)
theorem N7 {l ds:List V} {k:Nat} (h:cy l=false) (h2:∀ d∈ds,d.isMk=false) (hk:k≤l.length):cy (fj l k ds)=false:=by
 unfold cy fj at *
 cases k with
 |succ k=>cases l with
  |nil=>simp at hk
  |cons x l=>simpa using h
 |zero=>cases ds with
  |nil=>simpa using h
  |cons d ds=>exact h2 d (by simp)
theorem St.newBox (h:St G n I0 M w0 I β ob s a w) {cur:Array Value} {T:RT} {cs:List V} {od:Nat→Option Nat} (fW:cs.length≤cur.size) (hT:T.ok cur.size)
 (hc:∀ j,LR (Wr M w0) I β w (od j) (cur.getD j undef) (cs.getD j .un)) (h1:∀ u∈cur,u.oneCell'=true)
 (JG:∀ j b,od j=some b→(b<w.heap.size∧Wr M w0 b)∧(∀ L,ob L≠some b)∧∀ i,β i≠some b) (qw:∀ j j' b,od j=some b→od j'=some b→j=j') (kE:cy cs=false) :
 St G n I0 M w0 I (up β s.nb (some w.heap.size)) (fun L=>match L with | .b i j=>if i=s.nb then od j else ob (.b i j) | L=>ob L)
  { s with bx:=up s.bx s.nb cs,nb:=s.nb+1 } a (w.alloc (.cells cur T.t T.fz)):=by
 have hs:=h.allocOwn (.cells cur T.t T.fz)
 have hβ:∀ i b,β i=some b→up β s.nb (some w.heap.size) i=some b:=fun i b hi=>by
  have:i≠s.nb:=fun e=>by rw[h.bnone i (by omega)] at hi;cases hi
  rw[cY _ _ this];exact hi
 have jV:∀ (o':Option Nat),(∀ b,o'=some b→b<w.heap.size)→∀ b,o'=some b→(w.alloc (.cells cur T.t T.fz)).heap[b]?=w.heap[b]?∧∀ k,I b k→I b k:=fun o' ho b hb=>
  ⟨ep w _ b (ho b hb),fun _ h=>h⟩
 have hI:∀ b k,I b k→I b k∧(w.alloc (.cells cur T.t T.fz)).cell? ⟨b,k,none⟩=w.cell? ⟨b,k,none⟩:=fun b k hb=>⟨hb,dQ (a:=⟨b,k,none⟩) (ep w _ b (h.ibnd b k hb))⟩
 have tq:=h.fresh (ab _)
 exact {
  size:=h.size,defers:=h.defers,below:=hs.below,kept:=hs.kept,ilow:=h.ilow,ihigh:=h.ihigh,ibnd:=hs.ibnd
  fr:=fun t=>(h.fr t).mono hI hβ (jV _ fun b hb=>(h.obnd _ b hb).1)
  bx:=fun i hi=>by
   by_cases gC:i=s.nb
   ·subst gC
    refine⟨w.heap.size,cur,by simp,.inl h.below.size,.of (gd w _) h1 hT (by simpa using kE),by simpa using fW,fun j=>?_,fun k hk=>?_⟩
    ·simp only[bW,db]
     exact(hc j).mono hI hβ (jV _ fun b hb=>(JG j b hb).1.1)
    ·have:=h.ibnd _ _ hk;omega
   ·obtain⟨blk,cur',e1,e2,e3,e4,e5,e7⟩:=h.bx i (by simp only at hi;omega)
    have bK:blk<w.heap.size:=e3.lt
    refine⟨blk,cur',hβ i blk e1,e2,by simpa only[cY _ _ gC] using e3.mono (ep w _ blk bK),by simpa only[cY _ _ gC] using e4,fun j=>?_,e7⟩
    simp only[cY _ _ gC,if_neg gC]
    exact(e5 j).mono hI hβ (jV _ fun b hb=>(h.obnd _ b hb).1)
  bnone:=fun i hi=>by
   simp only at hi
   rw[cY _ _ (by omega)]
   exact h.bnone i (by omega)
  ext:=fun i b he=>hβ i b (h.ext i b he)
  bnew:=fun i b hi=>by
   by_cases h1:i=s.nb
   ·subst h1;rw[bW] at hi;cases hi;exact .inr (.inl h.below.size)
   ·rw[cY _ _ h1] at hi;exact h.bnew i b hi
  binj:=fun i j b hi hj=>by
   by_cases h1:i=s.nb<;>by_cases h2:j=s.nb
   ·rw[h1,h2]
   ·subst h1;rw[bW] at hi;cases hi;rw[cY _ _ h2] at hj;exact absurd hj (tq.2 j)
   ·subst h2;rw[bW] at hj;cases hj;rw[cY _ _ h1] at hi;exact absurd hi (tq.2 i)
   ·rw[cY _ _ h1] at hi;rw[cY _ _ h2] at hj;exact h.binj i j b hi hj
  oinj:=fun L L' b hL yB=>by
   have key:∀ L,(match L with | .b i j=>if i=s.nb then od j else ob (.b i j) | L=>ob L)=some b→(∃ j,L=.b s.nb j∧od j=some b)∨ob L=some b:=fun L hL=>by
    cases L with
    |t i=>exact .inr hL
    |b i j=>
     simp only at hL
     split at hL
     ·rename_i e;exact .inl ⟨j,by rw[e],hL⟩
     ·exact .inr hL
   rcases key L hL with⟨j,rfl,hj⟩ | h1<;>rcases key L' yB with⟨j',rfl,VX⟩ | h2
   ·rw[qw j j' b hj VX]
   ·exact absurd h2 ((JG j b hj).2.1 L')
   ·exact absurd h1 ((JG j' b VX).2.1 L)
   ·exact h.oinj L L' b h1 h2
  obx:=fun L b i hL hi=>by
   have key:((∃ j,L=.b s.nb j∧od j=some b)∨ob L=some b):=by
    cases L with
    |t i=>exact .inr hL
    |b i' j=>
     simp only at hL
     split at hL
     ·rename_i e;exact .inl ⟨j,by rw[e],hL⟩
     ·exact .inr hL
   by_cases gC:i=s.nb
   ·subst gC;rw[bW] at hi;cases hi
    rcases key with⟨j,_,hj⟩ | hj
    ·have:=(JG j _ hj).1.1;omega
    ·exact tq.1 L hj
   ·rw[cY _ _ gC] at hi
    rcases key with⟨j,_,hj⟩ | hj
    ·exact(JG j b hj).2.2 i hi
    ·exact h.obx L b i hj hi
  obnd:=fun L b hL=>by
   have key:((∃ j,L=.b s.nb j∧od j=some b)∨ob L=some b):=by
    cases L with
    |t i=>exact .inr hL
    |b i' j=>
     simp only at hL
     split at hL
     ·rename_i e;exact .inl ⟨j,by rw[e],hL⟩
     ·exact .inr hL
   rw[eu]
   rcases key with⟨j,_,hj⟩ | hj
   ·have:=(JG j b hj).1;exact⟨by omega,this.2⟩
   ·have:=h.obnd L b hj;exact⟨by omega,this.2⟩
  glob:=fun g cs hg=>(h.glob g cs hg).mono hI }
theorem HB.same {w:World} {blk:Nat} {c1 c2:Array Value} {l:List V} (hm:cy l=false) (h1:HB w blk c1 l) (h2:HB w blk c2 l):c1=c2:=by
 obtain⟨T1,e1,_⟩:=h1.cells hm
 obtain⟨T2,e2,_⟩:=h2.cells hm
 rw[e1] at e2
 simp only[ao,Obj.cells.injEq] at e2
 exact e2.1
theorem St.recell (h:St G n I0 M w0 I β ob s a w) {b k blk:Nat} {x x':V} (hb:b<s.nb) (hk:(s.bx b)[k]?=some x) (JZ:x.isMk=false) (CB:x'.isMk=false) (jV:ob (.b b k)=some blk)
 {w':World} (hg:w.grb w' (some blk)) (fb:∀ o,I blk o→w'.cell? ⟨blk,o,none⟩=w.cell? ⟨blk,o,none⟩) {I':Ft} (h1:∀ b o,I b o→I' b o) (h2:∀ b o,I' b o→I b o∨b=blk)
 (Cx:∀ b1 cur,β b=some b1→HB w b1 cur (s.bx b)→LR (Wr M w0) I β w (some blk) (cur.getD k undef) x→LR (Wr M w0) I' β w' (some blk) (cur.getD k undef) x') :
 St G n I0 M w0 I' β ob { s with bx:=up s.bx b ((s.bx b).set k x') } a w':=by
 have zh:=h.obnd _ _ jV
 have ov:=h.keeps hg (fun r e o ho=>by cases e;exact fb o ho)
 have hI:∀ b o,I b o→I' b o∧w'.cell? ⟨b,o,none⟩=w.cell? ⟨b,o,none⟩:=fun b o hb=>⟨h1 b o hb,ov b o hb⟩
 have ko:∀ c,c≠blk→c<w.heap.size→w'.heap[c]?=w.heap[c]?∧∀ o,I' c o→I c o:=fun c hc bK=>by
  refine⟨hg.block c bK (by simpa using hc),fun o ho=>?_⟩
  rcases h2 c o ho with h5 | h5
  ·exact h5
  ·exact absurd h5 hc
 have wY:∀ L,L≠.b b k→∀ c,ob L=some c→w'.heap[c]?=w.heap[c]?∧∀ o,I' c o→I c o:=fun L hL c hc=>
  ko c (fun e=>hL (h.oinj _ _ blk (e▸hc) jV)) (h.obnd L c hc).1
 have qu:k<(s.bx b).length:=(ah.1 hk).1
 have mb:(s.bx b).getD k .un=x:=by simp[List.getD,hk]
 exact {
  size:=h.size,defers:=h.defers
  below:=h.below.grown hg (fun q e=>by cases e;exact zh.2)
  kept:=fun b o h0=>(ov b o (h.ilow b o h0)).trans (h.kept b o h0)
  ilow:=fun b o hb=>h1 b o (h.ilow b o hb)
  ihigh:=fun b o hb=>by
   rcases h2 b o hb with h3 | h3
   ·exact h.ihigh b o h3
   ·subst h3;exact .inr zh.2
  ibnd:=fun b o hb=>by
   rcases h2 b o hb with h3 | h3
   ·exact bZ (h.ibnd b o h3) hg.size
   ·subst h3;exact bZ zh.1 hg.size
  fr:=fun t=>(h.fr t).mono hI (fun _ _ e=>e) (wY (.t t) (by simp))
  bx:=fun i hi=>by
   obtain⟨b1,cur,e1,e2,e3,e4,e5,e7⟩:=h.bx i hi
   have gW:b1≠blk:=fun e=>h.obx _ _ i jV (e▸e1)
   obtain⟨q1,q2⟩:=ko b1 gW e3.lt
   by_cases qy:i=b
   ·subst qy
    refine⟨b1,cur,e1,e2,?_,by simp only[bW,gf];exact e4,fun j=>?_,fun o ho=>e7 o (q2 o ho)⟩
    ·simp only[bW]
     refine (e3.mono q1).congr (by simp) ?_
     by_cases xd:k=0
     ·subst xd
      have g1:((s.bx i).set 0 x').getD 0 .un=x':=by simp[List.getD,qu]
      rw[gQ (by unfold cy;rw[g1];exact CB),gQ (by unfold cy;rw[mb];exact JZ)]
     ·have:((s.bx i).set k x').getD 0 .un=(s.bx i).getD 0 .un:=by simp[List.getD,c8 xd]
      unfold qZ
      rw[this]
    ·simp only[bW]
     by_cases hjk:j=k
     ·subst hjk
      have:((s.bx i).set j x').getD j .un=x':=by simp[List.getD,qu]
      rw[this,jV]
      have h5:=e5 j
      rw[mb,jV] at h5
      exact Cx b1 cur e1 e3 h5
     ·have:((s.bx i).set k x').getD j .un=(s.bx i).getD j .un:=by simp[List.getD,c8 (gJ hjk)]
      rw[this]
      exact(e5 j).mono hI (fun _ _ e=>e) (wY (.b i j) (by simp[hjk]))
   ·refine⟨b1,cur,e1,e2,by simp only[cY _ _ qy];exact e3.mono q1,by simp only[cY _ _ qy];exact e4,fun j=>?_,fun o ho=>e7 o (q2 o ho)⟩
    simp only[cY _ _ qy]
    exact(e5 j).mono hI (fun _ _ e=>e) (wY (.b i j) (by simp[qy]))
  bnone:=h.bnone,ext:=h.ext,bnew:=h.bnew,binj:=h.binj,oinj:=h.oinj,obx:=h.obx
  obnd:=fun L c q1=>⟨bZ (h.obnd L c q1).1 hg.size,(h.obnd L c q1).2⟩
  glob:=fun g cs VS=>(h.glob g cs VS).mono hI }
theorem ui (w:World) (row:Option Nat):w.grb w row:=⟨rfl,rfl,rfl,ab _,fun _ _ _=>rfl,ab _⟩
theorem St.hotCell (h:St G n I0 M w0 I β ob s a w) {b k:Nat} {g:Option Value} {E:Option (TypeId×Nat)} {es:List (List C)} (hb:b<s.nb) (hk:(s.bx b)[k]?=some (.hh g E es)):∃ blk cur b1,ob (.b b k)=some blk∧β b=some b1∧HB w b1 cur (s.bx b)∧
 LR (Wr M w0) I β w (some blk) (cur.getD k undef) (.hh g E es):=by
 obtain⟨b1,cur,e1,e2,e3,e4,e5,e7⟩:=h.bx b hb
 have h5:=e5 k
 have mb:(s.bx b).getD k .un=.hh g E es:=by simp[List.getD,hk]
 rw[mb] at h5
 obtain⟨_,e,blk,cap,c2,sz,q1,_⟩:=h5.hot
 rw[q1] at h5
 exact⟨blk,cur,b1,q1,e1,e3,h5⟩
theorem St.name (h:St G n I0 M w0 I β ob s a w) {b k:Nat} {g:Option Value} {E:Option (TypeId×Nat)} {es:List (List C)} (hb:b<s.nb) (kE:cy (s.bx b)=false) (hk:(s.bx b)[k]?=some (.hh g E es)) :
 ∃ blk cap,St G n I0 M w0 I β ob (s.name b k (.slice (some ⟨blk,0,none⟩) es.length cap) E es) a w:=by
 obtain⟨blk,cur,b1,q1,q2,q3,q4⟩:=h.hotCell hb hk
 have q4':=q4
 obtain⟨_,e,tn,cap,c2,sz,r1,r2,r3,_⟩:=q4.hot
 cases r1
 refine⟨blk,cap,?_⟩
 exact h.recell hb hk rfl rfl q1 (ui w _) (fun _ _=>rfl) (fun _ _ h=>h) (fun _ _ h=>.inl h) fun b2 cur2 f1 f2 f3=>by
  rw[q2] at f1;cases f1
  cases q3.same kE f2
  exact⟨fun u hu=>by cases hu;exact r3,f3.hot.2⟩
theorem acj {es:List (List C)} {sz:Nat} (h:∀ x∈es,x.length=sz):∀ x∈es.map (·.map C.wk),x.length=sz:=fun x hx=>by
 obtain⟨y,hy,rfl⟩:=bj.1 hx
 rw[au];exact h y hy
theorem CR.wk {I:Ft} {w:World} {v:Value} {c:C} (h:CR I w v c):CR I w v c.wk:=by
 cases c with
 |sx es=>exact h.sx_inv.1
 |_=>exact h
theorem WW {es:List (List C)}:(es.map (·.map C.wk)).flatten=es.flatten.map C.wk:=by
 induction es with
 |nil=>rfl
 |cons x l ih=>simp only[bA,cU,dj,ih]
theorem St.cool (h:St G n I0 M w0 I β ob s a w) {b k:Nat} {g:Option Value} {E:Option (TypeId×Nat)} {es:List (List C)} (hb:b<s.nb) (hk:(s.bx b)[k]?=some (.hh g E es)):SE G n I0 M w0 (s.cool b k E es) a w:=by
 obtain⟨blk,cur,b1,q1,q2,q3,q4⟩:=h.hotCell hb hk
 obtain⟨_,e,tn,cap,c2,sz,r1,r2,r3,r4,r5,r6,r7,r8,r9,r10,r11,r12⟩:=q4.hot
 cases r1
 refine⟨fun b' o=>I b' o∨(b'=blk∧o<es.length*sz),β,ob,h.recell hb hk rfl rfl q1 (ui w _) (fun _ _=>rfl) (fun _ _ h=>.inl h) (fun b' o h=>?_) fun b2 cur2 f1 f2 f3=>?_⟩
 ·rcases h with h | h
  ·exact .inl h
  ·exact .inr h.1
 ·obtain⟨_,e',blk2,cap',c3,sz',s1,s2,s3,s4,s5,s6,s7,s8,s9,s10,s11,s12⟩:=f3.hot
  cases s1
  rw[r2] at s2;cases s2
  rw[r5] at s5
  simp only[ao,Obj.cells.injEq] at s5
  obtain⟨rfl,_⟩:=s5
  rw[s3]
  have hwl:=acj r9
  have kP:(es.map (·.map C.wk)).flatten.length=es.length*sz:=by rw[bI _ hwl,au]
  have iW:CR (fun b' o=>I b' o∨(b'=blk∧o<es.length*sz)) w (.slice (some ⟨blk,0,none⟩) es.length cap') (.sl (es.map (·.map C.wk))):=by
   have:=CR.row (I':=fun b' o=>I b' o∨(b'=blk∧o<es.length*sz)) (cap:=cap') (es:=es.map (·.map C.wk)) (sz:=sz) r5 (by rw[au];exact s6) hwl (fun q c hq=>by
    rw[WW,bb,aW] at hq
    obtain⟨c0,kQ,rfl⟩:=hq
    have h0:=(ah.1 kQ).1
    rw[bI _ r9] at h0
    have h1:=aO sz s6
    refine⟨by rw[s8];omega,((r10 q c0 kQ).wk).mono fun b o h=>⟨.inl h,rfl⟩⟩) (fun o ho=>.inr ⟨rfl,by rw[au] at ho;exact ho⟩)
   rw[au] at this
   exact this
  simp only[LR]
  refine⟨iW,.inr ⟨e,blk,cap',c2,sz,rfl,r2,by rw[au],r4,r5,by rw[au];exact s6,s7,s8,hwl,fun o ho=>?_⟩⟩
  rw[au]
  rcases ho with ho | ho
  ·have h1:=r12 o ho
   exact bZ h1 (aO _ (Nat.sub_le _ _))
  ·exact ho.2
theorem St.setBox (h:St G n I0 M w0 I β ob s a w) {i k blk:Nat} {cur:Array Value} {T:RT} {vs:List Value} {ds:List V} {od:Nat→Option Nat} (hi:i<s.nb) (hβ:β i=some blk)
 (gY:w.heap[blk]?=some (.cells cur T.t T.fz)) (hT:T.ok cur.size) (cg:vs.length=ds.length) (tp:k+ds.length≤(s.bx i).length)
 (hc:∀ j,LR (Wr M w0) I β w (od j) (vs.getD j undef) (ds.getD j .un)) (h1:∀ u∈vs,u.oneCell'=true)
 (JG:∀ j b,od j=some b→(b<w.heap.size∧Wr M w0 b)∧(∀ L,ob L≠some b)∧∀ i,β i≠some b) (qw:∀ j j' b,od j=some b→od j'=some b→j=j') (kE:cy (s.bx i)=false) (hmd:∀ d∈ds,d.isMk=false) :
 St G n I0 M w0 I β (fun L=>match L with | .b i' j=>if i'=i∧k≤j∧j<k+ds.length then od (j - k) else ob (.b i' j) | L=>ob L)
  { s with bx:=up s.bx i (fj (s.bx i) k ds) } a (w.setRow blk (cur.toList.take k++vs++cur.toList.drop (k+vs.length)).toArray):=by
 obtain⟨tn,cur',e1,e2,e3,e4,e5,e7⟩:=h.bx i hi
 obtain⟨T',e3,e6⟩:=e3.cells kE
 rw[hβ] at e1;cases e1
 rw[gY] at e3
 simp only[ao,Obj.cells.injEq] at e3
 obtain⟨rfl,_,_⟩:=e3
 have w9:blk<w.heap.size:=(bh.1 gY).1
 have jI:cur.toList.length=cur.size:=bP
 have hg:w.grb (w.setRow blk (cur.toList.take k++vs++cur.toList.drop (k+vs.length)).toArray) (some blk):=
  ⟨rfl,rfl,rfl,by simp,fun q _ hq=>jO w blk q _ (fun e=>hq (by rw[e])),ab _⟩
 have ov:=h.keeps hg (fun r e o ho=>by cases e;exact absurd ho (e7 o))
 have hI:∀ b q,I b q→I b q∧(w.setRow blk (cur.toList.take k++vs++cur.toList.drop (k+vs.length)).toArray).cell? ⟨b,q,none⟩=w.cell? ⟨b,q,none⟩:=fun b q hb=>⟨hb,ov b q hb⟩
 have jV:∀ (o':Option Nat),(∀ b,o'=some b→∀ i,β i≠some b)→∀ b,o'=some b→(w.setRow blk (cur.toList.take k++vs++cur.toList.drop (k+vs.length)).toArray).heap[b]?=w.heap[b]?∧∀ q,I b q→I b q:=
  fun o' ho b hb=>⟨jO w blk b _ (fun e=>ho b hb i (by rw[e];exact hβ)),fun _ h=>h⟩
 have key:∀ L b,(match L with | .b i' j=>if i'=i∧k≤j∧j<k+ds.length then od (j - k) else ob (.b i' j) | L=>ob L)=some b→
  (∃ j,L=.b i (k+j)∧od j=some b)∨ob L=some b:=fun L b hL=>by
  cases L with
  |t i=>exact .inr hL
  |b i' j=>
   simp only at hL
   split at hL
   ·rename_i e;exact .inl ⟨j - k,by rw[e.1];congr 1;omega,hL⟩
   ·exact .inr hL
 exact {
  size:=h.size,defers:=h.defers
  below:=h.below.grown hg (fun q e=>by cases e;exact e2)
  kept:=fun b o h0=>(ov b o (h.ilow b o h0)).trans (h.kept b o h0)
  ilow:=h.ilow,ihigh:=h.ihigh
  ibnd:=fun b q hb=>by simpa using h.ibnd b q hb
  fr:=fun t=>(h.fr t).mono hI (fun _ _ e=>e) (jV _ fun b hb i=>h.obx _ b i hb)
  bx:=fun i' sy=>by
   by_cases hii:i'=i
   ·subst hii
    refine⟨blk,_,hβ,e2,.of (lu w blk cur _ T.t _ gY) (fun u hu=>?_) ?_ (by simpa only[bW] using N7 kE hmd (by omega)),?_,fun j=>?_,e7⟩
    rotate_left
    ·have:(cur.toList.take k++vs++cur.toList.drop (k+vs.length)).toArray.size=cur.size:=by
      simp only[eN,ai,aN,cW,jI];omega
     rw[this];exact hT
    ·simp only[bW,fj,eN,ai,aN,cW,jI];omega
    ·have ai4:((cur.toList.take k++vs++cur.toList.drop (k+vs.length)).toArray.getD j undef)=if k≤j∧j<k+ds.length then vs.getD (j - k) undef else cur.getD j undef:=by
      rw[aj,dq]
      have vX:(cur.toList.take k).length=k:=by rw[aN,jI];omega
      by_cases ha:j<k
      ·rw[if_neg (by omega),aI,az (by omega),cF,if_pos ha,aM,← aj]
      ·by_cases hb:j<k+ds.length
       ·rw[if_pos ⟨by omega,hb⟩,aI,aH (by omega),vX,az (by omega),aw]
       ·rw[if_neg (by omega),aH (by rw[ai,vX];omega),cN,ai,vX,aM,
         show k+vs.length+(j - (k+vs.length))=j by omega,← aj]
     have ai5:(fj (s.bx i') k ds).getD j .un=if k≤j∧j<k+ds.length then ds.getD (j - k) .un else(s.bx i').getD j .un:=by
      unfold fj
      rw[aw]
      have vX:((s.bx i').take k).length=k:=by rw[aN];omega
      by_cases ha:j<k
      ·rw[if_neg (by omega),aI,az (by omega),cF,if_pos ha,← aw]
      ·by_cases hb:j<k+ds.length
       ·rw[if_pos ⟨by omega,hb⟩,aI,aH (by omega),vX,az (by omega),aw]
       ·rw[if_neg (by omega),aH (by rw[ai,vX];omega),cN,ai,vX,
         show k+ds.length+(j - (k+ds.length))=j by omega,← aw]
     simp only[bW]
     rw[ai4,ai5]
     by_cases gC:k≤j∧j<k+ds.length
     ·rw[if_pos gC,if_pos gC,if_pos ⟨trivial,gC⟩]
      exact(hc (j - k)).mono hI (fun _ _ e=>e) (jV _ fun b hb=>(JG _ b hb).2.2)
     ·rw[if_neg gC,if_neg gC,if_neg (fun e=>gC e.2)]
      exact(e5 j).mono hI (fun _ _ e=>e) (jV _ fun b hb i=>h.obx _ b i hb)
    ·simp only[gu,aV] at hu
     rcases hu with(hu | hu) | hu
     ·exact e6.1 u (by simpa using cn hu)
     ·exact h1 u hu
     ·exact e6.1 u (by simpa using cT hu)
   ·obtain⟨b2,c2,q1,q2,q3,q4,q5,q7⟩:=h.bx i' sy
    have gW:b2≠blk:=fun e=>hii (h.binj i' i blk (by rw[← e];exact q1) hβ)
    refine⟨b2,c2,q1,q2,by simpa only[cY _ _ hii] using q3.mono (jO w blk b2 _ gW),by simpa only[cY _ _ hii] using q4,fun j=>?_,q7⟩
    simp only[cY _ _ hii]
    rw[if_neg (fun e=>hii e.1)]
    exact(q5 j).mono hI (fun _ _ e=>e) (jV _ fun b hb i=>h.obx _ b i hb)
  bnone:=h.bnone,ext:=h.ext,bnew:=h.bnew,binj:=h.binj
  oinj:=fun L L' b hL yB=>by
   rcases key L b hL with⟨j,rfl,hj⟩ | h1<;>rcases key L' b yB with⟨j',rfl,VX⟩ | h2
   ·rw[qw j j' b hj VX]
   ·exact absurd h2 ((JG j b hj).2.1 L')
   ·exact absurd h1 ((JG j' b VX).2.1 L)
   ·exact h.oinj L L' b h1 h2
  obx:=fun L b q hL=>by
   rcases key L b hL with⟨j,_,hj⟩ | hj
   ·exact(JG j b hj).2.2 q
   ·exact h.obx L b q hj
  obnd:=fun L b hL=>by
   rw[size_setRow]
   rcases key L b hL with⟨j,_,hj⟩ | hj
   ·exact(JG j b hj).1
   ·exact h.obnd L b hj
  glob:=fun g cs VS=>(h.glob g cs VS).mono hI }
theorem St.boxblk (aR:St G n I0 M w0 I β ob s a w) {i b:Nat} (h:β i=some b):i<s.nb∧Wr M w0 b∧b<w.heap.size:=by
 by_cases hi:i<s.nb
 ·obtain⟨blk,cur,e1,e2,e3,_⟩:=aR.bx i hi
  rw[h] at e1;cases e1
  exact⟨hi,e2,e3.lt⟩
 ·rw[aR.bnone i (by omega)] at h;cases h
end
section
variable {P:Program} {G:Gl} {tr:List Nat} {n:Nat} {I0:Ft} {M:Mx} {w0:World} {I:Ft} {β:Nat→Option Nat} {ob:Loc→Option Nat} {s:S} {a:Act} {w:World} {o:Oper}
 {next:Act→World→Prop} {Q:Exit→Act→World→Prop} {base:Nat→Prop} {v:Value} {x y:V}
def World.putObj (w:World) (r:Nat) (o:Obj):World:={ w with heap:=w.heap.setIfInBounds r o }
theorem nX {r:Nat} {o:Obj} (h:r<w.heap.size):(World.putObj w r o).heap[r]?=some o:=by simp[World.putObj,h]
theorem o5 {r q:Nat} {o:Obj} (h:q≠r):(World.putObj w r o).heap[q]?=w.heap[q]?:=by simp[World.putObj,gJ h]
theorem putObj_size {r:Nat} {o:Obj}:(World.putObj w r o).heap.size=w.heap.size:=by simp[World.putObj]
theorem o6 (r:Nat) (o:Obj):w.grb (World.putObj w r o) (some r):=
 ⟨rfl,rfl,rfl,by simp[World.putObj],fun q _ hq=>o5 (fun e=>hq (by rw[e])),ab _⟩
theorem St.reBox (h:St G n I0 M w0 I β ob s a w) {i blk:Nat} {o:Obj} {cur:Array Value} {l:List V} (hi:i<s.nb) (hβ:β i=some blk)
 (hHB:HB (World.putObj w blk o) blk cur l) (hl:l.length≤cur.size) {od:Nat→Option Nat} (hc:∀ j,LR (Wr M w0) I β w (od j) (cur.getD j undef) (l.getD j .un))
 (JG:∀ j b,od j=some b→ob (.b i j)=some b) :
 St G n I0 M w0 I β (fun L=>match L with | .b i' j=>if i'=i then od j else ob (.b i' j) | L=>ob L) { s with bx:=up s.bx i l } a (World.putObj w blk o):=by
 obtain⟨tn,cur',e1,e2,e3,e4,e5,e7⟩:=h.bx i hi
 rw[hβ] at e1;cases e1
 have w9:blk<w.heap.size:=e3.lt
 have hg:=o6 (w:=w) blk o
 have ov:=h.keeps hg (fun r e o ho=>by cases e;exact absurd ho (e7 o))
 have hI:∀ b q,I b q→I b q∧(World.putObj w blk o).cell? ⟨b,q,none⟩=w.cell? ⟨b,q,none⟩:=fun b q hb=>⟨hb,ov b q hb⟩
 have jV:∀ (o':Option Nat),(∀ b,o'=some b→∀ i,β i≠some b)→∀ b,o'=some b→(World.putObj w blk o).heap[b]?=w.heap[b]?∧∀ q,I b q→I b q:=
  fun o' ho b hb=>⟨o5 (fun e=>ho b hb i (by rw[e];exact hβ)),fun _ h=>h⟩
 have key:∀ L b,(match L with | .b i' j=>if i'=i then od j else ob (.b i' j) | L=>ob L)=some b→ob L=some b:=fun L b hL=>by
  cases L with
  |t i=>exact hL
  |b i' j=>
   simp only at hL
   split at hL
   ·rename_i e;rw[e];exact JG j b hL
   ·exact hL
 exact {
  size:=h.size,defers:=h.defers
  below:=h.below.grown hg (fun q e=>by cases e;exact e2)
  kept:=fun b o h0=>(ov b o (h.ilow b o h0)).trans (h.kept b o h0)
  ilow:=h.ilow,ihigh:=h.ihigh
  ibnd:=fun b q hb=>by rw[putObj_size];exact h.ibnd b q hb
  fr:=fun t=>(h.fr t).mono hI (fun _ _ e=>e) (jV _ fun b hb i=>h.obx _ b i hb)
  bx:=fun i' sy=>by
   by_cases hii:i'=i
   ·subst hii
    refine⟨blk,cur,hβ,e2,by simpa only[bW] using hHB,by simpa only[bW] using hl,fun j=>?_,e7⟩
    simp only[bW,db]
    exact(hc j).mono hI (fun _ _ e=>e) (jV _ fun b hb q=>h.obx _ b q (JG j b hb))
   ·obtain⟨b2,c2,q1,q2,q3,q4,q5,q7⟩:=h.bx i' sy
    have gW:b2≠blk:=fun e=>hii (h.binj i' i blk (by rw[← e];exact q1) hβ)
    refine⟨b2,c2,q1,q2,by simpa only[cY _ _ hii] using q3.mono (o5 gW),by simpa only[cY _ _ hii] using q4,fun j=>?_,q7⟩
    simp only[cY _ _ hii,if_neg hii]
    exact(q5 j).mono hI (fun _ _ e=>e) (jV _ fun b hb i=>h.obx _ b i hb)
  bnone:=h.bnone,ext:=h.ext,bnew:=h.bnew,binj:=h.binj
  oinj:=fun L L' b hL yB=>h.oinj L L' b (key L b hL) (key L' b yB)
  obx:=fun L b q hL=>h.obx L b q (key L b hL)
  obnd:=fun L b hL=>by rw[putObj_size];exact h.obnd L b (key L b hL)
  glob:=fun g cs VS=>(h.glob g cs VS).mono hI }
theorem N8 {es:List MapEntry} {r:List V} {bs:List Nat} {cl:Nat} {od:Nat→Option Nat} (hr:r.length=2*es.length)
 (h:∀ (j:Nat) (e:MapEntry),es[j]?=some e→LR base I β w (od (2*j+1)) e.key (r.getD (2*j) .un)∧LR base I β w (od (2*j+2)) e.val (r.getD (2*j+1) .un)) (j:Nat) :
 LR base I β w (od j) ((undef::kV es).toArray.getD j undef) ((V.mk bs cl::r).getD j .un):=by
 have hg:∀ q,(undef::kV es).toArray.getD (q+1) undef=((kV es)[q]?).getD undef:=fun q=>by
  simp
 cases j with
 |zero=>simp[LR]
 |succ q=>
  rw[hg]
  simp only[fy]
  by_cases hq:q<r.length
  ·have bK:q / 2<es.length:=by omega
   obtain⟨l1,l2⟩:=h (q / 2) _ (ae bK)
   obtain⟨c1,c2⟩:=sF es (q / 2) _ (ae bK)
   rcases Nat.mod_two_eq_zero_or_one q with hm | hm
   ·have e:2*(q / 2)=q:=by omega
    rw[e] at l1 c1
    rw[c1];exact l1
   ·have e:2*(q / 2)+1=q:=by omega
    rw[show 2*(q / 2)+2=2*(q / 2)+1+1 by omega,e] at l2
    rw[e] at c2
    rw[c2];exact l2
  ·have:r.getD q .un=.un:=by simp[List.getD,bw (en hq)]
   rw[this];simp only[LR];exact .un _
theorem St.reMap (h:St G n I0 M w0 I β ob s a w) {i cl blk:Nat} {bs:List Nat} {r:List V} {es:Array MapEntry} (hm:QO P I M w0 β ob s w i bs cl r blk es) {es':Array MapEntry} {cl':Nat} {bs':List Nat} {r':List V}
 (hb:es'.toList.map (·.born)=bs') (hr:r'.length=2*bs'.length) {od:Nat→Option Nat} (JG:∀ j b,od j=some b→ob (.b i j)=some b)
 (als:∀ (j:Nat) (e:MapEntry),es'.toList[j]?=some e→LR (Wr M w0) I β w (od (2*j+1)) e.key (r'.getD (2*j) .un)∧LR (Wr M w0) I β w (od (2*j+2)) e.val (r'.getD (2*j+1) .un)) :
 ∃ ob',St G n I0 M w0 I β ob' { s with bx:=up s.bx i (.mk bs' cl'::r') } a (World.putObj w blk (.map es' cl')):=by
 have bK:blk<w.heap.size:=(bh.1 hm.heap).1
 have cg:es'.toList.length=bs'.length:=by rw[← hb,au]
 refine⟨_,h.reBox (cur:=(undef::kV es'.toList).toArray) (od:=od) hm.lt hm.bt ?_ ?_ (fun j=>N8 (by omega) als j) JG⟩
 ·unfold HB
  have:qZ (V.mk bs' cl'::r')=some (.mp bs' cl'):=rfl
  rw[this]
  exact⟨es',nX bK,hb,rfl,by simp[hr];omega⟩
 ·simp[xu,cg,hr]
theorem uj {l:List V} {i j:Nat} {x:V} (h:i≠j):(l.set i x).getD j .un=l.getD j .un:=by
 simp[List.getD,List.getElem?_set,h]
theorem CZ {l:List V} {i:Nat} {x:V} (h:i<l.length):(l.set i x).getD i .un=x:=by
 simp[List.getD,h]
theorem St.newMap (h:St G n I0 M w0 I β ob s a w) :
 St G n I0 M w0 I (up β s.nb (some w.heap.size)) (fun L=>match L with | .b i j=>if i=s.nb then none else ob (.b i j) | L=>ob L)
  { s with bx:=up s.bx s.nb [.mk [] 0],nb:=s.nb+1 } a (w.alloc (.map #[] 0)):=by
 have hs:=h.allocOwn (.map #[] 0)
 have hβ:∀ i b,β i=some b→up β s.nb (some w.heap.size) i=some b:=fun i b hi=>by
  have:i≠s.nb:=fun e=>by rw[h.bnone i (by omega)] at hi;cases hi
  rw[cY _ _ this];exact hi
 have jV:∀ (o':Option Nat),(∀ b,o'=some b→b<w.heap.size)→∀ b,o'=some b→(w.alloc (.map #[] 0)).heap[b]?=w.heap[b]?∧∀ k,I b k→I b k:=fun o' ho b hb=>
  ⟨ep w _ b (ho b hb),fun _ h=>h⟩
 have hI:∀ b k,I b k→I b k∧(w.alloc (.map #[] 0)).cell? ⟨b,k,none⟩=w.cell? ⟨b,k,none⟩:=fun b k hb=>⟨hb,dQ (a:=⟨b,k,none⟩) (ep w _ b (h.ibnd b k hb))⟩
 have tq:=h.fresh (ab _)
 have key:∀ L b,(match L with | .b i j=>if i=s.nb then none else ob (.b i j) | L=>ob L)=some b→ob L=some b:=fun L b hL=>by
  cases L with
  |t i=>exact hL
  |b i j=>
   simp only at hL
   split at hL
   ·cases hL
   ·exact hL
 exact {
  size:=h.size,defers:=h.defers,below:=hs.below,kept:=hs.kept,ilow:=h.ilow,ihigh:=h.ihigh,ibnd:=hs.ibnd
  fr:=fun t=>(h.fr t).mono hI hβ (jV _ fun b hb=>(h.obnd _ b hb).1)
  bx:=fun i hi=>by
   by_cases gC:i=s.nb
   ·subst gC
    refine⟨w.heap.size,#[undef],by simp,.inl h.below.size,?_,by simp,fun j=>?_,fun k hk=>?_⟩
    ·simp only[bW]
     exact⟨#[],gd w _,rfl,rfl,rfl⟩
    ·simp only[bW,db]
     cases j with
     |zero=>simp[LR]
     |succ j=>simp only[fy,List.getD_nil,LR];exact .un _
    ·have:=h.ibnd _ _ hk;omega
   ·obtain⟨blk,cur',e1,e2,e3,e4,e5,e7⟩:=h.bx i (by simp only at hi;omega)
    have bK:blk<w.heap.size:=e3.lt
    refine⟨blk,cur',hβ i blk e1,e2,by simpa only[cY _ _ gC] using e3.mono (ep w _ blk bK),by simpa only[cY _ _ gC] using e4,fun j=>?_,e7⟩
    simp only[cY _ _ gC,if_neg gC]
    exact(e5 j).mono hI hβ (jV _ fun b hb=>(h.obnd _ b hb).1)
  bnone:=fun i hi=>by
   simp only at hi
   rw[cY _ _ (by omega)]
   exact h.bnone i (by omega)
  ext:=fun i b he=>hβ i b (h.ext i b he)
  bnew:=fun i b hi=>by
   by_cases h1:i=s.nb
   ·subst h1;rw[bW] at hi;cases hi;exact .inr (.inl h.below.size)
   ·rw[cY _ _ h1] at hi;exact h.bnew i b hi
  binj:=fun i j b hi hj=>by
   by_cases h1:i=s.nb<;>by_cases h2:j=s.nb
   ·rw[h1,h2]
   ·subst h1;rw[bW] at hi;cases hi;rw[cY _ _ h2] at hj;exact absurd hj (tq.2 j)
   ·subst h2;rw[bW] at hj;cases hj;rw[cY _ _ h1] at hi;exact absurd hi (tq.2 i)
   ·rw[cY _ _ h1] at hi;rw[cY _ _ h2] at hj;exact h.binj i j b hi hj
  oinj:=fun L L' b hL yB=>h.oinj L L' b (key L b hL) (key L' b yB)
  obx:=fun L b i hL hi=>by
   by_cases gC:i=s.nb
   ·subst gC;rw[bW] at hi;cases hi
    exact tq.1 L (key L _ hL)
   ·rw[cY _ _ gC] at hi
    exact h.obx L b i (key L b hL) hi
  obnd:=fun L b hL=>by
   rw[eu]
   have:=h.obnd L b (key L b hL);exact⟨by omega,this.2⟩
  glob:=fun g cs hg=>(h.glob g cs hg).mono hI }
theorem DD (aR:St G n I0 M w0 I β ob s a w) {i cl blk j:Nat} {bs:List Nat} {r:List V} {es:Array MapEntry} (hm:QO P I M w0 β ob s w i bs cl r blk es) {e:MapEntry} (he:es.toList[j]?=some e)
 {vv:Value} (hv:LR (Wr M w0) I β w none vv y) {f:MapEntry→MapEntry} (hf:f e={ e with val:=vv }) :
 ∃ ob',St G n I0 M w0 I β ob' { s with bx:=up s.bx i (.mk bs cl::r.set (2*j+1) y) } a (World.putObj w blk (.map (es.modify j f) cl)):=by
 have hj:j<es.toList.length:=(ah.1 he).1
 have WC:es.toList.length=bs.length:=by rw[← hm.born,au]
 have nM:∀ q,(es.modify j f).toList[q]?=if q=j then some { e with val:=vv } else es.toList[q]?:=fun q=>by
  rw[Array.toList_modify,List.getElem?_modify]
  by_cases hq:j=q
  ·subst hq;simp[he,hf]
  ·simp[hq,gJ hq]
 refine aR.reMap hm (es':=es.modify j f) (bs':=bs) (cl':=cl) (od:=fun q=>if q=2*j+2 then none else ob (.b i q)) ?_ (by rw[gf];exact hm.len) (fun q b hq=>by split at hq;cases hq;exact hq) fun q e' hq=>?_
 ·rw[← hm.born]
  apply gI
  intro q
  rw[bb,bb,nM]
  by_cases hq:q=j
  ·subst hq;simp only[db,he,b8]
  ·rw[if_neg hq]
 ·rw[nM] at hq
  by_cases hqj:q=j
  ·subst hqj
   simp only[db,ao] at hq;subst hq
   obtain⟨l1,_⟩:=hm.ent q e he
   refine⟨?_,?_⟩
   ·rw[uj (by omega),if_neg (by omega)];exact l1
   ·rw[CZ (by have:=hm.len;omega),if_pos rfl];exact hv
  ·rw[if_neg hqj] at hq
   obtain⟨l1,l2⟩:=hm.ent q e' hq
   refine⟨?_,?_⟩
   ·rw[uj (by omega),if_neg (by omega)];exact l1
   ·rw[uj (by omega),if_neg (by omega)];exact l2
theorem wv (aR:St G n I0 M w0 I β ob s a w) {i cl blk:Nat} {bs:List Nat} {r:List V} {es:Array MapEntry} (hm:QO P I M w0 β ob s w i bs cl r blk es)
 {vk vv:Value} (hk:LR (Wr M w0) I β w none vk x) (hv:LR (Wr M w0) I β w none vv y) :
 ∃ ob',St G n I0 M w0 I β ob' { s with bx:=up s.bx i (.mk (bs++[cl]) (cl+1)::(r++[x,y])) } a (World.putObj w blk (.map (es.push { key:=vk,val:=vv,born:=cl }) (cl+1))):=by
 have WC:es.toList.length=bs.length:=by rw[← hm.born,au]
 have cg:=hm.len
 refine aR.reMap hm (es':=es.push { key:=vk,val:=vv,born:=cl }) (bs':=bs++[cl]) (cl':=cl+1) (od:=fun q=>if q<1+r.length then ob (.b i q) else none) (by simp[hm.born]) (by simp[cg];omega)
  (fun q b hq=>by split at hq;exact hq;cases hq) fun q e' hq=>?_
 rw[Array.toList_push] at hq
 by_cases hqj:q<es.toList.length
 ·rw[az hqj] at hq
  obtain⟨l1,l2⟩:=hm.ent q e' hq
  have g:∀ p,p<r.length→(r++[x,y]).getD p .un=r.getD p .un:=fun p hp=>by simp[List.getD,az hp]
  refine⟨?_,?_⟩
  ·rw[g _ (by omega),if_pos (by omega)];exact l1
  ·rw[g _ (by omega),if_pos (by omega)];exact l2
 ·rw[aH (by omega)] at hq
  have hq0:q - es.toList.length=0:=by have:=(ah.1 hq).1;simp at this;omega
  rw[hq0] at hq
  simp only[cw,ao] at hq;subst hq
  have e1:2*q=r.length:=by omega
  refine⟨?_,?_⟩
  ·rw[if_neg (by omega),e1]
   have:(r++[x,y]).getD r.length .un=x:=by simp[List.getD]
   rw[this];exact hk
  ·rw[if_neg (by omega),e1]
   have:(r++[x,y]).getD (r.length+1) .un=y:=by simp[List.getD]
   rw[this];exact hv
theorem WX {I:Ft} {w:World} {u1 u2:Value} {d1 d2:V} (h1:DR I w u1 d1) (h2:DR I w u2 d2):DR I w (.tuple #[u1,u2]) (.tup [d1,d2]):=by
 refine .tup _ _ rfl fun q d hd=>?_
 match q with
 |0=>simp at hd;subst hd;exact h1
 |1=>simp at hd;subst hd;exact h2
 |q+2=>simp at hd
theorem vO {T:TypeId} {k z:V} {K:S→Prop} {vx vk vv:Value} {ox oy oz:Option Nat} (aR:St G n I0 M w0 I β ob s a w) (h:iJ P T s x k z K)
 (hx:LR (Wr M w0) I β w ox vx x) (hy:LR (Wr M w0) I β w oy vk k) (hz:LR (Wr M w0) I β w oz vv z) :
 ∃ s' ob' w',K s'∧(Instr.mapUpdate T vx vk vv).run P w=.ok () w'∧St G n I0 M w0 I β ob' s' a w':=by
 unfold iJ at h
 obtain⟨i,bs,cl,r,res,z0,blk,kt,et,es,zv,hK,rfl,rfl,hm,hu,vK,Dn,mX,V0,Qf⟩:=o4 aR h hx hy
 have hg:=fh (P:=P) hm.heap
 cases res with
 |some j=>
  obtain⟨e,he,Ax,JH⟩:=mX j rfl
  simp only[b8,he,cx] at Dn
  obtain⟨ob',cK⟩:=DD aR hm he (hz.fz none) (f:=fun e=>{ e with key:=vk,val:=vv }) (by rw[Ax])
  have he':es[j]?=some e:=by rw[← aM];exact he
  refine⟨_,ob',_,hK,?_,cK⟩
  simp[Instr.mapUpdate,aP hu,hg,vK,Dn,he',JH,fQ _ hm.heap,Result.andThen,World.putObj]
 |none=>
  simp only[jJ] at Dn
  obtain⟨ob',cK⟩:=wv aR hm (hy.fz none) (hz.fz none)
  refine⟨_,ob',_,hK,?_,cK⟩
  simp[Instr.mapUpdate,aP hu,hg,vK,Dn,fQ _ hm.heap,Result.andThen,World.putObj]
theorem Aj {T:TypeId} {k:V} {K:S→V→Prop} {vx vk:Value} {ox oy:Option Nat} (aR:St G n I0 M w0 I β ob s a w) (h:fV P T s x k K)
 (hx:LR (Wr M w0) I β w ox vx x) (hy:LR (Wr M w0) I β w oy vk k) :
 ∃ s' ob' w' z u,K s' z∧(Instr.mapEntry T vx vk).run P w=.ok u w'∧St G n I0 M w0 I β ob' s' a w'∧LR (Wr M w0) I β w' none u z:=by
 unfold fV at h
 obtain⟨i,bs,cl,r,res,z0,blk,kt,et,es,zv,hK,rfl,rfl,hm,hu,vK,Dn,mX,V0,Qf⟩:=o4 aR h hx hy
 have hg:=fh (P:=P) hm.heap
 have hI:∀ (o':Obj) b o,I b o→I b o∧(World.putObj w blk o').cell? ⟨b,o,none⟩=w.cell? ⟨b,o,none⟩:=fun o' b o hb=>
  ⟨hb,aR.keeps (o6 blk o') (fun r e o ho=>by cases e;exact absurd ho (hm.fr o)) b o hb⟩
 cases res with
 |some j=>
  obtain⟨e,he,Ax,JH⟩:=mX j rfl
  simp only[b8,he,cx] at Dn
  obtain⟨l1,l2⟩:=hm.ent j e he
  have he':es[j]?=some e:=by rw[← aM];exact he
  have hbj:bs.getD j 0=e.born:=by rw[← hm.born];simp[List.getD,he]
  have hr:(r.set (2*j+1) (r.getD (2*j+1) .un))=r:=by
   apply gI
   intro q
   rw[List.getElem?_set]
   split
   ·rename_i e;subst e
    split
    ·rename_i hl;simp[List.getD,hl]
    ·rename_i hl;rw[bw (by omega)]
   ·rfl
  have ou:up s.bx i (V.mk bs cl::r)=s.bx:=by rw[← hm.bx];exact sB _ _
  have cK:∃ ob',St G n I0 M w0 I β ob' s a (World.putObj w blk (.map (es.modify j fun e=>{ e with key:=vk }) cl)):=by
   have nM:∀ q,(es.modify j fun e=>{ e with key:=vk }).toList[q]?=es.toList[q]?:=fun q=>by
    rw[Array.toList_modify,List.getElem?_modify]
    by_cases hq:j=q
    ·subst hq;rw[he,← Ax];simp
    ·cases es.toList[q]?<;>simp[hq]
   have hl:(es.modify j fun e=>{ e with key:=vk })=es:=dn (gI nM)
   rw[hl]
   obtain⟨ob',h'⟩:=aR.reMap hm (es':=es) (bs':=bs) (cl':=cl) (r':=r) (od:=fun q=>ob (.b i q)) hm.born hm.len (fun _ _ h=>h) hm.ent
   rw[ou] at h'
   exact⟨ob',h'⟩
  obtain⟨ob',cK⟩:=cK
  refine⟨s,ob',_,_,.tuple #[e.val,.int .i64 e.born],hK,?_,cK,?_⟩
  ·simp[Instr.mapEntry,aP hu,hg,vK,Dn,he',JH,fQ _ hm.heap,Result.andThen,World.putObj,goInt]
  ·simp only[LR]
   rw[hbj]
   exact(WX (vN l2) (.c _ _ (.lit _ rfl))).mono (hI _)
 |none=>
  simp only[jJ] at Dn
  obtain⟨ob',cK⟩:=wv aR hm (hy.fz none) Qf
  refine⟨_,ob',_,_,.tuple #[zv,.int .i64 cl],hK,?_,cK,?_⟩
  ·simp[Instr.mapEntry,aP hu,hg,vK,Dn,V0,fQ _ hm.heap,Result.andThen,World.putObj,goInt]
  ·simp only[LR]
   exact(WX (vN Qf) (.c _ _ (.lit _ rfl))).mono (hI _)
theorem Ki {es:List MapEntry} {m:Int} {j:Nat} (h:(es.map (·.born)).findIdx? (fun(b:Nat)=>(b:Int)==m)=some j):∃ e,es[j]?=some e∧es.findIdx? (fun e=>(e.born:Int)==m)=some j:=by
 have h1:es.findIdx? (fun e=>(e.born:Int)==m)=some j:=by
  rw[List.findIdx?_map] at h;exact h
 have bK:j<es.length:=by
  have:=eG.1 h1
  exact this.1
 exact⟨_,ae bK,h1⟩
theorem Ak {T:TypeId} {k z:V} {K:S→Prop} {vx vk vv:Value} {ox oy oz:Option Nat} (aR:St G n I0 M w0 I β ob s a w) (h:fN s x k z K)
 (hx:LR (Wr M w0) I β w ox vx x) (hy:LR (Wr M w0) I β w oy vk k) (hz:LR (Wr M w0) I β w oz vv z) :
 ∃ s' ob' w',K s'∧(Instr.entryStore T vx vk vv).run P w=.ok () w'∧St G n I0 M w0 I β ob' s' a w':=by
 unfold fN at h
 split at h
 ·rename_i i ik m
  split at h
  ·rename_i bs cl r hb
   split at h
   ·rename_i j hj
    obtain⟨hi,hK⟩:=h
    simp only[LR] at hx
    obtain⟨blk,hβ,rfl⟩:=hx
    obtain⟨es,hm⟩:=aR.mapW (P:=P) hi hb hβ
    have hg:=fh (P:=P) hm.heap
    have:=hy.lit
    subst this
    rw[← hm.born] at hj
    obtain⟨e,he,hf⟩:=Ki hj
    have GF:es.findIdx? (fun e=>(e.born:Int)==m)=some j:=by rw[show es=es.toList.toArray by simp,List.findIdx?_toArray];exact hf
    obtain⟨ob',cK⟩:=DD aR hm he (hz.fz none) (f:=fun e=>{ e with val:=vv }) rfl
    refine⟨_,ob',_,hK,?_,cK⟩
    simp[Instr.entryStore,hg,GF,asInt,asIntOf,fQ _ hm.heap,Result.andThen,World.putObj]
   ·exact h.elim
  ·exact h.elim
 ·exact h.elim
theorem QP {t:Nat} {u:Value} (h:a.tmps.getD t undef=u) (ht:t<a.tmps.size):a.put (some t) u=a:=by
 have:a.tmps.setIfInBounds t u=a.tmps:=by
  apply mE (by simp)
  intro i h1 h2
  rw[gx]
  split
  ·rename_i e;subst e;rw[← h];simp[ht]
  ·rfl
 simp only[Act.put,this]
theorem G3 {t:Nat} {ty:TypeId} {K:Option V→V→Prop} (aR:St G n I0 M w0 I β ob s a w) (hd:∀ d,o.dst=some d→d<n) (h:Dq s (s.fr t) K) :
 ∃ it z u w',K it z∧(Instr.next (a.tmps.getD t undef) false ty).run P w=.ok u w'∧SE G n I0 M w0 ((match it with | some x=>{ s with fr:=up s.fr t x } | none=>s:S).put o.dst z) (a.put o.dst u) w':=by
 unfold Dq at h
 have hx:=aR.fr t
 split at h
 ·rename_i i since stepped seen tq
  rw[tq] at hx
  split at h
  ·rename_i bs cl r hb
   obtain⟨⟨hi,hsc,nN⟩,Ml,zY⟩:=h
   simp only[LR] at hx
   obtain⟨blk,m,tY,vL,hβ,hv,hh,Qv⟩:=hx
   obtain⟨es,hm⟩:=aR.mapW (P:=P) hi hb hβ
   rw[hv]
   rcases run_next_at (P:=P) w ty blk m since stepped seen.toArray es cl hh hm.heap (fun x hx=>nN _ (by rw[← hm.born];exact bj.2 ⟨x,hx,rfl⟩)) hsc with⟨h0,bM⟩ | ⟨e,he,w1,yE,bM⟩
   ·refine⟨none,_,_,_,Ml fun b hbm=>?_,bM,?_⟩
    ·rw[← hm.born] at hbm
     obtain⟨x,JZ,rfl⟩:=bj.1 hbm
     have:=Array.size_eq_zero_iff.1 h0
     unfold leftOf at this
     rw[Array.filter_eq_empty_iff] at this
     have h2:=this x (by simpa using JZ)
     simpa using h2
    ·cases lk:o.dst with
     |none=>exact⟨_,_,_,aR⟩
     |some d=>
      exact⟨_,_,_,aR.put d (hd d lk) (o:=none) (by
       simp only[LR]
       refine .tup _ _ rfl fun q x hq=>?_
       match q with
       |0=>simp at hq;subst hq;exact .c _ _ (.lit _ rfl)
       |q+1=>simp at hq) FreeOb.nothing⟩
   ·have j8:e∈es.toList∧e.born∉seen:=by
     unfold leftOf at he
     simp only[Array.toList_filter,cH] at he
     exact⟨he.1,by simpa using he.2⟩
    obtain⟨j,hj⟩:=List.getElem?_of_mem j8.1
    obtain⟨l1,l2⟩:=hm.ent j e hj
    have hbj:bs[j]?=some e.born:=by rw[← hm.born,bb,hj];rfl
    refine⟨_,_,_,_,zY j e.born hbj j8.2,bM,?_⟩
    have nL:St G n I0 M w0 I β ob s a w1:=by rcases yE with rfl | rfl;exact aR;exact aR.drew
    have gY:w1.heap=w.heap:=by rcases yE with rfl | rfl<;>rfl
    have fW:t<a.tmps.size:=by
     by_cases ht:t<a.tmps.size
     ·exact ht
     ·exfalso
      have:a.tmps.getD t undef=undef:=by simp[dB (en ht)]
      rw[this] at hv
      cases hv
    have w9:blk<w1.heap.size:=by rw[gY];exact(aR.obnd _ _ tY).1
    have hc:=nL.clr t
    have hL:∀ L,upL ob (.t t) none L≠some blk:=fun L hL=>by
     simp only[upL] at hL
     split at hL
     ·cases hL
     ·rename_i gW;exact gW (aR.oinj _ _ blk hL tY)
    have hβn:∀ q,β q≠some blk:=fun q hq=>aR.obx _ blk q tY hq
    have hg:=hc.growRow (I':=I) (o6 (w:=w1) blk (.mapIter (some m) since (seen.toArray.push e.born) cl)) vL (fun o ho=>absurd ho (Qv o)) hL hβn (fun _ _ h=>h) (fun _ _ h=>.inl h) (by rw[putObj_size];exact w9)
    have hp:=hg.put t (by rw[← aR.size];exact fW) (v:=.pointer (some ⟨blk,0,none⟩)) (x:=.it i since cl (seen++[e.born])) (o:=some blk) (by
     simp only[LR]
     exact⟨blk,m,rfl,vL,hβ,rfl,by rw[nX w9];simp,Qv⟩) (fun b hb=>by
     cases hb
     refine⟨⟨by rw[putObj_size];exact w9,vL⟩,fun L yB=>?_,hβn⟩
     simp only[upL] at yB
     split at yB
     ·cases yB
     ·exact hL L (by simp only[upL];split<;>simp_all))
    rw[QP hv fW] at hp
    have Dm:(s.clr t).put (some t) (.it i since cl (seen++[e.born]))={ s with fr:=up s.fr t (.it i since cl (seen++[e.born])) }:=by
     simp only[S.clr,S.put]
     congr 1
     funext q
     simp only[up];split<;>simp_all
    rw[Dm] at hp
    cases lk:o.dst with
    |none=>exact⟨_,_,_,hp⟩
    |some d=>
     refine⟨_,_,_,hp.put d (hd d lk) (o:=none) ?_ FreeOb.nothing⟩
     have hI:∀ b o,I b o→I b o∧(World.putObj w1 blk (.mapIter (some m) since (seen.toArray.push e.born) cl)).cell? ⟨b,o,none⟩=w.cell? ⟨b,o,none⟩:=fun b o hb=>by
      refine⟨hb,dQ (a:=⟨b,o,none⟩) ?_⟩
      have gW:b≠blk:=fun e=>Qv o (by rw[← e];exact hb)
      exact(o5 gW).trans (by rw[gY])
     have:=(DR.tup (w:=w) (I:=I) #[.bool true,e.key,e.val] [.c (.lit (.bool true)),(r.getD (2*j) .un).dr,(r.getD (2*j+1) .un).dr] rfl fun q x hq=>by
      match q with
      |0=>simp at hq;subst hq;exact .c _ _ (.lit _ rfl)
      |1=>simp at hq;subst hq;exact vN l1
      |2=>simp at hq;subst hq;exact vN l2
      |q+3=>simp at hq).mono hI
     simp only[LR];exact this
  ·exact h.elim
 ·exact h.elim
end
section
variable {P:Program} {G:Gl} {tr:List Nat} {n:Nat} {I0:Ft} {M:Mx} {w0:World} {I:Ft} {β:Nat→Option Nat} {ob:Loc→Option Nat} {s:S} {a:Act} {w:World} {o:Oper}
 {next:Act→World→Prop} {Q:Exit→Act→World→Prop} {base:Nat→Prop} {v:Value} {x y:V} {K:V→Prop}
theorem St.write (aR:St G n I0 M w0 I β ob s a w) {b k:Nat} {blk:Nat} {cs:List C} {vs:List Value} (hb:b<s.nb) (hβ:β b=some blk) (kE:cy (s.bx b)=false) (cg:vs.length=cs.length) (tp:k+cs.length≤(s.bx b).length)
 (hc:∀ (q:Nat) (c:C),cs[q]?=some c→∃ u:Value,vs[q]?=some u∧CR I w u c) :
 ∃ (cur:Array Value) (T:RT) (ob':Loc→Option Nat),w.heap[blk]?=some (.cells cur T.t T.fz)∧T.ok cur.size∧(s.bx b).length≤cur.size∧(∀ u∈vs,u.oneCell'=true)∧
  St G n I0 M w0 I β ob' { s with bx:=up s.bx b (fj (s.bx b) k (cs.map .c)) } a (w.setRow blk (cur.toList.take k++vs++cur.toList.drop (k+vs.length)).toArray):=by
 obtain⟨tn,cur,e1,e2,e3,e4,_⟩:=aR.bx b hb
 obtain⟨T,e3,_,hT⟩:=e3.cells kE
 rw[hβ] at e1;cases e1
 have jE:∀ u∈vs,u.oneCell'=true:=fun u hu=>by
  obtain⟨q,hq⟩:=da.1 hu
  have mZ:q<cs.length:=by rw[← cg];exact(ah.1 hq).1
  obtain⟨u',A1,iW⟩:=hc q cs[q] (ae mZ)
  rw[hq] at A1;cases A1
  exact iW.oneCell
 refine⟨cur,T,_,e3,hT,e4,jE,aR.setBox (i:=b) (k:=k) (blk:=blk) (cur:=cur) (T:=T) (vs:=vs) (ds:=cs.map .c) (od:=fun _=>none) hb hβ e3 hT (by simpa using cg) (by simpa using tp) (fun q=>?_) jE
  (fun _ _ h=>by cases h) (fun _ _ _ h=>by cases h) kE (fun d hd=>?_)⟩
 ·by_cases hq:q<cs.length
  ·obtain⟨u,hu,iW⟩:=hc q cs[q] (ae hq)
   have e1:vs.getD q undef=u:=by rw[aw,hu];rfl
   have e2:(cs.map V.c).getD q .un=.c cs[q]:=by simp[List.getD,hq]
   rw[e1,e2];exact .ofC iW
  ·have e2:(cs.map V.c).getD q .un=.un:=by simp[List.getD,bw (en hq)]
   rw[e2];simp only[LR];exact .un _
 ·obtain⟨c,_,rfl⟩:=bj.1 hd;rfl
theorem St.write_nil (aR:St G n I0 M w0 I β ob s a w) {b k:Nat}:St G n I0 M w0 I β ob { s with bx:=up s.bx b (fj (s.bx b) k []) } a w:=by
 have:fj (s.bx b) k []=s.bx b:=by simp[fj]
 rw[this,sB];exact aR
def oK (st:ByteArray) (m:Nat):List Value:=(st.data.toList.take m).map fun b=>Value.int .u8 b.toNat
theorem N9 (st:ByteArray) (m:Nat):(oK st m).length=(((mF st).take m).flatten).length∧∀ (q:Nat) (c:C),(((mF st).take m).flatten)[q]?=some c→∃ u:Value,(oK st m)[q]?=some u∧CR I w u c:=by
 have e:((mF st).take m).flatten=(st.data.toList.take m).map fun b=>C.lit (.int .u8 b.toNat):=by
  unfold mF
  rw[← List.map_take]
  generalize st.data.toList.take m=l
  induction l with
  |nil=>rfl
  |cons b l ih=>simp only[bA,cU,ih];rfl
 rw[e]
 refine⟨by simp[oK],fun q c hq=>?_⟩
 unfold oK
 rw[bb] at hq ⊢
 cases hb:(st.data.toList.take m)[q]? with
 |none=>simp[hb] at hq
 |some b=>
  simp only[hb,b8,ao] at hq
  exact⟨_,rfl,by rw[← hq];exact .lit _ rfl⟩
theorem Fh {dT sT ty e:TypeId} {j:TypeInfo} (hu:P.underlying dT=some (.slice e)) (hj:P.info? e=some j) (hs:j.size=1) {g off len cap:Nat} {st:ByteArray} {cur:Array Value} {T:RT}
 (hg:w.heap[g]?=some (.cells cur T.t T.fz)) (hT:T.ok cur.size) (tp:off+min st.size len≤cur.size) :
 (Builtin.copy_ #[dT,sT] ty #[.slice (some ⟨g,off,none⟩) len cap,.string st]).run P w=
  .ok (goInt ((min st.size len:Nat):Int)) (w.setRow g (cur.toList.take off++oK st len++cur.toList.drop (off+(oK st len).length)).toArray):=by
 have cg:(oK st len).length=min st.size len:=by
  unfold oK;rw[au,aN,bP,Nat.min_comm];rfl
 have jE:∀ u∈oK st len,u.oneCell'=true:=fun u hu=>by
  obtain⟨_,_,rfl⟩:=bj.1 hu;rfl
 have aR:=fO (P:=P) g off T (oK st len) 0 cur w hg hT (by rw[cg];simpa using tp) jE
 simp only[eC] at aR
 have htk:List.take (Nat.min st.size len) (List.map (fun b:UInt8=>Value.int IntKind.u8 (b.toNat:Int)) st.data.toList)=oK st len:=by
  unfold oK
  rw[← List.map_take]
  congr 1
  rw[show Nat.min st.size len=min len st.size from Nat.min_comm _ _,← List.take_take]
  congr 1
  exact fP (by rw[bP];exact ab _)
 simp[Builtin.copy_,aP hu,Builtin.lenOf,Builtin.firstCells,sizeOf,typeInfo,hj,hs]
 rw[htk,aR]
 simp only[Result.andThen,aI]
theorem C0 {dT sT ty e:TypeId} {j:TypeInfo} (hu:P.underlying dT=some (.slice e)) (hj:P.info? e=some j) {d:Option Addr} {len cap:Nat} {st:ByteArray} (h0:min st.size len=0) :
 (Builtin.copy_ #[dT,sT] ty #[.slice d len cap,.string st]).run P w=.ok (goInt 0) w:=by
 have h0':Nat.min st.size len=0:=h0
 cases d<;>simp[Builtin.copy_,aP hu,Builtin.lenOf,Builtin.firstCells,sizeOf,typeInfo,hj,h0',storeCells]
theorem G4 {t u ty:TypeId} {vx vy:Value} {ox oy:Option Nat} {K:S→V→Prop} (aR:St G n I0 M w0 I β ob s a w) (h:nm P s K [t,u] [x,y]) (hx:LR (Wr M w0) I β w ox vx x) (hy:LR (Wr M w0) I β w oy vy y) :
 ∃ s' ob' w' z v,K s' z∧(Builtin.copy_ #[t,u] ty #[vx,vy]).run P w=.ok v w'∧St G n I0 M w0 I β ob' s' a w'∧LR (Wr M w0) I β w' none v z:=by
 unfold nm at h
 split at h
 ·rename_i t' u' b off len cap sz st tz qt
  simp only[cB,gK] at tz qt
  obtain⟨rfl,rfl⟩:=tz
  obtain⟨rfl,rfl⟩:=qt
  split at h
  ·rename_i e _ _ _ _ _ _ hi
   obtain⟨j,d,h1,h2,h3,_⟩:=bB hi
   have hd:=dx h3
   subst hd
   split at h
   ·rename_i ie kU
    obtain⟨j',d',jf,mG,_,eT,_⟩:=bB kU
    obtain⟨⟨Aa,rfl,hb,kE,tp⟩,h⟩:=h
    simp only[LR] at hx
    obtain⟨j7,blk,off',cap',CL,hβ,mW,rfl⟩:=hx
    rw[hy.lit]
    have tX:(((mF st).take len).flatten).length=min st.size len:=by
     rw[bI (sz:=1) _ (fun x hx=>by have:=cn hx;simp only[mF,bj] at this;obtain⟨_,_,rfl⟩:=this;rfl),aN]
     simp[mF];exact Nat.min_comm _ _
    by_cases h0:min st.size len=0
    ·have e0:((mF st).take len).flatten=[]:=du (by rw[tX];exact h0)
     rw[e0,h0] at h
     exact⟨_,_,w,_,_,h,C0 h2 jf h0,aR.write_nil,.ofLit rfl⟩
    ·have:off'=off:=by rcases mW with h4 | h4;omega;exact h4
     subst this
     obtain⟨q1,q2⟩:=N9 (I:=I) (w:=w) st len
     obtain⟨cur,T,ob',gY,hT,aaY,jE,cK⟩:=aR.write (k:=off') hb hβ kE q1 (by rw[tX];omega) q2
     exact⟨_,_,_,_,_,h,Fh h2 jf (by rw[← eT];exact Aa) gY hT (by omega),cK,.ofLit rfl⟩
   ·exact h.elim
  ·exact h.elim
 ·exact h.elim
theorem QQ {U e':TypeId} {vy:Value} {oy:Option Nat} {sz:Nat} {ys:List (List C)} (aR:St G n I0 M w0 I β ob s a w) (hy:LR (Wr M w0) I β w oy vy y) (h:v8 s y=some (.sl ys)) (hu:P.underlying U=some (.slice e')) (hs:∀ x∈ys,x.length=sz):GV P I w U vy sz ys:=by
 have flat:∀ {es:List (List C)} {blk off' cap':Nat} {f:Nat→Nat→Value} {z:Nat},vy=.slice (some ⟨blk,off',none⟩) es.length cap'→(∀ e∈es,e.length=z)→es=ys→
  (∀ p q,p<es.length→q<z→w.cell? ⟨blk,off'+p*z+q,none⟩=some (f p q))→(∀ p q e c,es[p]?=some e→e[q]?=some c→CR I w (f p q) c)→GV P I w U vy sz ys:=by
  rintro es blk off' cap' f z rfl h1 rfl h2 h3
  obtain⟨news,tX,JC,JY,EH⟩:=QL (J:=fun _ _=>True) hs h1 (fun i j hi hj=>⟨h2 i j hi hj,trivial⟩) h3
  exact⟨news,Src.ofSlice w hu ⟨blk,off',none⟩ _ _ news tX (fun q u hq=>by rw[c9];exact(JC q u hq).1) EH,JY⟩
 cases y<;>simp only[v8] at h<;>try cases h
 ·exact(RD.ofCR hy.toC).src hu hs
 ·exact(RD.ofCR hy.1).src hu hs
 ·simp only[aW] at h
  obtain⟨cs,_,h2⟩:=h
  cases h2
 ·simp only[LR] at hy
  obtain⟨es,blk,off',cap',f,e1,e2,_,_,h4,h5,h6⟩:=E4 aR h hy
  cases e1
  exact flat e2 h4 rfl h5 h6
def RelL (I:Ft) (w:World) (L:List Value) (cs:List C):Prop:=∀ (q:Nat) (c:C),cs[q]?=some c→∃ u:Value,L[q]?=some u∧CR I w u c
theorem RelL.take {L:List Value} {cs:List C} (h:RelL I w L cs) (k:Nat):RelL I w (L.take k) (cs.take k):=fun q c hq=>by
 rw[cF] at hq
 split at hq
 ·rename_i hk
  obtain⟨u,h1,h2⟩:=h q c hq
  exact⟨u,by rw[cF,if_pos hk];exact h1,h2⟩
 ·cases hq
theorem RelL.drop {L:List Value} {cs:List C} (h:RelL I w L cs) (k:Nat):RelL I w (L.drop k) (cs.drop k):=fun q c hq=>by
 rw[cN] at hq
 obtain⟨u,h1,h2⟩:=h _ c hq
 exact⟨u,by rw[cN];exact h1,h2⟩
theorem RelL.append {L L':List Value} {cs cs':List C} (h:RelL I w L cs) (h':RelL I w L' cs') (hl:L.length=cs.length):RelL I w (L++L') (cs++cs'):=fun q c hq=>by
 by_cases hq1:q<cs.length
 ·rw[az hq1] at hq
  obtain⟨u,h1,h2⟩:=h q c hq
  exact⟨u,by rw[az (by omega)];exact h1,h2⟩
 ·rw[aH (by omega)] at hq
  obtain⟨u,h1,h2⟩:=h' _ c hq
  exact⟨u,by rw[aH (by omega),hl];exact h1,h2⟩
theorem o7 {α:Type} {sz:Nat} {es:List (List α)} (h:∀ e∈es,e.length=sz) {k:Nat} (hk:k≤es.length):(es.take k).flatten=es.flatten.take (k*sz):=by
 have e:es.flatten=(es.take k).flatten++(es.drop k).flatten:=by rw[← dX,dI]
 have hl:(es.take k).flatten.length=k*sz:=by rw[bI _ (fun x hx=>h x (cn hx)),aN,bO hk]
 rw[e,List.take_left' hl]
theorem o8 {α:Type} {sz:Nat} {es:List (List α)} (h:∀ e∈es,e.length=sz) {k:Nat} (hk:k≤es.length):(es.drop k).flatten=es.flatten.drop (k*sz):=by
 have e:es.flatten=(es.take k).flatten++(es.drop k).flatten:=by rw[← dX,dI]
 have hl:(es.take k).flatten.length=k*sz:=by rw[bI _ (fun x hx=>h x (cn hx)),aN,bO hk]
 rw[e,List.drop_left' hl]
theorem St.gsSet (aR:St G n I0 M w0 I β ob s a w) {b k blk cap sz:Nat} {e:TypeId} {es es':List (List C)} {cur:Array Value} {L:List Value} (hb:b<s.nb) (kE:cy (s.bx b)=false)
 (hk:(s.bx b)[k]?=some (.gs (some (.slice (some ⟨blk,0,none⟩) es.length cap)) (some (e,sz)) es)) (gY:w.heap[blk]?=some (.cells cur e (0,0))) (fW:cur.size=cap*sz) (cg:es'.length=es.length) (pg:∀ x∈es',x.length=sz)
 (hL:L.length=cur.size) (jE:∀ u∈L,u.oneCell'=true) (qp:RelL I w L es'.flatten) :
 St G n I0 M w0 I β ob { s with bx:=up s.bx b ((s.bx b).set k (.gs (some (.slice (some ⟨blk,0,none⟩) es.length cap)) (some (e,sz)) es')) } a (w.setRow blk L.toArray):=by
 rcases aR.gsAt hb hk with⟨_,_,_,hE⟩ | ⟨cur1,e1,sz1,jV,hE,_,g1,g2,g3,g4,gm,g5,g6,g7⟩
 ·cases hE
 cases hE
 rw[gY] at g1
 simp only[ao,Obj.cells.injEq,gK] at g1
 subst g1
 have w9:blk<w.heap.size:=(bh.1 gY).1
 have hg:w.grb (w.setRow blk L.toArray) (some blk):=⟨rfl,rfl,rfl,by simp,fun k _ hk=>jO w blk k _ (fun e=>hk (by rw[e])),ab _⟩
 have kb:∀ b o,I b o→I b o∧(w.setRow blk L.toArray).cell? ⟨b,o,none⟩=w.cell? ⟨b,o,none⟩:=fun b o hb=>⟨hb,aR.keeps hg (fun r e o ho=>by cases e;exact absurd ho (g7 o)) b o hb⟩
 refine aR.recell hb hk rfl rfl jV hg (fun o ho=>absurd ho (g7 o)) (fun _ _ h=>h) (fun _ _ h=>.inl h) fun b1 cur0 _ _ hx=>?_
 obtain⟨h1,h2⟩:=hx.gsO
 refine⟨h1,?_⟩
 have hv:=h1 _ rfl
 have V1:Wr M w0 blk:=(aR.obnd _ _ jV).2
 exact .inr ⟨e,blk,cap,L.toArray,sz,rfl,rfl,by rw[hv,cg],V1,lu w blk cur _ e (0,0) gY,by rw[cg];exact g4,gm,by rw[eN,hL,fW],pg,fun j c hj=>by
  obtain⟨u,q1,q2⟩:=qp j c hj
  have:L.toArray.getD j undef=u:=by rw[aj,dq,q1];rfl
  rw[this];exact q2.mono kb,fun u hu=>jE u (gu.1 hu),g7⟩
theorem St.ggSet (aR:St G n I0 M w0 I β ob s a w) {b k blk len cap sz:Nat} {e:TypeId} {es:List (List C)} (hb:b<s.nb) (hk:(s.bx b)[k]?=some (.gg (.slice (some ⟨blk,0,none⟩) len cap) (some (e,sz)) es)) :
 ∃ cur:Array Value,(len=es.length∧w.heap[blk]?=some (.cells cur e (0,0))∧cur.size=cap*sz∧es.length≤cap∧(∀ x∈es,x.length=sz)∧(∀ j c,es.flatten[j]?=some c→CR I w (cur.getD j undef) c)∧(∀ u∈cur,u.oneCell'=true))∧
  ∀ (es':List (List C)) (L:List Value),es'.length=es.length→(∀ x∈es',x.length=sz)→L.length=cur.size→(∀ u∈L,u.oneCell'=true)→RelL I w L es'.flatten→
   St G n I0 M w0 I β ob { s with bx:=up s.bx b ((s.bx b).set k (.gg (.slice (some ⟨blk,0,none⟩) len cap) (some (e,sz)) es')) } a (w.setRow blk L.toArray):=by
 obtain⟨b1,cur0,e1,e2,e3,e4,e5,e7⟩:=aR.bx b hb
 have h5:=e5 k
 have mb:(s.bx b).getD k .un=.gg (.slice (some ⟨blk,0,none⟩) len cap) (some (e,sz)) es:=by simp[List.getD,hk]
 rw[mb] at h5
 have h6:OwnG (Wr M w0) I w (some (e,sz)) es (ob (.b b k)) (.slice (some ⟨blk,0,none⟩) len cap):=h5
 rcases h6 with⟨_,hE,_⟩ | ⟨e',tn,cap',cur,sz',jV,hE,hv,V1,hh,hc,hm,hs,hl,hf,jE,mH⟩
 ·cases hE
 cases hE
 simp only[eM,ao,iE] at hv
 obtain⟨⟨rfl,_⟩,rfl,rfl⟩:=hv
 refine⟨cur,⟨rfl,hh,hs,hc,hl,hf,jE⟩,fun es' L cg pg hL ajd qp=>?_⟩
 have hg:w.grb (w.setRow blk L.toArray) (some blk):=⟨rfl,rfl,rfl,by simp,fun k _ hk=>jO w blk k _ (fun e=>hk (by rw[e])),ab _⟩
 have kb:∀ b o,I b o→I b o∧(w.setRow blk L.toArray).cell? ⟨b,o,none⟩=w.cell? ⟨b,o,none⟩:=fun b o hb=>⟨hb,aR.keeps hg (fun r e o ho=>by cases e;exact absurd ho (mH o)) b o hb⟩
 refine aR.recell hb hk rfl rfl jV hg (fun o ho=>absurd ho (mH o)) (fun _ _ h=>h) (fun _ _ h=>.inl h) fun b1 cur0 _ _ hx=>?_
 show OwnG (Wr M w0) I (w.setRow blk L.toArray) (some (e,sz)) es' (some blk) _
 exact .inr ⟨e,blk,cap,L.toArray,sz,rfl,rfl,by rw[cg],V1,lu w blk cur _ e (0,0) hh,by rw[cg];exact hc,hm,by rw[eN,hL,hs],pg,fun j c hj=>by
  obtain⟨u,q1,q2⟩:=qp j c hj
  have:L.toArray.getD j undef=u:=by rw[aj,dq,q1];rfl
  rw[this];exact q2.mono kb,fun u hu=>ajd u (gu.1 hu),mH⟩
theorem Fi {α:Type} {sz:Nat} {es:List (List α)} (h:∀ e∈es,e.length=sz) {q:Nat} (hq:q<es.length) (x:List α):(es.set q x).flatten=es.flatten.take (q*sz)++x++es.flatten.drop (q*sz+sz):=by
 rw[List.set_eq_take_append_cons_drop,if_pos hq,dX,cU,o7 h (Nat.le_of_lt hq),o8 h hq,dZ,aI]
theorem Bd {t u ty:TypeId} {vx vy:Value} {ox oy:Option Nat} {K:S→V→Prop} (aR:St G n I0 M w0 I β ob s a w) (h:fF P s K [t,u] [x,y]) (hx:LR (Wr M w0) I β w ox vx x) (hy:LR (Wr M w0) I β w oy vy y) :
 ∃ s' ob' w' z v,K s' z∧(Builtin.append_ #[t,u] ty #[vx,vy]).run P w=.ok v w'∧St G n I0 M w0 I β ob' s' a w'∧LR (Wr M w0) I β w' none v z:=by
 unfold fF at h
 split at h
 ·rename_i t' u' b off len cap sz y' tz qt
  simp only[cB,gK] at tz qt
  obtain⟨rfl,rfl⟩:=tz
  obtain⟨rfl,rfl⟩:=qt
  split at h
  ·rename_i e _ _ _ _ _ _ ys hi hyf
   obtain⟨j,d,h1,h2,h3,_⟩:=bB hi
   have hd:=dx h3
   subst hd
   split at h
   ·rename_i ie kU
    obtain⟨j',d',jf,mG,_,eT,_⟩:=bB kU
    obtain⟨⟨rfl,fW,hp,hb,kE,tp,mB,uS⟩,h⟩:=h
    simp only[LR] at hx
    obtain⟨j7,blk,off',cap',CL,hβ,mW,rfl⟩:=hx
    obtain⟨news,rz,JY⟩:=QQ aR hy hyf h2 uS
    have qq:Src P j'.size t vy ys.length news w:=by rw[← eT,fW];exact rz
    have tX:=rz.newsLen
    have kP:=bI ys uS
    by_cases h0:ys=[]
    ·subst h0
     have:news=[]:=du (by rw[tX];simp)
     subst this
     refine⟨_,_,w,_,_,h,lL t t ty e j' h2 jf _ len cap' (by omega) qq,aR.write_nil,?_⟩
     simp only[LR]
     exact⟨by simpa using j7,blk,off',cap',CL,hβ,mW,rfl⟩
    ·have hyl:0<ys.length:=fx.2 h0
     have:off'=off:=by rcases mW with h4 | h4;omega;exact h4
     subst this
     have hm:(len+ys.length)*sz≤cap*sz:=aO _ mB
     rw[di] at hm
     obtain⟨cur,T,ob',gY,hT,aaY,jE,cK⟩:=aR.write (k:=off'+len*sz) (cs:=ys.flatten) (vs:=news) hb hβ kE (by rw[tX,kP]) (by rw[kP];omega) JY
     have bM:=iN (P:=P) (w:=w) t t ty e j' h2 jf blk off' len cap' cur T gY hT vy ys.length news qq (by omega) (by rw[← eT,fW,tX];omega)
     rw[← eT,fW] at bM
     refine⟨_,_,_,_,_,h,bM,cK,?_⟩
     simp only[LR]
     exact⟨mB,blk,off',cap',CL,hβ,.inr rfl,rfl⟩
   ·exact h.elim
  ·exact h.elim
 ·rename_i t' u' blk n' cap blk2 off m cap2 tz qt
  simp only[cB,gK] at tz qt
  obtain⟨rfl,rfl⟩:=tz
  obtain⟨rfl,rfl⟩:=qt
  obtain rfl:=hx.toC.ex_inv
  obtain rfl:=hy.toC.ex_inv
  split at h
  ·rename_i e _ _ _ _ _ _ hi
   obtain⟨j,d,h1,h2,h3,_⟩:=bB hi
   have hd:=dx h3
   subst hd
   split at h
   ·rename_i ie kU
    obtain⟨j',d',jf,mG,_,eT,_⟩:=bB kU
    obtain⟨b,k,jj,E,es,⟨rfl,rfl,hp,⟨e1,rfl⟩,hb,kE,hk,mW,hjm,hnm,hmc⟩,h⟩:=h
    rcases aR.gsAt hb hk with⟨_,_,_,hE⟩ | ⟨cur,e2,sz,jV,hE,_,g1,g2,g3,g4,gm,g5,g6,g7⟩
    ·cases hE
    simp only[ao,ft] at hE
    obtain⟨rfl,rfl⟩:=hE
    generalize fW:ie.size=sz at *
    by_cases h0:m=0
    ·subst h0
     have qq:Src P j'.size t (.slice (some ⟨blk2,off,none⟩) 0 cap2) 0 [] w:=Src.ofSlice w h2 ⟨blk2,off,none⟩ _ _ [] (by simp) (by simp) (by simp)
     have agc:es.take n'++(es.drop jj).take 0++es.drop (n'+0)=es:=by simp
     rw[agc] at h
     have rA:(s.bx b).set k (.gs (some (.slice (some ⟨blk2,0,none⟩) es.length cap)) (some (e1,sz)) es)=s.bx b:=by
      obtain⟨vX,hke⟩:=ah.1 hk
      rw[← hke,List.set_getElem_self]
     rw[rA,sB] at h
     exact⟨_,_,w,_,_,h,lL t t ty e j' h2 jf _ n' cap (by omega) qq,aR,.ofC (.ex _ rfl rfl)⟩
    ·have V2:off=jj*sz:=by rcases mW with h4 | h4;exact absurd h4 h0;exact h4
     subst V2
     have jI:cur.toList.length=cur.size:=bP
     have q1:(jj+m)*sz≤cur.size:=by rw[g2];exact aO _ (by omega)
     have q2:(n'+m)*sz≤cur.size:=by rw[g2];exact aO _ (by omega)
     rw[di] at q1 q2
     have tX:((cur.toList.drop (jj*sz)).take (m*sz)).length=m*sz:=by rw[aN,cW,jI];exact bO (by omega)
     have j8:∀ u∈(cur.toList.drop (jj*sz)).take (m*sz),u.oneCell'=true:=fun u hu=>g6 u (cm.1 (cT (cn hu)))
     have qq:Src P j'.size t (.slice (some ⟨blk2,jj*sz,none⟩) m cap2) m ((cur.toList.drop (jj*sz)).take (m*sz)) w:=by
      rw[← eT]
      refine Src.ofSlice w h2 ⟨blk2,jj*sz,none⟩ _ _ _ tX (fun q u hq=>?_) j8
      rw[c9,ff w blk2 (jj*sz+q) cur e1 (0,0) g1]
      rw[cF] at hq
      split at hq
      ·rw[cN,aM] at hq;exact hq
      ·cases hq
     have bM:=iN (P:=P) (w:=w) t t ty e j' h2 jf blk2 0 n' cap cur (.of e1) g1 RT.of_ok _ m _ qq (by omega) (by rw[← eT,tX];omega)
     rw[← eT,tX] at bM
     simp only[aX] at bM
     have tQ:RelL I w cur.toList es.flatten:=fun q c hq=>by
      have mZ:=(ah.1 hq).1
      rw[bI es g3] at mZ
      have:=aO sz g4
      refine⟨cur.getD q undef,?_,g5 q c hq⟩
      rw[aM,aj,ay (show q<cur.size by omega)];rfl
     have kP:=bI es g3
     have jW:=aO sz (show n'+m≤es.length from hnm)
     have V3:=aO sz (show jj+m≤es.length from hjm)
     rw[di] at jW V3
     have hdl:∀ x∈es.drop jj,x.length=sz:=fun x hx=>g3 x (cT hx)
     have cK:=aR.gsSet (L:=cur.toList.take (n'*sz)++(cur.toList.drop (jj*sz)).take (m*sz)++cur.toList.drop (n'*sz+m*sz)) (es':=es.take n'++(es.drop jj).take m++es.drop (n'+m)) hb kE hk g1 g2
      (by simp only[ai,aN,cW];omega)
      (fun x hx=>by
       rcases aV.1 hx with hx | hx
       ·rcases aV.1 hx with hx | hx
        ·exact g3 x (cn hx)
        ·exact hdl x (cn hx)
       ·exact g3 x (cT hx))
      (by rw[ai,ai,tX,aN,cW,jI,bO (by omega)];omega)
      (fun u hu=>by
       rcases aV.1 hu with hu | hu
       ·rcases aV.1 hu with hu | hu
        ·exact g6 u (cm.1 (cn hu))
        ·exact j8 u hu
       ·exact g6 u (cm.1 (cT hu)))
      (by
       rw[dX,dX,o7 g3 (by omega),o7 hdl (by rw[cW];omega),o8 g3 (by omega),o8 g3 (by omega),di]
       refine RelL.append (RelL.append (tQ.take _) ((tQ.drop _).take _) ?_) (tQ.drop _) ?_
       ·rw[aN,aN,jI,kP,bO (by omega),bO (by omega)]
       ·rw[ai,ai,tX,aN,aN,aN,cW,jI,kP,bO (by omega),bO (by omega),bO (by omega)])
     exact⟨_,_,_,_,_,h,bM,cK,.ofC (.ex _ rfl rfl)⟩
   ·exact h.elim
  ·exact h.elim
 ·exact h.elim
theorem Fj {t ty:TypeId} {vx:Value} {ox:Option Nat} {K:S→Prop} (aR:St G n I0 M w0 I β ob s a w) (h:jm P s K [t] [x]) (hx:LR (Wr M w0) I β w ox vx x) :
 ∃ s' ob' w',K s'∧(Builtin.clear_ #[t] ty #[vx]).run P w=.ok (.tuple #[]) w'∧St G n I0 M w0 I β ob' s' a w':=by
 unfold jm at h
 split at h
 ·rename_i t' b off len cap sz tz qt
  simp only[cB,gK] at tz qt
  subst tz
  subst qt
  split at h
  ·rename_i e _ _ _ _ _ _ hi
   obtain⟨j,d,h1,h2,h3,_⟩:=bB hi
   have hd:=dx h3
   subst hd
   split at h
   ·rename_i m _ _ z _ _ kU
    obtain⟨j',d',jf,mG,_,eT,_,_,lT,_⟩:=bB kU
    simp only at lT eT
    obtain⟨⟨rfl,hp,uc,hb,kE,tp⟩,h⟩:=h
    split at lT
    ·rename_i zv tM
     simp only[LR] at hx
     obtain⟨j7,blk,off',cap',CL,hβ,mW,rfl⟩:=hx
     have tj:=kM (I:=I) (w:=w) lT.symm
     by_cases h0:len=0
     ·subst h0
      refine⟨_,_,w,h,?_,aR.write_nil⟩
      unfold Builtin.clear_
      simp[aP h2]
     ·have:off'=off:=by rcases mW with h4 | h4;omega;exact h4
      subst this
      have e1:((Array.range (len*z.length)).map (zv.cells[· % zv.cells.size]!))=Builtin.zeroCells zv.cells len:=by
       unfold Builtin.zeroCells
       rw[tj.1]
      have oO:=rH tj (by omega) len
      rw[e1] at oO
      have kP:(List.replicate len z).flatten.length=len*m:=by rw[bI (sz:=m) _ (fun x hx=>by rw[fu hx];exact uc),List.length_replicate]
      have CN:(Builtin.zeroCells zv.cells len).toList.length=(List.replicate len z).flatten.length:=by
       rw[bP];exact oO.1
      obtain⟨cur,T,ob',gY,hT,aaY,jE,cK⟩:=aR.write (k:=off') (cs:=(List.replicate len z).flatten) (vs:=(Builtin.zeroCells zv.cells len).toList) hb hβ kE CN (by rw[kP];exact tp) (fun q c hq=>by
       have:=oO.2 q c hq
       have mZ:q<(Builtin.zeroCells zv.cells len).size:=by rw[← bP,CN];exact(ah.1 hq).1
       refine⟨(Builtin.zeroCells zv.cells len)[q],by rw[aM,ay mZ],?_⟩
       rw[aj] at this
       rw[ay mZ] at this
       exact this)
      have bM:=fO (P:=P) blk off' T (Builtin.zeroCells zv.cells len).toList 0 cur w gY hT (by rw[CN,kP];omega) jE
      simp only[eC] at bM
      refine⟨_,_,_,h,?_,cK⟩
      obtain⟨len,rfl⟩:∃ k,len=k+1:=⟨len - 1,by omega⟩
      unfold Builtin.clear_
      simp[aP h2,zeroValue,typeInfo,jf,tM,bM]
    ·cases lT
   ·exact h.elim
  ·exact h.elim
 ·rename_i t' blk off m cap2 tz qt
  simp only[cB,gK] at tz qt
  subst tz
  subst qt
  obtain rfl:=hx.toC.ex_inv
  split at h
  ·rename_i e _ _ _ _ _ _ hi
   obtain⟨j,d,h1,h2,h3,_⟩:=bB hi
   have hd:=dx h3
   subst hd
   split at h
   ·rename_i sz0 _ _ z _ _ kU
    obtain⟨j',d',jf,mG,_,eT,_,_,lT,_⟩:=bB kU
    simp only at lT eT
    obtain⟨b,k,jj,cap,E,es,⟨hp,uc,⟨e1,rfl⟩,hb,kE,hk,mW,hjm⟩,h⟩:=h
    split at lT
    ·rename_i zv tM
     have tj:=kM (I:=I) (w:=w) lT.symm
     rcases aR.gsAt hb hk with⟨_,_,_,hE⟩ | ⟨cur,e2,sz,jV,hE,_,g1,g2,g3,g4,gm,g5,g6,g7⟩
     ·cases hE
     simp only[ao,ft] at hE
     obtain⟨rfl,rfl⟩:=hE
     by_cases h0:m=0
     ·subst h0
      have agc:es.take jj++List.replicate 0 z++es.drop (jj+0)=es:=by simp
      rw[agc] at h
      have rA:(s.bx b).set k (.gs (some (.slice (some ⟨blk,0,none⟩) es.length cap)) (some (e1,sz0)) es)=s.bx b:=by
       obtain⟨vX,hke⟩:=ah.1 hk
       rw[← hke,List.set_getElem_self]
      rw[rA,sB] at h
      refine⟨_,_,w,h,?_,aR⟩
      unfold Builtin.clear_
      simp[aP h2]
     ·have V2:off=jj*sz0:=by rcases mW with h4 | h4;exact absurd h4 h0;exact h4
      subst V2
      have ez:((Array.range (m*z.length)).map (zv.cells[· % zv.cells.size]!))=Builtin.zeroCells zv.cells m:=by
       unfold Builtin.zeroCells
       rw[tj.1]
      have oO:=rH tj (by omega) m
      rw[ez] at oO
      have hfz:(List.replicate m z).flatten.length=m*sz0:=by rw[bI (sz:=sz0) _ (fun x hx=>by rw[fu hx];exact uc),List.length_replicate]
      have CN:(Builtin.zeroCells zv.cells m).toList.length=m*sz0:=by
       rw[bP,oO.1,hfz]
      have jI:cur.toList.length=cur.size:=bP
      have q1:(jj+m)*sz0≤cur.size:=by rw[g2];exact aO _ (by omega)
      rw[di] at q1
      have abZ:RelL I w (Builtin.zeroCells zv.cells m).toList (List.replicate m z).flatten:=fun q c hq=>by
       have:=oO.2 q c hq
       have mZ:q<(Builtin.zeroCells zv.cells m).size:=by rw[← bP,CN,← hfz];exact(ah.1 hq).1
       refine⟨(Builtin.zeroCells zv.cells m)[q],by rw[aM,ay mZ],?_⟩
       rw[aj] at this
       rw[ay mZ] at this
       exact this
      have ab0:∀ u∈(Builtin.zeroCells zv.cells m).toList,u.oneCell'=true:=fun u hu=>by
       obtain⟨q,hq⟩:=da.1 hu
       have mZ:q<(List.replicate m z).flatten.length:=by rw[hfz,← CN];exact(ah.1 hq).1
       obtain⟨u',A1,iW⟩:=abZ q _ (ae mZ)
       rw[hq] at A1;cases A1
       exact iW.oneCell
      have bM:=fO (P:=P) blk (jj*sz0) (.of e1) (Builtin.zeroCells zv.cells m).toList 0 cur w g1 RT.of_ok (by rw[CN];omega) ab0
      simp only[eC,CN] at bM
      have tQ:RelL I w cur.toList es.flatten:=fun q c hq=>by
       have mZ:=(ah.1 hq).1
       rw[bI es g3] at mZ
       have:=aO sz0 g4
       refine⟨cur.getD q undef,?_,g5 q c hq⟩
       rw[aM,aj,ay (show q<cur.size by omega)];rfl
      have kP:=bI es g3
      have V3:=aO sz0 (show jj+m≤es.length from hjm)
      rw[di] at V3
      have cK:=aR.gsSet (L:=cur.toList.take (jj*sz0)++(Builtin.zeroCells zv.cells m).toList++cur.toList.drop (jj*sz0+m*sz0)) (es':=es.take jj++List.replicate m z++es.drop (jj+m)) hb kE hk g1 g2
       (by simp only[ai,aN,cW,List.length_replicate];omega)
       (fun x hx=>by
        rcases aV.1 hx with hx | hx
        ·rcases aV.1 hx with hx | hx
         ·exact g3 x (cn hx)
         ·rw[fu hx];exact uc
        ·exact g3 x (cT hx))
       (by rw[ai,ai,CN,aN,cW,jI,bO (by omega)];omega)
       (fun u hu=>by
        rcases aV.1 hu with hu | hu
        ·rcases aV.1 hu with hu | hu
         ·exact g6 u (cm.1 (cn hu))
         ·exact ab0 u hu
        ·exact g6 u (cm.1 (cT hu)))
       (by
        rw[dX,dX,o7 g3 (by omega),o8 g3 (by omega),di]
        refine RelL.append (RelL.append (tQ.take _) abZ ?_) (tQ.drop _) ?_
        ·rw[aN,aN,jI,kP,bO (by omega),bO (by omega)]
        ·rw[ai,ai,CN,hfz,aN,aN,jI,kP,bO (by omega),bO (by omega)])
      refine⟨_,_,_,h,?_,cK⟩
      obtain⟨m,rfl⟩:∃ k,m=k+1:=⟨m - 1,by omega⟩
      unfold Builtin.clear_
      simp[aP h2,zeroValue,typeInfo,jf,tM,bM]
    ·cases lT
   ·exact h.elim
  ·exact h.elim
 ·exact h.elim
theorem Fl {src dst:TypeId} {d:Option Tmp} {X:Operand} {K:S→Prop} (aR:St G n I0 M w0 I β ob s a w) (hd:∀ t,d=some t→t<n) (h:ET P s d src dst K (ev G s X)) :
 ∃ s' v w',K (s'.put d v)∧∃ u,(convert src dst (a.eval X)).run P w=.ok u w'∧∃ β' ob',St G n I0 M w0 I β' ob' s' a w'∧LR (Wr M w0) I β' w' none u v:=by
 unfold ET at h
 split at h
 ·rename_i st tO
  split at h
  ·rename_i e _ _ _ _ _ _ hi sy
   obtain⟨j,d1,_,h2,h3,_⟩:=bB hi
   obtain⟨j',d',_,mG,h3',_⟩:=bB sy
   have qo:=dx h3'
   subst qo
   have hds:=nT h3
   subst hds
   split at h
   ·rename_i kU
    obtain⟨je,de,_,h2e,h3e,_⟩:=bB kU
    have hde:=xo h3e
    subst hde
    have hx:=bH aR X
    rw[tO] at hx
    have bM:=run_bytes_of_string (P:=P) w src dst e st h2 mG h2e
    rw[← hx.lit] at bM
    have tN:(mF st).flatten=st.data.toList.map fun b=>C.lit (.int .u8 b.toNat):=by
     unfold mF
     generalize st.data.toList=l
     induction l with
     |nil=>rfl
     |cons b l ih=>simp only[bA,cU,ih];rfl
    have fW:st.size≤(bytesRow st (grownCap w st.size 0 e)).size:=by simp[bytesRow]
    have nM:∀ q,q<st.size→(bytesRow st (grownCap w st.size 0 e)).getD q undef=.int .u8 ((st.data.toList.getD q 0).toNat:Int):=fun q hq=>by
     have Qc:q<st.data.size:=hq
     unfold bytesRow
     rw[aj,eB (by simpa using Qc),Array.getElem?_map,ay Qc]
     have:st.data.toList.getD q 0=st.data[q]:=by
      rw[aw,aM,ay Qc];rfl
     rw[this];rfl
    have zi:=aR.drew.newBox (cur:=bytesRow st (grownCap w st.size 0 e)) (T:=⟨e,((bytesRow st (grownCap w st.size 0 e)).size,(bytesRow st (grownCap w st.size 0 e)).size+1)⟩)
     (cs:=(mF st).flatten.map .c) (od:=fun _=>none) (by rw[tN];simpa using fW) (.inr (ab _)) (fun q=>by
      by_cases hq:q<st.size
      ·have Qc:q<st.data.toList.length:=by simpa using hq
       have e2:((mF st).flatten.map V.c).getD q .un=.c (.lit (.int .u8 ((st.data.toList.getD q 0).toNat:Int))):=by
        rw[tN,aw,aw,bb,bb,ae Qc];rfl
       rw[nM q hq,e2];exact .ofLit rfl
      ·have e2:((mF st).flatten.map V.c).getD q .un=.un:=by
        rw[tN];rw[aw,bw (by simpa using hq)];rfl
       rw[e2];simp only[LR];exact .un _) (fun u hu=>by
      unfold bytesRow at hu
      rcases Array.mem_append.1 hu with hu | hu
      ·obtain⟨b,_,rfl⟩:=Array.mem_map.1 hu;rfl
      ·rw[Array.mem_replicate] at hu;rw[hu.2];rfl) (fun _ _ h=>by cases h) (fun _ _ _ h=>by cases h) (AE fun x hx=>by
      obtain⟨c,_,rfl⟩:=bj.1 hx;rfl)
    refine⟨_,_,_,h,_,bM,_,_,zi,?_⟩
    simp only[LR]
    exact⟨ab _,w.heap.size,0,_,grownCap_ge w _ _ _,by simp,.inr rfl,rfl⟩
   ·exact h.elim
  ·exact h.elim
 ·exact h.elim
end
section
variable {P:Program} {G:Gl} {tr:List Nat} {n:Nat} {I0:Ft} {M:Mx} {w0:World} {I:Ft} {β:Nat→Option Nat} {ob:Loc→Option Nat} {s:S} {a:Act} {w:World} {base:Nat→Prop} {v:Value} {x:V}
 {g:Option Value} {E:Option (TypeId×Nat)} {es:List (List C)} {ops:Array Oper} {K:S→Prop}
theorem OwnG.gsV {o:Option Nat} (h:OwnG base I w E es o v):GsV E es v:=by
 rcases h with⟨_,h1,h2,h3⟩ | ⟨e,blk,cap,cur,sz,_,_,hv,_,_,hc,_⟩
 ·exact .inr ⟨h2,h1,h3⟩
 ·exact .inl ⟨blk,cap,hv,hc⟩
theorem St.reown (h:St G n I0 M w0 I β ob s a w) {b k:Nat} {x x':V} {o':Option Nat} (hb:b<s.nb) (hk:(s.bx b)[k]?=some x) (JZ:x.isMk=false) (CB:x'.isMk=false) (ho:o'=none∨o'=ob (.b b k))
 (Cx:∀ cur:Array Value,LR (Wr M w0) I β w (ob (.b b k)) (cur.getD k undef) x→LR (Wr M w0) I β w o' (cur.getD k undef) x') :
 St G n I0 M w0 I β (upL ob (.b b k) o') { s with bx:=up s.bx b ((s.bx b).set k x') } a w:=by
 have fc:∀ L c,upL ob (.b b k) o' L=some c→ob L=some c:=fun L c hL=>by
  simp only[upL] at hL
  split at hL
  ·rename_i e;subst e
   rcases ho with ho | ho
   ·rw[ho] at hL;cases hL
   ·rw[← ho];exact hL
  ·exact hL
 have qu:k<(s.bx b).length:=(ah.1 hk).1
 have mb:(s.bx b).getD k .un=x:=by simp[List.getD,hk]
 exact {
  size:=h.size,defers:=h.defers,below:=h.below,ilow:=h.ilow,kept:=h.kept,ihigh:=h.ihigh,ibnd:=h.ibnd
  fr:=fun t=>by
   have:=h.fr t
   have e:upL ob (.b b k) o' (.t t)=ob (.t t):=by simp[upL]
   rw[e];exact this
  bx:=fun i hi=>by
   obtain⟨b1,cur,e1,e2,e3,e4,e5,e7⟩:=h.bx i hi
   by_cases qy:i=b
   ·subst qy
    refine⟨b1,cur,e1,e2,?_,by simp only[bW,gf];exact e4,fun j=>?_,e7⟩
    ·simp only[bW]
     refine e3.congr (by simp) ?_
     by_cases xd:k=0
     ·subst xd
      have g1:((s.bx i).set 0 x').getD 0 .un=x':=by simp[List.getD,qu]
      rw[gQ (by unfold cy;rw[g1];exact CB),gQ (by unfold cy;rw[mb];exact JZ)]
     ·have:((s.bx i).set k x').getD 0 .un=(s.bx i).getD 0 .un:=by simp[List.getD,c8 xd]
      unfold qZ
      rw[this]
    ·simp only[bW]
     by_cases hjk:j=k
     ·subst hjk
      have:((s.bx i).set j x').getD j .un=x':=by simp[List.getD,qu]
      rw[this]
      have e:upL ob (.b i j) o' (.b i j)=o':=by simp[upL]
      rw[e]
      have h5:=e5 j
      rw[mb] at h5
      exact Cx cur h5
     ·have:((s.bx i).set k x').getD j .un=(s.bx i).getD j .un:=by simp[List.getD,c8 (gJ hjk)]
      rw[this]
      have e:upL ob (.b i k) o' (.b i j)=ob (.b i j):=by simp[upL,hjk]
      rw[e];exact e5 j
   ·refine⟨b1,cur,e1,e2,by simp only[cY _ _ qy];exact e3,by simp only[cY _ _ qy];exact e4,fun j=>?_,e7⟩
    simp only[cY _ _ qy]
    have e:upL ob (.b b k) o' (.b i j)=ob (.b i j):=by simp[upL,qy]
    rw[e];exact e5 j
  bnone:=h.bnone,ext:=h.ext,bnew:=h.bnew,binj:=h.binj
  oinj:=fun L L' c q1 q2=>h.oinj L L' c (fc L c q1) (fc L' c q2)
  obx:=fun L c i q1=>h.obx L c i (fc L c q1)
  obnd:=fun L c q1=>h.obnd L c (fc L c q1)
  glob:=h.glob }
theorem St.reword (h:St G n I0 M w0 I β ob s a w) {b k:Nat} {x x':V} (hb:b<s.nb) (hk:(s.bx b)[k]?=some x) (JZ:x.isMk=false) (CB:x'.isMk=false)
 (Cx:∀ cur,LR (Wr M w0) I β w (ob (.b b k)) (Array.getD cur k undef) x→LR (Wr M w0) I β w (ob (.b b k)) (Array.getD cur k undef) x') :
 SE G n I0 M w0 (s.cell b k x') a w:=⟨_,_,_,h.reown hb hk JZ CB (.inr rfl) Cx⟩
theorem St.adopt (h:St G n I0 M w0 I β ob s a w) {blk:Nat} {cur:Array Value} {T:RT} {cs:List C} (vL:Wr M w0 blk) (gY:w.heap[blk]?=some (.cells cur T.t T.fz)) (hT:T.ok cur.size) (jE:∀ u∈cur,u.oneCell'=true)
 (fW:cs.length≤cur.size) (hc:∀ j c,cs[j]?=some c→CR I w (cur.getD j undef) c) (jV:∀ L,ob L≠some blk) (hβ:∀ i,β i≠some blk) (hI:∀ o,¬ I blk o) :
 St G n I0 M w0 I (up β s.nb (some blk)) (fun L=>match L with | .b i j=>if i=s.nb then none else ob (.b i j) | L=>ob L) { s with bx:=up s.bx s.nb (cs.map .c),nb:=s.nb+1 } a w:=by
 have hβ':∀ i b,β i=some b→up β s.nb (some blk) i=some b:=fun i b hi=>by
  have:i≠s.nb:=fun e=>by rw[h.bnone i (by omega)] at hi;cases hi
  rw[cY _ _ this];exact hi
 have fc:∀ L b,(match L with | .b i j=>if i=s.nb then none else ob (.b i j) | L=>ob L)=some b→ob L=some b:=fun L b hL=>by
  cases L with
  |t i=>exact hL
  |b i j=>
   simp only at hL
   split at hL
   ·cases hL
   ·exact hL
 have kb:∀ {o:Option Nat} {v:Value} {x:V},LR (Wr M w0) I β w o v x→LR (Wr M w0) I (up β s.nb (some blk)) w o v x:=fun hx=>hx.mono (fun _ _ h=>⟨h,rfl⟩) hβ' (fun _ _=>⟨rfl,fun _ h=>h⟩)
 have kE:cy (cs.map V.c)=false:=by cases cs<;>rfl
 exact {
  size:=h.size,defers:=h.defers,below:=h.below,kept:=h.kept,ilow:=h.ilow,ihigh:=h.ihigh,ibnd:=h.ibnd
  fr:=fun t=>kb (h.fr t)
  bx:=fun i hi=>by
   by_cases gC:i=s.nb
   ·subst gC
    refine⟨blk,cur,by simp,vL,.of gY jE hT (by simpa using kE),by simpa using fW,fun j=>?_,hI⟩
    simp only[bW,db]
    by_cases hj:j<cs.length
    ·have e2:(cs.map V.c).getD j .un=.c cs[j]:=by simp[List.getD,hj]
     rw[e2];exact .ofC (hc j _ (ae hj))
    ·have e2:(cs.map V.c).getD j .un=.un:=by simp[List.getD,bw (en hj)]
     rw[e2];simp only[LR];exact .un _
   ·obtain⟨b1,cur',e1,e2,e3,e4,e5,e7⟩:=h.bx i (by simp only at hi;omega)
    refine⟨b1,cur',hβ' i b1 e1,e2,by simpa only[cY _ _ gC] using e3,by simpa only[cY _ _ gC] using e4,fun j=>?_,e7⟩
    simp only[cY _ _ gC,if_neg gC]
    exact kb (e5 j)
  bnone:=fun i hi=>by
   simp only at hi
   rw[cY _ _ (by omega)]
   exact h.bnone i (by omega)
  ext:=fun i b he=>hβ' i b (h.ext i b he)
  bnew:=fun i b hi=>by
   by_cases h1:i=s.nb
   ·subst h1;rw[bW] at hi;cases hi;exact .inr vL
   ·rw[cY _ _ h1] at hi;exact h.bnew i b hi
  binj:=fun i j b hi hj=>by
   by_cases h1:i=s.nb<;>by_cases h2:j=s.nb
   ·rw[h1,h2]
   ·subst h1;rw[bW] at hi;cases hi;rw[cY _ _ h2] at hj;exact absurd hj (hβ j)
   ·subst h2;rw[bW] at hj;cases hj;rw[cY _ _ h1] at hi;exact absurd hi (hβ i)
   ·rw[cY _ _ h1] at hi;rw[cY _ _ h2] at hj;exact h.binj i j b hi hj
  oinj:=fun L L' b hL yB=>h.oinj L L' b (fc L b hL) (fc L' b yB)
  obx:=fun L b i hL hi=>by
   by_cases gC:i=s.nb
   ·subst gC;rw[bW] at hi;cases hi
    exact jV L (fc L _ hL)
   ·rw[cY _ _ gC] at hi
    exact h.obx L b i (fc L b hL) hi
  obnd:=fun L b hL=>h.obnd L b (fc L b hL)
  glob:=h.glob }
theorem St.gsCell (h:St G n I0 M w0 I β ob s a w) {b k:Nat} (hb:b<s.nb) (kE:cy (s.bx b)=false) (hk:(s.bx b)[k]?=some (.gs g E es)):∃ blk cur,β b=some blk∧HB w blk cur (s.bx b)∧(∀ u,g=some u→cur.getD k undef=u)∧OwnG (Wr M w0) I w E es (ob (.b b k)) (cur.getD k undef):=by
 obtain⟨b1,cur,e1,e2,e3,e4,e5,e7⟩:=h.bx b hb
 have h5:=e5 k
 have mb:(s.bx b).getD k .un=.gs g E es:=by simp[List.getD,hk]
 rw[mb] at h5
 exact⟨b1,cur,e1,e3,h5.1,h5.2⟩
theorem St.reownAt (h:St G n I0 M w0 I β ob s a w) {b k blk:Nat} {cur:Array Value} {x x':V} {o':Option Nat} (hb:b<s.nb) (kE:cy (s.bx b)=false) (hβ:β b=some blk) (hB:HB w blk cur (s.bx b)) (hk:(s.bx b)[k]?=some x) (CB:x'.isMk=false) (ho:o'=none∨o'=ob (.b b k))
 (Cx:LR (Wr M w0) I β w o' (cur.getD k undef) x') :
 St G n I0 M w0 I β (upL ob (.b b k) o') { s with bx:=up s.bx b ((s.bx b).set k x') } a w:=by
 have fc:∀ L c,upL ob (.b b k) o' L=some c→ob L=some c:=fun L c hL=>by
  simp only[upL] at hL
  split at hL
  ·rename_i e;subst e
   rcases ho with ho | ho
   ·rw[ho] at hL;cases hL
   ·rw[← ho];exact hL
  ·exact hL
 have qu:k<(s.bx b).length:=(ah.1 hk).1
 exact {
  size:=h.size,defers:=h.defers,below:=h.below,ilow:=h.ilow,kept:=h.kept,ihigh:=h.ihigh,ibnd:=h.ibnd
  fr:=fun t=>by
   have:=h.fr t
   have e:upL ob (.b b k) o' (.t t)=ob (.t t):=by simp[upL]
   rw[e];exact this
  bx:=fun i hi=>by
   obtain⟨b1,cur1,e1,e2,e3,e4,e5,e7⟩:=h.bx i hi
   by_cases qy:i=b
   ·subst qy
    rw[hβ] at e1;cases e1
    cases hB.same kE e3
    refine⟨blk,cur,hβ,e2,?_,by simp only[bW,gf];exact e4,fun j=>?_,e7⟩
    ·simp only[bW]
     refine e3.congr (by simp) ?_
     by_cases xd:k=0
     ·subst xd
      have g1:((s.bx i).set 0 x').getD 0 .un=x':=by simp[List.getD,qu]
      rw[gQ (by unfold cy;rw[g1];exact CB),gQ kE]
     ·have:((s.bx i).set k x').getD 0 .un=(s.bx i).getD 0 .un:=by simp[List.getD,c8 xd]
      unfold qZ
      rw[this]
    ·simp only[bW]
     by_cases hjk:j=k
     ·subst hjk
      have:((s.bx i).set j x').getD j .un=x':=by simp[List.getD,qu]
      rw[this]
      have e:upL ob (.b i j) o' (.b i j)=o':=by simp[upL]
      rw[e]
      exact Cx
     ·have:((s.bx i).set k x').getD j .un=(s.bx i).getD j .un:=by simp[List.getD,c8 (gJ hjk)]
      rw[this]
      have e:upL ob (.b i k) o' (.b i j)=ob (.b i j):=by simp[upL,hjk]
      rw[e];exact e5 j
   ·refine⟨b1,cur1,e1,e2,by simp only[cY _ _ qy];exact e3,by simp only[cY _ _ qy];exact e4,fun j=>?_,e7⟩
    simp only[cY _ _ qy]
    have e:upL ob (.b b k) o' (.b i j)=ob (.b i j):=by simp[upL,qy]
    rw[e];exact e5 j
  bnone:=h.bnone,ext:=h.ext,bnew:=h.bnew,binj:=h.binj
  oinj:=fun L L' c q1 q2=>h.oinj L L' c (fc L c q1) (fc L' c q2)
  obx:=fun L c i q1=>h.obx L c i (fc L c q1)
  obnd:=fun L c q1=>h.obnd L c (fc L c q1)
  glob:=h.glob }
theorem St.giveCell (h:St G n I0 M w0 I β ob s a w) {b k blk:Nat} {cur:Array Value} {x':V} {o':Option Nat} (hb:b<s.nb) (kE:cy (s.bx b)=false) (hβ:β b=some blk) (hB:HB w blk cur (s.bx b)) (qu:k<(s.bx b).length) (CB:x'.isMk=false) (ho:∀ c,o'=some c→(c<w.heap.size∧Wr M w0 c)∧(∀ L,ob L≠some c)∧∀ i,β i≠some c)
 (Cx:LR (Wr M w0) I β w o' (cur.getD k undef) x') :
 St G n I0 M w0 I β (upL ob (.b b k) o') { s with bx:=up s.bx b ((s.bx b).set k x') } a w:=by
 have fc:∀ L c,upL ob (.b b k) o' L=some c→(L=.b b k∧o'=some c)∨(L≠.b b k∧ob L=some c):=fun L c hL=>by
  simp only[upL] at hL
  split at hL
  ·rename_i e;exact .inl ⟨e,hL⟩
  ·rename_i e;exact .inr ⟨e,hL⟩
 exact {
  size:=h.size,defers:=h.defers,below:=h.below,ilow:=h.ilow,kept:=h.kept,ihigh:=h.ihigh,ibnd:=h.ibnd
  fr:=fun t=>by
   have:=h.fr t
   have e:upL ob (.b b k) o' (.t t)=ob (.t t):=by simp[upL]
   rw[e];exact this
  bx:=fun i hi=>by
   obtain⟨b1,cur1,e1,e2,e3,e4,e5,e7⟩:=h.bx i hi
   by_cases qy:i=b
   ·subst qy
    rw[hβ] at e1;cases e1
    cases hB.same kE e3
    refine⟨blk,cur,hβ,e2,?_,by simp only[bW,gf];exact e4,fun j=>?_,e7⟩
    ·simp only[bW]
     refine e3.congr (by simp) ?_
     by_cases xd:k=0
     ·subst xd
      have g1:((s.bx i).set 0 x').getD 0 .un=x':=by simp[List.getD,qu]
      rw[gQ (by unfold cy;rw[g1];exact CB),gQ kE]
     ·have:((s.bx i).set k x').getD 0 .un=(s.bx i).getD 0 .un:=by simp[List.getD,c8 xd]
      unfold qZ
      rw[this]
    ·simp only[bW]
     by_cases hjk:j=k
     ·subst hjk
      have:((s.bx i).set j x').getD j .un=x':=by simp[List.getD,qu]
      rw[this]
      have e:upL ob (.b i j) o' (.b i j)=o':=by simp[upL]
      rw[e]
      exact Cx
     ·have:((s.bx i).set k x').getD j .un=(s.bx i).getD j .un:=by simp[List.getD,c8 (gJ hjk)]
      rw[this]
      have e:upL ob (.b i k) o' (.b i j)=ob (.b i j):=by simp[upL,hjk]
      rw[e];exact e5 j
   ·refine⟨b1,cur1,e1,e2,by simp only[cY _ _ qy];exact e3,by simp only[cY _ _ qy];exact e4,fun j=>?_,e7⟩
    simp only[cY _ _ qy]
    have e:upL ob (.b b k) o' (.b i j)=ob (.b i j):=by simp[upL,qy]
    rw[e];exact e5 j
  bnone:=h.bnone,ext:=h.ext,bnew:=h.bnew,binj:=h.binj
  oinj:=fun L L' c q1 q2=>by
   rcases fc L c q1 with⟨h1,h2⟩ | ⟨h1,h2⟩<;>rcases fc L' c q2 with⟨h3,h4⟩ | ⟨h3,h4⟩
   ·rw[h1,h3]
   ·exact absurd h4 ((ho c h2).2.1 L')
   ·exact absurd h2 ((ho c h4).2.1 L)
   ·exact h.oinj L L' c h2 h4
  obx:=fun L c i q1=>by
   rcases fc L c q1 with⟨_,h2⟩ | ⟨_,h2⟩
   ·exact(ho c h2).2.2 i
   ·exact h.obx L c i h2
  obnd:=fun L c q1=>by
   rcases fc L c q1 with⟨_,h2⟩ | ⟨_,h2⟩
   ·exact(ho c h2).1
   ·exact h.obnd L c h2
  glob:=h.glob }
theorem St.giveAny (h:St G n I0 M w0 I β ob s a w) {b k:Nat} {x x':V} {o':Option Nat} (hb:b<s.nb) (hk:(s.bx b)[k]?=some x) (JZ:x.isMk=false) (CB:x'.isMk=false) (ho:∀ c,o'=some c→(c<w.heap.size∧Wr M w0 c)∧(∀ L,ob L≠some c)∧∀ i,β i≠some c)
 (Cx:∀ v,LR (Wr M w0) I β w o' v x') :
 St G n I0 M w0 I β (upL ob (.b b k) o') { s with bx:=up s.bx b ((s.bx b).set k x') } a w:=by
 have qu:k<(s.bx b).length:=(ah.1 hk).1
 have mb:(s.bx b).getD k .un=x:=by simp[List.getD,hk]
 have fc:∀ L c,upL ob (.b b k) o' L=some c→(L=.b b k∧o'=some c)∨(L≠.b b k∧ob L=some c):=fun L c hL=>by
  simp only[upL] at hL
  split at hL
  ·rename_i e;exact .inl ⟨e,hL⟩
  ·rename_i e;exact .inr ⟨e,hL⟩
 exact {
  size:=h.size,defers:=h.defers,below:=h.below,ilow:=h.ilow,kept:=h.kept,ihigh:=h.ihigh,ibnd:=h.ibnd
  fr:=fun t=>by
   have:=h.fr t
   have e:upL ob (.b b k) o' (.t t)=ob (.t t):=by simp[upL]
   rw[e];exact this
  bx:=fun i hi=>by
   obtain⟨b1,cur1,e1,e2,e3,e4,e5,e7⟩:=h.bx i hi
   by_cases qy:i=b
   ·subst qy
    refine⟨b1,cur1,e1,e2,?_,by simp only[bW,gf];exact e4,fun j=>?_,e7⟩
    ·simp only[bW]
     refine e3.congr (by simp) ?_
     by_cases xd:k=0
     ·subst xd
      have g1:((s.bx i).set 0 x').getD 0 .un=x':=by simp[List.getD,qu]
      rw[gQ (by unfold cy;rw[g1];exact CB),gQ (by unfold cy;rw[mb];exact JZ)]
     ·have:((s.bx i).set k x').getD 0 .un=(s.bx i).getD 0 .un:=by simp[List.getD,c8 xd]
      unfold qZ
      rw[this]
    ·simp only[bW]
     by_cases hjk:j=k
     ·subst hjk
      have:((s.bx i).set j x').getD j .un=x':=by simp[List.getD,qu]
      rw[this]
      have e:upL ob (.b i j) o' (.b i j)=o':=by simp[upL]
      rw[e]
      exact Cx _
     ·have:((s.bx i).set k x').getD j .un=(s.bx i).getD j .un:=by simp[List.getD,c8 (gJ hjk)]
      rw[this]
      have e:upL ob (.b i k) o' (.b i j)=ob (.b i j):=by simp[upL,hjk]
      rw[e];exact e5 j
   ·refine⟨b1,cur1,e1,e2,by simp only[cY _ _ qy];exact e3,by simp only[cY _ _ qy];exact e4,fun j=>?_,e7⟩
    simp only[cY _ _ qy]
    have e:upL ob (.b b k) o' (.b i j)=ob (.b i j):=by simp[upL,qy]
    rw[e];exact e5 j
  bnone:=h.bnone,ext:=h.ext,bnew:=h.bnew,binj:=h.binj
  oinj:=fun L L' c q1 q2=>by
   rcases fc L c q1 with⟨h1,h2⟩ | ⟨h1,h2⟩<;>rcases fc L' c q2 with⟨h3,h4⟩ | ⟨h3,h4⟩
   ·rw[h1,h3]
   ·exact absurd h4 ((ho c h2).2.1 L')
   ·exact absurd h2 ((ho c h4).2.1 L)
   ·exact h.oinj L L' c h2 h4
  obx:=fun L c i q1=>by
   rcases fc L c q1 with⟨_,h2⟩ | ⟨_,h2⟩
   ·exact(ho c h2).2.2 i
   ·exact h.obx L c i h2
  obnd:=fun L c q1=>by
   rcases fc L c q1 with⟨_,h2⟩ | ⟨_,h2⟩
   ·exact(ho c h2).1
   ·exact h.obnd L c h2
  glob:=h.glob }
theorem St.more (h:St G n I0 M w0 I β ob s a w) {b:Nat} (hb:b<s.nb) (hl:QE (s.bx b)=true):St G n I0 M w0 I β ob { s with bx:=up s.bx b (s.bx b++[.un]) } a w:=by
 obtain⟨r,fl,l,ou⟩:∃ r fl l,s.bx b=.lp r fl::l:=by
  unfold QE at hl
  split at hl
  ·rename_i e;exact⟨_,_,_,e⟩
  ·cases hl
 exact {
  size:=h.size,defers:=h.defers,below:=h.below,ilow:=h.ilow,kept:=h.kept,ihigh:=h.ihigh,ibnd:=h.ibnd,fr:=h.fr
  bx:=fun i hi=>by
   obtain⟨b1,cur1,e1,e2,e3,e4,e5,e7⟩:=h.bx i hi
   by_cases qy:i=b
   ·subst qy
    refine⟨b1,cur1.push undef,e1,e2,?_,?_,fun j=>?_,e7⟩
    ·simp only[bW]
     rw[ou] at e3 ⊢
     unfold HB at e3 ⊢
     simp only[qZ,fa,List.getD_cons_zero] at e3 ⊢
     obtain⟨f,tm,d,g1,m,g2⟩:=e3
     refine⟨f,tm,d,g1,m+1,?_⟩
     rw[g2,Array.push_eq_append,Array.append_assoc,Array.replicate_succ,Array.push_eq_append]
    ·simp only[bW,ai,Array.size_push,bF];omega
    ·simp only[bW]
     have g1:(cur1.push undef).getD j undef=cur1.getD j undef:=by
      rw[aj,aj,Array.getElem?_push]
      split
      ·rename_i e;subst e;simp
      ·rfl
     have g2:(s.bx i++[V.un]).getD j .un=(s.bx i).getD j .un:=by
      rw[aw,aw,List.getElem?_append]
      split
      ·rfl
      ·rename_i hj
       rw[bw (by omega:(s.bx i).length≤j)]
       cases hq:([V.un]:List V)[j - (s.bx i).length]? with
       |none=>rfl
       |some q=>have:=aQ hq;simp at this;subst this;rfl
     rw[g1,g2];exact e5 j
   ·refine⟨b1,cur1,e1,e2,by simp only[cY _ _ qy];exact e3,by simp only[cY _ _ qy];exact e4,fun j=>?_,e7⟩
    simp only[cY _ _ qy];exact e5 j
  bnone:=h.bnone,ext:=h.ext,bnew:=h.bnew,binj:=h.binj,oinj:=h.oinj,obx:=h.obx,obnd:=h.obnd,glob:=h.glob }
theorem OwnG.cool {o:Option Nat} (h:OwnG base I w E es o v):∃ I':Ft,(∀ b o,I b o→I' b o)∧(∀ b k,I' b k→I b k∨some b=o)∧OwnR base I' w E es o v:=by
 rcases h with⟨h0,h1,h2,a,h3⟩ | ⟨e,blk,cap,cur,sz,r1,r2,r3,r4,r5,r6,r7,r8,r9,r10,_,r12⟩
 ·subst h2;subst h3
  exact⟨I,fun _ _ h=>h,fun _ _ h=>.inl h,.nil a 0 (fun _=>rfl),.inl ⟨h0,h1,a,rfl⟩⟩
 ·subst r1
  refine⟨fun b' o=>I b' o∨(b'=blk∧o<es.length*sz),fun _ _ h=>.inl h,fun b k h=>?_,?_⟩
  ·rcases h with h | ⟨rfl,_⟩
   ·exact .inl h
   ·exact .inr rfl
  ·have iW:CR (fun b' o=>I b' o∨(b'=blk∧o<es.length*sz)) w (.slice (some ⟨blk,0,none⟩) es.length cap) (.sl es):=
    CR.row (I':=fun b' o=>I b' o∨(b'=blk∧o<es.length*sz)) (cap:=cap) (es:=es) (sz:=sz) r5 r6 r9 (fun q c hq=>by
     have h0:=(ah.1 hq).1
     rw[bI _ r9] at h0
     have h1:=aO sz r6
     exact⟨by rw[r8];omega,(r10 q c hq).mono fun b o h=>⟨.inl h,rfl⟩⟩) (fun o ho=>.inr ⟨rfl,ho⟩)
   rw[r3]
   refine⟨iW,.inr ⟨e,blk,cap,cur,sz,rfl,r2,rfl,r4,r5,r6,r7,r8,r9,fun o ho=>?_⟩⟩
   rcases ho with ho | ho
   ·exact absurd ho (r12 o)
   ·exact ho.2
end
section
variable {P:Program} {G:Gl} {tr:List Nat} {n:Nat} {I0:Ft} {M:Mx} {w0:World} {I:Ft} {β:Nat→Option Nat} {ob:Loc→Option Nat} {s:S} {a:Act} {w:World} {o:Oper}
 {next:Act→World→Prop} {Q:Exit→Act→World→Prop} {base:Nat→Prop} {v:Value} {x y:V}
theorem PR.ren {ρ:Nat→Nat} {β':Nat→Option Nat} {m:Nat} (h:PR I β w v (x.renP ρ)) (hx:x.ltP m) (hβ:∀ i b,i<m→β (ρ i)=some b→β' i=some b):PR I β' w v x:=by
 cases x<;>simp only[V.ltP] at hx<;>simp only[V.renP,PR] at h ⊢<;>try exact h
 ·obtain⟨blk,h1,h2⟩:=h;exact⟨blk,hβ _ _ hx h1,h2⟩
 ·obtain⟨h0,blk,o',c',Dj,h1,h2⟩:=h;exact⟨h0,blk,o',c',Dj,hβ _ _ hx h1,h2⟩
 ·obtain⟨blk,h1,h2⟩:=h;exact⟨blk,hβ _ _ hx h1,h2⟩
 ·obtain⟨blk,h1,h2⟩:=h;exact⟨blk,hβ _ _ hx h1,h2⟩
 ·obtain⟨blk,h1,h2⟩:=h;exact⟨blk,hβ _ _ hx h1,h2⟩
theorem WY {ρ:Nat→Nat} (h:x.renP ρ=.un):x=.un:=by cases x<;>first | rfl | cases h
theorem MF {ρ:Nat→Nat} (h:(x.renP ρ).isAT=true):x.renP ρ=x:=by cases x<;>first | rfl | cases h
theorem Oa {ρ:Nat→Nat}:(x.renP ρ).isAT=x.isAT:=by cases x<;>rfl
theorem KR.ren {ρ:Nat→Nat} {β':Nat→Option Nat} {m:Nat} (h:KR I β w v (x.renP ρ)) (hx:x.ltP m) (hβ:∀ i b,i<m→β (ρ i)=some b→β' i=some b):KR I β' w v x:=by
 rcases h with h | ⟨h1,h2⟩ | h
 ·exact .inl (WY h)
 ·have e:=MF h1;rw[e] at h1 h2;exact .inr (.inl ⟨h1,h2⟩)
 ·exact .inr (.inr (h.ren hx hβ))
theorem LR.ren {ρ:Nat→Nat} {β':Nat→Option Nat} {m:Nat} {ox:Option Nat} (h:LR base I β w ox v (x.ren ρ)) (hx:x.lt m) (hβ:∀ i b,i<m→β (ρ i)=some b→β' i=some b):LR base I β' w ox v x:=by
 cases x<;>simp only[V.lt] at hx<;>simp only[V.ren,LR] at h ⊢<;>try exact h
 ·obtain⟨blk,h1,h2⟩:=h;exact⟨blk,hβ _ _ hx h1,h2⟩
 ·obtain⟨vf,vc,h1,h2,h3,h4,h5⟩:=h
  rw[au] at h2 h3
  exact⟨vf,vc,h1,h2,h3,fun j x hj=>(h4 j (x.renP ρ) (by simp[hj])).ren (hx.1 x (aQ hj)) hβ,fun j x hj=>(h5 j (x.renP ρ) (by simp[hj])).ren (hx.2 x (aQ hj)) hβ⟩
 ·obtain⟨h0,blk,o',c',Dj,h1,h2⟩:=h;exact⟨h0,blk,o',c',Dj,hβ _ _ hx h1,h2⟩
 ·obtain⟨cs,h1,h2,h3⟩:=h
  rw[au] at h2
  exact⟨cs,h1,h2,fun j x hj=>(h3 j (x.renP ρ) (by simp[hj])).ren (hx x (aQ hj)) hβ⟩
 ·obtain⟨blk,h1,h2⟩:=h;exact⟨blk,hβ _ _ hx h1,h2⟩
 ·obtain⟨blk,m,h1,h2,h3,h4⟩:=h;exact⟨blk,m,h1,h2,hβ _ _ hx h3,h4⟩
 ·obtain⟨blk,h1,h2⟩:=h;exact⟨blk,hβ _ _ hx h1,h2⟩
 ·obtain⟨tm,h1,h2⟩:=h
  exact⟨tm,h1,fun t y hy=>KR.ren (m:=m) (ρ:=ρ) (h2 t (y.renP ρ) (bj.2 ⟨(t,y),hy,rfl⟩)) (hx _ hy) hβ⟩
 ·obtain⟨blk,h1,h2⟩:=h;exact⟨blk,hβ _ _ hx h1,h2⟩
theorem PR.toRen {ρ:Nat→Nat} {β':Nat→Option Nat} (h:PR I β w v x) (hβ:∀ i b,β i=some b→β' (ρ i)=some b):PR I β' w v (x.renP ρ):=by
 cases x<;>simp only[V.renP,PR] at h ⊢<;>try exact h
 ·obtain⟨blk,h1,h2⟩:=h;exact⟨blk,hβ _ _ h1,h2⟩
 ·obtain⟨h0,blk,o',c',Dj,h1,h2⟩:=h;exact⟨h0,blk,o',c',Dj,hβ _ _ h1,h2⟩
 ·obtain⟨blk,h1,h2⟩:=h;exact⟨blk,hβ _ _ h1,h2⟩
 ·obtain⟨blk,h1,h2⟩:=h;exact⟨blk,hβ _ _ h1,h2⟩
 ·obtain⟨blk,h1,h2⟩:=h;exact⟨blk,hβ _ _ h1,h2⟩
theorem KR.toRen {ρ:Nat→Nat} {β':Nat→Option Nat} (h:KR I β w v x) (hβ:∀ i b,β i=some b→β' (ρ i)=some b):KR I β' w v (x.renP ρ):=by
 rcases h with rfl | ⟨h1,h2⟩ | h
 ·exact .inl rfl
 ·have h3:(x.renP ρ).isAT=true:=by rw[Oa];exact h1
  rw[MF h3];exact .inr (.inl ⟨h1,h2⟩)
 ·exact .inr (.inr (h.toRen hβ))
theorem AG {α γ:Type} {l:List α} {f:α→γ} {j:Nat} {y:γ} (h:(l.map f)[j]?=some y):∃ x,l[j]?=some x∧f x=y:=by simpa using h
theorem LR.toRen {ρ:Nat→Nat} {β':Nat→Option Nat} {ox:Option Nat} (h:LR base I β w ox v x) (hβ:∀ i b,β i=some b→β' (ρ i)=some b):LR base I β' w ox v (x.ren ρ):=by
 cases x<;>simp only[V.ren,LR] at h ⊢<;>try exact h
 ·obtain⟨blk,h1,h2⟩:=h;exact⟨blk,hβ _ _ h1,h2⟩
 ·obtain⟨vf,vc,h1,h2,h3,h4,h5⟩:=h
  refine⟨vf,vc,h1,by rw[au];exact h2,by rw[au];exact h3,fun j x hj=>?_,fun j x hj=>?_⟩
  ·obtain⟨y,hy,rfl⟩:=AG hj;exact(h4 j y hy).toRen hβ
  ·obtain⟨y,hy,rfl⟩:=AG hj;exact(h5 j y hy).toRen hβ
 ·obtain⟨h0,blk,o',c',Dj,h1,h2⟩:=h;exact⟨h0,blk,o',c',Dj,hβ _ _ h1,h2⟩
 ·obtain⟨cs,h1,h2,h3⟩:=h
  refine⟨cs,h1,by rw[au];exact h2,fun j x hj=>?_⟩
  obtain⟨y,hy,rfl⟩:=AG hj;exact(h3 j y hy).toRen hβ
 ·obtain⟨blk,h1,h2⟩:=h;exact⟨blk,hβ _ _ h1,h2⟩
 ·obtain⟨blk,m,h1,h2,h3,h4⟩:=h;exact⟨blk,m,h1,h2,hβ _ _ h3,h4⟩
 ·obtain⟨blk,h1,h2⟩:=h;exact⟨blk,hβ _ _ h1,h2⟩
 ·obtain⟨tm,h1,h2⟩:=h
  refine⟨tm,h1,fun t y hy=>?_⟩
  obtain⟨⟨t',z⟩,hz,e⟩:=bj.1 hy
  cases e
  exact(h2 _ z hz).toRen hβ
 ·obtain⟨blk,h1,h2⟩:=h;exact⟨blk,hβ _ _ h1,h2⟩
theorem LR.wider {base':Nat→Prop} {ox:Option Nat} (h:LR base I β w ox v x) (hb:∀ b,ox=some b→base' b):LR base' I β w ox v x:=by
 cases x<;>simp only[LR] at h ⊢<;>try exact h
 ·obtain⟨h1,h2⟩:=h
  refine⟨h1,?_⟩
  rcases h2 with h2 | ⟨e,blk,cap,cur,sz,q1,q2,q3,q4,q5⟩
  ·exact .inl h2
  ·exact .inr ⟨e,blk,cap,cur,sz,q1,q2,q3,hb _ q1,q5⟩
 ·obtain⟨blk,m,h1,h2,h3⟩:=h;exact⟨blk,m,h1,hb _ h1,h3⟩
 ·obtain⟨h1,h2⟩:=h
  refine⟨h1,?_⟩
  rcases h2 with h2 | ⟨e,blk,cap,cur,sz,q1,q2,q3,q4,q5⟩
  ·exact .inl h2
  ·exact .inr ⟨e,blk,cap,cur,sz,q1,q2,q3,hb _ q1,q5⟩
 ·obtain⟨h1,e,blk,cap,cur,sz,q1,q2,q3,q4,q5⟩:=h
  exact⟨h1,e,blk,cap,cur,sz,q1,q2,q3,hb _ q1,q5⟩
 ·obtain⟨h1,h2⟩:=h
  refine⟨h1,?_⟩
  rcases h2 with h2 | ⟨e,blk,cap,cur,sz,q1,q2,q3,q4,q5⟩
  ·exact .inl h2
  ·exact .inr ⟨e,blk,cap,cur,sz,q1,q2,q3,hb _ q1,q5⟩
 ·rcases h with h2 | ⟨e,blk,cap,cur,sz,q1,q2,q3,q4,q5⟩
  ·exact .inl h2
  ·exact .inr ⟨e,blk,cap,cur,sz,q1,q2,q3,hb _ q1,q5⟩
theorem Be {ρ:Nat→Nat} (l:List V) (j:Nat):(l.map (V.ren ρ)).getD j .un=(l.getD j .un).ren ρ:=by
 simp only[aw,bb]
 cases l[j]?<;>rfl
theorem G5 {ρ:Nat→Nat} (l:List V):qZ (l.map (V.ren ρ))=qZ l:=by
 unfold qZ
 rw[Be]
 cases l.getD 0 .un<;>rfl
theorem pE {ρ:Nat→Nat}:∀ (bl:List (List V)) (k i:Nat) (b:List V),rb s.bx s.nb ρ k bl→bl[i]?=some b→ρ (k+i)<s.nb∧s.bx (ρ (k+i))=b.map (V.ren ρ)
 |[],_,i,b,_,hb=>by simp at hb
 |c::r,k,0,b,h,hb=>by simp at hb;subst hb;exact h.1
 |c::r,k,i+1,b,h,hb=>by
  have:=pE r (k+1) i b h.2 (by simpa using hb)
  rw[show k+(i+1)=k+1+i by omega];exact this
theorem nZ {ρ:Nat→Nat}:∀ (bl:List (List V)) (k:Nat) (f:Nat→List V) (j:Nat),(∀ i,i<bl.length→ρ (k+i)≠j)→gz ρ k bl f j=f j
 |[],_,_,_,_=>rfl
 |b::r,k,f,j,h=>by
  simp only[gz]
  rw[nZ r (k+1) _ j (fun i hi=>by rw[show k+1+i=k+(i+1) by omega];exact h (i+1) (by simp;omega))]
  exact cY _ _ (fun e=>h 0 (by simp) e.symm)
theorem uk {ρ:Nat→Nat}:∀ (bl:List (List V)) (k:Nat) (f:Nat→List V) (i:Nat) (b:List V),bl[i]?=some b→(∀ i j,i<bl.length→j<bl.length→ρ (k+i)=ρ (k+j)→i=j)→
 gz ρ k bl f (ρ (k+i))=b.map (V.ren ρ)
 |[],_,_,i,b,h,_=>by simp at h
 |c::r,k,f,0,b,h,qw=>by
  simp at h;subst h
  simp only[gz]
  rw[nZ r (k+1) _ _ (fun i hi e=>by
   have:=qw (i+1) 0 (by simp;omega) (by simp) (by rw[show k+(i+1)=k+1+i by omega];exact e)
   omega)]
  rw[eC];exact bW _ _ _
 |c::r,k,f,i+1,b,h,qw=>by
  simp only[gz]
  rw[show k+(i+1)=k+1+i by omega]
  refine uk r (k+1) _ i b (by simpa using h) fun i' j' hi hj e=>?_
  have:=qw (i'+1) (j'+1) (by simp;omega) (by simp;omega) (by rw[show k+(i'+1)=k+1+i' by omega,show k+(j'+1)=k+1+j' by omega];exact e)
  omega
theorem xw {ρ:List Nat} {nb:Nat} (hn:ρ.Nodup) (hl:∀ i,i<ρ.length→ρ.getD i 0<nb) (i j:Nat) (h:rho ρ nb i=rho ρ nb j):i=j:=by
 unfold rho at h
 by_cases hi:i<ρ.length<;>by_cases hj:j<ρ.length
 ·rw[if_pos hi,if_pos hj] at h
  simp only[aw,ae hi,ae hj,cx] at h
  exact(List.getElem_inj hn).1 h
 ·rw[if_pos hi,if_neg hj] at h
  have:=hl i hi;omega
 ·rw[if_neg hi,if_pos hj] at h
  have:=hl j hj;omega
 ·rw[if_neg hi,if_neg hj] at h;omega
def Mof (β:Nat→Option Nat) (ob:Loc→Option Nat) (ρ:Nat→Nat) (k:Nat) (b:Nat):Prop:=(∃ q,q<k∧β (ρ q)=some b)∨∃ q j,q<k∧ob (.b (ρ q) j)=some b
def lH (β:Nat→Option Nat) (ρ:Nat→Nat) (k i:Nat):Option Nat:=if i<k then β (ρ i) else none
def obC (ob:Loc→Option Nat) (ρ:Nat→Nat) (k i j:Nat):Option Nat:=if i<k then ob (.b (ρ i) j) else none
theorem nv {ρ:Nat→Nat} {k i b:Nat} (h:lH β ρ k i=some b):i<k∧β (ρ i)=some b:=by
 unfold lH at h;split at h
 ·exact⟨‹_›,h⟩
 ·cases h
theorem xx {ρ:Nat→Nat} {k i j b:Nat} (h:obC ob ρ k i j=some b):i<k∧ob (.b (ρ i) j)=some b:=by
 unfold obC at h;split at h
 ·exact⟨‹_›,h⟩
 ·cases h
theorem St.give (aR:St G n I0 M w0 I β ob s a w) {ρ:Nat→Nat} {b0:List (List V)} (qw:∀ i j,ρ i=ρ j→i=j) (gC:rb s.bx s.nb ρ 0 b0) (bK:∀ b∈b0,∀ x∈b,x.lt b0.length) :
 BxR (Wr ⟨Mof β ob ρ b0.length,fun _=>none,[]⟩ w) I w (lH β ρ b0.length) (obC ob ρ b0.length) b0 where
 bx:=fun i cs jc=>by
  have hi:i<b0.length:=(ah.1 jc).1
  obtain⟨h1,h2⟩:=pE b0 0 i cs gC jc
  rw[aX] at h1 h2
  obtain⟨blk,cur,e1,e2,e3,e4,e5,e7⟩:=aR.bx (ρ i) h1
  refine⟨blk,cur,by simp[lH,hi,e1],.inr (.inl ⟨i,hi,e1⟩),e3.congr (by rw[h2,au]) (by rw[h2,G5]),by have:=e4;rw[h2,au] at this;exact this,fun j=>?_,e7⟩
  have:=e5 j
  rw[h2,Be] at this
  have hx:(cs.getD j .un).lt b0.length:=by
   by_cases hj:j<cs.length
   ·have:cs.getD j .un=cs[j]:=by simp[List.getD,hj]
    rw[this];exact bK cs (aQ jc) _ (bL hj)
   ·have:cs.getD j .un=.un:=by simp[List.getD,bw (en hj)]
    rw[this];exact trivial
  have h3:=this.ren (β':=lH β ρ b0.length) hx (fun i b hi hb=>by simp[lH,hi,hb])
  have h4:obC ob ρ b0.length i j=ob (.b (ρ i) j):=by simp[obC,hi]
  rw[h4]
  exact h3.wider fun b hb=>.inr (.inr ⟨i,j,hi,hb⟩)
 bnone:=fun i hi=>by simp[lH,Nat.not_lt.2 hi]
 binj:=fun i j b hi hj=>by
  obtain⟨_,h1⟩:=nv hi
  obtain⟨_,h2⟩:=nv hj
  exact qw _ _ (aR.binj _ _ b h1 h2)
 oinj:=fun i j i' j' b h h'=>by
  obtain⟨_,h1⟩:=xx h
  obtain⟨_,h2⟩:=xx h'
  have:=aR.oinj _ _ b h1 h2
  simp only[Loc.b.injEq] at this
  exact⟨qw _ _ this.1,this.2⟩
 obx:=fun i j b k h hk=>by
  obtain⟨_,h1⟩:=xx h
  obtain⟨_,h2⟩:=nv hk
  exact aR.obx _ b _ h1 h2
 obnd:=fun i j b h=>by
  obtain⟨hi,h1⟩:=xx h
  exact⟨(aR.obnd _ b h1).1,.inr (.inr ⟨i,j,hi,h1⟩)⟩
 olen:=fun i j hi=>by simp[obC,Nat.not_lt.2 hi]
def sG (ρ:List Nat) (nb i:Nat):Option Nat:=if i∈ρ then some (ρ.idxOf i) else if nb≤i then some (i - nb+ρ.length) else none
theorem QR {ρ:List Nat} {nb:Nat} (hn:ρ.Nodup) (hl:∀ i,i<ρ.length→ρ.getD i 0<nb) (q:Nat):sG ρ nb (rho ρ nb q)=some q:=by
 unfold sG rho
 by_cases hq:q<ρ.length
 ·have e:ρ.getD q 0=ρ[q]:=by simp[List.getD,hq]
  rw[if_pos hq,e,if_pos (bL hq),hn.idxOf_getElem]
 ·rw[if_neg hq]
  have:¬ (nb+(q - ρ.length))∈ρ:=fun h=>by
   obtain⟨i,hi,e⟩:=iF.1 h
   have:=hl i hi
   have e':ρ.getD i 0=ρ[i]:=by simp[List.getD,hi]
   omega
  rw[if_neg this,if_pos (by omega)]
  congr 1;omega
theorem n0 {ρ:List Nat} {nb i q:Nat} (h:sG ρ nb i=some q):rho ρ nb q=i:=by
 unfold sG at h
 split at h
 ·rename_i hi
  simp only[ao] at h
  subst h
  have bK:=List.idxOf_lt_length_of_mem hi
  unfold rho
  rw[if_pos bK]
  simp[List.getD,ae bK]
 ·split at h
  ·rename_i h1 h2
   simp only[ao] at h
   subst h
   unfold rho
   rw[if_neg (by omega)];omega
  ·cases h
theorem DF {ρ:List Nat} {nb i:Nat} (h:sG ρ nb i=none):i<nb:=by
 unfold sG at h
 split at h
 ·cases h
 ·split at h
  ·cases h
  ·omega
end
section
variable {P:Program} {G:Gl} {tr:List Nat} {n:Nat} {I0:Ft} {M:Mx} {w0:World} {I:Ft} {β:Nat→Option Nat} {ob:Loc→Option Nat} {s:S} {a:Act} {w:World} {o:Oper}
 {next:Act→World→Prop} {Q:Exit→Act→World→Prop} {base:Nat→Prop} {v:Value} {x y:V}
def pF (β β':Nat→Option Nat) (ρ:List Nat) (nb i:Nat):Option Nat:=match sG ρ nb i with
 |some q=>β' q
 |none=>β i
def obN (ob:Loc→Option Nat) (ob':Nat→Nat→Option Nat) (ρ:List Nat) (nb:Nat):Loc→Option Nat
 | .t i=>ob (.t i)
 | .b i j=>match sG ρ nb i with
  |some q=>ob' q j
  |none=>ob (.b i j)
theorem St.called (aR:St G n I0 M w0 I β ob s a w) {ρ:List Nat} {b0 b1:List (List V)} (hρl:ρ.length=b0.length) (hn:ρ.Nodup) (gC:rb s.bx s.nb (rho ρ s.nb) 0 b0) (jW:b0.length≤b1.length)
 {w':World} {I':Ft} {β':Nat→Option Nat} {ob':Nat→Nat→Option Nat} (uT:BelowM (GT G) ⟨Mof β ob (rho ρ s.nb) b0.length,fun _=>none,[]⟩ w w') (Qe:∀ b o,I b o→I' b o)
 (NN:∀ b o,I' b o→I b o∨(Wr ⟨Mof β ob (rho ρ s.nb) b0.length,fun _=>none,[]⟩ w b∧b<w'.heap.size)) (v7:∀ b o,I b o→w'.cell? ⟨b,o,none⟩=w.cell? ⟨b,o,none⟩)
 (V6:∀ i,i<b0.length→β' i=lH β (rho ρ s.nb) b0.length i) (Qt:∀ i b,b0.length≤i→β' i=some b→Wr ⟨Mof β ob (rho ρ s.nb) b0.length,fun _=>none,[]⟩ w b)
 (ou:BxR (Wr ⟨Mof β ob (rho ρ s.nb) b0.length,fun _=>none,[]⟩ w) I' w' β' ob' b1) :
 St G n I0 M w0 I' (pF β β' ρ s.nb) (obN ob ob' ρ s.nb) { s with bx:=gz (rho ρ s.nb) 0 b1 s.bx,nb:=s.nb+(b1.length - b0.length) } a w'∧
 (∀ i b,β' i=some b→pF β β' ρ s.nb (rho ρ s.nb i)=some b)∧
 (∀ b,Wr ⟨Mof β ob (rho ρ s.nb) b0.length,fun _=>none,[]⟩ w b→Wr M w0 b)∧
 (∀ b,Wr ⟨Mof β ob (rho ρ s.nb) b0.length,fun _=>none,[]⟩ w b→(∀ i j,ob' i j≠some b)→∀ L,obN ob ob' ρ s.nb L≠some b)∧
 (∀ b,Wr ⟨Mof β ob (rho ρ s.nb) b0.length,fun _=>none,[]⟩ w b→(∀ i,β' i≠some b)→∀ i,pF β β' ρ s.nb i≠some b)∧
 (∀ i b,β i=some b→pF β β' ρ s.nb i=some b):=by
 have hl:∀ i,i<ρ.length→ρ.getD i 0<s.nb:=fun i hi=>by
  obtain⟨b,hb⟩:∃ b,b0[i]?=some b:=⟨_,ae (by omega)⟩
  have:=(pE b0 0 i b gC hb).1
  rw[aX] at this
  simpa[rho,hi] using this
 have qw:=xw hn hl
 have hir:=QR hn hl
 have vL:∀ b,Wr ⟨Mof β ob (rho ρ s.nb) b0.length,fun _=>none,[]⟩ w b→Wr M w0 b:=fun b hb=>by
  rcases hb with hb | ⟨q,hq,hb⟩ | ⟨q,j,hq,hb⟩
  ·exact .new aR.below hb
  ·exact(aR.boxblk hb).2.1
  ·exact(aR.obnd _ b hb).2
 have notM1:∀ i b,sG ρ s.nb i=none→β i=some b→¬ Wr ⟨Mof β ob (rho ρ s.nb) b0.length,fun _=>none,[]⟩ w b:=fun i b hi hb hw=>by
  rcases hw with hw | ⟨q,hq,h1⟩ | ⟨q,j,hq,h1⟩
  ·have:=(aR.boxblk hb).2.2;omega
  ·have:=aR.binj _ _ b h1 hb
   rw[← this,hir] at hi;cases hi
  ·exact aR.obx _ b i h1 hb
 have notM2:∀ L b,(∀ i j q,L=.b i j→sG ρ s.nb i≠some q)→ob L=some b→¬ Wr ⟨Mof β ob (rho ρ s.nb) b0.length,fun _=>none,[]⟩ w b:=fun L b hL hb hw=>by
  rcases hw with hw | ⟨q,hq,h1⟩ | ⟨q,j,hq,h1⟩
  ·have:=(aR.obnd _ b hb).1;omega
  ·exact aR.obx _ b _ hb h1
  ·have:=aR.oinj _ _ b hb h1
   exact hL _ _ q this (hir q)
 have hβn:∀ i b,β i=some b→pF β β' ρ s.nb i=some b:=fun i b hb=>by
  unfold pF
  cases hi:sG ρ s.nb i with
  |none=>exact hb
  |some q=>
   have e:=n0 hi
   have bK:=(aR.boxblk hb).1
   have hq:q<ρ.length:=by
    by_cases hq:q<ρ.length
    ·exact hq
    ·unfold rho at e;rw[if_neg hq] at e;omega
   simp only
   rw[V6 q (by omega)]
   unfold lH
   rw[if_pos (by omega),e];exact hb
 have hI:∀ b o,I b o→I' b o∧w'.cell? ⟨b,o,none⟩=w.cell? ⟨b,o,none⟩:=fun b o hb=>⟨Qe b o hb,v7 b o hb⟩
 have ll:∀ b,b<w.heap.size→¬ Wr ⟨Mof β ob (rho ρ s.nb) b0.length,fun _=>none,[]⟩ w b→w'.heap[b]?=w.heap[b]?∧∀ o,I' b o→I b o:=fun b hb hw=>
  ⟨uT.block b hb (fun h=>hw (.inr h)),fun o ho=>by
   rcases NN b o ho with h | h
   ·exact h
   ·exact absurd h.1 hw⟩
 have hbN:∀ i b,pF β β' ρ s.nb i=some b→(∃ q,sG ρ s.nb i=some q∧β' q=some b)∨(sG ρ s.nb i=none∧β i=some b):=fun i b hb=>by
  unfold pF at hb
  cases hi:sG ρ s.nb i with
  |none=>rw[hi] at hb;exact .inr ⟨rfl,hb⟩
  |some q=>rw[hi] at hb;exact .inl ⟨q,rfl,hb⟩
 have hoN:∀ L b,obN ob ob' ρ s.nb L=some b→(∃ i j q,L=.b i j∧sG ρ s.nb i=some q∧ob' q j=some b)∨((∀ i j q,L=.b i j→sG ρ s.nb i≠some q)∧ob L=some b):=fun L b hb=>by
  cases L with
  |t i=>exact .inr ⟨fun i j q h=>(by cases h),hb⟩
  |b i j=>
   simp only[obN] at hb
   cases hi:sG ρ s.nb i with
   |none=>rw[hi] at hb;exact .inr ⟨fun i' j' q h=>(by cases h;rw[hi];simp),hb⟩
   |some q=>rw[hi] at hb;exact .inl ⟨i,j,q,rfl,hi,hb⟩
 have hβw:∀ q b,β' q=some b→Wr ⟨Mof β ob (rho ρ s.nb) b0.length,fun _=>none,[]⟩ w b:=fun q b hb=>by
  by_cases hq:q<b0.length
  ·rw[V6 q hq] at hb
   exact .inr (.inl ⟨q,(nv hb).1,(nv hb).2⟩)
  ·exact Qt q b (by omega) hb
 have how:∀ i j b,ob' i j=some b→Wr ⟨Mof β ob (rho ρ s.nb) b0.length,fun _=>none,[]⟩ w b:=fun i j b hb=>(ou.obnd i j b hb).2
 have fc:∀ i b,β' i=some b→pF β β' ρ s.nb (rho ρ s.nb i)=some b:=fun i b hb=>by
  unfold pF;rw[hir];exact hb
 refine⟨{
  size:=aR.size,defers:=aR.defers
  below:=⟨uT.os.trans aR.below.os,uT.tape.trans aR.below.tape,uT.output.trans aR.below.output,bN aR.below.size uT.size,fun k hk hM=>
   (uT.block k (bZ hk aR.below.size) (fun h=>by
    rcases vL k (.inr h) with h1 | h1
    ·omega
    ·exact hM h1)).trans (aR.below.block k hk hM),fun t=>bN (aR.below.drawn t) (uT.drawn t)⟩
  ilow:=fun b o h=>Qe b o (aR.ilow b o h)
  kept:=fun b o h=>(v7 b o (aR.ilow b o h)).trans (aR.kept b o h)
  ihigh:=fun b o h=>by
   rcases NN b o h with h | h
   ·exact aR.ihigh b o h
   ·exact .inr (vL b h.1)
  ibnd:=fun b o h=>by
   rcases NN b o h with h | h
   ·exact bZ (aR.ibnd b o h) uT.size
   ·exact h.2
  fr:=fun t=>(aR.fr t).mono hI hβn fun b hb=>ll b (aR.obnd _ b hb).1 (notM2 (.t t) b (fun i j q h=>by cases h) hb)
  bx:=fun i hi=>by
   simp only at hi
   cases hq:sG ρ s.nb i with
   |some q=>
    have e:=n0 hq
    have hqb:q<b1.length:=by
     by_cases h1:q<ρ.length
     ·omega
     ·unfold rho at e;rw[if_neg h1] at e;omega
    obtain⟨blk,cur,e1,e2,e3,e4,e5,e7⟩:=ou.bx q _ (ae hqb)
    have rA:gz (rho ρ s.nb) 0 b1 s.bx i=b1[q].map (V.ren (rho ρ s.nb)):=by
     have:=uk (ρ:=rho ρ s.nb) b1 0 s.bx q _ (ae hqb) (fun i j _ _ h=>by rw[aX,aX] at h;exact qw i j h)
     rw[aX,e] at this;exact this
    refine⟨blk,cur,by unfold pF;rw[hq];exact e1,vL _ e2,e3.congr (by simp only[rA,au]) (by simp only[rA,G5]),by simp only[rA,au];exact e4,fun j=>?_,e7⟩
    simp only[rA,Be]
    have:obN ob ob' ρ s.nb (.b i j)=ob' q j:=by simp only[obN,hq]
    rw[this]
    exact((e5 j).toRen fc).wider fun b hb=>vL b (how q j b hb)
   |none=>
    have bK:=DF hq
    obtain⟨blk,cur,e1,e2,e3,e4,e5,e7⟩:=aR.bx i bK
    have hnw:=notM1 i blk hq e1
    obtain⟨g1,g2⟩:=ll blk e3.lt hnw
    have rA:gz (rho ρ s.nb) 0 b1 s.bx i=s.bx i:=nZ b1 0 s.bx i fun q _ h=>by
     rw[aX] at h
     rw[← h,hir] at hq;cases hq
    refine⟨blk,cur,hβn i blk e1,e2,(e3.mono g1).congr (by simp only[rA]) (by simp only[rA]),by simp only[rA];exact e4,fun j=>?_,fun o ho=>e7 o (g2 o ho)⟩
    simp only[rA]
    have:obN ob ob' ρ s.nb (.b i j)=ob (.b i j):=by simp only[obN,hq]
    rw[this]
    exact(e5 j).mono hI hβn fun b hb=>ll b (aR.obnd _ b hb).1 (notM2 (.b i j) b (fun i' j' q h=>by cases h;rw[hq];simp) hb)
  bnone:=fun i hi=>by
   simp only at hi
   unfold pF
   cases hq:sG ρ s.nb i with
   |some q=>
    have e:=n0 hq
    refine ou.bnone q ?_
    by_cases h1:q<ρ.length
    ·unfold rho at e;rw[if_pos h1] at e;have:=hl q h1;omega
    ·unfold rho at e;rw[if_neg h1] at e;omega
   |none=>have:=DF hq;omega
  ext:=fun i b he=>hβn i b (aR.ext i b he)
  bnew:=fun i b hi=>by
   rcases hbN i b hi with⟨q,h1,h2⟩ | ⟨h1,h2⟩
   ·by_cases hq:q<b0.length
    ·rw[V6 q hq] at h2
     have:=aR.bnew _ b (nv h2).2
     rw[n0 h1] at this;exact this
    ·exact .inr (vL b (Qt q b (by omega) h2))
   ·exact aR.bnew i b h2
  binj:=fun i j b hi hj=>by
   rcases hbN i b hi with⟨q,h1,h2⟩ | ⟨h1,h2⟩<;>rcases hbN j b hj with⟨p,h3,h4⟩ | ⟨h3,h4⟩
   ·have:=ou.binj q p b h2 h4
    rw[← n0 h1,← n0 h3,this]
   ·exact absurd (hβw q b h2) (notM1 j b h3 h4)
   ·exact absurd (hβw p b h4) (notM1 i b h1 h2)
   ·exact aR.binj i j b h2 h4
  oinj:=fun L L' b hL yB=>by
   rcases hoN L b hL with⟨i,j,q,rfl,h1,h2⟩ | ⟨h1,h2⟩<;>rcases hoN L' b yB with⟨i',j',q',rfl,h3,h4⟩ | ⟨h3,h4⟩
   ·obtain⟨e1,e2⟩:=ou.oinj q j q' j' b h2 h4
    rw[← n0 h1,← n0 h3,e1,e2]
   ·exact absurd (how q j b h2) (notM2 L' b h3 h4)
   ·exact absurd (how q' j' b h4) (notM2 L b h1 h2)
   ·exact aR.oinj L L' b h2 h4
  obx:=fun L b i hL hi=>by
   rcases hoN L b hL with⟨i',j,q,rfl,h1,h2⟩ | ⟨h1,h2⟩<;>rcases hbN i b hi with⟨p,h3,h4⟩ | ⟨h3,h4⟩
   ·exact ou.obx q j b p h2 h4
   ·exact absurd (how q j b h2) (notM1 i b h3 h4)
   ·exact absurd (hβw p b h4) (notM2 L b h1 h2)
   ·exact aR.obx L b i h2 h4
  obnd:=fun L b hL=>by
   rcases hoN L b hL with⟨i',j,q,rfl,h1,h2⟩ | ⟨h1,h2⟩
   ·exact⟨(ou.obnd q j b h2).1,vL b (how q j b h2)⟩
   ·exact⟨bZ (aR.obnd L b h2).1 uT.size,(aR.obnd L b h2).2⟩
  glob:=fun g cs hg=>(aR.glob g cs hg).mono hI },fc,vL,fun b hw mH L hL=>by
  rcases hoN L b hL with⟨i',j,q,rfl,h1,h2⟩ | ⟨h1,h2⟩
  ·exact mH q j h2
  ·exact notM2 L b h1 h2 hw,fun b hw mH i hi=>by
  rcases hbN i b hi with⟨q,h1,h2⟩ | ⟨h1,h2⟩
  ·exact mH q h2
  ·exact notM1 i b h1 h2 hw,hβn⟩
end
section
variable {P:Program} {G:Gl} {tr:List Nat} {n:Nat} {I0:Ft} {M:Mx} {w0:World} {I:Ft} {β:Nat→Option Nat} {ob:Loc→Option Nat} {s:S} {a:Act} {w:World} {o:Oper}
 {next:Act→World→Prop} {Q:Exit→Act→World→Prop} {base:Nat→Prop} {v:Value} {x y:V}
def ArgsL (base:Nat→Prop) (I:Ft) (β:Nat→Option Nat) (w:World) (vs:List Value) (xs:List V):Prop:=vs.length=xs.length∧∀ (j:Nat) (x:V),xs[j]?=some x→LR base I β w none (vs.getD j undef) x.fz
theorem ArgsL.append {vs us:List Value} {xs ys:List V} (h:ArgsL base I β w vs xs) (h':ArgsL base I β w us ys):ArgsL base I β w (vs++us) (xs++ys):=by
 refine⟨by simp[h.1,h'.1],fun j x hx=>?_⟩
 have hl:=h.1
 by_cases hj:j<xs.length
 ·rw[az hj] at hx
  have:=h.2 j x hx
  rw[aw,az (by omega)]
  rw[aw] at this
  exact this
 ·rw[aH (by omega)] at hx
  have:=h'.2 _ x hx
  rw[aw,aH (by omega),hl]
  rw[aw] at this
  exact this
theorem uY (aR:St G n I0 M w0 I β ob s a w):∀ l:List Operand,ArgsL (Wr M w0) I β w (l.map a.eval) (l.map (ev G s))
 |[]=>⟨rfl,by simp⟩
 |x::l=>by
  have ih:=uY aR l
  refine⟨by simp,fun j z hz=>?_⟩
  cases j with
  |zero=>simp at hz;subst hz;exact xn aR x
  |succ j=>simpa using ih.2 j z (by simpa using hz)
theorem yM (aR:St G n I0 M w0 I β ob s a w):∀ l:List Operand,ArgsL (Wr M w0) I β w (l.map a.eval) (l.map (evX G s))
 |[]=>⟨rfl,by simp⟩
 |x::l=>by
  have ih:=yM aR l
  refine⟨by simp,fun j z hz=>?_⟩
  cases j with
  |zero=>
   simp at hz;subst hz
   unfold evX
   split
   ·exact .ofC (.ex _ rfl rfl)
   ·exact xn aR x
  |succ j=>simpa using ih.2 j z (by simpa using hz)
theorem uZ (vs:Array Value) (cs:List C) (h:vs.size=cs.length) (hc:∀ j c,cs[j]?=some c→CR I w (vs.getD j undef) c):ArgsL base I β w vs.toList (cs.map .c):=by
 refine⟨by simp[h],fun j x hx=>?_⟩
 obtain⟨c,h1,rfl⟩:=AG hx
 have:=hc j c h1
 rw[aw,aM]
 rw[aj] at this
 exact .ofC this
theorem u6 (vs:Array Value) (xs:List V) (h:vs.size=xs.length) (hc:∀ j x,xs[j]?=some x→PR I β w (vs.getD j undef) x):ArgsL base I β w vs.toList xs:=by
 refine⟨by simp[h],fun j x hx=>?_⟩
 have:=hc j x hx
 rw[aw,aM]
 rw[aj] at this
 exact(PR.toLR this).fz none
theorem G6 (aR:St G n I0 M w0 I β ob s a w) (hd:∀ d,o.dst=some d→d<n) {f:FuncId} {vs:List Value} {all:List V} {ρ:List Nat} {cargs:List V} {b0 b1:List (List V)} {r:V}
 (eH:FnB P G f cargs b0 r b1) (dD:ArgsL (Wr M w0) I β w vs all) (eF:all.map V.fz=cargs.map (V.ren (rho ρ s.nb))) (hρ:ρ.length=b0.length∧ρ.Nodup) (gC:rb s.bx s.nb (rho ρ s.nb) 0 b0)
 (bM:(execOp a.eval o).run P w=.ok (.enter f vs.toArray) w)
 (hk:∀ a' w',SE G n I0 M w0 (({ s with bx:=gz (rho ρ s.nb) 0 b1 s.bx,nb:=s.nb+(b1.length - b0.length) }:S).put o.dst (r.ren (rho ρ s.nb))) a' w'→next a' w'):o.wp P a w next Q:=by
 unfold Oper.wp
 rw[bM]
 simp only[Oper.upon]
 obtain⟨hρl,hn⟩:=hρ
 obtain⟨rB,sA,jW⟩:=eH.2.1
 have hl:∀ i,i<ρ.length→ρ.getD i 0<s.nb:=fun i hi=>by
  obtain⟨b,hb⟩:∃ b,b0[i]?=some b:=⟨_,ae (by omega)⟩
  have:=(pE b0 0 i b gC hb).1
  rw[aX] at this
  simpa[rho,hi] using this
 have qw:=xw hn hl
 have cg:all.length=cargs.length:=by simpa using dK List.length eF
 refine (eH.2.2 I ⟨Mof β ob (rho ρ s.nb) b0.length,fun _=>none,[]⟩ w vs.toArray (lH β (rho ρ s.nb) b0.length) (obC ob (rho ρ s.nb) b0.length) aR.ibnd aR.glob (aR.give qw gC sA)
  (by have:=dD.1;simp;omega) (fun j x hx=>?_)).mono ?_
 ·have hj:j<cargs.length:=(ah.1 hx).1
  have hz:all[j]?=some all[j]:=ae (by omega)
  have h1:=dD.2 j _ hz
  have h2:all[j].fz=x.ren (rho ρ s.nb):=by
   have e1:(all.map V.fz)[j]?=some all[j].fz:=by simp[hz]
   have e2:(cargs.map (V.ren (rho ρ s.nb)))[j]?=some (x.ren (rho ρ s.nb)):=by simp[hx]
   rw[eF,e2] at e1
   exact(jK e1).symm
  rw[h2] at h1
  have h3:=h1.ren (β':=lH β (rho ρ s.nb) b0.length) (rB x (aQ hx)) (fun i b hi hb=>by simp[lH,hi,hb])
  have h4:=h3.wider (base':=Wr ⟨Mof β ob (rho ρ s.nb) b0.length,fun _=>none,[]⟩ w) fun b hb=>by cases hb
  simpa using h4
 ·rintro e w' ⟨v,I',β',ob',o',rfl,uT,Qe,NN,v7,V6,Qt,ou,hZ,tq⟩
  simp only
  obtain⟨cK,fc,vL,mH,zi,_⟩:=aR.called hρl hn gC jW uT Qe NN v7 V6 Qt ou
  refine hk _ _ ?_
  have V4:LR (Wr M w0) I' (pF β β' ρ s.nb) w' o' v (r.ren (rho ρ s.nb)):=(hZ.toRen fc).wider fun b hb=>vL b (tq b hb).1.2
  cases lk:o.dst with
  |none=>exact⟨_,_,_,cK⟩
  |some d=>
   refine⟨_,_,_,cK.put d (hd d lk) V4 fun b hb=>?_⟩
   obtain⟨⟨h1,h2⟩,h3,h4⟩:=tq b hb
   refine⟨⟨h1,vL b h2⟩,fun L hL=>?_,zi b h2 h4⟩
   simp only[upL] at hL
   split at hL
   ·cases hL
   ·exact mH b h2 h3 L hL
theorem sH {K:S→V→Prop} {f:Operand} {args:Array Operand} {ts:Array TypeId} (ho:o.op=.call { callee:=.value f,args:=args,argTypes:=ts }) (aR:St G n I0 M w0 I β ob s a w)
 (hd:∀ d,o.dst=some d→d<n) (h:vcallB P G s (ev G s f) (args.toList.map (ev G s)) K) (hk:∀ a' w' s' x,K s' x→SE G n I0 M w0 (s'.put o.dst x) a' w'→next a' w'):o.wp P a w next Q:=by
 have hf:=bH aR f
 unfold vcallB ke at h
 split at h
 ·rename_i g all tA
  obtain⟨ρ,cargs,b0,r,b1,eH,eF,hρ,gC,hK⟩:=h
  obtain⟨fn,h1,h2,c,h3⟩:=eH.1
  unfold gv at tA
  split at tA
  ·rename_i g' fs cs he
   simp only[ao,ft] at tA
   obtain⟨rfl,rfl⟩:=tA
   rw[he] at hf
   obtain⟨vf,vc,hv,q1,q2,q3,q4⟩:=hf.toC.fn_inv
   have bM:=rI (P:=P) (w:=w) ho hv h1 h2 h3
   refine G6 aR hd eH (vs:=vf.toList++args.toList.map a.eval++vc.toList) (((uZ vf fs q1 q3).append (uY aR _)).append (uZ vc cs q2 q4)) eF hρ gC ?_ (fun a' w'=>hk a' w' _ _ hK)
   rw[bM];congr 2;apply dn;simp
  ·rename_i g' fs cs he
   simp only[ao,ft] at tA
   obtain⟨rfl,rfl⟩:=tA
   rw[he] at hf
   simp only[LR] at hf
   obtain⟨vf,vc,hv,q1,q2,q3,q4⟩:=hf
   have bM:=rI (P:=P) (w:=w) ho hv h1 h2 h3
   refine G6 aR hd eH (vs:=vf.toList++args.toList.map a.eval++vc.toList) (((u6 vf fs q1 q3).append (uY aR _)).append (u6 vc cs q2 q4)) eF hρ gC ?_ (fun a' w'=>hk a' w' _ _ hK)
   rw[bM];congr 2;apply dn;simp
  ·cases tA
 ·exact h.elim
theorem G7 (aR:St G n I0 M w0 I β ob s a w) (hd:∀ d,o.dst=some d→d<n) {f:FuncId} {vs:List Value} {all:List V} {ρ:List Nat} {cargs:List V} {b0:List (List V)} {R:V→List (List V)→Prop}
 (eH:FnE P G f cargs b0 R) (dD:ArgsL (Wr M w0) I β w vs all) (eF:all.map V.fz=cargs.map (V.ren (rho ρ s.nb))) (hρ:ρ.length=b0.length∧ρ.Nodup) (gC:rb s.bx s.nb (rho ρ s.nb) 0 b0)
 (bM:(execOp a.eval o).run P w=.ok (.enter f vs.toArray) w)
 (hk:∀ r b1,R r b1→∀ a' w',SE G n I0 M w0 (({ s with bx:=gz (rho ρ s.nb) 0 b1 s.bx,nb:=s.nb+(b1.length - b0.length) }:S).put o.dst (r.ren (rho ρ s.nb))) a' w'→next a' w'):o.wp P a w next Q:=by
 unfold Oper.wp
 rw[bM]
 simp only[Oper.upon]
 obtain⟨hρl,hn⟩:=hρ
 obtain⟨rB,sA,jW⟩:=eH.2.1
 have hl:∀ i,i<ρ.length→ρ.getD i 0<s.nb:=fun i hi=>by
  obtain⟨b,hb⟩:∃ b,b0[i]?=some b:=⟨_,ae (by omega)⟩
  have:=(pE b0 0 i b gC hb).1
  rw[aX] at this
  simpa[rho,hi] using this
 have qw:=xw hn hl
 have cg:all.length=cargs.length:=by simpa using dK List.length eF
 refine (eH.2.2 I ⟨Mof β ob (rho ρ s.nb) b0.length,fun _=>none,[]⟩ w vs.toArray (lH β (rho ρ s.nb) b0.length) (obC ob (rho ρ s.nb) b0.length) aR.ibnd aR.glob (aR.give qw gC sA)
  (by have:=dD.1;simp;omega) (fun j x hx=>?_)).mono ?_
 ·have hj:j<cargs.length:=(ah.1 hx).1
  have hz:all[j]?=some all[j]:=ae (by omega)
  have h1:=dD.2 j _ hz
  have h2:all[j].fz=x.ren (rho ρ s.nb):=by
   have e1:(all.map V.fz)[j]?=some all[j].fz:=by simp[hz]
   have e2:(cargs.map (V.ren (rho ρ s.nb)))[j]?=some (x.ren (rho ρ s.nb)):=by simp[hx]
   rw[eF,e2] at e1
   exact(jK e1).symm
  rw[h2] at h1
  have h3:=h1.ren (β':=lH β (rho ρ s.nb) b0.length) (rB x (aQ hx)) (fun i b hi hb=>by simp[lH,hi,hb])
  have h4:=h3.wider (base':=Wr ⟨Mof β ob (rho ρ s.nb) b0.length,fun _=>none,[]⟩ w) fun b hb=>by cases hb
  simpa using h4
 ·rintro e w' ⟨r,b1,hR,v,I',β',ob',o',rfl,uT,Qe,NN,v7,V6,Qt,ou,hZ,tq⟩
  simp only
  obtain⟨cK,fc,vL,mH,zi,_⟩:=aR.called hρl hn gC (jW r b1 hR) uT Qe NN v7 V6 Qt ou
  refine hk r b1 hR _ _ ?_
  have V4:LR (Wr M w0) I' (pF β β' ρ s.nb) w' o' v (r.ren (rho ρ s.nb)):=(hZ.toRen fc).wider fun b hb=>vL b (tq b hb).1.2
  cases lk:o.dst with
  |none=>exact⟨_,_,_,cK⟩
  |some d=>
   refine⟨_,_,_,cK.put d (hd d lk) V4 fun b hb=>?_⟩
   obtain⟨⟨h1,h2⟩,h3,h4⟩:=tq b hb
   refine⟨⟨h1,vL b h2⟩,fun L hL=>?_,zi b h2 h4⟩
   simp only[upL] at hL
   split at hL
   ·cases hL
   ·exact mH b h2 h3 L hL
theorem Fo {K:S→V→Prop} {f:Operand} {args:Array Operand} {ts:Array TypeId} (ho:o.op=.call { callee:=.value f,args:=args,argTypes:=ts }) (aR:St G n I0 M w0 I β ob s a w)
 (hd:∀ d,o.dst=some d→d<n) (h:kJ P G s (ev G s f) (args.toList.map (evX G s)) K) (hk:∀ a' w' s' x,K s' x→SE G n I0 M w0 (s'.put o.dst x) a' w'→next a' w'):o.wp P a w next Q:=by
 have hf:=bH aR f
 unfold kJ at h
 split at h
 ·rename_i g all tA
  obtain⟨ρ,cargs,b0,R,eH,eF,hρ,gC,hK⟩:=h
  obtain⟨fn,h1,h2,c,h3⟩:=eH.1
  unfold gv at tA
  split at tA
  ·rename_i g' fs cs he
   simp only[ao,ft] at tA
   obtain⟨rfl,rfl⟩:=tA
   rw[he] at hf
   obtain⟨vf,vc,hv,q1,q2,q3,q4⟩:=hf.toC.fn_inv
   have bM:=rI (P:=P) (w:=w) ho hv h1 h2 h3
   refine G7 aR hd eH (vs:=vf.toList++args.toList.map a.eval++vc.toList) (((uZ vf fs q1 q3).append (yM aR _)).append (uZ vc cs q2 q4)) eF hρ gC ?_ (fun r b1 hR a' w'=>hk a' w' _ _ (hK r b1 hR))
   rw[bM];congr 2;apply dn;simp
  ·rename_i g' fs cs he
   simp only[ao,ft] at tA
   obtain⟨rfl,rfl⟩:=tA
   rw[he] at hf
   simp only[LR] at hf
   obtain⟨vf,vc,hv,q1,q2,q3,q4⟩:=hf
   have bM:=rI (P:=P) (w:=w) ho hv h1 h2 h3
   refine G7 aR hd eH (vs:=vf.toList++args.toList.map a.eval++vc.toList) (((u6 vf fs q1 q3).append (yM aR _)).append (u6 vc cs q2 q4)) eF hρ gC ?_ (fun r b1 hR a' w'=>hk a' w' _ _ (hK r b1 hR))
   rw[bM];congr 2;apply dn;simp
  ·cases tA
 ·exact h.elim
end
def FW (l:Option Nat):Fence:={ Fence.wide with round:=l }
section
variable {P:Program} {n:Nat} {l:Option Nat} {a:Act} {w:World} {o:Oper} {next:Act→World→Prop} {Q:Exit→Act→World→Prop}
theorem pG {f:FuncId} {args:Array Value} {R:Ending→World→Prop}:CallsIn (FW l) n P f args w R↔Calls P f args w R:=callsIn_wide (n:=n)
theorem Ob {row:String} {args:Array Value} {R:Value→World→Prop} (h:Rows P row args w R):RowsIn (FW l) n P row args w R:=
 fun c cs _=>let⟨v,w',h1,h2⟩:=h c cs;⟨v,w',h1,stepsIn_wide.2 h2⟩
theorem Kj {k:Nat} {r:Nat} {f:FuncId} {tmps:Array Value} {assign body:Code} {R:Ending→World→Prop} (h:RoundIn Fence.wide k P r f tmps assign body w R):RoundIn (FW l) n P r f tmps assign body w R:=
 ⟨trivial,fun c cs _=>h.2 c cs (room_wide _)⟩
theorem wx (oZ:∀ c,o.op≠.defer c) (h:o.wp P a w next Q):o.wpIn (FW l) n P a w next Q:=by
 refine⟨fun _ _=>trivial,?_⟩
 rw[Oper.semAt_eq _ _ _ oZ]
 unfold Oper.wp at h
 have hd:(FW l).depth.isSome=true→1≤n:=fun h=>by cases h
 generalize (execOp a.eval o).run P w=r at *
 cases r with
 |ok x w'=>
  cases x<;>simp only[Oper.upon,Oper.uponIn] at h ⊢<;>first
   |exact h
   |exact⟨hd,pG.2 h⟩
   |exact⟨hd,Ob h⟩
   |exact h.elim
 |halt x w'=>cases x<;>simp only[Oper.upon,Oper.uponIn] at h ⊢<;>exact h
def Bf (ops:Array Oper):Bool:=ops.toList.all fun o=>match o.op with | .defer _=>false | _=>true
theorem Kk {ops:Array Oper} (h:Bf ops=true) (ho:o∈ops.toList):∀ c,o.op≠.defer c:=fun c hc=>by
 have:=ba.1 h o ho
 rw[hc] at this;cases this
theorem WZ {ops:Array Oper} (oZ:Bf ops=true) (hQ:¬ LetsOut Q) {i:Nat} {K K':Act→World→Prop} (hK:∀ a w,K a w→K' a w) (h:wpOp P ops Q i K a w):wpOpIn (FW l) n P ops Q i K' a w:=by
 unfold wpOp at h
 unfold wpOpIn
 split
 ·rename_i ho;rw[ho] at h;exact hK _ _ h
 ·rename_i o ho
  rw[ho] at h
  have hm:o∈ops.toList:=by have:=fX ho;simpa using this
  simp only at h
  split
  ·rename_i hw
   rw[if_pos hw] at h
   rcases h with h | h
   ·exact wx (Kk oZ hm) (Oper.wp_mono hK h)
   ·exact absurd h.2 hQ
  ·rename_i hw
   rw[if_neg hw] at h
   exact⟨fun _ _=>trivial,hK _ _ h⟩
theorem xz {ops:Array Oper} {md:Region.Mode} (oZ:Bf ops=true) (hQ:¬ LetsOut Q):∀ (fuel:Nat) (listed:Array Bool) (a:Act) (w:World),wpAny P md ops Q fuel listed a w→wpAnyIn (FW l) n P md ops Q fuel listed a w
 |0,_,_,_,h=>h
 |fuel+1,_,_,_,h=>⟨h.1,fun i hi=>WZ oZ hQ (fun a w h=>xz oZ hQ fuel _ a w h) (h.2 i hi)⟩
section
variable {b:Frame} {k:List Item} {cs:List Frame}
theorem me {c:Code}:step P (lone (b.atR a (.code (.scope c)::k)) cs w)=.next (lone (b.atR a (.code c::.inScope c::k)) cs w):=
 step_lone_go (by simp[stepG,stepG.exec,Frame.atR])
theorem C2 {c:Code}:step P (lone (b.atR a (.inScope c::k)) cs w)=.next (lone (b.atR a k) cs w):=
 step_lone_go (by simp[stepG,stepG.exec,Frame.atR])
end
theorem vF {c:Code} (h:c.wpIn (FW l) n P (Exit.noGoto Q) a w):(Code.scope c).wpIn (FW l) n P Q a w:=by
 intro b k cs NO hb hr
 have h0:(lone (b.atR a (.code (.scope c)::k)) cs w).fenced P (FW l):=fenced_calm hb hr rfl
 obtain⟨e,a₁,w₁,hq,Qh⟩:=h b (.inScope c::k) cs NO hb hr
 cases e with
 |normal=>exact⟨.normal,a₁,w₁,hq,.head h0 me (StepsIn.trans Qh (.one (fenced_calm hb hr rfl) C2))⟩
 |exit id=>
  have hx:exitTo id (.inScope c::k)=exitTo id k:=by simp[exitTo]
  exact⟨.exit id,a₁,w₁,hq,fun k' hk=>.head h0 me (Qh.1 k' (by rw[hx];exact hk)),
   fun hr' hk=>let⟨k₁,h1,h2⟩:=Qh.2 hr' (by rw[hx];exact hk);⟨k₁,h1,.head h0 me h2⟩⟩
 |goto l=>exact hq.elim
 |ret=>exact⟨_,a₁,w₁,hq,.of_steps (.one h0 me) Qh⟩
 |panic ch=>exact⟨_,a₁,w₁,hq,.of_steps (.one h0 me) Qh⟩
 |outgrown=>exact⟨_,a₁,w₁,hq,.of_steps (.one h0 me) Qh⟩
end
section
variable {P:Program} {G:Gl} {tr:List Nat} {n:Nat} {I0:Ft} {M:Mx} {w0:World} {I:Ft} {β:Nat→Option Nat} {ob:Loc→Option Nat} {s:S} {a:Act} {w:World} {o:Oper}
 {next:Act→World→Prop} {Q:Exit→Act→World→Prop} {base:Nat→Prop} {v:Value} {x y:V}
theorem SE.put (h:St G n I0 M w0 I β ob s a w) {dst:Option Tmp} (hd:∀ d,dst=some d→d<n) (hv:LR (Wr M w0) I β w none v x):SE G n I0 M w0 (s.put dst x) (a.put dst v) w:=by
 cases dst with
 |none=>exact⟨_,_,_,h⟩
 |some d=>exact⟨_,_,_,h.put d (hd d rfl) hv FreeOb.nothing⟩
theorem QS {u:Value} {c:C} (h:zc u=some c):LR base I β w none u (ni c):=by
 unfold zc at h
 split at h
 ·simp only[ao] at h;subst h
  exact⟨.nil none 0 (fun _=>rfl),.inl ⟨rfl,rfl,none,rfl⟩⟩
 ·split at h
  ·simp only[ao] at h;subst h
   exact .ofLit ‹_›
  ·cases h
theorem St.newCells (aR:St G n I0 M w0 I β ob s a w) (e:TypeId) {cells:Array Value} {cs:List C} (hc:Cells I w cells cs) :
 St G n I0 M w0 I (up β s.nb (some w.heap.size)) (fun L=>match L with | .b i j=>if i=s.nb then none else ob (.b i j) | L=>ob L)
  { s with bx:=up s.bx s.nb (cs.map .c),nb:=s.nb+1 } a (w.alloc (.cells cells e)):=
 aR.newBox (cur:=cells) (T:=.of e) (cs:=cs.map .c) (od:=fun _=>none) (Nat.le_of_eq (by simpa using hc.1.symm)) RT.of_ok (fun q=>by
  by_cases hq:q<cs.length
  ·have e2:(cs.map V.c).getD q .un=.c cs[q]:=by simp[List.getD,hq]
   rw[e2];exact .ofC (hc.2 q _ (ae hq))
  ·have e2:(cs.map V.c).getD q .un=.un:=by simp[List.getD,bw (en hq)]
   rw[e2];simp only[LR];exact .un _) (fun u hu=>by
  obtain⟨q,hq,rfl⟩:=fA.1 hu
  have mZ:q<cs.length:=by rw[← hc.1];exact hq
  have:=(hc.2 q _ (ae mZ)).oneCell
  simpa[ay hq,hq] using this) (fun _ _ h=>by cases h) (fun _ _ _ h=>by cases h) (by cases cs<;>rfl)
theorem St.newPre (aR:St G n I0 M w0 I β ob s a w) (e:TypeId) {cells:Array Value} {cs:List C} (fW:cs.length≤cells.size) (iW:∀ q c,cs[q]?=some c→CR I w (cells.getD q undef) c)
 (jE:∀ u∈cells,u.oneCell'=true) :
 St G n I0 M w0 I (up β s.nb (some w.heap.size)) (fun L=>match L with | .b i j=>if i=s.nb then none else ob (.b i j) | L=>ob L)
  { s with bx:=up s.bx s.nb (cs.map .c),nb:=s.nb+1 } a (w.alloc (.cells cells e)):=
 aR.newBox (cur:=cells) (T:=.of e) (cs:=cs.map .c) (od:=fun _=>none) (by simpa using fW) RT.of_ok (fun q=>by
  by_cases hq:q<cs.length
  ·have e2:(cs.map V.c).getD q .un=.c cs[q]:=by simp[List.getD,hq]
   rw[e2];exact .ofC (iW q _ (ae hq))
  ·have e2:(cs.map V.c).getD q .un=.un:=by simp[List.getD,bw (en hq)]
   rw[e2];simp only[LR];exact .un _) jE (fun _ _ h=>by cases h) (fun _ _ _ h=>by cases h) (by cases cs<;>rfl)
theorem Kl {K:S→Prop} {T:TypeId} {p X:Operand} {i:TI} {blk j b k len cap q:Nat} {E:TypeId} {es:List (List C)} {cs:List C} (aR:St G n I0 M w0 I β ob s a w) (hd:∀ d,o.dst=some d→d<n) (ct:o.op=.store T p X) (hi:ti P T=some i) (hp:ev G s p=.c (.ex (.pointer (some ⟨blk,j,none⟩))))
 (hb:b<s.nb) (kE:cy (s.bx b)=false) (V7:(s.bx b)[k]?=some (.gg (.slice (some ⟨blk,0,none⟩) len cap) (some (E,i.size)) es)) (jc:(ev G s X).cs=some cs) (jI:cs.length=i.size) (hpz:0<i.size) (hq:q<es.length) (hj:q*i.size=j)
 (h:K ((let s':=s.use (bY tr o);{ s' with bx:=up s.bx b ((s.bx b).set k (.gg (.slice (some ⟨blk,0,none⟩) len cap) (some (E,i.size)) (es.set q cs))) }:S).put o.dst .sk))
 (hk:∀ a' w' s',K s'→SE G n I0 M w0 s' a' w'→next a' w'):o.wp P a w next Q:=by
 obtain⟨j',d,EL,JD,_,fW,_,kT,_⟩:=bB hi
 obtain⟨ob',h1,h2⟩:=aR.use (bY tr o)
 have ou:(s.use (bY tr o)).bx=s.bx∧(s.use (bY tr o)).nb=s.nb:=by
  cases bY tr o with
  |none=>exact⟨rfl,rfl⟩
  |some t=>simp only[S.use];split<;>exact⟨rfl,rfl⟩
 have Mi:=bH aR p
 rw[hp] at Mi
 have hpe:=Mi.toC.ex_inv
 have qY:=GQ (bH aR X) jc
 obtain⟨cur,⟨g1,g2,g3,g4,g5,g6,g7⟩,rA⟩:=h1.ggSet (b:=b) (k:=k) (by rw[ou.2];exact hb) (by rw[ou.1];exact V7)
 have kP:=bI es g5
 have CN:(a.eval X).cells.toList.length=i.size:=by rw[bP,qY.1,jI]
 have Mj:cur.toList.length=cur.size:=bP
 have jW:=aO i.size (show q+1≤cap by omega)
 have V3:=aO i.size (show q+1≤es.length from hq)
 rw[di,mD,← g3,hj] at jW
 rw[di,mD,hj] at V3
 have JE:RelL I w (a.eval X).cells.toList cs:=fun q c hq=>by
  have:=qY.2 q c hq
  have mZ:q<(a.eval X).cells.size:=by rw[qY.1];exact(ah.1 hq).1
  refine⟨(a.eval X).cells[q],by rw[aM,ay mZ],?_⟩
  rw[aj,ay mZ] at this
  exact this
 have JF:∀ u∈(a.eval X).cells.toList,u.oneCell'=true:=fun u hu=>by
  obtain⟨q,hq⟩:=da.1 hu
  have mZ:q<cs.length:=by rw[jI,← CN];exact(ah.1 hq).1
  obtain⟨u',A1,iW⟩:=JE q _ (ae mZ)
  rw[hq] at A1;cases A1
  exact iW.oneCell
 have tQ:RelL I w cur.toList es.flatten:=fun q c hq=>by
  have mZ:=(ah.1 hq).1
  rw[kP] at mZ
  have:=aO i.size g4
  refine⟨cur.getD q undef,?_,g6 q c hq⟩
  rw[aM,aj,ay (show q<cur.size by omega)];rfl
 have bM:(Instr.storeAt T (a.eval p) (a.eval X)).run P w=.ok () (w.setRow blk (cur.toList.take j++(a.eval X).cells.toList++cur.toList.drop (j+i.size)).toArray):=by
  rw[hpe]
  simp only[Instr.storeAt,Instr.sureAddr,aF,bg,ax]
  unfold storeVar
  simp only[aF,e9 w EL,ax]
  rw[if_neg (by rw[eA EL,← fW,qY.1,jI];simp)]
  have:=fO (P:=P) blk j (.of E) (a.eval X).cells.toList 0 cur w g2 RT.of_ok (by rw[CN];omega) JF
  rw[CN] at this
  simpa using this
 have pj:=rA (es.set q cs) (cur.toList.take j++(a.eval X).cells.toList++cur.toList.drop (j+i.size)) (by simp) (fun x hx=>by
  rcases List.mem_or_eq_of_mem_set hx with hx | rfl
  ·exact g5 x hx
  ·exact jI)
  (by rw[ai,ai,CN,aN,cW,Mj,bO (by omega)];omega)
  (fun u hu=>by
   rcases aV.1 hu with hu | hu
   ·rcases aV.1 hu with hu | hu
    ·exact g7 u (cm.1 (cn hu))
    ·exact JF u hu
   ·exact g7 u (cm.1 (cT hu)))
  (by
   rw[Fi g5 hq,hj]
   refine RelL.append (RelL.append (tQ.take _) JE ?_) (tQ.drop _) ?_
   ·rw[aN,aN,Mj,kP,bO (by omega),bO (by omega)]
   ·rw[ai,ai,CN,jI,aN,aN,Mj,kP,bO (by omega),bO (by omega)])
 unfold Oper.wp
 obtain⟨dst,op,type,pos,after,guard⟩:=o
 simp only at ct;subst ct
 simp only[execOp,aF,bM,ax,bg,Oper.upon]
 rw[ou.1] at pj
 have yz:=SE.put (v:=undef) (x:=.sk) pj hd (by simp only[LR];exact .sk)
 exact hk _ _ _ h yz
theorem Bg {ρ:Nat→Nat}:∀ (b:List (List V)) (i:Nat) (bx:Nat→List V) (nb:Nat),rb bx nb ρ i b→gz ρ i b bx=bx
 |[],_,_,_,_=>rfl
 |x::r,i,bx,nb,h=>by
  have e:up bx (ρ i) (x.map (V.ren ρ))=bx:=by rw[← h.1.2,sB]
  show gz ρ (i+1) r (up bx (ρ i) (x.map (V.ren ρ)))=bx
  rw[e];exact Bg r (i+1) bx nb h.2
theorem QT {f:V} {args:List V} {K:V→Prop} (h:pB P G s f args K):vcallB P G s f args (fun s' x=>s'=s∧K x):=by
 unfold pB at h
 unfold vcallB ke
 split at h
 ·rename_i g all hc
  simp only[hc]
  obtain⟨ρ,cargs,b0,r,h1,h2,h3,h4,h5,h6⟩:=h
  refine⟨ρ,cargs,b0,r,b0,h1,h2 _,h3,h4 _,?_,by rw[h5];exact h6⟩
  rw[Bg _ _ _ _ (h4 s.nb),lE];rfl
 ·exact h.elim
theorem DG {K:V→Prop} {f:Operand} {args:Array Operand} {ts:Array TypeId} (ho:o.op=.call { callee:=.value f,args:=args,argTypes:=ts }) (aR:St G n I0 M w0 I β ob s a w) (hd:∀ d,o.dst=some d→d<n)
 (h:VYQ P G tr o s f args K) (hk:∀ a' w' x,K x→SE G n I0 M w0 (s.after tr o x) a' w'→next a' w'):o.wp P a w next Q:=by
 unfold VYQ at h
 split at h
 ·refine sH ho aR hd (QT h) (fun a' w' s' x hK dE=>?_)
  obtain⟨rfl,hx⟩:=hK
  refine hk a' w' x hx ?_
  have hc:bY tr o=none:=by simp[bY,ho]
  unfold S.after
  rw[hc];exact dE
 ·exact pq (tr:=tr) aR hd h hk
theorem qI {K:S→Prop} (aR:St G n I0 M w0 I β ob s a w) (hd:∀ d,o.dst=some d→d<n) (hy:qC tr o=false) (h:VStep P G tr o s K)
 (hk:∀ a' w' s',K s'→SE G n I0 M w0 s' a' w'→next a' w'):o.wp P a w next Q:=by
 have gen:VYK P G tr o s (fun v=>K (s.after tr o v))→o.wp P a w next Q:=fun h=>pq (tr:=tr) aR hd h (fun a' w' x hx dE=>hk _ _ _ hx dE)
 unfold VStep at h
 split at h
 ·
  rename_i T ct
  split at h
  ·rename_i z _ _ hi
   obtain⟨j,d,h1,h2,_,_,_,_,hz,_⟩:=bB hi
   simp only at hz
   split at hz
   ·rename_i zv tM
    have cg:=List.mapM_eq_some_length hz.symm
    have zi:=aR.newBox (cur:=zv.cells) (T:=.of T) (cs:=z.map ni) (od:=fun _=>none) (Nat.le_of_eq (by simpa using cg)) RT.of_ok (fun q=>by
     by_cases hq:q<z.length
     ·obtain⟨u,hu,tj⟩:=List.mapM_eq_some_get hz.symm q z[q] (ae hq)
      have e1:zv.cells.getD q undef=u:=by rw[aM] at hu;simp[hu]
      have e2:(z.map ni).getD q .un=ni z[q]:=by simp[List.getD,hq]
      rw[e1,e2];exact QS tj
     ·have e2:(z.map ni).getD q .un=.un:=by simp[List.getD,bw (en hq)]
      rw[e2];simp only[LR];exact .un _) (fun u hu=>by
     obtain⟨q,hq,rfl⟩:=fA.1 hu
     have mZ:q<z.length:=by rw[cg];simpa using hq
     obtain⟨u,hu,tj⟩:=List.mapM_eq_some_get hz.symm q z[q] (ae mZ)
     rw[aM,ay hq] at hu
     cases hu
     exact(MB (I:=I) (w:=w) tj).oneCell) (fun _ _ h=>by cases h) (fun _ _ _ h=>by cases h) (AE fun x hx=>by
     obtain⟨c,_,rfl⟩:=bj.1 hx
     unfold ni;split<;>rfl)
    refine ey (v':=.pointer (some ⟨w.heap.size,0,none⟩)) (w':=w.alloc (.cells zv.cells T)) ?_ (hk _ _ _ h (SE.put zi hd ?_))
    ·have bM:(Instr.alloc T true (.tuple #[])).run P w=.ok (.pointer (some ⟨w.heap.size,0,none⟩)) (w.alloc (.cells zv.cells T)):=by
      simp[Instr.alloc,zeroValue,typeInfo,h1,tM,newVar,newRow]
     obtain⟨dst,op,type,pos,after,guard⟩:=o
     simp only at ct
     subst ct
     simp only[execOp,aF,bM,ax,bg]
    ·simp only[LR];exact⟨w.heap.size,by simp,rfl⟩
   ·cases hz
  ·exact h.elim
 ·
  rename_i T X ct
  split at h
  ·rename_i cs jc
   obtain⟨ob',h1,h2⟩:=aR.use (bY tr o)
   obtain⟨b1,b2,b3⟩:=Dy (bH aR X) jc
   have V5:bY tr o=(match X with | .tmp t=>some t | _=>none):=by
    obtain⟨dst,op,type,pos,after,guard⟩:=o
    simp only at ct;subst ct
    cases X<;>rfl
   have ou:(s.use (bY tr o)).bx=s.bx∧(s.use (bY tr o)).nb=s.nb:=by
    cases bY tr o with
    |none=>exact⟨rfl,rfl⟩
    |some t=>simp only[S.use];split<;>exact⟨rfl,rfl⟩
   have zi:=h1.newBox (cur:=(a.eval X).cells) (T:=.of T) (cs:=cs) (od:=fun j=>if j=0∧(ev G s X).isOw=true then QF ob X else none) (Nat.le_of_eq b1.symm) RT.of_ok b2 b3 (fun j b hb=>by
    split at hb
    ·rename_i hj
     cases X with
     |tmp t=>
      refine⟨aR.obnd _ b hb,fun L hL=>?_,fun i=>aR.obx _ b i hb⟩
      obtain⟨q1,q2⟩:=h2 L b hL
      have:=q2 t V5 (aR.oinj _ _ b q1 hb)
      simp only[ev] at hj
      rw[hj.2] at this;cases this
     |_=>cases hb
    ·cases hb) (fun j j' b hb yC=>by
    split at hb<;>split at yC<;>try cases hb
    all_goals try cases yC
    rename_i q1 q2
    rw[q1.1,q2.1]) (AE (Dz (bH aR X) jc))
   refine ey (v':=.pointer (some ⟨w.heap.size,0,none⟩)) (w':=w.alloc (.cells (a.eval X).cells T)) ?_ (hk _ _ _ h (SE.put zi hd ?_))
   ·obtain⟨dst,op,type,pos,after,guard⟩:=o
    simp only at ct;subst ct
    simp[execOp,Instr.box,newVar,newRow]
   ·simp only[LR];exact⟨w.heap.size,by rw[ou.2];simp,rfl⟩
  ·exact h.elim
 ·
  rename_i T p X ct
  replace h:=h.2
  split at h
  ·rename_i i b k cs hi hp jc
   obtain⟨j,d,EL,JD,_,fW,_⟩:=bB hi
   obtain⟨⟨hb,cg,tp,kE⟩,h⟩:=h
   obtain⟨ob',h1,h2⟩:=aR.use (bY tr o)
   obtain⟨b1,b2,b3⟩:=Dy (bH aR X) jc
   have V5:bY tr o=(match X with | .tmp t=>some t | _=>none):=by
    obtain⟨dst,op,type,pos,after,guard⟩:=o
    simp only at ct;subst ct
    cases X<;>rfl
   have ou:(s.use (bY tr o)).bx=s.bx∧(s.use (bY tr o)).nb=s.nb:=by
    cases bY tr o with
    |none=>exact⟨rfl,rfl⟩
    |some t=>simp only[S.use];split<;>exact⟨rfl,rfl⟩
   have Mi:=bH aR p
   rw[hp] at Mi
   simp only[LR] at Mi
   obtain⟨blk,hβ,hpe⟩:=Mi
   obtain⟨tn,cur,e1,e2,e3,e4,_⟩:=aR.bx b hb
   obtain⟨T',e3,_,hT⟩:=e3.cells kE
   rw[hβ] at e1;cases e1
   have hsb:=h1.setBox (i:=b) (k:=k) (blk:=blk) (cur:=cur) (T:=T') (vs:=(a.eval X).cells.toList) (ds:=cs) (od:=fun j=>if j=0∧(ev G s X).isOw=true then QF ob X else none)
    (by rw[ou.2];exact hb) hβ e3 hT (by simpa using b1) (by rw[ou.1,cg];exact tp) (fun q=>by
     have:=b2 q
     rw[aw,aM,← aj];exact this) (by simpa using b3) (fun j b hb=>by
    split at hb
    ·rename_i hj
     cases X with
     |tmp t=>
      refine⟨aR.obnd _ b hb,fun L hL=>?_,fun i=>aR.obx _ b i hb⟩
      obtain⟨q1,q2⟩:=h2 L b hL
      have:=q2 t V5 (aR.oinj _ _ b q1 hb)
      simp only[ev] at hj
      rw[hj.2] at this;cases this
     |_=>cases hb
    ·cases hb) (fun j j' b hb yC=>by
    split at hb<;>split at yC<;>try cases hb
    all_goals try cases yC
    rename_i q1 q2
    rw[q1.1,q2.1]) (by rw[ou.1];exact kE) (Dz (bH aR X) jc)
   have bM:(Instr.storeAt T (a.eval p) (a.eval X)).run P w=.ok () (w.setRow blk (cur.toList.take k++(a.eval X).cells.toList++cur.toList.drop (k+(a.eval X).cells.toList.length)).toArray):=by
    rw[hpe]
    simp only[Instr.storeAt,Instr.sureAddr,aF,bg,ax]
    unfold storeVar
    simp only[aF,e9 w EL,ax]
    rw[if_neg (by rw[eA EL,← fW,b1,cg];simp)]
    have:=fO (P:=P) blk k T' (a.eval X).cells.toList 0 cur w e3 hT (by simp only[bP,eC,b1,cg];omega) (by simpa using b3)
    simpa using this
   unfold Oper.wp
   obtain⟨dst,op,type,pos,after,guard⟩:=o
   simp only at ct;subst ct
   simp only[execOp,aF,bM,ax,bg,Oper.upon]
   have yz:=SE.put (v:=undef) (x:=.sk) hsb hd (by simp only[LR];exact .sk)
   exact hk _ _ _ h yz
  ·rename_i i blk j hi hp
   obtain⟨j',d,EL,JD,_,fW,_,kT,_⟩:=bB hi
   rcases h with h | ⟨b,k,len,cap,q,E,es,cs,⟨hb,kE,V7,jc,jI,hpz,hq,hj⟩,h⟩
   rotate_left
   ·exact Kl aR hd ct hi hp hb kE V7 jc jI hpz hq hj h hk
   obtain⟨b,k,len,cap,E,es,r,e,c,⟨Gu,hb,kE,V7,⟨hj,hr⟩,hc⟩,h⟩:=h
   obtain⟨ob',h1,h2⟩:=aR.use (bY tr o)
   have ou:(s.use (bY tr o)).bx=s.bx∧(s.use (bY tr o)).nb=s.nb:=by
    cases bY tr o with
    |none=>exact⟨rfl,rfl⟩
    |some t=>simp only[S.use];split<;>exact⟨rfl,rfl⟩
   have Mi:=bH aR p
   rw[hp] at Mi
   have hpe:=Mi.toC.ex_inv
   have qY:CR I w (a.eval X) c:=by
    have:=bH aR X
    generalize ev G s X=x at this hc
    cases x<;>simp only[V.asC,ao] at hc<;>try cases hc
    ·exact this.toC
    ·exact this.1
   obtain⟨blk2,cur,b1,g1,g2,g3,g4⟩:=h1.hotCell (b:=b) (k:=k) (by rw[ou.2];exact hb) (by rw[ou.1];exact V7)
   obtain⟨f0,te,blk3,cap',c2,sz,f1,f2,f3,f4,f5,f6,f7,f8,f9,f10,f11,f12⟩:=g4.hot
   cases f1
   have Mk:=f0 _ rfl
   rw[f3] at Mk
   simp only[eM,ao,iE] at Mk
   obtain⟨⟨rfl,_⟩,rfl,rfl⟩:=Mk
   have he1:(es++[e]).length=es.length+1:=by simp
   have kP:es.flatten.length=es.length*sz:=bI es fun x hx=>f9 x (ee _ hx)
   have Qp:e.length=sz:=f9 e (by simp)
   have hjs:j<c2.size:=by
    have:=aO sz f6
    rw[he1,dZ] at this
    omega
   have oO:=qY.notAgg
   have qx:(c2.toList.take j++(a.eval X).cells.toList++c2.toList.drop (j+(a.eval X).cells.toList.length)).toArray=c2.setIfInBounds j (a.eval X):=by
    rw[oO]
    apply dn
    rw[Array.toList_setIfInBounds,List.set_eq_take_append_cons_drop,if_pos (by simpa using hjs)]
    simp
   have bM:(Instr.storeAt T (a.eval p) (a.eval X)).run P w=.ok () (w.setRow blk2 (c2.setIfInBounds j (a.eval X))):=by
    rw[hpe,← qx]
    simp only[Instr.storeAt,Instr.sureAddr,aF,bg,ax]
    unfold storeVar
    simp only[aF,e9 w EL,ax]
    have jE:i.size=1:=Gu
    rw[if_neg (by rw[eA EL,← fW,jE,oO];simp)]
    have:=fO (P:=P) blk2 j (.of te) (a.eval X).cells.toList 0 c2 w f5 RT.of_ok (by rw[oO];simp;omega) (by rw[oO];simpa using qY.oneCell)
    simpa using this
   have hg:w.grb (w.setRow blk2 (c2.setIfInBounds j (a.eval X))) (some blk2):=⟨rfl,rfl,rfl,by simp,fun q _ hq=>jO w blk2 q _ (fun e=>hq (by rw[e])),ab _⟩
   have hnh:=lu w blk2 c2 (c2.setIfInBounds j (a.eval X)) te (0,0) f5
   have jc:∀ o,I blk2 o→(w.setRow blk2 (c2.setIfInBounds j (a.eval X))).cell? ⟨blk2,o,none⟩=w.cell? ⟨blk2,o,none⟩:=fun o ho=>by
    have:=f12 o ho
    rw[he1,Nat.add_sub_cancel] at this
    rw[ff _ blk2 o _ te (0,0) hnh,ff w blk2 o c2 te (0,0) f5,Array.getElem?_setIfInBounds_ne (by omega)]
   have ov:∀ b o,I b o→I b o∧(w.setRow blk2 (c2.setIfInBounds j (a.eval X))).cell? ⟨b,o,none⟩=w.cell? ⟨b,o,none⟩:=fun b o ho=>
    ⟨ho,h1.keeps hg (fun r e o ho=>by cases e;exact jc o ho) b o ho⟩
   have hfs:(es++[e.set r c]).flatten=(es++[e]).flatten.set j c:=by
    rw[dX,dX,List.flatten_singleton,List.flatten_singleton,List.set_append_right _ _ (by omega),← hj,Nat.add_sub_cancel_left]
   have hsb:=h1.recell (b:=b) (k:=k) (x':=.hh (some (.slice (some ⟨blk2,0,none⟩) (es++[e]).length cap')) E (es++[e.set r c])) (by rw[ou.2];exact hb) (by rw[ou.1];exact V7) rfl rfl g1 hg jc (fun _ _ h=>h) (fun _ _ h=>.inl h)
    (fun b2 cur2 q1 q2 q3=>by
     have q4:=q3.hot.1
     refine⟨q4,te,blk2,cap',_,sz,rfl,f2,?_,f4,hnh,?_,f7,by simpa using f8,fun x hx=>?_,fun q d hq=>?_,fun o ho=>?_,fun o ho=>?_⟩
     ·rw[q4 _ rfl];simp
     ·rw[ai] at f6 ⊢;simpa using f6
     ·rcases aV.1 hx with hx | hx
      ·exact f9 x (ee _ hx)
      ·rw[a7] at hx;subst hx;rw[gf];exact Qp
     ·rw[hfs,List.getElem?_set] at hq
      split at hq
      ·rename_i hqj
       subst hqj
       split at hq
       ·cases hq
        rw[lN _ _ _ hjs]
        exact qY.mono ov
       ·cases hq
      ·rename_i hqj
       rw[getD_set_ne _ _ _ _ (fun e=>hqj e.symm)]
       exact(f10 q d hq).mono ov
     ·exact f11 o (by simpa using ho)
     ·simpa using f12 o ho)
   unfold Oper.wp
   obtain⟨dst,op,type,pos,after,guard⟩:=o
   simp only at ct;subst ct
   simp only[execOp,aF,bM,ax,bg,Oper.upon]
   have yz:=SE.put (v:=undef) (x:=.sk) hsb hd (by simp only[LR];exact .sk)
   exact hk _ _ _ h yz
  ·exact h.elim
 ·
  rename_i T len parts ct
  split at h
  ·obtain⟨e,sz,es,cells,hK,bM,hc⟩:=Ai aR h
   have zi:=aR.newCells e hc
   refine ey (v':=.slice (some ⟨w.heap.size,0,none⟩) len len) (w':=w.alloc (.cells cells e)) ?_ (hk _ _ _ hK (SE.put zi hd ?_))
   ·obtain⟨dst,op,type,pos,after,guard⟩:=o
    simp only at ct;subst ct
    simp only[execOp,aF,bM,ax,bg]
   ·simp only[LR];exact⟨ab _,w.heap.size,0,_,ab _,by simp,.inr rfl,rfl⟩
  split at h
  ·rcases h with h | h
   rotate_left
   ·obtain⟨z,u,w',hz,bM,dE⟩:=CV (tr:=tr) aR hd h
    refine ey (v':=u) (w':=w') ?_ (hk _ _ _ hz dE)
    obtain⟨dst,op,type,pos,after,guard⟩:=o
    simp only at ct;subst ct
    simp only[execOp,aF,bM,ax,bg]
   unfold xl at h
   split at h
   ·rename_i e _ _ _ _ _ _ hi
    obtain⟨j,d,h1,h2,h3,_⟩:=bB hi
    have qo:=dx h3
    subst qo
    split at h
    ·rename_i sz _ _ z _ _ tW
     obtain⟨j',d',jf,mG,_,eT,_,_,lT,_⟩:=bB tW
     simp only at lT eT
     obtain⟨⟨rfl,uc,hix,jE,tV,hsm⟩,h⟩:=h
     split at lT
     ·rename_i zv tM
      have wZ:∀ p∈(parts.map fun(i,x)=>(i,a.eval x)).toList,p.2.cells=#[p.2]∧p.2.oneCell'=true:=fun p hp=>by
       simp only[Array.toList_map,bj] at hp
       obtain⟨⟨i,x⟩,hx,rfl⟩:=hp
       have h5:=jE (i,ev G s x) (bj.2 ⟨(i,x),hx,rfl⟩)
       have:=(xn aR x).oneCell h5
       exact⟨this.2,this.1⟩
      have cg:parts.toList.length=len:=by
       have:=dK List.length hix
       simpa using this
      have V0:zv.cells.size=1:=by have:=List.mapM_eq_some_length lT.symm;rw[uc] at this;simpa using this.symm
      obtain⟨cells,f1,f2,f3⟩:=Dv (parts.map fun(i,x)=>(i,a.eval x)).toList ((Array.range (len*1)).map (zv.cells[· % zv.cells.size]!)) 0 (by
       rw[← eL]
       have:((parts.map fun(i,x)=>(i,a.eval x)).toList).length=len:=by simpa using cg
       rw[this,← hix,Array.toList_map,gG,gG];rfl) (fun p hp=>(wZ p hp).1) (by rw[Array.toList_map,au,cg];simp)
      have bM:=lU (P:=P) w T e len (parts.map fun(i,x)=>(i,a.eval x)) cells j' zv h2 jf tM (by rw[← eT];omega) (by rw[← eT];exact f1)
      have jA:cells.size=len:=by rw[f2];simp
      have zi:=aR.newBox (cur:=cells) (T:=.of e) (cs:=(parts.toList.map fun(i,x)=>(i,ev G s x)).map fun p=>p.2.fz) (od:=fun _=>none) (Nat.le_of_eq (by simp;rw[jA];simpa using cg)) RT.of_ok (fun q=>by
       by_cases hq:q<parts.size
       ·have e1:cells.getD q undef=a.eval parts[q].2:=by
         rw[f3 q,if_pos (by simp;exact hq)]
         simp[List.getD,hq]
        have e2:(((parts.toList.map fun(i,x)=>(i,ev G s x)).map fun p=>p.2.fz)).getD q .un=(ev G s parts[q].2).fz:=by simp[List.getD,hq]
        rw[e1,e2];exact xn aR _
       ·have e2:(((parts.toList.map fun(i,x)=>(i,ev G s x)).map fun p=>p.2.fz)).getD q .un=.un:=by simp[List.getD,bw (l:=parts.toList) (by simpa using hq)]
        rw[e2];simp only[LR];exact .un _) (fun u hu=>by
       obtain⟨q,hq,rfl⟩:=fA.1 hu
       have Qc:q<parts.size:=by rw[jA] at hq;rw[← cg] at hq;simpa using hq
       have e1:cells.getD q undef=a.eval parts[q].2:=by
        rw[f3 q,if_pos (by simp;exact Qc)]
        simp[List.getD,Qc]
       have e2:cells.getD q undef=cells[q]:=by simp[hq]
       rw[← e2,e1]
       exact(wZ (parts[q].1,a.eval parts[q].2) (by rw[Array.toList_map];exact bj.2 ⟨parts[q],by simp,rfl⟩)).2) (fun _ _ h=>by cases h) (fun _ _ _ h=>by cases h) (AE fun d hd=>by
       obtain⟨p,hp,rfl⟩:=bj.1 hd
       have:=jE p hp
       cases hx:p.2.fz<;>rw[hx] at this<;>first | rfl | cases this)
      refine ey (v':=.slice (some ⟨w.heap.size,0,none⟩) len len) (w':=w.alloc (.cells cells e)) ?_ (hk _ _ _ h (SE.put zi hd ?_))
      ·obtain⟨dst,op,type,pos,after,guard⟩:=o
       simp only at ct;subst ct
       simp only[execOp,aF,bM,ax,bg]
      ·simp only[LR];exact⟨ab _,w.heap.size,0,_,ab _,by simp,.inr rfl,rfl⟩
     ·cases lT
    ·exact h.elim
   ·exact h.elim
  ·exact gen h
 ·
  rename_i T l c ct
  obtain⟨e,p,m,sz,z,cells,hK,hpm,bM,hc⟩:=GU aR h
  have zi:=aR.newCells e hc
  refine ey (v':=.slice (some ⟨w.heap.size,0,none⟩) p m) (w':=w.alloc (.cells cells e)) ?_ (hk _ _ _ hK (SE.put zi hd ?_))
  ·obtain⟨dst,op,type,pos,after,guard⟩:=o
   simp only at ct;subst ct
   simp only[execOp,aF,bM,ax,bg]
  ·simp only[LR];exact⟨hpm,w.heap.size,0,_,ab _,by simp,.inr rfl,rfl⟩
 ·rename_i f args ts ct
  have hy:ER tr o.dst=false:=by
   unfold qC at hy;rw[ct] at hy;exact hy
  rw[hy] at h
  simp only[aY,dm] at h
  split at h
  ·exact Fo ct aR hd h (fun a' w' s' x hK dE=>hk _ _ _ hK dE)
  split at h
  ·refine sH ct aR hd h (fun a' w' s' x hK dE=>hk _ _ _ ?_ dE)
   by_cases hl:CP tr o.dst=true
   ·rw[if_pos hl] at hK;exact hK.2
   ·rw[if_neg hl] at hK;exact hK
  ·exact DG ct aR hd h (fun a' w' x hx dE=>hk _ _ _ hx dE)
 ·
  rename_i args ts ct
  split at h
  ·unfold xj at h
   split at h
   ·rename_i t u es y nQ dD
    obtain⟨htu,h⟩:=h
    subst htu
    obtain⟨X,Y,hX,hxe,hye⟩:∃ X Y,args.toList=[X,Y]∧V.ow none es=vw s (ev G s X)∧y=vw s (ev G s Y):=by
     cases ha:args.toList with
     |nil=>simp[ha] at dD
     |cons X l=>
      cases l with
      |nil=>simp[ha] at dD
      |cons Y l=>simp only[ha,bA,cB,eE] at dD;exact⟨X,Y,by rw[dD.2.2],dD.1.symm,dD.2.1.symm⟩
    have e1:ts=#[t,t]:=dn nQ
    have e2:args.map a.eval=#[a.eval X,a.eval Y]:=by apply dn;simp[hX]
    subst e1
    subst hye
    have hxl:LR (Wr M w0) I β w (QF ob X) (a.eval X) (.ow none es):=by
     have:=bH aR X
     rw[abf hxe.symm] at this;exact this
    obtain⟨e,sz,es',cells,cap,hK,bM,j7,fW,iW,jE⟩:=CX (ty:=o.type) aR hxl h (G2 aR Y)
    have zi:=aR.drew.newPre e (cs:=es'.flatten) fW (fun q c hq=>(iW q c hq).mono fun b o h=>⟨h,rfl⟩) jE
    refine ey (v':=.slice (some ⟨w.heap.size,0,none⟩) es'.length cap) (w':=w.drew.alloc (.cells cells e)) ?_ (hk _ _ _ hK (SE.put zi hd ?_))
    ·obtain⟨dst,op,type,pos,after,guard⟩:=o
     simp only at ct bM;subst ct
     have hb:∀ cs,builtin .append #[t,t] type cs (args.map a.eval)=(do pure (.value (← Builtin.append_ #[t,t] type (args.map a.eval)))):=fun _=>rfl
     have:execOp a.eval { dst,op:=.call { callee:=.builtin .append,args:=args,argTypes:=#[t,t] },type,pos,after,guard }=(do pure (.value (← Builtin.append_ #[t,t] type (args.map a.eval)))):=by
      simp only[execOp,resolve,invoke,pure_bind]
      exact hb _
     rw[this,e2]
     simp only[aF,bM,ax,bg]
    ·simp only[LR];exact⟨ab _,w.heap.size,0,cap,j7,by simp,.inr rfl,rfl⟩
   ·exact h.elim
  ·split at h
   ·
    obtain⟨t,u,X,Y,nQ,hX⟩:∃ t u X Y,ts.toList=[t,u]∧args.toList=[X,Y]:=by
     unfold fF at h
     split at h
     ·rename_i t u _ _ _ _ _ _ nQ dD
      cases ha:args.toList with
      |nil=>simp[ha] at dD
      |cons X l=>
       cases l with
       |nil=>simp[ha] at dD
       |cons Y l=>simp only[ha,bA,cB,eE] at dD;exact⟨t,u,X,Y,nQ,by rw[dD.2.2]⟩
     ·rename_i t u _ _ _ _ _ _ _ nQ dD
      cases ha:args.toList with
      |nil=>simp[ha] at dD
      |cons X l=>
       cases l with
       |nil=>simp[ha] at dD
       |cons Y l=>simp only[ha,bA,cB,eE] at dD;exact⟨t,u,X,Y,nQ,by rw[dD.2.2]⟩
     ·exact h.elim
    have e1:ts=#[t,u]:=dn nQ
    have e2:args.map a.eval=#[a.eval X,a.eval Y]:=by apply dn;simp[hX]
    subst e1
    rw[hX] at h
    obtain⟨s',ob',w',z,v,hK,bM,cK,hZ⟩:=Bd (ty:=o.type) aR h (bH aR X) (bH aR Y)
    refine ey (v':=v) (w':=w') ?_ (hk _ _ _ hK (SE.put cK hd hZ))
    obtain⟨dst,op,type,pos,after,guard⟩:=o
    simp only at ct bM;subst ct
    have hb:∀ cs,builtin .append #[t,u] type cs (args.map a.eval)=(do pure (.value (← Builtin.append_ #[t,u] type (args.map a.eval)))):=fun _=>rfl
    have:execOp a.eval { dst,op:=.call { callee:=.builtin .append,args:=args,argTypes:=#[t,u] },type,pos,after,guard }=(do pure (.value (← Builtin.append_ #[t,u] type (args.map a.eval)))):=by
     simp only[execOp,resolve,invoke,pure_bind]
     exact hb _
    rw[this,e2]
    simp only[aF,bM,ax,bg]
   ·exact gen h
 ·
  rename_i args ts ct
  obtain⟨t,u,X,Y,nQ,hX⟩:∃ t u X Y,ts.toList=[t,u]∧args.toList=[X,Y]:=by
   unfold nm at h
   split at h
   ·rename_i t u _ _ _ _ _ _ nQ dD
    cases ha:args.toList with
    |nil=>simp[ha] at dD
    |cons X l=>
     cases l with
     |nil=>simp[ha] at dD
     |cons Y l=>simp only[ha,bA,cB,eE] at dD;exact⟨t,u,X,Y,nQ,by rw[dD.2.2]⟩
   ·exact h.elim
  have e1:ts=#[t,u]:=dn nQ
  have e2:args.map a.eval=#[a.eval X,a.eval Y]:=by apply dn;simp[hX]
  subst e1
  rw[hX] at h
  obtain⟨s',ob',w',z,v,hK,bM,cK,hZ⟩:=G4 (ty:=o.type) aR h (bH aR X) (bH aR Y)
  refine ey (v':=v) (w':=w') ?_ (hk _ _ _ hK (SE.put cK hd hZ))
  obtain⟨dst,op,type,pos,after,guard⟩:=o
  simp only at ct bM;subst ct
  have hb:∀ cs,builtin .copy #[t,u] type cs (args.map a.eval)=(do pure (.value (← Builtin.copy_ #[t,u] type (args.map a.eval)))):=fun _=>rfl
  have:execOp a.eval { dst,op:=.call { callee:=.builtin .copy,args:=args,argTypes:=#[t,u] },type,pos,after,guard }=(do pure (.value (← Builtin.copy_ #[t,u] type (args.map a.eval)))):=by
   simp only[execOp,resolve,invoke,pure_bind]
   exact hb _
  rw[this,e2]
  simp only[aF,bM,ax,bg]
 ·
  rename_i args ts ct
  obtain⟨t,X,nQ,hX⟩:∃ t X,ts.toList=[t]∧args.toList=[X]:=by
   unfold jm at h
   split at h
   ·rename_i t _ _ _ _ _ nQ dD
    cases ha:args.toList with
    |nil=>simp[ha] at dD
    |cons X l=>simp only[ha,bA,cB,eE] at dD;exact⟨t,X,nQ,by rw[dD.2]⟩
   ·rename_i t _ _ _ _ nQ dD
    cases ha:args.toList with
    |nil=>simp[ha] at dD
    |cons X l=>simp only[ha,bA,cB,eE] at dD;exact⟨t,X,nQ,by rw[dD.2]⟩
   ·exact h.elim
  have e1:ts=#[t]:=dn nQ
  have e2:args.map a.eval=#[a.eval X]:=by apply dn;simp[hX]
  subst e1
  rw[hX] at h
  obtain⟨s',ob',w',hK,bM,cK⟩:=Fj (ty:=o.type) aR h (bH aR X)
  refine ey (v':=.tuple #[]) (w':=w') ?_ (hk _ _ _ hK (SE.put cK hd (x:=.un) (by simp only[LR];exact .un _)))
  obtain⟨dst,op,type,pos,after,guard⟩:=o
  simp only at ct bM;subst ct
  have hb:∀ cs,builtin .clear #[t] type cs (args.map a.eval)=(do pure (.value (← Builtin.clear_ #[t] type (args.map a.eval)))):=fun _=>rfl
  have:execOp a.eval { dst,op:=.call { callee:=.builtin .clear,args:=args,argTypes:=#[t] },type,pos,after,guard }=(do pure (.value (← Builtin.clear_ #[t] type (args.map a.eval)))):=by
   simp only[execOp,resolve,invoke,pure_bind]
   exact hb _
  rw[this,e2]
  simp only[aF,bM,ax,bg]
 ·
  rename_i args ts ct
  split at h
  ·obtain⟨t,X,nQ,hX⟩:∃ t X,ts.toList=[t]∧args.toList=[X]:=by
    unfold GL at h
    split at h
    ·rename_i t _ nQ dD
     cases ha:args.toList with
     |nil=>simp[ha] at dD
     |cons X l=>simp only[ha,bA,cB,eE] at dD;exact⟨t,X,nQ,by rw[dD.2]⟩
    ·exact h.elim
   have e1:ts=#[t]:=dn nQ
   have e2:args.map a.eval=#[a.eval X]:=by apply dn;simp[hX]
   subst e1
   rw[hX] at h
   obtain⟨u,hf,hK,bM⟩:=G1 (ty:=o.type) aR h (bH aR X)
   refine ey (v':=u) (w':=w) ?_ (hk _ _ _ hK (.fin0 aR hd (.ofLit hf)))
   obtain⟨dst,op,type,pos,after,guard⟩:=o
   simp only at ct bM;subst ct
   have hb:∀ cs,builtin .len #[t] type cs (args.map a.eval)=(do pure (.value (← Builtin.len_ #[t] type (args.map a.eval)))):=fun _=>rfl
   have:execOp a.eval { dst,op:=.call { callee:=.builtin .len,args:=args,argTypes:=#[t] },type,pos,after,guard }=(do pure (.value (← Builtin.len_ #[t] type (args.map a.eval)))):=by
    simp only[execOp,resolve,invoke,pure_bind]
    exact hb _
   rw[this,e2]
   simp only[aF,bM,ax,bg]
  ·exact gen h
 ·
  rename_i src dst' X ct
  split at h
  ·obtain⟨s',v,w',hK,u,bM,β',ob',cK,hZ⟩:=Fl aR hd h
   refine ey (v':=u) (w':=w') ?_ (hk _ _ _ hK (SE.put cK hd hZ))
   obtain⟨dst,op,type,pos,after,guard⟩:=o
   simp only at ct bM;subst ct
   simp only[execOp,aF,bM,ax,bg]
  ·exact gen h
 ·
  rename_i op T X Y yT ct
  split at h
  ·rename_i hy
   unfold aba at h
   have fin:∀ c:Value,Y=.const c→(∃ u,flat u=true∧K (s.after tr o (.c (.lit u)))∧(do eqGuard op T X Y (a.eval X) c;binOp op T (a.eval X) c:Sem Value).run P w=.ok u w)→o.wp P a w next Q:=by
    rintro c rfl ⟨u,hf,hz,bM⟩
    refine ey (v':=u) (w':=w) ?_ (hk _ _ _ hz (.fin0 aR hd (.ofLit hf)))
    obtain⟨dst,op',type,pos,after,guard⟩:=o
    simp only at ct;subst ct
    have hx:execOp a.eval { dst,op:=.binOp op T X (.const c) yT,type,pos,after,guard }=(do pure (.value (← (do eqGuard op T X (.const c) (a.eval X) c;binOp op T (a.eval X) c)))):=by
     simp only[execOp];simp[Act.eval]
    rw[hx]
    simp only[aF] at bM ⊢
    rw[bM]
    simp
   cases hp:ES Y with
   |some fn=>
    rw[hp] at h
    have hY:Y=.const (if fn then .nilFunc else .pointer none):=by
     unfold ES at hp
     split at hp
     ·cases hp;rfl
     ·cases hp;rfl
     ·cases hp
    exact fin _ hY (GO (K:=fun v=>K (s.after tr o v)) h (bH aR X) X Y)
   |none=>
    rw[hp] at h
    have hY:Y=.const (.slice none 0 0):=by
     unfold AC at hy
     rw[hp] at hy
     simp only[Option.isSome_none,Bool.or_false] at hy
     unfold QB at hy
     split at hy
     ·rfl
     ·cases hy
    exact fin _ hY (Kc (K:=fun v=>K (s.after tr o v)) h (bH aR X) X Y)
  ·exact gen h
 ·
  rename_i T X ct
  split at h
  ·obtain⟨z,u,hz,hZ,bM⟩:=EY aR h (bH aR X)
   refine ey (v':=u) (w':=w) ?_ (hk _ _ _ hz (SE.put aR hd hZ))
   obtain⟨dst,op',type,pos,after,guard⟩:=o
   simp only at ct;subst ct
   simp only[execOp,aF,bM,ax,bg]
  ·exact gen h.2
 ·
  rename_i T parts ct
  split at h
  ·obtain⟨z,u,hz,hZ,bM⟩:=CU aR h
   refine ey (v':=u) (w':=w) ?_ (hk _ _ _ hz (SE.put aR hd hZ))
   obtain⟨dst,op',type,pos,after,guard⟩:=o
   simp only at ct;subst ct
   simp only[execOp,aF,bM,ax,bg]
  ·exact gen h
 ·
  rename_i T ct
  split at h
  ·have zi:=aR.newMap
   refine ey (v':=.map (some w.heap.size)) (w':=w.alloc (.map #[] 0)) ?_ (hk _ _ _ h (SE.put zi hd ?_))
   ·obtain⟨dst,op',type,pos,after,guard⟩:=o
    simp only at ct;subst ct
    simp[execOp,Instr.makeMap]
   ·simp only[LR];exact⟨w.heap.size,by simp,rfl⟩
  ·exact h.elim
 ·
  rename_i T m k X ct
  obtain⟨s',ob',w',hK,bM,cK⟩:=vO aR h (bH aR m) (bH aR k) (bH aR X)
  unfold Oper.wp
  obtain⟨dst,op',type,pos,after,guard⟩:=o
  simp only at ct;subst ct
  simp only[execOp,aF,bM,ax,bg,Oper.upon]
  exact hk _ _ _ hK (SE.put (v:=undef) (x:=.sk) cK hd (by simp only[LR];exact .sk))
 ·
  rename_i T m k ct
  obtain⟨s',ob',w',z,u,hK,bM,cK,hZ⟩:=Aj aR h (bH aR m) (bH aR k)
  refine ey (v':=u) (w':=w') ?_ (hk _ _ _ hK (SE.put cK hd hZ))
  obtain⟨dst,op',type,pos,after,guard⟩:=o
  simp only at ct;subst ct
  simp only[execOp,aF,bM,ax,bg]
 ·
  rename_i T m k X ct
  obtain⟨s',ob',w',hK,bM,cK⟩:=Ak (P:=P) (T:=T) aR h (bH aR m) (bH aR k) (bH aR X)
  unfold Oper.wp
  obtain⟨dst,op',type,pos,after,guard⟩:=o
  simp only at ct;subst ct
  simp only[execOp,aF,bM,ax,bg,Oper.upon]
  exact hk _ _ _ hK (SE.put (v:=undef) (x:=.sk) cK hd (by simp only[LR];exact .sk))
 ·
  rename_i t ct
  obtain⟨it,z,u,w',hK,bM,dE⟩:=G3 (P:=P) (ty:=o.type) aR hd h
  refine ey (v':=u) (w':=w') ?_ (hk _ _ _ hK dE)
  obtain⟨dst,op',type,pos,after,guard⟩:=o
  simp only at ct;subst ct
  simp only[execOp,Act.eval,aF,bM,ax,bg]
 ·
  rename_i T m k X ct
  obtain⟨s',ob',w',hK,bM,cK⟩:=vO aR h (bH aR m) (bH aR k) (bH aR X)
  unfold Oper.wp
  obtain⟨dst,op',type,pos,after,guard⟩:=o
  simp only at ct;subst ct
  simp only[execOp,aF,bM,ax,bg,Oper.upon]
  exact hk _ _ _ hK (SE.put (v:=undef) (x:=.sk) cK hd (by simp only[LR];exact .sk))
 ·exact gen h
theorem xA (aR:St G n I0 M w0 I β ob s a w) {ops:Array Oper} {j d:Nat} (hd:(ops[j]?).bind (·.dst)=some d) {p:Bool} (h:s.fr d=.c (.lit (.bool p))):yielded ops a.tmps j=some p:=by
 have:=aR.fr d
 rw[h] at this
 have hv:=this.lit
 unfold yielded
 rw[hd]
 simp only[ji]
 rw[aj] at hv
 cases hx:a.tmps[d]? with
 |none=>rw[hx] at hv;cases hv
 |some u=>rw[hx] at hv;simp only[cx] at hv;rw[hv]
theorem Bh (aR:St G n I0 M w0 I β ob s a w) {ops:Array Oper} {j d:Nat} (hd:(ops[j]?).bind (·.dst)=some d) (h:s.fr d=.sk):yielded ops a.tmps j=none:=by
 have:=aR.fr d
 rw[h] at this
 have hv:a.tmps.getD d undef=undef:=by simp only[LR] at this;generalize a.tmps.getD d undef=u at this;cases this;rfl
 unfold yielded
 rw[hd]
 simp only[ji]
 rw[aj] at hv
 cases hx:a.tmps[d]? with
 |none=>rfl
 |some u=>rw[hx] at hv;simp only[cx] at hv;rw[hv];rfl
theorem S.up_id {d:Nat} {x:V} (h:s.fr d=x):{ s with fr:=up s.fr d x }=s:=by
 rw[← h,sB]
theorem mM {ops:Array Oper} {yes no:S→Prop} (aR:St G n I0 M w0 I β ob s a w) (h:nr ops o s yes no) :
 (Region.wanted o (yielded ops a.tmps)=true∧yes s)∨(Region.wanted o (yielded ops a.tmps)=false∧no s):=by
 unfold nr at h
 unfold Region.wanted
 split at h
 ·rename_i hg
  rw[hg];exact .inl ⟨rfl,h⟩
 ·rename_i j want hg
  rw[hg]
  split at h
  ·rename_i d hd
   split at h
   ·rename_i p hp
    simp only[xA aR hd hp]
    by_cases hpw:p=want
    ·subst hpw
     have:=h.1 rfl
     rw[S.up_id hp] at this
     exact .inl ⟨by simp,this⟩
    ·have hpn:p=!want:=by cases p<;>cases want<;>simp_all
     have:=h.2 hpn
     rw[← hpn,S.up_id hp] at this
     exact .inr ⟨by simpa using hpw,this⟩
   ·rename_i hp
    simp only[Bh aR hd hp]
    exact .inr ⟨rfl,h⟩
   ·exact h.elim
  ·exact h.elim
def mf (n:Nat) (ops:Array Oper):Bool:=ops.toList.all fun o=>match o.dst with | some d=>decide (d<n) | none=>true
theorem eX {ops:Array Oper} (h:mf n ops=true) {o:Oper} (ho:o∈ops.toList):∀ d,o.dst=some d→d<n:=fun d hd=>by
 have:=ba.1 h o ho
 rw[hd] at this
 simpa using this
theorem QU {l:Option Nat} {m:Nat} (aR:St G n I0 M w0 I β ob s a w) (hd:∀ d,o.dst=some d→d<n) (oZ:∀ c,o.op≠.defer c) {i blk:Nat} {vs:List Value} {all:List V} {ρ:List Nat} {cargs:List V} {b0:List (List V)} {R:V→List (List V)→Prop}
 (eH:YE P G cargs b0 R) (dD:ArgsL (Wr M w0) I β w vs all) (eF:all.map V.fz=cargs.map (V.ren (rho ρ s.nb))) (hρ:ρ.length=b0.length∧ρ.Nodup) (gC:rb s.bx s.nb (rho ρ s.nb) 0 b0)
 (hhd:ρ.head?=some i) (zh:β i=some blk)
 (bM:(execOp a.eval o).run P w=(Instr.yield blk vs.toArray).run P w)
 (hk:∀ r b1,R r b1→∀ a' w',SE G n I0 M w0 (({ s with bx:=gz (rho ρ s.nb) 0 b1 s.bx,nb:=s.nb+(b1.length - b0.length) }:S).put o.dst (r.ren (rho ρ s.nb))) a' w'→next a' w'):o.wpIn (FW l) m P a w next Q:=by
 obtain⟨hρl,hn⟩:=hρ
 obtain⟨rB,sA,jW⟩:=eH.1
 have hl:∀ i,i<ρ.length→ρ.getD i 0<s.nb:=fun i hi=>by
  obtain⟨b,hb⟩:∃ b,b0[i]?=some b:=⟨_,ae (by omega)⟩
  have:=(pE b0 0 i b gC hb).1
  rw[aX] at this
  simpa[rho,hi] using this
 have qw:=xw hn hl
 have cg:all.length=cargs.length:=by simpa using dK List.length eF
 have tV:0<ρ.length:=by cases ρ with | nil=>cases hhd | cons x r=>simp
 have Qs:rho ρ s.nb 0=i:=by
  unfold rho
  rw[if_pos tV]
  cases ρ with
  |nil=>cases hhd
  |cons x r=>simpa using hhd
 obtain⟨fn,tmps,assign,body,hyr,agh⟩:=eH.2 I ⟨Mof β ob (rho ρ s.nb) b0.length,fun _=>none,[]⟩ w vs.toArray (lH β (rho ρ s.nb) b0.length) (obC ob (rho ρ s.nb) b0.length) blk aR.ibnd aR.glob (aR.give qw gC sA)
  (by unfold lH;rw[if_pos (by omega),Qs];exact zh) (by have:=dD.1;simp;omega) (fun j x hx=>by
   have hj:j<cargs.length:=(ah.1 hx).1
   have hz:all[j]?=some all[j]:=ae (by omega)
   have h1:=dD.2 j _ hz
   have h2:all[j].fz=x.ren (rho ρ s.nb):=by
    have e1:(all.map V.fz)[j]?=some all[j].fz:=by simp[hz]
    have e2:(cargs.map (V.ren (rho ρ s.nb)))[j]?=some (x.ren (rho ρ s.nb)):=by simp[hx]
    rw[eF,e2] at e1
    exact(jK e1).symm
   rw[h2] at h1
   have h3:=h1.ren (β':=lH β (rho ρ s.nb) b0.length) (rB x (aQ hx)) (fun i b hi hb=>by simp[lH,hi,hb])
   have h4:=h3.wider (base':=Wr ⟨Mof β ob (rho ρ s.nb) b0.length,fun _=>none,[]⟩ w) fun b hb=>by cases hb
   simpa using h4)
 refine⟨fun _ _=>trivial,?_⟩
 rw[Oper.semAt_eq _ _ _ oZ,bM,hyr]
 refine⟨fun h=>(by cases h),RoundIn.mono (Kj agh) ?_⟩
 rintro e w' ⟨r,b1,hR,v,I',β',ob',o',rfl,uT,Qe,NN,v7,V6,Qt,ou,hZ,tq⟩
 simp only
 obtain⟨cK,fc,vL,mH,zi,_⟩:=aR.called hρl hn gC (jW r b1 hR) uT Qe NN v7 V6 Qt ou
 refine hk r b1 hR _ _ ?_
 have V4:LR (Wr M w0) I' (pF β β' ρ s.nb) w' o' v (r.ren (rho ρ s.nb)):=(hZ.toRen fc).wider fun b hb=>vL b (tq b hb).1.2
 cases lk:o.dst with
 |none=>exact⟨_,_,_,cK⟩
 |some d=>
  refine⟨_,_,_,cK.put d (hd d lk) V4 fun b hb=>?_⟩
  obtain⟨⟨h1,h2⟩,h3,h4⟩:=tq b hb
  refine⟨⟨h1,vL b h2⟩,fun L hL=>?_,zi b h2 h4⟩
  simp only[upL] at hL
  split at hL
  ·cases hL
  ·exact mH b h2 h3 L hL
theorem Oc {f:Operand} {args:Array Operand} {ts:Array TypeId} {blk:Nat} (ho:o.op=.call { callee:=.value f,args:=args,argTypes:=ts }) (hf:a.eval f=.func (.yield blk) #[] #[]) :
 (execOp a.eval o).run P w=(Instr.yield blk (args.toList.map a.eval).toArray).run P w:=by
 unfold execOp
 have e:(args.toList.map a.eval).toArray=args.map a.eval:=by apply dn;simp
 rw[e]
 simp only[ho,resolve,Deferred.ofValue,hf,aF,bg,ax,invoke]
 simp
theorem Fp {l:Option Nat} {m:Nat} {K:S→V→Prop} {f:Operand} {args:Array Operand} {ts:Array TypeId} (ho:o.op=.call { callee:=.value f,args:=args,argTypes:=ts }) (aR:St G n I0 M w0 I β ob s a w)
 (hd:∀ d,o.dst=some d→d<n) (h:we P G s (ev G s f) (args.toList.map (ev G s)) K) (hk:∀ a' w' s' x,K s' x→SE G n I0 M w0 (s'.put o.dst x) a' w'→next a' w'):o.wpIn (FW l) m P a w next Q:=by
 have hf:=bH aR f
 unfold we at h
 split at h
 ·rename_i i he
  obtain⟨ρ,cargs,b0,R,eH,eF,⟨hρ1,hρ2,hρ3⟩,gC,hK⟩:=h
  rw[he] at hf
  simp only[LR] at hf
  obtain⟨blk,hb,hv⟩:=hf
  exact QU aR hd (fun c hc=>by rw[ho] at hc;cases hc) eH (uY aR _) eF ⟨hρ1,hρ2⟩ gC hρ3 hb (Oc ho hv) (fun r b1 hR a' w'=>hk a' w' _ _ (hK r b1 hR))
 ·exact h.elim
theorem QV {K:S→Prop} (h:VStep P G tr o s K):∀ c,o.op≠.defer c:=fun c hc=>by
 unfold VStep VYK at h
 rw[hc] at h
 exact h
theorem rh {l:Option Nat} {m:Nat} {K:S→Prop} (aR:St G n I0 M w0 I β ob s a w) (hd:∀ d,o.dst=some d→d<n) (h:VStep P G tr o s K)
 (hk:∀ a' w' s',K s'→SE G n I0 M w0 s' a' w'→next a' w'):o.wpIn (FW l) m P a w next Q:=by
 cases hy:qC tr o with
 |false=>exact wx (QV h) (qI (tr:=tr) aR hd hy h hk)
 |true=>
  unfold qC at hy
  split at hy
  ·rename_i f args ts ct
   unfold VStep at h
   rw[ct] at h
   simp only[hy,db] at h
   exact Fp ct aR hd h fun a' w' s' x hK dE=>hk _ _ _ hK dE
  ·cases hy
theorem wy {l:Option Nat} {m:Nat} {ops:Array Oper} (eH:mf n ops=true) {K:S→Prop} (hK:∀ a w s,K s→SE G n I0 M w0 s a w→Q .normal a w):∀ (ls:List Oper) (k:Nat),ops.toList.drop k=ls→∀ (s:S) (a:Act) (w:World),
 im P G tr ops ls s K→SE G n I0 M w0 s a w→wpOpsIn (FW l) m P ops Q (List.range' k ls.length) a w
 |[],k,_,s,a,w,h,dE=>by simp only[aU,List.range'_zero,wpOpsIn];exact hK _ _ _ h dE
 |o::ls,k,hl,s,a,w,h,dE=>by
  have nM:ops[k]?=some o:=by
   have:(ops.toList.drop k)[0]?=some o:=by rw[hl];rfl
   rw[cN] at this
   simpa using this
  have Md:ops.toList.drop (k+1)=ls:=by
   rw[← gb,hl];rfl
  have j8:o∈ops.toList:=cT (i:=k) (by rw[hl];simp)
  obtain⟨I,β,ob,aR⟩:=dE
  simp only[aZ,iA,wpOpsIn,nM]
  simp only[im] at h
  rcases mM aR h with⟨hw,h⟩ | ⟨hw,h⟩
  ·rw[if_pos hw]
   refine rh (tr:=tr) aR (eX eH j8) h fun a' w' s' Dm tZ=>?_
   exact wy eH hK ls (k+1) Md s' a' w' Dm tZ
  ·rw[hw]
   simp only[aY,dm]
   exact⟨fun _ _=>trivial,wy eH hK ls (k+1) Md _ _ w h (SE.put aR (eX eH j8) (by simp only[LR];exact .sk))⟩
theorem PR.ltP {β':Nat→Option Nat} {m:Nat} (h:PR I β w v x) (hx:x.ltP m) (hβ:∀ i,i<m→β' i=β i):PR I β' w v x:=by
 cases x<;>simp only[V.ltP] at hx<;>simp only[PR] at h ⊢<;>try exact h
 ·obtain⟨blk,h1,h2⟩:=h;exact⟨blk,by rw[hβ _ hx];exact h1,h2⟩
 ·obtain⟨h0,blk,o',c',Dj,h1,h2⟩:=h;exact⟨h0,blk,o',c',Dj,by rw[hβ _ hx];exact h1,h2⟩
 ·obtain⟨blk,h1,h2⟩:=h;exact⟨blk,by rw[hβ _ hx];exact h1,h2⟩
 ·obtain⟨blk,h1,h2⟩:=h;exact⟨blk,by rw[hβ _ hx];exact h1,h2⟩
 ·obtain⟨blk,h1,h2⟩:=h;exact⟨blk,by rw[hβ _ hx];exact h1,h2⟩
theorem KR.ltP {β':Nat→Option Nat} {m:Nat} (h:KR I β w v x) (hx:x.ltP m) (hβ:∀ i,i<m→β' i=β i):KR I β' w v x:=by
 rcases h with h | h | h
 ·exact .inl h
 ·exact .inr (.inl h)
 ·exact .inr (.inr (h.ltP hx hβ))
theorem LR.lt {β':Nat→Option Nat} {m:Nat} {ox:Option Nat} (h:LR base I β w ox v x) (hx:x.lt m) (hβ:∀ i,i<m→β' i=β i):LR base I β' w ox v x:=by
 cases x<;>simp only[V.lt] at hx<;>simp only[LR] at h ⊢<;>try exact h
 ·obtain⟨blk,h1,h2⟩:=h;exact⟨blk,by rw[hβ _ hx];exact h1,h2⟩
 ·obtain⟨vf,vc,h1,h2,h3,h4,h5⟩:=h
  exact⟨vf,vc,h1,h2,h3,fun j x hj=>(h4 j x hj).ltP (hx.1 x (aQ hj)) hβ,fun j x hj=>(h5 j x hj).ltP (hx.2 x (aQ hj)) hβ⟩
 ·obtain⟨h0,blk,o',c',Dj,h1,h2⟩:=h;exact⟨h0,blk,o',c',Dj,by rw[hβ _ hx];exact h1,h2⟩
 ·obtain⟨cs,h1,h2,h3⟩:=h
  exact⟨cs,h1,h2,fun j x hj=>(h3 j x hj).ltP (hx x (aQ hj)) hβ⟩
 ·obtain⟨blk,h1,h2⟩:=h;exact⟨blk,by rw[hβ _ hx];exact h1,h2⟩
 ·obtain⟨blk,m,h1,h2,h3,h4⟩:=h;exact⟨blk,m,h1,h2,by rw[hβ _ hx];exact h3,h4⟩
 ·obtain⟨blk,h1,h2⟩:=h;exact⟨blk,by rw[hβ _ hx];exact h1,h2⟩
 ·obtain⟨tm,h1,h2⟩:=h
  exact⟨tm,h1,fun t y hy=>(h2 t y hy).ltP (hx _ hy) hβ⟩
 ·obtain⟨blk,h1,h2⟩:=h;exact⟨blk,by rw[hβ _ hx];exact h1,h2⟩
theorem SE.weaken {s':S} {k:Nat} (h:SE G n I0 M w0 s a w) (xb:∀ i b,M.e i=some b→i<k) (jW:S.Le k s' s):SE G n I0 M w0 s' a w:=by
 obtain⟨I,β,ob,h⟩:=h
 have hβ:∀ i b,(if i<s'.nb then β i else none)=some b→β i=some b:=fun i b hb=>by split at hb;exact hb;cases hb
 let ob':Loc→Option Nat:=fun L=>match L with
  | .t i=>if(s'.fr i).isOw then ob (.t i) else none
  | .b i j=>if i<s'.nb then ob (.b i j) else none
 have jV:∀ L b,ob' L=some b→ob L=some b:=fun L b hL=>by
  cases L with
  |t i=>simp only[ob'] at hL;split at hL;exact hL;cases hL
  |b i j=>simp only[ob'] at hL;split at hL;exact hL;cases hL
 refine⟨I,fun i=>if i<s'.nb then β i else none,ob',{
  size:=h.size,defers:=h.defers,below:=h.below,kept:=h.kept,ilow:=h.ilow,ihigh:=h.ihigh,ibnd:=h.ibnd
  fr:=fun t=>?_
  bx:=fun i hi=>?_
  bnone:=fun i hi=>by rw[if_neg (by omega)]
  ext:=fun i b he=>by rw[if_pos (bZ (xb i b he) jW.ext)];exact h.ext i b he
  bnew:=fun i b hi=>h.bnew i b (hβ i b hi)
  binj:=fun i j b hi hj=>h.binj i j b (hβ _ _ hi) (hβ _ _ hj)
  oinj:=fun L L' b hL yB=>h.oinj L L' b (jV _ _ hL) (jV _ _ yB)
  obx:=fun L b i hL hi=>h.obx L b i (jV _ _ hL) (hβ _ _ hi)
  obnd:=fun L b hL=>h.obnd L b (jV _ _ hL)
  glob:=h.glob }⟩
 ·rcases jW.fr t with e | e
  ·rw[e];simp only[LR];exact .un _
  ·have:=h.fr t
   rw[← e] at this
   have h2:LR (Wr M w0) I β w (ob' (.t t)) (a.tmps.getD t undef) (s'.fr t):=by
    simp only[ob']
    by_cases ho:(s'.fr t).isOw=true
    ·rw[if_pos ho];exact this
    ·rw[if_neg ho];exact this.other (by simpa using ho)
   exact h2.lt (jW.lt t) (fun i hi=>by rw[if_pos hi])
 ·obtain⟨blk,cur,e1,e2,e3,e4,e5,e7⟩:=h.bx i (bZ hi jW.nb)
  refine⟨blk,cur,by rw[if_pos hi];exact e1,e2,by rw[jW.bx i hi];exact e3,by rw[jW.bx i hi];exact e4,fun j=>?_,e7⟩
  have:=e5 j
  rw[← jW.bx i hi] at this
  have bK:((s'.bx i).getD j .un).lt s'.nb:=by
   by_cases hj:j<(s'.bx i).length
   ·have:(s'.bx i).getD j .un=(s'.bx i)[j]:=by simp[List.getD,hj]
    rw[this];exact jW.blt i hi _ (bL hj)
   ·have:(s'.bx i).getD j .un=.un:=by simp[List.getD,bw (en hj)]
    rw[this];exact trivial
  have h2:=this.lt (β':=fun i=>if i<s'.nb then β i else none) bK (fun i hi=>by rw[if_pos hi])
  simpa only[ob',if_pos hi] using h2
theorem W1 {s:S} {m:Nat} {l l':List V} (h:l'.getD 0 .un=l.getD 0 .un∨FzV s m (l'.getD 0 .un) (l.getD 0 .un)):qZ l'=qZ l:=by
 unfold qZ
 rcases h with h | ⟨i,off,len,cap,sz,c,h1,_,_,h2⟩
 ·rw[h]
 ·rw[h1,h2]
theorem SE.freeze {s':S} {k:Nat} (h:SE G n I0 M w0 s a w) (xb:∀ i b,M.e i=some b→i<k) (jW:S.Fz k s' s):SE G n I0 M w0 s' a w:=by
 obtain⟨I,β,ob,h⟩:=h
 have hβ:∀ i b,(if i<s'.nb then β i else none)=some b→β i=some b:=fun i b hb=>by split at hb;exact hb;cases hb
 let ob':Loc→Option Nat:=fun L=>match L with
  | .t i=>if(s'.fr i).isOw then ob (.t i) else none
  | .b i j=>if i<s'.nb then ob (.b i j) else none
 have jV:∀ L b,ob' L=some b→ob L=some b:=fun L b hL=>by
  cases L with
  |t i=>simp only[ob'] at hL;split at hL;exact hL;cases hL
  |b i j=>simp only[ob'] at hL;split at hL;exact hL;cases hL
 let I':Ft:=fun b o=>I b o∨∃ i,s'.nb≤i∧i<s.nb∧β i=some b
 have hII:∀ b o,I b o→I' b o:=fun _ _ h=>.inl h
 have kb:∀ (v:Value) (x:V) (o:Option Nat),(∀ b,o=some b→∃ L,ob L=some b)→LR (Wr M w0) I β w o v x→LR (Wr M w0) I' β w o v x:=fun v x o ho hx=>
  hx.mono (fun b o hb=>⟨.inl hb,rfl⟩) (fun _ _ e=>e) (fun b hb=>⟨rfl,fun o hI=>by
   rcases hI with hI | ⟨i,_,_,hi⟩
   ·exact hI
   ·obtain⟨L,hL⟩:=ho b hb
    exact absurd hi (h.obx L b i hL)⟩)
 have ab2:∀ (v:Value) (x y:V) (o:Option Nat),LR (Wr M w0) I β w o v y→FzV s s'.nb x y→∃ c,x=.c c∧CR I' w v c:=fun v x y o hy hf=>by
  obtain⟨i,off,len,cap,sz,c,rfl,hi,hv,rfl⟩:=hf
  simp only[LR] at hy
  refine⟨c,rfl,E5 h hv hy hII (fun b o hb=>?_)⟩
  have qy:i<s.nb:=by
   unfold mJ Af at hv
   split at hv
   ·rename_i hc
    split at hc
    ·assumption
    ·cases hc
   ·cases hv
  exact .inr ⟨i,hi,qy,hb⟩
 refine⟨I',fun i=>if i<s'.nb then β i else none,ob',{
  size:=h.size,defers:=h.defers,below:=h.below,ilow:=fun b o hb=>.inl (h.ilow b o hb),kept:=h.kept
  ihigh:=fun b o hb=>by
   rcases hb with hb | ⟨i,_,hi,hb⟩
   ·exact h.ihigh b o hb
   ·obtain⟨blk,cur,e1,e2,e3,_⟩:=h.bx i hi
    rw[hb] at e1;cases e1;exact .inr e2
  ibnd:=fun b o hb=>by
   rcases hb with hb | ⟨i,_,hi,hb⟩
   ·exact h.ibnd b o hb
   ·obtain⟨blk,cur,e1,e2,e3,_⟩:=h.bx i hi
    rw[hb] at e1;cases e1
    exact e3.lt
  fr:=fun t=>?_
  bx:=fun i hi=>?_
  bnone:=fun i hi=>by rw[if_neg (by omega)]
  ext:=fun i b he=>by rw[if_pos (bZ (xb i b he) jW.ext)];exact h.ext i b he
  bnew:=fun i b hi=>h.bnew i b (hβ i b hi)
  binj:=fun i j b hi hj=>h.binj i j b (hβ _ _ hi) (hβ _ _ hj)
  oinj:=fun L L' b hL yB=>h.oinj L L' b (jV _ _ hL) (jV _ _ yB)
  obx:=fun L b i hL hi=>h.obx L b i (jV _ _ hL) (hβ _ _ hi)
  obnd:=fun L b hL=>h.obnd L b (jV _ _ hL)
  glob:=fun g cs hg=>(h.glob g cs hg).mono fun b o hb=>⟨.inl hb,rfl⟩ }⟩
 ·rcases jW.fr t with e | e | e
  ·rw[e];simp only[LR];exact .un _
  ·have:=kb _ _ _ (fun b hb=>⟨_,hb⟩) (h.fr t)
   rw[← e] at this
   have h2:LR (Wr M w0) I' β w (ob' (.t t)) (a.tmps.getD t undef) (s'.fr t):=by
    simp only[ob']
    by_cases ho:(s'.fr t).isOw=true
    ·rw[if_pos ho];exact this
    ·rw[if_neg ho];exact this.other (by simpa using ho)
   exact h2.lt (jW.lt t) (fun i hi=>by rw[if_pos hi])
  ·obtain⟨c,hc,iW⟩:=ab2 _ _ _ _ (h.fr t) e
   rw[hc];exact .ofC iW
 ·obtain⟨blk,cur,e1,e2,e3,e4,e5,e7⟩:=h.bx i (bZ hi jW.nb)
  refine⟨blk,cur,by rw[if_pos hi];exact e1,e2,e3.congr (jW.bl i hi) (W1 (jW.bx i hi 0)),by rw[jW.bl i hi];exact e4,fun j=>?_,fun o ho=>?_⟩
  ·rcases jW.bx i hi j with e | e
   ·have:=kb _ _ _ (fun b hb=>⟨_,hb⟩) (e5 j)
    rw[← e] at this
    have bK:((s'.bx i).getD j .un).lt s'.nb:=by
     by_cases hj:j<(s'.bx i).length
     ·have:(s'.bx i).getD j .un=(s'.bx i)[j]:=by simp[List.getD,hj]
      rw[this];exact jW.blt i hi _ (bL hj)
     ·have:(s'.bx i).getD j .un=.un:=by simp[List.getD,bw (en hj)]
      rw[this];exact trivial
    have h2:=this.lt (β':=fun i=>if i<s'.nb then β i else none) bK (fun i hi=>by rw[if_pos hi])
    simpa only[ob',if_pos hi] using h2
   ·obtain⟨c,hc,iW⟩:=ab2 _ _ _ _ (e5 j) e
    rw[hc];exact .ofC iW
  ·rcases ho with ho | ⟨i',sy,_,hb⟩
   ·exact e7 o ho
   ·have:=h.binj i i' blk e1 hb
    omega
