/- Values without memory: boxes: variables that lie in memory. -/
import Derived.Test.YtegbpjodbjhjeaaGreatDoorVlSound10
import Derived.Maps.RangeRun
import Derived.OrdersIn
import Derived.LoopNIn
import Derived.RangeFuncLeaves
import Derived.LoopN
set_option linter.all false
namespace Go.Vl
open Go Go.RowKit
section
variable {P:Program} {G:Gl} {tr:List Nat} {n:Nat} {I0:Ft} {M:Mx} {w0:World} {I:Ft} {β:Nat->Option Nat} {ob:Loc->Option Nat} {s:S} {a:Act} {w:World} {o:Oper}
 {next:Act->World->Prop} {Q:Exit->Act->World->Prop} {base:Nat->Prop} {v:Value} {x y:V}
theorem PR.oneCell {c:V} (h:PR I β w v c):v.oneCell'=true:=by
 cases c<;>simp only[PR] at h
 .exact h.oneCell
 .exact h.2.1.oneCell
 .obtain⟨_,_,rfl⟩:=h;rfl
 .obtain⟨_,_,_,_,_,_,_,rfl⟩:=h;rfl
 .obtain⟨_,_,rfl⟩:=h;rfl
 .obtain⟨_,_,rfl⟩:=h;rfl
 .obtain⟨_,_,rfl⟩:=h;rfl
theorem LR.oneCell {c:V} {ox:Option Nat} (h:LR base I β w ox v c) (hc:c.one=true):v.oneCell'=true/\v.cells=#[v]:=by
 cases c<;>simp only[V.one] at hc<;>try cases hc
 .exact⟨h.toC.oneCell,h.toC.notAgg⟩
 .exact⟨h.1.oneCell,h.1.notAgg⟩
 .obtain⟨_,_,rfl⟩:=h;exact⟨rfl,rfl⟩
 .obtain⟨_,_,rfl,_⟩:=h;exact⟨rfl,rfl⟩
 .obtain⟨_,_,_,_,_,_,_,rfl⟩:=h;exact⟨rfl,rfl⟩
 .obtain⟨_,_,rfl⟩:=h;exact⟨rfl,rfl⟩
 .obtain⟨_,_,rfl⟩:=h;exact⟨rfl,rfl⟩
 .obtain⟨_,_,_,_,_,_,_,_,rfl,_⟩:=h;exact⟨rfl,rfl⟩
theorem LR.gs_one {ox:Option Nat} {g:Option Value} {E:Option (TypeId×Nat)} {es:List (List C)} (h:LR base I β w ox v (.gs g E es)):v.oneCell'=true/\v.cells=#[v]:=by
 rcases h.gsO.2 with⟨_,_,_,_,rfl⟩ | ⟨_,_,_,_,_,_,_,rfl,_⟩<;>exact⟨rfl,rfl⟩
theorem C4 {ox:Option Nat} (h:LR base I β w ox v x) {ds:List V} (hx:x.bcells=some ds):v.cells.size=ds.length/\
 (∀ j,LR base I β w (if j=0/\x.isOw=true then ox else none) (v.cells.getD j undef) (ds.getD j .un))/\(∀ u∈v.cells,u.oneCell'=true):=by
 have one:∀ c:V,c.one=true->x=c->ds=[c]->v.cells.size=ds.length/\
  (∀ j,LR base I β w (if j=0/\x.isOw=true then ox else none) (v.cells.getD j undef) (ds.getD j .un))/\(∀ u∈v.cells,u.oneCell'=true):=by
  rintro c hc rfl rfl;obtain⟨h1,h2⟩:=h.oneCell hc;rw[h2];refine⟨rfl,λj=>?_,by simpa using h1⟩;cases j with
  |zero=>
   show LR base I β w _ v x;by_cases ho:x.isOw=true
   .rw[if_pos ⟨rfl,ho⟩];exact h
   .rw[if_neg (by simp[ho])];exact h.other (by simpa using ho)
  |succ j=>simp only[bg,List.getD_nil,LR];exact .un _
 cases x<;>simp only[V.bcells] at hx<;>try cases hx
 .exact one (.c _) rfl rfl rfl
 .rename_i cs
  obtain⟨vs,rfl,h1,h2⟩:=h.agg;refine⟨by simpa[Value.cells] using h1,λj=>?_,λu hu=>?_⟩
  .rw[if_neg (by simp[V.isOw])]
   simp only[Value.cells];by_cases hj:j<cs.length
   .have:((cs.map V.c).getD j .un)=.c cs[j]:=by simp[List.getD,hj]
    rw[this];exact .ofC (h2 j _ (ak hj))
   .have:((cs.map V.c).getD j .un)=.un:=by simp[List.getD,cE (dY hj)]
    rw[this];simp only[LR];exact .un _
  .obtain⟨j,hj,rfl⟩:=gQ.1 hu
   simp only[Value.cells] at hj;have:=(h2 j _ (ak (by omega))).oneCell;simpa[Value.cells,aF hj,hj] using this
 .exact one (.ow _ _) rfl rfl rfl
 .exact one (.bp _ _) rfl rfl rfl
 .exact one (.clo _ _ _) rfl rfl rfl
 .exact one (.ms _ _ _ _ _) rfl rfl rfl
 .simp only[LR] at h
  obtain⟨cells,rfl,h1,h2⟩:=h;refine⟨by simpa[Value.cells] using h1,λj=>?_,λu hu=>?_⟩
  .rw[if_neg (by simp[V.isOw])]
   simp only[Value.cells];by_cases hj:j<ds.length
   .have:(ds.getD j .un)=ds[j]:=by simp[List.getD,hj]
    rw[this];exact(h2 j _ (ak hj)).toLR
   .have:(ds.getD j .un)=.un:=by simp[List.getD,cE (dY hj)]
    rw[this];simp only[LR];exact .un _
  .obtain⟨j,hj,rfl⟩:=gQ.1 hu
   simp only[Value.cells] at hj;have:=(h2 j _ (ak (by omega))).oneCell;simpa[Value.cells,aF hj,hj] using this
 .exact one (.mr _) rfl rfl rfl
 .exact one (.yl _) rfl rfl rfl
 .exact one (.hh _ _ _) rfl rfl rfl
 .obtain⟨h1,h2⟩:=h.gs_one
  rw[h2];refine⟨rfl,λj=>?_,by simpa using h1⟩;cases j with
  |zero=>rw[if_pos ⟨rfl,rfl⟩];exact h
  |succ j=>simp only[bg,List.getD_nil,LR];exact .un _
 .have hb:=h
  simp only[LR] at hb;obtain⟨blk,e1,rfl⟩:=hb;refine⟨rfl,λj=>?_,by simp[Value.cells,Value.oneCell']⟩;cases j with
  |zero=>rw[if_neg (by simp[V.isOw])];exact h.other rfl
  |succ j=>simp only[bg,List.getD_nil,LR];exact .un _
theorem C5 {ox:Option Nat} (h:LR base I β w ox v x) {ds:List V} (hx:x.bcells=some ds):∀ d∈ds,d.isMk=false:=by
 cases x<;>simp only[V.bcells] at hx<;>try cases hx
 .simp[V.isMk]
 .simp[V.isMk]
 .simp[V.isMk]
 .simp[V.isMk]
 .simp[V.isMk]
 .simp[V.isMk]
 .simp only[LR] at h
  obtain⟨cells,rfl,h1,h2⟩:=h;intro d hd;obtain⟨j,hj,rfl⟩:=eo hd;have:=h2 j _ (ak hj);cases hc:ds[j]<;>first | rfl | (rw[hc] at this;exact this.elim)
 .simp[V.isMk]
 .simp[V.isMk]
 .simp[V.isMk]
 .simp[V.isMk]
 .simp[V.isMk]
theorem My {l:List V} (h:∀ d∈l,d.isMk=false):dE l=false:=by
 cases l with
 |nil=>rfl
 |cons x l=>exact h x (by simp)
theorem Oe {l ds:List V} {k:Nat} (h:dE l=false) (h2:∀ d∈ds,d.isMk=false) (hk:k<=l.length):dE (fW l k ds)=false:=by
 unfold dE fW at *;cases k with
 |succ k=>cases l with
  |nil=>simp at hk
  |cons x l=>simpa using h
 |zero=>cases ds with
  |nil=>simpa using h
  |cons d ds=>exact h2 d (by simp)
theorem St.newBox (h:St G n I0 M w0 I β ob s a w) {cur:Array Value} {T:RT} {cs:List V} {od:Nat->Option Nat} (ej:cs.length<=cur.size) (hT:T.ok cur.size)
 (hc:∀ j,LR (Wr M w0) I β w (od j) (cur.getD j undef) (cs.getD j .un)) (h1:∀ u∈cur,u.oneCell'=true)
 (JF:∀ j b,od j=some b->(b<w.heap.size/\Wr M w0 b)/\(∀ L,ob L≠some b)/\∀ i,β i≠some b) (pZ:∀ j j' b,od j=some b->od j'=some b->j=j') (lV:dE cs=false) :
 St G n I0 M w0 I (up β s.nb (some w.heap.size)) (λL=>match L with | .b i j=>if i=s.nb then od j else ob (.b i j) | L=>ob L)
  { s with bx:=up s.bx s.nb cs,nb:=s.nb+1 } a (w.alloc (.cells cur T.t T.fz)):=by
 have hs:=h.allocOwn (.cells cur T.t T.fz);have hβ:∀ i b,β i=some b->up β s.nb (some w.heap.size) i=some b:=λi b hi=>by
  have:i≠s.nb:=λe=>by rw[h.bnone i (by omega)] at hi;cases hi
  rw[dp _ _ this];exact hi
 have j9:∀ (o':Option Nat),(∀ b,o'=some b->b<w.heap.size)->∀ b,o'=some b->(w.alloc (.cells cur T.t T.fz)).heap[b]?=w.heap[b]?/\∀ k,I b k->I b k:=λo' ho b hb=>
  ⟨fc w _ b (ho b hb),λ_ h=>h⟩
 have hI:∀ b k,I b k->I b k/\(w.alloc (.cells cur T.t T.fz)).cell? ⟨b,k,none⟩=w.cell? ⟨b,k,none⟩:=λb k hb=>⟨hb,eQ (a:=⟨b,k,none⟩) (fc w _ b (h.ibnd b k hb))⟩;have ji:=h.fresh (ai _);exact {
  size:=h.size,defers:=h.defers,below:=hs.below,kept:=hs.kept,ilow:=h.ilow,ihigh:=h.ihigh,ibnd:=hs.ibnd
  fr:=λt=>(h.fr t).mono hI hβ (j9 _ λb hb=>(h.obnd _ b hb).1)
  bx:=λi hi=>by
   by_cases f9:i=s.nb
   .subst f9
    refine⟨w.heap.size,cur,by simp,.inl h.below.size,.of (iw w _) h1 hT (by simpa using lV),by simpa using ej,λj=>?_,λk hk=>?_⟩
    .simp only[cG,bY]
     exact(hc j).mono hI hβ (j9 _ λb hb=>(JF j b hb).1.1)
    .have:=h.ibnd _ _ hk;omega
   .obtain⟨blk,cur',e1,e2,e3,e4,e5,e7⟩:=h.bx i (by simp only at hi;omega)
    have bF:blk<w.heap.size:=e3.lt;refine⟨blk,cur',hβ i blk e1,e2,by simpa only[dp _ _ f9] using e3.mono (fc w _ blk bF),by simpa only[dp _ _ f9] using e4,λj=>?_,e7⟩;simp only[dp _ _ f9,if_neg f9];exact(e5 j).mono hI hβ (j9 _ λb hb=>(h.obnd _ b hb).1)
  bnone:=λi hi=>by simp only at hi;rw[dp _ _ (by omega)];exact h.bnone i (by omega)
  ext:=λi b he=>hβ i b (h.ext i b he)
  bnew:=λi b hi=>by
   by_cases h1:i=s.nb
   .subst h1;rw[cG] at hi;cases hi;exact .inr (.inl h.below.size)
   .rw[dp _ _ h1] at hi;exact h.bnew i b hi
  binj:=λi j b hi hj=>by
   by_cases h1:i=s.nb<;>by_cases h2:j=s.nb
   .rw[h1,h2]
   .subst h1;rw[cG] at hi;cases hi;rw[dp _ _ h2] at hj;exact absurd hj (ji.2 j)
   .subst h2;rw[cG] at hj;cases hj;rw[dp _ _ h1] at hi;exact absurd hi (ji.2 i)
   .rw[dp _ _ h1] at hi;rw[dp _ _ h2] at hj;exact h.binj i j b hi hj
  oinj:=λL L' b hL xX=>by
   have key:∀ L,(match L with | .b i j=>if i=s.nb then od j else ob (.b i j) | L=>ob L)=some b->(∃ j,L=.b s.nb j/\od j=some b)∨ob L=some b:=λL hL=>by
    cases L with
    |t i=>exact .inr hL
    |b i j=>
     simp only at hL;split at hL
     .rename_i e;exact .inl ⟨j,by rw[e],hL⟩
     .exact .inr hL
   rcases key L hL with⟨j,rfl,hj⟩ | h1<;>rcases key L' xX with⟨j',rfl,hj'⟩ | h2
   .rw[pZ j j' b hj hj']
   .exact absurd h2 ((JF j b hj).2.1 L')
   .exact absurd h1 ((JF j' b hj').2.1 L)
   .exact h.oinj L L' b h1 h2
  obx:=λL b i hL hi=>by
   have key:((∃ j,L=.b s.nb j/\od j=some b)∨ob L=some b):=by
    cases L with
    |t i=>exact .inr hL
    |b i' j=>
     simp only at hL;split at hL
     .rename_i e;exact .inl ⟨j,by rw[e],hL⟩
     .exact .inr hL
   by_cases f9:i=s.nb
   .subst f9;rw[cG] at hi;cases hi
    rcases key with⟨j,_,hj⟩ | hj
    .have:=(JF j _ hj).1.1;omega
    .exact ji.1 L hj
   .rw[dp _ _ f9] at hi
    rcases key with⟨j,_,hj⟩ | hj
    .exact(JF j b hj).2.2 i hi
    .exact h.obx L b i hj hi
  obnd:=λL b hL=>by
   have key:((∃ j,L=.b s.nb j/\od j=some b)∨ob L=some b):=by
    cases L with
    |t i=>exact .inr hL
    |b i' j=>
     simp only at hL;split at hL
     .rename_i e;exact .inl ⟨j,by rw[e],hL⟩
     .exact .inr hL
   rw[fF];rcases key with⟨j,_,hj⟩ | hj
   .have:=(JF j b hj).1;exact⟨by omega,this.2⟩
   .have:=h.obnd L b hj;exact⟨by omega,this.2⟩
  glob:=λg cs hg=>(h.glob g cs hg).mono hI }
theorem HB.same {w:World} {blk:Nat} {c1 c2:Array Value} {l:List V} (hm:dE l=false) (h1:HB w blk c1 l) (h2:HB w blk c2 l):c1=c2:=by obtain⟨T1,e1,_⟩:=h1.cells hm;obtain⟨T2,e2,_⟩:=h2.cells hm;rw[e1] at e2;simp only[ap,Obj.cells.injEq] at e2;exact e2.1
theorem St.recell (h:St G n I0 M w0 I β ob s a w) {b k blk:Nat} {x x':V} (hb:b<s.nb) (hk:(s.bx b)[k]?=some x) (hxm:x.isMk=false) (GP:x'.isMk=false) (j9:ob (.b b k)=some blk)
 {w':World} (hg:w.grb w' (some blk)) (eE:∀ o,I blk o->w'.cell? ⟨blk,o,none⟩=w.cell? ⟨blk,o,none⟩) {I':Ft} (h1:∀ b o,I b o->I' b o) (h2:∀ b o,I' b o->I b o∨b=blk)
 (GI:∀ b1 cur,β b=some b1->HB w b1 cur (s.bx b)->LR (Wr M w0) I β w (some blk) (cur.getD k undef) x->LR (Wr M w0) I' β w' (some blk) (cur.getD k undef) x') :
 St G n I0 M w0 I' β ob { s with bx:=up s.bx b ((s.bx b).set k x') } a w':=by
 have GN:=h.obnd _ _ j9;have qu:=h.keeps hg (λr e o ho=>by cases e;exact eE o ho);have hI:∀ b o,I b o->I' b o/\w'.cell? ⟨b,o,none⟩=w.cell? ⟨b,o,none⟩:=λb o hb=>⟨h1 b o hb,qu b o hb⟩;have xQ:∀ c,c≠blk->c<w.heap.size->w'.heap[c]?=w.heap[c]?/\∀ o,I' c o->I c o:=λc hc bF=>by
  refine⟨hg.block c bF (by simpa using hc),λo ho=>?_⟩;rcases h2 c o ho with h5 | h5
  .exact h5
  .exact absurd h5 hc
 have wb:∀ L,L≠.b b k->∀ c,ob L=some c->w'.heap[c]?=w.heap[c]?/\∀ o,I' c o->I c o:=λL hL c hc=>
  xQ c (λe=>hL (h.oinj _ _ blk (e▸hc) j9)) (h.obnd L c hc).1
 have rm:k<(s.bx b).length:=(am.1 hk).1;have qK:(s.bx b).getD k .un=x:=by simp[List.getD,hk]
 exact {
  size:=h.size,defers:=h.defers
  below:=h.below.grown hg (λq e=>by cases e;exact GN.2)
  kept:=λb o h0=>(qu b o (h.ilow b o h0)).trans (h.kept b o h0)
  ilow:=λb o hb=>h1 b o (h.ilow b o hb)
  ihigh:=λb o hb=>by
   rcases h2 b o hb with h3 | h3
   .exact h.ihigh b o h3
   .subst h3;exact .inr GN.2
  ibnd:=λb o hb=>by
   rcases h2 b o hb with h3 | h3
   .exact co (h.ibnd b o h3) hg.size
   .subst h3;exact co GN.1 hg.size
  fr:=λt=>(h.fr t).mono hI (λ_ _ e=>e) (wb (.t t) (by simp))
  bx:=λi hi=>by
   obtain⟨b1,cur,e1,e2,e3,e4,e5,e7⟩:=h.bx i hi;have gu:b1≠blk:=λe=>h.obx _ _ i j9 (e▸e1);obtain⟨q1,q2⟩:=xQ b1 gu e3.lt;by_cases uk:i=b
   .subst uk
    refine⟨b1,cur,e1,e2,?_,by simp only[cG,jx];exact e4,λj=>?_,λo ho=>e7 o (q2 o ho)⟩
    .simp only[cG]
     refine (e3.mono q1).congr (by simp) ?_;by_cases um:k=0
     .subst um
      have g1:((s.bx i).set 0 x').getD 0 .un=x':=(by simp[List.getD,rm]);rw[iz (by unfold dE;rw[g1];exact GP),iz (by unfold dE;rw[qK];exact hxm)]
     .have:((s.bx i).set k x').getD 0 .un=(s.bx i).getD 0 .un:=by simp[List.getD,dz um]
      unfold oq;rw[this]
    .simp only[cG]
     by_cases hjk:j=k
     .subst hjk
      have:((s.bx i).set j x').getD j .un=x':=(by simp[List.getD,rm]);rw[this,j9];have h5:=e5 j;rw[qK,j9] at h5;exact GI b1 cur e1 e3 h5
     .have:((s.bx i).set k x').getD j .un=(s.bx i).getD j .un:=by simp[List.getD,dz (gz hjk)]
      rw[this];exact(e5 j).mono hI (λ_ _ e=>e) (wb (.b i j) (by simp[hjk]))
   .refine⟨b1,cur,e1,e2,by simp only[dp _ _ uk];exact e3.mono q1,by simp only[dp _ _ uk];exact e4,λj=>?_,λo ho=>e7 o (q2 o ho)⟩
    simp only[dp _ _ uk];exact(e5 j).mono hI (λ_ _ e=>e) (wb (.b i j) (by simp[uk]))
  bnone:=h.bnone,ext:=h.ext,bnew:=h.bnew,binj:=h.binj,oinj:=h.oinj,obx:=h.obx
  obnd:=λL c q1=>⟨co (h.obnd L c q1).1 hg.size,(h.obnd L c q1).2⟩
  glob:=λg cs Wn=>(h.glob g cs Wn).mono hI }
theorem wy (w:World) (row:Option Nat):w.grb w row:=⟨rfl,rfl,rfl,ai _,λ_ _ _=>rfl,ai _⟩
theorem St.hotCell (h:St G n I0 M w0 I β ob s a w) {b k:Nat} {g:Option Value} {E:Option (TypeId×Nat)} {es:List (List C)} (hb:b<s.nb) (hk:(s.bx b)[k]?=some (.hh g E es)):∃ blk cur b1,ob (.b b k)=some blk/\β b=some b1/\HB w b1 cur (s.bx b)/\
 LR (Wr M w0) I β w (some blk) (cur.getD k undef) (.hh g E es):=by
 obtain⟨b1,cur,e1,e2,e3,e4,e5,e7⟩:=h.bx b hb;have h5:=e5 k;have qK:(s.bx b).getD k .un=.hh g E es:=by simp[List.getD,hk]
 rw[qK] at h5;obtain⟨_,e,blk,cap,c2,sz,q1,_⟩:=h5.hot;rw[q1] at h5;exact⟨blk,cur,b1,q1,e1,e3,h5⟩
theorem St.name (h:St G n I0 M w0 I β ob s a w) {b k:Nat} {g:Option Value} {E:Option (TypeId×Nat)} {es:List (List C)} (hb:b<s.nb) (lV:dE (s.bx b)=false) (hk:(s.bx b)[k]?=some (.hh g E es)) :
 ∃ blk cap,St G n I0 M w0 I β ob (s.name b k (.slice (some ⟨blk,0,none⟩) es.length cap) E es) a w:=by
 obtain⟨blk,cur,b1,q1,q2,q3,q4⟩:=h.hotCell hb hk;have q4':=q4;obtain⟨_,e,sj,cap,c2,sz,r1,r2,r3,_⟩:=q4.hot;cases r1;refine⟨blk,cap,?_⟩;exact h.recell hb hk rfl rfl q1 (wy w _) (λ_ _=>rfl) (λ_ _ h=>h) (λ_ _ h=>.inl h) λb2 cur2 f1 f2 f3=>by rw[q2] at f1;cases f1;cases q3.same lV f2;exact⟨λu hu=>by cases hu;exact r3,f3.hot.2⟩
theorem abG {es:List (List C)} {sz:Nat} (h:∀ x∈es,x.length=sz):∀ x∈es.map (·.map C.wk),x.length=sz:=λx hx=>by obtain⟨y,hy,rfl⟩:=ce.1 hx;rw[aj];exact h y hy
theorem CR.wk {I:Ft} {w:World} {v:Value} {c:C} (h:CR I w v c):CR I w v c.wk:=by
 cases c with
 |sx es=>exact h.sx_inv.1
 |_=>exact h
theorem W3 {es:List (List C)}:(es.map (·.map C.wk)).flatten=es.flatten.map C.wk:=by
 induction es with
 |nil=>rfl
 |cons x l ih=>simp only[aN,eN,dl,ih]
theorem St.cool (h:St G n I0 M w0 I β ob s a w) {b k:Nat} {g:Option Value} {E:Option (TypeId×Nat)} {es:List (List C)} (hb:b<s.nb) (hk:(s.bx b)[k]?=some (.hh g E es)):SE G n I0 M w0 (s.cool b k E es) a w:=by
 obtain⟨blk,cur,b1,q1,q2,q3,q4⟩:=h.hotCell hb hk;obtain⟨_,e,sj,cap,c2,sz,r1,r2,r3,r4,r5,r6,r7,r8,r9,r10,r11,r12⟩:=q4.hot;cases r1;refine⟨λb' o=>I b' o∨(b'=blk/\o<es.length*sz),β,ob,h.recell hb hk rfl rfl q1 (wy w _) (λ_ _=>rfl) (λ_ _ h=>.inl h) (λb' o h=>?_) λb2 cur2 f1 f2 f3=>?_⟩
 .rcases h with h | h
  .exact .inl h
  .exact .inr h.1
 .obtain⟨_,e',blk2,cap',c3,sz',s1,s2,s3,s4,s5,s6,s7,s8,s9,s10,s11,s12⟩:=f3.hot
  cases s1;rw[r2] at s2;cases s2;rw[r5] at s5;simp only[ap,Obj.cells.injEq] at s5;obtain⟨rfl,_⟩:=s5;rw[s3];have hwl:=abG r9;have nq:(es.map (·.map C.wk)).flatten.length=es.length*sz:=by rw[bZ _ hwl,aj]
  have ka:CR (λb' o=>I b' o∨(b'=blk/\o<es.length*sz)) w (.slice (some ⟨blk,0,none⟩) es.length cap') (.sl (es.map (·.map C.wk))):=by have:=CR.row (I':=λb' o=>I b' o∨(b'=blk/\o<es.length*sz)) (cap:=cap') (es:=es.map (·.map C.wk)) (sz:=sz) r5 (by rw[aj];exact s6) hwl (λq c hq=>by rw[W3,bw,aZ] at hq;obtain⟨c0,hc0,rfl⟩:=hq;have h0:=(am.1 hc0).1;rw[bZ _ r9] at h0;have h1:=bf sz s6;refine⟨by rw[s8];omega,((r10 q c0 hc0).wk).mono λb o h=>⟨.inl h,rfl⟩⟩) (λo ho=>.inr ⟨rfl,by rw[aj] at ho;exact ho⟩);rw[aj] at this;exact this
  simp only[LR];refine⟨ka,.inr ⟨e,blk,cap',c2,sz,rfl,r2,by rw[aj],r4,r5,by rw[aj];exact s6,s7,s8,hwl,λo ho=>?_⟩⟩;rw[aj];rcases ho with ho | ho
  .have h1:=r12 o ho
   exact co h1 (bf _ (Nat.sub_le _ _))
  .exact ho.2
theorem St.setBox (h:St G n I0 M w0 I β ob s a w) {i k blk:Nat} {cur:Array Value} {T:RT} {vs:List Value} {ds:List V} {od:Nat->Option Nat} (hi:i<s.nb) (hβ:β i=some blk)
 (jB:w.heap[blk]?=some (.cells cur T.t T.fz)) (hT:T.ok cur.size) (cH:vs.length=ds.length) (xN:k+ds.length<=(s.bx i).length)
 (hc:∀ j,LR (Wr M w0) I β w (od j) (vs.getD j undef) (ds.getD j .un)) (h1:∀ u∈vs,u.oneCell'=true)
 (JF:∀ j b,od j=some b->(b<w.heap.size/\Wr M w0 b)/\(∀ L,ob L≠some b)/\∀ i,β i≠some b) (pZ:∀ j j' b,od j=some b->od j'=some b->j=j') (lV:dE (s.bx i)=false) (hmd:∀ d∈ds,d.isMk=false) :
 St G n I0 M w0 I β (λL=>match L with | .b i' j=>if i'=i/\k<=j/\j<k+ds.length then od (j - k) else ob (.b i' j) | L=>ob L)
  { s with bx:=up s.bx i (fW (s.bx i) k ds) } a (w.setRow blk (cur.toList.take k++vs++cur.toList.drop (k+vs.length)).toArray):=by
 obtain⟨sj,cur',e1,e2,e3,e4,e5,e7⟩:=h.bx i hi;obtain⟨T',e3,e6⟩:=e3.cells lV;rw[hβ] at e1;cases e1;rw[jB] at e3;simp only[ap,Obj.cells.injEq] at e3;obtain⟨rfl,_,_⟩:=e3;have Ai:blk<w.heap.size:=(bq.1 jB).1;have nr:cur.toList.length=cur.size:=cy;have hg:w.grb (w.setRow blk (cur.toList.take k++vs++cur.toList.drop (k+vs.length)).toArray) (some blk):=
  ⟨rfl,rfl,rfl,by simp,λq _ hq=>lH w blk q _ (λe=>hq (by rw[e])),ai _⟩
 have qu:=h.keeps hg (λr e o ho=>by cases e;exact absurd ho (e7 o));have hI:∀ b q,I b q->I b q/\(w.setRow blk (cur.toList.take k++vs++cur.toList.drop (k+vs.length)).toArray).cell? ⟨b,q,none⟩=w.cell? ⟨b,q,none⟩:=λb q hb=>⟨hb,qu b q hb⟩;have j9:∀ (o':Option Nat),(∀ b,o'=some b->∀ i,β i≠some b)->∀ b,o'=some b->(w.setRow blk (cur.toList.take k++vs++cur.toList.drop (k+vs.length)).toArray).heap[b]?=w.heap[b]?/\∀ q,I b q->I b q:=
  λo' ho b hb=>⟨lH w blk b _ (λe=>ho b hb i (by rw[e];exact hβ)),λ_ h=>h⟩
 have key:∀ L b,(match L with | .b i' j=>if i'=i/\k<=j/\j<k+ds.length then od (j - k) else ob (.b i' j) | L=>ob L)=some b->
  (∃ j,L=.b i (k+j)/\od j=some b)∨ob L=some b:=λL b hL=>by
  cases L with
  |t i=>exact .inr hL
  |b i' j=>
   simp only at hL;split at hL
   .rename_i e;exact .inl ⟨j - k,by rw[e.1];congr 1;omega,hL⟩
   .exact .inr hL
 exact {
  size:=h.size,defers:=h.defers
  below:=h.below.grown hg (λq e=>by cases e;exact e2)
  kept:=λb o h0=>(qu b o (h.ilow b o h0)).trans (h.kept b o h0)
  ilow:=h.ilow,ihigh:=h.ihigh
  ibnd:=λb q hb=>by simpa using h.ibnd b q hb
  fr:=λt=>(h.fr t).mono hI (λ_ _ e=>e) (j9 _ λb hb i=>h.obx _ b i hb)
  bx:=λi' sS=>by
   by_cases hii:i'=i
   .subst hii
    refine⟨blk,_,hβ,e2,.of (setRow_heap w blk cur _ T.t _ jB) (λu hu=>?_) ?_ (by simpa only[cG] using Oe lV hmd (by omega)),?_,λj=>?_,e7⟩
    rotate_left
    .have:(cur.toList.take k++vs++cur.toList.drop (k+vs.length)).toArray.size=cur.size:=by simp only[ft,aB,bb,dh,nr];omega
     rw[this];exact hT
    .simp only[cG,fW,ft,aB,bb,dh,nr];omega
    .have ahd:((cur.toList.take k++vs++cur.toList.drop (k+vs.length)).toArray.getD j undef)=if k<=j/\j<k+ds.length then vs.getD (j - k) undef else cur.getD j undef:=by
      rw[au,du];have JA:(cur.toList.take k).length=k:=(by rw[bb,nr];omega);by_cases ha:j<k
      .rw[if_neg (by omega),bU,aM (by omega),cN,if_pos ha,aY,<- au]
      .by_cases hb:j<k+ds.length
       .rw[if_pos ⟨by omega,hb⟩,bU,aU (by omega),JA,aM (by omega),aG]
       .rw[if_neg (by omega),aU (by rw[aB,JA];omega),cn,aB,JA,aY,
         show k+vs.length+(j - (k+vs.length))=j by omega,<- au]
     have ahe:(fW (s.bx i') k ds).getD j .un=if k<=j/\j<k+ds.length then ds.getD (j - k) .un else(s.bx i').getD j .un:=by
      unfold fW;rw[aG];have JA:((s.bx i').take k).length=k:=(by rw[bb];omega);by_cases ha:j<k
      .rw[if_neg (by omega),bU,aM (by omega),cN,if_pos ha,<- aG]
      .by_cases hb:j<k+ds.length
       .rw[if_pos ⟨by omega,hb⟩,bU,aU (by omega),JA,aM (by omega),aG]
       .rw[if_neg (by omega),aU (by rw[aB,JA];omega),cn,aB,JA,
         show k+ds.length+(j - (k+ds.length))=j by omega,<- aG]
     simp only[cG];rw[ahd,ahe];by_cases f9:k<=j/\j<k+ds.length
     .rw[if_pos f9,if_pos f9,if_pos ⟨trivial,f9⟩]
      exact(hc (j - k)).mono hI (λ_ _ e=>e) (j9 _ λb hb=>(JF _ b hb).2.2)
     .rw[if_neg f9,if_neg f9,if_neg (λe=>f9 e.2)]
      exact(e5 j).mono hI (λ_ _ e=>e) (j9 _ λb hb i=>h.obx _ b i hb)
    .simp only[gj,bh] at hu
     rcases hu with(hu | hu) | hu
     .exact e6.1 u (by simpa using cX hu)
     .exact h1 u hu
     .exact e6.1 u (by simpa using cY hu)
   .obtain⟨b2,c2,q1,q2,q3,q4,q5,q7⟩:=h.bx i' sS
    have gu:b2≠blk:=λe=>hii (h.binj i' i blk (by rw[<- e];exact q1) hβ);refine⟨b2,c2,q1,q2,by simpa only[dp _ _ hii] using q3.mono (lH w blk b2 _ gu),by simpa only[dp _ _ hii] using q4,λj=>?_,q7⟩;simp only[dp _ _ hii];rw[if_neg (λe=>hii e.1)];exact(q5 j).mono hI (λ_ _ e=>e) (j9 _ λb hb i=>h.obx _ b i hb)
  bnone:=h.bnone,ext:=h.ext,bnew:=h.bnew,binj:=h.binj
  oinj:=λL L' b hL xX=>by
   rcases key L b hL with⟨j,rfl,hj⟩ | h1<;>rcases key L' b xX with⟨j',rfl,hj'⟩ | h2
   .rw[pZ j j' b hj hj']
   .exact absurd h2 ((JF j b hj).2.1 L')
   .exact absurd h1 ((JF j' b hj').2.1 L)
   .exact h.oinj L L' b h1 h2
  obx:=λL b q hL=>by
   rcases key L b hL with⟨j,_,hj⟩ | hj
   .exact(JF j b hj).2.2 q
   .exact h.obx L b q hj
  obnd:=λL b hL=>by
   rw[size_setRow];rcases key L b hL with⟨j,_,hj⟩ | hj
   .exact(JF j b hj).1
   .exact h.obnd L b hj
  glob:=λg cs Wn=>(h.glob g cs Wn).mono hI }
theorem St.boxblk (hst:St G n I0 M w0 I β ob s a w) {i b:Nat} (h:β i=some b):i<s.nb/\Wr M w0 b/\b<w.heap.size:=by
 by_cases hi:i<s.nb
 .obtain⟨blk,cur,e1,e2,e3,_⟩:=hst.bx i hi
  rw[h] at e1;cases e1;exact⟨hi,e2,e3.lt⟩
 .rw[hst.bnone i (by omega)] at h;cases h
end
section
variable {P:Program} {G:Gl} {tr:List Nat} {n:Nat} {I0:Ft} {M:Mx} {w0:World} {I:Ft} {β:Nat->Option Nat} {ob:Loc->Option Nat} {s:S} {a:Act} {w:World} {o:Oper}
 {next:Act->World->Prop} {Q:Exit->Act->World->Prop} {base:Nat->Prop} {v:Value} {x y:V}
def World.putObj (w:World) (r:Nat) (o:Obj):World:={ w with heap:=w.heap.setIfInBounds r o }
theorem nU {r:Nat} {o:Obj} (h:r<w.heap.size):(World.putObj w r o).heap[r]?=some o:=by simp[World.putObj,h]
theorem oR {r q:Nat} {o:Obj} (h:q≠r):(World.putObj w r o).heap[q]?=w.heap[q]?:=by simp[World.putObj,gz h]
theorem putObj_size {r:Nat} {o:Obj}:(World.putObj w r o).heap.size=w.heap.size:=by simp[World.putObj]
theorem rC (r:Nat) (o:Obj):w.grb (World.putObj w r o) (some r):=
 ⟨rfl,rfl,rfl,by simp[World.putObj],λq _ hq=>oR (λe=>hq (by rw[e])),ai _⟩
theorem St.reBox (h:St G n I0 M w0 I β ob s a w) {i blk:Nat} {o:Obj} {cur:Array Value} {l:List V} (hi:i<s.nb) (hβ:β i=some blk)
 (hHB:HB (World.putObj w blk o) blk cur l) (hl:l.length<=cur.size) {od:Nat->Option Nat} (hc:∀ j,LR (Wr M w0) I β w (od j) (cur.getD j undef) (l.getD j .un))
 (JF:∀ j b,od j=some b->ob (.b i j)=some b) :
 St G n I0 M w0 I β (λL=>match L with | .b i' j=>if i'=i then od j else ob (.b i' j) | L=>ob L) { s with bx:=up s.bx i l } a (World.putObj w blk o):=by
 obtain⟨sj,cur',e1,e2,e3,e4,e5,e7⟩:=h.bx i hi;rw[hβ] at e1;cases e1;have Ai:blk<w.heap.size:=e3.lt;have hg:=rC (w:=w) blk o;have qu:=h.keeps hg (λr e o ho=>by cases e;exact absurd ho (e7 o));have hI:∀ b q,I b q->I b q/\(World.putObj w blk o).cell? ⟨b,q,none⟩=w.cell? ⟨b,q,none⟩:=λb q hb=>⟨hb,qu b q hb⟩;have j9:∀ (o':Option Nat),(∀ b,o'=some b->∀ i,β i≠some b)->∀ b,o'=some b->(World.putObj w blk o).heap[b]?=w.heap[b]?/\∀ q,I b q->I b q:=
  λo' ho b hb=>⟨oR (λe=>ho b hb i (by rw[e];exact hβ)),λ_ h=>h⟩
 have key:∀ L b,(match L with | .b i' j=>if i'=i then od j else ob (.b i' j) | L=>ob L)=some b->ob L=some b:=λL b hL=>by
  cases L with
  |t i=>exact hL
  |b i' j=>
   simp only at hL;split at hL
   .rename_i e;rw[e];exact JF j b hL
   .exact hL
 exact {
  size:=h.size,defers:=h.defers
  below:=h.below.grown hg (λq e=>by cases e;exact e2)
  kept:=λb o h0=>(qu b o (h.ilow b o h0)).trans (h.kept b o h0)
  ilow:=h.ilow,ihigh:=h.ihigh
  ibnd:=λb q hb=>by rw[putObj_size];exact h.ibnd b q hb
  fr:=λt=>(h.fr t).mono hI (λ_ _ e=>e) (j9 _ λb hb i=>h.obx _ b i hb)
  bx:=λi' sS=>by
   by_cases hii:i'=i
   .subst hii
    refine⟨blk,cur,hβ,e2,by simpa only[cG] using hHB,by simpa only[cG] using hl,λj=>?_,e7⟩;simp only[cG,bY];exact(hc j).mono hI (λ_ _ e=>e) (j9 _ λb hb q=>h.obx _ b q (JF j b hb))
   .obtain⟨b2,c2,q1,q2,q3,q4,q5,q7⟩:=h.bx i' sS
    have gu:b2≠blk:=λe=>hii (h.binj i' i blk (by rw[<- e];exact q1) hβ);refine⟨b2,c2,q1,q2,by simpa only[dp _ _ hii] using q3.mono (oR gu),by simpa only[dp _ _ hii] using q4,λj=>?_,q7⟩;simp only[dp _ _ hii,if_neg hii];exact(q5 j).mono hI (λ_ _ e=>e) (j9 _ λb hb i=>h.obx _ b i hb)
  bnone:=h.bnone,ext:=h.ext,bnew:=h.bnew,binj:=h.binj
  oinj:=λL L' b hL xX=>h.oinj L L' b (key L b hL) (key L' b xX)
  obx:=λL b q hL=>h.obx L b q (key L b hL)
  obnd:=λL b hL=>by rw[putObj_size];exact h.obnd L b (key L b hL)
  glob:=λg cs Wn=>(h.glob g cs Wn).mono hI }
theorem Of {es:List MapEntry} {r:List V} {bs:List Nat} {cl:Nat} {od:Nat->Option Nat} (hr:r.length=2*es.length)
 (h:∀ (j:Nat) (e:MapEntry),es[j]?=some e->LR base I β w (od (2*j+1)) e.key (r.getD (2*j) .un)/\LR base I β w (od (2*j+2)) e.val (r.getD (2*j+1) .un)) (j:Nat) :
 LR base I β w (od j) ((undef::kY es).toArray.getD j undef) ((V.mk bs cl::r).getD j .un):=by
 have hg:∀ q,(undef::kY es).toArray.getD (q+1) undef=((kY es)[q]?).getD undef:=λq=>by simp
 cases j with
 |zero=>simp[LR]
 |succ q=>
  rw[hg];simp only[bg];by_cases hq:q<r.length
  .have bF:q / 2<es.length:=by omega
   obtain⟨l1,l2⟩:=h (q / 2) _ (ak bF);obtain⟨c1,c2⟩:=rA es (q / 2) _ (ak bF);rcases Nat.mod_two_eq_zero_or_one q with hm | hm
   .have e:2*(q / 2)=q:=by omega
    rw[e] at l1 c1;rw[c1];exact l1
   .have e:2*(q / 2)+1=q:=by omega
    rw[show 2*(q / 2)+2=2*(q / 2)+1+1 by omega,e] at l2;rw[e] at c2;rw[c2];exact l2
  .have:r.getD q .un=.un:=by simp[List.getD,cE (dY hq)]
   rw[this];simp only[LR];exact .un _
theorem St.reMap (h:St G n I0 M w0 I β ob s a w) {i cl blk:Nat} {bs:List Nat} {r:List V} {es:Array MapEntry} (hm:Ri P I M w0 β ob s w i bs cl r blk es) {es':Array MapEntry} {cl':Nat} {bs':List Nat} {r':List V}
 (hb:es'.toList.map (·.born)=bs') (hr:r'.length=2*bs'.length) {od:Nat->Option Nat} (JF:∀ j b,od j=some b->ob (.b i j)=some b)
 (ajL:∀ (j:Nat) (e:MapEntry),es'.toList[j]?=some e->LR (Wr M w0) I β w (od (2*j+1)) e.key (r'.getD (2*j) .un)/\LR (Wr M w0) I β w (od (2*j+2)) e.val (r'.getD (2*j+1) .un)) :
 ∃ ob',St G n I0 M w0 I β ob' { s with bx:=up s.bx i (.mk bs' cl'::r') } a (World.putObj w blk (.map es' cl')):=by
 have bF:blk<w.heap.size:=(bq.1 hm.heap).1;have cH:es'.toList.length=bs'.length:=by rw[<- hb,aj]
 refine⟨_,h.reBox (cur:=(undef::kY es'.toList).toArray) (od:=od) hm.lt hm.bt ?_ ?_ (λj=>Of (by omega) ajL j) JF⟩
 .unfold HB
  have:oq (V.mk bs' cl'::r')=some (.mp bs' cl'):=rfl;rw[this];exact⟨es',nU bF,hb,rfl,by simp[hr];omega⟩
 .simp[wx,cH,hr]
theorem tg {l:List V} {i j:Nat} {x:V} (h:i≠j):(l.set i x).getD j .un=l.getD j .un:=by simp[List.getD,List.getElem?_set,h]
theorem Cu {l:List V} {i:Nat} {x:V} (h:i<l.length):(l.set i x).getD i .un=x:=by simp[List.getD,h]
theorem St.newMap (h:St G n I0 M w0 I β ob s a w) :
 St G n I0 M w0 I (up β s.nb (some w.heap.size)) (λL=>match L with | .b i j=>if i=s.nb then none else ob (.b i j) | L=>ob L)
  { s with bx:=up s.bx s.nb [.mk [] 0],nb:=s.nb+1 } a (w.alloc (.map #[] 0)):=by
 have hs:=h.allocOwn (.map #[] 0);have hβ:∀ i b,β i=some b->up β s.nb (some w.heap.size) i=some b:=λi b hi=>by
  have:i≠s.nb:=λe=>by rw[h.bnone i (by omega)] at hi;cases hi
  rw[dp _ _ this];exact hi
 have j9:∀ (o':Option Nat),(∀ b,o'=some b->b<w.heap.size)->∀ b,o'=some b->(w.alloc (.map #[] 0)).heap[b]?=w.heap[b]?/\∀ k,I b k->I b k:=λo' ho b hb=>
  ⟨fc w _ b (ho b hb),λ_ h=>h⟩
 have hI:∀ b k,I b k->I b k/\(w.alloc (.map #[] 0)).cell? ⟨b,k,none⟩=w.cell? ⟨b,k,none⟩:=λb k hb=>⟨hb,eQ (a:=⟨b,k,none⟩) (fc w _ b (h.ibnd b k hb))⟩;have ji:=h.fresh (ai _);have key:∀ L b,(match L with | .b i j=>if i=s.nb then none else ob (.b i j) | L=>ob L)=some b->ob L=some b:=λL b hL=>by
  cases L with
  |t i=>exact hL
  |b i j=>
   simp only at hL;split at hL
   .cases hL
   .exact hL
 exact {
  size:=h.size,defers:=h.defers,below:=hs.below,kept:=hs.kept,ilow:=h.ilow,ihigh:=h.ihigh,ibnd:=hs.ibnd
  fr:=λt=>(h.fr t).mono hI hβ (j9 _ λb hb=>(h.obnd _ b hb).1)
  bx:=λi hi=>by
   by_cases f9:i=s.nb
   .subst f9
    refine⟨w.heap.size,#[undef],by simp,.inl h.below.size,?_,by simp,λj=>?_,λk hk=>?_⟩
    .simp only[cG]
     exact⟨#[],iw w _,rfl,rfl,rfl⟩
    .simp only[cG,bY]
     cases j with
     |zero=>simp[LR]
     |succ j=>simp only[bg,List.getD_nil,LR];exact .un _
    .have:=h.ibnd _ _ hk;omega
   .obtain⟨blk,cur',e1,e2,e3,e4,e5,e7⟩:=h.bx i (by simp only at hi;omega)
    have bF:blk<w.heap.size:=e3.lt;refine⟨blk,cur',hβ i blk e1,e2,by simpa only[dp _ _ f9] using e3.mono (fc w _ blk bF),by simpa only[dp _ _ f9] using e4,λj=>?_,e7⟩;simp only[dp _ _ f9,if_neg f9];exact(e5 j).mono hI hβ (j9 _ λb hb=>(h.obnd _ b hb).1)
  bnone:=λi hi=>by simp only at hi;rw[dp _ _ (by omega)];exact h.bnone i (by omega)
  ext:=λi b he=>hβ i b (h.ext i b he)
  bnew:=λi b hi=>by
   by_cases h1:i=s.nb
   .subst h1;rw[cG] at hi;cases hi;exact .inr (.inl h.below.size)
   .rw[dp _ _ h1] at hi;exact h.bnew i b hi
  binj:=λi j b hi hj=>by
   by_cases h1:i=s.nb<;>by_cases h2:j=s.nb
   .rw[h1,h2]
   .subst h1;rw[cG] at hi;cases hi;rw[dp _ _ h2] at hj;exact absurd hj (ji.2 j)
   .subst h2;rw[cG] at hj;cases hj;rw[dp _ _ h1] at hi;exact absurd hi (ji.2 i)
   .rw[dp _ _ h1] at hi;rw[dp _ _ h2] at hj;exact h.binj i j b hi hj
  oinj:=λL L' b hL xX=>h.oinj L L' b (key L b hL) (key L' b xX)
  obx:=λL b i hL hi=>by
   by_cases f9:i=s.nb
   .subst f9;rw[cG] at hi;cases hi
    exact ji.1 L (key L _ hL)
   .rw[dp _ _ f9] at hi
    exact h.obx L b i (key L b hL) hi
  obnd:=λL b hL=>by rw[fF];have:=h.obnd L b (key L b hL);exact⟨by omega,this.2⟩
  glob:=λg cs hg=>(h.glob g cs hg).mono hI }
theorem C6 (hst:St G n I0 M w0 I β ob s a w) {i cl blk j:Nat} {bs:List Nat} {r:List V} {es:Array MapEntry} (hm:Ri P I M w0 β ob s w i bs cl r blk es) {e:MapEntry} (he:es.toList[j]?=some e)
 {vv:Value} (hv:LR (Wr M w0) I β w none vv y) {f:MapEntry->MapEntry} (hf:f e={ e with val:=vv }) :
 ∃ ob',St G n I0 M w0 I β ob' { s with bx:=up s.bx i (.mk bs cl::r.set (2*j+1) y) } a (World.putObj w blk (.map (es.modify j f) cl)):=by
 have hj:j<es.toList.length:=(am.1 he).1;have hbl:es.toList.length=bs.length:=by rw[<- hm.born,aj]
 have ng:∀ q,(es.modify j f).toList[q]?=if q=j then some { e with val:=vv } else es.toList[q]?:=λq=>by
  rw[Array.toList_modify,List.getElem?_modify];by_cases hq:j=q
  .subst hq;simp[he,hf]
  .simp[hq,gz hq]
 refine hst.reMap hm (es':=es.modify j f) (bs':=bs) (cl':=cl) (od:=λq=>if q=2*j+2 then none else ob (.b i q)) ?_ (by rw[jx];exact hm.len) (λq b hq=>by split at hq;cases hq;exact hq) λq e' hq=>?_
 .rw[<- hm.born]
  apply iL;intro q;rw[bw,bw,ng];by_cases hq:q=j
  .subst hq;simp only[bY,he,bQ]
  .rw[if_neg hq]
 .rw[ng] at hq
  by_cases hqj:q=j
  .subst hqj
   simp only[bY,ap] at hq;subst hq;obtain⟨l1,_⟩:=hm.ent q e he;refine⟨?_,?_⟩
   .rw[tg (by omega),if_neg (by omega)];exact l1
   .rw[Cu (by have:=hm.len;omega),if_pos rfl];exact hv
  .rw[if_neg hqj] at hq
   obtain⟨l1,l2⟩:=hm.ent q e' hq;refine⟨?_,?_⟩
   .rw[tg (by omega),if_neg (by omega)];exact l1
   .rw[tg (by omega),if_neg (by omega)];exact l2
theorem AU (hst:St G n I0 M w0 I β ob s a w) {i cl blk:Nat} {bs:List Nat} {r:List V} {es:Array MapEntry} (hm:Ri P I M w0 β ob s w i bs cl r blk es)
 {vk vv:Value} (hk:LR (Wr M w0) I β w none vk x) (hv:LR (Wr M w0) I β w none vv y) :
 ∃ ob',St G n I0 M w0 I β ob' { s with bx:=up s.bx i (.mk (bs++[cl]) (cl+1)::(r++[x,y])) } a (World.putObj w blk (.map (es.push { key:=vk,val:=vv,born:=cl }) (cl+1))):=by
 have hbl:es.toList.length=bs.length:=by rw[<- hm.born,aj]
 have cH:=hm.len;refine hst.reMap hm (es':=es.push { key:=vk,val:=vv,born:=cl }) (bs':=bs++[cl]) (cl':=cl+1) (od:=λq=>if q<1+r.length then ob (.b i q) else none) (by simp[hm.born]) (by simp[cH];omega)
  (λq b hq=>by split at hq;exact hq;cases hq) λq e' hq=>?_
 rw[Array.toList_push] at hq;by_cases hqj:q<es.toList.length
 .rw[aM hqj] at hq
  obtain⟨l1,l2⟩:=hm.ent q e' hq;have g:∀ p,p<r.length->(r++[x,y]).getD p .un=r.getD p .un:=λp hp=>by simp[List.getD,aM hp]
  refine⟨?_,?_⟩
  .rw[g _ (by omega),if_pos (by omega)];exact l1
  .rw[g _ (by omega),if_pos (by omega)];exact l2
 .rw[aU (by omega)] at hq
  have hq0:q - es.toList.length=0:=by have:=(am.1 hq).1;simp at this;omega
  rw[hq0] at hq;simp only[bJ,ap] at hq;subst hq;have e1:2*q=r.length:=by omega
  refine⟨?_,?_⟩
  .rw[if_neg (by omega),e1]
   have:(r++[x,y]).getD r.length .un=x:=(by simp[List.getD]);rw[this];exact hk
  .rw[if_neg (by omega),e1]
   have:(r++[x,y]).getD (r.length+1) .un=y:=(by simp[List.getD]);rw[this];exact hv
theorem afo {I:Ft} {w:World} {u1 u2:Value} {d1 d2:V} (h1:DR I w u1 d1) (h2:DR I w u2 d2):DR I w (.tuple #[u1,u2]) (.tup [d1,d2]):=by
 refine .tup _ _ rfl λq d hd=>?_
 match q with
 |0=>simp at hd;subst hd;exact h1
 |1=>simp at hd;subst hd;exact h2
 |q+2=>simp at hd
theorem u7 {T:TypeId} {k z:V} {K:S->Prop} {vx vk vv:Value} {ox oy oz:Option Nat} (hst:St G n I0 M w0 I β ob s a w) (h:iC P T s x k z K)
 (hx:LR (Wr M w0) I β w ox vx x) (hy:LR (Wr M w0) I β w oy vk k) (hz:LR (Wr M w0) I β w oz vv z) :
 ∃ s' ob' w',K s'/\(Instr.mapUpdate T vx vk vv).run P w=.ok () w'/\St G n I0 M w0 I β ob' s' a w':=by
 unfold iC at h;obtain⟨i,bs,cl,r,res,z0,blk,kt,et,es,zv,hK,rfl,rfl,hm,hu,pS,JQ,xO,Z6,hz2⟩:=rB hst h hx hy;have hg:=fG (P:=P) hm.heap;cases res with
 |some j=>
  obtain⟨e,he,GM,WA⟩:=xO j rfl;simp only[bQ,he,ba] at JQ;obtain⟨ob',bP⟩:=C6 hst hm he (hz.fz none) (f:=λe=>{ e with key:=vk,val:=vv }) (by rw[GM])
  have he':es[j]?=some e:=by rw[<- aY];exact he
  refine⟨_,ob',_,hK,?_,bP⟩;simp[Instr.mapUpdate,aV hu,hg,pS,JQ,he',WA,i7 _ hm.heap,Result.andThen,World.putObj]
 |none=>simp only[jw] at JQ;obtain⟨ob',bP⟩:=AU hst hm (hy.fz none) (hz.fz none);refine⟨_,ob',_,hK,?_,bP⟩;simp[Instr.mapUpdate,aV hu,hg,pS,JQ,i7 _ hm.heap,Result.andThen,World.putObj]
theorem zU {T:TypeId} {k:V} {K:S->V->Prop} {vx vk:Value} {ox oy:Option Nat} (hst:St G n I0 M w0 I β ob s a w) (h:ga P T s x k K)
 (hx:LR (Wr M w0) I β w ox vx x) (hy:LR (Wr M w0) I β w oy vk k) :
 ∃ s' ob' w' z u,K s' z/\(Instr.mapEntry T vx vk).run P w=.ok u w'/\St G n I0 M w0 I β ob' s' a w'/\LR (Wr M w0) I β w' none u z:=by
 unfold ga at h;obtain⟨i,bs,cl,r,res,z0,blk,kt,et,es,zv,hK,rfl,rfl,hm,hu,pS,JQ,xO,Z6,hz2⟩:=rB hst h hx hy;have hg:=fG (P:=P) hm.heap;have hI:∀ (o':Obj) b o,I b o->I b o/\(World.putObj w blk o').cell? ⟨b,o,none⟩=w.cell? ⟨b,o,none⟩:=λo' b o hb=>
  ⟨hb,hst.keeps (rC blk o') (λr e o ho=>by cases e;exact absurd ho (hm.fr o)) b o hb⟩
 cases res with
 |some j=>
  obtain⟨e,he,GM,WA⟩:=xO j rfl;simp only[bQ,he,ba] at JQ;obtain⟨l1,l2⟩:=hm.ent j e he;have he':es[j]?=some e:=by rw[<- aY];exact he
  have hbj:bs.getD j 0=e.born:=by rw[<- hm.born];simp[List.getD,he]
  have hr:(r.set (2*j+1) (r.getD (2*j+1) .un))=r:=by
   apply iL;intro q;rw[List.getElem?_set];split
   .rename_i e;subst e
    split
    .rename_i hl;simp[List.getD,hl]
    .rename_i hl;rw[cE (by omega)]
   .rfl
  have pU:up s.bx i (V.mk bs cl::r)=s.bx:=by rw[<- hm.bx];exact qa _ _
  have bP:∃ ob',St G n I0 M w0 I β ob' s a (World.putObj w blk (.map (es.modify j λe=>{ e with key:=vk }) cl)):=by
   have ng:∀ q,(es.modify j λe=>{ e with key:=vk }).toList[q]?=es.toList[q]?:=λq=>by
    rw[Array.toList_modify,List.getElem?_modify];by_cases hq:j=q
    .subst hq;rw[he,<- GM];simp
    .cases es.toList[q]?<;>simp[hq]
   have hl:(es.modify j λe=>{ e with key:=vk })=es:=dt (iL ng)
   rw[hl];obtain⟨ob',h'⟩:=hst.reMap hm (es':=es) (bs':=bs) (cl':=cl) (r':=r) (od:=λq=>ob (.b i q)) hm.born hm.len (λ_ _ h=>h) hm.ent;rw[pU] at h';exact⟨ob',h'⟩
  obtain⟨ob',bP⟩:=bP;refine⟨s,ob',_,_,.tuple #[e.val,.int .i64 e.born],hK,?_,bP,?_⟩
  .simp[Instr.mapEntry,aV hu,hg,pS,JQ,he',WA,i7 _ hm.heap,Result.andThen,World.putObj,goInt]
  .simp only[LR]
   rw[hbj];exact(afo (y6 l2) (.c _ _ (.lit _ rfl))).mono (hI _)
 |none=>
  simp only[jw] at JQ;obtain⟨ob',bP⟩:=AU hst hm (hy.fz none) hz2;refine⟨_,ob',_,_,.tuple #[zv,.int .i64 cl],hK,?_,bP,?_⟩
  .simp[Instr.mapEntry,aV hu,hg,pS,JQ,Z6,i7 _ hm.heap,Result.andThen,World.putObj,goInt]
  .simp only[LR]
   exact(afo (y6 hz2) (.c _ _ (.lit _ rfl))).mono (hI _)
theorem Ka {es:List MapEntry} {m:Int} {j:Nat} (h:(es.map (·.born)).findIdx? (λ(b:Nat)=>(b:Int)==m)=some j):∃ e,es[j]?=some e/\es.findIdx? (λe=>(e.born:Int)==m)=some j:=by
 have h1:es.findIdx? (λe=>(e.born:Int)==m)=some j:=by rw[List.findIdx?_map] at h;exact h
 have bF:j<es.length:=by have:=b9.1 h1;exact this.1
 exact⟨_,ak bF,h1⟩
theorem zV {T:TypeId} {k z:V} {K:S->Prop} {vx vk vv:Value} {ox oy oz:Option Nat} (hst:St G n I0 M w0 I β ob s a w) (h:gA s x k z K)
 (hx:LR (Wr M w0) I β w ox vx x) (hy:LR (Wr M w0) I β w oy vk k) (hz:LR (Wr M w0) I β w oz vv z) :
 ∃ s' ob' w',K s'/\(Instr.entryStore T vx vk vv).run P w=.ok () w'/\St G n I0 M w0 I β ob' s' a w':=by
 unfold gA at h;split at h
 .rename_i i ik m
  split at h
  .rename_i bs cl r hb
   split at h
   .rename_i j hj
    obtain⟨hi,hK⟩:=h;simp only[LR] at hx;obtain⟨blk,hβ,rfl⟩:=hx;obtain⟨es,hm⟩:=hst.mapW (P:=P) hi hb hβ;have hg:=fG (P:=P) hm.heap;have:=hy.lit;subst this;rw[<- hm.born] at hj;obtain⟨e,he,hf⟩:=Ka hj;have zN:es.findIdx? (λe=>(e.born:Int)==m)=some j:=(by rw[show es=es.toList.toArray by simp,List.findIdx?_toArray];exact hf);obtain⟨ob',bP⟩:=C6 hst hm he (hz.fz none) (f:=λe=>{ e with val:=vv }) rfl
    refine⟨_,ob',_,hK,?_,bP⟩;simp[Instr.entryStore,hg,zN,asInt,asIntOf,i7 _ hm.heap,Result.andThen,World.putObj]
   .exact h.elim
  .exact h.elim
 .exact h.elim
theorem Rj {t:Nat} {u:Value} (h:a.tmps.getD t undef=u) (ht:t<a.tmps.size):a.put (some t) u=a:=by
 have:a.tmps.setIfInBounds t u=a.tmps:=by
  apply j8 (by simp);intro i h1 h2;rw[gk];split
  .rename_i e;subst e;rw[<- h];simp[ht]
  .rfl
 simp only[Act.put,this]
theorem Ha {t:Nat} {ty:TypeId} {K:Option V->V->Prop} (hst:St G n I0 M w0 I β ob s a w) (hd:∀ d,o.dst=some d->d<n) (h:AB s (s.fr t) K) :
 ∃ it z u w',K it z/\(Instr.next (a.tmps.getD t undef) false ty).run P w=.ok u w'/\SE G n I0 M w0 ((match it with | some x=>{ s with fr:=up s.fr t x } | none=>s:S).put o.dst z) (a.put o.dst u) w':=by
 unfold AB at h;have hx:=hst.fr t;split at h
 .rename_i i since stepped seen ji
  rw[ji] at hx;split at h
  .rename_i bs cl r hb
   obtain⟨⟨hi,hsc,QC⟩,JH,sK⟩:=h;simp only[LR] at hx;obtain⟨blk,m,yS,uj,hβ,hv,hh,hni⟩:=hx;obtain⟨es,hm⟩:=hst.mapW (P:=P) hi hb hβ;rw[hv];rcases run_next_at (P:=P) w ty blk m since stepped seen.toArray es cl hh hm.heap (λx hx=>QC _ (by rw[<- hm.born];exact ce.2 ⟨x,hx,rfl⟩)) hsc with⟨h0,bO⟩ | ⟨e,he,w1,hw1,bO⟩
   .refine⟨none,_,_,_,JH λb hbm=>?_,bO,?_⟩
    .rw[<- hm.born] at hbm
     obtain⟨x,hxm,rfl⟩:=ce.1 hbm;have:=Array.size_eq_zero_iff.1 h0;unfold leftOf at this;rw[Array.filter_eq_empty_iff] at this;have h2:=this x (by simpa using hxm);simpa using h2
    .cases o0:o.dst with
     |none=>exact⟨_,_,_,hst⟩
     |some d=>
      exact⟨_,_,_,hst.put d (hd d o0) (o:=none) (by
       simp only[LR];refine .tup _ _ rfl λq x hq=>?_
       match q with
       |0=>simp at hq;subst hq;exact .c _ _ (.lit _ rfl)
       |q+1=>simp at hq) FreeOb.nothing⟩
   .have jL:e∈es.toList/\e.born∉seen:=by unfold leftOf at he;simp only[Array.toList_filter,List.mem_filter] at he;exact⟨he.1,by simpa using he.2⟩
    obtain⟨j,hj⟩:=List.getElem?_of_mem jL.1;obtain⟨l1,l2⟩:=hm.ent j e hj;have hbj:bs[j]?=some e.born:=(by rw[<- hm.born,bw,hj];rfl);refine⟨_,_,_,_,sK j e.born hbj jL.2,bO,?_⟩;have pP:St G n I0 M w0 I β ob s a w1:=by rcases hw1 with rfl | rfl;exact hst;exact hst.drew
    have jB:w1.heap=w.heap:=by rcases hw1 with rfl | rfl<;>rfl
    have ej:t<a.tmps.size:=by
     by_cases ht:t<a.tmps.size
     .exact ht
     .exfalso
      have:a.tmps.getD t undef=undef:=(by simp[dx (dY ht)]);rw[this] at hv;cases hv
    have Ai:blk<w1.heap.size:=(by rw[jB];exact(hst.obnd _ _ yS).1);have hc:=pP.clr t;have hL:∀ L,upL ob (.t t) none L≠some blk:=λL hL=>by
     simp only[upL] at hL;split at hL
     .cases hL
     .rename_i gu;exact gu (hst.oinj _ _ blk hL yS)
    have hβn:∀ q,β q≠some blk:=λq hq=>hst.obx _ blk q yS hq;have hg:=hc.growRow (I':=I) (rC (w:=w1) blk (.mapIter (some m) since (seen.toArray.push e.born) cl)) uj (λo ho=>absurd ho (hni o)) hL hβn (λ_ _ h=>h) (λ_ _ h=>.inl h) (by rw[putObj_size];exact Ai);have hp:=hg.put t (by rw[<- hst.size];exact ej) (v:=.pointer (some ⟨blk,0,none⟩)) (x:=.it i since cl (seen++[e.born])) (o:=some blk) (by
     simp only[LR];exact⟨blk,m,rfl,uj,hβ,rfl,by rw[nU Ai];simp,hni⟩) (λb hb=>by
     cases hb;refine⟨⟨by rw[putObj_size];exact Ai,uj⟩,λL xX=>?_,hβn⟩;simp only[upL] at xX;split at xX
     .cases xX
     .exact hL L (by simp only[upL];split<;>simp_all))
    rw[Rj hv ej] at hp;have xP:(s.clr t).put (some t) (.it i since cl (seen++[e.born]))={ s with fr:=up s.fr t (.it i since cl (seen++[e.born])) }:=by simp only[S.clr,S.put];congr 1;funext q;simp only[up];split<;>simp_all
    rw[xP] at hp;cases o0:o.dst with
    |none=>exact⟨_,_,_,hp⟩
    |some d=>
     refine⟨_,_,_,hp.put d (hd d o0) (o:=none) ?_ FreeOb.nothing⟩;have hI:∀ b o,I b o->I b o/\(World.putObj w1 blk (.mapIter (some m) since (seen.toArray.push e.born) cl)).cell? ⟨b,o,none⟩=w.cell? ⟨b,o,none⟩:=λb o hb=>by refine⟨hb,eQ (a:=⟨b,o,none⟩) ?_⟩;have gu:b≠blk:=λe=>hni o (by rw[<- e];exact hb);exact(oR gu).trans (by rw[jB])
     have:=(DR.tup (w:=w) (I:=I) #[.bool true,e.key,e.val] [.c (.lit (.bool true)),(r.getD (2*j) .un).dr,(r.getD (2*j+1) .un).dr] rfl λq x hq=>by
      match q with
      |0=>simp at hq;subst hq;exact .c _ _ (.lit _ rfl)
      |1=>simp at hq;subst hq;exact y6 l1
      |2=>simp at hq;subst hq;exact y6 l2
      |q+3=>simp at hq).mono hI
     simp only[LR];exact this
  .exact h.elim
 .exact h.elim
end
section
variable {P:Program} {G:Gl} {tr:List Nat} {n:Nat} {I0:Ft} {M:Mx} {w0:World} {I:Ft} {β:Nat->Option Nat} {ob:Loc->Option Nat} {s:S} {a:Act} {w:World} {o:Oper}
 {next:Act->World->Prop} {Q:Exit->Act->World->Prop} {base:Nat->Prop} {v:Value} {x y:V} {K:V->Prop}
theorem St.write (hst:St G n I0 M w0 I β ob s a w) {b k:Nat} {blk:Nat} {cs:List C} {vs:List Value} (hb:b<s.nb) (hβ:β b=some blk) (lV:dE (s.bx b)=false) (cH:vs.length=cs.length) (xN:k+cs.length<=(s.bx b).length)
 (hc:∀ (q:Nat) (c:C),cs[q]?=some c->∃ u:Value,vs[q]?=some u/\CR I w u c) :
 ∃ (cur:Array Value) (T:RT) (ob':Loc->Option Nat),w.heap[blk]?=some (.cells cur T.t T.fz)/\T.ok cur.size/\(s.bx b).length<=cur.size/\(∀ u∈vs,u.oneCell'=true)/\
  St G n I0 M w0 I β ob' { s with bx:=up s.bx b (fW (s.bx b) k (cs.map .c)) } a (w.setRow blk (cur.toList.take k++vs++cur.toList.drop (k+vs.length)).toArray):=by
 obtain⟨sj,cur,e1,e2,e3,e4,_⟩:=hst.bx b hb;obtain⟨T,e3,_,hT⟩:=e3.cells lV;rw[hβ] at e1;cases e1;have kg:∀ u∈vs,u.oneCell'=true:=λu hu=>by
  obtain⟨q,hq⟩:=List.mem_iff_getElem?.1 hu;have qq:q<cs.length:=by rw[<- cH];exact(am.1 hq).1
  obtain⟨u',CV,ka⟩:=hc q cs[q] (ak qq);rw[hq] at CV;cases CV;exact ka.oneCell
 refine⟨cur,T,_,e3,hT,e4,kg,hst.setBox (i:=b) (k:=k) (blk:=blk) (cur:=cur) (T:=T) (vs:=vs) (ds:=cs.map .c) (od:=λ_=>none) hb hβ e3 hT (by simpa using cH) (by simpa using xN) (λq=>?_) kg
  (λ_ _ h=>by cases h) (λ_ _ _ h=>by cases h) lV (λd hd=>?_)⟩
 .by_cases hq:q<cs.length
  .obtain⟨u,hu,ka⟩:=hc q cs[q] (ak hq)
   have e1:vs.getD q undef=u:=(by rw[aG,hu];rfl);have e2:(cs.map V.c).getD q .un=.c cs[q]:=(by simp[List.getD,hq]);rw[e1,e2];exact .ofC ka
  .have e2:(cs.map V.c).getD q .un=.un:=by simp[List.getD,cE (dY hq)]
   rw[e2];simp only[LR];exact .un _
 .obtain⟨c,_,rfl⟩:=ce.1 hd;rfl
theorem St.write_nil (hst:St G n I0 M w0 I β ob s a w) {b k:Nat}:St G n I0 M w0 I β ob { s with bx:=up s.bx b (fW (s.bx b) k []) } a w:=by
 have:fW (s.bx b) k []=s.bx b:=by simp[fW]
 rw[this,qa];exact hst
theorem Rk {U e':TypeId} {vy:Value} {oy:Option Nat} {sz:Nat} {ys:List (List C)} (hst:St G n I0 M w0 I β ob s a w) (hy:LR (Wr M w0) I β w oy vy y) (h:vB s y=some (.sl ys)) (hu:P.underlying U=some (.slice e')) (hs:∀ x∈ys,x.length=sz):J7 P I w U vy sz ys:=by
 have flat:∀ {es:List (List C)} {blk off' cap':Nat} {f:Nat->Nat->Value} {z:Nat},vy=.slice (some ⟨blk,off',none⟩) es.length cap'->(∀ e∈es,e.length=z)->es=ys->
  (∀ p q,p<es.length->q<z->w.cell? ⟨blk,off'+p*z+q,none⟩=some (f p q))->(∀ p q e c,es[p]?=some e->e[q]?=some c->CR I w (f p q) c)->J7 P I w U vy sz ys:=by
  rintro es blk off' cap' f z rfl h1 rfl h2 h3;obtain⟨news,yR,JC,NY,LX⟩:=Re (J:=λ_ _=>True) hs h1 (λi j hi hj=>⟨h2 i j hi hj,trivial⟩) h3;exact⟨news,Src.ofSlice w hu ⟨blk,off',none⟩ _ _ news yR (λq u hq=>by rw[dm];exact(JC q u hq).1) LX,NY⟩
 cases y<;>simp only[vB] at h<;>try cases h
 .exact(RD.ofCR hy.toC).src hu hs
 .exact(RD.ofCR hy.1).src hu hs
 .simp only[aZ] at h
  obtain⟨cs,_,h2⟩:=h;cases h2
 .simp only[LR] at hy
  obtain⟨es,blk,off',cap',f,e1,e2,_,_,h4,h5,h6⟩:=EE hst h hy;cases e1;exact flat e2 h4 rfl h5 h6
def RelL (I:Ft) (w:World) (L:List Value) (cs:List C):Prop:=∀ (q:Nat) (c:C),cs[q]?=some c->∃ u:Value,L[q]?=some u/\CR I w u c
theorem RelL.take {L:List Value} {cs:List C} (h:RelL I w L cs) (k:Nat):RelL I w (L.take k) (cs.take k):=λq c hq=>by
 rw[cN] at hq;split at hq
 .rename_i hk
  obtain⟨u,h1,h2⟩:=h q c hq;exact⟨u,by rw[cN,if_pos hk];exact h1,h2⟩
 .cases hq
theorem RelL.drop {L:List Value} {cs:List C} (h:RelL I w L cs) (k:Nat):RelL I w (L.drop k) (cs.drop k):=λq c hq=>by rw[cn] at hq;obtain⟨u,h1,h2⟩:=h _ c hq;exact⟨u,by rw[cn];exact h1,h2⟩
theorem RelL.append {L L':List Value} {cs cs':List C} (h:RelL I w L cs) (h':RelL I w L' cs') (hl:L.length=cs.length):RelL I w (L++L') (cs++cs'):=λq c hq=>by
 by_cases hq1:q<cs.length
 .rw[aM hq1] at hq
  obtain⟨u,h1,h2⟩:=h q c hq;exact⟨u,by rw[aM (by omega)];exact h1,h2⟩
 .rw[aU (by omega)] at hq
  obtain⟨u,h1,h2⟩:=h' _ c hq;exact⟨u,by rw[aU (by omega),hl];exact h1,h2⟩
theorem oS {α:Type} {sz:Nat} {es:List (List α)} (h:∀ e∈es,e.length=sz) {k:Nat} (hk:k<=es.length):(es.take k).flatten=es.flatten.take (k*sz):=by
 have e:es.flatten=(es.take k).flatten++(es.drop k).flatten:=by rw[<- fh,dQ]
 have hl:(es.take k).flatten.length=k*sz:=by rw[bZ _ (λx hx=>h x (cX hx)),bb,cA hk]
 rw[e,gG hl]
theorem mP {α:Type} {sz:Nat} {es:List (List α)} (h:∀ e∈es,e.length=sz) {k:Nat} (hk:k<=es.length):(es.drop k).flatten=es.flatten.drop (k*sz):=by
 have e:es.flatten=(es.take k).flatten++(es.drop k).flatten:=by rw[<- fh,dQ]
 have hl:(es.take k).flatten.length=k*sz:=by rw[bZ _ (λx hx=>h x (cX hx)),bb,cA hk]
 rw[e,List.drop_left' hl]
theorem St.gsSet (hst:St G n I0 M w0 I β ob s a w) {b k blk cap sz:Nat} {e:TypeId} {es es':List (List C)} {cur:Array Value} {L:List Value} (hb:b<s.nb) (lV:dE (s.bx b)=false)
 (hk:(s.bx b)[k]?=some (.gs (some (.slice (some ⟨blk,0,none⟩) es.length cap)) (some (e,sz)) es)) (jB:w.heap[blk]?=some (.cells cur e (0,0))) (ej:cur.size=cap*sz) (cH:es'.length=es.length) (qM:∀ x∈es',x.length=sz)
 (hL:L.length=cur.size) (kg:∀ u∈L,u.oneCell'=true) (pQ:RelL I w L es'.flatten) :
 St G n I0 M w0 I β ob { s with bx:=up s.bx b ((s.bx b).set k (.gs (some (.slice (some ⟨blk,0,none⟩) es.length cap)) (some (e,sz)) es')) } a (w.setRow blk L.toArray):=by
 rcases hst.gsAt hb hk with⟨_,_,_,hE⟩ | ⟨cur1,e1,sz1,j9,hE,_,g1,g2,g3,g4,gm,g5,g6,g7⟩
 .cases hE
 cases hE;rw[jB] at g1;simp only[ap,Obj.cells.injEq,ip] at g1;subst g1;have Ai:blk<w.heap.size:=(bq.1 jB).1;have hg:w.grb (w.setRow blk L.toArray) (some blk):=⟨rfl,rfl,rfl,by simp,λk _ hk=>lH w blk k _ (λe=>hk (by rw[e])),ai _⟩;have nc:∀ b o,I b o->I b o/\(w.setRow blk L.toArray).cell? ⟨b,o,none⟩=w.cell? ⟨b,o,none⟩:=λb o hb=>⟨hb,hst.keeps hg (λr e o ho=>by cases e;exact absurd ho (g7 o)) b o hb⟩;refine hst.recell hb hk rfl rfl j9 hg (λo ho=>absurd ho (g7 o)) (λ_ _ h=>h) (λ_ _ h=>.inl h) λb1 cur0 _ _ hx=>?_;obtain⟨h1,h2⟩:=hx.gsO;refine⟨h1,?_⟩;have hv:=h1 _ rfl;have Wv:Wr M w0 blk:=(hst.obnd _ _ j9).2;exact .inr ⟨e,blk,cap,L.toArray,sz,rfl,rfl,by rw[hv,cH],Wv,setRow_heap w blk cur _ e (0,0) jB,by rw[cH];exact g4,gm,by rw[ft,hL,ej],qM,λj c hj=>by
  obtain⟨u,q1,q2⟩:=pQ j c hj;have:L.toArray.getD j undef=u:=by rw[au,du,q1];rfl
  rw[this];exact q2.mono nc,λu hu=>kg u (gj.1 hu),g7⟩
theorem St.ggSet (hst:St G n I0 M w0 I β ob s a w) {b k blk len cap sz:Nat} {e:TypeId} {es:List (List C)} (hb:b<s.nb) (hk:(s.bx b)[k]?=some (.gg (.slice (some ⟨blk,0,none⟩) len cap) (some (e,sz)) es)) :
 ∃ cur:Array Value,(len=es.length/\w.heap[blk]?=some (.cells cur e (0,0))/\cur.size=cap*sz/\es.length<=cap/\(∀ x∈es,x.length=sz)/\(∀ j c,es.flatten[j]?=some c->CR I w (cur.getD j undef) c)/\(∀ u∈cur,u.oneCell'=true))/\
  ∀ (es':List (List C)) (L:List Value),es'.length=es.length->(∀ x∈es',x.length=sz)->L.length=cur.size->(∀ u∈L,u.oneCell'=true)->RelL I w L es'.flatten->
   St G n I0 M w0 I β ob { s with bx:=up s.bx b ((s.bx b).set k (.gg (.slice (some ⟨blk,0,none⟩) len cap) (some (e,sz)) es')) } a (w.setRow blk L.toArray):=by
 obtain⟨b1,cur0,e1,e2,e3,e4,e5,e7⟩:=hst.bx b hb;have h5:=e5 k;have qK:(s.bx b).getD k .un=.gg (.slice (some ⟨blk,0,none⟩) len cap) (some (e,sz)) es:=by simp[List.getD,hk]
 rw[qK] at h5;have h6:OwnG (Wr M w0) I w (some (e,sz)) es (ob (.b b k)) (.slice (some ⟨blk,0,none⟩) len cap):=h5;rcases h6 with⟨_,hE,_⟩ | ⟨e',sj,cap',cur,sz',j9,hE,hv,Wv,hh,hc,hm,hs,hl,hf,kg,eX⟩
 .cases hE
 cases hE;simp only[fN,ap,kM] at hv;obtain⟨⟨rfl,_⟩,rfl,rfl⟩:=hv;refine⟨cur,⟨rfl,hh,hs,hc,hl,hf,kg⟩,λes' L cH qM hL ahh pQ=>?_⟩;have hg:w.grb (w.setRow blk L.toArray) (some blk):=⟨rfl,rfl,rfl,by simp,λk _ hk=>lH w blk k _ (λe=>hk (by rw[e])),ai _⟩;have nc:∀ b o,I b o->I b o/\(w.setRow blk L.toArray).cell? ⟨b,o,none⟩=w.cell? ⟨b,o,none⟩:=λb o hb=>⟨hb,hst.keeps hg (λr e o ho=>by cases e;exact absurd ho (eX o)) b o hb⟩;refine hst.recell hb hk rfl rfl j9 hg (λo ho=>absurd ho (eX o)) (λ_ _ h=>h) (λ_ _ h=>.inl h) λb1 cur0 _ _ hx=>?_;show OwnG (Wr M w0) I (w.setRow blk L.toArray) (some (e,sz)) es' (some blk) _;exact .inr ⟨e,blk,cap,L.toArray,sz,rfl,rfl,by rw[cH],Wv,setRow_heap w blk cur _ e (0,0) hh,by rw[cH];exact hc,hm,by rw[ft,hL,hs],qM,λj c hj=>by
  obtain⟨u,q1,q2⟩:=pQ j c hj;have:L.toArray.getD j undef=u:=by rw[au,du,q1];rfl
  rw[this];exact q2.mono nc,λu hu=>ahh u (gj.1 hu),eX⟩
theorem ES {α:Type} {sz:Nat} {es:List (List α)} (h:∀ e∈es,e.length=sz) {q:Nat} (hq:q<es.length) (x:List α):(es.set q x).flatten=es.flatten.take (q*sz)++x++es.flatten.drop (q*sz+sz):=by rw[List.set_eq_take_append_cons_drop,if_pos hq,fh,eN,oS h (Nat.le_of_lt hq),mP h hq,dX,bU]
theorem AV {t u ty:TypeId} {vx vy:Value} {ox oy:Option Nat} {K:S->V->Prop} (hst:St G n I0 M w0 I β ob s a w) (h:eT P s K [t,u] [x,y]) (hx:LR (Wr M w0) I β w ox vx x) (hy:LR (Wr M w0) I β w oy vy y) :
 ∃ s' ob' w' z v,K s' z/\(Builtin.append_ #[t,u] ty #[vx,vy]).run P w=.ok v w'/\St G n I0 M w0 I β ob' s' a w'/\LR (Wr M w0) I β w' none v z:=by
 unfold eT at h;split at h
 .rename_i t' u' b off len cap sz y' u5 oH
  simp only[cj,ip] at u5 oH;obtain⟨rfl,rfl⟩:=u5;obtain⟨rfl,rfl⟩:=oH;split at h
  .rename_i e _ _ _ _ _ _ ys hi hyf
   obtain⟨j,d,h1,h2,h3,_⟩:=bL hi;have hd:=dW h3;subst hd;split at h
   .rename_i ie uS
    obtain⟨j',d',kr,pY,_,fB,_⟩:=bL uS;obtain⟨⟨rfl,ej,hp,hb,lV,xN,pR,xY⟩,h⟩:=h;simp only[LR] at hx;obtain⟨lv,blk,off',cap',GL,hβ,oD,rfl⟩:=hx;obtain⟨news,sU,NY⟩:=Rk hst hy hyf h2 xY;have sL:Src P j'.size t vy ys.length news w:=(by rw[<- fB,ej];exact sU);have yR:=sU.newsLen;have nq:=bZ ys xY;by_cases h0:ys=[]
    .subst h0
     have:news=[]:=cQ (by rw[yR];simp);subst this;refine⟨_,_,w,_,_,h,lM t t ty e j' h2 kr _ len cap' (by omega) sL,hst.write_nil,?_⟩;simp only[LR];exact⟨by simpa using lv,blk,off',cap',GL,hβ,oD,rfl⟩
    .have hyl:0<ys.length:=jU.2 h0
     have:off'=off:=by rcases oD with h4 | h4;omega;exact h4
     subst this;have hm:(len+ys.length)*sz<=cap*sz:=bf _ pR;rw[dy] at hm;obtain⟨cur,T,ob',jB,hT,aeE,kg,bP⟩:=hst.write (k:=off'+len*sz) (cs:=ys.flatten) (vs:=news) hb hβ lV (by rw[yR,nq]) (by rw[nq];omega) NY;have bO:=jP (P:=P) (w:=w) t t ty e j' h2 kr blk off' len cap' cur T jB hT vy ys.length news sL (by omega) (by rw[<- fB,ej,yR];omega);rw[<- fB,ej] at bO;refine⟨_,_,_,_,_,h,bO,bP,?_⟩;simp only[LR];exact⟨pR,blk,off',cap',GL,hβ,.inr rfl,rfl⟩
   .exact h.elim
  .exact h.elim
 .rename_i t' u' blk n' cap blk2 off m cap2 u5 oH
  simp only[cj,ip] at u5 oH;obtain⟨rfl,rfl⟩:=u5;obtain⟨rfl,rfl⟩:=oH;obtain rfl:=hx.toC.ex_inv;obtain rfl:=hy.toC.ex_inv;split at h
  .rename_i e _ _ _ _ _ _ hi
   obtain⟨j,d,h1,h2,h3,_⟩:=bL hi;have hd:=dW h3;subst hd;split at h
   .rename_i ie uS
    obtain⟨j',d',kr,pY,_,fB,_⟩:=bL uS;obtain⟨b,k,jj,E,es,⟨rfl,rfl,hp,⟨e1,rfl⟩,hb,lV,hk,oD,hjm,hnm,hmc⟩,h⟩:=h;rcases hst.gsAt hb hk with⟨_,_,_,hE⟩ | ⟨cur,e2,sz,j9,hE,_,g1,g2,g3,g4,gm,g5,g6,g7⟩
    .cases hE
    simp only[ap,er] at hE;obtain⟨rfl,rfl⟩:=hE;generalize ej:ie.size=sz at *;by_cases h0:m=0
    .subst h0
     have sL:Src P j'.size t (.slice (some ⟨blk2,off,none⟩) 0 cap2) 0 [] w:=Src.ofSlice w h2 ⟨blk2,off,none⟩ _ _ [] (by simp) (by simp) (by simp);have aeB:es.take n'++(es.drop jj).take 0++es.drop (n'+0)=es:=(by simp);rw[aeB] at h;have nI:(s.bx b).set k (.gs (some (.slice (some ⟨blk2,0,none⟩) es.length cap)) (some (e1,sz)) es)=s.bx b:=(by obtain⟨JA,hke⟩:=am.1 hk;rw[<- hke,List.set_getElem_self]);rw[nI,qa] at h;exact⟨_,_,w,_,_,h,lM t t ty e j' h2 kr _ n' cap (by omega) sL,hst,.ofC (.ex _ rfl rfl)⟩
    .have Ww:off=jj*sz:=by rcases oD with h4 | h4;exact absurd h4 h0;exact h4
     subst Ww;have nr:cur.toList.length=cur.size:=cy;have q1:(jj+m)*sz<=cur.size:=(by rw[g2];exact bf _ (by omega));have q2:(n'+m)*sz<=cur.size:=(by rw[g2];exact bf _ (by omega));rw[dy] at q1 q2;have yR:((cur.toList.drop (jj*sz)).take (m*sz)).length=m*sz:=(by rw[bb,dh,nr];exact cA (by omega));have jL:∀ u∈(cur.toList.drop (jj*sz)).take (m*sz),u.oneCell'=true:=λu hu=>g6 u (dA.1 (cY (cX hu)));have sL:Src P j'.size t (.slice (some ⟨blk2,jj*sz,none⟩) m cap2) m ((cur.toList.drop (jj*sz)).take (m*sz)) w:=by
      rw[<- fB];refine Src.ofSlice w h2 ⟨blk2,jj*sz,none⟩ _ _ _ yR (λq u hq=>?_) jL;rw[dm,jd w blk2 (jj*sz+q) cur e1 (0,0) g1];rw[cN] at hq;split at hq
      .rw[cn,aY] at hq;exact hq
      .cases hq
     have bO:=jP (P:=P) (w:=w) t t ty e j' h2 kr blk2 0 n' cap cur (.of e1) g1 RT.of_ok _ m _ sL (by omega) (by rw[<- fB,yR];omega);rw[<- fB,yR] at bO;simp only[ao] at bO;have xR:RelL I w cur.toList es.flatten:=λq c hq=>by have qq:=(am.1 hq).1;rw[bZ es g3] at qq;have:=bf sz g4;refine⟨cur.getD q undef,?_,g5 q c hq⟩;rw[aY,au,aF (show q<cur.size by omega)];rfl
     have nq:=bZ es g3;have fO:=bf sz (show n'+m<=es.length from hnm);have Ma:=bf sz (show jj+m<=es.length from hjm);rw[dy] at fO Ma;have hdl:∀ x∈es.drop jj,x.length=sz:=λx hx=>g3 x (cY hx);have bP:=hst.gsSet (L:=cur.toList.take (n'*sz)++(cur.toList.drop (jj*sz)).take (m*sz)++cur.toList.drop (n'*sz+m*sz)) (es':=es.take n'++(es.drop jj).take m++es.drop (n'+m)) hb lV hk g1 g2
      (by simp only[aB,bb,dh];omega)
      (λx hx=>by
       rcases bh.1 hx with hx | hx
       .rcases bh.1 hx with hx | hx
        .exact g3 x (cX hx)
        .exact hdl x (cX hx)
       .exact g3 x (cY hx))
      (by rw[aB,aB,yR,bb,dh,nr,cA (by omega)];omega)
      (λu hu=>by
       rcases bh.1 hu with hu | hu
       .rcases bh.1 hu with hu | hu
        .exact g6 u (dA.1 (cX hu))
        .exact jL u hu
       .exact g6 u (dA.1 (cY hu)))
      (by
       rw[fh,fh,oS g3 (by omega),oS hdl (by rw[dh];omega),mP g3 (by omega),mP g3 (by omega),dy];refine RelL.append (RelL.append (xR.take _) ((xR.drop _).take _) ?_) (xR.drop _) ?_
       .rw[bb,bb,nr,nq,cA (by omega),cA (by omega)]
       .rw[aB,aB,yR,bb,bb,bb,dh,nr,nq,cA (by omega),cA (by omega),cA (by omega)])
     exact⟨_,_,_,_,_,h,bO,bP,.ofC (.ex _ rfl rfl)⟩
   .exact h.elim
  .exact h.elim
 .exact h.elim
theorem ET {t ty:TypeId} {vx:Value} {ox:Option Nat} {K:S->Prop} (hst:St G n I0 M w0 I β ob s a w) (h:iQ P s K [t] [x]) (hx:LR (Wr M w0) I β w ox vx x) :
 ∃ s' ob' w',K s'/\(Builtin.clear_ #[t] ty #[vx]).run P w=.ok (.tuple #[]) w'/\St G n I0 M w0 I β ob' s' a w':=by
 unfold iQ at h;split at h
 .rename_i t' b off len cap sz u5 oH
  simp only[cj,ip] at u5 oH;subst u5;subst oH;split at h
  .rename_i e _ _ _ _ _ _ hi
   obtain⟨j,d,h1,h2,h3,_⟩:=bL hi;have hd:=dW h3;subst hd;split at h
   .rename_i m _ _ z _ _ uS
    obtain⟨j',d',kr,pY,_,fB,_,_,pd,_⟩:=bL uS;simp only at pd fB;obtain⟨⟨rfl,hp,zL,hb,lV,xN⟩,h⟩:=h;split at pd
    .rename_i zv vz
     simp only[LR] at hx;obtain⟨lv,blk,off',cap',GL,hβ,oD,rfl⟩:=hx;have uh:=l8 (I:=I) (w:=w) pd.symm;by_cases h0:len=0
     .subst h0
      refine⟨_,_,w,h,?_,hst.write_nil⟩;unfold Builtin.clear_;simp[aV h2]
     .have:off'=off:=by rcases oD with h4 | h4;omega;exact h4
      subst this;have e1:((Array.range (len*z.length)).map (zv.cells[· % zv.cells.size]!))=Builtin.zeroCells zv.cells len:=(by unfold Builtin.zeroCells;rw[uh.1]);have sr:=tf uh (by omega) len;rw[e1] at sr;have nq:(List.replicate len z).flatten.length=len*m:=(by rw[bZ (sz:=m) _ (λx hx=>by rw[fU hx];exact zL),List.length_replicate]);have ui:(Builtin.zeroCells zv.cells len).toList.length=(List.replicate len z).flatten.length:=(by rw[cy];exact sr.1);obtain⟨cur,T,ob',jB,hT,aeE,kg,bP⟩:=hst.write (k:=off') (cs:=(List.replicate len z).flatten) (vs:=(Builtin.zeroCells zv.cells len).toList) hb hβ lV ui (by rw[nq];exact xN) (λq c hq=>by have:=sr.2 q c hq;have qq:q<(Builtin.zeroCells zv.cells len).size:=(by rw[<- cy,ui];exact(am.1 hq).1);refine⟨(Builtin.zeroCells zv.cells len)[q],by rw[aY,aF qq],?_⟩;rw[au] at this;rw[aF qq] at this;exact this);have bO:=jf (P:=P) blk off' T (Builtin.zeroCells zv.cells len).toList 0 cur w jB hT (by rw[ui,nq];omega) kg;simp only[en] at bO;refine⟨_,_,_,h,?_,bP⟩;obtain⟨len,rfl⟩:∃ k,len=k+1:=⟨len - 1,by omega⟩;unfold Builtin.clear_;simp[aV h2,zeroValue,typeInfo,kr,vz,bO]
    .cases pd
   .exact h.elim
  .exact h.elim
 .rename_i t' blk off m cap2 u5 oH
  simp only[cj,ip] at u5 oH;subst u5;subst oH;obtain rfl:=hx.toC.ex_inv;split at h
  .rename_i e _ _ _ _ _ _ hi
   obtain⟨j,d,h1,h2,h3,_⟩:=bL hi;have hd:=dW h3;subst hd;split at h
   .rename_i sz0 _ _ z _ _ uS
    obtain⟨j',d',kr,pY,_,fB,_,_,pd,_⟩:=bL uS;simp only at pd fB;obtain⟨b,k,jj,cap,E,es,⟨hp,zL,⟨e1,rfl⟩,hb,lV,hk,oD,hjm⟩,h⟩:=h;split at pd
    .rename_i zv vz
     have uh:=l8 (I:=I) (w:=w) pd.symm;rcases hst.gsAt hb hk with⟨_,_,_,hE⟩ | ⟨cur,e2,sz,j9,hE,_,g1,g2,g3,g4,gm,g5,g6,g7⟩
     .cases hE
     simp only[ap,er] at hE;obtain⟨rfl,rfl⟩:=hE;by_cases h0:m=0
     .subst h0
      have aeB:es.take jj++List.replicate 0 z++es.drop (jj+0)=es:=(by simp);rw[aeB] at h;have nI:(s.bx b).set k (.gs (some (.slice (some ⟨blk,0,none⟩) es.length cap)) (some (e1,sz0)) es)=s.bx b:=(by obtain⟨JA,hke⟩:=am.1 hk;rw[<- hke,List.set_getElem_self]);rw[nI,qa] at h;refine⟨_,_,w,h,?_,hst⟩;unfold Builtin.clear_;simp[aV h2]
     .have Ww:off=jj*sz0:=by rcases oD with h4 | h4;exact absurd h4 h0;exact h4
      subst Ww;have ez:((Array.range (m*z.length)).map (zv.cells[· % zv.cells.size]!))=Builtin.zeroCells zv.cells m:=(by unfold Builtin.zeroCells;rw[uh.1]);have sr:=tf uh (by omega) m;rw[ez] at sr;have Z7:(List.replicate m z).flatten.length=m*sz0:=(by rw[bZ (sz:=sz0) _ (λx hx=>by rw[fU hx];exact zL),List.length_replicate]);have ui:(Builtin.zeroCells zv.cells m).toList.length=m*sz0:=(by rw[cy,sr.1,Z7]);have nr:cur.toList.length=cur.size:=cy;have q1:(jj+m)*sz0<=cur.size:=(by rw[g2];exact bf _ (by omega));rw[dy] at q1;have abk:RelL I w (Builtin.zeroCells zv.cells m).toList (List.replicate m z).flatten:=λq c hq=>by have:=sr.2 q c hq;have qq:q<(Builtin.zeroCells zv.cells m).size:=(by rw[<- cy,ui,<- Z7];exact(am.1 hq).1);refine⟨(Builtin.zeroCells zv.cells m)[q],by rw[aY,aF qq],?_⟩;rw[au] at this;rw[aF qq] at this;exact this
      have abl:∀ u∈(Builtin.zeroCells zv.cells m).toList,u.oneCell'=true:=λu hu=>by obtain⟨q,hq⟩:=List.mem_iff_getElem?.1 hu;have qq:q<(List.replicate m z).flatten.length:=(by rw[Z7,<- ui];exact(am.1 hq).1);obtain⟨u',CV,ka⟩:=abk q _ (ak qq);rw[hq] at CV;cases CV;exact ka.oneCell
      have bO:=jf (P:=P) blk (jj*sz0) (.of e1) (Builtin.zeroCells zv.cells m).toList 0 cur w g1 RT.of_ok (by rw[ui];omega) abl;simp only[en,ui] at bO;have xR:RelL I w cur.toList es.flatten:=λq c hq=>by have qq:=(am.1 hq).1;rw[bZ es g3] at qq;have:=bf sz0 g4;refine⟨cur.getD q undef,?_,g5 q c hq⟩;rw[aY,au,aF (show q<cur.size by omega)];rfl
      have nq:=bZ es g3;have Ma:=bf sz0 (show jj+m<=es.length from hjm);rw[dy] at Ma;have bP:=hst.gsSet (L:=cur.toList.take (jj*sz0)++(Builtin.zeroCells zv.cells m).toList++cur.toList.drop (jj*sz0+m*sz0)) (es':=es.take jj++List.replicate m z++es.drop (jj+m)) hb lV hk g1 g2
       (by simp only[aB,bb,dh,List.length_replicate];omega)
       (λx hx=>by
        rcases bh.1 hx with hx | hx
        .rcases bh.1 hx with hx | hx
         .exact g3 x (cX hx)
         .rw[fU hx];exact zL
        .exact g3 x (cY hx))
       (by rw[aB,aB,ui,bb,dh,nr,cA (by omega)];omega)
       (λu hu=>by
        rcases bh.1 hu with hu | hu
        .rcases bh.1 hu with hu | hu
         .exact g6 u (dA.1 (cX hu))
         .exact abl u hu
        .exact g6 u (dA.1 (cY hu)))
       (by
        rw[fh,fh,oS g3 (by omega),mP g3 (by omega),dy];refine RelL.append (RelL.append (xR.take _) abk ?_) (xR.drop _) ?_
        .rw[bb,bb,nr,nq,cA (by omega),cA (by omega)]
        .rw[aB,aB,ui,Z7,bb,bb,nr,nq,cA (by omega),cA (by omega)])
      refine⟨_,_,_,h,?_,bP⟩;obtain⟨m,rfl⟩:∃ k,m=k+1:=⟨m - 1,by omega⟩;unfold Builtin.clear_;simp[aV h2,zeroValue,typeInfo,kr,vz,bO]
    .cases pd
   .exact h.elim
  .exact h.elim
 .exact h.elim
theorem EU {src dst:TypeId} {d:Option Tmp} {X:Operand} {K:S->Prop} (hst:St G n I0 M w0 I β ob s a w) (hd:∀ t,d=some t->t<n) (h:JZ P s d src dst K (ev G s X)) :
 ∃ s' v w',K (s'.put d v)/\∃ u,(convert src dst (a.eval X)).run P w=.ok u w'/\∃ β' ob',St G n I0 M w0 I β' ob' s' a w'/\LR (Wr M w0) I β' w' none u v:=False.elim h
end
section
variable {P:Program} {G:Gl} {tr:List Nat} {n:Nat} {I0:Ft} {M:Mx} {w0:World} {I:Ft} {β:Nat->Option Nat} {ob:Loc->Option Nat} {s:S} {a:Act} {w:World} {base:Nat->Prop} {v:Value} {x:V}
 {g:Option Value} {E:Option (TypeId×Nat)} {es:List (List C)} {ops:Array Oper} {K:S->Prop}
theorem OwnG.gsV {o:Option Nat} (h:OwnG base I w E es o v):GsV E es v:=by
 rcases h with⟨_,h1,h2,h3⟩ | ⟨e,blk,cap,cur,sz,_,_,hv,_,_,hc,_⟩
 .exact .inr ⟨h2,h1,h3⟩
 .exact .inl ⟨blk,cap,hv,hc⟩
theorem St.reown (h:St G n I0 M w0 I β ob s a w) {b k:Nat} {x x':V} {o':Option Nat} (hb:b<s.nb) (hk:(s.bx b)[k]?=some x) (hxm:x.isMk=false) (GP:x'.isMk=false) (ho:o'=none∨o'=ob (.b b k))
 (GI:∀ cur:Array Value,LR (Wr M w0) I β w (ob (.b b k)) (cur.getD k undef) x->LR (Wr M w0) I β w o' (cur.getD k undef) x') :
 St G n I0 M w0 I β (upL ob (.b b k) o') { s with bx:=up s.bx b ((s.bx b).set k x') } a w:=by
 have eF:∀ L c,upL ob (.b b k) o' L=some c->ob L=some c:=λL c hL=>by
  simp only[upL] at hL;split at hL
  .rename_i e;subst e
   rcases ho with ho | ho
   .rw[ho] at hL;cases hL
   .rw[<- ho];exact hL
  .exact hL
 have rm:k<(s.bx b).length:=(am.1 hk).1;have qK:(s.bx b).getD k .un=x:=by simp[List.getD,hk]
 exact {
  size:=h.size,defers:=h.defers,below:=h.below,ilow:=h.ilow,kept:=h.kept,ihigh:=h.ihigh,ibnd:=h.ibnd
  fr:=λt=>by have:=h.fr t;have e:upL ob (.b b k) o' (.t t)=ob (.t t):=(by simp[upL]);rw[e];exact this
  bx:=λi hi=>by
   obtain⟨b1,cur,e1,e2,e3,e4,e5,e7⟩:=h.bx i hi;by_cases uk:i=b
   .subst uk
    refine⟨b1,cur,e1,e2,?_,by simp only[cG,jx];exact e4,λj=>?_,e7⟩
    .simp only[cG]
     refine e3.congr (by simp) ?_;by_cases um:k=0
     .subst um
      have g1:((s.bx i).set 0 x').getD 0 .un=x':=(by simp[List.getD,rm]);rw[iz (by unfold dE;rw[g1];exact GP),iz (by unfold dE;rw[qK];exact hxm)]
     .have:((s.bx i).set k x').getD 0 .un=(s.bx i).getD 0 .un:=by simp[List.getD,dz um]
      unfold oq;rw[this]
    .simp only[cG]
     by_cases hjk:j=k
     .subst hjk
      have:((s.bx i).set j x').getD j .un=x':=(by simp[List.getD,rm]);rw[this];have e:upL ob (.b i j) o' (.b i j)=o':=(by simp[upL]);rw[e];have h5:=e5 j;rw[qK] at h5;exact GI cur h5
     .have:((s.bx i).set k x').getD j .un=(s.bx i).getD j .un:=by simp[List.getD,dz (gz hjk)]
      rw[this];have e:upL ob (.b i k) o' (.b i j)=ob (.b i j):=(by simp[upL,hjk]);rw[e];exact e5 j
   .refine⟨b1,cur,e1,e2,by simp only[dp _ _ uk];exact e3,by simp only[dp _ _ uk];exact e4,λj=>?_,e7⟩
    simp only[dp _ _ uk];have e:upL ob (.b b k) o' (.b i j)=ob (.b i j):=(by simp[upL,uk]);rw[e];exact e5 j
  bnone:=h.bnone,ext:=h.ext,bnew:=h.bnew,binj:=h.binj
  oinj:=λL L' c q1 q2=>h.oinj L L' c (eF L c q1) (eF L' c q2)
  obx:=λL c i q1=>h.obx L c i (eF L c q1)
  obnd:=λL c q1=>h.obnd L c (eF L c q1)
  glob:=h.glob }
theorem St.reword (h:St G n I0 M w0 I β ob s a w) {b k:Nat} {x x':V} (hb:b<s.nb) (hk:(s.bx b)[k]?=some x) (hxm:x.isMk=false) (GP:x'.isMk=false)
 (GI:∀ cur,LR (Wr M w0) I β w (ob (.b b k)) (Array.getD cur k undef) x->LR (Wr M w0) I β w (ob (.b b k)) (Array.getD cur k undef) x') :
 SE G n I0 M w0 (s.cell b k x') a w:=⟨_,_,_,h.reown hb hk hxm GP (.inr rfl) GI⟩
theorem St.adopt (h:St G n I0 M w0 I β ob s a w) {blk:Nat} {cur:Array Value} {T:RT} {cs:List C} (uj:Wr M w0 blk) (jB:w.heap[blk]?=some (.cells cur T.t T.fz)) (hT:T.ok cur.size) (kg:∀ u∈cur,u.oneCell'=true)
 (ej:cs.length<=cur.size) (hc:∀ j c,cs[j]?=some c->CR I w (cur.getD j undef) c) (j9:∀ L,ob L≠some blk) (hβ:∀ i,β i≠some blk) (hI:∀ o,¬ I blk o) :
 St G n I0 M w0 I (up β s.nb (some blk)) (λL=>match L with | .b i j=>if i=s.nb then none else ob (.b i j) | L=>ob L) { s with bx:=up s.bx s.nb (cs.map .c),nb:=s.nb+1 } a w:=by
 have hβ':∀ i b,β i=some b->up β s.nb (some blk) i=some b:=λi b hi=>by
  have:i≠s.nb:=λe=>by rw[h.bnone i (by omega)] at hi;cases hi
  rw[dp _ _ this];exact hi
 have eF:∀ L b,(match L with | .b i j=>if i=s.nb then none else ob (.b i j) | L=>ob L)=some b->ob L=some b:=λL b hL=>by
  cases L with
  |t i=>exact hL
  |b i j=>
   simp only at hL;split at hL
   .cases hL
   .exact hL
 have nc:∀ {o:Option Nat} {v:Value} {x:V},LR (Wr M w0) I β w o v x->LR (Wr M w0) I (up β s.nb (some blk)) w o v x:=λhx=>hx.mono (λ_ _ h=>⟨h,rfl⟩) hβ' (λ_ _=>⟨rfl,λ_ h=>h⟩);have lV:dE (cs.map V.c)=false:=by cases cs<;>rfl
 exact {
  size:=h.size,defers:=h.defers,below:=h.below,kept:=h.kept,ilow:=h.ilow,ihigh:=h.ihigh,ibnd:=h.ibnd
  fr:=λt=>nc (h.fr t)
  bx:=λi hi=>by
   by_cases f9:i=s.nb
   .subst f9
    refine⟨blk,cur,by simp,uj,.of jB kg hT (by simpa using lV),by simpa using ej,λj=>?_,hI⟩;simp only[cG,bY];by_cases hj:j<cs.length
    .have e2:(cs.map V.c).getD j .un=.c cs[j]:=by simp[List.getD,hj]
     rw[e2];exact .ofC (hc j _ (ak hj))
    .have e2:(cs.map V.c).getD j .un=.un:=by simp[List.getD,cE (dY hj)]
     rw[e2];simp only[LR];exact .un _
   .obtain⟨b1,cur',e1,e2,e3,e4,e5,e7⟩:=h.bx i (by simp only at hi;omega)
    refine⟨b1,cur',hβ' i b1 e1,e2,by simpa only[dp _ _ f9] using e3,by simpa only[dp _ _ f9] using e4,λj=>?_,e7⟩;simp only[dp _ _ f9,if_neg f9];exact nc (e5 j)
  bnone:=λi hi=>by simp only at hi;rw[dp _ _ (by omega)];exact h.bnone i (by omega)
  ext:=λi b he=>hβ' i b (h.ext i b he)
  bnew:=λi b hi=>by
   by_cases h1:i=s.nb
   .subst h1;rw[cG] at hi;cases hi;exact .inr uj
   .rw[dp _ _ h1] at hi;exact h.bnew i b hi
  binj:=λi j b hi hj=>by
   by_cases h1:i=s.nb<;>by_cases h2:j=s.nb
   .rw[h1,h2]
   .subst h1;rw[cG] at hi;cases hi;rw[dp _ _ h2] at hj;exact absurd hj (hβ j)
   .subst h2;rw[cG] at hj;cases hj;rw[dp _ _ h1] at hi;exact absurd hi (hβ i)
   .rw[dp _ _ h1] at hi;rw[dp _ _ h2] at hj;exact h.binj i j b hi hj
  oinj:=λL L' b hL xX=>h.oinj L L' b (eF L b hL) (eF L' b xX)
  obx:=λL b i hL hi=>by
   by_cases f9:i=s.nb
   .subst f9;rw[cG] at hi;cases hi
    exact j9 L (eF L _ hL)
   .rw[dp _ _ f9] at hi
    exact h.obx L b i (eF L b hL) hi
  obnd:=λL b hL=>h.obnd L b (eF L b hL)
  glob:=h.glob }
theorem St.gsCell (h:St G n I0 M w0 I β ob s a w) {b k:Nat} (hb:b<s.nb) (lV:dE (s.bx b)=false) (hk:(s.bx b)[k]?=some (.gs g E es)):∃ blk cur,β b=some blk/\HB w blk cur (s.bx b)/\(∀ u,g=some u->cur.getD k undef=u)/\OwnG (Wr M w0) I w E es (ob (.b b k)) (cur.getD k undef):=by
 obtain⟨b1,cur,e1,e2,e3,e4,e5,e7⟩:=h.bx b hb;have h5:=e5 k;have qK:(s.bx b).getD k .un=.gs g E es:=by simp[List.getD,hk]
 rw[qK] at h5;exact⟨b1,cur,e1,e3,h5.1,h5.2⟩
theorem St.reownAt (h:St G n I0 M w0 I β ob s a w) {b k blk:Nat} {cur:Array Value} {x x':V} {o':Option Nat} (hb:b<s.nb) (lV:dE (s.bx b)=false) (hβ:β b=some blk) (hB:HB w blk cur (s.bx b)) (hk:(s.bx b)[k]?=some x) (GP:x'.isMk=false) (ho:o'=none∨o'=ob (.b b k))
 (GI:LR (Wr M w0) I β w o' (cur.getD k undef) x') :
 St G n I0 M w0 I β (upL ob (.b b k) o') { s with bx:=up s.bx b ((s.bx b).set k x') } a w:=by
 have eF:∀ L c,upL ob (.b b k) o' L=some c->ob L=some c:=λL c hL=>by
  simp only[upL] at hL;split at hL
  .rename_i e;subst e
   rcases ho with ho | ho
   .rw[ho] at hL;cases hL
   .rw[<- ho];exact hL
  .exact hL
 have rm:k<(s.bx b).length:=(am.1 hk).1;exact {
  size:=h.size,defers:=h.defers,below:=h.below,ilow:=h.ilow,kept:=h.kept,ihigh:=h.ihigh,ibnd:=h.ibnd
  fr:=λt=>by have:=h.fr t;have e:upL ob (.b b k) o' (.t t)=ob (.t t):=(by simp[upL]);rw[e];exact this
  bx:=λi hi=>by
   obtain⟨b1,cur1,e1,e2,e3,e4,e5,e7⟩:=h.bx i hi;by_cases uk:i=b
   .subst uk
    rw[hβ] at e1;cases e1;cases hB.same lV e3;refine⟨blk,cur,hβ,e2,?_,by simp only[cG,jx];exact e4,λj=>?_,e7⟩
    .simp only[cG]
     refine e3.congr (by simp) ?_;by_cases um:k=0
     .subst um
      have g1:((s.bx i).set 0 x').getD 0 .un=x':=(by simp[List.getD,rm]);rw[iz (by unfold dE;rw[g1];exact GP),iz lV]
     .have:((s.bx i).set k x').getD 0 .un=(s.bx i).getD 0 .un:=by simp[List.getD,dz um]
      unfold oq;rw[this]
    .simp only[cG]
     by_cases hjk:j=k
     .subst hjk
      have:((s.bx i).set j x').getD j .un=x':=(by simp[List.getD,rm]);rw[this];have e:upL ob (.b i j) o' (.b i j)=o':=(by simp[upL]);rw[e];exact GI
     .have:((s.bx i).set k x').getD j .un=(s.bx i).getD j .un:=by simp[List.getD,dz (gz hjk)]
      rw[this];have e:upL ob (.b i k) o' (.b i j)=ob (.b i j):=(by simp[upL,hjk]);rw[e];exact e5 j
   .refine⟨b1,cur1,e1,e2,by simp only[dp _ _ uk];exact e3,by simp only[dp _ _ uk];exact e4,λj=>?_,e7⟩
    simp only[dp _ _ uk];have e:upL ob (.b b k) o' (.b i j)=ob (.b i j):=(by simp[upL,uk]);rw[e];exact e5 j
  bnone:=h.bnone,ext:=h.ext,bnew:=h.bnew,binj:=h.binj
  oinj:=λL L' c q1 q2=>h.oinj L L' c (eF L c q1) (eF L' c q2)
  obx:=λL c i q1=>h.obx L c i (eF L c q1)
  obnd:=λL c q1=>h.obnd L c (eF L c q1)
  glob:=h.glob }
theorem St.giveCell (h:St G n I0 M w0 I β ob s a w) {b k blk:Nat} {cur:Array Value} {x':V} {o':Option Nat} (hb:b<s.nb) (lV:dE (s.bx b)=false) (hβ:β b=some blk) (hB:HB w blk cur (s.bx b)) (rm:k<(s.bx b).length) (GP:x'.isMk=false) (ho:∀ c,o'=some c->(c<w.heap.size/\Wr M w0 c)/\(∀ L,ob L≠some c)/\∀ i,β i≠some c)
 (GI:LR (Wr M w0) I β w o' (cur.getD k undef) x') :
 St G n I0 M w0 I β (upL ob (.b b k) o') { s with bx:=up s.bx b ((s.bx b).set k x') } a w:=by
 have eF:∀ L c,upL ob (.b b k) o' L=some c->(L=.b b k/\o'=some c)∨(L≠.b b k/\ob L=some c):=λL c hL=>by
  simp only[upL] at hL;split at hL
  .rename_i e;exact .inl ⟨e,hL⟩
  .rename_i e;exact .inr ⟨e,hL⟩
 exact {
  size:=h.size,defers:=h.defers,below:=h.below,ilow:=h.ilow,kept:=h.kept,ihigh:=h.ihigh,ibnd:=h.ibnd
  fr:=λt=>by have:=h.fr t;have e:upL ob (.b b k) o' (.t t)=ob (.t t):=(by simp[upL]);rw[e];exact this
  bx:=λi hi=>by
   obtain⟨b1,cur1,e1,e2,e3,e4,e5,e7⟩:=h.bx i hi;by_cases uk:i=b
   .subst uk
    rw[hβ] at e1;cases e1;cases hB.same lV e3;refine⟨blk,cur,hβ,e2,?_,by simp only[cG,jx];exact e4,λj=>?_,e7⟩
    .simp only[cG]
     refine e3.congr (by simp) ?_;by_cases um:k=0
     .subst um
      have g1:((s.bx i).set 0 x').getD 0 .un=x':=(by simp[List.getD,rm]);rw[iz (by unfold dE;rw[g1];exact GP),iz lV]
     .have:((s.bx i).set k x').getD 0 .un=(s.bx i).getD 0 .un:=by simp[List.getD,dz um]
      unfold oq;rw[this]
    .simp only[cG]
     by_cases hjk:j=k
     .subst hjk
      have:((s.bx i).set j x').getD j .un=x':=(by simp[List.getD,rm]);rw[this];have e:upL ob (.b i j) o' (.b i j)=o':=(by simp[upL]);rw[e];exact GI
     .have:((s.bx i).set k x').getD j .un=(s.bx i).getD j .un:=by simp[List.getD,dz (gz hjk)]
      rw[this];have e:upL ob (.b i k) o' (.b i j)=ob (.b i j):=(by simp[upL,hjk]);rw[e];exact e5 j
   .refine⟨b1,cur1,e1,e2,by simp only[dp _ _ uk];exact e3,by simp only[dp _ _ uk];exact e4,λj=>?_,e7⟩
    simp only[dp _ _ uk];have e:upL ob (.b b k) o' (.b i j)=ob (.b i j):=(by simp[upL,uk]);rw[e];exact e5 j
  bnone:=h.bnone,ext:=h.ext,bnew:=h.bnew,binj:=h.binj
  oinj:=λL L' c q1 q2=>by
   rcases eF L c q1 with⟨h1,h2⟩ | ⟨h1,h2⟩<;>rcases eF L' c q2 with⟨h3,h4⟩ | ⟨h3,h4⟩
   .rw[h1,h3]
   .exact absurd h4 ((ho c h2).2.1 L')
   .exact absurd h2 ((ho c h4).2.1 L)
   .exact h.oinj L L' c h2 h4
  obx:=λL c i q1=>by
   rcases eF L c q1 with⟨_,h2⟩ | ⟨_,h2⟩
   .exact(ho c h2).2.2 i
   .exact h.obx L c i h2
  obnd:=λL c q1=>by
   rcases eF L c q1 with⟨_,h2⟩ | ⟨_,h2⟩
   .exact(ho c h2).1
   .exact h.obnd L c h2
  glob:=h.glob }
theorem OwnG.cool {o:Option Nat} (h:OwnG base I w E es o v):∃ I':Ft,(∀ b o,I b o->I' b o)/\(∀ b k,I' b k->I b k∨some b=o)/\OwnR base I' w E es o v:=by
 rcases h with⟨h0,h1,h2,a,h3⟩ | ⟨e,blk,cap,cur,sz,r1,r2,r3,r4,r5,r6,r7,r8,r9,r10,_,r12⟩
 .subst h2;subst h3
  exact⟨I,λ_ _ h=>h,λ_ _ h=>.inl h,.nil a 0 (λ_=>rfl),.inl ⟨h0,h1,a,rfl⟩⟩
 .subst r1
  refine⟨λb' o=>I b' o∨(b'=blk/\o<es.length*sz),λ_ _ h=>.inl h,λb k h=>?_,?_⟩
  .rcases h with h | ⟨rfl,_⟩
   .exact .inl h
   .exact .inr rfl
  .have ka:CR (λb' o=>I b' o∨(b'=blk/\o<es.length*sz)) w (.slice (some ⟨blk,0,none⟩) es.length cap) (.sl es):=
    CR.row (I':=λb' o=>I b' o∨(b'=blk/\o<es.length*sz)) (cap:=cap) (es:=es) (sz:=sz) r5 r6 r9 (λq c hq=>by have h0:=(am.1 hq).1;rw[bZ _ r9] at h0;have h1:=bf sz r6;exact⟨by rw[r8];omega,(r10 q c hq).mono λb o h=>⟨.inl h,rfl⟩⟩) (λo ho=>.inr ⟨rfl,ho⟩)
   rw[r3];refine⟨ka,.inr ⟨e,blk,cap,cur,sz,rfl,r2,rfl,r4,r5,r6,r7,r8,r9,λo ho=>?_⟩⟩;rcases ho with ho | ho
   .exact absurd ho (r12 o)
   .exact ho.2
end
section
variable {P:Program} {G:Gl} {tr:List Nat} {n:Nat} {I0:Ft} {M:Mx} {w0:World} {I:Ft} {β:Nat->Option Nat} {ob:Loc->Option Nat} {s:S} {a:Act} {w:World} {o:Oper}
 {next:Act->World->Prop} {Q:Exit->Act->World->Prop} {base:Nat->Prop} {v:Value} {x y:V}
theorem PR.ren {ρ:Nat->Nat} {β':Nat->Option Nat} {m:Nat} (h:PR I β w v (x.renP ρ)) (hx:x.ltP m) (hβ:∀ i b,i<m->β (ρ i)=some b->β' i=some b):PR I β' w v x:=by
 cases x<;>simp only[V.ltP] at hx<;>simp only[V.renP,PR] at h ⊢<;>try exact h
 .obtain⟨blk,h1,h2⟩:=h;exact⟨blk,hβ _ _ hx h1,h2⟩
 .obtain⟨h0,blk,o',c',Ah,h1,h2⟩:=h;exact⟨h0,blk,o',c',Ah,hβ _ _ hx h1,h2⟩
 .obtain⟨blk,h1,h2⟩:=h;exact⟨blk,hβ _ _ hx h1,h2⟩
 .obtain⟨blk,h1,h2⟩:=h;exact⟨blk,hβ _ _ hx h1,h2⟩
 .obtain⟨blk,h1,h2⟩:=h;exact⟨blk,hβ _ _ hx h1,h2⟩
theorem W4 {ρ:Nat->Nat} (h:x.renP ρ=.un):x=.un:=by cases x<;>first | rfl | cases h
theorem Mz {ρ:Nat->Nat} (h:(x.renP ρ).isAT=true):x.renP ρ=x:=by cases x<;>first | rfl | cases h
theorem Og {ρ:Nat->Nat}:(x.renP ρ).isAT=x.isAT:=by cases x<;>rfl
theorem KR.ren {ρ:Nat->Nat} {β':Nat->Option Nat} {m:Nat} (h:KR I β w v (x.renP ρ)) (hx:x.ltP m) (hβ:∀ i b,i<m->β (ρ i)=some b->β' i=some b):KR I β' w v x:=by
 rcases h with h | ⟨h1,h2⟩ | h
 .exact .inl (W4 h)
 .have e:=Mz h1;rw[e] at h1 h2;exact .inr (.inl ⟨h1,h2⟩)
 .exact .inr (.inr (h.ren hx hβ))
theorem LR.ren {ρ:Nat->Nat} {β':Nat->Option Nat} {m:Nat} {ox:Option Nat} (h:LR base I β w ox v (x.ren ρ)) (hx:x.lt m) (hβ:∀ i b,i<m->β (ρ i)=some b->β' i=some b):LR base I β' w ox v x:=by
 cases x<;>simp only[V.lt] at hx<;>simp only[V.ren,LR] at h ⊢<;>try exact h
 .obtain⟨blk,h1,h2⟩:=h;exact⟨blk,hβ _ _ hx h1,h2⟩
 .obtain⟨vf,vc,h1,h2,h3,h4,h5⟩:=h
  rw[aj] at h2 h3;exact⟨vf,vc,h1,h2,h3,λj x hj=>(h4 j (x.renP ρ) (by simp[hj])).ren (hx.1 x (bn hj)) hβ,λj x hj=>(h5 j (x.renP ρ) (by simp[hj])).ren (hx.2 x (bn hj)) hβ⟩
 .obtain⟨h0,blk,o',c',Ah,h1,h2⟩:=h;exact⟨h0,blk,o',c',Ah,hβ _ _ hx h1,h2⟩
 .obtain⟨cs,h1,h2,h3⟩:=h
  rw[aj] at h2;exact⟨cs,h1,h2,λj x hj=>(h3 j (x.renP ρ) (by simp[hj])).ren (hx x (bn hj)) hβ⟩
 .obtain⟨blk,h1,h2⟩:=h;exact⟨blk,hβ _ _ hx h1,h2⟩
 .obtain⟨blk,m,h1,h2,h3,h4⟩:=h;exact⟨blk,m,h1,h2,hβ _ _ hx h3,h4⟩
 .obtain⟨blk,h1,h2⟩:=h;exact⟨blk,hβ _ _ hx h1,h2⟩
 .obtain⟨tm,h1,h2⟩:=h
  exact⟨tm,h1,λt y hy=>KR.ren (m:=m) (ρ:=ρ) (h2 t (y.renP ρ) (ce.2 ⟨(t,y),hy,rfl⟩)) (hx _ hy) hβ⟩
 .obtain⟨blk,h1,h2⟩:=h;exact⟨blk,hβ _ _ hx h1,h2⟩
theorem PR.toRen {ρ:Nat->Nat} {β':Nat->Option Nat} (h:PR I β w v x) (hβ:∀ i b,β i=some b->β' (ρ i)=some b):PR I β' w v (x.renP ρ):=by
 cases x<;>simp only[V.renP,PR] at h ⊢<;>try exact h
 .obtain⟨blk,h1,h2⟩:=h;exact⟨blk,hβ _ _ h1,h2⟩
 .obtain⟨h0,blk,o',c',Ah,h1,h2⟩:=h;exact⟨h0,blk,o',c',Ah,hβ _ _ h1,h2⟩
 .obtain⟨blk,h1,h2⟩:=h;exact⟨blk,hβ _ _ h1,h2⟩
 .obtain⟨blk,h1,h2⟩:=h;exact⟨blk,hβ _ _ h1,h2⟩
 .obtain⟨blk,h1,h2⟩:=h;exact⟨blk,hβ _ _ h1,h2⟩
theorem KR.toRen {ρ:Nat->Nat} {β':Nat->Option Nat} (h:KR I β w v x) (hβ:∀ i b,β i=some b->β' (ρ i)=some b):KR I β' w v (x.renP ρ):=by
 rcases h with rfl | ⟨h1,h2⟩ | h
 .exact .inl rfl
 .have h3:(x.renP ρ).isAT=true:=by rw[Og];exact h1
  rw[Mz h3];exact .inr (.inl ⟨h1,h2⟩)
 .exact .inr (.inr (h.toRen hβ))
theorem Al {α γ:Type} {l:List α} {f:α->γ} {j:Nat} {y:γ} (h:(l.map f)[j]?=some y):∃ x,l[j]?=some x/\f x=y:=by simpa using h
theorem LR.toRen {ρ:Nat->Nat} {β':Nat->Option Nat} {ox:Option Nat} (h:LR base I β w ox v x) (hβ:∀ i b,β i=some b->β' (ρ i)=some b):LR base I β' w ox v (x.ren ρ):=by
 cases x<;>simp only[V.ren,LR] at h ⊢<;>try exact h
 .obtain⟨blk,h1,h2⟩:=h;exact⟨blk,hβ _ _ h1,h2⟩
 .obtain⟨vf,vc,h1,h2,h3,h4,h5⟩:=h
  refine⟨vf,vc,h1,by rw[aj];exact h2,by rw[aj];exact h3,λj x hj=>?_,λj x hj=>?_⟩
  .obtain⟨y,hy,rfl⟩:=Al hj;exact(h4 j y hy).toRen hβ
  .obtain⟨y,hy,rfl⟩:=Al hj;exact(h5 j y hy).toRen hβ
 .obtain⟨h0,blk,o',c',Ah,h1,h2⟩:=h;exact⟨h0,blk,o',c',Ah,hβ _ _ h1,h2⟩
 .obtain⟨cs,h1,h2,h3⟩:=h
  refine⟨cs,h1,by rw[aj];exact h2,λj x hj=>?_⟩;obtain⟨y,hy,rfl⟩:=Al hj;exact(h3 j y hy).toRen hβ
 .obtain⟨blk,h1,h2⟩:=h;exact⟨blk,hβ _ _ h1,h2⟩
 .obtain⟨blk,m,h1,h2,h3,h4⟩:=h;exact⟨blk,m,h1,h2,hβ _ _ h3,h4⟩
 .obtain⟨blk,h1,h2⟩:=h;exact⟨blk,hβ _ _ h1,h2⟩
 .obtain⟨tm,h1,h2⟩:=h
  refine⟨tm,h1,λt y hy=>?_⟩;obtain⟨⟨t',z⟩,hz,e⟩:=ce.1 hy;cases e;exact(h2 _ z hz).toRen hβ
 .obtain⟨blk,h1,h2⟩:=h;exact⟨blk,hβ _ _ h1,h2⟩
theorem LR.wider {base':Nat->Prop} {ox:Option Nat} (h:LR base I β w ox v x) (hb:∀ b,ox=some b->base' b):LR base' I β w ox v x:=by
 cases x<;>simp only[LR] at h ⊢<;>try exact h
 .obtain⟨h1,h2⟩:=h
  refine⟨h1,?_⟩;rcases h2 with h2 | ⟨e,blk,cap,cur,sz,q1,q2,q3,q4,q5⟩
  .exact .inl h2
  .exact .inr ⟨e,blk,cap,cur,sz,q1,q2,q3,hb _ q1,q5⟩
 .obtain⟨blk,m,h1,h2,h3⟩:=h;exact⟨blk,m,h1,hb _ h1,h3⟩
 .obtain⟨h1,h2⟩:=h
  refine⟨h1,?_⟩;rcases h2 with h2 | ⟨e,blk,cap,cur,sz,q1,q2,q3,q4,q5⟩
  .exact .inl h2
  .exact .inr ⟨e,blk,cap,cur,sz,q1,q2,q3,hb _ q1,q5⟩
 .obtain⟨h1,e,blk,cap,cur,sz,q1,q2,q3,q4,q5⟩:=h
  exact⟨h1,e,blk,cap,cur,sz,q1,q2,q3,hb _ q1,q5⟩
 .obtain⟨h1,h2⟩:=h
  refine⟨h1,?_⟩;rcases h2 with h2 | ⟨e,blk,cap,cur,sz,q1,q2,q3,q4,q5⟩
  .exact .inl h2
  .exact .inr ⟨e,blk,cap,cur,sz,q1,q2,q3,hb _ q1,q5⟩
 .rcases h with h2 | ⟨e,blk,cap,cur,sz,q1,q2,q3,q4,q5⟩
  .exact .inl h2
  .exact .inr ⟨e,blk,cap,cur,sz,q1,q2,q3,hb _ q1,q5⟩
theorem AW {ρ:Nat->Nat} (l:List V) (j:Nat):(l.map (V.ren ρ)).getD j .un=(l.getD j .un).ren ρ:=by simp only[aG,bw];cases l[j]?<;>rfl
theorem Hb {ρ:Nat->Nat} (l:List V):oq (l.map (V.ren ρ))=oq l:=by unfold oq;rw[AW];cases l.getD 0 .un<;>rfl
theorem nW {ρ:Nat->Nat}:∀ (bl:List (List V)) (k i:Nat) (b:List V),pV s.bx s.nb ρ k bl->bl[i]?=some b->ρ (k+i)<s.nb/\s.bx (ρ (k+i))=b.map (V.ren ρ)
 |[],_,i,b,_,hb=>by simp at hb
 |c::r,k,0,b,h,hb=>by simp at hb;subst hb;exact h.1
 |c::r,k,i+1,b,h,hb=>by have:=nW r (k+1) i b h.2 (by simpa using hb);rw[show k+(i+1)=k+1+i by omega];exact this
theorem qe {ρ:Nat->Nat}:∀ (bl:List (List V)) (k:Nat) (f:Nat->List V) (j:Nat),(∀ i,i<bl.length->ρ (k+i)≠j)->fC ρ k bl f j=f j
 |[],_,_,_,_=>rfl
 |b::r,k,f,j,h=>by simp only[fC];rw[qe r (k+1) _ j (λi hi=>by rw[show k+1+i=k+(i+1) by omega];exact h (i+1) (by simp;omega))];exact dp _ _ (λe=>h 0 (by simp) e.symm)
theorem AX {ρ:Nat->Nat}:∀ (bl:List (List V)) (k:Nat) (f:Nat->List V) (i:Nat) (b:List V),bl[i]?=some b->(∀ i j,i<bl.length->j<bl.length->ρ (k+i)=ρ (k+j)->i=j)->
 fC ρ k bl f (ρ (k+i))=b.map (V.ren ρ)
 |[],_,_,i,b,h,_=>by simp at h
 |c::r,k,f,0,b,h,pZ=>by simp at h;subst h;simp only[fC];rw[qe r (k+1) _ _ (λi hi e=>by have:=pZ (i+1) 0 (by simp;omega) (by simp) (by rw[show k+(i+1)=k+1+i by omega];exact e);omega)];rw[en];exact cG _ _ _
 |c::r,k,f,i+1,b,h,pZ=>by simp only[fC];rw[show k+(i+1)=k+1+i by omega];refine AX r (k+1) _ i b (by simpa using h) λi' j' hi hj e=>?_;have:=pZ (i'+1) (j'+1) (by simp;omega) (by simp;omega) (by rw[show k+(i'+1)=k+1+i' by omega,show k+(j'+1)=k+1+j' by omega];exact e);omega
theorem uw {ρ:List Nat} {nb:Nat} (hn:ρ.Nodup) (hl:∀ i,i<ρ.length->ρ.getD i 0<nb) (i j:Nat) (h:rho ρ nb i=rho ρ nb j):i=j:=by
 unfold rho at h;by_cases hi:i<ρ.length<;>by_cases hj:j<ρ.length
 .rw[if_pos hi,if_pos hj] at h
  simp only[aG,ak hi,ak hj,ba] at h;exact(List.getElem_inj hn).1 h
 .rw[if_pos hi,if_neg hj] at h
  have:=hl i hi;omega
 .rw[if_neg hi,if_pos hj] at h
  have:=hl j hj;omega
 .rw[if_neg hi,if_neg hj] at h;omega
def Mof (β:Nat->Option Nat) (ob:Loc->Option Nat) (ρ:Nat->Nat) (k:Nat) (b:Nat):Prop:=(∃ q,q<k/\β (ρ q)=some b)∨∃ q j,q<k/\ob (.b (ρ q) j)=some b
def kB (β:Nat->Option Nat) (ρ:Nat->Nat) (k i:Nat):Option Nat:=if i<k then β (ρ i) else none
def obC (ob:Loc->Option Nat) (ρ:Nat->Nat) (k i j:Nat):Option Nat:=if i<k then ob (.b (ρ i) j) else none
theorem nz {ρ:Nat->Nat} {k i b:Nat} (h:kB β ρ k i=some b):i<k/\β (ρ i)=some b:=by
 unfold kB at h;split at h
 .exact⟨‹_›,h⟩
 .cases h
theorem wz {ρ:Nat->Nat} {k i j b:Nat} (h:obC ob ρ k i j=some b):i<k/\ob (.b (ρ i) j)=some b:=by
 unfold obC at h;split at h
 .exact⟨‹_›,h⟩
 .cases h
theorem St.give (hst:St G n I0 M w0 I β ob s a w) {ρ:Nat->Nat} {b0:List (List V)} (pZ:∀ i j,ρ i=ρ j->i=j) (f9:pV s.bx s.nb ρ 0 b0) (bF:∀ b∈b0,∀ x∈b,x.lt b0.length) :
 BxR (Wr ⟨Mof β ob ρ b0.length,λ_=>none,[]⟩ w) I w (kB β ρ b0.length) (obC ob ρ b0.length) b0 where
 bx:=λi cs ju=>by
  have hi:i<b0.length:=(am.1 ju).1;obtain⟨h1,h2⟩:=nW b0 0 i cs f9 ju;rw[ao] at h1 h2;obtain⟨blk,cur,e1,e2,e3,e4,e5,e7⟩:=hst.bx (ρ i) h1;refine⟨blk,cur,by simp[kB,hi,e1],.inr (.inl ⟨i,hi,e1⟩),e3.congr (by rw[h2,aj]) (by rw[h2,Hb]),by have:=e4;rw[h2,aj] at this;exact this,λj=>?_,e7⟩;have:=e5 j;rw[h2,AW] at this;have hx:(cs.getD j .un).lt b0.length:=by
   by_cases hj:j<cs.length
   .have:cs.getD j .un=cs[j]:=by simp[List.getD,hj]
    rw[this];exact bF cs (bn ju) _ (aH hj)
   .have:cs.getD j .un=.un:=by simp[List.getD,cE (dY hj)]
    rw[this];exact trivial
  have h3:=this.ren (β':=kB β ρ b0.length) hx (λi b hi hb=>by simp[kB,hi,hb]);have h4:obC ob ρ b0.length i j=ob (.b (ρ i) j):=by simp[obC,hi]
  rw[h4];exact h3.wider λb hb=>.inr (.inr ⟨i,j,hi,hb⟩)
 bnone:=λi hi=>by simp[kB,Nat.not_lt.2 hi]
 binj:=λi j b hi hj=>by obtain⟨_,h1⟩:=nz hi;obtain⟨_,h2⟩:=nz hj;exact pZ _ _ (hst.binj _ _ b h1 h2)
 oinj:=λi j i' j' b h h'=>by obtain⟨_,h1⟩:=wz h;obtain⟨_,h2⟩:=wz h';have:=hst.oinj _ _ b h1 h2;simp only[Loc.b.injEq] at this;exact⟨pZ _ _ this.1,this.2⟩
 obx:=λi j b k h hk=>by obtain⟨_,h1⟩:=wz h;obtain⟨_,h2⟩:=nz hk;exact hst.obx _ b _ h1 h2
 obnd:=λi j b h=>by obtain⟨hi,h1⟩:=wz h;exact⟨(hst.obnd _ b h1).1,.inr (.inr ⟨i,j,hi,h1⟩)⟩
 olen:=λi j hi=>by simp[obC,Nat.not_lt.2 hi]
def rD (ρ:List Nat) (nb i:Nat):Option Nat:=if i∈ρ then some (ρ.idxOf i) else if nb<=i then some (i - nb+ρ.length) else none
theorem Rl {ρ:List Nat} {nb:Nat} (hn:ρ.Nodup) (hl:∀ i,i<ρ.length->ρ.getD i 0<nb) (q:Nat):rD ρ nb (rho ρ nb q)=some q:=by
 unfold rD rho;by_cases hq:q<ρ.length
 .have e:ρ.getD q 0=ρ[q]:=by simp[List.getD,hq]
  rw[if_pos hq,e,if_pos (aH hq),hn.idxOf_getElem]
 .rw[if_neg hq]
  have:¬ (nb+(q - ρ.length))∈ρ:=λh=>by obtain⟨i,hi,e⟩:=iq.1 h;have:=hl i hi;have e':ρ.getD i 0=ρ[i]:=(by simp[List.getD,hi]);omega
  rw[if_neg this,if_pos (by omega)];congr 1;omega
theorem nX {ρ:List Nat} {nb i q:Nat} (h:rD ρ nb i=some q):rho ρ nb q=i:=by
 unfold rD at h;split at h
 .rename_i hi
  simp only[ap] at h;subst h;have bF:=List.idxOf_lt_length_of_mem hi;unfold rho;rw[if_pos bF];simp[List.getD,ak bF]
 .split at h
  .rename_i h1 h2
   simp only[ap] at h;subst h;unfold rho;rw[if_neg (by omega)];omega
  .cases h
theorem C7 {ρ:List Nat} {nb i:Nat} (h:rD ρ nb i=none):i<nb:=by
 unfold rD at h;split at h
 .cases h
 .split at h
  .cases h
  .omega
end
section
variable {P:Program} {G:Gl} {tr:List Nat} {n:Nat} {I0:Ft} {M:Mx} {w0:World} {I:Ft} {β:Nat->Option Nat} {ob:Loc->Option Nat} {s:S} {a:Act} {w:World} {o:Oper}
 {next:Act->World->Prop} {Q:Exit->Act->World->Prop} {base:Nat->Prop} {v:Value} {x y:V}
def pn (β β':Nat->Option Nat) (ρ:List Nat) (nb i:Nat):Option Nat:=match rD ρ nb i with
 |some q=>β' q
 |none=>β i
def obN (ob:Loc->Option Nat) (ob':Nat->Nat->Option Nat) (ρ:List Nat) (nb:Nat):Loc->Option Nat
 | .t i=>ob (.t i)
 | .b i j=>match rD ρ nb i with
  |some q=>ob' q j
  |none=>ob (.b i j)
theorem St.called (hst:St G n I0 M w0 I β ob s a w) {ρ:List Nat} {b0 b1:List (List V)} (hρl:ρ.length=b0.length) (hn:ρ.Nodup) (f9:pV s.bx s.nb (rho ρ s.nb) 0 b0) (fO:b0.length<=b1.length)
 {w':World} {I':Ft} {β':Nat->Option Nat} {ob':Nat->Nat->Option Nat} (oI:BelowM (GT G) ⟨Mof β ob (rho ρ s.nb) b0.length,λ_=>none,[]⟩ w w') (L8:∀ b o,I b o->I' b o)
 (JP:∀ b o,I' b o->I b o∨(Wr ⟨Mof β ob (rho ρ s.nb) b0.length,λ_=>none,[]⟩ w b/\b<w'.heap.size)) (sN:∀ b o,I b o->w'.cell? ⟨b,o,none⟩=w.cell? ⟨b,o,none⟩)
 (QG:∀ i,i<b0.length->β' i=kB β (rho ρ s.nb) b0.length i) (JG:∀ i b,b0.length<=i->β' i=some b->Wr ⟨Mof β ob (rho ρ s.nb) b0.length,λ_=>none,[]⟩ w b)
 (pU:BxR (Wr ⟨Mof β ob (rho ρ s.nb) b0.length,λ_=>none,[]⟩ w) I' w' β' ob' b1) :
 St G n I0 M w0 I' (pn β β' ρ s.nb) (obN ob ob' ρ s.nb) { s with bx:=fC (rho ρ s.nb) 0 b1 s.bx,nb:=s.nb+(b1.length - b0.length) } a w'/\
 (∀ i b,β' i=some b->pn β β' ρ s.nb (rho ρ s.nb i)=some b)/\
 (∀ b,Wr ⟨Mof β ob (rho ρ s.nb) b0.length,λ_=>none,[]⟩ w b->Wr M w0 b)/\
 (∀ b,Wr ⟨Mof β ob (rho ρ s.nb) b0.length,λ_=>none,[]⟩ w b->(∀ i j,ob' i j≠some b)->∀ L,obN ob ob' ρ s.nb L≠some b)/\
 (∀ b,Wr ⟨Mof β ob (rho ρ s.nb) b0.length,λ_=>none,[]⟩ w b->(∀ i,β' i≠some b)->∀ i,pn β β' ρ s.nb i≠some b)/\
 (∀ i b,β i=some b->pn β β' ρ s.nb i=some b):=by
 have hl:∀ i,i<ρ.length->ρ.getD i 0<s.nb:=λi hi=>by obtain⟨b,hb⟩:∃ b,b0[i]?=some b:=⟨_,ak (by omega)⟩;have:=(nW b0 0 i b f9 hb).1;rw[ao] at this;simpa[rho,hi] using this
 have pZ:=uw hn hl;have hir:=Rl hn hl;have uj:∀ b,Wr ⟨Mof β ob (rho ρ s.nb) b0.length,λ_=>none,[]⟩ w b->Wr M w0 b:=λb hb=>by
  rcases hb with hb | ⟨q,hq,hb⟩ | ⟨q,j,hq,hb⟩
  .exact .new hst.below hb
  .exact(hst.boxblk hb).2.1
  .exact(hst.obnd _ b hb).2
 have notM1:∀ i b,rD ρ s.nb i=none->β i=some b->¬ Wr ⟨Mof β ob (rho ρ s.nb) b0.length,λ_=>none,[]⟩ w b:=λi b hi hb hw=>by
  rcases hw with hw | ⟨q,hq,h1⟩ | ⟨q,j,hq,h1⟩
  .have:=(hst.boxblk hb).2.2;omega
  .have:=hst.binj _ _ b h1 hb
   rw[<- this,hir] at hi;cases hi
  .exact hst.obx _ b i h1 hb
 have notM2:∀ L b,(∀ i j q,L=.b i j->rD ρ s.nb i≠some q)->ob L=some b->¬ Wr ⟨Mof β ob (rho ρ s.nb) b0.length,λ_=>none,[]⟩ w b:=λL b hL hb hw=>by
  rcases hw with hw | ⟨q,hq,h1⟩ | ⟨q,j,hq,h1⟩
  .have:=(hst.obnd _ b hb).1;omega
  .exact hst.obx _ b _ hb h1
  .have:=hst.oinj _ _ b hb h1
   exact hL _ _ q this (hir q)
 have hβn:∀ i b,β i=some b->pn β β' ρ s.nb i=some b:=λi b hb=>by
  unfold pn;cases hi:rD ρ s.nb i with
  |none=>exact hb
  |some q=>
   have e:=nX hi;have bF:=(hst.boxblk hb).1;have hq:q<ρ.length:=by
    by_cases hq:q<ρ.length
    .exact hq
    .unfold rho at e;rw[if_neg hq] at e;omega
   simp only;rw[QG q (by omega)];unfold kB;rw[if_pos (by omega),e];exact hb
 have hI:∀ b o,I b o->I' b o/\w'.cell? ⟨b,o,none⟩=w.cell? ⟨b,o,none⟩:=λb o hb=>⟨L8 b o hb,sN b o hb⟩;have nf:∀ b,b<w.heap.size->¬ Wr ⟨Mof β ob (rho ρ s.nb) b0.length,λ_=>none,[]⟩ w b->w'.heap[b]?=w.heap[b]?/\∀ o,I' b o->I b o:=λb hb hw=>
  ⟨oI.block b hb (λh=>hw (.inr h)),λo ho=>by
   rcases JP b o ho with h | h
   .exact h
   .exact absurd h.1 hw⟩
 have hbN:∀ i b,pn β β' ρ s.nb i=some b->(∃ q,rD ρ s.nb i=some q/\β' q=some b)∨(rD ρ s.nb i=none/\β i=some b):=λi b hb=>by
  unfold pn at hb;cases hi:rD ρ s.nb i with
  |none=>rw[hi] at hb;exact .inr ⟨rfl,hb⟩
  |some q=>rw[hi] at hb;exact .inl ⟨q,rfl,hb⟩
 have hoN:∀ L b,obN ob ob' ρ s.nb L=some b->(∃ i j q,L=.b i j/\rD ρ s.nb i=some q/\ob' q j=some b)∨((∀ i j q,L=.b i j->rD ρ s.nb i≠some q)/\ob L=some b):=λL b hb=>by
  cases L with
  |t i=>exact .inr ⟨λi j q h=>(by cases h),hb⟩
  |b i j=>
   simp only[obN] at hb;cases hi:rD ρ s.nb i with
   |none=>rw[hi] at hb;exact .inr ⟨λi' j' q h=>(by cases h;rw[hi];simp),hb⟩
   |some q=>rw[hi] at hb;exact .inl ⟨i,j,q,rfl,hi,hb⟩
 have hβw:∀ q b,β' q=some b->Wr ⟨Mof β ob (rho ρ s.nb) b0.length,λ_=>none,[]⟩ w b:=λq b hb=>by
  by_cases hq:q<b0.length
  .rw[QG q hq] at hb
   exact .inr (.inl ⟨q,(nz hb).1,(nz hb).2⟩)
  .exact JG q b (by omega) hb
 have how:∀ i j b,ob' i j=some b->Wr ⟨Mof β ob (rho ρ s.nb) b0.length,λ_=>none,[]⟩ w b:=λi j b hb=>(pU.obnd i j b hb).2;have eF:∀ i b,β' i=some b->pn β β' ρ s.nb (rho ρ s.nb i)=some b:=λi b hb=>by unfold pn;rw[hir];exact hb
 refine⟨{
  size:=hst.size,defers:=hst.defers
  below:=⟨oI.os.trans hst.below.os,oI.tape.trans hst.below.tape,oI.output.trans hst.below.output,ci hst.below.size oI.size,λk hk hM=>
   (oI.block k (co hk hst.below.size) (λh=>by
    rcases uj k (.inr h) with h1 | h1
    .omega
    .exact hM h1)).trans (hst.below.block k hk hM),λt=>ci (hst.below.drawn t) (oI.drawn t)⟩
  ilow:=λb o h=>L8 b o (hst.ilow b o h)
  kept:=λb o h=>(sN b o (hst.ilow b o h)).trans (hst.kept b o h)
  ihigh:=λb o h=>by
   rcases JP b o h with h | h
   .exact hst.ihigh b o h
   .exact .inr (uj b h.1)
  ibnd:=λb o h=>by
   rcases JP b o h with h | h
   .exact co (hst.ibnd b o h) oI.size
   .exact h.2
  fr:=λt=>(hst.fr t).mono hI hβn λb hb=>nf b (hst.obnd _ b hb).1 (notM2 (.t t) b (λi j q h=>by cases h) hb)
  bx:=λi hi=>by
   simp only at hi;cases hq:rD ρ s.nb i with
   |some q=>
    have e:=nX hq;have hqb:q<b1.length:=by
     by_cases h1:q<ρ.length
     .omega
     .unfold rho at e;rw[if_neg h1] at e;omega
    obtain⟨blk,cur,e1,e2,e3,e4,e5,e7⟩:=pU.bx q _ (ak hqb);have nI:fC (rho ρ s.nb) 0 b1 s.bx i=b1[q].map (V.ren (rho ρ s.nb)):=(by have:=AX (ρ:=rho ρ s.nb) b1 0 s.bx q _ (ak hqb) (λi j _ _ h=>by rw[ao,ao] at h;exact pZ i j h);rw[ao,e] at this;exact this);refine⟨blk,cur,by unfold pn;rw[hq];exact e1,uj _ e2,e3.congr (by simp only[nI,aj]) (by simp only[nI,Hb]),by simp only[nI,aj];exact e4,λj=>?_,e7⟩;simp only[nI,AW];have:obN ob ob' ρ s.nb (.b i j)=ob' q j:=(by simp only[obN,hq]);rw[this];exact((e5 j).toRen eF).wider λb hb=>uj b (how q j b hb)
   |none=>
    have bF:=C7 hq;obtain⟨blk,cur,e1,e2,e3,e4,e5,e7⟩:=hst.bx i bF;have hnw:=notM1 i blk hq e1;obtain⟨g1,g2⟩:=nf blk e3.lt hnw;have nI:fC (rho ρ s.nb) 0 b1 s.bx i=s.bx i:=qe b1 0 s.bx i λq _ h=>by rw[ao] at h;rw[<- h,hir] at hq;cases hq
    refine⟨blk,cur,hβn i blk e1,e2,(e3.mono g1).congr (by simp only[nI]) (by simp only[nI]),by simp only[nI];exact e4,λj=>?_,λo ho=>e7 o (g2 o ho)⟩;simp only[nI];have:obN ob ob' ρ s.nb (.b i j)=ob (.b i j):=(by simp only[obN,hq]);rw[this];exact(e5 j).mono hI hβn λb hb=>nf b (hst.obnd _ b hb).1 (notM2 (.b i j) b (λi' j' q h=>by cases h;rw[hq];simp) hb)
  bnone:=λi hi=>by
   simp only at hi;unfold pn;cases hq:rD ρ s.nb i with
   |some q=>
    have e:=nX hq;refine pU.bnone q ?_;by_cases h1:q<ρ.length
    .unfold rho at e;rw[if_pos h1] at e;have:=hl q h1;omega
    .unfold rho at e;rw[if_neg h1] at e;omega
   |none=>have:=C7 hq;omega
  ext:=λi b he=>hβn i b (hst.ext i b he)
  bnew:=λi b hi=>by
   rcases hbN i b hi with⟨q,h1,h2⟩ | ⟨h1,h2⟩
   .by_cases hq:q<b0.length
    .rw[QG q hq] at h2
     have:=hst.bnew _ b (nz h2).2;rw[nX h1] at this;exact this
    .exact .inr (uj b (JG q b (by omega) h2))
   .exact hst.bnew i b h2
  binj:=λi j b hi hj=>by
   rcases hbN i b hi with⟨q,h1,h2⟩ | ⟨h1,h2⟩<;>rcases hbN j b hj with⟨p,h3,h4⟩ | ⟨h3,h4⟩
   .have:=pU.binj q p b h2 h4
    rw[<- nX h1,<- nX h3,this]
   .exact absurd (hβw q b h2) (notM1 j b h3 h4)
   .exact absurd (hβw p b h4) (notM1 i b h1 h2)
   .exact hst.binj i j b h2 h4
  oinj:=λL L' b hL xX=>by
   rcases hoN L b hL with⟨i,j,q,rfl,h1,h2⟩ | ⟨h1,h2⟩<;>rcases hoN L' b xX with⟨i',j',q',rfl,h3,h4⟩ | ⟨h3,h4⟩
   .obtain⟨e1,e2⟩:=pU.oinj q j q' j' b h2 h4
    rw[<- nX h1,<- nX h3,e1,e2]
   .exact absurd (how q j b h2) (notM2 L' b h3 h4)
   .exact absurd (how q' j' b h4) (notM2 L b h1 h2)
   .exact hst.oinj L L' b h2 h4
  obx:=λL b i hL hi=>by
   rcases hoN L b hL with⟨i',j,q,rfl,h1,h2⟩ | ⟨h1,h2⟩<;>rcases hbN i b hi with⟨p,h3,h4⟩ | ⟨h3,h4⟩
   .exact pU.obx q j b p h2 h4
   .exact absurd (how q j b h2) (notM1 i b h3 h4)
   .exact absurd (hβw p b h4) (notM2 L b h1 h2)
   .exact hst.obx L b i h2 h4
  obnd:=λL b hL=>by
   rcases hoN L b hL with⟨i',j,q,rfl,h1,h2⟩ | ⟨h1,h2⟩
   .exact⟨(pU.obnd q j b h2).1,uj b (how q j b h2)⟩
   .exact⟨co (hst.obnd L b h2).1 oI.size,(hst.obnd L b h2).2⟩
  glob:=λg cs hg=>(hst.glob g cs hg).mono hI },eF,uj,λb hw eX L hL=>by
  rcases hoN L b hL with⟨i',j,q,rfl,h1,h2⟩ | ⟨h1,h2⟩
  .exact eX q j h2
  .exact notM2 L b h1 h2 hw,λb hw eX i hi=>by
  rcases hbN i b hi with⟨q,h1,h2⟩ | ⟨h1,h2⟩
  .exact eX q h2
  .exact notM1 i b h1 h2 hw,hβn⟩
end
section
variable {P:Program} {G:Gl} {tr:List Nat} {n:Nat} {I0:Ft} {M:Mx} {w0:World} {I:Ft} {β:Nat->Option Nat} {ob:Loc->Option Nat} {s:S} {a:Act} {w:World} {o:Oper}
 {next:Act->World->Prop} {Q:Exit->Act->World->Prop} {base:Nat->Prop} {v:Value} {x y:V}
def ArgsL (base:Nat->Prop) (I:Ft) (β:Nat->Option Nat) (w:World) (vs:List Value) (xs:List V):Prop:=vs.length=xs.length/\∀ (j:Nat) (x:V),xs[j]?=some x->LR base I β w none (vs.getD j undef) x.fz
theorem ArgsL.append {vs us:List Value} {xs ys:List V} (h:ArgsL base I β w vs xs) (h':ArgsL base I β w us ys):ArgsL base I β w (vs++us) (xs++ys):=by
 refine⟨by simp[h.1,h'.1],λj x hx=>?_⟩;have hl:=h.1;by_cases hj:j<xs.length
 .rw[aM hj] at hx
  have:=h.2 j x hx;rw[aG,aM (by omega)];rw[aG] at this;exact this
 .rw[aU (by omega)] at hx
  have:=h'.2 _ x hx;rw[aG,aU (by omega),hl];rw[aG] at this;exact this
theorem ml (hst:St G n I0 M w0 I β ob s a w):∀ l:List Operand,ArgsL (Wr M w0) I β w (l.map a.eval) (l.map (ev G s))
 |[]=>⟨rfl,by simp⟩
 |x::l=>by
  have ih:=ml hst l;refine⟨by simp,λj z hz=>?_⟩;cases j with
  |zero=>simp at hz;subst hz;exact AG hst x
  |succ j=>simpa using ih.2 j z (by simpa using hz)
theorem yj (hst:St G n I0 M w0 I β ob s a w):∀ l:List Operand,ArgsL (Wr M w0) I β w (l.map a.eval) (l.map (evX G s))
 |[]=>⟨rfl,by simp⟩
 |x::l=>by
  have ih:=yj hst l;refine⟨by simp,λj z hz=>?_⟩;cases j with
  |zero=>
   simp at hz;subst hz;unfold evX;split
   .exact .ofC (.ex _ rfl rfl)
   .exact AG hst x
  |succ j=>simpa using ih.2 j z (by simpa using hz)
theorem nK (vs:Array Value) (cs:List C) (h:vs.size=cs.length) (hc:∀ j c,cs[j]?=some c->CR I w (vs.getD j undef) c):ArgsL base I β w vs.toList (cs.map .c):=by refine⟨by simp[h],λj x hx=>?_⟩;obtain⟨c,h1,rfl⟩:=Al hx;have:=hc j c h1;rw[aG,aY];rw[au] at this;exact .ofC this
theorem nL (vs:Array Value) (xs:List V) (h:vs.size=xs.length) (hc:∀ j x,xs[j]?=some x->PR I β w (vs.getD j undef) x):ArgsL base I β w vs.toList xs:=by refine⟨by simp[h],λj x hx=>?_⟩;have:=hc j x hx;rw[aG,aY];rw[au] at this;exact(PR.toLR this).fz none
theorem He (hst:St G n I0 M w0 I β ob s a w) (hd:∀ d,o.dst=some d->d<n) {f:FuncId} {vs:List Value} {all:List V} {ρ:List Nat} {cargs:List V} {b0 b1:List (List V)} {r:V}
 (dV:FnB P G f cargs b0 r b1) (cP:ArgsL (Wr M w0) I β w vs all) (dC:all.map V.fz=cargs.map (V.ren (rho ρ s.nb))) (hρ:ρ.length=b0.length/\ρ.Nodup) (f9:pV s.bx s.nb (rho ρ s.nb) 0 b0)
 (bO:(execOp a.eval o).run P w=.ok (.enter f vs.toArray) w)
 (hk:∀ a' w',SE G n I0 M w0 (({ s with bx:=fC (rho ρ s.nb) 0 b1 s.bx,nb:=s.nb+(b1.length - b0.length) }:S).put o.dst (r.ren (rho ρ s.nb))) a' w'->next a' w'):o.wp P a w next Q:=by
 unfold Oper.wp;rw[bO];simp only[Oper.upon];obtain⟨hρl,hn⟩:=hρ;obtain⟨Cg,kR,fO⟩:=dV.2.1;have hl:∀ i,i<ρ.length->ρ.getD i 0<s.nb:=λi hi=>by obtain⟨b,hb⟩:∃ b,b0[i]?=some b:=⟨_,ak (by omega)⟩;have:=(nW b0 0 i b f9 hb).1;rw[ao] at this;simpa[rho,hi] using this
 have pZ:=uw hn hl;have cH:all.length=cargs.length:=by simpa using kK List.length dC
 refine (dV.2.2 I ⟨Mof β ob (rho ρ s.nb) b0.length,λ_=>none,[]⟩ w vs.toArray (kB β (rho ρ s.nb) b0.length) (obC ob (rho ρ s.nb) b0.length) hst.ibnd hst.glob (hst.give pZ f9 kR)
  (by have:=cP.1;simp;omega) (λj x hx=>?_)).mono ?_
 .have hj:j<cargs.length:=(am.1 hx).1
  have hz:all[j]?=some all[j]:=ak (by omega);have h1:=cP.2 j _ hz;have h2:all[j].fz=x.ren (rho ρ s.nb):=by have e1:(all.map V.fz)[j]?=some all[j].fz:=(by simp[hz]);have e2:(cargs.map (V.ren (rho ρ s.nb)))[j]?=some (x.ren (rho ρ s.nb)):=(by simp[hx]);rw[dC,e2] at e1;exact(ew e1).symm
  rw[h2] at h1;have h3:=h1.ren (β':=kB β (rho ρ s.nb) b0.length) (Cg x (bn hx)) (λi b hi hb=>by simp[kB,hi,hb]);have h4:=h3.wider (base':=Wr ⟨Mof β ob (rho ρ s.nb) b0.length,λ_=>none,[]⟩ w) λb hb=>by cases hb
  simpa using h4
 .rintro e w' ⟨v,I',β',ob',o',rfl,oI,L8,JP,sN,QG,JG,pU,iR,ji⟩
  simp only;obtain⟨bP,eF,uj,eX,zO,_⟩:=hst.called hρl hn f9 fO oI L8 JP sN QG JG pU;refine hk _ _ ?_;have Wx:LR (Wr M w0) I' (pn β β' ρ s.nb) w' o' v (r.ren (rho ρ s.nb)):=(iR.toRen eF).wider λb hb=>uj b (ji b hb).1.2;cases o0:o.dst with
  |none=>exact⟨_,_,_,bP⟩
  |some d=>
   refine⟨_,_,_,bP.put d (hd d o0) Wx λb hb=>?_⟩;obtain⟨⟨h1,h2⟩,h3,h4⟩:=ji b hb;refine⟨⟨h1,uj b h2⟩,λL hL=>?_,zO b h2 h4⟩;simp only[upL] at hL;split at hL
   .cases hL
   .exact eX b h2 h3 L hL
theorem rE {K:S->V->Prop} {f:Operand} {args:Array Operand} {ts:Array TypeId} (ho:o.op=.call { callee:=.value f,args:=args,argTypes:=ts }) (hst:St G n I0 M w0 I β ob s a w)
 (hd:∀ d,o.dst=some d->d<n) (h:vcallB P G s (ev G s f) (args.toList.map (ev G s)) K) (hk:∀ a' w' s' x,K s' x->SE G n I0 M w0 (s'.put o.dst x) a' w'->next a' w'):o.wp P a w next Q:=by
 have hf:=bM hst f;unfold vcallB jX at h;split at h
 .rename_i g all lw
  obtain⟨ρ,cargs,b0,r,b1,dV,dC,hρ,f9,hK⟩:=h;obtain⟨fn,h1,h2,c,h3⟩:=dV.1;unfold eB at lw;split at lw
  .rename_i g' fs cs he
   simp only[ap,er] at lw;obtain⟨rfl,rfl⟩:=lw;rw[he] at hf;obtain⟨vf,vc,hv,q1,q2,q3,q4⟩:=hf.toC.fn_inv;have bO:=lW (P:=P) (w:=w) ho hv h1 h2 h3;refine He hst hd dV (vs:=vf.toList++args.toList.map a.eval++vc.toList) (((nK vf fs q1 q3).append (ml hst _)).append (nK vc cs q2 q4)) dC hρ f9 ?_ (λa' w'=>hk a' w' _ _ hK);rw[bO];congr 2;apply dt;simp
  .rename_i g' fs cs he
   simp only[ap,er] at lw;obtain⟨rfl,rfl⟩:=lw;rw[he] at hf;simp only[LR] at hf;obtain⟨vf,vc,hv,q1,q2,q3,q4⟩:=hf;have bO:=lW (P:=P) (w:=w) ho hv h1 h2 h3;refine He hst hd dV (vs:=vf.toList++args.toList.map a.eval++vc.toList) (((nL vf fs q1 q3).append (ml hst _)).append (nL vc cs q2 q4)) dC hρ f9 ?_ (λa' w'=>hk a' w' _ _ hK);rw[bO];congr 2;apply dt;simp
  .cases lw
 .exact h.elim
theorem Hf (hst:St G n I0 M w0 I β ob s a w) (hd:∀ d,o.dst=some d->d<n) {f:FuncId} {vs:List Value} {all:List V} {ρ:List Nat} {cargs:List V} {b0:List (List V)} {R:V->List (List V)->Prop}
 (dV:FnE P G f cargs b0 R) (cP:ArgsL (Wr M w0) I β w vs all) (dC:all.map V.fz=cargs.map (V.ren (rho ρ s.nb))) (hρ:ρ.length=b0.length/\ρ.Nodup) (f9:pV s.bx s.nb (rho ρ s.nb) 0 b0)
 (bO:(execOp a.eval o).run P w=.ok (.enter f vs.toArray) w)
 (hk:∀ r b1,R r b1->∀ a' w',SE G n I0 M w0 (({ s with bx:=fC (rho ρ s.nb) 0 b1 s.bx,nb:=s.nb+(b1.length - b0.length) }:S).put o.dst (r.ren (rho ρ s.nb))) a' w'->next a' w'):o.wp P a w next Q:=by
 unfold Oper.wp;rw[bO];simp only[Oper.upon];obtain⟨hρl,hn⟩:=hρ;obtain⟨Cg,kR,fO⟩:=dV.2.1;have hl:∀ i,i<ρ.length->ρ.getD i 0<s.nb:=λi hi=>by obtain⟨b,hb⟩:∃ b,b0[i]?=some b:=⟨_,ak (by omega)⟩;have:=(nW b0 0 i b f9 hb).1;rw[ao] at this;simpa[rho,hi] using this
 have pZ:=uw hn hl;have cH:all.length=cargs.length:=by simpa using kK List.length dC
 refine (dV.2.2 I ⟨Mof β ob (rho ρ s.nb) b0.length,λ_=>none,[]⟩ w vs.toArray (kB β (rho ρ s.nb) b0.length) (obC ob (rho ρ s.nb) b0.length) hst.ibnd hst.glob (hst.give pZ f9 kR)
  (by have:=cP.1;simp;omega) (λj x hx=>?_)).mono ?_
 .have hj:j<cargs.length:=(am.1 hx).1
  have hz:all[j]?=some all[j]:=ak (by omega);have h1:=cP.2 j _ hz;have h2:all[j].fz=x.ren (rho ρ s.nb):=by have e1:(all.map V.fz)[j]?=some all[j].fz:=(by simp[hz]);have e2:(cargs.map (V.ren (rho ρ s.nb)))[j]?=some (x.ren (rho ρ s.nb)):=(by simp[hx]);rw[dC,e2] at e1;exact(ew e1).symm
  rw[h2] at h1;have h3:=h1.ren (β':=kB β (rho ρ s.nb) b0.length) (Cg x (bn hx)) (λi b hi hb=>by simp[kB,hi,hb]);have h4:=h3.wider (base':=Wr ⟨Mof β ob (rho ρ s.nb) b0.length,λ_=>none,[]⟩ w) λb hb=>by cases hb
  simpa using h4
 .rintro e w' ⟨r,b1,hR,v,I',β',ob',o',rfl,oI,L8,JP,sN,QG,JG,pU,iR,ji⟩
  simp only;obtain⟨bP,eF,uj,eX,zO,_⟩:=hst.called hρl hn f9 (fO r b1 hR) oI L8 JP sN QG JG pU;refine hk r b1 hR _ _ ?_;have Wx:LR (Wr M w0) I' (pn β β' ρ s.nb) w' o' v (r.ren (rho ρ s.nb)):=(iR.toRen eF).wider λb hb=>uj b (ji b hb).1.2;cases o0:o.dst with
  |none=>exact⟨_,_,_,bP⟩
  |some d=>
   refine⟨_,_,_,bP.put d (hd d o0) Wx λb hb=>?_⟩;obtain⟨⟨h1,h2⟩,h3,h4⟩:=ji b hb;refine⟨⟨h1,uj b h2⟩,λL hL=>?_,zO b h2 h4⟩;simp only[upL] at hL;split at hL
   .cases hL
   .exact eX b h2 h3 L hL
theorem EV {K:S->V->Prop} {f:Operand} {args:Array Operand} {ts:Array TypeId} (ho:o.op=.call { callee:=.value f,args:=args,argTypes:=ts }) (hst:St G n I0 M w0 I β ob s a w)
 (hd:∀ d,o.dst=some d->d<n) (h:mK P G s (ev G s f) (args.toList.map (evX G s)) K) (hk:∀ a' w' s' x,K s' x->SE G n I0 M w0 (s'.put o.dst x) a' w'->next a' w'):o.wp P a w next Q:=by
 have hf:=bM hst f;unfold mK at h;split at h
 .rename_i g all lw
  obtain⟨ρ,cargs,b0,R,dV,dC,hρ,f9,hK⟩:=h;obtain⟨fn,h1,h2,c,h3⟩:=dV.1;unfold eB at lw;split at lw
  .rename_i g' fs cs he
   simp only[ap,er] at lw;obtain⟨rfl,rfl⟩:=lw;rw[he] at hf;obtain⟨vf,vc,hv,q1,q2,q3,q4⟩:=hf.toC.fn_inv;have bO:=lW (P:=P) (w:=w) ho hv h1 h2 h3;refine Hf hst hd dV (vs:=vf.toList++args.toList.map a.eval++vc.toList) (((nK vf fs q1 q3).append (yj hst _)).append (nK vc cs q2 q4)) dC hρ f9 ?_ (λr b1 hR a' w'=>hk a' w' _ _ (hK r b1 hR));rw[bO];congr 2;apply dt;simp
  .rename_i g' fs cs he
   simp only[ap,er] at lw;obtain⟨rfl,rfl⟩:=lw;rw[he] at hf;simp only[LR] at hf;obtain⟨vf,vc,hv,q1,q2,q3,q4⟩:=hf;have bO:=lW (P:=P) (w:=w) ho hv h1 h2 h3;refine Hf hst hd dV (vs:=vf.toList++args.toList.map a.eval++vc.toList) (((nL vf fs q1 q3).append (yj hst _)).append (nL vc cs q2 q4)) dC hρ f9 ?_ (λr b1 hR a' w'=>hk a' w' _ _ (hK r b1 hR));rw[bO];congr 2;apply dt;simp
  .cases lw
 .exact h.elim
end
def FW (l:Option Nat):Fence:={ Fence.wide with round:=l }
section
variable {P:Program} {n:Nat} {l:Option Nat} {a:Act} {w:World} {o:Oper} {next:Act->World->Prop} {Q:Exit->Act->World->Prop}
theorem po {f:FuncId} {args:Array Value} {R:Ending->World->Prop}:CallsIn (FW l) n P f args w R↔Calls P f args w R:=callsIn_wide (n:=n)
theorem Oh {row:String} {args:Array Value} {R:Value->World->Prop} (h:Rows P row args w R):RowsIn (FW l) n P row args w R:=
 λc cs _=>let⟨v,w',h1,h2⟩:=h c cs;⟨v,w',h1,stepsIn_wide.2 h2⟩
theorem Kc {k:Nat} {r:Nat} {f:FuncId} {tmps:Array Value} {assign body:Code} {R:Ending->World->Prop} (h:RoundIn Fence.wide k P r f tmps assign body w R):RoundIn (FW l) n P r f tmps assign body w R:=
 ⟨trivial,λc cs _=>h.2 c cs (room_wide _)⟩
theorem AY (qw:∀ c,o.op≠.defer c) (h:o.wp P a w next Q):o.wpIn (FW l) n P a w next Q:=by
 refine⟨λ_ _=>trivial,?_⟩;rw[Oper.semAt_eq _ _ _ qw];unfold Oper.wp at h;have hd:(FW l).depth.isSome=true->1<=n:=λh=>by cases h
 generalize (execOp a.eval o).run P w=r at *;cases r with
 |ok x w'=>
  cases x<;>simp only[Oper.upon,Oper.uponIn] at h ⊢<;>first
   |exact h
   |exact⟨hd,po.2 h⟩
   |exact⟨hd,Oh h⟩
   |exact h.elim
 |halt x w'=>cases x<;>simp only[Oper.upon,Oper.uponIn] at h ⊢<;>exact h
def AZ (ops:Array Oper):Bool:=ops.toList.all λo=>match o.op with | .defer _=>false | _=>true
theorem Kd {ops:Array Oper} (h:AZ ops=true) (ho:o∈ops.toList):∀ c,o.op≠.defer c:=λc hc=>by have:=a8.1 h o ho;rw[hc] at this;cases this
theorem W5 {ops:Array Oper} (qw:AZ ops=true) (hQ:¬ LetsOut Q) {i:Nat} {K K':Act->World->Prop} (hK:∀ a w,K a w->K' a w) (h:wpOp P ops Q i K a w):wpOpIn (FW l) n P ops Q i K' a w:=by
 unfold wpOp at h;unfold wpOpIn;split
 .rename_i ho;rw[ho] at h;exact hK _ _ h
 .rename_i o ho
  rw[ho] at h;have hm:o∈ops.toList:=by have:=fj ho;simpa using this
  simp only at h;split
  .rename_i hw
   rw[if_pos hw] at h;rcases h with h | h
   .exact AY (Kd qw hm) (Oper.wp_mono hK h)
   .exact absurd h.2 hQ
  .rename_i hw
   rw[if_neg hw] at h;exact⟨λ_ _=>trivial,hK _ _ h⟩
theorem wA {ops:Array Oper} {md:Region.Mode} (qw:AZ ops=true) (hQ:¬ LetsOut Q):∀ (fuel:Nat) (listed:Array Bool) (a:Act) (w:World),wpAny P md ops Q fuel listed a w->wpAnyIn (FW l) n P md ops Q fuel listed a w
 |0,_,_,_,h=>h
 |fuel+1,_,_,_,h=>⟨h.1,λi hi=>W5 qw hQ (λa w h=>wA qw hQ fuel _ a w h) (h.2 i hi)⟩
section
variable {b:Frame} {k:List Item} {cs:List Frame}
theorem mn {c:Code}:step P (lone (b.atR a (.code (.scope c)::k)) cs w)=.next (lone (b.atR a (.code c::.inScope c::k)) cs w):=
 step_lone_go (by simp[stepG,stepG.exec,Frame.atR])
theorem Cv {c:Code}:step P (lone (b.atR a (.inScope c::k)) cs w)=.next (lone (b.atR a k) cs w):=
 step_lone_go (by simp[stepG,stepG.exec,Frame.atR])
end
theorem uV {c:Code} (h:c.wpIn (FW l) n P (Exit.noGoto Q) a w):(Code.scope c).wpIn (FW l) n P Q a w:=by
 intro b k cs NZ hb hr;have h0:(lone (b.atR a (.code (.scope c)::k)) cs w).fenced P (FW l):=fenced_calm hb hr rfl;obtain⟨e,a₁,w₁,hq,QH⟩:=h b (.inScope c::k) cs NZ hb hr;cases e with
 |normal=>exact⟨.normal,a₁,w₁,hq,.head h0 mn (StepsIn.trans QH (.one (fenced_calm hb hr rfl) Cv))⟩
 |exit id=>
  have hx:exitTo id (.inScope c::k)=exitTo id k:=by simp[exitTo]
  exact⟨.exit id,a₁,w₁,hq,λk' hk=>.head h0 mn (QH.1 k' (by rw[hx];exact hk)),
   λhr' hk=>let⟨k₁,h1,h2⟩:=QH.2 hr' (by rw[hx];exact hk);⟨k₁,h1,.head h0 mn h2⟩⟩
 |goto l=>exact hq.elim
 |ret=>exact⟨_,a₁,w₁,hq,.of_steps (.one h0 mn) QH⟩
 |panic ch=>exact⟨_,a₁,w₁,hq,.of_steps (.one h0 mn) QH⟩
 |outgrown=>exact⟨_,a₁,w₁,hq,.of_steps (.one h0 mn) QH⟩
end
section
variable {P:Program} {G:Gl} {tr:List Nat} {n:Nat} {I0:Ft} {M:Mx} {w0:World} {I:Ft} {β:Nat->Option Nat} {ob:Loc->Option Nat} {s:S} {a:Act} {w:World} {o:Oper}
 {next:Act->World->Prop} {Q:Exit->Act->World->Prop} {base:Nat->Prop} {v:Value} {x y:V}
theorem SE.put (h:St G n I0 M w0 I β ob s a w) {dst:Option Tmp} (hd:∀ d,dst=some d->d<n) (hv:LR (Wr M w0) I β w none v x):SE G n I0 M w0 (s.put dst x) (a.put dst v) w:=by
 cases dst with
 |none=>exact⟨_,_,_,h⟩
 |some d=>exact⟨_,_,_,h.put d (hd d rfl) hv FreeOb.nothing⟩
theorem Rm {u:Value} {c:C} (h:zc u=some c):LR base I β w none u (mL c):=by
 unfold zc at h;split at h
 .simp only[ap] at h;subst h
  exact⟨.nil none 0 (λ_=>rfl),.inl ⟨rfl,rfl,none,rfl⟩⟩
 .split at h
  .simp only[ap] at h;subst h
   exact .ofLit ‹_›
  .cases h
theorem St.newCells (hst:St G n I0 M w0 I β ob s a w) (e:TypeId) {cells:Array Value} {cs:List C} (hc:Cells I w cells cs) :
 St G n I0 M w0 I (up β s.nb (some w.heap.size)) (λL=>match L with | .b i j=>if i=s.nb then none else ob (.b i j) | L=>ob L)
  { s with bx:=up s.bx s.nb (cs.map .c),nb:=s.nb+1 } a (w.alloc (.cells cells e)):=
 hst.newBox (cur:=cells) (T:=.of e) (cs:=cs.map .c) (od:=λ_=>none) (Nat.le_of_eq (by simpa using hc.1.symm)) RT.of_ok (λq=>by
  by_cases hq:q<cs.length
  .have e2:(cs.map V.c).getD q .un=.c cs[q]:=by simp[List.getD,hq]
   rw[e2];exact .ofC (hc.2 q _ (ak hq))
  .have e2:(cs.map V.c).getD q .un=.un:=by simp[List.getD,cE (dY hq)]
   rw[e2];simp only[LR];exact .un _) (λu hu=>by
  obtain⟨q,hq,rfl⟩:=gQ.1 hu;have qq:q<cs.length:=by rw[<- hc.1];exact hq
  have:=(hc.2 q _ (ak qq)).oneCell;simpa[aF hq,hq] using this) (λ_ _ h=>by cases h) (λ_ _ _ h=>by cases h) (by cases cs<;>rfl)
theorem St.newPre (hst:St G n I0 M w0 I β ob s a w) (e:TypeId) {cells:Array Value} {cs:List C} (ej:cs.length<=cells.size) (ka:∀ q c,cs[q]?=some c->CR I w (cells.getD q undef) c)
 (kg:∀ u∈cells,u.oneCell'=true) :
 St G n I0 M w0 I (up β s.nb (some w.heap.size)) (λL=>match L with | .b i j=>if i=s.nb then none else ob (.b i j) | L=>ob L)
  { s with bx:=up s.bx s.nb (cs.map .c),nb:=s.nb+1 } a (w.alloc (.cells cells e)):=
 hst.newBox (cur:=cells) (T:=.of e) (cs:=cs.map .c) (od:=λ_=>none) (by simpa using ej) RT.of_ok (λq=>by
  by_cases hq:q<cs.length
  .have e2:(cs.map V.c).getD q .un=.c cs[q]:=by simp[List.getD,hq]
   rw[e2];exact .ofC (ka q _ (ak hq))
  .have e2:(cs.map V.c).getD q .un=.un:=by simp[List.getD,cE (dY hq)]
   rw[e2];simp only[LR];exact .un _) kg (λ_ _ h=>by cases h) (λ_ _ _ h=>by cases h) (by cases cs<;>rfl)
theorem Ke {K:S->Prop} {T:TypeId} {p X:Operand} {i:TI} {blk j b k len cap q:Nat} {E:TypeId} {es:List (List C)} {cs:List C} (hst:St G n I0 M w0 I β ob s a w) (hd:∀ d,o.dst=some d->d<n) (cC:o.op=.store T p X) (hi:ti P T=some i) (hp:ev G s p=.c (.ex (.pointer (some ⟨blk,j,none⟩))))
 (hb:b<s.nb) (lV:dE (s.bx b)=false) (hkk:(s.bx b)[k]?=some (.gg (.slice (some ⟨blk,0,none⟩) len cap) (some (E,i.size)) es)) (ju:(ev G s X).cs=some cs) (nr:cs.length=i.size) (hpz:0<i.size) (hq:q<es.length) (hj:q*i.size=j)
 (h:K ((let s':=s.use (cL tr o);{ s' with bx:=up s.bx b ((s.bx b).set k (.gg (.slice (some ⟨blk,0,none⟩) len cap) (some (E,i.size)) (es.set q cs))) }:S).put o.dst .sk))
 (hk:∀ a' w' s',K s'->SE G n I0 M w0 s' a' w'->next a' w'):o.wp P a w next Q:=by
 obtain⟨j',d,QU,JE,_,ej,_,lU,_⟩:=bL hi;obtain⟨ob',h1,h2⟩:=hst.use (cL tr o);have pU:(s.use (cL tr o)).bx=s.bx/\(s.use (cL tr o)).nb=s.nb:=by
  cases cL tr o with
  |none=>exact⟨rfl,rfl⟩
  |some t=>simp only[S.use];split<;>exact⟨rfl,rfl⟩
 have hpv:=bM hst p;rw[hp] at hpv;have hpe:=hpv.toC.ex_inv;have Ay:=Q9 (bM hst X) ju;obtain⟨cur,⟨g1,g2,g3,g4,g5,g6,g7⟩,nI⟩:=h1.ggSet (b:=b) (k:=k) (by rw[pU.2];exact hb) (by rw[pU.1];exact hkk);have nq:=bZ es g5;have ui:(a.eval X).cells.toList.length=i.size:=by rw[cy,Ay.1,nr]
 have Mb:cur.toList.length=cur.size:=cy;have fO:=bf i.size (show q+1<=cap by omega);have Ma:=bf i.size (show q+1<=es.length from hq);rw[dy,Nat.one_mul,<- g3,hj] at fO;rw[dy,Nat.one_mul,hj] at Ma;have abm:RelL I w (a.eval X).cells.toList cs:=λq c hq=>by
  have:=Ay.2 q c hq;have qq:q<(a.eval X).cells.size:=by rw[Ay.1];exact(am.1 hq).1
  refine⟨(a.eval X).cells[q],by rw[aY,aF qq],?_⟩;rw[au,aF qq] at this;exact this
 have abn:∀ u∈(a.eval X).cells.toList,u.oneCell'=true:=λu hu=>by
  obtain⟨q,hq⟩:=List.mem_iff_getElem?.1 hu;have qq:q<cs.length:=by rw[nr,<- ui];exact(am.1 hq).1
  obtain⟨u',CV,ka⟩:=abm q _ (ak qq);rw[hq] at CV;cases CV;exact ka.oneCell
 have xR:RelL I w cur.toList es.flatten:=λq c hq=>by have qq:=(am.1 hq).1;rw[nq] at qq;have:=bf i.size g4;refine⟨cur.getD q undef,?_,g6 q c hq⟩;rw[aY,au,aF (show q<cur.size by omega)];rfl
 have bO:(Instr.storeAt T (a.eval p) (a.eval X)).run P w=.ok () (w.setRow blk (cur.toList.take j++(a.eval X).cells.toList++cur.toList.drop (j+i.size)).toArray):=by rw[hpe];simp only[Instr.storeAt,Instr.sureAddr,aP,bB,aD];unfold storeVar;simp only[aP,fk w QU,aD];rw[if_neg (by rw[eI QU,<- ej,Ay.1,nr];simp)];have:=jf (P:=P) blk j (.of E) (a.eval X).cells.toList 0 cur w g2 RT.of_ok (by rw[ui];omega) abn;rw[ui] at this;simpa using this
 have oG:=nI (es.set q cs) (cur.toList.take j++(a.eval X).cells.toList++cur.toList.drop (j+i.size)) (by simp) (λx hx=>by
  rcases List.mem_or_eq_of_mem_set hx with hx | rfl
  .exact g5 x hx
  .exact nr)
  (by rw[aB,aB,ui,bb,dh,Mb,cA (by omega)];omega)
  (λu hu=>by
   rcases bh.1 hu with hu | hu
   .rcases bh.1 hu with hu | hu
    .exact g7 u (dA.1 (cX hu))
    .exact abn u hu
   .exact g7 u (dA.1 (cY hu)))
  (by
   rw[ES g5 hq,hj];refine RelL.append (RelL.append (xR.take _) abm ?_) (xR.drop _) ?_
   .rw[bb,bb,Mb,nq,cA (by omega),cA (by omega)]
   .rw[aB,aB,ui,nr,bb,bb,Mb,nq,cA (by omega),cA (by omega)])
 unfold Oper.wp;obtain⟨dst,op,type,pos,after,guard⟩:=o;simp only at cC;subst cC;simp only[execOp,aP,bO,aD,bB,Oper.upon];rw[pU.1] at oG;have Wy:=SE.put (v:=undef) (x:=.sk) oG hd (by simp only[LR];exact .sk);exact hk _ _ _ h Wy
theorem A0 {ρ:Nat->Nat}:∀ (b:List (List V)) (i:Nat) (bx:Nat->List V) (nb:Nat),pV bx nb ρ i b->fC ρ i b bx=bx
 |[],_,_,_,_=>rfl
 |x::r,i,bx,nb,h=>by
  have e:up bx (ρ i) (x.map (V.ren ρ))=bx:=by rw[<- h.1.2,qa]
  show fC ρ (i+1) r (up bx (ρ i) (x.map (V.ren ρ)))=bx;rw[e];exact A0 r (i+1) bx nb h.2
theorem Rn {f:V} {args:List V} {K:V->Prop} (h:mc P G s f args K):vcallB P G s f args (λs' x=>s'=s/\K x):=by
 unfold mc at h;unfold vcallB jX;split at h
 .rename_i g all hc
  simp only[hc];obtain⟨ρ,cargs,b0,r,h1,h2,h3,h4,h5,h6⟩:=h;refine⟨ρ,cargs,b0,r,b0,h1,h2 _,h3,h4 _,?_,by rw[h5];exact h6⟩;rw[A0 _ _ _ _ (h4 s.nb),kw];rfl
 .exact h.elim
theorem C9 {K:V->Prop} {f:Operand} {args:Array Operand} {ts:Array TypeId} (ho:o.op=.call { callee:=.value f,args:=args,argTypes:=ts }) (hst:St G n I0 M w0 I β ob s a w) (hd:∀ d,o.dst=some d->d<n)
 (h:VYQ P G tr o s f args K) (hk:∀ a' w' x,K x->SE G n I0 M w0 (s.after tr o x) a' w'->next a' w'):o.wp P a w next Q:=by
 unfold VYQ at h;split at h
 .refine rE ho hst hd (Rn h) (λa' w' s' x hK cM=>?_)
  obtain⟨rfl,hx⟩:=hK;refine hk a' w' x hx ?_;have hc:cL tr o=none:=by simp[cL,ho]
  unfold S.after;rw[hc];exact cM
 .exact o6 (tr:=tr) hst hd h hk
theorem nY {K:S->Prop} (hst:St G n I0 M w0 I β ob s a w) (hd:∀ d,o.dst=some d->d<n) (hy:qy tr o=false) (h:VStep P G tr o s K)
 (hk:∀ a' w' s',K s'->SE G n I0 M w0 s' a' w'->next a' w'):o.wp P a w next Q:=by
 have gen:VYK P G tr o s (λv=>K (s.after tr o v))->o.wp P a w next Q:=λh=>o6 (tr:=tr) hst hd h (λa' w' x hx cM=>hk _ _ _ hx cM)
 unfold VStep at h;split at h
 .
  rename_i T cC;split at h
  .rename_i z _ _ hi
   obtain⟨j,d,h1,h2,_,_,_,_,hz,_⟩:=bL hi;simp only at hz;split at hz
   .rename_i zv vz
    have cH:=List.mapM_eq_some_length hz.symm;have zO:=hst.newBox (cur:=zv.cells) (T:=.of T) (cs:=z.map mL) (od:=λ_=>none) (Nat.le_of_eq (by simpa using cH)) RT.of_ok (λq=>by
     by_cases hq:q<z.length
     .obtain⟨u,hu,uh⟩:=List.mapM_eq_some_get hz.symm q z[q] (ak hq)
      have e1:zv.cells.getD q undef=u:=(by rw[aY] at hu;simp[hu]);have e2:(z.map mL).getD q .un=mL z[q]:=(by simp[List.getD,hq]);rw[e1,e2];exact Rm uh
     .have e2:(z.map mL).getD q .un=.un:=by simp[List.getD,cE (dY hq)]
      rw[e2];simp only[LR];exact .un _) (λu hu=>by
     obtain⟨q,hq,rfl⟩:=gQ.1 hu;have qq:q<z.length:=(by rw[cH];simpa using hq);obtain⟨u,hu,uh⟩:=List.mapM_eq_some_get hz.symm q z[q] (ak qq);rw[aY,aF hq] at hu;cases hu;exact(Mr (I:=I) (w:=w) uh).oneCell) (λ_ _ h=>by cases h) (λ_ _ _ h=>by cases h) (My λx hx=>by
     obtain⟨c,_,rfl⟩:=ce.1 hx;unfold mL;split<;>rfl)
    refine eV (v':=.pointer (some ⟨w.heap.size,0,none⟩)) (w':=w.alloc (.cells zv.cells T)) ?_ (hk _ _ _ h (SE.put zO hd ?_))
    .have bO:(Instr.alloc T true (.tuple #[])).run P w=.ok (.pointer (some ⟨w.heap.size,0,none⟩)) (w.alloc (.cells zv.cells T)):=by simp[Instr.alloc,zeroValue,typeInfo,h1,vz,newVar,newRow]
     obtain⟨dst,op,type,pos,after,guard⟩:=o;simp only at cC;subst cC;simp only[execOp,aP,bO,aD,bB]
    .simp only[LR];exact⟨w.heap.size,by simp,rfl⟩
   .cases hz
  .exact h.elim
 .
  rename_i T X cC;split at h
  .rename_i cs ju
   obtain⟨ob',h1,h2⟩:=hst.use (cL tr o);obtain⟨b1,b2,b3⟩:=C4 (bM hst X) ju;have Wz:cL tr o=(match X with | .tmp t=>some t | _=>none):=by obtain⟨dst,op,type,pos,after,guard⟩:=o;simp only at cC;subst cC;cases X<;>rfl
   have pU:(s.use (cL tr o)).bx=s.bx/\(s.use (cL tr o)).nb=s.nb:=by
    cases cL tr o with
    |none=>exact⟨rfl,rfl⟩
    |some t=>simp only[S.use];split<;>exact⟨rfl,rfl⟩
   have zO:=h1.newBox (cur:=(a.eval X).cells) (T:=.of T) (cs:=cs) (od:=λj=>if j=0/\(ev G s X).isOw=true then Q6 ob X else none) (Nat.le_of_eq b1.symm) RT.of_ok b2 b3 (λj b hb=>by
    split at hb
    .rename_i hj
     cases X with
     |tmp t=>refine⟨hst.obnd _ b hb,λL hL=>?_,λi=>hst.obx _ b i hb⟩;obtain⟨q1,q2⟩:=h2 L b hL;have:=q2 t Wz (hst.oinj _ _ b q1 hb);simp only[ev] at hj;rw[hj.2] at this;cases this
     |_=>cases hb
    .cases hb) (λj j' b hb wj=>by
    split at hb<;>split at wj<;>try cases hb
    all_goals try cases wj
    rename_i q1 q2;rw[q1.1,q2.1]) (My (C5 (bM hst X) ju))
   refine eV (v':=.pointer (some ⟨w.heap.size,0,none⟩)) (w':=w.alloc (.cells (a.eval X).cells T)) ?_ (hk _ _ _ h (SE.put zO hd ?_))
   .obtain⟨dst,op,type,pos,after,guard⟩:=o
    simp only at cC;subst cC;simp[execOp,Instr.box,newVar,newRow]
   .simp only[LR];exact⟨w.heap.size,by rw[pU.2];simp,rfl⟩
  .exact h.elim
 .
  rename_i T p X cC;replace h:=h.2;split at h
  .rename_i i b k cs hi hp ju
   obtain⟨j,d,QU,JE,_,ej,_⟩:=bL hi;obtain⟨⟨hb,cH,xN,lV⟩,h⟩:=h;obtain⟨ob',h1,h2⟩:=hst.use (cL tr o);obtain⟨b1,b2,b3⟩:=C4 (bM hst X) ju;have Wz:cL tr o=(match X with | .tmp t=>some t | _=>none):=by obtain⟨dst,op,type,pos,after,guard⟩:=o;simp only at cC;subst cC;cases X<;>rfl
   have pU:(s.use (cL tr o)).bx=s.bx/\(s.use (cL tr o)).nb=s.nb:=by
    cases cL tr o with
    |none=>exact⟨rfl,rfl⟩
    |some t=>simp only[S.use];split<;>exact⟨rfl,rfl⟩
   have hpv:=bM hst p;rw[hp] at hpv;simp only[LR] at hpv;obtain⟨blk,hβ,hpe⟩:=hpv;obtain⟨sj,cur,e1,e2,e3,e4,_⟩:=hst.bx b hb;obtain⟨T',e3,_,hT⟩:=e3.cells lV;rw[hβ] at e1;cases e1;have hsb:=h1.setBox (i:=b) (k:=k) (blk:=blk) (cur:=cur) (T:=T') (vs:=(a.eval X).cells.toList) (ds:=cs) (od:=λj=>if j=0/\(ev G s X).isOw=true then Q6 ob X else none)
    (by rw[pU.2];exact hb) hβ e3 hT (by simpa using b1) (by rw[pU.1,cH];exact xN) (λq=>by have:=b2 q;rw[aG,aY,<- au];exact this) (by simpa using b3) (λj b hb=>by
    split at hb
    .rename_i hj
     cases X with
     |tmp t=>refine⟨hst.obnd _ b hb,λL hL=>?_,λi=>hst.obx _ b i hb⟩;obtain⟨q1,q2⟩:=h2 L b hL;have:=q2 t Wz (hst.oinj _ _ b q1 hb);simp only[ev] at hj;rw[hj.2] at this;cases this
     |_=>cases hb
    .cases hb) (λj j' b hb wj=>by
    split at hb<;>split at wj<;>try cases hb
    all_goals try cases wj
    rename_i q1 q2;rw[q1.1,q2.1]) (by rw[pU.1];exact lV) (C5 (bM hst X) ju)
   have bO:(Instr.storeAt T (a.eval p) (a.eval X)).run P w=.ok () (w.setRow blk (cur.toList.take k++(a.eval X).cells.toList++cur.toList.drop (k+(a.eval X).cells.toList.length)).toArray):=(by rw[hpe];simp only[Instr.storeAt,Instr.sureAddr,aP,bB,aD];unfold storeVar;simp only[aP,fk w QU,aD];rw[if_neg (by rw[eI QU,<- ej,b1,cH];simp)];have:=jf (P:=P) blk k T' (a.eval X).cells.toList 0 cur w e3 hT (by simp only[cy,en,b1,cH];omega) (by simpa using b3);simpa using this);unfold Oper.wp;obtain⟨dst,op,type,pos,after,guard⟩:=o;simp only at cC;subst cC;simp only[execOp,aP,bO,aD,bB,Oper.upon];have Wy:=SE.put (v:=undef) (x:=.sk) hsb hd (by simp only[LR];exact .sk);exact hk _ _ _ h Wy
  .rename_i i blk j hi hp
   obtain⟨j',d,QU,JE,_,ej,_,lU,_⟩:=bL hi;rcases h with h | ⟨b,k,len,cap,q,E,es,cs,⟨hb,lV,hkk,ju,nr,hpz,hq,hj⟩,h⟩
   rotate_left
   .exact Ke hst hd cC hi hp hb lV hkk ju nr hpz hq hj h hk
   exact h.elim
  .exact h.elim
 .
  rename_i T len parts cC;split at h
  .obtain⟨e,sz,es,cells,hK,bO,hc⟩:=zT hst h
   have zO:=hst.newCells e hc;refine eV (v':=.slice (some ⟨w.heap.size,0,none⟩) len len) (w':=w.alloc (.cells cells e)) ?_ (hk _ _ _ hK (SE.put zO hd ?_))
   .obtain⟨dst,op,type,pos,after,guard⟩:=o
    simp only at cC;subst cC;simp only[execOp,aP,bO,aD,bB]
   .simp only[LR];exact⟨ai _,w.heap.size,0,_,ai _,by simp,.inr rfl,rfl⟩
  split at h
  .exact h.elim
  .exact gen h
 .
  rename_i T l c cC;obtain⟨e,p,m,sz,z,cells,hK,hpm,bO,hc⟩:=G4 hst h;have zO:=hst.newCells e hc;refine eV (v':=.slice (some ⟨w.heap.size,0,none⟩) p m) (w':=w.alloc (.cells cells e)) ?_ (hk _ _ _ hK (SE.put zO hd ?_))
  .obtain⟨dst,op,type,pos,after,guard⟩:=o
   simp only at cC;subst cC;simp only[execOp,aP,bO,aD,bB]
  .simp only[LR];exact⟨hpm,w.heap.size,0,_,ai _,by simp,.inr rfl,rfl⟩
 .rename_i f args ts cC
  have hy:JX tr o.dst=false:=by unfold qy at hy;rw[cC] at hy;exact hy
  rw[hy] at h;simp only[ay,cD] at h;split at h
  .exact EV cC hst hd h (λa' w' s' x hK cM=>hk _ _ _ hK cM)
  split at h
  .refine rE cC hst hd h (λa' w' s' x hK cM=>hk _ _ _ ?_ cM)
   by_cases hl:Cp tr o.dst=true
   .rw[if_pos hl] at hK;exact hK.2
   .rw[if_neg hl] at hK;exact hK
  .exact C9 cC hst hd h (λa' w' x hx cM=>hk _ _ _ hx cM)
 .
  rename_i args ts cC;split at h
  .unfold Es at h
   split at h
   .rename_i t u es y qt cP
    obtain⟨htu,h⟩:=h;subst htu;obtain⟨X,Y,hX,hxe,hye⟩:∃ X Y,args.toList=[X,Y]/\V.ow none es=vw s (ev G s X)/\y=vw s (ev G s Y):=by
     cases ha:args.toList with
     |nil=>simp[ha] at cP
     |cons X l=>
      cases l with
      |nil=>simp[ha] at cP
      |cons Y l=>simp only[ha,aN,cj,eG] at cP;exact⟨X,Y,by rw[cP.2.2],cP.1.symm,cP.2.1.symm⟩
    have e1:ts=#[t,t]:=dt qt;have e2:args.map a.eval=#[a.eval X,a.eval Y]:=(by apply dt;simp[hX]);subst e1;subst hye;have hxl:LR (Wr M w0) I β w (Q6 ob X) (a.eval X) (.ow none es):=(by have:=bM hst X;rw[aap hxe.symm] at this;exact this);obtain⟨e,sz,es',cells,cap,hK,bO,lv,ej,ka,kg⟩:=Cs (ty:=o.type) hst hxl h (Mw hst Y);have zO:=hst.drew.newPre e (cs:=es'.flatten) ej (λq c hq=>(ka q c hq).mono λb o h=>⟨h,rfl⟩) kg;refine eV (v':=.slice (some ⟨w.heap.size,0,none⟩) es'.length cap) (w':=w.drew.alloc (.cells cells e)) ?_ (hk _ _ _ hK (SE.put zO hd ?_))
    .obtain⟨dst,op,type,pos,after,guard⟩:=o
     simp only at cC bO;subst cC;have hb:∀ cs,builtin .append #[t,t] type cs (args.map a.eval)=(do pure (.value (<- Builtin.append_ #[t,t] type (args.map a.eval)))):=λ_=>rfl
     have:execOp a.eval { dst,op:=.call { callee:=.builtin .append,args:=args,argTypes:=#[t,t] },type,pos,after,guard }=(do pure (.value (<- Builtin.append_ #[t,t] type (args.map a.eval)))):=by simp only[execOp,resolve,invoke,pure_bind];exact hb _
     rw[this,e2];simp only[aP,bO,aD,bB]
    .simp only[LR];exact⟨ai _,w.heap.size,0,cap,lv,by simp,.inr rfl,rfl⟩
   .exact h.elim
  .split at h
   .
    obtain⟨t,u,X,Y,qt,hX⟩:∃ t u X Y,ts.toList=[t,u]/\args.toList=[X,Y]:=by
     unfold eT at h;split at h
     .rename_i t u _ _ _ _ _ _ qt cP
      cases ha:args.toList with
      |nil=>simp[ha] at cP
      |cons X l=>
       cases l with
       |nil=>simp[ha] at cP
       |cons Y l=>simp only[ha,aN,cj,eG] at cP;exact⟨t,u,X,Y,qt,by rw[cP.2.2]⟩
     .rename_i t u _ _ _ _ _ _ _ qt cP
      cases ha:args.toList with
      |nil=>simp[ha] at cP
      |cons X l=>
       cases l with
       |nil=>simp[ha] at cP
       |cons Y l=>simp only[ha,aN,cj,eG] at cP;exact⟨t,u,X,Y,qt,by rw[cP.2.2]⟩
     .exact h.elim
    have e1:ts=#[t,u]:=dt qt;have e2:args.map a.eval=#[a.eval X,a.eval Y]:=(by apply dt;simp[hX]);subst e1;rw[hX] at h;obtain⟨s',ob',w',z,v,hK,bO,bP,iR⟩:=AV (ty:=o.type) hst h (bM hst X) (bM hst Y);refine eV (v':=v) (w':=w') ?_ (hk _ _ _ hK (SE.put bP hd iR));obtain⟨dst,op,type,pos,after,guard⟩:=o;simp only at cC bO;subst cC;have hb:∀ cs,builtin .append #[t,u] type cs (args.map a.eval)=(do pure (.value (<- Builtin.append_ #[t,u] type (args.map a.eval)))):=λ_=>rfl
    have:execOp a.eval { dst,op:=.call { callee:=.builtin .append,args:=args,argTypes:=#[t,u] },type,pos,after,guard }=(do pure (.value (<- Builtin.append_ #[t,u] type (args.map a.eval)))):=by simp only[execOp,resolve,invoke,pure_bind];exact hb _
    rw[this,e2];simp only[aP,bO,aD,bB]
   .exact gen h
 .
  rename_i args ts cC;exact False.elim h
 .
  rename_i args ts cC;obtain⟨t,X,qt,hX⟩:∃ t X,ts.toList=[t]/\args.toList=[X]:=by
   unfold iQ at h;split at h
   .rename_i t _ _ _ _ _ qt cP
    cases ha:args.toList with
    |nil=>simp[ha] at cP
    |cons X l=>simp only[ha,aN,cj,eG] at cP;exact⟨t,X,qt,by rw[cP.2]⟩
   .rename_i t _ _ _ _ qt cP
    cases ha:args.toList with
    |nil=>simp[ha] at cP
    |cons X l=>simp only[ha,aN,cj,eG] at cP;exact⟨t,X,qt,by rw[cP.2]⟩
   .exact h.elim
  have e1:ts=#[t]:=dt qt;have e2:args.map a.eval=#[a.eval X]:=by apply dt;simp[hX]
  subst e1;rw[hX] at h;obtain⟨s',ob',w',hK,bO,bP⟩:=ET (ty:=o.type) hst h (bM hst X);refine eV (v':=.tuple #[]) (w':=w') ?_ (hk _ _ _ hK (SE.put bP hd (x:=.un) (by simp only[LR];exact .un _)));obtain⟨dst,op,type,pos,after,guard⟩:=o;simp only at cC bO;subst cC;have hb:∀ cs,builtin .clear #[t] type cs (args.map a.eval)=(do pure (.value (<- Builtin.clear_ #[t] type (args.map a.eval)))):=λ_=>rfl
  have:execOp a.eval { dst,op:=.call { callee:=.builtin .clear,args:=args,argTypes:=#[t] },type,pos,after,guard }=(do pure (.value (<- Builtin.clear_ #[t] type (args.map a.eval)))):=by simp only[execOp,resolve,invoke,pure_bind];exact hb _
  rw[this,e2];simp only[aP,bO,aD,bB]
 .
  rename_i args ts cC;split at h
  .obtain⟨t,X,qt,hX⟩:∃ t X,ts.toList=[t]/\args.toList=[X]:=by
    unfold GY at h;split at h
    .rename_i t _ qt cP
     cases ha:args.toList with
     |nil=>simp[ha] at cP
     |cons X l=>simp only[ha,aN,cj,eG] at cP;exact⟨t,X,qt,by rw[cP.2]⟩
    .exact h.elim
   have e1:ts=#[t]:=dt qt;have e2:args.map a.eval=#[a.eval X]:=(by apply dt;simp[hX]);subst e1;rw[hX] at h;obtain⟨u,hf,hK,bO⟩:=G9 (ty:=o.type) hst h (bM hst X);refine eV (v':=u) (w':=w) ?_ (hk _ _ _ hK (.fin0 hst hd (.ofLit hf)));obtain⟨dst,op,type,pos,after,guard⟩:=o;simp only at cC bO;subst cC;have hb:∀ cs,builtin .len #[t] type cs (args.map a.eval)=(do pure (.value (<- Builtin.len_ #[t] type (args.map a.eval)))):=λ_=>rfl
   have:execOp a.eval { dst,op:=.call { callee:=.builtin .len,args:=args,argTypes:=#[t] },type,pos,after,guard }=(do pure (.value (<- Builtin.len_ #[t] type (args.map a.eval)))):=by simp only[execOp,resolve,invoke,pure_bind];exact hb _
   rw[this,e2];simp only[aP,bO,aD,bB]
  .exact gen h
 .
  rename_i src dst' X cC;split at h
  .obtain⟨s',v,w',hK,u,bO,β',ob',bP,iR⟩:=EU hst hd h
   refine eV (v':=u) (w':=w') ?_ (hk _ _ _ hK (SE.put bP hd iR));obtain⟨dst,op,type,pos,after,guard⟩:=o;simp only at cC bO;subst cC;simp only[execOp,aP,bO,aD,bB]
  .exact gen h
 .
  rename_i op T X Y yT cC;split at h
  .rename_i hy
   unfold aak at h;have fin:∀ c:Value,Y=.const c->(∃ u,flat u=true/\K (s.after tr o (.c (.lit u)))/\(do eqGuard op T X Y (a.eval X) c;binOp op T (a.eval X) c:Sem Value).run P w=.ok u w)->o.wp P a w next Q:=by
    rintro c rfl ⟨u,hf,hz,bO⟩;refine eV (v':=u) (w':=w) ?_ (hk _ _ _ hz (.fin0 hst hd (.ofLit hf)));obtain⟨dst,op',type,pos,after,guard⟩:=o;simp only at cC;subst cC;have hx:execOp a.eval { dst,op:=.binOp op T X (.const c) yT,type,pos,after,guard }=(do pure (.value (<- (do eqGuard op T X (.const c) (a.eval X) c;binOp op T (a.eval X) c)))):=by simp only[execOp];simp[Act.eval]
    rw[hx];simp only[aP] at bO ⊢
    rw[bO];simp
   cases hp:Et Y with
   |some fn=>
    rw[hp] at h;have hY:Y=.const (if fn then .nilFunc else .pointer none):=by
     unfold Et at hp;split at hp
     .cases hp;rfl
     .cases hp;rfl
     .cases hp
    exact fin _ hY (G1 (K:=λv=>K (s.after tr o v)) h (bM hst X) X Y)
   |none=>
    rw[hp] at h;have hY:Y=.const (.slice none 0 0):=by
     unfold Ak at hy;rw[hp] at hy;simp only[aS,g9] at hy;unfold QZ at hy;split at hy
     .rfl
     .cases hy
    exact fin _ hY (J4 (K:=λv=>K (s.after tr o v)) h (bM hst X) X Y)
  .exact gen h
 .
  rename_i T X cC;split at h
  .obtain⟨z,u,hz,iR,bO⟩:=Ez hst h (bM hst X)
   refine eV (v':=u) (w':=w) ?_ (hk _ _ _ hz (SE.put hst hd iR));obtain⟨dst,op',type,pos,after,guard⟩:=o;simp only at cC;subst cC;simp only[execOp,aP,bO,aD,bB]
  .exact gen h.2
 .
  rename_i T parts cC;split at h
  .obtain⟨z,u,hz,iR,bO⟩:=Cq hst h
   refine eV (v':=u) (w':=w) ?_ (hk _ _ _ hz (SE.put hst hd iR));obtain⟨dst,op',type,pos,after,guard⟩:=o;simp only at cC;subst cC;simp only[execOp,aP,bO,aD,bB]
  .exact gen h
 .
  rename_i T cC;split at h
  .have zO:=hst.newMap
   refine eV (v':=.map (some w.heap.size)) (w':=w.alloc (.map #[] 0)) ?_ (hk _ _ _ h (SE.put zO hd ?_))
   .obtain⟨dst,op',type,pos,after,guard⟩:=o
    simp only at cC;subst cC;simp[execOp,Instr.makeMap]
   .simp only[LR];exact⟨w.heap.size,by simp,rfl⟩
  .exact h.elim
 .
  rename_i T m k X cC;obtain⟨s',ob',w',hK,bO,bP⟩:=u7 hst h (bM hst m) (bM hst k) (bM hst X);unfold Oper.wp;obtain⟨dst,op',type,pos,after,guard⟩:=o;simp only at cC;subst cC;simp only[execOp,aP,bO,aD,bB,Oper.upon];exact hk _ _ _ hK (SE.put (v:=undef) (x:=.sk) bP hd (by simp only[LR];exact .sk))
 .
  rename_i T m k cC;obtain⟨s',ob',w',z,u,hK,bO,bP,iR⟩:=zU hst h (bM hst m) (bM hst k);refine eV (v':=u) (w':=w') ?_ (hk _ _ _ hK (SE.put bP hd iR));obtain⟨dst,op',type,pos,after,guard⟩:=o;simp only at cC;subst cC;simp only[execOp,aP,bO,aD,bB]
 .
  rename_i T m k X cC;obtain⟨s',ob',w',hK,bO,bP⟩:=zV (P:=P) (T:=T) hst h (bM hst m) (bM hst k) (bM hst X);unfold Oper.wp;obtain⟨dst,op',type,pos,after,guard⟩:=o;simp only at cC;subst cC;simp only[execOp,aP,bO,aD,bB,Oper.upon];exact hk _ _ _ hK (SE.put (v:=undef) (x:=.sk) bP hd (by simp only[LR];exact .sk))
 .
  rename_i t cC;obtain⟨it,z,u,w',hK,bO,cM⟩:=Ha (P:=P) (ty:=o.type) hst hd h;refine eV (v':=u) (w':=w') ?_ (hk _ _ _ hK cM);obtain⟨dst,op',type,pos,after,guard⟩:=o;simp only at cC;subst cC;simp only[execOp,Act.eval,aP,bO,aD,bB]
 .
  rename_i T m k X cC;obtain⟨s',ob',w',hK,bO,bP⟩:=u7 hst h (bM hst m) (bM hst k) (bM hst X);unfold Oper.wp;obtain⟨dst,op',type,pos,after,guard⟩:=o;simp only at cC;subst cC;simp only[execOp,aP,bO,aD,bB,Oper.upon];exact hk _ _ _ hK (SE.put (v:=undef) (x:=.sk) bP hd (by simp only[LR];exact .sk))
 .exact gen h
theorem wB (hst:St G n I0 M w0 I β ob s a w) {ops:Array Oper} {j d:Nat} (hd:(ops[j]?).bind (·.dst)=some d) {p:Bool} (h:s.fr d=.c (.lit (.bool p))):yielded ops a.tmps j=some p:=by
 have:=hst.fr d;rw[h] at this;have hv:=this.lit;unfold yielded;rw[hd];simp only[gi];rw[au] at hv;cases hx:a.tmps[d]? with
 |none=>rw[hx] at hv;cases hv
 |some u=>rw[hx] at hv;simp only[ba] at hv;rw[hv]
theorem A1 (hst:St G n I0 M w0 I β ob s a w) {ops:Array Oper} {j d:Nat} (hd:(ops[j]?).bind (·.dst)=some d) (h:s.fr d=.sk):yielded ops a.tmps j=none:=by
 have:=hst.fr d;rw[h] at this;have hv:a.tmps.getD d undef=undef:=by simp only[LR] at this;generalize a.tmps.getD d undef=u at this;cases this;rfl
 unfold yielded;rw[hd];simp only[gi];rw[au] at hv;cases hx:a.tmps[d]? with
 |none=>rfl
 |some u=>rw[hx] at hv;simp only[ba] at hv;rw[hv];rfl
theorem S.up_id {d:Nat} {x:V} (h:s.fr d=x):{ s with fr:=up s.fr d x }=s:=by rw[<- h,qa]
theorem rF {ops:Array Oper} {yes no:S->Prop} (hst:St G n I0 M w0 I β ob s a w) (h:nw ops o s yes no) :
 (Region.wanted o (yielded ops a.tmps)=true/\yes s)∨(Region.wanted o (yielded ops a.tmps)=false/\no s):=by
 unfold nw at h;unfold Region.wanted;split at h
 .rename_i hg
  rw[hg];exact .inl ⟨rfl,h⟩
 .rename_i j want hg
  rw[hg];split at h
  .rename_i d hd
   split at h
   .rename_i p hp
    simp only[wB hst hd hp];by_cases hpw:p=want
    .subst hpw
     have:=h.1 rfl;rw[S.up_id hp] at this;exact .inl ⟨by simp,this⟩
    .have GO:p=!want:=by cases p<;>cases want<;>simp_all
     have:=h.2 GO;rw[<- GO,S.up_id hp] at this;exact .inr ⟨by simpa using hpw,this⟩
   .rename_i hp
    simp only[A1 hst hd hp];exact .inr ⟨rfl,h⟩
   .exact h.elim
  .exact h.elim
def jN (n:Nat) (ops:Array Oper):Bool:=ops.toList.all λo=>match o.dst with | some d=>decide (d<n) | none=>true
theorem fi {ops:Array Oper} (h:jN n ops=true) {o:Oper} (ho:o∈ops.toList):∀ d,o.dst=some d->d<n:=λd hd=>by have:=a8.1 h o ho;rw[hd] at this;simpa using this
theorem Ro {l:Option Nat} {m:Nat} (hst:St G n I0 M w0 I β ob s a w) (hd:∀ d,o.dst=some d->d<n) (qw:∀ c,o.op≠.defer c) {i blk:Nat} {vs:List Value} {all:List V} {ρ:List Nat} {cargs:List V} {b0:List (List V)} {R:V->List (List V)->Prop}
 (dV:YE P G cargs b0 R) (cP:ArgsL (Wr M w0) I β w vs all) (dC:all.map V.fz=cargs.map (V.ren (rho ρ s.nb))) (hρ:ρ.length=b0.length/\ρ.Nodup) (f9:pV s.bx s.nb (rho ρ s.nb) 0 b0)
 (hhd:ρ.head?=some i) (GN:β i=some blk)
 (bO:(execOp a.eval o).run P w=(Instr.yield blk vs.toArray).run P w)
 (hk:∀ r b1,R r b1->∀ a' w',SE G n I0 M w0 (({ s with bx:=fC (rho ρ s.nb) 0 b1 s.bx,nb:=s.nb+(b1.length - b0.length) }:S).put o.dst (r.ren (rho ρ s.nb))) a' w'->next a' w'):o.wpIn (FW l) m P a w next Q:=by
 obtain⟨hρl,hn⟩:=hρ;obtain⟨Cg,kR,fO⟩:=dV.1;have hl:∀ i,i<ρ.length->ρ.getD i 0<s.nb:=λi hi=>by obtain⟨b,hb⟩:∃ b,b0[i]?=some b:=⟨_,ak (by omega)⟩;have:=(nW b0 0 i b f9 hb).1;rw[ao] at this;simpa[rho,hi] using this
 have pZ:=uw hn hl;have cH:all.length=cargs.length:=by simpa using kK List.length dC
 have sg:0<ρ.length:=by cases ρ with | nil=>cases hhd | cons x r=>simp
 have hr0:rho ρ s.nb 0=i:=by
  unfold rho;rw[if_pos sg];cases ρ with
  |nil=>cases hhd
  |cons x r=>simpa using hhd
 obtain⟨fn,tmps,assign,body,hyr,Mc⟩:=dV.2 I ⟨Mof β ob (rho ρ s.nb) b0.length,λ_=>none,[]⟩ w vs.toArray (kB β (rho ρ s.nb) b0.length) (obC ob (rho ρ s.nb) b0.length) blk hst.ibnd hst.glob (hst.give pZ f9 kR)
  (by unfold kB;rw[if_pos (by omega),hr0];exact GN) (by have:=cP.1;simp;omega) (λj x hx=>by
   have hj:j<cargs.length:=(am.1 hx).1;have hz:all[j]?=some all[j]:=ak (by omega);have h1:=cP.2 j _ hz;have h2:all[j].fz=x.ren (rho ρ s.nb):=(by have e1:(all.map V.fz)[j]?=some all[j].fz:=(by simp[hz]);have e2:(cargs.map (V.ren (rho ρ s.nb)))[j]?=some (x.ren (rho ρ s.nb)):=(by simp[hx]);rw[dC,e2] at e1;exact(ew e1).symm);rw[h2] at h1;have h3:=h1.ren (β':=kB β (rho ρ s.nb) b0.length) (Cg x (bn hx)) (λi b hi hb=>by simp[kB,hi,hb]);have h4:=h3.wider (base':=Wr ⟨Mof β ob (rho ρ s.nb) b0.length,λ_=>none,[]⟩ w) λb hb=>by cases hb
   simpa using h4)
 refine⟨λ_ _=>trivial,?_⟩;rw[Oper.semAt_eq _ _ _ qw,bO,hyr];refine⟨λh=>(by cases h),RoundIn.mono (Kc Mc) ?_⟩;rintro e w' ⟨r,b1,hR,v,I',β',ob',o',rfl,oI,L8,JP,sN,QG,JG,pU,iR,ji⟩;simp only;obtain⟨bP,eF,uj,eX,zO,_⟩:=hst.called hρl hn f9 (fO r b1 hR) oI L8 JP sN QG JG pU;refine hk r b1 hR _ _ ?_;have Wx:LR (Wr M w0) I' (pn β β' ρ s.nb) w' o' v (r.ren (rho ρ s.nb)):=(iR.toRen eF).wider λb hb=>uj b (ji b hb).1.2;cases o0:o.dst with
 |none=>exact⟨_,_,_,bP⟩
 |some d=>
  refine⟨_,_,_,bP.put d (hd d o0) Wx λb hb=>?_⟩;obtain⟨⟨h1,h2⟩,h3,h4⟩:=ji b hb;refine⟨⟨h1,uj b h2⟩,λL hL=>?_,zO b h2 h4⟩;simp only[upL] at hL;split at hL
  .cases hL
  .exact eX b h2 h3 L hL
theorem Oi {f:Operand} {args:Array Operand} {ts:Array TypeId} {blk:Nat} (ho:o.op=.call { callee:=.value f,args:=args,argTypes:=ts }) (hf:a.eval f=.func (.yield blk) #[] #[]) :
 (execOp a.eval o).run P w=(Instr.yield blk (args.toList.map a.eval).toArray).run P w:=by
 unfold execOp;have e:(args.toList.map a.eval).toArray=args.map a.eval:=by apply dt;simp
 rw[e];simp only[ho,resolve,Deferred.ofValue,hf,aP,bB,aD,invoke];simp
theorem EW {l:Option Nat} {m:Nat} {K:S->V->Prop} {f:Operand} {args:Array Operand} {ts:Array TypeId} (ho:o.op=.call { callee:=.value f,args:=args,argTypes:=ts }) (hst:St G n I0 M w0 I β ob s a w)
 (hd:∀ d,o.dst=some d->d<n) (h:x9 P G s (ev G s f) (args.toList.map (ev G s)) K) (hk:∀ a' w' s' x,K s' x->SE G n I0 M w0 (s'.put o.dst x) a' w'->next a' w'):o.wpIn (FW l) m P a w next Q:=by
 have hf:=bM hst f;unfold x9 at h;split at h
 .rename_i i he
  obtain⟨ρ,cargs,b0,R,dV,dC,⟨hρ1,hρ2,hρ3⟩,f9,hK⟩:=h;rw[he] at hf;simp only[LR] at hf;obtain⟨blk,hb,hv⟩:=hf;exact Ro hst hd (λc hc=>by rw[ho] at hc;cases hc) dV (ml hst _) dC ⟨hρ1,hρ2⟩ f9 hρ3 hb (Oi ho hv) (λr b1 hR a' w'=>hk a' w' _ _ (hK r b1 hR))
 .exact h.elim
theorem Rp {K:S->Prop} (h:VStep P G tr o s K):∀ c,o.op≠.defer c:=λc hc=>by unfold VStep VYK at h;rw[hc] at h;exact h
theorem u9 {l:Option Nat} {m:Nat} {K:S->Prop} (hst:St G n I0 M w0 I β ob s a w) (hd:∀ d,o.dst=some d->d<n) (h:VStep P G tr o s K)
 (hk:∀ a' w' s',K s'->SE G n I0 M w0 s' a' w'->next a' w'):o.wpIn (FW l) m P a w next Q:=by
 cases hy:qy tr o with
 |false=>exact AY (Rp h) (nY (tr:=tr) hst hd hy h hk)
 |true=>
  unfold qy at hy;split at hy
  .rename_i f args ts cC
   unfold VStep at h;rw[cC] at h;simp only[hy,bY] at h;exact EW cC hst hd h λa' w' s' x hK cM=>hk _ _ _ hK cM
  .cases hy
theorem vE {l:Option Nat} {m:Nat} {ops:Array Oper} (dV:jN n ops=true) {K:S->Prop} (hK:∀ a w s,K s->SE G n I0 M w0 s a w->Q .normal a w):∀ (ls:List Oper) (k:Nat),ops.toList.drop k=ls->∀ (s:S) (a:Act) (w:World),
 eU P G tr ops ls s K->SE G n I0 M w0 s a w->wpOpsIn (FW l) m P ops Q (List.range' k ls.length) a w
 |[],k,_,s,a,w,h,cM=>by simp only[aL,List.range'_zero,wpOpsIn];exact hK _ _ _ h cM
 |o::ls,k,hl,s,a,w,h,cM=>by
  have ng:ops[k]?=some o:=by have:(ops.toList.drop k)[0]?=some o:=(by rw[hl];rfl);rw[cn] at this;simpa using this
  have JO:ops.toList.drop (k+1)=ls:=by rw[<- fS,hl];rfl
  have jL:o∈ops.toList:=cY (i:=k) (by rw[hl];simp);obtain⟨I,β,ob,hst⟩:=cM;simp only[aI,jh,wpOpsIn,ng];simp only[eU] at h;rcases rF hst h with⟨hw,h⟩ | ⟨hw,h⟩
  .rw[if_pos hw]
   refine u9 (tr:=tr) hst (fi dV jL) h λa' w' s' xP nJ=>?_;exact vE dV hK ls (k+1) JO s' a' w' xP nJ
  .rw[hw]
   simp only[ay,cD];exact⟨λ_ _=>trivial,vE dV hK ls (k+1) JO _ _ w h (SE.put hst (fi dV jL) (by simp only[LR];exact .sk))⟩
theorem PR.ltP {β':Nat->Option Nat} {m:Nat} (h:PR I β w v x) (hx:x.ltP m) (hβ:∀ i,i<m->β' i=β i):PR I β' w v x:=by
 cases x<;>simp only[V.ltP] at hx<;>simp only[PR] at h ⊢<;>try exact h
 .obtain⟨blk,h1,h2⟩:=h;exact⟨blk,by rw[hβ _ hx];exact h1,h2⟩
 .obtain⟨h0,blk,o',c',Ah,h1,h2⟩:=h;exact⟨h0,blk,o',c',Ah,by rw[hβ _ hx];exact h1,h2⟩
 .obtain⟨blk,h1,h2⟩:=h;exact⟨blk,by rw[hβ _ hx];exact h1,h2⟩
 .obtain⟨blk,h1,h2⟩:=h;exact⟨blk,by rw[hβ _ hx];exact h1,h2⟩
 .obtain⟨blk,h1,h2⟩:=h;exact⟨blk,by rw[hβ _ hx];exact h1,h2⟩
theorem KR.ltP {β':Nat->Option Nat} {m:Nat} (h:KR I β w v x) (hx:x.ltP m) (hβ:∀ i,i<m->β' i=β i):KR I β' w v x:=by
 rcases h with h | h | h
 .exact .inl h
 .exact .inr (.inl h)
 .exact .inr (.inr (h.ltP hx hβ))
theorem LR.lt {β':Nat->Option Nat} {m:Nat} {ox:Option Nat} (h:LR base I β w ox v x) (hx:x.lt m) (hβ:∀ i,i<m->β' i=β i):LR base I β' w ox v x:=by
 cases x<;>simp only[V.lt] at hx<;>simp only[LR] at h ⊢<;>try exact h
 .obtain⟨blk,h1,h2⟩:=h;exact⟨blk,by rw[hβ _ hx];exact h1,h2⟩
 .obtain⟨vf,vc,h1,h2,h3,h4,h5⟩:=h
  exact⟨vf,vc,h1,h2,h3,λj x hj=>(h4 j x hj).ltP (hx.1 x (bn hj)) hβ,λj x hj=>(h5 j x hj).ltP (hx.2 x (bn hj)) hβ⟩
 .obtain⟨h0,blk,o',c',Ah,h1,h2⟩:=h;exact⟨h0,blk,o',c',Ah,by rw[hβ _ hx];exact h1,h2⟩
 .obtain⟨cs,h1,h2,h3⟩:=h
  exact⟨cs,h1,h2,λj x hj=>(h3 j x hj).ltP (hx x (bn hj)) hβ⟩
 .obtain⟨blk,h1,h2⟩:=h;exact⟨blk,by rw[hβ _ hx];exact h1,h2⟩
 .obtain⟨blk,m,h1,h2,h3,h4⟩:=h;exact⟨blk,m,h1,h2,by rw[hβ _ hx];exact h3,h4⟩
 .obtain⟨blk,h1,h2⟩:=h;exact⟨blk,by rw[hβ _ hx];exact h1,h2⟩
 .obtain⟨tm,h1,h2⟩:=h
  exact⟨tm,h1,λt y hy=>(h2 t y hy).ltP (hx _ hy) hβ⟩
 .obtain⟨blk,h1,h2⟩:=h;exact⟨blk,by rw[hβ _ hx];exact h1,h2⟩
theorem SE.weaken {s':S} {k:Nat} (h:SE G n I0 M w0 s a w) (qL:∀ i b,M.e i=some b->i<k) (fO:S.Le k s' s):SE G n I0 M w0 s' a w:=by
 obtain⟨I,β,ob,h⟩:=h;have hβ:∀ i b,(if i<s'.nb then β i else none)=some b->β i=some b:=λi b hb=>by split at hb;exact hb;cases hb
 let ob':Loc->Option Nat:=λL=>match L with
  | .t i=>if(s'.fr i).isOw then ob (.t i) else none
  | .b i j=>if i<s'.nb then ob (.b i j) else none
 have j9:∀ L b,ob' L=some b->ob L=some b:=λL b hL=>by
  cases L with
  |t i=>simp only[ob'] at hL;split at hL;exact hL;cases hL
  |b i j=>simp only[ob'] at hL;split at hL;exact hL;cases hL
 refine⟨I,λi=>if i<s'.nb then β i else none,ob',{
  size:=h.size,defers:=h.defers,below:=h.below,kept:=h.kept,ilow:=h.ilow,ihigh:=h.ihigh,ibnd:=h.ibnd
  fr:=λt=>?_
  bx:=λi hi=>?_
  bnone:=λi hi=>by rw[if_neg (by omega)]
  ext:=λi b he=>by rw[if_pos (co (qL i b he) fO.ext)];exact h.ext i b he
  bnew:=λi b hi=>h.bnew i b (hβ i b hi)
  binj:=λi j b hi hj=>h.binj i j b (hβ _ _ hi) (hβ _ _ hj)
  oinj:=λL L' b hL xX=>h.oinj L L' b (j9 _ _ hL) (j9 _ _ xX)
  obx:=λL b i hL hi=>h.obx L b i (j9 _ _ hL) (hβ _ _ hi)
  obnd:=λL b hL=>h.obnd L b (j9 _ _ hL)
  glob:=h.glob }⟩
 .rcases fO.fr t with e | e
  .rw[e];simp only[LR];exact .un _
  .have:=h.fr t
   rw[<- e] at this;have h2:LR (Wr M w0) I β w (ob' (.t t)) (a.tmps.getD t undef) (s'.fr t):=by
    simp only[ob'];by_cases ho:(s'.fr t).isOw=true
    .rw[if_pos ho];exact this
    .rw[if_neg ho];exact this.other (by simpa using ho)
   exact h2.lt (fO.lt t) (λi hi=>by rw[if_pos hi])
 .obtain⟨blk,cur,e1,e2,e3,e4,e5,e7⟩:=h.bx i (co hi fO.nb)
  refine⟨blk,cur,by rw[if_pos hi];exact e1,e2,by rw[fO.bx i hi];exact e3,by rw[fO.bx i hi];exact e4,λj=>?_,e7⟩;have:=e5 j;rw[<- fO.bx i hi] at this;have bF:((s'.bx i).getD j .un).lt s'.nb:=by
   by_cases hj:j<(s'.bx i).length
   .have:(s'.bx i).getD j .un=(s'.bx i)[j]:=by simp[List.getD,hj]
    rw[this];exact fO.blt i hi _ (aH hj)
   .have:(s'.bx i).getD j .un=.un:=by simp[List.getD,cE (dY hj)]
    rw[this];exact trivial
  have h2:=this.lt (β':=λi=>if i<s'.nb then β i else none) bF (λi hi=>by rw[if_pos hi])
  simpa only[ob',if_pos hi] using h2
theorem W6 {s:S} {m:Nat} {l l':List V} (h:l'.getD 0 .un=l.getD 0 .un∨FzV s m (l'.getD 0 .un) (l.getD 0 .un)):oq l'=oq l:=by
 unfold oq;rcases h with h | ⟨i,off,len,cap,sz,c,h1,_,_,h2⟩
 .rw[h]
 .rw[h1,h2]
theorem SE.freeze {s':S} {k:Nat} (h:SE G n I0 M w0 s a w) (qL:∀ i b,M.e i=some b->i<k) (fO:S.Fz k s' s):SE G n I0 M w0 s' a w:=by
 obtain⟨I,β,ob,h⟩:=h;have hβ:∀ i b,(if i<s'.nb then β i else none)=some b->β i=some b:=λi b hb=>by split at hb;exact hb;cases hb
 let ob':Loc->Option Nat:=λL=>match L with
  | .t i=>if(s'.fr i).isOw then ob (.t i) else none
  | .b i j=>if i<s'.nb then ob (.b i j) else none
 have j9:∀ L b,ob' L=some b->ob L=some b:=λL b hL=>by
  cases L with
  |t i=>simp only[ob'] at hL;split at hL;exact hL;cases hL
  |b i j=>simp only[ob'] at hL;split at hL;exact hL;cases hL
 let I':Ft:=λb o=>I b o∨∃ i,s'.nb<=i/\i<s.nb/\β i=some b
 have hII:∀ b o,I b o->I' b o:=λ_ _ h=>.inl h;have nc:∀ (v:Value) (x:V) (o:Option Nat),(∀ b,o=some b->∃ L,ob L=some b)->LR (Wr M w0) I β w o v x->LR (Wr M w0) I' β w o v x:=λv x o ho hx=>
  hx.mono (λb o hb=>⟨.inl hb,rfl⟩) (λ_ _ e=>e) (λb hb=>⟨rfl,λo hI=>by
   rcases hI with hI | ⟨i,_,_,hi⟩
   .exact hI
   .obtain⟨L,hL⟩:=ho b hb
    exact absurd hi (h.obx L b i hL)⟩)
 have abo:∀ (v:Value) (x y:V) (o:Option Nat),LR (Wr M w0) I β w o v y->FzV s s'.nb x y->∃ c,x=.c c/\CR I' w v c:=λv x y o hy hf=>by
  obtain⟨i,off,len,cap,sz,c,rfl,hi,hv,rfl⟩:=hf;simp only[LR] at hy;refine⟨c,rfl,EF h hv hy hII (λb o hb=>?_)⟩;have uk:i<s.nb:=by
   unfold mi zP at hv;split at hv
   .rename_i hc
    split at hc
    .assumption
    .cases hc
   .cases hv
  exact .inr ⟨i,hi,uk,hb⟩
 refine⟨I',λi=>if i<s'.nb then β i else none,ob',{
  size:=h.size,defers:=h.defers,below:=h.below,ilow:=λb o hb=>.inl (h.ilow b o hb),kept:=h.kept
  ihigh:=λb o hb=>by
   rcases hb with hb | ⟨i,_,hi,hb⟩
   .exact h.ihigh b o hb
   .obtain⟨blk,cur,e1,e2,e3,_⟩:=h.bx i hi
    rw[hb] at e1;cases e1;exact .inr e2
  ibnd:=λb o hb=>by
   rcases hb with hb | ⟨i,_,hi,hb⟩
   .exact h.ibnd b o hb
   .obtain⟨blk,cur,e1,e2,e3,_⟩:=h.bx i hi
    rw[hb] at e1;cases e1;exact e3.lt
  fr:=λt=>?_
  bx:=λi hi=>?_
  bnone:=λi hi=>by rw[if_neg (by omega)]
  ext:=λi b he=>by rw[if_pos (co (qL i b he) fO.ext)];exact h.ext i b he
  bnew:=λi b hi=>h.bnew i b (hβ i b hi)
  binj:=λi j b hi hj=>h.binj i j b (hβ _ _ hi) (hβ _ _ hj)
  oinj:=λL L' b hL xX=>h.oinj L L' b (j9 _ _ hL) (j9 _ _ xX)
  obx:=λL b i hL hi=>h.obx L b i (j9 _ _ hL) (hβ _ _ hi)
  obnd:=λL b hL=>h.obnd L b (j9 _ _ hL)
  glob:=λg cs hg=>(h.glob g cs hg).mono λb o hb=>⟨.inl hb,rfl⟩ }⟩
 .rcases fO.fr t with e | e | e
  .rw[e];simp only[LR];exact .un _
  .have:=nc _ _ _ (λb hb=>⟨_,hb⟩) (h.fr t)
   rw[<- e] at this;have h2:LR (Wr M w0) I' β w (ob' (.t t)) (a.tmps.getD t undef) (s'.fr t):=by
    simp only[ob'];by_cases ho:(s'.fr t).isOw=true
    .rw[if_pos ho];exact this
    .rw[if_neg ho];exact this.other (by simpa using ho)
   exact h2.lt (fO.lt t) (λi hi=>by rw[if_pos hi])
  .obtain⟨c,hc,ka⟩:=abo _ _ _ _ (h.fr t) e
   rw[hc];exact .ofC ka
 .obtain⟨blk,cur,e1,e2,e3,e4,e5,e7⟩:=h.bx i (co hi fO.nb)
  refine⟨blk,cur,by rw[if_pos hi];exact e1,e2,e3.congr (fO.bl i hi) (W6 (fO.bx i hi 0)),by rw[fO.bl i hi];exact e4,λj=>?_,λo ho=>?_⟩
  .rcases fO.bx i hi j with e | e
   .have:=nc _ _ _ (λb hb=>⟨_,hb⟩) (e5 j)
    rw[<- e] at this;have bF:((s'.bx i).getD j .un).lt s'.nb:=by
     by_cases hj:j<(s'.bx i).length
     .have:(s'.bx i).getD j .un=(s'.bx i)[j]:=by simp[List.getD,hj]
      rw[this];exact fO.blt i hi _ (aH hj)
     .have:(s'.bx i).getD j .un=.un:=by simp[List.getD,cE (dY hj)]
      rw[this];exact trivial
    have h2:=this.lt (β':=λi=>if i<s'.nb then β i else none) bF (λi hi=>by rw[if_pos hi])
    simpa only[ob',if_pos hi] using h2
   .obtain⟨c,hc,ka⟩:=abo _ _ _ _ (e5 j) e
    rw[hc];exact .ofC ka
  .rcases ho with ho | ⟨i',sS,_,hb⟩
   .exact e7 o ho
   .have:=h.binj i i' blk e1 hb
    omega
