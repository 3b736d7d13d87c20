/- Values without memory: boxes: variables that lie in memory. -/
import Derived.Test.YtloppcgcepgbnaaGreatDoorVlSound10
import Derived.Maps.RangeRun
import Derived.OrdersIn
import Derived.LoopNIn
import Derived.RangeFuncLeaves
import Derived.LoopN
set_option linter.all false
namespace Go.Vl
open Go Go.RowKit
section
variable {P:Program} {G:Gl} {tr:List Nat} {n:Nat} {I0:Ft} {M:Mx} {w0:World} {I:Ft} {β:Nat->Option Nat} {ob:Loc->Option Nat} {s:S} {a:Act} {w:World} {o:Oper}
 {next:Act->World->Prop} {Q:Exit->Act->World->Prop} {base:Nat->Prop} {v:Value} {x y:V}
theorem PR.oneCell {c:V} (h:PR I β w v c):v.oneCell'=true:=by
 cases c<;>simp only[PR] at h
 .exact h.oneCell
 .exact h.2.1.oneCell
 .obtain⟨_,_,rfl⟩:=h;rfl
 .obtain⟨_,_,_,_,_,_,_,rfl⟩:=h;rfl
 .obtain⟨_,_,rfl⟩:=h;rfl
 .obtain⟨_,_,rfl⟩:=h;rfl
 .obtain⟨_,_,rfl⟩:=h;rfl
theorem LR.oneCell {c:V} {ox:Option Nat} (h:LR base I β w ox v c) (hc:c.one=true):v.oneCell'=true/\v.cells=#[v]:=by
 cases c<;>simp only[V.one] at hc<;>try cases hc
 .exact⟨h.toC.oneCell,h.toC.notAgg⟩
 .exact⟨h.1.oneCell,h.1.notAgg⟩
 .obtain⟨_,_,rfl⟩:=h;exact⟨rfl,rfl⟩
 .obtain⟨_,_,rfl,_⟩:=h;exact⟨rfl,rfl⟩
 .obtain⟨_,_,_,_,_,_,_,rfl⟩:=h;exact⟨rfl,rfl⟩
 .obtain⟨_,_,rfl⟩:=h;exact⟨rfl,rfl⟩
 .obtain⟨_,_,rfl⟩:=h;exact⟨rfl,rfl⟩
 .obtain⟨_,_,_,_,_,_,_,_,rfl,_⟩:=h;exact⟨rfl,rfl⟩
theorem LR.gs_one {ox:Option Nat} {g:Option Value} {E:Option (TypeId×Nat)} {es:List (List C)} (h:LR base I β w ox v (.gs g E es)):v.oneCell'=true/\v.cells=#[v]:=by
 rcases h.gsO.2 with⟨_,_,_,_,rfl⟩ | ⟨_,_,_,_,_,_,_,rfl,_⟩<;>exact⟨rfl,rfl⟩
theorem ER {ox:Option Nat} (h:LR base I β w ox v x) {ds:List V} (hx:x.bcells=some ds):v.cells.size=ds.length/\
 (∀ j,LR base I β w (if j=0/\x.isOw=true then ox else none) (v.cells.getD j undef) (ds.getD j .un))/\(∀ u∈v.cells,u.oneCell'=true):=by
 have one:∀ c:V,c.one=true->x=c->ds=[c]->v.cells.size=ds.length/\
  (∀ j,LR base I β w (if j=0/\x.isOw=true then ox else none) (v.cells.getD j undef) (ds.getD j .un))/\(∀ u∈v.cells,u.oneCell'=true):=by
  rintro c hc rfl rfl;obtain⟨h1,h2⟩:=h.oneCell hc;rw[h2];refine⟨rfl,λj=>?_,by simpa using h1⟩;cases j with
  |zero=>
   show LR base I β w _ v x;by_cases ho:x.isOw=true
   .rw[if_pos ⟨rfl,ho⟩];exact h
   .rw[if_neg (by simp[ho])];exact h.other (by simpa using ho)
  |succ j=>simp only[fB,List.getD_nil,LR];exact .un _
 cases x<;>simp only[V.bcells] at hx<;>try cases hx
 .exact one (.c _) rfl rfl rfl
 .rename_i cs
  obtain⟨vs,rfl,h1,h2⟩:=h.agg;refine⟨by simpa[Value.cells] using h1,λj=>?_,λu hu=>?_⟩
  .rw[if_neg (by simp[V.isOw])]
   simp only[Value.cells];by_cases hj:j<cs.length
   .have:((cs.map V.c).getD j .un)=.c cs[j]:=by simp[List.getD,hj]
    rw[this];exact .ofC (h2 j _ (ai hj))
   .have:((cs.map V.c).getD j .un)=.un:=by simp[List.getD,bG (ec hj)]
    rw[this];simp only[LR];exact .un _
  .obtain⟨j,hj,rfl⟩:=fC.1 hu
   simp only[Value.cells] at hj;have:=(h2 j _ (ai (by omega))).oneCell;simpa[Value.cells,ax hj,hj] using this
 .exact one (.ow _ _) rfl rfl rfl
 .exact one (.bp _ _) rfl rfl rfl
 .exact one (.clo _ _ _) rfl rfl rfl
 .exact one (.ms _ _ _ _ _) rfl rfl rfl
 .simp only[LR] at h
  obtain⟨cells,rfl,h1,h2⟩:=h;refine⟨by simpa[Value.cells] using h1,λj=>?_,λu hu=>?_⟩
  .rw[if_neg (by simp[V.isOw])]
   simp only[Value.cells];by_cases hj:j<ds.length
   .have:(ds.getD j .un)=ds[j]:=by simp[List.getD,hj]
    rw[this];exact(h2 j _ (ai hj)).toLR
   .have:(ds.getD j .un)=.un:=by simp[List.getD,bG (ec hj)]
    rw[this];simp only[LR];exact .un _
  .obtain⟨j,hj,rfl⟩:=fC.1 hu
   simp only[Value.cells] at hj;have:=(h2 j _ (ai (by omega))).oneCell;simpa[Value.cells,ax hj,hj] using this
 .exact one (.mr _) rfl rfl rfl
 .exact one (.yl _) rfl rfl rfl
 .exact one (.hh _ _ _) rfl rfl rfl
 .obtain⟨h1,h2⟩:=h.gs_one
  rw[h2];refine⟨rfl,λj=>?_,by simpa using h1⟩;cases j with
  |zero=>rw[if_pos ⟨rfl,rfl⟩];exact h
  |succ j=>simp only[fB,List.getD_nil,LR];exact .un _
 .have hb:=h
  simp only[LR] at hb;obtain⟨blk,e1,rfl⟩:=hb;refine⟨rfl,λj=>?_,by simp[Value.cells,Value.oneCell']⟩;cases j with
  |zero=>rw[if_neg (by simp[V.isOw])];exact h.other rfl
  |succ j=>simp only[fB,List.getD_nil,LR];exact .un _
theorem ES {ox:Option Nat} (h:LR base I β w ox v x) {ds:List V} (hx:x.bcells=some ds):∀ d∈ds,d.isMk=false:=by
 cases x<;>simp only[V.bcells] at hx<;>try cases hx
 .simp[V.isMk]
 .simp[V.isMk]
 .simp[V.isMk]
 .simp[V.isMk]
 .simp[V.isMk]
 .simp[V.isMk]
 .simp only[LR] at h
  obtain⟨cells,rfl,h1,h2⟩:=h;intro d hd;obtain⟨j,hj,rfl⟩:=gQ hd;have:=h2 j _ (ai hj);cases hc:ds[j]<;>first | rfl | (rw[hc] at this;exact this.elim)
 .simp[V.isMk]
 .simp[V.isMk]
 .simp[V.isMk]
 .simp[V.isMk]
 .simp[V.isMk]
theorem GP {l:List V} (h:∀ d∈l,d.isMk=false):cL l=false:=by
 cases l with
 |nil=>rfl
 |cons x l=>exact h x (by simp)
theorem QS {l ds:List V} {k:Nat} (h:cL l=false) (h2:∀ d∈ds,d.isMk=false) (hk:k<=l.length):cL (eP l k ds)=false:=by
 unfold cL eP at *;cases k with
 |succ k=>cases l with
  |nil=>simp at hk
  |cons x l=>simpa using h
 |zero=>cases ds with
  |nil=>simpa using h
  |cons d ds=>exact h2 d (by simp)
theorem St.newBox (h:St G n I0 M w0 I β ob s a w) {cur:Array Value} {T:RT} {cs:List V} {od:Nat->Option Nat} (fO:cs.length<=cur.size) (hT:T.ok cur.size)
 (hc:∀ j,LR (Wr M w0) I β w (od j) (cur.getD j undef) (cs.getD j .un)) (h1:∀ u∈cur,u.oneCell'=true)
 (LO:∀ j b,od j=some b->(b<w.heap.size/\Wr M w0 b)/\(∀ L,ob L≠some b)/\∀ i,β i≠some b) (qn:∀ j j' b,od j=some b->od j'=some b->j=j') (lv:cL cs=false) :
 St G n I0 M w0 I (up β s.nb (some w.heap.size)) (λL=>match L with | .b i j=>if i=s.nb then od j else ob (.b i j) | L=>ob L)
  { s with bx:=up s.bx s.nb cs,nb:=s.nb+1 } a (w.alloc (.cells cur T.t T.fz)):=by
 have hs:=h.allocOwn (.cells cur T.t T.fz);have hβ:∀ i b,β i=some b->up β s.nb (some w.heap.size) i=some b:=λi b hi=>by
  have:i≠s.nb:=λe=>by rw[h.bnone i (by omega)] at hi;cases hi
  rw[cP _ _ this];exact hi
 have kb:∀ (o':Option Nat),(∀ b,o'=some b->b<w.heap.size)->∀ b,o'=some b->(w.alloc (.cells cur T.t T.fz)).heap[b]?=w.heap[b]?/\∀ k,I b k->I b k:=λo' ho b hb=>
  ⟨ee w _ b (ho b hb),λ_ h=>h⟩
 have hI:∀ b k,I b k->I b k/\(w.alloc (.cells cur T.t T.fz)).cell? ⟨b,k,none⟩=w.cell? ⟨b,k,none⟩:=λb k hb=>⟨hb,dP (a:=⟨b,k,none⟩) (ee w _ b (h.ibnd b k hb))⟩;have sO:=h.fresh (ab _);exact {
  size:=h.size,defers:=h.defers,below:=hs.below,kept:=hs.kept,ilow:=h.ilow,ihigh:=h.ihigh,ibnd:=hs.ibnd
  fr:=λt=>(h.fr t).mono hI hβ (kb _ λb hb=>(h.obnd _ b hb).1)
  bx:=λi hi=>by
   by_cases jg:i=s.nb
   .subst jg
    refine⟨w.heap.size,cur,by simp,.inl h.below.size,.of (ga w _) h1 hT (by simpa using lv),by simpa using fO,λj=>?_,λk hk=>?_⟩
    .simp only[cg,cZ]
     exact(hc j).mono hI hβ (kb _ λb hb=>(LO j b hb).1.1)
    .have:=h.ibnd _ _ hk;omega
   .obtain⟨blk,cur',e1,e2,e3,e4,e5,e7⟩:=h.bx i (by simp only at hi;omega)
    have bE:blk<w.heap.size:=e3.lt;refine⟨blk,cur',hβ i blk e1,e2,by simpa only[cP _ _ jg] using e3.mono (ee w _ blk bE),by simpa only[cP _ _ jg] using e4,λj=>?_,e7⟩;simp only[cP _ _ jg,if_neg jg];exact(e5 j).mono hI hβ (kb _ λb hb=>(h.obnd _ b hb).1)
  bnone:=λi hi=>by simp only at hi;rw[cP _ _ (by omega)];exact h.bnone i (by omega)
  ext:=λi b he=>hβ i b (h.ext i b he)
  bnew:=λi b hi=>by
   by_cases h1:i=s.nb
   .subst h1;rw[cg] at hi;cases hi;exact .inr (.inl h.below.size)
   .rw[cP _ _ h1] at hi;exact h.bnew i b hi
  binj:=λi j b hi hj=>by
   by_cases h1:i=s.nb<;>by_cases h2:j=s.nb
   .rw[h1,h2]
   .subst h1;rw[cg] at hi;cases hi;rw[cP _ _ h2] at hj;exact absurd hj (sO.2 j)
   .subst h2;rw[cg] at hj;cases hj;rw[cP _ _ h1] at hi;exact absurd hi (sO.2 i)
   .rw[cP _ _ h1] at hi;rw[cP _ _ h2] at hj;exact h.binj i j b hi hj
  oinj:=λL L' b hL yH=>by
   have key:∀ L,(match L with | .b i j=>if i=s.nb then od j else ob (.b i j) | L=>ob L)=some b->(∃ j,L=.b s.nb j/\od j=some b)∨ob L=some b:=λL hL=>by
    cases L with
    |t i=>exact .inr hL
    |b i j=>
     simp only at hL;split at hL
     .rename_i e;exact .inl ⟨j,by rw[e],hL⟩
     .exact .inr hL
   rcases key L hL with⟨j,rfl,hj⟩ | h1<;>rcases key L' yH with⟨j',rfl,ZI⟩ | h2
   .rw[qn j j' b hj ZI]
   .exact absurd h2 ((LO j b hj).2.1 L')
   .exact absurd h1 ((LO j' b ZI).2.1 L)
   .exact h.oinj L L' b h1 h2
  obx:=λL b i hL hi=>by
   have key:((∃ j,L=.b s.nb j/\od j=some b)∨ob L=some b):=by
    cases L with
    |t i=>exact .inr hL
    |b i' j=>
     simp only at hL;split at hL
     .rename_i e;exact .inl ⟨j,by rw[e],hL⟩
     .exact .inr hL
   by_cases jg:i=s.nb
   .subst jg;rw[cg] at hi;cases hi
    rcases key with⟨j,_,hj⟩ | hj
    .have:=(LO j _ hj).1.1;omega
    .exact sO.1 L hj
   .rw[cP _ _ jg] at hi
    rcases key with⟨j,_,hj⟩ | hj
    .exact(LO j b hj).2.2 i hi
    .exact h.obx L b i hj hi
  obnd:=λL b hL=>by
   have key:((∃ j,L=.b s.nb j/\od j=some b)∨ob L=some b):=by
    cases L with
    |t i=>exact .inr hL
    |b i' j=>
     simp only at hL;split at hL
     .rename_i e;exact .inl ⟨j,by rw[e],hL⟩
     .exact .inr hL
   rw[en];rcases key with⟨j,_,hj⟩ | hj
   .have:=(LO j b hj).1;exact⟨by omega,this.2⟩
   .have:=h.obnd L b hj;exact⟨by omega,this.2⟩
  glob:=λg cs hg=>(h.glob g cs hg).mono hI }
theorem HB.same {w:World} {blk:Nat} {c1 c2:Array Value} {l:List V} (hm:cL l=false) (h1:HB w blk c1 l) (h2:HB w blk c2 l):c1=c2:=by obtain⟨T1,e1,_⟩:=h1.cells hm;obtain⟨T2,e2,_⟩:=h2.cells hm;rw[e1] at e2;simp only[ao,Obj.cells.injEq] at e2;exact e2.1
theorem St.recell (h:St G n I0 M w0 I β ob s a w) {b k blk:Nat} {x x':V} (hb:b<s.nb) (hk:(s.bx b)[k]?=some x) (ZR:x.isMk=false) (D3:x'.isMk=false) (kb:ob (.b b k)=some blk)
 {w':World} (hg:w.grb w' (some blk)) (eU:∀ o,I blk o->w'.cell? ⟨blk,o,none⟩=w.cell? ⟨blk,o,none⟩) {I':Ft} (h1:∀ b o,I b o->I' b o) (h2:∀ b o,I' b o->I b o∨b=blk)
 (DY:∀ b1 cur,β b=some b1->HB w b1 cur (s.bx b)->LR (Wr M w0) I β w (some blk) (cur.getD k undef) x->LR (Wr M w0) I' β w' (some blk) (cur.getD k undef) x') :
 St G n I0 M w0 I' β ob { s with bx:=up s.bx b ((s.bx b).set k x') } a w':=by
 have zF:=h.obnd _ _ kb;have oK:=h.keeps hg (λr e o ho=>by cases e;exact eU o ho);have hI:∀ b o,I b o->I' b o/\w'.cell? ⟨b,o,none⟩=w.cell? ⟨b,o,none⟩:=λb o hb=>⟨h1 b o hb,oK b o hb⟩;have iE:∀ c,c≠blk->c<w.heap.size->w'.heap[c]?=w.heap[c]?/\∀ o,I' c o->I c o:=λc hc bE=>by
  refine⟨hg.block c bE (by simpa using hc),λo ho=>?_⟩;rcases h2 c o ho with h5 | h5
  .exact h5
  .exact absurd h5 hc
 have wY:∀ L,L≠.b b k->∀ c,ob L=some c->w'.heap[c]?=w.heap[c]?/\∀ o,I' c o->I c o:=λL hL c hc=>
  iE c (λe=>hL (h.oinj _ _ blk (e▸hc) kb)) (h.obnd L c hc).1
 have ql:k<(s.bx b).length:=(aj.1 hk).1;have mO:(s.bx b).getD k .un=x:=by simp[List.getD,hk]
 exact {
  size:=h.size,defers:=h.defers
  below:=h.below.grown hg (λq e=>by cases e;exact zF.2)
  kept:=λb o h0=>(oK b o (h.ilow b o h0)).trans (h.kept b o h0)
  ilow:=λb o hb=>h1 b o (h.ilow b o hb)
  ihigh:=λb o hb=>by
   rcases h2 b o hb with h3 | h3
   .exact h.ihigh b o h3
   .subst h3;exact .inr zF.2
  ibnd:=λb o hb=>by
   rcases h2 b o hb with h3 | h3
   .exact cu (h.ibnd b o h3) hg.size
   .subst h3;exact cu zF.1 hg.size
  fr:=λt=>(h.fr t).mono hI (λ_ _ e=>e) (wY (.t t) (by simp))
  bx:=λi hi=>by
   obtain⟨b1,cur,e1,e2,e3,e4,e5,e7⟩:=h.bx i hi;have gY:b1≠blk:=λe=>h.obx _ _ i kb (e▸e1);obtain⟨q1,q2⟩:=iE b1 gY e3.lt;by_cases qo:i=b
   .subst qo
    refine⟨b1,cur,e1,e2,?_,by simp only[cg,gd];exact e4,λj=>?_,λo ho=>e7 o (q2 o ho)⟩
    .simp only[cg]
     refine (e3.mono q1).congr (by simp) ?_;by_cases xd:k=0
     .subst xd
      have g1:((s.bx i).set 0 x').getD 0 .un=x':=(by simp[List.getD,ql]);rw[gK (by unfold cL;rw[g1];exact D3),gK (by unfold cL;rw[mO];exact ZR)]
     .have:((s.bx i).set k x').getD 0 .un=(s.bx i).getD 0 .un:=by simp[List.getD,cX xd]
      unfold qU;rw[this]
    .simp only[cg]
     by_cases hjk:j=k
     .subst hjk
      have:((s.bx i).set j x').getD j .un=x':=(by simp[List.getD,ql]);rw[this,kb];have h5:=e5 j;rw[mO,kb] at h5;exact DY b1 cur e1 e3 h5
     .have:((s.bx i).set k x').getD j .un=(s.bx i).getD j .un:=by simp[List.getD,cX (gZ hjk)]
      rw[this];exact(e5 j).mono hI (λ_ _ e=>e) (wY (.b i j) (by simp[hjk]))
   .refine⟨b1,cur,e1,e2,by simp only[cP _ _ qo];exact e3.mono q1,by simp only[cP _ _ qo];exact e4,λj=>?_,λo ho=>e7 o (q2 o ho)⟩
    simp only[cP _ _ qo];exact(e5 j).mono hI (λ_ _ e=>e) (wY (.b i j) (by simp[qo]))
  bnone:=h.bnone,ext:=h.ext,bnew:=h.bnew,binj:=h.binj,oinj:=h.oinj,obx:=h.obx
  obnd:=λL c q1=>⟨cu (h.obnd L c q1).1 hg.size,(h.obnd L c q1).2⟩
  glob:=λg cs ZB=>(h.glob g cs ZB).mono hI }
theorem tN (w:World) (row:Option Nat):w.grb w row:=⟨rfl,rfl,rfl,ab _,λ_ _ _=>rfl,ab _⟩
theorem St.hotCell (h:St G n I0 M w0 I β ob s a w) {b k:Nat} {g:Option Value} {E:Option (TypeId×Nat)} {es:List (List C)} (hb:b<s.nb) (hk:(s.bx b)[k]?=some (.hh g E es)):∃ blk cur b1,ob (.b b k)=some blk/\β b=some b1/\HB w b1 cur (s.bx b)/\
 LR (Wr M w0) I β w (some blk) (cur.getD k undef) (.hh g E es):=by
 obtain⟨b1,cur,e1,e2,e3,e4,e5,e7⟩:=h.bx b hb;have h5:=e5 k;have mO:(s.bx b).getD k .un=.hh g E es:=by simp[List.getD,hk]
 rw[mO] at h5;obtain⟨_,e,blk,cap,c2,sz,q1,_⟩:=h5.hot;rw[q1] at h5;exact⟨blk,cur,b1,q1,e1,e3,h5⟩
theorem St.name (h:St G n I0 M w0 I β ob s a w) {b k:Nat} {g:Option Value} {E:Option (TypeId×Nat)} {es:List (List C)} (hb:b<s.nb) (lv:cL (s.bx b)=false) (hk:(s.bx b)[k]?=some (.hh g E es)) :
 ∃ blk cap,St G n I0 M w0 I β ob (s.name b k (.slice (some ⟨blk,0,none⟩) es.length cap) E es) a w:=by
 obtain⟨blk,cur,b1,q1,q2,q3,q4⟩:=h.hotCell hb hk;have q4':=q4;obtain⟨_,e,sN,cap,c2,sz,r1,r2,r3,_⟩:=q4.hot;cases r1;refine⟨blk,cap,?_⟩;exact h.recell hb hk rfl rfl q1 (tN w _) (λ_ _=>rfl) (λ_ _ h=>h) (λ_ _ h=>.inl h) λb2 cur2 f1 f2 f3=>by rw[q2] at f1;cases f1;cases q3.same lv f2;exact⟨λu hu=>by cases hu;exact r3,f3.hot.2⟩
theorem ae7 {es:List (List C)} {sz:Nat} (h:∀ x∈es,x.length=sz):∀ x∈es.map (·.map C.wk),x.length=sz:=λx hx=>by obtain⟨y,hy,rfl⟩:=bU.1 hx;rw[au];exact h y hy
theorem CR.wk {I:Ft} {w:World} {v:Value} {c:C} (h:CR I w v c):CR I w v c.wk:=by
 cases c with
 |sx es=>exact h.sx_inv.1
 |_=>exact h
theorem aap {es:List (List C)}:(es.map (·.map C.wk)).flatten=es.flatten.map C.wk:=by
 induction es with
 |nil=>rfl
 |cons x l ih=>simp only[bA,cF,db,ih]
theorem St.cool (h:St G n I0 M w0 I β ob s a w) {b k:Nat} {g:Option Value} {E:Option (TypeId×Nat)} {es:List (List C)} (hb:b<s.nb) (hk:(s.bx b)[k]?=some (.hh g E es)):SE G n I0 M w0 (s.cool b k E es) a w:=by
 obtain⟨blk,cur,b1,q1,q2,q3,q4⟩:=h.hotCell hb hk;obtain⟨_,e,sN,cap,c2,sz,r1,r2,r3,r4,r5,r6,r7,r8,r9,r10,r11,r12⟩:=q4.hot;cases r1;refine⟨λb' o=>I b' o∨(b'=blk/\o<es.length*sz),β,ob,h.recell hb hk rfl rfl q1 (tN w _) (λ_ _=>rfl) (λ_ _ h=>.inl h) (λb' o h=>?_) λb2 cur2 f1 f2 f3=>?_⟩
 .rcases h with h | h
  .exact .inl h
  .exact .inr h.1
 .obtain⟨_,e',blk2,cap',c3,sz',s1,s2,s3,s4,s5,s6,s7,s8,s9,s10,s11,s12⟩:=f3.hot
  cases s1;rw[r2] at s2;cases s2;rw[r5] at s5;simp only[ao,Obj.cells.injEq] at s5;obtain⟨rfl,_⟩:=s5;rw[s3];have hwl:=ae7 r9;have lu:(es.map (·.map C.wk)).flatten.length=es.length*sz:=by rw[bN _ hwl,au]
  have jq:CR (λb' o=>I b' o∨(b'=blk/\o<es.length*sz)) w (.slice (some ⟨blk,0,none⟩) es.length cap') (.sl (es.map (·.map C.wk))):=by have:=CR.row (I':=λb' o=>I b' o∨(b'=blk/\o<es.length*sz)) (cap:=cap') (es:=es.map (·.map C.wk)) (sz:=sz) r5 (by rw[au];exact s6) hwl (λq c hq=>by rw[aap,bj,aV] at hq;obtain⟨c0,lF,rfl⟩:=hq;have h0:=(aj.1 lF).1;rw[bN _ r9] at h0;have h1:=aO sz s6;refine⟨by rw[s8];omega,((r10 q c0 lF).wk).mono λb o h=>⟨.inl h,rfl⟩⟩) (λo ho=>.inr ⟨rfl,by rw[au] at ho;exact ho⟩);rw[au] at this;exact this
  simp only[LR];refine⟨jq,.inr ⟨e,blk,cap',c2,sz,rfl,r2,by rw[au],r4,r5,by rw[au];exact s6,s7,s8,hwl,λo ho=>?_⟩⟩;rw[au];rcases ho with ho | ho
  .have h1:=r12 o ho
   exact cu h1 (aO _ (Nat.sub_le _ _))
  .exact ho.2
theorem St.setBox (h:St G n I0 M w0 I β ob s a w) {i k blk:Nat} {cur:Array Value} {T:RT} {vs:List Value} {ds:List V} {od:Nat->Option Nat} (hi:i<s.nb) (hβ:β i=some blk)
 (iz:w.heap[blk]?=some (.cells cur T.t T.fz)) (hT:T.ok cur.size) (cj:vs.length=ds.length) (vH:k+ds.length<=(s.bx i).length)
 (hc:∀ j,LR (Wr M w0) I β w (od j) (vs.getD j undef) (ds.getD j .un)) (h1:∀ u∈vs,u.oneCell'=true)
 (LO:∀ j b,od j=some b->(b<w.heap.size/\Wr M w0 b)/\(∀ L,ob L≠some b)/\∀ i,β i≠some b) (qn:∀ j j' b,od j=some b->od j'=some b->j=j') (lv:cL (s.bx i)=false) (hmd:∀ d∈ds,d.isMk=false) :
 St G n I0 M w0 I β (λL=>match L with | .b i' j=>if i'=i/\k<=j/\j<k+ds.length then od (j - k) else ob (.b i' j) | L=>ob L)
  { s with bx:=up s.bx i (eP (s.bx i) k ds) } a (w.setRow blk (cur.toList.take k++vs++cur.toList.drop (k+vs.length)).toArray):=by
 obtain⟨sN,cur',e1,e2,e3,e4,e5,e7⟩:=h.bx i hi;obtain⟨T',e3,e6⟩:=e3.cells lv;rw[hβ] at e1;cases e1;rw[iz] at e3;simp only[ao,Obj.cells.injEq] at e3;obtain⟨rfl,_,_⟩:=e3;have wZ:blk<w.heap.size:=(bf.1 iz).1;have j4:cur.toList.length=cur.size:=b8;have hg:w.grb (w.setRow blk (cur.toList.take k++vs++cur.toList.drop (k+vs.length)).toArray) (some blk):=
  ⟨rfl,rfl,rfl,by simp,λq _ hq=>jV w blk q _ (λe=>hq (by rw[e])),ab _⟩
 have oK:=h.keeps hg (λr e o ho=>by cases e;exact absurd ho (e7 o));have hI:∀ b q,I b q->I b q/\(w.setRow blk (cur.toList.take k++vs++cur.toList.drop (k+vs.length)).toArray).cell? ⟨b,q,none⟩=w.cell? ⟨b,q,none⟩:=λb q hb=>⟨hb,oK b q hb⟩;have kb:∀ (o':Option Nat),(∀ b,o'=some b->∀ i,β i≠some b)->∀ b,o'=some b->(w.setRow blk (cur.toList.take k++vs++cur.toList.drop (k+vs.length)).toArray).heap[b]?=w.heap[b]?/\∀ q,I b q->I b q:=
  λo' ho b hb=>⟨jV w blk b _ (λe=>ho b hb i (by rw[e];exact hβ)),λ_ h=>h⟩
 have key:∀ L b,(match L with | .b i' j=>if i'=i/\k<=j/\j<k+ds.length then od (j - k) else ob (.b i' j) | L=>ob L)=some b->
  (∃ j,L=.b i (k+j)/\od j=some b)∨ob L=some b:=λL b hL=>by
  cases L with
  |t i=>exact .inr hL
  |b i' j=>
   simp only at hL;split at hL
   .rename_i e;exact .inl ⟨j - k,by rw[e.1];congr 1;omega,hL⟩
   .exact .inr hL
 exact {
  size:=h.size,defers:=h.defers
  below:=h.below.grown hg (λq e=>by cases e;exact e2)
  kept:=λb o h0=>(oK b o (h.ilow b o h0)).trans (h.kept b o h0)
  ilow:=h.ilow,ihigh:=h.ihigh
  ibnd:=λb q hb=>by simpa using h.ibnd b q hb
  fr:=λt=>(h.fr t).mono hI (λ_ _ e=>e) (kb _ λb hb i=>h.obx _ b i hb)
  bx:=λi' sQ=>by
   by_cases hii:i'=i
   .subst hii
    refine⟨blk,_,hβ,e2,.of (lR w blk cur _ T.t _ iz) (λu hu=>?_) ?_ (by simpa only[cg] using QS lv hmd (by omega)),?_,λj=>?_,e7⟩
    rotate_left
    .have:(cur.toList.take k++vs++cur.toList.drop (k+vs.length)).toArray.size=cur.size:=by simp only[eM,ae,aN,cw,j4];omega
     rw[this];exact hT
    .simp only[cg,eP,eM,ae,aN,cw,j4];omega
    .have alk:((cur.toList.take k++vs++cur.toList.drop (k+vs.length)).toArray.getD j undef)=if k<=j/\j<k+ds.length then vs.getD (j - k) undef else cur.getD j undef:=by
      rw[ak,dt];have LI:(cur.toList.take k).length=k:=(by rw[aN,j4];omega);by_cases ha:j<k
      .rw[if_neg (by omega),aI,aA (by omega),cA,if_pos ha,aQ,<- ak]
      .by_cases hb:j<k+ds.length
       .rw[if_pos ⟨by omega,hb⟩,aI,aH (by omega),LI,aA (by omega),aB]
       .rw[if_neg (by omega),aH (by rw[ae,LI];omega),cK,ae,LI,aQ,
         show k+vs.length+(j - (k+vs.length))=j by omega,<- ak]
     have alm:(eP (s.bx i') k ds).getD j .un=if k<=j/\j<k+ds.length then ds.getD (j - k) .un else(s.bx i').getD j .un:=by
      unfold eP;rw[aB];have LI:((s.bx i').take k).length=k:=(by rw[aN];omega);by_cases ha:j<k
      .rw[if_neg (by omega),aI,aA (by omega),cA,if_pos ha,<- aB]
      .by_cases hb:j<k+ds.length
       .rw[if_pos ⟨by omega,hb⟩,aI,aH (by omega),LI,aA (by omega),aB]
       .rw[if_neg (by omega),aH (by rw[ae,LI];omega),cK,ae,LI,
         show k+ds.length+(j - (k+ds.length))=j by omega,<- aB]
     simp only[cg];rw[alk,alm];by_cases jg:k<=j/\j<k+ds.length
     .rw[if_pos jg,if_pos jg,if_pos ⟨trivial,jg⟩]
      exact(hc (j - k)).mono hI (λ_ _ e=>e) (kb _ λb hb=>(LO _ b hb).2.2)
     .rw[if_neg jg,if_neg jg,if_neg (λe=>jg e.2)]
      exact(e5 j).mono hI (λ_ _ e=>e) (kb _ λb hb i=>h.obx _ b i hb)
    .simp only[gu,ba] at hu
     rcases hu with(hu | hu) | hu
     .exact e6.1 u (by simpa using dp hu)
     .exact h1 u hu
     .exact e6.1 u (by simpa using cQ hu)
   .obtain⟨b2,c2,q1,q2,q3,q4,q5,q7⟩:=h.bx i' sQ
    have gY:b2≠blk:=λe=>hii (h.binj i' i blk (by rw[<- e];exact q1) hβ);refine⟨b2,c2,q1,q2,by simpa only[cP _ _ hii] using q3.mono (jV w blk b2 _ gY),by simpa only[cP _ _ hii] using q4,λj=>?_,q7⟩;simp only[cP _ _ hii];rw[if_neg (λe=>hii e.1)];exact(q5 j).mono hI (λ_ _ e=>e) (kb _ λb hb i=>h.obx _ b i hb)
  bnone:=h.bnone,ext:=h.ext,bnew:=h.bnew,binj:=h.binj
  oinj:=λL L' b hL yH=>by
   rcases key L b hL with⟨j,rfl,hj⟩ | h1<;>rcases key L' b yH with⟨j',rfl,ZI⟩ | h2
   .rw[qn j j' b hj ZI]
   .exact absurd h2 ((LO j b hj).2.1 L')
   .exact absurd h1 ((LO j' b ZI).2.1 L)
   .exact h.oinj L L' b h1 h2
  obx:=λL b q hL=>by
   rcases key L b hL with⟨j,_,hj⟩ | hj
   .exact(LO j b hj).2.2 q
   .exact h.obx L b q hj
  obnd:=λL b hL=>by
   rw[size_setRow];rcases key L b hL with⟨j,_,hj⟩ | hj
   .exact(LO j b hj).1
   .exact h.obnd L b hj
  glob:=λg cs ZB=>(h.glob g cs ZB).mono hI }
theorem St.boxblk (hst:St G n I0 M w0 I β ob s a w) {i b:Nat} (h:β i=some b):i<s.nb/\Wr M w0 b/\b<w.heap.size:=by
 by_cases hi:i<s.nb
 .obtain⟨blk,cur,e1,e2,e3,_⟩:=hst.bx i hi
  rw[h] at e1;cases e1;exact⟨hi,e2,e3.lt⟩
 .rw[hst.bnone i (by omega)] at h;cases h
end
section
variable {P:Program} {G:Gl} {tr:List Nat} {n:Nat} {I0:Ft} {M:Mx} {w0:World} {I:Ft} {β:Nat->Option Nat} {ob:Loc->Option Nat} {s:S} {a:Act} {w:World} {o:Oper}
 {next:Act->World->Prop} {Q:Exit->Act->World->Prop} {base:Nat->Prop} {v:Value} {x y:V}
def World.putObj (w:World) (r:Nat) (o:Obj):World:={ w with heap:=w.heap.setIfInBounds r o }
theorem om {r:Nat} {o:Obj} (h:r<w.heap.size):(World.putObj w r o).heap[r]?=some o:=by simp[World.putObj,h]
theorem pg {r q:Nat} {o:Obj} (h:q≠r):(World.putObj w r o).heap[q]?=w.heap[q]?:=by simp[World.putObj,gZ h]
theorem putObj_size {r:Nat} {o:Obj}:(World.putObj w r o).heap.size=w.heap.size:=by simp[World.putObj]
theorem pj (r:Nat) (o:Obj):w.grb (World.putObj w r o) (some r):=
 ⟨rfl,rfl,rfl,by simp[World.putObj],λq _ hq=>pg (λe=>hq (by rw[e])),ab _⟩
theorem St.reBox (h:St G n I0 M w0 I β ob s a w) {i blk:Nat} {o:Obj} {cur:Array Value} {l:List V} (hi:i<s.nb) (hβ:β i=some blk)
 (hHB:HB (World.putObj w blk o) blk cur l) (hl:l.length<=cur.size) {od:Nat->Option Nat} (hc:∀ j,LR (Wr M w0) I β w (od j) (cur.getD j undef) (l.getD j .un))
 (LO:∀ j b,od j=some b->ob (.b i j)=some b) :
 St G n I0 M w0 I β (λL=>match L with | .b i' j=>if i'=i then od j else ob (.b i' j) | L=>ob L) { s with bx:=up s.bx i l } a (World.putObj w blk o):=by
 obtain⟨sN,cur',e1,e2,e3,e4,e5,e7⟩:=h.bx i hi;rw[hβ] at e1;cases e1;have wZ:blk<w.heap.size:=e3.lt;have hg:=pj (w:=w) blk o;have oK:=h.keeps hg (λr e o ho=>by cases e;exact absurd ho (e7 o));have hI:∀ b q,I b q->I b q/\(World.putObj w blk o).cell? ⟨b,q,none⟩=w.cell? ⟨b,q,none⟩:=λb q hb=>⟨hb,oK b q hb⟩;have kb:∀ (o':Option Nat),(∀ b,o'=some b->∀ i,β i≠some b)->∀ b,o'=some b->(World.putObj w blk o).heap[b]?=w.heap[b]?/\∀ q,I b q->I b q:=
  λo' ho b hb=>⟨pg (λe=>ho b hb i (by rw[e];exact hβ)),λ_ h=>h⟩
 have key:∀ L b,(match L with | .b i' j=>if i'=i then od j else ob (.b i' j) | L=>ob L)=some b->ob L=some b:=λL b hL=>by
  cases L with
  |t i=>exact hL
  |b i' j=>
   simp only at hL;split at hL
   .rename_i e;rw[e];exact LO j b hL
   .exact hL
 exact {
  size:=h.size,defers:=h.defers
  below:=h.below.grown hg (λq e=>by cases e;exact e2)
  kept:=λb o h0=>(oK b o (h.ilow b o h0)).trans (h.kept b o h0)
  ilow:=h.ilow,ihigh:=h.ihigh
  ibnd:=λb q hb=>by rw[putObj_size];exact h.ibnd b q hb
  fr:=λt=>(h.fr t).mono hI (λ_ _ e=>e) (kb _ λb hb i=>h.obx _ b i hb)
  bx:=λi' sQ=>by
   by_cases hii:i'=i
   .subst hii
    refine⟨blk,cur,hβ,e2,by simpa only[cg] using hHB,by simpa only[cg] using hl,λj=>?_,e7⟩;simp only[cg,cZ];exact(hc j).mono hI (λ_ _ e=>e) (kb _ λb hb q=>h.obx _ b q (LO j b hb))
   .obtain⟨b2,c2,q1,q2,q3,q4,q5,q7⟩:=h.bx i' sQ
    have gY:b2≠blk:=λe=>hii (h.binj i' i blk (by rw[<- e];exact q1) hβ);refine⟨b2,c2,q1,q2,by simpa only[cP _ _ hii] using q3.mono (pg gY),by simpa only[cP _ _ hii] using q4,λj=>?_,q7⟩;simp only[cP _ _ hii,if_neg hii];exact(q5 j).mono hI (λ_ _ e=>e) (kb _ λb hb i=>h.obx _ b i hb)
  bnone:=h.bnone,ext:=h.ext,bnew:=h.bnew,binj:=h.binj
  oinj:=λL L' b hL yH=>h.oinj L L' b (key L b hL) (key L' b yH)
  obx:=λL b q hL=>h.obx L b q (key L b hL)
  obnd:=λL b hL=>by rw[putObj_size];exact h.obnd L b (key L b hL)
  glob:=λg cs ZB=>(h.glob g cs ZB).mono hI }
theorem QT {es:List MapEntry} {r:List V} {bs:List Nat} {cl:Nat} {od:Nat->Option Nat} (hr:r.length=2*es.length)
 (h:∀ (j:Nat) (e:MapEntry),es[j]?=some e->LR base I β w (od (2*j+1)) e.key (r.getD (2*j) .un)/\LR base I β w (od (2*j+2)) e.val (r.getD (2*j+1) .un)) (j:Nat) :
 LR base I β w (od j) ((undef::lH es).toArray.getD j undef) ((V.mk bs cl::r).getD j .un):=by
 have hg:∀ q,(undef::lH es).toArray.getD (q+1) undef=((lH es)[q]?).getD undef:=λq=>by simp
 cases j with
 |zero=>simp[LR]
 |succ q=>
  rw[hg];simp only[fB];by_cases hq:q<r.length
  .have bE:q / 2<es.length:=by omega
   obtain⟨l1,l2⟩:=h (q / 2) _ (ai bE);obtain⟨c1,c2⟩:=sd es (q / 2) _ (ai bE);rcases Nat.mod_two_eq_zero_or_one q with hm | hm
   .have e:2*(q / 2)=q:=by omega
    rw[e] at l1 c1;rw[c1];exact l1
   .have e:2*(q / 2)+1=q:=by omega
    rw[show 2*(q / 2)+2=2*(q / 2)+1+1 by omega,e] at l2;rw[e] at c2;rw[c2];exact l2
  .have:r.getD q .un=.un:=by simp[List.getD,bG (ec hq)]
   rw[this];simp only[LR];exact .un _
theorem St.reMap (h:St G n I0 M w0 I β ob s a w) {i cl blk:Nat} {bs:List Nat} {r:List V} {es:Array MapEntry} (hm:Va P I M w0 β ob s w i bs cl r blk es) {es':Array MapEntry} {cl':Nat} {bs':List Nat} {r':List V}
 (hb:es'.toList.map (·.born)=bs') (hr:r'.length=2*bs'.length) {od:Nat->Option Nat} (LO:∀ j b,od j=some b->ob (.b i j)=some b)
 (ano:∀ (j:Nat) (e:MapEntry),es'.toList[j]?=some e->LR (Wr M w0) I β w (od (2*j+1)) e.key (r'.getD (2*j) .un)/\LR (Wr M w0) I β w (od (2*j+2)) e.val (r'.getD (2*j+1) .un)) :
 ∃ ob',St G n I0 M w0 I β ob' { s with bx:=up s.bx i (.mk bs' cl'::r') } a (World.putObj w blk (.map es' cl')):=by
 have bE:blk<w.heap.size:=(bf.1 hm.heap).1;have cj:es'.toList.length=bs'.length:=by rw[<- hb,au]
 refine⟨_,h.reBox (cur:=(undef::lH es'.toList).toArray) (od:=od) hm.lt hm.bt ?_ ?_ (λj=>QT (by omega) ano j) LO⟩
 .unfold HB
  have:qU (V.mk bs' cl'::r')=some (.mp bs' cl'):=rfl;rw[this];exact⟨es',om bE,hb,rfl,by simp[hr];omega⟩
 .simp[xx,cj,hr]
theorem tO {l:List V} {i j:Nat} {x:V} (h:i≠j):(l.set i x).getD j .un=l.getD j .un:=by simp[List.getD,List.getElem?_set,h]
theorem Ei {l:List V} {i:Nat} {x:V} (h:i<l.length):(l.set i x).getD i .un=x:=by simp[List.getD,h]
theorem St.newMap (h:St G n I0 M w0 I β ob s a w) :
 St G n I0 M w0 I (up β s.nb (some w.heap.size)) (λL=>match L with | .b i j=>if i=s.nb then none else ob (.b i j) | L=>ob L)
  { s with bx:=up s.bx s.nb [.mk [] 0],nb:=s.nb+1 } a (w.alloc (.map #[] 0)):=by
 have hs:=h.allocOwn (.map #[] 0);have hβ:∀ i b,β i=some b->up β s.nb (some w.heap.size) i=some b:=λi b hi=>by
  have:i≠s.nb:=λe=>by rw[h.bnone i (by omega)] at hi;cases hi
  rw[cP _ _ this];exact hi
 have kb:∀ (o':Option Nat),(∀ b,o'=some b->b<w.heap.size)->∀ b,o'=some b->(w.alloc (.map #[] 0)).heap[b]?=w.heap[b]?/\∀ k,I b k->I b k:=λo' ho b hb=>
  ⟨ee w _ b (ho b hb),λ_ h=>h⟩
 have hI:∀ b k,I b k->I b k/\(w.alloc (.map #[] 0)).cell? ⟨b,k,none⟩=w.cell? ⟨b,k,none⟩:=λb k hb=>⟨hb,dP (a:=⟨b,k,none⟩) (ee w _ b (h.ibnd b k hb))⟩;have sO:=h.fresh (ab _);have key:∀ L b,(match L with | .b i j=>if i=s.nb then none else ob (.b i j) | L=>ob L)=some b->ob L=some b:=λL b hL=>by
  cases L with
  |t i=>exact hL
  |b i j=>
   simp only at hL;split at hL
   .cases hL
   .exact hL
 exact {
  size:=h.size,defers:=h.defers,below:=hs.below,kept:=hs.kept,ilow:=h.ilow,ihigh:=h.ihigh,ibnd:=hs.ibnd
  fr:=λt=>(h.fr t).mono hI hβ (kb _ λb hb=>(h.obnd _ b hb).1)
  bx:=λi hi=>by
   by_cases jg:i=s.nb
   .subst jg
    refine⟨w.heap.size,#[undef],by simp,.inl h.below.size,?_,by simp,λj=>?_,λk hk=>?_⟩
    .simp only[cg]
     exact⟨#[],ga w _,rfl,rfl,rfl⟩
    .simp only[cg,cZ]
     cases j with
     |zero=>simp[LR]
     |succ j=>simp only[fB,List.getD_nil,LR];exact .un _
    .have:=h.ibnd _ _ hk;omega
   .obtain⟨blk,cur',e1,e2,e3,e4,e5,e7⟩:=h.bx i (by simp only at hi;omega)
    have bE:blk<w.heap.size:=e3.lt;refine⟨blk,cur',hβ i blk e1,e2,by simpa only[cP _ _ jg] using e3.mono (ee w _ blk bE),by simpa only[cP _ _ jg] using e4,λj=>?_,e7⟩;simp only[cP _ _ jg,if_neg jg];exact(e5 j).mono hI hβ (kb _ λb hb=>(h.obnd _ b hb).1)
  bnone:=λi hi=>by simp only at hi;rw[cP _ _ (by omega)];exact h.bnone i (by omega)
  ext:=λi b he=>hβ i b (h.ext i b he)
  bnew:=λi b hi=>by
   by_cases h1:i=s.nb
   .subst h1;rw[cg] at hi;cases hi;exact .inr (.inl h.below.size)
   .rw[cP _ _ h1] at hi;exact h.bnew i b hi
  binj:=λi j b hi hj=>by
   by_cases h1:i=s.nb<;>by_cases h2:j=s.nb
   .rw[h1,h2]
   .subst h1;rw[cg] at hi;cases hi;rw[cP _ _ h2] at hj;exact absurd hj (sO.2 j)
   .subst h2;rw[cg] at hj;cases hj;rw[cP _ _ h1] at hi;exact absurd hi (sO.2 i)
   .rw[cP _ _ h1] at hi;rw[cP _ _ h2] at hj;exact h.binj i j b hi hj
  oinj:=λL L' b hL yH=>h.oinj L L' b (key L b hL) (key L' b yH)
  obx:=λL b i hL hi=>by
   by_cases jg:i=s.nb
   .subst jg;rw[cg] at hi;cases hi
    exact sO.1 L (key L _ hL)
   .rw[cP _ _ jg] at hi
    exact h.obx L b i (key L b hL) hi
  obnd:=λL b hL=>by rw[en];have:=h.obnd L b (key L b hL);exact⟨by omega,this.2⟩
  glob:=λg cs hg=>(h.glob g cs hg).mono hI }
theorem ET (hst:St G n I0 M w0 I β ob s a w) {i cl blk j:Nat} {bs:List Nat} {r:List V} {es:Array MapEntry} (hm:Va P I M w0 β ob s w i bs cl r blk es) {e:MapEntry} (he:es.toList[j]?=some e)
 {vv:Value} (hv:LR (Wr M w0) I β w none vv y) {f:MapEntry->MapEntry} (hf:f e={ e with val:=vv }) :
 ∃ ob',St G n I0 M w0 I β ob' { s with bx:=up s.bx i (.mk bs cl::r.set (2*j+1) y) } a (World.putObj w blk (.map (es.modify j f) cl)):=by
 have hj:j<es.toList.length:=(aj.1 he).1;have OP:es.toList.length=bs.length:=by rw[<- hm.born,au]
 have qk:∀ q,(es.modify j f).toList[q]?=if q=j then some { e with val:=vv } else es.toList[q]?:=λq=>by
  rw[Array.toList_modify,List.getElem?_modify];by_cases hq:j=q
  .subst hq;simp[he,hf]
  .simp[hq,gZ hq]
 refine hst.reMap hm (es':=es.modify j f) (bs':=bs) (cl':=cl) (od:=λq=>if q=2*j+2 then none else ob (.b i q)) ?_ (by rw[gd];exact hm.len) (λq b hq=>by split at hq;cases hq;exact hq) λq e' hq=>?_
 .rw[<- hm.born]
  apply fY;intro q;rw[bj,bj,qk];by_cases hq:q=j
  .subst hq;simp only[cZ,he,cT]
  .rw[if_neg hq]
 .rw[qk] at hq
  by_cases hqj:q=j
  .subst hqj
   simp only[cZ,ao] at hq;subst hq;obtain⟨l1,_⟩:=hm.ent q e he;refine⟨?_,?_⟩
   .rw[tO (by omega),if_neg (by omega)];exact l1
   .rw[Ei (by have:=hm.len;omega),if_pos rfl];exact hv
  .rw[if_neg hqj] at hq
   obtain⟨l1,l2⟩:=hm.ent q e' hq;refine⟨?_,?_⟩
   .rw[tO (by omega),if_neg (by omega)];exact l1
   .rw[tO (by omega),if_neg (by omega)];exact l2
theorem wj (hst:St G n I0 M w0 I β ob s a w) {i cl blk:Nat} {bs:List Nat} {r:List V} {es:Array MapEntry} (hm:Va P I M w0 β ob s w i bs cl r blk es)
 {vk vv:Value} (hk:LR (Wr M w0) I β w none vk x) (hv:LR (Wr M w0) I β w none vv y) :
 ∃ ob',St G n I0 M w0 I β ob' { s with bx:=up s.bx i (.mk (bs++[cl]) (cl+1)::(r++[x,y])) } a (World.putObj w blk (.map (es.push { key:=vk,val:=vv,born:=cl }) (cl+1))):=by
 have OP:es.toList.length=bs.length:=by rw[<- hm.born,au]
 have cj:=hm.len;refine hst.reMap hm (es':=es.push { key:=vk,val:=vv,born:=cl }) (bs':=bs++[cl]) (cl':=cl+1) (od:=λq=>if q<1+r.length then ob (.b i q) else none) (by simp[hm.born]) (by simp[cj];omega)
  (λq b hq=>by split at hq;exact hq;cases hq) λq e' hq=>?_
 rw[Array.toList_push] at hq;by_cases hqj:q<es.toList.length
 .rw[aA hqj] at hq
  obtain⟨l1,l2⟩:=hm.ent q e' hq;have g:∀ p,p<r.length->(r++[x,y]).getD p .un=r.getD p .un:=λp hp=>by simp[List.getD,aA hp]
  refine⟨?_,?_⟩
  .rw[g _ (by omega),if_pos (by omega)];exact l1
  .rw[g _ (by omega),if_pos (by omega)];exact l2
 .rw[aH (by omega)] at hq
  have hq0:q - es.toList.length=0:=by have:=(aj.1 hq).1;simp at this;omega
  rw[hq0] at hq;simp only[bQ,ao] at hq;subst hq;have e1:2*q=r.length:=by omega
  refine⟨?_,?_⟩
  .rw[if_neg (by omega),e1]
   have:(r++[x,y]).getD r.length .un=x:=(by simp[List.getD]);rw[this];exact hk
  .rw[if_neg (by omega),e1]
   have:(r++[x,y]).getD (r.length+1) .un=y:=(by simp[List.getD]);rw[this];exact hv
theorem aaq {I:Ft} {w:World} {u1 u2:Value} {d1 d2:V} (h1:DR I w u1 d1) (h2:DR I w u2 d2):DR I w (.tuple #[u1,u2]) (.tup [d1,d2]):=by
 refine .tup _ _ rfl λq d hd=>?_
 match q with
 |0=>simp at hd;subst hd;exact h1
 |1=>simp at hd;subst hd;exact h2
 |q+2=>simp at hd
theorem vO {T:TypeId} {k z:V} {K:S->Prop} {vx vk vv:Value} {ox oy oz:Option Nat} (hst:St G n I0 M w0 I β ob s a w) (h:iC P T s x k z K)
 (hx:LR (Wr M w0) I β w ox vx x) (hy:LR (Wr M w0) I β w oy vk k) (hz:LR (Wr M w0) I β w oz vv z) :
 ∃ s' ob' w',K s'/\(Instr.mapUpdate T vx vk vv).run P w=.ok () w'/\St G n I0 M w0 I β ob' s' a w':=by
 unfold iC at h;obtain⟨i,bs,cl,r,res,z0,blk,kt,et,es,zv,hK,rfl,rfl,hm,hu,vJ,ED,vI,ZL,Uw⟩:=pf hst h hx hy;have hg:=fq (P:=P) hm.heap;cases res with
 |some j=>
  obtain⟨e,he,Iu,LP⟩:=vI j rfl;simp only[cT,he,cV] at ED;obtain⟨ob',cO⟩:=ET hst hm he (hz.fz none) (f:=λe=>{ e with key:=vk,val:=vv }) (by rw[Iu])
  have he':es[j]?=some e:=by rw[<- aQ];exact he
  refine⟨_,ob',_,hK,?_,cO⟩;simp[Instr.mapUpdate,aR hu,hg,vJ,ED,he',LP,fP _ hm.heap,Result.andThen,World.putObj]
 |none=>simp only[kZ] at ED;obtain⟨ob',cO⟩:=wj hst hm (hy.fz none) (hz.fz none);refine⟨_,ob',_,hK,?_,cO⟩;simp[Instr.mapUpdate,aR hu,hg,vJ,ED,fP _ hm.heap,Result.andThen,World.putObj]
theorem AE {T:TypeId} {k:V} {K:S->V->Prop} {vx vk:Value} {ox oy:Option Nat} (hst:St G n I0 M w0 I β ob s a w) (h:gq P T s x k K)
 (hx:LR (Wr M w0) I β w ox vx x) (hy:LR (Wr M w0) I β w oy vk k) :
 ∃ s' ob' w' z u,K s' z/\(Instr.mapEntry T vx vk).run P w=.ok u w'/\St G n I0 M w0 I β ob' s' a w'/\LR (Wr M w0) I β w' none u z:=by
 unfold gq at h;obtain⟨i,bs,cl,r,res,z0,blk,kt,et,es,zv,hK,rfl,rfl,hm,hu,vJ,ED,vI,ZL,Uw⟩:=pf hst h hx hy;have hg:=fq (P:=P) hm.heap;have hI:∀ (o':Obj) b o,I b o->I b o/\(World.putObj w blk o').cell? ⟨b,o,none⟩=w.cell? ⟨b,o,none⟩:=λo' b o hb=>
  ⟨hb,hst.keeps (pj blk o') (λr e o ho=>by cases e;exact absurd ho (hm.fr o)) b o hb⟩
 cases res with
 |some j=>
  obtain⟨e,he,Iu,LP⟩:=vI j rfl;simp only[cT,he,cV] at ED;obtain⟨l1,l2⟩:=hm.ent j e he;have he':es[j]?=some e:=by rw[<- aQ];exact he
  have hbj:bs.getD j 0=e.born:=by rw[<- hm.born];simp[List.getD,he]
  have hr:(r.set (2*j+1) (r.getD (2*j+1) .un))=r:=by
   apply fY;intro q;rw[List.getElem?_set];split
   .rename_i e;subst e
    split
    .rename_i hl;simp[List.getD,hl]
    .rename_i hl;rw[bG (by omega)]
   .rfl
  have oJ:up s.bx i (V.mk bs cl::r)=s.bx:=by rw[<- hm.bx];exact rZ _ _
  have cO:∃ ob',St G n I0 M w0 I β ob' s a (World.putObj w blk (.map (es.modify j λe=>{ e with key:=vk }) cl)):=by
   have qk:∀ q,(es.modify j λe=>{ e with key:=vk }).toList[q]?=es.toList[q]?:=λq=>by
    rw[Array.toList_modify,List.getElem?_modify];by_cases hq:j=q
    .subst hq;rw[he,<- Iu];simp
    .cases es.toList[q]?<;>simp[hq]
   have hl:(es.modify j λe=>{ e with key:=vk })=es:=dB (fY qk)
   rw[hl];obtain⟨ob',h'⟩:=hst.reMap hm (es':=es) (bs':=bs) (cl':=cl) (r':=r) (od:=λq=>ob (.b i q)) hm.born hm.len (λ_ _ h=>h) hm.ent;rw[oJ] at h';exact⟨ob',h'⟩
  obtain⟨ob',cO⟩:=cO;refine⟨s,ob',_,_,.tuple #[e.val,.int .i64 e.born],hK,?_,cO,?_⟩
  .simp[Instr.mapEntry,aR hu,hg,vJ,ED,he',LP,fP _ hm.heap,Result.andThen,World.putObj,goInt]
  .simp only[LR]
   rw[hbj];exact(aaq (vN l2) (.c _ _ (.lit _ rfl))).mono (hI _)
 |none=>
  simp only[kZ] at ED;obtain⟨ob',cO⟩:=wj hst hm (hy.fz none) Uw;refine⟨_,ob',_,_,.tuple #[zv,.int .i64 cl],hK,?_,cO,?_⟩
  .simp[Instr.mapEntry,aR hu,hg,vJ,ED,ZL,fP _ hm.heap,Result.andThen,World.putObj,goInt]
  .simp only[LR]
   exact(aaq (vN Uw) (.c _ _ (.lit _ rfl))).mono (hI _)
theorem MO {es:List MapEntry} {m:Int} {j:Nat} (h:(es.map (·.born)).findIdx? (λ(b:Nat)=>(b:Int)==m)=some j):∃ e,es[j]?=some e/\es.findIdx? (λe=>(e.born:Int)==m)=some j:=by
 have h1:es.findIdx? (λe=>(e.born:Int)==m)=some j:=by rw[List.findIdx?_map] at h;exact h
 have bE:j<es.length:=by have:=eG.1 h1;exact this.1
 exact⟨_,ai bE,h1⟩
theorem AG {T:TypeId} {k z:V} {K:S->Prop} {vx vk vv:Value} {ox oy oz:Option Nat} (hst:St G n I0 M w0 I β ob s a w) (h:fM s x k z K)
 (hx:LR (Wr M w0) I β w ox vx x) (hy:LR (Wr M w0) I β w oy vk k) (hz:LR (Wr M w0) I β w oz vv z) :
 ∃ s' ob' w',K s'/\(Instr.entryStore T vx vk vv).run P w=.ok () w'/\St G n I0 M w0 I β ob' s' a w':=by
 unfold fM at h;split at h
 .rename_i i ik m
  split at h
  .rename_i bs cl r hb
   split at h
   .rename_i j hj
    obtain⟨hi,hK⟩:=h;simp only[LR] at hx;obtain⟨blk,hβ,rfl⟩:=hx;obtain⟨es,hm⟩:=hst.mapW (P:=P) hi hb hβ;have hg:=fq (P:=P) hm.heap;have:=hy.lit;subst this;rw[<- hm.born] at hj;obtain⟨e,he,hf⟩:=MO hj;have IC:es.findIdx? (λe=>(e.born:Int)==m)=some j:=(by rw[show es=es.toList.toArray by simp,List.findIdx?_toArray];exact hf);obtain⟨ob',cO⟩:=ET hst hm he (hz.fz none) (f:=λe=>{ e with val:=vv }) rfl
    refine⟨_,ob',_,hK,?_,cO⟩;simp[Instr.entryStore,hg,IC,asInt,asIntOf,fP _ hm.heap,Result.andThen,World.putObj]
   .exact h.elim
  .exact h.elim
 .exact h.elim
theorem Vb {t:Nat} {u:Value} (h:a.tmps.getD t undef=u) (ht:t<a.tmps.size):a.put (some t) u=a:=by
 have:a.tmps.setIfInBounds t u=a.tmps:=by
  apply nc (by simp);intro i h1 h2;rw[gw];split
  .rename_i e;subst e;rw[<- h];simp[ht]
  .rfl
 simp only[Act.put,this]
theorem IZ {t:Nat} {ty:TypeId} {K:Option V->V->Prop} (hst:St G n I0 M w0 I β ob s a w) (hd:∀ d,o.dst=some d->d<n) (h:EH s (s.fr t) K) :
 ∃ it z u w',K it z/\(Instr.next (a.tmps.getD t undef) false ty).run P w=.ok u w'/\SE G n I0 M w0 ((match it with | some x=>{ s with fr:=up s.fr t x } | none=>s:S).put o.dst z) (a.put o.dst u) w':=by
 unfold EH at h;have hx:=hst.fr t;split at h
 .rename_i i since stepped seen sO
  rw[sO] at hx;split at h
  .rename_i bs cl r hb
   obtain⟨⟨hi,hsc,uH⟩,adU,Ar⟩:=h;simp only[LR] at hx;obtain⟨blk,m,tA,zG,hβ,hv,hh,hni⟩:=hx;obtain⟨es,hm⟩:=hst.mapW (P:=P) hi hb hβ;rw[hv];rcases run_next_at (P:=P) w ty blk m since stepped seen.toArray es cl hh hm.heap (λx hx=>uH _ (by rw[<- hm.born];exact bU.2 ⟨x,hx,rfl⟩)) hsc with⟨h0,bM⟩ | ⟨e,he,w1,xi,bM⟩
   .refine⟨none,_,_,_,adU λb hbm=>?_,bM,?_⟩
    .rw[<- hm.born] at hbm
     obtain⟨x,ZR,rfl⟩:=bU.1 hbm;have:=Array.size_eq_zero_iff.1 h0;unfold leftOf at this;rw[Array.filter_eq_empty_iff] at this;have h2:=this x (by simpa using ZR);simpa using h2
    .cases lP:o.dst with
     |none=>exact⟨_,_,_,hst⟩
     |some d=>
      exact⟨_,_,_,hst.put d (hd d lP) (o:=none) (by
       simp only[LR];refine .tup _ _ rfl λq x hq=>?_
       match q with
       |0=>simp at hq;subst hq;exact .c _ _ (.lit _ rfl)
       |q+1=>simp at hq) FreeOb.nothing⟩
   .have jG:e∈es.toList/\e.born∉seen:=by unfold leftOf at he;simp only[Array.toList_filter,fJ] at he;exact⟨he.1,by simpa using he.2⟩
    obtain⟨j,hj⟩:=List.getElem?_of_mem jG.1;obtain⟨l1,l2⟩:=hm.ent j e hj;have hbj:bs[j]?=some e.born:=(by rw[<- hm.born,bj,hj];rfl);refine⟨_,_,_,_,Ar j e.born hbj jG.2,bM,?_⟩;have nZ:St G n I0 M w0 I β ob s a w1:=by rcases xi with rfl | rfl;exact hst;exact hst.drew
    have iz:w1.heap=w.heap:=by rcases xi with rfl | rfl<;>rfl
    have fO:t<a.tmps.size:=by
     by_cases ht:t<a.tmps.size
     .exact ht
     .exfalso
      have:a.tmps.getD t undef=undef:=(by simp[dc (ec ht)]);rw[this] at hv;cases hv
    have wZ:blk<w1.heap.size:=(by rw[iz];exact(hst.obnd _ _ tA).1);have hc:=nZ.clr t;have hL:∀ L,upL ob (.t t) none L≠some blk:=λL hL=>by
     simp only[upL] at hL;split at hL
     .cases hL
     .rename_i gY;exact gY (hst.oinj _ _ blk hL tA)
    have hβn:∀ q,β q≠some blk:=λq hq=>hst.obx _ blk q tA hq;have hg:=hc.growRow (I':=I) (pj (w:=w1) blk (.mapIter (some m) since (seen.toArray.push e.born) cl)) zG (λo ho=>absurd ho (hni o)) hL hβn (λ_ _ h=>h) (λ_ _ h=>.inl h) (by rw[putObj_size];exact wZ);have hp:=hg.put t (by rw[<- hst.size];exact fO) (v:=.pointer (some ⟨blk,0,none⟩)) (x:=.it i since cl (seen++[e.born])) (o:=some blk) (by
     simp only[LR];exact⟨blk,m,rfl,zG,hβ,rfl,by rw[om wZ];simp,hni⟩) (λb hb=>by
     cases hb;refine⟨⟨by rw[putObj_size];exact wZ,zG⟩,λL yH=>?_,hβn⟩;simp only[upL] at yH;split at yH
     .cases yH
     .exact hL L (by simp only[upL];split<;>simp_all))
    rw[Vb hv fO] at hp;have Is:(s.clr t).put (some t) (.it i since cl (seen++[e.born]))={ s with fr:=up s.fr t (.it i since cl (seen++[e.born])) }:=by simp only[S.clr,S.put];congr 1;funext q;simp only[up];split<;>simp_all
    rw[Is] at hp;cases lP:o.dst with
    |none=>exact⟨_,_,_,hp⟩
    |some d=>
     refine⟨_,_,_,hp.put d (hd d lP) (o:=none) ?_ FreeOb.nothing⟩;have hI:∀ b o,I b o->I b o/\(World.putObj w1 blk (.mapIter (some m) since (seen.toArray.push e.born) cl)).cell? ⟨b,o,none⟩=w.cell? ⟨b,o,none⟩:=λb o hb=>by refine⟨hb,dP (a:=⟨b,o,none⟩) ?_⟩;have gY:b≠blk:=λe=>hni o (by rw[<- e];exact hb);exact(pg gY).trans (by rw[iz])
     have:=(DR.tup (w:=w) (I:=I) #[.bool true,e.key,e.val] [.c (.lit (.bool true)),(r.getD (2*j) .un).dr,(r.getD (2*j+1) .un).dr] rfl λq x hq=>by
      match q with
      |0=>simp at hq;subst hq;exact .c _ _ (.lit _ rfl)
      |1=>simp at hq;subst hq;exact vN l1
      |2=>simp at hq;subst hq;exact vN l2
      |q+3=>simp at hq).mono hI
     simp only[LR];exact this
  .exact h.elim
 .exact h.elim
end
section
variable {P:Program} {G:Gl} {tr:List Nat} {n:Nat} {I0:Ft} {M:Mx} {w0:World} {I:Ft} {β:Nat->Option Nat} {ob:Loc->Option Nat} {s:S} {a:Act} {w:World} {o:Oper}
 {next:Act->World->Prop} {Q:Exit->Act->World->Prop} {base:Nat->Prop} {v:Value} {x y:V} {K:V->Prop}
theorem St.write (hst:St G n I0 M w0 I β ob s a w) {b k:Nat} {blk:Nat} {cs:List C} {vs:List Value} (hb:b<s.nb) (hβ:β b=some blk) (lv:cL (s.bx b)=false) (cj:vs.length=cs.length) (vH:k+cs.length<=(s.bx b).length)
 (hc:∀ (q:Nat) (c:C),cs[q]?=some c->∃ u:Value,vs[q]?=some u/\CR I w u c) :
 ∃ (cur:Array Value) (T:RT) (ob':Loc->Option Nat),w.heap[blk]?=some (.cells cur T.t T.fz)/\T.ok cur.size/\(s.bx b).length<=cur.size/\(∀ u∈vs,u.oneCell'=true)/\
  St G n I0 M w0 I β ob' { s with bx:=up s.bx b (eP (s.bx b) k (cs.map .c)) } a (w.setRow blk (cur.toList.take k++vs++cur.toList.drop (k+vs.length)).toArray):=by
 obtain⟨sN,cur,e1,e2,e3,e4,_⟩:=hst.bx b hb;obtain⟨T,e3,_,hT⟩:=e3.cells lv;rw[hβ] at e1;cases e1;have kg:∀ u∈vs,u.oneCell'=true:=λu hu=>by
  obtain⟨q,hq⟩:=eA.1 hu;have nC:q<cs.length:=by rw[<- cj];exact(aj.1 hq).1
  obtain⟨u',Bn,jq⟩:=hc q cs[q] (ai nC);rw[hq] at Bn;cases Bn;exact jq.oneCell
 refine⟨cur,T,_,e3,hT,e4,kg,hst.setBox (i:=b) (k:=k) (blk:=blk) (cur:=cur) (T:=T) (vs:=vs) (ds:=cs.map .c) (od:=λ_=>none) hb hβ e3 hT (by simpa using cj) (by simpa using vH) (λq=>?_) kg
  (λ_ _ h=>by cases h) (λ_ _ _ h=>by cases h) lv (λd hd=>?_)⟩
 .by_cases hq:q<cs.length
  .obtain⟨u,hu,jq⟩:=hc q cs[q] (ai hq)
   have e1:vs.getD q undef=u:=(by rw[aB,hu];rfl);have e2:(cs.map V.c).getD q .un=.c cs[q]:=(by simp[List.getD,hq]);rw[e1,e2];exact .ofC jq
  .have e2:(cs.map V.c).getD q .un=.un:=by simp[List.getD,bG (ec hq)]
   rw[e2];simp only[LR];exact .un _
 .obtain⟨c,_,rfl⟩:=bU.1 hd;rfl
theorem St.write_nil (hst:St G n I0 M w0 I β ob s a w) {b k:Nat}:St G n I0 M w0 I β ob { s with bx:=up s.bx b (eP (s.bx b) k []) } a w:=by
 have:eP (s.bx b) k []=s.bx b:=by simp[eP]
 rw[this,rZ];exact hst
theorem Vd {U e':TypeId} {vy:Value} {oy:Option Nat} {sz:Nat} {ys:List (List C)} (hst:St G n I0 M w0 I β ob s a w) (hy:LR (Wr M w0) I β w oy vy y) (h:v7 s y=some (.sl ys)) (hu:P.underlying U=some (.slice e')) (hs:∀ x∈ys,x.length=sz):IQ P I w U vy sz ys:=by
 have flat:∀ {es:List (List C)} {blk off' cap':Nat} {f:Nat->Nat->Value} {z:Nat},vy=.slice (some ⟨blk,off',none⟩) es.length cap'->(∀ e∈es,e.length=z)->es=ys->
  (∀ p q,p<es.length->q<z->w.cell? ⟨blk,off'+p*z+q,none⟩=some (f p q))->(∀ p q e c,es[p]?=some e->e[q]?=some c->CR I w (f p q) c)->IQ P I w U vy sz ys:=by
  rintro es blk off' cap' f z rfl h1 rfl h2 h3;obtain⟨news,vX,LK,L9,IB⟩:=U7 (J:=λ_ _=>True) hs h1 (λi j hi hj=>⟨h2 i j hi hj,trivial⟩) h3;exact⟨news,Src.ofSlice w hu ⟨blk,off',none⟩ _ _ news vX (λq u hq=>by rw[cY];exact(LK q u hq).1) IB,L9⟩
 cases y<;>simp only[v7] at h<;>try cases h
 .exact(RD.ofCR hy.toC).src hu hs
 .exact(RD.ofCR hy.1).src hu hs
 .simp only[aV] at h
  obtain⟨cs,_,h2⟩:=h;cases h2
 .simp only[LR] at hy
  obtain⟨es,blk,off',cap',f,e1,e2,_,_,h4,h5,h6⟩:=GA hst h hy;cases e1;exact flat e2 h4 rfl h5 h6
def RelL (I:Ft) (w:World) (L:List Value) (cs:List C):Prop:=∀ (q:Nat) (c:C),cs[q]?=some c->∃ u:Value,L[q]?=some u/\CR I w u c
theorem RelL.take {L:List Value} {cs:List C} (h:RelL I w L cs) (k:Nat):RelL I w (L.take k) (cs.take k):=λq c hq=>by
 rw[cA] at hq;split at hq
 .rename_i hk
  obtain⟨u,h1,h2⟩:=h q c hq;exact⟨u,by rw[cA,if_pos hk];exact h1,h2⟩
 .cases hq
theorem RelL.drop {L:List Value} {cs:List C} (h:RelL I w L cs) (k:Nat):RelL I w (L.drop k) (cs.drop k):=λq c hq=>by rw[cK] at hq;obtain⟨u,h1,h2⟩:=h _ c hq;exact⟨u,by rw[cK];exact h1,h2⟩
theorem RelL.append {L L':List Value} {cs cs':List C} (h:RelL I w L cs) (h':RelL I w L' cs') (hl:L.length=cs.length):RelL I w (L++L') (cs++cs'):=λq c hq=>by
 by_cases hq1:q<cs.length
 .rw[aA hq1] at hq
  obtain⟨u,h1,h2⟩:=h q c hq;exact⟨u,by rw[aA (by omega)];exact h1,h2⟩
 .rw[aH (by omega)] at hq
  obtain⟨u,h1,h2⟩:=h' _ c hq;exact⟨u,by rw[aH (by omega),hl];exact h1,h2⟩
theorem pn {α:Type} {sz:Nat} {es:List (List α)} (h:∀ e∈es,e.length=sz) {k:Nat} (hk:k<=es.length):(es.take k).flatten=es.flatten.take (k*sz):=by
 have e:es.flatten=(es.take k).flatten++(es.drop k).flatten:=by rw[<- di,du]
 have hl:(es.take k).flatten.length=k*sz:=by rw[bN _ (λx hx=>h x (dp hx)),aN,bS hk]
 rw[e,kY hl]
theorem po {α:Type} {sz:Nat} {es:List (List α)} (h:∀ e∈es,e.length=sz) {k:Nat} (hk:k<=es.length):(es.drop k).flatten=es.flatten.drop (k*sz):=by
 have e:es.flatten=(es.take k).flatten++(es.drop k).flatten:=by rw[<- di,du]
 have hl:(es.take k).flatten.length=k*sz:=by rw[bN _ (λx hx=>h x (dp hx)),aN,bS hk]
 rw[e,List.drop_left' hl]
theorem St.gsSet (hst:St G n I0 M w0 I β ob s a w) {b k blk cap sz:Nat} {e:TypeId} {es es':List (List C)} {cur:Array Value} {L:List Value} (hb:b<s.nb) (lv:cL (s.bx b)=false)
 (hk:(s.bx b)[k]?=some (.gs (some (.slice (some ⟨blk,0,none⟩) es.length cap)) (some (e,sz)) es)) (iz:w.heap[blk]?=some (.cells cur e (0,0))) (fO:cur.size=cap*sz) (cj:es'.length=es.length) (px:∀ x∈es',x.length=sz)
 (hL:L.length=cur.size) (kg:∀ u∈L,u.oneCell'=true) (qh:RelL I w L es'.flatten) :
 St G n I0 M w0 I β ob { s with bx:=up s.bx b ((s.bx b).set k (.gs (some (.slice (some ⟨blk,0,none⟩) es.length cap)) (some (e,sz)) es')) } a (w.setRow blk L.toArray):=by
 rcases hst.gsAt hb hk with⟨_,_,_,hE⟩ | ⟨cur1,e1,sz1,kb,hE,_,g1,g2,g3,g4,gm,g5,g6,g7⟩
 .cases hE
 cases hE;rw[iz] at g1;simp only[ao,Obj.cells.injEq,gC] at g1;subst g1;have wZ:blk<w.heap.size:=(bf.1 iz).1;have hg:w.grb (w.setRow blk L.toArray) (some blk):=⟨rfl,rfl,rfl,by simp,λk _ hk=>jV w blk k _ (λe=>hk (by rw[e])),ab _⟩;have kE:∀ b o,I b o->I b o/\(w.setRow blk L.toArray).cell? ⟨b,o,none⟩=w.cell? ⟨b,o,none⟩:=λb o hb=>⟨hb,hst.keeps hg (λr e o ho=>by cases e;exact absurd ho (g7 o)) b o hb⟩;refine hst.recell hb hk rfl rfl kb hg (λo ho=>absurd ho (g7 o)) (λ_ _ h=>h) (λ_ _ h=>.inl h) λb1 cur0 _ _ hx=>?_;obtain⟨h1,h2⟩:=hx.gsO;refine⟨h1,?_⟩;have hv:=h1 _ rfl;have ZM:Wr M w0 blk:=(hst.obnd _ _ kb).2;exact .inr ⟨e,blk,cap,L.toArray,sz,rfl,rfl,by rw[hv,cj],ZM,lR w blk cur _ e (0,0) iz,by rw[cj];exact g4,gm,by rw[eM,hL,fO],px,λj c hj=>by
  obtain⟨u,q1,q2⟩:=qh j c hj;have:L.toArray.getD j undef=u:=by rw[ak,dt,q1];rfl
  rw[this];exact q2.mono kE,λu hu=>kg u (gu.1 hu),g7⟩
theorem St.ggSet (hst:St G n I0 M w0 I β ob s a w) {b k blk len cap sz:Nat} {e:TypeId} {es:List (List C)} (hb:b<s.nb) (hk:(s.bx b)[k]?=some (.gg (.slice (some ⟨blk,0,none⟩) len cap) (some (e,sz)) es)) :
 ∃ cur:Array Value,(len=es.length/\w.heap[blk]?=some (.cells cur e (0,0))/\cur.size=cap*sz/\es.length<=cap/\(∀ x∈es,x.length=sz)/\(∀ j c,es.flatten[j]?=some c->CR I w (cur.getD j undef) c)/\(∀ u∈cur,u.oneCell'=true))/\
  ∀ (es':List (List C)) (L:List Value),es'.length=es.length->(∀ x∈es',x.length=sz)->L.length=cur.size->(∀ u∈L,u.oneCell'=true)->RelL I w L es'.flatten->
   St G n I0 M w0 I β ob { s with bx:=up s.bx b ((s.bx b).set k (.gg (.slice (some ⟨blk,0,none⟩) len cap) (some (e,sz)) es')) } a (w.setRow blk L.toArray):=by
 obtain⟨b1,cur0,e1,e2,e3,e4,e5,e7⟩:=hst.bx b hb;have h5:=e5 k;have mO:(s.bx b).getD k .un=.gg (.slice (some ⟨blk,0,none⟩) len cap) (some (e,sz)) es:=by simp[List.getD,hk]
 rw[mO] at h5;have h6:OwnG (Wr M w0) I w (some (e,sz)) es (ob (.b b k)) (.slice (some ⟨blk,0,none⟩) len cap):=h5;rcases h6 with⟨_,hE,_⟩ | ⟨e',sN,cap',cur,sz',kb,hE,hv,ZM,hh,hc,hm,hs,hl,hf,kg,gy⟩
 .cases hE
 cases hE;simp only[eN,ao,iF] at hv;obtain⟨⟨rfl,_⟩,rfl,rfl⟩:=hv;refine⟨cur,⟨rfl,hh,hs,hc,hl,hf,kg⟩,λes' L cj px hL als qh=>?_⟩;have hg:w.grb (w.setRow blk L.toArray) (some blk):=⟨rfl,rfl,rfl,by simp,λk _ hk=>jV w blk k _ (λe=>hk (by rw[e])),ab _⟩;have kE:∀ b o,I b o->I b o/\(w.setRow blk L.toArray).cell? ⟨b,o,none⟩=w.cell? ⟨b,o,none⟩:=λb o hb=>⟨hb,hst.keeps hg (λr e o ho=>by cases e;exact absurd ho (gy o)) b o hb⟩;refine hst.recell hb hk rfl rfl kb hg (λo ho=>absurd ho (gy o)) (λ_ _ h=>h) (λ_ _ h=>.inl h) λb1 cur0 _ _ hx=>?_;show OwnG (Wr M w0) I (w.setRow blk L.toArray) (some (e,sz)) es' (some blk) _;exact .inr ⟨e,blk,cap,L.toArray,sz,rfl,rfl,by rw[cj],ZM,lR w blk cur _ e (0,0) hh,by rw[cj];exact hc,hm,by rw[eM,hL,hs],px,λj c hj=>by
  obtain⟨u,q1,q2⟩:=qh j c hj;have:L.toArray.getD j undef=u:=by rw[ak,dt,q1];rfl
  rw[this];exact q2.mono kE,λu hu=>als u (gu.1 hu),gy⟩
theorem GQ {α:Type} {sz:Nat} {es:List (List α)} (h:∀ e∈es,e.length=sz) {q:Nat} (hq:q<es.length) (x:List α):(es.set q x).flatten=es.flatten.take (q*sz)++x++es.flatten.drop (q*sz+sz):=by rw[List.set_eq_take_append_cons_drop,if_pos hq,di,cF,pn h (Nat.le_of_lt hq),po h hq,eB,aI]
theorem BI {t u ty:TypeId} {vx vy:Value} {ox oy:Option Nat} {K:S->V->Prop} (hst:St G n I0 M w0 I β ob s a w) (h:fF P s K [t,u] [x,y]) (hx:LR (Wr M w0) I β w ox vx x) (hy:LR (Wr M w0) I β w oy vy y) :
 ∃ s' ob' w' z v,K s' z/\(Builtin.append_ #[t,u] ty #[vx,vy]).run P w=.ok v w'/\St G n I0 M w0 I β ob' s' a w'/\LR (Wr M w0) I β w' none v z:=by
 unfold fF at h;split at h
 .rename_i t' u' b off len cap sz y' vK rY
  simp only[cN,gC] at vK rY;obtain⟨rfl,rfl⟩:=vK;obtain⟨rfl,rfl⟩:=rY;split at h
  .rename_i e _ _ _ _ _ _ ys hi hyf
   obtain⟨j,d,h1,h2,h3,_⟩:=bH hi;have hd:=dL h3;subst hd;split at h
   .rename_i ie mc
    obtain⟨j',d',jF,nB,_,fb,_⟩:=bH mc;obtain⟨⟨rfl,fO,hp,hb,lv,vH,na,uG⟩,h⟩:=h;simp only[LR] at hx;obtain⟨kX,blk,off',cap',F8,hβ,oW,rfl⟩:=hx;obtain⟨news,rl,L9⟩:=Vd hst hy hyf h2 uG;have qj:Src P j'.size t vy ys.length news w:=(by rw[<- fb,fO];exact rl);have vX:=rl.newsLen;have lu:=bN ys uG;by_cases h0:ys=[]
    .subst h0
     have:news=[]:=dx (by rw[vX];simp);subst this;refine⟨_,_,w,_,_,h,me t t ty e j' h2 jF _ len cap' (by omega) qj,hst.write_nil,?_⟩;simp only[LR];exact⟨by simpa using kX,blk,off',cap',F8,hβ,oW,rfl⟩
    .have hyl:0<ys.length:=gR.2 h0
     have:off'=off:=by rcases oW with h4 | h4;omega;exact h4
     subst this;have hm:(len+ys.length)*sz<=cap*sz:=aO _ na;rw[da] at hm;obtain⟨cur,T,ob',iz,hT,aiw,kg,cO⟩:=hst.write (k:=off'+len*sz) (cs:=ys.flatten) (vs:=news) hb hβ lv (by rw[vX,lu]) (by rw[lu];omega) L9;have bM:=ja (P:=P) (w:=w) t t ty e j' h2 jF blk off' len cap' cur T iz hT vy ys.length news qj (by omega) (by rw[<- fb,fO,vX];omega);rw[<- fb,fO] at bM;refine⟨_,_,_,_,_,h,bM,cO,?_⟩;simp only[LR];exact⟨na,blk,off',cap',F8,hβ,.inr rfl,rfl⟩
   .exact h.elim
  .exact h.elim
 .rename_i t' u' blk n' cap blk2 off m cap2 vK rY
  simp only[cN,gC] at vK rY;obtain⟨rfl,rfl⟩:=vK;obtain⟨rfl,rfl⟩:=rY;obtain rfl:=hx.toC.ex_inv;obtain rfl:=hy.toC.ex_inv;split at h
  .rename_i e _ _ _ _ _ _ hi
   obtain⟨j,d,h1,h2,h3,_⟩:=bH hi;have hd:=dL h3;subst hd;split at h
   .rename_i ie mc
    obtain⟨j',d',jF,nB,_,fb,_⟩:=bH mc;obtain⟨b,k,jj,E,es,⟨rfl,rfl,hp,⟨e1,rfl⟩,hb,lv,hk,oW,hjm,hnm,hmc⟩,h⟩:=h;rcases hst.gsAt hb hk with⟨_,_,_,hE⟩ | ⟨cur,e2,sz,kb,hE,_,g1,g2,g3,g4,gm,g5,g6,g7⟩
    .cases hE
    simp only[ao,dH] at hE;obtain⟨rfl,rfl⟩:=hE;generalize fO:ie.size=sz at *;by_cases h0:m=0
    .subst h0
     have qj:Src P j'.size t (.slice (some ⟨blk2,off,none⟩) 0 cap2) 0 [] w:=Src.ofSlice w h2 ⟨blk2,off,none⟩ _ _ [] (by simp) (by simp) (by simp);have aiq:es.take n'++(es.drop jj).take 0++es.drop (n'+0)=es:=(by simp);rw[aiq] at h;have qm:(s.bx b).set k (.gs (some (.slice (some ⟨blk2,0,none⟩) es.length cap)) (some (e1,sz)) es)=s.bx b:=(by obtain⟨LI,hke⟩:=aj.1 hk;rw[<- hke,List.set_getElem_self]);rw[qm,rZ] at h;exact⟨_,_,w,_,_,h,me t t ty e j' h2 jF _ n' cap (by omega) qj,hst,.ofC (.ex _ rfl rfl)⟩
    .have ZN:off=jj*sz:=by rcases oW with h4 | h4;exact absurd h4 h0;exact h4
     subst ZN;have j4:cur.toList.length=cur.size:=b8;have q1:(jj+m)*sz<=cur.size:=(by rw[g2];exact aO _ (by omega));have q2:(n'+m)*sz<=cur.size:=(by rw[g2];exact aO _ (by omega));rw[da] at q1 q2;have vX:((cur.toList.drop (jj*sz)).take (m*sz)).length=m*sz:=(by rw[aN,cw,j4];exact bS (by omega));have jG:∀ u∈(cur.toList.drop (jj*sz)).take (m*sz),u.oneCell'=true:=λu hu=>g6 u (cy.1 (cQ (dp hu)));have qj:Src P j'.size t (.slice (some ⟨blk2,jj*sz,none⟩) m cap2) m ((cur.toList.drop (jj*sz)).take (m*sz)) w:=by
      rw[<- fb];refine Src.ofSlice w h2 ⟨blk2,jj*sz,none⟩ _ _ _ vX (λq u hq=>?_) jG;rw[cY,fj w blk2 (jj*sz+q) cur e1 (0,0) g1];rw[cA] at hq;split at hq
      .rw[cK,aQ] at hq;exact hq
      .cases hq
     have bM:=ja (P:=P) (w:=w) t t ty e j' h2 jF blk2 0 n' cap cur (.of e1) g1 RT.of_ok _ m _ qj (by omega) (by rw[<- fb,vX];omega);rw[<- fb,vX] at bM;simp only[aF] at bM;have tq:RelL I w cur.toList es.flatten:=λq c hq=>by have nC:=(aj.1 hq).1;rw[bN es g3] at nC;have:=aO sz g4;refine⟨cur.getD q undef,?_,g5 q c hq⟩;rw[aQ,ak,ax (show q<cur.size by omega)];rfl
     have lu:=bN es g3;have ko:=aO sz (show n'+m<=es.length from hnm);have ZO:=aO sz (show jj+m<=es.length from hjm);rw[da] at ko ZO;have hdl:∀ x∈es.drop jj,x.length=sz:=λx hx=>g3 x (cQ hx);have cO:=hst.gsSet (L:=cur.toList.take (n'*sz)++(cur.toList.drop (jj*sz)).take (m*sz)++cur.toList.drop (n'*sz+m*sz)) (es':=es.take n'++(es.drop jj).take m++es.drop (n'+m)) hb lv hk g1 g2
      (by simp only[ae,aN,cw];omega)
      (λx hx=>by
       rcases ba.1 hx with hx | hx
       .rcases ba.1 hx with hx | hx
        .exact g3 x (dp hx)
        .exact hdl x (dp hx)
       .exact g3 x (cQ hx))
      (by rw[ae,ae,vX,aN,cw,j4,bS (by omega)];omega)
      (λu hu=>by
       rcases ba.1 hu with hu | hu
       .rcases ba.1 hu with hu | hu
        .exact g6 u (cy.1 (dp hu))
        .exact jG u hu
       .exact g6 u (cy.1 (cQ hu)))
      (by
       rw[di,di,pn g3 (by omega),pn hdl (by rw[cw];omega),po g3 (by omega),po g3 (by omega),da];refine RelL.append (RelL.append (tq.take _) ((tq.drop _).take _) ?_) (tq.drop _) ?_
       .rw[aN,aN,j4,lu,bS (by omega),bS (by omega)]
       .rw[ae,ae,vX,aN,aN,aN,cw,j4,lu,bS (by omega),bS (by omega),bS (by omega)])
     exact⟨_,_,_,_,_,h,bM,cO,.ofC (.ex _ rfl rfl)⟩
   .exact h.elim
  .exact h.elim
 .exact h.elim
theorem GR {t ty:TypeId} {vx:Value} {ox:Option Nat} {K:S->Prop} (hst:St G n I0 M w0 I β ob s a w) (h:jv P s K [t] [x]) (hx:LR (Wr M w0) I β w ox vx x) :
 ∃ s' ob' w',K s'/\(Builtin.clear_ #[t] ty #[vx]).run P w=.ok (.tuple #[]) w'/\St G n I0 M w0 I β ob' s' a w':=by
 unfold jv at h;split at h
 .rename_i t' b off len cap sz vK rY
  simp only[cN,gC] at vK rY;subst vK;subst rY;split at h
  .rename_i e _ _ _ _ _ _ hi
   obtain⟨j,d,h1,h2,h3,_⟩:=bH hi;have hd:=dL h3;subst hd;split at h
   .rename_i m _ _ z _ _ mc
    obtain⟨j',d',jF,nB,_,fb,_,_,mE,_⟩:=bH mc;simp only at mE fb;obtain⟨⟨rfl,hp,tH,hb,lv,vH⟩,h⟩:=h;split at mE
    .rename_i zv tg
     simp only[LR] at hx;obtain⟨kX,blk,off',cap',F8,hβ,oW,rfl⟩:=hx;have sM:=lz (I:=I) (w:=w) mE.symm;by_cases h0:len=0
     .subst h0
      refine⟨_,_,w,h,?_,hst.write_nil⟩;unfold Builtin.clear_;simp[aR h2]
     .have:off'=off:=by rcases oW with h4 | h4;omega;exact h4
      subst this;have e1:((Array.range (len*z.length)).map (zv.cells[· % zv.cells.size]!))=Builtin.zeroCells zv.cells len:=(by unfold Builtin.zeroCells;rw[sM.1]);have oY:=rA sM (by omega) len;rw[e1] at oY;have lu:(List.replicate len z).flatten.length=len*m:=(by rw[bN (sz:=m) _ (λx hx=>by rw[fy hx];exact tH),List.length_replicate]);have AY:(Builtin.zeroCells zv.cells len).toList.length=(List.replicate len z).flatten.length:=(by rw[b8];exact oY.1);obtain⟨cur,T,ob',iz,hT,aiw,kg,cO⟩:=hst.write (k:=off') (cs:=(List.replicate len z).flatten) (vs:=(Builtin.zeroCells zv.cells len).toList) hb hβ lv AY (by rw[lu];exact vH) (λq c hq=>by have:=oY.2 q c hq;have nC:q<(Builtin.zeroCells zv.cells len).size:=(by rw[<- b8,AY];exact(aj.1 hq).1);refine⟨(Builtin.zeroCells zv.cells len)[q],by rw[aQ,ax nC],?_⟩;rw[ak] at this;rw[ax nC] at this;exact this);have bM:=gr (P:=P) blk off' T (Builtin.zeroCells zv.cells len).toList 0 cur w iz hT (by rw[AY,lu];omega) kg;simp only[eX] at bM;refine⟨_,_,_,h,?_,cO⟩;obtain⟨len,rfl⟩:∃ k,len=k+1:=⟨len - 1,by omega⟩;unfold Builtin.clear_;simp[aR h2,zeroValue,typeInfo,jF,tg,bM]
    .cases mE
   .exact h.elim
  .exact h.elim
 .rename_i t' blk off m cap2 vK rY
  simp only[cN,gC] at vK rY;subst vK;subst rY;obtain rfl:=hx.toC.ex_inv;split at h
  .rename_i e _ _ _ _ _ _ hi
   obtain⟨j,d,h1,h2,h3,_⟩:=bH hi;have hd:=dL h3;subst hd;split at h
   .rename_i sz0 _ _ z _ _ mc
    obtain⟨j',d',jF,nB,_,fb,_,_,mE,_⟩:=bH mc;simp only at mE fb;obtain⟨b,k,jj,cap,E,es,⟨hp,tH,⟨e1,rfl⟩,hb,lv,hk,oW,hjm⟩,h⟩:=h;split at mE
    .rename_i zv tg
     have sM:=lz (I:=I) (w:=w) mE.symm;rcases hst.gsAt hb hk with⟨_,_,_,hE⟩ | ⟨cur,e2,sz,kb,hE,_,g1,g2,g3,g4,gm,g5,g6,g7⟩
     .cases hE
     simp only[ao,dH] at hE;obtain⟨rfl,rfl⟩:=hE;by_cases h0:m=0
     .subst h0
      have aiq:es.take jj++List.replicate 0 z++es.drop (jj+0)=es:=(by simp);rw[aiq] at h;have qm:(s.bx b).set k (.gs (some (.slice (some ⟨blk,0,none⟩) es.length cap)) (some (e1,sz0)) es)=s.bx b:=(by obtain⟨LI,hke⟩:=aj.1 hk;rw[<- hke,List.set_getElem_self]);rw[qm,rZ] at h;refine⟨_,_,w,h,?_,hst⟩;unfold Builtin.clear_;simp[aR h2]
     .have ZN:off=jj*sz0:=by rcases oW with h4 | h4;exact absurd h4 h0;exact h4
      subst ZN;have ez:((Array.range (m*z.length)).map (zv.cells[· % zv.cells.size]!))=Builtin.zeroCells zv.cells m:=(by unfold Builtin.zeroCells;rw[sM.1]);have oY:=rA sM (by omega) m;rw[ez] at oY;have hfz:(List.replicate m z).flatten.length=m*sz0:=(by rw[bN (sz:=sz0) _ (λx hx=>by rw[fy hx];exact tH),List.length_replicate]);have AY:(Builtin.zeroCells zv.cells m).toList.length=m*sz0:=(by rw[b8,oY.1,hfz]);have j4:cur.toList.length=cur.size:=b8;have q1:(jj+m)*sz0<=cur.size:=(by rw[g2];exact aO _ (by omega));rw[da] at q1;have aeP:RelL I w (Builtin.zeroCells zv.cells m).toList (List.replicate m z).flatten:=λq c hq=>by have:=oY.2 q c hq;have nC:q<(Builtin.zeroCells zv.cells m).size:=(by rw[<- b8,AY,<- hfz];exact(aj.1 hq).1);refine⟨(Builtin.zeroCells zv.cells m)[q],by rw[aQ,ax nC],?_⟩;rw[ak] at this;rw[ax nC] at this;exact this
      have aeQ:∀ u∈(Builtin.zeroCells zv.cells m).toList,u.oneCell'=true:=λu hu=>by obtain⟨q,hq⟩:=eA.1 hu;have nC:q<(List.replicate m z).flatten.length:=(by rw[hfz,<- AY];exact(aj.1 hq).1);obtain⟨u',Bn,jq⟩:=aeP q _ (ai nC);rw[hq] at Bn;cases Bn;exact jq.oneCell
      have bM:=gr (P:=P) blk (jj*sz0) (.of e1) (Builtin.zeroCells zv.cells m).toList 0 cur w g1 RT.of_ok (by rw[AY];omega) aeQ;simp only[eX,AY] at bM;have tq:RelL I w cur.toList es.flatten:=λq c hq=>by have nC:=(aj.1 hq).1;rw[bN es g3] at nC;have:=aO sz0 g4;refine⟨cur.getD q undef,?_,g5 q c hq⟩;rw[aQ,ak,ax (show q<cur.size by omega)];rfl
      have lu:=bN es g3;have ZO:=aO sz0 (show jj+m<=es.length from hjm);rw[da] at ZO;have cO:=hst.gsSet (L:=cur.toList.take (jj*sz0)++(Builtin.zeroCells zv.cells m).toList++cur.toList.drop (jj*sz0+m*sz0)) (es':=es.take jj++List.replicate m z++es.drop (jj+m)) hb lv hk g1 g2
       (by simp only[ae,aN,cw,List.length_replicate];omega)
       (λx hx=>by
        rcases ba.1 hx with hx | hx
        .rcases ba.1 hx with hx | hx
         .exact g3 x (dp hx)
         .rw[fy hx];exact tH
        .exact g3 x (cQ hx))
       (by rw[ae,ae,AY,aN,cw,j4,bS (by omega)];omega)
       (λu hu=>by
        rcases ba.1 hu with hu | hu
        .rcases ba.1 hu with hu | hu
         .exact g6 u (cy.1 (dp hu))
         .exact aeQ u hu
        .exact g6 u (cy.1 (cQ hu)))
       (by
        rw[di,di,pn g3 (by omega),po g3 (by omega),da];refine RelL.append (RelL.append (tq.take _) aeP ?_) (tq.drop _) ?_
        .rw[aN,aN,j4,lu,bS (by omega),bS (by omega)]
        .rw[ae,ae,AY,hfz,aN,aN,j4,lu,bS (by omega),bS (by omega)])
      refine⟨_,_,_,h,?_,cO⟩;obtain⟨m,rfl⟩:∃ k,m=k+1:=⟨m - 1,by omega⟩;unfold Builtin.clear_;simp[aR h2,zeroValue,typeInfo,jF,tg,bM]
    .cases mE
   .exact h.elim
  .exact h.elim
 .exact h.elim
theorem GU {src dst:TypeId} {d:Option Tmp} {X:Operand} {K:S->Prop} (hst:St G n I0 M w0 I β ob s a w) (hd:∀ t,d=some t->t<n) (h:MC P s d src dst K (ev G s X)) :
 ∃ s' v w',K (s'.put d v)/\∃ u,(convert src dst (a.eval X)).run P w=.ok u w'/\∃ β' ob',St G n I0 M w0 I β' ob' s' a w'/\LR (Wr M w0) I β' w' none u v:=False.elim h
end
section
variable {P:Program} {G:Gl} {tr:List Nat} {n:Nat} {I0:Ft} {M:Mx} {w0:World} {I:Ft} {β:Nat->Option Nat} {ob:Loc->Option Nat} {s:S} {a:Act} {w:World} {base:Nat->Prop} {v:Value} {x:V}
 {g:Option Value} {E:Option (TypeId×Nat)} {es:List (List C)} {ops:Array Oper} {K:S->Prop}
theorem OwnG.gsV {o:Option Nat} (h:OwnG base I w E es o v):GsV E es v:=by
 rcases h with⟨_,h1,h2,h3⟩ | ⟨e,blk,cap,cur,sz,_,_,hv,_,_,hc,_⟩
 .exact .inr ⟨h2,h1,h3⟩
 .exact .inl ⟨blk,cap,hv,hc⟩
theorem St.reown (h:St G n I0 M w0 I β ob s a w) {b k:Nat} {x x':V} {o':Option Nat} (hb:b<s.nb) (hk:(s.bx b)[k]?=some x) (ZR:x.isMk=false) (D3:x'.isMk=false) (ho:o'=none∨o'=ob (.b b k))
 (DY:∀ cur:Array Value,LR (Wr M w0) I β w (ob (.b b k)) (cur.getD k undef) x->LR (Wr M w0) I β w o' (cur.getD k undef) x') :
 St G n I0 M w0 I β (upL ob (.b b k) o') { s with bx:=up s.bx b ((s.bx b).set k x') } a w:=by
 have gx:∀ L c,upL ob (.b b k) o' L=some c->ob L=some c:=λL c hL=>by
  simp only[upL] at hL;split at hL
  .rename_i e;subst e
   rcases ho with ho | ho
   .rw[ho] at hL;cases hL
   .rw[<- ho];exact hL
  .exact hL
 have ql:k<(s.bx b).length:=(aj.1 hk).1;have mO:(s.bx b).getD k .un=x:=by simp[List.getD,hk]
 exact {
  size:=h.size,defers:=h.defers,below:=h.below,ilow:=h.ilow,kept:=h.kept,ihigh:=h.ihigh,ibnd:=h.ibnd
  fr:=λt=>by have:=h.fr t;have e:upL ob (.b b k) o' (.t t)=ob (.t t):=(by simp[upL]);rw[e];exact this
  bx:=λi hi=>by
   obtain⟨b1,cur,e1,e2,e3,e4,e5,e7⟩:=h.bx i hi;by_cases qo:i=b
   .subst qo
    refine⟨b1,cur,e1,e2,?_,by simp only[cg,gd];exact e4,λj=>?_,e7⟩
    .simp only[cg]
     refine e3.congr (by simp) ?_;by_cases xd:k=0
     .subst xd
      have g1:((s.bx i).set 0 x').getD 0 .un=x':=(by simp[List.getD,ql]);rw[gK (by unfold cL;rw[g1];exact D3),gK (by unfold cL;rw[mO];exact ZR)]
     .have:((s.bx i).set k x').getD 0 .un=(s.bx i).getD 0 .un:=by simp[List.getD,cX xd]
      unfold qU;rw[this]
    .simp only[cg]
     by_cases hjk:j=k
     .subst hjk
      have:((s.bx i).set j x').getD j .un=x':=(by simp[List.getD,ql]);rw[this];have e:upL ob (.b i j) o' (.b i j)=o':=(by simp[upL]);rw[e];have h5:=e5 j;rw[mO] at h5;exact DY cur h5
     .have:((s.bx i).set k x').getD j .un=(s.bx i).getD j .un:=by simp[List.getD,cX (gZ hjk)]
      rw[this];have e:upL ob (.b i k) o' (.b i j)=ob (.b i j):=(by simp[upL,hjk]);rw[e];exact e5 j
   .refine⟨b1,cur,e1,e2,by simp only[cP _ _ qo];exact e3,by simp only[cP _ _ qo];exact e4,λj=>?_,e7⟩
    simp only[cP _ _ qo];have e:upL ob (.b b k) o' (.b i j)=ob (.b i j):=(by simp[upL,qo]);rw[e];exact e5 j
  bnone:=h.bnone,ext:=h.ext,bnew:=h.bnew,binj:=h.binj
  oinj:=λL L' c q1 q2=>h.oinj L L' c (gx L c q1) (gx L' c q2)
  obx:=λL c i q1=>h.obx L c i (gx L c q1)
  obnd:=λL c q1=>h.obnd L c (gx L c q1)
  glob:=h.glob }
theorem St.reword (h:St G n I0 M w0 I β ob s a w) {b k:Nat} {x x':V} (hb:b<s.nb) (hk:(s.bx b)[k]?=some x) (ZR:x.isMk=false) (D3:x'.isMk=false)
 (DY:∀ cur,LR (Wr M w0) I β w (ob (.b b k)) (Array.getD cur k undef) x->LR (Wr M w0) I β w (ob (.b b k)) (Array.getD cur k undef) x') :
 SE G n I0 M w0 (s.cell b k x') a w:=⟨_,_,_,h.reown hb hk ZR D3 (.inr rfl) DY⟩
theorem St.adopt (h:St G n I0 M w0 I β ob s a w) {blk:Nat} {cur:Array Value} {T:RT} {cs:List C} (zG:Wr M w0 blk) (iz:w.heap[blk]?=some (.cells cur T.t T.fz)) (hT:T.ok cur.size) (kg:∀ u∈cur,u.oneCell'=true)
 (fO:cs.length<=cur.size) (hc:∀ j c,cs[j]?=some c->CR I w (cur.getD j undef) c) (kb:∀ L,ob L≠some blk) (hβ:∀ i,β i≠some blk) (hI:∀ o,¬ I blk o) :
 St G n I0 M w0 I (up β s.nb (some blk)) (λL=>match L with | .b i j=>if i=s.nb then none else ob (.b i j) | L=>ob L) { s with bx:=up s.bx s.nb (cs.map .c),nb:=s.nb+1 } a w:=by
 have hβ':∀ i b,β i=some b->up β s.nb (some blk) i=some b:=λi b hi=>by
  have:i≠s.nb:=λe=>by rw[h.bnone i (by omega)] at hi;cases hi
  rw[cP _ _ this];exact hi
 have gx:∀ L b,(match L with | .b i j=>if i=s.nb then none else ob (.b i j) | L=>ob L)=some b->ob L=some b:=λL b hL=>by
  cases L with
  |t i=>exact hL
  |b i j=>
   simp only at hL;split at hL
   .cases hL
   .exact hL
 have kE:∀ {o:Option Nat} {v:Value} {x:V},LR (Wr M w0) I β w o v x->LR (Wr M w0) I (up β s.nb (some blk)) w o v x:=λhx=>hx.mono (λ_ _ h=>⟨h,rfl⟩) hβ' (λ_ _=>⟨rfl,λ_ h=>h⟩);have lv:cL (cs.map V.c)=false:=by cases cs<;>rfl
 exact {
  size:=h.size,defers:=h.defers,below:=h.below,kept:=h.kept,ilow:=h.ilow,ihigh:=h.ihigh,ibnd:=h.ibnd
  fr:=λt=>kE (h.fr t)
  bx:=λi hi=>by
   by_cases jg:i=s.nb
   .subst jg
    refine⟨blk,cur,by simp,zG,.of iz kg hT (by simpa using lv),by simpa using fO,λj=>?_,hI⟩;simp only[cg,cZ];by_cases hj:j<cs.length
    .have e2:(cs.map V.c).getD j .un=.c cs[j]:=by simp[List.getD,hj]
     rw[e2];exact .ofC (hc j _ (ai hj))
    .have e2:(cs.map V.c).getD j .un=.un:=by simp[List.getD,bG (ec hj)]
     rw[e2];simp only[LR];exact .un _
   .obtain⟨b1,cur',e1,e2,e3,e4,e5,e7⟩:=h.bx i (by simp only at hi;omega)
    refine⟨b1,cur',hβ' i b1 e1,e2,by simpa only[cP _ _ jg] using e3,by simpa only[cP _ _ jg] using e4,λj=>?_,e7⟩;simp only[cP _ _ jg,if_neg jg];exact kE (e5 j)
  bnone:=λi hi=>by simp only at hi;rw[cP _ _ (by omega)];exact h.bnone i (by omega)
  ext:=λi b he=>hβ' i b (h.ext i b he)
  bnew:=λi b hi=>by
   by_cases h1:i=s.nb
   .subst h1;rw[cg] at hi;cases hi;exact .inr zG
   .rw[cP _ _ h1] at hi;exact h.bnew i b hi
  binj:=λi j b hi hj=>by
   by_cases h1:i=s.nb<;>by_cases h2:j=s.nb
   .rw[h1,h2]
   .subst h1;rw[cg] at hi;cases hi;rw[cP _ _ h2] at hj;exact absurd hj (hβ j)
   .subst h2;rw[cg] at hj;cases hj;rw[cP _ _ h1] at hi;exact absurd hi (hβ i)
   .rw[cP _ _ h1] at hi;rw[cP _ _ h2] at hj;exact h.binj i j b hi hj
  oinj:=λL L' b hL yH=>h.oinj L L' b (gx L b hL) (gx L' b yH)
  obx:=λL b i hL hi=>by
   by_cases jg:i=s.nb
   .subst jg;rw[cg] at hi;cases hi
    exact kb L (gx L _ hL)
   .rw[cP _ _ jg] at hi
    exact h.obx L b i (gx L b hL) hi
  obnd:=λL b hL=>h.obnd L b (gx L b hL)
  glob:=h.glob }
theorem St.gsCell (h:St G n I0 M w0 I β ob s a w) {b k:Nat} (hb:b<s.nb) (lv:cL (s.bx b)=false) (hk:(s.bx b)[k]?=some (.gs g E es)):∃ blk cur,β b=some blk/\HB w blk cur (s.bx b)/\(∀ u,g=some u->cur.getD k undef=u)/\OwnG (Wr M w0) I w E es (ob (.b b k)) (cur.getD k undef):=by
 obtain⟨b1,cur,e1,e2,e3,e4,e5,e7⟩:=h.bx b hb;have h5:=e5 k;have mO:(s.bx b).getD k .un=.gs g E es:=by simp[List.getD,hk]
 rw[mO] at h5;exact⟨b1,cur,e1,e3,h5.1,h5.2⟩
theorem St.reownAt (h:St G n I0 M w0 I β ob s a w) {b k blk:Nat} {cur:Array Value} {x x':V} {o':Option Nat} (hb:b<s.nb) (lv:cL (s.bx b)=false) (hβ:β b=some blk) (hB:HB w blk cur (s.bx b)) (hk:(s.bx b)[k]?=some x) (D3:x'.isMk=false) (ho:o'=none∨o'=ob (.b b k))
 (DY:LR (Wr M w0) I β w o' (cur.getD k undef) x') :
 St G n I0 M w0 I β (upL ob (.b b k) o') { s with bx:=up s.bx b ((s.bx b).set k x') } a w:=by
 have gx:∀ L c,upL ob (.b b k) o' L=some c->ob L=some c:=λL c hL=>by
  simp only[upL] at hL;split at hL
  .rename_i e;subst e
   rcases ho with ho | ho
   .rw[ho] at hL;cases hL
   .rw[<- ho];exact hL
  .exact hL
 have ql:k<(s.bx b).length:=(aj.1 hk).1;exact {
  size:=h.size,defers:=h.defers,below:=h.below,ilow:=h.ilow,kept:=h.kept,ihigh:=h.ihigh,ibnd:=h.ibnd
  fr:=λt=>by have:=h.fr t;have e:upL ob (.b b k) o' (.t t)=ob (.t t):=(by simp[upL]);rw[e];exact this
  bx:=λi hi=>by
   obtain⟨b1,cur1,e1,e2,e3,e4,e5,e7⟩:=h.bx i hi;by_cases qo:i=b
   .subst qo
    rw[hβ] at e1;cases e1;cases hB.same lv e3;refine⟨blk,cur,hβ,e2,?_,by simp only[cg,gd];exact e4,λj=>?_,e7⟩
    .simp only[cg]
     refine e3.congr (by simp) ?_;by_cases xd:k=0
     .subst xd
      have g1:((s.bx i).set 0 x').getD 0 .un=x':=(by simp[List.getD,ql]);rw[gK (by unfold cL;rw[g1];exact D3),gK lv]
     .have:((s.bx i).set k x').getD 0 .un=(s.bx i).getD 0 .un:=by simp[List.getD,cX xd]
      unfold qU;rw[this]
    .simp only[cg]
     by_cases hjk:j=k
     .subst hjk
      have:((s.bx i).set j x').getD j .un=x':=(by simp[List.getD,ql]);rw[this];have e:upL ob (.b i j) o' (.b i j)=o':=(by simp[upL]);rw[e];exact DY
     .have:((s.bx i).set k x').getD j .un=(s.bx i).getD j .un:=by simp[List.getD,cX (gZ hjk)]
      rw[this];have e:upL ob (.b i k) o' (.b i j)=ob (.b i j):=(by simp[upL,hjk]);rw[e];exact e5 j
   .refine⟨b1,cur1,e1,e2,by simp only[cP _ _ qo];exact e3,by simp only[cP _ _ qo];exact e4,λj=>?_,e7⟩
    simp only[cP _ _ qo];have e:upL ob (.b b k) o' (.b i j)=ob (.b i j):=(by simp[upL,qo]);rw[e];exact e5 j
  bnone:=h.bnone,ext:=h.ext,bnew:=h.bnew,binj:=h.binj
  oinj:=λL L' c q1 q2=>h.oinj L L' c (gx L c q1) (gx L' c q2)
  obx:=λL c i q1=>h.obx L c i (gx L c q1)
  obnd:=λL c q1=>h.obnd L c (gx L c q1)
  glob:=h.glob }
theorem St.giveCell (h:St G n I0 M w0 I β ob s a w) {b k blk:Nat} {cur:Array Value} {x':V} {o':Option Nat} (hb:b<s.nb) (lv:cL (s.bx b)=false) (hβ:β b=some blk) (hB:HB w blk cur (s.bx b)) (ql:k<(s.bx b).length) (D3:x'.isMk=false) (ho:∀ c,o'=some c->(c<w.heap.size/\Wr M w0 c)/\(∀ L,ob L≠some c)/\∀ i,β i≠some c)
 (DY:LR (Wr M w0) I β w o' (cur.getD k undef) x') :
 St G n I0 M w0 I β (upL ob (.b b k) o') { s with bx:=up s.bx b ((s.bx b).set k x') } a w:=by
 have gx:∀ L c,upL ob (.b b k) o' L=some c->(L=.b b k/\o'=some c)∨(L≠.b b k/\ob L=some c):=λL c hL=>by
  simp only[upL] at hL;split at hL
  .rename_i e;exact .inl ⟨e,hL⟩
  .rename_i e;exact .inr ⟨e,hL⟩
 exact {
  size:=h.size,defers:=h.defers,below:=h.below,ilow:=h.ilow,kept:=h.kept,ihigh:=h.ihigh,ibnd:=h.ibnd
  fr:=λt=>by have:=h.fr t;have e:upL ob (.b b k) o' (.t t)=ob (.t t):=(by simp[upL]);rw[e];exact this
  bx:=λi hi=>by
   obtain⟨b1,cur1,e1,e2,e3,e4,e5,e7⟩:=h.bx i hi;by_cases qo:i=b
   .subst qo
    rw[hβ] at e1;cases e1;cases hB.same lv e3;refine⟨blk,cur,hβ,e2,?_,by simp only[cg,gd];exact e4,λj=>?_,e7⟩
    .simp only[cg]
     refine e3.congr (by simp) ?_;by_cases xd:k=0
     .subst xd
      have g1:((s.bx i).set 0 x').getD 0 .un=x':=(by simp[List.getD,ql]);rw[gK (by unfold cL;rw[g1];exact D3),gK lv]
     .have:((s.bx i).set k x').getD 0 .un=(s.bx i).getD 0 .un:=by simp[List.getD,cX xd]
      unfold qU;rw[this]
    .simp only[cg]
     by_cases hjk:j=k
     .subst hjk
      have:((s.bx i).set j x').getD j .un=x':=(by simp[List.getD,ql]);rw[this];have e:upL ob (.b i j) o' (.b i j)=o':=(by simp[upL]);rw[e];exact DY
     .have:((s.bx i).set k x').getD j .un=(s.bx i).getD j .un:=by simp[List.getD,cX (gZ hjk)]
      rw[this];have e:upL ob (.b i k) o' (.b i j)=ob (.b i j):=(by simp[upL,hjk]);rw[e];exact e5 j
   .refine⟨b1,cur1,e1,e2,by simp only[cP _ _ qo];exact e3,by simp only[cP _ _ qo];exact e4,λj=>?_,e7⟩
    simp only[cP _ _ qo];have e:upL ob (.b b k) o' (.b i j)=ob (.b i j):=(by simp[upL,qo]);rw[e];exact e5 j
  bnone:=h.bnone,ext:=h.ext,bnew:=h.bnew,binj:=h.binj
  oinj:=λL L' c q1 q2=>by
   rcases gx L c q1 with⟨h1,h2⟩ | ⟨h1,h2⟩<;>rcases gx L' c q2 with⟨h3,h4⟩ | ⟨h3,h4⟩
   .rw[h1,h3]
   .exact absurd h4 ((ho c h2).2.1 L')
   .exact absurd h2 ((ho c h4).2.1 L)
   .exact h.oinj L L' c h2 h4
  obx:=λL c i q1=>by
   rcases gx L c q1 with⟨_,h2⟩ | ⟨_,h2⟩
   .exact(ho c h2).2.2 i
   .exact h.obx L c i h2
  obnd:=λL c q1=>by
   rcases gx L c q1 with⟨_,h2⟩ | ⟨_,h2⟩
   .exact(ho c h2).1
   .exact h.obnd L c h2
  glob:=h.glob }
theorem St.giveAny (h:St G n I0 M w0 I β ob s a w) {b k:Nat} {x x':V} {o':Option Nat} (hb:b<s.nb) (hk:(s.bx b)[k]?=some x) (ZR:x.isMk=false) (D3:x'.isMk=false) (ho:∀ c,o'=some c->(c<w.heap.size/\Wr M w0 c)/\(∀ L,ob L≠some c)/\∀ i,β i≠some c)
 (DY:∀ v,LR (Wr M w0) I β w o' v x') :
 St G n I0 M w0 I β (upL ob (.b b k) o') { s with bx:=up s.bx b ((s.bx b).set k x') } a w:=by
 have ql:k<(s.bx b).length:=(aj.1 hk).1;have mO:(s.bx b).getD k .un=x:=by simp[List.getD,hk]
 have gx:∀ L c,upL ob (.b b k) o' L=some c->(L=.b b k/\o'=some c)∨(L≠.b b k/\ob L=some c):=λL c hL=>by
  simp only[upL] at hL;split at hL
  .rename_i e;exact .inl ⟨e,hL⟩
  .rename_i e;exact .inr ⟨e,hL⟩
 exact {
  size:=h.size,defers:=h.defers,below:=h.below,ilow:=h.ilow,kept:=h.kept,ihigh:=h.ihigh,ibnd:=h.ibnd
  fr:=λt=>by have:=h.fr t;have e:upL ob (.b b k) o' (.t t)=ob (.t t):=(by simp[upL]);rw[e];exact this
  bx:=λi hi=>by
   obtain⟨b1,cur1,e1,e2,e3,e4,e5,e7⟩:=h.bx i hi;by_cases qo:i=b
   .subst qo
    refine⟨b1,cur1,e1,e2,?_,by simp only[cg,gd];exact e4,λj=>?_,e7⟩
    .simp only[cg]
     refine e3.congr (by simp) ?_;by_cases xd:k=0
     .subst xd
      have g1:((s.bx i).set 0 x').getD 0 .un=x':=(by simp[List.getD,ql]);rw[gK (by unfold cL;rw[g1];exact D3),gK (by unfold cL;rw[mO];exact ZR)]
     .have:((s.bx i).set k x').getD 0 .un=(s.bx i).getD 0 .un:=by simp[List.getD,cX xd]
      unfold qU;rw[this]
    .simp only[cg]
     by_cases hjk:j=k
     .subst hjk
      have:((s.bx i).set j x').getD j .un=x':=(by simp[List.getD,ql]);rw[this];have e:upL ob (.b i j) o' (.b i j)=o':=(by simp[upL]);rw[e];exact DY _
     .have:((s.bx i).set k x').getD j .un=(s.bx i).getD j .un:=by simp[List.getD,cX (gZ hjk)]
      rw[this];have e:upL ob (.b i k) o' (.b i j)=ob (.b i j):=(by simp[upL,hjk]);rw[e];exact e5 j
   .refine⟨b1,cur1,e1,e2,by simp only[cP _ _ qo];exact e3,by simp only[cP _ _ qo];exact e4,λj=>?_,e7⟩
    simp only[cP _ _ qo];have e:upL ob (.b b k) o' (.b i j)=ob (.b i j):=(by simp[upL,qo]);rw[e];exact e5 j
  bnone:=h.bnone,ext:=h.ext,bnew:=h.bnew,binj:=h.binj
  oinj:=λL L' c q1 q2=>by
   rcases gx L c q1 with⟨h1,h2⟩ | ⟨h1,h2⟩<;>rcases gx L' c q2 with⟨h3,h4⟩ | ⟨h3,h4⟩
   .rw[h1,h3]
   .exact absurd h4 ((ho c h2).2.1 L')
   .exact absurd h2 ((ho c h4).2.1 L)
   .exact h.oinj L L' c h2 h4
  obx:=λL c i q1=>by
   rcases gx L c q1 with⟨_,h2⟩ | ⟨_,h2⟩
   .exact(ho c h2).2.2 i
   .exact h.obx L c i h2
  obnd:=λL c q1=>by
   rcases gx L c q1 with⟨_,h2⟩ | ⟨_,h2⟩
   .exact(ho c h2).1
   .exact h.obnd L c h2
  glob:=h.glob }
theorem St.more (h:St G n I0 M w0 I β ob s a w) {b:Nat} (hb:b<s.nb) (hl:U0 (s.bx b)=true):St G n I0 M w0 I β ob { s with bx:=up s.bx b (s.bx b++[.un]) } a w:=by
 obtain⟨r,fl,l,oJ⟩:∃ r fl l,s.bx b=.lp r fl::l:=by
  unfold U0 at hl;split at hl
  .rename_i e;exact⟨_,_,_,e⟩
  .cases hl
 exact {
  size:=h.size,defers:=h.defers,below:=h.below,ilow:=h.ilow,kept:=h.kept,ihigh:=h.ihigh,ibnd:=h.ibnd,fr:=h.fr
  bx:=λi hi=>by
   obtain⟨b1,cur1,e1,e2,e3,e4,e5,e7⟩:=h.bx i hi;by_cases qo:i=b
   .subst qo
    refine⟨b1,cur1.push undef,e1,e2,?_,?_,λj=>?_,e7⟩
    .simp only[cg]
     rw[oJ] at e3 ⊢
     unfold HB at e3 ⊢
     simp only[qU,dE,List.getD_cons_zero] at e3 ⊢
     obtain⟨f,tm,d,g1,m,g2⟩:=e3;refine⟨f,tm,d,g1,m+1,?_⟩;rw[g2,Array.push_eq_append,Array.append_assoc,Array.replicate_succ,Array.push_eq_append]
    .simp only[cg,ae,Array.size_push,bz];omega
    .simp only[cg]
     have g1:(cur1.push undef).getD j undef=cur1.getD j undef:=by
      rw[ak,ak,Array.getElem?_push];split
      .rename_i e;subst e;simp
      .rfl
     have g2:(s.bx i++[V.un]).getD j .un=(s.bx i).getD j .un:=by
      rw[aB,aB,List.getElem?_append];split
      .rfl
      .rename_i hj
       rw[bG (by omega:(s.bx i).length<=j)];cases hq:([V.un]:List V)[j - (s.bx i).length]? with
       |none=>rfl
       |some q=>have:=aS hq;simp at this;subst this;rfl
     rw[g1,g2];exact e5 j
   .refine⟨b1,cur1,e1,e2,by simp only[cP _ _ qo];exact e3,by simp only[cP _ _ qo];exact e4,λj=>?_,e7⟩
    simp only[cP _ _ qo];exact e5 j
  bnone:=h.bnone,ext:=h.ext,bnew:=h.bnew,binj:=h.binj,oinj:=h.oinj,obx:=h.obx,obnd:=h.obnd,glob:=h.glob }
theorem OwnG.cool {o:Option Nat} (h:OwnG base I w E es o v):∃ I':Ft,(∀ b o,I b o->I' b o)/\(∀ b k,I' b k->I b k∨some b=o)/\OwnR base I' w E es o v:=by
 rcases h with⟨h0,h1,h2,a,h3⟩ | ⟨e,blk,cap,cur,sz,r1,r2,r3,r4,r5,r6,r7,r8,r9,r10,_,r12⟩
 .subst h2;subst h3
  exact⟨I,λ_ _ h=>h,λ_ _ h=>.inl h,.nil a 0 (λ_=>rfl),.inl ⟨h0,h1,a,rfl⟩⟩
 .subst r1
  refine⟨λb' o=>I b' o∨(b'=blk/\o<es.length*sz),λ_ _ h=>.inl h,λb k h=>?_,?_⟩
  .rcases h with h | ⟨rfl,_⟩
   .exact .inl h
   .exact .inr rfl
  .have jq:CR (λb' o=>I b' o∨(b'=blk/\o<es.length*sz)) w (.slice (some ⟨blk,0,none⟩) es.length cap) (.sl es):=
    CR.row (I':=λb' o=>I b' o∨(b'=blk/\o<es.length*sz)) (cap:=cap) (es:=es) (sz:=sz) r5 r6 r9 (λq c hq=>by have h0:=(aj.1 hq).1;rw[bN _ r9] at h0;have h1:=aO sz r6;exact⟨by rw[r8];omega,(r10 q c hq).mono λb o h=>⟨.inl h,rfl⟩⟩) (λo ho=>.inr ⟨rfl,ho⟩)
   rw[r3];refine⟨jq,.inr ⟨e,blk,cap,cur,sz,rfl,r2,rfl,r4,r5,r6,r7,r8,r9,λo ho=>?_⟩⟩;rcases ho with ho | ho
   .exact absurd ho (r12 o)
   .exact ho.2
end
section
variable {P:Program} {G:Gl} {tr:List Nat} {n:Nat} {I0:Ft} {M:Mx} {w0:World} {I:Ft} {β:Nat->Option Nat} {ob:Loc->Option Nat} {s:S} {a:Act} {w:World} {o:Oper}
 {next:Act->World->Prop} {Q:Exit->Act->World->Prop} {base:Nat->Prop} {v:Value} {x y:V}
theorem PR.ren {ρ:Nat->Nat} {β':Nat->Option Nat} {m:Nat} (h:PR I β w v (x.renP ρ)) (hx:x.ltP m) (hβ:∀ i b,i<m->β (ρ i)=some b->β' i=some b):PR I β' w v x:=by
 cases x<;>simp only[V.ltP] at hx<;>simp only[V.renP,PR] at h ⊢<;>try exact h
 .obtain⟨blk,h1,h2⟩:=h;exact⟨blk,hβ _ _ hx h1,h2⟩
 .obtain⟨h0,blk,o',c',EA,h1,h2⟩:=h;exact⟨h0,blk,o',c',EA,hβ _ _ hx h1,h2⟩
 .obtain⟨blk,h1,h2⟩:=h;exact⟨blk,hβ _ _ hx h1,h2⟩
 .obtain⟨blk,h1,h2⟩:=h;exact⟨blk,hβ _ _ hx h1,h2⟩
 .obtain⟨blk,h1,h2⟩:=h;exact⟨blk,hβ _ _ hx h1,h2⟩
theorem aar {ρ:Nat->Nat} (h:x.renP ρ=.un):x=.un:=by cases x<;>first | rfl | cases h
theorem Pg {ρ:Nat->Nat} (h:(x.renP ρ).isAT=true):x.renP ρ=x:=by cases x<;>first | rfl | cases h
theorem QU {ρ:Nat->Nat}:(x.renP ρ).isAT=x.isAT:=by cases x<;>rfl
theorem KR.ren {ρ:Nat->Nat} {β':Nat->Option Nat} {m:Nat} (h:KR I β w v (x.renP ρ)) (hx:x.ltP m) (hβ:∀ i b,i<m->β (ρ i)=some b->β' i=some b):KR I β' w v x:=by
 rcases h with h | ⟨h1,h2⟩ | h
 .exact .inl (aar h)
 .have e:=Pg h1;rw[e] at h1 h2;exact .inr (.inl ⟨h1,h2⟩)
 .exact .inr (.inr (h.ren hx hβ))
theorem LR.ren {ρ:Nat->Nat} {β':Nat->Option Nat} {m:Nat} {ox:Option Nat} (h:LR base I β w ox v (x.ren ρ)) (hx:x.lt m) (hβ:∀ i b,i<m->β (ρ i)=some b->β' i=some b):LR base I β' w ox v x:=by
 cases x<;>simp only[V.lt] at hx<;>simp only[V.ren,LR] at h ⊢<;>try exact h
 .obtain⟨blk,h1,h2⟩:=h;exact⟨blk,hβ _ _ hx h1,h2⟩
 .obtain⟨vf,vc,h1,h2,h3,h4,h5⟩:=h
  rw[au] at h2 h3;exact⟨vf,vc,h1,h2,h3,λj x hj=>(h4 j (x.renP ρ) (by simp[hj])).ren (hx.1 x (aS hj)) hβ,λj x hj=>(h5 j (x.renP ρ) (by simp[hj])).ren (hx.2 x (aS hj)) hβ⟩
 .obtain⟨h0,blk,o',c',EA,h1,h2⟩:=h;exact⟨h0,blk,o',c',EA,hβ _ _ hx h1,h2⟩
 .obtain⟨cs,h1,h2,h3⟩:=h
  rw[au] at h2;exact⟨cs,h1,h2,λj x hj=>(h3 j (x.renP ρ) (by simp[hj])).ren (hx x (aS hj)) hβ⟩
 .obtain⟨blk,h1,h2⟩:=h;exact⟨blk,hβ _ _ hx h1,h2⟩
 .obtain⟨blk,m,h1,h2,h3,h4⟩:=h;exact⟨blk,m,h1,h2,hβ _ _ hx h3,h4⟩
 .obtain⟨blk,h1,h2⟩:=h;exact⟨blk,hβ _ _ hx h1,h2⟩
 .obtain⟨tm,h1,h2⟩:=h
  exact⟨tm,h1,λt y hy=>KR.ren (m:=m) (ρ:=ρ) (h2 t (y.renP ρ) (bU.2 ⟨(t,y),hy,rfl⟩)) (hx _ hy) hβ⟩
 .obtain⟨blk,h1,h2⟩:=h;exact⟨blk,hβ _ _ hx h1,h2⟩
theorem PR.toRen {ρ:Nat->Nat} {β':Nat->Option Nat} (h:PR I β w v x) (hβ:∀ i b,β i=some b->β' (ρ i)=some b):PR I β' w v (x.renP ρ):=by
 cases x<;>simp only[V.renP,PR] at h ⊢<;>try exact h
 .obtain⟨blk,h1,h2⟩:=h;exact⟨blk,hβ _ _ h1,h2⟩
 .obtain⟨h0,blk,o',c',EA,h1,h2⟩:=h;exact⟨h0,blk,o',c',EA,hβ _ _ h1,h2⟩
 .obtain⟨blk,h1,h2⟩:=h;exact⟨blk,hβ _ _ h1,h2⟩
 .obtain⟨blk,h1,h2⟩:=h;exact⟨blk,hβ _ _ h1,h2⟩
 .obtain⟨blk,h1,h2⟩:=h;exact⟨blk,hβ _ _ h1,h2⟩
theorem KR.toRen {ρ:Nat->Nat} {β':Nat->Option Nat} (h:KR I β w v x) (hβ:∀ i b,β i=some b->β' (ρ i)=some b):KR I β' w v (x.renP ρ):=by
 rcases h with rfl | ⟨h1,h2⟩ | h
 .exact .inl rfl
 .have h3:(x.renP ρ).isAT=true:=by rw[QU];exact h1
  rw[Pg h3];exact .inr (.inl ⟨h1,h2⟩)
 .exact .inr (.inr (h.toRen hβ))
theorem A5 {α γ:Type} {l:List α} {f:α->γ} {j:Nat} {y:γ} (h:(l.map f)[j]?=some y):∃ x,l[j]?=some x/\f x=y:=by simpa using h
theorem LR.toRen {ρ:Nat->Nat} {β':Nat->Option Nat} {ox:Option Nat} (h:LR base I β w ox v x) (hβ:∀ i b,β i=some b->β' (ρ i)=some b):LR base I β' w ox v (x.ren ρ):=by
 cases x<;>simp only[V.ren,LR] at h ⊢<;>try exact h
 .obtain⟨blk,h1,h2⟩:=h;exact⟨blk,hβ _ _ h1,h2⟩
 .obtain⟨vf,vc,h1,h2,h3,h4,h5⟩:=h
  refine⟨vf,vc,h1,by rw[au];exact h2,by rw[au];exact h3,λj x hj=>?_,λj x hj=>?_⟩
  .obtain⟨y,hy,rfl⟩:=A5 hj;exact(h4 j y hy).toRen hβ
  .obtain⟨y,hy,rfl⟩:=A5 hj;exact(h5 j y hy).toRen hβ
 .obtain⟨h0,blk,o',c',EA,h1,h2⟩:=h;exact⟨h0,blk,o',c',EA,hβ _ _ h1,h2⟩
 .obtain⟨cs,h1,h2,h3⟩:=h
  refine⟨cs,h1,by rw[au];exact h2,λj x hj=>?_⟩;obtain⟨y,hy,rfl⟩:=A5 hj;exact(h3 j y hy).toRen hβ
 .obtain⟨blk,h1,h2⟩:=h;exact⟨blk,hβ _ _ h1,h2⟩
 .obtain⟨blk,m,h1,h2,h3,h4⟩:=h;exact⟨blk,m,h1,h2,hβ _ _ h3,h4⟩
 .obtain⟨blk,h1,h2⟩:=h;exact⟨blk,hβ _ _ h1,h2⟩
 .obtain⟨tm,h1,h2⟩:=h
  refine⟨tm,h1,λt y hy=>?_⟩;obtain⟨⟨t',z⟩,hz,e⟩:=bU.1 hy;cases e;exact(h2 _ z hz).toRen hβ
 .obtain⟨blk,h1,h2⟩:=h;exact⟨blk,hβ _ _ h1,h2⟩
theorem LR.wider {base':Nat->Prop} {ox:Option Nat} (h:LR base I β w ox v x) (hb:∀ b,ox=some b->base' b):LR base' I β w ox v x:=by
 cases x<;>simp only[LR] at h ⊢<;>try exact h
 .obtain⟨h1,h2⟩:=h
  refine⟨h1,?_⟩;rcases h2 with h2 | ⟨e,blk,cap,cur,sz,q1,q2,q3,q4,q5⟩
  .exact .inl h2
  .exact .inr ⟨e,blk,cap,cur,sz,q1,q2,q3,hb _ q1,q5⟩
 .obtain⟨blk,m,h1,h2,h3⟩:=h;exact⟨blk,m,h1,hb _ h1,h3⟩
 .obtain⟨h1,h2⟩:=h
  refine⟨h1,?_⟩;rcases h2 with h2 | ⟨e,blk,cap,cur,sz,q1,q2,q3,q4,q5⟩
  .exact .inl h2
  .exact .inr ⟨e,blk,cap,cur,sz,q1,q2,q3,hb _ q1,q5⟩
 .obtain⟨h1,e,blk,cap,cur,sz,q1,q2,q3,q4,q5⟩:=h
  exact⟨h1,e,blk,cap,cur,sz,q1,q2,q3,hb _ q1,q5⟩
 .obtain⟨h1,h2⟩:=h
  refine⟨h1,?_⟩;rcases h2 with h2 | ⟨e,blk,cap,cur,sz,q1,q2,q3,q4,q5⟩
  .exact .inl h2
  .exact .inr ⟨e,blk,cap,cur,sz,q1,q2,q3,hb _ q1,q5⟩
 .rcases h with h2 | ⟨e,blk,cap,cur,sz,q1,q2,q3,q4,q5⟩
  .exact .inl h2
  .exact .inr ⟨e,blk,cap,cur,sz,q1,q2,q3,hb _ q1,q5⟩
theorem BJ {ρ:Nat->Nat} (l:List V) (j:Nat):(l.map (V.ren ρ)).getD j .un=(l.getD j .un).ren ρ:=by simp only[aB,bj];cases l[j]?<;>rfl
theorem I4 {ρ:Nat->Nat} (l:List V):qU (l.map (V.ren ρ))=qU l:=by unfold qU;rw[BJ];cases l.getD 0 .un<;>rfl
theorem pK {ρ:Nat->Nat}:∀ (bl:List (List V)) (k i:Nat) (b:List V),qV s.bx s.nb ρ k bl->bl[i]?=some b->ρ (k+i)<s.nb/\s.bx (ρ (k+i))=b.map (V.ren ρ)
 |[],_,i,b,_,hb=>by simp at hb
 |c::r,k,0,b,h,hb=>by simp at hb;subst hb;exact h.1
 |c::r,k,i+1,b,h,hb=>by have:=pK r (k+1) i b h.2 (by simpa using hb);rw[show k+(i+1)=k+1+i by omega];exact this
theorem oo {ρ:Nat->Nat}:∀ (bl:List (List V)) (k:Nat) (f:Nat->List V) (j:Nat),(∀ i,i<bl.length->ρ (k+i)≠j)->fQ ρ k bl f j=f j
 |[],_,_,_,_=>rfl
 |b::r,k,f,j,h=>by simp only[fQ];rw[oo r (k+1) _ j (λi hi=>by rw[show k+1+i=k+(i+1) by omega];exact h (i+1) (by simp;omega))];exact cP _ _ (λe=>h 0 (by simp) e.symm)
theorem tP {ρ:Nat->Nat}:∀ (bl:List (List V)) (k:Nat) (f:Nat->List V) (i:Nat) (b:List V),bl[i]?=some b->(∀ i j,i<bl.length->j<bl.length->ρ (k+i)=ρ (k+j)->i=j)->
 fQ ρ k bl f (ρ (k+i))=b.map (V.ren ρ)
 |[],_,_,i,b,h,_=>by simp at h
 |c::r,k,f,0,b,h,qn=>by simp at h;subst h;simp only[fQ];rw[oo r (k+1) _ _ (λi hi e=>by have:=qn (i+1) 0 (by simp;omega) (by simp) (by rw[show k+(i+1)=k+1+i by omega];exact e);omega)];rw[eX];exact cg _ _ _
 |c::r,k,f,i+1,b,h,qn=>by simp only[fQ];rw[show k+(i+1)=k+1+i by omega];refine tP r (k+1) _ i b (by simpa using h) λi' j' hi hj e=>?_;have:=qn (i'+1) (j'+1) (by simp;omega) (by simp;omega) (by rw[show k+(i'+1)=k+1+i' by omega,show k+(j'+1)=k+1+j' by omega];exact e);omega
theorem xz {ρ:List Nat} {nb:Nat} (hn:ρ.Nodup) (hl:∀ i,i<ρ.length->ρ.getD i 0<nb) (i j:Nat) (h:rho ρ nb i=rho ρ nb j):i=j:=by
 unfold rho at h;by_cases hi:i<ρ.length<;>by_cases hj:j<ρ.length
 .rw[if_pos hi,if_pos hj] at h
  simp only[aB,ai hi,ai hj,cV] at h;exact(List.getElem_inj hn).1 h
 .rw[if_pos hi,if_neg hj] at h
  have:=hl i hi;omega
 .rw[if_neg hi,if_pos hj] at h
  have:=hl j hj;omega
 .rw[if_neg hi,if_neg hj] at h;omega
def Mof (β:Nat->Option Nat) (ob:Loc->Option Nat) (ρ:Nat->Nat) (k:Nat) (b:Nat):Prop:=(∃ q,q<k/\β (ρ q)=some b)∨∃ q j,q<k/\ob (.b (ρ q) j)=some b
def lZ (β:Nat->Option Nat) (ρ:Nat->Nat) (k i:Nat):Option Nat:=if i<k then β (ρ i) else none
def obC (ob:Loc->Option Nat) (ρ:Nat->Nat) (k i j:Nat):Option Nat:=if i<k then ob (.b (ρ i) j) else none
theorem nO {ρ:Nat->Nat} {k i b:Nat} (h:lZ β ρ k i=some b):i<k/\β (ρ i)=some b:=by
 unfold lZ at h;split at h
 .exact⟨‹_›,h⟩
 .cases h
theorem xA {ρ:Nat->Nat} {k i j b:Nat} (h:obC ob ρ k i j=some b):i<k/\ob (.b (ρ i) j)=some b:=by
 unfold obC at h;split at h
 .exact⟨‹_›,h⟩
 .cases h
theorem St.give (hst:St G n I0 M w0 I β ob s a w) {ρ:Nat->Nat} {b0:List (List V)} (qn:∀ i j,ρ i=ρ j->i=j) (jg:qV s.bx s.nb ρ 0 b0) (bE:∀ b∈b0,∀ x∈b,x.lt b0.length) :
 BxR (Wr ⟨Mof β ob ρ b0.length,λ_=>none,[]⟩ w) I w (lZ β ρ b0.length) (obC ob ρ b0.length) b0 where
 bx:=λi cs jf=>by
  have hi:i<b0.length:=(aj.1 jf).1;obtain⟨h1,h2⟩:=pK b0 0 i cs jg jf;rw[aF] at h1 h2;obtain⟨blk,cur,e1,e2,e3,e4,e5,e7⟩:=hst.bx (ρ i) h1;refine⟨blk,cur,by simp[lZ,hi,e1],.inr (.inl ⟨i,hi,e1⟩),e3.congr (by rw[h2,au]) (by rw[h2,I4]),by have:=e4;rw[h2,au] at this;exact this,λj=>?_,e7⟩;have:=e5 j;rw[h2,BJ] at this;have hx:(cs.getD j .un).lt b0.length:=by
   by_cases hj:j<cs.length
   .have:cs.getD j .un=cs[j]:=by simp[List.getD,hj]
    rw[this];exact bE cs (aS jf) _ (bR hj)
   .have:cs.getD j .un=.un:=by simp[List.getD,bG (ec hj)]
    rw[this];exact trivial
  have h3:=this.ren (β':=lZ β ρ b0.length) hx (λi b hi hb=>by simp[lZ,hi,hb]);have h4:obC ob ρ b0.length i j=ob (.b (ρ i) j):=by simp[obC,hi]
  rw[h4];exact h3.wider λb hb=>.inr (.inr ⟨i,j,hi,hb⟩)
 bnone:=λi hi=>by simp[lZ,Nat.not_lt.2 hi]
 binj:=λi j b hi hj=>by obtain⟨_,h1⟩:=nO hi;obtain⟨_,h2⟩:=nO hj;exact qn _ _ (hst.binj _ _ b h1 h2)
 oinj:=λi j i' j' b h h'=>by obtain⟨_,h1⟩:=xA h;obtain⟨_,h2⟩:=xA h';have:=hst.oinj _ _ b h1 h2;simp only[Loc.b.injEq] at this;exact⟨qn _ _ this.1,this.2⟩
 obx:=λi j b k h hk=>by obtain⟨_,h1⟩:=xA h;obtain⟨_,h2⟩:=nO hk;exact hst.obx _ b _ h1 h2
 obnd:=λi j b h=>by obtain⟨hi,h1⟩:=xA h;exact⟨(hst.obnd _ b h1).1,.inr (.inr ⟨i,j,hi,h1⟩)⟩
 olen:=λi j hi=>by simp[obC,Nat.not_lt.2 hi]
def sf (ρ:List Nat) (nb i:Nat):Option Nat:=if i∈ρ then some (ρ.idxOf i) else if nb<=i then some (i - nb+ρ.length) else none
theorem Ve {ρ:List Nat} {nb:Nat} (hn:ρ.Nodup) (hl:∀ i,i<ρ.length->ρ.getD i 0<nb) (q:Nat):sf ρ nb (rho ρ nb q)=some q:=by
 unfold sf rho;by_cases hq:q<ρ.length
 .have e:ρ.getD q 0=ρ[q]:=by simp[List.getD,hq]
  rw[if_pos hq,e,if_pos (bR hq),hn.idxOf_getElem]
 .rw[if_neg hq]
  have:¬ (nb+(q - ρ.length))∈ρ:=λh=>by obtain⟨i,hi,e⟩:=iN.1 h;have:=hl i hi;have e':ρ.getD i 0=ρ[i]:=(by simp[List.getD,hi]);omega
  rw[if_neg this,if_pos (by omega)];congr 1;omega
theorem oq {ρ:List Nat} {nb i q:Nat} (h:sf ρ nb i=some q):rho ρ nb q=i:=by
 unfold sf at h;split at h
 .rename_i hi
  simp only[ao] at h;subst h;have bE:=List.idxOf_lt_length_of_mem hi;unfold rho;rw[if_pos bE];simp[List.getD,ai bE]
 .split at h
  .rename_i h1 h2
   simp only[ao] at h;subst h;unfold rho;rw[if_neg (by omega)];omega
  .cases h
theorem EU {ρ:List Nat} {nb i:Nat} (h:sf ρ nb i=none):i<nb:=by
 unfold sf at h;split at h
 .cases h
 .split at h
  .cases h
  .omega
end
section
variable {P:Program} {G:Gl} {tr:List Nat} {n:Nat} {I0:Ft} {M:Mx} {w0:World} {I:Ft} {β:Nat->Option Nat} {ob:Loc->Option Nat} {s:S} {a:Act} {w:World} {o:Oper}
 {next:Act->World->Prop} {Q:Exit->Act->World->Prop} {base:Nat->Prop} {v:Value} {x y:V}
def pL (β β':Nat->Option Nat) (ρ:List Nat) (nb i:Nat):Option Nat:=match sf ρ nb i with
 |some q=>β' q
 |none=>β i
def obN (ob:Loc->Option Nat) (ob':Nat->Nat->Option Nat) (ρ:List Nat) (nb:Nat):Loc->Option Nat
 | .t i=>ob (.t i)
 | .b i j=>match sf ρ nb i with
  |some q=>ob' q j
  |none=>ob (.b i j)
theorem St.called (hst:St G n I0 M w0 I β ob s a w) {ρ:List Nat} {b0 b1:List (List V)} (hρl:ρ.length=b0.length) (hn:ρ.Nodup) (jg:qV s.bx s.nb (rho ρ s.nb) 0 b0) (ko:b0.length<=b1.length)
 {w':World} {I':Ft} {β':Nat->Option Nat} {ob':Nat->Nat->Option Nat} (uI:BelowM (GT G) ⟨Mof β ob (rho ρ s.nb) b0.length,λ_=>none,[]⟩ w w') (Uu:∀ b o,I b o->I' b o)
 (Qw:∀ b o,I' b o->I b o∨(Wr ⟨Mof β ob (rho ρ s.nb) b0.length,λ_=>none,[]⟩ w b/\b<w'.heap.size)) (vY:∀ b o,I b o->w'.cell? ⟨b,o,none⟩=w.cell? ⟨b,o,none⟩)
 (ZS:∀ i,i<b0.length->β' i=lZ β (rho ρ s.nb) b0.length i) (UL:∀ i b,b0.length<=i->β' i=some b->Wr ⟨Mof β ob (rho ρ s.nb) b0.length,λ_=>none,[]⟩ w b)
 (oJ:BxR (Wr ⟨Mof β ob (rho ρ s.nb) b0.length,λ_=>none,[]⟩ w) I' w' β' ob' b1) :
 St G n I0 M w0 I' (pL β β' ρ s.nb) (obN ob ob' ρ s.nb) { s with bx:=fQ (rho ρ s.nb) 0 b1 s.bx,nb:=s.nb+(b1.length - b0.length) } a w'/\
 (∀ i b,β' i=some b->pL β β' ρ s.nb (rho ρ s.nb i)=some b)/\
 (∀ b,Wr ⟨Mof β ob (rho ρ s.nb) b0.length,λ_=>none,[]⟩ w b->Wr M w0 b)/\
 (∀ b,Wr ⟨Mof β ob (rho ρ s.nb) b0.length,λ_=>none,[]⟩ w b->(∀ i j,ob' i j≠some b)->∀ L,obN ob ob' ρ s.nb L≠some b)/\
 (∀ b,Wr ⟨Mof β ob (rho ρ s.nb) b0.length,λ_=>none,[]⟩ w b->(∀ i,β' i≠some b)->∀ i,pL β β' ρ s.nb i≠some b)/\
 (∀ i b,β i=some b->pL β β' ρ s.nb i=some b):=by
 have hl:∀ i,i<ρ.length->ρ.getD i 0<s.nb:=λi hi=>by obtain⟨b,hb⟩:∃ b,b0[i]?=some b:=⟨_,ai (by omega)⟩;have:=(pK b0 0 i b jg hb).1;rw[aF] at this;simpa[rho,hi] using this
 have qn:=xz hn hl;have hir:=Ve hn hl;have zG:∀ b,Wr ⟨Mof β ob (rho ρ s.nb) b0.length,λ_=>none,[]⟩ w b->Wr M w0 b:=λb hb=>by
  rcases hb with hb | ⟨q,hq,hb⟩ | ⟨q,j,hq,hb⟩
  .exact .new hst.below hb
  .exact(hst.boxblk hb).2.1
  .exact(hst.obnd _ b hb).2
 have notM1:∀ i b,sf ρ s.nb i=none->β i=some b->¬ Wr ⟨Mof β ob (rho ρ s.nb) b0.length,λ_=>none,[]⟩ w b:=λi b hi hb hw=>by
  rcases hw with hw | ⟨q,hq,h1⟩ | ⟨q,j,hq,h1⟩
  .have:=(hst.boxblk hb).2.2;omega
  .have:=hst.binj _ _ b h1 hb
   rw[<- this,hir] at hi;cases hi
  .exact hst.obx _ b i h1 hb
 have notM2:∀ L b,(∀ i j q,L=.b i j->sf ρ s.nb i≠some q)->ob L=some b->¬ Wr ⟨Mof β ob (rho ρ s.nb) b0.length,λ_=>none,[]⟩ w b:=λL b hL hb hw=>by
  rcases hw with hw | ⟨q,hq,h1⟩ | ⟨q,j,hq,h1⟩
  .have:=(hst.obnd _ b hb).1;omega
  .exact hst.obx _ b _ hb h1
  .have:=hst.oinj _ _ b hb h1
   exact hL _ _ q this (hir q)
 have hβn:∀ i b,β i=some b->pL β β' ρ s.nb i=some b:=λi b hb=>by
  unfold pL;cases hi:sf ρ s.nb i with
  |none=>exact hb
  |some q=>
   have e:=oq hi;have bE:=(hst.boxblk hb).1;have hq:q<ρ.length:=by
    by_cases hq:q<ρ.length
    .exact hq
    .unfold rho at e;rw[if_neg hq] at e;omega
   simp only;rw[ZS q (by omega)];unfold lZ;rw[if_pos (by omega),e];exact hb
 have hI:∀ b o,I b o->I' b o/\w'.cell? ⟨b,o,none⟩=w.cell? ⟨b,o,none⟩:=λb o hb=>⟨Uu b o hb,vY b o hb⟩;have lQ:∀ b,b<w.heap.size->¬ Wr ⟨Mof β ob (rho ρ s.nb) b0.length,λ_=>none,[]⟩ w b->w'.heap[b]?=w.heap[b]?/\∀ o,I' b o->I b o:=λb hb hw=>
  ⟨uI.block b hb (λh=>hw (.inr h)),λo ho=>by
   rcases Qw b o ho with h | h
   .exact h
   .exact absurd h.1 hw⟩
 have hbN:∀ i b,pL β β' ρ s.nb i=some b->(∃ q,sf ρ s.nb i=some q/\β' q=some b)∨(sf ρ s.nb i=none/\β i=some b):=λi b hb=>by
  unfold pL at hb;cases hi:sf ρ s.nb i with
  |none=>rw[hi] at hb;exact .inr ⟨rfl,hb⟩
  |some q=>rw[hi] at hb;exact .inl ⟨q,rfl,hb⟩
 have hoN:∀ L b,obN ob ob' ρ s.nb L=some b->(∃ i j q,L=.b i j/\sf ρ s.nb i=some q/\ob' q j=some b)∨((∀ i j q,L=.b i j->sf ρ s.nb i≠some q)/\ob L=some b):=λL b hb=>by
  cases L with
  |t i=>exact .inr ⟨λi j q h=>(by cases h),hb⟩
  |b i j=>
   simp only[obN] at hb;cases hi:sf ρ s.nb i with
   |none=>rw[hi] at hb;exact .inr ⟨λi' j' q h=>(by cases h;rw[hi];simp),hb⟩
   |some q=>rw[hi] at hb;exact .inl ⟨i,j,q,rfl,hi,hb⟩
 have hβw:∀ q b,β' q=some b->Wr ⟨Mof β ob (rho ρ s.nb) b0.length,λ_=>none,[]⟩ w b:=λq b hb=>by
  by_cases hq:q<b0.length
  .rw[ZS q hq] at hb
   exact .inr (.inl ⟨q,(nO hb).1,(nO hb).2⟩)
  .exact UL q b (by omega) hb
 have how:∀ i j b,ob' i j=some b->Wr ⟨Mof β ob (rho ρ s.nb) b0.length,λ_=>none,[]⟩ w b:=λi j b hb=>(oJ.obnd i j b hb).2;have gx:∀ i b,β' i=some b->pL β β' ρ s.nb (rho ρ s.nb i)=some b:=λi b hb=>by unfold pL;rw[hir];exact hb
 refine⟨{
  size:=hst.size,defers:=hst.defers
  below:=⟨uI.os.trans hst.below.os,uI.tape.trans hst.below.tape,uI.output.trans hst.below.output,b9 hst.below.size uI.size,λk hk hM=>
   (uI.block k (cu hk hst.below.size) (λh=>by
    rcases zG k (.inr h) with h1 | h1
    .omega
    .exact hM h1)).trans (hst.below.block k hk hM),λt=>b9 (hst.below.drawn t) (uI.drawn t)⟩
  ilow:=λb o h=>Uu b o (hst.ilow b o h)
  kept:=λb o h=>(vY b o (hst.ilow b o h)).trans (hst.kept b o h)
  ihigh:=λb o h=>by
   rcases Qw b o h with h | h
   .exact hst.ihigh b o h
   .exact .inr (zG b h.1)
  ibnd:=λb o h=>by
   rcases Qw b o h with h | h
   .exact cu (hst.ibnd b o h) uI.size
   .exact h.2
  fr:=λt=>(hst.fr t).mono hI hβn λb hb=>lQ b (hst.obnd _ b hb).1 (notM2 (.t t) b (λi j q h=>by cases h) hb)
  bx:=λi hi=>by
   simp only at hi;cases hq:sf ρ s.nb i with
   |some q=>
    have e:=oq hq;have hqb:q<b1.length:=by
     by_cases h1:q<ρ.length
     .omega
     .unfold rho at e;rw[if_neg h1] at e;omega
    obtain⟨blk,cur,e1,e2,e3,e4,e5,e7⟩:=oJ.bx q _ (ai hqb);have qm:fQ (rho ρ s.nb) 0 b1 s.bx i=b1[q].map (V.ren (rho ρ s.nb)):=(by have:=tP (ρ:=rho ρ s.nb) b1 0 s.bx q _ (ai hqb) (λi j _ _ h=>by rw[aF,aF] at h;exact qn i j h);rw[aF,e] at this;exact this);refine⟨blk,cur,by unfold pL;rw[hq];exact e1,zG _ e2,e3.congr (by simp only[qm,au]) (by simp only[qm,I4]),by simp only[qm,au];exact e4,λj=>?_,e7⟩;simp only[qm,BJ];have:obN ob ob' ρ s.nb (.b i j)=ob' q j:=(by simp only[obN,hq]);rw[this];exact((e5 j).toRen gx).wider λb hb=>zG b (how q j b hb)
   |none=>
    have bE:=EU hq;obtain⟨blk,cur,e1,e2,e3,e4,e5,e7⟩:=hst.bx i bE;have hnw:=notM1 i blk hq e1;obtain⟨g1,g2⟩:=lQ blk e3.lt hnw;have qm:fQ (rho ρ s.nb) 0 b1 s.bx i=s.bx i:=oo b1 0 s.bx i λq _ h=>by rw[aF] at h;rw[<- h,hir] at hq;cases hq
    refine⟨blk,cur,hβn i blk e1,e2,(e3.mono g1).congr (by simp only[qm]) (by simp only[qm]),by simp only[qm];exact e4,λj=>?_,λo ho=>e7 o (g2 o ho)⟩;simp only[qm];have:obN ob ob' ρ s.nb (.b i j)=ob (.b i j):=(by simp only[obN,hq]);rw[this];exact(e5 j).mono hI hβn λb hb=>lQ b (hst.obnd _ b hb).1 (notM2 (.b i j) b (λi' j' q h=>by cases h;rw[hq];simp) hb)
  bnone:=λi hi=>by
   simp only at hi;unfold pL;cases hq:sf ρ s.nb i with
   |some q=>
    have e:=oq hq;refine oJ.bnone q ?_;by_cases h1:q<ρ.length
    .unfold rho at e;rw[if_pos h1] at e;have:=hl q h1;omega
    .unfold rho at e;rw[if_neg h1] at e;omega
   |none=>have:=EU hq;omega
  ext:=λi b he=>hβn i b (hst.ext i b he)
  bnew:=λi b hi=>by
   rcases hbN i b hi with⟨q,h1,h2⟩ | ⟨h1,h2⟩
   .by_cases hq:q<b0.length
    .rw[ZS q hq] at h2
     have:=hst.bnew _ b (nO h2).2;rw[oq h1] at this;exact this
    .exact .inr (zG b (UL q b (by omega) h2))
   .exact hst.bnew i b h2
  binj:=λi j b hi hj=>by
   rcases hbN i b hi with⟨q,h1,h2⟩ | ⟨h1,h2⟩<;>rcases hbN j b hj with⟨p,h3,h4⟩ | ⟨h3,h4⟩
   .have:=oJ.binj q p b h2 h4
    rw[<- oq h1,<- oq h3,this]
   .exact absurd (hβw q b h2) (notM1 j b h3 h4)
   .exact absurd (hβw p b h4) (notM1 i b h1 h2)
   .exact hst.binj i j b h2 h4
  oinj:=λL L' b hL yH=>by
   rcases hoN L b hL with⟨i,j,q,rfl,h1,h2⟩ | ⟨h1,h2⟩<;>rcases hoN L' b yH with⟨i',j',q',rfl,h3,h4⟩ | ⟨h3,h4⟩
   .obtain⟨e1,e2⟩:=oJ.oinj q j q' j' b h2 h4
    rw[<- oq h1,<- oq h3,e1,e2]
   .exact absurd (how q j b h2) (notM2 L' b h3 h4)
   .exact absurd (how q' j' b h4) (notM2 L b h1 h2)
   .exact hst.oinj L L' b h2 h4
  obx:=λL b i hL hi=>by
   rcases hoN L b hL with⟨i',j,q,rfl,h1,h2⟩ | ⟨h1,h2⟩<;>rcases hbN i b hi with⟨p,h3,h4⟩ | ⟨h3,h4⟩
   .exact oJ.obx q j b p h2 h4
   .exact absurd (how q j b h2) (notM1 i b h3 h4)
   .exact absurd (hβw p b h4) (notM2 L b h1 h2)
   .exact hst.obx L b i h2 h4
  obnd:=λL b hL=>by
   rcases hoN L b hL with⟨i',j,q,rfl,h1,h2⟩ | ⟨h1,h2⟩
   .exact⟨(oJ.obnd q j b h2).1,zG b (how q j b h2)⟩
   .exact⟨cu (hst.obnd L b h2).1 uI.size,(hst.obnd L b h2).2⟩
  glob:=λg cs hg=>(hst.glob g cs hg).mono hI },gx,zG,λb hw gy L hL=>by
  rcases hoN L b hL with⟨i',j,q,rfl,h1,h2⟩ | ⟨h1,h2⟩
  .exact gy q j h2
  .exact notM2 L b h1 h2 hw,λb hw gy i hi=>by
  rcases hbN i b hi with⟨q,h1,h2⟩ | ⟨h1,h2⟩
  .exact gy q h2
  .exact notM1 i b h1 h2 hw,hβn⟩
end
section
variable {P:Program} {G:Gl} {tr:List Nat} {n:Nat} {I0:Ft} {M:Mx} {w0:World} {I:Ft} {β:Nat->Option Nat} {ob:Loc->Option Nat} {s:S} {a:Act} {w:World} {o:Oper}
 {next:Act->World->Prop} {Q:Exit->Act->World->Prop} {base:Nat->Prop} {v:Value} {x y:V}
def ArgsL (base:Nat->Prop) (I:Ft) (β:Nat->Option Nat) (w:World) (vs:List Value) (xs:List V):Prop:=vs.length=xs.length/\∀ (j:Nat) (x:V),xs[j]?=some x->LR base I β w none (vs.getD j undef) x.fz
theorem ArgsL.append {vs us:List Value} {xs ys:List V} (h:ArgsL base I β w vs xs) (h':ArgsL base I β w us ys):ArgsL base I β w (vs++us) (xs++ys):=by
 refine⟨by simp[h.1,h'.1],λj x hx=>?_⟩;have hl:=h.1;by_cases hj:j<xs.length
 .rw[aA hj] at hx
  have:=h.2 j x hx;rw[aB,aA (by omega)];rw[aB] at this;exact this
 .rw[aH (by omega)] at hx
  have:=h'.2 _ x hx;rw[aB,aH (by omega),hl];rw[aB] at this;exact this
theorem uN (hst:St G n I0 M w0 I β ob s a w):∀ l:List Operand,ArgsL (Wr M w0) I β w (l.map a.eval) (l.map (ev G s))
 |[]=>⟨rfl,by simp⟩
 |x::l=>by
  have ih:=uN hst l;refine⟨by simp,λj z hz=>?_⟩;cases j with
  |zero=>simp at hz;subst hz;exact xq hst x
  |succ j=>simpa using ih.2 j z (by simpa using hz)
theorem yR (hst:St G n I0 M w0 I β ob s a w):∀ l:List Operand,ArgsL (Wr M w0) I β w (l.map a.eval) (l.map (evX G s))
 |[]=>⟨rfl,by simp⟩
 |x::l=>by
  have ih:=yR hst l;refine⟨by simp,λj z hz=>?_⟩;cases j with
  |zero=>
   simp at hz;subst hz;unfold evX;split
   .exact .ofC (.ex _ rfl rfl)
   .exact xq hst x
  |succ j=>simpa using ih.2 j z (by simpa using hz)
theorem uO (vs:Array Value) (cs:List C) (h:vs.size=cs.length) (hc:∀ j c,cs[j]?=some c->CR I w (vs.getD j undef) c):ArgsL base I β w vs.toList (cs.map .c):=by refine⟨by simp[h],λj x hx=>?_⟩;obtain⟨c,h1,rfl⟩:=A5 hx;have:=hc j c h1;rw[aB,aQ];rw[ak] at this;exact .ofC this
theorem uQ (vs:Array Value) (xs:List V) (h:vs.size=xs.length) (hc:∀ j x,xs[j]?=some x->PR I β w (vs.getD j undef) x):ArgsL base I β w vs.toList xs:=by refine⟨by simp[h],λj x hx=>?_⟩;have:=hc j x hx;rw[aB,aQ];rw[ak] at this;exact(PR.toLR this).fz none
theorem I5 (hst:St G n I0 M w0 I β ob s a w) (hd:∀ d,o.dst=some d->d<n) {f:FuncId} {vs:List Value} {all:List V} {ρ:List Nat} {cargs:List V} {b0 b1:List (List V)} {r:V}
 (eH:FnB P G f cargs b0 r b1) (dN:ArgsL (Wr M w0) I β w vs all) (eF:all.map V.fz=cargs.map (V.ren (rho ρ s.nb))) (hρ:ρ.length=b0.length/\ρ.Nodup) (jg:qV s.bx s.nb (rho ρ s.nb) 0 b0)
 (bM:(execOp a.eval o).run P w=.ok (.enter f vs.toArray) w)
 (hk:∀ a' w',SE G n I0 M w0 (({ s with bx:=fQ (rho ρ s.nb) 0 b1 s.bx,nb:=s.nb+(b1.length - b0.length) }:S).put o.dst (r.ren (rho ρ s.nb))) a' w'->next a' w'):o.wp P a w next Q:=by
 unfold Oper.wp;rw[bM];simp only[Oper.upon];obtain⟨hρl,hn⟩:=hρ;obtain⟨rm,yG,ko⟩:=eH.2.1;have hl:∀ i,i<ρ.length->ρ.getD i 0<s.nb:=λi hi=>by obtain⟨b,hb⟩:∃ b,b0[i]?=some b:=⟨_,ai (by omega)⟩;have:=(pK b0 0 i b jg hb).1;rw[aF] at this;simpa[rho,hi] using this
 have qn:=xz hn hl;have cj:all.length=cargs.length:=by simpa using dJ List.length eF
 refine (eH.2.2 I ⟨Mof β ob (rho ρ s.nb) b0.length,λ_=>none,[]⟩ w vs.toArray (lZ β (rho ρ s.nb) b0.length) (obC ob (rho ρ s.nb) b0.length) hst.ibnd hst.glob (hst.give qn jg yG)
  (by have:=dN.1;simp;omega) (λj x hx=>?_)).mono ?_
 .have hj:j<cargs.length:=(aj.1 hx).1
  have hz:all[j]?=some all[j]:=ai (by omega);have h1:=dN.2 j _ hz;have h2:all[j].fz=x.ren (rho ρ s.nb):=by have e1:(all.map V.fz)[j]?=some all[j].fz:=(by simp[hz]);have e2:(cargs.map (V.ren (rho ρ s.nb)))[j]?=some (x.ren (rho ρ s.nb)):=(by simp[hx]);rw[eF,e2] at e1;exact(eI e1).symm
  rw[h2] at h1;have h3:=h1.ren (β':=lZ β (rho ρ s.nb) b0.length) (rm x (aS hx)) (λi b hi hb=>by simp[lZ,hi,hb]);have h4:=h3.wider (base':=Wr ⟨Mof β ob (rho ρ s.nb) b0.length,λ_=>none,[]⟩ w) λb hb=>by cases hb
  simpa using h4
 .rintro e w' ⟨v,I',β',ob',o',rfl,uI,Uu,Qw,vY,ZS,UL,oJ,iD,sO⟩
  simp only;obtain⟨cO,gx,zG,gy,D2,_⟩:=hst.called hρl hn jg ko uI Uu Qw vY ZS UL oJ;refine hk _ _ ?_;have ZP:LR (Wr M w0) I' (pL β β' ρ s.nb) w' o' v (r.ren (rho ρ s.nb)):=(iD.toRen gx).wider λb hb=>zG b (sO b hb).1.2;cases lP:o.dst with
  |none=>exact⟨_,_,_,cO⟩
  |some d=>
   refine⟨_,_,_,cO.put d (hd d lP) ZP λb hb=>?_⟩;obtain⟨⟨h1,h2⟩,h3,h4⟩:=sO b hb;refine⟨⟨h1,zG b h2⟩,λL hL=>?_,D2 b h2 h4⟩;simp only[upL] at hL;split at hL
   .cases hL
   .exact gy b h2 h3 L hL
theorem sg {K:S->V->Prop} {f:Operand} {args:Array Operand} {ts:Array TypeId} (ho:o.op=.call { callee:=.value f,args:=args,argTypes:=ts }) (hst:St G n I0 M w0 I β ob s a w)
 (hd:∀ d,o.dst=some d->d<n) (h:vcallB P G s (ev G s f) (args.toList.map (ev G s)) K) (hk:∀ a' w' s' x,K s' x->SE G n I0 M w0 (s'.put o.dst x) a' w'->next a' w'):o.wp P a w next Q:=by
 have hf:=bP hst f;unfold vcallB kF at h;split at h
 .rename_i g all sR
  obtain⟨ρ,cargs,b0,r,b1,eH,eF,hρ,jg,hK⟩:=h;obtain⟨fn,h1,h2,c,h3⟩:=eH.1;unfold gz at sR;split at sR
  .rename_i g' fs cs he
   simp only[ao,dH] at sR;obtain⟨rfl,rfl⟩:=sR;rw[he] at hf;obtain⟨vf,vc,hv,q1,q2,q3,q4⟩:=hf.toC.fn_inv;have bM:=rC (P:=P) (w:=w) ho hv h1 h2 h3;refine I5 hst hd eH (vs:=vf.toList++args.toList.map a.eval++vc.toList) (((uO vf fs q1 q3).append (uN hst _)).append (uO vc cs q2 q4)) eF hρ jg ?_ (λa' w'=>hk a' w' _ _ hK);rw[bM];congr 2;apply dB;simp
  .rename_i g' fs cs he
   simp only[ao,dH] at sR;obtain⟨rfl,rfl⟩:=sR;rw[he] at hf;simp only[LR] at hf;obtain⟨vf,vc,hv,q1,q2,q3,q4⟩:=hf;have bM:=rC (P:=P) (w:=w) ho hv h1 h2 h3;refine I5 hst hd eH (vs:=vf.toList++args.toList.map a.eval++vc.toList) (((uQ vf fs q1 q3).append (uN hst _)).append (uQ vc cs q2 q4)) eF hρ jg ?_ (λa' w'=>hk a' w' _ _ hK);rw[bM];congr 2;apply dB;simp
  .cases sR
 .exact h.elim
theorem I6 (hst:St G n I0 M w0 I β ob s a w) (hd:∀ d,o.dst=some d->d<n) {f:FuncId} {vs:List Value} {all:List V} {ρ:List Nat} {cargs:List V} {b0:List (List V)} {R:V->List (List V)->Prop}
 (eH:FnE P G f cargs b0 R) (dN:ArgsL (Wr M w0) I β w vs all) (eF:all.map V.fz=cargs.map (V.ren (rho ρ s.nb))) (hρ:ρ.length=b0.length/\ρ.Nodup) (jg:qV s.bx s.nb (rho ρ s.nb) 0 b0)
 (bM:(execOp a.eval o).run P w=.ok (.enter f vs.toArray) w)
 (hk:∀ r b1,R r b1->∀ a' w',SE G n I0 M w0 (({ s with bx:=fQ (rho ρ s.nb) 0 b1 s.bx,nb:=s.nb+(b1.length - b0.length) }:S).put o.dst (r.ren (rho ρ s.nb))) a' w'->next a' w'):o.wp P a w next Q:=by
 unfold Oper.wp;rw[bM];simp only[Oper.upon];obtain⟨hρl,hn⟩:=hρ;obtain⟨rm,yG,ko⟩:=eH.2.1;have hl:∀ i,i<ρ.length->ρ.getD i 0<s.nb:=λi hi=>by obtain⟨b,hb⟩:∃ b,b0[i]?=some b:=⟨_,ai (by omega)⟩;have:=(pK b0 0 i b jg hb).1;rw[aF] at this;simpa[rho,hi] using this
 have qn:=xz hn hl;have cj:all.length=cargs.length:=by simpa using dJ List.length eF
 refine (eH.2.2 I ⟨Mof β ob (rho ρ s.nb) b0.length,λ_=>none,[]⟩ w vs.toArray (lZ β (rho ρ s.nb) b0.length) (obC ob (rho ρ s.nb) b0.length) hst.ibnd hst.glob (hst.give qn jg yG)
  (by have:=dN.1;simp;omega) (λj x hx=>?_)).mono ?_
 .have hj:j<cargs.length:=(aj.1 hx).1
  have hz:all[j]?=some all[j]:=ai (by omega);have h1:=dN.2 j _ hz;have h2:all[j].fz=x.ren (rho ρ s.nb):=by have e1:(all.map V.fz)[j]?=some all[j].fz:=(by simp[hz]);have e2:(cargs.map (V.ren (rho ρ s.nb)))[j]?=some (x.ren (rho ρ s.nb)):=(by simp[hx]);rw[eF,e2] at e1;exact(eI e1).symm
  rw[h2] at h1;have h3:=h1.ren (β':=lZ β (rho ρ s.nb) b0.length) (rm x (aS hx)) (λi b hi hb=>by simp[lZ,hi,hb]);have h4:=h3.wider (base':=Wr ⟨Mof β ob (rho ρ s.nb) b0.length,λ_=>none,[]⟩ w) λb hb=>by cases hb
  simpa using h4
 .rintro e w' ⟨r,b1,hR,v,I',β',ob',o',rfl,uI,Uu,Qw,vY,ZS,UL,oJ,iD,sO⟩
  simp only;obtain⟨cO,gx,zG,gy,D2,_⟩:=hst.called hρl hn jg (ko r b1 hR) uI Uu Qw vY ZS UL oJ;refine hk r b1 hR _ _ ?_;have ZP:LR (Wr M w0) I' (pL β β' ρ s.nb) w' o' v (r.ren (rho ρ s.nb)):=(iD.toRen gx).wider λb hb=>zG b (sO b hb).1.2;cases lP:o.dst with
  |none=>exact⟨_,_,_,cO⟩
  |some d=>
   refine⟨_,_,_,cO.put d (hd d lP) ZP λb hb=>?_⟩;obtain⟨⟨h1,h2⟩,h3,h4⟩:=sO b hb;refine⟨⟨h1,zG b h2⟩,λL hL=>?_,D2 b h2 h4⟩;simp only[upL] at hL;split at hL
   .cases hL
   .exact gy b h2 h3 L hL
theorem GW {K:S->V->Prop} {f:Operand} {args:Array Operand} {ts:Array TypeId} (ho:o.op=.call { callee:=.value f,args:=args,argTypes:=ts }) (hst:St G n I0 M w0 I β ob s a w)
 (hd:∀ d,o.dst=some d->d<n) (h:lj P G s (ev G s f) (args.toList.map (evX G s)) K) (hk:∀ a' w' s' x,K s' x->SE G n I0 M w0 (s'.put o.dst x) a' w'->next a' w'):o.wp P a w next Q:=by
 have hf:=bP hst f;unfold lj at h;split at h
 .rename_i g all sR
  obtain⟨ρ,cargs,b0,R,eH,eF,hρ,jg,hK⟩:=h;obtain⟨fn,h1,h2,c,h3⟩:=eH.1;unfold gz at sR;split at sR
  .rename_i g' fs cs he
   simp only[ao,dH] at sR;obtain⟨rfl,rfl⟩:=sR;rw[he] at hf;obtain⟨vf,vc,hv,q1,q2,q3,q4⟩:=hf.toC.fn_inv;have bM:=rC (P:=P) (w:=w) ho hv h1 h2 h3;refine I6 hst hd eH (vs:=vf.toList++args.toList.map a.eval++vc.toList) (((uO vf fs q1 q3).append (yR hst _)).append (uO vc cs q2 q4)) eF hρ jg ?_ (λr b1 hR a' w'=>hk a' w' _ _ (hK r b1 hR));rw[bM];congr 2;apply dB;simp
  .rename_i g' fs cs he
   simp only[ao,dH] at sR;obtain⟨rfl,rfl⟩:=sR;rw[he] at hf;simp only[LR] at hf;obtain⟨vf,vc,hv,q1,q2,q3,q4⟩:=hf;have bM:=rC (P:=P) (w:=w) ho hv h1 h2 h3;refine I6 hst hd eH (vs:=vf.toList++args.toList.map a.eval++vc.toList) (((uQ vf fs q1 q3).append (yR hst _)).append (uQ vc cs q2 q4)) eF hρ jg ?_ (λr b1 hR a' w'=>hk a' w' _ _ (hK r b1 hR));rw[bM];congr 2;apply dB;simp
  .cases sR
 .exact h.elim
end
def FW (l:Option Nat):Fence:={ Fence.wide with round:=l }
section
variable {P:Program} {n:Nat} {l:Option Nat} {a:Act} {w:World} {o:Oper} {next:Act->World->Prop} {Q:Exit->Act->World->Prop}
theorem pM {f:FuncId} {args:Array Value} {R:Ending->World->Prop}:CallsIn (FW l) n P f args w R↔Calls P f args w R:=callsIn_wide (n:=n)
theorem QV {row:String} {args:Array Value} {R:Value->World->Prop} (h:Rows P row args w R):RowsIn (FW l) n P row args w R:=
 λc cs _=>let⟨v,w',h1,h2⟩:=h c cs;⟨v,w',h1,stepsIn_wide.2 h2⟩
theorem MP {k:Nat} {r:Nat} {f:FuncId} {tmps:Array Value} {assign body:Code} {R:Ending->World->Prop} (h:RoundIn Fence.wide k P r f tmps assign body w R):RoundIn (FW l) n P r f tmps assign body w R:=
 ⟨trivial,λc cs _=>h.2 c cs (room_wide _)⟩
theorem wm (qp:∀ c,o.op≠.defer c) (h:o.wp P a w next Q):o.wpIn (FW l) n P a w next Q:=by
 refine⟨λ_ _=>trivial,?_⟩;rw[Oper.semAt_eq _ _ _ qp];unfold Oper.wp at h;have hd:(FW l).depth.isSome=true->1<=n:=λh=>by cases h
 generalize (execOp a.eval o).run P w=r at *;cases r with
 |ok x w'=>
  cases x<;>simp only[Oper.upon,Oper.uponIn] at h ⊢<;>first
   |exact h
   |exact⟨hd,pM.2 h⟩
   |exact⟨hd,QV h⟩
   |exact h.elim
 |halt x w'=>cases x<;>simp only[Oper.upon,Oper.uponIn] at h ⊢<;>exact h
def BK (ops:Array Oper):Bool:=ops.toList.all λo=>match o.op with | .defer _=>false | _=>true
theorem MQ {ops:Array Oper} (h:BK ops=true) (ho:o∈ops.toList):∀ c,o.op≠.defer c:=λc hc=>by have:=aY.1 h o ho;rw[hc] at this;cases this
theorem aas {ops:Array Oper} (qp:BK ops=true) (hQ:¬ LetsOut Q) {i:Nat} {K K':Act->World->Prop} (hK:∀ a w,K a w->K' a w) (h:wpOp P ops Q i K a w):wpOpIn (FW l) n P ops Q i K' a w:=by
 unfold wpOp at h;unfold wpOpIn;split
 .rename_i ho;rw[ho] at h;exact hK _ _ h
 .rename_i o ho
  rw[ho] at h;have hm:o∈ops.toList:=by have:=fD ho;simpa using this
  simp only at h;split
  .rename_i hw
   rw[if_pos hw] at h;rcases h with h | h
   .exact wm (MQ qp hm) (Oper.wp_mono hK h)
   .exact absurd h.2 hQ
  .rename_i hw
   rw[if_neg hw] at h;exact⟨λ_ _=>trivial,hK _ _ h⟩
theorem xB {ops:Array Oper} {md:Region.Mode} (qp:BK ops=true) (hQ:¬ LetsOut Q):∀ (fuel:Nat) (listed:Array Bool) (a:Act) (w:World),wpAny P md ops Q fuel listed a w->wpAnyIn (FW l) n P md ops Q fuel listed a w
 |0,_,_,_,h=>h
 |fuel+1,_,_,_,h=>⟨h.1,λi hi=>aas qp hQ (λa w h=>xB qp hQ fuel _ a w h) (h.2 i hi)⟩
section
variable {b:Frame} {k:List Item} {cs:List Frame}
theorem mQ {c:Code}:step P (lone (b.atR a (.code (.scope c)::k)) cs w)=.next (lone (b.atR a (.code c::.inScope c::k)) cs w):=
 step_lone_go (by simp[stepG,stepG.exec,Frame.atR])
theorem Ej {c:Code}:step P (lone (b.atR a (.inScope c::k)) cs w)=.next (lone (b.atR a k) cs w):=
 step_lone_go (by simp[stepG,stepG.exec,Frame.atR])
end
theorem vu {c:Code} (h:c.wpIn (FW l) n P (Exit.noGoto Q) a w):(Code.scope c).wpIn (FW l) n P Q a w:=by
 intro b k cs Qx hb hr;have h0:(lone (b.atR a (.code (.scope c)::k)) cs w).fenced P (FW l):=fenced_calm hb hr rfl;obtain⟨e,a₁,w₁,hq,Uz⟩:=h b (.inScope c::k) cs Qx hb hr;cases e with
 |normal=>exact⟨.normal,a₁,w₁,hq,.head h0 mQ (StepsIn.trans Uz (.one (fenced_calm hb hr rfl) Ej))⟩
 |exit id=>
  have hx:exitTo id (.inScope c::k)=exitTo id k:=by simp[exitTo]
  exact⟨.exit id,a₁,w₁,hq,λk' hk=>.head h0 mQ (Uz.1 k' (by rw[hx];exact hk)),
   λhr' hk=>let⟨k₁,h1,h2⟩:=Uz.2 hr' (by rw[hx];exact hk);⟨k₁,h1,.head h0 mQ h2⟩⟩
 |goto l=>exact hq.elim
 |ret=>exact⟨_,a₁,w₁,hq,.of_steps (.one h0 mQ) Uz⟩
 |panic ch=>exact⟨_,a₁,w₁,hq,.of_steps (.one h0 mQ) Uz⟩
 |outgrown=>exact⟨_,a₁,w₁,hq,.of_steps (.one h0 mQ) Uz⟩
end
section
variable {P:Program} {G:Gl} {tr:List Nat} {n:Nat} {I0:Ft} {M:Mx} {w0:World} {I:Ft} {β:Nat->Option Nat} {ob:Loc->Option Nat} {s:S} {a:Act} {w:World} {o:Oper}
 {next:Act->World->Prop} {Q:Exit->Act->World->Prop} {base:Nat->Prop} {v:Value} {x y:V}
theorem SE.put (h:St G n I0 M w0 I β ob s a w) {dst:Option Tmp} (hd:∀ d,dst=some d->d<n) (hv:LR (Wr M w0) I β w none v x):SE G n I0 M w0 (s.put dst x) (a.put dst v) w:=by
 cases dst with
 |none=>exact⟨_,_,_,h⟩
 |some d=>exact⟨_,_,_,h.put d (hd d rfl) hv FreeOb.nothing⟩
theorem Vf {u:Value} {c:C} (h:zc u=some c):LR base I β w none u (nI c):=by
 unfold zc at h;split at h
 .simp only[ao] at h;subst h
  exact⟨.nil none 0 (λ_=>rfl),.inl ⟨rfl,rfl,none,rfl⟩⟩
 .split at h
  .simp only[ao] at h;subst h
   exact .ofLit ‹_›
  .cases h
theorem St.newCells (hst:St G n I0 M w0 I β ob s a w) (e:TypeId) {cells:Array Value} {cs:List C} (hc:Cells I w cells cs) :
 St G n I0 M w0 I (up β s.nb (some w.heap.size)) (λL=>match L with | .b i j=>if i=s.nb then none else ob (.b i j) | L=>ob L)
  { s with bx:=up s.bx s.nb (cs.map .c),nb:=s.nb+1 } a (w.alloc (.cells cells e)):=
 hst.newBox (cur:=cells) (T:=.of e) (cs:=cs.map .c) (od:=λ_=>none) (Nat.le_of_eq (by simpa using hc.1.symm)) RT.of_ok (λq=>by
  by_cases hq:q<cs.length
  .have e2:(cs.map V.c).getD q .un=.c cs[q]:=by simp[List.getD,hq]
   rw[e2];exact .ofC (hc.2 q _ (ai hq))
  .have e2:(cs.map V.c).getD q .un=.un:=by simp[List.getD,bG (ec hq)]
   rw[e2];simp only[LR];exact .un _) (λu hu=>by
  obtain⟨q,hq,rfl⟩:=fC.1 hu;have nC:q<cs.length:=by rw[<- hc.1];exact hq
  have:=(hc.2 q _ (ai nC)).oneCell;simpa[ax hq,hq] using this) (λ_ _ h=>by cases h) (λ_ _ _ h=>by cases h) (by cases cs<;>rfl)
theorem St.newPre (hst:St G n I0 M w0 I β ob s a w) (e:TypeId) {cells:Array Value} {cs:List C} (fO:cs.length<=cells.size) (jq:∀ q c,cs[q]?=some c->CR I w (cells.getD q undef) c)
 (kg:∀ u∈cells,u.oneCell'=true) :
 St G n I0 M w0 I (up β s.nb (some w.heap.size)) (λL=>match L with | .b i j=>if i=s.nb then none else ob (.b i j) | L=>ob L)
  { s with bx:=up s.bx s.nb (cs.map .c),nb:=s.nb+1 } a (w.alloc (.cells cells e)):=
 hst.newBox (cur:=cells) (T:=.of e) (cs:=cs.map .c) (od:=λ_=>none) (by simpa using fO) RT.of_ok (λq=>by
  by_cases hq:q<cs.length
  .have e2:(cs.map V.c).getD q .un=.c cs[q]:=by simp[List.getD,hq]
   rw[e2];exact .ofC (jq q _ (ai hq))
  .have e2:(cs.map V.c).getD q .un=.un:=by simp[List.getD,bG (ec hq)]
   rw[e2];simp only[LR];exact .un _) kg (λ_ _ h=>by cases h) (λ_ _ _ h=>by cases h) (by cases cs<;>rfl)
theorem MR {K:S->Prop} {T:TypeId} {p X:Operand} {i:TI} {blk j b k len cap q:Nat} {E:TypeId} {es:List (List C)} {cs:List C} (hst:St G n I0 M w0 I β ob s a w) (hd:∀ d,o.dst=some d->d<n) (cz:o.op=.store T p X) (hi:ti P T=some i) (hp:ev G s p=.c (.ex (.pointer (some ⟨blk,j,none⟩))))
 (hb:b<s.nb) (lv:cL (s.bx b)=false) (ZT:(s.bx b)[k]?=some (.gg (.slice (some ⟨blk,0,none⟩) len cap) (some (E,i.size)) es)) (jf:(ev G s X).cs=some cs) (j4:cs.length=i.size) (hpz:0<i.size) (hq:q<es.length) (hj:q*i.size=j)
 (h:K ((let s':=s.use (cn tr o);{ s' with bx:=up s.bx b ((s.bx b).set k (.gg (.slice (some ⟨blk,0,none⟩) len cap) (some (E,i.size)) (es.set q cs))) }:S).put o.dst .sk))
 (hk:∀ a' w' s',K s'->SE G n I0 M w0 s' a' w'->next a' w'):o.wp P a w next Q:=by
 obtain⟨j',d,Gg,LL,_,fO,_,kJ,_⟩:=bH hi;obtain⟨ob',h1,h2⟩:=hst.use (cn tr o);have oJ:(s.use (cn tr o)).bx=s.bx/\(s.use (cn tr o)).nb=s.nb:=by
  cases cn tr o with
  |none=>exact⟨rfl,rfl⟩
  |some t=>simp only[S.use];split<;>exact⟨rfl,rfl⟩
 have OR:=bP hst p;rw[hp] at OR;have hpe:=OR.toC.ex_inv;have qT:=IL (bP hst X) jf;obtain⟨cur,⟨g1,g2,g3,g4,g5,g6,g7⟩,qm⟩:=h1.ggSet (b:=b) (k:=k) (by rw[oJ.2];exact hb) (by rw[oJ.1];exact ZT);have lu:=bN es g5;have AY:(a.eval X).cells.toList.length=i.size:=by rw[b8,qT.1,j4]
 have OS:cur.toList.length=cur.size:=b8;have ko:=aO i.size (show q+1<=cap by omega);have ZO:=aO i.size (show q+1<=es.length from hq);rw[da,nf,<- g3,hj] at ko;rw[da,nf,hj] at ZO;have LM:RelL I w (a.eval X).cells.toList cs:=λq c hq=>by
  have:=qT.2 q c hq;have nC:q<(a.eval X).cells.size:=by rw[qT.1];exact(aj.1 hq).1
  refine⟨(a.eval X).cells[q],by rw[aQ,ax nC],?_⟩;rw[ak,ax nC] at this;exact this
 have LN:∀ u∈(a.eval X).cells.toList,u.oneCell'=true:=λu hu=>by
  obtain⟨q,hq⟩:=eA.1 hu;have nC:q<cs.length:=by rw[j4,<- AY];exact(aj.1 hq).1
  obtain⟨u',Bn,jq⟩:=LM q _ (ai nC);rw[hq] at Bn;cases Bn;exact jq.oneCell
 have tq:RelL I w cur.toList es.flatten:=λq c hq=>by have nC:=(aj.1 hq).1;rw[lu] at nC;have:=aO i.size g4;refine⟨cur.getD q undef,?_,g6 q c hq⟩;rw[aQ,ak,ax (show q<cur.size by omega)];rfl
 have bM:(Instr.storeAt T (a.eval p) (a.eval X)).run P w=.ok () (w.setRow blk (cur.toList.take j++(a.eval X).cells.toList++cur.toList.drop (j+i.size)).toArray):=by rw[hpe];simp only[Instr.storeAt,Instr.sureAddr,aK,bg,aw];unfold storeVar;simp only[aK,fc w Gg,aw];rw[if_neg (by rw[ey Gg,<- fO,qT.1,j4];simp)];have:=gr (P:=P) blk j (.of E) (a.eval X).cells.toList 0 cur w g2 RT.of_ok (by rw[AY];omega) LN;rw[AY] at this;simpa using this
 have n0:=qm (es.set q cs) (cur.toList.take j++(a.eval X).cells.toList++cur.toList.drop (j+i.size)) (by simp) (λx hx=>by
  rcases List.mem_or_eq_of_mem_set hx with hx | rfl
  .exact g5 x hx
  .exact j4)
  (by rw[ae,ae,AY,aN,cw,OS,bS (by omega)];omega)
  (λu hu=>by
   rcases ba.1 hu with hu | hu
   .rcases ba.1 hu with hu | hu
    .exact g7 u (cy.1 (dp hu))
    .exact LN u hu
   .exact g7 u (cy.1 (cQ hu)))
  (by
   rw[GQ g5 hq,hj];refine RelL.append (RelL.append (tq.take _) LM ?_) (tq.drop _) ?_
   .rw[aN,aN,OS,lu,bS (by omega),bS (by omega)]
   .rw[ae,ae,AY,j4,aN,aN,OS,lu,bS (by omega),bS (by omega)])
 unfold Oper.wp;obtain⟨dst,op,type,pos,after,guard⟩:=o;simp only at cz;subst cz;simp only[execOp,aK,bM,aw,bg,Oper.upon];rw[oJ.1] at n0;have qz:=SE.put (v:=undef) (x:=.sk) n0 hd (by simp only[LR];exact .sk);exact hk _ _ _ h qz
theorem BM {ρ:Nat->Nat}:∀ (b:List (List V)) (i:Nat) (bx:Nat->List V) (nb:Nat),qV bx nb ρ i b->fQ ρ i b bx=bx
 |[],_,_,_,_=>rfl
 |x::r,i,bx,nb,h=>by
  have e:up bx (ρ i) (x.map (V.ren ρ))=bx:=by rw[<- h.1.2,rZ]
  show fQ ρ (i+1) r (up bx (ρ i) (x.map (V.ren ρ)))=bx;rw[e];exact BM r (i+1) bx nb h.2
theorem Vg {f:V} {args:List V} {K:V->Prop} (h:pF P G s f args K):vcallB P G s f args (λs' x=>s'=s/\K x):=by
 unfold pF at h;unfold vcallB kF;split at h
 .rename_i g all hc
  simp only[hc];obtain⟨ρ,cargs,b0,r,h1,h2,h3,h4,h5,h6⟩:=h;refine⟨ρ,cargs,b0,r,b0,h1,h2 _,h3,h4 _,?_,by rw[h5];exact h6⟩;rw[BM _ _ _ _ (h4 s.nb),Nat.sub_self];rfl
 .exact h.elim
theorem EV {K:V->Prop} {f:Operand} {args:Array Operand} {ts:Array TypeId} (ho:o.op=.call { callee:=.value f,args:=args,argTypes:=ts }) (hst:St G n I0 M w0 I β ob s a w) (hd:∀ d,o.dst=some d->d<n)
 (h:VYQ P G tr o s f args K) (hk:∀ a' w' x,K x->SE G n I0 M w0 (s.after tr o x) a' w'->next a' w'):o.wp P a w next Q:=by
 unfold VYQ at h;split at h
 .refine sg ho hst hd (Vg h) (λa' w' s' x hK dD=>?_)
  obtain⟨rfl,hx⟩:=hK;refine hk a' w' x hx ?_;have hc:cn tr o=none:=by simp[cn,ho]
  unfold S.after;rw[hc];exact dD
 .exact pB (tr:=tr) hst hd h hk
theorem qD {K:S->Prop} (hst:St G n I0 M w0 I β ob s a w) (hd:∀ d,o.dst=some d->d<n) (hy:qt tr o=false) (h:VStep P G tr o s K)
 (hk:∀ a' w' s',K s'->SE G n I0 M w0 s' a' w'->next a' w'):o.wp P a w next Q:=by
 have gen:VYK P G tr o s (λv=>K (s.after tr o v))->o.wp P a w next Q:=λh=>pB (tr:=tr) hst hd h (λa' w' x hx dD=>hk _ _ _ hx dD)
 unfold VStep at h;split at h
 .
  rename_i T cz;split at h
  .rename_i z _ _ hi
   obtain⟨j,d,h1,h2,_,_,_,_,hz,_⟩:=bH hi;simp only at hz;split at hz
   .rename_i zv tg
    have cj:=List.mapM_eq_some_length hz.symm;have D2:=hst.newBox (cur:=zv.cells) (T:=.of T) (cs:=z.map nI) (od:=λ_=>none) (Nat.le_of_eq (by simpa using cj)) RT.of_ok (λq=>by
     by_cases hq:q<z.length
     .obtain⟨u,hu,sM⟩:=List.mapM_eq_some_get hz.symm q z[q] (ai hq)
      have e1:zv.cells.getD q undef=u:=(by rw[aQ] at hu;simp[hu]);have e2:(z.map nI).getD q .un=nI z[q]:=(by simp[List.getD,hq]);rw[e1,e2];exact Vf sM
     .have e2:(z.map nI).getD q .un=.un:=by simp[List.getD,bG (ec hq)]
      rw[e2];simp only[LR];exact .un _) (λu hu=>by
     obtain⟨q,hq,rfl⟩:=fC.1 hu;have nC:q<z.length:=(by rw[cj];simpa using hq);obtain⟨u,hu,sM⟩:=List.mapM_eq_some_get hz.symm q z[q] (ai nC);rw[aQ,ax hq] at hu;cases hu;exact(O7 (I:=I) (w:=w) sM).oneCell) (λ_ _ h=>by cases h) (λ_ _ _ h=>by cases h) (GP λx hx=>by
     obtain⟨c,_,rfl⟩:=bU.1 hx;unfold nI;split<;>rfl)
    refine eE (v':=.pointer (some ⟨w.heap.size,0,none⟩)) (w':=w.alloc (.cells zv.cells T)) ?_ (hk _ _ _ h (SE.put D2 hd ?_))
    .have bM:(Instr.alloc T true (.tuple #[])).run P w=.ok (.pointer (some ⟨w.heap.size,0,none⟩)) (w.alloc (.cells zv.cells T)):=by simp[Instr.alloc,zeroValue,typeInfo,h1,tg,newVar,newRow]
     obtain⟨dst,op,type,pos,after,guard⟩:=o;simp only at cz;subst cz;simp only[execOp,aK,bM,aw,bg]
    .simp only[LR];exact⟨w.heap.size,by simp,rfl⟩
   .cases hz
  .exact h.elim
 .
  rename_i T X cz;split at h
  .rename_i cs jf
   obtain⟨ob',h1,h2⟩:=hst.use (cn tr o);obtain⟨b1,b2,b3⟩:=ER (bP hst X) jf;have ZQ:cn tr o=(match X with | .tmp t=>some t | _=>none):=by obtain⟨dst,op,type,pos,after,guard⟩:=o;simp only at cz;subst cz;cases X<;>rfl
   have oJ:(s.use (cn tr o)).bx=s.bx/\(s.use (cn tr o)).nb=s.nb:=by
    cases cn tr o with
    |none=>exact⟨rfl,rfl⟩
    |some t=>simp only[S.use];split<;>exact⟨rfl,rfl⟩
   have D2:=h1.newBox (cur:=(a.eval X).cells) (T:=.of T) (cs:=cs) (od:=λj=>if j=0/\(ev G s X).isOw=true then U1 ob X else none) (Nat.le_of_eq b1.symm) RT.of_ok b2 b3 (λj b hb=>by
    split at hb
    .rename_i hj
     cases X with
     |tmp t=>refine⟨hst.obnd _ b hb,λL hL=>?_,λi=>hst.obx _ b i hb⟩;obtain⟨q1,q2⟩:=h2 L b hL;have:=q2 t ZQ (hst.oinj _ _ b q1 hb);simp only[ev] at hj;rw[hj.2] at this;cases this
     |_=>cases hb
    .cases hb) (λj j' b hb yI=>by
    split at hb<;>split at yI<;>try cases hb
    all_goals try cases yI
    rename_i q1 q2;rw[q1.1,q2.1]) (GP (ES (bP hst X) jf))
   refine eE (v':=.pointer (some ⟨w.heap.size,0,none⟩)) (w':=w.alloc (.cells (a.eval X).cells T)) ?_ (hk _ _ _ h (SE.put D2 hd ?_))
   .obtain⟨dst,op,type,pos,after,guard⟩:=o
    simp only at cz;subst cz;simp[execOp,Instr.box,newVar,newRow]
   .simp only[LR];exact⟨w.heap.size,by rw[oJ.2];simp,rfl⟩
  .exact h.elim
 .
  rename_i T p X cz;replace h:=h.2;split at h
  .rename_i i b k cs hi hp jf
   obtain⟨j,d,Gg,LL,_,fO,_⟩:=bH hi;obtain⟨⟨hb,cj,vH,lv⟩,h⟩:=h;obtain⟨ob',h1,h2⟩:=hst.use (cn tr o);obtain⟨b1,b2,b3⟩:=ER (bP hst X) jf;have ZQ:cn tr o=(match X with | .tmp t=>some t | _=>none):=by obtain⟨dst,op,type,pos,after,guard⟩:=o;simp only at cz;subst cz;cases X<;>rfl
   have oJ:(s.use (cn tr o)).bx=s.bx/\(s.use (cn tr o)).nb=s.nb:=by
    cases cn tr o with
    |none=>exact⟨rfl,rfl⟩
    |some t=>simp only[S.use];split<;>exact⟨rfl,rfl⟩
   have OR:=bP hst p;rw[hp] at OR;simp only[LR] at OR;obtain⟨blk,hβ,hpe⟩:=OR;obtain⟨sN,cur,e1,e2,e3,e4,_⟩:=hst.bx b hb;obtain⟨T',e3,_,hT⟩:=e3.cells lv;rw[hβ] at e1;cases e1;have hsb:=h1.setBox (i:=b) (k:=k) (blk:=blk) (cur:=cur) (T:=T') (vs:=(a.eval X).cells.toList) (ds:=cs) (od:=λj=>if j=0/\(ev G s X).isOw=true then U1 ob X else none)
    (by rw[oJ.2];exact hb) hβ e3 hT (by simpa using b1) (by rw[oJ.1,cj];exact vH) (λq=>by have:=b2 q;rw[aB,aQ,<- ak];exact this) (by simpa using b3) (λj b hb=>by
    split at hb
    .rename_i hj
     cases X with
     |tmp t=>refine⟨hst.obnd _ b hb,λL hL=>?_,λi=>hst.obx _ b i hb⟩;obtain⟨q1,q2⟩:=h2 L b hL;have:=q2 t ZQ (hst.oinj _ _ b q1 hb);simp only[ev] at hj;rw[hj.2] at this;cases this
     |_=>cases hb
    .cases hb) (λj j' b hb yI=>by
    split at hb<;>split at yI<;>try cases hb
    all_goals try cases yI
    rename_i q1 q2;rw[q1.1,q2.1]) (by rw[oJ.1];exact lv) (ES (bP hst X) jf)
   have bM:(Instr.storeAt T (a.eval p) (a.eval X)).run P w=.ok () (w.setRow blk (cur.toList.take k++(a.eval X).cells.toList++cur.toList.drop (k+(a.eval X).cells.toList.length)).toArray):=(by rw[hpe];simp only[Instr.storeAt,Instr.sureAddr,aK,bg,aw];unfold storeVar;simp only[aK,fc w Gg,aw];rw[if_neg (by rw[ey Gg,<- fO,b1,cj];simp)];have:=gr (P:=P) blk k T' (a.eval X).cells.toList 0 cur w e3 hT (by simp only[b8,eX,b1,cj];omega) (by simpa using b3);simpa using this);unfold Oper.wp;obtain⟨dst,op,type,pos,after,guard⟩:=o;simp only at cz;subst cz;simp only[execOp,aK,bM,aw,bg,Oper.upon];have qz:=SE.put (v:=undef) (x:=.sk) hsb hd (by simp only[LR];exact .sk);exact hk _ _ _ h qz
  .rename_i i blk j hi hp
   obtain⟨j',d,Gg,LL,_,fO,_,kJ,_⟩:=bH hi;rcases h with h | ⟨b,k,len,cap,q,E,es,cs,⟨hb,lv,ZT,jf,j4,hpz,hq,hj⟩,h⟩
   rotate_left
   .exact MR hst hd cz hi hp hb lv ZT jf j4 hpz hq hj h hk
   obtain⟨b,k,len,cap,E,es,r,e,c,⟨Il,hb,lv,ZT,⟨hj,hr⟩,hc⟩,h⟩:=h;obtain⟨ob',h1,h2⟩:=hst.use (cn tr o);have oJ:(s.use (cn tr o)).bx=s.bx/\(s.use (cn tr o)).nb=s.nb:=by
    cases cn tr o with
    |none=>exact⟨rfl,rfl⟩
    |some t=>simp only[S.use];split<;>exact⟨rfl,rfl⟩
   have OR:=bP hst p;rw[hp] at OR;have hpe:=OR.toC.ex_inv;have qT:CR I w (a.eval X) c:=by
    have:=bP hst X;generalize ev G s X=x at this hc;cases x<;>simp only[V.asC,ao] at hc<;>try cases hc
    .exact this.toC
    .exact this.1
   obtain⟨blk2,cur,b1,g1,g2,g3,g4⟩:=h1.hotCell (b:=b) (k:=k) (by rw[oJ.2];exact hb) (by rw[oJ.1];exact ZT);obtain⟨f0,te,blk3,cap',c2,sz,f1,f2,f3,f4,f5,f6,f7,f8,f9,f10,f11,f12⟩:=g4.hot;cases f1;have Uy:=f0 _ rfl;rw[f3] at Uy;simp only[eN,ao,iF] at Uy;obtain⟨⟨rfl,_⟩,rfl,rfl⟩:=Uy;have he1:(es++[e]).length=es.length+1:=(by simp);have lu:es.flatten.length=es.length*sz:=bN es λx hx=>f9 x (jW _ hx);have Qo:e.length=sz:=f9 e (by simp);have hjs:j<c2.size:=(by have:=aO sz f6;rw[he1,eB] at this;omega);have oY:=qT.notAgg;have vL:(c2.toList.take j++(a.eval X).cells.toList++c2.toList.drop (j+(a.eval X).cells.toList.length)).toArray=c2.setIfInBounds j (a.eval X):=(by rw[oY];apply dB;rw[Array.toList_setIfInBounds,List.set_eq_take_append_cons_drop,if_pos (by simpa using hjs)];simp);have bM:(Instr.storeAt T (a.eval p) (a.eval X)).run P w=.ok () (w.setRow blk2 (c2.setIfInBounds j (a.eval X))):=(by rw[hpe,<- vL];simp only[Instr.storeAt,Instr.sureAddr,aK,bg,aw];unfold storeVar;simp only[aK,fc w Gg,aw];have kg:i.size=1:=Il;rw[if_neg (by rw[ey Gg,<- fO,kg,oY];simp)];have:=gr (P:=P) blk2 j (.of te) (a.eval X).cells.toList 0 c2 w f5 RT.of_ok (by rw[oY];simp;omega) (by rw[oY];simpa using qT.oneCell);simpa using this);have hg:w.grb (w.setRow blk2 (c2.setIfInBounds j (a.eval X))) (some blk2):=⟨rfl,rfl,rfl,by simp,λq _ hq=>jV w blk2 q _ (λe=>hq (by rw[e])),ab _⟩;have hnh:=lR w blk2 c2 (c2.setIfInBounds j (a.eval X)) te (0,0) f5;have jf:∀ o,I blk2 o->(w.setRow blk2 (c2.setIfInBounds j (a.eval X))).cell? ⟨blk2,o,none⟩=w.cell? ⟨blk2,o,none⟩:=λo ho=>by have:=f12 o ho;rw[he1,Nat.add_sub_cancel] at this;rw[fj _ blk2 o _ te (0,0) hnh,fj w blk2 o c2 te (0,0) f5,Array.getElem?_setIfInBounds_ne (by omega)]
   have oK:∀ b o,I b o->I b o/\(w.setRow blk2 (c2.setIfInBounds j (a.eval X))).cell? ⟨b,o,none⟩=w.cell? ⟨b,o,none⟩:=λb o ho=>
    ⟨ho,h1.keeps hg (λr e o ho=>by cases e;exact jf o ho) b o ho⟩
   have hfs:(es++[e.set r c]).flatten=(es++[e]).flatten.set j c:=(by rw[di,di,List.flatten_singleton,List.flatten_singleton,List.set_append_right _ _ (by omega),<- hj,Nat.add_sub_cancel_left]);have hsb:=h1.recell (b:=b) (k:=k) (x':=.hh (some (.slice (some ⟨blk2,0,none⟩) (es++[e]).length cap')) E (es++[e.set r c])) (by rw[oJ.2];exact hb) (by rw[oJ.1];exact ZT) rfl rfl g1 hg jf (λ_ _ h=>h) (λ_ _ h=>.inl h)
    (λb2 cur2 q1 q2 q3=>by
     have q4:=q3.hot.1;refine⟨q4,te,blk2,cap',_,sz,rfl,f2,?_,f4,hnh,?_,f7,by simpa using f8,λx hx=>?_,λq d hq=>?_,λo ho=>?_,λo ho=>?_⟩
     .rw[q4 _ rfl];simp
     .rw[ae] at f6 ⊢;simpa using f6
     .rcases ba.1 hx with hx | hx
      .exact f9 x (jW _ hx)
      .rw[aX] at hx;subst hx;rw[gd];exact Qo
     .rw[hfs,List.getElem?_set] at hq
      split at hq
      .rename_i hqj
       subst hqj;split at hq
       .cases hq
        rw[mj _ _ _ hjs];exact qT.mono oK
       .cases hq
      .rename_i hqj
       rw[getD_set_ne _ _ _ _ (λe=>hqj e.symm)];exact(f10 q d hq).mono oK
     .exact f11 o (by simpa using ho)
     .simpa using f12 o ho)
   unfold Oper.wp;obtain⟨dst,op,type,pos,after,guard⟩:=o;simp only at cz;subst cz;simp only[execOp,aK,bM,aw,bg,Oper.upon];have qz:=SE.put (v:=undef) (x:=.sk) hsb hd (by simp only[LR];exact .sk);exact hk _ _ _ h qz
  .exact h.elim
 .
  rename_i T len parts cz;split at h
  .obtain⟨e,sz,es,cells,hK,bM,hc⟩:=AD hst h
   have D2:=hst.newCells e hc;refine eE (v':=.slice (some ⟨w.heap.size,0,none⟩) len len) (w':=w.alloc (.cells cells e)) ?_ (hk _ _ _ hK (SE.put D2 hd ?_))
   .obtain⟨dst,op,type,pos,after,guard⟩:=o
    simp only at cz;subst cz;simp only[execOp,aK,bM,aw,bg]
   .simp only[LR];exact⟨ab _,w.heap.size,0,_,ab _,by simp,.inr rfl,rfl⟩
  split at h
  .rcases h with h | h
   rotate_left
   .obtain⟨z,u,w',hz,bM,dD⟩:=Ed (tr:=tr) hst hd h
    refine eE (v':=u) (w':=w') ?_ (hk _ _ _ hz dD);obtain⟨dst,op,type,pos,after,guard⟩:=o;simp only at cz;subst cz;simp only[execOp,aK,bM,aw,bg]
   unfold xo at h;split at h
   .rename_i e _ _ _ _ _ _ hi
    obtain⟨j,d,h1,h2,h3,_⟩:=bH hi;have qy:=dL h3;subst qy;split at h
    .rename_i sz _ _ z _ _ tz
     obtain⟨j',d',jF,nB,_,fb,_,_,mE,_⟩:=bH tz;simp only at mE fb;obtain⟨⟨rfl,tH,hix,kg,wX,hsm⟩,h⟩:=h;split at mE
     .rename_i zv tg
      have vG:∀ p∈(parts.map λ(i,x)=>(i,a.eval x)).toList,p.2.cells=#[p.2]/\p.2.oneCell'=true:=λp hp=>by simp only[Array.toList_map,bU] at hp;obtain⟨⟨i,x⟩,hx,rfl⟩:=hp;have h5:=kg (i,ev G s x) (bU.2 ⟨(i,x),hx,rfl⟩);have:=(xq hst x).oneCell h5;exact⟨this.2,this.1⟩
      have cj:parts.toList.length=len:=(by have:=dJ List.length hix;simpa using this);have ZL:zv.cells.size=1:=(by have:=List.mapM_eq_some_length mE.symm;rw[tH] at this;simpa using this.symm);obtain⟨cells,f1,f2,f3⟩:=EN (parts.map λ(i,x)=>(i,a.eval x)).toList ((Array.range (len*1)).map (zv.cells[· % zv.cells.size]!)) 0 (by rw[<- eO];have:((parts.map λ(i,x)=>(i,a.eval x)).toList).length=len:=(by simpa using cj);rw[this,<- hix,Array.toList_map,eW,eW];rfl) (λp hp=>(vG p hp).1) (by rw[Array.toList_map,au,cj];simp);have bM:=mF (P:=P) w T e len (parts.map λ(i,x)=>(i,a.eval x)) cells j' zv h2 jF tg (by rw[<- fb];omega) (by rw[<- fb];exact f1);have jK:cells.size=len:=(by rw[f2];simp);have D2:=hst.newBox (cur:=cells) (T:=.of e) (cs:=(parts.toList.map λ(i,x)=>(i,ev G s x)).map λp=>p.2.fz) (od:=λ_=>none) (Nat.le_of_eq (by simp;rw[jK];simpa using cj)) RT.of_ok (λq=>by
       by_cases hq:q<parts.size
       .have e1:cells.getD q undef=a.eval parts[q].2:=by rw[f3 q,if_pos (by simp;exact hq)];simp[List.getD,hq]
        have e2:(((parts.toList.map λ(i,x)=>(i,ev G s x)).map λp=>p.2.fz)).getD q .un=(ev G s parts[q].2).fz:=(by simp[List.getD,hq]);rw[e1,e2];exact xq hst _
       .have e2:(((parts.toList.map λ(i,x)=>(i,ev G s x)).map λp=>p.2.fz)).getD q .un=.un:=by simp[List.getD,bG (l:=parts.toList) (by simpa using hq)]
        rw[e2];simp only[LR];exact .un _) (λu hu=>by
       obtain⟨q,hq,rfl⟩:=fC.1 hu;have hq':q<parts.size:=(by rw[jK] at hq;rw[<- cj] at hq;simpa using hq);have e1:cells.getD q undef=a.eval parts[q].2:=(by rw[f3 q,if_pos (by simp;exact hq')];simp[List.getD,hq']);have e2:cells.getD q undef=cells[q]:=(by simp[hq]);rw[<- e2,e1];exact(vG (parts[q].1,a.eval parts[q].2) (by rw[Array.toList_map];exact bU.2 ⟨parts[q],by simp,rfl⟩)).2) (λ_ _ h=>by cases h) (λ_ _ _ h=>by cases h) (GP λd hd=>by
       obtain⟨p,hp,rfl⟩:=bU.1 hd;have:=kg p hp;cases hx:p.2.fz<;>rw[hx] at this<;>first | rfl | cases this)
      refine eE (v':=.slice (some ⟨w.heap.size,0,none⟩) len len) (w':=w.alloc (.cells cells e)) ?_ (hk _ _ _ h (SE.put D2 hd ?_))
      .obtain⟨dst,op,type,pos,after,guard⟩:=o
       simp only at cz;subst cz;simp only[execOp,aK,bM,aw,bg]
      .simp only[LR];exact⟨ab _,w.heap.size,0,_,ab _,by simp,.inr rfl,rfl⟩
     .cases mE
    .exact h.elim
   .exact h.elim
  .exact gen h
 .
  rename_i T l c cz;obtain⟨e,p,m,sz,z,cells,hK,hpm,bM,hc⟩:=IP hst h;have D2:=hst.newCells e hc;refine eE (v':=.slice (some ⟨w.heap.size,0,none⟩) p m) (w':=w.alloc (.cells cells e)) ?_ (hk _ _ _ hK (SE.put D2 hd ?_))
  .obtain⟨dst,op,type,pos,after,guard⟩:=o
   simp only at cz;subst cz;simp only[execOp,aK,bM,aw,bg]
  .simp only[LR];exact⟨hpm,w.heap.size,0,_,ab _,by simp,.inr rfl,rfl⟩
 .rename_i f args ts cz
  have hy:MB tr o.dst=false:=by unfold qt at hy;rw[cz] at hy;exact hy
  rw[hy] at h;simp only[aM,df] at h;split at h
  .exact GW cz hst hd h (λa' w' s' x hK dD=>hk _ _ _ hK dD)
  split at h
  .refine sg cz hst hd h (λa' w' s' x hK dD=>hk _ _ _ ?_ dD)
   by_cases hl:Ea tr o.dst=true
   .rw[if_pos hl] at hK;exact hK.2
   .rw[if_neg hl] at hK;exact hK
  .exact EV cz hst hd h (λa' w' x hx dD=>hk _ _ _ hx dD)
 .
  rename_i args ts cz;split at h
  .unfold xn at h
   split at h
   .rename_i t u es y qq dN
    obtain⟨htu,h⟩:=h;subst htu;obtain⟨X,Y,hX,hxe,hye⟩:∃ X Y,args.toList=[X,Y]/\V.ow none es=vw s (ev G s X)/\y=vw s (ev G s Y):=by
     cases ha:args.toList with
     |nil=>simp[ha] at dN
     |cons X l=>
      cases l with
      |nil=>simp[ha] at dN
      |cons Y l=>simp only[ha,bA,cN,eY] at dN;exact⟨X,Y,by rw[dN.2.2],dN.1.symm,dN.2.1.symm⟩
    have e1:ts=#[t,t]:=dB qq;have e2:args.map a.eval=#[a.eval X,a.eval Y]:=(by apply dB;simp[hX]);subst e1;subst hye;have hxl:LR (Wr M w0) I β w (U1 ob X) (a.eval X) (.ow none es):=(by have:=bP hst X;rw[aec hxe.symm] at this;exact this);obtain⟨e,sz,es',cells,cap,hK,bM,kX,fO,jq,kg⟩:=Eg (ty:=o.type) hst hxl h (IY hst Y);have D2:=hst.drew.newPre e (cs:=es'.flatten) fO (λq c hq=>(jq q c hq).mono λb o h=>⟨h,rfl⟩) kg;refine eE (v':=.slice (some ⟨w.heap.size,0,none⟩) es'.length cap) (w':=w.drew.alloc (.cells cells e)) ?_ (hk _ _ _ hK (SE.put D2 hd ?_))
    .obtain⟨dst,op,type,pos,after,guard⟩:=o
     simp only at cz bM;subst cz;have hb:∀ cs,builtin .append #[t,t] type cs (args.map a.eval)=(do pure (.value (<- Builtin.append_ #[t,t] type (args.map a.eval)))):=λ_=>rfl
     have:execOp a.eval { dst,op:=.call { callee:=.builtin .append,args:=args,argTypes:=#[t,t] },type,pos,after,guard }=(do pure (.value (<- Builtin.append_ #[t,t] type (args.map a.eval)))):=by simp only[execOp,resolve,invoke,pure_bind];exact hb _
     rw[this,e2];simp only[aK,bM,aw,bg]
    .simp only[LR];exact⟨ab _,w.heap.size,0,cap,kX,by simp,.inr rfl,rfl⟩
   .exact h.elim
  .split at h
   .
    obtain⟨t,u,X,Y,qq,hX⟩:∃ t u X Y,ts.toList=[t,u]/\args.toList=[X,Y]:=by
     unfold fF at h;split at h
     .rename_i t u _ _ _ _ _ _ qq dN
      cases ha:args.toList with
      |nil=>simp[ha] at dN
      |cons X l=>
       cases l with
       |nil=>simp[ha] at dN
       |cons Y l=>simp only[ha,bA,cN,eY] at dN;exact⟨t,u,X,Y,qq,by rw[dN.2.2]⟩
     .rename_i t u _ _ _ _ _ _ _ qq dN
      cases ha:args.toList with
      |nil=>simp[ha] at dN
      |cons X l=>
       cases l with
       |nil=>simp[ha] at dN
       |cons Y l=>simp only[ha,bA,cN,eY] at dN;exact⟨t,u,X,Y,qq,by rw[dN.2.2]⟩
     .exact h.elim
    have e1:ts=#[t,u]:=dB qq;have e2:args.map a.eval=#[a.eval X,a.eval Y]:=(by apply dB;simp[hX]);subst e1;rw[hX] at h;obtain⟨s',ob',w',z,v,hK,bM,cO,iD⟩:=BI (ty:=o.type) hst h (bP hst X) (bP hst Y);refine eE (v':=v) (w':=w') ?_ (hk _ _ _ hK (SE.put cO hd iD));obtain⟨dst,op,type,pos,after,guard⟩:=o;simp only at cz bM;subst cz;have hb:∀ cs,builtin .append #[t,u] type cs (args.map a.eval)=(do pure (.value (<- Builtin.append_ #[t,u] type (args.map a.eval)))):=λ_=>rfl
    have:execOp a.eval { dst,op:=.call { callee:=.builtin .append,args:=args,argTypes:=#[t,u] },type,pos,after,guard }=(do pure (.value (<- Builtin.append_ #[t,u] type (args.map a.eval)))):=by simp only[execOp,resolve,invoke,pure_bind];exact hb _
    rw[this,e2];simp only[aK,bM,aw,bg]
   .exact gen h
 .
  rename_i args ts cz;exact False.elim h
 .
  rename_i args ts cz;obtain⟨t,X,qq,hX⟩:∃ t X,ts.toList=[t]/\args.toList=[X]:=by
   unfold jv at h;split at h
   .rename_i t _ _ _ _ _ qq dN
    cases ha:args.toList with
    |nil=>simp[ha] at dN
    |cons X l=>simp only[ha,bA,cN,eY] at dN;exact⟨t,X,qq,by rw[dN.2]⟩
   .rename_i t _ _ _ _ qq dN
    cases ha:args.toList with
    |nil=>simp[ha] at dN
    |cons X l=>simp only[ha,bA,cN,eY] at dN;exact⟨t,X,qq,by rw[dN.2]⟩
   .exact h.elim
  have e1:ts=#[t]:=dB qq;have e2:args.map a.eval=#[a.eval X]:=by apply dB;simp[hX]
  subst e1;rw[hX] at h;obtain⟨s',ob',w',hK,bM,cO⟩:=GR (ty:=o.type) hst h (bP hst X);refine eE (v':=.tuple #[]) (w':=w') ?_ (hk _ _ _ hK (SE.put cO hd (x:=.un) (by simp only[LR];exact .un _)));obtain⟨dst,op,type,pos,after,guard⟩:=o;simp only at cz bM;subst cz;have hb:∀ cs,builtin .clear #[t] type cs (args.map a.eval)=(do pure (.value (<- Builtin.clear_ #[t] type (args.map a.eval)))):=λ_=>rfl
  have:execOp a.eval { dst,op:=.call { callee:=.builtin .clear,args:=args,argTypes:=#[t] },type,pos,after,guard }=(do pure (.value (<- Builtin.clear_ #[t] type (args.map a.eval)))):=by simp only[execOp,resolve,invoke,pure_bind];exact hb _
  rw[this,e2];simp only[aK,bM,aw,bg]
 .
  rename_i args ts cz;split at h
  .obtain⟨t,X,qq,hX⟩:∃ t X,ts.toList=[t]/\args.toList=[X]:=by
    unfold IF at h;split at h
    .rename_i t _ qq dN
     cases ha:args.toList with
     |nil=>simp[ha] at dN
     |cons X l=>simp only[ha,bA,cN,eY] at dN;exact⟨t,X,qq,by rw[dN.2]⟩
    .exact h.elim
   have e1:ts=#[t]:=dB qq;have e2:args.map a.eval=#[a.eval X]:=(by apply dB;simp[hX]);subst e1;rw[hX] at h;obtain⟨u,hf,hK,bM⟩:=IX (ty:=o.type) hst h (bP hst X);refine eE (v':=u) (w':=w) ?_ (hk _ _ _ hK (.fin0 hst hd (.ofLit hf)));obtain⟨dst,op,type,pos,after,guard⟩:=o;simp only at cz bM;subst cz;have hb:∀ cs,builtin .len #[t] type cs (args.map a.eval)=(do pure (.value (<- Builtin.len_ #[t] type (args.map a.eval)))):=λ_=>rfl
   have:execOp a.eval { dst,op:=.call { callee:=.builtin .len,args:=args,argTypes:=#[t] },type,pos,after,guard }=(do pure (.value (<- Builtin.len_ #[t] type (args.map a.eval)))):=by simp only[execOp,resolve,invoke,pure_bind];exact hb _
   rw[this,e2];simp only[aK,bM,aw,bg]
  .exact gen h
 .
  rename_i src dst' X cz;split at h
  .obtain⟨s',v,w',hK,u,bM,β',ob',cO,iD⟩:=GU hst hd h
   refine eE (v':=u) (w':=w') ?_ (hk _ _ _ hK (SE.put cO hd iD));obtain⟨dst,op,type,pos,after,guard⟩:=o;simp only at cz bM;subst cz;simp only[execOp,aK,bM,aw,bg]
  .exact gen h
 .
  rename_i op T X Y yT cz;split at h
  .rename_i hy
   unfold ad7 at h;have fin:∀ c:Value,Y=.const c->(∃ u,flat u=true/\K (s.after tr o (.c (.lit u)))/\(do eqGuard op T X Y (a.eval X) c;binOp op T (a.eval X) c:Sem Value).run P w=.ok u w)->o.wp P a w next Q:=by
    rintro c rfl ⟨u,hf,hz,bM⟩;refine eE (v':=u) (w':=w) ?_ (hk _ _ _ hz (.fin0 hst hd (.ofLit hf)));obtain⟨dst,op',type,pos,after,guard⟩:=o;simp only at cz;subst cz;have hx:execOp a.eval { dst,op:=.binOp op T X (.const c) yT,type,pos,after,guard }=(do pure (.value (<- (do eqGuard op T X (.const c) (a.eval X) c;binOp op T (a.eval X) c)))):=by simp only[execOp];simp[Act.eval]
    rw[hx];simp only[aK] at bM ⊢
    rw[bM];simp
   cases hp:Gm Y with
   |some fn=>
    rw[hp] at h;have hY:Y=.const (if fn then .nilFunc else .pointer none):=by
     unfold Gm at hp;split at hp
     .cases hp;rfl
     .cases hp;rfl
     .cases hp
    exact fin _ hY (IJ (K:=λv=>K (s.after tr o v)) h (bP hst X) X Y)
   |none=>
    rw[hp] at h;have hY:Y=.const (.slice none 0 0):=by
     unfold A3 at hy;rw[hp] at hy;simp only[Option.isSome_none,lg] at hy;unfold UT at hy;split at hy
     .rfl
     .cases hy
    exact fin _ hY (MI (K:=λv=>K (s.after tr o v)) h (bP hst X) X Y)
  .exact gen h
 .
  rename_i T X cz;split at h
  .obtain⟨z,u,hz,iD,bM⟩:=Gv hst h (bP hst X)
   refine eE (v':=u) (w':=w) ?_ (hk _ _ _ hz (SE.put hst hd iD));obtain⟨dst,op',type,pos,after,guard⟩:=o;simp only at cz;subst cz;simp only[execOp,aK,bM,aw,bg]
  .exact gen h.2
 .
  rename_i T parts cz;split at h
  .obtain⟨z,u,hz,iD,bM⟩:=Ec hst h
   refine eE (v':=u) (w':=w) ?_ (hk _ _ _ hz (SE.put hst hd iD));obtain⟨dst,op',type,pos,after,guard⟩:=o;simp only at cz;subst cz;simp only[execOp,aK,bM,aw,bg]
  .exact gen h
 .
  rename_i T cz;split at h
  .have D2:=hst.newMap
   refine eE (v':=.map (some w.heap.size)) (w':=w.alloc (.map #[] 0)) ?_ (hk _ _ _ h (SE.put D2 hd ?_))
   .obtain⟨dst,op',type,pos,after,guard⟩:=o
    simp only at cz;subst cz;simp[execOp,Instr.makeMap]
   .simp only[LR];exact⟨w.heap.size,by simp,rfl⟩
  .exact h.elim
 .
  rename_i T m k X cz;obtain⟨s',ob',w',hK,bM,cO⟩:=vO hst h (bP hst m) (bP hst k) (bP hst X);unfold Oper.wp;obtain⟨dst,op',type,pos,after,guard⟩:=o;simp only at cz;subst cz;simp only[execOp,aK,bM,aw,bg,Oper.upon];exact hk _ _ _ hK (SE.put (v:=undef) (x:=.sk) cO hd (by simp only[LR];exact .sk))
 .
  rename_i T m k cz;obtain⟨s',ob',w',z,u,hK,bM,cO,iD⟩:=AE hst h (bP hst m) (bP hst k);refine eE (v':=u) (w':=w') ?_ (hk _ _ _ hK (SE.put cO hd iD));obtain⟨dst,op',type,pos,after,guard⟩:=o;simp only at cz;subst cz;simp only[execOp,aK,bM,aw,bg]
 .
  rename_i T m k X cz;obtain⟨s',ob',w',hK,bM,cO⟩:=AG (P:=P) (T:=T) hst h (bP hst m) (bP hst k) (bP hst X);unfold Oper.wp;obtain⟨dst,op',type,pos,after,guard⟩:=o;simp only at cz;subst cz;simp only[execOp,aK,bM,aw,bg,Oper.upon];exact hk _ _ _ hK (SE.put (v:=undef) (x:=.sk) cO hd (by simp only[LR];exact .sk))
 .
  rename_i t cz;obtain⟨it,z,u,w',hK,bM,dD⟩:=IZ (P:=P) (ty:=o.type) hst hd h;refine eE (v':=u) (w':=w') ?_ (hk _ _ _ hK dD);obtain⟨dst,op',type,pos,after,guard⟩:=o;simp only at cz;subst cz;simp only[execOp,Act.eval,aK,bM,aw,bg]
 .
  rename_i T m k X cz;obtain⟨s',ob',w',hK,bM,cO⟩:=vO hst h (bP hst m) (bP hst k) (bP hst X);unfold Oper.wp;obtain⟨dst,op',type,pos,after,guard⟩:=o;simp only at cz;subst cz;simp only[execOp,aK,bM,aw,bg,Oper.upon];exact hk _ _ _ hK (SE.put (v:=undef) (x:=.sk) cO hd (by simp only[LR];exact .sk))
 .exact gen h
theorem xC (hst:St G n I0 M w0 I β ob s a w) {ops:Array Oper} {j d:Nat} (hd:(ops[j]?).bind (·.dst)=some d) {p:Bool} (h:s.fr d=.c (.lit (.bool p))):yielded ops a.tmps j=some p:=by
 have:=hst.fr d;rw[h] at this;have hv:=this.lit;unfold yielded;rw[hd];simp only[jr];rw[ak] at hv;cases hx:a.tmps[d]? with
 |none=>rw[hx] at hv;cases hv
 |some u=>rw[hx] at hv;simp only[cV] at hv;rw[hv]
theorem BN (hst:St G n I0 M w0 I β ob s a w) {ops:Array Oper} {j d:Nat} (hd:(ops[j]?).bind (·.dst)=some d) (h:s.fr d=.sk):yielded ops a.tmps j=none:=by
 have:=hst.fr d;rw[h] at this;have hv:a.tmps.getD d undef=undef:=by simp only[LR] at this;generalize a.tmps.getD d undef=u at this;cases this;rfl
 unfold yielded;rw[hd];simp only[jr];rw[ak] at hv;cases hx:a.tmps[d]? with
 |none=>rfl
 |some u=>rw[hx] at hv;simp only[cV] at hv;rw[hv];rfl
theorem S.up_id {d:Nat} {x:V} (h:s.fr d=x):{ s with fr:=up s.fr d x }=s:=by rw[<- h,rZ]
theorem nj {ops:Array Oper} {yes no:S->Prop} (hst:St G n I0 M w0 I β ob s a w) (h:nM ops o s yes no) :
 (Region.wanted o (yielded ops a.tmps)=true/\yes s)∨(Region.wanted o (yielded ops a.tmps)=false/\no s):=by
 unfold nM at h;unfold Region.wanted;split at h
 .rename_i hg
  rw[hg];exact .inl ⟨rfl,h⟩
 .rename_i j want hg
  rw[hg];split at h
  .rename_i d hd
   split at h
   .rename_i p hp
    simp only[xC hst hd hp];by_cases hpw:p=want
    .subst hpw
     have:=h.1 rfl;rw[S.up_id hp] at this;exact .inl ⟨by simp,this⟩
    .have hpn:p=!want:=by cases p<;>cases want<;>simp_all
     have:=h.2 hpn;rw[<- hpn,S.up_id hp] at this;exact .inr ⟨by simpa using hpw,this⟩
   .rename_i hp
    simp only[BN hst hd hp];exact .inr ⟨rfl,h⟩
   .exact h.elim
  .exact h.elim
def mR (n:Nat) (ops:Array Oper):Bool:=ops.toList.all λo=>match o.dst with | some d=>decide (d<n) | none=>true
theorem fa {ops:Array Oper} (h:mR n ops=true) {o:Oper} (ho:o∈ops.toList):∀ d,o.dst=some d->d<n:=λd hd=>by have:=aY.1 h o ho;rw[hd] at this;simpa using this
theorem Vh {l:Option Nat} {m:Nat} (hst:St G n I0 M w0 I β ob s a w) (hd:∀ d,o.dst=some d->d<n) (qp:∀ c,o.op≠.defer c) {i blk:Nat} {vs:List Value} {all:List V} {ρ:List Nat} {cargs:List V} {b0:List (List V)} {R:V->List (List V)->Prop}
 (eH:YE P G cargs b0 R) (dN:ArgsL (Wr M w0) I β w vs all) (eF:all.map V.fz=cargs.map (V.ren (rho ρ s.nb))) (hρ:ρ.length=b0.length/\ρ.Nodup) (jg:qV s.bx s.nb (rho ρ s.nb) 0 b0)
 (hhd:ρ.head?=some i) (zF:β i=some blk)
 (bM:(execOp a.eval o).run P w=(Instr.yield blk vs.toArray).run P w)
 (hk:∀ r b1,R r b1->∀ a' w',SE G n I0 M w0 (({ s with bx:=fQ (rho ρ s.nb) 0 b1 s.bx,nb:=s.nb+(b1.length - b0.length) }:S).put o.dst (r.ren (rho ρ s.nb))) a' w'->next a' w'):o.wpIn (FW l) m P a w next Q:=by
 obtain⟨hρl,hn⟩:=hρ;obtain⟨rm,yG,ko⟩:=eH.1;have hl:∀ i,i<ρ.length->ρ.getD i 0<s.nb:=λi hi=>by obtain⟨b,hb⟩:∃ b,b0[i]?=some b:=⟨_,ai (by omega)⟩;have:=(pK b0 0 i b jg hb).1;rw[aF] at this;simpa[rho,hi] using this
 have qn:=xz hn hl;have cj:all.length=cargs.length:=by simpa using dJ List.length eF
 have wX:0<ρ.length:=by cases ρ with | nil=>cases hhd | cons x r=>simp
 have hr0:rho ρ s.nb 0=i:=by
  unfold rho;rw[if_pos wX];cases ρ with
  |nil=>cases hhd
  |cons x r=>simpa using hhd
 obtain⟨fn,tmps,assign,body,hyr,aix⟩:=eH.2 I ⟨Mof β ob (rho ρ s.nb) b0.length,λ_=>none,[]⟩ w vs.toArray (lZ β (rho ρ s.nb) b0.length) (obC ob (rho ρ s.nb) b0.length) blk hst.ibnd hst.glob (hst.give qn jg yG)
  (by unfold lZ;rw[if_pos (by omega),hr0];exact zF) (by have:=dN.1;simp;omega) (λj x hx=>by
   have hj:j<cargs.length:=(aj.1 hx).1;have hz:all[j]?=some all[j]:=ai (by omega);have h1:=dN.2 j _ hz;have h2:all[j].fz=x.ren (rho ρ s.nb):=(by have e1:(all.map V.fz)[j]?=some all[j].fz:=(by simp[hz]);have e2:(cargs.map (V.ren (rho ρ s.nb)))[j]?=some (x.ren (rho ρ s.nb)):=(by simp[hx]);rw[eF,e2] at e1;exact(eI e1).symm);rw[h2] at h1;have h3:=h1.ren (β':=lZ β (rho ρ s.nb) b0.length) (rm x (aS hx)) (λi b hi hb=>by simp[lZ,hi,hb]);have h4:=h3.wider (base':=Wr ⟨Mof β ob (rho ρ s.nb) b0.length,λ_=>none,[]⟩ w) λb hb=>by cases hb
   simpa using h4)
 refine⟨λ_ _=>trivial,?_⟩;rw[Oper.semAt_eq _ _ _ qp,bM,hyr];refine⟨λh=>(by cases h),RoundIn.mono (MP aix) ?_⟩;rintro e w' ⟨r,b1,hR,v,I',β',ob',o',rfl,uI,Uu,Qw,vY,ZS,UL,oJ,iD,sO⟩;simp only;obtain⟨cO,gx,zG,gy,D2,_⟩:=hst.called hρl hn jg (ko r b1 hR) uI Uu Qw vY ZS UL oJ;refine hk r b1 hR _ _ ?_;have ZP:LR (Wr M w0) I' (pL β β' ρ s.nb) w' o' v (r.ren (rho ρ s.nb)):=(iD.toRen gx).wider λb hb=>zG b (sO b hb).1.2;cases lP:o.dst with
 |none=>exact⟨_,_,_,cO⟩
 |some d=>
  refine⟨_,_,_,cO.put d (hd d lP) ZP λb hb=>?_⟩;obtain⟨⟨h1,h2⟩,h3,h4⟩:=sO b hb;refine⟨⟨h1,zG b h2⟩,λL hL=>?_,D2 b h2 h4⟩;simp only[upL] at hL;split at hL
  .cases hL
  .exact gy b h2 h3 L hL
theorem QW {f:Operand} {args:Array Operand} {ts:Array TypeId} {blk:Nat} (ho:o.op=.call { callee:=.value f,args:=args,argTypes:=ts }) (hf:a.eval f=.func (.yield blk) #[] #[]) :
 (execOp a.eval o).run P w=(Instr.yield blk (args.toList.map a.eval).toArray).run P w:=by
 unfold execOp;have e:(args.toList.map a.eval).toArray=args.map a.eval:=by apply dB;simp
 rw[e];simp only[ho,resolve,Deferred.ofValue,hf,aK,bg,aw,invoke];simp
theorem GX {l:Option Nat} {m:Nat} {K:S->V->Prop} {f:Operand} {args:Array Operand} {ts:Array TypeId} (ho:o.op=.call { callee:=.value f,args:=args,argTypes:=ts }) (hst:St G n I0 M w0 I β ob s a w)
 (hd:∀ d,o.dst=some d->d<n) (h:v8 P G s (ev G s f) (args.toList.map (ev G s)) K) (hk:∀ a' w' s' x,K s' x->SE G n I0 M w0 (s'.put o.dst x) a' w'->next a' w'):o.wpIn (FW l) m P a w next Q:=by
 have hf:=bP hst f;unfold v8 at h;split at h
 .rename_i i he
  obtain⟨ρ,cargs,b0,R,eH,eF,⟨hρ1,hρ2,hρ3⟩,jg,hK⟩:=h;rw[he] at hf;simp only[LR] at hf;obtain⟨blk,hb,hv⟩:=hf;exact Vh hst hd (λc hc=>by rw[ho] at hc;cases hc) eH (uN hst _) eF ⟨hρ1,hρ2⟩ jg hρ3 hb (QW ho hv) (λr b1 hR a' w'=>hk a' w' _ _ (hK r b1 hR))
 .exact h.elim
theorem Vi {K:S->Prop} (h:VStep P G tr o s K):∀ c,o.op≠.defer c:=λc hc=>by unfold VStep VYK at h;rw[hc] at h;exact h
theorem qX {l:Option Nat} {m:Nat} {K:S->Prop} (hst:St G n I0 M w0 I β ob s a w) (hd:∀ d,o.dst=some d->d<n) (h:VStep P G tr o s K)
 (hk:∀ a' w' s',K s'->SE G n I0 M w0 s' a' w'->next a' w'):o.wpIn (FW l) m P a w next Q:=by
 cases hy:qt tr o with
 |false=>exact wm (Vi h) (qD (tr:=tr) hst hd hy h hk)
 |true=>
  unfold qt at hy;split at hy
  .rename_i f args ts cz
   unfold VStep at h;rw[cz] at h;simp only[hy,cZ] at h;exact GX cz hst hd h λa' w' s' x hK dD=>hk _ _ _ hK dD
  .cases hy
theorem wo {l:Option Nat} {m:Nat} {ops:Array Oper} (eH:mR n ops=true) {K:S->Prop} (hK:∀ a w s,K s->SE G n I0 M w0 s a w->Q .normal a w):∀ (ls:List Oper) (k:Nat),ops.toList.drop k=ls->∀ (s:S) (a:Act) (w:World),
 ib P G tr ops ls s K->SE G n I0 M w0 s a w->wpOpsIn (FW l) m P ops Q (List.range' k ls.length) a w
 |[],k,_,s,a,w,h,dD=>by simp only[aG,List.range'_zero,wpOpsIn];exact hK _ _ _ h dD
 |o::ls,k,hl,s,a,w,h,dD=>by
  have qk:ops[k]?=some o:=by have:(ops.toList.drop k)[0]?=some o:=(by rw[hl];rfl);rw[cK] at this;simpa using this
  have OM:ops.toList.drop (k+1)=ls:=by rw[<- fG,hl];rfl
  have jG:o∈ops.toList:=cQ (i:=k) (by rw[hl];simp);obtain⟨I,β,ob,hst⟩:=dD;simp only[aC,iu,wpOpsIn,qk];simp only[ib] at h;rcases nj hst h with⟨hw,h⟩ | ⟨hw,h⟩
  .rw[if_pos hw]
   refine qX (tr:=tr) hst (fa eH jG) h λa' w' s' Is tB=>?_;exact wo eH hK ls (k+1) OM s' a' w' Is tB
  .rw[hw]
   simp only[aM,df];exact⟨λ_ _=>trivial,wo eH hK ls (k+1) OM _ _ w h (SE.put hst (fa eH jG) (by simp only[LR];exact .sk))⟩
theorem PR.ltP {β':Nat->Option Nat} {m:Nat} (h:PR I β w v x) (hx:x.ltP m) (hβ:∀ i,i<m->β' i=β i):PR I β' w v x:=by
 cases x<;>simp only[V.ltP] at hx<;>simp only[PR] at h ⊢<;>try exact h
 .obtain⟨blk,h1,h2⟩:=h;exact⟨blk,by rw[hβ _ hx];exact h1,h2⟩
 .obtain⟨h0,blk,o',c',EA,h1,h2⟩:=h;exact⟨h0,blk,o',c',EA,by rw[hβ _ hx];exact h1,h2⟩
 .obtain⟨blk,h1,h2⟩:=h;exact⟨blk,by rw[hβ _ hx];exact h1,h2⟩
 .obtain⟨blk,h1,h2⟩:=h;exact⟨blk,by rw[hβ _ hx];exact h1,h2⟩
 .obtain⟨blk,h1,h2⟩:=h;exact⟨blk,by rw[hβ _ hx];exact h1,h2⟩
theorem KR.ltP {β':Nat->Option Nat} {m:Nat} (h:KR I β w v x) (hx:x.ltP m) (hβ:∀ i,i<m->β' i=β i):KR I β' w v x:=by
 rcases h with h | h | h
 .exact .inl h
 .exact .inr (.inl h)
 .exact .inr (.inr (h.ltP hx hβ))
theorem LR.lt {β':Nat->Option Nat} {m:Nat} {ox:Option Nat} (h:LR base I β w ox v x) (hx:x.lt m) (hβ:∀ i,i<m->β' i=β i):LR base I β' w ox v x:=by
 cases x<;>simp only[V.lt] at hx<;>simp only[LR] at h ⊢<;>try exact h
 .obtain⟨blk,h1,h2⟩:=h;exact⟨blk,by rw[hβ _ hx];exact h1,h2⟩
 .obtain⟨vf,vc,h1,h2,h3,h4,h5⟩:=h
  exact⟨vf,vc,h1,h2,h3,λj x hj=>(h4 j x hj).ltP (hx.1 x (aS hj)) hβ,λj x hj=>(h5 j x hj).ltP (hx.2 x (aS hj)) hβ⟩
 .obtain⟨h0,blk,o',c',EA,h1,h2⟩:=h;exact⟨h0,blk,o',c',EA,by rw[hβ _ hx];exact h1,h2⟩
 .obtain⟨cs,h1,h2,h3⟩:=h
  exact⟨cs,h1,h2,λj x hj=>(h3 j x hj).ltP (hx x (aS hj)) hβ⟩
 .obtain⟨blk,h1,h2⟩:=h;exact⟨blk,by rw[hβ _ hx];exact h1,h2⟩
 .obtain⟨blk,m,h1,h2,h3,h4⟩:=h;exact⟨blk,m,h1,h2,by rw[hβ _ hx];exact h3,h4⟩
 .obtain⟨blk,h1,h2⟩:=h;exact⟨blk,by rw[hβ _ hx];exact h1,h2⟩
 .obtain⟨tm,h1,h2⟩:=h
  exact⟨tm,h1,λt y hy=>(h2 t y hy).ltP (hx _ hy) hβ⟩
 .obtain⟨blk,h1,h2⟩:=h;exact⟨blk,by rw[hβ _ hx];exact h1,h2⟩
theorem SE.weaken {s':S} {k:Nat} (h:SE G n I0 M w0 s a w) (w9:∀ i b,M.e i=some b->i<k) (ko:S.Le k s' s):SE G n I0 M w0 s' a w:=by
 obtain⟨I,β,ob,h⟩:=h;have hβ:∀ i b,(if i<s'.nb then β i else none)=some b->β i=some b:=λi b hb=>by split at hb;exact hb;cases hb
 let ob':Loc->Option Nat:=λL=>match L with
  | .t i=>if(s'.fr i).isOw then ob (.t i) else none
  | .b i j=>if i<s'.nb then ob (.b i j) else none
 have kb:∀ L b,ob' L=some b->ob L=some b:=λL b hL=>by
  cases L with
  |t i=>simp only[ob'] at hL;split at hL;exact hL;cases hL
  |b i j=>simp only[ob'] at hL;split at hL;exact hL;cases hL
 refine⟨I,λi=>if i<s'.nb then β i else none,ob',{
  size:=h.size,defers:=h.defers,below:=h.below,kept:=h.kept,ilow:=h.ilow,ihigh:=h.ihigh,ibnd:=h.ibnd
  fr:=λt=>?_
  bx:=λi hi=>?_
  bnone:=λi hi=>by rw[if_neg (by omega)]
  ext:=λi b he=>by rw[if_pos (cu (w9 i b he) ko.ext)];exact h.ext i b he
  bnew:=λi b hi=>h.bnew i b (hβ i b hi)
  binj:=λi j b hi hj=>h.binj i j b (hβ _ _ hi) (hβ _ _ hj)
  oinj:=λL L' b hL yH=>h.oinj L L' b (kb _ _ hL) (kb _ _ yH)
  obx:=λL b i hL hi=>h.obx L b i (kb _ _ hL) (hβ _ _ hi)
  obnd:=λL b hL=>h.obnd L b (kb _ _ hL)
  glob:=h.glob }⟩
 .rcases ko.fr t with e | e
  .rw[e];simp only[LR];exact .un _
  .have:=h.fr t
   rw[<- e] at this;have h2:LR (Wr M w0) I β w (ob' (.t t)) (a.tmps.getD t undef) (s'.fr t):=by
    simp only[ob'];by_cases ho:(s'.fr t).isOw=true
    .rw[if_pos ho];exact this
    .rw[if_neg ho];exact this.other (by simpa using ho)
   exact h2.lt (ko.lt t) (λi hi=>by rw[if_pos hi])
 .obtain⟨blk,cur,e1,e2,e3,e4,e5,e7⟩:=h.bx i (cu hi ko.nb)
  refine⟨blk,cur,by rw[if_pos hi];exact e1,e2,by rw[ko.bx i hi];exact e3,by rw[ko.bx i hi];exact e4,λj=>?_,e7⟩;have:=e5 j;rw[<- ko.bx i hi] at this;have bE:((s'.bx i).getD j .un).lt s'.nb:=by
   by_cases hj:j<(s'.bx i).length
   .have:(s'.bx i).getD j .un=(s'.bx i)[j]:=by simp[List.getD,hj]
    rw[this];exact ko.blt i hi _ (bR hj)
   .have:(s'.bx i).getD j .un=.un:=by simp[List.getD,bG (ec hj)]
    rw[this];exact trivial
  have h2:=this.lt (β':=λi=>if i<s'.nb then β i else none) bE (λi hi=>by rw[if_pos hi])
  simpa only[ob',if_pos hi] using h2
theorem aat {s:S} {m:Nat} {l l':List V} (h:l'.getD 0 .un=l.getD 0 .un∨FzV s m (l'.getD 0 .un) (l.getD 0 .un)):qU l'=qU l:=by
 unfold qU;rcases h with h | ⟨i,off,len,cap,sz,c,h1,_,_,h2⟩
 .rw[h]
 .rw[h1,h2]
theorem SE.freeze {s':S} {k:Nat} (h:SE G n I0 M w0 s a w) (w9:∀ i b,M.e i=some b->i<k) (ko:S.Fz k s' s):SE G n I0 M w0 s' a w:=by
 obtain⟨I,β,ob,h⟩:=h;have hβ:∀ i b,(if i<s'.nb then β i else none)=some b->β i=some b:=λi b hb=>by split at hb;exact hb;cases hb
 let ob':Loc->Option Nat:=λL=>match L with
  | .t i=>if(s'.fr i).isOw then ob (.t i) else none
  | .b i j=>if i<s'.nb then ob (.b i j) else none
 have kb:∀ L b,ob' L=some b->ob L=some b:=λL b hL=>by
  cases L with
  |t i=>simp only[ob'] at hL;split at hL;exact hL;cases hL
  |b i j=>simp only[ob'] at hL;split at hL;exact hL;cases hL
 let I':Ft:=λb o=>I b o∨∃ i,s'.nb<=i/\i<s.nb/\β i=some b
 have hII:∀ b o,I b o->I' b o:=λ_ _ h=>.inl h;have kE:∀ (v:Value) (x:V) (o:Option Nat),(∀ b,o=some b->∃ L,ob L=some b)->LR (Wr M w0) I β w o v x->LR (Wr M w0) I' β w o v x:=λv x o ho hx=>
  hx.mono (λb o hb=>⟨.inl hb,rfl⟩) (λ_ _ e=>e) (λb hb=>⟨rfl,λo hI=>by
   rcases hI with hI | ⟨i,_,_,hi⟩
   .exact hI
   .obtain⟨L,hL⟩:=ho b hb
    exact absurd hi (h.obx L b i hL)⟩)
 have aeS:∀ (v:Value) (x y:V) (o:Option Nat),LR (Wr M w0) I β w o v y->FzV s s'.nb x y->∃ c,x=.c c/\CR I' w v c:=λv x y o hy hf=>by
  obtain⟨i,off,len,cap,sz,c,rfl,hi,hv,rfl⟩:=hf;simp only[LR] at hy;refine⟨c,rfl,GB h hv hy hII (λb o hb=>?_)⟩;have qo:i<s.nb:=by
   unfold nF AA at hv;split at hv
   .rename_i hc
    split at hc
    .assumption
    .cases hc
   .cases hv
  exact .inr ⟨i,hi,qo,hb⟩
 refine⟨I',λi=>if i<s'.nb then β i else none,ob',{
  size:=h.size,defers:=h.defers,below:=h.below,ilow:=λb o hb=>.inl (h.ilow b o hb),kept:=h.kept
  ihigh:=λb o hb=>by
   rcases hb with hb | ⟨i,_,hi,hb⟩
   .exact h.ihigh b o hb
   .obtain⟨blk,cur,e1,e2,e3,_⟩:=h.bx i hi
    rw[hb] at e1;cases e1;exact .inr e2
  ibnd:=λb o hb=>by
   rcases hb with hb | ⟨i,_,hi,hb⟩
   .exact h.ibnd b o hb
   .obtain⟨blk,cur,e1,e2,e3,_⟩:=h.bx i hi
    rw[hb] at e1;cases e1;exact e3.lt
  fr:=λt=>?_
  bx:=λi hi=>?_
  bnone:=λi hi=>by rw[if_neg (by omega)]
  ext:=λi b he=>by rw[if_pos (cu (w9 i b he) ko.ext)];exact h.ext i b he
  bnew:=λi b hi=>h.bnew i b (hβ i b hi)
  binj:=λi j b hi hj=>h.binj i j b (hβ _ _ hi) (hβ _ _ hj)
  oinj:=λL L' b hL yH=>h.oinj L L' b (kb _ _ hL) (kb _ _ yH)
  obx:=λL b i hL hi=>h.obx L b i (kb _ _ hL) (hβ _ _ hi)
  obnd:=λL b hL=>h.obnd L b (kb _ _ hL)
  glob:=λg cs hg=>(h.glob g cs hg).mono λb o hb=>⟨.inl hb,rfl⟩ }⟩
 .rcases ko.fr t with e | e | e
  .rw[e];simp only[LR];exact .un _
  .have:=kE _ _ _ (λb hb=>⟨_,hb⟩) (h.fr t)
   rw[<- e] at this;have h2:LR (Wr M w0) I' β w (ob' (.t t)) (a.tmps.getD t undef) (s'.fr t):=by
    simp only[ob'];by_cases ho:(s'.fr t).isOw=true
    .rw[if_pos ho];exact this
    .rw[if_neg ho];exact this.other (by simpa using ho)
   exact h2.lt (ko.lt t) (λi hi=>by rw[if_pos hi])
  .obtain⟨c,hc,jq⟩:=aeS _ _ _ _ (h.fr t) e
   rw[hc];exact .ofC jq
 .obtain⟨blk,cur,e1,e2,e3,e4,e5,e7⟩:=h.bx i (cu hi ko.nb)
  refine⟨blk,cur,by rw[if_pos hi];exact e1,e2,e3.congr (ko.bl i hi) (aat (ko.bx i hi 0)),by rw[ko.bl i hi];exact e4,λj=>?_,λo ho=>?_⟩
  .rcases ko.bx i hi j with e | e
   .have:=kE _ _ _ (λb hb=>⟨_,hb⟩) (e5 j)
    rw[<- e] at this;have bE:((s'.bx i).getD j .un).lt s'.nb:=by
     by_cases hj:j<(s'.bx i).length
     .have:(s'.bx i).getD j .un=(s'.bx i)[j]:=by simp[List.getD,hj]
      rw[this];exact ko.blt i hi _ (bR hj)
     .have:(s'.bx i).getD j .un=.un:=by simp[List.getD,bG (ec hj)]
      rw[this];exact trivial
    have h2:=this.lt (β':=λi=>if i<s'.nb then β i else none) bE (λi hi=>by rw[if_pos hi])
    simpa only[ob',if_pos hi] using h2
   .obtain⟨c,hc,jq⟩:=aeS _ _ _ _ (e5 j) e
    rw[hc];exact .ofC jq
  .rcases ho with ho | ⟨i',sQ,_,hb⟩
   .exact e7 o ho
   .have:=h.binj i i' blk e1 hb
    omega
