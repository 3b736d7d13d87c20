/- Values without memory: boxes: variables that lie in memory. -/
import Derived.Test.YtloppcgcepgbnaaGreatDoorVlSound10
import Derived.Maps.RangeRun
import Derived.OrdersIn
import Derived.LoopNIn
import Derived.RangeFuncLeaves
import Derived.LoopN
set_option linter.all false
namespace Go.Vl
open Go Go.RowKit
section
variable {P:Program} {G:Gl} {tr:List Nat} {n:Nat} {I0:Ft} {M:Mx} {w0:World} {I:Ft} {β:Nat->Option Nat} {ob:Loc->Option Nat} {s:S} {a:Act} {w:World} {o:Oper}
 {next:Act->World->Prop} {Q:Exit->Act->World->Prop} {base:Nat->Prop} {v:Value} {x y:V}
theorem PR.oneCell {c:V} (h:PR I β w v c):v.oneCell'=true:=by
 cases c<;>simp only[PR] at h
 .exact h.oneCell
 .exact h.2.1.oneCell
 .obtain⟨_,_,rfl⟩:=h;rfl
 .obtain⟨_,_,_,_,_,_,_,rfl⟩:=h;rfl
 .obtain⟨_,_,rfl⟩:=h;rfl
 .obtain⟨_,_,rfl⟩:=h;rfl
 .obtain⟨_,_,rfl⟩:=h;rfl
theorem LR.oneCell {c:V} {ox:Option Nat} (h:LR base I β w ox v c) (hc:c.one=true):v.oneCell'=true/\v.cells=#[v]:=by
 cases c<;>simp only[V.one] at hc<;>try cases hc
 .exact⟨h.toC.oneCell,h.toC.notAgg⟩
 .exact⟨h.1.oneCell,h.1.notAgg⟩
 .obtain⟨_,_,rfl⟩:=h;exact⟨rfl,rfl⟩
 .obtain⟨_,_,rfl,_⟩:=h;exact⟨rfl,rfl⟩
 .obtain⟨_,_,_,_,_,_,_,rfl⟩:=h;exact⟨rfl,rfl⟩
 .obtain⟨_,_,rfl⟩:=h;exact⟨rfl,rfl⟩
 .obtain⟨_,_,rfl⟩:=h;exact⟨rfl,rfl⟩
 .obtain⟨_,_,_,_,_,_,_,_,rfl,_⟩:=h;exact⟨rfl,rfl⟩
theorem LR.gs_one {ox:Option Nat} {g:Option Value} {E:Option (TypeId×Nat)} {es:List (List C)} (h:LR base I β w ox v (.gs g E es)):v.oneCell'=true/\v.cells=#[v]:=by
 rcases h.gsO.2 with⟨_,_,_,_,rfl⟩ | ⟨_,_,_,_,_,_,_,rfl,_⟩<;>exact⟨rfl,rfl⟩
theorem ET {ox:Option Nat} (h:LR base I β w ox v x) {ds:List V} (hx:x.bcells=some ds):v.cells.size=ds.length/\
 (∀ j,LR base I β w (if j=0/\x.isOw=true then ox else none) (v.cells.getD j undef) (ds.getD j .un))/\(∀ u∈v.cells,u.oneCell'=true):=by
 have one:∀ c:V,c.one=true->x=c->ds=[c]->v.cells.size=ds.length/\
  (∀ j,LR base I β w (if j=0/\x.isOw=true then ox else none) (v.cells.getD j undef) (ds.getD j .un))/\(∀ u∈v.cells,u.oneCell'=true):=by
  rintro c hc rfl rfl;obtain⟨h1,h2⟩:=h.oneCell hc;rw[h2];refine⟨rfl,λj=>?_,by simpa using h1⟩;cases j with
  |zero=>
   show LR base I β w _ v x;by_cases ho:x.isOw=true
   .rw[if_pos ⟨rfl,ho⟩];exact h
   .rw[if_neg (by simp[ho])];exact h.other (by simpa using ho)
  |succ j=>simp only[fx,List.getD_nil,LR];exact .un _
 cases x<;>simp only[V.bcells] at hx<;>try cases hx
 .exact one (.c _) rfl rfl rfl
 .rename_i cs
  obtain⟨vs,rfl,h1,h2⟩:=h.agg;refine⟨by simpa[Value.cells] using h1,λj=>?_,λu hu=>?_⟩
  .rw[if_neg (by simp[V.isOw])]
   simp only[Value.cells];by_cases hj:j<cs.length
   .have:((cs.map V.c).getD j .un)=.c cs[j]:=by simp[List.getD,hj]
    rw[this];exact .ofC (h2 j _ (ah hj))
   .have:((cs.map V.c).getD j .un)=.un:=by simp[List.getD,bG (ep hj)]
    rw[this];simp only[LR];exact .un _
  .obtain⟨j,hj,rfl⟩:=fB.1 hu
   simp only[Value.cells] at hj;have:=(h2 j _ (ah (by omega))).oneCell;simpa[Value.cells,ax hj,hj] using this
 .exact one (.ow _ _) rfl rfl rfl
 .exact one (.bp _ _) rfl rfl rfl
 .exact one (.clo _ _ _) rfl rfl rfl
 .exact one (.ms _ _ _ _ _) rfl rfl rfl
 .simp only[LR] at h
  obtain⟨cells,rfl,h1,h2⟩:=h;refine⟨by simpa[Value.cells] using h1,λj=>?_,λu hu=>?_⟩
  .rw[if_neg (by simp[V.isOw])]
   simp only[Value.cells];by_cases hj:j<ds.length
   .have:(ds.getD j .un)=ds[j]:=by simp[List.getD,hj]
    rw[this];exact(h2 j _ (ah hj)).toLR
   .have:(ds.getD j .un)=.un:=by simp[List.getD,bG (ep hj)]
    rw[this];simp only[LR];exact .un _
  .obtain⟨j,hj,rfl⟩:=fB.1 hu
   simp only[Value.cells] at hj;have:=(h2 j _ (ah (by omega))).oneCell;simpa[Value.cells,ax hj,hj] using this
 .exact one (.mr _) rfl rfl rfl
 .exact one (.yl _) rfl rfl rfl
 .exact one (.hh _ _ _) rfl rfl rfl
 .obtain⟨h1,h2⟩:=h.gs_one
  rw[h2];refine⟨rfl,λj=>?_,by simpa using h1⟩;cases j with
  |zero=>rw[if_pos ⟨rfl,rfl⟩];exact h
  |succ j=>simp only[fx,List.getD_nil,LR];exact .un _
 .have hb:=h
  simp only[LR] at hb;obtain⟨blk,e1,rfl⟩:=hb;refine⟨rfl,λj=>?_,by simp[Value.cells,Value.oneCell']⟩;cases j with
  |zero=>rw[if_neg (by simp[V.isOw])];exact h.other rfl
  |succ j=>simp only[fx,List.getD_nil,LR];exact .un _
theorem EU {ox:Option Nat} (h:LR base I β w ox v x) {ds:List V} (hx:x.bcells=some ds):∀ d∈ds,d.isMk=false:=by
 cases x<;>simp only[V.bcells] at hx<;>try cases hx
 .simp[V.isMk]
 .simp[V.isMk]
 .simp[V.isMk]
 .simp[V.isMk]
 .simp[V.isMk]
 .simp[V.isMk]
 .simp only[LR] at h
  obtain⟨cells,rfl,h1,h2⟩:=h;intro d hd;obtain⟨j,hj,rfl⟩:=gR hd;have:=h2 j _ (ah hj);cases hc:ds[j]<;>first | rfl | (rw[hc] at this;exact this.elim)
 .simp[V.isMk]
 .simp[V.isMk]
 .simp[V.isMk]
 .simp[V.isMk]
 .simp[V.isMk]
theorem G0 {l:List V} (h:∀ d∈l,d.isMk=false):ck l=false:=by
 cases l with
 |nil=>rfl
 |cons x l=>exact h x (by simp)
theorem Rr {l ds:List V} {k:Nat} (h:ck l=false) (h2:∀ d∈ds,d.isMk=false) (hk:k<=l.length):ck (eQ l k ds)=false:=by
 unfold ck eQ at *;cases k with
 |succ k=>cases l with
  |nil=>simp at hk
  |cons x l=>simpa using h
 |zero=>cases ds with
  |nil=>simpa using h
  |cons d ds=>exact h2 d (by simp)
theorem St.newBox (h:St G n I0 M w0 I β ob s a w) {cur:Array Value} {T:RT} {cs:List V} {od:Nat->Option Nat} (fK:cs.length<=cur.size) (hT:T.ok cur.size)
 (hc:∀ j,LR (Wr M w0) I β w (od j) (cur.getD j undef) (cs.getD j .un)) (h1:∀ u∈cur,u.oneCell'=true)
 (MA:∀ j b,od j=some b->(b<w.heap.size/\Wr M w0 b)/\(∀ L,ob L≠some b)/\∀ i,β i≠some b) (qy:∀ j j' b,od j=some b->od j'=some b->j=j') (ly:ck cs=false) :
 St G n I0 M w0 I (up β s.nb (some w.heap.size)) (λL=>match L with | .b i j=>if i=s.nb then od j else ob (.b i j) | L=>ob L)
  { s with bx:=up s.bx s.nb cs,nb:=s.nb+1 } a (w.alloc (.cells cur T.t T.fz)):=by
 have hs:=h.allocOwn (.cells cur T.t T.fz);have hβ:∀ i b,β i=some b->up β s.nb (some w.heap.size) i=some b:=λi b hi=>by
  have:i≠s.nb:=λe=>by rw[h.bnone i (by omega)] at hi;cases hi
  rw[cP _ _ this];exact hi
 have j7:∀ (o':Option Nat),(∀ b,o'=some b->b<w.heap.size)->∀ b,o'=some b->(w.alloc (.cells cur T.t T.fz)).heap[b]?=w.heap[b]?/\∀ k,I b k->I b k:=λo' ho b hb=>
  ⟨ee w _ b (ho b hb),λ_ h=>h⟩
 have hI:∀ b k,I b k->I b k/\(w.alloc (.cells cur T.t T.fz)).cell? ⟨b,k,none⟩=w.cell? ⟨b,k,none⟩:=λb k hb=>⟨hb,dR (a:=⟨b,k,none⟩) (ee w _ b (h.ibnd b k hb))⟩;have tp:=h.fresh (ab _);exact {
  size:=h.size,defers:=h.defers,below:=hs.below,kept:=hs.kept,ilow:=h.ilow,ihigh:=h.ihigh,ibnd:=hs.ibnd
  fr:=λt=>(h.fr t).mono hI hβ (j7 _ λb hb=>(h.obnd _ b hb).1)
  bx:=λi hi=>by
   by_cases iT:i=s.nb
   .subst iT
    refine⟨w.heap.size,cur,by simp,.inl h.below.size,.of (gf w _) h1 hT (by simpa using ly),by simpa using fK,λj=>?_,λk hk=>?_⟩
    .simp only[b9,cZ]
     exact(hc j).mono hI hβ (j7 _ λb hb=>(MA j b hb).1.1)
    .have:=h.ibnd _ _ hk;omega
   .obtain⟨blk,cur',e1,e2,e3,e4,e5,e7⟩:=h.bx i (by simp only at hi;omega)
    have bF:blk<w.heap.size:=e3.lt;refine⟨blk,cur',hβ i blk e1,e2,by simpa only[cP _ _ iT] using e3.mono (ee w _ blk bF),by simpa only[cP _ _ iT] using e4,λj=>?_,e7⟩;simp only[cP _ _ iT,if_neg iT];exact(e5 j).mono hI hβ (j7 _ λb hb=>(h.obnd _ b hb).1)
  bnone:=λi hi=>by simp only at hi;rw[cP _ _ (by omega)];exact h.bnone i (by omega)
  ext:=λi b he=>hβ i b (h.ext i b he)
  bnew:=λi b hi=>by
   by_cases h1:i=s.nb
   .subst h1;rw[b9] at hi;cases hi;exact .inr (.inl h.below.size)
   .rw[cP _ _ h1] at hi;exact h.bnew i b hi
  binj:=λi j b hi hj=>by
   by_cases h1:i=s.nb<;>by_cases h2:j=s.nb
   .rw[h1,h2]
   .subst h1;rw[b9] at hi;cases hi;rw[cP _ _ h2] at hj;exact absurd hj (tp.2 j)
   .subst h2;rw[b9] at hj;cases hj;rw[cP _ _ h1] at hi;exact absurd hi (tp.2 i)
   .rw[cP _ _ h1] at hi;rw[cP _ _ h2] at hj;exact h.binj i j b hi hj
  oinj:=λL L' b hL yO=>by
   have key:∀ L,(match L with | .b i j=>if i=s.nb then od j else ob (.b i j) | L=>ob L)=some b->(∃ j,L=.b s.nb j/\od j=some b)∨ob L=some b:=λL hL=>by
    cases L with
    |t i=>exact .inr hL
    |b i j=>
     simp only at hL;split at hL
     .rename_i e;exact .inl ⟨j,by rw[e],hL⟩
     .exact .inr hL
   rcases key L hL with⟨j,rfl,hj⟩ | h1<;>rcases key L' yO with⟨j',rfl,hj'⟩ | h2
   .rw[qy j j' b hj hj']
   .exact absurd h2 ((MA j b hj).2.1 L')
   .exact absurd h1 ((MA j' b hj').2.1 L)
   .exact h.oinj L L' b h1 h2
  obx:=λL b i hL hi=>by
   have key:((∃ j,L=.b s.nb j/\od j=some b)∨ob L=some b):=by
    cases L with
    |t i=>exact .inr hL
    |b i' j=>
     simp only at hL;split at hL
     .rename_i e;exact .inl ⟨j,by rw[e],hL⟩
     .exact .inr hL
   by_cases iT:i=s.nb
   .subst iT;rw[b9] at hi;cases hi
    rcases key with⟨j,_,hj⟩ | hj
    .have:=(MA j _ hj).1.1;omega
    .exact tp.1 L hj
   .rw[cP _ _ iT] at hi
    rcases key with⟨j,_,hj⟩ | hj
    .exact(MA j b hj).2.2 i hi
    .exact h.obx L b i hj hi
  obnd:=λL b hL=>by
   have key:((∃ j,L=.b s.nb j/\od j=some b)∨ob L=some b):=by
    cases L with
    |t i=>exact .inr hL
    |b i' j=>
     simp only at hL;split at hL
     .rename_i e;exact .inl ⟨j,by rw[e],hL⟩
     .exact .inr hL
   rw[ec];rcases key with⟨j,_,hj⟩ | hj
   .have:=(MA j b hj).1;exact⟨by omega,this.2⟩
   .have:=h.obnd L b hj;exact⟨by omega,this.2⟩
  glob:=λg cs hg=>(h.glob g cs hg).mono hI }
theorem HB.same {w:World} {blk:Nat} {c1 c2:Array Value} {l:List V} (hm:ck l=false) (h1:HB w blk c1 l) (h2:HB w blk c2 l):c1=c2:=by obtain⟨T1,e1,_⟩:=h1.cells hm;obtain⟨T2,e2,_⟩:=h2.cells hm;rw[e1] at e2;simp only[ao,Obj.cells.injEq] at e2;exact e2.1
theorem St.recell (h:St G n I0 M w0 I β ob s a w) {b k blk:Nat} {x x':V} (hb:b<s.nb) (hk:(s.bx b)[k]?=some x) (hxm:x.isMk=false) (D2:x'.isMk=false) (j7:ob (.b b k)=some blk)
 {w':World} (hg:w.grb w' (some blk)) (eR:∀ o,I blk o->w'.cell? ⟨blk,o,none⟩=w.cell? ⟨blk,o,none⟩) {I':Ft} (h1:∀ b o,I b o->I' b o) (h2:∀ b o,I' b o->I b o∨b=blk)
 (DV:∀ b1 cur,β b=some b1->HB w b1 cur (s.bx b)->LR (Wr M w0) I β w (some blk) (cur.getD k undef) x->LR (Wr M w0) I' β w' (some blk) (cur.getD k undef) x') :
 St G n I0 M w0 I' β ob { s with bx:=up s.bx b ((s.bx b).set k x') } a w':=by
 have zM:=h.obnd _ _ j7;have oU:=h.keeps hg (λr e o ho=>by cases e;exact eR o ho);have hI:∀ b o,I b o->I' b o/\w'.cell? ⟨b,o,none⟩=w.cell? ⟨b,o,none⟩:=λb o hb=>⟨h1 b o hb,oU b o hb⟩;have iE:∀ c,c≠blk->c<w.heap.size->w'.heap[c]?=w.heap[c]?/\∀ o,I' c o->I c o:=λc hc bF=>by
  refine⟨hg.block c bF (by simpa using hc),λo ho=>?_⟩;rcases h2 c o ho with h5 | h5
  .exact h5
  .exact absurd h5 hc
 have xl:∀ L,L≠.b b k->∀ c,ob L=some c->w'.heap[c]?=w.heap[c]?/\∀ o,I' c o->I c o:=λL hL c hc=>
  iE c (λe=>hL (h.oinj _ _ blk (e▸hc) j7)) (h.obnd L c hc).1
 have qw:k<(s.bx b).length:=(ai.1 hk).1;have mN:(s.bx b).getD k .un=x:=by simp[List.getD,hk]
 exact {
  size:=h.size,defers:=h.defers
  below:=h.below.grown hg (λq e=>by cases e;exact zM.2)
  kept:=λb o h0=>(oU b o (h.ilow b o h0)).trans (h.kept b o h0)
  ilow:=λb o hb=>h1 b o (h.ilow b o hb)
  ihigh:=λb o hb=>by
   rcases h2 b o hb with h3 | h3
   .exact h.ihigh b o h3
   .subst h3;exact .inr zM.2
  ibnd:=λb o hb=>by
   rcases h2 b o hb with h3 | h3
   .exact cn (h.ibnd b o h3) hg.size
   .subst h3;exact cn zM.1 hg.size
  fr:=λt=>(h.fr t).mono hI (λ_ _ e=>e) (xl (.t t) (by simp))
  bx:=λi hi=>by
   obtain⟨b1,cur,e1,e2,e3,e4,e5,e7⟩:=h.bx i hi;have gZ:b1≠blk:=λe=>h.obx _ _ i j7 (e▸e1);obtain⟨q1,q2⟩:=iE b1 gZ e3.lt;by_cases qz:i=b
   .subst qz
    refine⟨b1,cur,e1,e2,?_,by simp only[b9,gi];exact e4,λj=>?_,λo ho=>e7 o (q2 o ho)⟩
    .simp only[b9]
     refine (e3.mono q1).congr (by simp) ?_;by_cases xw:k=0
     .subst xw
      have g1:((s.bx i).set 0 x').getD 0 .un=x':=(by simp[List.getD,qw]);rw[gP (by unfold ck;rw[g1];exact D2),gP (by unfold ck;rw[mN];exact hxm)]
     .have:((s.bx i).set k x').getD 0 .un=(s.bx i).getD 0 .un:=by simp[List.getD,da xw]
      unfold re;rw[this]
    .simp only[b9]
     by_cases hjk:j=k
     .subst hjk
      have:((s.bx i).set j x').getD j .un=x':=(by simp[List.getD,qw]);rw[this,j7];have h5:=e5 j;rw[mN,j7] at h5;exact DV b1 cur e1 e3 h5
     .have:((s.bx i).set k x').getD j .un=(s.bx i).getD j .un:=by simp[List.getD,da (hJ hjk)]
      rw[this];exact(e5 j).mono hI (λ_ _ e=>e) (xl (.b i j) (by simp[hjk]))
   .refine⟨b1,cur,e1,e2,by simp only[cP _ _ qz];exact e3.mono q1,by simp only[cP _ _ qz];exact e4,λj=>?_,λo ho=>e7 o (q2 o ho)⟩
    simp only[cP _ _ qz];exact(e5 j).mono hI (λ_ _ e=>e) (xl (.b i j) (by simp[qz]))
  bnone:=h.bnone,ext:=h.ext,bnew:=h.bnew,binj:=h.binj,oinj:=h.oinj,obx:=h.obx
  obnd:=λL c q1=>⟨cn (h.obnd L c q1).1 hg.size,(h.obnd L c q1).2⟩
  glob:=λg cs hg'=>(h.glob g cs hg').mono hI }
theorem ud (w:World) (row:Option Nat):w.grb w row:=⟨rfl,rfl,rfl,ab _,λ_ _ _=>rfl,ab _⟩
theorem St.hotCell (h:St G n I0 M w0 I β ob s a w) {b k:Nat} {g:Option Value} {E:Option (TypeId×Nat)} {es:List (List C)} (hb:b<s.nb) (hk:(s.bx b)[k]?=some (.hh g E es)):∃ blk cur b1,ob (.b b k)=some blk/\β b=some b1/\HB w b1 cur (s.bx b)/\
 LR (Wr M w0) I β w (some blk) (cur.getD k undef) (.hh g E es):=by
 obtain⟨b1,cur,e1,e2,e3,e4,e5,e7⟩:=h.bx b hb;have h5:=e5 k;have mN:(s.bx b).getD k .un=.hh g E es:=by simp[List.getD,hk]
 rw[mN] at h5;obtain⟨_,e,blk,cap,c2,sz,q1,_⟩:=h5.hot;rw[q1] at h5;exact⟨blk,cur,b1,q1,e1,e3,h5⟩
theorem St.name (h:St G n I0 M w0 I β ob s a w) {b k:Nat} {g:Option Value} {E:Option (TypeId×Nat)} {es:List (List C)} (hb:b<s.nb) (ly:ck (s.bx b)=false) (hk:(s.bx b)[k]?=some (.hh g E es)) :
 ∃ blk cap,St G n I0 M w0 I β ob (s.name b k (.slice (some ⟨blk,0,none⟩) es.length cap) E es) a w:=by
 obtain⟨blk,cur,b1,q1,q2,q3,q4⟩:=h.hotCell hb hk;have q4':=q4;obtain⟨_,e,tj,cap,c2,sz,r1,r2,r3,_⟩:=q4.hot;cases r1;refine⟨blk,cap,?_⟩;exact h.recell hb hk rfl rfl q1 (ud w _) (λ_ _=>rfl) (λ_ _ h=>h) (λ_ _ h=>.inl h) λb2 cur2 f1 f2 f3=>by rw[q2] at f1;cases f1;cases q3.same ly f2;exact⟨λu hu=>by cases hu;exact r3,f3.hot.2⟩
theorem ag8 {es:List (List C)} {sz:Nat} (h:∀ x∈es,x.length=sz):∀ x∈es.map (·.map C.wk),x.length=sz:=λx hx=>by obtain⟨y,hy,rfl⟩:=bM.1 hx;rw[au];exact h y hy
theorem CR.wk {I:Ft} {w:World} {v:Value} {c:C} (h:CR I w v c):CR I w v c.wk:=by
 cases c with
 |sx es=>exact h.sx_inv.1
 |_=>exact h
theorem abw {es:List (List C)}:(es.map (·.map C.wk)).flatten=es.flatten.map C.wk:=by
 induction es with
 |nil=>rfl
 |cons x l ih=>simp only[bB,cE,dh,ih]
theorem St.cool (h:St G n I0 M w0 I β ob s a w) {b k:Nat} {g:Option Value} {E:Option (TypeId×Nat)} {es:List (List C)} (hb:b<s.nb) (hk:(s.bx b)[k]?=some (.hh g E es)):SE G n I0 M w0 (s.cool b k E es) a w:=by
 obtain⟨blk,cur,b1,q1,q2,q3,q4⟩:=h.hotCell hb hk;obtain⟨_,e,tj,cap,c2,sz,r1,r2,r3,r4,r5,r6,r7,r8,r9,r10,r11,r12⟩:=q4.hot;cases r1;refine⟨λb' o=>I b' o∨(b'=blk/\o<es.length*sz),β,ob,h.recell hb hk rfl rfl q1 (ud w _) (λ_ _=>rfl) (λ_ _ h=>.inl h) (λb' o h=>?_) λb2 cur2 f1 f2 f3=>?_⟩
 .rcases h with h | h
  .exact .inl h
  .exact .inr h.1
 .obtain⟨_,e',blk2,cap',c3,sz',s1,s2,s3,s4,s5,s6,s7,s8,s9,s10,s11,s12⟩:=f3.hot
  cases s1;rw[r2] at s2;cases s2;rw[r5] at s5;simp only[ao,Obj.cells.injEq] at s5;obtain⟨rfl,_⟩:=s5;rw[s3];have hwl:=ag8 r9;have lG:(es.map (·.map C.wk)).flatten.length=es.length*sz:=by rw[bK _ hwl,au]
  have jr:CR (λb' o=>I b' o∨(b'=blk/\o<es.length*sz)) w (.slice (some ⟨blk,0,none⟩) es.length cap') (.sl (es.map (·.map C.wk))):=by have:=CR.row (I':=λb' o=>I b' o∨(b'=blk/\o<es.length*sz)) (cap:=cap') (es:=es.map (·.map C.wk)) (sz:=sz) r5 (by rw[au];exact s6) hwl (λq c hq=>by rw[abw,bj,aW] at hq;obtain⟨c0,lH,rfl⟩:=hq;have h0:=(ai.1 lH).1;rw[bK _ r9] at h0;have h1:=aO sz s6;refine⟨by rw[s8];omega,((r10 q c0 lH).wk).mono λb o h=>⟨.inl h,rfl⟩⟩) (λo ho=>.inr ⟨rfl,by rw[au] at ho;exact ho⟩);rw[au] at this;exact this
  simp only[LR];refine⟨jr,.inr ⟨e,blk,cap',c2,sz,rfl,r2,by rw[au],r4,r5,by rw[au];exact s6,s7,s8,hwl,λo ho=>?_⟩⟩;rw[au];rcases ho with ho | ho
  .have h1:=r12 o ho
   exact cn h1 (aO _ (Nat.sub_le _ _))
  .exact ho.2
theorem St.setBox (h:St G n I0 M w0 I β ob s a w) {i k blk:Nat} {cur:Array Value} {T:RT} {vs:List Value} {ds:List V} {od:Nat->Option Nat} (hi:i<s.nb) (hβ:β i=some blk)
 (iz:w.heap[blk]?=some (.cells cur T.t T.fz)) (hT:T.ok cur.size) (cm:vs.length=ds.length) (vO:k+ds.length<=(s.bx i).length)
 (hc:∀ j,LR (Wr M w0) I β w (od j) (vs.getD j undef) (ds.getD j .un)) (h1:∀ u∈vs,u.oneCell'=true)
 (MA:∀ j b,od j=some b->(b<w.heap.size/\Wr M w0 b)/\(∀ L,ob L≠some b)/\∀ i,β i≠some b) (qy:∀ j j' b,od j=some b->od j'=some b->j=j') (ly:ck (s.bx i)=false) (hmd:∀ d∈ds,d.isMk=false) :
 St G n I0 M w0 I β (λL=>match L with | .b i' j=>if i'=i/\k<=j/\j<k+ds.length then od (j - k) else ob (.b i' j) | L=>ob L)
  { s with bx:=up s.bx i (eQ (s.bx i) k ds) } a (w.setRow blk (cur.toList.take k++vs++cur.toList.drop (k+vs.length)).toArray):=by
 obtain⟨tj,cur',e1,e2,e3,e4,e5,e7⟩:=h.bx i hi;obtain⟨T',e3,e6⟩:=e3.cells ly;rw[hβ] at e1;cases e1;rw[iz] at e3;simp only[ao,Obj.cells.injEq] at e3;obtain⟨rfl,_,_⟩:=e3;have xm:blk<w.heap.size:=(bg.1 iz).1;have j8:cur.toList.length=cur.size:=bX;have hg:w.grb (w.setRow blk (cur.toList.take k++vs++cur.toList.drop (k+vs.length)).toArray) (some blk):=
  ⟨rfl,rfl,rfl,by simp,λq _ hq=>jZ w blk q _ (λe=>hq (by rw[e])),ab _⟩
 have oU:=h.keeps hg (λr e o ho=>by cases e;exact absurd ho (e7 o));have hI:∀ b q,I b q->I b q/\(w.setRow blk (cur.toList.take k++vs++cur.toList.drop (k+vs.length)).toArray).cell? ⟨b,q,none⟩=w.cell? ⟨b,q,none⟩:=λb q hb=>⟨hb,oU b q hb⟩;have j7:∀ (o':Option Nat),(∀ b,o'=some b->∀ i,β i≠some b)->∀ b,o'=some b->(w.setRow blk (cur.toList.take k++vs++cur.toList.drop (k+vs.length)).toArray).heap[b]?=w.heap[b]?/\∀ q,I b q->I b q:=
  λo' ho b hb=>⟨jZ w blk b _ (λe=>ho b hb i (by rw[e];exact hβ)),λ_ h=>h⟩
 have key:∀ L b,(match L with | .b i' j=>if i'=i/\k<=j/\j<k+ds.length then od (j - k) else ob (.b i' j) | L=>ob L)=some b->
  (∃ j,L=.b i (k+j)/\od j=some b)∨ob L=some b:=λL b hL=>by
  cases L with
  |t i=>exact .inr hL
  |b i' j=>
   simp only at hL;split at hL
   .rename_i e;exact .inl ⟨j - k,by rw[e.1];congr 1;omega,hL⟩
   .exact .inr hL
 exact {
  size:=h.size,defers:=h.defers
  below:=h.below.grown hg (λq e=>by cases e;exact e2)
  kept:=λb o h0=>(oU b o (h.ilow b o h0)).trans (h.kept b o h0)
  ilow:=h.ilow,ihigh:=h.ihigh
  ibnd:=λb q hb=>by simpa using h.ibnd b q hb
  fr:=λt=>(h.fr t).mono hI (λ_ _ e=>e) (j7 _ λb hb i=>h.obx _ b i hb)
  bx:=λi' tu=>by
   by_cases hii:i'=i
   .subst hii
    refine⟨blk,_,hβ,e2,.of (lR w blk cur _ T.t _ iz) (λu hu=>?_) ?_ (by simpa only[b9] using Rr ly hmd (by omega)),?_,λj=>?_,e7⟩
    rotate_left
    .have:(cur.toList.take k++vs++cur.toList.drop (k+vs.length)).toArray.size=cur.size:=by simp only[eN,ae,aQ,cG,j8];omega
     rw[this];exact hT
    .simp only[b9,eQ,eN,ae,aQ,cG,j8];omega
    .have an4:((cur.toList.take k++vs++cur.toList.drop (k+vs.length)).toArray.getD j undef)=if k<=j/\j<k+ds.length then vs.getD (j - k) undef else cur.getD j undef:=by
      rw[ak,dw];have DW:(cur.toList.take k).length=k:=(by rw[aQ,j8];omega);by_cases ha:j<k
      .rw[if_neg (by omega),aH,az (by omega),cC,if_pos ha,aS,<- ak]
      .by_cases hb:j<k+ds.length
       .rw[if_pos ⟨by omega,hb⟩,aH,aG (by omega),DW,az (by omega),aA]
       .rw[if_neg (by omega),aG (by rw[ae,DW];omega),cK,ae,DW,aS,
         show k+vs.length+(j - (k+vs.length))=j by omega,<- ak]
     have an5:(eQ (s.bx i') k ds).getD j .un=if k<=j/\j<k+ds.length then ds.getD (j - k) .un else(s.bx i').getD j .un:=by
      unfold eQ;rw[aA];have DW:((s.bx i').take k).length=k:=(by rw[aQ];omega);by_cases ha:j<k
      .rw[if_neg (by omega),aH,az (by omega),cC,if_pos ha,<- aA]
      .by_cases hb:j<k+ds.length
       .rw[if_pos ⟨by omega,hb⟩,aH,aG (by omega),DW,az (by omega),aA]
       .rw[if_neg (by omega),aG (by rw[ae,DW];omega),cK,ae,DW,
         show k+ds.length+(j - (k+ds.length))=j by omega,<- aA]
     simp only[b9];rw[an4,an5];by_cases iT:k<=j/\j<k+ds.length
     .rw[if_pos iT,if_pos iT,if_pos ⟨trivial,iT⟩]
      exact(hc (j - k)).mono hI (λ_ _ e=>e) (j7 _ λb hb=>(MA _ b hb).2.2)
     .rw[if_neg iT,if_neg iT,if_neg (λe=>iT e.2)]
      exact(e5 j).mono hI (λ_ _ e=>e) (j7 _ λb hb i=>h.obx _ b i hb)
    .simp only[gr,ba] at hu
     rcases hu with(hu | hu) | hu
     .exact e6.1 u (by simpa using c9 hu)
     .exact h1 u hu
     .exact e6.1 u (by simpa using cT hu)
   .obtain⟨b2,c2,q1,q2,q3,q4,q5,q7⟩:=h.bx i' tu
    have gZ:b2≠blk:=λe=>hii (h.binj i' i blk (by rw[<- e];exact q1) hβ);refine⟨b2,c2,q1,q2,by simpa only[cP _ _ hii] using q3.mono (jZ w blk b2 _ gZ),by simpa only[cP _ _ hii] using q4,λj=>?_,q7⟩;simp only[cP _ _ hii];rw[if_neg (λe=>hii e.1)];exact(q5 j).mono hI (λ_ _ e=>e) (j7 _ λb hb i=>h.obx _ b i hb)
  bnone:=h.bnone,ext:=h.ext,bnew:=h.bnew,binj:=h.binj
  oinj:=λL L' b hL yO=>by
   rcases key L b hL with⟨j,rfl,hj⟩ | h1<;>rcases key L' b yO with⟨j',rfl,hj'⟩ | h2
   .rw[qy j j' b hj hj']
   .exact absurd h2 ((MA j b hj).2.1 L')
   .exact absurd h1 ((MA j' b hj').2.1 L)
   .exact h.oinj L L' b h1 h2
  obx:=λL b q hL=>by
   rcases key L b hL with⟨j,_,hj⟩ | hj
   .exact(MA j b hj).2.2 q
   .exact h.obx L b q hj
  obnd:=λL b hL=>by
   rw[size_setRow];rcases key L b hL with⟨j,_,hj⟩ | hj
   .exact(MA j b hj).1
   .exact h.obnd L b hj
  glob:=λg cs hg'=>(h.glob g cs hg').mono hI }
theorem St.boxblk (hst:St G n I0 M w0 I β ob s a w) {i b:Nat} (h:β i=some b):i<s.nb/\Wr M w0 b/\b<w.heap.size:=by
 by_cases hi:i<s.nb
 .obtain⟨blk,cur,e1,e2,e3,_⟩:=hst.bx i hi
  rw[h] at e1;cases e1;exact⟨hi,e2,e3.lt⟩
 .rw[hst.bnone i (by omega)] at h;cases h
end
section
variable {P:Program} {G:Gl} {tr:List Nat} {n:Nat} {I0:Ft} {M:Mx} {w0:World} {I:Ft} {β:Nat->Option Nat} {ob:Loc->Option Nat} {s:S} {a:Act} {w:World} {o:Oper}
 {next:Act->World->Prop} {Q:Exit->Act->World->Prop} {base:Nat->Prop} {v:Value} {x y:V}
def World.putObj (w:World) (r:Nat) (o:Obj):World:={ w with heap:=w.heap.setIfInBounds r o }
theorem ov {r:Nat} {o:Obj} (h:r<w.heap.size):(World.putObj w r o).heap[r]?=some o:=by simp[World.putObj,h]
theorem pz {r q:Nat} {o:Obj} (h:q≠r):(World.putObj w r o).heap[q]?=w.heap[q]?:=by simp[World.putObj,hJ h]
theorem putObj_size {r:Nat} {o:Obj}:(World.putObj w r o).heap.size=w.heap.size:=by simp[World.putObj]
theorem pA (r:Nat) (o:Obj):w.grb (World.putObj w r o) (some r):=
 ⟨rfl,rfl,rfl,by simp[World.putObj],λq _ hq=>pz (λe=>hq (by rw[e])),ab _⟩
theorem St.reBox (h:St G n I0 M w0 I β ob s a w) {i blk:Nat} {o:Obj} {cur:Array Value} {l:List V} (hi:i<s.nb) (hβ:β i=some blk)
 (hHB:HB (World.putObj w blk o) blk cur l) (hl:l.length<=cur.size) {od:Nat->Option Nat} (hc:∀ j,LR (Wr M w0) I β w (od j) (cur.getD j undef) (l.getD j .un))
 (MA:∀ j b,od j=some b->ob (.b i j)=some b) :
 St G n I0 M w0 I β (λL=>match L with | .b i' j=>if i'=i then od j else ob (.b i' j) | L=>ob L) { s with bx:=up s.bx i l } a (World.putObj w blk o):=by
 obtain⟨tj,cur',e1,e2,e3,e4,e5,e7⟩:=h.bx i hi;rw[hβ] at e1;cases e1;have xm:blk<w.heap.size:=e3.lt;have hg:=pA (w:=w) blk o;have oU:=h.keeps hg (λr e o ho=>by cases e;exact absurd ho (e7 o));have hI:∀ b q,I b q->I b q/\(World.putObj w blk o).cell? ⟨b,q,none⟩=w.cell? ⟨b,q,none⟩:=λb q hb=>⟨hb,oU b q hb⟩;have j7:∀ (o':Option Nat),(∀ b,o'=some b->∀ i,β i≠some b)->∀ b,o'=some b->(World.putObj w blk o).heap[b]?=w.heap[b]?/\∀ q,I b q->I b q:=
  λo' ho b hb=>⟨pz (λe=>ho b hb i (by rw[e];exact hβ)),λ_ h=>h⟩
 have key:∀ L b,(match L with | .b i' j=>if i'=i then od j else ob (.b i' j) | L=>ob L)=some b->ob L=some b:=λL b hL=>by
  cases L with
  |t i=>exact hL
  |b i' j=>
   simp only at hL;split at hL
   .rename_i e;rw[e];exact MA j b hL
   .exact hL
 exact {
  size:=h.size,defers:=h.defers
  below:=h.below.grown hg (λq e=>by cases e;exact e2)
  kept:=λb o h0=>(oU b o (h.ilow b o h0)).trans (h.kept b o h0)
  ilow:=h.ilow,ihigh:=h.ihigh
  ibnd:=λb q hb=>by rw[putObj_size];exact h.ibnd b q hb
  fr:=λt=>(h.fr t).mono hI (λ_ _ e=>e) (j7 _ λb hb i=>h.obx _ b i hb)
  bx:=λi' tu=>by
   by_cases hii:i'=i
   .subst hii
    refine⟨blk,cur,hβ,e2,by simpa only[b9] using hHB,by simpa only[b9] using hl,λj=>?_,e7⟩;simp only[b9,cZ];exact(hc j).mono hI (λ_ _ e=>e) (j7 _ λb hb q=>h.obx _ b q (MA j b hb))
   .obtain⟨b2,c2,q1,q2,q3,q4,q5,q7⟩:=h.bx i' tu
    have gZ:b2≠blk:=λe=>hii (h.binj i' i blk (by rw[<- e];exact q1) hβ);refine⟨b2,c2,q1,q2,by simpa only[cP _ _ hii] using q3.mono (pz gZ),by simpa only[cP _ _ hii] using q4,λj=>?_,q7⟩;simp only[cP _ _ hii,if_neg hii];exact(q5 j).mono hI (λ_ _ e=>e) (j7 _ λb hb i=>h.obx _ b i hb)
  bnone:=h.bnone,ext:=h.ext,bnew:=h.bnew,binj:=h.binj
  oinj:=λL L' b hL yO=>h.oinj L L' b (key L b hL) (key L' b yO)
  obx:=λL b q hL=>h.obx L b q (key L b hL)
  obnd:=λL b hL=>by rw[putObj_size];exact h.obnd L b (key L b hL)
  glob:=λg cs hg'=>(h.glob g cs hg').mono hI }
theorem Rt {es:List MapEntry} {r:List V} {bs:List Nat} {cl:Nat} {od:Nat->Option Nat} (hr:r.length=2*es.length)
 (h:∀ (j:Nat) (e:MapEntry),es[j]?=some e->LR base I β w (od (2*j+1)) e.key (r.getD (2*j) .un)/\LR base I β w (od (2*j+2)) e.val (r.getD (2*j+1) .un)) (j:Nat) :
 LR base I β w (od j) ((undef::lK es).toArray.getD j undef) ((V.mk bs cl::r).getD j .un):=by
 have hg:∀ q,(undef::lK es).toArray.getD (q+1) undef=((lK es)[q]?).getD undef:=λq=>by simp
 cases j with
 |zero=>simp[LR]
 |succ q=>
  rw[hg];simp only[fx];by_cases hq:q<r.length
  .have bF:q / 2<es.length:=by omega
   obtain⟨l1,l2⟩:=h (q / 2) _ (ah bF);obtain⟨c1,c2⟩:=sD es (q / 2) _ (ah bF);rcases Nat.mod_two_eq_zero_or_one q with hm | hm
   .have e:2*(q / 2)=q:=by omega
    rw[e] at l1 c1;rw[c1];exact l1
   .have e:2*(q / 2)+1=q:=by omega
    rw[show 2*(q / 2)+2=2*(q / 2)+1+1 by omega,e] at l2;rw[e] at c2;rw[c2];exact l2
  .have:r.getD q .un=.un:=by simp[List.getD,bG (ep hq)]
   rw[this];simp only[LR];exact .un _
theorem St.reMap (h:St G n I0 M w0 I β ob s a w) {i cl blk:Nat} {bs:List Nat} {r:List V} {es:Array MapEntry} (hm:VI P I M w0 β ob s w i bs cl r blk es) {es':Array MapEntry} {cl':Nat} {bs':List Nat} {r':List V}
 (hb:es'.toList.map (·.born)=bs') (hr:r'.length=2*bs'.length) {od:Nat->Option Nat} (MA:∀ j b,od j=some b->ob (.b i j)=some b)
 (aqv:∀ (j:Nat) (e:MapEntry),es'.toList[j]?=some e->LR (Wr M w0) I β w (od (2*j+1)) e.key (r'.getD (2*j) .un)/\LR (Wr M w0) I β w (od (2*j+2)) e.val (r'.getD (2*j+1) .un)) :
 ∃ ob',St G n I0 M w0 I β ob' { s with bx:=up s.bx i (.mk bs' cl'::r') } a (World.putObj w blk (.map es' cl')):=by
 have bF:blk<w.heap.size:=(bg.1 hm.heap).1;have cm:es'.toList.length=bs'.length:=by rw[<- hb,au]
 refine⟨_,h.reBox (cur:=(undef::lK es'.toList).toArray) (od:=od) hm.lt hm.bt ?_ ?_ (λj=>Rt (by omega) aqv j) MA⟩
 .unfold HB
  have:re (V.mk bs' cl'::r')=some (.mp bs' cl'):=rfl;rw[this];exact⟨es',ov bF,hb,rfl,by simp[hr];omega⟩
 .simp[xK,cm,hr]
theorem ue {l:List V} {i j:Nat} {x:V} (h:i≠j):(l.set i x).getD j .un=l.getD j .un:=by simp[List.getD,List.getElem?_set,h]
theorem Ej {l:List V} {i:Nat} {x:V} (h:i<l.length):(l.set i x).getD i .un=x:=by simp[List.getD,h]
theorem St.newMap (h:St G n I0 M w0 I β ob s a w) :
 St G n I0 M w0 I (up β s.nb (some w.heap.size)) (λL=>match L with | .b i j=>if i=s.nb then none else ob (.b i j) | L=>ob L)
  { s with bx:=up s.bx s.nb [.mk [] 0],nb:=s.nb+1 } a (w.alloc (.map #[] 0)):=by
 have hs:=h.allocOwn (.map #[] 0);have hβ:∀ i b,β i=some b->up β s.nb (some w.heap.size) i=some b:=λi b hi=>by
  have:i≠s.nb:=λe=>by rw[h.bnone i (by omega)] at hi;cases hi
  rw[cP _ _ this];exact hi
 have j7:∀ (o':Option Nat),(∀ b,o'=some b->b<w.heap.size)->∀ b,o'=some b->(w.alloc (.map #[] 0)).heap[b]?=w.heap[b]?/\∀ k,I b k->I b k:=λo' ho b hb=>
  ⟨ee w _ b (ho b hb),λ_ h=>h⟩
 have hI:∀ b k,I b k->I b k/\(w.alloc (.map #[] 0)).cell? ⟨b,k,none⟩=w.cell? ⟨b,k,none⟩:=λb k hb=>⟨hb,dR (a:=⟨b,k,none⟩) (ee w _ b (h.ibnd b k hb))⟩;have tp:=h.fresh (ab _);have key:∀ L b,(match L with | .b i j=>if i=s.nb then none else ob (.b i j) | L=>ob L)=some b->ob L=some b:=λL b hL=>by
  cases L with
  |t i=>exact hL
  |b i j=>
   simp only at hL;split at hL
   .cases hL
   .exact hL
 exact {
  size:=h.size,defers:=h.defers,below:=hs.below,kept:=hs.kept,ilow:=h.ilow,ihigh:=h.ihigh,ibnd:=hs.ibnd
  fr:=λt=>(h.fr t).mono hI hβ (j7 _ λb hb=>(h.obnd _ b hb).1)
  bx:=λi hi=>by
   by_cases iT:i=s.nb
   .subst iT
    refine⟨w.heap.size,#[undef],by simp,.inl h.below.size,?_,by simp,λj=>?_,λk hk=>?_⟩
    .simp only[b9]
     exact⟨#[],gf w _,rfl,rfl,rfl⟩
    .simp only[b9,cZ]
     cases j with
     |zero=>simp[LR]
     |succ j=>simp only[fx,List.getD_nil,LR];exact .un _
    .have:=h.ibnd _ _ hk;omega
   .obtain⟨blk,cur',e1,e2,e3,e4,e5,e7⟩:=h.bx i (by simp only at hi;omega)
    have bF:blk<w.heap.size:=e3.lt;refine⟨blk,cur',hβ i blk e1,e2,by simpa only[cP _ _ iT] using e3.mono (ee w _ blk bF),by simpa only[cP _ _ iT] using e4,λj=>?_,e7⟩;simp only[cP _ _ iT,if_neg iT];exact(e5 j).mono hI hβ (j7 _ λb hb=>(h.obnd _ b hb).1)
  bnone:=λi hi=>by simp only at hi;rw[cP _ _ (by omega)];exact h.bnone i (by omega)
  ext:=λi b he=>hβ i b (h.ext i b he)
  bnew:=λi b hi=>by
   by_cases h1:i=s.nb
   .subst h1;rw[b9] at hi;cases hi;exact .inr (.inl h.below.size)
   .rw[cP _ _ h1] at hi;exact h.bnew i b hi
  binj:=λi j b hi hj=>by
   by_cases h1:i=s.nb<;>by_cases h2:j=s.nb
   .rw[h1,h2]
   .subst h1;rw[b9] at hi;cases hi;rw[cP _ _ h2] at hj;exact absurd hj (tp.2 j)
   .subst h2;rw[b9] at hj;cases hj;rw[cP _ _ h1] at hi;exact absurd hi (tp.2 i)
   .rw[cP _ _ h1] at hi;rw[cP _ _ h2] at hj;exact h.binj i j b hi hj
  oinj:=λL L' b hL yO=>h.oinj L L' b (key L b hL) (key L' b yO)
  obx:=λL b i hL hi=>by
   by_cases iT:i=s.nb
   .subst iT;rw[b9] at hi;cases hi
    exact tp.1 L (key L _ hL)
   .rw[cP _ _ iT] at hi
    exact h.obx L b i (key L b hL) hi
  obnd:=λL b hL=>by rw[ec];have:=h.obnd L b (key L b hL);exact⟨by omega,this.2⟩
  glob:=λg cs hg=>(h.glob g cs hg).mono hI }
theorem EV (hst:St G n I0 M w0 I β ob s a w) {i cl blk j:Nat} {bs:List Nat} {r:List V} {es:Array MapEntry} (hm:VI P I M w0 β ob s w i bs cl r blk es) {e:MapEntry} (he:es.toList[j]?=some e)
 {vv:Value} (hv:LR (Wr M w0) I β w none vv y) {f:MapEntry->MapEntry} (hf:f e={ e with val:=vv }) :
 ∃ ob',St G n I0 M w0 I β ob' { s with bx:=up s.bx i (.mk bs cl::r.set (2*j+1) y) } a (World.putObj w blk (.map (es.modify j f) cl)):=by
 have hj:j<es.toList.length:=(ai.1 he).1;have Pv:es.toList.length=bs.length:=by rw[<- hm.born,au]
 have qu:∀ q,(es.modify j f).toList[q]?=if q=j then some { e with val:=vv } else es.toList[q]?:=λq=>by
  rw[Array.toList_modify,List.getElem?_modify];by_cases hq:j=q
  .subst hq;simp[he,hf]
  .simp[hq,hJ hq]
 refine hst.reMap hm (es':=es.modify j f) (bs':=bs) (cl':=cl) (od:=λq=>if q=2*j+2 then none else ob (.b i q)) ?_ (by rw[gi];exact hm.len) (λq b hq=>by split at hq;cases hq;exact hq) λq e' hq=>?_
 .rw[<- hm.born]
  apply fW;intro q;rw[bj,bj,qu];by_cases hq:q=j
  .subst hq;simp only[cZ,he,cU]
  .rw[if_neg hq]
 .rw[qu] at hq
  by_cases hqj:q=j
  .subst hqj
   simp only[cZ,ao] at hq;subst hq;obtain⟨l1,_⟩:=hm.ent q e he;refine⟨?_,?_⟩
   .rw[ue (by omega),if_neg (by omega)];exact l1
   .rw[Ej (by have:=hm.len;omega),if_pos rfl];exact hv
  .rw[if_neg hqj] at hq
   obtain⟨l1,l2⟩:=hm.ent q e' hq;refine⟨?_,?_⟩
   .rw[ue (by omega),if_neg (by omega)];exact l1
   .rw[ue (by omega),if_neg (by omega)];exact l2
theorem wE (hst:St G n I0 M w0 I β ob s a w) {i cl blk:Nat} {bs:List Nat} {r:List V} {es:Array MapEntry} (hm:VI P I M w0 β ob s w i bs cl r blk es)
 {vk vv:Value} (hk:LR (Wr M w0) I β w none vk x) (hv:LR (Wr M w0) I β w none vv y) :
 ∃ ob',St G n I0 M w0 I β ob' { s with bx:=up s.bx i (.mk (bs++[cl]) (cl+1)::(r++[x,y])) } a (World.putObj w blk (.map (es.push { key:=vk,val:=vv,born:=cl }) (cl+1))):=by
 have Pv:es.toList.length=bs.length:=by rw[<- hm.born,au]
 have cm:=hm.len;refine hst.reMap hm (es':=es.push { key:=vk,val:=vv,born:=cl }) (bs':=bs++[cl]) (cl':=cl+1) (od:=λq=>if q<1+r.length then ob (.b i q) else none) (by simp[hm.born]) (by simp[cm];omega)
  (λq b hq=>by split at hq;exact hq;cases hq) λq e' hq=>?_
 rw[Array.toList_push] at hq;by_cases hqj:q<es.toList.length
 .rw[az hqj] at hq
  obtain⟨l1,l2⟩:=hm.ent q e' hq;have g:∀ p,p<r.length->(r++[x,y]).getD p .un=r.getD p .un:=λp hp=>by simp[List.getD,az hp]
  refine⟨?_,?_⟩
  .rw[g _ (by omega),if_pos (by omega)];exact l1
  .rw[g _ (by omega),if_pos (by omega)];exact l2
 .rw[aG (by omega)] at hq
  have hq0:q - es.toList.length=0:=by have:=(ai.1 hq).1;simp at this;omega
  rw[hq0] at hq;simp only[bP,ao] at hq;subst hq;have e1:2*q=r.length:=by omega
  refine⟨?_,?_⟩
  .rw[if_neg (by omega),e1]
   have:(r++[x,y]).getD r.length .un=x:=(by simp[List.getD]);rw[this];exact hk
  .rw[if_neg (by omega),e1]
   have:(r++[x,y]).getD (r.length+1) .un=y:=(by simp[List.getD]);rw[this];exact hv
theorem abx {I:Ft} {w:World} {u1 u2:Value} {d1 d2:V} (h1:DR I w u1 d1) (h2:DR I w u2 d2):DR I w (.tuple #[u1,u2]) (.tup [d1,d2]):=by
 refine .tup _ _ rfl λq d hd=>?_
 match q with
 |0=>simp at hd;subst hd;exact h1
 |1=>simp at hd;subst hd;exact h2
 |q+2=>simp at hd
theorem vW {T:TypeId} {k z:V} {K:S->Prop} {vx vk vv:Value} {ox oy oz:Option Nat} (hst:St G n I0 M w0 I β ob s a w) (h:gY P T s x k z K)
 (hx:LR (Wr M w0) I β w ox vx x) (hy:LR (Wr M w0) I β w oy vk k) (hz:LR (Wr M w0) I β w oz vv z) :
 ∃ s' ob' w',K s'/\(Instr.mapUpdate T vx vk vv).run P w=.ok () w'/\St G n I0 M w0 I β ob' s' a w':=by
 unfold gY at h;obtain⟨i,bs,cl,r,res,z0,blk,kt,et,es,zv,hK,rfl,rfl,hm,hu,vQ,EF,vP,hz1,L8⟩:=px hst h hx hy;have hg:=fg (P:=P) hm.heap;cases res with
 |some j=>
  obtain⟨e,he,ID,MB⟩:=vP j rfl;simp only[cU,he,cX] at EF;obtain⟨ob',cN⟩:=EV hst hm he (hz.fz none) (f:=λe=>{ e with key:=vk,val:=vv }) (by rw[ID])
  have he':es[j]?=some e:=by rw[<- aS];exact he
  refine⟨_,ob',_,hK,?_,cN⟩;simp[Instr.mapUpdate,aU hu,hg,vQ,EF,he',MB,fL _ hm.heap,Result.andThen,World.putObj]
 |none=>simp only[kZ] at EF;obtain⟨ob',cN⟩:=wE hst hm (hy.fz none) (hz.fz none);refine⟨_,ob',_,hK,?_,cN⟩;simp[Instr.mapUpdate,aU hu,hg,vQ,EF,fL _ hm.heap,Result.andThen,World.putObj]
theorem AH {T:TypeId} {k:V} {K:S->V->Prop} {vx vk:Value} {ox oy:Option Nat} (hst:St G n I0 M w0 I β ob s a w) (h:fY P T s x k K)
 (hx:LR (Wr M w0) I β w ox vx x) (hy:LR (Wr M w0) I β w oy vk k) :
 ∃ s' ob' w' z u,K s' z/\(Instr.mapEntry T vx vk).run P w=.ok u w'/\St G n I0 M w0 I β ob' s' a w'/\LR (Wr M w0) I β w' none u z:=by
 unfold fY at h;obtain⟨i,bs,cl,r,res,z0,blk,kt,et,es,zv,hK,rfl,rfl,hm,hu,vQ,EF,vP,hz1,L8⟩:=px hst h hx hy;have hg:=fg (P:=P) hm.heap;have hI:∀ (o':Obj) b o,I b o->I b o/\(World.putObj w blk o').cell? ⟨b,o,none⟩=w.cell? ⟨b,o,none⟩:=λo' b o hb=>
  ⟨hb,hst.keeps (pA blk o') (λr e o ho=>by cases e;exact absurd ho (hm.fr o)) b o hb⟩
 cases res with
 |some j=>
  obtain⟨e,he,ID,MB⟩:=vP j rfl;simp only[cU,he,cX] at EF;obtain⟨l1,l2⟩:=hm.ent j e he;have he':es[j]?=some e:=by rw[<- aS];exact he
  have hbj:bs.getD j 0=e.born:=by rw[<- hm.born];simp[List.getD,he]
  have hr:(r.set (2*j+1) (r.getD (2*j+1) .un))=r:=by
   apply fW;intro q;rw[List.getElem?_set];split
   .rename_i e;subst e
    split
    .rename_i hl;simp[List.getD,hl]
    .rename_i hl;rw[bG (by omega)]
   .rfl
  have oS:up s.bx i (V.mk bs cl::r)=s.bx:=by rw[<- hm.bx];exact sy _ _
  have cN:∃ ob',St G n I0 M w0 I β ob' s a (World.putObj w blk (.map (es.modify j λe=>{ e with key:=vk }) cl)):=by
   have qu:∀ q,(es.modify j λe=>{ e with key:=vk }).toList[q]?=es.toList[q]?:=λq=>by
    rw[Array.toList_modify,List.getElem?_modify];by_cases hq:j=q
    .subst hq;rw[he,<- ID];simp
    .cases es.toList[q]?<;>simp[hq]
   have hl:(es.modify j λe=>{ e with key:=vk })=es:=dF (fW qu)
   rw[hl];obtain⟨ob',h'⟩:=hst.reMap hm (es':=es) (bs':=bs) (cl':=cl) (r':=r) (od:=λq=>ob (.b i q)) hm.born hm.len (λ_ _ h=>h) hm.ent;rw[oS] at h';exact⟨ob',h'⟩
  obtain⟨ob',cN⟩:=cN;refine⟨s,ob',_,_,.tuple #[e.val,.int .i64 e.born],hK,?_,cN,?_⟩
  .simp[Instr.mapEntry,aU hu,hg,vQ,EF,he',MB,fL _ hm.heap,Result.andThen,World.putObj,goInt]
  .simp only[LR]
   rw[hbj];exact(abx (vV l2) (.c _ _ (.lit _ rfl))).mono (hI _)
 |none=>
  simp only[kZ] at EF;obtain⟨ob',cN⟩:=wE hst hm (hy.fz none) L8;refine⟨_,ob',_,_,.tuple #[zv,.int .i64 cl],hK,?_,cN,?_⟩
  .simp[Instr.mapEntry,aU hu,hg,vQ,EF,hz1,fL _ hm.heap,Result.andThen,World.putObj,goInt]
  .simp only[LR]
   exact(abx (vV L8) (.c _ _ (.lit _ rfl))).mono (hI _)
theorem M8 {es:List MapEntry} {m:Int} {j:Nat} (h:(es.map (·.born)).findIdx? (λ(b:Nat)=>(b:Int)==m)=some j):∃ e,es[j]?=some e/\es.findIdx? (λe=>(e.born:Int)==m)=some j:=by
 have h1:es.findIdx? (λe=>(e.born:Int)==m)=some j:=by rw[List.findIdx?_map] at h;exact h
 have bF:j<es.length:=by have:=eF.1 h1;exact this.1
 exact⟨_,ah bF,h1⟩
theorem AI {T:TypeId} {k z:V} {K:S->Prop} {vx vk vv:Value} {ox oy oz:Option Nat} (hst:St G n I0 M w0 I β ob s a w) (h:fJ s x k z K)
 (hx:LR (Wr M w0) I β w ox vx x) (hy:LR (Wr M w0) I β w oy vk k) (hz:LR (Wr M w0) I β w oz vv z) :
 ∃ s' ob' w',K s'/\(Instr.entryStore T vx vk vv).run P w=.ok () w'/\St G n I0 M w0 I β ob' s' a w':=by
 unfold fJ at h;split at h
 .rename_i i ik m
  split at h
  .rename_i bs cl r hb
   split at h
   .rename_i j hj
    obtain⟨hi,hK⟩:=h;simp only[LR] at hx;obtain⟨blk,hβ,rfl⟩:=hx;obtain⟨es,hm⟩:=hst.mapW (P:=P) hi hb hβ;have hg:=fg (P:=P) hm.heap;have:=hy.lit;subst this;rw[<- hm.born] at hj;obtain⟨e,he,hf⟩:=M8 hj;have IJ:es.findIdx? (λe=>(e.born:Int)==m)=some j:=(by rw[show es=es.toList.toArray by simp,List.findIdx?_toArray];exact hf);obtain⟨ob',cN⟩:=EV hst hm he (hz.fz none) (f:=λe=>{ e with val:=vv }) rfl
    refine⟨_,ob',_,hK,?_,cN⟩;simp[Instr.entryStore,hg,IJ,asInt,asIntOf,fL _ hm.heap,Result.andThen,World.putObj]
   .exact h.elim
  .exact h.elim
 .exact h.elim
theorem VJ {t:Nat} {u:Value} (h:a.tmps.getD t undef=u) (ht:t<a.tmps.size):a.put (some t) u=a:=by
 have:a.tmps.setIfInBounds t u=a.tmps:=by
  apply na (by simp);intro i h1 h2;rw[gv];split
  .rename_i e;subst e;rw[<- h];simp[ht]
  .rfl
 simp only[Act.put,this]
theorem Jb {t:Nat} {ty:TypeId} {K:Option V->V->Prop} (hst:St G n I0 M w0 I β ob s a w) (hd:∀ d,o.dst=some d->d<n) (h:EL s (s.fr t) K) :
 ∃ it z u w',K it z/\(Instr.next (a.tmps.getD t undef) false ty).run P w=.ok u w'/\SE G n I0 M w0 ((match it with | some x=>{ s with fr:=up s.fr t x } | none=>s:S).put o.dst z) (a.put o.dst u) w':=by
 unfold EL at h;have hx:=hst.fr t;split at h
 .rename_i i since stepped seen tp
  rw[tp] at hx;split at h
  .rename_i bs cl r hb
   obtain⟨⟨hi,hsc,u3⟩,afX,DX⟩:=h;simp only[LR] at hx;obtain⟨blk,m,tR,zN,hβ,hv,hh,hni⟩:=hx;obtain⟨es,hm⟩:=hst.mapW (P:=P) hi hb hβ;rw[hv];rcases run_next_at (P:=P) w ty blk m since stepped seen.toArray es cl hh hm.heap (λx hx=>u3 _ (by rw[<- hm.born];exact bM.2 ⟨x,hx,rfl⟩)) hsc with⟨h0,bO⟩ | ⟨e,he,w1,xu,bO⟩
   .refine⟨none,_,_,_,afX λb hbm=>?_,bO,?_⟩
    .rw[<- hm.born] at hbm
     obtain⟨x,hxm,rfl⟩:=bM.1 hbm;have:=Array.size_eq_zero_iff.1 h0;unfold leftOf at this;rw[Array.filter_eq_empty_iff] at this;have h2:=this x (by simpa using hxm);simpa using h2
    .cases lP:o.dst with
     |none=>exact⟨_,_,_,hst⟩
     |some d=>
      exact⟨_,_,_,hst.put d (hd d lP) (o:=none) (by
       simp only[LR];refine .tup _ _ rfl λq x hq=>?_
       match q with
       |0=>simp at hq;subst hq;exact .c _ _ (.lit _ rfl)
       |q+1=>simp at hq) FreeOb.nothing⟩
   .have jF:e∈es.toList/\e.born∉seen:=by unfold leftOf at he;simp only[Array.toList_filter,eW] at he;exact⟨he.1,by simpa using he.2⟩
    obtain⟨j,hj⟩:=List.getElem?_of_mem jF.1;obtain⟨l1,l2⟩:=hm.ent j e hj;have hbj:bs[j]?=some e.born:=(by rw[<- hm.born,bj,hj];rfl);refine⟨_,_,_,_,DX j e.born hbj jF.2,bO,?_⟩;have om:St G n I0 M w0 I β ob s a w1:=by rcases xu with rfl | rfl;exact hst;exact hst.drew
    have iz:w1.heap=w.heap:=by rcases xu with rfl | rfl<;>rfl
    have fK:t<a.tmps.size:=by
     by_cases ht:t<a.tmps.size
     .exact ht
     .exfalso
      have:a.tmps.getD t undef=undef:=(by simp[dj (ep ht)]);rw[this] at hv;cases hv
    have xm:blk<w1.heap.size:=(by rw[iz];exact(hst.obnd _ _ tR).1);have hc:=om.clr t;have hL:∀ L,upL ob (.t t) none L≠some blk:=λL hL=>by
     simp only[upL] at hL;split at hL
     .cases hL
     .rename_i gZ;exact gZ (hst.oinj _ _ blk hL tR)
    have hβn:∀ q,β q≠some blk:=λq hq=>hst.obx _ blk q tR hq;have hg:=hc.growRow (I':=I) (pA (w:=w1) blk (.mapIter (some m) since (seen.toArray.push e.born) cl)) zN (λo ho=>absurd ho (hni o)) hL hβn (λ_ _ h=>h) (λ_ _ h=>.inl h) (by rw[putObj_size];exact xm);have hp:=hg.put t (by rw[<- hst.size];exact fK) (v:=.pointer (some ⟨blk,0,none⟩)) (x:=.it i since cl (seen++[e.born])) (o:=some blk) (by
     simp only[LR];exact⟨blk,m,rfl,zN,hβ,rfl,by rw[ov xm];simp,hni⟩) (λb hb=>by
     cases hb;refine⟨⟨by rw[putObj_size];exact xm,zN⟩,λL yO=>?_,hβn⟩;simp only[upL] at yO;split at yO
     .cases yO
     .exact hL L (by simp only[upL];split<;>simp_all))
    rw[VJ hv fK] at hp;have EE:(s.clr t).put (some t) (.it i since cl (seen++[e.born]))={ s with fr:=up s.fr t (.it i since cl (seen++[e.born])) }:=by simp only[S.clr,S.put];congr 1;funext q;simp only[up];split<;>simp_all
    rw[EE] at hp;cases lP:o.dst with
    |none=>exact⟨_,_,_,hp⟩
    |some d=>
     refine⟨_,_,_,hp.put d (hd d lP) (o:=none) ?_ FreeOb.nothing⟩;have hI:∀ b o,I b o->I b o/\(World.putObj w1 blk (.mapIter (some m) since (seen.toArray.push e.born) cl)).cell? ⟨b,o,none⟩=w.cell? ⟨b,o,none⟩:=λb o hb=>by refine⟨hb,dR (a:=⟨b,o,none⟩) ?_⟩;have gZ:b≠blk:=λe=>hni o (by rw[<- e];exact hb);exact(pz gZ).trans (by rw[iz])
     have:=(DR.tup (w:=w) (I:=I) #[.bool true,e.key,e.val] [.c (.lit (.bool true)),(r.getD (2*j) .un).dr,(r.getD (2*j+1) .un).dr] rfl λq x hq=>by
      match q with
      |0=>simp at hq;subst hq;exact .c _ _ (.lit _ rfl)
      |1=>simp at hq;subst hq;exact vV l1
      |2=>simp at hq;subst hq;exact vV l2
      |q+3=>simp at hq).mono hI
     simp only[LR];exact this
  .exact h.elim
 .exact h.elim
end
section
variable {P:Program} {G:Gl} {tr:List Nat} {n:Nat} {I0:Ft} {M:Mx} {w0:World} {I:Ft} {β:Nat->Option Nat} {ob:Loc->Option Nat} {s:S} {a:Act} {w:World} {o:Oper}
 {next:Act->World->Prop} {Q:Exit->Act->World->Prop} {base:Nat->Prop} {v:Value} {x y:V} {K:V->Prop}
theorem St.write (hst:St G n I0 M w0 I β ob s a w) {b k:Nat} {blk:Nat} {cs:List C} {vs:List Value} (hb:b<s.nb) (hβ:β b=some blk) (ly:ck (s.bx b)=false) (cm:vs.length=cs.length) (vO:k+cs.length<=(s.bx b).length)
 (hc:∀ (q:Nat) (c:C),cs[q]?=some c->∃ u:Value,vs[q]?=some u/\CR I w u c) :
 ∃ (cur:Array Value) (T:RT) (ob':Loc->Option Nat),w.heap[blk]?=some (.cells cur T.t T.fz)/\T.ok cur.size/\(s.bx b).length<=cur.size/\(∀ u∈vs,u.oneCell'=true)/\
  St G n I0 M w0 I β ob' { s with bx:=up s.bx b (eQ (s.bx b) k (cs.map .c)) } a (w.setRow blk (cur.toList.take k++vs++cur.toList.drop (k+vs.length)).toArray):=by
 obtain⟨tj,cur,e1,e2,e3,e4,_⟩:=hst.bx b hb;obtain⟨T,e3,_,hT⟩:=e3.cells ly;rw[hβ] at e1;cases e1;have ke:∀ u∈vs,u.oneCell'=true:=λu hu=>by
  obtain⟨q,hq⟩:=eB.1 hu;have nE:q<cs.length:=by rw[<- cm];exact(ai.1 hq).1
  obtain⟨u',Br,jr⟩:=hc q cs[q] (ah nE);rw[hq] at Br;cases Br;exact jr.oneCell
 refine⟨cur,T,_,e3,hT,e4,ke,hst.setBox (i:=b) (k:=k) (blk:=blk) (cur:=cur) (T:=T) (vs:=vs) (ds:=cs.map .c) (od:=λ_=>none) hb hβ e3 hT (by simpa using cm) (by simpa using vO) (λq=>?_) ke
  (λ_ _ h=>by cases h) (λ_ _ _ h=>by cases h) ly (λd hd=>?_)⟩
 .by_cases hq:q<cs.length
  .obtain⟨u,hu,jr⟩:=hc q cs[q] (ah hq)
   have e1:vs.getD q undef=u:=(by rw[aA,hu];rfl);have e2:(cs.map V.c).getD q .un=.c cs[q]:=(by simp[List.getD,hq]);rw[e1,e2];exact .ofC jr
  .have e2:(cs.map V.c).getD q .un=.un:=by simp[List.getD,bG (ep hq)]
   rw[e2];simp only[LR];exact .un _
 .obtain⟨c,_,rfl⟩:=bM.1 hd;rfl
theorem St.write_nil (hst:St G n I0 M w0 I β ob s a w) {b k:Nat}:St G n I0 M w0 I β ob { s with bx:=up s.bx b (eQ (s.bx b) k []) } a w:=by
 have:eQ (s.bx b) k []=s.bx b:=by simp[eQ]
 rw[this,sy];exact hst
theorem VK {U e':TypeId} {vy:Value} {oy:Option Nat} {sz:Nat} {ys:List (List C)} (hst:St G n I0 M w0 I β ob s a w) (hy:LR (Wr M w0) I β w oy vy y) (h:wo s y=some (.sl ys)) (hu:P.underlying U=some (.slice e')) (hs:∀ x∈ys,x.length=sz):IZ P I w U vy sz ys:=by
 have flat:∀ {es:List (List C)} {blk off' cap':Nat} {f:Nat->Nat->Value} {z:Nat},vy=.slice (some ⟨blk,off',none⟩) es.length cap'->(∀ e∈es,e.length=z)->es=ys->
  (∀ p q,p<es.length->q<z->w.cell? ⟨blk,off'+p*z+q,none⟩=some (f p q))->(∀ p q e c,es[p]?=some e->e[q]?=some c->CR I w (f p q) c)->IZ P I w U vy sz ys:=by
  rintro es blk off' cap' f z rfl h1 rfl h2 h3;obtain⟨news,vC,L6,MM,II⟩:=VF (J:=λ_ _=>True) hs h1 (λi j hi hj=>⟨h2 i j hi hj,trivial⟩) h3;exact⟨news,Src.ofSlice w hu ⟨blk,off',none⟩ _ _ news vC (λq u hq=>by rw[c8];exact(L6 q u hq).1) II,MM⟩
 cases y<;>simp only[wo] at h<;>try cases h
 .exact(RD.ofCR hy.toC).src hu hs
 .exact(RD.ofCR hy.1).src hu hs
 .simp only[aW] at h
  obtain⟨cs,_,h2⟩:=h;cases h2
 .simp only[LR] at hy
  obtain⟨es,blk,off',cap',f,e1,e2,_,_,h4,h5,h6⟩:=GM hst h hy;cases e1;exact flat e2 h4 rfl h5 h6
def RelL (I:Ft) (w:World) (L:List Value) (cs:List C):Prop:=∀ (q:Nat) (c:C),cs[q]?=some c->∃ u:Value,L[q]?=some u/\CR I w u c
theorem RelL.take {L:List Value} {cs:List C} (h:RelL I w L cs) (k:Nat):RelL I w (L.take k) (cs.take k):=λq c hq=>by
 rw[cC] at hq;split at hq
 .rename_i hk
  obtain⟨u,h1,h2⟩:=h q c hq;exact⟨u,by rw[cC,if_pos hk];exact h1,h2⟩
 .cases hq
theorem RelL.drop {L:List Value} {cs:List C} (h:RelL I w L cs) (k:Nat):RelL I w (L.drop k) (cs.drop k):=λq c hq=>by rw[cK] at hq;obtain⟨u,h1,h2⟩:=h _ c hq;exact⟨u,by rw[cK];exact h1,h2⟩
theorem RelL.append {L L':List Value} {cs cs':List C} (h:RelL I w L cs) (h':RelL I w L' cs') (hl:L.length=cs.length):RelL I w (L++L') (cs++cs'):=λq c hq=>by
 by_cases hq1:q<cs.length
 .rw[az hq1] at hq
  obtain⟨u,h1,h2⟩:=h q c hq;exact⟨u,by rw[az (by omega)];exact h1,h2⟩
 .rw[aG (by omega)] at hq
  obtain⟨u,h1,h2⟩:=h' _ c hq;exact⟨u,by rw[aG (by omega),hl];exact h1,h2⟩
theorem pB {α:Type} {sz:Nat} {es:List (List α)} (h:∀ e∈es,e.length=sz) {k:Nat} (hk:k<=es.length):(es.take k).flatten=es.flatten.take (k*sz):=by
 have e:es.flatten=(es.take k).flatten++(es.drop k).flatten:=by rw[<- dm,dK]
 have hl:(es.take k).flatten.length=k*sz:=by rw[bK _ (λx hx=>h x (c9 hx)),aQ,bR hk]
 rw[e,k9 hl]
theorem pC {α:Type} {sz:Nat} {es:List (List α)} (h:∀ e∈es,e.length=sz) {k:Nat} (hk:k<=es.length):(es.drop k).flatten=es.flatten.drop (k*sz):=by
 have e:es.flatten=(es.take k).flatten++(es.drop k).flatten:=by rw[<- dm,dK]
 have hl:(es.take k).flatten.length=k*sz:=by rw[bK _ (λx hx=>h x (c9 hx)),aQ,bR hk]
 rw[e,List.drop_left' hl]
theorem St.gsSet (hst:St G n I0 M w0 I β ob s a w) {b k blk cap sz:Nat} {e:TypeId} {es es':List (List C)} {cur:Array Value} {L:List Value} (hb:b<s.nb) (ly:ck (s.bx b)=false)
 (hk:(s.bx b)[k]?=some (.gs (some (.slice (some ⟨blk,0,none⟩) es.length cap)) (some (e,sz)) es)) (iz:w.heap[blk]?=some (.cells cur e (0,0))) (fK:cur.size=cap*sz) (cm:es'.length=es.length) (pG:∀ x∈es',x.length=sz)
 (hL:L.length=cur.size) (ke:∀ u∈L,u.oneCell'=true) (qq:RelL I w L es'.flatten) :
 St G n I0 M w0 I β ob { s with bx:=up s.bx b ((s.bx b).set k (.gs (some (.slice (some ⟨blk,0,none⟩) es.length cap)) (some (e,sz)) es')) } a (w.setRow blk L.toArray):=by
 rcases hst.gsAt hb hk with⟨_,_,_,hE⟩ | ⟨cur1,e1,sz1,j7,hE,_,g1,g2,g3,g4,gm,g5,g6,g7⟩
 .cases hE
 cases hE;rw[iz] at g1;simp only[ao,Obj.cells.injEq,gC] at g1;subst g1;have xm:blk<w.heap.size:=(bg.1 iz).1;have hg:w.grb (w.setRow blk L.toArray) (some blk):=⟨rfl,rfl,rfl,by simp,λk _ hk=>jZ w blk k _ (λe=>hk (by rw[e])),ab _⟩;have kD:∀ b o,I b o->I b o/\(w.setRow blk L.toArray).cell? ⟨b,o,none⟩=w.cell? ⟨b,o,none⟩:=λb o hb=>⟨hb,hst.keeps hg (λr e o ho=>by cases e;exact absurd ho (g7 o)) b o hb⟩;refine hst.recell hb hk rfl rfl j7 hg (λo ho=>absurd ho (g7 o)) (λ_ _ h=>h) (λ_ _ h=>.inl h) λb1 cur0 _ _ hx=>?_;obtain⟨h1,h2⟩:=hx.gsO;refine⟨h1,?_⟩;have hv:=h1 _ rfl;have aaU:Wr M w0 blk:=(hst.obnd _ _ j7).2;exact .inr ⟨e,blk,cap,L.toArray,sz,rfl,rfl,by rw[hv,cm],aaU,lR w blk cur _ e (0,0) iz,by rw[cm];exact g4,gm,by rw[eN,hL,fK],pG,λj c hj=>by
  obtain⟨u,q1,q2⟩:=qq j c hj;have:L.toArray.getD j undef=u:=by rw[ak,dw,q1];rfl
  rw[this];exact q2.mono kD,λu hu=>ke u (gr.1 hu),g7⟩
theorem St.ggSet (hst:St G n I0 M w0 I β ob s a w) {b k blk len cap sz:Nat} {e:TypeId} {es:List (List C)} (hb:b<s.nb) (hk:(s.bx b)[k]?=some (.gg (.slice (some ⟨blk,0,none⟩) len cap) (some (e,sz)) es)) :
 ∃ cur:Array Value,(len=es.length/\w.heap[blk]?=some (.cells cur e (0,0))/\cur.size=cap*sz/\es.length<=cap/\(∀ x∈es,x.length=sz)/\(∀ j c,es.flatten[j]?=some c->CR I w (cur.getD j undef) c)/\(∀ u∈cur,u.oneCell'=true))/\
  ∀ (es':List (List C)) (L:List Value),es'.length=es.length->(∀ x∈es',x.length=sz)->L.length=cur.size->(∀ u∈L,u.oneCell'=true)->RelL I w L es'.flatten->
   St G n I0 M w0 I β ob { s with bx:=up s.bx b ((s.bx b).set k (.gg (.slice (some ⟨blk,0,none⟩) len cap) (some (e,sz)) es')) } a (w.setRow blk L.toArray):=by
 obtain⟨b1,cur0,e1,e2,e3,e4,e5,e7⟩:=hst.bx b hb;have h5:=e5 k;have mN:(s.bx b).getD k .un=.gg (.slice (some ⟨blk,0,none⟩) len cap) (some (e,sz)) es:=by simp[List.getD,hk]
 rw[mN] at h5;have h6:OwnG (Wr M w0) I w (some (e,sz)) es (ob (.b b k)) (.slice (some ⟨blk,0,none⟩) len cap):=h5;rcases h6 with⟨_,hE,_⟩ | ⟨e',tj,cap',cur,sz',j7,hE,hv,aaU,hh,hc,hm,hs,hl,hf,ke,gw⟩
 .cases hE
 cases hE;simp only[eM,ao,iF] at hv;obtain⟨⟨rfl,_⟩,rfl,rfl⟩:=hv;refine⟨cur,⟨rfl,hh,hs,hc,hl,hf,ke⟩,λes' L cm pG hL aob qq=>?_⟩;have hg:w.grb (w.setRow blk L.toArray) (some blk):=⟨rfl,rfl,rfl,by simp,λk _ hk=>jZ w blk k _ (λe=>hk (by rw[e])),ab _⟩;have kD:∀ b o,I b o->I b o/\(w.setRow blk L.toArray).cell? ⟨b,o,none⟩=w.cell? ⟨b,o,none⟩:=λb o hb=>⟨hb,hst.keeps hg (λr e o ho=>by cases e;exact absurd ho (gw o)) b o hb⟩;refine hst.recell hb hk rfl rfl j7 hg (λo ho=>absurd ho (gw o)) (λ_ _ h=>h) (λ_ _ h=>.inl h) λb1 cur0 _ _ hx=>?_;show OwnG (Wr M w0) I (w.setRow blk L.toArray) (some (e,sz)) es' (some blk) _;exact .inr ⟨e,blk,cap,L.toArray,sz,rfl,rfl,by rw[cm],aaU,lR w blk cur _ e (0,0) hh,by rw[cm];exact hc,hm,by rw[eN,hL,hs],pG,λj c hj=>by
  obtain⟨u,q1,q2⟩:=qq j c hj;have:L.toArray.getD j undef=u:=by rw[ak,dw,q1];rfl
  rw[this];exact q2.mono kD,λu hu=>aob u (gr.1 hu),gw⟩
theorem G1 {α:Type} {sz:Nat} {es:List (List α)} (h:∀ e∈es,e.length=sz) {q:Nat} (hq:q<es.length) (x:List α):(es.set q x).flatten=es.flatten.take (q*sz)++x++es.flatten.drop (q*sz+sz):=by rw[List.set_eq_take_append_cons_drop,if_pos hq,dm,cE,pB h (Nat.le_of_lt hq),pC h hq,eA,aH]
theorem BJ {t u ty:TypeId} {vx vy:Value} {ox oy:Option Nat} {K:S->V->Prop} (hst:St G n I0 M w0 I β ob s a w) (h:fE P s K [t,u] [x,y]) (hx:LR (Wr M w0) I β w ox vx x) (hy:LR (Wr M w0) I β w oy vy y) :
 ∃ s' ob' w' z v,K s' z/\(Builtin.append_ #[t,u] ty #[vx,vy]).run P w=.ok v w'/\St G n I0 M w0 I β ob' s' a w'/\LR (Wr M w0) I β w' none v z:=by
 unfold fE at h;split at h
 .rename_i t' u' b off len cap sz y' vR sw
  simp only[cM,gC] at vR sw;obtain⟨rfl,rfl⟩:=vR;obtain⟨rfl,rfl⟩:=sw;split at h
  .rename_i e _ _ _ _ _ _ ys hi hyf
   obtain⟨j,d,h1,h2,h3,_⟩:=bH hi;have hd:=dL h3;subst hd;split at h
   .rename_i ie mj
    obtain⟨j',d',jE,nD,_,eZ,_⟩:=bH mj;obtain⟨⟨rfl,fK,hp,hb,ly,vO,mZ,uZ⟩,h⟩:=h;simp only[LR] at hx;obtain⟨kX,blk,off',cap',D6,hβ,o9,rfl⟩:=hx;obtain⟨news,rJ,MM⟩:=VK hst hy hyf h2 uZ;have qt:Src P j'.size t vy ys.length news w:=(by rw[<- eZ,fK];exact rJ);have vC:=rJ.newsLen;have lG:=bK ys uZ;by_cases h0:ys=[]
    .subst h0
     have:news=[]:=dz (by rw[vC];simp);subst this;refine⟨_,_,w,_,_,h,ml t t ty e j' h2 jE _ len cap' (by omega) qt,hst.write_nil,?_⟩;simp only[LR];exact⟨by simpa using kX,blk,off',cap',D6,hβ,o9,rfl⟩
    .have hyl:0<ys.length:=gU.2 h0
     have:off'=off:=by rcases o9 with h4 | h4;omega;exact h4
     subst this;have hm:(len+ys.length)*sz<=cap*sz:=aO _ mZ;rw[df] at hm;obtain⟨cur,T,ob',iz,hT,ak5,ke,cN⟩:=hst.write (k:=off'+len*sz) (cs:=ys.flatten) (vs:=news) hb hβ ly (by rw[vC,lG]) (by rw[lG];omega) MM;have bO:=ja (P:=P) (w:=w) t t ty e j' h2 jE blk off' len cap' cur T iz hT vy ys.length news qt (by omega) (by rw[<- eZ,fK,vC];omega);rw[<- eZ,fK] at bO;refine⟨_,_,_,_,_,h,bO,cN,?_⟩;simp only[LR];exact⟨mZ,blk,off',cap',D6,hβ,.inr rfl,rfl⟩
   .exact h.elim
  .exact h.elim
 .rename_i t' u' blk n' cap blk2 off m cap2 vR sw
  simp only[cM,gC] at vR sw;obtain⟨rfl,rfl⟩:=vR;obtain⟨rfl,rfl⟩:=sw;obtain rfl:=hx.toC.ex_inv;obtain rfl:=hy.toC.ex_inv;split at h
  .rename_i e _ _ _ _ _ _ hi
   obtain⟨j,d,h1,h2,h3,_⟩:=bH hi;have hd:=dL h3;subst hd;split at h
   .rename_i ie mj
    obtain⟨j',d',jE,nD,_,eZ,_⟩:=bH mj;obtain⟨b,k,jj,E,es,⟨rfl,rfl,hp,⟨e1,rfl⟩,hb,ly,hk,o9,hjm,hnm,hmc⟩,h⟩:=h;rcases hst.gsAt hb hk with⟨_,_,_,hE⟩ | ⟨cur,e2,sz,j7,hE,_,g1,g2,g3,g4,gm,g5,g6,g7⟩
    .cases hE
    simp only[ao,dJ] at hE;obtain⟨rfl,rfl⟩:=hE;generalize fK:ie.size=sz at *;by_cases h0:m=0
    .subst h0
     have qt:Src P j'.size t (.slice (some ⟨blk2,off,none⟩) 0 cap2) 0 [] w:=Src.ofSlice w h2 ⟨blk2,off,none⟩ _ _ [] (by simp) (by simp) (by simp);have akZ:es.take n'++(es.drop jj).take 0++es.drop (n'+0)=es:=(by simp);rw[akZ] at h;have qx:(s.bx b).set k (.gs (some (.slice (some ⟨blk2,0,none⟩) es.length cap)) (some (e1,sz)) es)=s.bx b:=(by obtain⟨DW,hke⟩:=ai.1 hk;rw[<- hke,List.set_getElem_self]);rw[qx,sy] at h;exact⟨_,_,w,_,_,h,ml t t ty e j' h2 jE _ n' cap (by omega) qt,hst,.ofC (.ex _ rfl rfl)⟩
    .have aaV:off=jj*sz:=by rcases o9 with h4 | h4;exact absurd h4 h0;exact h4
     subst aaV;have j8:cur.toList.length=cur.size:=bX;have q1:(jj+m)*sz<=cur.size:=(by rw[g2];exact aO _ (by omega));have q2:(n'+m)*sz<=cur.size:=(by rw[g2];exact aO _ (by omega));rw[df] at q1 q2;have vC:((cur.toList.drop (jj*sz)).take (m*sz)).length=m*sz:=(by rw[aQ,cG,j8];exact bR (by omega));have jF:∀ u∈(cur.toList.drop (jj*sz)).take (m*sz),u.oneCell'=true:=λu hu=>g6 u (cu.1 (cT (c9 hu)));have qt:Src P j'.size t (.slice (some ⟨blk2,jj*sz,none⟩) m cap2) m ((cur.toList.drop (jj*sz)).take (m*sz)) w:=by
      rw[<- eZ];refine Src.ofSlice w h2 ⟨blk2,jj*sz,none⟩ _ _ _ vC (λq u hq=>?_) jF;rw[c8,ff w blk2 (jj*sz+q) cur e1 (0,0) g1];rw[cC] at hq;split at hq
      .rw[cK,aS] at hq;exact hq
      .cases hq
     have bO:=ja (P:=P) (w:=w) t t ty e j' h2 jE blk2 0 n' cap cur (.of e1) g1 RT.of_ok _ m _ qt (by omega) (by rw[<- eZ,vC];omega);rw[<- eZ,vC] at bO;simp only[aJ] at bO;have tO:RelL I w cur.toList es.flatten:=λq c hq=>by have nE:=(ai.1 hq).1;rw[bK es g3] at nE;have:=aO sz g4;refine⟨cur.getD q undef,?_,g5 q c hq⟩;rw[aS,ak,ax (show q<cur.size by omega)];rfl
     have lG:=bK es g3;have kg:=aO sz (show n'+m<=es.length from hnm);have aaW:=aO sz (show jj+m<=es.length from hjm);rw[df] at kg aaW;have hdl:∀ x∈es.drop jj,x.length=sz:=λx hx=>g3 x (cT hx);have cN:=hst.gsSet (L:=cur.toList.take (n'*sz)++(cur.toList.drop (jj*sz)).take (m*sz)++cur.toList.drop (n'*sz+m*sz)) (es':=es.take n'++(es.drop jj).take m++es.drop (n'+m)) hb ly hk g1 g2
      (by simp only[ae,aQ,cG];omega)
      (λx hx=>by
       rcases ba.1 hx with hx | hx
       .rcases ba.1 hx with hx | hx
        .exact g3 x (c9 hx)
        .exact hdl x (c9 hx)
       .exact g3 x (cT hx))
      (by rw[ae,ae,vC,aQ,cG,j8,bR (by omega)];omega)
      (λu hu=>by
       rcases ba.1 hu with hu | hu
       .rcases ba.1 hu with hu | hu
        .exact g6 u (cu.1 (c9 hu))
        .exact jF u hu
       .exact g6 u (cu.1 (cT hu)))
      (by
       rw[dm,dm,pB g3 (by omega),pB hdl (by rw[cG];omega),pC g3 (by omega),pC g3 (by omega),df];refine RelL.append (RelL.append (tO.take _) ((tO.drop _).take _) ?_) (tO.drop _) ?_
       .rw[aQ,aQ,j8,lG,bR (by omega),bR (by omega)]
       .rw[ae,ae,vC,aQ,aQ,aQ,cG,j8,lG,bR (by omega),bR (by omega),bR (by omega)])
     exact⟨_,_,_,_,_,h,bO,cN,.ofC (.ex _ rfl rfl)⟩
   .exact h.elim
  .exact h.elim
 .exact h.elim
theorem G2 {t ty:TypeId} {vx:Value} {ox:Option Nat} {K:S->Prop} (hst:St G n I0 M w0 I β ob s a w) (h:jw P s K [t] [x]) (hx:LR (Wr M w0) I β w ox vx x) :
 ∃ s' ob' w',K s'/\(Builtin.clear_ #[t] ty #[vx]).run P w=.ok (.tuple #[]) w'/\St G n I0 M w0 I β ob' s' a w':=by
 unfold jw at h;split at h
 .rename_i t' b off len cap sz vR sw
  simp only[cM,gC] at vR sw;subst vR;subst sw;split at h
  .rename_i e _ _ _ _ _ _ hi
   obtain⟨j,d,h1,h2,h3,_⟩:=bH hi;have hd:=dL h3;subst hd;split at h
   .rename_i m _ _ z _ _ mj
    obtain⟨j',d',jE,nD,_,eZ,_,_,mG,_⟩:=bH mj;simp only at mG eZ;obtain⟨⟨rfl,hp,tX,hb,ly,vO⟩,h⟩:=h;split at mG
    .rename_i zv tL
     simp only[LR] at hx;obtain⟨kX,blk,off',cap',D6,hβ,o9,rfl⟩:=hx;have tg:=lA (I:=I) (w:=w) mG.symm;by_cases h0:len=0
     .subst h0
      refine⟨_,_,w,h,?_,hst.write_nil⟩;unfold Builtin.clear_;simp[aU h2]
     .have:off'=off:=by rcases o9 with h4 | h4;omega;exact h4
      subst this;have e1:((Array.range (len*z.length)).map (zv.cells[· % zv.cells.size]!))=Builtin.zeroCells zv.cells len:=(by unfold Builtin.zeroCells;rw[tg.1]);have pa:=rQ tg (by omega) len;rw[e1] at pa;have lG:(List.replicate len z).flatten.length=len*m:=(by rw[bK (sz:=m) _ (λx hx=>by rw[fu hx];exact tX),List.length_replicate]);have AZ:(Builtin.zeroCells zv.cells len).toList.length=(List.replicate len z).flatten.length:=(by rw[bX];exact pa.1);obtain⟨cur,T,ob',iz,hT,ak5,ke,cN⟩:=hst.write (k:=off') (cs:=(List.replicate len z).flatten) (vs:=(Builtin.zeroCells zv.cells len).toList) hb hβ ly AZ (by rw[lG];exact vO) (λq c hq=>by have:=pa.2 q c hq;have nE:q<(Builtin.zeroCells zv.cells len).size:=(by rw[<- bX,AZ];exact(ai.1 hq).1);refine⟨(Builtin.zeroCells zv.cells len)[q],by rw[aS,ax nE],?_⟩;rw[ak] at this;rw[ax nE] at this;exact this);have bO:=gq (P:=P) blk off' T (Builtin.zeroCells zv.cells len).toList 0 cur w iz hT (by rw[AZ,lG];omega) ke;simp only[eT] at bO;refine⟨_,_,_,h,?_,cN⟩;obtain⟨len,rfl⟩:∃ k,len=k+1:=⟨len - 1,by omega⟩;unfold Builtin.clear_;simp[aU h2,zeroValue,typeInfo,jE,tL,bO]
    .cases mG
   .exact h.elim
  .exact h.elim
 .rename_i t' blk off m cap2 vR sw
  simp only[cM,gC] at vR sw;subst vR;subst sw;obtain rfl:=hx.toC.ex_inv;split at h
  .rename_i e _ _ _ _ _ _ hi
   obtain⟨j,d,h1,h2,h3,_⟩:=bH hi;have hd:=dL h3;subst hd;split at h
   .rename_i sz0 _ _ z _ _ mj
    obtain⟨j',d',jE,nD,_,eZ,_,_,mG,_⟩:=bH mj;simp only at mG eZ;obtain⟨b,k,jj,cap,E,es,⟨hp,tX,⟨e1,rfl⟩,hb,ly,hk,o9,hjm⟩,h⟩:=h;split at mG
    .rename_i zv tL
     have tg:=lA (I:=I) (w:=w) mG.symm;rcases hst.gsAt hb hk with⟨_,_,_,hE⟩ | ⟨cur,e2,sz,j7,hE,_,g1,g2,g3,g4,gm,g5,g6,g7⟩
     .cases hE
     simp only[ao,dJ] at hE;obtain⟨rfl,rfl⟩:=hE;by_cases h0:m=0
     .subst h0
      have akZ:es.take jj++List.replicate 0 z++es.drop (jj+0)=es:=(by simp);rw[akZ] at h;have qx:(s.bx b).set k (.gs (some (.slice (some ⟨blk,0,none⟩) es.length cap)) (some (e1,sz0)) es)=s.bx b:=(by obtain⟨DW,hke⟩:=ai.1 hk;rw[<- hke,List.set_getElem_self]);rw[qx,sy] at h;refine⟨_,_,w,h,?_,hst⟩;unfold Builtin.clear_;simp[aU h2]
     .have aaV:off=jj*sz0:=by rcases o9 with h4 | h4;exact absurd h4 h0;exact h4
      subst aaV;have ez:((Array.range (m*z.length)).map (zv.cells[· % zv.cells.size]!))=Builtin.zeroCells zv.cells m:=(by unfold Builtin.zeroCells;rw[tg.1]);have pa:=rQ tg (by omega) m;rw[ez] at pa;have hfz:(List.replicate m z).flatten.length=m*sz0:=(by rw[bK (sz:=sz0) _ (λx hx=>by rw[fu hx];exact tX),List.length_replicate]);have AZ:(Builtin.zeroCells zv.cells m).toList.length=m*sz0:=(by rw[bX,pa.1,hfz]);have j8:cur.toList.length=cur.size:=bX;have q1:(jj+m)*sz0<=cur.size:=(by rw[g2];exact aO _ (by omega));rw[df] at q1;have agQ:RelL I w (Builtin.zeroCells zv.cells m).toList (List.replicate m z).flatten:=λq c hq=>by have:=pa.2 q c hq;have nE:q<(Builtin.zeroCells zv.cells m).size:=(by rw[<- bX,AZ,<- hfz];exact(ai.1 hq).1);refine⟨(Builtin.zeroCells zv.cells m)[q],by rw[aS,ax nE],?_⟩;rw[ak] at this;rw[ax nE] at this;exact this
      have agR:∀ u∈(Builtin.zeroCells zv.cells m).toList,u.oneCell'=true:=λu hu=>by obtain⟨q,hq⟩:=eB.1 hu;have nE:q<(List.replicate m z).flatten.length:=(by rw[hfz,<- AZ];exact(ai.1 hq).1);obtain⟨u',Br,jr⟩:=agQ q _ (ah nE);rw[hq] at Br;cases Br;exact jr.oneCell
      have bO:=gq (P:=P) blk (jj*sz0) (.of e1) (Builtin.zeroCells zv.cells m).toList 0 cur w g1 RT.of_ok (by rw[AZ];omega) agR;simp only[eT,AZ] at bO;have tO:RelL I w cur.toList es.flatten:=λq c hq=>by have nE:=(ai.1 hq).1;rw[bK es g3] at nE;have:=aO sz0 g4;refine⟨cur.getD q undef,?_,g5 q c hq⟩;rw[aS,ak,ax (show q<cur.size by omega)];rfl
      have lG:=bK es g3;have aaW:=aO sz0 (show jj+m<=es.length from hjm);rw[df] at aaW;have cN:=hst.gsSet (L:=cur.toList.take (jj*sz0)++(Builtin.zeroCells zv.cells m).toList++cur.toList.drop (jj*sz0+m*sz0)) (es':=es.take jj++List.replicate m z++es.drop (jj+m)) hb ly hk g1 g2
       (by simp only[ae,aQ,cG,List.length_replicate];omega)
       (λx hx=>by
        rcases ba.1 hx with hx | hx
        .rcases ba.1 hx with hx | hx
         .exact g3 x (c9 hx)
         .rw[fu hx];exact tX
        .exact g3 x (cT hx))
       (by rw[ae,ae,AZ,aQ,cG,j8,bR (by omega)];omega)
       (λu hu=>by
        rcases ba.1 hu with hu | hu
        .rcases ba.1 hu with hu | hu
         .exact g6 u (cu.1 (c9 hu))
         .exact agR u hu
        .exact g6 u (cu.1 (cT hu)))
       (by
        rw[dm,dm,pB g3 (by omega),pC g3 (by omega),df];refine RelL.append (RelL.append (tO.take _) agQ ?_) (tO.drop _) ?_
        .rw[aQ,aQ,j8,lG,bR (by omega),bR (by omega)]
        .rw[ae,ae,AZ,hfz,aQ,aQ,j8,lG,bR (by omega),bR (by omega)])
      refine⟨_,_,_,h,?_,cN⟩;obtain⟨m,rfl⟩:∃ k,m=k+1:=⟨m - 1,by omega⟩;unfold Builtin.clear_;simp[aU h2,zeroValue,typeInfo,jE,tL,bO]
    .cases mG
   .exact h.elim
  .exact h.elim
 .exact h.elim
theorem G3 {src dst:TypeId} {d:Option Tmp} {X:Operand} {K:S->Prop} (hst:St G n I0 M w0 I β ob s a w) (hd:∀ t,d=some t->t<n) (h:MR P s d src dst K (ev G s X)) :
 ∃ s' v w',K (s'.put d v)/\∃ u,(convert src dst (a.eval X)).run P w=.ok u w'/\∃ β' ob',St G n I0 M w0 I β' ob' s' a w'/\LR (Wr M w0) I β' w' none u v:=False.elim h
end
section
variable {P:Program} {G:Gl} {tr:List Nat} {n:Nat} {I0:Ft} {M:Mx} {w0:World} {I:Ft} {β:Nat->Option Nat} {ob:Loc->Option Nat} {s:S} {a:Act} {w:World} {base:Nat->Prop} {v:Value} {x:V}
 {g:Option Value} {E:Option (TypeId×Nat)} {es:List (List C)} {ops:Array Oper} {K:S->Prop}
theorem OwnG.gsV {o:Option Nat} (h:OwnG base I w E es o v):GsV E es v:=by
 rcases h with⟨_,h1,h2,h3⟩ | ⟨e,blk,cap,cur,sz,_,_,hv,_,_,hc,_⟩
 .exact .inr ⟨h2,h1,h3⟩
 .exact .inl ⟨blk,cap,hv,hc⟩
theorem St.reown (h:St G n I0 M w0 I β ob s a w) {b k:Nat} {x x':V} {o':Option Nat} (hb:b<s.nb) (hk:(s.bx b)[k]?=some x) (hxm:x.isMk=false) (D2:x'.isMk=false) (ho:o'=none∨o'=ob (.b b k))
 (DV:∀ cur:Array Value,LR (Wr M w0) I β w (ob (.b b k)) (cur.getD k undef) x->LR (Wr M w0) I β w o' (cur.getD k undef) x') :
 St G n I0 M w0 I β (upL ob (.b b k) o') { s with bx:=up s.bx b ((s.bx b).set k x') } a w:=by
 have fF:∀ L c,upL ob (.b b k) o' L=some c->ob L=some c:=λL c hL=>by
  simp only[upL] at hL;split at hL
  .rename_i e;subst e
   rcases ho with ho | ho
   .rw[ho] at hL;cases hL
   .rw[<- ho];exact hL
  .exact hL
 have qw:k<(s.bx b).length:=(ai.1 hk).1;have mN:(s.bx b).getD k .un=x:=by simp[List.getD,hk]
 exact {
  size:=h.size,defers:=h.defers,below:=h.below,ilow:=h.ilow,kept:=h.kept,ihigh:=h.ihigh,ibnd:=h.ibnd
  fr:=λt=>by have:=h.fr t;have e:upL ob (.b b k) o' (.t t)=ob (.t t):=(by simp[upL]);rw[e];exact this
  bx:=λi hi=>by
   obtain⟨b1,cur,e1,e2,e3,e4,e5,e7⟩:=h.bx i hi;by_cases qz:i=b
   .subst qz
    refine⟨b1,cur,e1,e2,?_,by simp only[b9,gi];exact e4,λj=>?_,e7⟩
    .simp only[b9]
     refine e3.congr (by simp) ?_;by_cases xw:k=0
     .subst xw
      have g1:((s.bx i).set 0 x').getD 0 .un=x':=(by simp[List.getD,qw]);rw[gP (by unfold ck;rw[g1];exact D2),gP (by unfold ck;rw[mN];exact hxm)]
     .have:((s.bx i).set k x').getD 0 .un=(s.bx i).getD 0 .un:=by simp[List.getD,da xw]
      unfold re;rw[this]
    .simp only[b9]
     by_cases hjk:j=k
     .subst hjk
      have:((s.bx i).set j x').getD j .un=x':=(by simp[List.getD,qw]);rw[this];have e:upL ob (.b i j) o' (.b i j)=o':=(by simp[upL]);rw[e];have h5:=e5 j;rw[mN] at h5;exact DV cur h5
     .have:((s.bx i).set k x').getD j .un=(s.bx i).getD j .un:=by simp[List.getD,da (hJ hjk)]
      rw[this];have e:upL ob (.b i k) o' (.b i j)=ob (.b i j):=(by simp[upL,hjk]);rw[e];exact e5 j
   .refine⟨b1,cur,e1,e2,by simp only[cP _ _ qz];exact e3,by simp only[cP _ _ qz];exact e4,λj=>?_,e7⟩
    simp only[cP _ _ qz];have e:upL ob (.b b k) o' (.b i j)=ob (.b i j):=(by simp[upL,qz]);rw[e];exact e5 j
  bnone:=h.bnone,ext:=h.ext,bnew:=h.bnew,binj:=h.binj
  oinj:=λL L' c q1 q2=>h.oinj L L' c (fF L c q1) (fF L' c q2)
  obx:=λL c i q1=>h.obx L c i (fF L c q1)
  obnd:=λL c q1=>h.obnd L c (fF L c q1)
  glob:=h.glob }
theorem St.reword (h:St G n I0 M w0 I β ob s a w) {b k:Nat} {x x':V} (hb:b<s.nb) (hk:(s.bx b)[k]?=some x) (hxm:x.isMk=false) (D2:x'.isMk=false)
 (DV:∀ cur,LR (Wr M w0) I β w (ob (.b b k)) (Array.getD cur k undef) x->LR (Wr M w0) I β w (ob (.b b k)) (Array.getD cur k undef) x') :
 SE G n I0 M w0 (s.cell b k x') a w:=⟨_,_,_,h.reown hb hk hxm D2 (.inr rfl) DV⟩
theorem St.adopt (h:St G n I0 M w0 I β ob s a w) {blk:Nat} {cur:Array Value} {T:RT} {cs:List C} (zN:Wr M w0 blk) (iz:w.heap[blk]?=some (.cells cur T.t T.fz)) (hT:T.ok cur.size) (ke:∀ u∈cur,u.oneCell'=true)
 (fK:cs.length<=cur.size) (hc:∀ j c,cs[j]?=some c->CR I w (cur.getD j undef) c) (j7:∀ L,ob L≠some blk) (hβ:∀ i,β i≠some blk) (hI:∀ o,¬ I blk o) :
 St G n I0 M w0 I (up β s.nb (some blk)) (λL=>match L with | .b i j=>if i=s.nb then none else ob (.b i j) | L=>ob L) { s with bx:=up s.bx s.nb (cs.map .c),nb:=s.nb+1 } a w:=by
 have hβ':∀ i b,β i=some b->up β s.nb (some blk) i=some b:=λi b hi=>by
  have:i≠s.nb:=λe=>by rw[h.bnone i (by omega)] at hi;cases hi
  rw[cP _ _ this];exact hi
 have fF:∀ L b,(match L with | .b i j=>if i=s.nb then none else ob (.b i j) | L=>ob L)=some b->ob L=some b:=λL b hL=>by
  cases L with
  |t i=>exact hL
  |b i j=>
   simp only at hL;split at hL
   .cases hL
   .exact hL
 have kD:∀ {o:Option Nat} {v:Value} {x:V},LR (Wr M w0) I β w o v x->LR (Wr M w0) I (up β s.nb (some blk)) w o v x:=λhx=>hx.mono (λ_ _ h=>⟨h,rfl⟩) hβ' (λ_ _=>⟨rfl,λ_ h=>h⟩);have ly:ck (cs.map V.c)=false:=by cases cs<;>rfl
 exact {
  size:=h.size,defers:=h.defers,below:=h.below,kept:=h.kept,ilow:=h.ilow,ihigh:=h.ihigh,ibnd:=h.ibnd
  fr:=λt=>kD (h.fr t)
  bx:=λi hi=>by
   by_cases iT:i=s.nb
   .subst iT
    refine⟨blk,cur,by simp,zN,.of iz ke hT (by simpa using ly),by simpa using fK,λj=>?_,hI⟩;simp only[b9,cZ];by_cases hj:j<cs.length
    .have e2:(cs.map V.c).getD j .un=.c cs[j]:=by simp[List.getD,hj]
     rw[e2];exact .ofC (hc j _ (ah hj))
    .have e2:(cs.map V.c).getD j .un=.un:=by simp[List.getD,bG (ep hj)]
     rw[e2];simp only[LR];exact .un _
   .obtain⟨b1,cur',e1,e2,e3,e4,e5,e7⟩:=h.bx i (by simp only at hi;omega)
    refine⟨b1,cur',hβ' i b1 e1,e2,by simpa only[cP _ _ iT] using e3,by simpa only[cP _ _ iT] using e4,λj=>?_,e7⟩;simp only[cP _ _ iT,if_neg iT];exact kD (e5 j)
  bnone:=λi hi=>by simp only at hi;rw[cP _ _ (by omega)];exact h.bnone i (by omega)
  ext:=λi b he=>hβ' i b (h.ext i b he)
  bnew:=λi b hi=>by
   by_cases h1:i=s.nb
   .subst h1;rw[b9] at hi;cases hi;exact .inr zN
   .rw[cP _ _ h1] at hi;exact h.bnew i b hi
  binj:=λi j b hi hj=>by
   by_cases h1:i=s.nb<;>by_cases h2:j=s.nb
   .rw[h1,h2]
   .subst h1;rw[b9] at hi;cases hi;rw[cP _ _ h2] at hj;exact absurd hj (hβ j)
   .subst h2;rw[b9] at hj;cases hj;rw[cP _ _ h1] at hi;exact absurd hi (hβ i)
   .rw[cP _ _ h1] at hi;rw[cP _ _ h2] at hj;exact h.binj i j b hi hj
  oinj:=λL L' b hL yO=>h.oinj L L' b (fF L b hL) (fF L' b yO)
  obx:=λL b i hL hi=>by
   by_cases iT:i=s.nb
   .subst iT;rw[b9] at hi;cases hi
    exact j7 L (fF L _ hL)
   .rw[cP _ _ iT] at hi
    exact h.obx L b i (fF L b hL) hi
  obnd:=λL b hL=>h.obnd L b (fF L b hL)
  glob:=h.glob }
theorem St.gsCell (h:St G n I0 M w0 I β ob s a w) {b k:Nat} (hb:b<s.nb) (ly:ck (s.bx b)=false) (hk:(s.bx b)[k]?=some (.gs g E es)):∃ blk cur,β b=some blk/\HB w blk cur (s.bx b)/\(∀ u,g=some u->cur.getD k undef=u)/\OwnG (Wr M w0) I w E es (ob (.b b k)) (cur.getD k undef):=by
 obtain⟨b1,cur,e1,e2,e3,e4,e5,e7⟩:=h.bx b hb;have h5:=e5 k;have mN:(s.bx b).getD k .un=.gs g E es:=by simp[List.getD,hk]
 rw[mN] at h5;exact⟨b1,cur,e1,e3,h5.1,h5.2⟩
theorem St.reownAt (h:St G n I0 M w0 I β ob s a w) {b k blk:Nat} {cur:Array Value} {x x':V} {o':Option Nat} (hb:b<s.nb) (ly:ck (s.bx b)=false) (hβ:β b=some blk) (hB:HB w blk cur (s.bx b)) (hk:(s.bx b)[k]?=some x) (D2:x'.isMk=false) (ho:o'=none∨o'=ob (.b b k))
 (DV:LR (Wr M w0) I β w o' (cur.getD k undef) x') :
 St G n I0 M w0 I β (upL ob (.b b k) o') { s with bx:=up s.bx b ((s.bx b).set k x') } a w:=by
 have fF:∀ L c,upL ob (.b b k) o' L=some c->ob L=some c:=λL c hL=>by
  simp only[upL] at hL;split at hL
  .rename_i e;subst e
   rcases ho with ho | ho
   .rw[ho] at hL;cases hL
   .rw[<- ho];exact hL
  .exact hL
 have qw:k<(s.bx b).length:=(ai.1 hk).1;exact {
  size:=h.size,defers:=h.defers,below:=h.below,ilow:=h.ilow,kept:=h.kept,ihigh:=h.ihigh,ibnd:=h.ibnd
  fr:=λt=>by have:=h.fr t;have e:upL ob (.b b k) o' (.t t)=ob (.t t):=(by simp[upL]);rw[e];exact this
  bx:=λi hi=>by
   obtain⟨b1,cur1,e1,e2,e3,e4,e5,e7⟩:=h.bx i hi;by_cases qz:i=b
   .subst qz
    rw[hβ] at e1;cases e1;cases hB.same ly e3;refine⟨blk,cur,hβ,e2,?_,by simp only[b9,gi];exact e4,λj=>?_,e7⟩
    .simp only[b9]
     refine e3.congr (by simp) ?_;by_cases xw:k=0
     .subst xw
      have g1:((s.bx i).set 0 x').getD 0 .un=x':=(by simp[List.getD,qw]);rw[gP (by unfold ck;rw[g1];exact D2),gP ly]
     .have:((s.bx i).set k x').getD 0 .un=(s.bx i).getD 0 .un:=by simp[List.getD,da xw]
      unfold re;rw[this]
    .simp only[b9]
     by_cases hjk:j=k
     .subst hjk
      have:((s.bx i).set j x').getD j .un=x':=(by simp[List.getD,qw]);rw[this];have e:upL ob (.b i j) o' (.b i j)=o':=(by simp[upL]);rw[e];exact DV
     .have:((s.bx i).set k x').getD j .un=(s.bx i).getD j .un:=by simp[List.getD,da (hJ hjk)]
      rw[this];have e:upL ob (.b i k) o' (.b i j)=ob (.b i j):=(by simp[upL,hjk]);rw[e];exact e5 j
   .refine⟨b1,cur1,e1,e2,by simp only[cP _ _ qz];exact e3,by simp only[cP _ _ qz];exact e4,λj=>?_,e7⟩
    simp only[cP _ _ qz];have e:upL ob (.b b k) o' (.b i j)=ob (.b i j):=(by simp[upL,qz]);rw[e];exact e5 j
  bnone:=h.bnone,ext:=h.ext,bnew:=h.bnew,binj:=h.binj
  oinj:=λL L' c q1 q2=>h.oinj L L' c (fF L c q1) (fF L' c q2)
  obx:=λL c i q1=>h.obx L c i (fF L c q1)
  obnd:=λL c q1=>h.obnd L c (fF L c q1)
  glob:=h.glob }
theorem St.giveCell (h:St G n I0 M w0 I β ob s a w) {b k blk:Nat} {cur:Array Value} {x':V} {o':Option Nat} (hb:b<s.nb) (ly:ck (s.bx b)=false) (hβ:β b=some blk) (hB:HB w blk cur (s.bx b)) (qw:k<(s.bx b).length) (D2:x'.isMk=false) (ho:∀ c,o'=some c->(c<w.heap.size/\Wr M w0 c)/\(∀ L,ob L≠some c)/\∀ i,β i≠some c)
 (DV:LR (Wr M w0) I β w o' (cur.getD k undef) x') :
 St G n I0 M w0 I β (upL ob (.b b k) o') { s with bx:=up s.bx b ((s.bx b).set k x') } a w:=by
 have fF:∀ L c,upL ob (.b b k) o' L=some c->(L=.b b k/\o'=some c)∨(L≠.b b k/\ob L=some c):=λL c hL=>by
  simp only[upL] at hL;split at hL
  .rename_i e;exact .inl ⟨e,hL⟩
  .rename_i e;exact .inr ⟨e,hL⟩
 exact {
  size:=h.size,defers:=h.defers,below:=h.below,ilow:=h.ilow,kept:=h.kept,ihigh:=h.ihigh,ibnd:=h.ibnd
  fr:=λt=>by have:=h.fr t;have e:upL ob (.b b k) o' (.t t)=ob (.t t):=(by simp[upL]);rw[e];exact this
  bx:=λi hi=>by
   obtain⟨b1,cur1,e1,e2,e3,e4,e5,e7⟩:=h.bx i hi;by_cases qz:i=b
   .subst qz
    rw[hβ] at e1;cases e1;cases hB.same ly e3;refine⟨blk,cur,hβ,e2,?_,by simp only[b9,gi];exact e4,λj=>?_,e7⟩
    .simp only[b9]
     refine e3.congr (by simp) ?_;by_cases xw:k=0
     .subst xw
      have g1:((s.bx i).set 0 x').getD 0 .un=x':=(by simp[List.getD,qw]);rw[gP (by unfold ck;rw[g1];exact D2),gP ly]
     .have:((s.bx i).set k x').getD 0 .un=(s.bx i).getD 0 .un:=by simp[List.getD,da xw]
      unfold re;rw[this]
    .simp only[b9]
     by_cases hjk:j=k
     .subst hjk
      have:((s.bx i).set j x').getD j .un=x':=(by simp[List.getD,qw]);rw[this];have e:upL ob (.b i j) o' (.b i j)=o':=(by simp[upL]);rw[e];exact DV
     .have:((s.bx i).set k x').getD j .un=(s.bx i).getD j .un:=by simp[List.getD,da (hJ hjk)]
      rw[this];have e:upL ob (.b i k) o' (.b i j)=ob (.b i j):=(by simp[upL,hjk]);rw[e];exact e5 j
   .refine⟨b1,cur1,e1,e2,by simp only[cP _ _ qz];exact e3,by simp only[cP _ _ qz];exact e4,λj=>?_,e7⟩
    simp only[cP _ _ qz];have e:upL ob (.b b k) o' (.b i j)=ob (.b i j):=(by simp[upL,qz]);rw[e];exact e5 j
  bnone:=h.bnone,ext:=h.ext,bnew:=h.bnew,binj:=h.binj
  oinj:=λL L' c q1 q2=>by
   rcases fF L c q1 with⟨h1,h2⟩ | ⟨h1,h2⟩<;>rcases fF L' c q2 with⟨h3,h4⟩ | ⟨h3,h4⟩
   .rw[h1,h3]
   .exact absurd h4 ((ho c h2).2.1 L')
   .exact absurd h2 ((ho c h4).2.1 L)
   .exact h.oinj L L' c h2 h4
  obx:=λL c i q1=>by
   rcases fF L c q1 with⟨_,h2⟩ | ⟨_,h2⟩
   .exact(ho c h2).2.2 i
   .exact h.obx L c i h2
  obnd:=λL c q1=>by
   rcases fF L c q1 with⟨_,h2⟩ | ⟨_,h2⟩
   .exact(ho c h2).1
   .exact h.obnd L c h2
  glob:=h.glob }
theorem St.giveAny (h:St G n I0 M w0 I β ob s a w) {b k:Nat} {x x':V} {o':Option Nat} (hb:b<s.nb) (hk:(s.bx b)[k]?=some x) (hxm:x.isMk=false) (D2:x'.isMk=false) (ho:∀ c,o'=some c->(c<w.heap.size/\Wr M w0 c)/\(∀ L,ob L≠some c)/\∀ i,β i≠some c)
 (DV:∀ v,LR (Wr M w0) I β w o' v x') :
 St G n I0 M w0 I β (upL ob (.b b k) o') { s with bx:=up s.bx b ((s.bx b).set k x') } a w:=by
 have qw:k<(s.bx b).length:=(ai.1 hk).1;have mN:(s.bx b).getD k .un=x:=by simp[List.getD,hk]
 have fF:∀ L c,upL ob (.b b k) o' L=some c->(L=.b b k/\o'=some c)∨(L≠.b b k/\ob L=some c):=λL c hL=>by
  simp only[upL] at hL;split at hL
  .rename_i e;exact .inl ⟨e,hL⟩
  .rename_i e;exact .inr ⟨e,hL⟩
 exact {
  size:=h.size,defers:=h.defers,below:=h.below,ilow:=h.ilow,kept:=h.kept,ihigh:=h.ihigh,ibnd:=h.ibnd
  fr:=λt=>by have:=h.fr t;have e:upL ob (.b b k) o' (.t t)=ob (.t t):=(by simp[upL]);rw[e];exact this
  bx:=λi hi=>by
   obtain⟨b1,cur1,e1,e2,e3,e4,e5,e7⟩:=h.bx i hi;by_cases qz:i=b
   .subst qz
    refine⟨b1,cur1,e1,e2,?_,by simp only[b9,gi];exact e4,λj=>?_,e7⟩
    .simp only[b9]
     refine e3.congr (by simp) ?_;by_cases xw:k=0
     .subst xw
      have g1:((s.bx i).set 0 x').getD 0 .un=x':=(by simp[List.getD,qw]);rw[gP (by unfold ck;rw[g1];exact D2),gP (by unfold ck;rw[mN];exact hxm)]
     .have:((s.bx i).set k x').getD 0 .un=(s.bx i).getD 0 .un:=by simp[List.getD,da xw]
      unfold re;rw[this]
    .simp only[b9]
     by_cases hjk:j=k
     .subst hjk
      have:((s.bx i).set j x').getD j .un=x':=(by simp[List.getD,qw]);rw[this];have e:upL ob (.b i j) o' (.b i j)=o':=(by simp[upL]);rw[e];exact DV _
     .have:((s.bx i).set k x').getD j .un=(s.bx i).getD j .un:=by simp[List.getD,da (hJ hjk)]
      rw[this];have e:upL ob (.b i k) o' (.b i j)=ob (.b i j):=(by simp[upL,hjk]);rw[e];exact e5 j
   .refine⟨b1,cur1,e1,e2,by simp only[cP _ _ qz];exact e3,by simp only[cP _ _ qz];exact e4,λj=>?_,e7⟩
    simp only[cP _ _ qz];have e:upL ob (.b b k) o' (.b i j)=ob (.b i j):=(by simp[upL,qz]);rw[e];exact e5 j
  bnone:=h.bnone,ext:=h.ext,bnew:=h.bnew,binj:=h.binj
  oinj:=λL L' c q1 q2=>by
   rcases fF L c q1 with⟨h1,h2⟩ | ⟨h1,h2⟩<;>rcases fF L' c q2 with⟨h3,h4⟩ | ⟨h3,h4⟩
   .rw[h1,h3]
   .exact absurd h4 ((ho c h2).2.1 L')
   .exact absurd h2 ((ho c h4).2.1 L)
   .exact h.oinj L L' c h2 h4
  obx:=λL c i q1=>by
   rcases fF L c q1 with⟨_,h2⟩ | ⟨_,h2⟩
   .exact(ho c h2).2.2 i
   .exact h.obx L c i h2
  obnd:=λL c q1=>by
   rcases fF L c q1 with⟨_,h2⟩ | ⟨_,h2⟩
   .exact(ho c h2).1
   .exact h.obnd L c h2
  glob:=h.glob }
theorem St.more (h:St G n I0 M w0 I β ob s a w) {b:Nat} (hb:b<s.nb) (hl:Vx (s.bx b)=true):St G n I0 M w0 I β ob { s with bx:=up s.bx b (s.bx b++[.un]) } a w:=by
 obtain⟨r,fl,l,oS⟩:∃ r fl l,s.bx b=.lp r fl::l:=by
  unfold Vx at hl;split at hl
  .rename_i e;exact⟨_,_,_,e⟩
  .cases hl
 exact {
  size:=h.size,defers:=h.defers,below:=h.below,ilow:=h.ilow,kept:=h.kept,ihigh:=h.ihigh,ibnd:=h.ibnd,fr:=h.fr
  bx:=λi hi=>by
   obtain⟨b1,cur1,e1,e2,e3,e4,e5,e7⟩:=h.bx i hi;by_cases qz:i=b
   .subst qz
    refine⟨b1,cur1.push undef,e1,e2,?_,?_,λj=>?_,e7⟩
    .simp only[b9]
     rw[oS] at e3 ⊢
     unfold HB at e3 ⊢
     simp only[re,dG,List.getD_cons_zero] at e3 ⊢
     obtain⟨f,tm,d,g1,m,g2⟩:=e3;refine⟨f,tm,d,g1,m+1,?_⟩;rw[g2,Array.push_eq_append,Array.append_assoc,Array.replicate_succ,Array.push_eq_append]
    .simp only[b9,ae,Array.size_push,bA];omega
    .simp only[b9]
     have g1:(cur1.push undef).getD j undef=cur1.getD j undef:=by
      rw[ak,ak,Array.getElem?_push];split
      .rename_i e;subst e;simp
      .rfl
     have g2:(s.bx i++[V.un]).getD j .un=(s.bx i).getD j .un:=by
      rw[aA,aA,List.getElem?_append];split
      .rfl
      .rename_i hj
       rw[bG (by omega:(s.bx i).length<=j)];cases hq:([V.un]:List V)[j - (s.bx i).length]? with
       |none=>rfl
       |some q=>have:=aV hq;simp at this;subst this;rfl
     rw[g1,g2];exact e5 j
   .refine⟨b1,cur1,e1,e2,by simp only[cP _ _ qz];exact e3,by simp only[cP _ _ qz];exact e4,λj=>?_,e7⟩
    simp only[cP _ _ qz];exact e5 j
  bnone:=h.bnone,ext:=h.ext,bnew:=h.bnew,binj:=h.binj,oinj:=h.oinj,obx:=h.obx,obnd:=h.obnd,glob:=h.glob }
theorem OwnG.cool {o:Option Nat} (h:OwnG base I w E es o v):∃ I':Ft,(∀ b o,I b o->I' b o)/\(∀ b k,I' b k->I b k∨some b=o)/\OwnR base I' w E es o v:=by
 rcases h with⟨h0,h1,h2,a,h3⟩ | ⟨e,blk,cap,cur,sz,r1,r2,r3,r4,r5,r6,r7,r8,r9,r10,_,r12⟩
 .subst h2;subst h3
  exact⟨I,λ_ _ h=>h,λ_ _ h=>.inl h,.nil a 0 (λ_=>rfl),.inl ⟨h0,h1,a,rfl⟩⟩
 .subst r1
  refine⟨λb' o=>I b' o∨(b'=blk/\o<es.length*sz),λ_ _ h=>.inl h,λb k h=>?_,?_⟩
  .rcases h with h | ⟨rfl,_⟩
   .exact .inl h
   .exact .inr rfl
  .have jr:CR (λb' o=>I b' o∨(b'=blk/\o<es.length*sz)) w (.slice (some ⟨blk,0,none⟩) es.length cap) (.sl es):=
    CR.row (I':=λb' o=>I b' o∨(b'=blk/\o<es.length*sz)) (cap:=cap) (es:=es) (sz:=sz) r5 r6 r9 (λq c hq=>by have h0:=(ai.1 hq).1;rw[bK _ r9] at h0;have h1:=aO sz r6;exact⟨by rw[r8];omega,(r10 q c hq).mono λb o h=>⟨.inl h,rfl⟩⟩) (λo ho=>.inr ⟨rfl,ho⟩)
   rw[r3];refine⟨jr,.inr ⟨e,blk,cap,cur,sz,rfl,r2,rfl,r4,r5,r6,r7,r8,r9,λo ho=>?_⟩⟩;rcases ho with ho | ho
   .exact absurd ho (r12 o)
   .exact ho.2
end
section
variable {P:Program} {G:Gl} {tr:List Nat} {n:Nat} {I0:Ft} {M:Mx} {w0:World} {I:Ft} {β:Nat->Option Nat} {ob:Loc->Option Nat} {s:S} {a:Act} {w:World} {o:Oper}
 {next:Act->World->Prop} {Q:Exit->Act->World->Prop} {base:Nat->Prop} {v:Value} {x y:V}
theorem PR.ren {ρ:Nat->Nat} {β':Nat->Option Nat} {m:Nat} (h:PR I β w v (x.renP ρ)) (hx:x.ltP m) (hβ:∀ i b,i<m->β (ρ i)=some b->β' i=some b):PR I β' w v x:=by
 cases x<;>simp only[V.ltP] at hx<;>simp only[V.renP,PR] at h ⊢<;>try exact h
 .obtain⟨blk,h1,h2⟩:=h;exact⟨blk,hβ _ _ hx h1,h2⟩
 .obtain⟨h0,blk,o',c',EC,h1,h2⟩:=h;exact⟨h0,blk,o',c',EC,hβ _ _ hx h1,h2⟩
 .obtain⟨blk,h1,h2⟩:=h;exact⟨blk,hβ _ _ hx h1,h2⟩
 .obtain⟨blk,h1,h2⟩:=h;exact⟨blk,hβ _ _ hx h1,h2⟩
 .obtain⟨blk,h1,h2⟩:=h;exact⟨blk,hβ _ _ hx h1,h2⟩
theorem aby {ρ:Nat->Nat} (h:x.renP ρ=.un):x=.un:=by cases x<;>first | rfl | cases h
theorem PW {ρ:Nat->Nat} (h:(x.renP ρ).isAT=true):x.renP ρ=x:=by cases x<;>first | rfl | cases h
theorem Rw {ρ:Nat->Nat}:(x.renP ρ).isAT=x.isAT:=by cases x<;>rfl
theorem KR.ren {ρ:Nat->Nat} {β':Nat->Option Nat} {m:Nat} (h:KR I β w v (x.renP ρ)) (hx:x.ltP m) (hβ:∀ i b,i<m->β (ρ i)=some b->β' i=some b):KR I β' w v x:=by
 rcases h with h | ⟨h1,h2⟩ | h
 .exact .inl (aby h)
 .have e:=PW h1;rw[e] at h1 h2;exact .inr (.inl ⟨h1,h2⟩)
 .exact .inr (.inr (h.ren hx hβ))
theorem LR.ren {ρ:Nat->Nat} {β':Nat->Option Nat} {m:Nat} {ox:Option Nat} (h:LR base I β w ox v (x.ren ρ)) (hx:x.lt m) (hβ:∀ i b,i<m->β (ρ i)=some b->β' i=some b):LR base I β' w ox v x:=by
 cases x<;>simp only[V.lt] at hx<;>simp only[V.ren,LR] at h ⊢<;>try exact h
 .obtain⟨blk,h1,h2⟩:=h;exact⟨blk,hβ _ _ hx h1,h2⟩
 .obtain⟨vf,vc,h1,h2,h3,h4,h5⟩:=h
  rw[au] at h2 h3;exact⟨vf,vc,h1,h2,h3,λj x hj=>(h4 j (x.renP ρ) (by simp[hj])).ren (hx.1 x (aV hj)) hβ,λj x hj=>(h5 j (x.renP ρ) (by simp[hj])).ren (hx.2 x (aV hj)) hβ⟩
 .obtain⟨h0,blk,o',c',EC,h1,h2⟩:=h;exact⟨h0,blk,o',c',EC,hβ _ _ hx h1,h2⟩
 .obtain⟨cs,h1,h2,h3⟩:=h
  rw[au] at h2;exact⟨cs,h1,h2,λj x hj=>(h3 j (x.renP ρ) (by simp[hj])).ren (hx x (aV hj)) hβ⟩
 .obtain⟨blk,h1,h2⟩:=h;exact⟨blk,hβ _ _ hx h1,h2⟩
 .obtain⟨blk,m,h1,h2,h3,h4⟩:=h;exact⟨blk,m,h1,h2,hβ _ _ hx h3,h4⟩
 .obtain⟨blk,h1,h2⟩:=h;exact⟨blk,hβ _ _ hx h1,h2⟩
 .obtain⟨tm,h1,h2⟩:=h
  exact⟨tm,h1,λt y hy=>KR.ren (m:=m) (ρ:=ρ) (h2 t (y.renP ρ) (bM.2 ⟨(t,y),hy,rfl⟩)) (hx _ hy) hβ⟩
 .obtain⟨blk,h1,h2⟩:=h;exact⟨blk,hβ _ _ hx h1,h2⟩
theorem PR.toRen {ρ:Nat->Nat} {β':Nat->Option Nat} (h:PR I β w v x) (hβ:∀ i b,β i=some b->β' (ρ i)=some b):PR I β' w v (x.renP ρ):=by
 cases x<;>simp only[V.renP,PR] at h ⊢<;>try exact h
 .obtain⟨blk,h1,h2⟩:=h;exact⟨blk,hβ _ _ h1,h2⟩
 .obtain⟨h0,blk,o',c',EC,h1,h2⟩:=h;exact⟨h0,blk,o',c',EC,hβ _ _ h1,h2⟩
 .obtain⟨blk,h1,h2⟩:=h;exact⟨blk,hβ _ _ h1,h2⟩
 .obtain⟨blk,h1,h2⟩:=h;exact⟨blk,hβ _ _ h1,h2⟩
 .obtain⟨blk,h1,h2⟩:=h;exact⟨blk,hβ _ _ h1,h2⟩
theorem KR.toRen {ρ:Nat->Nat} {β':Nat->Option Nat} (h:KR I β w v x) (hβ:∀ i b,β i=some b->β' (ρ i)=some b):KR I β' w v (x.renP ρ):=by
 rcases h with rfl | ⟨h1,h2⟩ | h
 .exact .inl rfl
 .have h3:(x.renP ρ).isAT=true:=by rw[Rw];exact h1
  rw[PW h3];exact .inr (.inl ⟨h1,h2⟩)
 .exact .inr (.inr (h.toRen hβ))
theorem A7 {α γ:Type} {l:List α} {f:α->γ} {j:Nat} {y:γ} (h:(l.map f)[j]?=some y):∃ x,l[j]?=some x/\f x=y:=by simpa using h
theorem LR.toRen {ρ:Nat->Nat} {β':Nat->Option Nat} {ox:Option Nat} (h:LR base I β w ox v x) (hβ:∀ i b,β i=some b->β' (ρ i)=some b):LR base I β' w ox v (x.ren ρ):=by
 cases x<;>simp only[V.ren,LR] at h ⊢<;>try exact h
 .obtain⟨blk,h1,h2⟩:=h;exact⟨blk,hβ _ _ h1,h2⟩
 .obtain⟨vf,vc,h1,h2,h3,h4,h5⟩:=h
  refine⟨vf,vc,h1,by rw[au];exact h2,by rw[au];exact h3,λj x hj=>?_,λj x hj=>?_⟩
  .obtain⟨y,hy,rfl⟩:=A7 hj;exact(h4 j y hy).toRen hβ
  .obtain⟨y,hy,rfl⟩:=A7 hj;exact(h5 j y hy).toRen hβ
 .obtain⟨h0,blk,o',c',EC,h1,h2⟩:=h;exact⟨h0,blk,o',c',EC,hβ _ _ h1,h2⟩
 .obtain⟨cs,h1,h2,h3⟩:=h
  refine⟨cs,h1,by rw[au];exact h2,λj x hj=>?_⟩;obtain⟨y,hy,rfl⟩:=A7 hj;exact(h3 j y hy).toRen hβ
 .obtain⟨blk,h1,h2⟩:=h;exact⟨blk,hβ _ _ h1,h2⟩
 .obtain⟨blk,m,h1,h2,h3,h4⟩:=h;exact⟨blk,m,h1,h2,hβ _ _ h3,h4⟩
 .obtain⟨blk,h1,h2⟩:=h;exact⟨blk,hβ _ _ h1,h2⟩
 .obtain⟨tm,h1,h2⟩:=h
  refine⟨tm,h1,λt y hy=>?_⟩;obtain⟨⟨t',z⟩,hz,e⟩:=bM.1 hy;cases e;exact(h2 _ z hz).toRen hβ
 .obtain⟨blk,h1,h2⟩:=h;exact⟨blk,hβ _ _ h1,h2⟩
theorem LR.wider {base':Nat->Prop} {ox:Option Nat} (h:LR base I β w ox v x) (hb:∀ b,ox=some b->base' b):LR base' I β w ox v x:=by
 cases x<;>simp only[LR] at h ⊢<;>try exact h
 .obtain⟨h1,h2⟩:=h
  refine⟨h1,?_⟩;rcases h2 with h2 | ⟨e,blk,cap,cur,sz,q1,q2,q3,q4,q5⟩
  .exact .inl h2
  .exact .inr ⟨e,blk,cap,cur,sz,q1,q2,q3,hb _ q1,q5⟩
 .obtain⟨blk,m,h1,h2,h3⟩:=h;exact⟨blk,m,h1,hb _ h1,h3⟩
 .obtain⟨h1,h2⟩:=h
  refine⟨h1,?_⟩;rcases h2 with h2 | ⟨e,blk,cap,cur,sz,q1,q2,q3,q4,q5⟩
  .exact .inl h2
  .exact .inr ⟨e,blk,cap,cur,sz,q1,q2,q3,hb _ q1,q5⟩
 .obtain⟨h1,e,blk,cap,cur,sz,q1,q2,q3,q4,q5⟩:=h
  exact⟨h1,e,blk,cap,cur,sz,q1,q2,q3,hb _ q1,q5⟩
 .obtain⟨h1,h2⟩:=h
  refine⟨h1,?_⟩;rcases h2 with h2 | ⟨e,blk,cap,cur,sz,q1,q2,q3,q4,q5⟩
  .exact .inl h2
  .exact .inr ⟨e,blk,cap,cur,sz,q1,q2,q3,hb _ q1,q5⟩
 .rcases h with h2 | ⟨e,blk,cap,cur,sz,q1,q2,q3,q4,q5⟩
  .exact .inl h2
  .exact .inr ⟨e,blk,cap,cur,sz,q1,q2,q3,hb _ q1,q5⟩
theorem BK {ρ:Nat->Nat} (l:List V) (j:Nat):(l.map (V.ren ρ)).getD j .un=(l.getD j .un).ren ρ:=by simp only[aA,bj];cases l[j]?<;>rfl
theorem Jc {ρ:Nat->Nat} (l:List V):re (l.map (V.ren ρ))=re l:=by unfold re;rw[BK];cases l.getD 0 .un<;>rfl
theorem pT {ρ:Nat->Nat}:∀ (bl:List (List V)) (k i:Nat) (b:List V),rf s.bx s.nb ρ k bl->bl[i]?=some b->ρ (k+i)<s.nb/\s.bx (ρ (k+i))=b.map (V.ren ρ)
 |[],_,i,b,_,hb=>by simp at hb
 |c::r,k,0,b,h,hb=>by simp at hb;subst hb;exact h.1
 |c::r,k,i+1,b,h,hb=>by have:=pT r (k+1) i b h.2 (by simpa using hb);rw[show k+(i+1)=k+1+i by omega];exact this
theorem oC {ρ:Nat->Nat}:∀ (bl:List (List V)) (k:Nat) (f:Nat->List V) (j:Nat),(∀ i,i<bl.length->ρ (k+i)≠j)->fM ρ k bl f j=f j
 |[],_,_,_,_=>rfl
 |b::r,k,f,j,h=>by simp only[fM];rw[oC r (k+1) _ j (λi hi=>by rw[show k+1+i=k+(i+1) by omega];exact h (i+1) (by simp;omega))];exact cP _ _ (λe=>h 0 (by simp) e.symm)
theorem uf {ρ:Nat->Nat}:∀ (bl:List (List V)) (k:Nat) (f:Nat->List V) (i:Nat) (b:List V),bl[i]?=some b->(∀ i j,i<bl.length->j<bl.length->ρ (k+i)=ρ (k+j)->i=j)->
 fM ρ k bl f (ρ (k+i))=b.map (V.ren ρ)
 |[],_,_,i,b,h,_=>by simp at h
 |c::r,k,f,0,b,h,qy=>by simp at h;subst h;simp only[fM];rw[oC r (k+1) _ _ (λi hi e=>by have:=qy (i+1) 0 (by simp;omega) (by simp) (by rw[show k+(i+1)=k+1+i by omega];exact e);omega)];rw[eT];exact b9 _ _ _
 |c::r,k,f,i+1,b,h,qy=>by simp only[fM];rw[show k+(i+1)=k+1+i by omega];refine uf r (k+1) _ i b (by simpa using h) λi' j' hi hj e=>?_;have:=qy (i'+1) (j'+1) (by simp;omega) (by simp;omega) (by rw[show k+(i'+1)=k+1+i' by omega,show k+(j'+1)=k+1+j' by omega];exact e);omega
theorem xM {ρ:List Nat} {nb:Nat} (hn:ρ.Nodup) (hl:∀ i,i<ρ.length->ρ.getD i 0<nb) (i j:Nat) (h:rho ρ nb i=rho ρ nb j):i=j:=by
 unfold rho at h;by_cases hi:i<ρ.length<;>by_cases hj:j<ρ.length
 .rw[if_pos hi,if_pos hj] at h
  simp only[aA,ah hi,ah hj,cX] at h;exact(List.getElem_inj hn).1 h
 .rw[if_pos hi,if_neg hj] at h
  have:=hl i hi;omega
 .rw[if_neg hi,if_pos hj] at h
  have:=hl j hj;omega
 .rw[if_neg hi,if_neg hj] at h;omega
def Mof (β:Nat->Option Nat) (ob:Loc->Option Nat) (ρ:Nat->Nat) (k:Nat) (b:Nat):Prop:=(∃ q,q<k/\β (ρ q)=some b)∨∃ q j,q<k/\ob (.b (ρ q) j)=some b
def me (β:Nat->Option Nat) (ρ:Nat->Nat) (k i:Nat):Option Nat:=if i<k then β (ρ i) else none
def obC (ob:Loc->Option Nat) (ρ:Nat->Nat) (k i j:Nat):Option Nat:=if i<k then ob (.b (ρ i) j) else none
theorem nT {ρ:Nat->Nat} {k i b:Nat} (h:me β ρ k i=some b):i<k/\β (ρ i)=some b:=by
 unfold me at h;split at h
 .exact⟨‹_›,h⟩
 .cases h
theorem xN {ρ:Nat->Nat} {k i j b:Nat} (h:obC ob ρ k i j=some b):i<k/\ob (.b (ρ i) j)=some b:=by
 unfold obC at h;split at h
 .exact⟨‹_›,h⟩
 .cases h
theorem St.give (hst:St G n I0 M w0 I β ob s a w) {ρ:Nat->Nat} {b0:List (List V)} (qy:∀ i j,ρ i=ρ j->i=j) (iT:rf s.bx s.nb ρ 0 b0) (bF:∀ b∈b0,∀ x∈b,x.lt b0.length) :
 BxR (Wr ⟨Mof β ob ρ b0.length,λ_=>none,[]⟩ w) I w (me β ρ b0.length) (obC ob ρ b0.length) b0 where
 bx:=λi cs js=>by
  have hi:i<b0.length:=(ai.1 js).1;obtain⟨h1,h2⟩:=pT b0 0 i cs iT js;rw[aJ] at h1 h2;obtain⟨blk,cur,e1,e2,e3,e4,e5,e7⟩:=hst.bx (ρ i) h1;refine⟨blk,cur,by simp[me,hi,e1],.inr (.inl ⟨i,hi,e1⟩),e3.congr (by rw[h2,au]) (by rw[h2,Jc]),by have:=e4;rw[h2,au] at this;exact this,λj=>?_,e7⟩;have:=e5 j;rw[h2,BK] at this;have hx:(cs.getD j .un).lt b0.length:=by
   by_cases hj:j<cs.length
   .have:cs.getD j .un=cs[j]:=by simp[List.getD,hj]
    rw[this];exact bF cs (aV js) _ (bT hj)
   .have:cs.getD j .un=.un:=by simp[List.getD,bG (ep hj)]
    rw[this];exact trivial
  have h3:=this.ren (β':=me β ρ b0.length) hx (λi b hi hb=>by simp[me,hi,hb]);have h4:obC ob ρ b0.length i j=ob (.b (ρ i) j):=by simp[obC,hi]
  rw[h4];exact h3.wider λb hb=>.inr (.inr ⟨i,j,hi,hb⟩)
 bnone:=λi hi=>by simp[me,Nat.not_lt.2 hi]
 binj:=λi j b hi hj=>by obtain⟨_,h1⟩:=nT hi;obtain⟨_,h2⟩:=nT hj;exact qy _ _ (hst.binj _ _ b h1 h2)
 oinj:=λi j i' j' b h h'=>by obtain⟨_,h1⟩:=xN h;obtain⟨_,h2⟩:=xN h';have:=hst.oinj _ _ b h1 h2;simp only[Loc.b.injEq] at this;exact⟨qy _ _ this.1,this.2⟩
 obx:=λi j b k h hk=>by obtain⟨_,h1⟩:=xN h;obtain⟨_,h2⟩:=nT hk;exact hst.obx _ b _ h1 h2
 obnd:=λi j b h=>by obtain⟨hi,h1⟩:=xN h;exact⟨(hst.obnd _ b h1).1,.inr (.inr ⟨i,j,hi,h1⟩)⟩
 olen:=λi j hi=>by simp[obC,Nat.not_lt.2 hi]
def sE (ρ:List Nat) (nb i:Nat):Option Nat:=if i∈ρ then some (ρ.idxOf i) else if nb<=i then some (i - nb+ρ.length) else none
theorem VL {ρ:List Nat} {nb:Nat} (hn:ρ.Nodup) (hl:∀ i,i<ρ.length->ρ.getD i 0<nb) (q:Nat):sE ρ nb (rho ρ nb q)=some q:=by
 unfold sE rho;by_cases hq:q<ρ.length
 .have e:ρ.getD q 0=ρ[q]:=by simp[List.getD,hq]
  rw[if_pos hq,e,if_pos (bT hq),hn.idxOf_getElem]
 .rw[if_neg hq]
  have:¬ (nb+(q - ρ.length))∈ρ:=λh=>by obtain⟨i,hi,e⟩:=iP.1 h;have:=hl i hi;have e':ρ.getD i 0=ρ[i]:=(by simp[List.getD,hi]);omega
  rw[if_neg this,if_pos (by omega)];congr 1;omega
theorem oD {ρ:List Nat} {nb i q:Nat} (h:sE ρ nb i=some q):rho ρ nb q=i:=by
 unfold sE at h;split at h
 .rename_i hi
  simp only[ao] at h;subst h;have bF:=List.idxOf_lt_length_of_mem hi;unfold rho;rw[if_pos bF];simp[List.getD,ah bF]
 .split at h
  .rename_i h1 h2
   simp only[ao] at h;subst h;unfold rho;rw[if_neg (by omega)];omega
  .cases h
theorem EW {ρ:List Nat} {nb i:Nat} (h:sE ρ nb i=none):i<nb:=by
 unfold sE at h;split at h
 .cases h
 .split at h
  .cases h
  .omega
end
section
variable {P:Program} {G:Gl} {tr:List Nat} {n:Nat} {I0:Ft} {M:Mx} {w0:World} {I:Ft} {β:Nat->Option Nat} {ob:Loc->Option Nat} {s:S} {a:Act} {w:World} {o:Oper}
 {next:Act->World->Prop} {Q:Exit->Act->World->Prop} {base:Nat->Prop} {v:Value} {x y:V}
def pU (β β':Nat->Option Nat) (ρ:List Nat) (nb i:Nat):Option Nat:=match sE ρ nb i with
 |some q=>β' q
 |none=>β i
def obN (ob:Loc->Option Nat) (ob':Nat->Nat->Option Nat) (ρ:List Nat) (nb:Nat):Loc->Option Nat
 | .t i=>ob (.t i)
 | .b i j=>match sE ρ nb i with
  |some q=>ob' q j
  |none=>ob (.b i j)
theorem St.called (hst:St G n I0 M w0 I β ob s a w) {ρ:List Nat} {b0 b1:List (List V)} (hρl:ρ.length=b0.length) (hn:ρ.Nodup) (iT:rf s.bx s.nb (rho ρ s.nb) 0 b0) (kg:b0.length<=b1.length)
 {w':World} {I':Ft} {β':Nat->Option Nat} {ob':Nat->Nat->Option Nat} (u4:BelowM (GT G) ⟨Mof β ob (rho ρ s.nb) b0.length,λ_=>none,[]⟩ w w') (U4:∀ b o,I b o->I' b o)
 (Q1:∀ b o,I' b o->I b o∨(Wr ⟨Mof β ob (rho ρ s.nb) b0.length,λ_=>none,[]⟩ w b/\b<w'.heap.size)) (wj:∀ b o,I b o->w'.cell? ⟨b,o,none⟩=w.cell? ⟨b,o,none⟩)
 (hβ1:∀ i,i<b0.length->β' i=me β (rho ρ s.nb) b0.length i) (Vi:∀ i b,b0.length<=i->β' i=some b->Wr ⟨Mof β ob (rho ρ s.nb) b0.length,λ_=>none,[]⟩ w b)
 (oS:BxR (Wr ⟨Mof β ob (rho ρ s.nb) b0.length,λ_=>none,[]⟩ w) I' w' β' ob' b1) :
 St G n I0 M w0 I' (pU β β' ρ s.nb) (obN ob ob' ρ s.nb) { s with bx:=fM (rho ρ s.nb) 0 b1 s.bx,nb:=s.nb+(b1.length - b0.length) } a w'/\
 (∀ i b,β' i=some b->pU β β' ρ s.nb (rho ρ s.nb i)=some b)/\
 (∀ b,Wr ⟨Mof β ob (rho ρ s.nb) b0.length,λ_=>none,[]⟩ w b->Wr M w0 b)/\
 (∀ b,Wr ⟨Mof β ob (rho ρ s.nb) b0.length,λ_=>none,[]⟩ w b->(∀ i j,ob' i j≠some b)->∀ L,obN ob ob' ρ s.nb L≠some b)/\
 (∀ b,Wr ⟨Mof β ob (rho ρ s.nb) b0.length,λ_=>none,[]⟩ w b->(∀ i,β' i≠some b)->∀ i,pU β β' ρ s.nb i≠some b)/\
 (∀ i b,β i=some b->pU β β' ρ s.nb i=some b):=by
 have hl:∀ i,i<ρ.length->ρ.getD i 0<s.nb:=λi hi=>by obtain⟨b,hb⟩:∃ b,b0[i]?=some b:=⟨_,ah (by omega)⟩;have:=(pT b0 0 i b iT hb).1;rw[aJ] at this;simpa[rho,hi] using this
 have qy:=xM hn hl;have hir:=VL hn hl;have zN:∀ b,Wr ⟨Mof β ob (rho ρ s.nb) b0.length,λ_=>none,[]⟩ w b->Wr M w0 b:=λb hb=>by
  rcases hb with hb | ⟨q,hq,hb⟩ | ⟨q,j,hq,hb⟩
  .exact .new hst.below hb
  .exact(hst.boxblk hb).2.1
  .exact(hst.obnd _ b hb).2
 have notM1:∀ i b,sE ρ s.nb i=none->β i=some b->¬ Wr ⟨Mof β ob (rho ρ s.nb) b0.length,λ_=>none,[]⟩ w b:=λi b hi hb hw=>by
  rcases hw with hw | ⟨q,hq,h1⟩ | ⟨q,j,hq,h1⟩
  .have:=(hst.boxblk hb).2.2;omega
  .have:=hst.binj _ _ b h1 hb
   rw[<- this,hir] at hi;cases hi
  .exact hst.obx _ b i h1 hb
 have notM2:∀ L b,(∀ i j q,L=.b i j->sE ρ s.nb i≠some q)->ob L=some b->¬ Wr ⟨Mof β ob (rho ρ s.nb) b0.length,λ_=>none,[]⟩ w b:=λL b hL hb hw=>by
  rcases hw with hw | ⟨q,hq,h1⟩ | ⟨q,j,hq,h1⟩
  .have:=(hst.obnd _ b hb).1;omega
  .exact hst.obx _ b _ hb h1
  .have:=hst.oinj _ _ b hb h1
   exact hL _ _ q this (hir q)
 have hβn:∀ i b,β i=some b->pU β β' ρ s.nb i=some b:=λi b hb=>by
  unfold pU;cases hi:sE ρ s.nb i with
  |none=>exact hb
  |some q=>
   have e:=oD hi;have bF:=(hst.boxblk hb).1;have hq:q<ρ.length:=by
    by_cases hq:q<ρ.length
    .exact hq
    .unfold rho at e;rw[if_neg hq] at e;omega
   simp only;rw[hβ1 q (by omega)];unfold me;rw[if_pos (by omega),e];exact hb
 have hI:∀ b o,I b o->I' b o/\w'.cell? ⟨b,o,none⟩=w.cell? ⟨b,o,none⟩:=λb o hb=>⟨U4 b o hb,wj b o hb⟩;have lQ:∀ b,b<w.heap.size->¬ Wr ⟨Mof β ob (rho ρ s.nb) b0.length,λ_=>none,[]⟩ w b->w'.heap[b]?=w.heap[b]?/\∀ o,I' b o->I b o:=λb hb hw=>
  ⟨u4.block b hb (λh=>hw (.inr h)),λo ho=>by
   rcases Q1 b o ho with h | h
   .exact h
   .exact absurd h.1 hw⟩
 have hbN:∀ i b,pU β β' ρ s.nb i=some b->(∃ q,sE ρ s.nb i=some q/\β' q=some b)∨(sE ρ s.nb i=none/\β i=some b):=λi b hb=>by
  unfold pU at hb;cases hi:sE ρ s.nb i with
  |none=>rw[hi] at hb;exact .inr ⟨rfl,hb⟩
  |some q=>rw[hi] at hb;exact .inl ⟨q,rfl,hb⟩
 have hoN:∀ L b,obN ob ob' ρ s.nb L=some b->(∃ i j q,L=.b i j/\sE ρ s.nb i=some q/\ob' q j=some b)∨((∀ i j q,L=.b i j->sE ρ s.nb i≠some q)/\ob L=some b):=λL b hb=>by
  cases L with
  |t i=>exact .inr ⟨λi j q h=>(by cases h),hb⟩
  |b i j=>
   simp only[obN] at hb;cases hi:sE ρ s.nb i with
   |none=>rw[hi] at hb;exact .inr ⟨λi' j' q h=>(by cases h;rw[hi];simp),hb⟩
   |some q=>rw[hi] at hb;exact .inl ⟨i,j,q,rfl,hi,hb⟩
 have hβw:∀ q b,β' q=some b->Wr ⟨Mof β ob (rho ρ s.nb) b0.length,λ_=>none,[]⟩ w b:=λq b hb=>by
  by_cases hq:q<b0.length
  .rw[hβ1 q hq] at hb
   exact .inr (.inl ⟨q,(nT hb).1,(nT hb).2⟩)
  .exact Vi q b (by omega) hb
 have how:∀ i j b,ob' i j=some b->Wr ⟨Mof β ob (rho ρ s.nb) b0.length,λ_=>none,[]⟩ w b:=λi j b hb=>(oS.obnd i j b hb).2;have fF:∀ i b,β' i=some b->pU β β' ρ s.nb (rho ρ s.nb i)=some b:=λi b hb=>by unfold pU;rw[hir];exact hb
 refine⟨{
  size:=hst.size,defers:=hst.defers
  below:=⟨u4.os.trans hst.below.os,u4.tape.trans hst.below.tape,u4.output.trans hst.below.output,bY hst.below.size u4.size,λk hk hM=>
   (u4.block k (cn hk hst.below.size) (λh=>by
    rcases zN k (.inr h) with h1 | h1
    .omega
    .exact hM h1)).trans (hst.below.block k hk hM),λt=>bY (hst.below.drawn t) (u4.drawn t)⟩
  ilow:=λb o h=>U4 b o (hst.ilow b o h)
  kept:=λb o h=>(wj b o (hst.ilow b o h)).trans (hst.kept b o h)
  ihigh:=λb o h=>by
   rcases Q1 b o h with h | h
   .exact hst.ihigh b o h
   .exact .inr (zN b h.1)
  ibnd:=λb o h=>by
   rcases Q1 b o h with h | h
   .exact cn (hst.ibnd b o h) u4.size
   .exact h.2
  fr:=λt=>(hst.fr t).mono hI hβn λb hb=>lQ b (hst.obnd _ b hb).1 (notM2 (.t t) b (λi j q h=>by cases h) hb)
  bx:=λi hi=>by
   simp only at hi;cases hq:sE ρ s.nb i with
   |some q=>
    have e:=oD hq;have hqb:q<b1.length:=by
     by_cases h1:q<ρ.length
     .omega
     .unfold rho at e;rw[if_neg h1] at e;omega
    obtain⟨blk,cur,e1,e2,e3,e4,e5,e7⟩:=oS.bx q _ (ah hqb);have qx:fM (rho ρ s.nb) 0 b1 s.bx i=b1[q].map (V.ren (rho ρ s.nb)):=(by have:=uf (ρ:=rho ρ s.nb) b1 0 s.bx q _ (ah hqb) (λi j _ _ h=>by rw[aJ,aJ] at h;exact qy i j h);rw[aJ,e] at this;exact this);refine⟨blk,cur,by unfold pU;rw[hq];exact e1,zN _ e2,e3.congr (by simp only[qx,au]) (by simp only[qx,Jc]),by simp only[qx,au];exact e4,λj=>?_,e7⟩;simp only[qx,BK];have:obN ob ob' ρ s.nb (.b i j)=ob' q j:=(by simp only[obN,hq]);rw[this];exact((e5 j).toRen fF).wider λb hb=>zN b (how q j b hb)
   |none=>
    have bF:=EW hq;obtain⟨blk,cur,e1,e2,e3,e4,e5,e7⟩:=hst.bx i bF;have hnw:=notM1 i blk hq e1;obtain⟨g1,g2⟩:=lQ blk e3.lt hnw;have qx:fM (rho ρ s.nb) 0 b1 s.bx i=s.bx i:=oC b1 0 s.bx i λq _ h=>by rw[aJ] at h;rw[<- h,hir] at hq;cases hq
    refine⟨blk,cur,hβn i blk e1,e2,(e3.mono g1).congr (by simp only[qx]) (by simp only[qx]),by simp only[qx];exact e4,λj=>?_,λo ho=>e7 o (g2 o ho)⟩;simp only[qx];have:obN ob ob' ρ s.nb (.b i j)=ob (.b i j):=(by simp only[obN,hq]);rw[this];exact(e5 j).mono hI hβn λb hb=>lQ b (hst.obnd _ b hb).1 (notM2 (.b i j) b (λi' j' q h=>by cases h;rw[hq];simp) hb)
  bnone:=λi hi=>by
   simp only at hi;unfold pU;cases hq:sE ρ s.nb i with
   |some q=>
    have e:=oD hq;refine oS.bnone q ?_;by_cases h1:q<ρ.length
    .unfold rho at e;rw[if_pos h1] at e;have:=hl q h1;omega
    .unfold rho at e;rw[if_neg h1] at e;omega
   |none=>have:=EW hq;omega
  ext:=λi b he=>hβn i b (hst.ext i b he)
  bnew:=λi b hi=>by
   rcases hbN i b hi with⟨q,h1,h2⟩ | ⟨h1,h2⟩
   .by_cases hq:q<b0.length
    .rw[hβ1 q hq] at h2
     have:=hst.bnew _ b (nT h2).2;rw[oD h1] at this;exact this
    .exact .inr (zN b (Vi q b (by omega) h2))
   .exact hst.bnew i b h2
  binj:=λi j b hi hj=>by
   rcases hbN i b hi with⟨q,h1,h2⟩ | ⟨h1,h2⟩<;>rcases hbN j b hj with⟨p,h3,h4⟩ | ⟨h3,h4⟩
   .have:=oS.binj q p b h2 h4
    rw[<- oD h1,<- oD h3,this]
   .exact absurd (hβw q b h2) (notM1 j b h3 h4)
   .exact absurd (hβw p b h4) (notM1 i b h1 h2)
   .exact hst.binj i j b h2 h4
  oinj:=λL L' b hL yO=>by
   rcases hoN L b hL with⟨i,j,q,rfl,h1,h2⟩ | ⟨h1,h2⟩<;>rcases hoN L' b yO with⟨i',j',q',rfl,h3,h4⟩ | ⟨h3,h4⟩
   .obtain⟨e1,e2⟩:=oS.oinj q j q' j' b h2 h4
    rw[<- oD h1,<- oD h3,e1,e2]
   .exact absurd (how q j b h2) (notM2 L' b h3 h4)
   .exact absurd (how q' j' b h4) (notM2 L b h1 h2)
   .exact hst.oinj L L' b h2 h4
  obx:=λL b i hL hi=>by
   rcases hoN L b hL with⟨i',j,q,rfl,h1,h2⟩ | ⟨h1,h2⟩<;>rcases hbN i b hi with⟨p,h3,h4⟩ | ⟨h3,h4⟩
   .exact oS.obx q j b p h2 h4
   .exact absurd (how q j b h2) (notM1 i b h3 h4)
   .exact absurd (hβw p b h4) (notM2 L b h1 h2)
   .exact hst.obx L b i h2 h4
  obnd:=λL b hL=>by
   rcases hoN L b hL with⟨i',j,q,rfl,h1,h2⟩ | ⟨h1,h2⟩
   .exact⟨(oS.obnd q j b h2).1,zN b (how q j b h2)⟩
   .exact⟨cn (hst.obnd L b h2).1 u4.size,(hst.obnd L b h2).2⟩
  glob:=λg cs hg=>(hst.glob g cs hg).mono hI },fF,zN,λb hw gw L hL=>by
  rcases hoN L b hL with⟨i',j,q,rfl,h1,h2⟩ | ⟨h1,h2⟩
  .exact gw q j h2
  .exact notM2 L b h1 h2 hw,λb hw gw i hi=>by
  rcases hbN i b hi with⟨q,h1,h2⟩ | ⟨h1,h2⟩
  .exact gw q h2
  .exact notM1 i b h1 h2 hw,hβn⟩
end
section
variable {P:Program} {G:Gl} {tr:List Nat} {n:Nat} {I0:Ft} {M:Mx} {w0:World} {I:Ft} {β:Nat->Option Nat} {ob:Loc->Option Nat} {s:S} {a:Act} {w:World} {o:Oper}
 {next:Act->World->Prop} {Q:Exit->Act->World->Prop} {base:Nat->Prop} {v:Value} {x y:V}
def ArgsL (base:Nat->Prop) (I:Ft) (β:Nat->Option Nat) (w:World) (vs:List Value) (xs:List V):Prop:=vs.length=xs.length/\∀ (j:Nat) (x:V),xs[j]?=some x->LR base I β w none (vs.getD j undef) x.fz
theorem ArgsL.append {vs us:List Value} {xs ys:List V} (h:ArgsL base I β w vs xs) (h':ArgsL base I β w us ys):ArgsL base I β w (vs++us) (xs++ys):=by
 refine⟨by simp[h.1,h'.1],λj x hx=>?_⟩;have hl:=h.1;by_cases hj:j<xs.length
 .rw[az hj] at hx
  have:=h.2 j x hx;rw[aA,az (by omega)];rw[aA] at this;exact this
 .rw[aG (by omega)] at hx
  have:=h'.2 _ x hx;rw[aA,aG (by omega),hl];rw[aA] at this;exact this
theorem u7 (hst:St G n I0 M w0 I β ob s a w):∀ l:List Operand,ArgsL (Wr M w0) I β w (l.map a.eval) (l.map (ev G s))
 |[]=>⟨rfl,by simp⟩
 |x::l=>by
  have ih:=u7 hst l;refine⟨by simp,λj z hz=>?_⟩;cases j with
  |zero=>simp at hz;subst hz;exact xF hst x
  |succ j=>simpa using ih.2 j z (by simpa using hz)
theorem y4 (hst:St G n I0 M w0 I β ob s a w):∀ l:List Operand,ArgsL (Wr M w0) I β w (l.map a.eval) (l.map (evX G s))
 |[]=>⟨rfl,by simp⟩
 |x::l=>by
  have ih:=y4 hst l;refine⟨by simp,λj z hz=>?_⟩;cases j with
  |zero=>
   simp at hz;subst hz;unfold evX;split
   .exact .ofC (.ex _ rfl rfl)
   .exact xF hst x
  |succ j=>simpa using ih.2 j z (by simpa using hz)
theorem u9 (vs:Array Value) (cs:List C) (h:vs.size=cs.length) (hc:∀ j c,cs[j]?=some c->CR I w (vs.getD j undef) c):ArgsL base I β w vs.toList (cs.map .c):=by refine⟨by simp[h],λj x hx=>?_⟩;obtain⟨c,h1,rfl⟩:=A7 hx;have:=hc j c h1;rw[aA,aS];rw[ak] at this;exact .ofC this
theorem va (vs:Array Value) (xs:List V) (h:vs.size=xs.length) (hc:∀ j x,xs[j]?=some x->PR I β w (vs.getD j undef) x):ArgsL base I β w vs.toList xs:=by refine⟨by simp[h],λj x hx=>?_⟩;have:=hc j x hx;rw[aA,aS];rw[ak] at this;exact(PR.toLR this).fz none
theorem Jd (hst:St G n I0 M w0 I β ob s a w) (hd:∀ d,o.dst=some d->d<n) {f:FuncId} {vs:List Value} {all:List V} {ρ:List Nat} {cargs:List V} {b0 b1:List (List V)} {r:V}
 (eG:FnB P G f cargs b0 r b1) (dQ:ArgsL (Wr M w0) I β w vs all) (eE:all.map V.fz=cargs.map (V.ren (rho ρ s.nb))) (hρ:ρ.length=b0.length/\ρ.Nodup) (iT:rf s.bx s.nb (rho ρ s.nb) 0 b0)
 (bO:(execOp a.eval o).run P w=.ok (.enter f vs.toArray) w)
 (hk:∀ a' w',SE G n I0 M w0 (({ s with bx:=fM (rho ρ s.nb) 0 b1 s.bx,nb:=s.nb+(b1.length - b0.length) }:S).put o.dst (r.ren (rho ρ s.nb))) a' w'->next a' w'):o.wp P a w next Q:=by
 unfold Oper.wp;rw[bO];simp only[Oper.upon];obtain⟨hρl,hn⟩:=hρ;obtain⟨rK,yM,kg⟩:=eG.2.1;have hl:∀ i,i<ρ.length->ρ.getD i 0<s.nb:=λi hi=>by obtain⟨b,hb⟩:∃ b,b0[i]?=some b:=⟨_,ah (by omega)⟩;have:=(pT b0 0 i b iT hb).1;rw[aJ] at this;simpa[rho,hi] using this
 have qy:=xM hn hl;have cm:all.length=cargs.length:=by simpa using dM List.length eE
 refine (eG.2.2 I ⟨Mof β ob (rho ρ s.nb) b0.length,λ_=>none,[]⟩ w vs.toArray (me β (rho ρ s.nb) b0.length) (obC ob (rho ρ s.nb) b0.length) hst.ibnd hst.glob (hst.give qy iT yM)
  (by have:=dQ.1;simp;omega) (λj x hx=>?_)).mono ?_
 .have hj:j<cargs.length:=(ai.1 hx).1
  have hz:all[j]?=some all[j]:=ah (by omega);have h1:=dQ.2 j _ hz;have h2:all[j].fz=x.ren (rho ρ s.nb):=by have e1:(all.map V.fz)[j]?=some all[j].fz:=(by simp[hz]);have e2:(cargs.map (V.ren (rho ρ s.nb)))[j]?=some (x.ren (rho ρ s.nb)):=(by simp[hx]);rw[eE,e2] at e1;exact(eH e1).symm
  rw[h2] at h1;have h3:=h1.ren (β':=me β (rho ρ s.nb) b0.length) (rK x (aV hx)) (λi b hi hb=>by simp[me,hi,hb]);have h4:=h3.wider (base':=Wr ⟨Mof β ob (rho ρ s.nb) b0.length,λ_=>none,[]⟩ w) λb hb=>by cases hb
  simpa using h4
 .rintro e w' ⟨v,I',β',ob',o',rfl,u4,U4,Q1,wj,hβ1,Vi,oS,iD,tp⟩
  simp only;obtain⟨cN,fF,zN,gw,A0,_⟩:=hst.called hρl hn iT kg u4 U4 Q1 wj hβ1 Vi oS;refine hk _ _ ?_;have aaX:LR (Wr M w0) I' (pU β β' ρ s.nb) w' o' v (r.ren (rho ρ s.nb)):=(iD.toRen fF).wider λb hb=>zN b (tp b hb).1.2;cases lP:o.dst with
  |none=>exact⟨_,_,_,cN⟩
  |some d=>
   refine⟨_,_,_,cN.put d (hd d lP) aaX λb hb=>?_⟩;obtain⟨⟨h1,h2⟩,h3,h4⟩:=tp b hb;refine⟨⟨h1,zN b h2⟩,λL hL=>?_,A0 b h2 h4⟩;simp only[upL] at hL;split at hL
   .cases hL
   .exact gw b h2 h3 L hL
theorem sF {K:S->V->Prop} {f:Operand} {args:Array Operand} {ts:Array TypeId} (ho:o.op=.call { callee:=.value f,args:=args,argTypes:=ts }) (hst:St G n I0 M w0 I β ob s a w)
 (hd:∀ d,o.dst=some d->d<n) (h:vcallB P G s (ev G s f) (args.toList.map (ev G s)) K) (hk:∀ a' w' s' x,K s' x->SE G n I0 M w0 (s'.put o.dst x) a' w'->next a' w'):o.wp P a w next Q:=by
 have hf:=bN hst f;unfold vcallB kE at h;split at h
 .rename_i g all tw
  obtain⟨ρ,cargs,b0,r,b1,eG,eE,hρ,iT,hK⟩:=h;obtain⟨fn,h1,h2,c,h3⟩:=eG.1;unfold gx at tw;split at tw
  .rename_i g' fs cs he
   simp only[ao,dJ] at tw;obtain⟨rfl,rfl⟩:=tw;rw[he] at hf;obtain⟨vf,vc,hv,q1,q2,q3,q4⟩:=hf.toC.fn_inv;have bO:=rR (P:=P) (w:=w) ho hv h1 h2 h3;refine Jd hst hd eG (vs:=vf.toList++args.toList.map a.eval++vc.toList) (((u9 vf fs q1 q3).append (u7 hst _)).append (u9 vc cs q2 q4)) eE hρ iT ?_ (λa' w'=>hk a' w' _ _ hK);rw[bO];congr 2;apply dF;simp
  .rename_i g' fs cs he
   simp only[ao,dJ] at tw;obtain⟨rfl,rfl⟩:=tw;rw[he] at hf;simp only[LR] at hf;obtain⟨vf,vc,hv,q1,q2,q3,q4⟩:=hf;have bO:=rR (P:=P) (w:=w) ho hv h1 h2 h3;refine Jd hst hd eG (vs:=vf.toList++args.toList.map a.eval++vc.toList) (((va vf fs q1 q3).append (u7 hst _)).append (va vc cs q2 q4)) eE hρ iT ?_ (λa' w'=>hk a' w' _ _ hK);rw[bO];congr 2;apply dF;simp
  .cases tw
 .exact h.elim
theorem Je (hst:St G n I0 M w0 I β ob s a w) (hd:∀ d,o.dst=some d->d<n) {f:FuncId} {vs:List Value} {all:List V} {ρ:List Nat} {cargs:List V} {b0:List (List V)} {R:V->List (List V)->Prop}
 (eG:FnE P G f cargs b0 R) (dQ:ArgsL (Wr M w0) I β w vs all) (eE:all.map V.fz=cargs.map (V.ren (rho ρ s.nb))) (hρ:ρ.length=b0.length/\ρ.Nodup) (iT:rf s.bx s.nb (rho ρ s.nb) 0 b0)
 (bO:(execOp a.eval o).run P w=.ok (.enter f vs.toArray) w)
 (hk:∀ r b1,R r b1->∀ a' w',SE G n I0 M w0 (({ s with bx:=fM (rho ρ s.nb) 0 b1 s.bx,nb:=s.nb+(b1.length - b0.length) }:S).put o.dst (r.ren (rho ρ s.nb))) a' w'->next a' w'):o.wp P a w next Q:=by
 unfold Oper.wp;rw[bO];simp only[Oper.upon];obtain⟨hρl,hn⟩:=hρ;obtain⟨rK,yM,kg⟩:=eG.2.1;have hl:∀ i,i<ρ.length->ρ.getD i 0<s.nb:=λi hi=>by obtain⟨b,hb⟩:∃ b,b0[i]?=some b:=⟨_,ah (by omega)⟩;have:=(pT b0 0 i b iT hb).1;rw[aJ] at this;simpa[rho,hi] using this
 have qy:=xM hn hl;have cm:all.length=cargs.length:=by simpa using dM List.length eE
 refine (eG.2.2 I ⟨Mof β ob (rho ρ s.nb) b0.length,λ_=>none,[]⟩ w vs.toArray (me β (rho ρ s.nb) b0.length) (obC ob (rho ρ s.nb) b0.length) hst.ibnd hst.glob (hst.give qy iT yM)
  (by have:=dQ.1;simp;omega) (λj x hx=>?_)).mono ?_
 .have hj:j<cargs.length:=(ai.1 hx).1
  have hz:all[j]?=some all[j]:=ah (by omega);have h1:=dQ.2 j _ hz;have h2:all[j].fz=x.ren (rho ρ s.nb):=by have e1:(all.map V.fz)[j]?=some all[j].fz:=(by simp[hz]);have e2:(cargs.map (V.ren (rho ρ s.nb)))[j]?=some (x.ren (rho ρ s.nb)):=(by simp[hx]);rw[eE,e2] at e1;exact(eH e1).symm
  rw[h2] at h1;have h3:=h1.ren (β':=me β (rho ρ s.nb) b0.length) (rK x (aV hx)) (λi b hi hb=>by simp[me,hi,hb]);have h4:=h3.wider (base':=Wr ⟨Mof β ob (rho ρ s.nb) b0.length,λ_=>none,[]⟩ w) λb hb=>by cases hb
  simpa using h4
 .rintro e w' ⟨r,b1,hR,v,I',β',ob',o',rfl,u4,U4,Q1,wj,hβ1,Vi,oS,iD,tp⟩
  simp only;obtain⟨cN,fF,zN,gw,A0,_⟩:=hst.called hρl hn iT (kg r b1 hR) u4 U4 Q1 wj hβ1 Vi oS;refine hk r b1 hR _ _ ?_;have aaX:LR (Wr M w0) I' (pU β β' ρ s.nb) w' o' v (r.ren (rho ρ s.nb)):=(iD.toRen fF).wider λb hb=>zN b (tp b hb).1.2;cases lP:o.dst with
  |none=>exact⟨_,_,_,cN⟩
  |some d=>
   refine⟨_,_,_,cN.put d (hd d lP) aaX λb hb=>?_⟩;obtain⟨⟨h1,h2⟩,h3,h4⟩:=tp b hb;refine⟨⟨h1,zN b h2⟩,λL hL=>?_,A0 b h2 h4⟩;simp only[upL] at hL;split at hL
   .cases hL
   .exact gw b h2 h3 L hL
theorem G4 {K:S->V->Prop} {f:Operand} {args:Array Operand} {ts:Array TypeId} (ho:o.op=.call { callee:=.value f,args:=args,argTypes:=ts }) (hst:St G n I0 M w0 I β ob s a w)
 (hd:∀ d,o.dst=some d->d<n) (h:ll P G s (ev G s f) (args.toList.map (evX G s)) K) (hk:∀ a' w' s' x,K s' x->SE G n I0 M w0 (s'.put o.dst x) a' w'->next a' w'):o.wp P a w next Q:=by
 have hf:=bN hst f;unfold ll at h;split at h
 .rename_i g all tw
  obtain⟨ρ,cargs,b0,R,eG,eE,hρ,iT,hK⟩:=h;obtain⟨fn,h1,h2,c,h3⟩:=eG.1;unfold gx at tw;split at tw
  .rename_i g' fs cs he
   simp only[ao,dJ] at tw;obtain⟨rfl,rfl⟩:=tw;rw[he] at hf;obtain⟨vf,vc,hv,q1,q2,q3,q4⟩:=hf.toC.fn_inv;have bO:=rR (P:=P) (w:=w) ho hv h1 h2 h3;refine Je hst hd eG (vs:=vf.toList++args.toList.map a.eval++vc.toList) (((u9 vf fs q1 q3).append (y4 hst _)).append (u9 vc cs q2 q4)) eE hρ iT ?_ (λr b1 hR a' w'=>hk a' w' _ _ (hK r b1 hR));rw[bO];congr 2;apply dF;simp
  .rename_i g' fs cs he
   simp only[ao,dJ] at tw;obtain⟨rfl,rfl⟩:=tw;rw[he] at hf;simp only[LR] at hf;obtain⟨vf,vc,hv,q1,q2,q3,q4⟩:=hf;have bO:=rR (P:=P) (w:=w) ho hv h1 h2 h3;refine Je hst hd eG (vs:=vf.toList++args.toList.map a.eval++vc.toList) (((va vf fs q1 q3).append (y4 hst _)).append (va vc cs q2 q4)) eE hρ iT ?_ (λr b1 hR a' w'=>hk a' w' _ _ (hK r b1 hR));rw[bO];congr 2;apply dF;simp
  .cases tw
 .exact h.elim
end
def FW (l:Option Nat):Fence:={ Fence.wide with round:=l }
section
variable {P:Program} {n:Nat} {l:Option Nat} {a:Act} {w:World} {o:Oper} {next:Act->World->Prop} {Q:Exit->Act->World->Prop}
theorem pV {f:FuncId} {args:Array Value} {R:Ending->World->Prop}:CallsIn (FW l) n P f args w R↔Calls P f args w R:=callsIn_wide (n:=n)
theorem Rx {row:String} {args:Array Value} {R:Value->World->Prop} (h:Rows P row args w R):RowsIn (FW l) n P row args w R:=
 λc cs _=>let⟨v,w',h1,h2⟩:=h c cs;⟨v,w',h1,stepsIn_wide.2 h2⟩
theorem M9 {k:Nat} {r:Nat} {f:FuncId} {tmps:Array Value} {assign body:Code} {R:Ending->World->Prop} (h:RoundIn Fence.wide k P r f tmps assign body w R):RoundIn (FW l) n P r f tmps assign body w R:=
 ⟨trivial,λc cs _=>h.2 c cs (room_wide _)⟩
theorem wF (qA:∀ c,o.op≠.defer c) (h:o.wp P a w next Q):o.wpIn (FW l) n P a w next Q:=by
 refine⟨λ_ _=>trivial,?_⟩;rw[Oper.semAt_eq _ _ _ qA];unfold Oper.wp at h;have hd:(FW l).depth.isSome=true->1<=n:=λh=>by cases h
 generalize (execOp a.eval o).run P w=r at *;cases r with
 |ok x w'=>
  cases x<;>simp only[Oper.upon,Oper.uponIn] at h ⊢<;>first
   |exact h
   |exact⟨hd,pV.2 h⟩
   |exact⟨hd,Rx h⟩
   |exact h.elim
 |halt x w'=>cases x<;>simp only[Oper.upon,Oper.uponIn] at h ⊢<;>exact h
def BM (ops:Array Oper):Bool:=ops.toList.all λo=>match o.op with | .defer _=>false | _=>true
theorem Na {ops:Array Oper} (h:BM ops=true) (ho:o∈ops.toList):∀ c,o.op≠.defer c:=λc hc=>by have:=a8.1 h o ho;rw[hc] at this;cases this
theorem abz {ops:Array Oper} (qA:BM ops=true) (hQ:¬ LetsOut Q) {i:Nat} {K K':Act->World->Prop} (hK:∀ a w,K a w->K' a w) (h:wpOp P ops Q i K a w):wpOpIn (FW l) n P ops Q i K' a w:=by
 unfold wpOp at h;unfold wpOpIn;split
 .rename_i ho;rw[ho] at h;exact hK _ _ h
 .rename_i o ho
  rw[ho] at h;have hm:o∈ops.toList:=by have:=fA ho;simpa using this
  simp only at h;split
  .rename_i hw
   rw[if_pos hw] at h;rcases h with h | h
   .exact wF (Na qA hm) (Oper.wp_mono hK h)
   .exact absurd h.2 hQ
  .rename_i hw
   rw[if_neg hw] at h;exact⟨λ_ _=>trivial,hK _ _ h⟩
theorem xO {ops:Array Oper} {md:Region.Mode} (qA:BM ops=true) (hQ:¬ LetsOut Q):∀ (fuel:Nat) (listed:Array Bool) (a:Act) (w:World),wpAny P md ops Q fuel listed a w->wpAnyIn (FW l) n P md ops Q fuel listed a w
 |0,_,_,_,h=>h
 |fuel+1,_,_,_,h=>⟨h.1,λi hi=>abz qA hQ (λa w h=>xO qA hQ fuel _ a w h) (h.2 i hi)⟩
section
variable {b:Frame} {k:List Item} {cs:List Frame}
theorem mP {c:Code}:step P (lone (b.atR a (.code (.scope c)::k)) cs w)=.next (lone (b.atR a (.code c::.inScope c::k)) cs w):=
 step_lone_go (by simp[stepG,stepG.exec,Frame.atR])
theorem Ek {c:Code}:step P (lone (b.atR a (.inScope c::k)) cs w)=.next (lone (b.atR a k) cs w):=
 step_lone_go (by simp[stepG,stepG.exec,Frame.atR])
end
theorem vI {c:Code} (h:c.wpIn (FW l) n P (Exit.noGoto Q) a w):(Code.scope c).wpIn (FW l) n P Q a w:=by
 intro b k cs Q2 hb hr;have h0:(lone (b.atR a (.code (.scope c)::k)) cs w).fenced P (FW l):=fenced_calm hb hr rfl;obtain⟨e,a₁,w₁,hq,U7⟩:=h b (.inScope c::k) cs Q2 hb hr;cases e with
 |normal=>exact⟨.normal,a₁,w₁,hq,.head h0 mP (StepsIn.trans U7 (.one (fenced_calm hb hr rfl) Ek))⟩
 |exit id=>
  have hx:exitTo id (.inScope c::k)=exitTo id k:=by simp[exitTo]
  exact⟨.exit id,a₁,w₁,hq,λk' hk=>.head h0 mP (U7.1 k' (by rw[hx];exact hk)),
   λhr' hk=>let⟨k₁,h1,h2⟩:=U7.2 hr' (by rw[hx];exact hk);⟨k₁,h1,.head h0 mP h2⟩⟩
 |goto l=>exact hq.elim
 |ret=>exact⟨_,a₁,w₁,hq,.of_steps (.one h0 mP) U7⟩
 |panic ch=>exact⟨_,a₁,w₁,hq,.of_steps (.one h0 mP) U7⟩
 |outgrown=>exact⟨_,a₁,w₁,hq,.of_steps (.one h0 mP) U7⟩
end
section
variable {P:Program} {G:Gl} {tr:List Nat} {n:Nat} {I0:Ft} {M:Mx} {w0:World} {I:Ft} {β:Nat->Option Nat} {ob:Loc->Option Nat} {s:S} {a:Act} {w:World} {o:Oper}
 {next:Act->World->Prop} {Q:Exit->Act->World->Prop} {base:Nat->Prop} {v:Value} {x y:V}
theorem SE.put (h:St G n I0 M w0 I β ob s a w) {dst:Option Tmp} (hd:∀ d,dst=some d->d<n) (hv:LR (Wr M w0) I β w none v x):SE G n I0 M w0 (s.put dst x) (a.put dst v) w:=by
 cases dst with
 |none=>exact⟨_,_,_,h⟩
 |some d=>exact⟨_,_,_,h.put d (hd d rfl) hv FreeOb.nothing⟩
theorem VM {u:Value} {c:C} (h:zc u=some c):LR base I β w none u (nM c):=by
 unfold zc at h;split at h
 .simp only[ao] at h;subst h
  exact⟨.nil none 0 (λ_=>rfl),.inl ⟨rfl,rfl,none,rfl⟩⟩
 .split at h
  .simp only[ao] at h;subst h
   exact .ofLit ‹_›
  .cases h
theorem St.newCells (hst:St G n I0 M w0 I β ob s a w) (e:TypeId) {cells:Array Value} {cs:List C} (hc:Cells I w cells cs) :
 St G n I0 M w0 I (up β s.nb (some w.heap.size)) (λL=>match L with | .b i j=>if i=s.nb then none else ob (.b i j) | L=>ob L)
  { s with bx:=up s.bx s.nb (cs.map .c),nb:=s.nb+1 } a (w.alloc (.cells cells e)):=
 hst.newBox (cur:=cells) (T:=.of e) (cs:=cs.map .c) (od:=λ_=>none) (Nat.le_of_eq (by simpa using hc.1.symm)) RT.of_ok (λq=>by
  by_cases hq:q<cs.length
  .have e2:(cs.map V.c).getD q .un=.c cs[q]:=by simp[List.getD,hq]
   rw[e2];exact .ofC (hc.2 q _ (ah hq))
  .have e2:(cs.map V.c).getD q .un=.un:=by simp[List.getD,bG (ep hq)]
   rw[e2];simp only[LR];exact .un _) (λu hu=>by
  obtain⟨q,hq,rfl⟩:=fB.1 hu;have nE:q<cs.length:=by rw[<- hc.1];exact hq
  have:=(hc.2 q _ (ah nE)).oneCell;simpa[ax hq,hq] using this) (λ_ _ h=>by cases h) (λ_ _ _ h=>by cases h) (by cases cs<;>rfl)
theorem St.newPre (hst:St G n I0 M w0 I β ob s a w) (e:TypeId) {cells:Array Value} {cs:List C} (fK:cs.length<=cells.size) (jr:∀ q c,cs[q]?=some c->CR I w (cells.getD q undef) c)
 (ke:∀ u∈cells,u.oneCell'=true) :
 St G n I0 M w0 I (up β s.nb (some w.heap.size)) (λL=>match L with | .b i j=>if i=s.nb then none else ob (.b i j) | L=>ob L)
  { s with bx:=up s.bx s.nb (cs.map .c),nb:=s.nb+1 } a (w.alloc (.cells cells e)):=
 hst.newBox (cur:=cells) (T:=.of e) (cs:=cs.map .c) (od:=λ_=>none) (by simpa using fK) RT.of_ok (λq=>by
  by_cases hq:q<cs.length
  .have e2:(cs.map V.c).getD q .un=.c cs[q]:=by simp[List.getD,hq]
   rw[e2];exact .ofC (jr q _ (ah hq))
  .have e2:(cs.map V.c).getD q .un=.un:=by simp[List.getD,bG (ep hq)]
   rw[e2];simp only[LR];exact .un _) ke (λ_ _ h=>by cases h) (λ_ _ _ h=>by cases h) (by cases cs<;>rfl)
theorem Nb {K:S->Prop} {T:TypeId} {p X:Operand} {i:TI} {blk j b k len cap q:Nat} {E:TypeId} {es:List (List C)} {cs:List C} (hst:St G n I0 M w0 I β ob s a w) (hd:∀ d,o.dst=some d->d<n) (cw:o.op=.store T p X) (hi:ti P T=some i) (hp:ev G s p=.c (.ex (.pointer (some ⟨blk,j,none⟩))))
 (hb:b<s.nb) (ly:ck (s.bx b)=false) (hkk:(s.bx b)[k]?=some (.gg (.slice (some ⟨blk,0,none⟩) len cap) (some (E,i.size)) es)) (js:(ev G s X).cs=some cs) (j8:cs.length=i.size) (hpz:0<i.size) (hq:q<es.length) (hj:q*i.size=j)
 (h:K ((let s':=s.use (cj tr o);{ s' with bx:=up s.bx b ((s.bx b).set k (.gg (.slice (some ⟨blk,0,none⟩) len cap) (some (E,i.size)) (es.set q cs))) }:S).put o.dst .sk))
 (hk:∀ a' w' s',K s'->SE G n I0 M w0 s' a' w'->next a' w'):o.wp P a w next Q:=by
 obtain⟨j',d,Gq,L9,_,fK,_,kK,_⟩:=bH hi;obtain⟨ob',h1,h2⟩:=hst.use (cj tr o);have oS:(s.use (cj tr o)).bx=s.bx/\(s.use (cj tr o)).nb=s.nb:=by
  cases cj tr o with
  |none=>exact⟨rfl,rfl⟩
  |some t=>simp only[S.use];split<;>exact⟨rfl,rfl⟩
 have Py:=bN hst p;rw[hp] at Py;have hpe:=Py.toC.ex_inv;have rb:=IW (bN hst X) js;obtain⟨cur,⟨g1,g2,g3,g4,g5,g6,g7⟩,qx⟩:=h1.ggSet (b:=b) (k:=k) (by rw[oS.2];exact hb) (by rw[oS.1];exact hkk);have lG:=bK es g5;have AZ:(a.eval X).cells.toList.length=i.size:=by rw[bX,rb.1,j8]
 have Pz:cur.toList.length=cur.size:=bX;have kg:=aO i.size (show q+1<=cap by omega);have aaW:=aO i.size (show q+1<=es.length from hq);rw[df,nc,<- g3,hj] at kg;rw[df,nc,hj] at aaW;have Mc:RelL I w (a.eval X).cells.toList cs:=λq c hq=>by
  have:=rb.2 q c hq;have nE:q<(a.eval X).cells.size:=by rw[rb.1];exact(ai.1 hq).1
  refine⟨(a.eval X).cells[q],by rw[aS,ax nE],?_⟩;rw[ak,ax nE] at this;exact this
 have Md:∀ u∈(a.eval X).cells.toList,u.oneCell'=true:=λu hu=>by
  obtain⟨q,hq⟩:=eB.1 hu;have nE:q<cs.length:=by rw[j8,<- AZ];exact(ai.1 hq).1
  obtain⟨u',Br,jr⟩:=Mc q _ (ah nE);rw[hq] at Br;cases Br;exact jr.oneCell
 have tO:RelL I w cur.toList es.flatten:=λq c hq=>by have nE:=(ai.1 hq).1;rw[lG] at nE;have:=aO i.size g4;refine⟨cur.getD q undef,?_,g6 q c hq⟩;rw[aS,ak,ax (show q<cur.size by omega)];rfl
 have bO:(Instr.storeAt T (a.eval p) (a.eval X)).run P w=.ok () (w.setRow blk (cur.toList.take j++(a.eval X).cells.toList++cur.toList.drop (j+i.size)).toArray):=by rw[hpe];simp only[Instr.storeAt,Instr.sureAddr,aK,bh,aw];unfold storeVar;simp only[aK,e9 w Gq,aw];rw[if_neg (by rw[ey Gq,<- fK,rb.1,j8];simp)];have:=gq (P:=P) blk j (.of E) (a.eval X).cells.toList 0 cur w g2 RT.of_ok (by rw[AZ];omega) Md;rw[AZ] at this;simpa using this
 have nB:=qx (es.set q cs) (cur.toList.take j++(a.eval X).cells.toList++cur.toList.drop (j+i.size)) (by simp) (λx hx=>by
  rcases List.mem_or_eq_of_mem_set hx with hx | rfl
  .exact g5 x hx
  .exact j8)
  (by rw[ae,ae,AZ,aQ,cG,Pz,bR (by omega)];omega)
  (λu hu=>by
   rcases ba.1 hu with hu | hu
   .rcases ba.1 hu with hu | hu
    .exact g7 u (cu.1 (c9 hu))
    .exact Md u hu
   .exact g7 u (cu.1 (cT hu)))
  (by
   rw[G1 g5 hq,hj];refine RelL.append (RelL.append (tO.take _) Mc ?_) (tO.drop _) ?_
   .rw[aQ,aQ,Pz,lG,bR (by omega),bR (by omega)]
   .rw[ae,ae,AZ,j8,aQ,aQ,Pz,lG,bR (by omega),bR (by omega)])
 unfold Oper.wp;obtain⟨dst,op,type,pos,after,guard⟩:=o;simp only at cw;subst cw;simp only[execOp,aK,bO,aw,bh,Oper.upon];rw[oS.1] at nB;have vS:=SE.put (v:=undef) (x:=.sk) nB hd (by simp only[LR];exact .sk);exact hk _ _ _ h vS
theorem BN {ρ:Nat->Nat}:∀ (b:List (List V)) (i:Nat) (bx:Nat->List V) (nb:Nat),rf bx nb ρ i b->fM ρ i b bx=bx
 |[],_,_,_,_=>rfl
 |x::r,i,bx,nb,h=>by
  have e:up bx (ρ i) (x.map (V.ren ρ))=bx:=by rw[<- h.1.2,sy]
  show fM ρ (i+1) r (up bx (ρ i) (x.map (V.ren ρ)))=bx;rw[e];exact BN r (i+1) bx nb h.2
theorem VN {f:V} {args:List V} {K:V->Prop} (h:pO P G s f args K):vcallB P G s f args (λs' x=>s'=s/\K x):=by
 unfold pO at h;unfold vcallB kE;split at h
 .rename_i g all hc
  simp only[hc];obtain⟨ρ,cargs,b0,r,h1,h2,h3,h4,h5,h6⟩:=h;refine⟨ρ,cargs,b0,r,b0,h1,h2 _,h3,h4 _,?_,by rw[h5];exact h6⟩;rw[BN _ _ _ _ (h4 s.nb),Nat.sub_self];rfl
 .exact h.elim
theorem EX {K:V->Prop} {f:Operand} {args:Array Operand} {ts:Array TypeId} (ho:o.op=.call { callee:=.value f,args:=args,argTypes:=ts }) (hst:St G n I0 M w0 I β ob s a w) (hd:∀ d,o.dst=some d->d<n)
 (h:VYQ P G tr o s f args K) (hk:∀ a' w' x,K x->SE G n I0 M w0 (s.after tr o x) a' w'->next a' w'):o.wp P a w next Q:=by
 unfold VYQ at h;split at h
 .refine sF ho hst hd (VN h) (λa' w' s' x hK dH=>?_)
  obtain⟨rfl,hx⟩:=hK;refine hk a' w' x hx ?_;have hc:cj tr o=none:=by simp[cj,ho]
  unfold S.after;rw[hc];exact dH
 .exact pJ (tr:=tr) hst hd h hk
theorem qL {K:S->Prop} (hst:St G n I0 M w0 I β ob s a w) (hd:∀ d,o.dst=some d->d<n) (hy:qD tr o=false) (h:VStep P G tr o s K)
 (hk:∀ a' w' s',K s'->SE G n I0 M w0 s' a' w'->next a' w'):o.wp P a w next Q:=by
 have gen:VYK P G tr o s (λv=>K (s.after tr o v))->o.wp P a w next Q:=λh=>pJ (tr:=tr) hst hd h (λa' w' x hx dH=>hk _ _ _ hx dH)
 unfold VStep at h;split at h
 .
  rename_i T cw;split at h
  .rename_i z _ _ hi
   obtain⟨j,d,h1,h2,_,_,_,_,hz,_⟩:=bH hi;simp only at hz;split at hz
   .rename_i zv tL
    have cm:=List.mapM_eq_some_length hz.symm;have A0:=hst.newBox (cur:=zv.cells) (T:=.of T) (cs:=z.map nM) (od:=λ_=>none) (Nat.le_of_eq (by simpa using cm)) RT.of_ok (λq=>by
     by_cases hq:q<z.length
     .obtain⟨u,hu,tg⟩:=List.mapM_eq_some_get hz.symm q z[q] (ah hq)
      have e1:zv.cells.getD q undef=u:=(by rw[aS] at hu;simp[hu]);have e2:(z.map nM).getD q .un=nM z[q]:=(by simp[List.getD,hq]);rw[e1,e2];exact VM tg
     .have e2:(z.map nM).getD q .un=.un:=by simp[List.getD,bG (ep hq)]
      rw[e2];simp only[LR];exact .un _) (λu hu=>by
     obtain⟨q,hq,rfl⟩:=fB.1 hu;have nE:q<z.length:=(by rw[cm];simpa using hq);obtain⟨u,hu,tg⟩:=List.mapM_eq_some_get hz.symm q z[q] (ah nE);rw[aS,ax hq] at hu;cases hu;exact(PS (I:=I) (w:=w) tg).oneCell) (λ_ _ h=>by cases h) (λ_ _ _ h=>by cases h) (G0 λx hx=>by
     obtain⟨c,_,rfl⟩:=bM.1 hx;unfold nM;split<;>rfl)
    refine eD (v':=.pointer (some ⟨w.heap.size,0,none⟩)) (w':=w.alloc (.cells zv.cells T)) ?_ (hk _ _ _ h (SE.put A0 hd ?_))
    .have bO:(Instr.alloc T true (.tuple #[])).run P w=.ok (.pointer (some ⟨w.heap.size,0,none⟩)) (w.alloc (.cells zv.cells T)):=by simp[Instr.alloc,zeroValue,typeInfo,h1,tL,newVar,newRow]
     obtain⟨dst,op,type,pos,after,guard⟩:=o;simp only at cw;subst cw;simp only[execOp,aK,bO,aw,bh]
    .simp only[LR];exact⟨w.heap.size,by simp,rfl⟩
   .cases hz
  .exact h.elim
 .
  rename_i T X cw;split at h
  .rename_i cs js
   obtain⟨ob',h1,h2⟩:=hst.use (cj tr o);obtain⟨b1,b2,b3⟩:=ET (bN hst X) js;have aaY:cj tr o=(match X with | .tmp t=>some t | _=>none):=by obtain⟨dst,op,type,pos,after,guard⟩:=o;simp only at cw;subst cw;cases X<;>rfl
   have oS:(s.use (cj tr o)).bx=s.bx/\(s.use (cj tr o)).nb=s.nb:=by
    cases cj tr o with
    |none=>exact⟨rfl,rfl⟩
    |some t=>simp only[S.use];split<;>exact⟨rfl,rfl⟩
   have A0:=h1.newBox (cur:=(a.eval X).cells) (T:=.of T) (cs:=cs) (od:=λj=>if j=0/\(ev G s X).isOw=true then Vy ob X else none) (Nat.le_of_eq b1.symm) RT.of_ok b2 b3 (λj b hb=>by
    split at hb
    .rename_i hj
     cases X with
     |tmp t=>refine⟨hst.obnd _ b hb,λL hL=>?_,λi=>hst.obx _ b i hb⟩;obtain⟨q1,q2⟩:=h2 L b hL;have:=q2 t aaY (hst.oinj _ _ b q1 hb);simp only[ev] at hj;rw[hj.2] at this;cases this
     |_=>cases hb
    .cases hb) (λj j' b hb yP=>by
    split at hb<;>split at yP<;>try cases hb
    all_goals try cases yP
    rename_i q1 q2;rw[q1.1,q2.1]) (G0 (EU (bN hst X) js))
   refine eD (v':=.pointer (some ⟨w.heap.size,0,none⟩)) (w':=w.alloc (.cells (a.eval X).cells T)) ?_ (hk _ _ _ h (SE.put A0 hd ?_))
   .obtain⟨dst,op,type,pos,after,guard⟩:=o
    simp only at cw;subst cw;simp[execOp,Instr.box,newVar,newRow]
   .simp only[LR];exact⟨w.heap.size,by rw[oS.2];simp,rfl⟩
  .exact h.elim
 .
  rename_i T p X cw;replace h:=h.2;split at h
  .rename_i i b k cs hi hp js
   obtain⟨j,d,Gq,L9,_,fK,_⟩:=bH hi;obtain⟨⟨hb,cm,vO,ly⟩,h⟩:=h;obtain⟨ob',h1,h2⟩:=hst.use (cj tr o);obtain⟨b1,b2,b3⟩:=ET (bN hst X) js;have aaY:cj tr o=(match X with | .tmp t=>some t | _=>none):=by obtain⟨dst,op,type,pos,after,guard⟩:=o;simp only at cw;subst cw;cases X<;>rfl
   have oS:(s.use (cj tr o)).bx=s.bx/\(s.use (cj tr o)).nb=s.nb:=by
    cases cj tr o with
    |none=>exact⟨rfl,rfl⟩
    |some t=>simp only[S.use];split<;>exact⟨rfl,rfl⟩
   have Py:=bN hst p;rw[hp] at Py;simp only[LR] at Py;obtain⟨blk,hβ,hpe⟩:=Py;obtain⟨tj,cur,e1,e2,e3,e4,_⟩:=hst.bx b hb;obtain⟨T',e3,_,hT⟩:=e3.cells ly;rw[hβ] at e1;cases e1;have hsb:=h1.setBox (i:=b) (k:=k) (blk:=blk) (cur:=cur) (T:=T') (vs:=(a.eval X).cells.toList) (ds:=cs) (od:=λj=>if j=0/\(ev G s X).isOw=true then Vy ob X else none)
    (by rw[oS.2];exact hb) hβ e3 hT (by simpa using b1) (by rw[oS.1,cm];exact vO) (λq=>by have:=b2 q;rw[aA,aS,<- ak];exact this) (by simpa using b3) (λj b hb=>by
    split at hb
    .rename_i hj
     cases X with
     |tmp t=>refine⟨hst.obnd _ b hb,λL hL=>?_,λi=>hst.obx _ b i hb⟩;obtain⟨q1,q2⟩:=h2 L b hL;have:=q2 t aaY (hst.oinj _ _ b q1 hb);simp only[ev] at hj;rw[hj.2] at this;cases this
     |_=>cases hb
    .cases hb) (λj j' b hb yP=>by
    split at hb<;>split at yP<;>try cases hb
    all_goals try cases yP
    rename_i q1 q2;rw[q1.1,q2.1]) (by rw[oS.1];exact ly) (EU (bN hst X) js)
   have bO:(Instr.storeAt T (a.eval p) (a.eval X)).run P w=.ok () (w.setRow blk (cur.toList.take k++(a.eval X).cells.toList++cur.toList.drop (k+(a.eval X).cells.toList.length)).toArray):=(by rw[hpe];simp only[Instr.storeAt,Instr.sureAddr,aK,bh,aw];unfold storeVar;simp only[aK,e9 w Gq,aw];rw[if_neg (by rw[ey Gq,<- fK,b1,cm];simp)];have:=gq (P:=P) blk k T' (a.eval X).cells.toList 0 cur w e3 hT (by simp only[bX,eT,b1,cm];omega) (by simpa using b3);simpa using this);unfold Oper.wp;obtain⟨dst,op,type,pos,after,guard⟩:=o;simp only at cw;subst cw;simp only[execOp,aK,bO,aw,bh,Oper.upon];have vS:=SE.put (v:=undef) (x:=.sk) hsb hd (by simp only[LR];exact .sk);exact hk _ _ _ h vS
  .rename_i i blk j hi hp
   obtain⟨j',d,Gq,L9,_,fK,_,kK,_⟩:=bH hi;rcases h with h | ⟨b,k,len,cap,q,E,es,cs,⟨hb,ly,hkk,js,j8,hpz,hq,hj⟩,h⟩
   rotate_left
   .exact Nb hst hd cw hi hp hb ly hkk js j8 hpz hq hj h hk
   obtain⟨b,k,len,cap,E,es,r,e,c,⟨Iy,hb,ly,hkk,⟨hj,hr⟩,hc⟩,h⟩:=h;obtain⟨ob',h1,h2⟩:=hst.use (cj tr o);have oS:(s.use (cj tr o)).bx=s.bx/\(s.use (cj tr o)).nb=s.nb:=by
    cases cj tr o with
    |none=>exact⟨rfl,rfl⟩
    |some t=>simp only[S.use];split<;>exact⟨rfl,rfl⟩
   have Py:=bN hst p;rw[hp] at Py;have hpe:=Py.toC.ex_inv;have rb:CR I w (a.eval X) c:=by
    have:=bN hst X;generalize ev G s X=x at this hc;cases x<;>simp only[V.asC,ao] at hc<;>try cases hc
    .exact this.toC
    .exact this.1
   obtain⟨blk2,cur,b1,g1,g2,g3,g4⟩:=h1.hotCell (b:=b) (k:=k) (by rw[oS.2];exact hb) (by rw[oS.1];exact hkk);obtain⟨f0,te,blk3,cap',c2,sz,f1,f2,f3,f4,f5,f6,f7,f8,f9,f10,f11,f12⟩:=g4.hot;cases f1;have U6:=f0 _ rfl;rw[f3] at U6;simp only[eM,ao,iF] at U6;obtain⟨⟨rfl,_⟩,rfl,rfl⟩:=U6;have he1:(es++[e]).length=es.length+1:=(by simp);have lG:es.flatten.length=es.length*sz:=bK es λx hx=>f9 x (fG _ hx);have Ve:e.length=sz:=f9 e (by simp);have hjs:j<c2.size:=(by have:=aO sz f6;rw[he1,eA] at this;omega);have pa:=rb.notAgg;have vT:(c2.toList.take j++(a.eval X).cells.toList++c2.toList.drop (j+(a.eval X).cells.toList.length)).toArray=c2.setIfInBounds j (a.eval X):=(by rw[pa];apply dF;rw[Array.toList_setIfInBounds,List.set_eq_take_append_cons_drop,if_pos (by simpa using hjs)];simp);have bO:(Instr.storeAt T (a.eval p) (a.eval X)).run P w=.ok () (w.setRow blk2 (c2.setIfInBounds j (a.eval X))):=(by rw[hpe,<- vT];simp only[Instr.storeAt,Instr.sureAddr,aK,bh,aw];unfold storeVar;simp only[aK,e9 w Gq,aw];have ke:i.size=1:=Iy;rw[if_neg (by rw[ey Gq,<- fK,ke,pa];simp)];have:=gq (P:=P) blk2 j (.of te) (a.eval X).cells.toList 0 c2 w f5 RT.of_ok (by rw[pa];simp;omega) (by rw[pa];simpa using rb.oneCell);simpa using this);have hg:w.grb (w.setRow blk2 (c2.setIfInBounds j (a.eval X))) (some blk2):=⟨rfl,rfl,rfl,by simp,λq _ hq=>jZ w blk2 q _ (λe=>hq (by rw[e])),ab _⟩;have hnh:=lR w blk2 c2 (c2.setIfInBounds j (a.eval X)) te (0,0) f5;have js:∀ o,I blk2 o->(w.setRow blk2 (c2.setIfInBounds j (a.eval X))).cell? ⟨blk2,o,none⟩=w.cell? ⟨blk2,o,none⟩:=λo ho=>by have:=f12 o ho;rw[he1,Nat.add_sub_cancel] at this;rw[ff _ blk2 o _ te (0,0) hnh,ff w blk2 o c2 te (0,0) f5,Array.getElem?_setIfInBounds_ne (by omega)]
   have oU:∀ b o,I b o->I b o/\(w.setRow blk2 (c2.setIfInBounds j (a.eval X))).cell? ⟨b,o,none⟩=w.cell? ⟨b,o,none⟩:=λb o ho=>
    ⟨ho,h1.keeps hg (λr e o ho=>by cases e;exact js o ho) b o ho⟩
   have hfs:(es++[e.set r c]).flatten=(es++[e]).flatten.set j c:=(by rw[dm,dm,List.flatten_singleton,List.flatten_singleton,List.set_append_right _ _ (by omega),<- hj,Nat.add_sub_cancel_left]);have hsb:=h1.recell (b:=b) (k:=k) (x':=.hh (some (.slice (some ⟨blk2,0,none⟩) (es++[e]).length cap')) E (es++[e.set r c])) (by rw[oS.2];exact hb) (by rw[oS.1];exact hkk) rfl rfl g1 hg js (λ_ _ h=>h) (λ_ _ h=>.inl h)
    (λb2 cur2 q1 q2 q3=>by
     have q4:=q3.hot.1;refine⟨q4,te,blk2,cap',_,sz,rfl,f2,?_,f4,hnh,?_,f7,by simpa using f8,λx hx=>?_,λq d hq=>?_,λo ho=>?_,λo ho=>?_⟩
     .rw[q4 _ rfl];simp
     .rw[ae] at f6 ⊢;simpa using f6
     .rcases ba.1 hx with hx | hx
      .exact f9 x (fG _ hx)
      .rw[aX] at hx;subst hx;rw[gi];exact Ve
     .rw[hfs,List.getElem?_set] at hq
      split at hq
      .rename_i hqj
       subst hqj;split at hq
       .cases hq
        rw[mw _ _ _ hjs];exact rb.mono oU
       .cases hq
      .rename_i hqj
       rw[getD_set_ne _ _ _ _ (λe=>hqj e.symm)];exact(f10 q d hq).mono oU
     .exact f11 o (by simpa using ho)
     .simpa using f12 o ho)
   unfold Oper.wp;obtain⟨dst,op,type,pos,after,guard⟩:=o;simp only at cw;subst cw;simp only[execOp,aK,bO,aw,bh,Oper.upon];have vS:=SE.put (v:=undef) (x:=.sk) hsb hd (by simp only[LR];exact .sk);exact hk _ _ _ h vS
  .exact h.elim
 .
  rename_i T len parts cw;split at h
  .obtain⟨e,sz,es,cells,hK,bO,hc⟩:=AG hst h
   have A0:=hst.newCells e hc;refine eD (v':=.slice (some ⟨w.heap.size,0,none⟩) len len) (w':=w.alloc (.cells cells e)) ?_ (hk _ _ _ hK (SE.put A0 hd ?_))
   .obtain⟨dst,op,type,pos,after,guard⟩:=o
    simp only at cw;subst cw;simp only[execOp,aK,bO,aw,bh]
   .simp only[LR];exact⟨ab _,w.heap.size,0,_,ab _,by simp,.inr rfl,rfl⟩
  split at h
  .rcases h with h | h
   rotate_left
   .obtain⟨z,u,w',hz,bO,dH⟩:=Ee (tr:=tr) hst hd h
    refine eD (v':=u) (w':=w') ?_ (hk _ _ _ hz dH);obtain⟨dst,op,type,pos,after,guard⟩:=o;simp only at cw;subst cw;simp only[execOp,aK,bO,aw,bh]
   unfold xC at h;split at h
   .rename_i e _ _ _ _ _ _ hi
    obtain⟨j,d,h1,h2,h3,_⟩:=bH hi;have qI:=dL h3;subst qI;split at h
    .rename_i sz _ _ z _ _ tQ
     obtain⟨j',d',jE,nD,_,eZ,_,_,mG,_⟩:=bH tQ;simp only at mG eZ;obtain⟨⟨rfl,tX,hix,ke,xj,hsm⟩,h⟩:=h;split at mG
     .rename_i zv tL
      have vN:∀ p∈(parts.map λ(i,x)=>(i,a.eval x)).toList,p.2.cells=#[p.2]/\p.2.oneCell'=true:=λp hp=>by simp only[Array.toList_map,bM] at hp;obtain⟨⟨i,x⟩,hx,rfl⟩:=hp;have h5:=ke (i,ev G s x) (bM.2 ⟨(i,x),hx,rfl⟩);have:=(xF hst x).oneCell h5;exact⟨this.2,this.1⟩
      have cm:parts.toList.length=len:=(by have:=dM List.length hix;simpa using this);have hz1:zv.cells.size=1:=(by have:=List.mapM_eq_some_length mG.symm;rw[tX] at this;simpa using this.symm);obtain⟨cells,f1,f2,f3⟩:=EP (parts.map λ(i,x)=>(i,a.eval x)).toList ((Array.range (len*1)).map (zv.cells[· % zv.cells.size]!)) 0 (by rw[<- eL];have:((parts.map λ(i,x)=>(i,a.eval x)).toList).length=len:=(by simpa using cm);rw[this,<- hix,Array.toList_map,eU,eU];rfl) (λp hp=>(vN p hp).1) (by rw[Array.toList_map,au,cm];simp);have bO:=mH (P:=P) w T e len (parts.map λ(i,x)=>(i,a.eval x)) cells j' zv h2 jE tL (by rw[<- eZ];omega) (by rw[<- eZ];exact f1);have jJ:cells.size=len:=(by rw[f2];simp);have A0:=hst.newBox (cur:=cells) (T:=.of e) (cs:=(parts.toList.map λ(i,x)=>(i,ev G s x)).map λp=>p.2.fz) (od:=λ_=>none) (Nat.le_of_eq (by simp;rw[jJ];simpa using cm)) RT.of_ok (λq=>by
       by_cases hq:q<parts.size
       .have e1:cells.getD q undef=a.eval parts[q].2:=by rw[f3 q,if_pos (by simp;exact hq)];simp[List.getD,hq]
        have e2:(((parts.toList.map λ(i,x)=>(i,ev G s x)).map λp=>p.2.fz)).getD q .un=(ev G s parts[q].2).fz:=(by simp[List.getD,hq]);rw[e1,e2];exact xF hst _
       .have e2:(((parts.toList.map λ(i,x)=>(i,ev G s x)).map λp=>p.2.fz)).getD q .un=.un:=by simp[List.getD,bG (l:=parts.toList) (by simpa using hq)]
        rw[e2];simp only[LR];exact .un _) (λu hu=>by
       obtain⟨q,hq,rfl⟩:=fB.1 hu;have hq':q<parts.size:=(by rw[jJ] at hq;rw[<- cm] at hq;simpa using hq);have e1:cells.getD q undef=a.eval parts[q].2:=(by rw[f3 q,if_pos (by simp;exact hq')];simp[List.getD,hq']);have e2:cells.getD q undef=cells[q]:=(by simp[hq]);rw[<- e2,e1];exact(vN (parts[q].1,a.eval parts[q].2) (by rw[Array.toList_map];exact bM.2 ⟨parts[q],by simp,rfl⟩)).2) (λ_ _ h=>by cases h) (λ_ _ _ h=>by cases h) (G0 λd hd=>by
       obtain⟨p,hp,rfl⟩:=bM.1 hd;have:=ke p hp;cases hx:p.2.fz<;>rw[hx] at this<;>first | rfl | cases this)
      refine eD (v':=.slice (some ⟨w.heap.size,0,none⟩) len len) (w':=w.alloc (.cells cells e)) ?_ (hk _ _ _ h (SE.put A0 hd ?_))
      .obtain⟨dst,op,type,pos,after,guard⟩:=o
       simp only at cw;subst cw;simp only[execOp,aK,bO,aw,bh]
      .simp only[LR];exact⟨ab _,w.heap.size,0,_,ab _,by simp,.inr rfl,rfl⟩
     .cases mG
    .exact h.elim
   .exact h.elim
  .exact gen h
 .
  rename_i T l c cw;obtain⟨e,p,m,sz,z,cells,hK,hpm,bO,hc⟩:=IY hst h;have A0:=hst.newCells e hc;refine eD (v':=.slice (some ⟨w.heap.size,0,none⟩) p m) (w':=w.alloc (.cells cells e)) ?_ (hk _ _ _ hK (SE.put A0 hd ?_))
  .obtain⟨dst,op,type,pos,after,guard⟩:=o
   simp only at cw;subst cw;simp only[execOp,aK,bO,aw,bh]
  .simp only[LR];exact⟨hpm,w.heap.size,0,_,ab _,by simp,.inr rfl,rfl⟩
 .rename_i f args ts cw
  have hy:Gw tr o.dst=false:=by unfold qD at hy;rw[cw] at hy;exact hy
  rw[hy] at h;simp only[aM,dp] at h;split at h
  .exact G4 cw hst hd h (λa' w' s' x hK dH=>hk _ _ _ hK dH)
  split at h
  .refine sF cw hst hd h (λa' w' s' x hK dH=>hk _ _ _ ?_ dH)
   by_cases hl:Ea tr o.dst=true
   .rw[if_pos hl] at hK;exact hK.2
   .rw[if_neg hl] at hK;exact hK
  .exact EX cw hst hd h (λa' w' x hx dH=>hk _ _ _ hx dH)
 .
  rename_i args ts cw;split at h
  .unfold xA at h
   split at h
   .rename_i t u es y qC dQ
    obtain⟨htu,h⟩:=h;subst htu;obtain⟨X,Y,hX,hxe,hye⟩:∃ X Y,args.toList=[X,Y]/\V.ow none es=vw s (ev G s X)/\y=vw s (ev G s Y):=by
     cases ha:args.toList with
     |nil=>simp[ha] at dQ
     |cons X l=>
      cases l with
      |nil=>simp[ha] at dQ
      |cons Y l=>simp only[ha,bB,cM,eV] at dQ;exact⟨X,Y,by rw[dQ.2.2],dQ.1.symm,dQ.2.1.symm⟩
    have e1:ts=#[t,t]:=dF qC;have e2:args.map a.eval=#[a.eval X,a.eval Y]:=(by apply dF;simp[hX]);subst e1;subst hye;have hxl:LR (Wr M w0) I β w (Vy ob X) (a.eval X) (.ow none es):=(by have:=bN hst X;rw[agh hxe.symm] at this;exact this);obtain⟨e,sz,es',cells,cap,hK,bO,kX,fK,jr,ke⟩:=Eh (ty:=o.type) hst hxl h (Ja hst Y);have A0:=hst.drew.newPre e (cs:=es'.flatten) fK (λq c hq=>(jr q c hq).mono λb o h=>⟨h,rfl⟩) ke;refine eD (v':=.slice (some ⟨w.heap.size,0,none⟩) es'.length cap) (w':=w.drew.alloc (.cells cells e)) ?_ (hk _ _ _ hK (SE.put A0 hd ?_))
    .obtain⟨dst,op,type,pos,after,guard⟩:=o
     simp only at cw bO;subst cw;have hb:∀ cs,builtin .append #[t,t] type cs (args.map a.eval)=(do pure (.value (<- Builtin.append_ #[t,t] type (args.map a.eval)))):=λ_=>rfl
     have:execOp a.eval { dst,op:=.call { callee:=.builtin .append,args:=args,argTypes:=#[t,t] },type,pos,after,guard }=(do pure (.value (<- Builtin.append_ #[t,t] type (args.map a.eval)))):=by simp only[execOp,resolve,invoke,pure_bind];exact hb _
     rw[this,e2];simp only[aK,bO,aw,bh]
    .simp only[LR];exact⟨ab _,w.heap.size,0,cap,kX,by simp,.inr rfl,rfl⟩
   .exact h.elim
  .split at h
   .
    obtain⟨t,u,X,Y,qC,hX⟩:∃ t u X Y,ts.toList=[t,u]/\args.toList=[X,Y]:=by
     unfold fE at h;split at h
     .rename_i t u _ _ _ _ _ _ qC dQ
      cases ha:args.toList with
      |nil=>simp[ha] at dQ
      |cons X l=>
       cases l with
       |nil=>simp[ha] at dQ
       |cons Y l=>simp only[ha,bB,cM,eV] at dQ;exact⟨t,u,X,Y,qC,by rw[dQ.2.2]⟩
     .rename_i t u _ _ _ _ _ _ _ qC dQ
      cases ha:args.toList with
      |nil=>simp[ha] at dQ
      |cons X l=>
       cases l with
       |nil=>simp[ha] at dQ
       |cons Y l=>simp only[ha,bB,cM,eV] at dQ;exact⟨t,u,X,Y,qC,by rw[dQ.2.2]⟩
     .exact h.elim
    have e1:ts=#[t,u]:=dF qC;have e2:args.map a.eval=#[a.eval X,a.eval Y]:=(by apply dF;simp[hX]);subst e1;rw[hX] at h;obtain⟨s',ob',w',z,v,hK,bO,cN,iD⟩:=BJ (ty:=o.type) hst h (bN hst X) (bN hst Y);refine eD (v':=v) (w':=w') ?_ (hk _ _ _ hK (SE.put cN hd iD));obtain⟨dst,op,type,pos,after,guard⟩:=o;simp only at cw bO;subst cw;have hb:∀ cs,builtin .append #[t,u] type cs (args.map a.eval)=(do pure (.value (<- Builtin.append_ #[t,u] type (args.map a.eval)))):=λ_=>rfl
    have:execOp a.eval { dst,op:=.call { callee:=.builtin .append,args:=args,argTypes:=#[t,u] },type,pos,after,guard }=(do pure (.value (<- Builtin.append_ #[t,u] type (args.map a.eval)))):=by simp only[execOp,resolve,invoke,pure_bind];exact hb _
    rw[this,e2];simp only[aK,bO,aw,bh]
   .exact gen h
 .
  rename_i args ts cw;exact False.elim h
 .
  rename_i args ts cw;obtain⟨t,X,qC,hX⟩:∃ t X,ts.toList=[t]/\args.toList=[X]:=by
   unfold jw at h;split at h
   .rename_i t _ _ _ _ _ qC dQ
    cases ha:args.toList with
    |nil=>simp[ha] at dQ
    |cons X l=>simp only[ha,bB,cM,eV] at dQ;exact⟨t,X,qC,by rw[dQ.2]⟩
   .rename_i t _ _ _ _ qC dQ
    cases ha:args.toList with
    |nil=>simp[ha] at dQ
    |cons X l=>simp only[ha,bB,cM,eV] at dQ;exact⟨t,X,qC,by rw[dQ.2]⟩
   .exact h.elim
  have e1:ts=#[t]:=dF qC;have e2:args.map a.eval=#[a.eval X]:=by apply dF;simp[hX]
  subst e1;rw[hX] at h;obtain⟨s',ob',w',hK,bO,cN⟩:=G2 (ty:=o.type) hst h (bN hst X);refine eD (v':=.tuple #[]) (w':=w') ?_ (hk _ _ _ hK (SE.put cN hd (x:=.un) (by simp only[LR];exact .un _)));obtain⟨dst,op,type,pos,after,guard⟩:=o;simp only at cw bO;subst cw;have hb:∀ cs,builtin .clear #[t] type cs (args.map a.eval)=(do pure (.value (<- Builtin.clear_ #[t] type (args.map a.eval)))):=λ_=>rfl
  have:execOp a.eval { dst,op:=.call { callee:=.builtin .clear,args:=args,argTypes:=#[t] },type,pos,after,guard }=(do pure (.value (<- Builtin.clear_ #[t] type (args.map a.eval)))):=by simp only[execOp,resolve,invoke,pure_bind];exact hb _
  rw[this,e2];simp only[aK,bO,aw,bh]
 .
  rename_i args ts cw;split at h
  .obtain⟨t,X,qC,hX⟩:∃ t X,ts.toList=[t]/\args.toList=[X]:=by
    unfold IP at h;split at h
    .rename_i t _ qC dQ
     cases ha:args.toList with
     |nil=>simp[ha] at dQ
     |cons X l=>simp only[ha,bB,cM,eV] at dQ;exact⟨t,X,qC,by rw[dQ.2]⟩
    .exact h.elim
   have e1:ts=#[t]:=dF qC;have e2:args.map a.eval=#[a.eval X]:=(by apply dF;simp[hX]);subst e1;rw[hX] at h;obtain⟨u,hf,hK,bO⟩:=I9 (ty:=o.type) hst h (bN hst X);refine eD (v':=u) (w':=w) ?_ (hk _ _ _ hK (.fin0 hst hd (.ofLit hf)));obtain⟨dst,op,type,pos,after,guard⟩:=o;simp only at cw bO;subst cw;have hb:∀ cs,builtin .len #[t] type cs (args.map a.eval)=(do pure (.value (<- Builtin.len_ #[t] type (args.map a.eval)))):=λ_=>rfl
   have:execOp a.eval { dst,op:=.call { callee:=.builtin .len,args:=args,argTypes:=#[t] },type,pos,after,guard }=(do pure (.value (<- Builtin.len_ #[t] type (args.map a.eval)))):=by simp only[execOp,resolve,invoke,pure_bind];exact hb _
   rw[this,e2];simp only[aK,bO,aw,bh]
  .exact gen h
 .
  rename_i src dst' X cw;split at h
  .obtain⟨s',v,w',hK,u,bO,β',ob',cN,iD⟩:=G3 hst hd h
   refine eD (v':=u) (w':=w') ?_ (hk _ _ _ hK (SE.put cN hd iD));obtain⟨dst,op,type,pos,after,guard⟩:=o;simp only at cw bO;subst cw;simp only[execOp,aK,bO,aw,bh]
  .exact gen h
 .
  rename_i op T X Y yT cw;split at h
  .rename_i hy
   unfold agb at h;have fin:∀ c:Value,Y=.const c->(∃ u,flat u=true/\K (s.after tr o (.c (.lit u)))/\(do eqGuard op T X Y (a.eval X) c;binOp op T (a.eval X) c:Sem Value).run P w=.ok u w)->o.wp P a w next Q:=by
    rintro c rfl ⟨u,hf,hz,bO⟩;refine eD (v':=u) (w':=w) ?_ (hk _ _ _ hz (.fin0 hst hd (.ofLit hf)));obtain⟨dst,op',type,pos,after,guard⟩:=o;simp only at cw;subst cw;have hx:execOp a.eval { dst,op:=.binOp op T X (.const c) yT,type,pos,after,guard }=(do pure (.value (<- (do eqGuard op T X (.const c) (a.eval X) c;binOp op T (a.eval X) c)))):=by simp only[execOp];simp[Act.eval]
    rw[hx];simp only[aK] at bO ⊢
    rw[bO];simp
   cases hp:Gx Y with
   |some fn=>
    rw[hp] at h;have hY:Y=.const (if fn then .nilFunc else .pointer none):=by
     unfold Gx at hp;split at hp
     .cases hp;rfl
     .cases hp;rfl
     .cases hp
    exact fin _ hY (IU (K:=λv=>K (s.after tr o v)) h (bN hst X) X Y)
   |none=>
    rw[hp] at h;have hY:Y=.const (.slice none 0 0):=by
     unfold A5 at hy;rw[hp] at hy;simp only[Option.isSome_none,lk] at hy;unfold Vt at hy;split at hy
     .rfl
     .cases hy
    exact fin _ hY (M3 (K:=λv=>K (s.after tr o v)) h (bN hst X) X Y)
  .exact gen h
 .
  rename_i T X cw;split at h
  .obtain⟨z,u,hz,iD,bO⟩:=GG hst h (bN hst X)
   refine eD (v':=u) (w':=w) ?_ (hk _ _ _ hz (SE.put hst hd iD));obtain⟨dst,op',type,pos,after,guard⟩:=o;simp only at cw;subst cw;simp only[execOp,aK,bO,aw,bh]
  .exact gen h.2
 .
  rename_i T parts cw;split at h
  .obtain⟨z,u,hz,iD,bO⟩:=Ed hst h
   refine eD (v':=u) (w':=w) ?_ (hk _ _ _ hz (SE.put hst hd iD));obtain⟨dst,op',type,pos,after,guard⟩:=o;simp only at cw;subst cw;simp only[execOp,aK,bO,aw,bh]
  .exact gen h
 .
  rename_i T cw;split at h
  .have A0:=hst.newMap
   refine eD (v':=.map (some w.heap.size)) (w':=w.alloc (.map #[] 0)) ?_ (hk _ _ _ h (SE.put A0 hd ?_))
   .obtain⟨dst,op',type,pos,after,guard⟩:=o
    simp only at cw;subst cw;simp[execOp,Instr.makeMap]
   .simp only[LR];exact⟨w.heap.size,by simp,rfl⟩
  .exact h.elim
 .
  rename_i T m k X cw;obtain⟨s',ob',w',hK,bO,cN⟩:=vW hst h (bN hst m) (bN hst k) (bN hst X);unfold Oper.wp;obtain⟨dst,op',type,pos,after,guard⟩:=o;simp only at cw;subst cw;simp only[execOp,aK,bO,aw,bh,Oper.upon];exact hk _ _ _ hK (SE.put (v:=undef) (x:=.sk) cN hd (by simp only[LR];exact .sk))
 .
  rename_i T m k cw;obtain⟨s',ob',w',z,u,hK,bO,cN,iD⟩:=AH hst h (bN hst m) (bN hst k);refine eD (v':=u) (w':=w') ?_ (hk _ _ _ hK (SE.put cN hd iD));obtain⟨dst,op',type,pos,after,guard⟩:=o;simp only at cw;subst cw;simp only[execOp,aK,bO,aw,bh]
 .
  rename_i T m k X cw;obtain⟨s',ob',w',hK,bO,cN⟩:=AI (P:=P) (T:=T) hst h (bN hst m) (bN hst k) (bN hst X);unfold Oper.wp;obtain⟨dst,op',type,pos,after,guard⟩:=o;simp only at cw;subst cw;simp only[execOp,aK,bO,aw,bh,Oper.upon];exact hk _ _ _ hK (SE.put (v:=undef) (x:=.sk) cN hd (by simp only[LR];exact .sk))
 .
  rename_i t cw;obtain⟨it,z,u,w',hK,bO,dH⟩:=Jb (P:=P) (ty:=o.type) hst hd h;refine eD (v':=u) (w':=w') ?_ (hk _ _ _ hK dH);obtain⟨dst,op',type,pos,after,guard⟩:=o;simp only at cw;subst cw;simp only[execOp,Act.eval,aK,bO,aw,bh]
 .
  rename_i T m k X cw;obtain⟨s',ob',w',hK,bO,cN⟩:=vW hst h (bN hst m) (bN hst k) (bN hst X);unfold Oper.wp;obtain⟨dst,op',type,pos,after,guard⟩:=o;simp only at cw;subst cw;simp only[execOp,aK,bO,aw,bh,Oper.upon];exact hk _ _ _ hK (SE.put (v:=undef) (x:=.sk) cN hd (by simp only[LR];exact .sk))
 .exact gen h
theorem xP (hst:St G n I0 M w0 I β ob s a w) {ops:Array Oper} {j d:Nat} (hd:(ops[j]?).bind (·.dst)=some d) {p:Bool} (h:s.fr d=.c (.lit (.bool p))):yielded ops a.tmps j=some p:=by
 have:=hst.fr d;rw[h] at this;have hv:=this.lit;unfold yielded;rw[hd];simp only[ju];rw[ak] at hv;cases hx:a.tmps[d]? with
 |none=>rw[hx] at hv;cases hv
 |some u=>rw[hx] at hv;simp only[cX] at hv;rw[hv]
theorem BO (hst:St G n I0 M w0 I β ob s a w) {ops:Array Oper} {j d:Nat} (hd:(ops[j]?).bind (·.dst)=some d) (h:s.fr d=.sk):yielded ops a.tmps j=none:=by
 have:=hst.fr d;rw[h] at this;have hv:a.tmps.getD d undef=undef:=by simp only[LR] at this;generalize a.tmps.getD d undef=u at this;cases this;rfl
 unfold yielded;rw[hd];simp only[ju];rw[ak] at hv;cases hx:a.tmps[d]? with
 |none=>rfl
 |some u=>rw[hx] at hv;simp only[cX] at hv;rw[hv];rfl
theorem S.up_id {d:Nat} {x:V} (h:s.fr d=x):{ s with fr:=up s.fr d x }=s:=by rw[<- h,sy]
theorem nj {ops:Array Oper} {yes no:S->Prop} (hst:St G n I0 M w0 I β ob s a w) (h:nR ops o s yes no) :
 (Region.wanted o (yielded ops a.tmps)=true/\yes s)∨(Region.wanted o (yielded ops a.tmps)=false/\no s):=by
 unfold nR at h;unfold Region.wanted;split at h
 .rename_i hg
  rw[hg];exact .inl ⟨rfl,h⟩
 .rename_i j want hg
  rw[hg];split at h
  .rename_i d hd
   split at h
   .rename_i p hp
    simp only[xP hst hd hp];by_cases hpw:p=want
    .subst hpw
     have:=h.1 rfl;rw[S.up_id hp] at this;exact .inl ⟨by simp,this⟩
    .have hpn:p=!want:=by cases p<;>cases want<;>simp_all
     have:=h.2 hpn;rw[<- hpn,S.up_id hp] at this;exact .inr ⟨by simpa using hpw,this⟩
   .rename_i hp
    simp only[BO hst hd hp];exact .inr ⟨rfl,h⟩
   .exact h.elim
  .exact h.elim
def mQ (n:Nat) (ops:Array Oper):Bool:=ops.toList.all λo=>match o.dst with | some d=>decide (d<n) | none=>true
theorem eY {ops:Array Oper} (h:mQ n ops=true) {o:Oper} (ho:o∈ops.toList):∀ d,o.dst=some d->d<n:=λd hd=>by have:=a8.1 h o ho;rw[hd] at this;simpa using this
theorem VO {l:Option Nat} {m:Nat} (hst:St G n I0 M w0 I β ob s a w) (hd:∀ d,o.dst=some d->d<n) (qA:∀ c,o.op≠.defer c) {i blk:Nat} {vs:List Value} {all:List V} {ρ:List Nat} {cargs:List V} {b0:List (List V)} {R:V->List (List V)->Prop}
 (eG:YE P G cargs b0 R) (dQ:ArgsL (Wr M w0) I β w vs all) (eE:all.map V.fz=cargs.map (V.ren (rho ρ s.nb))) (hρ:ρ.length=b0.length/\ρ.Nodup) (iT:rf s.bx s.nb (rho ρ s.nb) 0 b0)
 (hhd:ρ.head?=some i) (zM:β i=some blk)
 (bO:(execOp a.eval o).run P w=(Instr.yield blk vs.toArray).run P w)
 (hk:∀ r b1,R r b1->∀ a' w',SE G n I0 M w0 (({ s with bx:=fM (rho ρ s.nb) 0 b1 s.bx,nb:=s.nb+(b1.length - b0.length) }:S).put o.dst (r.ren (rho ρ s.nb))) a' w'->next a' w'):o.wpIn (FW l) m P a w next Q:=by
 obtain⟨hρl,hn⟩:=hρ;obtain⟨rK,yM,kg⟩:=eG.1;have hl:∀ i,i<ρ.length->ρ.getD i 0<s.nb:=λi hi=>by obtain⟨b,hb⟩:∃ b,b0[i]?=some b:=⟨_,ah (by omega)⟩;have:=(pT b0 0 i b iT hb).1;rw[aJ] at this;simpa[rho,hi] using this
 have qy:=xM hn hl;have cm:all.length=cargs.length:=by simpa using dM List.length eE
 have xj:0<ρ.length:=by cases ρ with | nil=>cases hhd | cons x r=>simp
 have hr0:rho ρ s.nb 0=i:=by
  unfold rho;rw[if_pos xj];cases ρ with
  |nil=>cases hhd
  |cons x r=>simpa using hhd
 obtain⟨fn,tmps,assign,body,hyr,ak6⟩:=eG.2 I ⟨Mof β ob (rho ρ s.nb) b0.length,λ_=>none,[]⟩ w vs.toArray (me β (rho ρ s.nb) b0.length) (obC ob (rho ρ s.nb) b0.length) blk hst.ibnd hst.glob (hst.give qy iT yM)
  (by unfold me;rw[if_pos (by omega),hr0];exact zM) (by have:=dQ.1;simp;omega) (λj x hx=>by
   have hj:j<cargs.length:=(ai.1 hx).1;have hz:all[j]?=some all[j]:=ah (by omega);have h1:=dQ.2 j _ hz;have h2:all[j].fz=x.ren (rho ρ s.nb):=(by have e1:(all.map V.fz)[j]?=some all[j].fz:=(by simp[hz]);have e2:(cargs.map (V.ren (rho ρ s.nb)))[j]?=some (x.ren (rho ρ s.nb)):=(by simp[hx]);rw[eE,e2] at e1;exact(eH e1).symm);rw[h2] at h1;have h3:=h1.ren (β':=me β (rho ρ s.nb) b0.length) (rK x (aV hx)) (λi b hi hb=>by simp[me,hi,hb]);have h4:=h3.wider (base':=Wr ⟨Mof β ob (rho ρ s.nb) b0.length,λ_=>none,[]⟩ w) λb hb=>by cases hb
   simpa using h4)
 refine⟨λ_ _=>trivial,?_⟩;rw[Oper.semAt_eq _ _ _ qA,bO,hyr];refine⟨λh=>(by cases h),RoundIn.mono (M9 ak6) ?_⟩;rintro e w' ⟨r,b1,hR,v,I',β',ob',o',rfl,u4,U4,Q1,wj,hβ1,Vi,oS,iD,tp⟩;simp only;obtain⟨cN,fF,zN,gw,A0,_⟩:=hst.called hρl hn iT (kg r b1 hR) u4 U4 Q1 wj hβ1 Vi oS;refine hk r b1 hR _ _ ?_;have aaX:LR (Wr M w0) I' (pU β β' ρ s.nb) w' o' v (r.ren (rho ρ s.nb)):=(iD.toRen fF).wider λb hb=>zN b (tp b hb).1.2;cases lP:o.dst with
 |none=>exact⟨_,_,_,cN⟩
 |some d=>
  refine⟨_,_,_,cN.put d (hd d lP) aaX λb hb=>?_⟩;obtain⟨⟨h1,h2⟩,h3,h4⟩:=tp b hb;refine⟨⟨h1,zN b h2⟩,λL hL=>?_,A0 b h2 h4⟩;simp only[upL] at hL;split at hL
  .cases hL
  .exact gw b h2 h3 L hL
theorem Ry {f:Operand} {args:Array Operand} {ts:Array TypeId} {blk:Nat} (ho:o.op=.call { callee:=.value f,args:=args,argTypes:=ts }) (hf:a.eval f=.func (.yield blk) #[] #[]) :
 (execOp a.eval o).run P w=(Instr.yield blk (args.toList.map a.eval).toArray).run P w:=by
 unfold execOp;have e:(args.toList.map a.eval).toArray=args.map a.eval:=by apply dF;simp
 rw[e];simp only[ho,resolve,Deferred.ofValue,hf,aK,bh,aw,invoke];simp
theorem G5 {l:Option Nat} {m:Nat} {K:S->V->Prop} {f:Operand} {args:Array Operand} {ts:Array TypeId} (ho:o.op=.call { callee:=.value f,args:=args,argTypes:=ts }) (hst:St G n I0 M w0 I β ob s a w)
 (hd:∀ d,o.dst=some d->d<n) (h:wx P G s (ev G s f) (args.toList.map (ev G s)) K) (hk:∀ a' w' s' x,K s' x->SE G n I0 M w0 (s'.put o.dst x) a' w'->next a' w'):o.wpIn (FW l) m P a w next Q:=by
 have hf:=bN hst f;unfold wx at h;split at h
 .rename_i i he
  obtain⟨ρ,cargs,b0,R,eG,eE,⟨hρ1,hρ2,hρ3⟩,iT,hK⟩:=h;rw[he] at hf;simp only[LR] at hf;obtain⟨blk,hb,hv⟩:=hf;exact VO hst hd (λc hc=>by rw[ho] at hc;cases hc) eG (u7 hst _) eE ⟨hρ1,hρ2⟩ iT hρ3 hb (Ry ho hv) (λr b1 hR a' w'=>hk a' w' _ _ (hK r b1 hR))
 .exact h.elim
theorem VP {K:S->Prop} (h:VStep P G tr o s K):∀ c,o.op≠.defer c:=λc hc=>by unfold VStep VYK at h;rw[hc] at h;exact h
theorem ri {l:Option Nat} {m:Nat} {K:S->Prop} (hst:St G n I0 M w0 I β ob s a w) (hd:∀ d,o.dst=some d->d<n) (h:VStep P G tr o s K)
 (hk:∀ a' w' s',K s'->SE G n I0 M w0 s' a' w'->next a' w'):o.wpIn (FW l) m P a w next Q:=by
 cases hy:qD tr o with
 |false=>exact wF (VP h) (qL (tr:=tr) hst hd hy h hk)
 |true=>
  unfold qD at hy;split at hy
  .rename_i f args ts cw
   unfold VStep at h;rw[cw] at h;simp only[hy,cZ] at h;exact G5 cw hst hd h λa' w' s' x hK dH=>hk _ _ _ hK dH
  .cases hy
theorem wG {l:Option Nat} {m:Nat} {ops:Array Oper} (eG:mQ n ops=true) {K:S->Prop} (hK:∀ a w s,K s->SE G n I0 M w0 s a w->Q .normal a w):∀ (ls:List Oper) (k:Nat),ops.toList.drop k=ls->∀ (s:S) (a:Act) (w:World),
 ig P G tr ops ls s K->SE G n I0 M w0 s a w->wpOpsIn (FW l) m P ops Q (List.range' k ls.length) a w
 |[],k,_,s,a,w,h,dH=>by simp only[aF,List.range'_zero,wpOpsIn];exact hK _ _ _ h dH
 |o::ls,k,hl,s,a,w,h,dH=>by
  have qu:ops[k]?=some o:=by have:(ops.toList.drop k)[0]?=some o:=(by rw[hl];rfl);rw[cK] at this;simpa using this
  have Pn:ops.toList.drop (k+1)=ls:=by rw[<- gd,hl];rfl
  have jF:o∈ops.toList:=cT (i:=k) (by rw[hl];simp);obtain⟨I,β,ob,hst⟩:=dH;simp only[aB,iw,wpOpsIn,qu];simp only[ig] at h;rcases nj hst h with⟨hw,h⟩ | ⟨hw,h⟩
  .rw[if_pos hw]
   refine ri (tr:=tr) hst (eY eG jF) h λa' w' s' EE tU=>?_;exact wG eG hK ls (k+1) Pn s' a' w' EE tU
  .rw[hw]
   simp only[aM,dp];exact⟨λ_ _=>trivial,wG eG hK ls (k+1) Pn _ _ w h (SE.put hst (eY eG jF) (by simp only[LR];exact .sk))⟩
theorem PR.ltP {β':Nat->Option Nat} {m:Nat} (h:PR I β w v x) (hx:x.ltP m) (hβ:∀ i,i<m->β' i=β i):PR I β' w v x:=by
 cases x<;>simp only[V.ltP] at hx<;>simp only[PR] at h ⊢<;>try exact h
 .obtain⟨blk,h1,h2⟩:=h;exact⟨blk,by rw[hβ _ hx];exact h1,h2⟩
 .obtain⟨h0,blk,o',c',EC,h1,h2⟩:=h;exact⟨h0,blk,o',c',EC,by rw[hβ _ hx];exact h1,h2⟩
 .obtain⟨blk,h1,h2⟩:=h;exact⟨blk,by rw[hβ _ hx];exact h1,h2⟩
 .obtain⟨blk,h1,h2⟩:=h;exact⟨blk,by rw[hβ _ hx];exact h1,h2⟩
 .obtain⟨blk,h1,h2⟩:=h;exact⟨blk,by rw[hβ _ hx];exact h1,h2⟩
theorem KR.ltP {β':Nat->Option Nat} {m:Nat} (h:KR I β w v x) (hx:x.ltP m) (hβ:∀ i,i<m->β' i=β i):KR I β' w v x:=by
 rcases h with h | h | h
 .exact .inl h
 .exact .inr (.inl h)
 .exact .inr (.inr (h.ltP hx hβ))
theorem LR.lt {β':Nat->Option Nat} {m:Nat} {ox:Option Nat} (h:LR base I β w ox v x) (hx:x.lt m) (hβ:∀ i,i<m->β' i=β i):LR base I β' w ox v x:=by
 cases x<;>simp only[V.lt] at hx<;>simp only[LR] at h ⊢<;>try exact h
 .obtain⟨blk,h1,h2⟩:=h;exact⟨blk,by rw[hβ _ hx];exact h1,h2⟩
 .obtain⟨vf,vc,h1,h2,h3,h4,h5⟩:=h
  exact⟨vf,vc,h1,h2,h3,λj x hj=>(h4 j x hj).ltP (hx.1 x (aV hj)) hβ,λj x hj=>(h5 j x hj).ltP (hx.2 x (aV hj)) hβ⟩
 .obtain⟨h0,blk,o',c',EC,h1,h2⟩:=h;exact⟨h0,blk,o',c',EC,by rw[hβ _ hx];exact h1,h2⟩
 .obtain⟨cs,h1,h2,h3⟩:=h
  exact⟨cs,h1,h2,λj x hj=>(h3 j x hj).ltP (hx x (aV hj)) hβ⟩
 .obtain⟨blk,h1,h2⟩:=h;exact⟨blk,by rw[hβ _ hx];exact h1,h2⟩
 .obtain⟨blk,m,h1,h2,h3,h4⟩:=h;exact⟨blk,m,h1,h2,by rw[hβ _ hx];exact h3,h4⟩
 .obtain⟨blk,h1,h2⟩:=h;exact⟨blk,by rw[hβ _ hx];exact h1,h2⟩
 .obtain⟨tm,h1,h2⟩:=h
  exact⟨tm,h1,λt y hy=>(h2 t y hy).ltP (hx _ hy) hβ⟩
 .obtain⟨blk,h1,h2⟩:=h;exact⟨blk,by rw[hβ _ hx];exact h1,h2⟩
theorem SE.weaken {s':S} {k:Nat} (h:SE G n I0 M w0 s a w) (xn:∀ i b,M.e i=some b->i<k) (kg:S.Le k s' s):SE G n I0 M w0 s' a w:=by
 obtain⟨I,β,ob,h⟩:=h;have hβ:∀ i b,(if i<s'.nb then β i else none)=some b->β i=some b:=λi b hb=>by split at hb;exact hb;cases hb
 let ob':Loc->Option Nat:=λL=>match L with
  | .t i=>if(s'.fr i).isOw then ob (.t i) else none
  | .b i j=>if i<s'.nb then ob (.b i j) else none
 have j7:∀ L b,ob' L=some b->ob L=some b:=λL b hL=>by
  cases L with
  |t i=>simp only[ob'] at hL;split at hL;exact hL;cases hL
  |b i j=>simp only[ob'] at hL;split at hL;exact hL;cases hL
 refine⟨I,λi=>if i<s'.nb then β i else none,ob',{
  size:=h.size,defers:=h.defers,below:=h.below,kept:=h.kept,ilow:=h.ilow,ihigh:=h.ihigh,ibnd:=h.ibnd
  fr:=λt=>?_
  bx:=λi hi=>?_
  bnone:=λi hi=>by rw[if_neg (by omega)]
  ext:=λi b he=>by rw[if_pos (cn (xn i b he) kg.ext)];exact h.ext i b he
  bnew:=λi b hi=>h.bnew i b (hβ i b hi)
  binj:=λi j b hi hj=>h.binj i j b (hβ _ _ hi) (hβ _ _ hj)
  oinj:=λL L' b hL yO=>h.oinj L L' b (j7 _ _ hL) (j7 _ _ yO)
  obx:=λL b i hL hi=>h.obx L b i (j7 _ _ hL) (hβ _ _ hi)
  obnd:=λL b hL=>h.obnd L b (j7 _ _ hL)
  glob:=h.glob }⟩
 .rcases kg.fr t with e | e
  .rw[e];simp only[LR];exact .un _
  .have:=h.fr t
   rw[<- e] at this;have h2:LR (Wr M w0) I β w (ob' (.t t)) (a.tmps.getD t undef) (s'.fr t):=by
    simp only[ob'];by_cases ho:(s'.fr t).isOw=true
    .rw[if_pos ho];exact this
    .rw[if_neg ho];exact this.other (by simpa using ho)
   exact h2.lt (kg.lt t) (λi hi=>by rw[if_pos hi])
 .obtain⟨blk,cur,e1,e2,e3,e4,e5,e7⟩:=h.bx i (cn hi kg.nb)
  refine⟨blk,cur,by rw[if_pos hi];exact e1,e2,by rw[kg.bx i hi];exact e3,by rw[kg.bx i hi];exact e4,λj=>?_,e7⟩;have:=e5 j;rw[<- kg.bx i hi] at this;have bF:((s'.bx i).getD j .un).lt s'.nb:=by
   by_cases hj:j<(s'.bx i).length
   .have:(s'.bx i).getD j .un=(s'.bx i)[j]:=by simp[List.getD,hj]
    rw[this];exact kg.blt i hi _ (bT hj)
   .have:(s'.bx i).getD j .un=.un:=by simp[List.getD,bG (ep hj)]
    rw[this];exact trivial
  have h2:=this.lt (β':=λi=>if i<s'.nb then β i else none) bF (λi hi=>by rw[if_pos hi])
  simpa only[ob',if_pos hi] using h2
theorem abA {s:S} {m:Nat} {l l':List V} (h:l'.getD 0 .un=l.getD 0 .un∨FzV s m (l'.getD 0 .un) (l.getD 0 .un)):re l'=re l:=by
 unfold re;rcases h with h | ⟨i,off,len,cap,sz,c,h1,_,_,h2⟩
 .rw[h]
 .rw[h1,h2]
theorem SE.freeze {s':S} {k:Nat} (h:SE G n I0 M w0 s a w) (xn:∀ i b,M.e i=some b->i<k) (kg:S.Fz k s' s):SE G n I0 M w0 s' a w:=by
 obtain⟨I,β,ob,h⟩:=h;have hβ:∀ i b,(if i<s'.nb then β i else none)=some b->β i=some b:=λi b hb=>by split at hb;exact hb;cases hb
 let ob':Loc->Option Nat:=λL=>match L with
  | .t i=>if(s'.fr i).isOw then ob (.t i) else none
  | .b i j=>if i<s'.nb then ob (.b i j) else none
 have j7:∀ L b,ob' L=some b->ob L=some b:=λL b hL=>by
  cases L with
  |t i=>simp only[ob'] at hL;split at hL;exact hL;cases hL
  |b i j=>simp only[ob'] at hL;split at hL;exact hL;cases hL
 let I':Ft:=λb o=>I b o∨∃ i,s'.nb<=i/\i<s.nb/\β i=some b
 have hII:∀ b o,I b o->I' b o:=λ_ _ h=>.inl h;have kD:∀ (v:Value) (x:V) (o:Option Nat),(∀ b,o=some b->∃ L,ob L=some b)->LR (Wr M w0) I β w o v x->LR (Wr M w0) I' β w o v x:=λv x o ho hx=>
  hx.mono (λb o hb=>⟨.inl hb,rfl⟩) (λ_ _ e=>e) (λb hb=>⟨rfl,λo hI=>by
   rcases hI with hI | ⟨i,_,_,hi⟩
   .exact hI
   .obtain⟨L,hL⟩:=ho b hb
    exact absurd hi (h.obx L b i hL)⟩)
 have agT:∀ (v:Value) (x y:V) (o:Option Nat),LR (Wr M w0) I β w o v y->FzV s s'.nb x y->∃ c,x=.c c/\CR I' w v c:=λv x y o hy hf=>by
  obtain⟨i,off,len,cap,sz,c,rfl,hi,hv,rfl⟩:=hf;simp only[LR] at hy;refine⟨c,rfl,GN h hv hy hII (λb o hb=>?_)⟩;have qz:i<s.nb:=by
   unfold nJ AD at hv;split at hv
   .rename_i hc
    split at hc
    .assumption
    .cases hc
   .cases hv
  exact .inr ⟨i,hi,qz,hb⟩
 refine⟨I',λi=>if i<s'.nb then β i else none,ob',{
  size:=h.size,defers:=h.defers,below:=h.below,ilow:=λb o hb=>.inl (h.ilow b o hb),kept:=h.kept
  ihigh:=λb o hb=>by
   rcases hb with hb | ⟨i,_,hi,hb⟩
   .exact h.ihigh b o hb
   .obtain⟨blk,cur,e1,e2,e3,_⟩:=h.bx i hi
    rw[hb] at e1;cases e1;exact .inr e2
  ibnd:=λb o hb=>by
   rcases hb with hb | ⟨i,_,hi,hb⟩
   .exact h.ibnd b o hb
   .obtain⟨blk,cur,e1,e2,e3,_⟩:=h.bx i hi
    rw[hb] at e1;cases e1;exact e3.lt
  fr:=λt=>?_
  bx:=λi hi=>?_
  bnone:=λi hi=>by rw[if_neg (by omega)]
  ext:=λi b he=>by rw[if_pos (cn (xn i b he) kg.ext)];exact h.ext i b he
  bnew:=λi b hi=>h.bnew i b (hβ i b hi)
  binj:=λi j b hi hj=>h.binj i j b (hβ _ _ hi) (hβ _ _ hj)
  oinj:=λL L' b hL yO=>h.oinj L L' b (j7 _ _ hL) (j7 _ _ yO)
  obx:=λL b i hL hi=>h.obx L b i (j7 _ _ hL) (hβ _ _ hi)
  obnd:=λL b hL=>h.obnd L b (j7 _ _ hL)
  glob:=λg cs hg=>(h.glob g cs hg).mono λb o hb=>⟨.inl hb,rfl⟩ }⟩
 .rcases kg.fr t with e | e | e
  .rw[e];simp only[LR];exact .un _
  .have:=kD _ _ _ (λb hb=>⟨_,hb⟩) (h.fr t)
   rw[<- e] at this;have h2:LR (Wr M w0) I' β w (ob' (.t t)) (a.tmps.getD t undef) (s'.fr t):=by
    simp only[ob'];by_cases ho:(s'.fr t).isOw=true
    .rw[if_pos ho];exact this
    .rw[if_neg ho];exact this.other (by simpa using ho)
   exact h2.lt (kg.lt t) (λi hi=>by rw[if_pos hi])
  .obtain⟨c,hc,jr⟩:=agT _ _ _ _ (h.fr t) e
   rw[hc];exact .ofC jr
 .obtain⟨blk,cur,e1,e2,e3,e4,e5,e7⟩:=h.bx i (cn hi kg.nb)
  refine⟨blk,cur,by rw[if_pos hi];exact e1,e2,e3.congr (kg.bl i hi) (abA (kg.bx i hi 0)),by rw[kg.bl i hi];exact e4,λj=>?_,λo ho=>?_⟩
  .rcases kg.bx i hi j with e | e
   .have:=kD _ _ _ (λb hb=>⟨_,hb⟩) (e5 j)
    rw[<- e] at this;have bF:((s'.bx i).getD j .un).lt s'.nb:=by
     by_cases hj:j<(s'.bx i).length
     .have:(s'.bx i).getD j .un=(s'.bx i)[j]:=by simp[List.getD,hj]
      rw[this];exact kg.blt i hi _ (bT hj)
     .have:(s'.bx i).getD j .un=.un:=by simp[List.getD,bG (ep hj)]
      rw[this];exact trivial
    have h2:=this.lt (β':=λi=>if i<s'.nb then β i else none) bF (λi hi=>by rw[if_pos hi])
    simpa only[ob',if_pos hi] using h2
   .obtain⟨c,hc,jr⟩:=agT _ _ _ _ (e5 j) e
    rw[hc];exact .ofC jr
  .rcases ho with ho | ⟨i',tu,_,hb⟩
   .exact e7 o ho
   .have:=h.binj i i' blk e1 hb
    omega
