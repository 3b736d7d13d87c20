/- Values without memory: objects that are known by their exact pointers; their owners are ghosts in boxes' cells. -/
import Derived.Test.YtloppcgcepgbnaaGreatDoorVlCode
import Derived.Test.YtloppcgcepgbnaaGreatDoorVlDraw
import Derived.Scope
set_option linter.all false
namespace Go.Vl
open Go Go.RowKit
section
variable {P:Program} {G:Gl} {tr:List Nat} {n:Nat} {I0:Ft} {M:Mx} {w0:World} {I:Ft} {β:Nat->Option Nat} {ob:Loc->Option Nat} {s:S} {a:Act} {w:World} {o:Oper}
 {next:Act->World->Prop} {Q:Exit->Act->World->Prop} {base:Nat->Prop} {v:Value} {x y:V}
theorem VX (w:World) (o:Obj):(w.alloc o).heap[w.heap.size]?=some o:=Array.getElem?_push_size
theorem RJ {T:TypeId} {i:TI} {blk q e sz cap:Nat} {cur:Array Value} {es:List (List C)} {K:V->Prop} (hi:ti P T=some i) (g1:w.heap[blk]?=some (.cells cur e (0,0))) (g2:cur.size=cap*sz) (g4:es.length<=cap) (g3:∀ x∈es,x.length=sz)
 (g5:∀ j c,es.flatten[j]?=some c->CR I w (cur.getD j undef) c) (h:cQ i.agg i.size q es.flatten K) :
 ∃ z u,K z/\LR (Wr M w0) I β w none u z/\(Instr.loadAt T (.pointer (some ⟨blk,q,none⟩))).run P w=.ok u w:=by
 obtain⟨j,d,h1,h2,_,fK,_,kK,_⟩:=bH hi;simp only[Instr.loadAt,Instr.sureAddr,aK,bh,aw];have lG:=bK es g3;have kg:=aO sz g4;have js:Cells I w (cur.extract 0 es.flatten.length) es.flatten:=by
  refine⟨by rw[iy];omega,λj c hj=>?_⟩;have U0:=(ai.1 hj).1;have e0:(cur.extract 0 es.flatten.length).getD j undef=cur.getD j undef:=by rw[ak,ak,dE];rw[if_pos (by omega),aJ]
  rw[e0];exact g5 j c hj
 obtain⟨z,v,hz,iD,hv⟩:=ou (base:=Wr M w0) (β:=β) h js;have tW:(cur.extract 0 es.flatten.length).size=es.flatten.length:=js.1;refine⟨z,v,hz,iD,?_⟩;have eR:=λq=>ff w blk q cur e (0,0) g1;have hL:es.flatten.length<=cur.size:=by omega
 clear js lG;generalize es.flatten.length=L at hv tW hL;rcases hv with⟨h3,h4,rfl⟩ | ⟨h3,h4⟩
 .rw[tW] at h4
  rw[jS T d h2 blk q (λp=>cur.getD (q+p) undef) i.size (by rw[fK,ey h1]) (λp hp=>by rw[eR];simp[ax (show q+p<cur.size by omega)]) (λhz=>by rw[<- kK,h3] at hz;cases hz),<- kK,h3];simp only[cZ];congr 2;apply dF;apply fW;intro p;rw[aS,aS,dE,dE];by_cases hp:p<i.size
  .rw[if_pos (by rw[iy];omega),if_pos (by omega)]
   simp[hp,show q+p<cur.size from by omega]
  .rw[if_neg (by rw[iy];omega)]
   simp[hp]
 .have ho:=(bg.1 h4).1
  rw[tW] at ho;have Pl:cur[q]?=some v:=by rw[<- h4,dE,if_pos (by omega),aJ]
  unfold loadVar;have yK:dt P T=false:=by rw[<- kK];exact h3
  simp[lV T d h2,yK,eR,Pl]
theorem Hl {T:TypeId} {X:Operand} {K:V->Prop} (hst:St G n I0 M w0 I β ob s a w) (h:wA P s T (ev G s X) K) :
 ∃ z u,K z/\LR (Wr M w0) I β w none u z/\(Instr.loadAt T (a.eval X)).run P w=.ok u w:=by
 unfold wA at h;split at h
 .rename_i i blk q hi hx
  have Py:=bN hst X;rw[hx] at Py;have hpe:=Py.toC.ex_inv;obtain⟨b,k,len,cap,e,sz,es,⟨hb,hk⟩,h⟩:=h;obtain⟨cur,⟨g1,g2,g3,g4,g5,g6,g7⟩,_⟩:=hst.ggSet hb hk;rw[hpe];exact RJ hi g2 g3 g4 g5 g6 h
 .exact h.elim
theorem Hm {T:TypeId} {p X:Operand} {K:(Nat->List V)->Prop} (hst:St G n I0 M w0 I β ob s a w) (h:Bz P s T (ev G s p) (ev G s X) K) :
 ∃ bx w',K bx/\(Instr.storeAt T (a.eval p) (a.eval X)).run P w=.ok () w'/\St G n I0 M w0 I β ob { s with bx:=bx } a w':=by
 unfold Bz at h;split at h
 .rename_i i blk j cs hi hp js
  obtain⟨b,k,len,cap,E,sz,row,⟨hb,hk,j8,hjr⟩,h⟩:=h;obtain⟨j',d,Gq,L9,_,fK,_,kK,_⟩:=bH hi;have Py:=bN hst p;rw[hp] at Py;have hpe:=Py.toC.ex_inv;have rb:=IW (bN hst X) js;obtain⟨cur,⟨g1,g2,g3,g4,g5,g6,g7⟩,qx⟩:=hst.ggSet hb hk;have zL:row.length=sz:=g5 row (by simp);have AZ:(a.eval X).cells.toList.length=i.size:=by rw[bX,rb.1,j8]
  have Pz:cur.toList.length=cur.size:=bX;have kg:sz<=cur.size:=by have:=aO sz g4;simp only[bA,nc] at this;omega
  have Mc:RelL I w (a.eval X).cells.toList cs:=λq c hq=>by have:=rb.2 q c hq;have nE:q<(a.eval X).cells.size:=(by rw[rb.1];exact(ai.1 hq).1);refine⟨(a.eval X).cells[q],by rw[aS,ax nE],?_⟩;rw[ak,ax nE] at this;exact this
  have Md:∀ u∈(a.eval X).cells.toList,u.oneCell'=true:=λu hu=>by obtain⟨q,hq⟩:=eB.1 hu;have nE:q<cs.length:=(by rw[j8,<- AZ];exact(ai.1 hq).1);obtain⟨u',Br,jr⟩:=Mc q _ (ah nE);rw[hq] at Br;cases Br;exact jr.oneCell
  have lG:([row]:List (List C)).flatten=row:=by simp
  have tO:RelL I w cur.toList row:=λq c hq=>by have nE:=(ai.1 hq).1;refine⟨cur.getD q undef,?_,g6 q c (by rw[lG];exact hq)⟩;rw[aS,ak,ax (show q<cur.size by omega)];rfl
  have bO:(Instr.storeAt T (a.eval p) (a.eval X)).run P w=.ok () (w.setRow blk (cur.toList.take j++(a.eval X).cells.toList++cur.toList.drop (j+i.size)).toArray):=by rw[hpe];simp only[Instr.storeAt,Instr.sureAddr,aK,bh,aw];unfold storeVar;simp only[aK,e9 w Gq,aw];rw[if_neg (by rw[ey Gq,<- fK,rb.1,j8];simp)];have:=gq (P:=P) blk j (.of E) (a.eval X).cells.toList 0 cur w g2 RT.of_ok (by rw[AZ];omega) Md;rw[AZ] at this;simpa using this
  have nB:=qx [row.take j++cs++row.drop (j+cs.length)] (cur.toList.take j++(a.eval X).cells.toList++cur.toList.drop (j+i.size)) (by simp) (λx hx=>by
   rw[aX] at hx;subst hx;rw[ae,ae,aQ,cG,bR (by omega)];omega)
   (by rw[ae,ae,AZ,aQ,cG,Pz,bR (by omega)];omega)
   (λu hu=>by
    rcases ba.1 hu with hu | hu
    .rcases ba.1 hu with hu | hu
     .exact g7 u (cu.1 (c9 hu))
     .exact Md u hu
    .exact g7 u (cu.1 (cT hu)))
   (by
    rw[show([row.take j++cs++row.drop (j+cs.length)]:List (List C)).flatten=row.take j++cs++row.drop (j+cs.length) by simp,j8];refine RelL.append (RelL.append (tO.take _) Mc ?_) (tO.drop _) ?_
    .rw[aQ,aQ,Pz,bR (by omega),bR (by omega)]
    .rw[ae,ae,AZ,j8,aQ,aQ,Pz,bR (by omega),bR (by omega)])
  exact⟨_,_,h,bO,nB⟩
 .exact h.elim
theorem Ep {T:TypeId} {X:Operand} {K:S->Prop} (hst:St G n I0 M w0 I β ob s a w) (cw:o.op=.box T X) (hd:∀ d,o.dst=some d->d<n) (h:xE P s o.dst T (ev G s X) K)
 (hk:∀ a' w' s',K s'->SE G n I0 M w0 s' a' w'->next a' w'):o.wp P a w next Q:=by
 unfold xE at h;split at h
 .rename_i i cs hi js
  obtain⟨b,k,y,⟨j8,xj,hb,hkk,Va⟩,h⟩:=h;obtain⟨j',d,Gq,L9,_,fK,_,kK,_⟩:=bH hi;have rb:=IW (bN hst X) js;have hs:=hst.allocOwn (.cells (a.eval X).cells T);have tp:=hst.fresh (ab _);have hI:∀ b k,I b k->I b k/\(w.alloc (.cells (a.eval X).cells T)).cell? ⟨b,k,none⟩=w.cell? ⟨b,k,none⟩:=λb k hb=>⟨hb,dR (a:=⟨b,k,none⟩) (ee w _ b (hst.ibnd b k hb))⟩;have ke:∀ u∈(a.eval X).cells,u.oneCell'=true:=λu hu=>by obtain⟨q,hq,rfl⟩:=fB.1 hu;have nE:q<cs.length:=(by rw[<- rb.1];exact hq);have:=rb.2 q _ (ah nE);rw[ak,ax hq] at this;exact CR.oneCell this
  have gj:OwnG (Wr M w0) I (w.alloc (.cells (a.eval X).cells T)) (some (T,i.size)) [cs] (some w.heap.size) (.slice (some ⟨w.heap.size,0,none⟩) 1 1):=by
   refine .inr ⟨T,w.heap.size,1,(a.eval X).cells,i.size,rfl,rfl,rfl,.inl hst.below.size,VX w _,ab _,by decide,by rw[rb.1,j8,nc],λx hx=>by rw[aX] at hx;subst hx;exact j8,λj c hj=>?_,ke,λq hq=>?_⟩
   .have hj:cs[j]?=some c:=by simpa using hj
    exact(rb.2 j c hj).mono hI
   .have:=hst.ibnd _ _ hq;omega
  have g1:=hs.giveAny (b:=b) (k:=k) (x':=.gg (.slice (some ⟨w.heap.size,0,none⟩) 1 1) (some (T,i.size)) [cs]) (o':=some w.heap.size) hb hkk Va rfl (λc hc=>by cases hc;refine⟨⟨by rw[ec];omega,.inl hst.below.size⟩,λL hL=>tp.1 L hL,λi hi=>tp.2 i hi⟩) (λv=>by simp only[LR];exact gj);refine eD (v':=.pointer (some ⟨w.heap.size,0,none⟩)) (w':=w.alloc (.cells (a.eval X).cells T)) ?_ (hk _ _ _ (h w.heap.size) (SE.put g1 hd (.ofC (.ex _ rfl rfl))));obtain⟨dst,op,type,pos,after,guard⟩:=o;simp only at cw;subst cw;simp[execOp,Instr.box,newVar,newRow]
 .exact h.elim
theorem Hn {T:TypeId} {k:V} {K:S->V->Prop} {vx vk:Value} {ox oy:Option Nat} (hst:St G n I0 M w0 I β ob s a w) (h:MX P T s x k K)
 (hx:LR (Wr M w0) I β w ox vx x) (hy:LR (Wr M w0) I β w oy vk k) :
 ∃ s' ob' w' z u,K s' z/\(Instr.mapEntry T vx vk).run P w=.ok u w'/\St G n I0 M w0 I β ob' s' a w'/\LR (Wr M w0) I β w' none u z:=by
 obtain⟨kt0,et0,⟨hu0,hz0⟩,h⟩:=h;obtain⟨i,bs,cl,r,res,z0,blk,kt,et,es,zv,hK,rfl,rfl,hm,hu,vQ,EF,vP,hz1,L8⟩:=px hst h hx hy;rw[hu0] at hu;simp only[ao,TypeDesc.map.injEq] at hu;obtain⟨rfl,rfl⟩:=hu;have tL:zv=.slice none 0 0:=by have:=hz0 w;rw[hz1] at this;injection this
 have hg:=fg (P:=P) hm.heap;have hI:∀ (o':Obj) b o,I b o->I b o/\(World.putObj w blk o').cell? ⟨b,o,none⟩=w.cell? ⟨b,o,none⟩:=λo' b o hb=>
  ⟨hb,hst.keeps (pA blk o') (λr e o ho=>by cases e;exact absurd ho (hm.fr o)) b o hb⟩
 have aoh:LR (Wr M w0) I β w none zv nilC:=by rw[tL];exact .ofC (.ex _ rfl rfl)
 cases res with
 |some j=>
  obtain⟨e,he,ID,MB⟩:=vP j rfl;simp only[cU,he,cX] at EF;obtain⟨l1,l2⟩:=hm.ent j e he;have he':es[j]?=some e:=by rw[<- aS];exact he
  have hbj:bs.getD j 0=e.born:=by rw[<- hm.born];simp[List.getD,he]
  have oS:up s.bx i (V.mk bs cl::r)=s.bx:=by rw[<- hm.bx];exact sy _ _
  have cN:∃ ob',St G n I0 M w0 I β ob' s a (World.putObj w blk (.map (es.modify j λe=>{ e with key:=vk }) cl)):=by
   have qu:∀ q,(es.modify j λe=>{ e with key:=vk }).toList[q]?=es.toList[q]?:=λq=>by
    rw[Array.toList_modify,List.getElem?_modify];by_cases hq:j=q
    .subst hq;rw[he,<- ID];simp
    .cases es.toList[q]?<;>simp[hq]
   have hl:(es.modify j λe=>{ e with key:=vk })=es:=dF (fW qu)
   rw[hl];obtain⟨ob',h'⟩:=hst.reMap hm (es':=es) (bs':=bs) (cl':=cl) (r':=r) (od:=λq=>ob (.b i q)) hm.born hm.len (λ_ _ h=>h) hm.ent;rw[oS] at h';exact⟨ob',h'⟩
  obtain⟨ob',cN⟩:=cN;refine⟨s,ob',_,_,.tuple #[e.val,.int .i64 e.born],hK,?_,cN,?_⟩
  .simp[Instr.mapEntry,aU hu0,hg,vQ,EF,he',MB,fL _ hm.heap,Result.andThen,World.putObj,goInt]
  .simp only[LR]
   rw[hbj];exact(abx (vV l2) (.c _ _ (.lit _ rfl))).mono (hI _)
 |none=>
  simp only[kZ] at EF;obtain⟨ob',cN⟩:=wE hst hm (hy.fz none) aoh;refine⟨_,ob',_,_,.tuple #[zv,.int .i64 cl],hK,?_,cN,?_⟩
  .simp[Instr.mapEntry,aU hu0,hg,vQ,EF,hz1,fL _ hm.heap,Result.andThen,World.putObj,goInt]
  .simp only[LR]
   exact(abx (vV aoh) (.c _ _ (.lit _ rfl))).mono (hI _)
theorem Nr {K:S->Prop} (hst:St G n I0 M w0 I β ob s a w) (hd:∀ d,o.dst=some d->d<n) (h:vH P G o s K)
 (hk:∀ a' w' s',K s'->SE G n I0 M w0 s' a' w'->next a' w'):o.wp P a w next Q:=by
 unfold vH at h;split at h
 .rename_i T X cw
  exact Ep hst cw hd h hk
 .rename_i T X cw
  obtain⟨z,u,hK,iD,bO⟩:=Hl hst h;refine eD (v':=u) (w':=w) ?_ (hk _ _ _ hK (SE.put hst hd iD));obtain⟨dst,op,type,pos,after,guard⟩:=o;simp only at cw;subst cw;simp only[execOp,aK,bO,aw,bh]
 .rename_i T p X cw
  obtain⟨bx,w',hK,bO,cN⟩:=Hm hst h;unfold Oper.wp;obtain⟨dst,op,type,pos,after,guard⟩:=o;simp only at cw;subst cw;simp only[execOp,aK,bO,aw,bh,Oper.upon];exact hk _ _ _ hK (SE.put (v:=undef) (x:=.sk) cN hd (by simp only[LR];exact .sk))
 .rename_i T m k cw
  obtain⟨s',ob',w',z,u,hK,bO,cN,iD⟩:=Hn hst h (bN hst m) (bN hst k);refine eD (v':=u) (w':=w') ?_ (hk _ _ _ hK (SE.put cN hd iD));obtain⟨dst,op,type,pos,after,guard⟩:=o;simp only at cw;subst cw;simp only[execOp,aK,bO,aw,bh]
 .exact h.elim
theorem abG {K:S->Prop} (h:vH P G o s K):∀ c,o.op≠.defer c:=λc hc=>by unfold vH at h;rw[hc] at h;exact h
end
section
variable {P:Program} {G:Gl} {tr:List Nat} {n:Nat} {I0:Ft} {M:Mx} {w0:World} {I:Ft} {β:Nat->Option Nat} {ob:Loc->Option Nat} {s:S} {a:Act} {w:World} {o:Oper}
 {Q:Exit->Act->World->Prop} {base:Nat->Prop} {v:Value} {x y:V}
theorem St.split (h:St G n I0 M w0 I β ob s a w) {b k q:Nat} {E:Option (TypeId×Nat)} {es:List (List C)} (hb:b<s.nb) (hk:(s.bx b)[k]?=some (.ow E es)) (hq:q<n):∃ v,SE G n I0 M w0 (s.split b k q v E es) a w:=by
 obtain⟨blk,cur,e1,e2,e3,e4,e5,e7⟩:=h.bx b hb;have qw:k<(s.bx b).length:=(ai.1 hk).1;have eR:(s.bx b).getD k .un=.ow E es:=by simp[List.getD,hk]
 have gj:=e5 k;rw[eR] at gj;simp only[LR] at gj;have QV:∃ x y z,cur.getD k undef=.slice x y z:=by
  rcases gj.1.sl_inv with⟨⟨x,y,h1,_⟩,_⟩ | ⟨x,y,z,_,_,h1,_⟩
  .exact⟨_,_,_,h1⟩
  .exact⟨_,_,_,h1⟩
 obtain⟨x,y,z,QV⟩:=QV;have hex:CR I w (cur.getD k undef) (.ex (cur.getD k undef)):=by rw[QV];exact .ex _ rfl rfl
 have fF:∀ L c,upL ob (.b b k) none L=some c->L≠.b b k/\ob L=some c:=λL c hL=>by
  simp only[upL] at hL;split at hL
  .cases hL
  .rename_i gZ;exact⟨gZ,hL⟩
 have h1:St G n I0 M w0 I β (upL ob (.b b k) none) { s with bx:=up s.bx b ((s.bx b).set k (.c (.ex (cur.getD k undef)))) } a w:={
  size:=h.size,defers:=h.defers,below:=h.below,ilow:=h.ilow,kept:=h.kept,ihigh:=h.ihigh,ibnd:=h.ibnd
  fr:=λt=>by have:=h.fr t;have e:upL ob (.b b k) none (.t t)=ob (.t t):=(by simp[upL]);rw[e];exact this
  bx:=λi hi=>by
   by_cases qz:i=b
   .subst qz
    refine⟨blk,cur,e1,e2,?_,by simp only[b9,gi];exact e4,λj=>?_,e7⟩
    .simp only[b9]
     refine e3.congr (by simp) ?_;unfold re;by_cases xw:k=0
     .subst xw
      have:((s.bx i).set 0 (.c (.ex (cur.getD 0 undef)))).getD 0 .un=.c (.ex (cur.getD 0 undef)):=(by simp[List.getD,qw]);rw[this,eR]
     .have:((s.bx i).set k (.c (.ex (cur.getD k undef)))).getD 0 .un=(s.bx i).getD 0 .un:=by simp[List.getD,da xw]
      rw[this]
    .simp only[b9]
     by_cases hjk:j=k
     .subst hjk
      have:((s.bx i).set j (.c (.ex (cur.getD j undef)))).getD j .un=.c (.ex (cur.getD j undef)):=(by simp[List.getD,qw]);rw[this];have e:upL ob (.b i j) none (.b i j)=none:=(by simp[upL]);rw[e];exact .ofC hex
     .have:((s.bx i).set k (.c (.ex (cur.getD k undef)))).getD j .un=(s.bx i).getD j .un:=by simp[List.getD,da (hJ hjk)]
      rw[this];have e:upL ob (.b i k) none (.b i j)=ob (.b i j):=(by simp[upL,hjk]);rw[e];exact e5 j
   .obtain⟨tj,cur',q1,q2,q3,q4,q5,q7⟩:=h.bx i hi
    refine⟨tj,cur',q1,q2,by simp only[cP _ _ qz];exact q3,by simp only[cP _ _ qz];exact q4,λj=>?_,q7⟩;simp only[cP _ _ qz];have e:upL ob (.b b k) none (.b i j)=ob (.b i j):=(by simp[upL,qz]);rw[e];exact q5 j
  bnone:=h.bnone,ext:=h.ext,bnew:=h.bnew,binj:=h.binj
  oinj:=λL L' c q1 q2=>h.oinj L L' c (fF L c q1).2 (fF L' c q2).2
  obx:=λL c i q1=>h.obx L c i (fF L c q1).2
  obnd:=λL c q1=>h.obnd L c (fF L c q1).2
  glob:=h.glob }
 have h2:=h1.put q hq (v:=a.tmps.getD q undef) (x:=.gh (cur.getD k undef) E es) (o:=ob (.b b k)) (by simp only[LR];exact gj) (λc hc=>by
  refine⟨h.obnd _ c hc,λL hL=>?_,λi=>h.obx _ c i hc⟩;simp only[upL] at hL;split at hL
  .cases hL
  .split at hL
   .cases hL
   .rename_i q1 q2;exact q2 (h.oinj _ _ c hL hc))
 rw[jx (by rw[h.size];exact hq)] at h2;exact⟨_,_,_,_,h2⟩
theorem al1 {I:Ft} {w:World} {v u:Value} (h:DR I w v (.c (.ex u))):v=u:=by
 cases h with
 |c _ _ h=>exact h.ex_inv
theorem mT {ops:Array Oper} {K:S->Prop} (eG:mQ n ops=true) (h:GsK ops K s) (dH:SE G n I0 M w0 s a w):∃ s',K s'/\SE G n I0 M w0 s' a w:=by
 have af1:∀ {ob:Loc->Option Nat} {β:Nat->Option Nat} {I:Ft} {s:S} (hst:St G n I0 M w0 I β ob s a w) {L0:Loc} {blk:Nat},ob L0=some blk->∀ L,upL ob L0 none L≠some blk:=λhst L0 blk h0 L hL=>by
  simp only[upL] at hL;split at hL
  .cases hL
  .rename_i gZ;exact gZ (hst.oinj _ _ blk hL h0)
 induction h with
 |done h=>exact⟨_,h,dH⟩
 |warm b k hb hk _ ih=>
  obtain⟨I,β,ob,hst⟩:=dH;refine ih (hst.reword hb hk rfl rfl λcur hx=>?_);have DV:OwnR (Wr M w0) I w none [] (ob (.b b k)) (cur.getD k undef):=hx;rcases DV.2 with⟨h1,_,a,h2⟩ | ⟨_,_,_,_,_,_,h2,_⟩
  .exact⟨(λ_ h=>by cases h),.inl ⟨h1,rfl,rfl,a,h2⟩⟩
  .cases h2
 |@warmT s t ht _ ih=>
  obtain⟨I,β,ob,hst⟩:=dH;have hx:=hst.fr t;rw[ht] at hx;have DV:OwnR (Wr M w0) I w none [] (ob (.t t)) (a.tmps.getD t undef):=hx;obtain⟨av,hv⟩:∃ av,a.tmps.getD t undef=.slice av 0 0:=by
   rcases DV.2 with⟨_,_,av,h2⟩ | ⟨_,_,_,_,_,_,h2,_⟩
   .exact⟨av,h2⟩
   .cases h2
  have rL:t<n:=by
   rcases bZ t n with h' | h'
   .exact h'
   .exfalso
    have e0:a.tmps.getD t undef=undef:=(by rw[ak,dj (by rw[hst.size];exact h')];rfl);rw[e0] at hv;simp[undef] at hv
  have dH:=hst.put t rL (v:=a.tmps.getD t undef) (x:=.gs none none []) (o:=none) (by simp only[LR];exact⟨λ_ h=>(by cases h),.inl ⟨rfl,rfl,rfl,av,hv⟩⟩) FreeOb.nothing;rw[jx (by rw[hst.size];exact rL)] at dH;exact ih ⟨_,_,_,dH⟩
 |warmX b k hb hk _ ih=>
  obtain⟨I,β,ob,hst⟩:=dH;refine ih ⟨_,_,_,hst.reown hb hk rfl rfl (.inl rfl) λcur hx=>?_⟩;simp only[LR] at hx ⊢
  exact⟨(λ_ h=>by cases h),.inl ⟨rfl,rfl,rfl,none,al1 hx⟩⟩
 |name b k hb ly hk _ ih=>obtain⟨I,β,ob,hst⟩:=dH;obtain⟨blk,cur,h1,h2,h3,h4⟩:=hst.gsCell hb ly hk;exact ih _ h4.gsV ⟨_,_,_,hst.reownAt hb ly h1 h2 hk rfl (.inr rfl) ⟨λu e=>by cases e;rfl,h4⟩⟩
 |forget b k hb hk Va _ ih=>obtain⟨I,β,ob,hst⟩:=dH;exact ih ⟨_,_,_,hst.giveAny (x':=.un) (o':=none) hb hk Va rfl (λc e=>by cases e) (λv=>by simp only[LR];exact .un _)⟩
 |unname b k hb hk _ ih=>obtain⟨I,β,ob,hst⟩:=dH;exact ih (hst.reword hb hk rfl rfl λcur hx=>⟨(λ_ h=>by cases h),hx.gsO.2⟩)
 |split b k q hb ly hk hq _ ih=>
  obtain⟨I,β,ob,hst⟩:=dH;obtain⟨blk,cur,h1,h2,h3,h4⟩:=hst.gsCell hb ly hk;rw[eI] at hq;obtain⟨o,ho,Gs⟩:=hq;have U9:=eY eG ho q (by simpa using Gs);have g1:=hst.reownAt (x':=.c (.ex (cur.getD k undef))) (o':=none) hb ly h1 h2 hk rfl (.inl rfl) (.ofC h4.exact);have g2:=g1.put q U9 (v:=a.tmps.getD q undef) (x:=.gg (cur.getD k undef) _ _) (o:=ob (.b b k)) (by simp only[LR];exact h4) (λc hc=>by
   refine⟨hst.obnd _ c hc,λL hL=>?_,λi=>hst.obx _ c i hc⟩;simp only[upL] at hL;split at hL
   .cases hL
   .split at hL
    .cases hL
    .rename_i q1 q2;exact q2 (hst.oinj _ _ c hL hc))
  rw[jx (by rw[hst.size];exact U9)] at g2;exact ih _ (λu hu=>(h3 u hu).symm) h4.gsV ⟨_,_,_,g2⟩
 |@box s b k g e sz es hb ly hk _ ih=>
  obtain⟨I,β,ob,hst⟩:=dH;obtain⟨blk,cur,h1,h2,h3,h4⟩:=hst.gsCell hb ly hk;rcases h4 with⟨_,hE,_⟩ | ⟨e',blk2,cap,row,sz',r1,r2,r3,r4,r5,r6,r7,r8,r9,r10,r11,r12⟩
  .cases hE
  cases r2;have qw:k<(s.bx b).length:=(ai.1 hk).1;have g1:=hst.reownAt (x':=.un) (o':=none) hb ly h1 h2 hk rfl (.inl rfl) (by simp only[LR];exact .un _);have lG:=bK es r9;have kg:=aO sz r6;have g2:=g1.adopt (T:=.of e) (cs:=es.flatten) r4 r5 RT.of_ok r11 (by omega) r10 (af1 hst r1) (λi=>hst.obx _ _ i r1) r12;have Vm:b≠s.nb:=by omega
  have aa4:ck ((s.bx b).set k .un)=false:=by
   unfold ck at ly ⊢
   by_cases xw:k=0
   .subst xw
    have:((s.bx b).set 0 .un).getD 0 .un=.un:=(by simp[List.getD,qw]);rw[this];rfl
   .have:((s.bx b).set k .un).getD 0 .un=(s.bx b).getD 0 .un:=by simp[List.getD,da xw]
    rw[this];exact ly
  have IF:({ fr:=s.fr,bx:=up (up s.bx b ((s.bx b).set k .un)) s.nb (es.flatten.map .c),nb:=s.nb+1 }:S).bx b=(s.bx b).set k .un:=by show up (up s.bx b _) s.nb _ b=_;rw[cP _ _ Vm,b9]
  have Vi:up β s.nb (some blk2) b=some blk:=by rw[cP _ _ Vm];exact h1
  have g3:=g2.reownAt (b:=b) (k:=k) (blk:=blk) (cur:=cur) (x:=.un) (x':=.ms s.nb 0 es.length es.length sz) (o':=none) (by show b<s.nb+1;omega) (by rw[IF];exact aa4) Vi (by
   rw[IF];refine h2.congr (by simp) ?_;rw[gP ly,gP aa4]) (by rw[IF];simp[qw]) rfl (.inl rfl) (by
   simp only[LR];exact⟨ab _,blk2,0,cap,r6,b9 _ _ _,.inr rfl,r3⟩)
  rw[IF] at g3;have zO:({ fr:=s.fr,bx:=up (up (up s.bx b ((s.bx b).set k .un)) s.nb (es.flatten.map .c)) b (((s.bx b).set k .un).set k (.ms s.nb 0 es.length es.length sz)),nb:=s.nb+1 }:S)=
   ⟨s.fr,up (up s.bx b ((s.bx b).set k (.ms s.nb 0 es.length es.length sz))) s.nb (es.flatten.map .c),s.nb+1⟩:=by
   congr 1;rw[List.set_set];funext i;simp only[up];by_cases hi:i=b
   .subst hi;simp[Vm]
   .simp[hi]
  have g4:SE G n I0 M w0 _ a w:=⟨_,_,_,g3⟩;exact ih (by rw[<- zO];exact g4)
 |@boxT s t g e sz es ht _ ih=>
  obtain⟨I,β,ob,hst⟩:=dH;have hx:=hst.fr t;rw[ht] at hx;rcases hx.gsO.2 with⟨_,hE,_⟩ | ⟨e',blk2,cap,row,sz',r1,r2,r3,r4,r5,r6,r7,r8,r9,r10,r11,r12⟩
  .cases hE
  cases r2;have rL:t<n:=by
   rcases bZ t n with h' | h'
   .exact h'
   .exfalso
    have e0:a.tmps.getD t undef=undef:=(by rw[ak,dj (by rw[hst.size];exact h')];rfl);rw[e0] at r3;simp[undef] at r3
  have lG:=bK es r9;have kg:=aO sz r6;have g2:=(hst.clr t).adopt (T:=.of e) (cs:=es.flatten) r4 r5 RT.of_ok r11 (by omega) r10 (af1 hst r1) (λi=>hst.obx _ _ i r1) r12;have g3:=g2.put t rL (v:=a.tmps.getD t undef) (x:=.ms s.nb 0 es.length es.length sz) (o:=none) (by simp only[LR];exact⟨ab _,blk2,0,cap,r6,b9 _ _ _,.inr rfl,r3⟩) FreeOb.nothing;rw[jx (by rw[hst.size];exact rL)] at g3;have zO:(({ s.clr t with bx:=up s.bx s.nb (es.flatten.map .c),nb:=s.nb+1 }:S).put (some t) (.ms s.nb 0 es.length es.length sz))=⟨up s.fr t (.ms s.nb 0 es.length es.length sz),up s.bx s.nb (es.flatten.map .c),s.nb+1⟩:=by simp only[S.put,S.clr];congr 1;funext r;simp only[up];split<;>rfl
  have g4:SE G n I0 M w0 _ a w:=⟨_,_,_,g3⟩;exact ih (by rw[<- zO];exact g4)
 |@cool s b k g E es hb hk _ ih=>
  obtain⟨I,β,ob,hst⟩:=dH;cases j7:ob (.b b k) with
  |none=>
   refine ih (hst.reword hb hk rfl rfl λcur hx=>?_);rcases hx.gsO.2 with⟨h1,h2,h3,a,h4⟩ | ⟨_,_,_,_,_,h1,_⟩
   .subst h2;subst h3
    rw[h4];exact⟨.nil a 0 (λ_=>rfl),.inl ⟨h1,rfl,a,rfl⟩⟩
   .rw[j7] at h1;cases h1
  |some blk=>
   obtain⟨b1,cur,e1,e2,e3,e4,e5,e7⟩:=hst.bx b hb;have h5:=e5 k;have mN:(s.bx b).getD k .un=.gs g E es:=(by simp[List.getD,hk]);rw[mN,j7] at h5;obtain⟨I',i1,i2,i3⟩:=h5.gsO.2.cool;refine ih ⟨I',β,ob,hst.recell hb hk rfl rfl j7 (ud w _) (λ_ _=>rfl) i1 (λb o h=>(i2 b o h).imp_right λh=>by cases h;rfl) λb2 cur2 f1 f2 f3=>?_⟩;rcases f3.gsO.2 with⟨h1,_⟩ | ⟨e,tj,cap,row,sz,r1,r2,r3,r4,r5,r6,r7,r8,r9,r10,r11,r12⟩
   .cases h1
   .obtain⟨j1,j2⟩:=i3
    rcases j2 with⟨h1,_⟩ | ⟨_,_,_,_,_,q1,q2,q3,q4,q5,q6,q7,q8,q9,q10⟩
    .cases h1
    .cases r1;cases q1
     rw[r2] at q2;cases q2;rw[r5] at q5;simp only[ao,Obj.cells.injEq,gC] at q5;subst q5;have zL:CR I' w (cur2.getD k undef) (.sl es):=by
      rw[r3];rw[q3] at j1;have kX:∀ c1 c2:Nat,es.length<=c2->CR I' w (.slice (some ⟨blk,0,none⟩) es.length c1) (.sl es)->CR I' w (.slice (some ⟨blk,0,none⟩) es.length c2) (.sl es):=λc1 c2 hc h=>by
       rcases h.sl_inv with⟨⟨_,_,h1,_⟩,h2⟩ | ⟨b',off,cap',sz',f,hv,a1,a2,a3,a4⟩
       .subst h2;exact .nil _ _ (λh=>by cases h)
       .simp only[eM,ao,iF,gC,iM] at hv
        obtain⟨⟨rfl,rfl⟩,rfl⟩:=hv;exact .sl _ _ _ _ _ f hc a2 a3 a4
      exact kX _ _ r6 j1
     exact⟨zL,.inr ⟨e,blk,cap,row,sz,rfl,r2,r3,r4,r5,r6,r7,r8,r9,q10⟩⟩
 |@splitB s t b k g E es x ht hb ly hk _ ih=>
  obtain⟨I,β,ob,hst⟩:=dH;have hx:=hst.fr t;rw[ht] at hx;obtain⟨hg,gj⟩:=hx.gsO;have rL:t<n:=by
   rcases bZ t n with h' | h'
   .exact h'
   .exfalso
    have e0:a.tmps.getD t undef=undef:=(by rw[ak,dj (by rw[hst.size];exact h')];rfl);rw[e0] at gj;rcases gj with⟨_,_,_,_,h1⟩ | ⟨_,_,_,_,_,_,_,h1,_⟩<;>simp[undef] at h1
  obtain⟨blk,cur,hβ,h2,h3⟩:∃ blk cur,β b=some blk/\HB w blk cur (s.bx b)/\True:=by obtain⟨b1,cur,e1,e2,e3,_⟩:=hst.bx b hb;exact⟨b1,cur,e1,e3,trivial⟩
  have qw:k<(s.bx b).length:=(ai.1 hk).1;have g1:=(hst.clr t).reownAt (b:=b) (k:=k) (x':=.un) (o':=none) hb ly hβ h2 hk rfl (.inl rfl) (by simp only[LR];exact .un _);have g2:=g1.put t rL (v:=a.tmps.getD t undef) (x:=.c (.ex (a.tmps.getD t undef))) (o:=none) (.ofC gj.exact) FreeOb.nothing;rw[jx (by rw[hst.size];exact rL)] at g2;have aa4:ck ((s.bx b).set k .un)=false:=by
   unfold ck at ly ⊢
   by_cases xw:k=0
   .subst xw
    have:((s.bx b).set 0 .un).getD 0 .un=.un:=(by simp[List.getD,qw]);rw[this];rfl
   .have:((s.bx b).set k .un).getD 0 .un=(s.bx b).getD 0 .un:=by simp[List.getD,da xw]
    rw[this];exact ly
  have IF:(({ s.clr t with bx:=up (s.clr t).bx b (((s.clr t).bx b).set k .un) }:S).put (some t) (.c (.ex (a.tmps.getD t undef)))).bx b=(s.bx b).set k .un:=by show up s.bx b ((s.bx b).set k .un) b=_;rw[b9]
  have g3:=g2.giveCell (b:=b) (k:=k) (blk:=blk) (cur:=cur) (x':=.gg (a.tmps.getD t undef) E es) (o':=ob (.t t)) hb (by rw[IF];exact aa4) hβ (by
   rw[IF];refine h2.congr (by simp) ?_;rw[gP ly,gP aa4]) (by rw[IF];simpa using qw) rfl (λc hc=>by
   refine⟨hst.obnd _ c hc,λL hL=>?_,λi=>hst.obx _ c i hc⟩;simp only[upL] at hL
   repeat' (split at hL)
   all_goals first
    |(cases hL;done)
    |(exact ‹¬ L=Loc.t t› (hst.oinj _ _ c hL hc))) (by simp only[LR];exact gj)
  rw[IF] at g3;have g4:SE G n I0 M w0 ⟨up s.fr t (.c (.ex (a.tmps.getD t undef))),up s.bx b ((s.bx b).set k (.gg (a.tmps.getD t undef) E es)),s.nb⟩ a w:=by
   have g5:SE G n I0 M w0 _ a w:=⟨_,_,_,g3⟩;have e1:∀ s1 s2:S,s1=s2->SE G n I0 M w0 s1 a w->SE G n I0 M w0 s2 a w:=λs1 s2 e h=>e▸h;refine e1 _ _ ?_ g5;simp only[S.put,S.clr,List.set_set];congr 1
   .funext r;simp only[up];split<;>rfl
   .funext r;simp only[up];split<;>rfl
  exact ih _ (λu hu=>(hg u hu).symm) gj.gsV g4
 |@join s b k b' k' v E es hb ly hk yP hmb' gZ U8 _ ih=>
  obtain⟨I,β,ob,hst⟩:=dH;obtain⟨b1,cur1,e1,e2,e3,e4,e5,e7⟩:=hst.bx b hb;have hv:=e5 k;have mN:(s.bx b).getD k .un=.c (.ex v):=by simp[List.getD,hk]
  rw[mN] at hv;have hv:=hv.toC.ex_inv;obtain⟨b2,cur2,f1,f2,f3,f4,f5,f7⟩:=hst.bx b' yP;have gj:=f5 k';have aa5:(s.bx b').getD k' .un=.gg v E es:=by simp[List.getD,U8]
  rw[aa5] at gj;have gj:OwnG (Wr M w0) I w E es (ob (.b b' k')) v:=gj;have g1:=hst.reownAt (b:=b') (k:=k') (x':=.un) (o':=none) yP hmb' f1 f3 U8 rfl (.inl rfl) (by simp only[LR];exact .un _);have u5:({ s with bx:=up s.bx b' ((s.bx b').set k' .un) }:S).bx b=s.bx b:=cP _ _ gZ
  have g2:=g1.giveCell (b:=b) (k:=k) (blk:=b1) (cur:=cur1) (x':=.gs (some v) E es) (o':=ob (.b b' k')) hb (by rw[u5];exact ly) e1 (by rw[u5];exact e3) (by rw[u5];exact(ai.1 hk).1) rfl (λc hc=>by
   refine⟨hst.obnd _ c hc,λL hL=>?_,λi=>hst.obx _ c i hc⟩;simp only[upL] at hL;split at hL
   .cases hL
   .rename_i q1;exact q1 (hst.oinj _ _ c hL hc)) (by rw[hv];exact⟨λu hu=>by cases hu;rfl,gj⟩)
  rw[u5] at g2;exact ih ⟨_,_,_,g2⟩
 |@splitC s b k b' k' E es x hb ly hk yP hmb' gZ U8 _ ih=>
  obtain⟨I,β,ob,hst⟩:=dH;obtain⟨b1,cur1,e1,e2,e3,e4,e5,e7⟩:=hst.bx b hb;have gj:=e5 k;have mN:(s.bx b).getD k .un=.ow E es:=by simp[List.getD,hk]
  rw[mN] at gj;have gj:OwnR (Wr M w0) I w E es (ob (.b b k)) (cur1.getD k undef):=gj;obtain⟨b2,cur2,f1,f2,f3,f4,f5,f7⟩:=hst.bx b' yP;have g1:=hst.reownAt (b:=b) (k:=k) (x':=.c (.ex (cur1.getD k undef))) (o':=none) hb ly e1 e3 hk rfl (.inl rfl) (.ofC (.ex _ gj.1.oneCell gj.1.notAgg));have u5:({ s with bx:=up s.bx b ((s.bx b).set k (.c (.ex (cur1.getD k undef)))) }:S).bx b'=s.bx b':=cP _ _ (hJ gZ)
  have g2:=g1.giveCell (b:=b') (k:=k') (blk:=b2) (cur:=cur2) (x':=.gh (cur1.getD k undef) E es) (o':=ob (.b b k)) yP (by rw[u5];exact hmb') f1 (by rw[u5];exact f3) (by rw[u5];exact(ai.1 U8).1) rfl (λc hc=>by
   refine⟨hst.obnd _ c hc,λL hL=>?_,λi=>hst.obx _ c i hc⟩;simp only[upL] at hL;split at hL
   .cases hL
   .rename_i q1;exact q1 (hst.oinj _ _ c hL hc)) (by simp only[LR];exact gj)
  rw[u5] at g2;exact ih _ ⟨_,_,_,g2⟩
 |@ghT s b k q v E es hb ly hk hq _ ih=>
  obtain⟨I,β,ob,hst⟩:=dH;obtain⟨b1,cur1,e1,e2,e3,e4,e5,e7⟩:=hst.bx b hb;have gj:=e5 k;have mN:(s.bx b).getD k .un=.gh v E es:=by simp[List.getD,hk]
  rw[mN] at gj;have gj:OwnR (Wr M w0) I w E es (ob (.b b k)) v:=gj;rw[eI] at hq;obtain⟨o,ho,Gs⟩:=hq;have U9:=eY eG ho q (by simpa using Gs);have g1:=hst.reownAt (x':=.un) (o':=none) hb ly e1 e3 hk rfl (.inl rfl) (by simp only[LR];exact .un _);have g2:=g1.put q U9 (v:=a.tmps.getD q undef) (x:=.gh v E es) (o:=ob (.b b k)) (by simp only[LR];exact gj) (λc hc=>by
   refine⟨hst.obnd _ c hc,λL hL=>?_,λi=>hst.obx _ c i hc⟩;simp only[upL] at hL;split at hL
   .cases hL
   .split at hL
    .cases hL
    .rename_i q1 q2;exact q2 (hst.oinj _ _ c hL hc))
  rw[jx (by rw[hst.size];exact U9)] at g2;exact ih ⟨_,_,_,g2⟩
 |@joinO s b k b' k' v E es hb ly hk yP hmb' gZ U8 _ ih=>
  obtain⟨I,β,ob,hst⟩:=dH;obtain⟨b1,cur1,e1,e2,e3,e4,e5,e7⟩:=hst.bx b hb;have hv:=e5 k;have mN:(s.bx b).getD k .un=.c (.ex v):=by simp[List.getD,hk]
  rw[mN] at hv;have hv:=hv.toC.ex_inv;obtain⟨b2,cur2,f1,f2,f3,f4,f5,f7⟩:=hst.bx b' yP;have gj:=f5 k';have aa5:(s.bx b').getD k' .un=.gh v E es:=by simp[List.getD,U8]
  rw[aa5] at gj;have gj:OwnR (Wr M w0) I w E es (ob (.b b' k')) v:=gj;have g1:=hst.reownAt (b:=b') (k:=k') (x':=.un) (o':=none) yP hmb' f1 f3 U8 rfl (.inl rfl) (by simp only[LR];exact .un _);have u5:({ s with bx:=up s.bx b' ((s.bx b').set k' .un) }:S).bx b=s.bx b:=cP _ _ gZ
  have g2:=g1.giveCell (b:=b) (k:=k) (blk:=b1) (cur:=cur1) (x':=.ow E es) (o':=ob (.b b' k')) hb (by rw[u5];exact ly) e1 (by rw[u5];exact e3) (by rw[u5];exact(ai.1 hk).1) rfl (λc hc=>by
   refine⟨hst.obnd _ c hc,λL hL=>?_,λi=>hst.obx _ c i hc⟩;simp only[upL] at hL;split at hL
   .cases hL
   .rename_i q1;exact q1 (hst.oinj _ _ c hL hc)) (by rw[hv];exact gj)
  rw[u5] at g2;exact ih ⟨_,_,_,g2⟩
 |@coolT s t g E es ht _ ih=>
  obtain⟨I,β,ob,hst⟩:=dH;have hx:=hst.fr t;rw[ht] at hx;have gj:=hx.gsO.2;have rL:t<n:=by
   rcases bZ t n with h' | h'
   .exact h'
   .exfalso
    have e0:a.tmps.getD t undef=undef:=(by rw[ak,dj (by rw[hst.size];exact h')];rfl);rw[e0] at gj;rcases gj with⟨_,_,_,_,h1⟩ | ⟨_,_,_,_,_,_,_,h1,_⟩<;>simp[undef] at h1
  obtain⟨I',i1,i2,i3⟩:=gj.cool;have zO:((s.clr t).put (some t) (.ow E es))=⟨up s.fr t (.ow E es),s.bx,s.nb⟩:=by simp only[S.put,S.clr];congr 1;funext r;simp only[up];split<;>rfl
  cases j7:ob (.t t) with
  |none=>
   have hII:∀ b k,I' b k->I b k:=λb k h=>by
    rcases i2 b k h with h | h
    .exact h
    .rw[j7] at h;cases h
   have g3:=(hst.clr t).put t rL (v:=a.tmps.getD t undef) (x:=.ow E es) (o:=none) (by simp only[LR];rw[j7] at i3;exact i3.mono (λb o h=>⟨hII b o h,rfl⟩) (λb h=>by cases h)) FreeOb.nothing;rw[jx (by rw[hst.size];exact rL),zO] at g3;exact ih ⟨_,_,_,g3⟩
  |some blk=>
   obtain⟨k1,k2⟩:=hst.obnd _ _ j7;have g2:=(hst.clr t).growRow (w':=w) (r:=blk) (ud w _) k2 (λ_ _=>rfl) (af1 hst j7) (λi=>hst.obx _ _ i j7) i1 (λb o h=>(i2 b o h).imp_right λh=>by rw[j7] at h;cases h;rfl) k1;have g3:=g2.put t rL (v:=a.tmps.getD t undef) (x:=.ow E es) (o:=some blk) (by simp only[LR];rw[j7] at i3;exact i3) (λc hc=>by
    cases hc;refine⟨⟨k1,k2⟩,λL hL=>af1 hst j7 L ?_,λi=>hst.obx _ _ i j7⟩;simp only[upL] at hL ⊢
    split at hL
    .cases hL
    .first
     |exact hL
     |(rw[if_neg ‹_›];exact hL))
   rw[jx (by rw[hst.size];exact rL),zO] at g3;exact ih ⟨_,_,_,g3⟩
 |@joinT s b k t blk len m cap e sz es hb ly hk ht kg _ ih=>
  obtain⟨I,β,ob,hst⟩:=dH;obtain⟨b1,cur1,e1,e2,e3,e4,e5,e7⟩:=hst.bx b hb;have hv:=e5 k;have mN:(s.bx b).getD k .un=.c (.ex (.slice (some ⟨blk,0,none⟩) m cap)):=by simp[List.getD,hk]
  rw[mN] at hv;have hv:=hv.toC.ex_inv;have hx:=hst.fr t;rw[ht] at hx;have gj:OwnG (Wr M w0) I w (some (e,sz)) es (ob (.t t)) (.slice (some ⟨blk,0,none⟩) len cap):=hx;rcases gj with⟨_,hE,_⟩ | ⟨e',blk2,cap2,row,sz',r1,r2,r3,r4,r5,r6,r7,r8,r9,r10,r11,r12⟩
  .cases hE
  cases r2;simp only[eM,ao,iF,gC] at r3;obtain⟨rfl,rfl,rfl⟩:=r3;have QY:(es.take m).length=m:=by rw[aQ];omega
  have vT:OwnG (Wr M w0) I w (some (e,sz)) (es.take m) (ob (.t t)) (.slice (some ⟨blk,0,none⟩) m cap):=by
   refine .inr ⟨e,blk,cap,row,sz,r1,rfl,by rw[QY],r4,r5,by omega,r7,r8,λx hx=>r9 x (c9 hx),λj c hj=>?_,r11,r12⟩;refine r10 j c ?_;have hp:(es.take m).flatten <+: es.flatten:=by
    conv=>rhs;rw[<- dK m es,dm]
    exact List.prefix_append _ _
   obtain⟨u,hu⟩:=hp;rw[<- hu,az (ai.1 hj).1];exact hj
  have g1:=hst.clr t;have g2:=g1.giveCell (b:=b) (k:=k) (blk:=b1) (cur:=cur1) (x':=.gs (some (.slice (some ⟨blk,0,none⟩) m cap)) (some (e,sz)) (es.take m)) (o':=ob (.t t)) hb ly e1 e3 (ai.1 hk).1 rfl (λc hc=>by
   refine⟨hst.obnd _ c hc,λL hL=>?_,λi=>hst.obx _ c i hc⟩;simp only[upL] at hL;split at hL
   .cases hL
   .rename_i q1;exact q1 (hst.oinj _ _ c hL hc)) (by rw[hv];exact⟨λu hu=>by cases hu;rfl,vT⟩)
  exact ih ⟨_,_,_,g2⟩
 |@more s b hb hl _ ih=>obtain⟨I,β,ob,hst⟩:=dH;exact ih ⟨_,_,_,hst.more hb hl⟩
 |@ggT s b k q v E es hb hk hq _ ih=>
  obtain⟨I,β,ob,hst⟩:=dH;obtain⟨b1,cur1,e1,e2,e3,e4,e5,e7⟩:=hst.bx b hb;have gj:=e5 k;have mN:(s.bx b).getD k .un=.gg v E es:=by simp[List.getD,hk]
  rw[mN] at gj;have gj:OwnG (Wr M w0) I w E es (ob (.b b k)) v:=gj;rw[eI] at hq;obtain⟨o,ho,Gs⟩:=hq;have U9:=eY eG ho q (by simpa using Gs);have g1:=hst.reown (x':=.un) (o':=none) hb hk rfl rfl (.inl rfl) (λ_ _=>by simp only[LR];exact .un _);have g2:=g1.put q U9 (v:=a.tmps.getD q undef) (x:=.gg v E es) (o:=ob (.b b k)) (by simp only[LR];exact gj) (λc hc=>by
   refine⟨hst.obnd _ c hc,λL hL=>?_,λi=>hst.obx _ c i hc⟩;simp only[upL] at hL;split at hL
   .cases hL
   .split at hL
    .cases hL
    .rename_i q1 q2;exact q2 (hst.oinj _ _ c hL hc))
  rw[jx (by rw[hst.size];exact U9)] at g2;exact ih ⟨_,_,_,g2⟩
 |@ggB s t b k g E es x ht hb hk Va _ ih=>
  obtain⟨I,β,ob,hst⟩:=dH;have hx:=hst.fr t;rw[ht] at hx;obtain⟨hg,gj⟩:=hx.gsO;have rL:t<n:=by
   rcases bZ t n with h' | h'
   .exact h'
   .exfalso
    have e0:a.tmps.getD t undef=undef:=(by rw[ak,dj (by rw[hst.size];exact h')];rfl);rw[e0] at gj;rcases gj with⟨_,_,_,_,h1⟩ | ⟨_,_,_,_,_,_,_,h1,_⟩<;>simp[undef] at h1
  have g2:=(hst.clr t).put t rL (v:=a.tmps.getD t undef) (x:=.c (.ex (a.tmps.getD t undef))) (o:=none) (.ofC gj.exact) FreeOb.nothing;rw[jx (by rw[hst.size];exact rL)] at g2;have g3:=g2.giveAny (b:=b) (k:=k) (x:=x) (x':=.gg (a.tmps.getD t undef) E es) (o':=ob (.t t)) hb hk Va rfl (λc hc=>by
   refine⟨hst.obnd _ c hc,λL hL=>?_,λi=>hst.obx _ c i hc⟩;simp only[upL] at hL
   repeat' (split at hL)
   all_goals first
    |(cases hL;done)
    |(exact ‹¬ L=Loc.t t› (hst.oinj _ _ c hL hc))) (λ_=>by simp only[LR];exact gj)
  have g4:SE G n I0 M w0 ⟨up s.fr t (.c (.ex (a.tmps.getD t undef))),up s.bx b ((s.bx b).set k (.gg (a.tmps.getD t undef) E es)),s.nb⟩ a w:=by have g5:SE G n I0 M w0 _ a w:=⟨_,_,_,g3⟩;have e1:∀ s1 s2:S,s1=s2->SE G n I0 M w0 s1 a w->SE G n I0 M w0 s2 a w:=λs1 s2 e h=>e▸h;refine e1 _ _ ?_ g5;simp only[S.put,S.clr];congr 1;funext r;simp only[up];split<;>rfl
  exact ih _ (λu hu=>(hg u hu).symm) gj.gsV g4
 |@gg0 s q hq _ ih=>obtain⟨I,β,ob,hst⟩:=dH;rw[eI] at hq;obtain⟨o,ho,Gs⟩:=hq;have U9:=eY eG ho q (by simpa using Gs);have g2:=hst.put q U9 (v:=a.tmps.getD q undef) (x:=.gg (.slice none 0 0) none []) (o:=none) (by simp only[LR];exact .inl ⟨rfl,rfl,rfl,none,rfl⟩) FreeOb.nothing;rw[jx (by rw[hst.size];exact U9)] at g2;exact ih ⟨_,_,_,g2⟩
 |@joinS s b k t v E es hb ly hk ht _ ih=>
  obtain⟨I,β,ob,hst⟩:=dH;obtain⟨b1,cur1,e1,e2,e3,e4,e5,e7⟩:=hst.bx b hb;have hv:=e5 k;have mN:(s.bx b).getD k .un=.c (.ex v):=by simp[List.getD,hk]
  rw[mN] at hv;have hv:=hv.toC.ex_inv;have gj:=hst.fr t;rw[ht] at gj;have gj:OwnG (Wr M w0) I w E es (ob (.t t)) v:=gj;have g2:=(hst.clr t).giveCell (b:=b) (k:=k) (blk:=b1) (cur:=cur1) (x':=.gs (some v) E es) (o':=ob (.t t)) hb ly e1 e3 (ai.1 hk).1 rfl (λc hc=>by
   refine⟨hst.obnd _ c hc,λL hL=>?_,λi=>hst.obx _ c i hc⟩;simp only[upL] at hL;split at hL
   .cases hL
   .rename_i q1;exact q1 (hst.oinj _ _ c hL hc)) (by rw[hv];exact⟨λu hu=>by cases hu;rfl,gj⟩)
  exact ih ⟨_,_,_,g2⟩
 |@frz s b k t blk len cap e sz cs hb hk ht _ ih=>
  obtain⟨I,β,ob,hst⟩:=dH;obtain⟨b1,cur1,e1,e2,e3,e4,e5,e7⟩:=hst.bx b hb;have gj:=e5 k;have mN:(s.bx b).getD k .un=.gg (.slice (some ⟨blk,0,none⟩) len cap) (some (e,sz)) [cs]:=by simp[List.getD,hk]
  rw[mN] at gj;have gj:OwnG (Wr M w0) I w (some (e,sz)) [cs] (ob (.b b k)) (.slice (some ⟨blk,0,none⟩) len cap):=gj;rcases gj with⟨_,hE,_⟩ | ⟨e',tj,cap',row,sz',r1,r2,r3,r4,r5,r6,r7,r8,r9,r10,r11,r12⟩
  .cases hE
  cases r2;simp only[eM,ao,iF,gC] at r3;obtain⟨rfl,rfl,rfl⟩:=r3;have htv:=hst.fr t;rw[ht] at htv;have htv:=htv.toC.ex_inv;have rL:t<n:=by
   rcases bZ t n with h' | h'
   .exact h'
   .exfalso
    have e0:a.tmps.getD t undef=undef:=(by rw[ak,dj (by rw[hst.size];exact h')];rfl);rw[e0] at htv;simp[undef] at htv
  have zL:cs.length=sz:=r9 cs (by simp);have cm:cs.length<=row.size:=by have:=aO sz r6;simp only[bA,nc] at this;omega
  have g1:=hst.recell (b:=b) (k:=k) (x':=.un) (I':=λb' o=>I b' o∨(b'=blk/\o<cs.length)) hb hk rfl rfl r1 (ud w _) (λ_ _=>rfl) (λ_ _ h=>.inl h) (λb o h=>h.imp_right λh=>h.1) (λ_ _ _ _ _=>by simp only[LR];exact .un _);have jr:CR (λb' o=>I b' o∨(b'=blk/\o<cs.length)) w (.pointer (some ⟨blk,0+0,none⟩)) (.rp cs 0):=by
   refine .rp blk 0 0 cs (λj=>row.getD j undef) (λj hj=>⟨?_,.inr ⟨rfl,by omega⟩⟩) (λj c hc=>?_)
   .rw[ff w blk _ row e (0,0) r5,aJ,ax (show j<row.size by omega),ak,ax (show j<row.size by omega)]
    rfl
   .exact(r10 j c (by simpa using hc)).mono λb o h=>⟨.inl h,rfl⟩
  have g2:=g1.put t rL (v:=a.tmps.getD t undef) (x:=.c (.rp cs 0)) (o:=none) (by rw[htv];exact .ofC jr) FreeOb.nothing;rw[jx (by rw[hst.size];exact rL)] at g2;exact ih ⟨_,_,_,g2⟩
theorem RL {id:Nat} {ops:Array Oper} {K:S->Prop} (eG:mQ n ops=true) (h:spl tr id ops s K) (dH:SE G n I0 M w0 s a w):∃ s',K s'/\SE G n I0 M w0 s' a w:=by
 unfold spl at h;split at h
 .obtain⟨I,β,ob,hst⟩:=dH
  rcases h with⟨b,k,q,E,es,⟨h1,h2,h3⟩,h⟩ | ⟨b,k,g,E,es,⟨h1,h2⟩,h⟩ | ⟨b,k,g,E,es,⟨h1,h2,h3⟩,h⟩ | h
  .rw[eI] at h3
   obtain⟨o,ho,hq⟩:=h3;obtain⟨v,hv⟩:=hst.split h1 h2 (eY eG ho q (by simpa using hq));exact⟨_,h v,hv⟩
  .exact⟨_,h,hst.cool h1 h2⟩
  .obtain⟨blk,cap,hv⟩:=hst.name h1 h3 h2
   exact⟨_,h blk cap,_,_,_,hv⟩
  .exact mT eG h ⟨_,_,_,hst⟩
 .exact⟨s,h,dH⟩
def DC (ops:Array Oper) (listed:Array Bool):Prop:=∀ k o,ops[k]?=some o->listed.getD k false=true->∀ e∈o.after,Region.binds .any e=true->listed.getD e.on false=true
theorem DC.step {ops:Array Oper} {listed:Array Bool} {j:Nat} (h:DC ops listed) (hj:j∈Region.ready .any ops listed):DC ops (listed.setIfInBounds j true):=by
 intro k o ho hk e he hb;obtain⟨_,oj,Ax,eE⟩:=lj.1 hj;by_cases hkj:k=j
 .subst hkj
  rw[Ax] at ho;cases ho;exact Go.getD_set_true (eE e he hb)
 .rw[lU false (hJ hkj)] at hk
  exact Go.getD_set_true (h k o ho hk e he hb)
def Ho (ops:Array Oper) (k i:Nat):Bool:=((ops[k]?).map λo=>o.after.any λe=>Region.binds .any e&&(e.on==i)).getD false
def vh (ops:Array Oper) (m:Nat):Bool:=((List.range m).all λi=>(List.range (m+1)).any λk=>decide (k≠i)&&Ho ops k i)&&
 (List.range ops.size).all λj=>decide (j<=m)||(List.range ops.size).any λk=>decide (m<=k)&&decide (k≠j)&&Ho ops j k
theorem Ag {ops:Array Oper} {k i:Nat} (h:Ho ops k i=true):∃ o,ops[k]?=some o/\∃ e∈o.after,Region.binds .any e=true/\e.on=i:=by
 unfold Ho at h;cases ho:ops[k]? with
 |none=>simp[ho] at h
 |some o=>simp only[ho,cU,cX] at h;rw[Array.any_eq_true'] at h;obtain⟨e,he,h3⟩:=h;simp only[aZ,kS] at h3;exact⟨o,rfl,e,he,h3.1,h3.2⟩
theorem VY {m q j:Nat} (h:m<=j):(ot m q).getD j false=false:=by
 cases hc:(ot m q).getD j false with
 |false=>rfl
 |true=>have:=za hc;omega
theorem abH {m q j:Nat} (h:j<m):(ot m q).getD j false=true:=by unfold ot;rw[ak,dw,az (by simpa using h)];simp[h]
theorem Hq {ops:Array Oper} {K0:S->Prop} {m:Nat} (MC:vh ops m=true) {i:Nat} {oi:Oper} {e:Ef} (hi:ops[i]?=some oi) :
 ∀ (fuel:Nat) (listed:Array Bool) (s:S),listed.size=ops.size->DC ops listed->FreeAt tr .any ops listed i oi->
  i∈Region.ready .any ops listed->TEf P G tr ops oi s e->
  xY P G tr ops (ot m ops.size) K0 fuel (listed.setIfInBounds i true) (e.run tr oi s)->xY P G tr ops (ot m ops.size) K0 (fuel+1) listed s:=by
 intro fuel;induction fuel with
 |zero=>
  intro listed s fK hdc _ hr hy H;refine⟨λh=>(by rw[h] at hr;cases hr),λj hj=>?_⟩;by_cases xr:j=i
  .subst xr;unfold wH;simp only[hi];exact⟨e,hy,H⟩
  .exfalso
   obtain⟨Vj,oj,Ax,eE⟩:=lj.1 hj;have PC:i<listed.size:=(by rw[fK];exact(bg.1 hi).1);have U0:j<ops.size:=(bg.1 Ax).1;have h1:(ot m ops.size).getD j true=false:=(by rw[<- H.1,lU true (hJ xr)];exact Vj);have h2:(ot m ops.size).getD i false=true:=(by rw[<- H.1,ak,Array.getElem?_setIfInBounds_self_of_lt PC];rfl);have hjm:=B9 h1;have him:=za h2;have h4:=(lj.1 hr).1;unfold vh at MC;simp only[aZ,a8,eI,dc,fm,bI] at MC;obtain⟨xu,ME⟩:=MC;have dU:∀ q,q≠i->(ot m ops.size).getD q false=listed.getD q false:=λq hq=>by rw[<- H.1,lU false (hJ hq)]
   rcases ME j U0 with hjm2 | ⟨k,DW,⟨Va,hkj⟩,MN⟩
   .have asO:j=m:=by omega
    obtain⟨k,hkm,hki,MN⟩:=xu i him;obtain⟨ok,eG,ed,hed,hb,Vk⟩:=Ag MN;have h5:listed.getD i false=true:=by
     by_cases hkj:k=j
     .subst hkj
      rw[Ax] at eG;cases eG;have:=eE ed hed hb;rw[Vk] at this;exact this
     .have h6:listed.getD k false=true:=by rw[<- dU k hki];exact abH (by omega)
      have:=hdc k ok eG h6 ed hed hb;rw[Vk] at this;exact this
    rw[ak,ax PC] at h5 h4;simp only[cX] at h5 h4;rw[h4] at h5;cases h5
   .obtain⟨ok,eG,ed,hed,hb,Vk⟩:=Ag MN
    rw[Ax] at eG;cases eG;have h5:=eE ed hed hb;rw[Vk,<- dU k (by omega),VY Va] at h5;cases h5
 |succ fuel ih=>
  intro listed s fK hdc Az hr hy H;refine⟨λh=>(by rw[h] at hr;cases hr),λj hj=>?_⟩;by_cases xr:j=i
  .subst xr;unfold wH;simp only[hi];exact⟨e,hy,H⟩
  .have h1:=H.2 j (ready_mono hj xr)
   obtain⟨_,oj,Ax,_⟩:=lj.1 hj;obtain⟨AY,D3⟩:=Az.step hr hj xr Ax;unfold wH at h1 ⊢
   simp only[Ax] at h1 ⊢
   obtain⟨f,hf,hK⟩:=h1;have IJ:=hy.back AY hf;refine⟨f,IJ,ih (listed.setIfInBounds j true) _ (by rw[dA];exact fK) (hdc.step hj) D3 (ready_mono hr (hJ xr)) (hy.keep AY IJ) ?_⟩;rw[Array.setIfInBounds_comm _ _ xr,<- B7 AY hy IJ];exact hK
theorem Cc {ops:Array Oper} {K0:S->Prop} {m:Nat} (MC:vh ops m=true):∀ (ks:List Nat) (listed:Array Bool) (s:S),listed.size=ops.size->DC ops listed->(∀ k∈ks,∃ o,ops[k]?=some o/\pw tr o=false)->
 tH tr ops ks listed=some (ot m ops.size)->ig P G tr ops (rk ops ks) s K0->xY P G tr ops (ot m ops.size) K0 ks.length listed s
 |[],listed,s,_,_,_,hB,h=>by simp only[tH,ao] at hB;exact⟨hB,h⟩
 |k::r,listed,s,fK,hdc,hA,hB,h=>by
  obtain⟨o,ho,EG⟩:=hA k (bD ..);unfold tH at hB;split at hB
  .rename_i hc
   simp only[aZ] at hc;obtain⟨hr,hf⟩:=hc;have hr':k∈Region.ready .any ops listed:=(by simpa using hr);simp only[rk,jk,ho,ig] at h;obtain⟨e,he,hK⟩:=kF (K:=λs'=>ig P G tr ops (rk ops r) s' K0) EG h;exact Hq MC ho r.length listed s fK hdc (pY ho hf) hr' he
    (Cc MC r _ _ (by rw[dA];exact fK) (hdc.step hr') (λk hk=>hA k (aP _ hk)) hB hK)
  .cases hB
theorem abI {ops:Array Oper} {n:Nat}:DC ops (Array.replicate n false):=λk o _ hk=>by rw[ak,Array.getElem?_replicate] at hk;split at hk<;>simp at hk
theorem uj {ops:Array Oper} {Q:Exit->Act->World->Prop} {K:S->Prop} (eG:mQ n ops=true) (hA:∀ (k:Nat) (o:Oper),ops[k]?=some o->qD tr o=false) (hK:∀ a w s,K s->SE G n I0 M w0 s a w->Q .normal a w):∀ (fuel:Nat) (listed:Array Bool) (s:S) (a:Act) (w:World),
 PM P G tr ops K fuel listed s->SE G n I0 M w0 s a w->wpAny P .any ops Q fuel listed a w
 |0,_,_,_,_,h,dH=>by obtain⟨s',h1,h2⟩:=mT eG h.2 dH;exact⟨h.1,hK _ _ _ h1 h2⟩
 |fuel+1,listed,s,a,w,h,dH=>by
  obtain⟨gZ,h⟩:=h;obtain⟨s',h1,h2⟩:=mT eG h dH;refine⟨λh0=>absurd h0 gZ,λi hi=>?_⟩;obtain⟨o,ho,hh⟩:=h1 i hi;obtain⟨I,β,ob,hst⟩:=h2;have jF:o∈ops.toList:=by have:=fA ho;simpa using this
  unfold wpOp;simp only[ho];rcases nj hst hh with⟨hw,hh⟩ | ⟨hw,hh⟩
  .rw[if_pos hw]
   exact .inl (qL (tr:=tr) hst (eY eG jF) (hA i o ho) hh λa w s hs dH=>uj eG hA hK fuel _ s a w hs dH)
  .rw[hw]
   simp only[aM,dp];exact uj eG hA hK fuel _ _ _ w hh (SE.put (v:=undef) (x:=.sk) hst (eY eG jF) (by simp only[LR];exact .sk))
theorem Ah {ops:Array Oper} {K:S->Prop} {l2:List Oper}:∀ (l1:List Oper) (s:S),ig P G tr ops (l1++l2) s K=ig P G tr ops l1 s (λs=>ig P G tr ops l2 s K)
 |[],_=>rfl
 |o::r,s=>by simp only[dG,ig,Ah r]
theorem uk {ops:Array Oper} {Q:Exit->Act->World->Prop} {K:S->Prop} (eG:mQ n ops=true) (hA:∀ (k:Nat) (o:Oper),ops[k]?=some o->qD tr o=false) (hK:∀ a w s,K s->SE G n I0 M w0 s a w->Q .normal a w):∀ (fuel i:Nat) (listed:Array Bool) (s:S) (a:Act) (w:World),
 IT ops fuel i listed=true->i+fuel=ops.size->ig P G tr ops (ops.toList.drop i) s K->SE G n I0 M w0 s a w->wpAny P .any ops Q fuel listed a w
 |0,i,_,_,_,_,hl,hi,h,dH=>by rw[List.drop_eq_nil_of_le (by simp;omega)] at h;exact⟨by simpa[IT] using hl,hK _ _ _ h dH⟩
 |fuel+1,i,listed,s,a,w,hl,hi,h,dH=>by
  simp only[IT,aZ,kS] at hl;obtain⟨h1,h2⟩:=hl;have bF:i<ops.size:=by omega
  have hd:ops.toList.drop i=ops[i]::ops.toList.drop (i+1):=by rw[dn (by simpa using bF)];simp
  rw[hd] at h;refine⟨λh0=>by rw[h1] at h0;simp at h0,λj hj=>?_⟩;rw[h1,aX] at hj;subst hj;obtain⟨I,β,ob,hst⟩:=dH;have ho:ops[j]?=some ops[j]:=ax bF;have jF:ops[j]∈ops.toList:=by have:=fA ho;simpa using this
  unfold wpOp;simp only[ho];rcases nj hst h with⟨hw,hh⟩ | ⟨hw,hh⟩
  .rw[if_pos hw]
   exact .inl (qL (tr:=tr) hst (eY eG jF) (hA j _ ho) hh λa w s hs dH=>uk eG hA hK fuel _ _ s a w h2 (by omega) hs dH)
  .rw[hw]
   simp only[aM,dp];exact uk eG hA hK fuel _ _ _ _ w h2 (by omega) hh (SE.put (v:=undef) (x:=.sk) hst (eY eG jF) (by simp only[LR];exact .sk))
def abJ (tr:List Nat) (id:Nat) (ops:Array Oper):Bool:=ops.toList.all (λo=>!qD tr o)&&(ops.toList.take (apN tr id ops)).all (λo=>!pw tr o)&&decide (apN tr id ops<=ops.size)&&decide (tH tr ops (List.range (apN tr id ops)) (Array.replicate ops.size false)=some (ot (apN tr id ops) ops.size))&&(vg ops (apN tr id ops)||vh ops (apN tr id ops))&&(!ag7 tr id||IT ops (ops.size - apN tr id ops) (apN tr id ops) (ot (apN tr id ops) ops.size))
theorem Es {id:Nat} {ops:Array Oper} {Q:Exit->Act->World->Prop} {K:S->Prop} (eG:mQ n ops=true) (vD:abJ tr id ops=true) (hK:∀ a w s,K s->SE G n I0 M w0 s a w->Q .normal a w)
 (PD:Ec tr id=false) (Gs:Gz tr id=false) (h:vpa P G tr id ops K s) (dH:SE G n I0 M w0 s a w):wpAny P .any ops Q ops.size (Array.replicate ops.size false) a { w with drawn:=w.drawn+1 }:=by
 unfold abJ at vD;simp only[aZ,a8,ew,bI,fm (vg _ _)] at vD;obtain⟨⟨⟨⟨⟨hY,hA⟩,fK⟩,xo⟩,MC⟩,hli⟩:=vD;have Vn:∀ (k:Nat) (o:Oper),ops[k]?=some o->qD tr o=false:=λk o ho=>hY o (by have:=fA ho;simpa using this);have Q7:∀ (k:Nat) (o:Oper),k<apN tr id ops->ops[k]?=some o->pw tr o=false:=λk o hk ho=>hA o (by refine aV (i:=k) ?_;rw[cC,if_pos hk];simpa using ho);have tU:SE G n I0 M w0 s a { w with drawn:=w.drawn+1 }:=by obtain⟨I,β,ob,hst⟩:=dH;exact⟨I,β,ob,hst.drew⟩
 have aa3:rk ops (List.range (apN tr id ops))=ops.toList.take (apN tr id ops):=by rw[eL,sK 0 _ (by omega)];rfl
 have fin:∀ (s':S) (K0:S->Prop),ig P G tr ops (ops.toList.take (apN tr id ops)) s' K0->SE G n I0 M w0 s' a { w with drawn:=w.drawn+1 }->
  (∀ a w s,K0 s->SE G n I0 M w0 s a w->wpAny P .any ops Q (ops.size - apN tr id ops) (ot (apN tr id ops) ops.size) a w)->
  wpAny P .any ops Q ops.size (Array.replicate ops.size false) a { w with drawn:=w.drawn+1 }:=λs' K0 h1 h2 h5=>by
  rw[<- aa3] at h1;have h3:xY P G tr ops (ot (apN tr id ops) ops.size) K0 (List.range (apN tr id ops)).length (Array.replicate ops.size false) s':=by
   have hz:∀ k∈List.range (apN tr id ops),∃ o,ops[k]?=some o/\pw tr o=false:=λk hk=>⟨ops[k]'(by have:=dc.1 hk;omega),ax _,Q7 k _ (dc.1 hk) (ax _)⟩;rcases MC with MC | MC
   .exact E2 MC _ _ s' (by simp) hz xo h1
   .exact Cc MC _ _ s' (by simp) abI hz xo h1
  have h4:=Af (Q:=Q) eG h5 _ _ _ _ _ h3 h2;rw[List.length_range,Nat.sub_add_cancel fK] at h4;exact h4
 unfold vpa at h;rw[PD,Gs] at h;simp only[aM,dp] at h;split at h
 .rename_i hln
  rw[hln] at hli;have e:ops.toList=ops.toList.take (apN tr id ops)++ops.toList.drop (apN tr id ops):=(dK _ _).symm;rw[e,Ah] at h;exact fin s _ h tU λa w s hs dH=>uk eG Vn hK _ _ _ s a w (by simpa using hli) (by omega) hs dH
 .obtain⟨s',h1,h2⟩:=mT eG h tU
  exact fin s' _ h1 h2 λa w s hs dH=>uj eG Vn hK _ _ s a w hs dH
theorem Hr {ops:Array Oper} {Q:Exit->Act->World->Prop} {l:Option Nat} {m:Nat} {id:Nat} (hm:P.follows .mixedOrders=true) (qA:BM ops=true) (eG:mQ n ops=true) (vD:abJ tr id ops=true) {K:S->Prop} (hK:∀ a w s,K s->SE G n I0 M w0 s a w->Q .normal a w)
 (PD:Ec tr id=false) (Gs:Gz tr id=false) (h:vpa P G tr id ops K s) (dH:SE G n I0 M w0 s a w):(Code.region id ops true).wpIn (FW l) m P Q a w:=
 wpIn_mono (Q:=PY Q) (wpIn_region_any hm (xO qA zb _ _ _ _ (Es eG vD (λa w s hk dH=>⟨rfl,hK a w s hk dH⟩) PD Gs h dH))) (λ_ _ _ h=>h.2)
theorem wK {Q:Exit->Act->World->Prop} {l:Option Nat} {m:Nat} {ops:Array Oper} (eG:mQ n ops=true) {K:S->Prop} (hK:∀ a w s,K s->SE G n I0 M w0 s a w->Q .normal a w):∀ (ls:List Oper) (k:Nat),ops.toList.drop k=ls->∀ (s:S) (a:Act) (w:World),
 abq P G tr ops K ls s->SE G n I0 M w0 s a w->wpOpsIn (FW l) m P ops Q (List.range' k ls.length) a w
 |[],k,_,s,a,w,h,dH=>by simp only[aF,List.range'_zero,wpOpsIn];obtain⟨s',h1,h2⟩:=mT eG h dH;exact hK _ _ _ h1 h2
 |o::ls,k,hl,s,a,w,h,dH=>by
  have qu:ops[k]?=some o:=by have:(ops.toList.drop k)[0]?=some o:=(by rw[hl];rfl);rw[cK] at this;simpa using this
  have Pn:ops.toList.drop (k+1)=ls:=by rw[<- gd,hl];rfl
  have jF:o∈ops.toList:=cT (i:=k) (by rw[hl];simp);obtain⟨s,h,dH⟩:=mT eG h dH;obtain⟨I,β,ob,hst⟩:=dH;simp only[aB,iw,wpOpsIn,qu];rcases nj hst h with⟨hw,h⟩ | ⟨hw,h⟩
  .rw[if_pos hw]
   refine ri (tr:=tr) hst (eY eG jF) h λa' w' s' EE tU=>?_;exact wK eG hK ls (k+1) Pn s' a' w' EE tU
  .rw[hw]
   simp only[aM,dp];exact⟨λ_ _=>trivial,wK eG hK ls (k+1) Pn _ _ w h (SE.put hst (eY eG jF) (by simp only[LR];exact .sk))⟩
theorem qN {Q:Exit->Act->World->Prop} {l:Option Nat} {m:Nat} {ops:Array Oper} (eG:mQ n ops=true) {K:S->Prop} (hK:∀ a w s,K s->SE G n I0 M w0 s a w->Q .normal a w):∀ (ls:List Oper) (k:Nat),ops.toList.drop k=ls->∀ (s:S) (a:Act) (w:World),
 nN P G tr ops K ls s->SE G n I0 M w0 s a w->wpOpsIn (FW l) m P ops Q (List.range' k ls.length) a w
 |[],k,_,s,a,w,h,dH=>by simp only[aF,List.range'_zero,wpOpsIn];obtain⟨s',h1,h2⟩:=mT eG h dH;exact hK _ _ _ h1 h2
 |o::ls,k,hl,s,a,w,h,dH=>by
  have qu:ops[k]?=some o:=by have:(ops.toList.drop k)[0]?=some o:=(by rw[hl];rfl);rw[cK] at this;simpa using this
  have Pn:ops.toList.drop (k+1)=ls:=by rw[<- gd,hl];rfl
  have jF:o∈ops.toList:=cT (i:=k) (by rw[hl];simp);unfold nN at h;obtain⟨s,h,dH⟩:∃ s',nR ops o s' (λs=>if nG tr o then vH P G o s (nN P G tr ops K ls) else VStep P G tr o s (nN P G tr ops K ls)) (λs=>nN P G tr ops K ls (s.put o.dst .sk))/\SE G n I0 M w0 s' a w:=by
   split at h
   .exact mT eG h dH
   .exact⟨s,h,dH⟩
  obtain⟨I,β,ob,hst⟩:=dH;simp only[aB,iw,wpOpsIn,qu];rcases nj hst h with⟨hw,h⟩ | ⟨hw,h⟩
  .rw[if_pos hw]
   split at h
   .exact wF (abG h) (Nr hst (eY eG jF) h λa' w' s' EE tU=>qN eG hK ls (k+1) Pn s' a' w' EE tU)
   .refine ri (tr:=tr) hst (eY eG jF) h λa' w' s' EE tU=>?_
    exact qN eG hK ls (k+1) Pn s' a' w' EE tU
  .rw[hw]
   simp only[aM,dp];exact⟨λ_ _=>trivial,qN eG hK ls (k+1) Pn _ _ w h (SE.put hst (eY eG jF) (by simp only[LR];exact .sk))⟩
theorem Ht {ops:Array Oper} {Q:Exit->Act->World->Prop} {l:Option Nat} {m:Nat} {id:Nat} (eG:mQ n ops=true) {K:S->Prop} (hK:∀ a w s,K s->SE G n I0 M w0 s a w->Q .normal a w)
 (PD:Ec tr id=false) (Gs:Gz tr id=true) (h:vpa P G tr id ops K s) (dH:SE G n I0 M w0 s a w):(Code.region id ops false).wpIn (FW l) m P Q a w:=by
 unfold vpa at h;rw[PD,if_neg (by decide),if_pos Gs] at h;refine wpIn_region ?_;have:=qN (Q:=Q) (l:=l) (m:=m) eG hK ops.toList 0 rfl s a w h dH;rw[eL];simpa using this
theorem Hu {ops:Array Oper} {Q:Exit->Act->World->Prop} {l:Option Nat} {m:Nat} {id:Nat} (eG:mQ n ops=true) {K:S->Prop} (hK:∀ a w s,K s->SE G n I0 M w0 s a w->Q .normal a w)
 (PD:Ec tr id=true) (h:vpa P G tr id ops K s) (dH:SE G n I0 M w0 s a w):(Code.region id ops false).wpIn (FW l) m P Q a w:=by
 unfold vpa at h;rw[if_pos PD] at h;refine wpIn_region ?_;have:=wK (Q:=Q) (l:=l) (m:=m) eG hK ops.toList 0 rfl s a w h dH;rw[eL];simpa using this
structure Reb (T:Prop) (I0:Ft) (M:Mx) (w0:World) (I1:Ft) (M1:Mx) (w1:World) (rs:List Nat):Prop where
 bel:BelowM T M w0 w1
 wr:∀ b,Wr M1 w1 b->Wr M w0 b
 il:∀ b o,I0 b o->I1 b o
 kept:∀ b o,I0 b o->w1.cell? ⟨b,o,none⟩=w0.cell? ⟨b,o,none⟩
 ih:∀ b o,I1 b o->I0 b o∨Wr M w0 b
 e:M1.e=M.e
 d:M1.d=rs.map mkD++M.d
 nd:rs.Nodup
 r:∀ r∈rs,¬ Wr M1 w1 r/\Wr M w0 r/\(∀ o,¬ I1 r o)/\w1.heap[r]?=some (Obj.deferred (some []))
theorem Reb.refl:Reb (GT G) I0 M w0 I0 M w0 []:=⟨BelowM.refl _ _,λ_ h=>h,λ_ _ h=>h,λ_ _ _=>rfl,λ_ _ h=>.inl h,rfl,rfl,gI,by simp⟩
variable {I1:Ft} {M1:Mx} {w1:World} {rs:List Nat}
theorem Reb.notWr (h:St G n I1 M1 w1 I β ob s a w) {r:Nat} (hr:¬ Wr M1 w1 r):(∀ L,ob L≠some r)/\(∀ i,β i≠some r)/\r<w1.heap.size/\¬ M1.m r:=by
 refine⟨λL hL=>hr (h.obnd L r hL).2,λi hi=>?_,?_,λhm=>hr (.inr hm)⟩
 .exact hr (h.boxblk hi).2.1
 .rcases bZ r w1.heap.size with h1 | h1
  .exact h1
  .exact absurd (.inl h1) hr
theorem St.back (hr:Reb (GT G) I0 M w0 I1 M1 w1 rs) (h:St G n I1 M1 w1 I β ob s a w):St G n I0 M w0 I β ob s { a with defers:=M.d } w where
 size:=h.size
 defers:=rfl
 below:=⟨h.below.os.trans hr.bel.os,h.below.tape.trans hr.bel.tape,h.below.output.trans hr.bel.output,bY hr.bel.size h.below.size,λk hk hM=>
  (h.below.block k (cn hk hr.bel.size) (λh1=>by
   rcases hr.wr k (.inr h1) with h2 | h2
   .omega
   .exact hM h2)).trans (hr.bel.block k hk hM),λt=>bY (hr.bel.drawn t) (h.below.drawn t)⟩
 ilow:=λb o h0=>h.ilow b o (hr.il b o h0)
 kept:=λb o h0=>(h.kept b o (hr.il b o h0)).trans (hr.kept b o h0)
 ihigh:=λb o hb=>by
  rcases h.ihigh b o hb with h1 | h1
  .exact hr.ih b o h1
  .exact .inr (hr.wr b h1)
 ibnd:=h.ibnd
 fr:=λt=>(h.fr t).wider λb hb=>hr.wr b (h.obnd _ b hb).2
 bx:=λi hi=>by obtain⟨blk,cur,e1,e2,e3,e4,e5,e7⟩:=h.bx i hi;exact⟨blk,cur,e1,hr.wr blk e2,e3,e4,λj=>(e5 j).wider λb hb=>hr.wr b (h.obnd _ b hb).2,e7⟩
 bnone:=h.bnone
 ext:=λi b he=>h.ext i b (by rw[hr.e];exact he)
 bnew:=λi b hi=>.inr (hr.wr b (h.boxblk hi).2.1)
 binj:=h.binj
 oinj:=h.oinj
 obx:=h.obx
 obnd:=λL b hL=>⟨(h.obnd L b hL).1,hr.wr b (h.obnd L b hL).2⟩
 glob:=h.glob
theorem St.rebase (h:St G n I0 M w0 I β ob s a w) {r:Nat} (j7:∀ L,ob L≠some r) (hβ:∀ i,β i≠some r) :
 St G n I ⟨λb=>Wr M w0 b/\b≠r,M.e,mkD r::M.d⟩ w I β ob s { a with defers:=mkD r::a.defers } w where
 size:=h.size
 defers:=by rw[h.defers]
 below:=BelowM.refl _ _
 ilow:=λ_ _ h=>h
 kept:=λ_ _ _=>rfl
 ihigh:=λ_ _ h=>.inl h
 ibnd:=h.ibnd
 fr:=λt=>(h.fr t).wider λb hb=>.inr ⟨(h.obnd _ b hb).2,λe=>j7 _ (e▸hb)⟩
 bx:=λi hi=>by obtain⟨blk,cur,e1,e2,e3,e4,e5,e7⟩:=h.bx i hi;exact⟨blk,cur,e1,.inr ⟨e2,λe=>hβ i (e▸e1)⟩,e3,e4,λj=>(e5 j).wider λb hb=>.inr ⟨(h.obnd _ b hb).2,λe=>j7 _ (e▸hb)⟩,e7⟩
 bnone:=h.bnone
 ext:=h.ext
 bnew:=λi b hi=>.inr (.inr ⟨(h.boxblk hi).2.1,λe=>hβ i (e▸hi)⟩)
 binj:=h.binj
 oinj:=h.oinj
 obx:=h.obx
 obnd:=λL b hL=>⟨(h.obnd L b hL).1,.inr ⟨(h.obnd L b hL).2,λe=>j7 L (e▸hL)⟩⟩
 glob:=h.glob
theorem Reb.step (hr:Reb (GT G) I0 M w0 I1 M1 w1 rs) (h:St G n I1 M1 w1 I β ob s a w) {r:Nat} (hw:Wr M1 w1 r) (bF:r<w.heap.size) (hI:∀ o,¬ I r o) (hh:w.heap[r]?=some (Obj.deferred (some []))) :
 Reb (GT G) I0 M w0 I ⟨λb=>Wr M1 w1 b/\b≠r,M1.e,mkD r::M1.d⟩ w (r::rs) where
 bel:=(h.back hr).below
 wr:=λb hb=>by
  rcases hb with hb | hb
  .exact hr.wr b (.inl (bY h.below.size hb))
  .exact hr.wr b hb.1
 il:=λb o h0=>h.ilow b o (hr.il b o h0)
 kept:=λb o h0=>(h.kept b o (hr.il b o h0)).trans (hr.kept b o h0)
 ih:=(h.back hr).ihigh
 e:=hr.e
 d:=by rw[bB,dG,hr.d]
 nd:=jN.2 ⟨λhm=>(hr.r r hm).1 hw,hr.nd⟩
 r:=λq hq=>by
  rcases aN.1 hq with rfl | hq
  .refine⟨λhw'=>?_,hr.wr _ hw,hI,hh⟩
   rcases hw' with h1 | h1
   .omega
   .exact h1.2 rfl
  .obtain⟨q1,q2,q3,q4⟩:=hr.r q hq
   obtain⟨_,_,h3,h4⟩:=Reb.notWr h q1;refine⟨λhw'=>?_,q2,λo ho=>?_,(h.below.block q h3 h4).trans q4⟩
   .rcases hw' with h1 | h1
    .have:=h.below.size;omega
    .exact q1 h1.1
   .rcases h.ihigh q o ho with h1 | h1
    .exact q3 o h1
    .exact q1 h1
theorem E3 {F:Fence} {m:Nat} {fn:Func} {R:Ending->World->Prop} {a0:Act}:∀ (rs:List Nat) (w:World),rs.Nodup->(∀ r∈rs,(∀ L,ob L≠some r)/\(∀ i,β i≠some r)/\Wr M w0 r/\(∀ o,¬ I r o)/\w.heap[r]?=some (Obj.deferred (some [])))->
 St G n I0 M w0 I β ob s a0 w->(∀ w',St G n I0 M w0 I β ob s a0 w'->∃ v,(results fn a0.tmps).run P w'=.ok v w'/\R (.returned v) w')->LeavesInM F m P fn a0.tmps R (rs.map mkD) .returning w
 |[],w,_,_,h,hR=>hR w h
 |r::rs,w,qA,hr,h,hR=>by
  obtain⟨h1,h2,h3,h4,h5⟩:=hr r (bD ..);obtain⟨hnr,aqF⟩:=jN.1 qA;have bF:r<w.heap.size:=(bg.1 h5).1;refine⟨by simp,.inl ⟨r,_,rfl,run_takeDeferred h5,?_⟩⟩;refine E3 rs _ aqF (λq hq=>?_) ?_ hR
  .obtain⟨q1,q2,q3,q4,q5⟩:=hr q (aP _ hq)
   exact⟨q1,q2,q3,q4,(Go.World.putObj_heap_other (λ(e:q=r)=>hnr (e▸hq))).trans q5⟩
  .exact h.growRow (I':=I) (Vq (grownBy_putObj' w r _) (ab _)) h3 (λo ho=>absurd ho (h4 o)) h1 h2 (λ_ _ h=>h) (λ_ _ h=>.inl h) (by rw[Go.World.putObj_size];exact bF)
theorem St.newObj (h:St G n I0 M w0 I β ob s a w) {o:Obj} {cs:List V} {cur:Array Value} (hHB:HB (w.alloc o) w.heap.size cur cs) (hl:cs.length<=cur.size)
 (hc:∀ j,LR (Wr M w0) I β w none (cur.getD j undef) (cs.getD j .un)) :
 St G n I0 M w0 I (up β s.nb (some w.heap.size)) (λL=>match L with | .b i j=>if i=s.nb then none else ob (.b i j) | L=>ob L)
  { s with bx:=up s.bx s.nb cs,nb:=s.nb+1 } a (w.alloc o):=by
 have hs:=h.allocOwn o;have hβ:∀ i b,β i=some b->up β s.nb (some w.heap.size) i=some b:=λi b hi=>by
  have:i≠s.nb:=λe=>by rw[h.bnone i (by omega)] at hi;cases hi
  rw[cP _ _ this];exact hi
 have j7:∀ (o':Option Nat),(∀ b,o'=some b->b<w.heap.size)->∀ b,o'=some b->(w.alloc o).heap[b]?=w.heap[b]?/\∀ k,I b k->I b k:=λo' ho b hb=>
  ⟨ee w _ b (ho b hb),λ_ h=>h⟩
 have hI:∀ b k,I b k->I b k/\(w.alloc o).cell? ⟨b,k,none⟩=w.cell? ⟨b,k,none⟩:=λb k hb=>⟨hb,dR (a:=⟨b,k,none⟩) (ee w _ b (h.ibnd b k hb))⟩;have tp:=h.fresh (ab _);have key:∀ L b,(match L with | .b i j=>if i=s.nb then none else ob (.b i j) | L=>ob L)=some b->ob L=some b:=λL b hL=>by
  cases L with
  |t i=>exact hL
  |b i j=>
   simp only at hL;split at hL
   .cases hL
   .exact hL
 exact {
  size:=h.size,defers:=h.defers,below:=hs.below,kept:=hs.kept,ilow:=h.ilow,ihigh:=h.ihigh,ibnd:=hs.ibnd
  fr:=λt=>(h.fr t).mono hI hβ (j7 _ λb hb=>(h.obnd _ b hb).1)
  bx:=λi hi=>by
   by_cases iT:i=s.nb
   .subst iT
    refine⟨w.heap.size,cur,by simp,.inl h.below.size,by simpa only[b9] using hHB,by simpa only[b9] using hl,λj=>?_,λk hk=>?_⟩
    .simp only[b9,cZ]
     exact(hc j).mono hI hβ (λb hb=>by cases hb)
    .have:=h.ibnd _ _ hk;omega
   .obtain⟨blk,cur',e1,e2,e3,e4,e5,e7⟩:=h.bx i (by simp only at hi;omega)
    have bF:blk<w.heap.size:=e3.lt;refine⟨blk,cur',hβ i blk e1,e2,by simpa only[cP _ _ iT] using e3.mono (ee w _ blk bF),by simpa only[cP _ _ iT] using e4,λj=>?_,e7⟩;simp only[cP _ _ iT,if_neg iT];exact(e5 j).mono hI hβ (j7 _ λb hb=>(h.obnd _ b hb).1)
  bnone:=λi hi=>by simp only at hi;rw[cP _ _ (by omega)];exact h.bnone i (by omega)
  ext:=λi b he=>hβ i b (h.ext i b he)
  bnew:=λi b hi=>by
   by_cases h1:i=s.nb
   .subst h1;rw[b9] at hi;cases hi;exact .inr (.inl h.below.size)
   .rw[cP _ _ h1] at hi;exact h.bnew i b hi
  binj:=λi j b hi hj=>by
   by_cases h1:i=s.nb<;>by_cases h2:j=s.nb
   .rw[h1,h2]
   .subst h1;rw[b9] at hi;cases hi;rw[cP _ _ h2] at hj;exact absurd hj (tp.2 j)
   .subst h2;rw[b9] at hj;cases hj;rw[cP _ _ h1] at hi;exact absurd hi (tp.2 i)
   .rw[cP _ _ h1] at hi;rw[cP _ _ h2] at hj;exact h.binj i j b hi hj
  oinj:=λL L' b hL yO=>h.oinj L L' b (key L b hL) (key L' b yO)
  obx:=λL b i hL hi=>by
   by_cases iT:i=s.nb
   .subst iT;rw[b9] at hi;cases hi
    exact tp.1 L (key L _ hL)
   .rw[cP _ _ iT] at hi
    exact h.obx L b i (key L b hL) hi
  obnd:=λL b hL=>by rw[ec];have:=h.obnd L b (key L b hL);exact⟨by omega,this.2⟩
  glob:=λg cs hg=>(h.glob g cs hg).mono hI }
theorem LR.toKR {ox:Option Nat} (h:LR base I β w ox v x) (hk:x.fz.isKR=true):KR I β w v x.fz:=by
 have h':=h.fz none;cases hx:x.fz<;>rw[hx] at h' hk<;>simp only[V.isKR] at hk<;>try cases hk
 .exact .inl rfl
 .exact .inr (.inr h'.toC)
 .simp only[LR] at h';exact .inr (.inl ⟨rfl,h'⟩)
 .simp only[LR] at h';exact .inr (.inr h')
 .simp only[LR] at h';exact .inr (.inr h')
 .simp only[LR] at h';exact .inr (.inr h')
 .simp only[LR] at h';exact .inr (.inr h')
def SX (G:Gl) (n:Nat) (tr:List Nat) (I0:Ft) (M:Mx) (w0:World) (s:S) (a:Act) (w:World):Prop:=
 ∃ I1 M1 w1 rs,Reb (GT G) I0 M w0 I1 M1 w1 rs/\(Gy tr=false->I1=I0/\M1=M/\w1=w0)/\SE G n I1 M1 w1 s a w
theorem SX.of (h:SE G n I0 M w0 s a w):SX G n tr I0 M w0 s a w:=⟨_,_,_,_,.refl,λ_=>⟨rfl,rfl,rfl⟩,h⟩
theorem SX.se (h:SX G n tr I0 M w0 s a w) (hr:Gy tr=false):SE G n I0 M w0 s a w:=by obtain⟨I1,M1,w1,rs,_,h1,h2⟩:=h;obtain⟨rfl,rfl,rfl⟩:=h1 hr;exact h2
theorem JE (hst:St G n I0 M w0 I β ob s a w) {f:FuncId} {vs:List Value} {all:List V} {ρ:List Nat} {cargs:List V} {b0:List (List V)} {R0:V->List (List V)->Prop} {R:Ending->World->Prop}
 (eG:FnE P G f cargs b0 R0) (dQ:ArgsL (Wr M w0) I β w vs all) (eE:all.map V.fz=cargs.map (V.ren (rho ρ s.nb))) (hρ:ρ.length=b0.length/\ρ.Nodup) (iT:rf s.bx s.nb (rho ρ s.nb) 0 b0)
 (hk:∀ r b1,R0 r b1->∀ v w' I' β' ob',St G n I0 M w0 I' β' ob' { s with bx:=fM (rho ρ s.nb) 0 b1 s.bx,nb:=s.nb+(b1.length - b0.length) } a w'->(∀ i b,β i=some b->β' i=some b)->R (.returned v) w') :
 Calls P f vs.toArray w R:=by
 obtain⟨hρl,hn⟩:=hρ;obtain⟨rK,yM,kg⟩:=eG.2.1;have hl:∀ i,i<ρ.length->ρ.getD i 0<s.nb:=λi hi=>by obtain⟨b,hb⟩:∃ b,b0[i]?=some b:=⟨_,ah (by omega)⟩;have:=(pT b0 0 i b iT hb).1;rw[aJ] at this;simpa[rho,hi] using this
 have qy:=xM hn hl;have cm:all.length=cargs.length:=by simpa using dM List.length eE
 refine (eG.2.2 I ⟨Mof β ob (rho ρ s.nb) b0.length,λ_=>none,[]⟩ w vs.toArray (me β (rho ρ s.nb) b0.length) (obC ob (rho ρ s.nb) b0.length) hst.ibnd hst.glob (hst.give qy iT yM)
  (by have:=dQ.1;simp;omega) (λj x hx=>?_)).mono ?_
 .have hj:j<cargs.length:=(ai.1 hx).1
  have hz:all[j]?=some all[j]:=ah (by omega);have h1:=dQ.2 j _ hz;have h2:all[j].fz=x.ren (rho ρ s.nb):=by have e1:(all.map V.fz)[j]?=some all[j].fz:=(by simp[hz]);have e2:(cargs.map (V.ren (rho ρ s.nb)))[j]?=some (x.ren (rho ρ s.nb)):=(by simp[hx]);rw[eE,e2] at e1;exact(eH e1).symm
  rw[h2] at h1;have h3:=h1.ren (β':=me β (rho ρ s.nb) b0.length) (rK x (aV hx)) (λi b hi hb=>by simp[me,hi,hb]);have h4:=h3.wider (base':=Wr ⟨Mof β ob (rho ρ s.nb) b0.length,λ_=>none,[]⟩ w) λb hb=>by cases hb
  simpa using h4
 .rintro e w' ⟨r,b1,hR,v,I',β',ob',o',rfl,u4,U4,Q1,wj,hβ1,Vi,oS,iD,tp⟩
  obtain⟨cN,_,_,_,_,lQ⟩:=hst.called hρl hn iT (kg r b1 hR) u4 U4 Q1 wj hβ1 Vi oS;exact hk r b1 hR v w' _ _ _ cN lQ
def VE.ex:VE->Exit
 | .normal=>.normal
 | .exit i=>.exit i
 | .ret=>.ret
theorem JF {f:Operand} {fv:V} {args:List V} {g:FuncId} {all:List V} (hc:gx fv args=some (g,all)) {ox:Option Nat} (hf:LR base I β w ox (a.eval f) fv) :
 ∃ vf vc:Array Value,a.eval f=.func (.func g) vf vc/\∀ us:List Value,ArgsL base I β w us args->ArgsL base I β w (vf.toList++us++vc.toList) all:=by
 unfold gx at hc;split at hc
 .rename_i g' fs cs
  simp only[ao,dJ] at hc;obtain⟨rfl,rfl⟩:=hc;obtain⟨vf,vc,hv,q1,q2,q3,q4⟩:=hf.toC.fn_inv;exact⟨vf,vc,hv,λus hu=>((u9 vf fs q1 q3).append hu).append (u9 vc cs q2 q4)⟩
 .rename_i g' fs cs
  simp only[ao,dJ] at hc;obtain⟨rfl,rfl⟩:=hc;simp only[LR] at hf;obtain⟨vf,vc,hv,q1,q2,q3,q4⟩:=hf;exact⟨vf,vc,hv,λus hu=>((va vf fs q1 q3).append hu).append (va vc cs q2 q4)⟩
 .cases hc
theorem RN {m:Nat} {f:Operand} {ps:Array Tmp} {assign body:Code} {q:VE->S->Prop} (hn:rgN tr=n) (hQ:∀ e s a w,q e s->SX G n tr I0 M w0 s a w->Q e.ex a w)
 (h:vrg P G tr f ps assign body q s) (dH:SX G n tr I0 M w0 s a w):(Code.rangeFunc f ps assign body).wpIn (FW none) m P Q a w:=by
 obtain⟨Q9,fl,lG,⟨g,all,tw⟩,h⟩:=h;obtain⟨I1,M1,w1,rs,tV,_,I,β,ob,hst⟩:=dH;have hA:=hst.allocOwn (Obj.deferred (some []));have tp:=hst.fresh (ab w.heap.size);have hre:=hA.rebase (r:=w.heap.size) tp.1 tp.2;have aoi:=tV.step hA (r:=w.heap.size) (.inl hst.below.size) (by rw[ec];omega) (λo ho=>by have:=hst.ibnd _ _ ho;omega) (gf w _);generalize hMd:(⟨λb=>Wr M1 w1 b/\b≠w.heap.size,M1.e,mkD w.heap.size::M1.d⟩:Mx)=M2 at *;have fnok:=tw;have h:ll P G { s with bx:=up s.bx s.nb [.lp (lp0 (rgN tr) ps assign body) fl],nb:=s.nb+1 } (ev G s f) [.yl s.nb] (λs' _=>IQ q s.nb s'):=by
  split at h
  .exact h
  .exact h.toR
 unfold ll at h;have aoj:gx (ev G s f) [.yl s.nb]=some (g,all):=tw;rw[aoj] at h;obtain⟨ρ,cargs,b0,R0,eG,eE,hρ,iT,hKR⟩:=h;obtain⟨fn,hf1,hf2,c,hf3⟩:=eG.1;refine wpIn_rangeFunc λfid _=>?_;have hB:=hre.newObj (o:=.loop { lp0 (rgN tr) ps assign body with fn:=fid,tmps:=a.tmps,defers:=w.heap.size }) (cs:=[.lp (lp0 (rgN tr) ps assign body) fl]) (cur:=#[.tuple a.tmps])
  ⟨fid,a.tmps,w.heap.size,⟨gf _ _,by rw[hst.size];exact hn.symm⟩,0,rfl⟩ (ab _) (λj=>by
   cases j with
   |zero=>
    show LR _ _ _ _ none (.tuple a.tmps) (.lp _ fl);simp only[LR];refine⟨a.tmps,rfl,λt x hx=>?_⟩;obtain⟨e1,e2⟩:=lG _ hx;simp only at e1 e2;rw[e1] at e2 ⊢
    exact(hre.fr t).toKR e2
   |succ j=>simp only[fx,List.getD_nil,LR];exact .un _)
 rw[ec] at hB;generalize hW2:(w.alloc (Obj.deferred (some []))).alloc (Obj.loop { lp0 (rgN tr) ps assign body with fn:=fid,tmps:=a.tmps,defers:=w.heap.size })=w2 at *
 generalize Vh:({ s with bx:=up s.bx s.nb [.lp (lp0 (rgN tr) ps assign body) fl],nb:=s.nb+1 }:S)=s1 at *
 generalize ha1:({ a with defers:=mkD w.heap.size::a.defers }:Act)=a1 at *
 have tM:ev G s1 f=ev G s f:=by rw[<- Vh];cases f<;>rfl
 have hae:a1.eval f=a.eval f:=by rw[<- ha1];cases f<;>rfl
 have hf:=bN hB f;rw[tM] at hf;obtain⟨vf,vc,hv,dQ⟩:=JF tw hf;rw[hae] at hv;have hyl:∀ β':Nat->Option Nat,β' s.nb=some (w.heap.size+1)->LR (Wr M2 (w.alloc (Obj.deferred (some [])))) I β' w2 none (.func (.yield (w.heap.size+1)) #[] #[]) (.yl s.nb):=λβ' hβ=>by simp only[LR];exact⟨_,hβ,rfl⟩
 have hus:=dQ [Value.func (.yield (w.heap.size+1)) #[] #[]] ⟨rfl,λj x hx=>by
  cases j with
  |zero=>simp at hx;subst hx;exact hyl _ (by rw[b9])
  |succ j=>simp at hx⟩
 have aqD:fn.name≠ "runtime.NumGoroutine" :=by simpa using hf2
 refine⟨w.heap.size+1,[mkD w.heap.size],w2,{ target:=.fn (.func g) vc,args:=vf++#[Value.func (.yield (w.heap.size+1)) #[] #[]] },w2,g,
  (vf.toList++[Value.func (.yield (w.heap.size+1)) #[] #[]]++vc.toList).toArray,w2,?_,?_,λ_ _=>trivial,?_,λh=>(by cases h),pV.2 ?_⟩
 .rw[<- hW2];exact run_enterLoop_outer _ _ _ _ _
 .simp only[resolve,hv]
  simp[go_sem]
 .have e:vf++#[Value.func (.yield (w.heap.size+1)) #[] #[]]++vc=(vf.toList++[Value.func (.yield (w.heap.size+1)) #[] #[]]++vc.toList).toArray:=by apply dF;simp
  rw[<- e];simp[invoke,callFunc,hf1,aqD,hf3]
 .refine JE hB eG hus eE hρ iT ?_
  intro r b1 hR0 v w3 I3 β3 ob3 zO lQ;have hK:=hKR r b1 hR0;have hb0:β3 s.nb=some (w.heap.size+1):=lQ _ _ (by rw[b9]);generalize IG:({ s1 with bx:=fM (rho ρ s1.nb) 0 b1 s1.bx,nb:=s1.nb+(b1.length - b0.length) }:S)=s2 at *
  unfold IQ at hK;split at hK
  .rename_i L fl' gs oS
   obtain⟨aom,bF,hK⟩:=hK;obtain⟨blk,cur,e1,e2,e3,e4,e5,e7⟩:=zO.bx s.nb bF;rw[hb0] at e1;cases e1;rw[oS] at e3 e4 e5;obtain⟨f3,tm,d3,⟨h3,fK⟩,mg,rfl⟩:∃ (f:FuncId) (tm:Array Value) (d:Nat),(w3.heap[w.heap.size+1]?=some (.loop { L with fn:=f,tmps:=tm,defers:=d })/\tm.size=L.defers)/\∃ m:Nat,cur=#[Value.tuple tm]++Array.replicate m undef:=e3
   obtain⟨L3,hL3⟩:∃ L3:Loop,L3={ L with fn:=f3,tmps:=tm,defers:=d3 }:=⟨_,rfl⟩
   rw[<- hL3] at h3;have hp3:L3.pending=L.pending:=(by rw[hL3]);have bO:(Instr.endLoop (w.heap.size+1)).run P w3=.ok L.pending (w3.putObj (w.heap.size+1) (.loop { L3 with state:=.exhausted })):=by rw[<- hp3];exact run_endLoop h3 (by rw[hL3];exact aom)
   have aqE:=zO.reBox (o:=.loop { L3 with state:=.exhausted }) (l:=.lp { L with state:=.exhausted } fl'::gs) (cur:=#[Value.tuple tm]++Array.replicate mg undef) (od:=λj=>ob3 (.b s.nb j)) bF hb0
    ⟨f3,tm,d3,⟨by rw[hL3];exact ov (bg.1 h3).1,fK⟩,mg,rfl⟩ e4 (λj=>by
     have:=e5 j;cases j with
     |zero=>exact this
     |succ j=>exact this) (λj b hb=>hb)
   have hsx:SX G n tr I0 M w0 { s2 with bx:=up s2.bx s.nb (.lp { L with state:=.exhausted } fl'::gs) } a1 (World.putObj w3 (w.heap.size+1) (.loop { L3 with state:=.exhausted })):=
    ⟨_,_,_,_,aoi,(λh=>by rw[Q9] at h;cases h),_,_,_,aqE⟩
   refine⟨L.pending,_,bO,?_⟩;have ha2:({ a with defers:=[mkD w.heap.size]++a.defers }:Act)=a1:=ha1
   rw[ha2];split at hK
   .rename_i hp;rw[hp];exact hQ .normal _ _ _ hK hsx
   .rename_i hp;rw[hp];exact wpIn_ret (hQ .ret _ _ _ hK hsx)
   .rename_i hp;rw[hp];exact wpIn_exit (hQ (.exit _) _ _ _ hK hsx)
   .exact hK.elim
  .exact hK.elim
end
section
variable {P:Program} {G:Gl} {tr:List Nat} {n:Nat} {I0:Ft} {M:Mx} {w0:World} {I:Ft} {β:Nat->Option Nat} {ob:Loc->Option Nat} {s:S} {a:Act} {w:World} {o:Oper}
 {Q:Exit->Act->World->Prop} {base:Nat->Prop} {v:Value} {x y:V}
def cok (n:Nat) (tr:List Nat):Code->Bool
 | .region id ops draw=>mQ n ops&&BM ops&&(if MW tr id then(if Ec tr id||Gz tr id then !draw else draw&&abJ tr id ops) else if ag6 tr id then Vw tr id&&draw&&PX tr ops else(!draw||Hj tr ops))
 | .seq a b=>cok n tr a&&cok n tr b
 | .cond _ a b=>cok n tr a&&cok n tr b
 | .block _ a=>cok n tr a
 | .loop a=>cok n tr a
 | .scope a=>cok n tr a
 | .rangeFunc _ _ _ _=>decide (rgN tr=n)
 |_=>true
theorem np {k0:Nat} {l:Option Nat} {m:Nat} (hm:P.follows .mixedOrders=true) (xn:∀ i b,M.e i=some b->i<k0) (hl:l=none∨Gy tr=false):∀ (c:Code) (hc:cok n tr c=true) (q:VE->S->Prop) (Q:Exit->Act->World->Prop) (_hQ:∀ e s a w,q e s->SX G n tr I0 M w0 s a w->Q e.ex a w) (s:S) (a:Act) (w:World),
 ia P G tr k0 c q s->SX G n tr I0 M w0 s a w->c.wpIn (FW l) m P Q a w:=by
 intro c;induction c with
 |skip=>intro _ q Q hQ s a w h dH;exact wpIn_skip (hQ .normal s a w h dH)
 |region id ops draw=>
  intro hc q Q hQ s a w h hsx;obtain⟨I1,M1,w1,rs,tV,lQ,dH⟩:=hsx;have xn:∀ i b,M1.e i=some b->i<k0:=by rw[tV.e];exact xn
  have hQ':∀ a w s,q .normal s->SE G n I1 M1 w1 s a w->Q .normal a w:=λa w s hk dH=>hQ .normal s a w hk ⟨I1,M1,w1,rs,tV,lQ,dH⟩;simp only[ia] at h;by_cases hpa:MW tr id=true
  .simp only[cok,hpa,cZ,aZ] at hc
   obtain⟨⟨hd,qA⟩,hc⟩:=hc;rw[if_pos hpa] at h;by_cases PD:Ec tr id=true
   .rw[if_pos (by rw[PD];rfl)] at hc
    have D4:draw=false:=(by simpa using hc);subst D4;exact Hu hd hQ' PD h dH
   .have PD:Ec tr id=false:=by simpa using PD
    by_cases Gs:Gz tr id=true
    .rw[if_pos (by rw[Gs,jX])] at hc
     have D4:draw=false:=(by simpa using hc);subst D4;exact Ht hd hQ' PD Gs h dH
    .have Gs:Gz tr id=false:=by simpa using Gs
     rw[if_neg (by rw[PD,Gs];decide),aZ] at hc;obtain⟨D4,h2⟩:=hc;subst D4;exact Hr hm qA hd h2 hQ' PD Gs h dH
  rw[if_neg hpa] at h;by_cases htw:ag6 tr id=true
  .simp only[cok,hpa,htw,cZ,aM,dp,aZ] at hc
   obtain⟨⟨hd,qA⟩,⟨hfz,D4⟩,h2⟩:=hc;rw[if_pos hfz] at h;obtain⟨s',kg,h⟩:=h;unfold vtw at h;rw[if_pos htw] at h;subst D4;exact Eo hm qA hd h2 hQ' h (dH.freeze xn kg)
  simp only[cok,hpa,htw,aM,dp,aZ,fm,ew] at hc;obtain⟨⟨hd,qA⟩,hc⟩:=hc;obtain⟨s,h,dH⟩:∃ s,ig P G tr ops ops.toList s (q .normal)/\SE G n I1 M1 w1 s a w:=by
   split at h
   .obtain⟨s',kg,h⟩:=h
    unfold vtw at h;rw[if_neg htw] at h;exact⟨s',h,dH.freeze xn kg⟩
   .exact RL hd h dH
  cases draw with
  |false=>refine wpIn_region ?_;have:=wG (Q:=Q) (l:=l) (m:=m) hd hQ' ops.toList 0 rfl s a w h dH;rw[eL];simpa using this
  |true=>exact Cb hm qA hd (hc.resolve_left (by simp)) hQ' h dH
 |seq x y ihx ihy=>
  intro hc q Q hQ s a w h dH;simp only[cok,aZ] at hc;simp only[ia] at h;refine wpIn_seq (ihx hc.1 _ _ (λe s a w hk dH=>?_) s a w h dH);cases e with
  |normal=>exact ihy hc.2 q Q hQ s a w hk dH
  |exit i=>exact hQ (.exit i) s a w hk dH
  |ret=>exact hQ .ret s a w hk dH
 |cond c x y ihx ihy=>
  intro hc q Q hQ s a w h dH;simp only[cok,aZ] at hc;simp only[ia] at h;split at h
  .rename_i p hp
   have D8:a.eval c=.bool p:=(by obtain⟨_,_,_,_,_,_,I,β,ob,hst⟩:=dH;have:=bN hst c;rw[hp] at this;exact this.lit);have af2:refine s c p=s:=by
    cases c with
    |tmp t=>simp only[refine];simp only[ev] at hp;exact S.up_id hp
    |_=>rfl
   refine wpIn_cond_split D8 (λht=>?_) (λhf=>?_)
   .have:=h.1 ht
    rw[ht] at af2;rw[af2] at this;exact ihx hc.1 q Q hQ s a w this dH
   .have:=h.2 hf
    rw[hf] at af2;rw[af2] at this;exact ihy hc.2 q Q hQ s a w this dH
  .exact h.elim
 |block id body ih=>
  intro hc q Q hQ s a w h dH;simp only[cok] at hc;simp only[ia] at h;refine wpIn_block (ih hc _ _ (λe s a w hk dH=>?_) s a w h dH);cases e with
  |normal=>exact hQ .normal s a w hk dH
  |exit i=>
   simp only[VE.ex,Exit.inBlock] at hk ⊢
   split
   .rename_i e;rw[if_pos e] at hk;exact hQ .normal s a w hk dH
   .rename_i e;rw[if_neg e] at hk;exact hQ (.exit i) s a w hk dH
  |ret=>exact hQ .ret s a w hk dH
 |loop body ih=>
  intro hc q Q hQ s a w h dH;simp only[cok] at hc;simp only[ia] at h;obtain⟨k,h⟩:=h;refine wpIn_loop_rounds k ?_;induction k generalizing s a w with
  |zero=>exact h.elim
  |succ k ihk=>
   simp only[A6] at h;obtain⟨s',kg,h⟩:=h;rw[roundsIn_succ];refine ih hc _ _ (λe s a w hk dH=>?_) s' a w h (by
    rcases kg with rfl | kg
    .exact dH
    .obtain⟨I1,M1,w1,rs,tV,lQ,dH⟩:=dH
     exact⟨I1,M1,w1,rs,tV,lQ,dH.weaken (by rw[tV.e];exact xn) kg⟩)
   cases e with
   |normal=>exact ihk s a w dH hk
   |exit i=>exact hQ (.exit i) s a w hk dH
   |ret=>exact hQ .ret s a w hk dH
 |exit id=>intro _ q Q hQ s a w h dH;exact wpIn_exit (hQ (.exit id) s a w h dH)
 |ret=>intro _ q Q hQ s a w h dH;exact wpIn_ret (hQ .ret s a w h dH)
 |label l=>intro _ q Q hQ s a w h dH;exact wpIn_label (hQ .normal s a w h dH)
 |scope body ih=>
  intro hc q Q hQ s a w h dH;simp only[cok] at hc;simp only[ia] at h;refine vI (ih hc _ _ (λe s a w hk dH=>?_) s a w h dH);cases e with
  |normal=>exact hQ .normal s a w hk dH
  |exit i=>exact hQ (.exit i) s a w hk dH
  |ret=>exact hQ .ret s a w hk dH
 |rangeFunc f ps assign body=>
  intro hc q Q hQ s a w h dH;simp only[cok,bI] at hc;simp only[ia] at h;have hl:l=none:=by
   rcases hl with hl | hl
   .exact hl
   .have:=h.1;rw[hl] at this;cases this
  subst hl;exact RN hc hQ h dH
 |_=>intro _ q Q hQ s a w h dH;exact h.elim
theorem SX.leaves {fn:Func} {R:Ending->World->Prop} (h:SX G n tr I0 M w0 s a w) (hd:M.d=[])
 (hR:∀ w' I' β' ob',St G n I0 M w0 I' β' ob' s { a with defers:=[] } w'->∃ v,(results fn a.tmps).run P w'=.ok v w'/\R (.returned v) w'):LeavesInM (FW none) 0 P fn a.tmps R a.defers .returning w:=by
 obtain⟨I1,M1,w1,rs,tV,_,I,β,ob,hst⟩:=h;have hbk:=hst.back tV;have hdf:a.defers=rs.map mkD:=by rw[hst.defers,tV.d,hd,bq]
 rw[hdf,hd] at *;refine E3 (a0:={ a with defers:=[] }) rs w tV.nd (λr hr=>?_) hbk (λw' h'=>hR w' _ _ _ h')
 obtain⟨q1,q2,q3,q4⟩:=tV.r r hr;obtain⟨h1,h2,h3,h4⟩:=Reb.notWr hst q1;exact⟨h1,h2,q2,λo ho=>by
  rcases hst.ihigh r o ho with h5 | h5
  .exact q3 o h5
  .exact q1 h5,(hst.below.block r h3 h4).trans q4⟩
def RO (P:Program) (s:S):ResultVar->(V->Prop)->Prop
 | .tmp t,K=>K (s.fr t)
 | .cell p T,K=>cO P T s (s.fr p) K
def Ns (z:Bool) (s:S) (x r:V):Prop:=if z then imm s x=some r else x=r
def E4 (z:Bool) (s:S) (x r:V):Prop:=if z then imm s x=some r else x.fz=r
def rT (P:Program) (z:Bool) (s:S) (r:V):List ResultVar->Prop
 |[.tmp t]=>Ns z s (s.fr t) r
 |[.cell p T]=>cO P T s (s.fr p) λu=>Ns z s u r
 |rs=>∃ ds,r=.tup ds/\ds.length=rs.length/\∀ (i:Nat) (R:ResultVar) (d:V),rs[i]?=some R->ds[i]?=some d->RO P s R λu=>E4 z s u d
def Ai (args:List V):S:=⟨λj=>args.getD j .un,λ_=>[],0⟩
theorem LR.ofDR (h:DR I w v x):LR base I β w none v x:=by
 cases h with
 |un=>simp only[LR];exact .un _
 |sk=>simp only[LR];exact .sk
 |c _ _ h=>exact .ofC h
 |agg vs cs h1 h2=>simp only[LR];exact .agg vs cs h1 h2
 |tup vs ds h1 h2=>simp only[LR];exact .tup vs ds h1 h2
theorem St.init {I:Ft} {w:World} {vs:Array Value} {args:List V} {m:Nat} (hI:∀ b o,I b o->b<w.heap.size) (hg:GOK G I w) (fK:vs.size=args.length) (ha:∀ j x,args[j]?=some x->DR I w (vs.getD j undef) x)
 (hm:m=(vs++Array.replicate (n - vs.size) undef).size):St G m I ⟨λ_=>False,λ_=>none,[]⟩ w I (λ_=>none) (λ_=>none) (Ai args) { tmps:=vs++Array.replicate (n - vs.size) undef,defers:=[] } w where
 size:=hm.symm
 defers:=rfl
 below:=BelowM.refl _ _
 kept:=λ_ _ _=>rfl
 ilow:=λ_ _ h=>h
 ihigh:=λ_ _ h=>.inl h
 ibnd:=hI
 fr:=λt=>by
  simp only[Ai];by_cases ht:t<args.length
  .have e1:args.getD t .un=args[t]:=by simp[List.getD,ht]
   have e2:(vs++Array.replicate (n - vs.size) undef).getD t undef=vs.getD t undef:=(by rw[ak,fb (by omega),<- ak]);rw[e1,e2];exact .ofDR (ha t _ (ah ht))
  .have e1:args.getD t .un=.un:=by simp[List.getD,bG (ep ht)]
   rw[e1];simp only[LR];exact .un _
 bx:=λi hi=>by simp[Ai] at hi
 bnone:=λ_ _=>rfl
 ext:=λ_ _ h=>by cases h
 bnew:=λ_ _ h=>by cases h
 binj:=λ_ _ _ h=>by cases h
 oinj:=λ_ _ _ h=>by cases h
 obx:=λ_ _ _ h=>by cases h
 obnd:=λ_ _ h=>by cases h
 glob:=hg
def V.out:V->Bool
 | .bp _ _ | .clo _ _ _ | .ms _ _ _ _ _ | .mag _ | .mr _ | .it _ _ _ _ | .gh _ _ _ | .gg _ _ _ | .yl _ | .lp _ _ | .bm _ _ _=>false
 |_=>true
theorem LR.leave {ox:Option Nat} (h:LR base I β w ox v x) (hx:x.out=true) {β':Nat->Option Nat}:LR base I β' w ox v x:=by
 cases x<;>simp only[V.out] at hx<;>try cases hx
 all_goals simp only[LR] at h ⊢;exact h
def V.comp:V->Bool
 | .c _ | .agg _=>true
 |_=>false
def V.compT:V->Bool
 | .tup ds=>ds.all V.comp
 |_=>true
def E5 (a:Act):ResultVar->Sem Value
 | .tmp t=>pure (a.tmps.getD t undef)
 | .cell p t=>do loadVar t (<- asAddr (a.tmps.getD p undef))
theorem Nu (fn:Func) (a:Act):results fn a.tmps=(do let vs <- fn.results.mapM (E5 a);pure (if h:vs.size=1 then vs[0] else .tuple vs)):=by unfold results;congr 1
theorem abK (hst:St G n I0 M w0 I β ob s a w) {R:ResultVar} {K:V->Prop} (h:RO P s R K):∃ x u o',K x/\LR (Wr M w0) I β w o' u x/\(∀ b,o'=some b->Wr M w0 b/\b<w.heap.size)/\
 (E5 a R).run P w=.ok u w:=by
 cases R with
 |tmp t=>exact⟨_,_,_,h,hst.fr t,λb hb=>⟨(hst.obnd _ b hb).2,(hst.obnd _ b hb).1⟩,rfl⟩
 |cell p T=>
  obtain⟨z,u,hz,iD,bO⟩:=ua (x:=s.fr p) hst h (hst.fr p);refine⟨z,u,none,hz,iD,λb hb=>(by cases hb),?_⟩;unfold Instr.loadAt at bO;show(do loadVar T (<- asAddr (a.tmps.getD p undef)):Sem Value).run P w=.ok u w
  generalize a.tmps.getD p undef=pv at bO ⊢
  cases pv<;>first | (simp[Instr.sureAddr,stuck,Sem.run] at bO;done) | skip
  rename_i ad;cases ad with
  |none=>simp[Instr.sureAddr,stuck,Sem.run] at bO
  |some ad=>simpa[Instr.sureAddr,asAddr] using bO
theorem Aj (hst:St G n I0 M w0 I β ob s a w) {Ic:Ft} {z:Bool} (hz:z=false->Ic=I) (tN:∀ b o,I b o->Ic b o) (hb:z=true->∀ i b o,β i=some b->Ic b o) :
 ∀ (rs:List ResultVar) (ds:List V),ds.length=rs.length->(∀ (i:Nat) (R:ResultVar) (d:V),rs[i]?=some R->ds[i]?=some d->RO P s R λu=>E4 z s u d)->
 ∃ vs:List Value,vs.length=ds.length/\(∀ (i:Nat) (d:V),ds[i]?=some d->LR (Wr M w0) Ic β w none (vs.getD i undef) d)/\
  (rs.mapM (E5 a)).run P w=.ok vs w
 |[],[],_,_=>⟨[],rfl,by simp,rfl⟩
 |R::rs,d::ds,hl,h=>by
  obtain⟨vs,h1,h2,h3⟩:=Aj hst hz tN hb rs ds (by simpa using hl) (λi R' d' hR hd=>h (i+1) R' d' (by simpa using hR) (by simpa using hd));obtain⟨x,u,o',hx,iD,_,bO⟩:=abK hst (h 0 R d rfl rfl);refine⟨u::vs,by simp[h1],λi d' qI=>?_,?_⟩
  .cases i with
   |zero=>
    simp at qI;subst qI;cases z with
    |false=>rw[hz rfl];simp only[E4,aM,dp] at hx;rw[<- hx];exact iD.fz none
    |true=>simp only[E4,cZ] at hx;exact .ofDR (BD hst iD hx tN (λ_=>hb rfl))
   |succ i=>simpa using h2 i d' (by simpa using qI)
  .rw[fk]
   simp only[aK,bO,aw,h3,bh]
 |[],_::_,hl,_=>by simp at hl
 |_::_,[],hl,_=>by simp at hl
theorem wL {fn:Func} (hst:St G n I0 M w0 I β ob s a w) {r:V} (oV:r.compT=true) {Ic:Ft} {z:Bool} (hz:z=false->Ic=I) (tN:∀ b o,I b o->Ic b o)
 (hb:z=true->∀ i b o,β i=some b->Ic b o) (dq:rT P z s r fn.results.toList) :
 ∃ v o',(results fn a.tmps).run P w=.ok v w/\LR (Wr M w0) Ic β w o' v r/\∀ b,o'=some b->∃ t,ob (.t t)=some b:=by
 unfold rT at dq;rw[Nu,Array.mapM_eq_mapM_toList];split at dq
 .rename_i t PE
  rw[PE];cases z with
  |false=>simp only[Ns,aM,dp] at dq;refine⟨a.tmps.getD t undef,ob (.t t),by simp[E5],?_,λb hb=>⟨_,hb⟩⟩;rw[<- dq,hz rfl];exact hst.fr t
  |true=>simp only[Ns,cZ] at dq;exact⟨a.tmps.getD t undef,none,by simp[E5],.ofDR (BD hst (hst.fr t) dq tN (λ_=>hb rfl)),λb hb=>by cases hb⟩
 .rename_i p T PE
  rw[PE];obtain⟨x,u,hx,iD,bO⟩:=ua (x:=s.fr p) hst dq (hst.fr p);have aol:(E5 a (.cell p T)).run P w=.ok u w:=by
   unfold Instr.loadAt at bO;show(do loadVar T (<- asAddr (a.tmps.getD p undef)):Sem Value).run P w=.ok u w
   generalize a.tmps.getD p undef=pv at bO ⊢
   cases pv<;>first | (simp[Instr.sureAddr,stuck,Sem.run] at bO;done) | skip
   rename_i ad;cases ad with
   |none=>simp[Instr.sureAddr,stuck,Sem.run] at bO
   |some ad=>simpa[Instr.sureAddr,asAddr] using bO
  refine⟨u,none,by simp[fk,aol],?_,λb hb=>by cases hb⟩;cases z with
  |false=>simp only[Ns,aM,dp] at hx;subst hx;rw[hz rfl];exact iD
  |true=>simp only[Ns,cZ] at hx;exact .ofDR (BD hst iD hx tN (λ_=>hb rfl))
 .rename_i n1 n2
  obtain⟨ds,rfl,hl,eE⟩:=dq;obtain⟨vs',h1,h2,h3⟩:=Aj hst hz tN hb fn.results.toList ds hl eE;have gZ:vs'.length≠1:=λh=>by
   have:fn.results.toList.length=1:=(by omega);obtain⟨R,hR⟩:=gB.1 this;cases R with
   |tmp t=>exact n1 t hR
   |cell p T=>exact n2 p T hR
  refine⟨.tuple vs'.toArray,none,?_,?_,λb hb=>by cases hb⟩
  .simp[h3,gZ]
  .simp only[LR]
   refine .tup _ _ (by simpa using h1) λj d hd=>?_;have h4:=h2 j d hd;have h5:=a8.1 oV d (aV hd);have e1:vs'.toArray.getD j undef=vs'.getD j undef:=(by simp[List.getD]);rw[e1];cases d<;>simp only[V.comp] at h5<;>try cases h5
   all_goals simp only[LR] at h4;exact h4
theorem VZ {f:FuncId} {k0:Nat} {fn:Func} {c:Code} {args:List V} {r:V} (z:Bool) (tr:List Nat) (hm:P.follows .mixedOrders=true) (hf:P.funcs[f]?=some fn) (hb:fn.body=some c) (nC:(fn.name== "runtime.NumGoroutine")=false)
 (hn:args.length<=fn.ntmps) (vQ:cok fn.ntmps tr c=true)
 (hr:r.out=true) (oV:r.compT=true)
 (h:ia P G tr k0 c (λe s=>(match e with | .exit _=>False | _=>True)/\rT P z s r fn.results.toList) (Ai args)):FnOK P G f args r:=by
 refine⟨⟨fn,hf,nC,c,hb⟩,λI w vs hI hg fK ha=>?_⟩;have jJ:fn.ntmps=(vs++Array.replicate (fn.ntmps - vs.size) undef).size:=by simp;omega
 have hst:=St.init (n:=fn.ntmps) hI hg fK ha jJ;refine pV.1 (callsIn_of_wp_marks (F:=FW none) (n:=0) hf hb trivial (np (l:=none) hm (λ_ _ h=>by cases h) (.inl rfl) c vQ _ _ (λe s a w' hq dH=>?_) _ _ _ h (.of ⟨_,_,_,hst⟩)));obtain⟨hex,dq⟩:=hq;have zN:∀ b,Wr ⟨λ_=>False,λ_=>none,[]⟩ w b->w.heap.size<=b:=λb hb=>by rcases hb with hb | hb;exact hb;exact hb.elim
 have main:LeavesInM (FW none) 0 P fn a.tmps (λe w'=>∃ v' I'',e=.returned v'/\World.grt (GT G) w w' none/\(∀ b o,I b o->I'' b o)/\
  (∀ b o,I'' b o->I b o∨(w.heap.size<=b/\b<w'.heap.size))/\alX (λb=>w.heap.size<=b) I'' w' v' r) a.defers .returning w':=by
  refine dH.leaves rfl λw' I' β ob cN=>?_;obtain⟨v,o',h1,h2,h3⟩:=wL (P:=P) (fn:=fn) cN oV (Ic:=λb o=>I' b o∨(z=true/\∃ i,β i=some b)) (λhz=>by subst hz;simp) (λ_ _ h=>.inl h) (λhz i b o hi=>.inr ⟨hz,i,hi⟩) dq;refine⟨v,h1,v,(λb o=>I' b o∨(z=true/\∃ i,β i=some b)),rfl,⟨cN.below.os,cN.below.tape,cN.below.output,cN.below.size,λk hk _=>cN.below.block k hk (λe=>e.elim),cN.below.drawn⟩,λb o h=>.inl (cN.ilow b o h),λb o Gt=>?_,o',?_,λb hb=>?_⟩
  .rcases Gt with Gt | ⟨_,i,hi⟩
   .rcases cN.ihigh b o Gt with h4 | h4
    .exact .inl h4
    .exact .inr ⟨zN b h4,cN.ibnd b o Gt⟩
   .obtain⟨_,h5,h6⟩:=cN.boxblk hi
    exact .inr ⟨zN b h5,h6⟩
  .have nD:=h2.leave hr (β':=λ_=>none)
   have e:Wr ⟨λ_=>False,λ_=>none,[]⟩ w=λb=>w.heap.size<=b:=(by funext b;simp[Wr]);rw[e] at nD;exact nD
  .obtain⟨L,hL⟩:=h3 b hb
   obtain⟨h4,h5⟩:=cN.obnd _ b hL;exact⟨zN b h5,h4⟩
 cases e with
 |normal=>exact main
 |exit i=>exact hex.elim
 |ret=>exact main
theorem abL {f:FuncId} {fn:Func} {c:Code} {args:List V} {r:V} (z:Bool) (tr:List Nat) (hm:P.follows .mixedOrders=true) (hf:P.funcs[f]?=some fn) (hb:fn.body=some c) (nC:(fn.name== "runtime.NumGoroutine")=false)
 (hn:args.length<=fn.ntmps) (vQ:cok fn.ntmps tr c=true)
 (hr:r.out=true) (oV:r.compT=true)
 (h:vwp P G tr c (λe s=>(match e with | .exit _=>False | _=>True)/\rT P z s r fn.results.toList) (Ai args)):FnOK P G f args r:=VZ z tr hm hf hb nC hn vQ hr oV h
