/- Values without memory: objects that are known by their exact pointers; their owners are ghosts in boxes' cells. -/
import Derived.Test.YtloppcgcepgbnaaGreatDoorVlCode
import Derived.Test.YtloppcgcepgbnaaGreatDoorVlDraw
import Derived.Scope
set_option linter.all false
namespace Go.Vl
open Go Go.RowKit
section
variable {P:Program} {G:Gl} {tr:List Nat} {n:Nat} {I0:Ft} {M:Mx} {w0:World} {I:Ft} {β:Nat->Option Nat} {ob:Loc->Option Nat} {s:S} {a:Act} {w:World} {o:Oper}
 {next:Act->World->Prop} {Q:Exit->Act->World->Prop} {base:Nat->Prop} {v:Value} {x y:V}
theorem Vr (w:World) (o:Obj):(w.alloc o).heap[w.heap.size]?=some o:=Array.getElem?_push_size
theorem Q9 {T:TypeId} {i:TI} {blk q e sz cap:Nat} {cur:Array Value} {es:List (List C)} {K:V->Prop} (hi:ti P T=some i) (g1:w.heap[blk]?=some (.cells cur e (0,0))) (g2:cur.size=cap*sz) (g4:es.length<=cap) (g3:∀ x∈es,x.length=sz)
 (g5:∀ j c,es.flatten[j]?=some c->CR I w (cur.getD j undef) c) (h:dI i.agg i.size q es.flatten K) :
 ∃ z u,K z/\LR (Wr M w0) I β w none u z/\(Instr.loadAt T (.pointer (some ⟨blk,q,none⟩))).run P w=.ok u w:=by
 obtain⟨j,d,h1,h2,_,fO,_,kJ,_⟩:=bH hi;simp only[Instr.loadAt,Instr.sureAddr,aK,bg,aw];have lu:=bN es g3;have ko:=aO sz g4;have jf:Cells I w (cur.extract 0 es.flatten.length) es.flatten:=by
  refine⟨by rw[iw];omega,λj c hj=>?_⟩;have F7:=(aj.1 hj).1;have e0:(cur.extract 0 es.flatten.length).getD j undef=cur.getD j undef:=by rw[ak,ak,dC];rw[if_pos (by omega),aF]
  rw[e0];exact g5 j c hj
 obtain⟨z,v,hz,iD,hv⟩:=oh (base:=Wr M w0) (β:=β) h jf;have tG:(cur.extract 0 es.flatten.length).size=es.flatten.length:=jf.1;refine⟨z,v,hz,iD,?_⟩;have eU:=λq=>fj w blk q cur e (0,0) g1;have hL:es.flatten.length<=cur.size:=by omega
 clear jf lu;generalize es.flatten.length=L at hv tG hL;rcases hv with⟨h3,h4,rfl⟩ | ⟨h3,h4⟩
 .rw[tG] at h4
  rw[jS T d h2 blk q (λp=>cur.getD (q+p) undef) i.size (by rw[fO,ey h1]) (λp hp=>by rw[eU];simp[ax (show q+p<cur.size by omega)]) (λhz=>by rw[<- kJ,h3] at hz;cases hz),<- kJ,h3];simp only[cZ];congr 2;apply dB;apply fY;intro p;rw[aQ,aQ,dC,dC];by_cases hp:p<i.size
  .rw[if_pos (by rw[iw];omega),if_pos (by omega)]
   simp[hp,show q+p<cur.size from by omega]
  .rw[if_neg (by rw[iw];omega)]
   simp[hp]
 .have ho:=(bf.1 h4).1
  rw[tG] at ho;have OK:cur[q]?=some v:=by rw[<- h4,dC,if_pos (by omega),aF]
  unfold loadVar;have yE:dh P T=false:=by rw[<- kJ];exact h3
  simp[lU T d h2,yE,eU,OK]
theorem Ha {T:TypeId} {X:Operand} {K:V->Prop} (hst:St G n I0 M w0 I β ob s a w) (h:wa P s T (ev G s X) K) :
 ∃ z u,K z/\LR (Wr M w0) I β w none u z/\(Instr.loadAt T (a.eval X)).run P w=.ok u w:=by
 unfold wa at h;split at h
 .rename_i i blk q hi hx
  have OR:=bP hst X;rw[hx] at OR;have hpe:=OR.toC.ex_inv;obtain⟨b,k,len,cap,e,sz,es,⟨hb,hk⟩,h⟩:=h;obtain⟨cur,⟨g1,g2,g3,g4,g5,g6,g7⟩,_⟩:=hst.ggSet hb hk;rw[hpe];exact Q9 hi g2 g3 g4 g5 g6 h
 .exact h.elim
theorem He {T:TypeId} {p X:Operand} {K:(Nat->List V)->Prop} (hst:St G n I0 M w0 I β ob s a w) (h:By P s T (ev G s p) (ev G s X) K) :
 ∃ bx w',K bx/\(Instr.storeAt T (a.eval p) (a.eval X)).run P w=.ok () w'/\St G n I0 M w0 I β ob { s with bx:=bx } a w':=by
 unfold By at h;split at h
 .rename_i i blk j cs hi hp jf
  obtain⟨b,k,len,cap,E,sz,row,⟨hb,hk,j4,hjr⟩,h⟩:=h;obtain⟨j',d,Gg,LL,_,fO,_,kJ,_⟩:=bH hi;have OR:=bP hst p;rw[hp] at OR;have hpe:=OR.toC.ex_inv;have qT:=IL (bP hst X) jf;obtain⟨cur,⟨g1,g2,g3,g4,g5,g6,g7⟩,qm⟩:=hst.ggSet hb hk;have zD:row.length=sz:=g5 row (by simp);have AY:(a.eval X).cells.toList.length=i.size:=by rw[b8,qT.1,j4]
  have OS:cur.toList.length=cur.size:=b8;have ko:sz<=cur.size:=by have:=aO sz g4;simp only[bz,nf] at this;omega
  have LM:RelL I w (a.eval X).cells.toList cs:=λq c hq=>by have:=qT.2 q c hq;have nC:q<(a.eval X).cells.size:=(by rw[qT.1];exact(aj.1 hq).1);refine⟨(a.eval X).cells[q],by rw[aQ,ax nC],?_⟩;rw[ak,ax nC] at this;exact this
  have LN:∀ u∈(a.eval X).cells.toList,u.oneCell'=true:=λu hu=>by obtain⟨q,hq⟩:=eA.1 hu;have nC:q<cs.length:=(by rw[j4,<- AY];exact(aj.1 hq).1);obtain⟨u',Bn,jq⟩:=LM q _ (ai nC);rw[hq] at Bn;cases Bn;exact jq.oneCell
  have lu:([row]:List (List C)).flatten=row:=by simp
  have tq:RelL I w cur.toList row:=λq c hq=>by have nC:=(aj.1 hq).1;refine⟨cur.getD q undef,?_,g6 q c (by rw[lu];exact hq)⟩;rw[aQ,ak,ax (show q<cur.size by omega)];rfl
  have bM:(Instr.storeAt T (a.eval p) (a.eval X)).run P w=.ok () (w.setRow blk (cur.toList.take j++(a.eval X).cells.toList++cur.toList.drop (j+i.size)).toArray):=by rw[hpe];simp only[Instr.storeAt,Instr.sureAddr,aK,bg,aw];unfold storeVar;simp only[aK,fc w Gg,aw];rw[if_neg (by rw[ey Gg,<- fO,qT.1,j4];simp)];have:=gr (P:=P) blk j (.of E) (a.eval X).cells.toList 0 cur w g2 RT.of_ok (by rw[AY];omega) LN;rw[AY] at this;simpa using this
  have n0:=qm [row.take j++cs++row.drop (j+cs.length)] (cur.toList.take j++(a.eval X).cells.toList++cur.toList.drop (j+i.size)) (by simp) (λx hx=>by
   rw[aX] at hx;subst hx;rw[ae,ae,aN,cw,bS (by omega)];omega)
   (by rw[ae,ae,AY,aN,cw,OS,bS (by omega)];omega)
   (λu hu=>by
    rcases ba.1 hu with hu | hu
    .rcases ba.1 hu with hu | hu
     .exact g7 u (cy.1 (dp hu))
     .exact LN u hu
    .exact g7 u (cy.1 (cQ hu)))
   (by
    rw[show([row.take j++cs++row.drop (j+cs.length)]:List (List C)).flatten=row.take j++cs++row.drop (j+cs.length) by simp,j4];refine RelL.append (RelL.append (tq.take _) LM ?_) (tq.drop _) ?_
    .rw[aN,aN,OS,bS (by omega),bS (by omega)]
    .rw[ae,ae,AY,j4,aN,aN,OS,bS (by omega),bS (by omega)])
  exact⟨_,_,h,bM,n0⟩
 .exact h.elim
theorem Eo {T:TypeId} {X:Operand} {K:S->Prop} (hst:St G n I0 M w0 I β ob s a w) (cz:o.op=.box T X) (hd:∀ d,o.dst=some d->d<n) (h:xp P s o.dst T (ev G s X) K)
 (hk:∀ a' w' s',K s'->SE G n I0 M w0 s' a' w'->next a' w'):o.wp P a w next Q:=by
 unfold xp at h;split at h
 .rename_i i cs hi jf
  obtain⟨b,k,y,⟨j4,wX,hb,ZT,UD⟩,h⟩:=h;obtain⟨j',d,Gg,LL,_,fO,_,kJ,_⟩:=bH hi;have qT:=IL (bP hst X) jf;have hs:=hst.allocOwn (.cells (a.eval X).cells T);have sO:=hst.fresh (ab _);have hI:∀ b k,I b k->I b k/\(w.alloc (.cells (a.eval X).cells T)).cell? ⟨b,k,none⟩=w.cell? ⟨b,k,none⟩:=λb k hb=>⟨hb,dP (a:=⟨b,k,none⟩) (ee w _ b (hst.ibnd b k hb))⟩;have kg:∀ u∈(a.eval X).cells,u.oneCell'=true:=λu hu=>by obtain⟨q,hq,rfl⟩:=fC.1 hu;have nC:q<cs.length:=(by rw[<- qT.1];exact hq);have:=qT.2 q _ (ai nC);rw[ak,ax hq] at this;exact CR.oneCell this
  have gk:OwnG (Wr M w0) I (w.alloc (.cells (a.eval X).cells T)) (some (T,i.size)) [cs] (some w.heap.size) (.slice (some ⟨w.heap.size,0,none⟩) 1 1):=by
   refine .inr ⟨T,w.heap.size,1,(a.eval X).cells,i.size,rfl,rfl,rfl,.inl hst.below.size,Vr w _,ab _,by decide,by rw[qT.1,j4,nf],λx hx=>by rw[aX] at hx;subst hx;exact j4,λj c hj=>?_,kg,λq hq=>?_⟩
   .have hj:cs[j]?=some c:=by simpa using hj
    exact(qT.2 j c hj).mono hI
   .have:=hst.ibnd _ _ hq;omega
  have g1:=hs.giveAny (b:=b) (k:=k) (x':=.gg (.slice (some ⟨w.heap.size,0,none⟩) 1 1) (some (T,i.size)) [cs]) (o':=some w.heap.size) hb ZT UD rfl (λc hc=>by cases hc;refine⟨⟨by rw[en];omega,.inl hst.below.size⟩,λL hL=>sO.1 L hL,λi hi=>sO.2 i hi⟩) (λv=>by simp only[LR];exact gk);refine eE (v':=.pointer (some ⟨w.heap.size,0,none⟩)) (w':=w.alloc (.cells (a.eval X).cells T)) ?_ (hk _ _ _ (h w.heap.size) (SE.put g1 hd (.ofC (.ex _ rfl rfl))));obtain⟨dst,op,type,pos,after,guard⟩:=o;simp only at cz;subst cz;simp[execOp,Instr.box,newVar,newRow]
 .exact h.elim
theorem Hf {T:TypeId} {k:V} {K:S->V->Prop} {vx vk:Value} {ox oy:Option Nat} (hst:St G n I0 M w0 I β ob s a w) (h:MF P T s x k K)
 (hx:LR (Wr M w0) I β w ox vx x) (hy:LR (Wr M w0) I β w oy vk k) :
 ∃ s' ob' w' z u,K s' z/\(Instr.mapEntry T vx vk).run P w=.ok u w'/\St G n I0 M w0 I β ob' s' a w'/\LR (Wr M w0) I β w' none u z:=by
 obtain⟨kt0,et0,⟨hu0,hz0⟩,h⟩:=h;obtain⟨i,bs,cl,r,res,z0,blk,kt,et,es,zv,hK,rfl,rfl,hm,hu,vJ,ED,vI,ZL,Uw⟩:=pf hst h hx hy;rw[hu0] at hu;simp only[ao,TypeDesc.map.injEq] at hu;obtain⟨rfl,rfl⟩:=hu;have tg:zv=.slice none 0 0:=by have:=hz0 w;rw[ZL] at this;injection this
 have hg:=fq (P:=P) hm.heap;have hI:∀ (o':Obj) b o,I b o->I b o/\(World.putObj w blk o').cell? ⟨b,o,none⟩=w.cell? ⟨b,o,none⟩:=λo' b o hb=>
  ⟨hb,hst.keeps (pj blk o') (λr e o ho=>by cases e;exact absurd ho (hm.fr o)) b o hb⟩
 have aly:LR (Wr M w0) I β w none zv nilC:=by rw[tg];exact .ofC (.ex _ rfl rfl)
 cases res with
 |some j=>
  obtain⟨e,he,Iu,LP⟩:=vI j rfl;simp only[cT,he,cV] at ED;obtain⟨l1,l2⟩:=hm.ent j e he;have he':es[j]?=some e:=by rw[<- aQ];exact he
  have hbj:bs.getD j 0=e.born:=by rw[<- hm.born];simp[List.getD,he]
  have oJ:up s.bx i (V.mk bs cl::r)=s.bx:=by rw[<- hm.bx];exact rZ _ _
  have cO:∃ ob',St G n I0 M w0 I β ob' s a (World.putObj w blk (.map (es.modify j λe=>{ e with key:=vk }) cl)):=by
   have qk:∀ q,(es.modify j λe=>{ e with key:=vk }).toList[q]?=es.toList[q]?:=λq=>by
    rw[Array.toList_modify,List.getElem?_modify];by_cases hq:j=q
    .subst hq;rw[he,<- Iu];simp
    .cases es.toList[q]?<;>simp[hq]
   have hl:(es.modify j λe=>{ e with key:=vk })=es:=dB (fY qk)
   rw[hl];obtain⟨ob',h'⟩:=hst.reMap hm (es':=es) (bs':=bs) (cl':=cl) (r':=r) (od:=λq=>ob (.b i q)) hm.born hm.len (λ_ _ h=>h) hm.ent;rw[oJ] at h';exact⟨ob',h'⟩
  obtain⟨ob',cO⟩:=cO;refine⟨s,ob',_,_,.tuple #[e.val,.int .i64 e.born],hK,?_,cO,?_⟩
  .simp[Instr.mapEntry,aR hu0,hg,vJ,ED,he',LP,fP _ hm.heap,Result.andThen,World.putObj,goInt]
  .simp only[LR]
   rw[hbj];exact(aaq (vN l2) (.c _ _ (.lit _ rfl))).mono (hI _)
 |none=>
  simp only[kZ] at ED;obtain⟨ob',cO⟩:=wj hst hm (hy.fz none) aly;refine⟨_,ob',_,_,.tuple #[zv,.int .i64 cl],hK,?_,cO,?_⟩
  .simp[Instr.mapEntry,aR hu0,hg,vJ,ED,ZL,fP _ hm.heap,Result.andThen,World.putObj,goInt]
  .simp only[LR]
   exact(aaq (vN aly) (.c _ _ (.lit _ rfl))).mono (hI _)
theorem M5 {K:S->Prop} (hst:St G n I0 M w0 I β ob s a w) (hd:∀ d,o.dst=some d->d<n) (h:vt P G o s K)
 (hk:∀ a' w' s',K s'->SE G n I0 M w0 s' a' w'->next a' w'):o.wp P a w next Q:=by
 unfold vt at h;split at h
 .rename_i T X cz
  exact Eo hst cz hd h hk
 .rename_i T X cz
  obtain⟨z,u,hK,iD,bM⟩:=Ha hst h;refine eE (v':=u) (w':=w) ?_ (hk _ _ _ hK (SE.put hst hd iD));obtain⟨dst,op,type,pos,after,guard⟩:=o;simp only at cz;subst cz;simp only[execOp,aK,bM,aw,bg]
 .rename_i T p X cz
  obtain⟨bx,w',hK,bM,cO⟩:=He hst h;unfold Oper.wp;obtain⟨dst,op,type,pos,after,guard⟩:=o;simp only at cz;subst cz;simp only[execOp,aK,bM,aw,bg,Oper.upon];exact hk _ _ _ hK (SE.put (v:=undef) (x:=.sk) cO hd (by simp only[LR];exact .sk))
 .rename_i T m k cz
  obtain⟨s',ob',w',z,u,hK,bM,cO,iD⟩:=Hf hst h (bP hst m) (bP hst k);refine eE (v':=u) (w':=w') ?_ (hk _ _ _ hK (SE.put cO hd iD));obtain⟨dst,op,type,pos,after,guard⟩:=o;simp only at cz;subst cz;simp only[execOp,aK,bM,aw,bg]
 .exact h.elim
theorem aay {K:S->Prop} (h:vt P G o s K):∀ c,o.op≠.defer c:=λc hc=>by unfold vt at h;rw[hc] at h;exact h
end
section
variable {P:Program} {G:Gl} {tr:List Nat} {n:Nat} {I0:Ft} {M:Mx} {w0:World} {I:Ft} {β:Nat->Option Nat} {ob:Loc->Option Nat} {s:S} {a:Act} {w:World} {o:Oper}
 {Q:Exit->Act->World->Prop} {base:Nat->Prop} {v:Value} {x y:V}
theorem St.split (h:St G n I0 M w0 I β ob s a w) {b k q:Nat} {E:Option (TypeId×Nat)} {es:List (List C)} (hb:b<s.nb) (hk:(s.bx b)[k]?=some (.ow E es)) (hq:q<n):∃ v,SE G n I0 M w0 (s.split b k q v E es) a w:=by
 obtain⟨blk,cur,e1,e2,e3,e4,e5,e7⟩:=h.bx b hb;have ql:k<(s.bx b).length:=(aj.1 hk).1;have eU:(s.bx b).getD k .un=.ow E es:=by simp[List.getD,hk]
 have gk:=e5 k;rw[eU] at gk;simp only[LR] at gk;have Qn:∃ x y z,cur.getD k undef=.slice x y z:=by
  rcases gk.1.sl_inv with⟨⟨x,y,h1,_⟩,_⟩ | ⟨x,y,z,_,_,h1,_⟩
  .exact⟨_,_,_,h1⟩
  .exact⟨_,_,_,h1⟩
 obtain⟨x,y,z,Qn⟩:=Qn;have hex:CR I w (cur.getD k undef) (.ex (cur.getD k undef)):=by rw[Qn];exact .ex _ rfl rfl
 have gx:∀ L c,upL ob (.b b k) none L=some c->L≠.b b k/\ob L=some c:=λL c hL=>by
  simp only[upL] at hL;split at hL
  .cases hL
  .rename_i gY;exact⟨gY,hL⟩
 have h1:St G n I0 M w0 I β (upL ob (.b b k) none) { s with bx:=up s.bx b ((s.bx b).set k (.c (.ex (cur.getD k undef)))) } a w:={
  size:=h.size,defers:=h.defers,below:=h.below,ilow:=h.ilow,kept:=h.kept,ihigh:=h.ihigh,ibnd:=h.ibnd
  fr:=λt=>by have:=h.fr t;have e:upL ob (.b b k) none (.t t)=ob (.t t):=(by simp[upL]);rw[e];exact this
  bx:=λi hi=>by
   by_cases qo:i=b
   .subst qo
    refine⟨blk,cur,e1,e2,?_,by simp only[cg,gd];exact e4,λj=>?_,e7⟩
    .simp only[cg]
     refine e3.congr (by simp) ?_;unfold qU;by_cases xd:k=0
     .subst xd
      have:((s.bx i).set 0 (.c (.ex (cur.getD 0 undef)))).getD 0 .un=.c (.ex (cur.getD 0 undef)):=(by simp[List.getD,ql]);rw[this,eU]
     .have:((s.bx i).set k (.c (.ex (cur.getD k undef)))).getD 0 .un=(s.bx i).getD 0 .un:=by simp[List.getD,cX xd]
      rw[this]
    .simp only[cg]
     by_cases hjk:j=k
     .subst hjk
      have:((s.bx i).set j (.c (.ex (cur.getD j undef)))).getD j .un=.c (.ex (cur.getD j undef)):=(by simp[List.getD,ql]);rw[this];have e:upL ob (.b i j) none (.b i j)=none:=(by simp[upL]);rw[e];exact .ofC hex
     .have:((s.bx i).set k (.c (.ex (cur.getD k undef)))).getD j .un=(s.bx i).getD j .un:=by simp[List.getD,cX (gZ hjk)]
      rw[this];have e:upL ob (.b i k) none (.b i j)=ob (.b i j):=(by simp[upL,hjk]);rw[e];exact e5 j
   .obtain⟨sN,cur',q1,q2,q3,q4,q5,q7⟩:=h.bx i hi
    refine⟨sN,cur',q1,q2,by simp only[cP _ _ qo];exact q3,by simp only[cP _ _ qo];exact q4,λj=>?_,q7⟩;simp only[cP _ _ qo];have e:upL ob (.b b k) none (.b i j)=ob (.b i j):=(by simp[upL,qo]);rw[e];exact q5 j
  bnone:=h.bnone,ext:=h.ext,bnew:=h.bnew,binj:=h.binj
  oinj:=λL L' c q1 q2=>h.oinj L L' c (gx L c q1).2 (gx L' c q2).2
  obx:=λL c i q1=>h.obx L c i (gx L c q1).2
  obnd:=λL c q1=>h.obnd L c (gx L c q1).2
  glob:=h.glob }
 have h2:=h1.put q hq (v:=a.tmps.getD q undef) (x:=.gh (cur.getD k undef) E es) (o:=ob (.b b k)) (by simp only[LR];exact gk) (λc hc=>by
  refine⟨h.obnd _ c hc,λL hL=>?_,λi=>h.obx _ c i hc⟩;simp only[upL] at hL;split at hL
  .cases hL
  .split at hL
   .cases hL
   .rename_i q1 q2;exact q2 (h.oinj _ _ c hL hc))
 rw[jw (by rw[h.size];exact hq)] at h2;exact⟨_,_,_,_,h2⟩
theorem ajl {I:Ft} {w:World} {v u:Value} (h:DR I w v (.c (.ex u))):v=u:=by
 cases h with
 |c _ _ h=>exact h.ex_inv
theorem mU {ops:Array Oper} {K:S->Prop} (eH:mR n ops=true) (h:GsK ops K s) (dD:SE G n I0 M w0 s a w):∃ s',K s'/\SE G n I0 M w0 s' a w:=by
 have adX:∀ {ob:Loc->Option Nat} {β:Nat->Option Nat} {I:Ft} {s:S} (hst:St G n I0 M w0 I β ob s a w) {L0:Loc} {blk:Nat},ob L0=some blk->∀ L,upL ob L0 none L≠some blk:=λhst L0 blk h0 L hL=>by
  simp only[upL] at hL;split at hL
  .cases hL
  .rename_i gY;exact gY (hst.oinj _ _ blk hL h0)
 induction h with
 |done h=>exact⟨_,h,dD⟩
 |warm b k hb hk _ ih=>
  obtain⟨I,β,ob,hst⟩:=dD;refine ih (hst.reword hb hk rfl rfl λcur hx=>?_);have DY:OwnR (Wr M w0) I w none [] (ob (.b b k)) (cur.getD k undef):=hx;rcases DY.2 with⟨h1,_,a,h2⟩ | ⟨_,_,_,_,_,_,h2,_⟩
  .exact⟨(λ_ h=>by cases h),.inl ⟨h1,rfl,rfl,a,h2⟩⟩
  .cases h2
 |@warmT s t ht _ ih=>
  obtain⟨I,β,ob,hst⟩:=dD;have hx:=hst.fr t;rw[ht] at hx;have DY:OwnR (Wr M w0) I w none [] (ob (.t t)) (a.tmps.getD t undef):=hx;obtain⟨av,hv⟩:∃ av,a.tmps.getD t undef=.slice av 0 0:=by
   rcases DY.2 with⟨_,_,av,h2⟩ | ⟨_,_,_,_,_,_,h2,_⟩
   .exact⟨av,h2⟩
   .cases h2
  have rn:t<n:=by
   rcases bX t n with h' | h'
   .exact h'
   .exfalso
    have e0:a.tmps.getD t undef=undef:=(by rw[ak,dc (by rw[hst.size];exact h')];rfl);rw[e0] at hv;simp[undef] at hv
  have dD:=hst.put t rn (v:=a.tmps.getD t undef) (x:=.gs none none []) (o:=none) (by simp only[LR];exact⟨λ_ h=>(by cases h),.inl ⟨rfl,rfl,rfl,av,hv⟩⟩) FreeOb.nothing;rw[jw (by rw[hst.size];exact rn)] at dD;exact ih ⟨_,_,_,dD⟩
 |warmX b k hb hk _ ih=>
  obtain⟨I,β,ob,hst⟩:=dD;refine ih ⟨_,_,_,hst.reown hb hk rfl rfl (.inl rfl) λcur hx=>?_⟩;simp only[LR] at hx ⊢
  exact⟨(λ_ h=>by cases h),.inl ⟨rfl,rfl,rfl,none,ajl hx⟩⟩
 |name b k hb lv hk _ ih=>obtain⟨I,β,ob,hst⟩:=dD;obtain⟨blk,cur,h1,h2,h3,h4⟩:=hst.gsCell hb lv hk;exact ih _ h4.gsV ⟨_,_,_,hst.reownAt hb lv h1 h2 hk rfl (.inr rfl) ⟨λu e=>by cases e;rfl,h4⟩⟩
 |forget b k hb hk UD _ ih=>obtain⟨I,β,ob,hst⟩:=dD;exact ih ⟨_,_,_,hst.giveAny (x':=.un) (o':=none) hb hk UD rfl (λc e=>by cases e) (λv=>by simp only[LR];exact .un _)⟩
 |unname b k hb hk _ ih=>obtain⟨I,β,ob,hst⟩:=dD;exact ih (hst.reword hb hk rfl rfl λcur hx=>⟨(λ_ h=>by cases h),hx.gsO.2⟩)
 |split b k q hb lv hk hq _ ih=>
  obtain⟨I,β,ob,hst⟩:=dD;obtain⟨blk,cur,h1,h2,h3,h4⟩:=hst.gsCell hb lv hk;rw[eJ] at hq;obtain⟨o,ho,Gh⟩:=hq;have UB:=fa eH ho q (by simpa using Gh);have g1:=hst.reownAt (x':=.c (.ex (cur.getD k undef))) (o':=none) hb lv h1 h2 hk rfl (.inl rfl) (.ofC h4.exact);have g2:=g1.put q UB (v:=a.tmps.getD q undef) (x:=.gg (cur.getD k undef) _ _) (o:=ob (.b b k)) (by simp only[LR];exact h4) (λc hc=>by
   refine⟨hst.obnd _ c hc,λL hL=>?_,λi=>hst.obx _ c i hc⟩;simp only[upL] at hL;split at hL
   .cases hL
   .split at hL
    .cases hL
    .rename_i q1 q2;exact q2 (hst.oinj _ _ c hL hc))
  rw[jw (by rw[hst.size];exact UB)] at g2;exact ih _ (λu hu=>(h3 u hu).symm) h4.gsV ⟨_,_,_,g2⟩
 |@box s b k g e sz es hb lv hk _ ih=>
  obtain⟨I,β,ob,hst⟩:=dD;obtain⟨blk,cur,h1,h2,h3,h4⟩:=hst.gsCell hb lv hk;rcases h4 with⟨_,hE,_⟩ | ⟨e',blk2,cap,row,sz',r1,r2,r3,r4,r5,r6,r7,r8,r9,r10,r11,r12⟩
  .cases hE
  cases r2;have ql:k<(s.bx b).length:=(aj.1 hk).1;have g1:=hst.reownAt (x':=.un) (o':=none) hb lv h1 h2 hk rfl (.inl rfl) (by simp only[LR];exact .un _);have lu:=bN es r9;have ko:=aO sz r6;have g2:=g1.adopt (T:=.of e) (cs:=es.flatten) r4 r5 RT.of_ok r11 (by omega) r10 (adX hst r1) (λi=>hst.obx _ _ i r1) r12;have UC:b≠s.nb:=by omega
  have ZW:cL ((s.bx b).set k .un)=false:=by
   unfold cL at lv ⊢
   by_cases xd:k=0
   .subst xd
    have:((s.bx b).set 0 .un).getD 0 .un=.un:=(by simp[List.getD,ql]);rw[this];rfl
   .have:((s.bx b).set k .un).getD 0 .un=(s.bx b).getD 0 .un:=by simp[List.getD,cX xd]
    rw[this];exact lv
  have Ix:({ fr:=s.fr,bx:=up (up s.bx b ((s.bx b).set k .un)) s.nb (es.flatten.map .c),nb:=s.nb+1 }:S).bx b=(s.bx b).set k .un:=by show up (up s.bx b _) s.nb _ b=_;rw[cP _ _ UC,cg]
  have UL:up β s.nb (some blk2) b=some blk:=by rw[cP _ _ UC];exact h1
  have g3:=g2.reownAt (b:=b) (k:=k) (blk:=blk) (cur:=cur) (x:=.un) (x':=.ms s.nb 0 es.length es.length sz) (o':=none) (by show b<s.nb+1;omega) (by rw[Ix];exact ZW) UL (by
   rw[Ix];refine h2.congr (by simp) ?_;rw[gK lv,gK ZW]) (by rw[Ix];simp[ql]) rfl (.inl rfl) (by
   simp only[LR];exact⟨ab _,blk2,0,cap,r6,cg _ _ _,.inr rfl,r3⟩)
  rw[Ix] at g3;have tC:({ fr:=s.fr,bx:=up (up (up s.bx b ((s.bx b).set k .un)) s.nb (es.flatten.map .c)) b (((s.bx b).set k .un).set k (.ms s.nb 0 es.length es.length sz)),nb:=s.nb+1 }:S)=
   ⟨s.fr,up (up s.bx b ((s.bx b).set k (.ms s.nb 0 es.length es.length sz))) s.nb (es.flatten.map .c),s.nb+1⟩:=by
   congr 1;rw[List.set_set];funext i;simp only[up];by_cases hi:i=b
   .subst hi;simp[UC]
   .simp[hi]
  have g4:SE G n I0 M w0 _ a w:=⟨_,_,_,g3⟩;exact ih (by rw[<- tC];exact g4)
 |@boxT s t g e sz es ht _ ih=>
  obtain⟨I,β,ob,hst⟩:=dD;have hx:=hst.fr t;rw[ht] at hx;rcases hx.gsO.2 with⟨_,hE,_⟩ | ⟨e',blk2,cap,row,sz',r1,r2,r3,r4,r5,r6,r7,r8,r9,r10,r11,r12⟩
  .cases hE
  cases r2;have rn:t<n:=by
   rcases bX t n with h' | h'
   .exact h'
   .exfalso
    have e0:a.tmps.getD t undef=undef:=(by rw[ak,dc (by rw[hst.size];exact h')];rfl);rw[e0] at r3;simp[undef] at r3
  have lu:=bN es r9;have ko:=aO sz r6;have g2:=(hst.clr t).adopt (T:=.of e) (cs:=es.flatten) r4 r5 RT.of_ok r11 (by omega) r10 (adX hst r1) (λi=>hst.obx _ _ i r1) r12;have g3:=g2.put t rn (v:=a.tmps.getD t undef) (x:=.ms s.nb 0 es.length es.length sz) (o:=none) (by simp only[LR];exact⟨ab _,blk2,0,cap,r6,cg _ _ _,.inr rfl,r3⟩) FreeOb.nothing;rw[jw (by rw[hst.size];exact rn)] at g3;have tC:(({ s.clr t with bx:=up s.bx s.nb (es.flatten.map .c),nb:=s.nb+1 }:S).put (some t) (.ms s.nb 0 es.length es.length sz))=⟨up s.fr t (.ms s.nb 0 es.length es.length sz),up s.bx s.nb (es.flatten.map .c),s.nb+1⟩:=by simp only[S.put,S.clr];congr 1;funext r;simp only[up];split<;>rfl
  have g4:SE G n I0 M w0 _ a w:=⟨_,_,_,g3⟩;exact ih (by rw[<- tC];exact g4)
 |@cool s b k g E es hb hk _ ih=>
  obtain⟨I,β,ob,hst⟩:=dD;cases kb:ob (.b b k) with
  |none=>
   refine ih (hst.reword hb hk rfl rfl λcur hx=>?_);rcases hx.gsO.2 with⟨h1,h2,h3,a,h4⟩ | ⟨_,_,_,_,_,h1,_⟩
   .subst h2;subst h3
    rw[h4];exact⟨.nil a 0 (λ_=>rfl),.inl ⟨h1,rfl,a,rfl⟩⟩
   .rw[kb] at h1;cases h1
  |some blk=>
   obtain⟨b1,cur,e1,e2,e3,e4,e5,e7⟩:=hst.bx b hb;have h5:=e5 k;have mO:(s.bx b).getD k .un=.gs g E es:=(by simp[List.getD,hk]);rw[mO,kb] at h5;obtain⟨I',i1,i2,i3⟩:=h5.gsO.2.cool;refine ih ⟨I',β,ob,hst.recell hb hk rfl rfl kb (tN w _) (λ_ _=>rfl) i1 (λb o h=>(i2 b o h).imp_right λh=>by cases h;rfl) λb2 cur2 f1 f2 f3=>?_⟩;rcases f3.gsO.2 with⟨h1,_⟩ | ⟨e,sN,cap,row,sz,r1,r2,r3,r4,r5,r6,r7,r8,r9,r10,r11,r12⟩
   .cases h1
   .obtain⟨j1,j2⟩:=i3
    rcases j2 with⟨h1,_⟩ | ⟨_,_,_,_,_,q1,q2,q3,q4,q5,q6,q7,q8,q9,q10⟩
    .cases h1
    .cases r1;cases q1
     rw[r2] at q2;cases q2;rw[r5] at q5;simp only[ao,Obj.cells.injEq,gC] at q5;subst q5;have zD:CR I' w (cur2.getD k undef) (.sl es):=by
      rw[r3];rw[q3] at j1;have kX:∀ c1 c2:Nat,es.length<=c2->CR I' w (.slice (some ⟨blk,0,none⟩) es.length c1) (.sl es)->CR I' w (.slice (some ⟨blk,0,none⟩) es.length c2) (.sl es):=λc1 c2 hc h=>by
       rcases h.sl_inv with⟨⟨_,_,h1,_⟩,h2⟩ | ⟨b',off,cap',sz',f,hv,a1,a2,a3,a4⟩
       .subst h2;exact .nil _ _ (λh=>by cases h)
       .simp only[eN,ao,iF,gC,iM] at hv
        obtain⟨⟨rfl,rfl⟩,rfl⟩:=hv;exact .sl _ _ _ _ _ f hc a2 a3 a4
      exact kX _ _ r6 j1
     exact⟨zD,.inr ⟨e,blk,cap,row,sz,rfl,r2,r3,r4,r5,r6,r7,r8,r9,q10⟩⟩
 |@splitB s t b k g E es x ht hb lv hk _ ih=>
  obtain⟨I,β,ob,hst⟩:=dD;have hx:=hst.fr t;rw[ht] at hx;obtain⟨hg,gk⟩:=hx.gsO;have rn:t<n:=by
   rcases bX t n with h' | h'
   .exact h'
   .exfalso
    have e0:a.tmps.getD t undef=undef:=(by rw[ak,dc (by rw[hst.size];exact h')];rfl);rw[e0] at gk;rcases gk with⟨_,_,_,_,h1⟩ | ⟨_,_,_,_,_,_,_,h1,_⟩<;>simp[undef] at h1
  obtain⟨blk,cur,hβ,h2,h3⟩:∃ blk cur,β b=some blk/\HB w blk cur (s.bx b)/\True:=by obtain⟨b1,cur,e1,e2,e3,_⟩:=hst.bx b hb;exact⟨b1,cur,e1,e3,trivial⟩
  have ql:k<(s.bx b).length:=(aj.1 hk).1;have g1:=(hst.clr t).reownAt (b:=b) (k:=k) (x':=.un) (o':=none) hb lv hβ h2 hk rfl (.inl rfl) (by simp only[LR];exact .un _);have g2:=g1.put t rn (v:=a.tmps.getD t undef) (x:=.c (.ex (a.tmps.getD t undef))) (o:=none) (.ofC gk.exact) FreeOb.nothing;rw[jw (by rw[hst.size];exact rn)] at g2;have ZW:cL ((s.bx b).set k .un)=false:=by
   unfold cL at lv ⊢
   by_cases xd:k=0
   .subst xd
    have:((s.bx b).set 0 .un).getD 0 .un=.un:=(by simp[List.getD,ql]);rw[this];rfl
   .have:((s.bx b).set k .un).getD 0 .un=(s.bx b).getD 0 .un:=by simp[List.getD,cX xd]
    rw[this];exact lv
  have Ix:(({ s.clr t with bx:=up (s.clr t).bx b (((s.clr t).bx b).set k .un) }:S).put (some t) (.c (.ex (a.tmps.getD t undef)))).bx b=(s.bx b).set k .un:=by show up s.bx b ((s.bx b).set k .un) b=_;rw[cg]
  have g3:=g2.giveCell (b:=b) (k:=k) (blk:=blk) (cur:=cur) (x':=.gg (a.tmps.getD t undef) E es) (o':=ob (.t t)) hb (by rw[Ix];exact ZW) hβ (by
   rw[Ix];refine h2.congr (by simp) ?_;rw[gK lv,gK ZW]) (by rw[Ix];simpa using ql) rfl (λc hc=>by
   refine⟨hst.obnd _ c hc,λL hL=>?_,λi=>hst.obx _ c i hc⟩;simp only[upL] at hL
   repeat' (split at hL)
   all_goals first
    |(cases hL;done)
    |(exact ‹¬ L=Loc.t t› (hst.oinj _ _ c hL hc))) (by simp only[LR];exact gk)
  rw[Ix] at g3;have g4:SE G n I0 M w0 ⟨up s.fr t (.c (.ex (a.tmps.getD t undef))),up s.bx b ((s.bx b).set k (.gg (a.tmps.getD t undef) E es)),s.nb⟩ a w:=by
   have g5:SE G n I0 M w0 _ a w:=⟨_,_,_,g3⟩;have e1:∀ s1 s2:S,s1=s2->SE G n I0 M w0 s1 a w->SE G n I0 M w0 s2 a w:=λs1 s2 e h=>e▸h;refine e1 _ _ ?_ g5;simp only[S.put,S.clr,List.set_set];congr 1
   .funext r;simp only[up];split<;>rfl
   .funext r;simp only[up];split<;>rfl
  exact ih _ (λu hu=>(hg u hu).symm) gk.gsV g4
 |@join s b k b' k' v E es hb lv hk yI hmb' gY UA _ ih=>
  obtain⟨I,β,ob,hst⟩:=dD;obtain⟨b1,cur1,e1,e2,e3,e4,e5,e7⟩:=hst.bx b hb;have hv:=e5 k;have mO:(s.bx b).getD k .un=.c (.ex v):=by simp[List.getD,hk]
  rw[mO] at hv;have hv:=hv.toC.ex_inv;obtain⟨b2,cur2,f1,f2,f3,f4,f5,f7⟩:=hst.bx b' yI;have gk:=f5 k';have ZX:(s.bx b').getD k' .un=.gg v E es:=by simp[List.getD,UA]
  rw[ZX] at gk;have gk:OwnG (Wr M w0) I w E es (ob (.b b' k')) v:=gk;have g1:=hst.reownAt (b:=b') (k:=k') (x':=.un) (o':=none) yI hmb' f1 f3 UA rfl (.inl rfl) (by simp only[LR];exact .un _);have uJ:({ s with bx:=up s.bx b' ((s.bx b').set k' .un) }:S).bx b=s.bx b:=cP _ _ gY
  have g2:=g1.giveCell (b:=b) (k:=k) (blk:=b1) (cur:=cur1) (x':=.gs (some v) E es) (o':=ob (.b b' k')) hb (by rw[uJ];exact lv) e1 (by rw[uJ];exact e3) (by rw[uJ];exact(aj.1 hk).1) rfl (λc hc=>by
   refine⟨hst.obnd _ c hc,λL hL=>?_,λi=>hst.obx _ c i hc⟩;simp only[upL] at hL;split at hL
   .cases hL
   .rename_i q1;exact q1 (hst.oinj _ _ c hL hc)) (by rw[hv];exact⟨λu hu=>by cases hu;rfl,gk⟩)
  rw[uJ] at g2;exact ih ⟨_,_,_,g2⟩
 |@splitC s b k b' k' E es x hb lv hk yI hmb' gY UA _ ih=>
  obtain⟨I,β,ob,hst⟩:=dD;obtain⟨b1,cur1,e1,e2,e3,e4,e5,e7⟩:=hst.bx b hb;have gk:=e5 k;have mO:(s.bx b).getD k .un=.ow E es:=by simp[List.getD,hk]
  rw[mO] at gk;have gk:OwnR (Wr M w0) I w E es (ob (.b b k)) (cur1.getD k undef):=gk;obtain⟨b2,cur2,f1,f2,f3,f4,f5,f7⟩:=hst.bx b' yI;have g1:=hst.reownAt (b:=b) (k:=k) (x':=.c (.ex (cur1.getD k undef))) (o':=none) hb lv e1 e3 hk rfl (.inl rfl) (.ofC (.ex _ gk.1.oneCell gk.1.notAgg));have uJ:({ s with bx:=up s.bx b ((s.bx b).set k (.c (.ex (cur1.getD k undef)))) }:S).bx b'=s.bx b':=cP _ _ (gZ gY)
  have g2:=g1.giveCell (b:=b') (k:=k') (blk:=b2) (cur:=cur2) (x':=.gh (cur1.getD k undef) E es) (o':=ob (.b b k)) yI (by rw[uJ];exact hmb') f1 (by rw[uJ];exact f3) (by rw[uJ];exact(aj.1 UA).1) rfl (λc hc=>by
   refine⟨hst.obnd _ c hc,λL hL=>?_,λi=>hst.obx _ c i hc⟩;simp only[upL] at hL;split at hL
   .cases hL
   .rename_i q1;exact q1 (hst.oinj _ _ c hL hc)) (by simp only[LR];exact gk)
  rw[uJ] at g2;exact ih _ ⟨_,_,_,g2⟩
 |@ghT s b k q v E es hb lv hk hq _ ih=>
  obtain⟨I,β,ob,hst⟩:=dD;obtain⟨b1,cur1,e1,e2,e3,e4,e5,e7⟩:=hst.bx b hb;have gk:=e5 k;have mO:(s.bx b).getD k .un=.gh v E es:=by simp[List.getD,hk]
  rw[mO] at gk;have gk:OwnR (Wr M w0) I w E es (ob (.b b k)) v:=gk;rw[eJ] at hq;obtain⟨o,ho,Gh⟩:=hq;have UB:=fa eH ho q (by simpa using Gh);have g1:=hst.reownAt (x':=.un) (o':=none) hb lv e1 e3 hk rfl (.inl rfl) (by simp only[LR];exact .un _);have g2:=g1.put q UB (v:=a.tmps.getD q undef) (x:=.gh v E es) (o:=ob (.b b k)) (by simp only[LR];exact gk) (λc hc=>by
   refine⟨hst.obnd _ c hc,λL hL=>?_,λi=>hst.obx _ c i hc⟩;simp only[upL] at hL;split at hL
   .cases hL
   .split at hL
    .cases hL
    .rename_i q1 q2;exact q2 (hst.oinj _ _ c hL hc))
  rw[jw (by rw[hst.size];exact UB)] at g2;exact ih ⟨_,_,_,g2⟩
 |@joinO s b k b' k' v E es hb lv hk yI hmb' gY UA _ ih=>
  obtain⟨I,β,ob,hst⟩:=dD;obtain⟨b1,cur1,e1,e2,e3,e4,e5,e7⟩:=hst.bx b hb;have hv:=e5 k;have mO:(s.bx b).getD k .un=.c (.ex v):=by simp[List.getD,hk]
  rw[mO] at hv;have hv:=hv.toC.ex_inv;obtain⟨b2,cur2,f1,f2,f3,f4,f5,f7⟩:=hst.bx b' yI;have gk:=f5 k';have ZX:(s.bx b').getD k' .un=.gh v E es:=by simp[List.getD,UA]
  rw[ZX] at gk;have gk:OwnR (Wr M w0) I w E es (ob (.b b' k')) v:=gk;have g1:=hst.reownAt (b:=b') (k:=k') (x':=.un) (o':=none) yI hmb' f1 f3 UA rfl (.inl rfl) (by simp only[LR];exact .un _);have uJ:({ s with bx:=up s.bx b' ((s.bx b').set k' .un) }:S).bx b=s.bx b:=cP _ _ gY
  have g2:=g1.giveCell (b:=b) (k:=k) (blk:=b1) (cur:=cur1) (x':=.ow E es) (o':=ob (.b b' k')) hb (by rw[uJ];exact lv) e1 (by rw[uJ];exact e3) (by rw[uJ];exact(aj.1 hk).1) rfl (λc hc=>by
   refine⟨hst.obnd _ c hc,λL hL=>?_,λi=>hst.obx _ c i hc⟩;simp only[upL] at hL;split at hL
   .cases hL
   .rename_i q1;exact q1 (hst.oinj _ _ c hL hc)) (by rw[hv];exact gk)
  rw[uJ] at g2;exact ih ⟨_,_,_,g2⟩
 |@coolT s t g E es ht _ ih=>
  obtain⟨I,β,ob,hst⟩:=dD;have hx:=hst.fr t;rw[ht] at hx;have gk:=hx.gsO.2;have rn:t<n:=by
   rcases bX t n with h' | h'
   .exact h'
   .exfalso
    have e0:a.tmps.getD t undef=undef:=(by rw[ak,dc (by rw[hst.size];exact h')];rfl);rw[e0] at gk;rcases gk with⟨_,_,_,_,h1⟩ | ⟨_,_,_,_,_,_,_,h1,_⟩<;>simp[undef] at h1
  obtain⟨I',i1,i2,i3⟩:=gk.cool;have tC:((s.clr t).put (some t) (.ow E es))=⟨up s.fr t (.ow E es),s.bx,s.nb⟩:=by simp only[S.put,S.clr];congr 1;funext r;simp only[up];split<;>rfl
  cases kb:ob (.t t) with
  |none=>
   have hII:∀ b k,I' b k->I b k:=λb k h=>by
    rcases i2 b k h with h | h
    .exact h
    .rw[kb] at h;cases h
   have g3:=(hst.clr t).put t rn (v:=a.tmps.getD t undef) (x:=.ow E es) (o:=none) (by simp only[LR];rw[kb] at i3;exact i3.mono (λb o h=>⟨hII b o h,rfl⟩) (λb h=>by cases h)) FreeOb.nothing;rw[jw (by rw[hst.size];exact rn),tC] at g3;exact ih ⟨_,_,_,g3⟩
  |some blk=>
   obtain⟨k1,k2⟩:=hst.obnd _ _ kb;have g2:=(hst.clr t).growRow (w':=w) (r:=blk) (tN w _) k2 (λ_ _=>rfl) (adX hst kb) (λi=>hst.obx _ _ i kb) i1 (λb o h=>(i2 b o h).imp_right λh=>by rw[kb] at h;cases h;rfl) k1;have g3:=g2.put t rn (v:=a.tmps.getD t undef) (x:=.ow E es) (o:=some blk) (by simp only[LR];rw[kb] at i3;exact i3) (λc hc=>by
    cases hc;refine⟨⟨k1,k2⟩,λL hL=>adX hst kb L ?_,λi=>hst.obx _ _ i kb⟩;simp only[upL] at hL ⊢
    split at hL
    .cases hL
    .first
     |exact hL
     |(rw[if_neg ‹_›];exact hL))
   rw[jw (by rw[hst.size];exact rn),tC] at g3;exact ih ⟨_,_,_,g3⟩
 |@joinT s b k t blk len m cap e sz es hb lv hk ht ko _ ih=>
  obtain⟨I,β,ob,hst⟩:=dD;obtain⟨b1,cur1,e1,e2,e3,e4,e5,e7⟩:=hst.bx b hb;have hv:=e5 k;have mO:(s.bx b).getD k .un=.c (.ex (.slice (some ⟨blk,0,none⟩) m cap)):=by simp[List.getD,hk]
  rw[mO] at hv;have hv:=hv.toC.ex_inv;have hx:=hst.fr t;rw[ht] at hx;have gk:OwnG (Wr M w0) I w (some (e,sz)) es (ob (.t t)) (.slice (some ⟨blk,0,none⟩) len cap):=hx;rcases gk with⟨_,hE,_⟩ | ⟨e',blk2,cap2,row,sz',r1,r2,r3,r4,r5,r6,r7,r8,r9,r10,r11,r12⟩
  .cases hE
  cases r2;simp only[eN,ao,iF,gC] at r3;obtain⟨rfl,rfl,rfl⟩:=r3;have Qr:(es.take m).length=m:=by rw[aN];omega
  have vL:OwnG (Wr M w0) I w (some (e,sz)) (es.take m) (ob (.t t)) (.slice (some ⟨blk,0,none⟩) m cap):=by
   refine .inr ⟨e,blk,cap,row,sz,r1,rfl,by rw[Qr],r4,r5,by omega,r7,r8,λx hx=>r9 x (dp hx),λj c hj=>?_,r11,r12⟩;refine r10 j c ?_;have hp:(es.take m).flatten <+: es.flatten:=by
    conv=>rhs;rw[<- du m es,di]
    exact List.prefix_append _ _
   obtain⟨u,hu⟩:=hp;rw[<- hu,aA (aj.1 hj).1];exact hj
  have g1:=hst.clr t;have g2:=g1.giveCell (b:=b) (k:=k) (blk:=b1) (cur:=cur1) (x':=.gs (some (.slice (some ⟨blk,0,none⟩) m cap)) (some (e,sz)) (es.take m)) (o':=ob (.t t)) hb lv e1 e3 (aj.1 hk).1 rfl (λc hc=>by
   refine⟨hst.obnd _ c hc,λL hL=>?_,λi=>hst.obx _ c i hc⟩;simp only[upL] at hL;split at hL
   .cases hL
   .rename_i q1;exact q1 (hst.oinj _ _ c hL hc)) (by rw[hv];exact⟨λu hu=>by cases hu;rfl,vL⟩)
  exact ih ⟨_,_,_,g2⟩
 |@more s b hb hl _ ih=>obtain⟨I,β,ob,hst⟩:=dD;exact ih ⟨_,_,_,hst.more hb hl⟩
 |@ggT s b k q v E es hb hk hq _ ih=>
  obtain⟨I,β,ob,hst⟩:=dD;obtain⟨b1,cur1,e1,e2,e3,e4,e5,e7⟩:=hst.bx b hb;have gk:=e5 k;have mO:(s.bx b).getD k .un=.gg v E es:=by simp[List.getD,hk]
  rw[mO] at gk;have gk:OwnG (Wr M w0) I w E es (ob (.b b k)) v:=gk;rw[eJ] at hq;obtain⟨o,ho,Gh⟩:=hq;have UB:=fa eH ho q (by simpa using Gh);have g1:=hst.reown (x':=.un) (o':=none) hb hk rfl rfl (.inl rfl) (λ_ _=>by simp only[LR];exact .un _);have g2:=g1.put q UB (v:=a.tmps.getD q undef) (x:=.gg v E es) (o:=ob (.b b k)) (by simp only[LR];exact gk) (λc hc=>by
   refine⟨hst.obnd _ c hc,λL hL=>?_,λi=>hst.obx _ c i hc⟩;simp only[upL] at hL;split at hL
   .cases hL
   .split at hL
    .cases hL
    .rename_i q1 q2;exact q2 (hst.oinj _ _ c hL hc))
  rw[jw (by rw[hst.size];exact UB)] at g2;exact ih ⟨_,_,_,g2⟩
 |@ggB s t b k g E es x ht hb hk UD _ ih=>
  obtain⟨I,β,ob,hst⟩:=dD;have hx:=hst.fr t;rw[ht] at hx;obtain⟨hg,gk⟩:=hx.gsO;have rn:t<n:=by
   rcases bX t n with h' | h'
   .exact h'
   .exfalso
    have e0:a.tmps.getD t undef=undef:=(by rw[ak,dc (by rw[hst.size];exact h')];rfl);rw[e0] at gk;rcases gk with⟨_,_,_,_,h1⟩ | ⟨_,_,_,_,_,_,_,h1,_⟩<;>simp[undef] at h1
  have g2:=(hst.clr t).put t rn (v:=a.tmps.getD t undef) (x:=.c (.ex (a.tmps.getD t undef))) (o:=none) (.ofC gk.exact) FreeOb.nothing;rw[jw (by rw[hst.size];exact rn)] at g2;have g3:=g2.giveAny (b:=b) (k:=k) (x:=x) (x':=.gg (a.tmps.getD t undef) E es) (o':=ob (.t t)) hb hk UD rfl (λc hc=>by
   refine⟨hst.obnd _ c hc,λL hL=>?_,λi=>hst.obx _ c i hc⟩;simp only[upL] at hL
   repeat' (split at hL)
   all_goals first
    |(cases hL;done)
    |(exact ‹¬ L=Loc.t t› (hst.oinj _ _ c hL hc))) (λ_=>by simp only[LR];exact gk)
  have g4:SE G n I0 M w0 ⟨up s.fr t (.c (.ex (a.tmps.getD t undef))),up s.bx b ((s.bx b).set k (.gg (a.tmps.getD t undef) E es)),s.nb⟩ a w:=by have g5:SE G n I0 M w0 _ a w:=⟨_,_,_,g3⟩;have e1:∀ s1 s2:S,s1=s2->SE G n I0 M w0 s1 a w->SE G n I0 M w0 s2 a w:=λs1 s2 e h=>e▸h;refine e1 _ _ ?_ g5;simp only[S.put,S.clr];congr 1;funext r;simp only[up];split<;>rfl
  exact ih _ (λu hu=>(hg u hu).symm) gk.gsV g4
 |@gg0 s q hq _ ih=>obtain⟨I,β,ob,hst⟩:=dD;rw[eJ] at hq;obtain⟨o,ho,Gh⟩:=hq;have UB:=fa eH ho q (by simpa using Gh);have g2:=hst.put q UB (v:=a.tmps.getD q undef) (x:=.gg (.slice none 0 0) none []) (o:=none) (by simp only[LR];exact .inl ⟨rfl,rfl,rfl,none,rfl⟩) FreeOb.nothing;rw[jw (by rw[hst.size];exact UB)] at g2;exact ih ⟨_,_,_,g2⟩
 |@joinS s b k t v E es hb lv hk ht _ ih=>
  obtain⟨I,β,ob,hst⟩:=dD;obtain⟨b1,cur1,e1,e2,e3,e4,e5,e7⟩:=hst.bx b hb;have hv:=e5 k;have mO:(s.bx b).getD k .un=.c (.ex v):=by simp[List.getD,hk]
  rw[mO] at hv;have hv:=hv.toC.ex_inv;have gk:=hst.fr t;rw[ht] at gk;have gk:OwnG (Wr M w0) I w E es (ob (.t t)) v:=gk;have g2:=(hst.clr t).giveCell (b:=b) (k:=k) (blk:=b1) (cur:=cur1) (x':=.gs (some v) E es) (o':=ob (.t t)) hb lv e1 e3 (aj.1 hk).1 rfl (λc hc=>by
   refine⟨hst.obnd _ c hc,λL hL=>?_,λi=>hst.obx _ c i hc⟩;simp only[upL] at hL;split at hL
   .cases hL
   .rename_i q1;exact q1 (hst.oinj _ _ c hL hc)) (by rw[hv];exact⟨λu hu=>by cases hu;rfl,gk⟩)
  exact ih ⟨_,_,_,g2⟩
 |@frz s b k t blk len cap e sz cs hb hk ht _ ih=>
  obtain⟨I,β,ob,hst⟩:=dD;obtain⟨b1,cur1,e1,e2,e3,e4,e5,e7⟩:=hst.bx b hb;have gk:=e5 k;have mO:(s.bx b).getD k .un=.gg (.slice (some ⟨blk,0,none⟩) len cap) (some (e,sz)) [cs]:=by simp[List.getD,hk]
  rw[mO] at gk;have gk:OwnG (Wr M w0) I w (some (e,sz)) [cs] (ob (.b b k)) (.slice (some ⟨blk,0,none⟩) len cap):=gk;rcases gk with⟨_,hE,_⟩ | ⟨e',sN,cap',row,sz',r1,r2,r3,r4,r5,r6,r7,r8,r9,r10,r11,r12⟩
  .cases hE
  cases r2;simp only[eN,ao,iF,gC] at r3;obtain⟨rfl,rfl,rfl⟩:=r3;have htv:=hst.fr t;rw[ht] at htv;have htv:=htv.toC.ex_inv;have rn:t<n:=by
   rcases bX t n with h' | h'
   .exact h'
   .exfalso
    have e0:a.tmps.getD t undef=undef:=(by rw[ak,dc (by rw[hst.size];exact h')];rfl);rw[e0] at htv;simp[undef] at htv
  have zD:cs.length=sz:=r9 cs (by simp);have cj:cs.length<=row.size:=by have:=aO sz r6;simp only[bz,nf] at this;omega
  have g1:=hst.recell (b:=b) (k:=k) (x':=.un) (I':=λb' o=>I b' o∨(b'=blk/\o<cs.length)) hb hk rfl rfl r1 (tN w _) (λ_ _=>rfl) (λ_ _ h=>.inl h) (λb o h=>h.imp_right λh=>h.1) (λ_ _ _ _ _=>by simp only[LR];exact .un _);have jq:CR (λb' o=>I b' o∨(b'=blk/\o<cs.length)) w (.pointer (some ⟨blk,0+0,none⟩)) (.rp cs 0):=by
   refine .rp blk 0 0 cs (λj=>row.getD j undef) (λj hj=>⟨?_,.inr ⟨rfl,by omega⟩⟩) (λj c hc=>?_)
   .rw[fj w blk _ row e (0,0) r5,aF,ax (show j<row.size by omega),ak,ax (show j<row.size by omega)]
    rfl
   .exact(r10 j c (by simpa using hc)).mono λb o h=>⟨.inl h,rfl⟩
  have g2:=g1.put t rn (v:=a.tmps.getD t undef) (x:=.c (.rp cs 0)) (o:=none) (by rw[htv];exact .ofC jq) FreeOb.nothing;rw[jw (by rw[hst.size];exact rn)] at g2;exact ih ⟨_,_,_,g2⟩
theorem Rb {id:Nat} {ops:Array Oper} {K:S->Prop} (eH:mR n ops=true) (h:spl tr id ops s K) (dD:SE G n I0 M w0 s a w):∃ s',K s'/\SE G n I0 M w0 s' a w:=by
 unfold spl at h;split at h
 .obtain⟨I,β,ob,hst⟩:=dD
  rcases h with⟨b,k,q,E,es,⟨h1,h2,h3⟩,h⟩ | ⟨b,k,g,E,es,⟨h1,h2⟩,h⟩ | ⟨b,k,g,E,es,⟨h1,h2,h3⟩,h⟩ | h
  .rw[eJ] at h3
   obtain⟨o,ho,hq⟩:=h3;obtain⟨v,hv⟩:=hst.split h1 h2 (fa eH ho q (by simpa using hq));exact⟨_,h v,hv⟩
  .exact⟨_,h,hst.cool h1 h2⟩
  .obtain⟨blk,cap,hv⟩:=hst.name h1 h3 h2
   exact⟨_,h blk cap,_,_,_,hv⟩
  .exact mU eH h ⟨_,_,_,hst⟩
 .exact⟨s,h,dD⟩
def DC (ops:Array Oper) (listed:Array Bool):Prop:=∀ k o,ops[k]?=some o->listed.getD k false=true->∀ e∈o.after,Region.binds .any e=true->listed.getD e.on false=true
theorem DC.step {ops:Array Oper} {listed:Array Bool} {j:Nat} (h:DC ops listed) (hj:j∈Region.ready .any ops listed):DC ops (listed.setIfInBounds j true):=by
 intro k o ho hk e he hb;obtain⟨_,oj,Av,eF⟩:=lh.1 hj;by_cases hkj:k=j
 .subst hkj
  rw[Av] at ho;cases ho;exact Go.getD_set_true (eF e he hb)
 .rw[lS false (gZ hkj)] at hk
  exact Go.getD_set_true (h k o ho hk e he hb)
def Hg (ops:Array Oper) (k i:Nat):Bool:=((ops[k]?).map λo=>o.after.any λe=>Region.binds .any e&&(e.on==i)).getD false
def uV (ops:Array Oper) (m:Nat):Bool:=((List.range m).all λi=>(List.range (m+1)).any λk=>decide (k≠i)&&Hg ops k i)&&
 (List.range ops.size).all λj=>decide (j<=m)||(List.range ops.size).any λk=>decide (m<=k)&&decide (k≠j)&&Hg ops j k
theorem zZ {ops:Array Oper} {k i:Nat} (h:Hg ops k i=true):∃ o,ops[k]?=some o/\∃ e∈o.after,Region.binds .any e=true/\e.on=i:=by
 unfold Hg at h;cases ho:ops[k]? with
 |none=>simp[ho] at h
 |some o=>simp only[ho,cT,cV] at h;rw[Array.any_eq_true'] at h;obtain⟨e,he,h3⟩:=h;simp only[aW,kO] at h3;exact⟨o,rfl,e,he,h3.1,h3.2⟩
theorem Vs {m q j:Nat} (h:m<=j):(og m q).getD j false=false:=by
 cases hc:(og m q).getD j false with
 |false=>rfl
 |true=>have:=yY hc;omega
theorem aaz {m q j:Nat} (h:j<m):(og m q).getD j false=true:=by unfold og;rw[ak,dt,aA (by simpa using h)];simp[h]
theorem Hh {ops:Array Oper} {K0:S->Prop} {m:Nat} (LQ:uV ops m=true) {i:Nat} {oi:Oper} {e:Ef} (hi:ops[i]?=some oi) :
 ∀ (fuel:Nat) (listed:Array Bool) (s:S),listed.size=ops.size->DC ops listed->FreeAt tr .any ops listed i oi->
  i∈Region.ready .any ops listed->TEf P G tr ops oi s e->
  xK P G tr ops (og m ops.size) K0 fuel (listed.setIfInBounds i true) (e.run tr oi s)->xK P G tr ops (og m ops.size) K0 (fuel+1) listed s:=by
 intro fuel;induction fuel with
 |zero=>
  intro listed s fO hdc _ hr hy H;refine⟨λh=>(by rw[h] at hr;cases hr),λj hj=>?_⟩;by_cases xg:j=i
  .subst xg;unfold wu;simp only[hi];exact⟨e,hy,H⟩
  .exfalso
   obtain⟨UM,oj,Av,eF⟩:=lh.1 hj;have Qz:i<listed.size:=(by rw[fO];exact(bf.1 hi).1);have F7:j<ops.size:=(bf.1 Av).1;have h1:(og m ops.size).getD j true=false:=(by rw[<- H.1,lS true (gZ xg)];exact UM);have h2:(og m ops.size).getD i false=true:=(by rw[<- H.1,ak,Array.getElem?_setIfInBounds_self_of_lt Qz];rfl);have hjm:=B8 h1;have him:=yY h2;have h4:=(lh.1 hr).1;unfold uV at LQ;simp only[aW,aY,eJ,c9,fu,bF] at LQ;obtain⟨xi,LV⟩:=LQ;have dU:∀ q,q≠i->(og m ops.size).getD q false=listed.getD q false:=λq hq=>by rw[<- H.1,lS false (gZ hq)]
   rcases LV j F7 with hjm2 | ⟨k,LI,⟨UD,hkj⟩,Iy⟩
   .have apL:j=m:=by omega
    obtain⟨k,hkm,hki,Iy⟩:=xi i him;obtain⟨ok,eH,ed,hed,hb,UN⟩:=zZ Iy;have h5:listed.getD i false=true:=by
     by_cases hkj:k=j
     .subst hkj
      rw[Av] at eH;cases eH;have:=eF ed hed hb;rw[UN] at this;exact this
     .have h6:listed.getD k false=true:=by rw[<- dU k hki];exact aaz (by omega)
      have:=hdc k ok eH h6 ed hed hb;rw[UN] at this;exact this
    rw[ak,ax Qz] at h5 h4;simp only[cV] at h5 h4;rw[h4] at h5;cases h5
   .obtain⟨ok,eH,ed,hed,hb,UN⟩:=zZ Iy
    rw[Av] at eH;cases eH;have h5:=eF ed hed hb;rw[UN,<- dU k (by omega),Vs UD] at h5;cases h5
 |succ fuel ih=>
  intro listed s fO hdc Aw hr hy H;refine⟨λh=>(by rw[h] at hr;cases hr),λj hj=>?_⟩;by_cases xg:j=i
  .subst xg;unfold wu;simp only[hi];exact⟨e,hy,H⟩
  .have h1:=H.2 j (ready_mono hj xg)
   obtain⟨_,oj,Av,_⟩:=lh.1 hj;obtain⟨AW,D4⟩:=Aw.step hr hj xg Av;unfold wu at h1 ⊢
   simp only[Av] at h1 ⊢
   obtain⟨f,hf,hK⟩:=h1;have IC:=hy.back AW hf;refine⟨f,IC,ih (listed.setIfInBounds j true) _ (by rw[dy];exact fO) (hdc.step hj) D4 (ready_mono hr (gZ xg)) (hy.keep AW IC) ?_⟩;rw[Array.setIfInBounds_comm _ _ xg,<- B6 AW hy IC];exact hK
theorem Cb {ops:Array Oper} {K0:S->Prop} {m:Nat} (LQ:uV ops m=true):∀ (ks:List Nat) (listed:Array Bool) (s:S),listed.size=ops.size->DC ops listed->(∀ k∈ks,∃ o,ops[k]?=some o/\pe tr o=false)->
 ta tr ops ks listed=some (og m ops.size)->ib P G tr ops (qZ ops ks) s K0->xK P G tr ops (og m ops.size) K0 ks.length listed s
 |[],listed,s,_,_,_,hB,h=>by simp only[ta,ao] at hB;exact⟨hB,h⟩
 |k::r,listed,s,fO,hdc,hA,hB,h=>by
  obtain⟨o,ho,EE⟩:=hA k (bJ ..);unfold ta at hB;split at hB
  .rename_i hc
   simp only[aW] at hc;obtain⟨hr,hf⟩:=hc;have hr':k∈Region.ready .any ops listed:=(by simpa using hr);simp only[qZ,jh,ho,ib] at h;obtain⟨e,he,hK⟩:=kG (K:=λs'=>ib P G tr ops (qZ ops r) s' K0) EE h;exact Hh LQ ho r.length listed s fO hdc (pP ho hf) hr' he
    (Cb LQ r _ _ (by rw[dy];exact fO) (hdc.step hr') (λk hk=>hA k (aT _ hk)) hB hK)
  .cases hB
theorem aaA {ops:Array Oper} {n:Nat}:DC ops (Array.replicate n false):=λk o _ hk=>by rw[ak,Array.getElem?_replicate] at hk;split at hk<;>simp at hk
theorem tV {ops:Array Oper} {Q:Exit->Act->World->Prop} {K:S->Prop} (eH:mR n ops=true) (hA:∀ (k:Nat) (o:Oper),ops[k]?=some o->qt tr o=false) (hK:∀ a w s,K s->SE G n I0 M w0 s a w->Q .normal a w):∀ (fuel:Nat) (listed:Array Bool) (s:S) (a:Act) (w:World),
 O3 P G tr ops K fuel listed s->SE G n I0 M w0 s a w->wpAny P .any ops Q fuel listed a w
 |0,_,_,_,_,h,dD=>by obtain⟨s',h1,h2⟩:=mU eH h.2 dD;exact⟨h.1,hK _ _ _ h1 h2⟩
 |fuel+1,listed,s,a,w,h,dD=>by
  obtain⟨gY,h⟩:=h;obtain⟨s',h1,h2⟩:=mU eH h dD;refine⟨λh0=>absurd h0 gY,λi hi=>?_⟩;obtain⟨o,ho,hh⟩:=h1 i hi;obtain⟨I,β,ob,hst⟩:=h2;have jG:o∈ops.toList:=by have:=fD ho;simpa using this
  unfold wpOp;simp only[ho];rcases nj hst hh with⟨hw,hh⟩ | ⟨hw,hh⟩
  .rw[if_pos hw]
   exact .inl (qD (tr:=tr) hst (fa eH jG) (hA i o ho) hh λa w s hs dD=>tV eH hA hK fuel _ s a w hs dD)
  .rw[hw]
   simp only[aM,df];exact tV eH hA hK fuel _ _ _ w hh (SE.put (v:=undef) (x:=.sk) hst (fa eH jG) (by simp only[LR];exact .sk))
theorem Aa {ops:Array Oper} {K:S->Prop} {l2:List Oper}:∀ (l1:List Oper) (s:S),ib P G tr ops (l1++l2) s K=ib P G tr ops l1 s (λs=>ib P G tr ops l2 s K)
 |[],_=>rfl
 |o::r,s=>by simp only[dE,ib,Aa r]
theorem tW {ops:Array Oper} {Q:Exit->Act->World->Prop} {K:S->Prop} (eH:mR n ops=true) (hA:∀ (k:Nat) (o:Oper),ops[k]?=some o->qt tr o=false) (hK:∀ a w s,K s->SE G n I0 M w0 s a w->Q .normal a w):∀ (fuel i:Nat) (listed:Array Bool) (s:S) (a:Act) (w:World),
 II ops fuel i listed=true->i+fuel=ops.size->ib P G tr ops (ops.toList.drop i) s K->SE G n I0 M w0 s a w->wpAny P .any ops Q fuel listed a w
 |0,i,_,_,_,_,hl,hi,h,dD=>by rw[List.drop_eq_nil_of_le (by simp;omega)] at h;exact⟨by simpa[II] using hl,hK _ _ _ h dD⟩
 |fuel+1,i,listed,s,a,w,hl,hi,h,dD=>by
  simp only[II,aW,kO] at hl;obtain⟨h1,h2⟩:=hl;have bE:i<ops.size:=by omega
  have hd:ops.toList.drop i=ops[i]::ops.toList.drop (i+1):=by rw[dj (by simpa using bE)];simp
  rw[hd] at h;refine⟨λh0=>by rw[h1] at h0;simp at h0,λj hj=>?_⟩;rw[h1,aX] at hj;subst hj;obtain⟨I,β,ob,hst⟩:=dD;have ho:ops[j]?=some ops[j]:=ax bE;have jG:ops[j]∈ops.toList:=by have:=fD ho;simpa using this
  unfold wpOp;simp only[ho];rcases nj hst h with⟨hw,hh⟩ | ⟨hw,hh⟩
  .rw[if_pos hw]
   exact .inl (qD (tr:=tr) hst (fa eH jG) (hA j _ ho) hh λa w s hs dD=>tW eH hA hK fuel _ _ s a w h2 (by omega) hs dD)
  .rw[hw]
   simp only[aM,df];exact tW eH hA hK fuel _ _ _ _ w h2 (by omega) hh (SE.put (v:=undef) (x:=.sk) hst (fa eH jG) (by simp only[LR];exact .sk))
def aaB (tr:List Nat) (id:Nat) (ops:Array Oper):Bool:=ops.toList.all (λo=>!qt tr o)&&(ops.toList.take (apN tr id ops)).all (λo=>!pe tr o)&&decide (apN tr id ops<=ops.size)&&decide (ta tr ops (List.range (apN tr id ops)) (Array.replicate ops.size false)=some (og (apN tr id ops) ops.size))&&(uU ops (apN tr id ops)||uV ops (apN tr id ops))&&(!ae6 tr id||II ops (ops.size - apN tr id ops) (apN tr id ops) (og (apN tr id ops) ops.size))
theorem Ep {id:Nat} {ops:Array Oper} {Q:Exit->Act->World->Prop} {K:S->Prop} (eH:mR n ops=true) (vn:aaB tr id ops=true) (hK:∀ a w s,K s->SE G n I0 M w0 s a w->Q .normal a w)
 (OU:Eb tr id=false) (Gh:Gq tr id=false) (h:vpa P G tr id ops K s) (dD:SE G n I0 M w0 s a w):wpAny P .any ops Q ops.size (Array.replicate ops.size false) a { w with drawn:=w.drawn+1 }:=by
 unfold aaB at vn;simp only[aW,aY,ew,bF,fu (uU _ _)] at vn;obtain⟨⟨⟨⟨⟨hY,hA⟩,fO⟩,xb⟩,LQ⟩,hli⟩:=vn;have UO:∀ (k:Nat) (o:Oper),ops[k]?=some o->qt tr o=false:=λk o ho=>hY o (by have:=fD ho;simpa using this);have Qy:∀ (k:Nat) (o:Oper),k<apN tr id ops->ops[k]?=some o->pe tr o=false:=λk o hk ho=>hA o (by refine aS (i:=k) ?_;rw[cA,if_pos hk];simpa using ho);have tB:SE G n I0 M w0 s a { w with drawn:=w.drawn+1 }:=by obtain⟨I,β,ob,hst⟩:=dD;exact⟨I,β,ob,hst.drew⟩
 have ZV:qZ ops (List.range (apN tr id ops))=ops.toList.take (apN tr id ops):=by rw[eO,sn 0 _ (by omega)];rfl
 have fin:∀ (s':S) (K0:S->Prop),ib P G tr ops (ops.toList.take (apN tr id ops)) s' K0->SE G n I0 M w0 s' a { w with drawn:=w.drawn+1 }->
  (∀ a w s,K0 s->SE G n I0 M w0 s a w->wpAny P .any ops Q (ops.size - apN tr id ops) (og (apN tr id ops) ops.size) a w)->
  wpAny P .any ops Q ops.size (Array.replicate ops.size false) a { w with drawn:=w.drawn+1 }:=λs' K0 h1 h2 h5=>by
  rw[<- ZV] at h1;have h3:xK P G tr ops (og (apN tr id ops) ops.size) K0 (List.range (apN tr id ops)).length (Array.replicate ops.size false) s':=by
   have hz:∀ k∈List.range (apN tr id ops),∃ o,ops[k]?=some o/\pe tr o=false:=λk hk=>⟨ops[k]'(by have:=c9.1 hk;omega),ax _,Qy k _ (c9.1 hk) (ax _)⟩;rcases LQ with LQ | LQ
   .exact E0 LQ _ _ s' (by simp) hz xb h1
   .exact Cb LQ _ _ s' (by simp) aaA hz xb h1
  have h4:=zY (Q:=Q) eH h5 _ _ _ _ _ h3 h2;rw[List.length_range,Nat.sub_add_cancel fO] at h4;exact h4
 unfold vpa at h;rw[OU,Gh] at h;simp only[aM,df] at h;split at h
 .rename_i hln
  rw[hln] at hli;have e:ops.toList=ops.toList.take (apN tr id ops)++ops.toList.drop (apN tr id ops):=(du _ _).symm;rw[e,Aa] at h;exact fin s _ h tB λa w s hs dD=>tW eH UO hK _ _ _ s a w (by simpa using hli) (by omega) hs dD
 .obtain⟨s',h1,h2⟩:=mU eH h tB
  exact fin s' _ h1 h2 λa w s hs dD=>tV eH UO hK _ _ s a w hs dD
theorem Hi {ops:Array Oper} {Q:Exit->Act->World->Prop} {l:Option Nat} {m:Nat} {id:Nat} (hm:P.follows .mixedOrders=true) (qp:BK ops=true) (eH:mR n ops=true) (vn:aaB tr id ops=true) {K:S->Prop} (hK:∀ a w s,K s->SE G n I0 M w0 s a w->Q .normal a w)
 (OU:Eb tr id=false) (Gh:Gq tr id=false) (h:vpa P G tr id ops K s) (dD:SE G n I0 M w0 s a w):(Code.region id ops true).wpIn (FW l) m P Q a w:=
 wpIn_mono (Q:=Pj Q) (wpIn_region_any hm (xB qp yZ _ _ _ _ (Ep eH vn (λa w s hk dD=>⟨rfl,hK a w s hk dD⟩) OU Gh h dD))) (λ_ _ _ h=>h.2)
theorem wz {Q:Exit->Act->World->Prop} {l:Option Nat} {m:Nat} {ops:Array Oper} (eH:mR n ops=true) {K:S->Prop} (hK:∀ a w s,K s->SE G n I0 M w0 s a w->Q .normal a w):∀ (ls:List Oper) (k:Nat),ops.toList.drop k=ls->∀ (s:S) (a:Act) (w:World),
 aak P G tr ops K ls s->SE G n I0 M w0 s a w->wpOpsIn (FW l) m P ops Q (List.range' k ls.length) a w
 |[],k,_,s,a,w,h,dD=>by simp only[aG,List.range'_zero,wpOpsIn];obtain⟨s',h1,h2⟩:=mU eH h dD;exact hK _ _ _ h1 h2
 |o::ls,k,hl,s,a,w,h,dD=>by
  have qk:ops[k]?=some o:=by have:(ops.toList.drop k)[0]?=some o:=(by rw[hl];rfl);rw[cK] at this;simpa using this
  have OM:ops.toList.drop (k+1)=ls:=by rw[<- fG,hl];rfl
  have jG:o∈ops.toList:=cQ (i:=k) (by rw[hl];simp);obtain⟨s,h,dD⟩:=mU eH h dD;obtain⟨I,β,ob,hst⟩:=dD;simp only[aC,iu,wpOpsIn,qk];rcases nj hst h with⟨hw,h⟩ | ⟨hw,h⟩
  .rw[if_pos hw]
   refine qX (tr:=tr) hst (fa eH jG) h λa' w' s' Is tB=>?_;exact wz eH hK ls (k+1) OM s' a' w' Is tB
  .rw[hw]
   simp only[aM,df];exact⟨λ_ _=>trivial,wz eH hK ls (k+1) OM _ _ w h (SE.put hst (fa eH jG) (by simp only[LR];exact .sk))⟩
theorem qF {Q:Exit->Act->World->Prop} {l:Option Nat} {m:Nat} {ops:Array Oper} (eH:mR n ops=true) {K:S->Prop} (hK:∀ a w s,K s->SE G n I0 M w0 s a w->Q .normal a w):∀ (ls:List Oper) (k:Nat),ops.toList.drop k=ls->∀ (s:S) (a:Act) (w:World),
 nJ P G tr ops K ls s->SE G n I0 M w0 s a w->wpOpsIn (FW l) m P ops Q (List.range' k ls.length) a w
 |[],k,_,s,a,w,h,dD=>by simp only[aG,List.range'_zero,wpOpsIn];obtain⟨s',h1,h2⟩:=mU eH h dD;exact hK _ _ _ h1 h2
 |o::ls,k,hl,s,a,w,h,dD=>by
  have qk:ops[k]?=some o:=by have:(ops.toList.drop k)[0]?=some o:=(by rw[hl];rfl);rw[cK] at this;simpa using this
  have OM:ops.toList.drop (k+1)=ls:=by rw[<- fG,hl];rfl
  have jG:o∈ops.toList:=cQ (i:=k) (by rw[hl];simp);unfold nJ at h;obtain⟨s,h,dD⟩:∃ s',nM ops o s' (λs=>if nE tr o then vt P G o s (nJ P G tr ops K ls) else VStep P G tr o s (nJ P G tr ops K ls)) (λs=>nJ P G tr ops K ls (s.put o.dst .sk))/\SE G n I0 M w0 s' a w:=by
   split at h
   .exact mU eH h dD
   .exact⟨s,h,dD⟩
  obtain⟨I,β,ob,hst⟩:=dD;simp only[aC,iu,wpOpsIn,qk];rcases nj hst h with⟨hw,h⟩ | ⟨hw,h⟩
  .rw[if_pos hw]
   split at h
   .exact wm (aay h) (M5 hst (fa eH jG) h λa' w' s' Is tB=>qF eH hK ls (k+1) OM s' a' w' Is tB)
   .refine qX (tr:=tr) hst (fa eH jG) h λa' w' s' Is tB=>?_
    exact qF eH hK ls (k+1) OM s' a' w' Is tB
  .rw[hw]
   simp only[aM,df];exact⟨λ_ _=>trivial,qF eH hK ls (k+1) OM _ _ w h (SE.put hst (fa eH jG) (by simp only[LR];exact .sk))⟩
theorem Hj {ops:Array Oper} {Q:Exit->Act->World->Prop} {l:Option Nat} {m:Nat} {id:Nat} (eH:mR n ops=true) {K:S->Prop} (hK:∀ a w s,K s->SE G n I0 M w0 s a w->Q .normal a w)
 (OU:Eb tr id=false) (Gh:Gq tr id=true) (h:vpa P G tr id ops K s) (dD:SE G n I0 M w0 s a w):(Code.region id ops false).wpIn (FW l) m P Q a w:=by
 unfold vpa at h;rw[OU,if_neg (by decide),if_pos Gh] at h;refine wpIn_region ?_;have:=qF (Q:=Q) (l:=l) (m:=m) eH hK ops.toList 0 rfl s a w h dD;rw[eO];simpa using this
theorem Hk {ops:Array Oper} {Q:Exit->Act->World->Prop} {l:Option Nat} {m:Nat} {id:Nat} (eH:mR n ops=true) {K:S->Prop} (hK:∀ a w s,K s->SE G n I0 M w0 s a w->Q .normal a w)
 (OU:Eb tr id=true) (h:vpa P G tr id ops K s) (dD:SE G n I0 M w0 s a w):(Code.region id ops false).wpIn (FW l) m P Q a w:=by
 unfold vpa at h;rw[if_pos OU] at h;refine wpIn_region ?_;have:=wz (Q:=Q) (l:=l) (m:=m) eH hK ops.toList 0 rfl s a w h dD;rw[eO];simpa using this
structure Reb (T:Prop) (I0:Ft) (M:Mx) (w0:World) (I1:Ft) (M1:Mx) (w1:World) (rs:List Nat):Prop where
 bel:BelowM T M w0 w1
 wr:∀ b,Wr M1 w1 b->Wr M w0 b
 il:∀ b o,I0 b o->I1 b o
 kept:∀ b o,I0 b o->w1.cell? ⟨b,o,none⟩=w0.cell? ⟨b,o,none⟩
 ih:∀ b o,I1 b o->I0 b o∨Wr M w0 b
 e:M1.e=M.e
 d:M1.d=rs.map mkD++M.d
 nd:rs.Nodup
 r:∀ r∈rs,¬ Wr M1 w1 r/\Wr M w0 r/\(∀ o,¬ I1 r o)/\w1.heap[r]?=some (Obj.deferred (some []))
theorem Reb.refl:Reb (GT G) I0 M w0 I0 M w0 []:=⟨BelowM.refl _ _,λ_ h=>h,λ_ _ h=>h,λ_ _ _=>rfl,λ_ _ h=>.inl h,rfl,rfl,gG,by simp⟩
variable {I1:Ft} {M1:Mx} {w1:World} {rs:List Nat}
theorem Reb.notWr (h:St G n I1 M1 w1 I β ob s a w) {r:Nat} (hr:¬ Wr M1 w1 r):(∀ L,ob L≠some r)/\(∀ i,β i≠some r)/\r<w1.heap.size/\¬ M1.m r:=by
 refine⟨λL hL=>hr (h.obnd L r hL).2,λi hi=>?_,?_,λhm=>hr (.inr hm)⟩
 .exact hr (h.boxblk hi).2.1
 .rcases bX r w1.heap.size with h1 | h1
  .exact h1
  .exact absurd (.inl h1) hr
theorem St.back (hr:Reb (GT G) I0 M w0 I1 M1 w1 rs) (h:St G n I1 M1 w1 I β ob s a w):St G n I0 M w0 I β ob s { a with defers:=M.d } w where
 size:=h.size
 defers:=rfl
 below:=⟨h.below.os.trans hr.bel.os,h.below.tape.trans hr.bel.tape,h.below.output.trans hr.bel.output,b9 hr.bel.size h.below.size,λk hk hM=>
  (h.below.block k (cu hk hr.bel.size) (λh1=>by
   rcases hr.wr k (.inr h1) with h2 | h2
   .omega
   .exact hM h2)).trans (hr.bel.block k hk hM),λt=>b9 (hr.bel.drawn t) (h.below.drawn t)⟩
 ilow:=λb o h0=>h.ilow b o (hr.il b o h0)
 kept:=λb o h0=>(h.kept b o (hr.il b o h0)).trans (hr.kept b o h0)
 ihigh:=λb o hb=>by
  rcases h.ihigh b o hb with h1 | h1
  .exact hr.ih b o h1
  .exact .inr (hr.wr b h1)
 ibnd:=h.ibnd
 fr:=λt=>(h.fr t).wider λb hb=>hr.wr b (h.obnd _ b hb).2
 bx:=λi hi=>by obtain⟨blk,cur,e1,e2,e3,e4,e5,e7⟩:=h.bx i hi;exact⟨blk,cur,e1,hr.wr blk e2,e3,e4,λj=>(e5 j).wider λb hb=>hr.wr b (h.obnd _ b hb).2,e7⟩
 bnone:=h.bnone
 ext:=λi b he=>h.ext i b (by rw[hr.e];exact he)
 bnew:=λi b hi=>.inr (hr.wr b (h.boxblk hi).2.1)
 binj:=h.binj
 oinj:=h.oinj
 obx:=h.obx
 obnd:=λL b hL=>⟨(h.obnd L b hL).1,hr.wr b (h.obnd L b hL).2⟩
 glob:=h.glob
theorem St.rebase (h:St G n I0 M w0 I β ob s a w) {r:Nat} (kb:∀ L,ob L≠some r) (hβ:∀ i,β i≠some r) :
 St G n I ⟨λb=>Wr M w0 b/\b≠r,M.e,mkD r::M.d⟩ w I β ob s { a with defers:=mkD r::a.defers } w where
 size:=h.size
 defers:=by rw[h.defers]
 below:=BelowM.refl _ _
 ilow:=λ_ _ h=>h
 kept:=λ_ _ _=>rfl
 ihigh:=λ_ _ h=>.inl h
 ibnd:=h.ibnd
 fr:=λt=>(h.fr t).wider λb hb=>.inr ⟨(h.obnd _ b hb).2,λe=>kb _ (e▸hb)⟩
 bx:=λi hi=>by obtain⟨blk,cur,e1,e2,e3,e4,e5,e7⟩:=h.bx i hi;exact⟨blk,cur,e1,.inr ⟨e2,λe=>hβ i (e▸e1)⟩,e3,e4,λj=>(e5 j).wider λb hb=>.inr ⟨(h.obnd _ b hb).2,λe=>kb _ (e▸hb)⟩,e7⟩
 bnone:=h.bnone
 ext:=h.ext
 bnew:=λi b hi=>.inr (.inr ⟨(h.boxblk hi).2.1,λe=>hβ i (e▸hi)⟩)
 binj:=h.binj
 oinj:=h.oinj
 obx:=h.obx
 obnd:=λL b hL=>⟨(h.obnd L b hL).1,.inr ⟨(h.obnd L b hL).2,λe=>kb L (e▸hL)⟩⟩
 glob:=h.glob
theorem Reb.step (hr:Reb (GT G) I0 M w0 I1 M1 w1 rs) (h:St G n I1 M1 w1 I β ob s a w) {r:Nat} (hw:Wr M1 w1 r) (bE:r<w.heap.size) (hI:∀ o,¬ I r o) (hh:w.heap[r]?=some (Obj.deferred (some []))) :
 Reb (GT G) I0 M w0 I ⟨λb=>Wr M1 w1 b/\b≠r,M1.e,mkD r::M1.d⟩ w (r::rs) where
 bel:=(h.back hr).below
 wr:=λb hb=>by
  rcases hb with hb | hb
  .exact hr.wr b (.inl (b9 h.below.size hb))
  .exact hr.wr b hb.1
 il:=λb o h0=>h.ilow b o (hr.il b o h0)
 kept:=λb o h0=>(h.kept b o (hr.il b o h0)).trans (hr.kept b o h0)
 ih:=(h.back hr).ihigh
 e:=hr.e
 d:=by rw[bA,dE,hr.d]
 nd:=jP.2 ⟨λhm=>(hr.r r hm).1 hw,hr.nd⟩
 r:=λq hq=>by
  rcases aP.1 hq with rfl | hq
  .refine⟨λhw'=>?_,hr.wr _ hw,hI,hh⟩
   rcases hw' with h1 | h1
   .omega
   .exact h1.2 rfl
  .obtain⟨q1,q2,q3,q4⟩:=hr.r q hq
   obtain⟨_,_,h3,h4⟩:=Reb.notWr h q1;refine⟨λhw'=>?_,q2,λo ho=>?_,(h.below.block q h3 h4).trans q4⟩
   .rcases hw' with h1 | h1
    .have:=h.below.size;omega
    .exact q1 h1.1
   .rcases h.ihigh q o ho with h1 | h1
    .exact q3 o h1
    .exact q1 h1
theorem E1 {F:Fence} {m:Nat} {fn:Func} {R:Ending->World->Prop} {a0:Act}:∀ (rs:List Nat) (w:World),rs.Nodup->(∀ r∈rs,(∀ L,ob L≠some r)/\(∀ i,β i≠some r)/\Wr M w0 r/\(∀ o,¬ I r o)/\w.heap[r]?=some (Obj.deferred (some [])))->
 St G n I0 M w0 I β ob s a0 w->(∀ w',St G n I0 M w0 I β ob s a0 w'->∃ v,(results fn a0.tmps).run P w'=.ok v w'/\R (.returned v) w')->LeavesInM F m P fn a0.tmps R (rs.map mkD) .returning w
 |[],w,_,_,h,hR=>hR w h
 |r::rs,w,qp,hr,h,hR=>by
  obtain⟨h1,h2,h3,h4,h5⟩:=hr r (bJ ..);obtain⟨hnr,anB⟩:=jP.1 qp;have bE:r<w.heap.size:=(bf.1 h5).1;refine⟨by simp,.inl ⟨r,_,rfl,run_takeDeferred h5,?_⟩⟩;refine E1 rs _ anB (λq hq=>?_) ?_ hR
  .obtain⟨q1,q2,q3,q4,q5⟩:=hr q (aT _ hq)
   exact⟨q1,q2,q3,q4,(Go.World.putObj_heap_other (λ(e:q=r)=>hnr (e▸hq))).trans q5⟩
  .exact h.growRow (I':=I) (UQ (grownBy_putObj' w r _) (ab _)) h3 (λo ho=>absurd ho (h4 o)) h1 h2 (λ_ _ h=>h) (λ_ _ h=>.inl h) (by rw[Go.World.putObj_size];exact bE)
theorem St.newObj (h:St G n I0 M w0 I β ob s a w) {o:Obj} {cs:List V} {cur:Array Value} (hHB:HB (w.alloc o) w.heap.size cur cs) (hl:cs.length<=cur.size)
 (hc:∀ j,LR (Wr M w0) I β w none (cur.getD j undef) (cs.getD j .un)) :
 St G n I0 M w0 I (up β s.nb (some w.heap.size)) (λL=>match L with | .b i j=>if i=s.nb then none else ob (.b i j) | L=>ob L)
  { s with bx:=up s.bx s.nb cs,nb:=s.nb+1 } a (w.alloc o):=by
 have hs:=h.allocOwn o;have hβ:∀ i b,β i=some b->up β s.nb (some w.heap.size) i=some b:=λi b hi=>by
  have:i≠s.nb:=λe=>by rw[h.bnone i (by omega)] at hi;cases hi
  rw[cP _ _ this];exact hi
 have kb:∀ (o':Option Nat),(∀ b,o'=some b->b<w.heap.size)->∀ b,o'=some b->(w.alloc o).heap[b]?=w.heap[b]?/\∀ k,I b k->I b k:=λo' ho b hb=>
  ⟨ee w _ b (ho b hb),λ_ h=>h⟩
 have hI:∀ b k,I b k->I b k/\(w.alloc o).cell? ⟨b,k,none⟩=w.cell? ⟨b,k,none⟩:=λb k hb=>⟨hb,dP (a:=⟨b,k,none⟩) (ee w _ b (h.ibnd b k hb))⟩;have sO:=h.fresh (ab _);have key:∀ L b,(match L with | .b i j=>if i=s.nb then none else ob (.b i j) | L=>ob L)=some b->ob L=some b:=λL b hL=>by
  cases L with
  |t i=>exact hL
  |b i j=>
   simp only at hL;split at hL
   .cases hL
   .exact hL
 exact {
  size:=h.size,defers:=h.defers,below:=hs.below,kept:=hs.kept,ilow:=h.ilow,ihigh:=h.ihigh,ibnd:=hs.ibnd
  fr:=λt=>(h.fr t).mono hI hβ (kb _ λb hb=>(h.obnd _ b hb).1)
  bx:=λi hi=>by
   by_cases jg:i=s.nb
   .subst jg
    refine⟨w.heap.size,cur,by simp,.inl h.below.size,by simpa only[cg] using hHB,by simpa only[cg] using hl,λj=>?_,λk hk=>?_⟩
    .simp only[cg,cZ]
     exact(hc j).mono hI hβ (λb hb=>by cases hb)
    .have:=h.ibnd _ _ hk;omega
   .obtain⟨blk,cur',e1,e2,e3,e4,e5,e7⟩:=h.bx i (by simp only at hi;omega)
    have bE:blk<w.heap.size:=e3.lt;refine⟨blk,cur',hβ i blk e1,e2,by simpa only[cP _ _ jg] using e3.mono (ee w _ blk bE),by simpa only[cP _ _ jg] using e4,λj=>?_,e7⟩;simp only[cP _ _ jg,if_neg jg];exact(e5 j).mono hI hβ (kb _ λb hb=>(h.obnd _ b hb).1)
  bnone:=λi hi=>by simp only at hi;rw[cP _ _ (by omega)];exact h.bnone i (by omega)
  ext:=λi b he=>hβ i b (h.ext i b he)
  bnew:=λi b hi=>by
   by_cases h1:i=s.nb
   .subst h1;rw[cg] at hi;cases hi;exact .inr (.inl h.below.size)
   .rw[cP _ _ h1] at hi;exact h.bnew i b hi
  binj:=λi j b hi hj=>by
   by_cases h1:i=s.nb<;>by_cases h2:j=s.nb
   .rw[h1,h2]
   .subst h1;rw[cg] at hi;cases hi;rw[cP _ _ h2] at hj;exact absurd hj (sO.2 j)
   .subst h2;rw[cg] at hj;cases hj;rw[cP _ _ h1] at hi;exact absurd hi (sO.2 i)
   .rw[cP _ _ h1] at hi;rw[cP _ _ h2] at hj;exact h.binj i j b hi hj
  oinj:=λL L' b hL yH=>h.oinj L L' b (key L b hL) (key L' b yH)
  obx:=λL b i hL hi=>by
   by_cases jg:i=s.nb
   .subst jg;rw[cg] at hi;cases hi
    exact sO.1 L (key L _ hL)
   .rw[cP _ _ jg] at hi
    exact h.obx L b i (key L b hL) hi
  obnd:=λL b hL=>by rw[en];have:=h.obnd L b (key L b hL);exact⟨by omega,this.2⟩
  glob:=λg cs hg=>(h.glob g cs hg).mono hI }
theorem LR.toKR {ox:Option Nat} (h:LR base I β w ox v x) (hk:x.fz.isKR=true):KR I β w v x.fz:=by
 have h':=h.fz none;cases hx:x.fz<;>rw[hx] at h' hk<;>simp only[V.isKR] at hk<;>try cases hk
 .exact .inl rfl
 .exact .inr (.inr h'.toC)
 .simp only[LR] at h';exact .inr (.inl ⟨rfl,h'⟩)
 .simp only[LR] at h';exact .inr (.inr h')
 .simp only[LR] at h';exact .inr (.inr h')
 .simp only[LR] at h';exact .inr (.inr h')
 .simp only[LR] at h';exact .inr (.inr h')
def SX (G:Gl) (n:Nat) (tr:List Nat) (I0:Ft) (M:Mx) (w0:World) (s:S) (a:Act) (w:World):Prop:=
 ∃ I1 M1 w1 rs,Reb (GT G) I0 M w0 I1 M1 w1 rs/\(Gp tr=false->I1=I0/\M1=M/\w1=w0)/\SE G n I1 M1 w1 s a w
theorem SX.of (h:SE G n I0 M w0 s a w):SX G n tr I0 M w0 s a w:=⟨_,_,_,_,.refl,λ_=>⟨rfl,rfl,rfl⟩,h⟩
theorem SX.se (h:SX G n tr I0 M w0 s a w) (hr:Gp tr=false):SE G n I0 M w0 s a w:=by obtain⟨I1,M1,w1,rs,_,h1,h2⟩:=h;obtain⟨rfl,rfl,rfl⟩:=h1 hr;exact h2
theorem Jw (hst:St G n I0 M w0 I β ob s a w) {f:FuncId} {vs:List Value} {all:List V} {ρ:List Nat} {cargs:List V} {b0:List (List V)} {R0:V->List (List V)->Prop} {R:Ending->World->Prop}
 (eH:FnE P G f cargs b0 R0) (dN:ArgsL (Wr M w0) I β w vs all) (eF:all.map V.fz=cargs.map (V.ren (rho ρ s.nb))) (hρ:ρ.length=b0.length/\ρ.Nodup) (jg:qV s.bx s.nb (rho ρ s.nb) 0 b0)
 (hk:∀ r b1,R0 r b1->∀ v w' I' β' ob',St G n I0 M w0 I' β' ob' { s with bx:=fQ (rho ρ s.nb) 0 b1 s.bx,nb:=s.nb+(b1.length - b0.length) } a w'->(∀ i b,β i=some b->β' i=some b)->R (.returned v) w') :
 Calls P f vs.toArray w R:=by
 obtain⟨hρl,hn⟩:=hρ;obtain⟨rm,yG,ko⟩:=eH.2.1;have hl:∀ i,i<ρ.length->ρ.getD i 0<s.nb:=λi hi=>by obtain⟨b,hb⟩:∃ b,b0[i]?=some b:=⟨_,ai (by omega)⟩;have:=(pK b0 0 i b jg hb).1;rw[aF] at this;simpa[rho,hi] using this
 have qn:=xz hn hl;have cj:all.length=cargs.length:=by simpa using dJ List.length eF
 refine (eH.2.2 I ⟨Mof β ob (rho ρ s.nb) b0.length,λ_=>none,[]⟩ w vs.toArray (lZ β (rho ρ s.nb) b0.length) (obC ob (rho ρ s.nb) b0.length) hst.ibnd hst.glob (hst.give qn jg yG)
  (by have:=dN.1;simp;omega) (λj x hx=>?_)).mono ?_
 .have hj:j<cargs.length:=(aj.1 hx).1
  have hz:all[j]?=some all[j]:=ai (by omega);have h1:=dN.2 j _ hz;have h2:all[j].fz=x.ren (rho ρ s.nb):=by have e1:(all.map V.fz)[j]?=some all[j].fz:=(by simp[hz]);have e2:(cargs.map (V.ren (rho ρ s.nb)))[j]?=some (x.ren (rho ρ s.nb)):=(by simp[hx]);rw[eF,e2] at e1;exact(eI e1).symm
  rw[h2] at h1;have h3:=h1.ren (β':=lZ β (rho ρ s.nb) b0.length) (rm x (aS hx)) (λi b hi hb=>by simp[lZ,hi,hb]);have h4:=h3.wider (base':=Wr ⟨Mof β ob (rho ρ s.nb) b0.length,λ_=>none,[]⟩ w) λb hb=>by cases hb
  simpa using h4
 .rintro e w' ⟨r,b1,hR,v,I',β',ob',o',rfl,uI,Uu,Qw,vY,ZS,UL,oJ,iD,sO⟩
  obtain⟨cO,_,_,_,_,lQ⟩:=hst.called hρl hn jg (ko r b1 hR) uI Uu Qw vY ZS UL oJ;exact hk r b1 hR v w' _ _ _ cO lQ
def VE.ex:VE->Exit
 | .normal=>.normal
 | .exit i=>.exit i
 | .ret=>.ret
theorem Jx {f:Operand} {fv:V} {args:List V} {g:FuncId} {all:List V} (hc:gz fv args=some (g,all)) {ox:Option Nat} (hf:LR base I β w ox (a.eval f) fv) :
 ∃ vf vc:Array Value,a.eval f=.func (.func g) vf vc/\∀ us:List Value,ArgsL base I β w us args->ArgsL base I β w (vf.toList++us++vc.toList) all:=by
 unfold gz at hc;split at hc
 .rename_i g' fs cs
  simp only[ao,dH] at hc;obtain⟨rfl,rfl⟩:=hc;obtain⟨vf,vc,hv,q1,q2,q3,q4⟩:=hf.toC.fn_inv;exact⟨vf,vc,hv,λus hu=>((uO vf fs q1 q3).append hu).append (uO vc cs q2 q4)⟩
 .rename_i g' fs cs
  simp only[ao,dH] at hc;obtain⟨rfl,rfl⟩:=hc;simp only[LR] at hf;obtain⟨vf,vc,hv,q1,q2,q3,q4⟩:=hf;exact⟨vf,vc,hv,λus hu=>((uQ vf fs q1 q3).append hu).append (uQ vc cs q2 q4)⟩
 .cases hc
theorem Re {m:Nat} {f:Operand} {ps:Array Tmp} {assign body:Code} {q:VE->S->Prop} (hn:rgN tr=n) (hQ:∀ e s a w,q e s->SX G n tr I0 M w0 s a w->Q e.ex a w)
 (h:vrg P G tr f ps assign body q s) (dD:SX G n tr I0 M w0 s a w):(Code.rangeFunc f ps assign body).wpIn (FW none) m P Q a w:=by
 obtain⟨QB,fl,lu,⟨g,all,sR⟩,h⟩:=h;obtain⟨I1,M1,w1,rs,tD,_,I,β,ob,hst⟩:=dD;have hA:=hst.allocOwn (Obj.deferred (some []));have sO:=hst.fresh (ab w.heap.size);have hre:=hA.rebase (r:=w.heap.size) sO.1 sO.2;have alz:=tD.step hA (r:=w.heap.size) (.inl hst.below.size) (by rw[en];omega) (λo ho=>by have:=hst.ibnd _ _ ho;omega) (ga w _);generalize hMd:(⟨λb=>Wr M1 w1 b/\b≠w.heap.size,M1.e,mkD w.heap.size::M1.d⟩:Mx)=M2 at *;have fnok:=sR;have h:lj P G { s with bx:=up s.bx s.nb [.lp (lp0 (rgN tr) ps assign body) fl],nb:=s.nb+1 } (ev G s f) [.yl s.nb] (λs' _=>IH q s.nb s'):=by
  split at h
  .exact h
  .exact h.toR
 unfold lj at h;have alA:gz (ev G s f) [.yl s.nb]=some (g,all):=sR;rw[alA] at h;obtain⟨ρ,cargs,b0,R0,eH,eF,hρ,jg,hKR⟩:=h;obtain⟨fn,hf1,hf2,c,hf3⟩:=eH.1;refine wpIn_rangeFunc λfid _=>?_;have hB:=hre.newObj (o:=.loop { lp0 (rgN tr) ps assign body with fn:=fid,tmps:=a.tmps,defers:=w.heap.size }) (cs:=[.lp (lp0 (rgN tr) ps assign body) fl]) (cur:=#[.tuple a.tmps])
  ⟨fid,a.tmps,w.heap.size,⟨ga _ _,by rw[hst.size];exact hn.symm⟩,0,rfl⟩ (ab _) (λj=>by
   cases j with
   |zero=>
    show LR _ _ _ _ none (.tuple a.tmps) (.lp _ fl);simp only[LR];refine⟨a.tmps,rfl,λt x hx=>?_⟩;obtain⟨e1,e2⟩:=lu _ hx;simp only at e1 e2;rw[e1] at e2 ⊢
    exact(hre.fr t).toKR e2
   |succ j=>simp only[fB,List.getD_nil,LR];exact .un _)
 rw[en] at hB;generalize hW2:(w.alloc (Obj.deferred (some []))).alloc (Obj.loop { lp0 (rgN tr) ps assign body with fn:=fid,tmps:=a.tmps,defers:=w.heap.size })=w2 at *
 generalize UK:({ s with bx:=up s.bx s.nb [.lp (lp0 (rgN tr) ps assign body) fl],nb:=s.nb+1 }:S)=s1 at *
 generalize ha1:({ a with defers:=mkD w.heap.size::a.defers }:Act)=a1 at *
 have tj:ev G s1 f=ev G s f:=by rw[<- UK];cases f<;>rfl
 have hae:a1.eval f=a.eval f:=by rw[<- ha1];cases f<;>rfl
 have hf:=bP hB f;rw[tj] at hf;obtain⟨vf,vc,hv,dN⟩:=Jx sR hf;rw[hae] at hv;have hyl:∀ β':Nat->Option Nat,β' s.nb=some (w.heap.size+1)->LR (Wr M2 (w.alloc (Obj.deferred (some [])))) I β' w2 none (.func (.yield (w.heap.size+1)) #[] #[]) (.yl s.nb):=λβ' hβ=>by simp only[LR];exact⟨_,hβ,rfl⟩
 have hus:=dN [Value.func (.yield (w.heap.size+1)) #[] #[]] ⟨rfl,λj x hx=>by
  cases j with
  |zero=>simp at hx;subst hx;exact hyl _ (by rw[cg])
  |succ j=>simp at hx⟩
 have anz:fn.name≠ "runtime.NumGoroutine" :=by simpa using hf2
 refine⟨w.heap.size+1,[mkD w.heap.size],w2,{ target:=.fn (.func g) vc,args:=vf++#[Value.func (.yield (w.heap.size+1)) #[] #[]] },w2,g,
  (vf.toList++[Value.func (.yield (w.heap.size+1)) #[] #[]]++vc.toList).toArray,w2,?_,?_,λ_ _=>trivial,?_,λh=>(by cases h),pM.2 ?_⟩
 .rw[<- hW2];exact run_enterLoop_outer _ _ _ _ _
 .simp only[resolve,hv]
  simp[go_sem]
 .have e:vf++#[Value.func (.yield (w.heap.size+1)) #[] #[]]++vc=(vf.toList++[Value.func (.yield (w.heap.size+1)) #[] #[]]++vc.toList).toArray:=by apply dB;simp
  rw[<- e];simp[invoke,callFunc,hf1,anz,hf3]
 .refine Jw hB eH hus eF hρ jg ?_
  intro r b1 hR0 v w3 I3 β3 ob3 tC lQ;have hK:=hKR r b1 hR0;have hb0:β3 s.nb=some (w.heap.size+1):=lQ _ _ (by rw[cg]);generalize LU:({ s1 with bx:=fQ (rho ρ s1.nb) 0 b1 s1.bx,nb:=s1.nb+(b1.length - b0.length) }:S)=s2 at *
  unfold IH at hK;split at hK
  .rename_i L fl' gs oJ
   obtain⟨alD,bE,hK⟩:=hK;obtain⟨blk,cur,e1,e2,e3,e4,e5,e7⟩:=tC.bx s.nb bE;rw[hb0] at e1;cases e1;rw[oJ] at e3 e4 e5;obtain⟨f3,tm,d3,⟨h3,fO⟩,mg,rfl⟩:∃ (f:FuncId) (tm:Array Value) (d:Nat),(w3.heap[w.heap.size+1]?=some (.loop { L with fn:=f,tmps:=tm,defers:=d })/\tm.size=L.defers)/\∃ m:Nat,cur=#[Value.tuple tm]++Array.replicate m undef:=e3
   obtain⟨L3,hL3⟩:∃ L3:Loop,L3={ L with fn:=f3,tmps:=tm,defers:=d3 }:=⟨_,rfl⟩
   rw[<- hL3] at h3;have hp3:L3.pending=L.pending:=(by rw[hL3]);have bM:(Instr.endLoop (w.heap.size+1)).run P w3=.ok L.pending (w3.putObj (w.heap.size+1) (.loop { L3 with state:=.exhausted })):=by rw[<- hp3];exact run_endLoop h3 (by rw[hL3];exact alD)
   have anA:=tC.reBox (o:=.loop { L3 with state:=.exhausted }) (l:=.lp { L with state:=.exhausted } fl'::gs) (cur:=#[Value.tuple tm]++Array.replicate mg undef) (od:=λj=>ob3 (.b s.nb j)) bE hb0
    ⟨f3,tm,d3,⟨by rw[hL3];exact om (bf.1 h3).1,fO⟩,mg,rfl⟩ e4 (λj=>by
     have:=e5 j;cases j with
     |zero=>exact this
     |succ j=>exact this) (λj b hb=>hb)
   have hsx:SX G n tr I0 M w0 { s2 with bx:=up s2.bx s.nb (.lp { L with state:=.exhausted } fl'::gs) } a1 (World.putObj w3 (w.heap.size+1) (.loop { L3 with state:=.exhausted })):=
    ⟨_,_,_,_,alz,(λh=>by rw[QB] at h;cases h),_,_,_,anA⟩
   refine⟨L.pending,_,bM,?_⟩;have ha2:({ a with defers:=[mkD w.heap.size]++a.defers }:Act)=a1:=ha1
   rw[ha2];split at hK
   .rename_i hp;rw[hp];exact hQ .normal _ _ _ hK hsx
   .rename_i hp;rw[hp];exact wpIn_ret (hQ .ret _ _ _ hK hsx)
   .rename_i hp;rw[hp];exact wpIn_exit (hQ (.exit _) _ _ _ hK hsx)
   .exact hK.elim
  .exact hK.elim
end
section
variable {P:Program} {G:Gl} {tr:List Nat} {n:Nat} {I0:Ft} {M:Mx} {w0:World} {I:Ft} {β:Nat->Option Nat} {ob:Loc->Option Nat} {s:S} {a:Act} {w:World} {o:Oper}
 {Q:Exit->Act->World->Prop} {base:Nat->Prop} {v:Value} {x y:V}
def cok (n:Nat) (tr:List Nat):Code->Bool
 | .region id ops draw=>mR n ops&&BK ops&&(if QJ tr id then(if Eb tr id||Gq tr id then !draw else draw&&aaB tr id ops) else if ae5 tr id then UZ tr id&&draw&&Ph tr ops else(!draw||G8 tr ops))
 | .seq a b=>cok n tr a&&cok n tr b
 | .cond _ a b=>cok n tr a&&cok n tr b
 | .block _ a=>cok n tr a
 | .loop a=>cok n tr a
 | .scope a=>cok n tr a
 | .rangeFunc _ _ _ _=>decide (rgN tr=n)
 |_=>true
theorem np {k0:Nat} {l:Option Nat} {m:Nat} (hm:P.follows .mixedOrders=true) (w9:∀ i b,M.e i=some b->i<k0) (hl:l=none∨Gp tr=false):∀ (c:Code) (hc:cok n tr c=true) (q:VE->S->Prop) (Q:Exit->Act->World->Prop) (_hQ:∀ e s a w,q e s->SX G n tr I0 M w0 s a w->Q e.ex a w) (s:S) (a:Act) (w:World),
 hZ P G tr k0 c q s->SX G n tr I0 M w0 s a w->c.wpIn (FW l) m P Q a w:=by
 intro c;induction c with
 |skip=>intro _ q Q hQ s a w h dD;exact wpIn_skip (hQ .normal s a w h dD)
 |region id ops draw=>
  intro hc q Q hQ s a w h hsx;obtain⟨I1,M1,w1,rs,tD,lQ,dD⟩:=hsx;have w9:∀ i b,M1.e i=some b->i<k0:=by rw[tD.e];exact w9
  have hQ':∀ a w s,q .normal s->SE G n I1 M1 w1 s a w->Q .normal a w:=λa w s hk dD=>hQ .normal s a w hk ⟨I1,M1,w1,rs,tD,lQ,dD⟩;simp only[hZ] at h;by_cases hpa:QJ tr id=true
  .simp only[cok,hpa,cZ,aW] at hc
   obtain⟨⟨hd,qp⟩,hc⟩:=hc;rw[if_pos hpa] at h;by_cases OU:Eb tr id=true
   .rw[if_pos (by rw[OU];rfl)] at hc
    have D5:draw=false:=(by simpa using hc);subst D5;exact Hk hd hQ' OU h dD
   .have OU:Eb tr id=false:=by simpa using OU
    by_cases Gh:Gq tr id=true
    .rw[if_pos (by rw[Gh,jX])] at hc
     have D5:draw=false:=(by simpa using hc);subst D5;exact Hj hd hQ' OU Gh h dD
    .have Gh:Gq tr id=false:=by simpa using Gh
     rw[if_neg (by rw[OU,Gh];decide),aW] at hc;obtain⟨D5,h2⟩:=hc;subst D5;exact Hi hm qp hd h2 hQ' OU Gh h dD
  rw[if_neg hpa] at h;by_cases htw:ae5 tr id=true
  .simp only[cok,hpa,htw,cZ,aM,df,aW] at hc
   obtain⟨⟨hd,qp⟩,⟨hfz,D5⟩,h2⟩:=hc;rw[if_pos hfz] at h;obtain⟨s',ko,h⟩:=h;unfold vtw at h;rw[if_pos htw] at h;subst D5;exact En hm qp hd h2 hQ' h (dD.freeze w9 ko)
  simp only[cok,hpa,htw,aM,df,aW,fu,ew] at hc;obtain⟨⟨hd,qp⟩,hc⟩:=hc;obtain⟨s,h,dD⟩:∃ s,ib P G tr ops ops.toList s (q .normal)/\SE G n I1 M1 w1 s a w:=by
   split at h
   .obtain⟨s',ko,h⟩:=h
    unfold vtw at h;rw[if_neg htw] at h;exact⟨s',h,dD.freeze w9 ko⟩
   .exact Rb hd h dD
  cases draw with
  |false=>refine wpIn_region ?_;have:=wo (Q:=Q) (l:=l) (m:=m) hd hQ' ops.toList 0 rfl s a w h dD;rw[eO];simpa using this
  |true=>exact B9 hm qp hd (hc.resolve_left (by simp)) hQ' h dD
 |seq x y ihx ihy=>
  intro hc q Q hQ s a w h dD;simp only[cok,aW] at hc;simp only[hZ] at h;refine wpIn_seq (ihx hc.1 _ _ (λe s a w hk dD=>?_) s a w h dD);cases e with
  |normal=>exact ihy hc.2 q Q hQ s a w hk dD
  |exit i=>exact hQ (.exit i) s a w hk dD
  |ret=>exact hQ .ret s a w hk dD
 |cond c x y ihx ihy=>
  intro hc q Q hQ s a w h dD;simp only[cok,aW] at hc;simp only[hZ] at h;split at h
  .rename_i p hp
   have D8:a.eval c=.bool p:=(by obtain⟨_,_,_,_,_,_,I,β,ob,hst⟩:=dD;have:=bP hst c;rw[hp] at this;exact this.lit);have adY:refine s c p=s:=by
    cases c with
    |tmp t=>simp only[refine];simp only[ev] at hp;exact S.up_id hp
    |_=>rfl
   refine wpIn_cond_split D8 (λht=>?_) (λhf=>?_)
   .have:=h.1 ht
    rw[ht] at adY;rw[adY] at this;exact ihx hc.1 q Q hQ s a w this dD
   .have:=h.2 hf
    rw[hf] at adY;rw[adY] at this;exact ihy hc.2 q Q hQ s a w this dD
  .exact h.elim
 |block id body ih=>
  intro hc q Q hQ s a w h dD;simp only[cok] at hc;simp only[hZ] at h;refine wpIn_block (ih hc _ _ (λe s a w hk dD=>?_) s a w h dD);cases e with
  |normal=>exact hQ .normal s a w hk dD
  |exit i=>
   simp only[VE.ex,Exit.inBlock] at hk ⊢
   split
   .rename_i e;rw[if_pos e] at hk;exact hQ .normal s a w hk dD
   .rename_i e;rw[if_neg e] at hk;exact hQ (.exit i) s a w hk dD
  |ret=>exact hQ .ret s a w hk dD
 |loop body ih=>
  intro hc q Q hQ s a w h dD;simp only[cok] at hc;simp only[hZ] at h;obtain⟨k,h⟩:=h;refine wpIn_loop_rounds k ?_;induction k generalizing s a w with
  |zero=>exact h.elim
  |succ k ihk=>
   simp only[A4] at h;obtain⟨s',ko,h⟩:=h;rw[roundsIn_succ];refine ih hc _ _ (λe s a w hk dD=>?_) s' a w h (by
    rcases ko with rfl | ko
    .exact dD
    .obtain⟨I1,M1,w1,rs,tD,lQ,dD⟩:=dD
     exact⟨I1,M1,w1,rs,tD,lQ,dD.weaken (by rw[tD.e];exact w9) ko⟩)
   cases e with
   |normal=>exact ihk s a w dD hk
   |exit i=>exact hQ (.exit i) s a w hk dD
   |ret=>exact hQ .ret s a w hk dD
 |exit id=>intro _ q Q hQ s a w h dD;exact wpIn_exit (hQ (.exit id) s a w h dD)
 |ret=>intro _ q Q hQ s a w h dD;exact wpIn_ret (hQ .ret s a w h dD)
 |label l=>intro _ q Q hQ s a w h dD;exact wpIn_label (hQ .normal s a w h dD)
 |scope body ih=>
  intro hc q Q hQ s a w h dD;simp only[cok] at hc;simp only[hZ] at h;refine vu (ih hc _ _ (λe s a w hk dD=>?_) s a w h dD);cases e with
  |normal=>exact hQ .normal s a w hk dD
  |exit i=>exact hQ (.exit i) s a w hk dD
  |ret=>exact hQ .ret s a w hk dD
 |rangeFunc f ps assign body=>
  intro hc q Q hQ s a w h dD;simp only[cok,bF] at hc;simp only[hZ] at h;have hl:l=none:=by
   rcases hl with hl | hl
   .exact hl
   .have:=h.1;rw[hl] at this;cases this
  subst hl;exact Re hc hQ h dD
 |_=>intro _ q Q hQ s a w h dD;exact h.elim
theorem SX.leaves {fn:Func} {R:Ending->World->Prop} (h:SX G n tr I0 M w0 s a w) (hd:M.d=[])
 (hR:∀ w' I' β' ob',St G n I0 M w0 I' β' ob' s { a with defers:=[] } w'->∃ v,(results fn a.tmps).run P w'=.ok v w'/\R (.returned v) w'):LeavesInM (FW none) 0 P fn a.tmps R a.defers .returning w:=by
 obtain⟨I1,M1,w1,rs,tD,_,I,β,ob,hst⟩:=h;have hbk:=hst.back tD;have hdf:a.defers=rs.map mkD:=by rw[hst.defers,tD.d,hd,br]
 rw[hdf,hd] at *;refine E1 (a0:={ a with defers:=[] }) rs w tD.nd (λr hr=>?_) hbk (λw' h'=>hR w' _ _ _ h')
 obtain⟨q1,q2,q3,q4⟩:=tD.r r hr;obtain⟨h1,h2,h3,h4⟩:=Reb.notWr hst q1;exact⟨h1,h2,q2,λo ho=>by
  rcases hst.ihigh r o ho with h5 | h5
  .exact q3 o h5
  .exact q1 h5,(hst.below.block r h3 h4).trans q4⟩
def Rf (P:Program) (s:S):ResultVar->(V->Prop)->Prop
 | .tmp t,K=>K (s.fr t)
 | .cell p T,K=>dG P T s (s.fr p) K
def M6 (z:Bool) (s:S) (x r:V):Prop:=if z then imm s x=some r else x=r
def E2 (z:Bool) (s:S) (x r:V):Prop:=if z then imm s x=some r else x.fz=r
def rE (P:Program) (z:Bool) (s:S) (r:V):List ResultVar->Prop
 |[.tmp t]=>M6 z s (s.fr t) r
 |[.cell p T]=>dG P T s (s.fr p) λu=>M6 z s u r
 |rs=>∃ ds,r=.tup ds/\ds.length=rs.length/\∀ (i:Nat) (R:ResultVar) (d:V),rs[i]?=some R->ds[i]?=some d->Rf P s R λu=>E2 z s u d
def Ab (args:List V):S:=⟨λj=>args.getD j .un,λ_=>[],0⟩
theorem LR.ofDR (h:DR I w v x):LR base I β w none v x:=by
 cases h with
 |un=>simp only[LR];exact .un _
 |sk=>simp only[LR];exact .sk
 |c _ _ h=>exact .ofC h
 |agg vs cs h1 h2=>simp only[LR];exact .agg vs cs h1 h2
 |tup vs ds h1 h2=>simp only[LR];exact .tup vs ds h1 h2
theorem St.init {I:Ft} {w:World} {vs:Array Value} {args:List V} {m:Nat} (hI:∀ b o,I b o->b<w.heap.size) (hg:GOK G I w) (fO:vs.size=args.length) (ha:∀ j x,args[j]?=some x->DR I w (vs.getD j undef) x)
 (hm:m=(vs++Array.replicate (n - vs.size) undef).size):St G m I ⟨λ_=>False,λ_=>none,[]⟩ w I (λ_=>none) (λ_=>none) (Ab args) { tmps:=vs++Array.replicate (n - vs.size) undef,defers:=[] } w where
 size:=hm.symm
 defers:=rfl
 below:=BelowM.refl _ _
 kept:=λ_ _ _=>rfl
 ilow:=λ_ _ h=>h
 ihigh:=λ_ _ h=>.inl h
 ibnd:=hI
 fr:=λt=>by
  simp only[Ab];by_cases ht:t<args.length
  .have e1:args.getD t .un=args[t]:=by simp[List.getD,ht]
   have e2:(vs++Array.replicate (n - vs.size) undef).getD t undef=vs.getD t undef:=(by rw[ak,fe (by omega),<- ak]);rw[e1,e2];exact .ofDR (ha t _ (ai ht))
  .have e1:args.getD t .un=.un:=by simp[List.getD,bG (ec ht)]
   rw[e1];simp only[LR];exact .un _
 bx:=λi hi=>by simp[Ab] at hi
 bnone:=λ_ _=>rfl
 ext:=λ_ _ h=>by cases h
 bnew:=λ_ _ h=>by cases h
 binj:=λ_ _ _ h=>by cases h
 oinj:=λ_ _ _ h=>by cases h
 obx:=λ_ _ _ h=>by cases h
 obnd:=λ_ _ h=>by cases h
 glob:=hg
def V.out:V->Bool
 | .bp _ _ | .clo _ _ _ | .ms _ _ _ _ _ | .mag _ | .mr _ | .it _ _ _ _ | .gh _ _ _ | .gg _ _ _ | .yl _ | .lp _ _ | .bm _ _ _=>false
 |_=>true
theorem LR.leave {ox:Option Nat} (h:LR base I β w ox v x) (hx:x.out=true) {β':Nat->Option Nat}:LR base I β' w ox v x:=by
 cases x<;>simp only[V.out] at hx<;>try cases hx
 all_goals simp only[LR] at h ⊢;exact h
def V.comp:V->Bool
 | .c _ | .agg _=>true
 |_=>false
def V.compT:V->Bool
 | .tup ds=>ds.all V.comp
 |_=>true
def E3 (a:Act):ResultVar->Sem Value
 | .tmp t=>pure (a.tmps.getD t undef)
 | .cell p t=>do loadVar t (<- asAddr (a.tmps.getD p undef))
theorem M7 (fn:Func) (a:Act):results fn a.tmps=(do let vs <- fn.results.mapM (E3 a);pure (if h:vs.size=1 then vs[0] else .tuple vs)):=by unfold results;congr 1
theorem aaC (hst:St G n I0 M w0 I β ob s a w) {R:ResultVar} {K:V->Prop} (h:Rf P s R K):∃ x u o',K x/\LR (Wr M w0) I β w o' u x/\(∀ b,o'=some b->Wr M w0 b/\b<w.heap.size)/\
 (E3 a R).run P w=.ok u w:=by
 cases R with
 |tmp t=>exact⟨_,_,_,h,hst.fr t,λb hb=>⟨(hst.obnd _ b hb).2,(hst.obnd _ b hb).1⟩,rfl⟩
 |cell p T=>
  obtain⟨z,u,hz,iD,bM⟩:=tK (x:=s.fr p) hst h (hst.fr p);refine⟨z,u,none,hz,iD,λb hb=>(by cases hb),?_⟩;unfold Instr.loadAt at bM;show(do loadVar T (<- asAddr (a.tmps.getD p undef)):Sem Value).run P w=.ok u w
  generalize a.tmps.getD p undef=pv at bM ⊢
  cases pv<;>first | (simp[Instr.sureAddr,stuck,Sem.run] at bM;done) | skip
  rename_i ad;cases ad with
  |none=>simp[Instr.sureAddr,stuck,Sem.run] at bM
  |some ad=>simpa[Instr.sureAddr,asAddr] using bM
theorem Ac (hst:St G n I0 M w0 I β ob s a w) {Ic:Ft} {z:Bool} (hz:z=false->Ic=I) (tp:∀ b o,I b o->Ic b o) (hb:z=true->∀ i b o,β i=some b->Ic b o) :
 ∀ (rs:List ResultVar) (ds:List V),ds.length=rs.length->(∀ (i:Nat) (R:ResultVar) (d:V),rs[i]?=some R->ds[i]?=some d->Rf P s R λu=>E2 z s u d)->
 ∃ vs:List Value,vs.length=ds.length/\(∀ (i:Nat) (d:V),ds[i]?=some d->LR (Wr M w0) Ic β w none (vs.getD i undef) d)/\
  (rs.mapM (E3 a)).run P w=.ok vs w
 |[],[],_,_=>⟨[],rfl,by simp,rfl⟩
 |R::rs,d::ds,hl,h=>by
  obtain⟨vs,h1,h2,h3⟩:=Ac hst hz tp hb rs ds (by simpa using hl) (λi R' d' hR hd=>h (i+1) R' d' (by simpa using hR) (by simpa using hd));obtain⟨x,u,o',hx,iD,_,bM⟩:=aaC hst (h 0 R d rfl rfl);refine⟨u::vs,by simp[h1],λi d' qy=>?_,?_⟩
  .cases i with
   |zero=>
    simp at qy;subst qy;cases z with
    |false=>rw[hz rfl];simp only[E2,aM,df] at hx;rw[<- hx];exact iD.fz none
    |true=>simp only[E2,cZ] at hx;exact .ofDR (BC hst iD hx tp (λ_=>hb rfl))
   |succ i=>simpa using h2 i d' (by simpa using qy)
  .rw[gb]
   simp only[aK,bM,aw,h3,bg]
 |[],_::_,hl,_=>by simp at hl
 |_::_,[],hl,_=>by simp at hl
theorem wA {fn:Func} (hst:St G n I0 M w0 I β ob s a w) {r:V} (oL:r.compT=true) {Ic:Ft} {z:Bool} (hz:z=false->Ic=I) (tp:∀ b o,I b o->Ic b o)
 (hb:z=true->∀ i b o,β i=some b->Ic b o) (c8:rE P z s r fn.results.toList) :
 ∃ v o',(results fn a.tmps).run P w=.ok v w/\LR (Wr M w0) Ic β w o' v r/\∀ b,o'=some b->∃ t,ob (.t t)=some b:=by
 unfold rE at c8;rw[M7,Array.mapM_eq_mapM_toList];split at c8
 .rename_i t OV
  rw[OV];cases z with
  |false=>simp only[M6,aM,df] at c8;refine⟨a.tmps.getD t undef,ob (.t t),by simp[E3],?_,λb hb=>⟨_,hb⟩⟩;rw[<- c8,hz rfl];exact hst.fr t
  |true=>simp only[M6,cZ] at c8;exact⟨a.tmps.getD t undef,none,by simp[E3],.ofDR (BC hst (hst.fr t) c8 tp (λ_=>hb rfl)),λb hb=>by cases hb⟩
 .rename_i p T OV
  rw[OV];obtain⟨x,u,hx,iD,bM⟩:=tK (x:=s.fr p) hst c8 (hst.fr p);have alC:(E3 a (.cell p T)).run P w=.ok u w:=by
   unfold Instr.loadAt at bM;show(do loadVar T (<- asAddr (a.tmps.getD p undef)):Sem Value).run P w=.ok u w
   generalize a.tmps.getD p undef=pv at bM ⊢
   cases pv<;>first | (simp[Instr.sureAddr,stuck,Sem.run] at bM;done) | skip
   rename_i ad;cases ad with
   |none=>simp[Instr.sureAddr,stuck,Sem.run] at bM
   |some ad=>simpa[Instr.sureAddr,asAddr] using bM
  refine⟨u,none,by simp[gb,alC],?_,λb hb=>by cases hb⟩;cases z with
  |false=>simp only[M6,aM,df] at hx;subst hx;rw[hz rfl];exact iD
  |true=>simp only[M6,cZ] at hx;exact .ofDR (BC hst iD hx tp (λ_=>hb rfl))
 .rename_i n1 n2
  obtain⟨ds,rfl,hl,eF⟩:=c8;obtain⟨vs',h1,h2,h3⟩:=Ac hst hz tp hb fn.results.toList ds hl eF;have gY:vs'.length≠1:=λh=>by
   have:fn.results.toList.length=1:=(by omega);obtain⟨R,hR⟩:=gI.1 this;cases R with
   |tmp t=>exact n1 t hR
   |cell p T=>exact n2 p T hR
  refine⟨.tuple vs'.toArray,none,?_,?_,λb hb=>by cases hb⟩
  .simp[h3,gY]
  .simp only[LR]
   refine .tup _ _ (by simpa using h1) λj d hd=>?_;have h4:=h2 j d hd;have h5:=aY.1 oL d (aS hd);have e1:vs'.toArray.getD j undef=vs'.getD j undef:=(by simp[List.getD]);rw[e1];cases d<;>simp only[V.comp] at h5<;>try cases h5
   all_goals simp only[LR] at h4;exact h4
theorem Vt {f:FuncId} {k0:Nat} {fn:Func} {c:Code} {args:List V} {r:V} (z:Bool) (tr:List Nat) (hm:P.follows .mixedOrders=true) (hf:P.funcs[f]?=some fn) (hb:fn.body=some c) (nA:(fn.name== "runtime.NumGoroutine")=false)
 (hn:args.length<=fn.ntmps) (vJ:cok fn.ntmps tr c=true)
 (hr:r.out=true) (oL:r.compT=true)
 (h:hZ P G tr k0 c (λe s=>(match e with | .exit _=>False | _=>True)/\rE P z s r fn.results.toList) (Ab args)):FnOK P G f args r:=by
 refine⟨⟨fn,hf,nA,c,hb⟩,λI w vs hI hg fO ha=>?_⟩;have jK:fn.ntmps=(vs++Array.replicate (fn.ntmps - vs.size) undef).size:=by simp;omega
 have hst:=St.init (n:=fn.ntmps) hI hg fO ha jK;refine pM.1 (callsIn_of_wp_marks (F:=FW none) (n:=0) hf hb trivial (np (l:=none) hm (λ_ _ h=>by cases h) (.inl rfl) c vJ _ _ (λe s a w' hq dD=>?_) _ _ _ h (.of ⟨_,_,_,hst⟩)));obtain⟨hex,c8⟩:=hq;have zG:∀ b,Wr ⟨λ_=>False,λ_=>none,[]⟩ w b->w.heap.size<=b:=λb hb=>by rcases hb with hb | hb;exact hb;exact hb.elim
 have main:LeavesInM (FW none) 0 P fn a.tmps (λe w'=>∃ v' I'',e=.returned v'/\World.grt (GT G) w w' none/\(∀ b o,I b o->I'' b o)/\
  (∀ b o,I'' b o->I b o∨(w.heap.size<=b/\b<w'.heap.size))/\ajh (λb=>w.heap.size<=b) I'' w' v' r) a.defers .returning w':=by
  refine dD.leaves rfl λw' I' β ob cO=>?_;obtain⟨v,o',h1,h2,h3⟩:=wA (P:=P) (fn:=fn) cO oL (Ic:=λb o=>I' b o∨(z=true/\∃ i,β i=some b)) (λhz=>by subst hz;simp) (λ_ _ h=>.inl h) (λhz i b o hi=>.inr ⟨hz,i,hi⟩) c8;refine⟨v,h1,v,(λb o=>I' b o∨(z=true/\∃ i,β i=some b)),rfl,⟨cO.below.os,cO.below.tape,cO.below.output,cO.below.size,λk hk _=>cO.below.block k hk (λe=>e.elim),cO.below.drawn⟩,λb o h=>.inl (cO.ilow b o h),λb o Gi=>?_,o',?_,λb hb=>?_⟩
  .rcases Gi with Gi | ⟨_,i,hi⟩
   .rcases cO.ihigh b o Gi with h4 | h4
    .exact .inl h4
    .exact .inr ⟨zG b h4,cO.ibnd b o Gi⟩
   .obtain⟨_,h5,h6⟩:=cO.boxblk hi
    exact .inr ⟨zG b h5,h6⟩
  .have nB:=h2.leave hr (β':=λ_=>none)
   have e:Wr ⟨λ_=>False,λ_=>none,[]⟩ w=λb=>w.heap.size<=b:=(by funext b;simp[Wr]);rw[e] at nB;exact nB
  .obtain⟨L,hL⟩:=h3 b hb
   obtain⟨h4,h5⟩:=cO.obnd _ b hL;exact⟨zG b h5,h4⟩
 cases e with
 |normal=>exact main
 |exit i=>exact hex.elim
 |ret=>exact main
theorem aaD {f:FuncId} {fn:Func} {c:Code} {args:List V} {r:V} (z:Bool) (tr:List Nat) (hm:P.follows .mixedOrders=true) (hf:P.funcs[f]?=some fn) (hb:fn.body=some c) (nA:(fn.name== "runtime.NumGoroutine")=false)
 (hn:args.length<=fn.ntmps) (vJ:cok fn.ntmps tr c=true)
 (hr:r.out=true) (oL:r.compT=true)
 (h:vwp P G tr c (λe s=>(match e with | .exit _=>False | _=>True)/\rE P z s r fn.results.toList) (Ab args)):FnOK P G f args r:=Vt z tr hm hf hb nA hn vJ hr oL h
