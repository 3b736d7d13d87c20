/- Values without memory: objects that are known by their exact pointers; their owners are ghosts in boxes' cells. -/
import Derived.Test.YtjfjdomfldolcaaGreatVlCode
import Derived.Test.YtjfjdomfldolcaaGreatVlDraw
import Derived.Scope
set_option linter.all false
namespace Go.Vl
open Go Go.RowKit
section
variable {P:Program} {G:Gl} {tr:List Nat} {n:Nat} {I0:Ft} {M:Mx} {w0:World} {I:Ft} {β:Nat→Option Nat} {ob:Loc→Option Nat} {s:S} {a:Act} {w:World} {o:Oper}
 {next:Act→World→Prop} {Q:Exit→Act→World→Prop} {base:Nat→Prop} {v:Value} {x y:V}
theorem Q7 (w:World) (o:Obj):(w.alloc o).heap[w.heap.size]?=some o:=Array.getElem?_push_size
theorem On {T:TypeId} {i:TI} {blk q e sz cap:Nat} {cur:Array Value} {es:List (List C)} {K:V→Prop} (hi:ti P T=some i) (g1:w.heap[blk]?=some (.cells cur e (0,0))) (g2:cur.size=cap*sz) (g4:es.length≤cap) (g3:∀ x∈es,x.length=sz)
 (g5:∀ j c,es.flatten[j]?=some c→CR I w (cur.getD j undef) c) (h:dC i.agg i.size q es.flatten K) :
 ∃ z u,K z∧LR (Wr M w0) I β w none u z∧(Instr.loadAt T (.pointer (some ⟨blk,q,none⟩))).run P w=.ok u w:=by
 obtain⟨j,d,h1,h2,_,fW,_,kT,_⟩:=bB hi
 simp only[Instr.loadAt,Instr.sureAddr,aF,bg,ax]
 have kP:=bI es g3
 have jW:=aO sz g4
 have jc:Cells I w (cur.extract 0 es.flatten.length) es.flatten:=by
  refine⟨by rw[iz];omega,fun j c hj=>?_⟩
  have NG:=(ah.1 hj).1
  have e0:(cur.extract 0 es.flatten.length).getD j undef=cur.getD j undef:=by
   rw[aj,aj,dA]
   rw[if_pos (by omega),aX]
  rw[e0];exact g5 j c hj
 obtain⟨z,v,hz,hZ,hv⟩:=nW (base:=Wr M w0) (β:=β) h jc
 have oE:(cur.extract 0 es.flatten.length).size=es.flatten.length:=jc.1
 refine⟨z,v,hz,hZ,?_⟩
 have fb:=fun q=>ff w blk q cur e (0,0) g1
 have hL:es.flatten.length≤cur.size:=by omega
 clear jc kP
 generalize es.flatten.length=L at hv oE hL
 rcases hv with⟨h3,h4,rfl⟩ | ⟨h3,h4⟩
 ·rw[oE] at h4
  rw[jL T d h2 blk q (fun p=>cur.getD (q+p) undef) i.size (by rw[fW,eA h1]) (fun p hp=>by rw[fb];simp[ay (show q+p<cur.size by omega)]) (fun hz=>by rw[← kT,h3] at hz;cases hz),← kT,h3]
  simp only[db]
  congr 2
  apply dn
  apply gI
  intro p
  rw[aM,aM,dA,dA]
  by_cases hp:p<i.size
  ·rw[if_pos (by rw[iz];omega),if_pos (by omega)]
   simp[hp,show q+p<cur.size from by omega]
  ·rw[if_neg (by rw[iz];omega)]
   simp[hp]
 ·have ho:=(bh.1 h4).1
  rw[oE] at ho
  have JA:cur[q]?=some v:=by
   rw[← h4,dA,if_pos (by omega),aX]
  unfold loadVar
  have yw:cZ P T=false:=by rw[← kT];exact h3
  simp[lx T d h2,yw,fb,JA]
theorem FI {T:TypeId} {X:Operand} {K:V→Prop} (aR:St G n I0 M w0 I β ob s a w) (h:wm P s T (ev G s X) K) :
 ∃ z u,K z∧LR (Wr M w0) I β w none u z∧(Instr.loadAt T (a.eval X)).run P w=.ok u w:=by
 unfold wm at h
 split at h
 ·rename_i i blk q hi hx
  have Mi:=bH aR X
  rw[hx] at Mi
  have hpe:=Mi.toC.ex_inv
  obtain⟨b,k,len,cap,e,sz,es,⟨hb,hk⟩,h⟩:=h
  obtain⟨cur,⟨g1,g2,g3,g4,g5,g6,g7⟩,_⟩:=aR.ggSet hb hk
  rw[hpe]
  exact On hi g2 g3 g4 g5 g6 h
 ·exact h.elim
theorem FK {T:TypeId} {p X:Operand} {K:(Nat→List V)→Prop} (aR:St G n I0 M w0 I β ob s a w) (h:A4 P s T (ev G s p) (ev G s X) K) :
 ∃ bx w',K bx∧(Instr.storeAt T (a.eval p) (a.eval X)).run P w=.ok () w'∧St G n I0 M w0 I β ob { s with bx:=bx } a w':=by
 unfold A4 at h
 split at h
 ·rename_i i blk j cs hi hp jc
  obtain⟨b,k,len,cap,E,sz,row,⟨hb,hk,jI,hjr⟩,h⟩:=h
  obtain⟨j',d,EL,JD,_,fW,_,kT,_⟩:=bB hi
  have Mi:=bH aR p
  rw[hp] at Mi
  have hpe:=Mi.toC.ex_inv
  have qY:=GQ (bH aR X) jc
  obtain⟨cur,⟨g1,g2,g3,g4,g5,g6,g7⟩,rA⟩:=aR.ggSet hb hk
  have zd:row.length=sz:=g5 row (by simp)
  have CN:(a.eval X).cells.toList.length=i.size:=by rw[bP,qY.1,jI]
  have Mj:cur.toList.length=cur.size:=bP
  have jW:sz≤cur.size:=by
   have:=aO sz g4
   simp only[bF,mD] at this
   omega
  have JE:RelL I w (a.eval X).cells.toList cs:=fun q c hq=>by
   have:=qY.2 q c hq
   have mZ:q<(a.eval X).cells.size:=by rw[qY.1];exact(ah.1 hq).1
   refine⟨(a.eval X).cells[q],by rw[aM,ay mZ],?_⟩
   rw[aj,ay mZ] at this
   exact this
  have JF:∀ u∈(a.eval X).cells.toList,u.oneCell'=true:=fun u hu=>by
   obtain⟨q,hq⟩:=da.1 hu
   have mZ:q<cs.length:=by rw[jI,← CN];exact(ah.1 hq).1
   obtain⟨u',A1,iW⟩:=JE q _ (ae mZ)
   rw[hq] at A1;cases A1
   exact iW.oneCell
  have kP:([row]:List (List C)).flatten=row:=by simp
  have tQ:RelL I w cur.toList row:=fun q c hq=>by
   have mZ:=(ah.1 hq).1
   refine⟨cur.getD q undef,?_,g6 q c (by rw[kP];exact hq)⟩
   rw[aM,aj,ay (show q<cur.size by omega)];rfl
  have bM:(Instr.storeAt T (a.eval p) (a.eval X)).run P w=.ok () (w.setRow blk (cur.toList.take j++(a.eval X).cells.toList++cur.toList.drop (j+i.size)).toArray):=by
   rw[hpe]
   simp only[Instr.storeAt,Instr.sureAddr,aF,bg,ax]
   unfold storeVar
   simp only[aF,e9 w EL,ax]
   rw[if_neg (by rw[eA EL,← fW,qY.1,jI];simp)]
   have:=fO (P:=P) blk j (.of E) (a.eval X).cells.toList 0 cur w g2 RT.of_ok (by rw[CN];omega) JF
   rw[CN] at this
   simpa using this
  have pj:=rA [row.take j++cs++row.drop (j+cs.length)] (cur.toList.take j++(a.eval X).cells.toList++cur.toList.drop (j+i.size)) (by simp) (fun x hx=>by
   rw[a7] at hx;subst hx
   rw[ai,ai,aN,cW,bO (by omega)];omega)
   (by rw[ai,ai,CN,aN,cW,Mj,bO (by omega)];omega)
   (fun u hu=>by
    rcases aV.1 hu with hu | hu
    ·rcases aV.1 hu with hu | hu
     ·exact g7 u (cm.1 (cn hu))
     ·exact JF u hu
    ·exact g7 u (cm.1 (cT hu)))
   (by
    rw[show([row.take j++cs++row.drop (j+cs.length)]:List (List C)).flatten=row.take j++cs++row.drop (j+cs.length) by simp,jI]
    refine RelL.append (RelL.append (tQ.take _) JE ?_) (tQ.drop _) ?_
    ·rw[aN,aN,Mj,bO (by omega),bO (by omega)]
    ·rw[ai,ai,CN,jI,aN,aN,Mj,bO (by omega),bO (by omega)])
  exact⟨_,_,h,bM,pj⟩
 ·exact h.elim
theorem C6 {T:TypeId} {X:Operand} {K:S→Prop} (aR:St G n I0 M w0 I β ob s a w) (ct:o.op=.box T X) (hd:∀ d,o.dst=some d→d<n) (h:xm P s o.dst T (ev G s X) K)
 (hk:∀ a' w' s',K s'→SE G n I0 M w0 s' a' w'→next a' w'):o.wp P a w next Q:=by
 unfold xm at h
 split at h
 ·rename_i i cs hi jc
  obtain⟨b,k,y,⟨jI,tV,hb,V7,Ql⟩,h⟩:=h
  obtain⟨j',d,EL,JD,_,fW,_,kT,_⟩:=bB hi
  have qY:=GQ (bH aR X) jc
  have hs:=aR.allocOwn (.cells (a.eval X).cells T)
  have tq:=aR.fresh (ab _)
  have hI:∀ b k,I b k→I b k∧(w.alloc (.cells (a.eval X).cells T)).cell? ⟨b,k,none⟩=w.cell? ⟨b,k,none⟩:=fun b k hb=>⟨hb,dQ (a:=⟨b,k,none⟩) (ep w _ b (aR.ibnd b k hb))⟩
  have jE:∀ u∈(a.eval X).cells,u.oneCell'=true:=fun u hu=>by
   obtain⟨q,hq,rfl⟩:=fA.1 hu
   have mZ:q<cs.length:=by rw[← qY.1];exact hq
   have:=qY.2 q _ (ae mZ)
   rw[aj,ay hq] at this
   exact CR.oneCell this
  have gy:OwnG (Wr M w0) I (w.alloc (.cells (a.eval X).cells T)) (some (T,i.size)) [cs] (some w.heap.size) (.slice (some ⟨w.heap.size,0,none⟩) 1 1):=by
   refine .inr ⟨T,w.heap.size,1,(a.eval X).cells,i.size,rfl,rfl,rfl,.inl aR.below.size,Q7 w _,ab _,by decide,by rw[qY.1,jI,mD],fun x hx=>by rw[a7] at hx;subst hx;exact jI,fun j c hj=>?_,jE,fun q hq=>?_⟩
   ·have hj:cs[j]?=some c:=by simpa using hj
    exact(qY.2 j c hj).mono hI
   ·have:=aR.ibnd _ _ hq;omega
  have g1:=hs.giveAny (b:=b) (k:=k) (x':=.gg (.slice (some ⟨w.heap.size,0,none⟩) 1 1) (some (T,i.size)) [cs]) (o':=some w.heap.size) hb V7 Ql rfl (fun c hc=>by
   cases hc
   refine⟨⟨by rw[eu];omega,.inl aR.below.size⟩,fun L hL=>tq.1 L hL,fun i hi=>tq.2 i hi⟩) (fun v=>by simp only[LR];exact gy)
  refine ey (v':=.pointer (some ⟨w.heap.size,0,none⟩)) (w':=w.alloc (.cells (a.eval X).cells T)) ?_ (hk _ _ _ (h w.heap.size) (SE.put g1 hd (.ofC (.ex _ rfl rfl))))
  obtain⟨dst,op,type,pos,after,guard⟩:=o
  simp only at ct;subst ct
  simp[execOp,Instr.box,newVar,newRow]
 ·exact h.elim
theorem FM {T:TypeId} {k:V} {K:S→V→Prop} {vx vk:Value} {ox oy:Option Nat} (aR:St G n I0 M w0 I β ob s a w) (h:J8 P T s x k K)
 (hx:LR (Wr M w0) I β w ox vx x) (hy:LR (Wr M w0) I β w oy vk k) :
 ∃ s' ob' w' z u,K s' z∧(Instr.mapEntry T vx vk).run P w=.ok u w'∧St G n I0 M w0 I β ob' s' a w'∧LR (Wr M w0) I β w' none u z:=by
 obtain⟨kt0,et0,⟨hu0,hz0⟩,h⟩:=h
 obtain⟨i,bs,cl,r,res,z0,blk,kt,et,es,zv,hK,rfl,rfl,hm,hu,vK,Dn,mX,V0,Qf⟩:=o4 aR h hx hy
 rw[hu0] at hu
 simp only[ao,TypeDesc.map.injEq] at hu
 obtain⟨rfl,rfl⟩:=hu
 have tM:zv=.slice none 0 0:=by
  have:=hz0 w
  rw[V0] at this
  injection this
 have hg:=fh (P:=P) hm.heap
 have hI:∀ (o':Obj) b o,I b o→I b o∧(World.putObj w blk o').cell? ⟨b,o,none⟩=w.cell? ⟨b,o,none⟩:=fun o' b o hb=>
  ⟨hb,aR.keeps (o6 blk o') (fun r e o ho=>by cases e;exact absurd ho (hm.fr o)) b o hb⟩
 have ajg:LR (Wr M w0) I β w none zv nilC:=by rw[tM];exact .ofC (.ex _ rfl rfl)
 cases res with
 |some j=>
  obtain⟨e,he,Ax,JH⟩:=mX j rfl
  simp only[b8,he,cx] at Dn
  obtain⟨l1,l2⟩:=hm.ent j e he
  have he':es[j]?=some e:=by rw[← aM];exact he
  have hbj:bs.getD j 0=e.born:=by rw[← hm.born];simp[List.getD,he]
  have ou:up s.bx i (V.mk bs cl::r)=s.bx:=by rw[← hm.bx];exact sB _ _
  have cK:∃ ob',St G n I0 M w0 I β ob' s a (World.putObj w blk (.map (es.modify j fun e=>{ e with key:=vk }) cl)):=by
   have nM:∀ q,(es.modify j fun e=>{ e with key:=vk }).toList[q]?=es.toList[q]?:=fun q=>by
    rw[Array.toList_modify,List.getElem?_modify]
    by_cases hq:j=q
    ·subst hq;rw[he,← Ax];simp
    ·cases es.toList[q]?<;>simp[hq]
   have hl:(es.modify j fun e=>{ e with key:=vk })=es:=dn (gI nM)
   rw[hl]
   obtain⟨ob',h'⟩:=aR.reMap hm (es':=es) (bs':=bs) (cl':=cl) (r':=r) (od:=fun q=>ob (.b i q)) hm.born hm.len (fun _ _ h=>h) hm.ent
   rw[ou] at h'
   exact⟨ob',h'⟩
  obtain⟨ob',cK⟩:=cK
  refine⟨s,ob',_,_,.tuple #[e.val,.int .i64 e.born],hK,?_,cK,?_⟩
  ·simp[Instr.mapEntry,aP hu0,hg,vK,Dn,he',JH,fQ _ hm.heap,Result.andThen,World.putObj,goInt]
  ·simp only[LR]
   rw[hbj]
   exact(WX (vN l2) (.c _ _ (.lit _ rfl))).mono (hI _)
 |none=>
  simp only[jJ] at Dn
  obtain⟨ob',cK⟩:=wv aR hm (hy.fz none) ajg
  refine⟨_,ob',_,_,.tuple #[zv,.int .i64 cl],hK,?_,cK,?_⟩
  ·simp[Instr.mapEntry,aP hu0,hg,vK,Dn,V0,fQ _ hm.heap,Result.andThen,World.putObj,goInt]
  ·simp only[LR]
   exact(WX (vN ajg) (.c _ _ (.lit _ rfl))).mono (hI _)
theorem Kv {K:S→Prop} (aR:St G n I0 M w0 I β ob s a w) (hd:∀ d,o.dst=some d→d<n) (h:vE P G o s K)
 (hk:∀ a' w' s',K s'→SE G n I0 M w0 s' a' w'→next a' w'):o.wp P a w next Q:=by
 unfold vE at h
 split at h
 ·rename_i T X ct
  exact C6 aR ct hd h hk
 ·rename_i T X ct
  obtain⟨z,u,hK,hZ,bM⟩:=FI aR h
  refine ey (v':=u) (w':=w) ?_ (hk _ _ _ hK (SE.put aR hd hZ))
  obtain⟨dst,op,type,pos,after,guard⟩:=o
  simp only at ct;subst ct
  simp only[execOp,aF,bM,ax,bg]
 ·rename_i T p X ct
  obtain⟨bx,w',hK,bM,cK⟩:=FK aR h
  unfold Oper.wp
  obtain⟨dst,op,type,pos,after,guard⟩:=o
  simp only at ct;subst ct
  simp only[execOp,aF,bM,ax,bg,Oper.upon]
  exact hk _ _ _ hK (SE.put (v:=undef) (x:=.sk) cK hd (by simp only[LR];exact .sk))
 ·rename_i T m k ct
  obtain⟨s',ob',w',z,u,hK,bM,cK,hZ⟩:=FM aR h (bH aR m) (bH aR k)
  refine ey (v':=u) (w':=w') ?_ (hk _ _ _ hK (SE.put cK hd hZ))
  obtain⟨dst,op,type,pos,after,guard⟩:=o
  simp only at ct;subst ct
  simp only[execOp,aF,bM,ax,bg]
 ·exact h.elim
theorem W7 {K:S→Prop} (h:vE P G o s K):∀ c,o.op≠.defer c:=fun c hc=>by
 unfold vE at h
 rw[hc] at h
 exact h
end
section
variable {P:Program} {G:Gl} {tr:List Nat} {n:Nat} {I0:Ft} {M:Mx} {w0:World} {I:Ft} {β:Nat→Option Nat} {ob:Loc→Option Nat} {s:S} {a:Act} {w:World} {o:Oper}
 {Q:Exit→Act→World→Prop} {base:Nat→Prop} {v:Value} {x y:V}
theorem St.split (h:St G n I0 M w0 I β ob s a w) {b k q:Nat} {E:Option (TypeId×Nat)} {es:List (List C)} (hb:b<s.nb) (hk:(s.bx b)[k]?=some (.ow E es)) (hq:q<n):∃ v,SE G n I0 M w0 (s.split b k q v E es) a w:=by
 obtain⟨blk,cur,e1,e2,e3,e4,e5,e7⟩:=h.bx b hb
 have qu:k<(s.bx b).length:=(ah.1 hk).1
 have fb:(s.bx b).getD k .un=.ow E es:=by simp[List.getD,hk]
 have gy:=e5 k
 rw[fb] at gy
 simp only[LR] at gy
 have Wx:∃ x y z,cur.getD k undef=.slice x y z:=by
  rcases gy.1.sl_inv with⟨⟨x,y,h1,_⟩,_⟩ | ⟨x,y,z,_,_,h1,_⟩
  ·exact⟨_,_,_,h1⟩
  ·exact⟨_,_,_,h1⟩
 obtain⟨x,y,z,Wx⟩:=Wx
 have hex:CR I w (cur.getD k undef) (.ex (cur.getD k undef)):=by rw[Wx];exact .ex _ rfl rfl
 have fc:∀ L c,upL ob (.b b k) none L=some c→L≠.b b k∧ob L=some c:=fun L c hL=>by
  simp only[upL] at hL
  split at hL
  ·cases hL
  ·rename_i gW;exact⟨gW,hL⟩
 have h1:St G n I0 M w0 I β (upL ob (.b b k) none) { s with bx:=up s.bx b ((s.bx b).set k (.c (.ex (cur.getD k undef)))) } a w:={
  size:=h.size,defers:=h.defers,below:=h.below,ilow:=h.ilow,kept:=h.kept,ihigh:=h.ihigh,ibnd:=h.ibnd
  fr:=fun t=>by
   have:=h.fr t
   have e:upL ob (.b b k) none (.t t)=ob (.t t):=by simp[upL]
   rw[e];exact this
  bx:=fun i hi=>by
   by_cases qy:i=b
   ·subst qy
    refine⟨blk,cur,e1,e2,?_,by simp only[bW,gf];exact e4,fun j=>?_,e7⟩
    ·simp only[bW]
     refine e3.congr (by simp) ?_
     unfold qZ
     by_cases xd:k=0
     ·subst xd
      have:((s.bx i).set 0 (.c (.ex (cur.getD 0 undef)))).getD 0 .un=.c (.ex (cur.getD 0 undef)):=by simp[List.getD,qu]
      rw[this,fb]
     ·have:((s.bx i).set k (.c (.ex (cur.getD k undef)))).getD 0 .un=(s.bx i).getD 0 .un:=by simp[List.getD,c8 xd]
      rw[this]
    ·simp only[bW]
     by_cases hjk:j=k
     ·subst hjk
      have:((s.bx i).set j (.c (.ex (cur.getD j undef)))).getD j .un=.c (.ex (cur.getD j undef)):=by simp[List.getD,qu]
      rw[this]
      have e:upL ob (.b i j) none (.b i j)=none:=by simp[upL]
      rw[e];exact .ofC hex
     ·have:((s.bx i).set k (.c (.ex (cur.getD k undef)))).getD j .un=(s.bx i).getD j .un:=by simp[List.getD,c8 (gJ hjk)]
      rw[this]
      have e:upL ob (.b i k) none (.b i j)=ob (.b i j):=by simp[upL,hjk]
      rw[e];exact e5 j
   ·obtain⟨tn,cur',q1,q2,q3,q4,q5,q7⟩:=h.bx i hi
    refine⟨tn,cur',q1,q2,by simp only[cY _ _ qy];exact q3,by simp only[cY _ _ qy];exact q4,fun j=>?_,q7⟩
    simp only[cY _ _ qy]
    have e:upL ob (.b b k) none (.b i j)=ob (.b i j):=by simp[upL,qy]
    rw[e];exact q5 j
  bnone:=h.bnone,ext:=h.ext,bnew:=h.bnew,binj:=h.binj
  oinj:=fun L L' c q1 q2=>h.oinj L L' c (fc L c q1).2 (fc L' c q2).2
  obx:=fun L c i q1=>h.obx L c i (fc L c q1).2
  obnd:=fun L c q1=>h.obnd L c (fc L c q1).2
  glob:=h.glob }
 have h2:=h1.put q hq (v:=a.tmps.getD q undef) (x:=.gh (cur.getD k undef) E es) (o:=ob (.b b k)) (by simp only[LR];exact gy) (fun c hc=>by
  refine⟨h.obnd _ c hc,fun L hL=>?_,fun i=>h.obx _ c i hc⟩
  simp only[upL] at hL
  split at hL
  ·cases hL
  ·split at hL
   ·cases hL
   ·rename_i q1 q2;exact q2 (h.oinj _ _ c hL hc))
 rw[jn (by rw[h.size];exact hq)] at h2
 exact⟨_,_,_,_,h2⟩
theorem ahg {I:Ft} {w:World} {v u:Value} (h:DR I w v (.c (.ex u))):v=u:=by
 cases h with
 |c _ _ h=>exact h.ex_inv
theorem mj {ops:Array Oper} {K:S→Prop} (eH:mf n ops=true) (h:GsK ops K s) (dE:SE G n I0 M w0 s a w):∃ s',K s'∧SE G n I0 M w0 s' a w:=by
 have Qj:∀ {ob:Loc→Option Nat} {β:Nat→Option Nat} {I:Ft} {s:S} (aR:St G n I0 M w0 I β ob s a w) {L0:Loc} {blk:Nat},ob L0=some blk→∀ L,upL ob L0 none L≠some blk:=fun aR L0 blk h0 L hL=>by
  simp only[upL] at hL
  split at hL
  ·cases hL
  ·rename_i gW;exact gW (aR.oinj _ _ blk hL h0)
 induction h with
 |done h=>exact⟨_,h,dE⟩
 |warm b k hb hk _ ih=>
  obtain⟨I,β,ob,aR⟩:=dE
  refine ih (aR.reword hb hk rfl rfl fun cur hx=>?_)
  have Cx:OwnR (Wr M w0) I w none [] (ob (.b b k)) (cur.getD k undef):=hx
  rcases Cx.2 with⟨h1,_,a,h2⟩ | ⟨_,_,_,_,_,_,h2,_⟩
  ·exact⟨(fun _ h=>by cases h),.inl ⟨h1,rfl,rfl,a,h2⟩⟩
  ·cases h2
 |@warmT s t ht _ ih=>
  obtain⟨I,β,ob,aR⟩:=dE
  have hx:=aR.fr t
  rw[ht] at hx
  have Cx:OwnR (Wr M w0) I w none [] (ob (.t t)) (a.tmps.getD t undef):=hx
  obtain⟨av,hv⟩:∃ av,a.tmps.getD t undef=.slice av 0 0:=by
   rcases Cx.2 with⟨_,_,av,h2⟩ | ⟨_,_,_,_,_,_,h2,_⟩
   ·exact⟨av,h2⟩
   ·cases h2
  have rC:t<n:=by
   rcases dG t n with h' | h'
   ·exact h'
   ·exfalso
    have e0:a.tmps.getD t undef=undef:=by rw[aj,dB (by rw[aR.size];exact h')];rfl
    rw[e0] at hv
    simp[undef] at hv
  have dE:=aR.put t rC (v:=a.tmps.getD t undef) (x:=.gs none none []) (o:=none) (by simp only[LR];exact⟨fun _ h=>(by cases h),.inl ⟨rfl,rfl,rfl,av,hv⟩⟩) FreeOb.nothing
  rw[jn (by rw[aR.size];exact rC)] at dE
  exact ih ⟨_,_,_,dE⟩
 |warmX b k hb hk _ ih=>
  obtain⟨I,β,ob,aR⟩:=dE
  refine ih ⟨_,_,_,aR.reown hb hk rfl rfl (.inl rfl) fun cur hx=>?_⟩
  simp only[LR] at hx ⊢
  exact⟨(fun _ h=>by cases h),.inl ⟨rfl,rfl,rfl,none,ahg hx⟩⟩
 |name b k hb kE hk _ ih=>
  obtain⟨I,β,ob,aR⟩:=dE
  obtain⟨blk,cur,h1,h2,h3,h4⟩:=aR.gsCell hb kE hk
  exact ih _ h4.gsV ⟨_,_,_,aR.reownAt hb kE h1 h2 hk rfl (.inr rfl) ⟨fun u e=>by cases e;rfl,h4⟩⟩
 |forget b k hb hk Ql _ ih=>
  obtain⟨I,β,ob,aR⟩:=dE
  exact ih ⟨_,_,_,aR.giveAny (x':=.un) (o':=none) hb hk Ql rfl (fun c e=>by cases e) (fun v=>by simp only[LR];exact .un _)⟩
 |unname b k hb hk _ ih=>
  obtain⟨I,β,ob,aR⟩:=dE
  exact ih (aR.reword hb hk rfl rfl fun cur hx=>⟨(fun _ h=>by cases h),hx.gsO.2⟩)
 |split b k q hb kE hk hq _ ih=>
  obtain⟨I,β,ob,aR⟩:=dE
  obtain⟨blk,cur,h1,h2,h3,h4⟩:=aR.gsCell hb kE hk
  rw[dU] at hq
  obtain⟨o,ho,EM⟩:=hq
  have Qk:=eX eH ho q (by simpa using EM)
  have g1:=aR.reownAt (x':=.c (.ex (cur.getD k undef))) (o':=none) hb kE h1 h2 hk rfl (.inl rfl) (.ofC h4.exact)
  have g2:=g1.put q Qk (v:=a.tmps.getD q undef) (x:=.gg (cur.getD k undef) _ _) (o:=ob (.b b k)) (by simp only[LR];exact h4) (fun c hc=>by
   refine⟨aR.obnd _ c hc,fun L hL=>?_,fun i=>aR.obx _ c i hc⟩
   simp only[upL] at hL
   split at hL
   ·cases hL
   ·split at hL
    ·cases hL
    ·rename_i q1 q2;exact q2 (aR.oinj _ _ c hL hc))
  rw[jn (by rw[aR.size];exact Qk)] at g2
  exact ih _ (fun u hu=>(h3 u hu).symm) h4.gsV ⟨_,_,_,g2⟩
 |@box s b k g e sz es hb kE hk _ ih=>
  obtain⟨I,β,ob,aR⟩:=dE
  obtain⟨blk,cur,h1,h2,h3,h4⟩:=aR.gsCell hb kE hk
  rcases h4 with⟨_,hE,_⟩ | ⟨e',blk2,cap,row,sz',r1,r2,r3,r4,r5,r6,r7,r8,r9,r10,r11,r12⟩
  ·cases hE
  cases r2
  have qu:k<(s.bx b).length:=(ah.1 hk).1
  have g1:=aR.reownAt (x':=.un) (o':=none) hb kE h1 h2 hk rfl (.inl rfl) (by simp only[LR];exact .un _)
  have kP:=bI es r9
  have jW:=aO sz r6
  have g2:=g1.adopt (T:=.of e) (cs:=es.flatten) r4 r5 RT.of_ok r11 (by omega) r10 (Qj aR r1) (fun i=>aR.obx _ _ i r1) r12
  have WG:b≠s.nb:=by omega
  have Wb:cy ((s.bx b).set k .un)=false:=by
   unfold cy at kE ⊢
   by_cases xd:k=0
   ·subst xd
    have:((s.bx b).set 0 .un).getD 0 .un=.un:=by simp[List.getD,qu]
    rw[this];rfl
   ·have:((s.bx b).set k .un).getD 0 .un=(s.bx b).getD 0 .un:=by simp[List.getD,c8 xd]
    rw[this];exact kE
  have Gz:({ fr:=s.fr,bx:=up (up s.bx b ((s.bx b).set k .un)) s.nb (es.flatten.map .c),nb:=s.nb+1 }:S).bx b=(s.bx b).set k .un:=by
   show up (up s.bx b _) s.nb _ b=_
   rw[cY _ _ WG,bW]
  have Qt:up β s.nb (some blk2) b=some blk:=by rw[cY _ _ WG];exact h1
  have g3:=g2.reownAt (b:=b) (k:=k) (blk:=blk) (cur:=cur) (x:=.un) (x':=.ms s.nb 0 es.length es.length sz) (o':=none) (by show b<s.nb+1;omega) (by rw[Gz];exact Wb) Qt (by
   rw[Gz]
   refine h2.congr (by simp) ?_
   rw[gQ kE,gQ Wb]) (by rw[Gz];simp[qu]) rfl (.inl rfl) (by
   simp only[LR]
   exact⟨ab _,blk2,0,cap,r6,bW _ _ _,.inr rfl,r3⟩)
  rw[Gz] at g3
  have zj:({ fr:=s.fr,bx:=up (up (up s.bx b ((s.bx b).set k .un)) s.nb (es.flatten.map .c)) b (((s.bx b).set k .un).set k (.ms s.nb 0 es.length es.length sz)),nb:=s.nb+1 }:S)=
   ⟨s.fr,up (up s.bx b ((s.bx b).set k (.ms s.nb 0 es.length es.length sz))) s.nb (es.flatten.map .c),s.nb+1⟩:=by
   congr 1
   rw[List.set_set]
   funext i
   simp only[up]
   by_cases hi:i=b
   ·subst hi;simp[WG]
   ·simp[hi]
  have g4:SE G n I0 M w0 _ a w:=⟨_,_,_,g3⟩
  exact ih (by rw[← zj];exact g4)
 |@boxT s t g e sz es ht _ ih=>
  obtain⟨I,β,ob,aR⟩:=dE
  have hx:=aR.fr t
  rw[ht] at hx
  rcases hx.gsO.2 with⟨_,hE,_⟩ | ⟨e',blk2,cap,row,sz',r1,r2,r3,r4,r5,r6,r7,r8,r9,r10,r11,r12⟩
  ·cases hE
  cases r2
  have rC:t<n:=by
   rcases dG t n with h' | h'
   ·exact h'
   ·exfalso
    have e0:a.tmps.getD t undef=undef:=by rw[aj,dB (by rw[aR.size];exact h')];rfl
    rw[e0] at r3;simp[undef] at r3
  have kP:=bI es r9
  have jW:=aO sz r6
  have g2:=(aR.clr t).adopt (T:=.of e) (cs:=es.flatten) r4 r5 RT.of_ok r11 (by omega) r10 (Qj aR r1) (fun i=>aR.obx _ _ i r1) r12
  have g3:=g2.put t rC (v:=a.tmps.getD t undef) (x:=.ms s.nb 0 es.length es.length sz) (o:=none) (by
   simp only[LR]
   exact⟨ab _,blk2,0,cap,r6,bW _ _ _,.inr rfl,r3⟩) FreeOb.nothing
  rw[jn (by rw[aR.size];exact rC)] at g3
  have zj:(({ s.clr t with bx:=up s.bx s.nb (es.flatten.map .c),nb:=s.nb+1 }:S).put (some t) (.ms s.nb 0 es.length es.length sz))=⟨up s.fr t (.ms s.nb 0 es.length es.length sz),up s.bx s.nb (es.flatten.map .c),s.nb+1⟩:=by
   simp only[S.put,S.clr]
   congr 1
   funext r
   simp only[up]
   split<;>rfl
  have g4:SE G n I0 M w0 _ a w:=⟨_,_,_,g3⟩
  exact ih (by rw[← zj];exact g4)
 |@cool s b k g E es hb hk _ ih=>
  obtain⟨I,β,ob,aR⟩:=dE
  cases jV:ob (.b b k) with
  |none=>
   refine ih (aR.reword hb hk rfl rfl fun cur hx=>?_)
   rcases hx.gsO.2 with⟨h1,h2,h3,a,h4⟩ | ⟨_,_,_,_,_,h1,_⟩
   ·subst h2;subst h3
    rw[h4]
    exact⟨.nil a 0 (fun _=>rfl),.inl ⟨h1,rfl,a,rfl⟩⟩
   ·rw[jV] at h1;cases h1
  |some blk=>
   obtain⟨b1,cur,e1,e2,e3,e4,e5,e7⟩:=aR.bx b hb
   have h5:=e5 k
   have mb:(s.bx b).getD k .un=.gs g E es:=by simp[List.getD,hk]
   rw[mb,jV] at h5
   obtain⟨I',i1,i2,i3⟩:=h5.gsO.2.cool
   refine ih ⟨I',β,ob,aR.recell hb hk rfl rfl jV (ui w _) (fun _ _=>rfl) i1 (fun b o h=>(i2 b o h).imp_right fun h=>by cases h;rfl) fun b2 cur2 f1 f2 f3=>?_⟩
   rcases f3.gsO.2 with⟨h1,_⟩ | ⟨e,tn,cap,row,sz,r1,r2,r3,r4,r5,r6,r7,r8,r9,r10,r11,r12⟩
   ·cases h1
   ·obtain⟨j1,j2⟩:=i3
    rcases j2 with⟨h1,_⟩ | ⟨_,_,_,_,_,q1,q2,q3,q4,q5,q6,q7,q8,q9,q10⟩
    ·cases h1
    ·cases r1;cases q1
     rw[r2] at q2;cases q2
     rw[r5] at q5
     simp only[ao,Obj.cells.injEq,gK] at q5
     subst q5
     have zd:CR I' w (cur2.getD k undef) (.sl es):=by
      rw[r3];rw[q3] at j1
      have j7:∀ c1 c2:Nat,es.length≤c2→CR I' w (.slice (some ⟨blk,0,none⟩) es.length c1) (.sl es)→CR I' w (.slice (some ⟨blk,0,none⟩) es.length c2) (.sl es):=fun c1 c2 hc h=>by
       rcases h.sl_inv with⟨⟨_,_,h1,_⟩,h2⟩ | ⟨b',off,cap',sz',f,hv,a1,a2,a3,a4⟩
       ·subst h2;exact .nil _ _ (fun h=>by cases h)
       ·simp only[eM,ao,iE,gK,jt] at hv
        obtain⟨⟨rfl,rfl⟩,rfl⟩:=hv
        exact .sl _ _ _ _ _ f hc a2 a3 a4
      exact j7 _ _ r6 j1
     exact⟨zd,.inr ⟨e,blk,cap,row,sz,rfl,r2,r3,r4,r5,r6,r7,r8,r9,q10⟩⟩
 |@splitB s t b k g E es x ht hb kE hk _ ih=>
  obtain⟨I,β,ob,aR⟩:=dE
  have hx:=aR.fr t
  rw[ht] at hx
  obtain⟨hg,gy⟩:=hx.gsO
  have rC:t<n:=by
   rcases dG t n with h' | h'
   ·exact h'
   ·exfalso
    have e0:a.tmps.getD t undef=undef:=by rw[aj,dB (by rw[aR.size];exact h')];rfl
    rw[e0] at gy
    rcases gy with⟨_,_,_,_,h1⟩ | ⟨_,_,_,_,_,_,_,h1,_⟩<;>simp[undef] at h1
  obtain⟨blk,cur,hβ,h2,h3⟩:∃ blk cur,β b=some blk∧HB w blk cur (s.bx b)∧True:=by
   obtain⟨b1,cur,e1,e2,e3,_⟩:=aR.bx b hb
   exact⟨b1,cur,e1,e3,trivial⟩
  have qu:k<(s.bx b).length:=(ah.1 hk).1
  have g1:=(aR.clr t).reownAt (b:=b) (k:=k) (x':=.un) (o':=none) hb kE hβ h2 hk rfl (.inl rfl) (by simp only[LR];exact .un _)
  have g2:=g1.put t rC (v:=a.tmps.getD t undef) (x:=.c (.ex (a.tmps.getD t undef))) (o:=none) (.ofC gy.exact) FreeOb.nothing
  rw[jn (by rw[aR.size];exact rC)] at g2
  have Wb:cy ((s.bx b).set k .un)=false:=by
   unfold cy at kE ⊢
   by_cases xd:k=0
   ·subst xd
    have:((s.bx b).set 0 .un).getD 0 .un=.un:=by simp[List.getD,qu]
    rw[this];rfl
   ·have:((s.bx b).set k .un).getD 0 .un=(s.bx b).getD 0 .un:=by simp[List.getD,c8 xd]
    rw[this];exact kE
  have Gz:(({ s.clr t with bx:=up (s.clr t).bx b (((s.clr t).bx b).set k .un) }:S).put (some t) (.c (.ex (a.tmps.getD t undef)))).bx b=(s.bx b).set k .un:=by
   show up s.bx b ((s.bx b).set k .un) b=_
   rw[bW]
  have g3:=g2.giveCell (b:=b) (k:=k) (blk:=blk) (cur:=cur) (x':=.gg (a.tmps.getD t undef) E es) (o':=ob (.t t)) hb (by rw[Gz];exact Wb) hβ (by
   rw[Gz]
   refine h2.congr (by simp) ?_
   rw[gQ kE,gQ Wb]) (by rw[Gz];simpa using qu) rfl (fun c hc=>by
   refine⟨aR.obnd _ c hc,fun L hL=>?_,fun i=>aR.obx _ c i hc⟩
   simp only[upL] at hL
   repeat' (split at hL)
   all_goals first
    |(cases hL;done)
    |(exact ‹¬ L=Loc.t t› (aR.oinj _ _ c hL hc))) (by simp only[LR];exact gy)
  rw[Gz] at g3
  have g4:SE G n I0 M w0 ⟨up s.fr t (.c (.ex (a.tmps.getD t undef))),up s.bx b ((s.bx b).set k (.gg (a.tmps.getD t undef) E es)),s.nb⟩ a w:=by
   have g5:SE G n I0 M w0 _ a w:=⟨_,_,_,g3⟩
   have e1:∀ s1 s2:S,s1=s2→SE G n I0 M w0 s1 a w→SE G n I0 M w0 s2 a w:=fun s1 s2 e h=>e▸h
   refine e1 _ _ ?_ g5
   simp only[S.put,S.clr,List.set_set]
   congr 1
   ·funext r;simp only[up];split<;>rfl
   ·funext r;simp only[up];split<;>rfl
  exact ih _ (fun u hu=>(hg u hu).symm) gy.gsV g4
 |@join s b k b' k' v E es hb kE hk yC hmb' gW Qi _ ih=>
  obtain⟨I,β,ob,aR⟩:=dE
  obtain⟨b1,cur1,e1,e2,e3,e4,e5,e7⟩:=aR.bx b hb
  have hv:=e5 k
  have mb:(s.bx b).getD k .un=.c (.ex v):=by simp[List.getD,hk]
  rw[mb] at hv
  have hv:=hv.toC.ex_inv
  obtain⟨b2,cur2,f1,f2,f3,f4,f5,f7⟩:=aR.bx b' yC
  have gy:=f5 k'
  have Wc:(s.bx b').getD k' .un=.gg v E es:=by simp[List.getD,Qi]
  rw[Wc] at gy
  have gy:OwnG (Wr M w0) I w E es (ob (.b b' k')) v:=gy
  have g1:=aR.reownAt (b:=b') (k:=k') (x':=.un) (o':=none) yC hmb' f1 f3 Qi rfl (.inl rfl) (by simp only[LR];exact .un _)
  have uV:({ s with bx:=up s.bx b' ((s.bx b').set k' .un) }:S).bx b=s.bx b:=cY _ _ gW
  have g2:=g1.giveCell (b:=b) (k:=k) (blk:=b1) (cur:=cur1) (x':=.gs (some v) E es) (o':=ob (.b b' k')) hb (by rw[uV];exact kE) e1 (by rw[uV];exact e3) (by rw[uV];exact(ah.1 hk).1) rfl (fun c hc=>by
   refine⟨aR.obnd _ c hc,fun L hL=>?_,fun i=>aR.obx _ c i hc⟩
   simp only[upL] at hL
   split at hL
   ·cases hL
   ·rename_i q1;exact q1 (aR.oinj _ _ c hL hc)) (by rw[hv];exact⟨fun u hu=>by cases hu;rfl,gy⟩)
  rw[uV] at g2
  exact ih ⟨_,_,_,g2⟩
 |@splitC s b k b' k' E es x hb kE hk yC hmb' gW Qi _ ih=>
  obtain⟨I,β,ob,aR⟩:=dE
  obtain⟨b1,cur1,e1,e2,e3,e4,e5,e7⟩:=aR.bx b hb
  have gy:=e5 k
  have mb:(s.bx b).getD k .un=.ow E es:=by simp[List.getD,hk]
  rw[mb] at gy
  have gy:OwnR (Wr M w0) I w E es (ob (.b b k)) (cur1.getD k undef):=gy
  obtain⟨b2,cur2,f1,f2,f3,f4,f5,f7⟩:=aR.bx b' yC
  have g1:=aR.reownAt (b:=b) (k:=k) (x':=.c (.ex (cur1.getD k undef))) (o':=none) hb kE e1 e3 hk rfl (.inl rfl) (.ofC (.ex _ gy.1.oneCell gy.1.notAgg))
  have uV:({ s with bx:=up s.bx b ((s.bx b).set k (.c (.ex (cur1.getD k undef)))) }:S).bx b'=s.bx b':=cY _ _ (gJ gW)
  have g2:=g1.giveCell (b:=b') (k:=k') (blk:=b2) (cur:=cur2) (x':=.gh (cur1.getD k undef) E es) (o':=ob (.b b k)) yC (by rw[uV];exact hmb') f1 (by rw[uV];exact f3) (by rw[uV];exact(ah.1 Qi).1) rfl (fun c hc=>by
   refine⟨aR.obnd _ c hc,fun L hL=>?_,fun i=>aR.obx _ c i hc⟩
   simp only[upL] at hL
   split at hL
   ·cases hL
   ·rename_i q1;exact q1 (aR.oinj _ _ c hL hc)) (by simp only[LR];exact gy)
  rw[uV] at g2
  exact ih _ ⟨_,_,_,g2⟩
 |@ghT s b k q v E es hb kE hk hq _ ih=>
  obtain⟨I,β,ob,aR⟩:=dE
  obtain⟨b1,cur1,e1,e2,e3,e4,e5,e7⟩:=aR.bx b hb
  have gy:=e5 k
  have mb:(s.bx b).getD k .un=.gh v E es:=by simp[List.getD,hk]
  rw[mb] at gy
  have gy:OwnR (Wr M w0) I w E es (ob (.b b k)) v:=gy
  rw[dU] at hq
  obtain⟨o,ho,EM⟩:=hq
  have Qk:=eX eH ho q (by simpa using EM)
  have g1:=aR.reownAt (x':=.un) (o':=none) hb kE e1 e3 hk rfl (.inl rfl) (by simp only[LR];exact .un _)
  have g2:=g1.put q Qk (v:=a.tmps.getD q undef) (x:=.gh v E es) (o:=ob (.b b k)) (by simp only[LR];exact gy) (fun c hc=>by
   refine⟨aR.obnd _ c hc,fun L hL=>?_,fun i=>aR.obx _ c i hc⟩
   simp only[upL] at hL
   split at hL
   ·cases hL
   ·split at hL
    ·cases hL
    ·rename_i q1 q2;exact q2 (aR.oinj _ _ c hL hc))
  rw[jn (by rw[aR.size];exact Qk)] at g2
  exact ih ⟨_,_,_,g2⟩
 |@joinO s b k b' k' v E es hb kE hk yC hmb' gW Qi _ ih=>
  obtain⟨I,β,ob,aR⟩:=dE
  obtain⟨b1,cur1,e1,e2,e3,e4,e5,e7⟩:=aR.bx b hb
  have hv:=e5 k
  have mb:(s.bx b).getD k .un=.c (.ex v):=by simp[List.getD,hk]
  rw[mb] at hv
  have hv:=hv.toC.ex_inv
  obtain⟨b2,cur2,f1,f2,f3,f4,f5,f7⟩:=aR.bx b' yC
  have gy:=f5 k'
  have Wc:(s.bx b').getD k' .un=.gh v E es:=by simp[List.getD,Qi]
  rw[Wc] at gy
  have gy:OwnR (Wr M w0) I w E es (ob (.b b' k')) v:=gy
  have g1:=aR.reownAt (b:=b') (k:=k') (x':=.un) (o':=none) yC hmb' f1 f3 Qi rfl (.inl rfl) (by simp only[LR];exact .un _)
  have uV:({ s with bx:=up s.bx b' ((s.bx b').set k' .un) }:S).bx b=s.bx b:=cY _ _ gW
  have g2:=g1.giveCell (b:=b) (k:=k) (blk:=b1) (cur:=cur1) (x':=.ow E es) (o':=ob (.b b' k')) hb (by rw[uV];exact kE) e1 (by rw[uV];exact e3) (by rw[uV];exact(ah.1 hk).1) rfl (fun c hc=>by
   refine⟨aR.obnd _ c hc,fun L hL=>?_,fun i=>aR.obx _ c i hc⟩
   simp only[upL] at hL
   split at hL
   ·cases hL
   ·rename_i q1;exact q1 (aR.oinj _ _ c hL hc)) (by rw[hv];exact gy)
  rw[uV] at g2
  exact ih ⟨_,_,_,g2⟩
 |@coolT s t g E es ht _ ih=>
  obtain⟨I,β,ob,aR⟩:=dE
  have hx:=aR.fr t
  rw[ht] at hx
  have gy:=hx.gsO.2
  have rC:t<n:=by
   rcases dG t n with h' | h'
   ·exact h'
   ·exfalso
    have e0:a.tmps.getD t undef=undef:=by rw[aj,dB (by rw[aR.size];exact h')];rfl
    rw[e0] at gy
    rcases gy with⟨_,_,_,_,h1⟩ | ⟨_,_,_,_,_,_,_,h1,_⟩<;>simp[undef] at h1
  obtain⟨I',i1,i2,i3⟩:=gy.cool
  have zj:((s.clr t).put (some t) (.ow E es))=⟨up s.fr t (.ow E es),s.bx,s.nb⟩:=by
   simp only[S.put,S.clr]
   congr 1
   funext r
   simp only[up]
   split<;>rfl
  cases jV:ob (.t t) with
  |none=>
   have hII:∀ b k,I' b k→I b k:=fun b k h=>by
    rcases i2 b k h with h | h
    ·exact h
    ·rw[jV] at h;cases h
   have g3:=(aR.clr t).put t rC (v:=a.tmps.getD t undef) (x:=.ow E es) (o:=none) (by
    simp only[LR]
    rw[jV] at i3
    exact i3.mono (fun b o h=>⟨hII b o h,rfl⟩) (fun b h=>by cases h)) FreeOb.nothing
   rw[jn (by rw[aR.size];exact rC),zj] at g3
   exact ih ⟨_,_,_,g3⟩
  |some blk=>
   obtain⟨k1,k2⟩:=aR.obnd _ _ jV
   have g2:=(aR.clr t).growRow (w':=w) (r:=blk) (ui w _) k2 (fun _ _=>rfl) (Qj aR jV) (fun i=>aR.obx _ _ i jV) i1 (fun b o h=>(i2 b o h).imp_right fun h=>by rw[jV] at h;cases h;rfl) k1
   have g3:=g2.put t rC (v:=a.tmps.getD t undef) (x:=.ow E es) (o:=some blk) (by simp only[LR];rw[jV] at i3;exact i3) (fun c hc=>by
    cases hc
    refine⟨⟨k1,k2⟩,fun L hL=>Qj aR jV L ?_,fun i=>aR.obx _ _ i jV⟩
    simp only[upL] at hL ⊢
    split at hL
    ·cases hL
    ·first
     |exact hL
     |(rw[if_neg ‹_›];exact hL))
   rw[jn (by rw[aR.size];exact rC),zj] at g3
   exact ih ⟨_,_,_,g3⟩
 |@joinT s b k t blk len m cap e sz es hb kE hk ht jW _ ih=>
  obtain⟨I,β,ob,aR⟩:=dE
  obtain⟨b1,cur1,e1,e2,e3,e4,e5,e7⟩:=aR.bx b hb
  have hv:=e5 k
  have mb:(s.bx b).getD k .un=.c (.ex (.slice (some ⟨blk,0,none⟩) m cap)):=by simp[List.getD,hk]
  rw[mb] at hv
  have hv:=hv.toC.ex_inv
  have hx:=aR.fr t
  rw[ht] at hx
  have gy:OwnG (Wr M w0) I w (some (e,sz)) es (ob (.t t)) (.slice (some ⟨blk,0,none⟩) len cap):=hx
  rcases gy with⟨_,hE,_⟩ | ⟨e',blk2,cap2,row,sz',r1,r2,r3,r4,r5,r6,r7,r8,r9,r10,r11,r12⟩
  ·cases hE
  cases r2
  simp only[eM,ao,iE,gK] at r3
  obtain⟨rfl,rfl,rfl⟩:=r3
  have NK:(es.take m).length=m:=by rw[aN];omega
  have qx:OwnG (Wr M w0) I w (some (e,sz)) (es.take m) (ob (.t t)) (.slice (some ⟨blk,0,none⟩) m cap):=by
   refine .inr ⟨e,blk,cap,row,sz,r1,rfl,by rw[NK],r4,r5,by omega,r7,r8,fun x hx=>r9 x (cn hx),fun j c hj=>?_,r11,r12⟩
   refine r10 j c ?_
   have hp:(es.take m).flatten <+: es.flatten:=by
    conv=>rhs;rw[← dI m es,dX]
    exact List.prefix_append _ _
   obtain⟨u,hu⟩:=hp
   rw[← hu,az (ah.1 hj).1];exact hj
  have g1:=aR.clr t
  have g2:=g1.giveCell (b:=b) (k:=k) (blk:=b1) (cur:=cur1) (x':=.gs (some (.slice (some ⟨blk,0,none⟩) m cap)) (some (e,sz)) (es.take m)) (o':=ob (.t t)) hb kE e1 e3 (ah.1 hk).1 rfl (fun c hc=>by
   refine⟨aR.obnd _ c hc,fun L hL=>?_,fun i=>aR.obx _ c i hc⟩
   simp only[upL] at hL
   split at hL
   ·cases hL
   ·rename_i q1;exact q1 (aR.oinj _ _ c hL hc)) (by rw[hv];exact⟨fun u hu=>by cases hu;rfl,qx⟩)
  exact ih ⟨_,_,_,g2⟩
 |@more s b hb hl _ ih=>
  obtain⟨I,β,ob,aR⟩:=dE
  exact ih ⟨_,_,_,aR.more hb hl⟩
 |@ggT s b k q v E es hb hk hq _ ih=>
  obtain⟨I,β,ob,aR⟩:=dE
  obtain⟨b1,cur1,e1,e2,e3,e4,e5,e7⟩:=aR.bx b hb
  have gy:=e5 k
  have mb:(s.bx b).getD k .un=.gg v E es:=by simp[List.getD,hk]
  rw[mb] at gy
  have gy:OwnG (Wr M w0) I w E es (ob (.b b k)) v:=gy
  rw[dU] at hq
  obtain⟨o,ho,EM⟩:=hq
  have Qk:=eX eH ho q (by simpa using EM)
  have g1:=aR.reown (x':=.un) (o':=none) hb hk rfl rfl (.inl rfl) (fun _ _=>by simp only[LR];exact .un _)
  have g2:=g1.put q Qk (v:=a.tmps.getD q undef) (x:=.gg v E es) (o:=ob (.b b k)) (by simp only[LR];exact gy) (fun c hc=>by
   refine⟨aR.obnd _ c hc,fun L hL=>?_,fun i=>aR.obx _ c i hc⟩
   simp only[upL] at hL
   split at hL
   ·cases hL
   ·split at hL
    ·cases hL
    ·rename_i q1 q2;exact q2 (aR.oinj _ _ c hL hc))
  rw[jn (by rw[aR.size];exact Qk)] at g2
  exact ih ⟨_,_,_,g2⟩
 |@ggB s t b k g E es x ht hb hk Ql _ ih=>
  obtain⟨I,β,ob,aR⟩:=dE
  have hx:=aR.fr t
  rw[ht] at hx
  obtain⟨hg,gy⟩:=hx.gsO
  have rC:t<n:=by
   rcases dG t n with h' | h'
   ·exact h'
   ·exfalso
    have e0:a.tmps.getD t undef=undef:=by rw[aj,dB (by rw[aR.size];exact h')];rfl
    rw[e0] at gy
    rcases gy with⟨_,_,_,_,h1⟩ | ⟨_,_,_,_,_,_,_,h1,_⟩<;>simp[undef] at h1
  have g2:=(aR.clr t).put t rC (v:=a.tmps.getD t undef) (x:=.c (.ex (a.tmps.getD t undef))) (o:=none) (.ofC gy.exact) FreeOb.nothing
  rw[jn (by rw[aR.size];exact rC)] at g2
  have g3:=g2.giveAny (b:=b) (k:=k) (x:=x) (x':=.gg (a.tmps.getD t undef) E es) (o':=ob (.t t)) hb hk Ql rfl (fun c hc=>by
   refine⟨aR.obnd _ c hc,fun L hL=>?_,fun i=>aR.obx _ c i hc⟩
   simp only[upL] at hL
   repeat' (split at hL)
   all_goals first
    |(cases hL;done)
    |(exact ‹¬ L=Loc.t t› (aR.oinj _ _ c hL hc))) (fun _=>by simp only[LR];exact gy)
  have g4:SE G n I0 M w0 ⟨up s.fr t (.c (.ex (a.tmps.getD t undef))),up s.bx b ((s.bx b).set k (.gg (a.tmps.getD t undef) E es)),s.nb⟩ a w:=by
   have g5:SE G n I0 M w0 _ a w:=⟨_,_,_,g3⟩
   have e1:∀ s1 s2:S,s1=s2→SE G n I0 M w0 s1 a w→SE G n I0 M w0 s2 a w:=fun s1 s2 e h=>e▸h
   refine e1 _ _ ?_ g5
   simp only[S.put,S.clr]
   congr 1
   funext r;simp only[up];split<;>rfl
  exact ih _ (fun u hu=>(hg u hu).symm) gy.gsV g4
 |@gg0 s q hq _ ih=>
  obtain⟨I,β,ob,aR⟩:=dE
  rw[dU] at hq
  obtain⟨o,ho,EM⟩:=hq
  have Qk:=eX eH ho q (by simpa using EM)
  have g2:=aR.put q Qk (v:=a.tmps.getD q undef) (x:=.gg (.slice none 0 0) none []) (o:=none) (by simp only[LR];exact .inl ⟨rfl,rfl,rfl,none,rfl⟩) FreeOb.nothing
  rw[jn (by rw[aR.size];exact Qk)] at g2
  exact ih ⟨_,_,_,g2⟩
 |@joinS s b k t v E es hb kE hk ht _ ih=>
  obtain⟨I,β,ob,aR⟩:=dE
  obtain⟨b1,cur1,e1,e2,e3,e4,e5,e7⟩:=aR.bx b hb
  have hv:=e5 k
  have mb:(s.bx b).getD k .un=.c (.ex v):=by simp[List.getD,hk]
  rw[mb] at hv
  have hv:=hv.toC.ex_inv
  have gy:=aR.fr t
  rw[ht] at gy
  have gy:OwnG (Wr M w0) I w E es (ob (.t t)) v:=gy
  have g2:=(aR.clr t).giveCell (b:=b) (k:=k) (blk:=b1) (cur:=cur1) (x':=.gs (some v) E es) (o':=ob (.t t)) hb kE e1 e3 (ah.1 hk).1 rfl (fun c hc=>by
   refine⟨aR.obnd _ c hc,fun L hL=>?_,fun i=>aR.obx _ c i hc⟩
   simp only[upL] at hL
   split at hL
   ·cases hL
   ·rename_i q1;exact q1 (aR.oinj _ _ c hL hc)) (by rw[hv];exact⟨fun u hu=>by cases hu;rfl,gy⟩)
  exact ih ⟨_,_,_,g2⟩
 |@frz s b k t blk len cap e sz cs hb hk ht _ ih=>
  obtain⟨I,β,ob,aR⟩:=dE
  obtain⟨b1,cur1,e1,e2,e3,e4,e5,e7⟩:=aR.bx b hb
  have gy:=e5 k
  have mb:(s.bx b).getD k .un=.gg (.slice (some ⟨blk,0,none⟩) len cap) (some (e,sz)) [cs]:=by simp[List.getD,hk]
  rw[mb] at gy
  have gy:OwnG (Wr M w0) I w (some (e,sz)) [cs] (ob (.b b k)) (.slice (some ⟨blk,0,none⟩) len cap):=gy
  rcases gy with⟨_,hE,_⟩ | ⟨e',tn,cap',row,sz',r1,r2,r3,r4,r5,r6,r7,r8,r9,r10,r11,r12⟩
  ·cases hE
  cases r2
  simp only[eM,ao,iE,gK] at r3
  obtain⟨rfl,rfl,rfl⟩:=r3
  have htv:=aR.fr t
  rw[ht] at htv
  have htv:=htv.toC.ex_inv
  have rC:t<n:=by
   rcases dG t n with h' | h'
   ·exact h'
   ·exfalso
    have e0:a.tmps.getD t undef=undef:=by rw[aj,dB (by rw[aR.size];exact h')];rfl
    rw[e0] at htv
    simp[undef] at htv
  have zd:cs.length=sz:=r9 cs (by simp)
  have cg:cs.length≤row.size:=by
   have:=aO sz r6
   simp only[bF,mD] at this
   omega
  have g1:=aR.recell (b:=b) (k:=k) (x':=.un) (I':=fun b' o=>I b' o∨(b'=blk∧o<cs.length)) hb hk rfl rfl r1 (ui w _) (fun _ _=>rfl) (fun _ _ h=>.inl h) (fun b o h=>h.imp_right fun h=>h.1) (fun _ _ _ _ _=>by simp only[LR];exact .un _)
  have iW:CR (fun b' o=>I b' o∨(b'=blk∧o<cs.length)) w (.pointer (some ⟨blk,0+0,none⟩)) (.rp cs 0):=by
   refine .rp blk 0 0 cs (fun j=>row.getD j undef) (fun j hj=>⟨?_,.inr ⟨rfl,by omega⟩⟩) (fun j c hc=>?_)
   ·rw[ff w blk _ row e (0,0) r5,aX,ay (show j<row.size by omega),aj,ay (show j<row.size by omega)]
    rfl
   ·exact(r10 j c (by simpa using hc)).mono fun b o h=>⟨.inl h,rfl⟩
  have g2:=g1.put t rC (v:=a.tmps.getD t undef) (x:=.c (.rp cs 0)) (o:=none) (by rw[htv];exact .ofC iW) FreeOb.nothing
  rw[jn (by rw[aR.size];exact rC)] at g2
  exact ih ⟨_,_,_,g2⟩
theorem Oo {id:Nat} {ops:Array Oper} {K:S→Prop} (eH:mf n ops=true) (h:spl tr id ops s K) (dE:SE G n I0 M w0 s a w):∃ s',K s'∧SE G n I0 M w0 s' a w:=by
 unfold spl at h
 split at h
 ·obtain⟨I,β,ob,aR⟩:=dE
  rcases h with⟨b,k,q,E,es,⟨h1,h2,h3⟩,h⟩ | ⟨b,k,g,E,es,⟨h1,h2⟩,h⟩ | ⟨b,k,g,E,es,⟨h1,h2,h3⟩,h⟩ | h
  ·rw[dU] at h3
   obtain⟨o,ho,hq⟩:=h3
   obtain⟨v,hv⟩:=aR.split h1 h2 (eX eH ho q (by simpa using hq))
   exact⟨_,h v,hv⟩
  ·exact⟨_,h,aR.cool h1 h2⟩
  ·obtain⟨blk,cap,hv⟩:=aR.name h1 h3 h2
   exact⟨_,h blk cap,_,_,_,hv⟩
  ·exact mj eH h ⟨_,_,_,aR⟩
 ·exact⟨s,h,dE⟩
def DC (ops:Array Oper) (listed:Array Bool):Prop:=∀ k o,ops[k]?=some o→listed.getD k false=true→∀ e∈o.after,Region.binds .any e=true→listed.getD e.on false=true
theorem DC.step {ops:Array Oper} {listed:Array Bool} {j:Nat} (h:DC ops listed) (hj:j∈Region.ready .any ops listed):DC ops (listed.setIfInBounds j true):=by
 intro k o ho hk e he hb
 obtain⟨_,oj,Ab,eF⟩:=kH.1 hj
 by_cases hkj:k=j
 ·subst hkj
  rw[Ab] at ho;cases ho
  exact Go.getD_set_true (eF e he hb)
 ·rw[ln false (gJ hkj)] at hk
  exact Go.getD_set_true (h k o ho hk e he hb)
def FN (ops:Array Oper) (k i:Nat):Bool:=((ops[k]?).map fun o=>o.after.any fun e=>Region.binds .any e&&(e.on==i)).getD false
def ve (ops:Array Oper) (m:Nat):Bool:=((List.range m).all fun i=>(List.range (m+1)).any fun k=>decide (k≠i)&&FN ops k i)&&
 (List.range ops.size).all fun j=>decide (j≤m)||(List.range ops.size).any fun k=>decide (m≤k)&&decide (k≠j)&&FN ops j k
theorem zD {ops:Array Oper} {k i:Nat} (h:FN ops k i=true):∃ o,ops[k]?=some o∧∃ e∈o.after,Region.binds .any e=true∧e.on=i:=by
 unfold FN at h
 cases ho:ops[k]? with
 |none=>simp[ho] at h
 |some o=>
  simp only[ho,b8,cx] at h
  rw[Array.any_eq_true'] at h
  obtain⟨e,he,h3⟩:=h
  simp only[aS,kr] at h3
  exact⟨o,rfl,e,he,h3.1,h3.2⟩
theorem Q8 {m q j:Nat} (h:m≤j):(nS m q).getD j false=false:=by
 cases hc:(nS m q).getD j false with
 |false=>rfl
 |true=>have:=yS hc;omega
theorem W8 {m q j:Nat} (h:j<m):(nS m q).getD j false=true:=by
 unfold nS
 rw[aj,dq,az (by simpa using h)]
 simp[h]
theorem FO {ops:Array Oper} {K0:S→Prop} {m:Nat} (JI:ve ops m=true) {i:Nat} {oi:Oper} {e:Ef} (hi:ops[i]?=some oi) :
 ∀ (fuel:Nat) (listed:Array Bool) (s:S),listed.size=ops.size→DC ops listed→FreeAt tr .any ops listed i oi→
  i∈Region.ready .any ops listed→TEf P G tr ops oi s e→
  xI P G tr ops (nS m ops.size) K0 fuel (listed.setIfInBounds i true) (e.run tr oi s)→xI P G tr ops (nS m ops.size) K0 (fuel+1) listed s:=by
 intro fuel
 induction fuel with
 |zero=>
  intro listed s fW hdc _ hr hy H
  refine⟨fun h=>(by rw[h] at hr;cases hr),fun j hj=>?_⟩
  by_cases xg:j=i
  ·subst xg;unfold wz;simp only[hi];exact⟨e,hy,H⟩
  ·exfalso
   obtain⟨V9,oj,Ab,eF⟩:=kH.1 hj
   have hil:i<listed.size:=by rw[fW];exact(bh.1 hi).1
   have NG:j<ops.size:=(bh.1 Ab).1
   have h1:(nS m ops.size).getD j true=false:=by rw[← H.1,ln true (gJ xg)];exact V9
   have h2:(nS m ops.size).getD i false=true:=by
    rw[← H.1,aj,Array.getElem?_setIfInBounds_self_of_lt hil];rfl
   have hjm:=BA h1
   have him:=yS h2
   have h4:=(kH.1 hr).1
   unfold ve at JI
   simp only[aS,ba,dU,df,eV,bJ] at JI
   obtain⟨yE,JL⟩:=JI
   have dV:∀ q,q≠i→(nS m ops.size).getD q false=listed.getD q false:=fun q hq=>by
    rw[← H.1,ln false (gJ hq)]
   rcases JL j NG with hjm2 | ⟨k,vX,⟨Ql,hkj⟩,Az⟩
   ·have anL:j=m:=by omega
    obtain⟨k,hkm,hki,Az⟩:=yE i him
    obtain⟨ok,eH,ed,hed,hb,Qw⟩:=zD Az
    have h5:listed.getD i false=true:=by
     by_cases hkj:k=j
     ·subst hkj
      rw[Ab] at eH;cases eH
      have:=eF ed hed hb
      rw[Qw] at this;exact this
     ·have h6:listed.getD k false=true:=by
       rw[← dV k hki];exact W8 (by omega)
      have:=hdc k ok eH h6 ed hed hb
      rw[Qw] at this;exact this
    rw[aj,ay hil] at h5 h4
    simp only[cx] at h5 h4
    rw[h4] at h5;cases h5
   ·obtain⟨ok,eH,ed,hed,hb,Qw⟩:=zD Az
    rw[Ab] at eH;cases eH
    have h5:=eF ed hed hb
    rw[Qw,← dV k (by omega),Q8 Ql] at h5
    cases h5
 |succ fuel ih=>
  intro listed s fW hdc Ac hr hy H
  refine⟨fun h=>(by rw[h] at hr;cases hr),fun j hj=>?_⟩
  by_cases xg:j=i
  ·subst xg;unfold wz;simp only[hi];exact⟨e,hy,H⟩
  ·have h1:=H.2 j (ready_mono hj xg)
   obtain⟨_,oj,Ab,_⟩:=kH.1 hj
   obtain⟨Aw,CC⟩:=Ac.step hr hj xg Ab
   unfold wz at h1 ⊢
   simp only[Ab] at h1 ⊢
   obtain⟨f,hf,hK⟩:=h1
   have GF:=hy.back Aw hf
   refine⟨f,GF,ih (listed.setIfInBounds j true) _ (by rw[dw];exact fW) (hdc.step hj) CC (ready_mono hr (gJ xg)) (hy.keep Aw GF) ?_⟩
   rw[Array.setIfInBounds_comm _ _ xg,← By Aw hy GF]
   exact hK
theorem BC {ops:Array Oper} {K0:S→Prop} {m:Nat} (JI:ve ops m=true):∀ (ks:List Nat) (listed:Array Bool) (s:S),listed.size=ops.size→DC ops listed→(∀ k∈ks,∃ o,ops[k]?=some o∧o1 tr o=false)→
 tI tr ops ks listed=some (nS m ops.size)→im P G tr ops (rj ops ks) s K0→xI P G tr ops (nS m ops.size) K0 ks.length listed s
 |[],listed,s,_,_,_,hB,h=>by simp only[tI,ao] at hB;exact⟨hB,h⟩
 |k::r,listed,s,fW,hdc,hA,hB,h=>by
  obtain⟨o,ho,Do⟩:=hA k (a8 ..)
  unfold tI at hB
  split at hB
  ·rename_i hc
   simp only[aS] at hc
   obtain⟨hr,hf⟩:=hc
   have hr':k∈Region.ready .any ops listed:=by simpa using hr
   simp only[rj,iS,ho,im] at h
   obtain⟨e,he,hK⟩:=kg (K:=fun s'=>im P G tr ops (rj ops r) s' K0) Do h
   exact FO JI ho r.length listed s fW hdc (pJ ho hf) hr' he
    (BC JI r _ _ (by rw[dw];exact fW) (hdc.step hr') (fun k hk=>hA k (aD _ hk)) hB hK)
  ·cases hB
theorem W9 {ops:Array Oper} {n:Nat}:DC ops (Array.replicate n false):=fun k o _ hk=>by
 rw[aj,Array.getElem?_replicate] at hk
 split at hk<;>simp at hk
theorem uu {ops:Array Oper} {Q:Exit→Act→World→Prop} {K:S→Prop} (eH:mf n ops=true) (hA:∀ (k:Nat) (o:Oper),ops[k]?=some o→qC tr o=false) (hK:∀ a w s,K s→SE G n I0 M w0 s a w→Q .normal a w):∀ (fuel:Nat) (listed:Array Bool) (s:S) (a:Act) (w:World),
 Mv P G tr ops K fuel listed s→SE G n I0 M w0 s a w→wpAny P .any ops Q fuel listed a w
 |0,_,_,_,_,h,dE=>by
  obtain⟨s',h1,h2⟩:=mj eH h.2 dE
  exact⟨h.1,hK _ _ _ h1 h2⟩
 |fuel+1,listed,s,a,w,h,dE=>by
  obtain⟨gW,h⟩:=h
  obtain⟨s',h1,h2⟩:=mj eH h dE
  refine⟨fun h0=>absurd h0 gW,fun i hi=>?_⟩
  obtain⟨o,ho,hh⟩:=h1 i hi
  obtain⟨I,β,ob,aR⟩:=h2
  have j8:o∈ops.toList:=by
   have:=fX ho
   simpa using this
  unfold wpOp
  simp only[ho]
  rcases mM aR hh with⟨hw,hh⟩ | ⟨hw,hh⟩
  ·rw[if_pos hw]
   exact .inl (qI (tr:=tr) aR (eX eH j8) (hA i o ho) hh fun a w s hs dE=>uu eH hA hK fuel _ s a w hs dE)
  ·rw[hw]
   simp only[aY,dm]
   exact uu eH hA hK fuel _ _ _ w hh (SE.put (v:=undef) (x:=.sk) aR (eX eH j8) (by simp only[LR];exact .sk))
theorem zF {ops:Array Oper} {K:S→Prop} {l2:List Oper}:∀ (l1:List Oper) (s:S),im P G tr ops (l1++l2) s K=im P G tr ops l1 s (fun s=>im P G tr ops l2 s K)
 |[],_=>rfl
 |o::r,s=>by simp only[fa,im,zF r]
theorem uv {ops:Array Oper} {Q:Exit→Act→World→Prop} {K:S→Prop} (eH:mf n ops=true) (hA:∀ (k:Nat) (o:Oper),ops[k]?=some o→qC tr o=false) (hK:∀ a w s,K s→SE G n I0 M w0 s a w→Q .normal a w):∀ (fuel i:Nat) (listed:Array Bool) (s:S) (a:Act) (w:World),
 GN ops fuel i listed=true→i+fuel=ops.size→im P G tr ops (ops.toList.drop i) s K→SE G n I0 M w0 s a w→wpAny P .any ops Q fuel listed a w
 |0,i,_,_,_,_,hl,hi,h,dE=>by
  rw[List.drop_eq_nil_of_le (by simp;omega)] at h
  exact⟨by simpa[GN] using hl,hK _ _ _ h dE⟩
 |fuel+1,i,listed,s,a,w,hl,hi,h,dE=>by
  simp only[GN,aS,kr] at hl
  obtain⟨h1,h2⟩:=hl
  have bK:i<ops.size:=by omega
  have hd:ops.toList.drop i=ops[i]::ops.toList.drop (i+1):=by
   rw[cX (by simpa using bK)];simp
  rw[hd] at h
  refine⟨fun h0=>by rw[h1] at h0;simp at h0,fun j hj=>?_⟩
  rw[h1,a7] at hj
  subst hj
  obtain⟨I,β,ob,aR⟩:=dE
  have ho:ops[j]?=some ops[j]:=ay bK
  have j8:ops[j]∈ops.toList:=by
   have:=fX ho
   simpa using this
  unfold wpOp
  simp only[ho]
  rcases mM aR h with⟨hw,hh⟩ | ⟨hw,hh⟩
  ·rw[if_pos hw]
   exact .inl (qI (tr:=tr) aR (eX eH j8) (hA j _ ho) hh fun a w s hs dE=>uv eH hA hK fuel _ _ s a w h2 (by omega) hs dE)
  ·rw[hw]
   simp only[aY,dm]
   exact uv eH hA hK fuel _ _ _ _ w h2 (by omega) hh (SE.put (v:=undef) (x:=.sk) aR (eX eH j8) (by simp only[LR];exact .sk))
def Xa (tr:List Nat) (id:Nat) (ops:Array Oper):Bool:=ops.toList.all (fun o=>!qC tr o)&&(ops.toList.take (apN tr id ops)).all (fun o=>!o1 tr o)&&decide (apN tr id ops≤ops.size)&&decide (tI tr ops (List.range (apN tr id ops)) (Array.replicate ops.size false)=some (nS (apN tr id ops) ops.size))&&(vd ops (apN tr id ops)||ve ops (apN tr id ops))&&(!aci tr id||GN ops (ops.size - apN tr id ops) (apN tr id ops) (nS (apN tr id ops) ops.size))
theorem C7 {id:Nat} {ops:Array Oper} {Q:Exit→Act→World→Prop} {K:S→Prop} (eH:mf n ops=true) (vZ:Xa tr id ops=true) (hK:∀ a w s,K s→SE G n I0 M w0 s a w→Q .normal a w)
 (Mm:CS tr id=false) (EM:EU tr id=false) (h:vpa P G tr id ops K s) (dE:SE G n I0 M w0 s a w):wpAny P .any ops Q ops.size (Array.replicate ops.size false) a { w with drawn:=w.drawn+1 }:=by
 unfold Xa at vZ
 simp only[aS,ba,dJ,bJ,eV (vd _ _)] at vZ
 obtain⟨⟨⟨⟨⟨hY,hA⟩,fW⟩,uU⟩,JI⟩,hli⟩:=vZ
 have Qx:∀ (k:Nat) (o:Oper),ops[k]?=some o→qC tr o=false:=fun k o ho=>hY o (by have:=fX ho;simpa using this)
 have NP:∀ (k:Nat) (o:Oper),k<apN tr id ops→ops[k]?=some o→o1 tr o=false:=fun k o hk ho=>hA o (by
  refine aQ (i:=k) ?_
  rw[cF,if_pos hk];simpa using ho)
 have tZ:SE G n I0 M w0 s a { w with drawn:=w.drawn+1 }:=by
  obtain⟨I,β,ob,aR⟩:=dE
  exact⟨I,β,ob,aR.drew⟩
 have Wa:rj ops (List.range (apN tr id ops))=ops.toList.take (apN tr id ops):=by
  rw[eL,sL 0 _ (by omega)];rfl
 have fin:∀ (s':S) (K0:S→Prop),im P G tr ops (ops.toList.take (apN tr id ops)) s' K0→SE G n I0 M w0 s' a { w with drawn:=w.drawn+1 }→
  (∀ a w s,K0 s→SE G n I0 M w0 s a w→wpAny P .any ops Q (ops.size - apN tr id ops) (nS (apN tr id ops) ops.size) a w)→
  wpAny P .any ops Q ops.size (Array.replicate ops.size false) a { w with drawn:=w.drawn+1 }:=fun s' K0 h1 h2 h5=>by
  rw[← Wa] at h1
  have h3:xI P G tr ops (nS (apN tr id ops) ops.size) K0 (List.range (apN tr id ops)).length (Array.replicate ops.size false) s':=by
   have hz:∀ k∈List.range (apN tr id ops),∃ o,ops[k]?=some o∧o1 tr o=false:=fun k hk=>⟨ops[k]'(by have:=df.1 hk;omega),ay _,NP k _ (df.1 hk) (ay _)⟩
   rcases JI with JI | JI
   ·exact DN JI _ _ s' (by simp) hz uU h1
   ·exact BC JI _ _ s' (by simp) W9 hz uU h1
  have h4:=zC (Q:=Q) eH h5 _ _ _ _ _ h3 h2
  rw[List.length_range,Nat.sub_add_cancel fW] at h4
  exact h4
 unfold vpa at h
 rw[Mm,EM] at h
 simp only[aY,dm] at h
 split at h
 ·rename_i hln
  rw[hln] at hli
  have e:ops.toList=ops.toList.take (apN tr id ops)++ops.toList.drop (apN tr id ops):=(dI _ _).symm
  rw[e,zF] at h
  exact fin s _ h tZ fun a w s hs dE=>uv eH Qx hK _ _ _ s a w (by simpa using hli) (by omega) hs dE
 ·obtain⟨s',h1,h2⟩:=mj eH h tZ
  exact fin s' _ h1 h2 fun a w s hs dE=>uu eH Qx hK _ _ s a w hs dE
theorem FP {ops:Array Oper} {Q:Exit→Act→World→Prop} {l:Option Nat} {m:Nat} {id:Nat} (hm:P.follows .mixedOrders=true) (oZ:Bf ops=true) (eH:mf n ops=true) (vZ:Xa tr id ops=true) {K:S→Prop} (hK:∀ a w s,K s→SE G n I0 M w0 s a w→Q .normal a w)
 (Mm:CS tr id=false) (EM:EU tr id=false) (h:vpa P G tr id ops K s) (dE:SE G n I0 M w0 s a w):(Code.region id ops true).wpIn (FW l) m P Q a w:=
 wpIn_mono (Q:=MH Q) (wpIn_region_any hm (xz oZ yU _ _ _ _ (C7 eH vZ (fun a w s hk dE=>⟨rfl,hK a w s hk dE⟩) Mm EM h dE))) (fun _ _ _ h=>h.2)
theorem wC {Q:Exit→Act→World→Prop} {l:Option Nat} {m:Nat} {ops:Array Oper} (eH:mf n ops=true) {K:S→Prop} (hK:∀ a w s,K s→SE G n I0 M w0 s a w→Q .normal a w):∀ (ls:List Oper) (k:Nat),ops.toList.drop k=ls→∀ (s:S) (a:Act) (w:World),
 WR P G tr ops K ls s→SE G n I0 M w0 s a w→wpOpsIn (FW l) m P ops Q (List.range' k ls.length) a w
 |[],k,_,s,a,w,h,dE=>by
  simp only[aU,List.range'_zero,wpOpsIn]
  obtain⟨s',h1,h2⟩:=mj eH h dE
  exact hK _ _ _ h1 h2
 |o::ls,k,hl,s,a,w,h,dE=>by
  have nM:ops[k]?=some o:=by
   have:(ops.toList.drop k)[0]?=some o:=by rw[hl];rfl
   rw[cN] at this
   simpa using this
  have Md:ops.toList.drop (k+1)=ls:=by
   rw[← gb,hl];rfl
  have j8:o∈ops.toList:=cT (i:=k) (by rw[hl];simp)
  obtain⟨s,h,dE⟩:=mj eH h dE
  obtain⟨I,β,ob,aR⟩:=dE
  simp only[aZ,iA,wpOpsIn,nM]
  rcases mM aR h with⟨hw,h⟩ | ⟨hw,h⟩
  ·rw[if_pos hw]
   refine rh (tr:=tr) aR (eX eH j8) h fun a' w' s' Dm tZ=>?_
   exact wC eH hK ls (k+1) Md s' a' w' Dm tZ
  ·rw[hw]
   simp only[aY,dm]
   exact⟨fun _ _=>trivial,wC eH hK ls (k+1) Md _ _ w h (SE.put aR (eX eH j8) (by simp only[LR];exact .sk))⟩
theorem qK {Q:Exit→Act→World→Prop} {l:Option Nat} {m:Nat} {ops:Array Oper} (eH:mf n ops=true) {K:S→Prop} (hK:∀ a w s,K s→SE G n I0 M w0 s a w→Q .normal a w):∀ (ls:List Oper) (k:Nat),ops.toList.drop k=ls→∀ (s:S) (a:Act) (w:World),
 np P G tr ops K ls s→SE G n I0 M w0 s a w→wpOpsIn (FW l) m P ops Q (List.range' k ls.length) a w
 |[],k,_,s,a,w,h,dE=>by
  simp only[aU,List.range'_zero,wpOpsIn]
  obtain⟨s',h1,h2⟩:=mj eH h dE
  exact hK _ _ _ h1 h2
 |o::ls,k,hl,s,a,w,h,dE=>by
  have nM:ops[k]?=some o:=by
   have:(ops.toList.drop k)[0]?=some o:=by rw[hl];rfl
   rw[cN] at this
   simpa using this
  have Md:ops.toList.drop (k+1)=ls:=by
   rw[← gb,hl];rfl
  have j8:o∈ops.toList:=cT (i:=k) (by rw[hl];simp)
  unfold np at h
  obtain⟨s,h,dE⟩:∃ s',nr ops o s' (fun s=>if na tr o then vE P G o s (np P G tr ops K ls) else VStep P G tr o s (np P G tr ops K ls)) (fun s=>np P G tr ops K ls (s.put o.dst .sk))∧SE G n I0 M w0 s' a w:=by
   split at h
   ·exact mj eH h dE
   ·exact⟨s,h,dE⟩
  obtain⟨I,β,ob,aR⟩:=dE
  simp only[aZ,iA,wpOpsIn,nM]
  rcases mM aR h with⟨hw,h⟩ | ⟨hw,h⟩
  ·rw[if_pos hw]
   split at h
   ·exact wx (W7 h) (Kv aR (eX eH j8) h fun a' w' s' Dm tZ=>qK eH hK ls (k+1) Md s' a' w' Dm tZ)
   ·refine rh (tr:=tr) aR (eX eH j8) h fun a' w' s' Dm tZ=>?_
    exact qK eH hK ls (k+1) Md s' a' w' Dm tZ
  ·rw[hw]
   simp only[aY,dm]
   exact⟨fun _ _=>trivial,qK eH hK ls (k+1) Md _ _ w h (SE.put aR (eX eH j8) (by simp only[LR];exact .sk))⟩
theorem FQ {ops:Array Oper} {Q:Exit→Act→World→Prop} {l:Option Nat} {m:Nat} {id:Nat} (eH:mf n ops=true) {K:S→Prop} (hK:∀ a w s,K s→SE G n I0 M w0 s a w→Q .normal a w)
 (Mm:CS tr id=false) (EM:EU tr id=true) (h:vpa P G tr id ops K s) (dE:SE G n I0 M w0 s a w):(Code.region id ops false).wpIn (FW l) m P Q a w:=by
 unfold vpa at h
 rw[Mm,if_neg (by decide),if_pos EM] at h
 refine wpIn_region ?_
 have:=qK (Q:=Q) (l:=l) (m:=m) eH hK ops.toList 0 rfl s a w h dE
 rw[eL]
 simpa using this
theorem FR {ops:Array Oper} {Q:Exit→Act→World→Prop} {l:Option Nat} {m:Nat} {id:Nat} (eH:mf n ops=true) {K:S→Prop} (hK:∀ a w s,K s→SE G n I0 M w0 s a w→Q .normal a w)
 (Mm:CS tr id=true) (h:vpa P G tr id ops K s) (dE:SE G n I0 M w0 s a w):(Code.region id ops false).wpIn (FW l) m P Q a w:=by
 unfold vpa at h
 rw[if_pos Mm] at h
 refine wpIn_region ?_
 have:=wC (Q:=Q) (l:=l) (m:=m) eH hK ops.toList 0 rfl s a w h dE
 rw[eL]
 simpa using this
structure Reb (T:Prop) (I0:Ft) (M:Mx) (w0:World) (I1:Ft) (M1:Mx) (w1:World) (rs:List Nat):Prop where
 bel:BelowM T M w0 w1
 wr:∀ b,Wr M1 w1 b→Wr M w0 b
 il:∀ b o,I0 b o→I1 b o
 kept:∀ b o,I0 b o→w1.cell? ⟨b,o,none⟩=w0.cell? ⟨b,o,none⟩
 ih:∀ b o,I1 b o→I0 b o∨Wr M w0 b
 e:M1.e=M.e
 d:M1.d=rs.map mkD++M.d
 nd:rs.Nodup
 r:∀ r∈rs,¬ Wr M1 w1 r∧Wr M w0 r∧(∀ o,¬ I1 r o)∧w1.heap[r]?=some (Obj.deferred (some []))
theorem Reb.refl:Reb (GT G) I0 M w0 I0 M w0 []:=⟨BelowM.refl _ _,fun _ h=>h,fun _ _ h=>h,fun _ _ _=>rfl,fun _ _ h=>.inl h,rfl,rfl,fH,by simp⟩
variable {I1:Ft} {M1:Mx} {w1:World} {rs:List Nat}
theorem Reb.notWr (h:St G n I1 M1 w1 I β ob s a w) {r:Nat} (hr:¬ Wr M1 w1 r):(∀ L,ob L≠some r)∧(∀ i,β i≠some r)∧r<w1.heap.size∧¬ M1.m r:=by
 refine⟨fun L hL=>hr (h.obnd L r hL).2,fun i hi=>?_,?_,fun hm=>hr (.inr hm)⟩
 ·exact hr (h.boxblk hi).2.1
 ·rcases dG r w1.heap.size with h1 | h1
  ·exact h1
  ·exact absurd (.inl h1) hr
theorem St.back (hr:Reb (GT G) I0 M w0 I1 M1 w1 rs) (h:St G n I1 M1 w1 I β ob s a w):St G n I0 M w0 I β ob s { a with defers:=M.d } w where
 size:=h.size
 defers:=rfl
 below:=⟨h.below.os.trans hr.bel.os,h.below.tape.trans hr.bel.tape,h.below.output.trans hr.bel.output,bN hr.bel.size h.below.size,fun k hk hM=>
  (h.below.block k (bZ hk hr.bel.size) (fun h1=>by
   rcases hr.wr k (.inr h1) with h2 | h2
   ·omega
   ·exact hM h2)).trans (hr.bel.block k hk hM),fun t=>bN (hr.bel.drawn t) (h.below.drawn t)⟩
 ilow:=fun b o h0=>h.ilow b o (hr.il b o h0)
 kept:=fun b o h0=>(h.kept b o (hr.il b o h0)).trans (hr.kept b o h0)
 ihigh:=fun b o hb=>by
  rcases h.ihigh b o hb with h1 | h1
  ·exact hr.ih b o h1
  ·exact .inr (hr.wr b h1)
 ibnd:=h.ibnd
 fr:=fun t=>(h.fr t).wider fun b hb=>hr.wr b (h.obnd _ b hb).2
 bx:=fun i hi=>by
  obtain⟨blk,cur,e1,e2,e3,e4,e5,e7⟩:=h.bx i hi
  exact⟨blk,cur,e1,hr.wr blk e2,e3,e4,fun j=>(e5 j).wider fun b hb=>hr.wr b (h.obnd _ b hb).2,e7⟩
 bnone:=h.bnone
 ext:=fun i b he=>h.ext i b (by rw[hr.e];exact he)
 bnew:=fun i b hi=>.inr (hr.wr b (h.boxblk hi).2.1)
 binj:=h.binj
 oinj:=h.oinj
 obx:=h.obx
 obnd:=fun L b hL=>⟨(h.obnd L b hL).1,hr.wr b (h.obnd L b hL).2⟩
 glob:=h.glob
theorem St.rebase (h:St G n I0 M w0 I β ob s a w) {r:Nat} (jV:∀ L,ob L≠some r) (hβ:∀ i,β i≠some r) :
 St G n I ⟨fun b=>Wr M w0 b∧b≠r,M.e,mkD r::M.d⟩ w I β ob s { a with defers:=mkD r::a.defers } w where
 size:=h.size
 defers:=by rw[h.defers]
 below:=BelowM.refl _ _
 ilow:=fun _ _ h=>h
 kept:=fun _ _ _=>rfl
 ihigh:=fun _ _ h=>.inl h
 ibnd:=h.ibnd
 fr:=fun t=>(h.fr t).wider fun b hb=>.inr ⟨(h.obnd _ b hb).2,fun e=>jV _ (e▸hb)⟩
 bx:=fun i hi=>by
  obtain⟨blk,cur,e1,e2,e3,e4,e5,e7⟩:=h.bx i hi
  exact⟨blk,cur,e1,.inr ⟨e2,fun e=>hβ i (e▸e1)⟩,e3,e4,fun j=>(e5 j).wider fun b hb=>.inr ⟨(h.obnd _ b hb).2,fun e=>jV _ (e▸hb)⟩,e7⟩
 bnone:=h.bnone
 ext:=h.ext
 bnew:=fun i b hi=>.inr (.inr ⟨(h.boxblk hi).2.1,fun e=>hβ i (e▸hi)⟩)
 binj:=h.binj
 oinj:=h.oinj
 obx:=h.obx
 obnd:=fun L b hL=>⟨(h.obnd L b hL).1,.inr ⟨(h.obnd L b hL).2,fun e=>jV L (e▸hL)⟩⟩
 glob:=h.glob
theorem Reb.step (hr:Reb (GT G) I0 M w0 I1 M1 w1 rs) (h:St G n I1 M1 w1 I β ob s a w) {r:Nat} (hw:Wr M1 w1 r) (bK:r<w.heap.size) (hI:∀ o,¬ I r o) (hh:w.heap[r]?=some (Obj.deferred (some []))) :
 Reb (GT G) I0 M w0 I ⟨fun b=>Wr M1 w1 b∧b≠r,M1.e,mkD r::M1.d⟩ w (r::rs) where
 bel:=(h.back hr).below
 wr:=fun b hb=>by
  rcases hb with hb | hb
  ·exact hr.wr b (.inl (bN h.below.size hb))
  ·exact hr.wr b hb.1
 il:=fun b o h0=>h.ilow b o (hr.il b o h0)
 kept:=fun b o h0=>(h.kept b o (hr.il b o h0)).trans (hr.kept b o h0)
 ih:=(h.back hr).ihigh
 e:=hr.e
 d:=by rw[bA,fa,hr.d]
 nd:=gZ.2 ⟨fun hm=>(hr.r r hm).1 hw,hr.nd⟩
 r:=fun q hq=>by
  rcases aK.1 hq with rfl | hq
  ·refine⟨fun hw'=>?_,hr.wr _ hw,hI,hh⟩
   rcases hw' with h1 | h1
   ·omega
   ·exact h1.2 rfl
  ·obtain⟨q1,q2,q3,q4⟩:=hr.r q hq
   obtain⟨_,_,h3,h4⟩:=Reb.notWr h q1
   refine⟨fun hw'=>?_,q2,fun o ho=>?_,(h.below.block q h3 h4).trans q4⟩
   ·rcases hw' with h1 | h1
    ·have:=h.below.size;omega
    ·exact q1 h1.1
   ·rcases h.ihigh q o ho with h1 | h1
    ·exact q3 o h1
    ·exact q1 h1
theorem DO {F:Fence} {m:Nat} {fn:Func} {R:Ending→World→Prop} {a0:Act}:∀ (rs:List Nat) (w:World),rs.Nodup→(∀ r∈rs,(∀ L,ob L≠some r)∧(∀ i,β i≠some r)∧Wr M w0 r∧(∀ o,¬ I r o)∧w.heap[r]?=some (Obj.deferred (some [])))→
 St G n I0 M w0 I β ob s a0 w→(∀ w',St G n I0 M w0 I β ob s a0 w'→∃ v,(results fn a0.tmps).run P w'=.ok v w'∧R (.returned v) w')→LeavesInM F m P fn a0.tmps R (rs.map mkD) .returning w
 |[],w,_,_,h,hR=>hR w h
 |r::rs,w,oZ,hr,h,hR=>by
  obtain⟨h1,h2,h3,h4,h5⟩:=hr r (a8 ..)
  obtain⟨hnr,alE⟩:=gZ.1 oZ
  have bK:r<w.heap.size:=(bh.1 h5).1
  refine⟨by simp,.inl ⟨r,_,rfl,run_takeDeferred h5,?_⟩⟩
  refine DO rs _ alE (fun q hq=>?_) ?_ hR
  ·obtain⟨q1,q2,q3,q4,q5⟩:=hr q (aD _ hq)
   exact⟨q1,q2,q3,q4,(Go.World.putObj_heap_other (fun(e:q=r)=>hnr (e▸hq))).trans q5⟩
  ·exact h.growRow (I':=I) (Qy (grownBy_putObj' w r _) (ab _)) h3 (fun o ho=>absurd ho (h4 o)) h1 h2 (fun _ _ h=>h) (fun _ _ h=>.inl h) (by rw[Go.World.putObj_size];exact bK)
theorem St.newObj (h:St G n I0 M w0 I β ob s a w) {o:Obj} {cs:List V} {cur:Array Value} (hHB:HB (w.alloc o) w.heap.size cur cs) (hl:cs.length≤cur.size)
 (hc:∀ j,LR (Wr M w0) I β w none (cur.getD j undef) (cs.getD j .un)) :
 St G n I0 M w0 I (up β s.nb (some w.heap.size)) (fun L=>match L with | .b i j=>if i=s.nb then none else ob (.b i j) | L=>ob L)
  { s with bx:=up s.bx s.nb cs,nb:=s.nb+1 } a (w.alloc o):=by
 have hs:=h.allocOwn o
 have hβ:∀ i b,β i=some b→up β s.nb (some w.heap.size) i=some b:=fun i b hi=>by
  have:i≠s.nb:=fun e=>by rw[h.bnone i (by omega)] at hi;cases hi
  rw[cY _ _ this];exact hi
 have jV:∀ (o':Option Nat),(∀ b,o'=some b→b<w.heap.size)→∀ b,o'=some b→(w.alloc o).heap[b]?=w.heap[b]?∧∀ k,I b k→I b k:=fun o' ho b hb=>
  ⟨ep w _ b (ho b hb),fun _ h=>h⟩
 have hI:∀ b k,I b k→I b k∧(w.alloc o).cell? ⟨b,k,none⟩=w.cell? ⟨b,k,none⟩:=fun b k hb=>⟨hb,dQ (a:=⟨b,k,none⟩) (ep w _ b (h.ibnd b k hb))⟩
 have tq:=h.fresh (ab _)
 have key:∀ L b,(match L with | .b i j=>if i=s.nb then none else ob (.b i j) | L=>ob L)=some b→ob L=some b:=fun L b hL=>by
  cases L with
  |t i=>exact hL
  |b i j=>
   simp only at hL
   split at hL
   ·cases hL
   ·exact hL
 exact {
  size:=h.size,defers:=h.defers,below:=hs.below,kept:=hs.kept,ilow:=h.ilow,ihigh:=h.ihigh,ibnd:=hs.ibnd
  fr:=fun t=>(h.fr t).mono hI hβ (jV _ fun b hb=>(h.obnd _ b hb).1)
  bx:=fun i hi=>by
   by_cases gC:i=s.nb
   ·subst gC
    refine⟨w.heap.size,cur,by simp,.inl h.below.size,by simpa only[bW] using hHB,by simpa only[bW] using hl,fun j=>?_,fun k hk=>?_⟩
    ·simp only[bW,db]
     exact(hc j).mono hI hβ (fun b hb=>by cases hb)
    ·have:=h.ibnd _ _ hk;omega
   ·obtain⟨blk,cur',e1,e2,e3,e4,e5,e7⟩:=h.bx i (by simp only at hi;omega)
    have bK:blk<w.heap.size:=e3.lt
    refine⟨blk,cur',hβ i blk e1,e2,by simpa only[cY _ _ gC] using e3.mono (ep w _ blk bK),by simpa only[cY _ _ gC] using e4,fun j=>?_,e7⟩
    simp only[cY _ _ gC,if_neg gC]
    exact(e5 j).mono hI hβ (jV _ fun b hb=>(h.obnd _ b hb).1)
  bnone:=fun i hi=>by
   simp only at hi
   rw[cY _ _ (by omega)]
   exact h.bnone i (by omega)
  ext:=fun i b he=>hβ i b (h.ext i b he)
  bnew:=fun i b hi=>by
   by_cases h1:i=s.nb
   ·subst h1;rw[bW] at hi;cases hi;exact .inr (.inl h.below.size)
   ·rw[cY _ _ h1] at hi;exact h.bnew i b hi
  binj:=fun i j b hi hj=>by
   by_cases h1:i=s.nb<;>by_cases h2:j=s.nb
   ·rw[h1,h2]
   ·subst h1;rw[bW] at hi;cases hi;rw[cY _ _ h2] at hj;exact absurd hj (tq.2 j)
   ·subst h2;rw[bW] at hj;cases hj;rw[cY _ _ h1] at hi;exact absurd hi (tq.2 i)
   ·rw[cY _ _ h1] at hi;rw[cY _ _ h2] at hj;exact h.binj i j b hi hj
  oinj:=fun L L' b hL yB=>h.oinj L L' b (key L b hL) (key L' b yB)
  obx:=fun L b i hL hi=>by
   by_cases gC:i=s.nb
   ·subst gC;rw[bW] at hi;cases hi
    exact tq.1 L (key L _ hL)
   ·rw[cY _ _ gC] at hi
    exact h.obx L b i (key L b hL) hi
  obnd:=fun L b hL=>by
   rw[eu]
   have:=h.obnd L b (key L b hL);exact⟨by omega,this.2⟩
  glob:=fun g cs hg=>(h.glob g cs hg).mono hI }
theorem LR.toKR {ox:Option Nat} (h:LR base I β w ox v x) (hk:x.fz.isKR=true):KR I β w v x.fz:=by
 have h':=h.fz none
 cases hx:x.fz<;>rw[hx] at h' hk<;>simp only[V.isKR] at hk<;>try cases hk
 ·exact .inl rfl
 ·exact .inr (.inr h'.toC)
 ·simp only[LR] at h';exact .inr (.inl ⟨rfl,h'⟩)
 ·simp only[LR] at h';exact .inr (.inr h')
 ·simp only[LR] at h';exact .inr (.inr h')
 ·simp only[LR] at h';exact .inr (.inr h')
 ·simp only[LR] at h';exact .inr (.inr h')
def SX (G:Gl) (n:Nat) (tr:List Nat) (I0:Ft) (M:Mx) (w0:World) (s:S) (a:Act) (w:World):Prop:=
 ∃ I1 M1 w1 rs,Reb (GT G) I0 M w0 I1 M1 w1 rs∧(J6 tr=false→I1=I0∧M1=M∧w1=w0)∧SE G n I1 M1 w1 s a w
theorem SX.of (h:SE G n I0 M w0 s a w):SX G n tr I0 M w0 s a w:=⟨_,_,_,_,.refl,fun _=>⟨rfl,rfl,rfl⟩,h⟩
theorem SX.se (h:SX G n tr I0 M w0 s a w) (hr:J6 tr=false):SE G n I0 M w0 s a w:=by
 obtain⟨I1,M1,w1,rs,_,h1,h2⟩:=h
 obtain⟨rfl,rfl,rfl⟩:=h1 hr
 exact h2
theorem Hz (aR:St G n I0 M w0 I β ob s a w) {f:FuncId} {vs:List Value} {all:List V} {ρ:List Nat} {cargs:List V} {b0:List (List V)} {R0:V→List (List V)→Prop} {R:Ending→World→Prop}
 (eH:FnE P G f cargs b0 R0) (dD:ArgsL (Wr M w0) I β w vs all) (eF:all.map V.fz=cargs.map (V.ren (rho ρ s.nb))) (hρ:ρ.length=b0.length∧ρ.Nodup) (gC:rb s.bx s.nb (rho ρ s.nb) 0 b0)
 (hk:∀ r b1,R0 r b1→∀ v w' I' β' ob',St G n I0 M w0 I' β' ob' { s with bx:=gz (rho ρ s.nb) 0 b1 s.bx,nb:=s.nb+(b1.length - b0.length) } a w'→(∀ i b,β i=some b→β' i=some b)→R (.returned v) w') :
 Calls P f vs.toArray w R:=by
 obtain⟨hρl,hn⟩:=hρ
 obtain⟨rB,sA,jW⟩:=eH.2.1
 have hl:∀ i,i<ρ.length→ρ.getD i 0<s.nb:=fun i hi=>by
  obtain⟨b,hb⟩:∃ b,b0[i]?=some b:=⟨_,ae (by omega)⟩
  have:=(pE b0 0 i b gC hb).1
  rw[aX] at this
  simpa[rho,hi] using this
 have qw:=xw hn hl
 have cg:all.length=cargs.length:=by simpa using dK List.length eF
 refine (eH.2.2 I ⟨Mof β ob (rho ρ s.nb) b0.length,fun _=>none,[]⟩ w vs.toArray (lH β (rho ρ s.nb) b0.length) (obC ob (rho ρ s.nb) b0.length) aR.ibnd aR.glob (aR.give qw gC sA)
  (by have:=dD.1;simp;omega) (fun j x hx=>?_)).mono ?_
 ·have hj:j<cargs.length:=(ah.1 hx).1
  have hz:all[j]?=some all[j]:=ae (by omega)
  have h1:=dD.2 j _ hz
  have h2:all[j].fz=x.ren (rho ρ s.nb):=by
   have e1:(all.map V.fz)[j]?=some all[j].fz:=by simp[hz]
   have e2:(cargs.map (V.ren (rho ρ s.nb)))[j]?=some (x.ren (rho ρ s.nb)):=by simp[hx]
   rw[eF,e2] at e1
   exact(jK e1).symm
  rw[h2] at h1
  have h3:=h1.ren (β':=lH β (rho ρ s.nb) b0.length) (rB x (aQ hx)) (fun i b hi hb=>by simp[lH,hi,hb])
  have h4:=h3.wider (base':=Wr ⟨Mof β ob (rho ρ s.nb) b0.length,fun _=>none,[]⟩ w) fun b hb=>by cases hb
  simpa using h4
 ·rintro e w' ⟨r,b1,hR,v,I',β',ob',o',rfl,uT,Qe,NN,v7,V6,Qt,ou,hZ,tq⟩
  obtain⟨cK,_,_,_,_,ll⟩:=aR.called hρl hn gC (jW r b1 hR) uT Qe NN v7 V6 Qt ou
  exact hk r b1 hR v w' _ _ _ cK ll
def VE.ex:VE→Exit
 | .normal=>.normal
 | .exit i=>.exit i
 | .ret=>.ret
theorem HA {f:Operand} {fv:V} {args:List V} {g:FuncId} {all:List V} (hc:gv fv args=some (g,all)) {ox:Option Nat} (hf:LR base I β w ox (a.eval f) fv) :
 ∃ vf vc:Array Value,a.eval f=.func (.func g) vf vc∧∀ us:List Value,ArgsL base I β w us args→ArgsL base I β w (vf.toList++us++vc.toList) all:=by
 unfold gv at hc
 split at hc
 ·rename_i g' fs cs
  simp only[ao,ft] at hc
  obtain⟨rfl,rfl⟩:=hc
  obtain⟨vf,vc,hv,q1,q2,q3,q4⟩:=hf.toC.fn_inv
  exact⟨vf,vc,hv,fun us hu=>((uZ vf fs q1 q3).append hu).append (uZ vc cs q2 q4)⟩
 ·rename_i g' fs cs
  simp only[ao,ft] at hc
  obtain⟨rfl,rfl⟩:=hc
  simp only[LR] at hf
  obtain⟨vf,vc,hv,q1,q2,q3,q4⟩:=hf
  exact⟨vf,vc,hv,fun us hu=>((u6 vf fs q1 q3).append hu).append (u6 vc cs q2 q4)⟩
 ·cases hc
theorem Oq {m:Nat} {f:Operand} {ps:Array Tmp} {assign body:Code} {q:VE→S→Prop} (hn:rgN tr=n) (hQ:∀ e s a w,q e s→SX G n tr I0 M w0 s a w→Q e.ex a w)
 (h:vrg P G tr f ps assign body q s) (dE:SX G n tr I0 M w0 s a w):(Code.rangeFunc f ps assign body).wpIn (FW none) m P Q a w:=by
 obtain⟨WI,fl,kP,⟨g,all,tA⟩,h⟩:=h
 obtain⟨I1,M1,w1,rs,ua,_,I,β,ob,aR⟩:=dE
 have hA:=aR.allocOwn (Obj.deferred (some []))
 have tq:=aR.fresh (ab w.heap.size)
 have hre:=hA.rebase (r:=w.heap.size) tq.1 tq.2
 have aji:=ua.step hA (r:=w.heap.size) (.inl aR.below.size) (by rw[eu];omega) (fun o ho=>by have:=aR.ibnd _ _ ho;omega) (gd w _)
 generalize hMd:(⟨fun b=>Wr M1 w1 b∧b≠w.heap.size,M1.e,mkD w.heap.size::M1.d⟩:Mx)=M2 at *
 have fnok:=tA
 have h:kJ P G { s with bx:=up s.bx s.nb [.lp (lp0 (rgN tr) ps assign body) fl],nb:=s.nb+1 } (ev G s f) [.yl s.nb] (fun s' _=>NY q s.nb s'):=by
  split at h
  ·exact h
  ·exact h.toR
 unfold kJ at h
 have ajj:gv (ev G s f) [.yl s.nb]=some (g,all):=tA
 rw[ajj] at h
 obtain⟨ρ,cargs,b0,R0,eH,eF,hρ,gC,hKR⟩:=h
 obtain⟨fn,hf1,hf2,c,hf3⟩:=eH.1
 refine wpIn_rangeFunc fun fid _=>?_
 have hB:=hre.newObj (o:=.loop { lp0 (rgN tr) ps assign body with fn:=fid,tmps:=a.tmps,defers:=w.heap.size }) (cs:=[.lp (lp0 (rgN tr) ps assign body) fl]) (cur:=#[.tuple a.tmps])
  ⟨fid,a.tmps,w.heap.size,⟨gd _ _,by rw[aR.size];exact hn.symm⟩,0,rfl⟩ (ab _) (fun j=>by
   cases j with
   |zero=>
    show LR _ _ _ _ none (.tuple a.tmps) (.lp _ fl)
    simp only[LR]
    refine⟨a.tmps,rfl,fun t x hx=>?_⟩
    obtain⟨e1,e2⟩:=kP _ hx
    simp only at e1 e2
    rw[e1] at e2 ⊢
    exact(hre.fr t).toKR e2
   |succ j=>simp only[fy,List.getD_nil,LR];exact .un _)
 rw[eu] at hB
 generalize hW2:(w.alloc (Obj.deferred (some []))).alloc (Obj.loop { lp0 (rgN tr) ps assign body with fn:=fid,tmps:=a.tmps,defers:=w.heap.size })=w2 at *
 generalize Aa:({ s with bx:=up s.bx s.nb [.lp (lp0 (rgN tr) ps assign body) fl],nb:=s.nb+1 }:S)=s1 at *
 generalize ha1:({ a with defers:=mkD w.heap.size::a.defers }:Act)=a1 at *
 have tO:ev G s1 f=ev G s f:=by rw[← Aa];cases f<;>rfl
 have hae:a1.eval f=a.eval f:=by rw[← ha1];cases f<;>rfl
 have hf:=bH hB f
 rw[tO] at hf
 obtain⟨vf,vc,hv,dD⟩:=HA tA hf
 rw[hae] at hv
 have hyl:∀ β':Nat→Option Nat,β' s.nb=some (w.heap.size+1)→LR (Wr M2 (w.alloc (Obj.deferred (some [])))) I β' w2 none (.func (.yield (w.heap.size+1)) #[] #[]) (.yl s.nb):=fun β' hβ=>by
  simp only[LR];exact⟨_,hβ,rfl⟩
 have hus:=dD [Value.func (.yield (w.heap.size+1)) #[] #[]] ⟨rfl,fun j x hx=>by
  cases j with
  |zero=>simp at hx;subst hx;exact hyl _ (by rw[bW])
  |succ j=>simp at hx⟩
 have alB:fn.name≠ "runtime.NumGoroutine" :=by simpa using hf2
 refine⟨w.heap.size+1,[mkD w.heap.size],w2,{ target:=.fn (.func g) vc,args:=vf++#[Value.func (.yield (w.heap.size+1)) #[] #[]] },w2,g,
  (vf.toList++[Value.func (.yield (w.heap.size+1)) #[] #[]]++vc.toList).toArray,w2,?_,?_,fun _ _=>trivial,?_,fun h=>(by cases h),pG.2 ?_⟩
 ·rw[← hW2];exact run_enterLoop_outer _ _ _ _ _
 ·simp only[resolve,hv]
  simp[go_sem]
 ·have e:vf++#[Value.func (.yield (w.heap.size+1)) #[] #[]]++vc=(vf.toList++[Value.func (.yield (w.heap.size+1)) #[] #[]]++vc.toList).toArray:=by apply dn;simp
  rw[← e]
  simp[invoke,callFunc,hf1,alB,hf3]
 ·refine Hz hB eH hus eF hρ gC ?_
  intro r b1 hR0 v w3 I3 β3 ob3 zj ll
  have hK:=hKR r b1 hR0
  have hb0:β3 s.nb=some (w.heap.size+1):=ll _ _ (by rw[bW])
  generalize JK:({ s1 with bx:=gz (rho ρ s1.nb) 0 b1 s1.bx,nb:=s1.nb+(b1.length - b0.length) }:S)=s2 at *
  unfold NY at hK
  split at hK
  ·rename_i L fl' gs ou
   obtain⟨ajm,bK,hK⟩:=hK
   obtain⟨blk,cur,e1,e2,e3,e4,e5,e7⟩:=zj.bx s.nb bK
   rw[hb0] at e1;cases e1
   rw[ou] at e3 e4 e5
   obtain⟨f3,tm,d3,⟨h3,fW⟩,mg,rfl⟩:∃ (f:FuncId) (tm:Array Value) (d:Nat),(w3.heap[w.heap.size+1]?=some (.loop { L with fn:=f,tmps:=tm,defers:=d })∧tm.size=L.defers)∧∃ m:Nat,cur=#[Value.tuple tm]++Array.replicate m undef:=e3
   obtain⟨L3,hL3⟩:∃ L3:Loop,L3={ L with fn:=f3,tmps:=tm,defers:=d3 }:=⟨_,rfl⟩
   rw[← hL3] at h3
   have hp3:L3.pending=L.pending:=by rw[hL3]
   have bM:(Instr.endLoop (w.heap.size+1)).run P w3=.ok L.pending (w3.putObj (w.heap.size+1) (.loop { L3 with state:=.exhausted })):=by
    rw[← hp3];exact run_endLoop h3 (by rw[hL3];exact ajm)
   have alC:=zj.reBox (o:=.loop { L3 with state:=.exhausted }) (l:=.lp { L with state:=.exhausted } fl'::gs) (cur:=#[Value.tuple tm]++Array.replicate mg undef) (od:=fun j=>ob3 (.b s.nb j)) bK hb0
    ⟨f3,tm,d3,⟨by rw[hL3];exact nX (bh.1 h3).1,fW⟩,mg,rfl⟩ e4 (fun j=>by
     have:=e5 j
     cases j with
     |zero=>exact this
     |succ j=>exact this) (fun j b hb=>hb)
   have hsx:SX G n tr I0 M w0 { s2 with bx:=up s2.bx s.nb (.lp { L with state:=.exhausted } fl'::gs) } a1 (World.putObj w3 (w.heap.size+1) (.loop { L3 with state:=.exhausted })):=
    ⟨_,_,_,_,aji,(fun h=>by rw[WI] at h;cases h),_,_,_,alC⟩
   refine⟨L.pending,_,bM,?_⟩
   have ha2:({ a with defers:=[mkD w.heap.size]++a.defers }:Act)=a1:=ha1
   rw[ha2]
   split at hK
   ·rename_i hp;rw[hp];exact hQ .normal _ _ _ hK hsx
   ·rename_i hp;rw[hp];exact wpIn_ret (hQ .ret _ _ _ hK hsx)
   ·rename_i hp;rw[hp];exact wpIn_exit (hQ (.exit _) _ _ _ hK hsx)
   ·exact hK.elim
  ·exact hK.elim
end
section
variable {P:Program} {G:Gl} {tr:List Nat} {n:Nat} {I0:Ft} {M:Mx} {w0:World} {I:Ft} {β:Nat→Option Nat} {ob:Loc→Option Nat} {s:S} {a:Act} {w:World} {o:Oper}
 {Q:Exit→Act→World→Prop} {base:Nat→Prop} {v:Value} {x y:V}
def cok (n:Nat) (tr:List Nat):Code→Bool
 | .region id ops draw=>mf n ops&&Bf ops&&(if J7 tr id then(if CS tr id||EU tr id then !draw else draw&&Xa tr id ops) else if ach tr id then QD tr id&&draw&&MG tr ops else(!draw||FG tr ops))
 | .seq a b=>cok n tr a&&cok n tr b
 | .cond _ a b=>cok n tr a&&cok n tr b
 | .block _ a=>cok n tr a
 | .loop a=>cok n tr a
 | .scope a=>cok n tr a
 | .rangeFunc _ _ _ _=>decide (rgN tr=n)
 |_=>true
theorem mO {k0:Nat} {l:Option Nat} {m:Nat} (hm:P.follows .mixedOrders=true) (xb:∀ i b,M.e i=some b→i<k0) (hl:l=none∨J6 tr=false):∀ (c:Code) (hc:cok n tr c=true) (q:VE→S→Prop) (Q:Exit→Act→World→Prop) (_hQ:∀ e s a w,q e s→SX G n tr I0 M w0 s a w→Q e.ex a w) (s:S) (a:Act) (w:World),
 iI P G tr k0 c q s→SX G n tr I0 M w0 s a w→c.wpIn (FW l) m P Q a w:=by
 intro c
 induction c with
 |skip=>intro _ q Q hQ s a w h dE;exact wpIn_skip (hQ .normal s a w h dE)
 |region id ops draw=>
  intro hc q Q hQ s a w h hsx
  obtain⟨I1,M1,w1,rs,ua,ll,dE⟩:=hsx
  have xb:∀ i b,M1.e i=some b→i<k0:=by rw[ua.e];exact xb
  have hQ':∀ a w s,q .normal s→SE G n I1 M1 w1 s a w→Q .normal a w:=fun a w s hk dE=>hQ .normal s a w hk ⟨I1,M1,w1,rs,ua,ll,dE⟩
  simp only[iI] at h
  by_cases hpa:J7 tr id=true
  ·simp only[cok,hpa,db,aS] at hc
   obtain⟨⟨hd,oZ⟩,hc⟩:=hc
   rw[if_pos hpa] at h
   by_cases Mm:CS tr id=true
   ·rw[if_pos (by rw[Mm];rfl)] at hc
    have CE:draw=false:=by simpa using hc
    subst CE
    exact FR hd hQ' Mm h dE
   ·have Mm:CS tr id=false:=by simpa using Mm
    by_cases EM:EU tr id=true
    ·rw[if_pos (by rw[EM,Bool.or_true])] at hc
     have CE:draw=false:=by simpa using hc
     subst CE
     exact FQ hd hQ' Mm EM h dE
    ·have EM:EU tr id=false:=by simpa using EM
     rw[if_neg (by rw[Mm,EM];decide),aS] at hc
     obtain⟨CE,h2⟩:=hc
     subst CE
     exact FP hm oZ hd h2 hQ' Mm EM h dE
  rw[if_neg hpa] at h
  by_cases htw:ach tr id=true
  ·simp only[cok,hpa,htw,db,aY,dm,aS] at hc
   obtain⟨⟨hd,oZ⟩,⟨hfz,CE⟩,h2⟩:=hc
   rw[if_pos hfz] at h
   obtain⟨s',jW,h⟩:=h
   unfold vtw at h
   rw[if_pos htw] at h
   subst CE
   exact C5 hm oZ hd h2 hQ' h (dE.freeze xb jW)
  simp only[cok,hpa,htw,aY,dm,aS,eV,dJ] at hc
  obtain⟨⟨hd,oZ⟩,hc⟩:=hc
  obtain⟨s,h,dE⟩:∃ s,im P G tr ops ops.toList s (q .normal)∧SE G n I1 M1 w1 s a w:=by
   split at h
   ·obtain⟨s',jW,h⟩:=h
    unfold vtw at h
    rw[if_neg htw] at h
    exact⟨s',h,dE.freeze xb jW⟩
   ·exact Oo hd h dE
  cases draw with
  |false=>
   refine wpIn_region ?_
   have:=wy (Q:=Q) (l:=l) (m:=m) hd hQ' ops.toList 0 rfl s a w h dE
   rw[eL]
   simpa using this
  |true=>exact BB hm oZ hd (hc.resolve_left (by simp)) hQ' h dE
 |seq x y ihx ihy=>
  intro hc q Q hQ s a w h dE
  simp only[cok,aS] at hc
  simp only[iI] at h
  refine wpIn_seq (ihx hc.1 _ _ (fun e s a w hk dE=>?_) s a w h dE)
  cases e with
  |normal=>exact ihy hc.2 q Q hQ s a w hk dE
  |exit i=>exact hQ (.exit i) s a w hk dE
  |ret=>exact hQ .ret s a w hk dE
 |cond c x y ihx ihy=>
  intro hc q Q hQ s a w h dE
  simp only[cok,aS] at hc
  simp only[iI] at h
  split at h
  ·rename_i p hp
   have GG:a.eval c=.bool p:=by
    obtain⟨_,_,_,_,_,_,I,β,ob,aR⟩:=dE
    have:=bH aR c;rw[hp] at this;exact this.lit
   have aa3:refine s c p=s:=by
    cases c with
    |tmp t=>simp only[refine];simp only[ev] at hp;exact S.up_id hp
    |_=>rfl
   refine wpIn_cond_split GG (fun ht=>?_) (fun hf=>?_)
   ·have:=h.1 ht
    rw[ht] at aa3
    rw[aa3] at this
    exact ihx hc.1 q Q hQ s a w this dE
   ·have:=h.2 hf
    rw[hf] at aa3
    rw[aa3] at this
    exact ihy hc.2 q Q hQ s a w this dE
  ·exact h.elim
 |block id body ih=>
  intro hc q Q hQ s a w h dE
  simp only[cok] at hc
  simp only[iI] at h
  refine wpIn_block (ih hc _ _ (fun e s a w hk dE=>?_) s a w h dE)
  cases e with
  |normal=>exact hQ .normal s a w hk dE
  |exit i=>
   simp only[VE.ex,Exit.inBlock] at hk ⊢
   split
   ·rename_i e;rw[if_pos e] at hk;exact hQ .normal s a w hk dE
   ·rename_i e;rw[if_neg e] at hk;exact hQ (.exit i) s a w hk dE
  |ret=>exact hQ .ret s a w hk dE
 |loop body ih=>
  intro hc q Q hQ s a w h dE
  simp only[cok] at hc
  simp only[iI] at h
  obtain⟨k,h⟩:=h
  refine wpIn_loop_rounds k ?_
  induction k generalizing s a w with
  |zero=>exact h.elim
  |succ k ihk=>
   simp only[AD] at h
   obtain⟨s',jW,h⟩:=h
   rw[roundsIn_succ]
   refine ih hc _ _ (fun e s a w hk dE=>?_) s' a w h (by
    rcases jW with rfl | jW
    ·exact dE
    ·obtain⟨I1,M1,w1,rs,ua,ll,dE⟩:=dE
     exact⟨I1,M1,w1,rs,ua,ll,dE.weaken (by rw[ua.e];exact xb) jW⟩)
   cases e with
   |normal=>exact ihk s a w dE hk
   |exit i=>exact hQ (.exit i) s a w hk dE
   |ret=>exact hQ .ret s a w hk dE
 |exit id=>intro _ q Q hQ s a w h dE;exact wpIn_exit (hQ (.exit id) s a w h dE)
 |ret=>intro _ q Q hQ s a w h dE;exact wpIn_ret (hQ .ret s a w h dE)
 |label l=>intro _ q Q hQ s a w h dE;exact wpIn_label (hQ .normal s a w h dE)
 |scope body ih=>
  intro hc q Q hQ s a w h dE
  simp only[cok] at hc
  simp only[iI] at h
  refine vF (ih hc _ _ (fun e s a w hk dE=>?_) s a w h dE)
  cases e with
  |normal=>exact hQ .normal s a w hk dE
  |exit i=>exact hQ (.exit i) s a w hk dE
  |ret=>exact hQ .ret s a w hk dE
 |rangeFunc f ps assign body=>
  intro hc q Q hQ s a w h dE
  simp only[cok,bJ] at hc
  simp only[iI] at h
  have hl:l=none:=by
   rcases hl with hl | hl
   ·exact hl
   ·have:=h.1;rw[hl] at this;cases this
  subst hl
  exact Oq hc hQ h dE
 |_=>intro _ q Q hQ s a w h dE;exact h.elim
theorem SX.leaves {fn:Func} {R:Ending→World→Prop} (h:SX G n tr I0 M w0 s a w) (hd:M.d=[])
 (hR:∀ w' I' β' ob',St G n I0 M w0 I' β' ob' s { a with defers:=[] } w'→∃ v,(results fn a.tmps).run P w'=.ok v w'∧R (.returned v) w'):LeavesInM (FW none) 0 P fn a.tmps R a.defers .returning w:=by
 obtain⟨I1,M1,w1,rs,ua,_,I,β,ob,aR⟩:=h
 have WH:=aR.back ua
 have hdf:a.defers=rs.map mkD:=by rw[aR.defers,ua.d,hd,bq]
 rw[hdf,hd] at *
 refine DO (a0:={ a with defers:=[] }) rs w ua.nd (fun r hr=>?_) WH (fun w' h'=>hR w' _ _ _ h')
 obtain⟨q1,q2,q3,q4⟩:=ua.r r hr
 obtain⟨h1,h2,h3,h4⟩:=Reb.notWr aR q1
 exact⟨h1,h2,q2,fun o ho=>by
  rcases aR.ihigh r o ho with h5 | h5
  ·exact q3 o h5
  ·exact q1 h5,(aR.below.block r h3 h4).trans q4⟩
def Ot (P:Program) (s:S):ResultVar→(V→Prop)→Prop
 | .tmp t,K=>K (s.fr t)
 | .cell p T,K=>dh P T s (s.fr p) K
def Kw (z:Bool) (s:S) (x r:V):Prop:=if z then imm s x=some r else x=r
def DT (z:Bool) (s:S) (x r:V):Prop:=if z then imm s x=some r else x.fz=r
def tR (P:Program) (z:Bool) (s:S) (r:V):List ResultVar→Prop
 |[.tmp t]=>Kw z s (s.fr t) r
 |[.cell p T]=>dh P T s (s.fr p) fun u=>Kw z s u r
 |rs=>∃ ds,r=.tup ds∧ds.length=rs.length∧∀ (i:Nat) (R:ResultVar) (d:V),rs[i]?=some R→ds[i]?=some d→Ot P s R fun u=>DT z s u d
def zG (args:List V):S:=⟨fun j=>args.getD j .un,fun _=>[],0⟩
theorem LR.ofDR (h:DR I w v x):LR base I β w none v x:=by
 cases h with
 |un=>simp only[LR];exact .un _
 |sk=>simp only[LR];exact .sk
 |c _ _ h=>exact .ofC h
 |agg vs cs h1 h2=>simp only[LR];exact .agg vs cs h1 h2
 |tup vs ds h1 h2=>simp only[LR];exact .tup vs ds h1 h2
theorem St.init {I:Ft} {w:World} {vs:Array Value} {args:List V} {m:Nat} (hI:∀ b o,I b o→b<w.heap.size) (hg:GOK G I w) (fW:vs.size=args.length) (ha:∀ j x,args[j]?=some x→DR I w (vs.getD j undef) x)
 (hm:m=(vs++Array.replicate (n - vs.size) undef).size):St G m I ⟨fun _=>False,fun _=>none,[]⟩ w I (fun _=>none) (fun _=>none) (zG args) { tmps:=vs++Array.replicate (n - vs.size) undef,defers:=[] } w where
 size:=hm.symm
 defers:=rfl
 below:=BelowM.refl _ _
 kept:=fun _ _ _=>rfl
 ilow:=fun _ _ h=>h
 ihigh:=fun _ _ h=>.inl h
 ibnd:=hI
 fr:=fun t=>by
  simp only[zG]
  by_cases ht:t<args.length
  ·have e1:args.getD t .un=args[t]:=by simp[List.getD,ht]
   have e2:(vs++Array.replicate (n - vs.size) undef).getD t undef=vs.getD t undef:=by
    rw[aj,eB (by omega),← aj]
   rw[e1,e2]
   exact .ofDR (ha t _ (ae ht))
  ·have e1:args.getD t .un=.un:=by simp[List.getD,bw (en ht)]
   rw[e1];simp only[LR];exact .un _
 bx:=fun i hi=>by simp[zG] at hi
 bnone:=fun _ _=>rfl
 ext:=fun _ _ h=>by cases h
 bnew:=fun _ _ h=>by cases h
 binj:=fun _ _ _ h=>by cases h
 oinj:=fun _ _ _ h=>by cases h
 obx:=fun _ _ _ h=>by cases h
 obnd:=fun _ _ h=>by cases h
 glob:=hg
def V.out:V→Bool
 | .bp _ _ | .clo _ _ _ | .ms _ _ _ _ _ | .mag _ | .mr _ | .it _ _ _ _ | .gh _ _ _ | .gg _ _ _ | .yl _ | .lp _ _ | .bm _ _ _=>false
 |_=>true
theorem LR.leave {ox:Option Nat} (h:LR base I β w ox v x) (hx:x.out=true) {β':Nat→Option Nat}:LR base I β' w ox v x:=by
 cases x<;>simp only[V.out] at hx<;>try cases hx
 all_goals simp only[LR] at h ⊢;exact h
def V.comp:V→Bool
 | .c _ | .agg _=>true
 |_=>false
def V.compT:V→Bool
 | .tup ds=>ds.all V.comp
 |_=>true
def DU (a:Act):ResultVar→Sem Value
 | .tmp t=>pure (a.tmps.getD t undef)
 | .cell p t=>do loadVar t (← asAddr (a.tmps.getD p undef))
theorem Kx (fn:Func) (a:Act):results fn a.tmps=(do let vs ← fn.results.mapM (DU a);pure (if h:vs.size=1 then vs[0] else .tuple vs)):=by
 unfold results
 congr 1
theorem Xb (aR:St G n I0 M w0 I β ob s a w) {R:ResultVar} {K:V→Prop} (h:Ot P s R K):∃ x u o',K x∧LR (Wr M w0) I β w o' u x∧(∀ b,o'=some b→Wr M w0 b∧b<w.heap.size)∧
 (DU a R).run P w=.ok u w:=by
 cases R with
 |tmp t=>exact⟨_,_,_,h,aR.fr t,fun b hb=>⟨(aR.obnd _ b hb).2,(aR.obnd _ b hb).1⟩,rfl⟩
 |cell p T=>
  obtain⟨z,u,hz,hZ,bM⟩:=uf (x:=s.fr p) aR h (aR.fr p)
  refine⟨z,u,none,hz,hZ,fun b hb=>(by cases hb),?_⟩
  unfold Instr.loadAt at bM
  show(do loadVar T (← asAddr (a.tmps.getD p undef)):Sem Value).run P w=.ok u w
  generalize a.tmps.getD p undef=pv at bM ⊢
  cases pv<;>first | (simp[Instr.sureAddr,stuck,Sem.run] at bM;done) | skip
  rename_i ad
  cases ad with
  |none=>simp[Instr.sureAddr,stuck,Sem.run] at bM
  |some ad=>simpa[Instr.sureAddr,asAddr] using bM
theorem zH (aR:St G n I0 M w0 I β ob s a w) {Ic:Ft} {z:Bool} (hz:z=false→Ic=I) (tP:∀ b o,I b o→Ic b o) (hb:z=true→∀ i b o,β i=some b→Ic b o) :
 ∀ (rs:List ResultVar) (ds:List V),ds.length=rs.length→(∀ (i:Nat) (R:ResultVar) (d:V),rs[i]?=some R→ds[i]?=some d→Ot P s R fun u=>DT z s u d)→
 ∃ vs:List Value,vs.length=ds.length∧(∀ (i:Nat) (d:V),ds[i]?=some d→LR (Wr M w0) Ic β w none (vs.getD i undef) d)∧
  (rs.mapM (DU a)).run P w=.ok vs w
 |[],[],_,_=>⟨[],rfl,by simp,rfl⟩
 |R::rs,d::ds,hl,h=>by
  obtain⟨vs,h1,h2,h3⟩:=zH aR hz tP hb rs ds (by simpa using hl) (fun i R' d' hR hd=>h (i+1) R' d' (by simpa using hR) (by simpa using hd))
  obtain⟨x,u,o',hx,hZ,_,bM⟩:=Xb aR (h 0 R d rfl rfl)
  refine⟨u::vs,by simp[h1],fun i d' qo=>?_,?_⟩
  ·cases i with
   |zero=>
    simp at qo;subst qo
    cases z with
    |false=>rw[hz rfl];simp only[DT,aY,dm] at hx;rw[← hx];exact hZ.fz none
    |true=>simp only[DT,db] at hx;exact .ofDR (A7 aR hZ hx tP (fun _=>hb rfl))
   |succ i=>simpa using h2 i d' (by simpa using qo)
  ·rw[fm]
   simp only[aF,bM,ax,h3,bg]
 |[],_::_,hl,_=>by simp at hl
 |_::_,[],hl,_=>by simp at hl
theorem wE {fn:Func} (aR:St G n I0 M w0 I β ob s a w) {r:V} (oC:r.compT=true) {Ic:Ft} {z:Bool} (hz:z=false→Ic=I) (tP:∀ b o,I b o→Ic b o)
 (hb:z=true→∀ i b o,β i=some b→Ic b o) (eP:tR P z s r fn.results.toList) :
 ∃ v o',(results fn a.tmps).run P w=.ok v w∧LR (Wr M w0) Ic β w o' v r∧∀ b,o'=some b→∃ t,ob (.t t)=some b:=by
 unfold tR at eP
 rw[Kx,Array.mapM_eq_mapM_toList]
 split at eP
 ·rename_i t Mn
  rw[Mn]
  cases z with
  |false=>
   simp only[Kw,aY,dm] at eP
   refine⟨a.tmps.getD t undef,ob (.t t),by simp[DU],?_,fun b hb=>⟨_,hb⟩⟩
   rw[← eP,hz rfl];exact aR.fr t
  |true=>
   simp only[Kw,db] at eP
   exact⟨a.tmps.getD t undef,none,by simp[DU],.ofDR (A7 aR (aR.fr t) eP tP (fun _=>hb rfl)),fun b hb=>by cases hb⟩
 ·rename_i p T Mn
  rw[Mn]
  obtain⟨x,u,hx,hZ,bM⟩:=uf (x:=s.fr p) aR eP (aR.fr p)
  have ajl:(DU a (.cell p T)).run P w=.ok u w:=by
   unfold Instr.loadAt at bM
   show(do loadVar T (← asAddr (a.tmps.getD p undef)):Sem Value).run P w=.ok u w
   generalize a.tmps.getD p undef=pv at bM ⊢
   cases pv<;>first | (simp[Instr.sureAddr,stuck,Sem.run] at bM;done) | skip
   rename_i ad
   cases ad with
   |none=>simp[Instr.sureAddr,stuck,Sem.run] at bM
   |some ad=>simpa[Instr.sureAddr,asAddr] using bM
  refine⟨u,none,by simp[fm,ajl],?_,fun b hb=>by cases hb⟩
  cases z with
  |false=>
   simp only[Kw,aY,dm] at hx
   subst hx;rw[hz rfl];exact hZ
  |true=>
   simp only[Kw,db] at hx
   exact .ofDR (A7 aR hZ hx tP (fun _=>hb rfl))
 ·rename_i n1 n2
  obtain⟨ds,rfl,hl,eF⟩:=eP
  obtain⟨vs',h1,h2,h3⟩:=zH aR hz tP hb fn.results.toList ds hl eF
  have gW:vs'.length≠1:=fun h=>by
   have:fn.results.toList.length=1:=by omega
   obtain⟨R,hR⟩:=gP.1 this
   cases R with
   |tmp t=>exact n1 t hR
   |cell p T=>exact n2 p T hR
  refine⟨.tuple vs'.toArray,none,?_,?_,fun b hb=>by cases hb⟩
  ·simp[h3,gW]
  ·simp only[LR]
   refine .tup _ _ (by simpa using h1) fun j d hd=>?_
   have h4:=h2 j d hd
   have h5:=ba.1 oC d (aQ hd)
   have e1:vs'.toArray.getD j undef=vs'.getD j undef:=by simp[List.getD]
   rw[e1]
   cases d<;>simp only[V.comp] at h5<;>try cases h5
   all_goals simp only[LR] at h4;exact h4
theorem Q9 {f:FuncId} {k0:Nat} {fn:Func} {c:Code} {args:List V} {r:V} (z:Bool) (tr:List Nat) (hm:P.follows .mixedOrders=true) (hf:P.funcs[f]?=some fn) (hb:fn.body=some c) (mY:(fn.name== "runtime.NumGoroutine")=false)
 (hn:args.length≤fn.ntmps) (vK:cok fn.ntmps tr c=true)
 (hr:r.out=true) (oC:r.compT=true)
 (h:iI P G tr k0 c (fun e s=>(match e with | .exit _=>False | _=>True)∧tR P z s r fn.results.toList) (zG args)):FnOK P G f args r:=by
 refine⟨⟨fn,hf,mY,c,hb⟩,fun I w vs hI hg fW ha=>?_⟩
 have jA:fn.ntmps=(vs++Array.replicate (fn.ntmps - vs.size) undef).size:=by simp;omega
 have aR:=St.init (n:=fn.ntmps) hI hg fW ha jA
 refine pG.1 (callsIn_of_wp_marks (F:=FW none) (n:=0) hf hb trivial (mO (l:=none) hm (fun _ _ h=>by cases h) (.inl rfl) c vK _ _ (fun e s a w' hq dE=>?_) _ _ _ h (.of ⟨_,_,_,aR⟩)))
 obtain⟨hex,eP⟩:=hq
 have vL:∀ b,Wr ⟨fun _=>False,fun _=>none,[]⟩ w b→w.heap.size≤b:=fun b hb=>by rcases hb with hb | hb;exact hb;exact hb.elim
 have main:LeavesInM (FW none) 0 P fn a.tmps (fun e w'=>∃ v' I'',e=.returned v'∧World.grt (GT G) w w' none∧(∀ b o,I b o→I'' b o)∧
  (∀ b o,I'' b o→I b o∨(w.heap.size≤b∧b<w'.heap.size))∧ahc (fun b=>w.heap.size≤b) I'' w' v' r) a.defers .returning w':=by
  refine dE.leaves rfl fun w' I' β ob cK=>?_
  obtain⟨v,o',h1,h2,h3⟩:=wE (P:=P) (fn:=fn) cK oC (Ic:=fun b o=>I' b o∨(z=true∧∃ i,β i=some b)) (fun hz=>by subst hz;simp) (fun _ _ h=>.inl h) (fun hz i b o hi=>.inr ⟨hz,i,hi⟩) eP
  refine⟨v,h1,v,(fun b o=>I' b o∨(z=true∧∃ i,β i=some b)),rfl,⟨cK.below.os,cK.below.tape,cK.below.output,cK.below.size,fun k hk _=>cK.below.block k hk (fun e=>e.elim),cK.below.drawn⟩,fun b o h=>.inl (cK.ilow b o h),fun b o EN=>?_,o',?_,fun b hb=>?_⟩
  ·rcases EN with EN | ⟨_,i,hi⟩
   ·rcases cK.ihigh b o EN with h4 | h4
    ·exact .inl h4
    ·exact .inr ⟨vL b h4,cK.ibnd b o EN⟩
   ·obtain⟨_,h5,h6⟩:=cK.boxblk hi
    exact .inr ⟨vL b h5,h6⟩
  ·have mG:=h2.leave hr (β':=fun _=>none)
   have e:Wr ⟨fun _=>False,fun _=>none,[]⟩ w=fun b=>w.heap.size≤b:=by funext b;simp[Wr]
   rw[e] at mG
   exact mG
  ·obtain⟨L,hL⟩:=h3 b hb
   obtain⟨h4,h5⟩:=cK.obnd _ b hL
   exact⟨vL b h5,h4⟩
 cases e with
 |normal=>exact main
 |exit i=>exact hex.elim
 |ret=>exact main
theorem Xc {f:FuncId} {fn:Func} {c:Code} {args:List V} {r:V} (z:Bool) (tr:List Nat) (hm:P.follows .mixedOrders=true) (hf:P.funcs[f]?=some fn) (hb:fn.body=some c) (mY:(fn.name== "runtime.NumGoroutine")=false)
 (hn:args.length≤fn.ntmps) (vK:cok fn.ntmps tr c=true)
 (hr:r.out=true) (oC:r.compT=true)
 (h:vwp P G tr c (fun e s=>(match e with | .exit _=>False | _=>True)∧tR P z s r fn.results.toList) (zG args)):FnOK P G f args r:=Q9 z tr hm hf hb mY hn vK hr oC h
