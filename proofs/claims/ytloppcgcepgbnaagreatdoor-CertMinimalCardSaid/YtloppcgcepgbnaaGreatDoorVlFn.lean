/- Values without memory: objects that are known by their exact pointers; their owners are ghosts in boxes' cells. -/
import Derived.Test.YtloppcgcepgbnaaGreatDoorVlCode
import Derived.Test.YtloppcgcepgbnaaGreatDoorVlDraw
import Derived.Scope
set_option linter.all false
namespace Go.Vl
open Go Go.RowKit
section
variable {P:Program} {G:Gl} {tr:List Nat} {n:Nat} {I0:Ft} {M:Mx} {w0:World} {I:Ft} {β:Nat→Option Nat} {ob:Loc→Option Nat} {s:S} {a:Act} {w:World} {o:Oper}
 {next:Act→World→Prop} {Q:Exit→Act→World→Prop} {base:Nat→Prop} {v:Value} {x y:V}
theorem Vd (w:World) (o:Obj):(w.alloc o).heap[w.heap.size]?=some o:=Array.getElem?_push_size
theorem QQ {T:TypeId} {i:TI} {blk q e sz cap:Nat} {cur:Array Value} {es:List (List C)} {K:V→Prop} (hi:ti P T=some i) (g1:w.heap[blk]?=some (.cells cur e (0,0))) (g2:cur.size=cap*sz) (g4:es.length≤cap) (g3:∀ x∈es,x.length=sz)
 (g5:∀ j c,es.flatten[j]?=some c→CR I w (cur.getD j undef) c) (h:cJ i.agg i.size q es.flatten K) :
 ∃ z u,K z∧LR (Wr M w0) I β w none u z∧(Instr.loadAt T (.pointer (some ⟨blk,q,none⟩))).run P w=.ok u w:=by
 obtain⟨j,d,h1,h2,_,fC,_,kO,_⟩:=bu hi
 simp only[Instr.loadAt,Instr.sureAddr,aC,a8,aw]
 have kU:=bE es g3
 have ke:=aL sz g4
 have jo:Cells I w (cur.extract 0 es.flatten.length) es.flatten:=by
  refine⟨by rw[iq];omega,fun j c hj=>?_⟩
  have Qa:=(ae.1 hj).1
  have e0:(cur.extract 0 es.flatten.length).getD j undef=cur.getD j undef:=by
   rw[ah,ah,dw]
   rw[if_pos (by omega),aK]
  rw[e0];exact g5 j c hj
 obtain⟨z,v,hz,hZ,hv⟩:=nY (base:=Wr M w0) (β:=β) h jo
 have qX:(cur.extract 0 es.flatten.length).size=es.flatten.length:=jo.1
 refine⟨z,v,hz,hZ,?_⟩
 have eQ:=fun q=>eZ w blk q cur e (0,0) g1
 have hL:es.flatten.length≤cur.size:=by omega
 clear jo kU
 generalize es.flatten.length=L at hv qX hL
 rcases hv with⟨h3,h4,rfl⟩ | ⟨h3,h4⟩
 ·rw[qX] at h4
  rw[jO T d h2 blk q (fun p=>cur.getD (q+p) undef) i.size (by rw[fC,eu h1]) (fun p hp=>by rw[eQ];simp[ax (show q+p<cur.size by omega)]) (fun hz=>by rw[← kO,h3] at hz;cases hz),← kO,h3]
  simp only[dn]
  congr 2
  apply da
  apply fP
  intro p
  rw[aO,aO,dw,dw]
  by_cases hp:p<i.size
  ·rw[if_pos (by rw[iq];omega),if_pos (by omega)]
   simp[hp,show q+p<cur.size from by omega]
  ·rw[if_neg (by rw[iq];omega)]
   simp[hp]
 ·have ho:=(bf.1 h4).1
  rw[qX] at ho
  have OB:cur[q]?=some v:=by
   rw[← h4,dw,if_pos (by omega),aK]
  unfold loadVar
  have yw:cZ P T=false:=by rw[← kO];exact h3
  simp[lL T d h2,yw,eQ,OB]
theorem GG {T:TypeId} {X:Operand} {K:V→Prop} (hst:St G n I0 M w0 I β ob s a w) (h:wa P s T (ev G s X) K) :
 ∃ z u,K z∧LR (Wr M w0) I β w none u z∧(Instr.loadAt T (a.eval X)).run P w=.ok u w:=by
 unfold wa at h
 split at h
 ·rename_i i blk q hi hx
  have OH:=bD hst X
  rw[hx] at OH
  have hpe:=OH.toC.ex_inv
  obtain⟨b,k,len,cap,e,sz,es,⟨hb,hk⟩,h⟩:=h
  obtain⟨cur,⟨g1,g2,g3,g4,g5,g6,g7⟩,_⟩:=hst.ggSet hb hk
  rw[hpe]
  exact QQ hi g2 g3 g4 g5 g6 h
 ·exact h.elim
theorem GH {T:TypeId} {p X:Operand} {K:(Nat→List V)→Prop} (hst:St G n I0 M w0 I β ob s a w) (h:A9 P s T (ev G s p) (ev G s X) K) :
 ∃ bx w',K bx∧(Instr.storeAt T (a.eval p) (a.eval X)).run P w=.ok () w'∧St G n I0 M w0 I β ob { s with bx:=bx } a w':=by
 unfold A9 at h
 split at h
 ·rename_i i blk j cs hi hp jo
  obtain⟨b,k,len,cap,E,sz,row,⟨hb,hk,kf,hjr⟩,h⟩:=h
  obtain⟨j',d,FC,D6,_,fC,_,kO,_⟩:=bu hi
  have OH:=bD hst p
  rw[hp] at OH
  have hpe:=OH.toC.ex_inv
  have qF:=Ih (bD hst X) jo
  obtain⟨cur,⟨g1,g2,g3,g4,g5,g6,g7⟩,pZ⟩:=hst.ggSet hb hk
  have zo:row.length=sz:=g5 row (by simp)
  have AD:(a.eval X).cells.toList.length=i.size:=by rw[bK,qF.1,kf]
  have OI:cur.toList.length=cur.size:=bK
  have ke:sz≤cur.size:=by
   have:=aL sz g4
   simp only[bN,mK] at this
   omega
  have LD:RelL I w (a.eval X).cells.toList cs:=fun q c hq=>by
   have:=qF.2 q c hq
   have nr:q<(a.eval X).cells.size:=by rw[qF.1];exact(ae.1 hq).1
   refine⟨(a.eval X).cells[q],by rw[aO,ax nr],?_⟩
   rw[ah,ax nr] at this
   exact this
  have LF:∀ u∈(a.eval X).cells.toList,u.oneCell'=true:=fun u hu=>by
   obtain⟨q,hq⟩:=eA.1 hu
   have nr:q<cs.length:=by rw[kf,← AD];exact(ae.1 hq).1
   obtain⟨u',A4,jn⟩:=LD q _ (ab nr)
   rw[hq] at A4;cases A4
   exact jn.oneCell
  have kU:([row]:List (List C)).flatten=row:=by simp
  have tf:RelL I w cur.toList row:=fun q c hq=>by
   have nr:=(ae.1 hq).1
   refine⟨cur.getD q undef,?_,g6 q c (by rw[kU];exact hq)⟩
   rw[aO,ah,ax (show q<cur.size by omega)];rfl
  have bH:(Instr.storeAt T (a.eval p) (a.eval X)).run P w=.ok () (w.setRow blk (cur.toList.take j++(a.eval X).cells.toList++cur.toList.drop (j+i.size)).toArray):=by
   rw[hpe]
   simp only[Instr.storeAt,Instr.sureAddr,aC,a8,aw]
   unfold storeVar
   simp only[aC,eW w FC,aw]
   rw[if_neg (by rw[eu FC,← fC,qF.1,kf];simp)]
   have:=fH (P:=P) blk j (.of E) (a.eval X).cells.toList 0 cur w g2 RT.of_ok (by rw[AD];omega) LF
   rw[AD] at this
   simpa using this
  have pg:=pZ [row.take j++cs++row.drop (j+cs.length)] (cur.toList.take j++(a.eval X).cells.toList++cur.toList.drop (j+i.size)) (by simp) (fun x hx=>by
   rw[aW] at hx;subst hx
   rw[aj,aj,aG,b9,bI (by omega)];omega)
   (by rw[aj,aj,AD,aG,b9,OI,bI (by omega)];omega)
   (fun u hu=>by
    rcases aZ.1 hu with hu | hu
    ·rcases aZ.1 hu with hu | hu
     ·exact g7 u (bZ.1 (cU hu))
     ·exact LF u hu
    ·exact g7 u (bZ.1 (cM hu)))
   (by
    rw[show([row.take j++cs++row.drop (j+cs.length)]:List (List C)).flatten=row.take j++cs++row.drop (j+cs.length) by simp,kf]
    refine RelL.append (RelL.append (tf.take _) LD ?_) (tf.drop _) ?_
    ·rw[aG,aG,OI,bI (by omega),bI (by omega)]
    ·rw[aj,aj,AD,kf,aG,aG,OI,bI (by omega),bI (by omega)])
  exact⟨_,_,h,bH,pg⟩
 ·exact h.elim
theorem DL {T:TypeId} {X:Operand} {K:S→Prop} (hst:St G n I0 M w0 I β ob s a w) (b8:o.op=.box T X) (hd:∀ d,o.dst=some d→d<n) (h:xn P s o.dst T (ev G s X) K)
 (hk:∀ a' w' s',K s'→SE G n I0 M w0 s' a' w'→next a' w'):o.wp P a w next Q:=by
 unfold xn at h
 split at h
 ·rename_i i cs hi jo
  obtain⟨b,k,y,⟨kf,qY,hb,hkk,Up⟩,h⟩:=h
  obtain⟨j',d,FC,D6,_,fC,_,kO,_⟩:=bu hi
  have qF:=Ih (bD hst X) jo
  have hs:=hst.allocOwn (.cells (a.eval X).cells T)
  have sP:=hst.fresh (ar _)
  have hI:∀ b k,I b k→I b k∧(w.alloc (.cells (a.eval X).cells T)).cell? ⟨b,k,none⟩=w.cell? ⟨b,k,none⟩:=fun b k hb=>⟨hb,dJ (a:=⟨b,k,none⟩) (dY w _ b (hst.ibnd b k hb))⟩
  have jJ:∀ u∈(a.eval X).cells,u.oneCell'=true:=fun u hu=>by
   obtain⟨q,hq,rfl⟩:=fq.1 hu
   have nr:q<cs.length:=by rw[← qF.1];exact hq
   have:=qF.2 q _ (ab nr)
   rw[ah,ax hq] at this
   exact CR.oneCell this
  have gf:OwnG (Wr M w0) I (w.alloc (.cells (a.eval X).cells T)) (some (T,i.size)) [cs] (some w.heap.size) (.slice (some ⟨w.heap.size,0,none⟩) 1 1):=by
   refine .inr ⟨T,w.heap.size,1,(a.eval X).cells,i.size,rfl,rfl,rfl,.inl hst.below.size,Vd w _,ar _,by decide,by rw[qF.1,kf,mK],fun x hx=>by rw[aW] at hx;subst hx;exact kf,fun j c hj=>?_,jJ,fun q hq=>?_⟩
   ·have hj:cs[j]?=some c:=by simpa using hj
    exact(qF.2 j c hj).mono hI
   ·have:=hst.ibnd _ _ hq;omega
  have g1:=hs.giveAny (b:=b) (k:=k) (x':=.gg (.slice (some ⟨w.heap.size,0,none⟩) 1 1) (some (T,i.size)) [cs]) (o':=some w.heap.size) hb hkk Up rfl (fun c hc=>by
   cases hc
   refine⟨⟨by rw[dZ];omega,.inl hst.below.size⟩,fun L hL=>sP.1 L hL,fun i hi=>sP.2 i hi⟩) (fun v=>by simp only[LR];exact gf)
  refine ep (v':=.pointer (some ⟨w.heap.size,0,none⟩)) (w':=w.alloc (.cells (a.eval X).cells T)) ?_ (hk _ _ _ (h w.heap.size) (SE.put g1 hd (.ofC (.ex _ rfl rfl))))
  obtain⟨dst,op,type,pos,after,guard⟩:=o
  simp only at b8;subst b8
  simp[execOp,Instr.box,newVar,newRow]
 ·exact h.elim
theorem GI {T:TypeId} {k:V} {K:S→V→Prop} {vx vk:Value} {ox oy:Option Nat} (hst:St G n I0 M w0 I β ob s a w) (h:L6 P T s x k K)
 (hx:LR (Wr M w0) I β w ox vx x) (hy:LR (Wr M w0) I β w oy vk k) :
 ∃ s' ob' w' z u,K s' z∧(Instr.mapEntry T vx vk).run P w=.ok u w'∧St G n I0 M w0 I β ob' s' a w'∧LR (Wr M w0) I β w' none u z:=by
 obtain⟨kt0,et0,⟨hu0,hz0⟩,h⟩:=h
 obtain⟨i,bs,cl,r,res,z0,blk,kt,et,es,zv,hK,rfl,rfl,hm,hu,vG,D5,vF,hz1,hz2⟩:=oZ hst h hx hy
 rw[hu0] at hu
 simp only[ai,TypeDesc.map.injEq] at hu
 obtain⟨rfl,rfl⟩:=hu
 have ta:zv=.slice none 0 0:=by
  have:=hz0 w
  rw[hz1] at this
  injection this
 have hg:=fc (P:=P) hm.heap
 have hI:∀ (o':Obj) b o,I b o→I b o∧(World.putObj w blk o').cell? ⟨b,o,none⟩=w.cell? ⟨b,o,none⟩:=fun o' b o hb=>
  ⟨hb,hst.keeps (o5 blk o') (fun r e o ho=>by cases e;exact absurd ho (hm.fr o)) b o hb⟩
 have anm:LR (Wr M w0) I β w none zv nilC:=by rw[ta];exact .ofC (.ex _ rfl rfl)
 cases res with
 |some j=>
  obtain⟨e,he,HY,LH⟩:=vF j rfl
  simp only[cD,he,cG] at D5
  obtain⟨l1,l2⟩:=hm.ent j e he
  have he':es[j]?=some e:=by rw[← aO];exact he
  have hbj:bs.getD j 0=e.born:=by rw[← hm.born];simp[List.getD,he]
  have ot:up s.bx i (V.mk bs cl::r)=s.bx:=by rw[← hm.bx];exact rS _ _
  have cy:∃ ob',St G n I0 M w0 I β ob' s a (World.putObj w blk (.map (es.modify j fun e=>{ e with key:=vk }) cl)):=by
   have oK:∀ q,(es.modify j fun e=>{ e with key:=vk }).toList[q]?=es.toList[q]?:=fun q=>by
    rw[Array.toList_modify,List.getElem?_modify]
    by_cases hq:j=q
    ·subst hq;rw[he,← HY];simp
    ·cases es.toList[q]?<;>simp[hq]
   have hl:(es.modify j fun e=>{ e with key:=vk })=es:=da (fP oK)
   rw[hl]
   obtain⟨ob',h'⟩:=hst.reMap hm (es':=es) (bs':=bs) (cl':=cl) (r':=r) (od:=fun q=>ob (.b i q)) hm.born hm.len (fun _ _ h=>h) hm.ent
   rw[ot] at h'
   exact⟨ob',h'⟩
  obtain⟨ob',cy⟩:=cy
  refine⟨s,ob',_,_,.tuple #[e.val,.int .i64 e.born],hK,?_,cy,?_⟩
  ·simp[Instr.mapEntry,aP hu0,hg,vG,D5,he',LH,fK _ hm.heap,Result.andThen,World.putObj,goInt]
  ·simp only[LR]
   rw[hbj]
   exact(aaM (vM l2) (.c _ _ (.lit _ rfl))).mono (hI _)
 |none=>
  simp only[kS] at D5
  obtain⟨ob',cy⟩:=wj hst hm (hy.fz none) anm
  refine⟨_,ob',_,_,.tuple #[zv,.int .i64 cl],hK,?_,cy,?_⟩
  ·simp[Instr.mapEntry,aP hu0,hg,vG,D5,hz1,fK _ hm.heap,Result.andThen,World.putObj,goInt]
  ·simp only[LR]
   exact(aaM (vM anm) (.c _ _ (.lit _ rfl))).mono (hI _)
theorem MS {K:S→Prop} (hst:St G n I0 M w0 I β ob s a w) (hd:∀ d,o.dst=some d→d<n) (h:vr P G o s K)
 (hk:∀ a' w' s',K s'→SE G n I0 M w0 s' a' w'→next a' w'):o.wp P a w next Q:=by
 unfold vr at h
 split at h
 ·rename_i T X b8
  exact DL hst b8 hd h hk
 ·rename_i T X b8
  obtain⟨z,u,hK,hZ,bH⟩:=GG hst h
  refine ep (v':=u) (w':=w) ?_ (hk _ _ _ hK (SE.put hst hd hZ))
  obtain⟨dst,op,type,pos,after,guard⟩:=o
  simp only at b8;subst b8
  simp only[execOp,aC,bH,aw,a8]
 ·rename_i T p X b8
  obtain⟨bx,w',hK,bH,cy⟩:=GH hst h
  unfold Oper.wp
  obtain⟨dst,op,type,pos,after,guard⟩:=o
  simp only at b8;subst b8
  simp only[execOp,aC,bH,aw,a8,Oper.upon]
  exact hk _ _ _ hK (SE.put (v:=undef) (x:=.sk) cy hd (by simp only[LR];exact .sk))
 ·rename_i T m k b8
  obtain⟨s',ob',w',z,u,hK,bH,cy,hZ⟩:=GI hst h (bD hst m) (bD hst k)
  refine ep (v':=u) (w':=w') ?_ (hk _ _ _ hK (SE.put cy hd hZ))
  obtain⟨dst,op,type,pos,after,guard⟩:=o
  simp only at b8;subst b8
  simp only[execOp,aC,bH,aw,a8]
 ·exact h.elim
theorem aaU {K:S→Prop} (h:vr P G o s K):∀ c,o.op≠.defer c:=fun c hc=>by
 unfold vr at h
 rw[hc] at h
 exact h
end
section
variable {P:Program} {G:Gl} {tr:List Nat} {n:Nat} {I0:Ft} {M:Mx} {w0:World} {I:Ft} {β:Nat→Option Nat} {ob:Loc→Option Nat} {s:S} {a:Act} {w:World} {o:Oper}
 {Q:Exit→Act→World→Prop} {base:Nat→Prop} {v:Value} {x y:V}
theorem St.split (h:St G n I0 M w0 I β ob s a w) {b k q:Nat} {E:Option (TypeId×Nat)} {es:List (List C)} (hb:b<s.nb) (hk:(s.bx b)[k]?=some (.ow E es)) (hq:q<n):∃ v,SE G n I0 M w0 (s.split b k q v E es) a w:=by
 obtain⟨blk,cur,e1,e2,e3,e4,e5,e7⟩:=h.bx b hb
 have pY:k<(s.bx b).length:=(ae.1 hk).1
 have eQ:(s.bx b).getD k .un=.ow E es:=by simp[List.getD,hk]
 have gf:=e5 k
 rw[eQ] at gf
 simp only[LR] at gf
 have LO:∃ x y z,cur.getD k undef=.slice x y z:=by
  rcases gf.1.sl_inv with⟨⟨x,y,h1,_⟩,_⟩ | ⟨x,y,z,_,_,h1,_⟩
  ·exact⟨_,_,_,h1⟩
  ·exact⟨_,_,_,h1⟩
 obtain⟨x,y,z,LO⟩:=LO
 have hex:CR I w (cur.getD k undef) (.ex (cur.getD k undef)):=by rw[LO];exact .ex _ rfl rfl
 have fJ:∀ L c,upL ob (.b b k) none L=some c→L≠.b b k∧ob L=some c:=fun L c hL=>by
  simp only[upL] at hL
  split at hL
  ·cases hL
  ·rename_i gK;exact⟨gK,hL⟩
 have h1:St G n I0 M w0 I β (upL ob (.b b k) none) { s with bx:=up s.bx b ((s.bx b).set k (.c (.ex (cur.getD k undef)))) } a w:={
  size:=h.size,defers:=h.defers,below:=h.below,ilow:=h.ilow,kept:=h.kept,ihigh:=h.ihigh,ibnd:=h.ibnd
  fr:=fun t=>by
   have:=h.fr t
   have e:upL ob (.b b k) none (.t t)=ob (.t t):=by simp[upL]
   rw[e];exact this
  bx:=fun i hi=>by
   by_cases qb:i=b
   ·subst qb
    refine⟨blk,cur,e1,e2,?_,by simp only[bT,fD];exact e4,fun j=>?_,e7⟩
    ·simp only[bT]
     refine e3.congr (by simp) ?_
     unfold qG
     by_cases xg:k=0
     ·subst xg
      have:((s.bx i).set 0 (.c (.ex (cur.getD 0 undef)))).getD 0 .un=.c (.ex (cur.getD 0 undef)):=by simp[List.getD,pY]
      rw[this,eQ]
     ·have:((s.bx i).set k (.c (.ex (cur.getD k undef)))).getD 0 .un=(s.bx i).getD 0 .un:=by simp[List.getD,cV xg]
      rw[this]
    ·simp only[bT]
     by_cases hjk:j=k
     ·subst hjk
      have:((s.bx i).set j (.c (.ex (cur.getD j undef)))).getD j .un=.c (.ex (cur.getD j undef)):=by simp[List.getD,pY]
      rw[this]
      have e:upL ob (.b i j) none (.b i j)=none:=by simp[upL]
      rw[e];exact .ofC hex
     ·have:((s.bx i).set k (.c (.ex (cur.getD k undef)))).getD j .un=(s.bx i).getD j .un:=by simp[List.getD,cV (gX hjk)]
      rw[this]
      have e:upL ob (.b i k) none (.b i j)=ob (.b i j):=by simp[upL,hjk]
      rw[e];exact e5 j
   ·obtain⟨sN,cur',q1,q2,q3,q4,q5,q7⟩:=h.bx i hi
    refine⟨sN,cur',q1,q2,by simp only[cF _ _ qb];exact q3,by simp only[cF _ _ qb];exact q4,fun j=>?_,q7⟩
    simp only[cF _ _ qb]
    have e:upL ob (.b b k) none (.b i j)=ob (.b i j):=by simp[upL,qb]
    rw[e];exact q5 j
  bnone:=h.bnone,ext:=h.ext,bnew:=h.bnew,binj:=h.binj
  oinj:=fun L L' c q1 q2=>h.oinj L L' c (fJ L c q1).2 (fJ L' c q2).2
  obx:=fun L c i q1=>h.obx L c i (fJ L c q1).2
  obnd:=fun L c q1=>h.obnd L c (fJ L c q1).2
  glob:=h.glob }
 have h2:=h1.put q hq (v:=a.tmps.getD q undef) (x:=.gh (cur.getD k undef) E es) (o:=ob (.b b k)) (by simp only[LR];exact gf) (fun c hc=>by
  refine⟨h.obnd _ c hc,fun L hL=>?_,fun i=>h.obx _ c i hc⟩
  simp only[upL] at hL
  split at hL
  ·cases hL
  ·split at hL
   ·cases hL
   ·rename_i q1 q2;exact q2 (h.oinj _ _ c hL hc))
 rw[jv (by rw[h.size];exact hq)] at h2
 exact⟨_,_,_,_,h2⟩
theorem ak6 {I:Ft} {w:World} {v u:Value} (h:DR I w v (.c (.ex u))):v=u:=by
 cases h with
 |c _ _ h=>exact h.ex_inv
theorem mB {ops:Array Oper} {K:S→Prop} (eK:mw n ops=true) (h:GsK ops K s) (dB:SE G n I0 M w0 s a w):∃ s',K s'∧SE G n I0 M w0 s' a w:=by
 have afs:∀ {ob:Loc→Option Nat} {β:Nat→Option Nat} {I:Ft} {s:S} (hst:St G n I0 M w0 I β ob s a w) {L0:Loc} {blk:Nat},ob L0=some blk→∀ L,upL ob L0 none L≠some blk:=fun hst L0 blk h0 L hL=>by
  simp only[upL] at hL
  split at hL
  ·cases hL
  ·rename_i gK;exact gK (hst.oinj _ _ blk hL h0)
 induction h with
 |done h=>exact⟨_,h,dB⟩
 |warm b k hb hk _ ih=>
  obtain⟨I,β,ob,hst⟩:=dB
  refine ih (hst.reword hb hk rfl rfl fun cur hx=>?_)
  have Db:OwnR (Wr M w0) I w none [] (ob (.b b k)) (cur.getD k undef):=hx
  rcases Db.2 with⟨h1,_,a,h2⟩ | ⟨_,_,_,_,_,_,h2,_⟩
  ·exact⟨(fun _ h=>by cases h),.inl ⟨h1,rfl,rfl,a,h2⟩⟩
  ·cases h2
 |@warmT s t ht _ ih=>
  obtain⟨I,β,ob,hst⟩:=dB
  have hx:=hst.fr t
  rw[ht] at hx
  have Db:OwnR (Wr M w0) I w none [] (ob (.t t)) (a.tmps.getD t undef):=hx
  obtain⟨av,hv⟩:∃ av,a.tmps.getD t undef=.slice av 0 0:=by
   rcases Db.2 with⟨_,_,av,h2⟩ | ⟨_,_,_,_,_,_,h2,_⟩
   ·exact⟨av,h2⟩
   ·cases h2
  have tz:t<n:=by
   rcases bS t n with h' | h'
   ·exact h'
   ·exfalso
    have e0:a.tmps.getD t undef=undef:=by rw[ah,c9 (by rw[hst.size];exact h')];rfl
    rw[e0] at hv
    simp[undef] at hv
  have dB:=hst.put t tz (v:=a.tmps.getD t undef) (x:=.gs none none []) (o:=none) (by simp only[LR];exact⟨fun _ h=>(by cases h),.inl ⟨rfl,rfl,rfl,av,hv⟩⟩) FreeOb.nothing
  rw[jv (by rw[hst.size];exact tz)] at dB
  exact ih ⟨_,_,_,dB⟩
 |warmX b k hb hk _ ih=>
  obtain⟨I,β,ob,hst⟩:=dB
  refine ih ⟨_,_,_,hst.reown hb hk rfl rfl (.inl rfl) fun cur hx=>?_⟩
  simp only[LR] at hx ⊢
  exact⟨(fun _ h=>by cases h),.inl ⟨rfl,rfl,rfl,none,ak6 hx⟩⟩
 |name b k hb kR hk _ ih=>
  obtain⟨I,β,ob,hst⟩:=dB
  obtain⟨blk,cur,h1,h2,h3,h4⟩:=hst.gsCell hb kR hk
  exact ih _ h4.gsV ⟨_,_,_,hst.reownAt hb kR h1 h2 hk rfl (.inr rfl) ⟨fun u e=>by cases e;rfl,h4⟩⟩
 |forget b k hb hk Up _ ih=>
  obtain⟨I,β,ob,hst⟩:=dB
  exact ih ⟨_,_,_,hst.giveAny (x':=.un) (o':=none) hb hk Up rfl (fun c e=>by cases e) (fun v=>by simp only[LR];exact .un _)⟩
 |unname b k hb hk _ ih=>
  obtain⟨I,β,ob,hst⟩:=dB
  exact ih (hst.reword hb hk rfl rfl fun cur hx=>⟨(fun _ h=>by cases h),hx.gsO.2⟩)
 |split b k q hb kR hk hq _ ih=>
  obtain⟨I,β,ob,hst⟩:=dB
  obtain⟨blk,cur,h1,h2,h3,h4⟩:=hst.gsCell hb kR hk
  rw[dL] at hq
  obtain⟨o,ho,FD⟩:=hq
  have Un:=eU eK ho q (by simpa using FD)
  have g1:=hst.reownAt (x':=.c (.ex (cur.getD k undef))) (o':=none) hb kR h1 h2 hk rfl (.inl rfl) (.ofC h4.exact)
  have g2:=g1.put q Un (v:=a.tmps.getD q undef) (x:=.gg (cur.getD k undef) _ _) (o:=ob (.b b k)) (by simp only[LR];exact h4) (fun c hc=>by
   refine⟨hst.obnd _ c hc,fun L hL=>?_,fun i=>hst.obx _ c i hc⟩
   simp only[upL] at hL
   split at hL
   ·cases hL
   ·split at hL
    ·cases hL
    ·rename_i q1 q2;exact q2 (hst.oinj _ _ c hL hc))
  rw[jv (by rw[hst.size];exact Un)] at g2
  exact ih _ (fun u hu=>(h3 u hu).symm) h4.gsV ⟨_,_,_,g2⟩
 |@box s b k g e sz es hb kR hk _ ih=>
  obtain⟨I,β,ob,hst⟩:=dB
  obtain⟨blk,cur,h1,h2,h3,h4⟩:=hst.gsCell hb kR hk
  rcases h4 with⟨_,hE,_⟩ | ⟨e',blk2,cap,row,sz',r1,r2,r3,r4,r5,r6,r7,r8,r9,r10,r11,r12⟩
  ·cases hE
  cases r2
  have pY:k<(s.bx b).length:=(ae.1 hk).1
  have g1:=hst.reownAt (x':=.un) (o':=none) hb kR h1 h2 hk rfl (.inl rfl) (by simp only[LR];exact .un _)
  have kU:=bE es r9
  have ke:=aL sz r6
  have g2:=g1.adopt (T:=.of e) (cs:=es.flatten) r4 r5 RT.of_ok r11 (by omega) r10 (afs hst r1) (fun i=>hst.obx _ _ i r1) r12
  have hbn:b≠s.nb:=by omega
  have aal:bY ((s.bx b).set k .un)=false:=by
   unfold bY at kR ⊢
   by_cases xg:k=0
   ·subst xg
    have:((s.bx b).set 0 .un).getD 0 .un=.un:=by simp[List.getD,pY]
    rw[this];rfl
   ·have:((s.bx b).set k .un).getD 0 .un=(s.bx b).getD 0 .un:=by simp[List.getD,cV xg]
    rw[this];exact kR
  have H2:({ fr:=s.fr,bx:=up (up s.bx b ((s.bx b).set k .un)) s.nb (es.flatten.map .c),nb:=s.nb+1 }:S).bx b=(s.bx b).set k .un:=by
   show up (up s.bx b _) s.nb _ b=_
   rw[cF _ _ hbn,bT]
  have Uz:up β s.nb (some blk2) b=some blk:=by rw[cF _ _ hbn];exact h1
  have g3:=g2.reownAt (b:=b) (k:=k) (blk:=blk) (cur:=cur) (x:=.un) (x':=.ms s.nb 0 es.length es.length sz) (o':=none) (by show b<s.nb+1;omega) (by rw[H2];exact aal) Uz (by
   rw[H2]
   refine h2.congr (by simp) ?_
   rw[gC kR,gC aal]) (by rw[H2];simp[pY]) rfl (.inl rfl) (by
   simp only[LR]
   exact⟨ar _,blk2,0,cap,r6,bT _ _ _,.inr rfl,r3⟩)
  rw[H2] at g3
  have zt:({ fr:=s.fr,bx:=up (up (up s.bx b ((s.bx b).set k .un)) s.nb (es.flatten.map .c)) b (((s.bx b).set k .un).set k (.ms s.nb 0 es.length es.length sz)),nb:=s.nb+1 }:S)=
   ⟨s.fr,up (up s.bx b ((s.bx b).set k (.ms s.nb 0 es.length es.length sz))) s.nb (es.flatten.map .c),s.nb+1⟩:=by
   congr 1
   rw[List.set_set]
   funext i
   simp only[up]
   by_cases hi:i=b
   ·subst hi;simp[hbn]
   ·simp[hi]
  have g4:SE G n I0 M w0 _ a w:=⟨_,_,_,g3⟩
  exact ih (by rw[← zt];exact g4)
 |@boxT s t g e sz es ht _ ih=>
  obtain⟨I,β,ob,hst⟩:=dB
  have hx:=hst.fr t
  rw[ht] at hx
  rcases hx.gsO.2 with⟨_,hE,_⟩ | ⟨e',blk2,cap,row,sz',r1,r2,r3,r4,r5,r6,r7,r8,r9,r10,r11,r12⟩
  ·cases hE
  cases r2
  have tz:t<n:=by
   rcases bS t n with h' | h'
   ·exact h'
   ·exfalso
    have e0:a.tmps.getD t undef=undef:=by rw[ah,c9 (by rw[hst.size];exact h')];rfl
    rw[e0] at r3;simp[undef] at r3
  have kU:=bE es r9
  have ke:=aL sz r6
  have g2:=(hst.clr t).adopt (T:=.of e) (cs:=es.flatten) r4 r5 RT.of_ok r11 (by omega) r10 (afs hst r1) (fun i=>hst.obx _ _ i r1) r12
  have g3:=g2.put t tz (v:=a.tmps.getD t undef) (x:=.ms s.nb 0 es.length es.length sz) (o:=none) (by
   simp only[LR]
   exact⟨ar _,blk2,0,cap,r6,bT _ _ _,.inr rfl,r3⟩) FreeOb.nothing
  rw[jv (by rw[hst.size];exact tz)] at g3
  have zt:(({ s.clr t with bx:=up s.bx s.nb (es.flatten.map .c),nb:=s.nb+1 }:S).put (some t) (.ms s.nb 0 es.length es.length sz))=⟨up s.fr t (.ms s.nb 0 es.length es.length sz),up s.bx s.nb (es.flatten.map .c),s.nb+1⟩:=by
   simp only[S.put,S.clr]
   congr 1
   funext r
   simp only[up]
   split<;>rfl
  have g4:SE G n I0 M w0 _ a w:=⟨_,_,_,g3⟩
  exact ih (by rw[← zt];exact g4)
 |@cool s b k g E es hb hk _ ih=>
  obtain⟨I,β,ob,hst⟩:=dB
  cases j4:ob (.b b k) with
  |none=>
   refine ih (hst.reword hb hk rfl rfl fun cur hx=>?_)
   rcases hx.gsO.2 with⟨h1,h2,h3,a,h4⟩ | ⟨_,_,_,_,_,h1,_⟩
   ·subst h2;subst h3
    rw[h4]
    exact⟨.nil a 0 (fun _=>rfl),.inl ⟨h1,rfl,a,rfl⟩⟩
   ·rw[j4] at h1;cases h1
  |some blk=>
   obtain⟨b1,cur,e1,e2,e3,e4,e5,e7⟩:=hst.bx b hb
   have h5:=e5 k
   have ml:(s.bx b).getD k .un=.gs g E es:=by simp[List.getD,hk]
   rw[ml,j4] at h5
   obtain⟨I',i1,i2,i3⟩:=h5.gsO.2.cool
   refine ih ⟨I',β,ob,hst.recell hb hk rfl rfl j4 (tI w _) (fun _ _=>rfl) i1 (fun b o h=>(i2 b o h).imp_right fun h=>by cases h;rfl) fun b2 cur2 f1 f2 f3=>?_⟩
   rcases f3.gsO.2 with⟨h1,_⟩ | ⟨e,sN,cap,row,sz,r1,r2,r3,r4,r5,r6,r7,r8,r9,r10,r11,r12⟩
   ·cases h1
   ·obtain⟨j1,j2⟩:=i3
    rcases j2 with⟨h1,_⟩ | ⟨_,_,_,_,_,q1,q2,q3,q4,q5,q6,q7,q8,q9,q10⟩
    ·cases h1
    ·cases r1;cases q1
     rw[r2] at q2;cases q2
     rw[r5] at q5
     simp only[ai,Obj.cells.injEq,gj] at q5
     subst q5
     have zo:CR I' w (cur2.getD k undef) (.sl es):=by
      rw[r3];rw[q3] at j1
      have ky:∀ c1 c2:Nat,es.length≤c2→CR I' w (.slice (some ⟨blk,0,none⟩) es.length c1) (.sl es)→CR I' w (.slice (some ⟨blk,0,none⟩) es.length c2) (.sl es):=fun c1 c2 hc h=>by
       rcases h.sl_inv with⟨⟨_,_,h1,_⟩,h2⟩ | ⟨b',off,cap',sz',f,hv,a1,a2,a3,a4⟩
       ·subst h2;exact .nil _ _ (fun h=>by cases h)
       ·simp only[eH,ai,iz,gj,ia] at hv
        obtain⟨⟨rfl,rfl⟩,rfl⟩:=hv
        exact .sl _ _ _ _ _ f hc a2 a3 a4
      exact ky _ _ r6 j1
     exact⟨zo,.inr ⟨e,blk,cap,row,sz,rfl,r2,r3,r4,r5,r6,r7,r8,r9,q10⟩⟩
 |@splitB s t b k g E es x ht hb kR hk _ ih=>
  obtain⟨I,β,ob,hst⟩:=dB
  have hx:=hst.fr t
  rw[ht] at hx
  obtain⟨hg,gf⟩:=hx.gsO
  have tz:t<n:=by
   rcases bS t n with h' | h'
   ·exact h'
   ·exfalso
    have e0:a.tmps.getD t undef=undef:=by rw[ah,c9 (by rw[hst.size];exact h')];rfl
    rw[e0] at gf
    rcases gf with⟨_,_,_,_,h1⟩ | ⟨_,_,_,_,_,_,_,h1,_⟩<;>simp[undef] at h1
  obtain⟨blk,cur,hβ,h2,h3⟩:∃ blk cur,β b=some blk∧HB w blk cur (s.bx b)∧True:=by
   obtain⟨b1,cur,e1,e2,e3,_⟩:=hst.bx b hb
   exact⟨b1,cur,e1,e3,trivial⟩
  have pY:k<(s.bx b).length:=(ae.1 hk).1
  have g1:=(hst.clr t).reownAt (b:=b) (k:=k) (x':=.un) (o':=none) hb kR hβ h2 hk rfl (.inl rfl) (by simp only[LR];exact .un _)
  have g2:=g1.put t tz (v:=a.tmps.getD t undef) (x:=.c (.ex (a.tmps.getD t undef))) (o:=none) (.ofC gf.exact) FreeOb.nothing
  rw[jv (by rw[hst.size];exact tz)] at g2
  have aal:bY ((s.bx b).set k .un)=false:=by
   unfold bY at kR ⊢
   by_cases xg:k=0
   ·subst xg
    have:((s.bx b).set 0 .un).getD 0 .un=.un:=by simp[List.getD,pY]
    rw[this];rfl
   ·have:((s.bx b).set k .un).getD 0 .un=(s.bx b).getD 0 .un:=by simp[List.getD,cV xg]
    rw[this];exact kR
  have H2:(({ s.clr t with bx:=up (s.clr t).bx b (((s.clr t).bx b).set k .un) }:S).put (some t) (.c (.ex (a.tmps.getD t undef)))).bx b=(s.bx b).set k .un:=by
   show up s.bx b ((s.bx b).set k .un) b=_
   rw[bT]
  have g3:=g2.giveCell (b:=b) (k:=k) (blk:=blk) (cur:=cur) (x':=.gg (a.tmps.getD t undef) E es) (o':=ob (.t t)) hb (by rw[H2];exact aal) hβ (by
   rw[H2]
   refine h2.congr (by simp) ?_
   rw[gC kR,gC aal]) (by rw[H2];simpa using pY) rfl (fun c hc=>by
   refine⟨hst.obnd _ c hc,fun L hL=>?_,fun i=>hst.obx _ c i hc⟩
   simp only[upL] at hL
   repeat' (split at hL)
   all_goals first
    |(cases hL;done)
    |(exact ‹¬ L=Loc.t t› (hst.oinj _ _ c hL hc))) (by simp only[LR];exact gf)
  rw[H2] at g3
  have g4:SE G n I0 M w0 ⟨up s.fr t (.c (.ex (a.tmps.getD t undef))),up s.bx b ((s.bx b).set k (.gg (a.tmps.getD t undef) E es)),s.nb⟩ a w:=by
   have g5:SE G n I0 M w0 _ a w:=⟨_,_,_,g3⟩
   have e1:∀ s1 s2:S,s1=s2→SE G n I0 M w0 s1 a w→SE G n I0 M w0 s2 a w:=fun s1 s2 e h=>e▸h
   refine e1 _ _ ?_ g5
   simp only[S.put,S.clr,List.set_set]
   congr 1
   ·funext r;simp only[up];split<;>rfl
   ·funext r;simp only[up];split<;>rfl
  exact ih _ (fun u hu=>(hg u hu).symm) gf.gsV g4
 |@join s b k b' k' v E es hb kR hk yB hmb' gK Um _ ih=>
  obtain⟨I,β,ob,hst⟩:=dB
  obtain⟨b1,cur1,e1,e2,e3,e4,e5,e7⟩:=hst.bx b hb
  have hv:=e5 k
  have ml:(s.bx b).getD k .un=.c (.ex v):=by simp[List.getD,hk]
  rw[ml] at hv
  have hv:=hv.toC.ex_inv
  obtain⟨b2,cur2,f1,f2,f3,f4,f5,f7⟩:=hst.bx b' yB
  have gf:=f5 k'
  have aam:(s.bx b').getD k' .un=.gg v E es:=by simp[List.getD,Um]
  rw[aam] at gf
  have gf:OwnG (Wr M w0) I w E es (ob (.b b' k')) v:=gf
  have g1:=hst.reownAt (b:=b') (k:=k') (x':=.un) (o':=none) yB hmb' f1 f3 Um rfl (.inl rfl) (by simp only[LR];exact .un _)
  have uI:({ s with bx:=up s.bx b' ((s.bx b').set k' .un) }:S).bx b=s.bx b:=cF _ _ gK
  have g2:=g1.giveCell (b:=b) (k:=k) (blk:=b1) (cur:=cur1) (x':=.gs (some v) E es) (o':=ob (.b b' k')) hb (by rw[uI];exact kR) e1 (by rw[uI];exact e3) (by rw[uI];exact(ae.1 hk).1) rfl (fun c hc=>by
   refine⟨hst.obnd _ c hc,fun L hL=>?_,fun i=>hst.obx _ c i hc⟩
   simp only[upL] at hL
   split at hL
   ·cases hL
   ·rename_i q1;exact q1 (hst.oinj _ _ c hL hc)) (by rw[hv];exact⟨fun u hu=>by cases hu;rfl,gf⟩)
  rw[uI] at g2
  exact ih ⟨_,_,_,g2⟩
 |@splitC s b k b' k' E es x hb kR hk yB hmb' gK Um _ ih=>
  obtain⟨I,β,ob,hst⟩:=dB
  obtain⟨b1,cur1,e1,e2,e3,e4,e5,e7⟩:=hst.bx b hb
  have gf:=e5 k
  have ml:(s.bx b).getD k .un=.ow E es:=by simp[List.getD,hk]
  rw[ml] at gf
  have gf:OwnR (Wr M w0) I w E es (ob (.b b k)) (cur1.getD k undef):=gf
  obtain⟨b2,cur2,f1,f2,f3,f4,f5,f7⟩:=hst.bx b' yB
  have g1:=hst.reownAt (b:=b) (k:=k) (x':=.c (.ex (cur1.getD k undef))) (o':=none) hb kR e1 e3 hk rfl (.inl rfl) (.ofC (.ex _ gf.1.oneCell gf.1.notAgg))
  have uI:({ s with bx:=up s.bx b ((s.bx b).set k (.c (.ex (cur1.getD k undef)))) }:S).bx b'=s.bx b':=cF _ _ (gX gK)
  have g2:=g1.giveCell (b:=b') (k:=k') (blk:=b2) (cur:=cur2) (x':=.gh (cur1.getD k undef) E es) (o':=ob (.b b k)) yB (by rw[uI];exact hmb') f1 (by rw[uI];exact f3) (by rw[uI];exact(ae.1 Um).1) rfl (fun c hc=>by
   refine⟨hst.obnd _ c hc,fun L hL=>?_,fun i=>hst.obx _ c i hc⟩
   simp only[upL] at hL
   split at hL
   ·cases hL
   ·rename_i q1;exact q1 (hst.oinj _ _ c hL hc)) (by simp only[LR];exact gf)
  rw[uI] at g2
  exact ih _ ⟨_,_,_,g2⟩
 |@ghT s b k q v E es hb kR hk hq _ ih=>
  obtain⟨I,β,ob,hst⟩:=dB
  obtain⟨b1,cur1,e1,e2,e3,e4,e5,e7⟩:=hst.bx b hb
  have gf:=e5 k
  have ml:(s.bx b).getD k .un=.gh v E es:=by simp[List.getD,hk]
  rw[ml] at gf
  have gf:OwnR (Wr M w0) I w E es (ob (.b b k)) v:=gf
  rw[dL] at hq
  obtain⟨o,ho,FD⟩:=hq
  have Un:=eU eK ho q (by simpa using FD)
  have g1:=hst.reownAt (x':=.un) (o':=none) hb kR e1 e3 hk rfl (.inl rfl) (by simp only[LR];exact .un _)
  have g2:=g1.put q Un (v:=a.tmps.getD q undef) (x:=.gh v E es) (o:=ob (.b b k)) (by simp only[LR];exact gf) (fun c hc=>by
   refine⟨hst.obnd _ c hc,fun L hL=>?_,fun i=>hst.obx _ c i hc⟩
   simp only[upL] at hL
   split at hL
   ·cases hL
   ·split at hL
    ·cases hL
    ·rename_i q1 q2;exact q2 (hst.oinj _ _ c hL hc))
  rw[jv (by rw[hst.size];exact Un)] at g2
  exact ih ⟨_,_,_,g2⟩
 |@joinO s b k b' k' v E es hb kR hk yB hmb' gK Um _ ih=>
  obtain⟨I,β,ob,hst⟩:=dB
  obtain⟨b1,cur1,e1,e2,e3,e4,e5,e7⟩:=hst.bx b hb
  have hv:=e5 k
  have ml:(s.bx b).getD k .un=.c (.ex v):=by simp[List.getD,hk]
  rw[ml] at hv
  have hv:=hv.toC.ex_inv
  obtain⟨b2,cur2,f1,f2,f3,f4,f5,f7⟩:=hst.bx b' yB
  have gf:=f5 k'
  have aam:(s.bx b').getD k' .un=.gh v E es:=by simp[List.getD,Um]
  rw[aam] at gf
  have gf:OwnR (Wr M w0) I w E es (ob (.b b' k')) v:=gf
  have g1:=hst.reownAt (b:=b') (k:=k') (x':=.un) (o':=none) yB hmb' f1 f3 Um rfl (.inl rfl) (by simp only[LR];exact .un _)
  have uI:({ s with bx:=up s.bx b' ((s.bx b').set k' .un) }:S).bx b=s.bx b:=cF _ _ gK
  have g2:=g1.giveCell (b:=b) (k:=k) (blk:=b1) (cur:=cur1) (x':=.ow E es) (o':=ob (.b b' k')) hb (by rw[uI];exact kR) e1 (by rw[uI];exact e3) (by rw[uI];exact(ae.1 hk).1) rfl (fun c hc=>by
   refine⟨hst.obnd _ c hc,fun L hL=>?_,fun i=>hst.obx _ c i hc⟩
   simp only[upL] at hL
   split at hL
   ·cases hL
   ·rename_i q1;exact q1 (hst.oinj _ _ c hL hc)) (by rw[hv];exact gf)
  rw[uI] at g2
  exact ih ⟨_,_,_,g2⟩
 |@coolT s t g E es ht _ ih=>
  obtain⟨I,β,ob,hst⟩:=dB
  have hx:=hst.fr t
  rw[ht] at hx
  have gf:=hx.gsO.2
  have tz:t<n:=by
   rcases bS t n with h' | h'
   ·exact h'
   ·exfalso
    have e0:a.tmps.getD t undef=undef:=by rw[ah,c9 (by rw[hst.size];exact h')];rfl
    rw[e0] at gf
    rcases gf with⟨_,_,_,_,h1⟩ | ⟨_,_,_,_,_,_,_,h1,_⟩<;>simp[undef] at h1
  obtain⟨I',i1,i2,i3⟩:=gf.cool
  have zt:((s.clr t).put (some t) (.ow E es))=⟨up s.fr t (.ow E es),s.bx,s.nb⟩:=by
   simp only[S.put,S.clr]
   congr 1
   funext r
   simp only[up]
   split<;>rfl
  cases j4:ob (.t t) with
  |none=>
   have hII:∀ b k,I' b k→I b k:=fun b k h=>by
    rcases i2 b k h with h | h
    ·exact h
    ·rw[j4] at h;cases h
   have g3:=(hst.clr t).put t tz (v:=a.tmps.getD t undef) (x:=.ow E es) (o:=none) (by
    simp only[LR]
    rw[j4] at i3
    exact i3.mono (fun b o h=>⟨hII b o h,rfl⟩) (fun b h=>by cases h)) FreeOb.nothing
   rw[jv (by rw[hst.size];exact tz),zt] at g3
   exact ih ⟨_,_,_,g3⟩
  |some blk=>
   obtain⟨k1,k2⟩:=hst.obnd _ _ j4
   have g2:=(hst.clr t).growRow (w':=w) (r:=blk) (tI w _) k2 (fun _ _=>rfl) (afs hst j4) (fun i=>hst.obx _ _ i j4) i1 (fun b o h=>(i2 b o h).imp_right fun h=>by rw[j4] at h;cases h;rfl) k1
   have g3:=g2.put t tz (v:=a.tmps.getD t undef) (x:=.ow E es) (o:=some blk) (by simp only[LR];rw[j4] at i3;exact i3) (fun c hc=>by
    cases hc
    refine⟨⟨k1,k2⟩,fun L hL=>afs hst j4 L ?_,fun i=>hst.obx _ _ i j4⟩
    simp only[upL] at hL ⊢
    split at hL
    ·cases hL
    ·first
     |exact hL
     |(rw[if_neg ‹_›];exact hL))
   rw[jv (by rw[hst.size];exact tz),zt] at g3
   exact ih ⟨_,_,_,g3⟩
 |@joinT s b k t blk len m cap e sz es hb kR hk ht ke _ ih=>
  obtain⟨I,β,ob,hst⟩:=dB
  obtain⟨b1,cur1,e1,e2,e3,e4,e5,e7⟩:=hst.bx b hb
  have hv:=e5 k
  have ml:(s.bx b).getD k .un=.c (.ex (.slice (some ⟨blk,0,none⟩) m cap)):=by simp[List.getD,hk]
  rw[ml] at hv
  have hv:=hv.toC.ex_inv
  have hx:=hst.fr t
  rw[ht] at hx
  have gf:OwnG (Wr M w0) I w (some (e,sz)) es (ob (.t t)) (.slice (some ⟨blk,0,none⟩) len cap):=hx
  rcases gf with⟨_,hE,_⟩ | ⟨e',blk2,cap2,row,sz',r1,r2,r3,r4,r5,r6,r7,r8,r9,r10,r11,r12⟩
  ·cases hE
  cases r2
  simp only[eH,ai,iz,gj] at r3
  obtain⟨rfl,rfl,rfl⟩:=r3
  have Qf:(es.take m).length=m:=by rw[aG];omega
  have vI:OwnG (Wr M w0) I w (some (e,sz)) (es.take m) (ob (.t t)) (.slice (some ⟨blk,0,none⟩) m cap):=by
   refine .inr ⟨e,blk,cap,row,sz,r1,rfl,by rw[Qf],r4,r5,by omega,r7,r8,fun x hx=>r9 x (cU hx),fun j c hj=>?_,r11,r12⟩
   refine r10 j c ?_
   have hp:(es.take m).flatten <+: es.flatten:=by
    conv=>rhs;rw[← dh m es,dG]
    exact List.prefix_append _ _
   obtain⟨u,hu⟩:=hp
   rw[← hu,az (ae.1 hj).1];exact hj
  have g1:=hst.clr t
  have g2:=g1.giveCell (b:=b) (k:=k) (blk:=b1) (cur:=cur1) (x':=.gs (some (.slice (some ⟨blk,0,none⟩) m cap)) (some (e,sz)) (es.take m)) (o':=ob (.t t)) hb kR e1 e3 (ae.1 hk).1 rfl (fun c hc=>by
   refine⟨hst.obnd _ c hc,fun L hL=>?_,fun i=>hst.obx _ c i hc⟩
   simp only[upL] at hL
   split at hL
   ·cases hL
   ·rename_i q1;exact q1 (hst.oinj _ _ c hL hc)) (by rw[hv];exact⟨fun u hu=>by cases hu;rfl,vI⟩)
  exact ih ⟨_,_,_,g2⟩
 |@more s b hb hl _ ih=>
  obtain⟨I,β,ob,hst⟩:=dB
  exact ih ⟨_,_,_,hst.more hb hl⟩
 |@ggT s b k q v E es hb hk hq _ ih=>
  obtain⟨I,β,ob,hst⟩:=dB
  obtain⟨b1,cur1,e1,e2,e3,e4,e5,e7⟩:=hst.bx b hb
  have gf:=e5 k
  have ml:(s.bx b).getD k .un=.gg v E es:=by simp[List.getD,hk]
  rw[ml] at gf
  have gf:OwnG (Wr M w0) I w E es (ob (.b b k)) v:=gf
  rw[dL] at hq
  obtain⟨o,ho,FD⟩:=hq
  have Un:=eU eK ho q (by simpa using FD)
  have g1:=hst.reown (x':=.un) (o':=none) hb hk rfl rfl (.inl rfl) (fun _ _=>by simp only[LR];exact .un _)
  have g2:=g1.put q Un (v:=a.tmps.getD q undef) (x:=.gg v E es) (o:=ob (.b b k)) (by simp only[LR];exact gf) (fun c hc=>by
   refine⟨hst.obnd _ c hc,fun L hL=>?_,fun i=>hst.obx _ c i hc⟩
   simp only[upL] at hL
   split at hL
   ·cases hL
   ·split at hL
    ·cases hL
    ·rename_i q1 q2;exact q2 (hst.oinj _ _ c hL hc))
  rw[jv (by rw[hst.size];exact Un)] at g2
  exact ih ⟨_,_,_,g2⟩
 |@ggB s t b k g E es x ht hb hk Up _ ih=>
  obtain⟨I,β,ob,hst⟩:=dB
  have hx:=hst.fr t
  rw[ht] at hx
  obtain⟨hg,gf⟩:=hx.gsO
  have tz:t<n:=by
   rcases bS t n with h' | h'
   ·exact h'
   ·exfalso
    have e0:a.tmps.getD t undef=undef:=by rw[ah,c9 (by rw[hst.size];exact h')];rfl
    rw[e0] at gf
    rcases gf with⟨_,_,_,_,h1⟩ | ⟨_,_,_,_,_,_,_,h1,_⟩<;>simp[undef] at h1
  have g2:=(hst.clr t).put t tz (v:=a.tmps.getD t undef) (x:=.c (.ex (a.tmps.getD t undef))) (o:=none) (.ofC gf.exact) FreeOb.nothing
  rw[jv (by rw[hst.size];exact tz)] at g2
  have g3:=g2.giveAny (b:=b) (k:=k) (x:=x) (x':=.gg (a.tmps.getD t undef) E es) (o':=ob (.t t)) hb hk Up rfl (fun c hc=>by
   refine⟨hst.obnd _ c hc,fun L hL=>?_,fun i=>hst.obx _ c i hc⟩
   simp only[upL] at hL
   repeat' (split at hL)
   all_goals first
    |(cases hL;done)
    |(exact ‹¬ L=Loc.t t› (hst.oinj _ _ c hL hc))) (fun _=>by simp only[LR];exact gf)
  have g4:SE G n I0 M w0 ⟨up s.fr t (.c (.ex (a.tmps.getD t undef))),up s.bx b ((s.bx b).set k (.gg (a.tmps.getD t undef) E es)),s.nb⟩ a w:=by
   have g5:SE G n I0 M w0 _ a w:=⟨_,_,_,g3⟩
   have e1:∀ s1 s2:S,s1=s2→SE G n I0 M w0 s1 a w→SE G n I0 M w0 s2 a w:=fun s1 s2 e h=>e▸h
   refine e1 _ _ ?_ g5
   simp only[S.put,S.clr]
   congr 1
   funext r;simp only[up];split<;>rfl
  exact ih _ (fun u hu=>(hg u hu).symm) gf.gsV g4
 |@gg0 s q hq _ ih=>
  obtain⟨I,β,ob,hst⟩:=dB
  rw[dL] at hq
  obtain⟨o,ho,FD⟩:=hq
  have Un:=eU eK ho q (by simpa using FD)
  have g2:=hst.put q Un (v:=a.tmps.getD q undef) (x:=.gg (.slice none 0 0) none []) (o:=none) (by simp only[LR];exact .inl ⟨rfl,rfl,rfl,none,rfl⟩) FreeOb.nothing
  rw[jv (by rw[hst.size];exact Un)] at g2
  exact ih ⟨_,_,_,g2⟩
 |@joinS s b k t v E es hb kR hk ht _ ih=>
  obtain⟨I,β,ob,hst⟩:=dB
  obtain⟨b1,cur1,e1,e2,e3,e4,e5,e7⟩:=hst.bx b hb
  have hv:=e5 k
  have ml:(s.bx b).getD k .un=.c (.ex v):=by simp[List.getD,hk]
  rw[ml] at hv
  have hv:=hv.toC.ex_inv
  have gf:=hst.fr t
  rw[ht] at gf
  have gf:OwnG (Wr M w0) I w E es (ob (.t t)) v:=gf
  have g2:=(hst.clr t).giveCell (b:=b) (k:=k) (blk:=b1) (cur:=cur1) (x':=.gs (some v) E es) (o':=ob (.t t)) hb kR e1 e3 (ae.1 hk).1 rfl (fun c hc=>by
   refine⟨hst.obnd _ c hc,fun L hL=>?_,fun i=>hst.obx _ c i hc⟩
   simp only[upL] at hL
   split at hL
   ·cases hL
   ·rename_i q1;exact q1 (hst.oinj _ _ c hL hc)) (by rw[hv];exact⟨fun u hu=>by cases hu;rfl,gf⟩)
  exact ih ⟨_,_,_,g2⟩
 |@frz s b k t blk len cap e sz cs hb hk ht _ ih=>
  obtain⟨I,β,ob,hst⟩:=dB
  obtain⟨b1,cur1,e1,e2,e3,e4,e5,e7⟩:=hst.bx b hb
  have gf:=e5 k
  have ml:(s.bx b).getD k .un=.gg (.slice (some ⟨blk,0,none⟩) len cap) (some (e,sz)) [cs]:=by simp[List.getD,hk]
  rw[ml] at gf
  have gf:OwnG (Wr M w0) I w (some (e,sz)) [cs] (ob (.b b k)) (.slice (some ⟨blk,0,none⟩) len cap):=gf
  rcases gf with⟨_,hE,_⟩ | ⟨e',sN,cap',row,sz',r1,r2,r3,r4,r5,r6,r7,r8,r9,r10,r11,r12⟩
  ·cases hE
  cases r2
  simp only[eH,ai,iz,gj] at r3
  obtain⟨rfl,rfl,rfl⟩:=r3
  have htv:=hst.fr t
  rw[ht] at htv
  have htv:=htv.toC.ex_inv
  have tz:t<n:=by
   rcases bS t n with h' | h'
   ·exact h'
   ·exfalso
    have e0:a.tmps.getD t undef=undef:=by rw[ah,c9 (by rw[hst.size];exact h')];rfl
    rw[e0] at htv
    simp[undef] at htv
  have zo:cs.length=sz:=r9 cs (by simp)
  have cn:cs.length≤row.size:=by
   have:=aL sz r6
   simp only[bN,mK] at this
   omega
  have g1:=hst.recell (b:=b) (k:=k) (x':=.un) (I':=fun b' o=>I b' o∨(b'=blk∧o<cs.length)) hb hk rfl rfl r1 (tI w _) (fun _ _=>rfl) (fun _ _ h=>.inl h) (fun b o h=>h.imp_right fun h=>h.1) (fun _ _ _ _ _=>by simp only[LR];exact .un _)
  have jn:CR (fun b' o=>I b' o∨(b'=blk∧o<cs.length)) w (.pointer (some ⟨blk,0+0,none⟩)) (.rp cs 0):=by
   refine .rp blk 0 0 cs (fun j=>row.getD j undef) (fun j hj=>⟨?_,.inr ⟨rfl,by omega⟩⟩) (fun j c hc=>?_)
   ·rw[eZ w blk _ row e (0,0) r5,aK,ax (show j<row.size by omega),ah,ax (show j<row.size by omega)]
    rfl
   ·exact(r10 j c (by simpa using hc)).mono fun b o h=>⟨.inl h,rfl⟩
  have g2:=g1.put t tz (v:=a.tmps.getD t undef) (x:=.c (.rp cs 0)) (o:=none) (by rw[htv];exact .ofC jn) FreeOb.nothing
  rw[jv (by rw[hst.size];exact tz)] at g2
  exact ih ⟨_,_,_,g2⟩
theorem QR {id:Nat} {ops:Array Oper} {K:S→Prop} (eK:mw n ops=true) (h:spl tr id ops s K) (dB:SE G n I0 M w0 s a w):∃ s',K s'∧SE G n I0 M w0 s' a w:=by
 unfold spl at h
 split at h
 ·obtain⟨I,β,ob,hst⟩:=dB
  rcases h with⟨b,k,q,E,es,⟨h1,h2,h3⟩,h⟩ | ⟨b,k,g,E,es,⟨h1,h2⟩,h⟩ | ⟨b,k,g,E,es,⟨h1,h2,h3⟩,h⟩ | h
  ·rw[dL] at h3
   obtain⟨o,ho,hq⟩:=h3
   obtain⟨v,hv⟩:=hst.split h1 h2 (eU eK ho q (by simpa using hq))
   exact⟨_,h v,hv⟩
  ·exact⟨_,h,hst.cool h1 h2⟩
  ·obtain⟨blk,cap,hv⟩:=hst.name h1 h3 h2
   exact⟨_,h blk cap,_,_,_,hv⟩
  ·exact mB eK h ⟨_,_,_,hst⟩
 ·exact⟨s,h,dB⟩
def DC (ops:Array Oper) (listed:Array Bool):Prop:=∀ k o,ops[k]?=some o→listed.getD k false=true→∀ e∈o.after,Region.binds .any e=true→listed.getD e.on false=true
theorem DC.step {ops:Array Oper} {listed:Array Bool} {j:Nat} (h:DC ops listed) (hj:j∈Region.ready .any ops listed):DC ops (listed.setIfInBounds j true):=by
 intro k o ho hk e he hb
 obtain⟨_,oj,Ac,en⟩:=kV.1 hj
 by_cases hkj:k=j
 ·subst hkj
  rw[Ac] at ho;cases ho
  exact Go.getD_set_true (en e he hb)
 ·rw[lH false (gX hkj)] at hk
  exact Go.getD_set_true (h k o ho hk e he hb)
def GK (ops:Array Oper) (k i:Nat):Bool:=((ops[k]?).map fun o=>o.after.any fun e=>Region.binds .any e&&(e.on==i)).getD false
def uT (ops:Array Oper) (m:Nat):Bool:=((List.range m).all fun i=>(List.range (m+1)).any fun k=>decide (k≠i)&&GK ops k i)&&
 (List.range ops.size).all fun j=>decide (j≤m)||(List.range ops.size).any fun k=>decide (m≤k)&&decide (k≠j)&&GK ops j k
theorem zN {ops:Array Oper} {k i:Nat} (h:GK ops k i=true):∃ o,ops[k]?=some o∧∃ e∈o.after,Region.binds .any e=true∧e.on=i:=by
 unfold GK at h
 cases ho:ops[k]? with
 |none=>simp[ho] at h
 |some o=>
  simp only[ho,cD,cG] at h
  rw[Array.any_eq_true'] at h
  obtain⟨e,he,h3⟩:=h
  simp only[aX,kG] at h3
  exact⟨o,rfl,e,he,h3.1,h3.2⟩
theorem Ve {m q j:Nat} (h:m≤j):(nU m q).getD j false=false:=by
 cases hc:(nU m q).getD j false with
 |false=>rfl
 |true=>have:=yQ hc;omega
theorem aaV {m q j:Nat} (h:j<m):(nU m q).getD j false=true:=by
 unfold nU
 rw[ah,di,az (by simpa using h)]
 simp[h]
theorem GL {ops:Array Oper} {K0:S→Prop} {m:Nat} (LI:uT ops m=true) {i:Nat} {oi:Oper} {e:Ef} (hi:ops[i]?=some oi) :
 ∀ (fuel:Nat) (listed:Array Bool) (s:S),listed.size=ops.size→DC ops listed→FreeAt tr .any ops listed i oi→
  i∈Region.ready .any ops listed→TEf P G tr ops oi s e→
  xJ P G tr ops (nU m ops.size) K0 fuel (listed.setIfInBounds i true) (e.run tr oi s)→xJ P G tr ops (nU m ops.size) K0 (fuel+1) listed s:=by
 intro fuel
 induction fuel with
 |zero=>
  intro listed s fC hdc _ hr hy H
  refine⟨fun h=>(by rw[h] at hr;cases hr),fun j hj=>?_⟩
  by_cases xe:j=i
  ·subst xe;unfold wu;simp only[hi];exact⟨e,hy,H⟩
  ·exfalso
   obtain⟨UA,oj,Ac,en⟩:=kV.1 hj
   have Qk:i<listed.size:=by rw[fC];exact(bf.1 hi).1
   have Qa:j<ops.size:=(bf.1 Ac).1
   have h1:(nU m ops.size).getD j true=false:=by rw[← H.1,lH true (gX xe)];exact UA
   have h2:(nU m ops.size).getD i false=true:=by
    rw[← H.1,ah,Array.getElem?_setIfInBounds_self_of_lt Qk];rfl
   have hjm:=BJ h1
   have him:=yQ h2
   have h4:=(kV.1 hr).1
   unfold uT at LI
   simp only[aX,aV,dL,db,eT,bF] at LI
   obtain⟨Ae,FG⟩:=LI
   have dQ:∀ q,q≠i→(nU m ops.size).getD q false=listed.getD q false:=fun q hq=>by
    rw[← H.1,lH false (gX hq)]
   rcases FG j Qa with hjm2 | ⟨k,zn,⟨Up,hkj⟩,OK⟩
   ·have arN:j=m:=by omega
    obtain⟨k,hkm,hki,OK⟩:=Ae i him
    obtain⟨ok,eK,ed,hed,hb,UB⟩:=zN OK
    have h5:listed.getD i false=true:=by
     by_cases hkj:k=j
     ·subst hkj
      rw[Ac] at eK;cases eK
      have:=en ed hed hb
      rw[UB] at this;exact this
     ·have h6:listed.getD k false=true:=by
       rw[← dQ k hki];exact aaV (by omega)
      have:=hdc k ok eK h6 ed hed hb
      rw[UB] at this;exact this
    rw[ah,ax Qk] at h5 h4
    simp only[cG] at h5 h4
    rw[h4] at h5;cases h5
   ·obtain⟨ok,eK,ed,hed,hb,UB⟩:=zN OK
    rw[Ac] at eK;cases eK
    have h5:=en ed hed hb
    rw[UB,← dQ k (by omega),Ve Up] at h5
    cases h5
 |succ fuel ih=>
  intro listed s fC hdc Ad hr hy H
  refine⟨fun h=>(by rw[h] at hr;cases hr),fun j hj=>?_⟩
  by_cases xe:j=i
  ·subst xe;unfold wu;simp only[hi];exact⟨e,hy,H⟩
  ·have h1:=H.2 j (ready_mono hj xe)
   obtain⟨_,oj,Ac,_⟩:=kV.1 hj
   obtain⟨AA,Dj⟩:=Ad.step hr hj xe Ac
   unfold wu at h1 ⊢
   simp only[Ac] at h1 ⊢
   obtain⟨f,hf,hK⟩:=h1
   have H4:=hy.back AA hf
   refine⟨f,H4,ih (listed.setIfInBounds j true) _ (by rw[dp];exact fC) (hdc.step hj) Dj (ready_mono hr (gX xe)) (hy.keep AA H4) ?_⟩
   rw[Array.setIfInBounds_comm _ _ xe,← BH AA hy H4]
   exact hK
theorem BM {ops:Array Oper} {K0:S→Prop} {m:Nat} (LI:uT ops m=true):∀ (ks:List Nat) (listed:Array Bool) (s:S),listed.size=ops.size→DC ops listed→(∀ k∈ks,∃ o,ops[k]?=some o∧oY tr o=false)→
 sW tr ops ks listed=some (nU m ops.size)→gY P G tr ops (qL ops ks) s K0→xJ P G tr ops (nU m ops.size) K0 ks.length listed s
 |[],listed,s,_,_,_,hB,h=>by simp only[sW,ai] at hB;exact⟨hB,h⟩
 |k::r,listed,s,fC,hdc,hA,hB,h=>by
  obtain⟨o,ho,D7⟩:=hA k (bB ..)
  unfold sW at hB
  split at hB
  ·rename_i hc
   simp only[aX] at hc
   obtain⟨hr,hf⟩:=hc
   have hr':k∈Region.ready .any ops listed:=by simpa using hr
   simp only[qL,jh,ho,gY] at h
   obtain⟨e,he,hK⟩:=kE (K:=fun s'=>gY P G tr ops (qL ops r) s' K0) D7 h
   exact GL LI ho r.length listed s fC hdc (pH ho hf) hr' he
    (BM LI r _ _ (by rw[dp];exact fC) (hdc.step hr') (fun k hk=>hA k (aR _ hk)) hB hK)
  ·cases hB
theorem aaW {ops:Array Oper} {n:Nat}:DC ops (Array.replicate n false):=fun k o _ hk=>by
 rw[ah,Array.getElem?_replicate] at hk
 split at hk<;>simp at hk
theorem tO {ops:Array Oper} {Q:Exit→Act→World→Prop} {K:S→Prop} (eK:mw n ops=true) (hA:∀ (k:Nat) (o:Oper),ops[k]?=some o→qd tr o=false) (hK:∀ a w s,K s→SE G n I0 M w0 s a w→Q .normal a w):∀ (fuel:Nat) (listed:Array Bool) (s:S) (a:Act) (w:World),
 OR P G tr ops K fuel listed s→SE G n I0 M w0 s a w→wpAny P .any ops Q fuel listed a w
 |0,_,_,_,_,h,dB=>by
  obtain⟨s',h1,h2⟩:=mB eK h.2 dB
  exact⟨h.1,hK _ _ _ h1 h2⟩
 |fuel+1,listed,s,a,w,h,dB=>by
  obtain⟨gK,h⟩:=h
  obtain⟨s',h1,h2⟩:=mB eK h dB
  refine⟨fun h0=>absurd h0 gK,fun i hi=>?_⟩
  obtain⟨o,ho,hh⟩:=h1 i hi
  obtain⟨I,β,ob,hst⟩:=h2
  have jE:o∈ops.toList:=by
   have:=eB ho
   simpa using this
  unfold wpOp
  simp only[ho]
  rcases mR hst hh with⟨hw,hh⟩ | ⟨hw,hh⟩
  ·rw[if_pos hw]
   exact .inl (qk (tr:=tr) hst (eU eK jE) (hA i o ho) hh fun a w s hs dB=>tO eK hA hK fuel _ s a w hs dB)
  ·rw[hw]
   simp only[aI,dj]
   exact tO eK hA hK fuel _ _ _ w hh (SE.put (v:=undef) (x:=.sk) hst (eU eK jE) (by simp only[LR];exact .sk))
theorem zO {ops:Array Oper} {K:S→Prop} {l2:List Oper}:∀ (l1:List Oper) (s:S),gY P G tr ops (l1++l2) s K=gY P G tr ops l1 s (fun s=>gY P G tr ops l2 s K)
 |[],_=>rfl
 |o::r,s=>by simp only[dx,gY,zO r]
theorem tP {ops:Array Oper} {Q:Exit→Act→World→Prop} {K:S→Prop} (eK:mw n ops=true) (hA:∀ (k:Nat) (o:Oper),ops[k]?=some o→qd tr o=false) (hK:∀ a w s,K s→SE G n I0 M w0 s a w→Q .normal a w):∀ (fuel i:Nat) (listed:Array Bool) (s:S) (a:Act) (w:World),
 Ib ops fuel i listed=true→i+fuel=ops.size→gY P G tr ops (ops.toList.drop i) s K→SE G n I0 M w0 s a w→wpAny P .any ops Q fuel listed a w
 |0,i,_,_,_,_,hl,hi,h,dB=>by
  rw[List.drop_eq_nil_of_le (by simp;omega)] at h
  exact⟨by simpa[Ib] using hl,hK _ _ _ h dB⟩
 |fuel+1,i,listed,s,a,w,hl,hi,h,dB=>by
  simp only[Ib,aX,kG] at hl
  obtain⟨h1,h2⟩:=hl
  have bV:i<ops.size:=by omega
  have hd:ops.toList.drop i=ops[i]::ops.toList.drop (i+1):=by
   rw[dD (by simpa using bV)];simp
  rw[hd] at h
  refine⟨fun h0=>by rw[h1] at h0;simp at h0,fun j hj=>?_⟩
  rw[h1,aW] at hj
  subst hj
  obtain⟨I,β,ob,hst⟩:=dB
  have ho:ops[j]?=some ops[j]:=ax bV
  have jE:ops[j]∈ops.toList:=by
   have:=eB ho
   simpa using this
  unfold wpOp
  simp only[ho]
  rcases mR hst h with⟨hw,hh⟩ | ⟨hw,hh⟩
  ·rw[if_pos hw]
   exact .inl (qk (tr:=tr) hst (eU eK jE) (hA j _ ho) hh fun a w s hs dB=>tP eK hA hK fuel _ _ s a w h2 (by omega) hs dB)
  ·rw[hw]
   simp only[aI,dj]
   exact tP eK hA hK fuel _ _ _ _ w h2 (by omega) hh (SE.put (v:=undef) (x:=.sk) hst (eU eK jE) (by simp only[LR];exact .sk))
def aaX (tr:List Nat) (id:Nat) (ops:Array Oper):Bool:=ops.toList.all (fun o=>!qd tr o)&&(ops.toList.take (apN tr id ops)).all (fun o=>!oY tr o)&&decide (apN tr id ops≤ops.size)&&decide (sW tr ops (List.range (apN tr id ops)) (Array.replicate ops.size false)=some (nU (apN tr id ops) ops.size))&&(uS ops (apN tr id ops)||uT ops (apN tr id ops))&&(!agp tr id||Ib ops (ops.size - apN tr id ops) (apN tr id ops) (nU (apN tr id ops) ops.size))
theorem DN {id:Nat} {ops:Array Oper} {Q:Exit→Act→World→Prop} {K:S→Prop} (eK:mw n ops=true) (vU:aaX tr id ops=true) (hK:∀ a w s,K s→SE G n I0 M w0 s a w→Q .normal a w)
 (OJ:Du tr id=false) (FD:FQ tr id=false) (h:vpa P G tr id ops K s) (dB:SE G n I0 M w0 s a w):wpAny P .any ops Q ops.size (Array.replicate ops.size false) a { w with drawn:=w.drawn+1 }:=by
 unfold aaX at vU
 simp only[aX,aV,dM,bF,eT (uS _ _)] at vU
 obtain⟨⟨⟨⟨⟨hY,hA⟩,fC⟩,vJ⟩,LI⟩,hli⟩:=vU
 have UC:∀ (k:Nat) (o:Oper),ops[k]?=some o→qd tr o=false:=fun k o ho=>hY o (by have:=eB ho;simpa using this)
 have hA':∀ (k:Nat) (o:Oper),k<apN tr id ops→ops[k]?=some o→oY tr o=false:=fun k o hk ho=>hA o (by
  refine aT (i:=k) ?_
  rw[ck,if_pos hk];simpa using ho)
 have tA:SE G n I0 M w0 s a { w with drawn:=w.drawn+1 }:=by
  obtain⟨I,β,ob,hst⟩:=dB
  exact⟨I,β,ob,hst.drew⟩
 have aak:qL ops (List.range (apN tr id ops))=ops.toList.take (apN tr id ops):=by
  rw[e9,sb 0 _ (by omega)];rfl
 have fin:∀ (s':S) (K0:S→Prop),gY P G tr ops (ops.toList.take (apN tr id ops)) s' K0→SE G n I0 M w0 s' a { w with drawn:=w.drawn+1 }→
  (∀ a w s,K0 s→SE G n I0 M w0 s a w→wpAny P .any ops Q (ops.size - apN tr id ops) (nU (apN tr id ops) ops.size) a w)→
  wpAny P .any ops Q ops.size (Array.replicate ops.size false) a { w with drawn:=w.drawn+1 }:=fun s' K0 h1 h2 h5=>by
  rw[← aak] at h1
  have h3:xJ P G tr ops (nU (apN tr id ops) ops.size) K0 (List.range (apN tr id ops)).length (Array.replicate ops.size false) s':=by
   have hz:∀ k∈List.range (apN tr id ops),∃ o,ops[k]?=some o∧oY tr o=false:=fun k hk=>⟨ops[k]'(by have:=db.1 hk;omega),ax _,hA' k _ (db.1 hk) (ax _)⟩
   rcases LI with LI | LI
   ·exact Ew LI _ _ s' (by simp) hz vJ h1
   ·exact BM LI _ _ s' (by simp) aaW hz vJ h1
  have h4:=zM (Q:=Q) eK h5 _ _ _ _ _ h3 h2
  rw[List.length_range,Nat.sub_add_cancel fC] at h4
  exact h4
 unfold vpa at h
 rw[OJ,FD] at h
 simp only[aI,dj] at h
 split at h
 ·rename_i hln
  rw[hln] at hli
  have e:ops.toList=ops.toList.take (apN tr id ops)++ops.toList.drop (apN tr id ops):=(dh _ _).symm
  rw[e,zO] at h
  exact fin s _ h tA fun a w s hs dB=>tP eK UC hK _ _ _ s a w (by simpa using hli) (by omega) hs dB
 ·obtain⟨s',h1,h2⟩:=mB eK h tA
  exact fin s' _ h1 h2 fun a w s hs dB=>tO eK UC hK _ _ s a w hs dB
theorem GM {ops:Array Oper} {Q:Exit→Act→World→Prop} {l:Option Nat} {m:Nat} {id:Nat} (hm:P.follows .mixedOrders=true) (oV:Bm ops=true) (eK:mw n ops=true) (vU:aaX tr id ops=true) {K:S→Prop} (hK:∀ a w s,K s→SE G n I0 M w0 s a w→Q .normal a w)
 (OJ:Du tr id=false) (FD:FQ tr id=false) (h:vpa P G tr id ops K s) (dB:SE G n I0 M w0 s a w):(Code.region id ops true).wpIn (FW l) m P Q a w:=
 wpIn_mono (Q:=O1 Q) (wpIn_region_any hm (xA oV yR _ _ _ _ (DN eK vU (fun a w s hk dB=>⟨rfl,hK a w s hk dB⟩) OJ FD h dB))) (fun _ _ _ h=>h.2)
theorem wz {Q:Exit→Act→World→Prop} {l:Option Nat} {m:Nat} {ops:Array Oper} (eK:mw n ops=true) {K:S→Prop} (hK:∀ a w s,K s→SE G n I0 M w0 s a w→Q .normal a w):∀ (ls:List Oper) (k:Nat),ops.toList.drop k=ls→∀ (s:S) (a:Act) (w:World),
 aaG P G tr ops K ls s→SE G n I0 M w0 s a w→wpOpsIn (FW l) m P ops Q (List.range' k ls.length) a w
 |[],k,_,s,a,w,h,dB=>by
  simp only[aB,List.range'_zero,wpOpsIn]
  obtain⟨s',h1,h2⟩:=mB eK h dB
  exact hK _ _ _ h1 h2
 |o::ls,k,hl,s,a,w,h,dB=>by
  have oK:ops[k]?=some o:=by
   have:(ops.toList.drop k)[0]?=some o:=by rw[hl];rfl
   rw[cA] at this
   simpa using this
  have OD:ops.toList.drop (k+1)=ls:=by
   rw[← fX,hl];rfl
  have jE:o∈ops.toList:=cM (i:=k) (by rw[hl];simp)
  obtain⟨s,h,dB⟩:=mB eK h dB
  obtain⟨I,β,ob,hst⟩:=dB
  simp only[aA,ir,wpOpsIn,oK]
  rcases mR hst h with⟨hw,h⟩ | ⟨hw,h⟩
  ·rw[if_pos hw]
   refine qJ (tr:=tr) hst (eU eK jE) h fun a' w' s' D4 tA=>?_
   exact wz eK hK ls (k+1) OD s' a' w' D4 tA
  ·rw[hw]
   simp only[aI,dj]
   exact⟨fun _ _=>trivial,wz eK hK ls (k+1) OD _ _ w h (SE.put hst (eU eK jE) (by simp only[LR];exact .sk))⟩
theorem qm {Q:Exit→Act→World→Prop} {l:Option Nat} {m:Nat} {ops:Array Oper} (eK:mw n ops=true) {K:S→Prop} (hK:∀ a w s,K s→SE G n I0 M w0 s a w→Q .normal a w):∀ (ls:List Oper) (k:Nat),ops.toList.drop k=ls→∀ (s:S) (a:Act) (w:World),
 nA P G tr ops K ls s→SE G n I0 M w0 s a w→wpOpsIn (FW l) m P ops Q (List.range' k ls.length) a w
 |[],k,_,s,a,w,h,dB=>by
  simp only[aB,List.range'_zero,wpOpsIn]
  obtain⟨s',h1,h2⟩:=mB eK h dB
  exact hK _ _ _ h1 h2
 |o::ls,k,hl,s,a,w,h,dB=>by
  have oK:ops[k]?=some o:=by
   have:(ops.toList.drop k)[0]?=some o:=by rw[hl];rfl
   rw[cA] at this
   simpa using this
  have OD:ops.toList.drop (k+1)=ls:=by
   rw[← fX,hl];rfl
  have jE:o∈ops.toList:=cM (i:=k) (by rw[hl];simp)
  unfold nA at h
  obtain⟨s,h,dB⟩:∃ s',nC ops o s' (fun s=>if nu tr o then vr P G o s (nA P G tr ops K ls) else VStep P G tr o s (nA P G tr ops K ls)) (fun s=>nA P G tr ops K ls (s.put o.dst .sk))∧SE G n I0 M w0 s' a w:=by
   split at h
   ·exact mB eK h dB
   ·exact⟨s,h,dB⟩
  obtain⟨I,β,ob,hst⟩:=dB
  simp only[aA,ir,wpOpsIn,oK]
  rcases mR hst h with⟨hw,h⟩ | ⟨hw,h⟩
  ·rw[if_pos hw]
   split at h
   ·exact wm (aaU h) (MS hst (eU eK jE) h fun a' w' s' D4 tA=>qm eK hK ls (k+1) OD s' a' w' D4 tA)
   ·refine qJ (tr:=tr) hst (eU eK jE) h fun a' w' s' D4 tA=>?_
    exact qm eK hK ls (k+1) OD s' a' w' D4 tA
  ·rw[hw]
   simp only[aI,dj]
   exact⟨fun _ _=>trivial,qm eK hK ls (k+1) OD _ _ w h (SE.put hst (eU eK jE) (by simp only[LR];exact .sk))⟩
theorem GN {ops:Array Oper} {Q:Exit→Act→World→Prop} {l:Option Nat} {m:Nat} {id:Nat} (eK:mw n ops=true) {K:S→Prop} (hK:∀ a w s,K s→SE G n I0 M w0 s a w→Q .normal a w)
 (OJ:Du tr id=false) (FD:FQ tr id=true) (h:vpa P G tr id ops K s) (dB:SE G n I0 M w0 s a w):(Code.region id ops false).wpIn (FW l) m P Q a w:=by
 unfold vpa at h
 rw[OJ,if_neg (by decide),if_pos FD] at h
 refine wpIn_region ?_
 have:=qm (Q:=Q) (l:=l) (m:=m) eK hK ops.toList 0 rfl s a w h dB
 rw[e9]
 simpa using this
theorem GO {ops:Array Oper} {Q:Exit→Act→World→Prop} {l:Option Nat} {m:Nat} {id:Nat} (eK:mw n ops=true) {K:S→Prop} (hK:∀ a w s,K s→SE G n I0 M w0 s a w→Q .normal a w)
 (OJ:Du tr id=true) (h:vpa P G tr id ops K s) (dB:SE G n I0 M w0 s a w):(Code.region id ops false).wpIn (FW l) m P Q a w:=by
 unfold vpa at h
 rw[if_pos OJ] at h
 refine wpIn_region ?_
 have:=wz (Q:=Q) (l:=l) (m:=m) eK hK ops.toList 0 rfl s a w h dB
 rw[e9]
 simpa using this
structure Reb (T:Prop) (I0:Ft) (M:Mx) (w0:World) (I1:Ft) (M1:Mx) (w1:World) (rs:List Nat):Prop where
 bel:BelowM T M w0 w1
 wr:∀ b,Wr M1 w1 b→Wr M w0 b
 il:∀ b o,I0 b o→I1 b o
 kept:∀ b o,I0 b o→w1.cell? ⟨b,o,none⟩=w0.cell? ⟨b,o,none⟩
 ih:∀ b o,I1 b o→I0 b o∨Wr M w0 b
 e:M1.e=M.e
 d:M1.d=rs.map mkD++M.d
 nd:rs.Nodup
 r:∀ r∈rs,¬ Wr M1 w1 r∧Wr M w0 r∧(∀ o,¬ I1 r o)∧w1.heap[r]?=some (Obj.deferred (some []))
theorem Reb.refl:Reb (GT G) I0 M w0 I0 M w0 []:=⟨BelowM.refl _ _,fun _ h=>h,fun _ _ h=>h,fun _ _ _=>rfl,fun _ _ h=>.inl h,rfl,rfl,gy,by simp⟩
variable {I1:Ft} {M1:Mx} {w1:World} {rs:List Nat}
theorem Reb.notWr (h:St G n I1 M1 w1 I β ob s a w) {r:Nat} (hr:¬ Wr M1 w1 r):(∀ L,ob L≠some r)∧(∀ i,β i≠some r)∧r<w1.heap.size∧¬ M1.m r:=by
 refine⟨fun L hL=>hr (h.obnd L r hL).2,fun i hi=>?_,?_,fun hm=>hr (.inr hm)⟩
 ·exact hr (h.boxblk hi).2.1
 ·rcases bS r w1.heap.size with h1 | h1
  ·exact h1
  ·exact absurd (.inl h1) hr
theorem St.back (hr:Reb (GT G) I0 M w0 I1 M1 w1 rs) (h:St G n I1 M1 w1 I β ob s a w):St G n I0 M w0 I β ob s { a with defers:=M.d } w where
 size:=h.size
 defers:=rfl
 below:=⟨h.below.os.trans hr.bel.os,h.below.tape.trans hr.bel.tape,h.below.output.trans hr.bel.output,df hr.bel.size h.below.size,fun k hk hM=>
  (h.below.block k (bW hk hr.bel.size) (fun h1=>by
   rcases hr.wr k (.inr h1) with h2 | h2
   ·omega
   ·exact hM h2)).trans (hr.bel.block k hk hM),fun t=>df (hr.bel.drawn t) (h.below.drawn t)⟩
 ilow:=fun b o h0=>h.ilow b o (hr.il b o h0)
 kept:=fun b o h0=>(h.kept b o (hr.il b o h0)).trans (hr.kept b o h0)
 ihigh:=fun b o hb=>by
  rcases h.ihigh b o hb with h1 | h1
  ·exact hr.ih b o h1
  ·exact .inr (hr.wr b h1)
 ibnd:=h.ibnd
 fr:=fun t=>(h.fr t).wider fun b hb=>hr.wr b (h.obnd _ b hb).2
 bx:=fun i hi=>by
  obtain⟨blk,cur,e1,e2,e3,e4,e5,e7⟩:=h.bx i hi
  exact⟨blk,cur,e1,hr.wr blk e2,e3,e4,fun j=>(e5 j).wider fun b hb=>hr.wr b (h.obnd _ b hb).2,e7⟩
 bnone:=h.bnone
 ext:=fun i b he=>h.ext i b (by rw[hr.e];exact he)
 bnew:=fun i b hi=>.inr (hr.wr b (h.boxblk hi).2.1)
 binj:=h.binj
 oinj:=h.oinj
 obx:=h.obx
 obnd:=fun L b hL=>⟨(h.obnd L b hL).1,hr.wr b (h.obnd L b hL).2⟩
 glob:=h.glob
theorem St.rebase (h:St G n I0 M w0 I β ob s a w) {r:Nat} (j4:∀ L,ob L≠some r) (hβ:∀ i,β i≠some r) :
 St G n I ⟨fun b=>Wr M w0 b∧b≠r,M.e,mkD r::M.d⟩ w I β ob s { a with defers:=mkD r::a.defers } w where
 size:=h.size
 defers:=by rw[h.defers]
 below:=BelowM.refl _ _
 ilow:=fun _ _ h=>h
 kept:=fun _ _ _=>rfl
 ihigh:=fun _ _ h=>.inl h
 ibnd:=h.ibnd
 fr:=fun t=>(h.fr t).wider fun b hb=>.inr ⟨(h.obnd _ b hb).2,fun e=>j4 _ (e▸hb)⟩
 bx:=fun i hi=>by
  obtain⟨blk,cur,e1,e2,e3,e4,e5,e7⟩:=h.bx i hi
  exact⟨blk,cur,e1,.inr ⟨e2,fun e=>hβ i (e▸e1)⟩,e3,e4,fun j=>(e5 j).wider fun b hb=>.inr ⟨(h.obnd _ b hb).2,fun e=>j4 _ (e▸hb)⟩,e7⟩
 bnone:=h.bnone
 ext:=h.ext
 bnew:=fun i b hi=>.inr (.inr ⟨(h.boxblk hi).2.1,fun e=>hβ i (e▸hi)⟩)
 binj:=h.binj
 oinj:=h.oinj
 obx:=h.obx
 obnd:=fun L b hL=>⟨(h.obnd L b hL).1,.inr ⟨(h.obnd L b hL).2,fun e=>j4 L (e▸hL)⟩⟩
 glob:=h.glob
theorem Reb.step (hr:Reb (GT G) I0 M w0 I1 M1 w1 rs) (h:St G n I1 M1 w1 I β ob s a w) {r:Nat} (hw:Wr M1 w1 r) (bV:r<w.heap.size) (hI:∀ o,¬ I r o) (hh:w.heap[r]?=some (Obj.deferred (some []))) :
 Reb (GT G) I0 M w0 I ⟨fun b=>Wr M1 w1 b∧b≠r,M1.e,mkD r::M1.d⟩ w (r::rs) where
 bel:=(h.back hr).below
 wr:=fun b hb=>by
  rcases hb with hb | hb
  ·exact hr.wr b (.inl (df h.below.size hb))
  ·exact hr.wr b hb.1
 il:=fun b o h0=>h.ilow b o (hr.il b o h0)
 kept:=fun b o h0=>(h.kept b o (hr.il b o h0)).trans (hr.kept b o h0)
 ih:=(h.back hr).ihigh
 e:=hr.e
 d:=by rw[br,dx,hr.d]
 nd:=jK.2 ⟨fun hm=>(hr.r r hm).1 hw,hr.nd⟩
 r:=fun q hq=>by
  rcases aQ.1 hq with rfl | hq
  ·refine⟨fun hw'=>?_,hr.wr _ hw,hI,hh⟩
   rcases hw' with h1 | h1
   ·omega
   ·exact h1.2 rfl
  ·obtain⟨q1,q2,q3,q4⟩:=hr.r q hq
   obtain⟨_,_,h3,h4⟩:=Reb.notWr h q1
   refine⟨fun hw'=>?_,q2,fun o ho=>?_,(h.below.block q h3 h4).trans q4⟩
   ·rcases hw' with h1 | h1
    ·have:=h.below.size;omega
    ·exact q1 h1.1
   ·rcases h.ihigh q o ho with h1 | h1
    ·exact q3 o h1
    ·exact q1 h1
theorem Ey {F:Fence} {m:Nat} {fn:Func} {R:Ending→World→Prop} {a0:Act}:∀ (rs:List Nat) (w:World),rs.Nodup→(∀ r∈rs,(∀ L,ob L≠some r)∧(∀ i,β i≠some r)∧Wr M w0 r∧(∀ o,¬ I r o)∧w.heap[r]?=some (Obj.deferred (some [])))→
 St G n I0 M w0 I β ob s a0 w→(∀ w',St G n I0 M w0 I β ob s a0 w'→∃ v,(results fn a0.tmps).run P w'=.ok v w'∧R (.returned v) w')→LeavesInM F m P fn a0.tmps R (rs.map mkD) .returning w
 |[],w,_,_,h,hR=>hR w h
 |r::rs,w,oV,hr,h,hR=>by
  obtain⟨h1,h2,h3,h4,h5⟩:=hr r (bB ..)
  obtain⟨hnr,apG⟩:=jK.1 oV
  have bV:r<w.heap.size:=(bf.1 h5).1
  refine⟨by simp,.inl ⟨r,_,rfl,run_takeDeferred h5,?_⟩⟩
  refine Ey rs _ apG (fun q hq=>?_) ?_ hR
  ·obtain⟨q1,q2,q3,q4,q5⟩:=hr q (aR _ hq)
   exact⟨q1,q2,q3,q4,(Go.World.putObj_heap_other (fun(e:q=r)=>hnr (e▸hq))).trans q5⟩
  ·exact h.growRow (I':=I) (UE (grownBy_putObj' w r _) (ar _)) h3 (fun o ho=>absurd ho (h4 o)) h1 h2 (fun _ _ h=>h) (fun _ _ h=>.inl h) (by rw[Go.World.putObj_size];exact bV)
theorem St.newObj (h:St G n I0 M w0 I β ob s a w) {o:Obj} {cs:List V} {cur:Array Value} (hHB:HB (w.alloc o) w.heap.size cur cs) (hl:cs.length≤cur.size)
 (hc:∀ j,LR (Wr M w0) I β w none (cur.getD j undef) (cs.getD j .un)) :
 St G n I0 M w0 I (up β s.nb (some w.heap.size)) (fun L=>match L with | .b i j=>if i=s.nb then none else ob (.b i j) | L=>ob L)
  { s with bx:=up s.bx s.nb cs,nb:=s.nb+1 } a (w.alloc o):=by
 have hs:=h.allocOwn o
 have hβ:∀ i b,β i=some b→up β s.nb (some w.heap.size) i=some b:=fun i b hi=>by
  have:i≠s.nb:=fun e=>by rw[h.bnone i (by omega)] at hi;cases hi
  rw[cF _ _ this];exact hi
 have j4:∀ (o':Option Nat),(∀ b,o'=some b→b<w.heap.size)→∀ b,o'=some b→(w.alloc o).heap[b]?=w.heap[b]?∧∀ k,I b k→I b k:=fun o' ho b hb=>
  ⟨dY w _ b (ho b hb),fun _ h=>h⟩
 have hI:∀ b k,I b k→I b k∧(w.alloc o).cell? ⟨b,k,none⟩=w.cell? ⟨b,k,none⟩:=fun b k hb=>⟨hb,dJ (a:=⟨b,k,none⟩) (dY w _ b (h.ibnd b k hb))⟩
 have sP:=h.fresh (ar _)
 have key:∀ L b,(match L with | .b i j=>if i=s.nb then none else ob (.b i j) | L=>ob L)=some b→ob L=some b:=fun L b hL=>by
  cases L with
  |t i=>exact hL
  |b i j=>
   simp only at hL
   split at hL
   ·cases hL
   ·exact hL
 exact {
  size:=h.size,defers:=h.defers,below:=hs.below,kept:=hs.kept,ilow:=h.ilow,ihigh:=h.ihigh,ibnd:=hs.ibnd
  fr:=fun t=>(h.fr t).mono hI hβ (j4 _ fun b hb=>(h.obnd _ b hb).1)
  bx:=fun i hi=>by
   by_cases jg:i=s.nb
   ·subst jg
    refine⟨w.heap.size,cur,by simp,.inl h.below.size,by simpa only[bT] using hHB,by simpa only[bT] using hl,fun j=>?_,fun k hk=>?_⟩
    ·simp only[bT,dn]
     exact(hc j).mono hI hβ (fun b hb=>by cases hb)
    ·have:=h.ibnd _ _ hk;omega
   ·obtain⟨blk,cur',e1,e2,e3,e4,e5,e7⟩:=h.bx i (by simp only at hi;omega)
    have bV:blk<w.heap.size:=e3.lt
    refine⟨blk,cur',hβ i blk e1,e2,by simpa only[cF _ _ jg] using e3.mono (dY w _ blk bV),by simpa only[cF _ _ jg] using e4,fun j=>?_,e7⟩
    simp only[cF _ _ jg,if_neg jg]
    exact(e5 j).mono hI hβ (j4 _ fun b hb=>(h.obnd _ b hb).1)
  bnone:=fun i hi=>by
   simp only at hi
   rw[cF _ _ (by omega)]
   exact h.bnone i (by omega)
  ext:=fun i b he=>hβ i b (h.ext i b he)
  bnew:=fun i b hi=>by
   by_cases h1:i=s.nb
   ·subst h1;rw[bT] at hi;cases hi;exact .inr (.inl h.below.size)
   ·rw[cF _ _ h1] at hi;exact h.bnew i b hi
  binj:=fun i j b hi hj=>by
   by_cases h1:i=s.nb<;>by_cases h2:j=s.nb
   ·rw[h1,h2]
   ·subst h1;rw[bT] at hi;cases hi;rw[cF _ _ h2] at hj;exact absurd hj (sP.2 j)
   ·subst h2;rw[bT] at hj;cases hj;rw[cF _ _ h1] at hi;exact absurd hi (sP.2 i)
   ·rw[cF _ _ h1] at hi;rw[cF _ _ h2] at hj;exact h.binj i j b hi hj
  oinj:=fun L L' b hL yA=>h.oinj L L' b (key L b hL) (key L' b yA)
  obx:=fun L b i hL hi=>by
   by_cases jg:i=s.nb
   ·subst jg;rw[bT] at hi;cases hi
    exact sP.1 L (key L _ hL)
   ·rw[cF _ _ jg] at hi
    exact h.obx L b i (key L b hL) hi
  obnd:=fun L b hL=>by
   rw[dZ]
   have:=h.obnd L b (key L b hL);exact⟨by omega,this.2⟩
  glob:=fun g cs hg=>(h.glob g cs hg).mono hI }
theorem LR.toKR {ox:Option Nat} (h:LR base I β w ox v x) (hk:x.fz.isKR=true):KR I β w v x.fz:=by
 have h':=h.fz none
 cases hx:x.fz<;>rw[hx] at h' hk<;>simp only[V.isKR] at hk<;>try cases hk
 ·exact .inl rfl
 ·exact .inr (.inr h'.toC)
 ·simp only[LR] at h';exact .inr (.inl ⟨rfl,h'⟩)
 ·simp only[LR] at h';exact .inr (.inr h')
 ·simp only[LR] at h';exact .inr (.inr h')
 ·simp only[LR] at h';exact .inr (.inr h')
 ·simp only[LR] at h';exact .inr (.inr h')
def SX (G:Gl) (n:Nat) (tr:List Nat) (I0:Ft) (M:Mx) (w0:World) (s:S) (a:Act) (w:World):Prop:=
 ∃ I1 M1 w1 rs,Reb (GT G) I0 M w0 I1 M1 w1 rs∧(FP tr=false→I1=I0∧M1=M∧w1=w0)∧SE G n I1 M1 w1 s a w
theorem SX.of (h:SE G n I0 M w0 s a w):SX G n tr I0 M w0 s a w:=⟨_,_,_,_,.refl,fun _=>⟨rfl,rfl,rfl⟩,h⟩
theorem SX.se (h:SX G n tr I0 M w0 s a w) (hr:FP tr=false):SE G n I0 M w0 s a w:=by
 obtain⟨I1,M1,w1,rs,_,h1,h2⟩:=h
 obtain⟨rfl,rfl,rfl⟩:=h1 hr
 exact h2
theorem I7 (hst:St G n I0 M w0 I β ob s a w) {f:FuncId} {vs:List Value} {all:List V} {ρ:List Nat} {cargs:List V} {b0:List (List V)} {R0:V→List (List V)→Prop} {R:Ending→World→Prop}
 (eK:FnE P G f cargs b0 R0) (dy:ArgsL (Wr M w0) I β w vs all) (en:all.map V.fz=cargs.map (V.ren (rho ρ s.nb))) (hρ:ρ.length=b0.length∧ρ.Nodup) (jg:qH s.bx s.nb (rho ρ s.nb) 0 b0)
 (hk:∀ r b1,R0 r b1→∀ v w' I' β' ob',St G n I0 M w0 I' β' ob' { s with bx:=fM (rho ρ s.nb) 0 b1 s.bx,nb:=s.nb+(b1.length - b0.length) } a w'→(∀ i b,β i=some b→β' i=some b)→R (.returned v) w') :
 Calls P f vs.toArray w R:=by
 obtain⟨hρl,hn⟩:=hρ
 obtain⟨zr,yz,ke⟩:=eK.2.1
 have hl:∀ i,i<ρ.length→ρ.getD i 0<s.nb:=fun i hi=>by
  obtain⟨b,hb⟩:∃ b,b0[i]?=some b:=⟨_,ab (by omega)⟩
  have:=(pC b0 0 i b jg hb).1
  rw[aK] at this
  simpa[rho,hi] using this
 have qa:=xx hn hl
 have cn:all.length=cargs.length:=by simpa using nq List.length en
 refine (eK.2.2 I ⟨Mof β ob (rho ρ s.nb) b0.length,fun _=>none,[]⟩ w vs.toArray (lP β (rho ρ s.nb) b0.length) (obC ob (rho ρ s.nb) b0.length) hst.ibnd hst.glob (hst.give qa jg yz)
  (by have:=dy.1;simp;omega) (fun j x hx=>?_)).mono ?_
 ·have hj:j<cargs.length:=(ae.1 hx).1
  have hz:all[j]?=some all[j]:=ab (by omega)
  have h1:=dy.2 j _ hz
  have h2:all[j].fz=x.ren (rho ρ s.nb):=by
   have e1:(all.map V.fz)[j]?=some all[j].fz:=by simp[hz]
   have e2:(cargs.map (V.ren (rho ρ s.nb)))[j]?=some (x.ren (rho ρ s.nb)):=by simp[hx]
   rw[en,e2] at e1
   exact(dz e1).symm
  rw[h2] at h1
  have h3:=h1.ren (β':=lP β (rho ρ s.nb) b0.length) (zr x (aT hx)) (fun i b hi hb=>by simp[lP,hi,hb])
  have h4:=h3.wider (base':=Wr ⟨Mof β ob (rho ρ s.nb) b0.length,fun _=>none,[]⟩ w) fun b hb=>by cases hb
  simpa using h4
 ·rintro e w' ⟨r,b1,hR,v,I',β',ob',o',rfl,uH,Uh,Qi,vV,hβ1,Uz,ot,hZ,sP⟩
  obtain⟨cy,_,_,_,_,lG⟩:=hst.called hρl hn jg (ke r b1 hR) uH Uh Qi vV hβ1 Uz ot
  exact hk r b1 hR v w' _ _ _ cy lG
def VE.ex:VE→Exit
 | .normal=>.normal
 | .exit i=>.exit i
 | .ret=>.ret
theorem I8 {f:Operand} {fv:V} {args:List V} {g:FuncId} {all:List V} (hc:gu fv args=some (g,all)) {ox:Option Nat} (hf:LR base I β w ox (a.eval f) fv) :
 ∃ vf vc:Array Value,a.eval f=.func (.func g) vf vc∧∀ us:List Value,ArgsL base I β w us args→ArgsL base I β w (vf.toList++us++vc.toList) all:=by
 unfold gu at hc
 split at hc
 ·rename_i g' fs cs
  simp only[ai,dC] at hc
  obtain⟨rfl,rfl⟩:=hc
  obtain⟨vf,vc,hv,q1,q2,q3,q4⟩:=hf.toC.fn_inv
  exact⟨vf,vc,hv,fun us hu=>((uL vf fs q1 q3).append hu).append (uL vc cs q2 q4)⟩
 ·rename_i g' fs cs
  simp only[ai,dC] at hc
  obtain⟨rfl,rfl⟩:=hc
  simp only[LR] at hf
  obtain⟨vf,vc,hv,q1,q2,q3,q4⟩:=hf
  exact⟨vf,vc,hv,fun us hu=>((uN vf fs q1 q3).append hu).append (uN vc cs q2 q4)⟩
 ·cases hc
theorem QS {m:Nat} {f:Operand} {ps:Array Tmp} {assign body:Code} {q:VE→S→Prop} (hn:rgN tr=n) (hQ:∀ e s a w,q e s→SX G n tr I0 M w0 s a w→Q e.ex a w)
 (h:vrg P G tr f ps assign body q s) (dB:SX G n tr I0 M w0 s a w):(Code.rangeFunc f ps assign body).wpIn (FW none) m P Q a w:=by
 obtain⟨Qm,fl,kU,⟨g,all,sS⟩,h⟩:=h
 obtain⟨I1,M1,w1,rs,tB,_,I,β,ob,hst⟩:=dB
 have hA:=hst.allocOwn (Obj.deferred (some []))
 have sP:=hst.fresh (ar w.heap.size)
 have hre:=hA.rebase (r:=w.heap.size) sP.1 sP.2
 have ano:=tB.step hA (r:=w.heap.size) (.inl hst.below.size) (by rw[dZ];omega) (fun o ho=>by have:=hst.ibnd _ _ ho;omega) (fY w _)
 generalize hMd:(⟨fun b=>Wr M1 w1 b∧b≠w.heap.size,M1.e,mkD w.heap.size::M1.d⟩:Mx)=M2 at *
 have fnok:=sS
 have h:kZ P G { s with bx:=up s.bx s.nb [.lp (lp0 (rgN tr) ps assign body) fl],nb:=s.nb+1 } (ev G s f) [.yl s.nb] (fun s' _=>Ia q s.nb s'):=by
  split at h
  ·exact h
  ·exact h.toR
 unfold kZ at h
 have anp:gu (ev G s f) [.yl s.nb]=some (g,all):=sS
 rw[anp] at h
 obtain⟨ρ,cargs,b0,R0,eK,en,hρ,jg,hKR⟩:=h
 obtain⟨fn,hf1,hf2,c,hf3⟩:=eK.1
 refine wpIn_rangeFunc fun fid _=>?_
 have hB:=hre.newObj (o:=.loop { lp0 (rgN tr) ps assign body with fn:=fid,tmps:=a.tmps,defers:=w.heap.size }) (cs:=[.lp (lp0 (rgN tr) ps assign body) fl]) (cur:=#[.tuple a.tmps])
  ⟨fid,a.tmps,w.heap.size,⟨fY _ _,by rw[hst.size];exact hn.symm⟩,0,rfl⟩ (ar _) (fun j=>by
   cases j with
   |zero=>
    show LR _ _ _ _ none (.tuple a.tmps) (.lp _ fl)
    simp only[LR]
    refine⟨a.tmps,rfl,fun t x hx=>?_⟩
    obtain⟨e1,e2⟩:=kU _ hx
    simp only at e1 e2
    rw[e1] at e2 ⊢
    exact(hre.fr t).toKR e2
   |succ j=>simp only[fk,List.getD_nil,LR];exact .un _)
 rw[dZ] at hB
 generalize hW2:(w.alloc (Obj.deferred (some []))).alloc (Obj.loop { lp0 (rgN tr) ps assign body with fn:=fid,tmps:=a.tmps,defers:=w.heap.size })=w2 at *
 generalize Ab:({ s with bx:=up s.bx s.nb [.lp (lp0 (rgN tr) ps assign body) fl],nb:=s.nb+1 }:S)=s1 at *
 generalize ha1:({ a with defers:=mkD w.heap.size::a.defers }:Act)=a1 at *
 have rR:ev G s1 f=ev G s f:=by rw[← Ab];cases f<;>rfl
 have hae:a1.eval f=a.eval f:=by rw[← ha1];cases f<;>rfl
 have hf:=bD hB f
 rw[rR] at hf
 obtain⟨vf,vc,hv,dy⟩:=I8 sS hf
 rw[hae] at hv
 have hyl:∀ β':Nat→Option Nat,β' s.nb=some (w.heap.size+1)→LR (Wr M2 (w.alloc (Obj.deferred (some [])))) I β' w2 none (.func (.yield (w.heap.size+1)) #[] #[]) (.yl s.nb):=fun β' hβ=>by
  simp only[LR];exact⟨_,hβ,rfl⟩
 have hus:=dy [Value.func (.yield (w.heap.size+1)) #[] #[]] ⟨rfl,fun j x hx=>by
  cases j with
  |zero=>simp at hx;subst hx;exact hyl _ (by rw[bT])
  |succ j=>simp at hx⟩
 have apE:fn.name≠ "runtime.NumGoroutine" :=by simpa using hf2
 refine⟨w.heap.size+1,[mkD w.heap.size],w2,{ target:=.fn (.func g) vc,args:=vf++#[Value.func (.yield (w.heap.size+1)) #[] #[]] },w2,g,
  (vf.toList++[Value.func (.yield (w.heap.size+1)) #[] #[]]++vc.toList).toArray,w2,?_,?_,fun _ _=>trivial,?_,fun h=>(by cases h),pE.2 ?_⟩
 ·rw[← hW2];exact run_enterLoop_outer _ _ _ _ _
 ·simp only[resolve,hv]
  simp[go_sem]
 ·have e:vf++#[Value.func (.yield (w.heap.size+1)) #[] #[]]++vc=(vf.toList++[Value.func (.yield (w.heap.size+1)) #[] #[]]++vc.toList).toArray:=by apply da;simp
  rw[← e]
  simp[invoke,callFunc,hf1,apE,hf3]
 ·refine I7 hB eK hus en hρ jg ?_
  intro r b1 hR0 v w3 I3 β3 ob3 zt lG
  have hK:=hKR r b1 hR0
  have hb0:β3 s.nb=some (w.heap.size+1):=lG _ _ (by rw[bT])
  generalize D9:({ s1 with bx:=fM (rho ρ s1.nb) 0 b1 s1.bx,nb:=s1.nb+(b1.length - b0.length) }:S)=s2 at *
  unfold Ia at hK
  split at hK
  ·rename_i L fl' gs ot
   obtain⟨ant,bV,hK⟩:=hK
   obtain⟨blk,cur,e1,e2,e3,e4,e5,e7⟩:=zt.bx s.nb bV
   rw[hb0] at e1;cases e1
   rw[ot] at e3 e4 e5
   obtain⟨f3,tm,d3,⟨h3,fC⟩,mg,rfl⟩:∃ (f:FuncId) (tm:Array Value) (d:Nat),(w3.heap[w.heap.size+1]?=some (.loop { L with fn:=f,tmps:=tm,defers:=d })∧tm.size=L.defers)∧∃ m:Nat,cur=#[Value.tuple tm]++Array.replicate m undef:=e3
   obtain⟨L3,hL3⟩:∃ L3:Loop,L3={ L with fn:=f3,tmps:=tm,defers:=d3 }:=⟨_,rfl⟩
   rw[← hL3] at h3
   have hp3:L3.pending=L.pending:=by rw[hL3]
   have bH:(Instr.endLoop (w.heap.size+1)).run P w3=.ok L.pending (w3.putObj (w.heap.size+1) (.loop { L3 with state:=.exhausted })):=by
    rw[← hp3];exact run_endLoop h3 (by rw[hL3];exact ant)
   have apF:=zt.reBox (o:=.loop { L3 with state:=.exhausted }) (l:=.lp { L with state:=.exhausted } fl'::gs) (cur:=#[Value.tuple tm]++Array.replicate mg undef) (od:=fun j=>ob3 (.b s.nb j)) bV hb0
    ⟨f3,tm,d3,⟨by rw[hL3];exact nZ (bf.1 h3).1,fC⟩,mg,rfl⟩ e4 (fun j=>by
     have:=e5 j
     cases j with
     |zero=>exact this
     |succ j=>exact this) (fun j b hb=>hb)
   have hsx:SX G n tr I0 M w0 { s2 with bx:=up s2.bx s.nb (.lp { L with state:=.exhausted } fl'::gs) } a1 (World.putObj w3 (w.heap.size+1) (.loop { L3 with state:=.exhausted })):=
    ⟨_,_,_,_,ano,(fun h=>by rw[Qm] at h;cases h),_,_,_,apF⟩
   refine⟨L.pending,_,bH,?_⟩
   have ha2:({ a with defers:=[mkD w.heap.size]++a.defers }:Act)=a1:=ha1
   rw[ha2]
   split at hK
   ·rename_i hp;rw[hp];exact hQ .normal _ _ _ hK hsx
   ·rename_i hp;rw[hp];exact wpIn_ret (hQ .ret _ _ _ hK hsx)
   ·rename_i hp;rw[hp];exact wpIn_exit (hQ (.exit _) _ _ _ hK hsx)
   ·exact hK.elim
  ·exact hK.elim
end
section
variable {P:Program} {G:Gl} {tr:List Nat} {n:Nat} {I0:Ft} {M:Mx} {w0:World} {I:Ft} {β:Nat→Option Nat} {ob:Loc→Option Nat} {s:S} {a:Act} {w:World} {o:Oper}
 {Q:Exit→Act→World→Prop} {base:Nat→Prop} {v:Value} {x y:V}
def cok (n:Nat) (tr:List Nat):Code→Bool
 | .region id ops draw=>mw n ops&&Bm ops&&(if L2 tr id then(if Du tr id||FQ tr id then !draw else draw&&aaX tr id ops) else if aaC tr id then UK tr id&&draw&&O0 tr ops else(!draw||GB tr ops))
 | .seq a b=>cok n tr a&&cok n tr b
 | .cond _ a b=>cok n tr a&&cok n tr b
 | .block _ a=>cok n tr a
 | .loop a=>cok n tr a
 | .scope a=>cok n tr a
 | .rangeFunc _ _ _ _=>decide (rgN tr=n)
 |_=>true
theorem mT {k0:Nat} {l:Option Nat} {m:Nat} (hm:P.follows .mixedOrders=true) (xd:∀ i b,M.e i=some b→i<k0) (hl:l=none∨FP tr=false):∀ (c:Code) (hc:cok n tr c=true) (q:VE→S→Prop) (Q:Exit→Act→World→Prop) (_hQ:∀ e s a w,q e s→SX G n tr I0 M w0 s a w→Q e.ex a w) (s:S) (a:Act) (w:World),
 gZ P G tr k0 c q s→SX G n tr I0 M w0 s a w→c.wpIn (FW l) m P Q a w:=by
 intro c
 induction c with
 |skip=>intro _ q Q hQ s a w h dB;exact wpIn_skip (hQ .normal s a w h dB)
 |region id ops draw=>
  intro hc q Q hQ s a w h hsx
  obtain⟨I1,M1,w1,rs,tB,lG,dB⟩:=hsx
  have xd:∀ i b,M1.e i=some b→i<k0:=by rw[tB.e];exact xd
  have hQ':∀ a w s,q .normal s→SE G n I1 M1 w1 s a w→Q .normal a w:=fun a w s hk dB=>hQ .normal s a w hk ⟨I1,M1,w1,rs,tB,lG,dB⟩
  simp only[gZ] at h
  by_cases hpa:L2 tr id=true
  ·simp only[cok,hpa,dn,aX] at hc
   obtain⟨⟨hd,oV⟩,hc⟩:=hc
   rw[if_pos hpa] at h
   by_cases OJ:Du tr id=true
   ·rw[if_pos (by rw[OJ];rfl)] at hc
    have Dk:draw=false:=by simpa using hc
    subst Dk
    exact GO hd hQ' OJ h dB
   ·have OJ:Du tr id=false:=by simpa using OJ
    by_cases FD:FQ tr id=true
    ·rw[if_pos (by rw[FD,jS])] at hc
     have Dk:draw=false:=by simpa using hc
     subst Dk
     exact GN hd hQ' OJ FD h dB
    ·have FD:FQ tr id=false:=by simpa using FD
     rw[if_neg (by rw[OJ,FD];decide),aX] at hc
     obtain⟨Dk,h2⟩:=hc
     subst Dk
     exact GM hm oV hd h2 hQ' OJ FD h dB
  rw[if_neg hpa] at h
  by_cases htw:aaC tr id=true
  ·simp only[cok,hpa,htw,dn,aI,dj,aX] at hc
   obtain⟨⟨hd,oV⟩,⟨hfz,Dk⟩,h2⟩:=hc
   rw[if_pos hfz] at h
   obtain⟨s',ke,h⟩:=h
   unfold vtw at h
   rw[if_pos htw] at h
   subst Dk
   exact DK hm oV hd h2 hQ' h (dB.freeze xd ke)
  simp only[cok,hpa,htw,aI,dj,aX,eT,dM] at hc
  obtain⟨⟨hd,oV⟩,hc⟩:=hc
  obtain⟨s,h,dB⟩:∃ s,gY P G tr ops ops.toList s (q .normal)∧SE G n I1 M1 w1 s a w:=by
   split at h
   ·obtain⟨s',ke,h⟩:=h
    unfold vtw at h
    rw[if_neg htw] at h
    exact⟨s',h,dB.freeze xd ke⟩
   ·exact QR hd h dB
  cases draw with
  |false=>
   refine wpIn_region ?_
   have:=wo (Q:=Q) (l:=l) (m:=m) hd hQ' ops.toList 0 rfl s a w h dB
   rw[e9]
   simpa using this
  |true=>exact BK hm oV hd (hc.resolve_left (by simp)) hQ' h dB
 |seq x y ihx ihy=>
  intro hc q Q hQ s a w h dB
  simp only[cok,aX] at hc
  simp only[gZ] at h
  refine wpIn_seq (ihx hc.1 _ _ (fun e s a w hk dB=>?_) s a w h dB)
  cases e with
  |normal=>exact ihy hc.2 q Q hQ s a w hk dB
  |exit i=>exact hQ (.exit i) s a w hk dB
  |ret=>exact hQ .ret s a w hk dB
 |cond c x y ihx ihy=>
  intro hc q Q hQ s a w h dB
  simp only[cok,aX] at hc
  simp only[gZ] at h
  split at h
  ·rename_i p hp
   have Dp:a.eval c=.bool p:=by
    obtain⟨_,_,_,_,_,_,I,β,ob,hst⟩:=dB
    have:=bD hst c;rw[hp] at this;exact this.lit
   have aft:refine s c p=s:=by
    cases c with
    |tmp t=>simp only[refine];simp only[ev] at hp;exact S.up_id hp
    |_=>rfl
   refine wpIn_cond_split Dp (fun ht=>?_) (fun hf=>?_)
   ·have:=h.1 ht
    rw[ht] at aft
    rw[aft] at this
    exact ihx hc.1 q Q hQ s a w this dB
   ·have:=h.2 hf
    rw[hf] at aft
    rw[aft] at this
    exact ihy hc.2 q Q hQ s a w this dB
  ·exact h.elim
 |block id body ih=>
  intro hc q Q hQ s a w h dB
  simp only[cok] at hc
  simp only[gZ] at h
  refine wpIn_block (ih hc _ _ (fun e s a w hk dB=>?_) s a w h dB)
  cases e with
  |normal=>exact hQ .normal s a w hk dB
  |exit i=>
   simp only[VE.ex,Exit.inBlock] at hk ⊢
   split
   ·rename_i e;rw[if_pos e] at hk;exact hQ .normal s a w hk dB
   ·rename_i e;rw[if_neg e] at hk;exact hQ (.exit i) s a w hk dB
  |ret=>exact hQ .ret s a w hk dB
 |loop body ih=>
  intro hc q Q hQ s a w h dB
  simp only[cok] at hc
  simp only[gZ] at h
  obtain⟨k,h⟩:=h
  refine wpIn_loop_rounds k ?_
  induction k generalizing s a w with
  |zero=>exact h.elim
  |succ k ihk=>
   simp only[AM] at h
   obtain⟨s',ke,h⟩:=h
   rw[roundsIn_succ]
   refine ih hc _ _ (fun e s a w hk dB=>?_) s' a w h (by
    rcases ke with rfl | ke
    ·exact dB
    ·obtain⟨I1,M1,w1,rs,tB,lG,dB⟩:=dB
     exact⟨I1,M1,w1,rs,tB,lG,dB.weaken (by rw[tB.e];exact xd) ke⟩)
   cases e with
   |normal=>exact ihk s a w dB hk
   |exit i=>exact hQ (.exit i) s a w hk dB
   |ret=>exact hQ .ret s a w hk dB
 |exit id=>intro _ q Q hQ s a w h dB;exact wpIn_exit (hQ (.exit id) s a w h dB)
 |ret=>intro _ q Q hQ s a w h dB;exact wpIn_ret (hQ .ret s a w h dB)
 |label l=>intro _ q Q hQ s a w h dB;exact wpIn_label (hQ .normal s a w h dB)
 |scope body ih=>
  intro hc q Q hQ s a w h dB
  simp only[cok] at hc
  simp only[gZ] at h
  refine vt (ih hc _ _ (fun e s a w hk dB=>?_) s a w h dB)
  cases e with
  |normal=>exact hQ .normal s a w hk dB
  |exit i=>exact hQ (.exit i) s a w hk dB
  |ret=>exact hQ .ret s a w hk dB
 |rangeFunc f ps assign body=>
  intro hc q Q hQ s a w h dB
  simp only[cok,bF] at hc
  simp only[gZ] at h
  have hl:l=none:=by
   rcases hl with hl | hl
   ·exact hl
   ·have:=h.1;rw[hl] at this;cases this
  subst hl
  exact QS hc hQ h dB
 |_=>intro _ q Q hQ s a w h dB;exact h.elim
theorem SX.leaves {fn:Func} {R:Ending→World→Prop} (h:SX G n tr I0 M w0 s a w) (hd:M.d=[])
 (hR:∀ w' I' β' ob',St G n I0 M w0 I' β' ob' s { a with defers:=[] } w'→∃ v,(results fn a.tmps).run P w'=.ok v w'∧R (.returned v) w'):LeavesInM (FW none) 0 P fn a.tmps R a.defers .returning w:=by
 obtain⟨I1,M1,w1,rs,tB,_,I,β,ob,hst⟩:=h
 have Uo:=hst.back tB
 have hdf:a.defers=rs.map mkD:=by rw[hst.defers,tB.d,hd,ee]
 rw[hdf,hd] at *
 refine Ey (a0:={ a with defers:=[] }) rs w tB.nd (fun r hr=>?_) Uo (fun w' h'=>hR w' _ _ _ h')
 obtain⟨q1,q2,q3,q4⟩:=tB.r r hr
 obtain⟨h1,h2,h3,h4⟩:=Reb.notWr hst q1
 exact⟨h1,h2,q2,fun o ho=>by
  rcases hst.ihigh r o ho with h5 | h5
  ·exact q3 o h5
  ·exact q1 h5,(hst.below.block r h3 h4).trans q4⟩
def QT (P:Program) (s:S):ResultVar→(V→Prop)→Prop
 | .tmp t,K=>K (s.fr t)
 | .cell p T,K=>cK P T s (s.fr p) K
def MU (z:Bool) (s:S) (x r:V):Prop:=if z then imm s x=some r else x=r
def Ez (z:Bool) (s:S) (x r:V):Prop:=if z then imm s x=some r else x.fz=r
def rl (P:Program) (z:Bool) (s:S) (r:V):List ResultVar→Prop
 |[.tmp t]=>MU z s (s.fr t) r
 |[.cell p T]=>cK P T s (s.fr p) fun u=>MU z s u r
 |rs=>∃ ds,r=.tup ds∧ds.length=rs.length∧∀ (i:Nat) (R:ResultVar) (d:V),rs[i]?=some R→ds[i]?=some d→QT P s R fun u=>Ez z s u d
def zP (args:List V):S:=⟨fun j=>args.getD j .un,fun _=>[],0⟩
theorem LR.ofDR (h:DR I w v x):LR base I β w none v x:=by
 cases h with
 |un=>simp only[LR];exact .un _
 |sk=>simp only[LR];exact .sk
 |c _ _ h=>exact .ofC h
 |agg vs cs h1 h2=>simp only[LR];exact .agg vs cs h1 h2
 |tup vs ds h1 h2=>simp only[LR];exact .tup vs ds h1 h2
theorem St.init {I:Ft} {w:World} {vs:Array Value} {args:List V} {m:Nat} (hI:∀ b o,I b o→b<w.heap.size) (hg:GOK G I w) (fC:vs.size=args.length) (ha:∀ j x,args[j]?=some x→DR I w (vs.getD j undef) x)
 (hm:m=(vs++Array.replicate (n - vs.size) undef).size):St G m I ⟨fun _=>False,fun _=>none,[]⟩ w I (fun _=>none) (fun _=>none) (zP args) { tmps:=vs++Array.replicate (n - vs.size) undef,defers:=[] } w where
 size:=hm.symm
 defers:=rfl
 below:=BelowM.refl _ _
 kept:=fun _ _ _=>rfl
 ilow:=fun _ _ h=>h
 ihigh:=fun _ _ h=>.inl h
 ibnd:=hI
 fr:=fun t=>by
  simp only[zP]
  by_cases ht:t<args.length
  ·have e1:args.getD t .un=args[t]:=by simp[List.getD,ht]
   have e2:(vs++Array.replicate (n - vs.size) undef).getD t undef=vs.getD t undef:=by
    rw[ah,ew (by omega),← ah]
   rw[e1,e2]
   exact .ofDR (ha t _ (ab ht))
  ·have e1:args.getD t .un=.un:=by simp[List.getD,bq (ec ht)]
   rw[e1];simp only[LR];exact .un _
 bx:=fun i hi=>by simp[zP] at hi
 bnone:=fun _ _=>rfl
 ext:=fun _ _ h=>by cases h
 bnew:=fun _ _ h=>by cases h
 binj:=fun _ _ _ h=>by cases h
 oinj:=fun _ _ _ h=>by cases h
 obx:=fun _ _ _ h=>by cases h
 obnd:=fun _ _ h=>by cases h
 glob:=hg
def V.out:V→Bool
 | .bp _ _ | .clo _ _ _ | .ms _ _ _ _ _ | .mag _ | .mr _ | .it _ _ _ _ | .gh _ _ _ | .gg _ _ _ | .yl _ | .lp _ _ | .bm _ _ _=>false
 |_=>true
theorem LR.leave {ox:Option Nat} (h:LR base I β w ox v x) (hx:x.out=true) {β':Nat→Option Nat}:LR base I β' w ox v x:=by
 cases x<;>simp only[V.out] at hx<;>try cases hx
 all_goals simp only[LR] at h ⊢;exact h
def V.comp:V→Bool
 | .c _ | .agg _=>true
 |_=>false
def V.compT:V→Bool
 | .tup ds=>ds.all V.comp
 |_=>true
def EA (a:Act):ResultVar→Sem Value
 | .tmp t=>pure (a.tmps.getD t undef)
 | .cell p t=>do loadVar t (← asAddr (a.tmps.getD p undef))
theorem MV (fn:Func) (a:Act):results fn a.tmps=(do let vs ← fn.results.mapM (EA a);pure (if h:vs.size=1 then vs[0] else .tuple vs)):=by
 unfold results
 congr 1
theorem aaY (hst:St G n I0 M w0 I β ob s a w) {R:ResultVar} {K:V→Prop} (h:QT P s R K):∃ x u o',K x∧LR (Wr M w0) I β w o' u x∧(∀ b,o'=some b→Wr M w0 b∧b<w.heap.size)∧
 (EA a R).run P w=.ok u w:=by
 cases R with
 |tmp t=>exact⟨_,_,_,h,hst.fr t,fun b hb=>⟨(hst.obnd _ b hb).2,(hst.obnd _ b hb).1⟩,rfl⟩
 |cell p T=>
  obtain⟨z,u,hz,hZ,bH⟩:=tD (x:=s.fr p) hst h (hst.fr p)
  refine⟨z,u,none,hz,hZ,fun b hb=>(by cases hb),?_⟩
  unfold Instr.loadAt at bH
  show(do loadVar T (← asAddr (a.tmps.getD p undef)):Sem Value).run P w=.ok u w
  generalize a.tmps.getD p undef=pv at bH ⊢
  cases pv<;>first | (simp[Instr.sureAddr,stuck,Sem.run] at bH;done) | skip
  rename_i ad
  cases ad with
  |none=>simp[Instr.sureAddr,stuck,Sem.run] at bH
  |some ad=>simpa[Instr.sureAddr,asAddr] using bH
theorem zQ (hst:St G n I0 M w0 I β ob s a w) {Ic:Ft} {z:Bool} (hz:z=false→Ic=I) (td:∀ b o,I b o→Ic b o) (hb:z=true→∀ i b o,β i=some b→Ic b o) :
 ∀ (rs:List ResultVar) (ds:List V),ds.length=rs.length→(∀ (i:Nat) (R:ResultVar) (d:V),rs[i]?=some R→ds[i]?=some d→QT P s R fun u=>Ez z s u d)→
 ∃ vs:List Value,vs.length=ds.length∧(∀ (i:Nat) (d:V),ds[i]?=some d→LR (Wr M w0) Ic β w none (vs.getD i undef) d)∧
  (rs.mapM (EA a)).run P w=.ok vs w
 |[],[],_,_=>⟨[],rfl,by simp,rfl⟩
 |R::rs,d::ds,hl,h=>by
  obtain⟨vs,h1,h2,h3⟩:=zQ hst hz td hb rs ds (by simpa using hl) (fun i R' d' hR hd=>h (i+1) R' d' (by simpa using hR) (by simpa using hd))
  obtain⟨x,u,o',hx,hZ,_,bH⟩:=aaY hst (h 0 R d rfl rfl)
  refine⟨u::vs,by simp[h1],fun i d' pT=>?_,?_⟩
  ·cases i with
   |zero=>
    simp at pT;subst pT
    cases z with
    |false=>rw[hz rfl];simp only[Ez,aI,dj] at hx;rw[← hx];exact hZ.fz none
    |true=>simp only[Ez,dn] at hx;exact .ofDR (Bd hst hZ hx td (fun _=>hb rfl))
   |succ i=>simpa using h2 i d' (by simpa using pT)
  ·rw[fe]
   simp only[aC,bH,aw,h3,a8]
 |[],_::_,hl,_=>by simp at hl
 |_::_,[],hl,_=>by simp at hl
theorem wA {fn:Func} (hst:St G n I0 M w0 I β ob s a w) {r:V} (ov:r.compT=true) {Ic:Ft} {z:Bool} (hz:z=false→Ic=I) (td:∀ b o,I b o→Ic b o)
 (hb:z=true→∀ i b o,β i=some b→Ic b o) (dV:rl P z s r fn.results.toList) :
 ∃ v o',(results fn a.tmps).run P w=.ok v w∧LR (Wr M w0) Ic β w o' v r∧∀ b,o'=some b→∃ t,ob (.t t)=some b:=by
 unfold rl at dV
 rw[MV,Array.mapM_eq_mapM_toList]
 split at dV
 ·rename_i t OL
  rw[OL]
  cases z with
  |false=>
   simp only[MU,aI,dj] at dV
   refine⟨a.tmps.getD t undef,ob (.t t),by simp[EA],?_,fun b hb=>⟨_,hb⟩⟩
   rw[← dV,hz rfl];exact hst.fr t
  |true=>
   simp only[MU,dn] at dV
   exact⟨a.tmps.getD t undef,none,by simp[EA],.ofDR (Bd hst (hst.fr t) dV td (fun _=>hb rfl)),fun b hb=>by cases hb⟩
 ·rename_i p T OL
  rw[OL]
  obtain⟨x,u,hx,hZ,bH⟩:=tD (x:=s.fr p) hst dV (hst.fr p)
  have anr:(EA a (.cell p T)).run P w=.ok u w:=by
   unfold Instr.loadAt at bH
   show(do loadVar T (← asAddr (a.tmps.getD p undef)):Sem Value).run P w=.ok u w
   generalize a.tmps.getD p undef=pv at bH ⊢
   cases pv<;>first | (simp[Instr.sureAddr,stuck,Sem.run] at bH;done) | skip
   rename_i ad
   cases ad with
   |none=>simp[Instr.sureAddr,stuck,Sem.run] at bH
   |some ad=>simpa[Instr.sureAddr,asAddr] using bH
  refine⟨u,none,by simp[fe,anr],?_,fun b hb=>by cases hb⟩
  cases z with
  |false=>
   simp only[MU,aI,dj] at hx
   subst hx;rw[hz rfl];exact hZ
  |true=>
   simp only[MU,dn] at hx
   exact .ofDR (Bd hst hZ hx td (fun _=>hb rfl))
 ·rename_i n1 n2
  obtain⟨ds,rfl,hl,en⟩:=dV
  obtain⟨vs',h1,h2,h3⟩:=zQ hst hz td hb fn.results.toList ds hl en
  have gK:vs'.length≠1:=fun h=>by
   have:fn.results.toList.length=1:=by omega
   obtain⟨R,hR⟩:=gz.1 this
   cases R with
   |tmp t=>exact n1 t hR
   |cell p T=>exact n2 p T hR
  refine⟨.tuple vs'.toArray,none,?_,?_,fun b hb=>by cases hb⟩
  ·simp[h3,gK]
  ·simp only[LR]
   refine .tup _ _ (by simpa using h1) fun j d hd=>?_
   have h4:=h2 j d hd
   have h5:=aV.1 ov d (aT hd)
   have e1:vs'.toArray.getD j undef=vs'.getD j undef:=by simp[List.getD]
   rw[e1]
   cases d<;>simp only[V.comp] at h5<;>try cases h5
   all_goals simp only[LR] at h4;exact h4
theorem Vf {f:FuncId} {k0:Nat} {fn:Func} {c:Code} {args:List V} {r:V} (z:Bool) (tr:List Nat) (hm:P.follows .mixedOrders=true) (hf:P.funcs[f]?=some fn) (hb:fn.body=some c) (np:(fn.name== "runtime.NumGoroutine")=false)
 (hn:args.length≤fn.ntmps) (vG:cok fn.ntmps tr c=true)
 (hr:r.out=true) (ov:r.compT=true)
 (h:gZ P G tr k0 c (fun e s=>(match e with | .exit _=>False | _=>True)∧rl P z s r fn.results.toList) (zP args)):FnOK P G f args r:=by
 refine⟨⟨fn,hf,np,c,hb⟩,fun I w vs hI hg fC ha=>?_⟩
 have jG:fn.ntmps=(vs++Array.replicate (fn.ntmps - vs.size) undef).size:=by simp;omega
 have hst:=St.init (n:=fn.ntmps) hI hg fC ha jG
 refine pE.1 (callsIn_of_wp_marks (F:=FW none) (n:=0) hf hb trivial (mT (l:=none) hm (fun _ _ h=>by cases h) (.inl rfl) c vG _ _ (fun e s a w' hq dB=>?_) _ _ _ h (.of ⟨_,_,_,hst⟩)))
 obtain⟨hex,dV⟩:=hq
 have zq:∀ b,Wr ⟨fun _=>False,fun _=>none,[]⟩ w b→w.heap.size≤b:=fun b hb=>by rcases hb with hb | hb;exact hb;exact hb.elim
 have main:LeavesInM (FW none) 0 P fn a.tmps (fun e w'=>∃ v' I'',e=.returned v'∧World.grt (GT G) w w' none∧(∀ b o,I b o→I'' b o)∧
  (∀ b o,I'' b o→I b o∨(w.heap.size≤b∧b<w'.heap.size))∧ak2 (fun b=>w.heap.size≤b) I'' w' v' r) a.defers .returning w':=by
  refine dB.leaves rfl fun w' I' β ob cy=>?_
  obtain⟨v,o',h1,h2,h3⟩:=wA (P:=P) (fn:=fn) cy ov (Ic:=fun b o=>I' b o∨(z=true∧∃ i,β i=some b)) (fun hz=>by subst hz;simp) (fun _ _ h=>.inl h) (fun hz i b o hi=>.inr ⟨hz,i,hi⟩) dV
  refine⟨v,h1,v,(fun b o=>I' b o∨(z=true∧∃ i,β i=some b)),rfl,⟨cy.below.os,cy.below.tape,cy.below.output,cy.below.size,fun k hk _=>cy.below.block k hk (fun e=>e.elim),cy.below.drawn⟩,fun b o h=>.inl (cy.ilow b o h),fun b o FH=>?_,o',?_,fun b hb=>?_⟩
  ·rcases FH with FH | ⟨_,i,hi⟩
   ·rcases cy.ihigh b o FH with h4 | h4
    ·exact .inl h4
    ·exact .inr ⟨zq b h4,cy.ibnd b o FH⟩
   ·obtain⟨_,h5,h6⟩:=cy.boxblk hi
    exact .inr ⟨zq b h5,h6⟩
  ·have oJ:=h2.leave hr (β':=fun _=>none)
   have e:Wr ⟨fun _=>False,fun _=>none,[]⟩ w=fun b=>w.heap.size≤b:=by funext b;simp[Wr]
   rw[e] at oJ
   exact oJ
  ·obtain⟨L,hL⟩:=h3 b hb
   obtain⟨h4,h5⟩:=cy.obnd _ b hL
   exact⟨zq b h5,h4⟩
 cases e with
 |normal=>exact main
 |exit i=>exact hex.elim
 |ret=>exact main
theorem aaZ {f:FuncId} {fn:Func} {c:Code} {args:List V} {r:V} (z:Bool) (tr:List Nat) (hm:P.follows .mixedOrders=true) (hf:P.funcs[f]?=some fn) (hb:fn.body=some c) (np:(fn.name== "runtime.NumGoroutine")=false)
 (hn:args.length≤fn.ntmps) (vG:cok fn.ntmps tr c=true)
 (hr:r.out=true) (ov:r.compT=true)
 (h:vwp P G tr c (fun e s=>(match e with | .exit _=>False | _=>True)∧rl P z s r fn.results.toList) (zP args)):FnOK P G f args r:=Vf z tr hm hf hb np hn vG hr ov h
