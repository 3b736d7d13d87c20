/- Values without memory: a loop over a function: its record, and what it leaves behind for the end of the function. -/
import Derived.Test.YtegbpjodbjhjeaaGreatDoorVlDraw
import Derived.Test.YtegbpjodbjhjeaaGreatDoorVlCode
import Derived.Scope
set_option linter.all false
namespace Go.Vl
open Go Go.RowKit
section
variable {P:Program} {G:Gl} {tr:List Nat} {n:Nat} {I0:Ft} {M:Mx} {w0:World} {I:Ft} {β:Nat→Option Nat} {ob:Loc→Option Nat} {s:S} {a:Act} {w:World} {o:Oper}
 {Q:Exit→Act→World→Prop} {base:Nat→Prop} {v:Value} {x y:V}
theorem St.split (h:St G n I0 M w0 I β ob s a w) {b k q:Nat} {E:Option (TypeId×Nat)} {es:List (List C)} (hb:b<s.nb) (hk:(s.bx b)[k]?=some (.ow E es)) (hq:q<n):∃ v,SE G n I0 M w0 (s.split b k q v E es) a w:=by
 obtain⟨blk,cur,e1,e2,e3,e4,e5,e7⟩:=h.bx b hb
 have qF:k<(s.bx b).length:=(ak.1 hk).1
 have d5:(s.bx b).getD k .un=.ow E es:=by simp[List.getD,hk]
 have pw:=e5 k
 rw[d5] at pw
 simp only[LR] at pw
 have Mg:∃ x y z,cur.getD k undef=.slice x y z:=by
  rcases pw.1.sl_inv with⟨⟨x,y,h1,_⟩,_⟩ | ⟨x,y,z,_,_,h1,_⟩
  ·exact⟨_,_,_,h1⟩
  ·exact⟨_,_,_,h1⟩
 obtain⟨x,y,z,Mg⟩:=Mg
 have O5:CR I w (cur.getD k undef) (.ex (cur.getD k undef)):=by rw[Mg];exact .ex _ rfl rfl
 have ey:∀ L c,upL ob (.b b k) none L=some c→L≠.b b k∧ob L=some c:=fun L c hL=>by
  simp only[upL] at hL
  split at hL
  ·cases hL
  ·rename_i gv;exact⟨gv,hL⟩
 have h1:St G n I0 M w0 I β (upL ob (.b b k) none) { s with bx:=up s.bx b ((s.bx b).set k (.c (.ex (cur.getD k undef)))) } a w:={
  size:=h.size,defers:=h.defers,below:=h.below,ilow:=h.ilow,kept:=h.kept,ihigh:=h.ihigh,ibnd:=h.ibnd
  fr:=fun t=>by
   have:=h.fr t
   have e:upL ob (.b b k) none (.t t)=ob (.t t):=by simp[upL]
   rw[e];exact this
  bx:=fun i hi=>by
   by_cases sR:i=b
   ·subst sR
    refine⟨blk,cur,e1,e2,?_,by simp only[cn,iC];exact e4,fun j=>?_,e7⟩
    ·simp only[cn]
     refine e3.congr (by simp) ?_
     unfold nI
     by_cases sS:k=0
     ·subst sS
      have:((s.bx i).set 0 (.c (.ex (cur.getD 0 undef)))).getD 0 .un=.c (.ex (cur.getD 0 undef)):=by simp[List.getD,qF]
      rw[this,d5]
     ·have:((s.bx i).set k (.c (.ex (cur.getD k undef)))).getD 0 .un=(s.bx i).getD 0 .un:=by simp[List.getD,dj sS]
      rw[this]
    ·simp only[cn]
     by_cases hjk:j=k
     ·subst hjk
      have:((s.bx i).set j (.c (.ex (cur.getD j undef)))).getD j .un=.c (.ex (cur.getD j undef)):=by simp[List.getD,qF]
      rw[this]
      have e:upL ob (.b i j) none (.b i j)=none:=by simp[upL]
      rw[e];exact .ofC O5
     ·have:((s.bx i).set k (.c (.ex (cur.getD k undef)))).getD j .un=(s.bx i).getD j .un:=by simp[List.getD,dj (fM hjk)]
      rw[this]
      have e:upL ob (.b i k) none (.b i j)=ob (.b i j):=by simp[upL,hjk]
      rw[e];exact e5 j
   ·obtain⟨qC,cur',q1,q2,q3,q4,q5,q7⟩:=h.bx i hi
    refine⟨qC,cur',q1,q2,by simp only[cZ _ _ sR];exact q3,by simp only[cZ _ _ sR];exact q4,fun j=>?_,q7⟩
    simp only[cZ _ _ sR]
    have e:upL ob (.b b k) none (.b i j)=ob (.b i j):=by simp[upL,sR]
    rw[e];exact q5 j
  bnone:=h.bnone,ext:=h.ext,bnew:=h.bnew,binj:=h.binj
  oinj:=fun L L' c q1 q2=>h.oinj L L' c (ey L c q1).2 (ey L' c q2).2
  obx:=fun L c i q1=>h.obx L c i (ey L c q1).2
  obnd:=fun L c q1=>h.obnd L c (ey L c q1).2
  glob:=h.glob }
 have h2:=h1.put q hq (v:=a.tmps.getD q undef) (x:=.gh (cur.getD k undef) E es) (o:=ob (.b b k)) (by simp only[LR];exact pw) (fun c hc=>by
  refine⟨h.obnd _ c hc,fun L hL=>?_,fun i=>h.obx _ c i hc⟩
  simp only[upL] at hL
  split at hL
  ·cases hL
  ·split at hL
   ·cases hL
   ·rename_i q1 q2;exact q2 (h.oinj _ _ c hL hc))
 rw[lE (by rw[h.size];exact hq)] at h2
 exact⟨_,_,_,_,h2⟩
theorem acP {I:Ft} {w:World} {v u:Value} (h:DR I w v (.c (.ex u))):v=u:=by
 cases h with
 |c _ _ h=>exact h.ex_inv
theorem ou {ops:Array Oper} {K:S→Prop} (dI:jJ n ops=true) (h:GsK ops K s) (cw:SE G n I0 M w0 s a w):∃ s',K s'∧SE G n I0 M w0 s' a w:=by
 have XM:∀ {ob:Loc→Option Nat} {β:Nat→Option Nat} {I:Ft} {s:S} (hst:St G n I0 M w0 I β ob s a w) {L0:Loc} {blk:Nat},ob L0=some blk→∀ L,upL ob L0 none L≠some blk:=fun hst L0 blk h0 L hL=>by
  simp only[upL] at hL
  split at hL
  ·cases hL
  ·rename_i gv;exact gv (hst.oinj _ _ blk hL h0)
 induction h with
 |done h=>exact⟨_,h,cw⟩
 |warm b k hb hk _ ih=>
  obtain⟨I,β,ob,hst⟩:=cw
  refine ih (hst.reword hb hk rfl rfl fun cur hx=>?_)
  have ET:OwnR (Wr M w0) I w none [] (ob (.b b k)) (cur.getD k undef):=hx
  rcases ET.2 with⟨h1,_,a,h2⟩ | ⟨_,_,_,_,_,_,h2,_⟩
  ·exact⟨(fun _ h=>by cases h),.inl ⟨h1,rfl,rfl,a,h2⟩⟩
  ·cases h2
 |@warmT s t ht _ ih=>
  obtain⟨I,β,ob,hst⟩:=cw
  have hx:=hst.fr t
  rw[ht] at hx
  have ET:OwnR (Wr M w0) I w none [] (ob (.t t)) (a.tmps.getD t undef):=hx
  obtain⟨av,hv⟩:∃ av,a.tmps.getD t undef=.slice av 0 0:=by
   rcases ET.2 with⟨_,_,av,h2⟩ | ⟨_,_,_,_,_,_,h2,_⟩
   ·exact⟨av,h2⟩
   ·cases h2
  have uV:t<n:=by
   rcases cN t n with h' | h'
   ·exact h'
   ·exfalso
    have e0:a.tmps.getD t undef=undef:=by rw[ao,cV (by rw[hst.size];exact h')];rfl
    rw[e0] at hv
    simp[undef] at hv
  have cw:=hst.put t uV (v:=a.tmps.getD t undef) (x:=.gs none none []) (o:=none) (by simp only[LR];exact⟨fun _ h=>(by cases h),.inl ⟨rfl,rfl,rfl,av,hv⟩⟩) FreeOb.nothing
  rw[lE (by rw[hst.size];exact uV)] at cw
  exact ih ⟨_,_,_,cw⟩
 |warmX b k hb hk _ ih=>
  obtain⟨I,β,ob,hst⟩:=cw
  refine ih ⟨_,_,_,hst.reown hb hk rfl rfl (.inl rfl) fun cur hx=>?_⟩
  simp only[LR] at hx ⊢
  exact⟨(fun _ h=>by cases h),.inl ⟨rfl,rfl,rfl,none,acP hx⟩⟩
 |name b k hb iZ hk _ ih=>
  obtain⟨I,β,ob,hst⟩:=cw
  obtain⟨blk,cur,h1,h2,h3,h4⟩:=hst.gsCell hb iZ hk
  exact ih _ h4.gsV ⟨_,_,_,hst.reownAt hb iZ h1 h2 hk rfl (.inr rfl) ⟨fun u e=>by cases e;rfl,h4⟩⟩
 |unname b k hb hk _ ih=>
  obtain⟨I,β,ob,hst⟩:=cw
  exact ih (hst.reword hb hk rfl rfl fun cur hx=>⟨(fun _ h=>by cases h),hx.gsO.2⟩)
 |split b k q hb iZ hk hq _ ih=>
  obtain⟨I,β,ob,hst⟩:=cw
  obtain⟨blk,cur,h1,h2,h3,h4⟩:=hst.gsCell hb iZ hk
  rw[dp] at hq
  obtain⟨o,ho,hoq⟩:=hq
  have hqn:=eQ dI ho q (by simpa using hoq)
  have g1:=hst.reownAt (x':=.c (.ex (cur.getD k undef))) (o':=none) hb iZ h1 h2 hk rfl (.inl rfl) (.ofC h4.exact)
  have g2:=g1.put q hqn (v:=a.tmps.getD q undef) (x:=.gg (cur.getD k undef) _ _) (o:=ob (.b b k)) (by simp only[LR];exact h4) (fun c hc=>by
   refine⟨hst.obnd _ c hc,fun L hL=>?_,fun i=>hst.obx _ c i hc⟩
   simp only[upL] at hL
   split at hL
   ·cases hL
   ·split at hL
    ·cases hL
    ·rename_i q1 q2;exact q2 (hst.oinj _ _ c hL hc))
  rw[lE (by rw[hst.size];exact hqn)] at g2
  exact ih _ (fun u hu=>(h3 u hu).symm) h4.gsV ⟨_,_,_,g2⟩
 |@box s b k g e sz es hb iZ hk _ ih=>
  obtain⟨I,β,ob,hst⟩:=cw
  obtain⟨blk,cur,h1,h2,h3,h4⟩:=hst.gsCell hb iZ hk
  rcases h4 with⟨_,hE,_⟩ | ⟨e',blk2,cap,row,sz',r1,r2,r3,r4,r5,r6,r7,r8,r9,r10,r11,r12⟩
  ·cases hE
  cases r2
  have qF:k<(s.bx b).length:=(ak.1 hk).1
  have g1:=hst.reownAt (x':=.un) (o':=none) hb iZ h1 h2 hk rfl (.inl rfl) (by simp only[LR];exact .un _)
  have mK:=bz es r9
  have fx:=aP sz r6
  have g2:=g1.adopt (T:=.of e) (cs:=es.flatten) r4 r5 RT.of_ok r11 (by omega) r10 (XM hst r1) (fun i=>hst.obx _ _ i r1) r12
  have hbn:b≠s.nb:=by omega
  have Us:cX ((s.bx b).set k .un)=false:=by
   unfold cX at iZ ⊢
   by_cases sS:k=0
   ·subst sS
    have:((s.bx b).set 0 .un).getD 0 .un=.un:=by simp[List.getD,qF]
    rw[this];rfl
   ·have:((s.bx b).set k .un).getD 0 .un=(s.bx b).getD 0 .un:=by simp[List.getD,dj sS]
    rw[this];exact iZ
  have E4:({ fr:=s.fr,bx:=up (up s.bx b ((s.bx b).set k .un)) s.nb (es.flatten.map .c),nb:=s.nb+1 }:S).bx b=(s.bx b).set k .un:=by
   show up (up s.bx b _) s.nb _ b=_
   rw[cZ _ _ hbn,cn]
  have H4:up β s.nb (some blk2) b=some blk:=by rw[cZ _ _ hbn];exact h1
  have g3:=g2.reownAt (b:=b) (k:=k) (blk:=blk) (cur:=cur) (x:=.un) (x':=.ms s.nb 0 es.length es.length sz) (o':=none) (by show b<s.nb+1;omega) (by rw[E4];exact Us) H4 (by
   rw[E4]
   refine h2.congr (by simp) ?_
   rw[hZ iZ,hZ Us]) (by rw[E4];simp[qF]) rfl (.inl rfl) (by
   simp only[LR]
   exact⟨ae _,blk2,0,cap,r6,cn _ _ _,.inr rfl,r3⟩)
  rw[E4] at g3
  have uX:({ fr:=s.fr,bx:=up (up (up s.bx b ((s.bx b).set k .un)) s.nb (es.flatten.map .c)) b (((s.bx b).set k .un).set k (.ms s.nb 0 es.length es.length sz)),nb:=s.nb+1 }:S)=
   ⟨s.fr,up (up s.bx b ((s.bx b).set k (.ms s.nb 0 es.length es.length sz))) s.nb (es.flatten.map .c),s.nb+1⟩:=by
   congr 1
   rw[List.set_set]
   funext i
   simp only[up]
   by_cases hi:i=b
   ·subst hi;simp[hbn]
   ·simp[hi]
  have g4:SE G n I0 M w0 _ a w:=⟨_,_,_,g3⟩
  exact ih (by rw[← uX];exact g4)
 |@boxT s t g e sz es ht _ ih=>
  obtain⟨I,β,ob,hst⟩:=cw
  have hx:=hst.fr t
  rw[ht] at hx
  rcases hx.gsO.2 with⟨_,hE,_⟩ | ⟨e',blk2,cap,row,sz',r1,r2,r3,r4,r5,r6,r7,r8,r9,r10,r11,r12⟩
  ·cases hE
  cases r2
  have uV:t<n:=by
   rcases cN t n with h' | h'
   ·exact h'
   ·exfalso
    have e0:a.tmps.getD t undef=undef:=by rw[ao,cV (by rw[hst.size];exact h')];rfl
    rw[e0] at r3;simp[undef] at r3
  have mK:=bz es r9
  have fx:=aP sz r6
  have g2:=(hst.clr t).adopt (T:=.of e) (cs:=es.flatten) r4 r5 RT.of_ok r11 (by omega) r10 (XM hst r1) (fun i=>hst.obx _ _ i r1) r12
  have g3:=g2.put t uV (v:=a.tmps.getD t undef) (x:=.ms s.nb 0 es.length es.length sz) (o:=none) (by
   simp only[LR]
   exact⟨ae _,blk2,0,cap,r6,cn _ _ _,.inr rfl,r3⟩) FreeOb.nothing
  rw[lE (by rw[hst.size];exact uV)] at g3
  have uX:(({ s.clr t with bx:=up s.bx s.nb (es.flatten.map .c),nb:=s.nb+1 }:S).put (some t) (.ms s.nb 0 es.length es.length sz))=⟨up s.fr t (.ms s.nb 0 es.length es.length sz),up s.bx s.nb (es.flatten.map .c),s.nb+1⟩:=by
   simp only[S.put,S.clr]
   congr 1
   funext r
   simp only[up]
   split<;>rfl
  have g4:SE G n I0 M w0 _ a w:=⟨_,_,_,g3⟩
  exact ih (by rw[← uX];exact g4)
 |@cool s b k g E es hb hk _ ih=>
  obtain⟨I,β,ob,hst⟩:=cw
  cases j4:ob (.b b k) with
  |none=>
   refine ih (hst.reword hb hk rfl rfl fun cur hx=>?_)
   rcases hx.gsO.2 with⟨h1,h2,h3,a,h4⟩ | ⟨_,_,_,_,_,h1,_⟩
   ·subst h2;subst h3
    rw[h4]
    exact⟨.nil a 0 (fun _=>rfl),.inl ⟨h1,rfl,a,rfl⟩⟩
   ·rw[j4] at h1;cases h1
  |some blk=>
   obtain⟨b1,cur,e1,e2,e3,e4,e5,e7⟩:=hst.bx b hb
   have h5:=e5 k
   have sO:(s.bx b).getD k .un=.gs g E es:=by simp[List.getD,hk]
   rw[sO,j4] at h5
   obtain⟨I',i1,i2,i3⟩:=h5.gsO.2.cool
   refine ih ⟨I',β,ob,hst.recell hb hk rfl rfl j4 (vl w _) (fun _ _=>rfl) i1 (fun b o h=>(i2 b o h).imp_right fun h=>by cases h;rfl) fun b2 cur2 f1 f2 f3=>?_⟩
   rcases f3.gsO.2 with⟨h1,_⟩ | ⟨e,qC,cap,row,sz,r1,r2,r3,r4,r5,r6,r7,r8,r9,r10,r11,r12⟩
   ·cases h1
   ·obtain⟨j1,j2⟩:=i3
    rcases j2 with⟨h1,_⟩ | ⟨_,_,_,_,_,q1,q2,q3,q4,q5,q6,q7,q8,q9,q10⟩
    ·cases h1
    ·cases r1;cases q1
     rw[r2] at q2;cases q2
     rw[r5] at q5
     simp only[am,Obj.cells.injEq,fY] at q5
     subst q5
     have Bn:CR I' w (cur2.getD k undef) (.sl es):=by
      rw[r3];rw[q3] at j1
      have jL:∀ c1 c2:Nat,es.length≤c2→CR I' w (.slice (some ⟨blk,0,none⟩) es.length c1) (.sl es)→CR I' w (.slice (some ⟨blk,0,none⟩) es.length c2) (.sl es):=fun c1 c2 hc h=>by
       rcases h.sl_inv with⟨⟨_,_,h1,_⟩,h2⟩ | ⟨b',off,cap',sz',f,hv,a1,a2,a3,a4⟩
       ·subst h2;exact .nil _ _ (fun h=>by cases h)
       ·simp only[eD,am,iT,fY,fZ] at hv
        obtain⟨⟨rfl,rfl⟩,rfl⟩:=hv
        exact .sl _ _ _ _ _ f hc a2 a3 a4
      exact jL _ _ r6 j1
     exact⟨Bn,.inr ⟨e,blk,cap,row,sz,rfl,r2,r3,r4,r5,r6,r7,r8,r9,q10⟩⟩
 |@splitB s t b k g E es x ht hb iZ hk _ ih=>
  obtain⟨I,β,ob,hst⟩:=cw
  have hx:=hst.fr t
  rw[ht] at hx
  obtain⟨hg,pw⟩:=hx.gsO
  have uV:t<n:=by
   rcases cN t n with h' | h'
   ·exact h'
   ·exfalso
    have e0:a.tmps.getD t undef=undef:=by rw[ao,cV (by rw[hst.size];exact h')];rfl
    rw[e0] at pw
    rcases pw with⟨_,_,_,_,h1⟩ | ⟨_,_,_,_,_,_,_,h1,_⟩<;>simp[undef] at h1
  obtain⟨blk,cur,hβ,h2,h3⟩:∃ blk cur,β b=some blk∧HB w blk cur (s.bx b)∧True:=by
   obtain⟨b1,cur,e1,e2,e3,_⟩:=hst.bx b hb
   exact⟨b1,cur,e1,e3,trivial⟩
  have qF:k<(s.bx b).length:=(ak.1 hk).1
  have g1:=(hst.clr t).reownAt (b:=b) (k:=k) (x':=.un) (o':=none) hb iZ hβ h2 hk rfl (.inl rfl) (by simp only[LR];exact .un _)
  have g2:=g1.put t uV (v:=a.tmps.getD t undef) (x:=.c (.ex (a.tmps.getD t undef))) (o:=none) (.ofC pw.exact) FreeOb.nothing
  rw[lE (by rw[hst.size];exact uV)] at g2
  have Us:cX ((s.bx b).set k .un)=false:=by
   unfold cX at iZ ⊢
   by_cases sS:k=0
   ·subst sS
    have:((s.bx b).set 0 .un).getD 0 .un=.un:=by simp[List.getD,qF]
    rw[this];rfl
   ·have:((s.bx b).set k .un).getD 0 .un=(s.bx b).getD 0 .un:=by simp[List.getD,dj sS]
    rw[this];exact iZ
  have E4:(({ s.clr t with bx:=up (s.clr t).bx b (((s.clr t).bx b).set k .un) }:S).put (some t) (.c (.ex (a.tmps.getD t undef)))).bx b=(s.bx b).set k .un:=by
   show up s.bx b ((s.bx b).set k .un) b=_
   rw[cn]
  have g3:=g2.giveCell (b:=b) (k:=k) (blk:=blk) (cur:=cur) (x':=.gg (a.tmps.getD t undef) E es) (o':=ob (.t t)) hb (by rw[E4];exact Us) hβ (by
   rw[E4]
   refine h2.congr (by simp) ?_
   rw[hZ iZ,hZ Us]) (by rw[E4];simpa using qF) rfl (fun c hc=>by
   refine⟨hst.obnd _ c hc,fun L hL=>?_,fun i=>hst.obx _ c i hc⟩
   simp only[upL] at hL
   repeat' (split at hL)
   all_goals first
    |(cases hL;done)
    |(exact ‹¬ L=Loc.t t› (hst.oinj _ _ c hL hc))) (by simp only[LR];exact pw)
  rw[E4] at g3
  have g4:SE G n I0 M w0 ⟨up s.fr t (.c (.ex (a.tmps.getD t undef))),up s.bx b ((s.bx b).set k (.gg (a.tmps.getD t undef) E es)),s.nb⟩ a w:=by
   have g5:SE G n I0 M w0 _ a w:=⟨_,_,_,g3⟩
   have e1:∀ s1 s2:S,s1=s2→SE G n I0 M w0 s1 a w→SE G n I0 M w0 s2 a w:=fun s1 s2 e h=>e▸h
   refine e1 _ _ ?_ g5
   simp only[S.put,S.clr,List.set_set]
   congr 1
   ·funext r;simp only[up];split<;>rfl
   ·funext r;simp only[up];split<;>rfl
  exact ih _ (fun u hu=>(hg u hu).symm) pw.gsV g4
 |@join s b k b' k' v E es hb iZ hk AS hmb' gv Mn _ ih=>
  obtain⟨I,β,ob,hst⟩:=cw
  obtain⟨b1,cur1,e1,e2,e3,e4,e5,e7⟩:=hst.bx b hb
  have hv:=e5 k
  have sO:(s.bx b).getD k .un=.c (.ex v):=by simp[List.getD,hk]
  rw[sO] at hv
  have hv:=hv.toC.ex_inv
  obtain⟨b2,cur2,f1,f2,f3,f4,f5,f7⟩:=hst.bx b' AS
  have pw:=f5 k'
  have aeI:(s.bx b').getD k' .un=.gg v E es:=by simp[List.getD,Mn]
  rw[aeI] at pw
  have pw:OwnG (Wr M w0) I w E es (ob (.b b' k')) v:=pw
  have g1:=hst.reownAt (b:=b') (k:=k') (x':=.un) (o':=none) AS hmb' f1 f3 Mn rfl (.inl rfl) (by simp only[LR];exact .un _)
  have O8:({ s with bx:=up s.bx b' ((s.bx b').set k' .un) }:S).bx b=s.bx b:=cZ _ _ gv
  have g2:=g1.giveCell (b:=b) (k:=k) (blk:=b1) (cur:=cur1) (x':=.gs (some v) E es) (o':=ob (.b b' k')) hb (by rw[O8];exact iZ) e1 (by rw[O8];exact e3) (by rw[O8];exact(ak.1 hk).1) rfl (fun c hc=>by
   refine⟨hst.obnd _ c hc,fun L hL=>?_,fun i=>hst.obx _ c i hc⟩
   simp only[upL] at hL
   split at hL
   ·cases hL
   ·rename_i q1;exact q1 (hst.oinj _ _ c hL hc)) (by rw[hv];exact⟨fun u hu=>by cases hu;rfl,pw⟩)
  rw[O8] at g2
  exact ih ⟨_,_,_,g2⟩
 |@coolT s t g E es ht _ ih=>
  obtain⟨I,β,ob,hst⟩:=cw
  have hx:=hst.fr t
  rw[ht] at hx
  have pw:=hx.gsO.2
  have uV:t<n:=by
   rcases cN t n with h' | h'
   ·exact h'
   ·exfalso
    have e0:a.tmps.getD t undef=undef:=by rw[ao,cV (by rw[hst.size];exact h')];rfl
    rw[e0] at pw
    rcases pw with⟨_,_,_,_,h1⟩ | ⟨_,_,_,_,_,_,_,h1,_⟩<;>simp[undef] at h1
  obtain⟨I',i1,i2,i3⟩:=pw.cool
  have uX:((s.clr t).put (some t) (.ow E es))=⟨up s.fr t (.ow E es),s.bx,s.nb⟩:=by
   simp only[S.put,S.clr]
   congr 1
   funext r
   simp only[up]
   split<;>rfl
  cases j4:ob (.t t) with
  |none=>
   have hII:∀ b k,I' b k→I b k:=fun b k h=>by
    rcases i2 b k h with h | h
    ·exact h
    ·rw[j4] at h;cases h
   have g3:=(hst.clr t).put t uV (v:=a.tmps.getD t undef) (x:=.ow E es) (o:=none) (by
    simp only[LR]
    rw[j4] at i3
    exact i3.mono (fun b o h=>⟨hII b o h,rfl⟩) (fun b h=>by cases h)) FreeOb.nothing
   rw[lE (by rw[hst.size];exact uV),uX] at g3
   exact ih ⟨_,_,_,g3⟩
  |some blk=>
   obtain⟨k1,k2⟩:=hst.obnd _ _ j4
   have g2:=(hst.clr t).growRow (w':=w) (r:=blk) (vl w _) k2 (fun _ _=>rfl) (XM hst j4) (fun i=>hst.obx _ _ i j4) i1 (fun b o h=>(i2 b o h).imp_right fun h=>by rw[j4] at h;cases h;rfl) k1
   have g3:=g2.put t uV (v:=a.tmps.getD t undef) (x:=.ow E es) (o:=some blk) (by simp only[LR];rw[j4] at i3;exact i3) (fun c hc=>by
    cases hc
    refine⟨⟨k1,k2⟩,fun L hL=>XM hst j4 L ?_,fun i=>hst.obx _ _ i j4⟩
    simp only[upL] at hL ⊢
    split at hL
    ·cases hL
    ·first
     |exact hL
     |(rw[if_neg ‹_›];exact hL))
   rw[lE (by rw[hst.size];exact uV),uX] at g3
   exact ih ⟨_,_,_,g3⟩
 |@joinT s b k t blk len m cap e sz es hb iZ hk ht fx _ ih=>
  obtain⟨I,β,ob,hst⟩:=cw
  obtain⟨b1,cur1,e1,e2,e3,e4,e5,e7⟩:=hst.bx b hb
  have hv:=e5 k
  have sO:(s.bx b).getD k .un=.c (.ex (.slice (some ⟨blk,0,none⟩) m cap)):=by simp[List.getD,hk]
  rw[sO] at hv
  have hv:=hv.toC.ex_inv
  have hx:=hst.fr t
  rw[ht] at hx
  have pw:OwnG (Wr M w0) I w (some (e,sz)) es (ob (.t t)) (.slice (some ⟨blk,0,none⟩) len cap):=hx
  rcases pw with⟨_,hE,_⟩ | ⟨e',blk2,cap2,row,sz',r1,r2,r3,r4,r5,r6,r7,r8,r9,r10,r11,r12⟩
  ·cases hE
  cases r2
  simp only[eD,am,iT,fY] at r3
  obtain⟨rfl,rfl,rfl⟩:=r3
  have Ie:(es.take m).length=m:=by rw[aZ];omega
  have ab7:OwnG (Wr M w0) I w (some (e,sz)) (es.take m) (ob (.t t)) (.slice (some ⟨blk,0,none⟩) m cap):=by
   refine .inr ⟨e,blk,cap,row,sz,r1,rfl,by rw[Ie],r4,r5,by omega,r7,r8,fun x hx=>r9 x (cz hx),fun j c hj=>?_,r11,r12⟩
   refine r10 j c ?_
   have hp:(es.take m).flatten <+: es.flatten:=by
    conv=>rhs;rw[← dS m es,dW]
    exact List.prefix_append _ _
   obtain⟨u,hu⟩:=hp
   rw[← hu,aC (ak.1 hj).1];exact hj
  have g1:=hst.clr t
  have g2:=g1.giveCell (b:=b) (k:=k) (blk:=b1) (cur:=cur1) (x':=.gs (some (.slice (some ⟨blk,0,none⟩) m cap)) (some (e,sz)) (es.take m)) (o':=ob (.t t)) hb iZ e1 e3 (ak.1 hk).1 rfl (fun c hc=>by
   refine⟨hst.obnd _ c hc,fun L hL=>?_,fun i=>hst.obx _ c i hc⟩
   simp only[upL] at hL
   split at hL
   ·cases hL
   ·rename_i q1;exact q1 (hst.oinj _ _ c hL hc)) (by rw[hv];exact⟨fun u hu=>by cases hu;rfl,ab7⟩)
  exact ih ⟨_,_,_,g2⟩
theorem BK {id:Nat} {ops:Array Oper} {K:S→Prop} (dI:jJ n ops=true) (h:spl tr id ops s K) (cw:SE G n I0 M w0 s a w):∃ s',K s'∧SE G n I0 M w0 s' a w:=by
 unfold spl at h
 split at h
 ·obtain⟨I,β,ob,hst⟩:=cw
  rcases h with⟨b,k,q,E,es,⟨h1,h2,h3⟩,h⟩ | ⟨b,k,g,E,es,⟨h1,h2⟩,h⟩ | ⟨b,k,g,E,es,⟨h1,h2,h3⟩,h⟩ | h
  ·rw[dp] at h3
   obtain⟨o,ho,hq⟩:=h3
   obtain⟨v,hv⟩:=hst.split h1 h2 (eQ dI ho q (by simpa using hq))
   exact⟨_,h v,hv⟩
  ·exact⟨_,h,hst.cool h1 h2⟩
  ·obtain⟨blk,cap,hv⟩:=hst.name h1 h3 h2
   exact⟨_,h blk cap,_,_,_,hv⟩
  ·exact ou dI h ⟨_,_,_,hst⟩
 ·exact⟨s,h,cw⟩
theorem xR {ops:Array Oper} {Q:Exit→Act→World→Prop} {K:S→Prop} (dI:jJ n ops=true) (hA:∀ (k:Nat) (o:Oper),ops[k]?=some o→li tr o=false) (hK:∀ a w s,K s→SE G n I0 M w0 s a w→Q .normal a w):∀ (fuel:Nat) (listed:Array Bool) (s:S) (a:Act) (w:World),
 nj P G tr ops K fuel listed s→SE G n I0 M w0 s a w→wpAny P .any ops Q fuel listed a w
 |0,_,_,_,_,h,cw=>by
  obtain⟨s',h1,h2⟩:=ou dI h.2 cw
  exact⟨h.1,hK _ _ _ h1 h2⟩
 |fuel+1,listed,s,a,w,h,cw=>by
  obtain⟨gv,h⟩:=h
  obtain⟨s',h1,h2⟩:=ou dI h cw
  refine⟨fun h0=>absurd h0 gv,fun i hi=>?_⟩
  obtain⟨o,ho,hh⟩:=h1 i hi
  obtain⟨e,he,hK'⟩:=fK (K:=nj P G tr ops K fuel (listed.setIfInBounds i true)) (hA i o ho) hh
  exact KH dI ho he h2 hK' fun a w s hs cw=>xR dI hA hK fuel _ s a w hs cw
def UZ (tr:List Nat) (id:Nat) (ops:Array Oper):Bool:=ops.toList.all (fun o=>!li tr o)&&decide (apN tr id ops≤ops.size)&&decide (kq tr ops (List.range (apN tr id ops)) (Array.replicate ops.size false)=some (n0 (apN tr id ops) ops.size))&&vC ops (apN tr id ops)
theorem A9 {id:Nat} {ops:Array Oper} {Q:Exit→Act→World→Prop} {K:S→Prop} (dI:jJ n ops=true) (uo:UZ tr id ops=true) (hK:∀ a w s,K s→SE G n I0 M w0 s a w→Q .normal a w)
 (UI:CW tr id=false) (h:vpa P G tr id ops K s) (cw:SE G n I0 M w0 s a w):wpAny P .any ops Q ops.size (Array.replicate ops.size false) a { w with drawn:=w.drawn+1 }:=by
 unfold UZ at uo
 simp only[aG,aW,eb,bi] at uo
 obtain⟨⟨⟨hA,dR⟩,uW⟩,O6⟩:=uo
 have UG:∀ (k:Nat) (o:Oper),ops[k]?=some o→li tr o=false:=fun k o ho=>hA o (by have:=eu ho;simpa using this)
 have m5:SE G n I0 M w0 s a { w with drawn:=w.drawn+1 }:=by
  obtain⟨I,β,ob,hst⟩:=cw
  exact⟨I,β,ob,hst.drew⟩
 unfold vpa at h
 rw[UI] at h
 obtain⟨s',h1,h2⟩:=ou dI h m5
 have H5:jS ops (List.range (apN tr id ops))=ops.toList.take (apN tr id ops):=by
  rw[d6,oS 0 _ (by omega)];rfl
 rw[← H5] at h1
 have h3:=BJ O6 (List.range (apN tr id ops)) (Array.replicate ops.size false) s' (by simp) (fun k hk=>⟨ops[k]'(by have:=cO.1 hk;omega),ay _,UG k _ (ay _)⟩) uW h1
 have h4:=sc (Q:=Q) dI (fun a w s hs cw=>xR dI UG hK _ _ s a w hs cw) _ _ _ _ _ h3 h2
 rw[jx,Nat.sub_add_cancel dR] at h4
 exact h4
theorem DD {ops:Array Oper} {Q:Exit→Act→World→Prop} {l:Option Nat} {m:Nat} {id:Nat} (hm:P.follows .mixedOrders=true) (pA:zm ops=true) (dI:jJ n ops=true) (uo:UZ tr id ops=true) {K:S→Prop} (hK:∀ a w s,K s→SE G n I0 M w0 s a w→Q .normal a w)
 (UI:CW tr id=false) (h:vpa P G tr id ops K s) (cw:SE G n I0 M w0 s a w):(Code.region id ops true).wpIn (FW l) m P Q a w:=
 wpIn_mono (Q:=KI Q) (wpIn_region_any hm (vn pA wX _ _ _ _ (A9 dI uo (fun a w s hk cw=>⟨rfl,hK a w s hk cw⟩) UI h cw))) (fun _ _ _ h=>h.2)
theorem uy {Q:Exit→Act→World→Prop} {l:Option Nat} {m:Nat} {ops:Array Oper} (dI:jJ n ops=true) {K:S→Prop} (hK:∀ a w s,K s→SE G n I0 M w0 s a w→Q .normal a w):∀ (ls:List Oper) (k:Nat),ops.toList.drop k=ls→∀ (s:S) (a:Act) (w:World),
 yr P G tr ops K ls s→SE G n I0 M w0 s a w→wpOpsIn (FW l) m P ops Q (List.range' k ls.length) a w
 |[],k,_,s,a,w,h,cw=>by
  simp only[aK,List.range'_zero,wpOpsIn]
  obtain⟨s',h1,h2⟩:=ou dI h cw
  exact hK _ _ _ h1 h2
 |o::ls,k,hl,s,a,w,h,cw=>by
  have ly:ops[k]?=some o:=by
   have:(ops.toList.drop k)[0]?=some o:=by rw[hl];rfl
   rw[bX] at this
   simpa using this
  have Ia:ops.toList.drop (k+1)=ls:=by
   rw[← fp,hl];rfl
  have jG:o∈ops.toList:=cK (i:=k) (by rw[hl];simp)
  obtain⟨s,h,cw⟩:=ou dI h cw
  obtain⟨I,β,ob,hst⟩:=cw
  simp only[aB,gr,wpOpsIn,ly]
  rcases qP hst h with⟨hw,h⟩ | ⟨hw,h⟩
  ·rw[if_pos hw]
   refine ua (tr:=tr) hst (eQ dI jG) h fun a' w' s' wF m5=>?_
   exact uy dI hK ls (k+1) Ia s' a' w' wF m5
  ·rw[hw]
   simp only[aS,dm]
   exact⟨fun _ _=>trivial,uy dI hK ls (k+1) Ia _ _ w h (SE.put hst (eQ dI jG) (by simp only[LR];exact .sk))⟩
theorem DF {ops:Array Oper} {Q:Exit→Act→World→Prop} {l:Option Nat} {m:Nat} {id:Nat} (dI:jJ n ops=true) {K:S→Prop} (hK:∀ a w s,K s→SE G n I0 M w0 s a w→Q .normal a w)
 (UI:CW tr id=true) (h:vpa P G tr id ops K s) (cw:SE G n I0 M w0 s a w):(Code.region id ops false).wpIn (FW l) m P Q a w:=by
 unfold vpa at h
 rw[if_pos UI] at h
 refine wpIn_region ?_
 have:=uy (Q:=Q) (l:=l) (m:=m) dI hK ops.toList 0 rfl s a w h cw
 rw[d6]
 simpa using this
structure Reb (T:Prop) (I0:Ft) (M:Mx) (w0:World) (I1:Ft) (M1:Mx) (w1:World) (rs:List Nat):Prop where
 bel:BelowM T M w0 w1
 wr:∀ b,Wr M1 w1 b→Wr M w0 b
 il:∀ b o,I0 b o→I1 b o
 kept:∀ b o,I0 b o→w1.cell? ⟨b,o,none⟩=w0.cell? ⟨b,o,none⟩
 ih:∀ b o,I1 b o→I0 b o∨Wr M w0 b
 e:M1.e=M.e
 d:M1.d=rs.map mkD++M.d
 nd:rs.Nodup
 r:∀ r∈rs,¬ Wr M1 w1 r∧Wr M w0 r∧(∀ o,¬ I1 r o)∧w1.heap[r]?=some (Obj.deferred (some []))
theorem Reb.refl:Reb (GT G) I0 M w0 I0 M w0 []:=⟨BelowM.refl _ _,fun _ h=>h,fun _ _ h=>h,fun _ _ _=>rfl,fun _ _ h=>.inl h,rfl,rfl,g8,by simp⟩
variable {I1:Ft} {M1:Mx} {w1:World} {rs:List Nat}
theorem Reb.notWr (h:St G n I1 M1 w1 I β ob s a w) {r:Nat} (hr:¬ Wr M1 w1 r):(∀ L,ob L≠some r)∧(∀ i,β i≠some r)∧r<w1.heap.size∧¬ M1.m r:=by
 refine⟨fun L hL=>hr (h.obnd L r hL).2,fun i hi=>?_,?_,fun hm=>hr (.inr hm)⟩
 ·exact hr (h.boxblk hi).2.1
 ·rcases cN r w1.heap.size with h1 | h1
  ·exact h1
  ·exact absurd (.inl h1) hr
theorem St.back (hr:Reb (GT G) I0 M w0 I1 M1 w1 rs) (h:St G n I1 M1 w1 I β ob s a w):St G n I0 M w0 I β ob s { a with defers:=M.d } w where
 size:=h.size
 defers:=rfl
 below:=⟨h.below.os.trans hr.bel.os,h.below.tape.trans hr.bel.tape,h.below.output.trans hr.bel.output,bY hr.bel.size h.below.size,fun k hk hM=>
  (h.below.block k (bW hk hr.bel.size) (fun h1=>by
   rcases hr.wr k (.inr h1) with h2 | h2
   ·omega
   ·exact hM h2)).trans (hr.bel.block k hk hM),fun t=>bY (hr.bel.drawn t) (h.below.drawn t)⟩
 ilow:=fun b o h0=>h.ilow b o (hr.il b o h0)
 kept:=fun b o h0=>(h.kept b o (hr.il b o h0)).trans (hr.kept b o h0)
 ihigh:=fun b o hb=>by
  rcases h.ihigh b o hb with h1 | h1
  ·exact hr.ih b o h1
  ·exact .inr (hr.wr b h1)
 ibnd:=h.ibnd
 fr:=fun t=>(h.fr t).wider fun b hb=>hr.wr b (h.obnd _ b hb).2
 bx:=fun i hi=>by
  obtain⟨blk,cur,e1,e2,e3,e4,e5,e7⟩:=h.bx i hi
  exact⟨blk,cur,e1,hr.wr blk e2,e3,e4,fun j=>(e5 j).wider fun b hb=>hr.wr b (h.obnd _ b hb).2,e7⟩
 bnone:=h.bnone
 ext:=fun i b he=>h.ext i b (by rw[hr.e];exact he)
 bnew:=fun i b hi=>.inr (hr.wr b (h.boxblk hi).2.1)
 binj:=h.binj
 oinj:=h.oinj
 obx:=h.obx
 obnd:=fun L b hL=>⟨(h.obnd L b hL).1,hr.wr b (h.obnd L b hL).2⟩
 glob:=h.glob
theorem St.rebase (h:St G n I0 M w0 I β ob s a w) {r:Nat} (j4:∀ L,ob L≠some r) (hβ:∀ i,β i≠some r) :
 St G n I ⟨fun b=>Wr M w0 b∧b≠r,M.e,mkD r::M.d⟩ w I β ob s { a with defers:=mkD r::a.defers } w where
 size:=h.size
 defers:=by rw[h.defers]
 below:=BelowM.refl _ _
 ilow:=fun _ _ h=>h
 kept:=fun _ _ _=>rfl
 ihigh:=fun _ _ h=>.inl h
 ibnd:=h.ibnd
 fr:=fun t=>(h.fr t).wider fun b hb=>.inr ⟨(h.obnd _ b hb).2,fun e=>j4 _ (e▸hb)⟩
 bx:=fun i hi=>by
  obtain⟨blk,cur,e1,e2,e3,e4,e5,e7⟩:=h.bx i hi
  exact⟨blk,cur,e1,.inr ⟨e2,fun e=>hβ i (e▸e1)⟩,e3,e4,fun j=>(e5 j).wider fun b hb=>.inr ⟨(h.obnd _ b hb).2,fun e=>j4 _ (e▸hb)⟩,e7⟩
 bnone:=h.bnone
 ext:=h.ext
 bnew:=fun i b hi=>.inr (.inr ⟨(h.boxblk hi).2.1,fun e=>hβ i (e▸hi)⟩)
 binj:=h.binj
 oinj:=h.oinj
 obx:=h.obx
 obnd:=fun L b hL=>⟨(h.obnd L b hL).1,.inr ⟨(h.obnd L b hL).2,fun e=>j4 L (e▸hL)⟩⟩
 glob:=h.glob
theorem Reb.step (hr:Reb (GT G) I0 M w0 I1 M1 w1 rs) (h:St G n I1 M1 w1 I β ob s a w) {r:Nat} (hw:Wr M1 w1 r) (bF:r<w.heap.size) (hI:∀ o,¬ I r o) (hh:w.heap[r]?=some (Obj.deferred (some []))) :
 Reb (GT G) I0 M w0 I ⟨fun b=>Wr M1 w1 b∧b≠r,M1.e,mkD r::M1.d⟩ w (r::rs) where
 bel:=(h.back hr).below
 wr:=fun b hb=>by
  rcases hb with hb | hb
  ·exact hr.wr b (.inl (bY h.below.size hb))
  ·exact hr.wr b hb.1
 il:=fun b o h0=>h.ilow b o (hr.il b o h0)
 kept:=fun b o h0=>(h.kept b o (hr.il b o h0)).trans (hr.kept b o h0)
 ih:=(h.back hr).ihigh
 e:=hr.e
 d:=by rw[aL,dC,hr.d]
 nd:=List.nodup_cons.2 ⟨fun hm=>(hr.r r hm).1 hw,hr.nd⟩
 r:=fun q hq=>by
  rcases bw.1 hq with rfl | hq
  ·refine⟨fun hw'=>?_,hr.wr _ hw,hI,hh⟩
   rcases hw' with h1 | h1
   ·omega
   ·exact h1.2 rfl
  ·obtain⟨q1,q2,q3,q4⟩:=hr.r q hq
   obtain⟨_,_,h3,h4⟩:=Reb.notWr h q1
   refine⟨fun hw'=>?_,q2,fun o ho=>?_,(h.below.block q h3 h4).trans q4⟩
   ·rcases hw' with h1 | h1
    ·have:=h.below.size;omega
    ·exact q1 h1.1
   ·rcases h.ihigh q o ho with h1 | h1
    ·exact q3 o h1
    ·exact q1 h1
theorem BM {F:Fence} {m:Nat} {fn:Func} {R:Ending→World→Prop} {a0:Act}:∀ (rs:List Nat) (w:World),rs.Nodup→(∀ r∈rs,(∀ L,ob L≠some r)∧(∀ i,β i≠some r)∧Wr M w0 r∧(∀ o,¬ I r o)∧w.heap[r]?=some (Obj.deferred (some [])))→
 St G n I0 M w0 I β ob s a0 w→(∀ w',St G n I0 M w0 I β ob s a0 w'→∃ v,(results fn a0.tmps).run P w'=.ok v w'∧R (.returned v) w')→LeavesInM F m P fn a0.tmps R (rs.map mkD) .returning w
 |[],w,_,_,h,hR=>hR w h
 |r::rs,w,pA,hr,h,hR=>by
  obtain⟨h1,h2,h3,h4,h5⟩:=hr r (aT ..)
  obtain⟨hnr,Ut⟩:=List.nodup_cons.1 pA
  have bF:r<w.heap.size:=(be.1 h5).1
  refine⟨by simp,.inl ⟨r,_,rfl,run_takeDeferred h5,?_⟩⟩
  refine BM rs _ Ut (fun q hq=>?_) ?_ hR
  ·obtain⟨q1,q2,q3,q4,q5⟩:=hr q (aM _ hq)
   exact⟨q1,q2,q3,q4,(Go.World.putObj_heap_other (fun(e:q=r)=>hnr (e▸hq))).trans q5⟩
  ·exact h.growRow (I':=I) (Pg (grownBy_putObj' w r _) (ae _)) h3 (fun o ho=>absurd ho (h4 o)) h1 h2 (fun _ _ h=>h) (fun _ _ h=>.inl h) (by rw[Go.World.putObj_size];exact bF)
theorem St.newObj (h:St G n I0 M w0 I β ob s a w) {o:Obj} {cs:List V} {cur:Array Value} (hHB:HB (w.alloc o) w.heap.size cur cs) (hl:cs.length≤cur.size)
 (hc:∀ j,LR (Wr M w0) I β w none (cur.getD j undef) (cs.getD j .un)) :
 St G n I0 M w0 I (up β s.nb (some w.heap.size)) (fun L=>match L with | .b i j=>if i=s.nb then none else ob (.b i j) | L=>ob L)
  { s with bx:=up s.bx s.nb cs,nb:=s.nb+1 } a (w.alloc o):=by
 have hs:=h.allocOwn o
 have hβ:∀ i b,β i=some b→up β s.nb (some w.heap.size) i=some b:=fun i b hi=>by
  have:i≠s.nb:=fun e=>by rw[h.bnone i (by omega)] at hi;cases hi
  rw[cZ _ _ this];exact hi
 have j4:∀ (o':Option Nat),(∀ b,o'=some b→b<w.heap.size)→∀ b,o'=some b→(w.alloc o).heap[b]?=w.heap[b]?∧∀ k,I b k→I b k:=fun o' ho b hb=>
  ⟨dZ w _ b (ho b hb),fun _ h=>h⟩
 have hI:∀ b k,I b k→I b k∧(w.alloc o).cell? ⟨b,k,none⟩=w.cell? ⟨b,k,none⟩:=fun b k hb=>⟨hb,dN (a:=⟨b,k,none⟩) (dZ w _ b (h.ibnd b k hb))⟩
 have jb:=h.fresh (ae _)
 have key:∀ L b,(match L with | .b i j=>if i=s.nb then none else ob (.b i j) | L=>ob L)=some b→ob L=some b:=fun L b hL=>by
  cases L with
  |t i=>exact hL
  |b i j=>
   simp only at hL
   split at hL
   ·cases hL
   ·exact hL
 exact {
  size:=h.size,defers:=h.defers,below:=hs.below,kept:=hs.kept,ilow:=h.ilow,ihigh:=h.ihigh,ibnd:=hs.ibnd
  fr:=fun t=>(h.fr t).mono hI hβ (j4 _ fun b hb=>(h.obnd _ b hb).1)
  bx:=fun i hi=>by
   by_cases fy:i=s.nb
   ·subst fy
    refine⟨w.heap.size,cur,by simp,.inl h.below.size,by simpa only[cn] using hHB,by simpa only[cn] using hl,fun j=>?_,fun k hk=>?_⟩
    ·simp only[cn,cJ]
     exact(hc j).mono hI hβ (fun b hb=>by cases hb)
    ·have:=h.ibnd _ _ hk;omega
   ·obtain⟨blk,cur',e1,e2,e3,e4,e5,e7⟩:=h.bx i (by simp only at hi;omega)
    have bF:blk<w.heap.size:=e3.lt
    refine⟨blk,cur',hβ i blk e1,e2,by simpa only[cZ _ _ fy] using e3.mono (dZ w _ blk bF),by simpa only[cZ _ _ fy] using e4,fun j=>?_,e7⟩
    simp only[cZ _ _ fy,if_neg fy]
    exact(e5 j).mono hI hβ (j4 _ fun b hb=>(h.obnd _ b hb).1)
  bnone:=fun i hi=>by
   simp only at hi
   rw[cZ _ _ (by omega)]
   exact h.bnone i (by omega)
  ext:=fun i b he=>hβ i b (h.ext i b he)
  bnew:=fun i b hi=>by
   by_cases h1:i=s.nb
   ·subst h1;rw[cn] at hi;cases hi;exact .inr (.inl h.below.size)
   ·rw[cZ _ _ h1] at hi;exact h.bnew i b hi
  binj:=fun i j b hi hj=>by
   by_cases h1:i=s.nb<;>by_cases h2:j=s.nb
   ·rw[h1,h2]
   ·subst h1;rw[cn] at hi;cases hi;rw[cZ _ _ h2] at hj;exact absurd hj (jb.2 j)
   ·subst h2;rw[cn] at hj;cases hj;rw[cZ _ _ h1] at hi;exact absurd hi (jb.2 i)
   ·rw[cZ _ _ h1] at hi;rw[cZ _ _ h2] at hj;exact h.binj i j b hi hj
  oinj:=fun L L' b hL wE=>h.oinj L L' b (key L b hL) (key L' b wE)
  obx:=fun L b i hL hi=>by
   by_cases fy:i=s.nb
   ·subst fy;rw[cn] at hi;cases hi
    exact jb.1 L (key L _ hL)
   ·rw[cZ _ _ fy] at hi
    exact h.obx L b i (key L b hL) hi
  obnd:=fun L b hL=>by
   rw[dY]
   have:=h.obnd L b (key L b hL);exact⟨by omega,this.2⟩
  glob:=fun g cs hg=>(h.glob g cs hg).mono hI }
theorem LR.toKR {ox:Option Nat} (h:LR base I β w ox v x) (hk:x.fz.isKR=true):KR I β w v x.fz:=by
 have h':=h.fz none
 cases hx:x.fz<;>rw[hx] at h' hk<;>simp only[V.isKR] at hk<;>try cases hk
 ·exact .inl rfl
 ·exact .inr (.inr h'.toC)
 ·simp only[LR] at h';exact .inr (.inl ⟨rfl,h'⟩)
 ·simp only[LR] at h';exact .inr (.inr h')
 ·simp only[LR] at h';exact .inr (.inr h')
 ·simp only[LR] at h';exact .inr (.inr h')
 ·simp only[LR] at h';exact .inr (.inr h')
def SX (G:Gl) (n:Nat) (tr:List Nat) (I0:Ft) (M:Mx) (w0:World) (s:S) (a:Act) (w:World):Prop:=
 ∃ I1 M1 w1 rs,Reb (GT G) I0 M w0 I1 M1 w1 rs∧(tR tr=false→I1=I0∧M1=M∧w1=w0)∧SE G n I1 M1 w1 s a w
theorem SX.of (h:SE G n I0 M w0 s a w):SX G n tr I0 M w0 s a w:=⟨_,_,_,_,.refl,fun _=>⟨rfl,rfl,rfl⟩,h⟩
theorem SX.se (h:SX G n tr I0 M w0 s a w) (hr:tR tr=false):SE G n I0 M w0 s a w:=by
 obtain⟨I1,M1,w1,rs,_,h1,h2⟩:=h
 obtain⟨rfl,rfl,rfl⟩:=h1 hr
 exact h2
theorem F8 (hst:St G n I0 M w0 I β ob s a w) {f:FuncId} {vs:List Value} {all:List V} {ρ:List Nat} {cargs:List V} {b0:List (List V)} {R0:V→List (List V)→Prop} {R:Ending→World→Prop}
 (dI:FnE P G f cargs b0 R0) (cv:ArgsL (Wr M w0) I β w vs all) (dh:all.map V.fz=cargs.map (V.ren (rho ρ s.nb))) (hρ:ρ.length=b0.length∧ρ.Nodup) (fy:pB s.bx s.nb (rho ρ s.nb) 0 b0)
 (hk:∀ r b1,R0 r b1→∀ v w' I' β' ob',St G n I0 M w0 I' β' ob' { s with bx:=ff (rho ρ s.nb) 0 b1 s.bx,nb:=s.nb+(b1.length - b0.length) } a w'→(∀ i b,β i=some b→β' i=some b)→R (.returned v) w') :
 Calls P f vs.toArray w R:=by
 obtain⟨hρl,hn⟩:=hρ
 obtain⟨AM,nS,fx⟩:=dI.2.1
 have hl:∀ i,i<ρ.length→ρ.getD i 0<s.nb:=fun i hi=>by
  obtain⟨b,hb⟩:∃ b,b0[i]?=some b:=⟨_,aj (by omega)⟩
  have:=(np b0 0 i b fy hb).1
  rw[ah] at this
  simpa[rho,hi] using this
 have pE:=sY hn hl
 have ce:all.length=cargs.length:=by simpa using jz List.length dh
 refine (dI.2.2 I ⟨Mof β ob (rho ρ s.nb) b0.length,fun _=>none,[]⟩ w vs.toArray (kp β (rho ρ s.nb) b0.length) (obC ob (rho ρ s.nb) b0.length) hst.ibnd hst.glob (hst.give pE fy nS)
  (by have:=cv.1;simp;omega) (fun j x hx=>?_)).mono ?_
 ·have hj:j<cargs.length:=(ak.1 hx).1
  have hz:all[j]?=some all[j]:=aj (by omega)
  have h1:=cv.2 j _ hz
  have h2:all[j].fz=x.ren (rho ρ s.nb):=by
   have e1:(all.map V.fz)[j]?=some all[j].fz:=by simp[hz]
   have e2:(cargs.map (V.ren (rho ρ s.nb)))[j]?=some (x.ren (rho ρ s.nb)):=by simp[hx]
   rw[dh,e2] at e1
   exact(dE e1).symm
  rw[h2] at h1
  have h3:=h1.ren (β':=kp β (rho ρ s.nb) b0.length) (AM x (bg hx)) (fun i b hi hb=>by simp[kp,hi,hb])
  have h4:=h3.wider (base':=Wr ⟨Mof β ob (rho ρ s.nb) b0.length,fun _=>none,[]⟩ w) fun b hb=>by cases hb
  simpa using h4
 ·rintro e w' ⟨r,b1,hR,v,I',β',ob',o',rfl,nR,Kj,Ig,rI,O2,H4,nF,gX,jb⟩
  obtain⟨bH,_,_,_,_,kR⟩:=hst.called hρl hn fy (fx r b1 hR) nR Kj Ig rI O2 H4 nF
  exact hk r b1 hR v w' _ _ _ bH kR
def VE.ex:VE→Exit
 | .normal=>.normal
 | .exit i=>.exit i
 | .ret=>.ret
theorem F9 {f:Operand} {fv:V} {args:List V} {g:FuncId} {all:List V} (hc:ew fv args=some (g,all)) {ox:Option Nat} (hf:LR base I β w ox (a.eval f) fv) :
 ∃ vf vc:Array Value,a.eval f=.func (.func g) vf vc∧∀ us:List Value,ArgsL base I β w us args→ArgsL base I β w (vf.toList++us++vc.toList) all:=by
 unfold ew at hc
 split at hc
 ·rename_i g' fs cs
  simp only[am,dU] at hc
  obtain⟨rfl,rfl⟩:=hc
  obtain⟨vf,vc,hv,q1,q2,q3,q4⟩:=hf.toC.fn_inv
  exact⟨vf,vc,hv,fun us hu=>((m6 vf fs q1 q3).append hu).append (m6 vc cs q2 q4)⟩
 ·rename_i g' fs cs
  simp only[am,dU] at hc
  obtain⟨rfl,rfl⟩:=hc
  simp only[LR] at hf
  obtain⟨vf,vc,hv,q1,q2,q3,q4⟩:=hf
  exact⟨vf,vc,hv,fun us hu=>((m7 vf fs q1 q3).append hu).append (m7 vc cs q2 q4)⟩
 ·cases hc
theorem MV {m:Nat} {f:Operand} {ps:Array Tmp} {assign body:Code} {q:VE→S→Prop} (hn:rgN tr=n) (hQ:∀ e s a w,q e s→SX G n tr I0 M w0 s a w→Q e.ex a w)
 (h:vrg P G tr f ps assign body q s) (cw:SX G n tr I0 M w0 s a w):(Code.rangeFunc f ps assign body).wpIn (FW none) m P Q a w:=by
 obtain⟨tO,fl,mK,⟨g,all,kS⟩,h⟩:=h
 obtain⟨I1,M1,w1,rs,rN,_,I,β,ob,hst⟩:=cw
 have hA:=hst.allocOwn (Obj.deferred (some []))
 have jb:=hst.fresh (ae w.heap.size)
 have hre:=hA.rebase (r:=w.heap.size) jb.1 jb.2
 have aeJ:=rN.step hA (r:=w.heap.size) (.inl hst.below.size) (by rw[dY];omega) (fun o ho=>by have:=hst.ibnd _ _ ho;omega) (fq w _)
 generalize hMd:(⟨fun b=>Wr M1 w1 b∧b≠w.heap.size,M1.e,mkD w.heap.size::M1.d⟩:Mx)=M2 at *
 have fnok:=kS
 have h:nJ P G { s with bx:=up s.bx s.nb [.lp (lp0 (rgN tr) ps assign body) fl],nb:=s.nb+1 } (ev G s f) [.yl s.nb] (fun s' _=>Mr q s.nb s'):=by
  split at h
  ·exact h
  ·exact h.toR
 unfold nJ at h
 have aeK:ew (ev G s f) [.yl s.nb]=some (g,all):=kS
 rw[aeK] at h
 obtain⟨ρ,cargs,b0,R0,dI,dh,hρ,fy,hKR⟩:=h
 obtain⟨fn,hf1,hf2,c,hf3⟩:=dI.1
 refine wpIn_rangeFunc fun fid _=>?_
 have hB:=hre.newObj (o:=.loop { lp0 (rgN tr) ps assign body with fn:=fid,tmps:=a.tmps,defers:=w.heap.size }) (cs:=[.lp (lp0 (rgN tr) ps assign body) fl]) (cur:=#[.tuple a.tmps])
  ⟨fid,a.tmps,w.heap.size,⟨fq _ _,by rw[hst.size];exact hn.symm⟩,rfl⟩ (ae _) (fun j=>by
   cases j with
   |zero=>
    show LR _ _ _ _ none (.tuple a.tmps) (.lp _ fl)
    simp only[LR]
    refine⟨a.tmps,rfl,fun t x hx=>?_⟩
    obtain⟨e1,e2⟩:=mK _ hx
    simp only at e1 e2
    rw[e1] at e2 ⊢
    exact(hre.fr t).toKR e2
   |succ j=>simp only[dK,jH,LR];exact .un _)
 rw[dY] at hB
 generalize hW2:(w.alloc (Obj.deferred (some []))).alloc (Obj.loop { lp0 (rgN tr) ps assign body with fn:=fid,tmps:=a.tmps,defers:=w.heap.size })=w2 at *
 generalize Pe:({ s with bx:=up s.bx s.nb [.lp (lp0 (rgN tr) ps assign body) fl],nb:=s.nb+1 }:S)=s1 at *
 generalize ha1:({ a with defers:=mkD w.heap.size::a.defers }:Act)=a1 at *
 have uY:ev G s1 f=ev G s f:=by rw[← Pe];cases f<;>rfl
 have hae:a1.eval f=a.eval f:=by rw[← ha1];cases f<;>rfl
 have hf:=bB hB f
 rw[uY] at hf
 obtain⟨vf,vc,hv,cv⟩:=F9 kS hf
 rw[hae] at hv
 have hyl:∀ β':Nat→Option Nat,β' s.nb=some (w.heap.size+1)→LR (Wr M2 (w.alloc (Obj.deferred (some [])))) I β' w2 none (.func (.yield (w.heap.size+1)) #[] #[]) (.yl s.nb):=fun β' hβ=>by
  simp only[LR];exact⟨_,hβ,rfl⟩
 have hus:=cv [Value.func (.yield (w.heap.size+1)) #[] #[]] ⟨rfl,fun j x hx=>by
  cases j with
  |zero=>simp at hx;subst hx;exact hyl _ (by rw[cn])
  |succ j=>simp at hx⟩
 have ahb:fn.name≠ "runtime.NumGoroutine" :=by simpa using hf2
 refine⟨w.heap.size+1,[mkD w.heap.size],w2,{ target:=.fn (.func g) vc,args:=vf++#[Value.func (.yield (w.heap.size+1)) #[] #[]] },w2,g,
  (vf.toList++[Value.func (.yield (w.heap.size+1)) #[] #[]]++vc.toList).toArray,w2,?_,?_,fun _ _=>trivial,?_,fun h=>(by cases h),oM.2 ?_⟩
 ·rw[← hW2];exact run_enterLoop_outer _ _ _ _ _
 ·simp only[resolve,hv]
  simp[go_sem]
 ·have e:vf++#[Value.func (.yield (w.heap.size+1)) #[] #[]]++vc=(vf.toList++[Value.func (.yield (w.heap.size+1)) #[] #[]]++vc.toList).toArray:=by apply cP;simp
  rw[← e]
  simp[invoke,callFunc,hf1,ahb,hf3]
 ·refine F8 hB dI hus dh hρ fy ?_
  intro r b1 hR0 v w3 I3 β3 ob3 uX kR
  have hK:=hKR r b1 hR0
  have hb0:β3 s.nb=some (w.heap.size+1):=kR _ _ (by rw[cn])
  generalize hs2:({ s1 with bx:=ff (rho ρ s1.nb) 0 b1 s1.bx,nb:=s1.nb+(b1.length - b0.length) }:S)=s2 at *
  unfold Mr at hK
  split at hK
  ·rename_i L fl' nF
   obtain⟨aeN,bF,hK⟩:=hK
   obtain⟨blk,cur,e1,e2,e3,e4,e5,e7⟩:=uX.bx s.nb bF
   rw[hb0] at e1;cases e1
   rw[nF] at e3 e4 e5
   obtain⟨f3,tm,d3,⟨h3,dR⟩,rfl⟩:∃ (f:FuncId) (tm:Array Value) (d:Nat),(w3.heap[w.heap.size+1]?=some (.loop { L with fn:=f,tmps:=tm,defers:=d })∧tm.size=L.defers)∧cur=#[.tuple tm]:=e3
   obtain⟨L3,hL3⟩:∃ L3:Loop,L3={ L with fn:=f3,tmps:=tm,defers:=d3 }:=⟨_,rfl⟩
   rw[← hL3] at h3
   have hp3:L3.pending=L.pending:=by rw[hL3]
   have bA:(Instr.endLoop (w.heap.size+1)).run P w3=.ok L.pending (w3.putObj (w.heap.size+1) (.loop { L3 with state:=.exhausted })):=by
    rw[← hp3];exact run_endLoop h3 (by rw[hL3];exact aeN)
   have ahd:=uX.reBox (o:=.loop { L3 with state:=.exhausted }) (l:=[.lp { L with state:=.exhausted } fl']) (cur:=#[.tuple tm]) (od:=fun j=>ob3 (.b s.nb j)) bF hb0
    ⟨f3,tm,d3,⟨by rw[hL3];exact nn (be.1 h3).1,dR⟩,rfl⟩ (ae _) (fun j=>by
     have:=e5 j
     cases j with
     |zero=>exact this
     |succ j=>simp only[dK,jH,LR];exact .un _) (fun j b hb=>hb)
   have hsx:SX G n tr I0 M w0 { s2 with bx:=up s2.bx s.nb [.lp { L with state:=.exhausted } fl'] } a1 (World.putObj w3 (w.heap.size+1) (.loop { L3 with state:=.exhausted })):=
    ⟨_,_,_,_,aeJ,(fun h=>by rw[tO] at h;cases h),_,_,_,ahd⟩
   refine⟨L.pending,_,bA,?_⟩
   have ha2:({ a with defers:=[mkD w.heap.size]++a.defers }:Act)=a1:=ha1
   rw[ha2]
   split at hK
   ·rename_i hp;rw[hp];exact hQ .normal _ _ _ hK hsx
   ·rename_i hp;rw[hp];exact wpIn_ret (hQ .ret _ _ _ hK hsx)
   ·rename_i hp;rw[hp];exact wpIn_exit (hQ (.exit _) _ _ _ hK hsx)
   ·exact hK.elim
  ·exact hK.elim
end
section
variable {P:Program} {G:Gl} {tr:List Nat} {n:Nat} {I0:Ft} {M:Mx} {w0:World} {I:Ft} {β:Nat→Option Nat} {ob:Loc→Option Nat} {s:S} {a:Act} {w:World} {o:Oper}
 {Q:Exit→Act→World→Prop} {base:Nat→Prop} {v:Value} {x y:V}
def cok (n:Nat) (tr:List Nat):Code→Bool
 | .region id ops draw=>jJ n ops&&zm ops&&(if Mt tr id then(if CW tr id then !draw else draw&&UZ tr id ops) else if Mq tr id then Pq tr id&&draw&&BH tr ops else(!draw||wV tr ops))
 | .seq a b=>cok n tr a&&cok n tr b
 | .cond _ a b=>cok n tr a&&cok n tr b
 | .block _ a=>cok n tr a
 | .loop a=>cok n tr a
 | .scope a=>cok n tr a
 | .rangeFunc _ _ _ _=>decide (rgN tr=n)
 |_=>true
theorem kZ {k0:Nat} {l:Option Nat} {m:Nat} (hm:P.follows .mixedOrders=true) (qf:∀ i b,M.e i=some b→i<k0) (hl:l=none∨tR tr=false):∀ (c:Code) (hc:cok n tr c=true) (q:VE→S→Prop) (Q:Exit→Act→World→Prop) (_hQ:∀ e s a w,q e s→SX G n tr I0 M w0 s a w→Q e.ex a w) (s:S) (a:Act) (w:World),
 gy P G tr k0 c q s→SX G n tr I0 M w0 s a w→c.wpIn (FW l) m P Q a w:=by
 intro c
 induction c with
 |skip=>intro _ q Q hQ s a w h cw;exact wpIn_skip (hQ .normal s a w h cw)
 |region id ops draw=>
  intro hc q Q hQ s a w h hsx
  obtain⟨I1,M1,w1,rs,rN,kR,cw⟩:=hsx
  have qf:∀ i b,M1.e i=some b→i<k0:=by rw[rN.e];exact qf
  have O9:∀ a w s,q .normal s→SE G n I1 M1 w1 s a w→Q .normal a w:=fun a w s hk cw=>hQ .normal s a w hk ⟨I1,M1,w1,rs,rN,kR,cw⟩
  simp only[gy] at h
  by_cases hpa:Mt tr id=true
  ·simp only[cok,hpa,cJ,aG] at hc
   obtain⟨⟨hd,pA⟩,hc⟩:=hc
   rw[if_pos hpa] at h
   by_cases UI:CW tr id=true
   ·rw[if_pos UI] at hc
    have H7:draw=false:=by simpa using hc
    subst H7
    exact DF hd O9 UI h cw
   ·rw[if_neg UI,aG] at hc
    obtain⟨H7,h2⟩:=hc
    subst H7
    exact DD hm pA hd h2 O9 (by simpa using UI) h cw
  rw[if_neg hpa] at h
  by_cases htw:Mq tr id=true
  ·simp only[cok,hpa,htw,cJ,aS,dm,aG] at hc
   obtain⟨⟨hd,pA⟩,⟨XG,H7⟩,h2⟩:=hc
   rw[if_pos XG] at h
   obtain⟨s',fx,h⟩:=h
   unfold vtw at h
   rw[if_pos htw] at h
   subst H7
   exact A8 hm pA hd h2 O9 h (cw.freeze qf fx)
  simp only[cok,hpa,htw,aS,dm,aG,dF,eb] at hc
  obtain⟨⟨hd,pA⟩,hc⟩:=hc
  obtain⟨s,h,cw⟩:∃ s,eJ P G tr ops ops.toList s (q .normal)∧SE G n I1 M1 w1 s a w:=by
   split at h
   ·obtain⟨s',fx,h⟩:=h
    unfold vtw at h
    rw[if_neg htw] at h
    exact⟨s',h,cw.freeze qf fx⟩
   ·exact BK hd h cw
  cases draw with
  |false=>
   refine wpIn_region ?_
   have:=uv (Q:=Q) (l:=l) (m:=m) hd O9 ops.toList 0 rfl s a w h cw
   rw[d6]
   simpa using this
  |true=>exact zG hm pA hd (hc.resolve_left (by simp)) O9 h cw
 |seq x y ihx ihy=>
  intro hc q Q hQ s a w h cw
  simp only[cok,aG] at hc
  simp only[gy] at h
  refine wpIn_seq (ihx hc.1 _ _ (fun e s a w hk cw=>?_) s a w h cw)
  cases e with
  |normal=>exact ihy hc.2 q Q hQ s a w hk cw
  |exit i=>exact hQ (.exit i) s a w hk cw
  |ret=>exact hQ .ret s a w hk cw
 |cond c x y ihx ihy=>
  intro hc q Q hQ s a w h cw
  simp only[cok,aG] at hc
  simp only[gy] at h
  split at h
  ·rename_i p hp
   have Ui:a.eval c=.bool p:=by
    obtain⟨_,_,_,_,_,_,I,β,ob,hst⟩:=cw
    have:=bB hst c;rw[hp] at this;exact this.lit
   have E5:refine s c p=s:=by
    cases c with
    |tmp t=>simp only[refine];simp only[ev] at hp;exact S.up_id hp
    |_=>rfl
   refine wpIn_cond_split Ui (fun ht=>?_) (fun hf=>?_)
   ·have:=h.1 ht
    rw[ht] at E5
    rw[E5] at this
    exact ihx hc.1 q Q hQ s a w this cw
   ·have:=h.2 hf
    rw[hf] at E5
    rw[E5] at this
    exact ihy hc.2 q Q hQ s a w this cw
  ·exact h.elim
 |block id body ih=>
  intro hc q Q hQ s a w h cw
  simp only[cok] at hc
  simp only[gy] at h
  refine wpIn_block (ih hc _ _ (fun e s a w hk cw=>?_) s a w h cw)
  cases e with
  |normal=>exact hQ .normal s a w hk cw
  |exit i=>
   simp only[VE.ex,Exit.inBlock] at hk ⊢
   split
   ·rename_i e;rw[if_pos e] at hk;exact hQ .normal s a w hk cw
   ·rename_i e;rw[if_neg e] at hk;exact hQ (.exit i) s a w hk cw
  |ret=>exact hQ .ret s a w hk cw
 |loop body ih=>
  intro hc q Q hQ s a w h cw
  simp only[cok] at hc
  simp only[gy] at h
  obtain⟨k,h⟩:=h
  refine wpIn_loop_rounds k ?_
  induction k generalizing s a w with
  |zero=>exact h.elim
  |succ k ihk=>
   simp only[sW] at h
   obtain⟨s',fx,h⟩:=h
   rw[roundsIn_succ]
   refine ih hc _ _ (fun e s a w hk cw=>?_) s' a w h (by
    rcases fx with rfl | fx
    ·exact cw
    ·obtain⟨I1,M1,w1,rs,rN,kR,cw⟩:=cw
     exact⟨I1,M1,w1,rs,rN,kR,cw.weaken (by rw[rN.e];exact qf) fx⟩)
   cases e with
   |normal=>exact ihk s a w cw hk
   |exit i=>exact hQ (.exit i) s a w hk cw
   |ret=>exact hQ .ret s a w hk cw
 |exit id=>intro _ q Q hQ s a w h cw;exact wpIn_exit (hQ (.exit id) s a w h cw)
 |ret=>intro _ q Q hQ s a w h cw;exact wpIn_ret (hQ .ret s a w h cw)
 |label l=>intro _ q Q hQ s a w h cw;exact wpIn_label (hQ .normal s a w h cw)
 |scope body ih=>
  intro hc q Q hQ s a w h cw
  simp only[cok] at hc
  simp only[gy] at h
  refine tU (ih hc _ _ (fun e s a w hk cw=>?_) s a w h cw)
  cases e with
  |normal=>exact hQ .normal s a w hk cw
  |exit i=>exact hQ (.exit i) s a w hk cw
  |ret=>exact hQ .ret s a w hk cw
 |rangeFunc f ps assign body=>
  intro hc q Q hQ s a w h cw
  simp only[cok,bi] at hc
  simp only[gy] at h
  have hl:l=none:=by
   rcases hl with hl | hl
   ·exact hl
   ·have:=h.1;rw[hl] at this;cases this
  subst hl
  exact MV hc hQ h cw
 |_=>intro _ q Q hQ s a w h cw;exact h.elim
theorem uz {k0:Nat} (hm:P.follows .mixedOrders=true) (qf:∀ i b,M.e i=some b→i<k0) (tO:tR tr=false) (c:Code) (hc:cok n tr c=true) (q:VE→S→Prop) (Q:Exit→Act→World→Prop) (hQ:∀ e s a w,q e s→SE G n I0 M w0 s a w→Q e.ex a w) (s:S) (a:Act) (w:World)
 (h:gy P G tr k0 c q s) (cw:SE G n I0 M w0 s a w):c.wp P Q a w:=
 wpIn_wide.1 (kZ (l:=none) (m:=0) hm qf (.inl rfl) c hc q Q (fun e s a w hk cw=>hQ e s a w hk (cw.se tO)) s a w h (.of cw))
theorem SX.leaves {fn:Func} {R:Ending→World→Prop} (h:SX G n tr I0 M w0 s a w) (hd:M.d=[])
 (hR:∀ w' I' β' ob',St G n I0 M w0 I' β' ob' s { a with defers:=[] } w'→∃ v,(results fn a.tmps).run P w'=.ok v w'∧R (.returned v) w'):LeavesInM (FW none) 0 P fn a.tmps R a.defers .returning w:=by
 obtain⟨I1,M1,w1,rs,rN,_,I,β,ob,hst⟩:=h
 have hbk:=hst.back rN
 have hdf:a.defers=rs.map mkD:=by rw[hst.defers,rN.d,hd,eA]
 rw[hdf,hd] at *
 refine BM (a0:={ a with defers:=[] }) rs w rN.nd (fun r hr=>?_) hbk (fun w' h'=>hR w' _ _ _ h')
 obtain⟨q1,q2,q3,q4⟩:=rN.r r hr
 obtain⟨h1,h2,h3,h4⟩:=Reb.notWr hst q1
 exact⟨h1,h2,q2,fun o ho=>by
  rcases hst.ihigh r o ho with h5 | h5
  ·exact q3 o h5
  ·exact q1 h5,(hst.below.block r h3 h4).trans q4⟩
def Zd (P:Program) (s:S):ResultVar→(V→Prop)→Prop
 | .tmp t,K=>K (s.fr t)
 | .cell p T,K=>dy P T s (s.fr p) K
def IM (z:Bool) (s:S) (x r:V):Prop:=if z then imm s x=some r else x=r
def KJ (z:Bool) (s:S) (x r:V):Prop:=if z then imm s x=some r else x.fz=r
def pX (P:Program) (z:Bool) (s:S) (r:V):List ResultVar→Prop
 |[.tmp t]=>IM z s (s.fr t) r
 |[.cell p T]=>dy P T s (s.fr p) fun u=>IM z s u r
 |rs=>∃ ds,r=.tup ds∧ds.length=rs.length∧∀ (i:Nat) (R:ResultVar) (d:V),rs[i]?=some R→ds[i]?=some d→Zd P s R fun u=>KJ z s u d
def xT (args:List V):S:=⟨fun j=>args.getD j .un,fun _=>[],0⟩
theorem LR.ofDR (h:DR I w v x):LR base I β w none v x:=by
 cases h with
 |un=>simp only[LR];exact .un _
 |sk=>simp only[LR];exact .sk
 |c _ _ h=>exact .ofC h
 |agg vs cs h1 h2=>simp only[LR];exact .agg vs cs h1 h2
 |tup vs ds h1 h2=>simp only[LR];exact .tup vs ds h1 h2
theorem St.init {I:Ft} {w:World} {vs:Array Value} {args:List V} {m:Nat} (hI:∀ b o,I b o→b<w.heap.size) (hg:GOK G I w) (dR:vs.size=args.length) (ha:∀ j x,args[j]?=some x→DR I w (vs.getD j undef) x)
 (hm:m=(vs++Array.replicate (n - vs.size) undef).size):St G m I ⟨fun _=>False,fun _=>none,[]⟩ w I (fun _=>none) (fun _=>none) (xT args) { tmps:=vs++Array.replicate (n - vs.size) undef,defers:=[] } w where
 size:=hm.symm
 defers:=rfl
 below:=BelowM.refl _ _
 kept:=fun _ _ _=>rfl
 ilow:=fun _ _ h=>h
 ihigh:=fun _ _ h=>.inl h
 ibnd:=hI
 fr:=fun t=>by
  simp only[xT]
  by_cases ht:t<args.length
  ·have e1:args.getD t .un=args[t]:=by simp[List.getD,ht]
   have e2:(vs++Array.replicate (n - vs.size) undef).getD t undef=vs.getD t undef:=by
    rw[ao,dx (by omega),← ao]
   rw[e1,e2]
   exact .ofDR (ha t _ (aj ht))
  ·have e1:args.getD t .un=.un:=by simp[List.getD,b8 (dP ht)]
   rw[e1];simp only[LR];exact .un _
 bx:=fun i hi=>by simp[xT] at hi
 bnone:=fun _ _=>rfl
 ext:=fun _ _ h=>by cases h
 bnew:=fun _ _ h=>by cases h
 binj:=fun _ _ _ h=>by cases h
 oinj:=fun _ _ _ h=>by cases h
 obx:=fun _ _ _ h=>by cases h
 obnd:=fun _ _ h=>by cases h
 glob:=hg
def V.out:V→Bool
 | .bp _ _ | .clo _ _ _ | .ms _ _ _ _ _ | .mag _ | .mr _ | .it _ _ _ _ | .gh _ _ _ | .gg _ _ _ | .yl _ | .lp _ _ | .bm _ _ _=>false
 |_=>true
theorem LR.leave {ox:Option Nat} (h:LR base I β w ox v x) (hx:x.out=true) {β':Nat→Option Nat}:LR base I β' w ox v x:=by
 cases x<;>simp only[V.out] at hx<;>try cases hx
 all_goals simp only[LR] at h ⊢;exact h
def V.comp:V→Bool
 | .c _ | .agg _=>true
 |_=>false
def V.compT:V→Bool
 | .tup ds=>ds.all V.comp
 |_=>true
def BN (a:Act):ResultVar→Sem Value
 | .tmp t=>pure (a.tmps.getD t undef)
 | .cell p t=>do loadVar t (← asAddr (a.tmps.getD p undef))
theorem IP (fn:Func) (a:Act):results fn a.tmps=(do let vs ← fn.results.mapM (BN a);pure (if h:vs.size=1 then vs[0] else .tuple vs)):=by
 unfold results
 congr 1
theorem U0 (hst:St G n I0 M w0 I β ob s a w) {R:ResultVar} {K:V→Prop} (h:Zd P s R K):∃ x u o',K x∧LR (Wr M w0) I β w o' u x∧(∀ b,o'=some b→Wr M w0 b∧b<w.heap.size)∧
 (BN a R).run P w=.ok u w:=by
 cases R with
 |tmp t=>exact⟨_,_,_,h,hst.fr t,fun b hb=>⟨(hst.obnd _ b hb).2,(hst.obnd _ b hb).1⟩,rfl⟩
 |cell p T=>
  obtain⟨z,u,hz,gX,bA⟩:=rR (x:=s.fr p) hst h (hst.fr p)
  refine⟨z,u,none,hz,gX,fun b hb=>(by cases hb),?_⟩
  unfold Instr.loadAt at bA
  show(do loadVar T (← asAddr (a.tmps.getD p undef)):Sem Value).run P w=.ok u w
  generalize a.tmps.getD p undef=pv at bA ⊢
  cases pv<;>first | (simp[Instr.sureAddr,stuck,Sem.run] at bA;done) | skip
  rename_i ad
  cases ad with
  |none=>simp[Instr.sureAddr,stuck,Sem.run] at bA
  |some ad=>simpa[Instr.sureAddr,asAddr] using bA
theorem xU (hst:St G n I0 M w0 I β ob s a w) {Ic:Ft} {z:Bool} (hz:z=false→Ic=I) (rH:∀ b o,I b o→Ic b o) (hb:z=true→∀ i b o,β i=some b→Ic b o) :
 ∀ (rs:List ResultVar) (ds:List V),ds.length=rs.length→(∀ (i:Nat) (R:ResultVar) (d:V),rs[i]?=some R→ds[i]?=some d→Zd P s R fun u=>KJ z s u d)→
 ∃ vs:List Value,vs.length=ds.length∧(∀ (i:Nat) (d:V),ds[i]?=some d→LR (Wr M w0) Ic β w none (vs.getD i undef) d)∧
  (rs.mapM (BN a)).run P w=.ok vs w
 |[],[],_,_=>⟨[],rfl,by simp,rfl⟩
 |R::rs,d::ds,hl,h=>by
  obtain⟨vs,h1,h2,h3⟩:=xU hst hz rH hb rs ds (by simpa using hl) (fun i R' d' hR hd=>h (i+1) R' d' (by simpa using hR) (by simpa using hd))
  obtain⟨x,u,o',hx,gX,_,bA⟩:=U0 hst (h 0 R d rfl rfl)
  refine⟨u::vs,by simp[h1],fun i d' pm=>?_,?_⟩
  ·cases i with
   |zero=>
    simp at pm;subst pm
    cases z with
    |false=>rw[hz rfl];simp only[KJ,aS,dm] at hx;rw[← hx];exact gX.fz none
    |true=>simp only[KJ,cJ] at hx;exact .ofDR (y9 hst gX hx rH (fun _=>hb rfl))
   |succ i=>simpa using h2 i d' (by simpa using pm)
  ·rw[fm]
   simp only[aH,bA,aw,h3,bh]
 |[],_::_,hl,_=>by simp at hl
 |_::_,[],hl,_=>by simp at hl
theorem oU {fn:Func} (hst:St G n I0 M w0 I β ob s a w) {r:V} (iH:r.compT=true) {Ic:Ft} {z:Bool} (hz:z=false→Ic=I) (rH:∀ b o,I b o→Ic b o)
 (hb:z=true→∀ i b o,β i=some b→Ic b o) (dn:pX P z s r fn.results.toList) :
 ∃ v o',(results fn a.tmps).run P w=.ok v w∧LR (Wr M w0) Ic β w o' v r∧∀ b,o'=some b→∃ t,ob (.t t)=some b:=by
 unfold pX at dn
 rw[IP,Array.mapM_eq_mapM_toList]
 split at dn
 ·rename_i t wG
  rw[wG]
  cases z with
  |false=>
   simp only[IM,aS,dm] at dn
   refine⟨a.tmps.getD t undef,ob (.t t),by simp[BN],?_,fun b hb=>⟨_,hb⟩⟩
   rw[← dn,hz rfl];exact hst.fr t
  |true=>
   simp only[IM,cJ] at dn
   exact⟨a.tmps.getD t undef,none,by simp[BN],.ofDR (y9 hst (hst.fr t) dn rH (fun _=>hb rfl)),fun b hb=>by cases hb⟩
 ·rename_i p T wG
  rw[wG]
  obtain⟨x,u,hx,gX,bA⟩:=rR (x:=s.fr p) hst dn (hst.fr p)
  have aeM:(BN a (.cell p T)).run P w=.ok u w:=by
   unfold Instr.loadAt at bA
   show(do loadVar T (← asAddr (a.tmps.getD p undef)):Sem Value).run P w=.ok u w
   generalize a.tmps.getD p undef=pv at bA ⊢
   cases pv<;>first | (simp[Instr.sureAddr,stuck,Sem.run] at bA;done) | skip
   rename_i ad
   cases ad with
   |none=>simp[Instr.sureAddr,stuck,Sem.run] at bA
   |some ad=>simpa[Instr.sureAddr,asAddr] using bA
  refine⟨u,none,by simp[fm,aeM],?_,fun b hb=>by cases hb⟩
  cases z with
  |false=>
   simp only[IM,aS,dm] at hx
   subst hx;rw[hz rfl];exact gX
  |true=>
   simp only[IM,cJ] at hx
   exact .ofDR (y9 hst gX hx rH (fun _=>hb rfl))
 ·rename_i n1 n2
  obtain⟨ds,rfl,hl,dh⟩:=dn
  obtain⟨vs',h1,h2,h3⟩:=xU hst hz rH hb fn.results.toList ds hl dh
  have gv:vs'.length≠1:=fun h=>by
   have:fn.results.toList.length=1:=by omega
   obtain⟨R,hR⟩:=eH.1 this
   cases R with
   |tmp t=>exact n1 t hR
   |cell p T=>exact n2 p T hR
  refine⟨.tuple vs'.toArray,none,?_,?_,fun b hb=>by cases hb⟩
  ·simp[h3,gv]
  ·simp only[LR]
   refine .tup _ _ (by simpa using h1) fun j d hd=>?_
   have h4:=h2 j d hd
   have h5:=aW.1 iH d (bg hd)
   have e1:vs'.toArray.getD j undef=vs'.getD j undef:=by simp[List.getD]
   rw[e1]
   cases d<;>simp only[V.comp] at h5<;>try cases h5
   all_goals simp only[LR] at h4;exact h4
theorem PW {f:FuncId} {k0:Nat} {fn:Func} {c:Code} {args:List V} {r:V} (z:Bool) (tr:List Nat) (hm:P.follows .mixedOrders=true) (hf:P.funcs[f]?=some fn) (hb:fn.body=some c) (gx:(fn.name== "runtime.NumGoroutine")=false)
 (hn:args.length≤fn.ntmps) (pt:cok fn.ntmps tr c=true)
 (hr:r.out=true) (iH:r.compT=true)
 (h:gy P G tr k0 c (fun e s=>(match e with | .exit _=>False | _=>True)∧pX P z s r fn.results.toList) (xT args)):FnOK P G f args r:=by
 refine⟨⟨fn,hf,gx,c,hb⟩,fun I w vs hI hg dR ha=>?_⟩
 have gw:fn.ntmps=(vs++Array.replicate (fn.ntmps - vs.size) undef).size:=by simp;omega
 have hst:=St.init (n:=fn.ntmps) hI hg dR ha gw
 refine oM.1 (callsIn_of_wp_marks (F:=FW none) (n:=0) hf hb trivial (kZ (l:=none) hm (fun _ _ h=>by cases h) (.inl rfl) c pt _ _ (fun e s a w' hq cw=>?_) _ _ _ h (.of ⟨_,_,_,hst⟩)))
 obtain⟨O5,dn⟩:=hq
 have sQ:∀ b,Wr ⟨fun _=>False,fun _=>none,[]⟩ w b→w.heap.size≤b:=fun b hb=>by rcases hb with hb | hb;exact hb;exact hb.elim
 have main:LeavesInM (FW none) 0 P fn a.tmps (fun e w'=>∃ v' I'',e=.returned v'∧World.grt (GT G) w w' none∧(∀ b o,I b o→I'' b o)∧
  (∀ b o,I'' b o→I b o∨(w.heap.size≤b∧b<w'.heap.size))∧acJ (fun b=>w.heap.size≤b) I'' w' v' r) a.defers .returning w':=by
  refine cw.leaves rfl fun w' I' β ob bH=>?_
  obtain⟨v,o',h1,h2,h3⟩:=oU (P:=P) (fn:=fn) bH iH (Ic:=fun b o=>I' b o∨(z=true∧∃ i,β i=some b)) (fun hz=>by subst hz;simp) (fun _ _ h=>.inl h) (fun hz i b o hi=>.inr ⟨hz,i,hi⟩) dn
  refine⟨v,h1,v,(fun b o=>I' b o∨(z=true∧∃ i,β i=some b)),rfl,⟨bH.below.os,bH.below.tape,bH.below.output,bH.below.size,fun k hk _=>bH.below.block k hk (fun e=>e.elim),bH.below.drawn⟩,fun b o h=>.inl (bH.ilow b o h),fun b o wC=>?_,o',?_,fun b hb=>?_⟩
  ·rcases wC with wC | ⟨_,i,hi⟩
   ·rcases bH.ihigh b o wC with h4 | h4
    ·exact .inl h4
    ·exact .inr ⟨sQ b h4,bH.ibnd b o wC⟩
   ·obtain⟨_,h5,h6⟩:=bH.boxblk hi
    exact .inr ⟨sQ b h5,h6⟩
  ·have nQ:=h2.leave hr (β':=fun _=>none)
   have e:Wr ⟨fun _=>False,fun _=>none,[]⟩ w=fun b=>w.heap.size≤b:=by funext b;simp[Wr]
   rw[e] at nQ
   exact nQ
  ·obtain⟨L,hL⟩:=h3 b hb
   obtain⟨h4,h5⟩:=bH.obnd _ b hL
   exact⟨sQ b h5,h4⟩
 cases e with
 |normal=>exact main
 |exit i=>exact O5.elim
 |ret=>exact main
theorem U1 {f:FuncId} {fn:Func} {c:Code} {args:List V} {r:V} (z:Bool) (tr:List Nat) (hm:P.follows .mixedOrders=true) (hf:P.funcs[f]?=some fn) (hb:fn.body=some c) (gx:(fn.name== "runtime.NumGoroutine")=false)
 (hn:args.length≤fn.ntmps) (pt:cok fn.ntmps tr c=true)
 (hr:r.out=true) (iH:r.compT=true)
 (h:vwp P G tr c (fun e s=>(match e with | .exit _=>False | _=>True)∧pX P z s r fn.results.toList) (xT args)):FnOK P G f args r:=PW z tr hm hf hb gx hn pt hr iH h
