/- Values without memory: a loop over a function: its record, and what it leaves behind for the end of the function. -/
import Derived.Test.YtegbpjodbjhjeaaGreatDoorVlDraw
import Derived.Test.YtegbpjodbjhjeaaGreatDoorVlCode
import Derived.Scope
set_option linter.all false
namespace Go.Vl
open Go Go.RowKit
section
variable {P:Program} {G:Gl} {tr:List Nat} {n:Nat} {I0:Ft} {M:Mx} {w0:World} {I:Ft} {β:Nat->Option Nat} {ob:Loc->Option Nat} {s:S} {a:Act} {w:World} {o:Oper}
 {Q:Exit->Act->World->Prop} {base:Nat->Prop} {v:Value} {x y:V}
theorem St.split (h:St G n I0 M w0 I β ob s a w) {b k q:Nat} {E:Option (TypeId×Nat)} {es:List (List C)} (hb:b<s.nb) (hk:(s.bx b)[k]?=some (.ow E es)) (hq:q<n):∃ v,SE G n I0 M w0 (s.split b k q v E es) a w:=by
 obtain⟨blk,cur,e1,e2,e3,e4,e5,e7⟩:=h.bx b hb;have rm:k<(s.bx b).length:=(am.1 hk).1;have eE:(s.bx b).getD k .un=.ow E es:=by simp[List.getD,hk]
 have lx:=e5 k;rw[eE] at lx;simp only[LR] at lx;have NU:∃ x y z,cur.getD k undef=.slice x y z:=by
  rcases lx.1.sl_inv with⟨⟨x,y,h1,_⟩,_⟩ | ⟨x,y,z,_,_,h1,_⟩
  .exact⟨_,_,_,h1⟩
  .exact⟨_,_,_,h1⟩
 obtain⟨x,y,z,NU⟩:=NU;have QI:CR I w (cur.getD k undef) (.ex (cur.getD k undef)):=by rw[NU];exact .ex _ rfl rfl
 have eF:∀ L c,upL ob (.b b k) none L=some c->L≠.b b k/\ob L=some c:=λL c hL=>by
  simp only[upL] at hL;split at hL
  .cases hL
  .rename_i gu;exact⟨gu,hL⟩
 have h1:St G n I0 M w0 I β (upL ob (.b b k) none) { s with bx:=up s.bx b ((s.bx b).set k (.c (.ex (cur.getD k undef)))) } a w:={
  size:=h.size,defers:=h.defers,below:=h.below,ilow:=h.ilow,kept:=h.kept,ihigh:=h.ihigh,ibnd:=h.ibnd
  fr:=λt=>by have:=h.fr t;have e:upL ob (.b b k) none (.t t)=ob (.t t):=(by simp[upL]);rw[e];exact this
  bx:=λi hi=>by
   by_cases uk:i=b
   .subst uk
    refine⟨blk,cur,e1,e2,?_,by simp only[cG,jx];exact e4,λj=>?_,e7⟩
    .simp only[cG]
     refine e3.congr (by simp) ?_;unfold oq;by_cases um:k=0
     .subst um
      have:((s.bx i).set 0 (.c (.ex (cur.getD 0 undef)))).getD 0 .un=.c (.ex (cur.getD 0 undef)):=(by simp[List.getD,rm]);rw[this,eE]
     .have:((s.bx i).set k (.c (.ex (cur.getD k undef)))).getD 0 .un=(s.bx i).getD 0 .un:=by simp[List.getD,dz um]
      rw[this]
    .simp only[cG]
     by_cases hjk:j=k
     .subst hjk
      have:((s.bx i).set j (.c (.ex (cur.getD j undef)))).getD j .un=.c (.ex (cur.getD j undef)):=(by simp[List.getD,rm]);rw[this];have e:upL ob (.b i j) none (.b i j)=none:=(by simp[upL]);rw[e];exact .ofC QI
     .have:((s.bx i).set k (.c (.ex (cur.getD k undef)))).getD j .un=(s.bx i).getD j .un:=by simp[List.getD,dz (gz hjk)]
      rw[this];have e:upL ob (.b i k) none (.b i j)=ob (.b i j):=(by simp[upL,hjk]);rw[e];exact e5 j
   .obtain⟨sj,cur',q1,q2,q3,q4,q5,q7⟩:=h.bx i hi
    refine⟨sj,cur',q1,q2,by simp only[dp _ _ uk];exact q3,by simp only[dp _ _ uk];exact q4,λj=>?_,q7⟩;simp only[dp _ _ uk];have e:upL ob (.b b k) none (.b i j)=ob (.b i j):=(by simp[upL,uk]);rw[e];exact q5 j
  bnone:=h.bnone,ext:=h.ext,bnew:=h.bnew,binj:=h.binj
  oinj:=λL L' c q1 q2=>h.oinj L L' c (eF L c q1).2 (eF L' c q2).2
  obx:=λL c i q1=>h.obx L c i (eF L c q1).2
  obnd:=λL c q1=>h.obnd L c (eF L c q1).2
  glob:=h.glob }
 have h2:=h1.put q hq (v:=a.tmps.getD q undef) (x:=.gh (cur.getD k undef) E es) (o:=ob (.b b k)) (by simp only[LR];exact lx) (λc hc=>by
  refine⟨h.obnd _ c hc,λL hL=>?_,λi=>h.obx _ c i hc⟩;simp only[upL] at hL;split at hL
  .cases hL
  .split at hL
   .cases hL
   .rename_i q1 q2;exact q2 (h.oinj _ _ c hL hc))
 rw[mO (by rw[h.size];exact hq)] at h2;exact⟨_,_,_,_,h2⟩
theorem afp {I:Ft} {w:World} {v u:Value} (h:DR I w v (.c (.ex u))):v=u:=by
 cases h with
 |c _ _ h=>exact h.ex_inv
theorem o7 {ops:Array Oper} {K:S->Prop} (dV:jN n ops=true) (h:GsK ops K s) (cM:SE G n I0 M w0 s a w):∃ s',K s'/\SE G n I0 M w0 s' a w:=by
 have aaa:∀ {ob:Loc->Option Nat} {β:Nat->Option Nat} {I:Ft} {s:S} (hst:St G n I0 M w0 I β ob s a w) {L0:Loc} {blk:Nat},ob L0=some blk->∀ L,upL ob L0 none L≠some blk:=λhst L0 blk h0 L hL=>by
  simp only[upL] at hL;split at hL
  .cases hL
  .rename_i gu;exact gu (hst.oinj _ _ blk hL h0)
 induction h with
 |done h=>exact⟨_,h,cM⟩
 |warm b k hb hk _ ih=>
  obtain⟨I,β,ob,hst⟩:=cM;refine ih (hst.reword hb hk rfl rfl λcur hx=>?_);have GI:OwnR (Wr M w0) I w none [] (ob (.b b k)) (cur.getD k undef):=hx;rcases GI.2 with⟨h1,_,a,h2⟩ | ⟨_,_,_,_,_,_,h2,_⟩
  .exact⟨(λ_ h=>by cases h),.inl ⟨h1,rfl,rfl,a,h2⟩⟩
  .cases h2
 |@warmT s t ht _ ih=>
  obtain⟨I,β,ob,hst⟩:=cM;have hx:=hst.fr t;rw[ht] at hx;have GI:OwnR (Wr M w0) I w none [] (ob (.t t)) (a.tmps.getD t undef):=hx;obtain⟨av,hv⟩:∃ av,a.tmps.getD t undef=.slice av 0 0:=by
   rcases GI.2 with⟨_,_,av,h2⟩ | ⟨_,_,_,_,_,_,h2,_⟩
   .exact⟨av,h2⟩
   .cases h2
  have yU:t<n:=by
   rcases cd t n with h' | h'
   .exact h'
   .exfalso
    have e0:a.tmps.getD t undef=undef:=(by rw[au,dx (by rw[hst.size];exact h')];rfl);rw[e0] at hv;simp[undef] at hv
  have cM:=hst.put t yU (v:=a.tmps.getD t undef) (x:=.gs none none []) (o:=none) (by simp only[LR];exact⟨λ_ h=>(by cases h),.inl ⟨rfl,rfl,rfl,av,hv⟩⟩) FreeOb.nothing;rw[mO (by rw[hst.size];exact yU)] at cM;exact ih ⟨_,_,_,cM⟩
 |warmX b k hb hk _ ih=>
  obtain⟨I,β,ob,hst⟩:=cM;refine ih ⟨_,_,_,hst.reown hb hk rfl rfl (.inl rfl) λcur hx=>?_⟩;simp only[LR] at hx ⊢
  exact⟨(λ_ h=>by cases h),.inl ⟨rfl,rfl,rfl,none,afp hx⟩⟩
 |name b k hb lV hk _ ih=>obtain⟨I,β,ob,hst⟩:=cM;obtain⟨blk,cur,h1,h2,h3,h4⟩:=hst.gsCell hb lV hk;exact ih _ h4.gsV ⟨_,_,_,hst.reownAt hb lV h1 h2 hk rfl (.inr rfl) ⟨λu e=>by cases e;rfl,h4⟩⟩
 |unname b k hb hk _ ih=>obtain⟨I,β,ob,hst⟩:=cM;exact ih (hst.reword hb hk rfl rfl λcur hx=>⟨(λ_ h=>by cases h),hx.gsO.2⟩)
 |split b k q hb lV hk hq _ ih=>
  obtain⟨I,β,ob,hst⟩:=cM;obtain⟨blk,cur,h1,h2,h3,h4⟩:=hst.gsCell hb lV hk;rw[dN] at hq;obtain⟨o,ho,hoq⟩:=hq;have hqn:=fi dV ho q (by simpa using hoq);have g1:=hst.reownAt (x':=.c (.ex (cur.getD k undef))) (o':=none) hb lV h1 h2 hk rfl (.inl rfl) (.ofC h4.exact);have g2:=g1.put q hqn (v:=a.tmps.getD q undef) (x:=.gg (cur.getD k undef) _ _) (o:=ob (.b b k)) (by simp only[LR];exact h4) (λc hc=>by
   refine⟨hst.obnd _ c hc,λL hL=>?_,λi=>hst.obx _ c i hc⟩;simp only[upL] at hL;split at hL
   .cases hL
   .split at hL
    .cases hL
    .rename_i q1 q2;exact q2 (hst.oinj _ _ c hL hc))
  rw[mO (by rw[hst.size];exact hqn)] at g2;exact ih _ (λu hu=>(h3 u hu).symm) h4.gsV ⟨_,_,_,g2⟩
 |@box s b k g e sz es hb lV hk _ ih=>
  obtain⟨I,β,ob,hst⟩:=cM;obtain⟨blk,cur,h1,h2,h3,h4⟩:=hst.gsCell hb lV hk;rcases h4 with⟨_,hE,_⟩ | ⟨e',blk2,cap,row,sz',r1,r2,r3,r4,r5,r6,r7,r8,r9,r10,r11,r12⟩
  .cases hE
  cases r2;have rm:k<(s.bx b).length:=(am.1 hk).1;have g1:=hst.reownAt (x':=.un) (o':=none) hb lV h1 h2 hk rfl (.inl rfl) (by simp only[LR];exact .un _);have nq:=bZ es r9;have fO:=bf sz r6;have g2:=g1.adopt (T:=.of e) (cs:=es.flatten) r4 r5 RT.of_ok r11 (by omega) r10 (aaa hst r1) (λi=>hst.obx _ _ i r1) r12;have hbn:b≠s.nb:=by omega
  have WG:dE ((s.bx b).set k .un)=false:=by
   unfold dE at lV ⊢
   by_cases um:k=0
   .subst um
    have:((s.bx b).set 0 .un).getD 0 .un=.un:=(by simp[List.getD,rm]);rw[this];rfl
   .have:((s.bx b).set k .un).getD 0 .un=(s.bx b).getD 0 .un:=by simp[List.getD,dz um]
    rw[this];exact lV
  have GR:({ fr:=s.fr,bx:=up (up s.bx b ((s.bx b).set k .un)) s.nb (es.flatten.map .c),nb:=s.nb+1 }:S).bx b=(s.bx b).set k .un:=by show up (up s.bx b _) s.nb _ b=_;rw[dp _ _ hbn,cG]
  have JG:up β s.nb (some blk2) b=some blk:=by rw[dp _ _ hbn];exact h1
  have g3:=g2.reownAt (b:=b) (k:=k) (blk:=blk) (cur:=cur) (x:=.un) (x':=.ms s.nb 0 es.length es.length sz) (o':=none) (by show b<s.nb+1;omega) (by rw[GR];exact WG) JG (by
   rw[GR];refine h2.congr (by simp) ?_;rw[iz lV,iz WG]) (by rw[GR];simp[rm]) rfl (.inl rfl) (by
   simp only[LR];exact⟨ai _,blk2,0,cap,r6,cG _ _ _,.inr rfl,r3⟩)
  rw[GR] at g3;have wi:({ fr:=s.fr,bx:=up (up (up s.bx b ((s.bx b).set k .un)) s.nb (es.flatten.map .c)) b (((s.bx b).set k .un).set k (.ms s.nb 0 es.length es.length sz)),nb:=s.nb+1 }:S)=
   ⟨s.fr,up (up s.bx b ((s.bx b).set k (.ms s.nb 0 es.length es.length sz))) s.nb (es.flatten.map .c),s.nb+1⟩:=by
   congr 1;rw[List.set_set];funext i;simp only[up];by_cases hi:i=b
   .subst hi;simp[hbn]
   .simp[hi]
  have g4:SE G n I0 M w0 _ a w:=⟨_,_,_,g3⟩;exact ih (by rw[<- wi];exact g4)
 |@boxT s t g e sz es ht _ ih=>
  obtain⟨I,β,ob,hst⟩:=cM;have hx:=hst.fr t;rw[ht] at hx;rcases hx.gsO.2 with⟨_,hE,_⟩ | ⟨e',blk2,cap,row,sz',r1,r2,r3,r4,r5,r6,r7,r8,r9,r10,r11,r12⟩
  .cases hE
  cases r2;have yU:t<n:=by
   rcases cd t n with h' | h'
   .exact h'
   .exfalso
    have e0:a.tmps.getD t undef=undef:=(by rw[au,dx (by rw[hst.size];exact h')];rfl);rw[e0] at r3;simp[undef] at r3
  have nq:=bZ es r9;have fO:=bf sz r6;have g2:=(hst.clr t).adopt (T:=.of e) (cs:=es.flatten) r4 r5 RT.of_ok r11 (by omega) r10 (aaa hst r1) (λi=>hst.obx _ _ i r1) r12;have g3:=g2.put t yU (v:=a.tmps.getD t undef) (x:=.ms s.nb 0 es.length es.length sz) (o:=none) (by simp only[LR];exact⟨ai _,blk2,0,cap,r6,cG _ _ _,.inr rfl,r3⟩) FreeOb.nothing;rw[mO (by rw[hst.size];exact yU)] at g3;have wi:(({ s.clr t with bx:=up s.bx s.nb (es.flatten.map .c),nb:=s.nb+1 }:S).put (some t) (.ms s.nb 0 es.length es.length sz))=⟨up s.fr t (.ms s.nb 0 es.length es.length sz),up s.bx s.nb (es.flatten.map .c),s.nb+1⟩:=by simp only[S.put,S.clr];congr 1;funext r;simp only[up];split<;>rfl
  have g4:SE G n I0 M w0 _ a w:=⟨_,_,_,g3⟩;exact ih (by rw[<- wi];exact g4)
 |@cool s b k g E es hb hk _ ih=>
  obtain⟨I,β,ob,hst⟩:=cM;cases j9:ob (.b b k) with
  |none=>
   refine ih (hst.reword hb hk rfl rfl λcur hx=>?_);rcases hx.gsO.2 with⟨h1,h2,h3,a,h4⟩ | ⟨_,_,_,_,_,h1,_⟩
   .subst h2;subst h3
    rw[h4];exact⟨.nil a 0 (λ_=>rfl),.inl ⟨h1,rfl,a,rfl⟩⟩
   .rw[j9] at h1;cases h1
  |some blk=>
   obtain⟨b1,cur,e1,e2,e3,e4,e5,e7⟩:=hst.bx b hb;have h5:=e5 k;have qK:(s.bx b).getD k .un=.gs g E es:=(by simp[List.getD,hk]);rw[qK,j9] at h5;obtain⟨I',i1,i2,i3⟩:=h5.gsO.2.cool;refine ih ⟨I',β,ob,hst.recell hb hk rfl rfl j9 (wy w _) (λ_ _=>rfl) i1 (λb o h=>(i2 b o h).imp_right λh=>by cases h;rfl) λb2 cur2 f1 f2 f3=>?_⟩;rcases f3.gsO.2 with⟨h1,_⟩ | ⟨e,sj,cap,row,sz,r1,r2,r3,r4,r5,r6,r7,r8,r9,r10,r11,r12⟩
   .cases h1
   .obtain⟨j1,j2⟩:=i3
    rcases j2 with⟨h1,_⟩ | ⟨_,_,_,_,_,q1,q2,q3,q4,q5,q6,q7,q8,q9,q10⟩
    .cases h1
    .cases r1;cases q1
     rw[r2] at q2;cases q2;rw[r5] at q5;simp only[ap,Obj.cells.injEq,ip] at q5;subst q5;have CS:CR I' w (cur2.getD k undef) (.sl es):=by
      rw[r3];rw[q3] at j1;have lv:∀ c1 c2:Nat,es.length<=c2->CR I' w (.slice (some ⟨blk,0,none⟩) es.length c1) (.sl es)->CR I' w (.slice (some ⟨blk,0,none⟩) es.length c2) (.sl es):=λc1 c2 hc h=>by
       rcases h.sl_inv with⟨⟨_,_,h1,_⟩,h2⟩ | ⟨b',off,cap',sz',f,hv,a1,a2,a3,a4⟩
       .subst h2;exact .nil _ _ (λh=>by cases h)
       .simp only[fN,ap,kM,ip,bX] at hv
        obtain⟨⟨rfl,rfl⟩,rfl⟩:=hv;exact .sl _ _ _ _ _ f hc a2 a3 a4
      exact lv _ _ r6 j1
     exact⟨CS,.inr ⟨e,blk,cap,row,sz,rfl,r2,r3,r4,r5,r6,r7,r8,r9,q10⟩⟩
 |@splitB s t b k g E es x ht hb lV hk _ ih=>
  obtain⟨I,β,ob,hst⟩:=cM;have hx:=hst.fr t;rw[ht] at hx;obtain⟨hg,lx⟩:=hx.gsO;have yU:t<n:=by
   rcases cd t n with h' | h'
   .exact h'
   .exfalso
    have e0:a.tmps.getD t undef=undef:=(by rw[au,dx (by rw[hst.size];exact h')];rfl);rw[e0] at lx;rcases lx with⟨_,_,_,_,h1⟩ | ⟨_,_,_,_,_,_,_,h1,_⟩<;>simp[undef] at h1
  obtain⟨blk,cur,hβ,h2,h3⟩:∃ blk cur,β b=some blk/\HB w blk cur (s.bx b)/\True:=by obtain⟨b1,cur,e1,e2,e3,_⟩:=hst.bx b hb;exact⟨b1,cur,e1,e3,trivial⟩
  have rm:k<(s.bx b).length:=(am.1 hk).1;have g1:=(hst.clr t).reownAt (b:=b) (k:=k) (x':=.un) (o':=none) hb lV hβ h2 hk rfl (.inl rfl) (by simp only[LR];exact .un _);have g2:=g1.put t yU (v:=a.tmps.getD t undef) (x:=.c (.ex (a.tmps.getD t undef))) (o:=none) (.ofC lx.exact) FreeOb.nothing;rw[mO (by rw[hst.size];exact yU)] at g2;have WG:dE ((s.bx b).set k .un)=false:=by
   unfold dE at lV ⊢
   by_cases um:k=0
   .subst um
    have:((s.bx b).set 0 .un).getD 0 .un=.un:=(by simp[List.getD,rm]);rw[this];rfl
   .have:((s.bx b).set k .un).getD 0 .un=(s.bx b).getD 0 .un:=by simp[List.getD,dz um]
    rw[this];exact lV
  have GR:(({ s.clr t with bx:=up (s.clr t).bx b (((s.clr t).bx b).set k .un) }:S).put (some t) (.c (.ex (a.tmps.getD t undef)))).bx b=(s.bx b).set k .un:=by show up s.bx b ((s.bx b).set k .un) b=_;rw[cG]
  have g3:=g2.giveCell (b:=b) (k:=k) (blk:=blk) (cur:=cur) (x':=.gg (a.tmps.getD t undef) E es) (o':=ob (.t t)) hb (by rw[GR];exact WG) hβ (by
   rw[GR];refine h2.congr (by simp) ?_;rw[iz lV,iz WG]) (by rw[GR];simpa using rm) rfl (λc hc=>by
   refine⟨hst.obnd _ c hc,λL hL=>?_,λi=>hst.obx _ c i hc⟩;simp only[upL] at hL
   repeat' (split at hL)
   all_goals first
    |(cases hL;done)
    |(exact ‹¬ L=Loc.t t› (hst.oinj _ _ c hL hc))) (by simp only[LR];exact lx)
  rw[GR] at g3;have g4:SE G n I0 M w0 ⟨up s.fr t (.c (.ex (a.tmps.getD t undef))),up s.bx b ((s.bx b).set k (.gg (a.tmps.getD t undef) E es)),s.nb⟩ a w:=by
   have g5:SE G n I0 M w0 _ a w:=⟨_,_,_,g3⟩;have e1:∀ s1 s2:S,s1=s2->SE G n I0 M w0 s1 a w->SE G n I0 M w0 s2 a w:=λs1 s2 e h=>e▸h;refine e1 _ _ ?_ g5;simp only[S.put,S.clr,List.set_set];congr 1
   .funext r;simp only[up];split<;>rfl
   .funext r;simp only[up];split<;>rfl
  exact ih _ (λu hu=>(hg u hu).symm) lx.gsV g4
 |@join s b k b' k' v E es hb lV hk wj hmb' gu GQ _ ih=>
  obtain⟨I,β,ob,hst⟩:=cM;obtain⟨b1,cur1,e1,e2,e3,e4,e5,e7⟩:=hst.bx b hb;have hv:=e5 k;have qK:(s.bx b).getD k .un=.c (.ex v):=by simp[List.getD,hk]
  rw[qK] at hv;have hv:=hv.toC.ex_inv;obtain⟨b2,cur2,f1,f2,f3,f4,f5,f7⟩:=hst.bx b' wj;have lx:=f5 k';have WH:(s.bx b').getD k' .un=.gg v E es:=by simp[List.getD,GQ]
  rw[WH] at lx;have lx:OwnG (Wr M w0) I w E es (ob (.b b' k')) v:=lx;have g1:=hst.reownAt (b:=b') (k:=k') (x':=.un) (o':=none) wj hmb' f1 f3 GQ rfl (.inl rfl) (by simp only[LR];exact .un _);have ul:({ s with bx:=up s.bx b' ((s.bx b').set k' .un) }:S).bx b=s.bx b:=dp _ _ gu
  have g2:=g1.giveCell (b:=b) (k:=k) (blk:=b1) (cur:=cur1) (x':=.gs (some v) E es) (o':=ob (.b b' k')) hb (by rw[ul];exact lV) e1 (by rw[ul];exact e3) (by rw[ul];exact(am.1 hk).1) rfl (λc hc=>by
   refine⟨hst.obnd _ c hc,λL hL=>?_,λi=>hst.obx _ c i hc⟩;simp only[upL] at hL;split at hL
   .cases hL
   .rename_i q1;exact q1 (hst.oinj _ _ c hL hc)) (by rw[hv];exact⟨λu hu=>by cases hu;rfl,lx⟩)
  rw[ul] at g2;exact ih ⟨_,_,_,g2⟩
 |@splitC s b k b' k' E es x hb lV hk wj hmb' gu GQ _ ih=>
  obtain⟨I,β,ob,hst⟩:=cM;obtain⟨b1,cur1,e1,e2,e3,e4,e5,e7⟩:=hst.bx b hb;have lx:=e5 k;have qK:(s.bx b).getD k .un=.ow E es:=by simp[List.getD,hk]
  rw[qK] at lx;have lx:OwnR (Wr M w0) I w E es (ob (.b b k)) (cur1.getD k undef):=lx;obtain⟨b2,cur2,f1,f2,f3,f4,f5,f7⟩:=hst.bx b' wj;have g1:=hst.reownAt (b:=b) (k:=k) (x':=.c (.ex (cur1.getD k undef))) (o':=none) hb lV e1 e3 hk rfl (.inl rfl) (.ofC (.ex _ lx.1.oneCell lx.1.notAgg));have ul:({ s with bx:=up s.bx b ((s.bx b).set k (.c (.ex (cur1.getD k undef)))) }:S).bx b'=s.bx b':=dp _ _ (gz gu)
  have g2:=g1.giveCell (b:=b') (k:=k') (blk:=b2) (cur:=cur2) (x':=.gh (cur1.getD k undef) E es) (o':=ob (.b b k)) wj (by rw[ul];exact hmb') f1 (by rw[ul];exact f3) (by rw[ul];exact(am.1 GQ).1) rfl (λc hc=>by
   refine⟨hst.obnd _ c hc,λL hL=>?_,λi=>hst.obx _ c i hc⟩;simp only[upL] at hL;split at hL
   .cases hL
   .rename_i q1;exact q1 (hst.oinj _ _ c hL hc)) (by simp only[LR];exact lx)
  rw[ul] at g2;exact ih _ ⟨_,_,_,g2⟩
 |@joinO s b k b' k' v E es hb lV hk wj hmb' gu GQ _ ih=>
  obtain⟨I,β,ob,hst⟩:=cM;obtain⟨b1,cur1,e1,e2,e3,e4,e5,e7⟩:=hst.bx b hb;have hv:=e5 k;have qK:(s.bx b).getD k .un=.c (.ex v):=by simp[List.getD,hk]
  rw[qK] at hv;have hv:=hv.toC.ex_inv;obtain⟨b2,cur2,f1,f2,f3,f4,f5,f7⟩:=hst.bx b' wj;have lx:=f5 k';have WH:(s.bx b').getD k' .un=.gh v E es:=by simp[List.getD,GQ]
  rw[WH] at lx;have lx:OwnR (Wr M w0) I w E es (ob (.b b' k')) v:=lx;have g1:=hst.reownAt (b:=b') (k:=k') (x':=.un) (o':=none) wj hmb' f1 f3 GQ rfl (.inl rfl) (by simp only[LR];exact .un _);have ul:({ s with bx:=up s.bx b' ((s.bx b').set k' .un) }:S).bx b=s.bx b:=dp _ _ gu
  have g2:=g1.giveCell (b:=b) (k:=k) (blk:=b1) (cur:=cur1) (x':=.ow E es) (o':=ob (.b b' k')) hb (by rw[ul];exact lV) e1 (by rw[ul];exact e3) (by rw[ul];exact(am.1 hk).1) rfl (λc hc=>by
   refine⟨hst.obnd _ c hc,λL hL=>?_,λi=>hst.obx _ c i hc⟩;simp only[upL] at hL;split at hL
   .cases hL
   .rename_i q1;exact q1 (hst.oinj _ _ c hL hc)) (by rw[hv];exact lx)
  rw[ul] at g2;exact ih ⟨_,_,_,g2⟩
 |@coolT s t g E es ht _ ih=>
  obtain⟨I,β,ob,hst⟩:=cM;have hx:=hst.fr t;rw[ht] at hx;have lx:=hx.gsO.2;have yU:t<n:=by
   rcases cd t n with h' | h'
   .exact h'
   .exfalso
    have e0:a.tmps.getD t undef=undef:=(by rw[au,dx (by rw[hst.size];exact h')];rfl);rw[e0] at lx;rcases lx with⟨_,_,_,_,h1⟩ | ⟨_,_,_,_,_,_,_,h1,_⟩<;>simp[undef] at h1
  obtain⟨I',i1,i2,i3⟩:=lx.cool;have wi:((s.clr t).put (some t) (.ow E es))=⟨up s.fr t (.ow E es),s.bx,s.nb⟩:=by simp only[S.put,S.clr];congr 1;funext r;simp only[up];split<;>rfl
  cases j9:ob (.t t) with
  |none=>
   have hII:∀ b k,I' b k->I b k:=λb k h=>by
    rcases i2 b k h with h | h
    .exact h
    .rw[j9] at h;cases h
   have g3:=(hst.clr t).put t yU (v:=a.tmps.getD t undef) (x:=.ow E es) (o:=none) (by simp only[LR];rw[j9] at i3;exact i3.mono (λb o h=>⟨hII b o h,rfl⟩) (λb h=>by cases h)) FreeOb.nothing;rw[mO (by rw[hst.size];exact yU),wi] at g3;exact ih ⟨_,_,_,g3⟩
  |some blk=>
   obtain⟨k1,k2⟩:=hst.obnd _ _ j9;have g2:=(hst.clr t).growRow (w':=w) (r:=blk) (wy w _) k2 (λ_ _=>rfl) (aaa hst j9) (λi=>hst.obx _ _ i j9) i1 (λb o h=>(i2 b o h).imp_right λh=>by rw[j9] at h;cases h;rfl) k1;have g3:=g2.put t yU (v:=a.tmps.getD t undef) (x:=.ow E es) (o:=some blk) (by simp only[LR];rw[j9] at i3;exact i3) (λc hc=>by
    cases hc;refine⟨⟨k1,k2⟩,λL hL=>aaa hst j9 L ?_,λi=>hst.obx _ _ i j9⟩;simp only[upL] at hL ⊢
    split at hL
    .cases hL
    .first
     |exact hL
     |(rw[if_neg ‹_›];exact hL))
   rw[mO (by rw[hst.size];exact yU),wi] at g3;exact ih ⟨_,_,_,g3⟩
 |@joinT s b k t blk len m cap e sz es hb lV hk ht fO _ ih=>
  obtain⟨I,β,ob,hst⟩:=cM;obtain⟨b1,cur1,e1,e2,e3,e4,e5,e7⟩:=hst.bx b hb;have hv:=e5 k;have qK:(s.bx b).getD k .un=.c (.ex (.slice (some ⟨blk,0,none⟩) m cap)):=by simp[List.getD,hk]
  rw[qK] at hv;have hv:=hv.toC.ex_inv;have hx:=hst.fr t;rw[ht] at hx;have lx:OwnG (Wr M w0) I w (some (e,sz)) es (ob (.t t)) (.slice (some ⟨blk,0,none⟩) len cap):=hx;rcases lx with⟨_,hE,_⟩ | ⟨e',blk2,cap2,row,sz',r1,r2,r3,r4,r5,r6,r7,r8,r9,r10,r11,r12⟩
  .cases hE
  cases r2;simp only[fN,ap,kM,ip] at r3;obtain⟨rfl,rfl,rfl⟩:=r3;have QQ:(es.take m).length=m:=by rw[bb];omega
  have ajX:OwnG (Wr M w0) I w (some (e,sz)) (es.take m) (ob (.t t)) (.slice (some ⟨blk,0,none⟩) m cap):=by
   refine .inr ⟨e,blk,cap,row,sz,r1,rfl,by rw[QQ],r4,r5,by omega,r7,r8,λx hx=>r9 x (cX hx),λj c hj=>?_,r11,r12⟩;refine r10 j c ?_;have hp:(es.take m).flatten <+: es.flatten:=by
    conv=>rhs;rw[<- dQ m es,fh]
    exact List.prefix_append _ _
   obtain⟨u,hu⟩:=hp;rw[<- hu,aM (am.1 hj).1];exact hj
  have g1:=hst.clr t;have g2:=g1.giveCell (b:=b) (k:=k) (blk:=b1) (cur:=cur1) (x':=.gs (some (.slice (some ⟨blk,0,none⟩) m cap)) (some (e,sz)) (es.take m)) (o':=ob (.t t)) hb lV e1 e3 (am.1 hk).1 rfl (λc hc=>by
   refine⟨hst.obnd _ c hc,λL hL=>?_,λi=>hst.obx _ c i hc⟩;simp only[upL] at hL;split at hL
   .cases hL
   .rename_i q1;exact q1 (hst.oinj _ _ c hL hc)) (by rw[hv];exact⟨λu hu=>by cases hu;rfl,ajX⟩)
  exact ih ⟨_,_,_,g2⟩
theorem Dg {id:Nat} {ops:Array Oper} {K:S->Prop} (dV:jN n ops=true) (h:spl tr id ops s K) (cM:SE G n I0 M w0 s a w):∃ s',K s'/\SE G n I0 M w0 s' a w:=by
 unfold spl at h;split at h
 .obtain⟨I,β,ob,hst⟩:=cM
  rcases h with⟨b,k,q,E,es,⟨h1,h2,h3⟩,h⟩ | h | h | h
  .rw[dN] at h3
   obtain⟨o,ho,hq⟩:=h3;obtain⟨v,hv⟩:=hst.split h1 h2 (fi dV ho q (by simpa using hq));exact⟨_,h v,hv⟩
  .exact h.elim
  .exact h.elim
  .exact o7 dV h ⟨_,_,_,hst⟩
 .exact⟨s,h,cM⟩
theorem zg {ops:Array Oper} {Q:Exit->Act->World->Prop} {K:S->Prop} (dV:jN n ops=true) (hA:∀ (k:Nat) (o:Oper),ops[k]?=some o->lL tr o=false) (hK:∀ a w s,K s->SE G n I0 M w0 s a w->Q .normal a w):∀ (fuel:Nat) (listed:Array Bool) (s:S) (a:Act) (w:World),
 nS P G tr ops K fuel listed s->SE G n I0 M w0 s a w->wpAny P .any ops Q fuel listed a w
 |0,_,_,_,_,h,cM=>by obtain⟨s',h1,h2⟩:=o7 dV h.2 cM;exact⟨h.1,hK _ _ _ h1 h2⟩
 |fuel+1,listed,s,a,w,h,cM=>by obtain⟨gu,h⟩:=h;obtain⟨s',h1,h2⟩:=o7 dV h cM;refine⟨λh0=>absurd h0 gu,λi hi=>?_⟩;obtain⟨o,ho,hh⟩:=h1 i hi;obtain⟨e,he,hK'⟩:=gw (K:=nS P G tr ops K fuel (listed.setIfInBounds i true)) (hA i o ho) hh;exact MA dV ho he h2 hK' λa w s hs cM=>zg dV hA hK fuel _ s a w hs cM
def Xa (tr:List Nat) (id:Nat) (ops:Array Oper):Bool:=ops.toList.all (λo=>!lL tr o)&&decide (apN tr id ops<=ops.size)&&decide (kC tr ops (List.range (apN tr id ops)) (Array.replicate ops.size false)=some (oO (apN tr id ops) ops.size))&&wM ops (apN tr id ops)
theorem Cz {id:Nat} {ops:Array Oper} {Q:Exit->Act->World->Prop} {K:S->Prop} (dV:jN n ops=true) (vA:Xa tr id ops=true) (hK:∀ a w s,K s->SE G n I0 M w0 s a w->Q .normal a w)
 (WV:Ev tr id=false) (h:vpa P G tr id ops K s) (cM:SE G n I0 M w0 s a w):wpAny P .any ops Q ops.size (Array.replicate ops.size false) a { w with drawn:=w.drawn+1 }:=by
 unfold Xa at vA;simp only[aA,a8,d5,br] at vA;obtain⟨⟨⟨hA,ej⟩,wh⟩,QJ⟩:=vA;have WT:∀ (k:Nat) (o:Oper),ops[k]?=some o->lL tr o=false:=λk o ho=>hA o (by have:=fj ho;simpa using this);have nJ:SE G n I0 M w0 s a { w with drawn:=w.drawn+1 }:=by obtain⟨I,β,ob,hst⟩:=cM;exact⟨I,β,ob,hst.drew⟩
 unfold vpa at h;rw[WV] at h;obtain⟨s',h1,h2⟩:=o7 dV h nJ;have JI:jZ ops (List.range (apN tr id ops))=ops.toList.take (apN tr id ops):=by rw[eP,pw 0 _ (by omega)];rfl
 rw[<- JI] at h1;have h3:=Df QJ (List.range (apN tr id ops)) (Array.replicate ops.size false) s' (by simp) (λk hk=>⟨ops[k]'(by have:=df.1 hk;omega),aF _,WT k _ (aF _)⟩) wh h1;have h4:=tB (Q:=Q) dV (λa w s hs cM=>zg dV WT hK _ _ s a w hs cM) _ _ _ _ _ h3 h2;rw[jC,Nat.sub_add_cancel ej] at h4;exact h4
theorem Fb {ops:Array Oper} {Q:Exit->Act->World->Prop} {l:Option Nat} {m:Nat} {id:Nat} (hm:P.follows .mixedOrders=true) (qw:AZ ops=true) (dV:jN n ops=true) (vA:Xa tr id ops=true) {K:S->Prop} (hK:∀ a w s,K s->SE G n I0 M w0 s a w->Q .normal a w)
 (WV:Ev tr id=false) (h:vpa P G tr id ops K s) (cM:SE G n I0 M w0 s a w):(Code.region id ops true).wpIn (FW l) m P Q a w:=
 wpIn_mono (Q:=MB Q) (wpIn_region_any hm (wA qw yt _ _ _ _ (Cz dV vA (λa w s hk cM=>⟨rfl,hK a w s hk cM⟩) WV h cM))) (λ_ _ _ h=>h.2)
theorem vH {Q:Exit->Act->World->Prop} {l:Option Nat} {m:Nat} {ops:Array Oper} (dV:jN n ops=true) {K:S->Prop} (hK:∀ a w s,K s->SE G n I0 M w0 s a w->Q .normal a w):∀ (ls:List Oper) (k:Nat),ops.toList.drop k=ls->∀ (s:S) (a:Act) (w:World),
 zS P G tr ops K ls s->SE G n I0 M w0 s a w->wpOpsIn (FW l) m P ops Q (List.range' k ls.length) a w
 |[],k,_,s,a,w,h,cM=>by simp only[aL,List.range'_zero,wpOpsIn];obtain⟨s',h1,h2⟩:=o7 dV h cM;exact hK _ _ _ h1 h2
 |o::ls,k,hl,s,a,w,h,cM=>by
  have ng:ops[k]?=some o:=by have:(ops.toList.drop k)[0]?=some o:=(by rw[hl];rfl);rw[cn] at this;simpa using this
  have JO:ops.toList.drop (k+1)=ls:=by rw[<- fS,hl];rfl
  have jL:o∈ops.toList:=cY (i:=k) (by rw[hl];simp);obtain⟨s,h,cM⟩:=o7 dV h cM;obtain⟨I,β,ob,hst⟩:=cM;simp only[aI,jh,wpOpsIn,ng];rcases rF hst h with⟨hw,h⟩ | ⟨hw,h⟩
  .rw[if_pos hw]
   refine u9 (tr:=tr) hst (fi dV jL) h λa' w' s' xP nJ=>?_;exact vH dV hK ls (k+1) JO s' a' w' xP nJ
  .rw[hw]
   simp only[ay,cD];exact⟨λ_ _=>trivial,vH dV hK ls (k+1) JO _ _ w h (SE.put hst (fi dV jL) (by simp only[LR];exact .sk))⟩
theorem Fc {ops:Array Oper} {Q:Exit->Act->World->Prop} {l:Option Nat} {m:Nat} {id:Nat} (dV:jN n ops=true) {K:S->Prop} (hK:∀ a w s,K s->SE G n I0 M w0 s a w->Q .normal a w)
 (WV:Ev tr id=true) (h:vpa P G tr id ops K s) (cM:SE G n I0 M w0 s a w):(Code.region id ops false).wpIn (FW l) m P Q a w:=by
 unfold vpa at h;rw[if_pos WV] at h;refine wpIn_region ?_;have:=vH (Q:=Q) (l:=l) (m:=m) dV hK ops.toList 0 rfl s a w h cM;rw[eP];simpa using this
structure Reb (T:Prop) (I0:Ft) (M:Mx) (w0:World) (I1:Ft) (M1:Mx) (w1:World) (rs:List Nat):Prop where
 bel:BelowM T M w0 w1
 wr:∀ b,Wr M1 w1 b->Wr M w0 b
 il:∀ b o,I0 b o->I1 b o
 kept:∀ b o,I0 b o->w1.cell? ⟨b,o,none⟩=w0.cell? ⟨b,o,none⟩
 ih:∀ b o,I1 b o->I0 b o∨Wr M w0 b
 e:M1.e=M.e
 d:M1.d=rs.map mkD++M.d
 nd:rs.Nodup
 r:∀ r∈rs,¬ Wr M1 w1 r/\Wr M w0 r/\(∀ o,¬ I1 r o)/\w1.heap[r]?=some (Obj.deferred (some []))
theorem Reb.refl:Reb (GT G) I0 M w0 I0 M w0 []:=⟨BelowM.refl _ _,λ_ h=>h,λ_ _ h=>h,λ_ _ _=>rfl,λ_ _ h=>.inl h,rfl,rfl,ir,by simp⟩
variable {I1:Ft} {M1:Mx} {w1:World} {rs:List Nat}
theorem Reb.notWr (h:St G n I1 M1 w1 I β ob s a w) {r:Nat} (hr:¬ Wr M1 w1 r):(∀ L,ob L≠some r)/\(∀ i,β i≠some r)/\r<w1.heap.size/\¬ M1.m r:=by
 refine⟨λL hL=>hr (h.obnd L r hL).2,λi hi=>?_,?_,λhm=>hr (.inr hm)⟩
 .exact hr (h.boxblk hi).2.1
 .rcases cd r w1.heap.size with h1 | h1
  .exact h1
  .exact absurd (.inl h1) hr
theorem St.back (hr:Reb (GT G) I0 M w0 I1 M1 w1 rs) (h:St G n I1 M1 w1 I β ob s a w):St G n I0 M w0 I β ob s { a with defers:=M.d } w where
 size:=h.size
 defers:=rfl
 below:=⟨h.below.os.trans hr.bel.os,h.below.tape.trans hr.bel.tape,h.below.output.trans hr.bel.output,ci hr.bel.size h.below.size,λk hk hM=>
  (h.below.block k (co hk hr.bel.size) (λh1=>by
   rcases hr.wr k (.inr h1) with h2 | h2
   .omega
   .exact hM h2)).trans (hr.bel.block k hk hM),λt=>ci (hr.bel.drawn t) (h.below.drawn t)⟩
 ilow:=λb o h0=>h.ilow b o (hr.il b o h0)
 kept:=λb o h0=>(h.kept b o (hr.il b o h0)).trans (hr.kept b o h0)
 ihigh:=λb o hb=>by
  rcases h.ihigh b o hb with h1 | h1
  .exact hr.ih b o h1
  .exact .inr (hr.wr b h1)
 ibnd:=h.ibnd
 fr:=λt=>(h.fr t).wider λb hb=>hr.wr b (h.obnd _ b hb).2
 bx:=λi hi=>by obtain⟨blk,cur,e1,e2,e3,e4,e5,e7⟩:=h.bx i hi;exact⟨blk,cur,e1,hr.wr blk e2,e3,e4,λj=>(e5 j).wider λb hb=>hr.wr b (h.obnd _ b hb).2,e7⟩
 bnone:=h.bnone
 ext:=λi b he=>h.ext i b (by rw[hr.e];exact he)
 bnew:=λi b hi=>.inr (hr.wr b (h.boxblk hi).2.1)
 binj:=h.binj
 oinj:=h.oinj
 obx:=h.obx
 obnd:=λL b hL=>⟨(h.obnd L b hL).1,hr.wr b (h.obnd L b hL).2⟩
 glob:=h.glob
theorem St.rebase (h:St G n I0 M w0 I β ob s a w) {r:Nat} (j9:∀ L,ob L≠some r) (hβ:∀ i,β i≠some r) :
 St G n I ⟨λb=>Wr M w0 b/\b≠r,M.e,mkD r::M.d⟩ w I β ob s { a with defers:=mkD r::a.defers } w where
 size:=h.size
 defers:=by rw[h.defers]
 below:=BelowM.refl _ _
 ilow:=λ_ _ h=>h
 kept:=λ_ _ _=>rfl
 ihigh:=λ_ _ h=>.inl h
 ibnd:=h.ibnd
 fr:=λt=>(h.fr t).wider λb hb=>.inr ⟨(h.obnd _ b hb).2,λe=>j9 _ (e▸hb)⟩
 bx:=λi hi=>by obtain⟨blk,cur,e1,e2,e3,e4,e5,e7⟩:=h.bx i hi;exact⟨blk,cur,e1,.inr ⟨e2,λe=>hβ i (e▸e1)⟩,e3,e4,λj=>(e5 j).wider λb hb=>.inr ⟨(h.obnd _ b hb).2,λe=>j9 _ (e▸hb)⟩,e7⟩
 bnone:=h.bnone
 ext:=h.ext
 bnew:=λi b hi=>.inr (.inr ⟨(h.boxblk hi).2.1,λe=>hβ i (e▸hi)⟩)
 binj:=h.binj
 oinj:=h.oinj
 obx:=h.obx
 obnd:=λL b hL=>⟨(h.obnd L b hL).1,.inr ⟨(h.obnd L b hL).2,λe=>j9 L (e▸hL)⟩⟩
 glob:=h.glob
theorem Reb.step (hr:Reb (GT G) I0 M w0 I1 M1 w1 rs) (h:St G n I1 M1 w1 I β ob s a w) {r:Nat} (hw:Wr M1 w1 r) (bF:r<w.heap.size) (hI:∀ o,¬ I r o) (hh:w.heap[r]?=some (Obj.deferred (some []))) :
 Reb (GT G) I0 M w0 I ⟨λb=>Wr M1 w1 b/\b≠r,M1.e,mkD r::M1.d⟩ w (r::rs) where
 bel:=(h.back hr).below
 wr:=λb hb=>by
  rcases hb with hb | hb
  .exact hr.wr b (.inl (ci h.below.size hb))
  .exact hr.wr b hb.1
 il:=λb o h0=>h.ilow b o (hr.il b o h0)
 kept:=λb o h0=>(h.kept b o (hr.il b o h0)).trans (hr.kept b o h0)
 ih:=(h.back hr).ihigh
 e:=hr.e
 d:=by rw[aN,dP,hr.d]
 nd:=List.nodup_cons.2 ⟨λhm=>(hr.r r hm).1 hw,hr.nd⟩
 r:=λq hq=>by
  rcases bI.1 hq with rfl | hq
  .refine⟨λhw'=>?_,hr.wr _ hw,hI,hh⟩
   rcases hw' with h1 | h1
   .omega
   .exact h1.2 rfl
  .obtain⟨q1,q2,q3,q4⟩:=hr.r q hq
   obtain⟨_,_,h3,h4⟩:=Reb.notWr h q1;refine⟨λhw'=>?_,q2,λo ho=>?_,(h.below.block q h3 h4).trans q4⟩
   .rcases hw' with h1 | h1
    .have:=h.below.size;omega
    .exact q1 h1.1
   .rcases h.ihigh q o ho with h1 | h1
    .exact q3 o h1
    .exact q1 h1
theorem Dh {F:Fence} {m:Nat} {fn:Func} {R:Ending->World->Prop} {a0:Act}:∀ (rs:List Nat) (w:World),rs.Nodup->(∀ r∈rs,(∀ L,ob L≠some r)/\(∀ i,β i≠some r)/\Wr M w0 r/\(∀ o,¬ I r o)/\w.heap[r]?=some (Obj.deferred (some [])))->
 St G n I0 M w0 I β ob s a0 w->(∀ w',St G n I0 M w0 I β ob s a0 w'->∃ v,(results fn a0.tmps).run P w'=.ok v w'/\R (.returned v) w')->LeavesInM F m P fn a0.tmps R (rs.map mkD) .returning w
 |[],w,_,_,h,hR=>hR w h
 |r::rs,w,qw,hr,h,hR=>by
  obtain⟨h1,h2,h3,h4,h5⟩:=hr r (aX ..);obtain⟨hnr,WI⟩:=List.nodup_cons.1 qw;have bF:r<w.heap.size:=(bq.1 h5).1;refine⟨by simp,.inl ⟨r,_,rfl,run_takeDeferred h5,?_⟩⟩;refine Dh rs _ WI (λq hq=>?_) ?_ hR
  .obtain⟨q1,q2,q3,q4,q5⟩:=hr q (aT _ hq)
   exact⟨q1,q2,q3,q4,(Go.World.putObj_heap_other (λ(e:q=r)=>hnr (e▸hq))).trans q5⟩
  .exact h.growRow (I':=I) (QV (grownBy_putObj' w r _) (ai _)) h3 (λo ho=>absurd ho (h4 o)) h1 h2 (λ_ _ h=>h) (λ_ _ h=>.inl h) (by rw[Go.World.putObj_size];exact bF)
theorem St.newObj (h:St G n I0 M w0 I β ob s a w) {o:Obj} {cs:List V} {cur:Array Value} (hHB:HB (w.alloc o) w.heap.size cur cs) (hl:cs.length<=cur.size)
 (hc:∀ j,LR (Wr M w0) I β w none (cur.getD j undef) (cs.getD j .un)) :
 St G n I0 M w0 I (up β s.nb (some w.heap.size)) (λL=>match L with | .b i j=>if i=s.nb then none else ob (.b i j) | L=>ob L)
  { s with bx:=up s.bx s.nb cs,nb:=s.nb+1 } a (w.alloc o):=by
 have hs:=h.allocOwn o;have hβ:∀ i b,β i=some b->up β s.nb (some w.heap.size) i=some b:=λi b hi=>by
  have:i≠s.nb:=λe=>by rw[h.bnone i (by omega)] at hi;cases hi
  rw[dp _ _ this];exact hi
 have j9:∀ (o':Option Nat),(∀ b,o'=some b->b<w.heap.size)->∀ b,o'=some b->(w.alloc o).heap[b]?=w.heap[b]?/\∀ k,I b k->I b k:=λo' ho b hb=>
  ⟨fc w _ b (ho b hb),λ_ h=>h⟩
 have hI:∀ b k,I b k->I b k/\(w.alloc o).cell? ⟨b,k,none⟩=w.cell? ⟨b,k,none⟩:=λb k hb=>⟨hb,eQ (a:=⟨b,k,none⟩) (fc w _ b (h.ibnd b k hb))⟩;have ji:=h.fresh (ai _);have key:∀ L b,(match L with | .b i j=>if i=s.nb then none else ob (.b i j) | L=>ob L)=some b->ob L=some b:=λL b hL=>by
  cases L with
  |t i=>exact hL
  |b i j=>
   simp only at hL;split at hL
   .cases hL
   .exact hL
 exact {
  size:=h.size,defers:=h.defers,below:=hs.below,kept:=hs.kept,ilow:=h.ilow,ihigh:=h.ihigh,ibnd:=hs.ibnd
  fr:=λt=>(h.fr t).mono hI hβ (j9 _ λb hb=>(h.obnd _ b hb).1)
  bx:=λi hi=>by
   by_cases f9:i=s.nb
   .subst f9
    refine⟨w.heap.size,cur,by simp,.inl h.below.size,by simpa only[cG] using hHB,by simpa only[cG] using hl,λj=>?_,λk hk=>?_⟩
    .simp only[cG,bY]
     exact(hc j).mono hI hβ (λb hb=>by cases hb)
    .have:=h.ibnd _ _ hk;omega
   .obtain⟨blk,cur',e1,e2,e3,e4,e5,e7⟩:=h.bx i (by simp only at hi;omega)
    have bF:blk<w.heap.size:=e3.lt;refine⟨blk,cur',hβ i blk e1,e2,by simpa only[dp _ _ f9] using e3.mono (fc w _ blk bF),by simpa only[dp _ _ f9] using e4,λj=>?_,e7⟩;simp only[dp _ _ f9,if_neg f9];exact(e5 j).mono hI hβ (j9 _ λb hb=>(h.obnd _ b hb).1)
  bnone:=λi hi=>by simp only at hi;rw[dp _ _ (by omega)];exact h.bnone i (by omega)
  ext:=λi b he=>hβ i b (h.ext i b he)
  bnew:=λi b hi=>by
   by_cases h1:i=s.nb
   .subst h1;rw[cG] at hi;cases hi;exact .inr (.inl h.below.size)
   .rw[dp _ _ h1] at hi;exact h.bnew i b hi
  binj:=λi j b hi hj=>by
   by_cases h1:i=s.nb<;>by_cases h2:j=s.nb
   .rw[h1,h2]
   .subst h1;rw[cG] at hi;cases hi;rw[dp _ _ h2] at hj;exact absurd hj (ji.2 j)
   .subst h2;rw[cG] at hj;cases hj;rw[dp _ _ h1] at hi;exact absurd hi (ji.2 i)
   .rw[dp _ _ h1] at hi;rw[dp _ _ h2] at hj;exact h.binj i j b hi hj
  oinj:=λL L' b hL xX=>h.oinj L L' b (key L b hL) (key L' b xX)
  obx:=λL b i hL hi=>by
   by_cases f9:i=s.nb
   .subst f9;rw[cG] at hi;cases hi
    exact ji.1 L (key L _ hL)
   .rw[dp _ _ f9] at hi
    exact h.obx L b i (key L b hL) hi
  obnd:=λL b hL=>by rw[fF];have:=h.obnd L b (key L b hL);exact⟨by omega,this.2⟩
  glob:=λg cs hg=>(h.glob g cs hg).mono hI }
theorem LR.toKR {ox:Option Nat} (h:LR base I β w ox v x) (hk:x.fz.isKR=true):KR I β w v x.fz:=by
 have h':=h.fz none;cases hx:x.fz<;>rw[hx] at h' hk<;>simp only[V.isKR] at hk<;>try cases hk
 .exact .inl rfl
 .exact .inr (.inr h'.toC)
 .simp only[LR] at h';exact .inr (.inl ⟨rfl,h'⟩)
 .simp only[LR] at h';exact .inr (.inr h')
 .simp only[LR] at h';exact .inr (.inr h')
 .simp only[LR] at h';exact .inr (.inr h')
 .simp only[LR] at h';exact .inr (.inr h')
def SX (G:Gl) (n:Nat) (tr:List Nat) (I0:Ft) (M:Mx) (w0:World) (s:S) (a:Act) (w:World):Prop:=
 ∃ I1 M1 w1 rs,Reb (GT G) I0 M w0 I1 M1 w1 rs/\(sZ tr=false->I1=I0/\M1=M/\w1=w0)/\SE G n I1 M1 w1 s a w
theorem SX.of (h:SE G n I0 M w0 s a w):SX G n tr I0 M w0 s a w:=⟨_,_,_,_,.refl,λ_=>⟨rfl,rfl,rfl⟩,h⟩
theorem SX.se (h:SX G n tr I0 M w0 s a w) (hr:sZ tr=false):SE G n I0 M w0 s a w:=by obtain⟨I1,M1,w1,rs,_,h1,h2⟩:=h;obtain⟨rfl,rfl,rfl⟩:=h1 hr;exact h2
theorem HH (hst:St G n I0 M w0 I β ob s a w) {f:FuncId} {vs:List Value} {all:List V} {ρ:List Nat} {cargs:List V} {b0:List (List V)} {R0:V->List (List V)->Prop} {R:Ending->World->Prop}
 (dV:FnE P G f cargs b0 R0) (cP:ArgsL (Wr M w0) I β w vs all) (dC:all.map V.fz=cargs.map (V.ren (rho ρ s.nb))) (hρ:ρ.length=b0.length/\ρ.Nodup) (f9:pV s.bx s.nb (rho ρ s.nb) 0 b0)
 (hk:∀ r b1,R0 r b1->∀ v w' I' β' ob',St G n I0 M w0 I' β' ob' { s with bx:=fC (rho ρ s.nb) 0 b1 s.bx,nb:=s.nb+(b1.length - b0.length) } a w'->(∀ i b,β i=some b->β' i=some b)->R (.returned v) w') :
 Calls P f vs.toArray w R:=by
 obtain⟨hρl,hn⟩:=hρ;obtain⟨Cg,kR,fO⟩:=dV.2.1;have hl:∀ i,i<ρ.length->ρ.getD i 0<s.nb:=λi hi=>by obtain⟨b,hb⟩:∃ b,b0[i]?=some b:=⟨_,ak (by omega)⟩;have:=(nW b0 0 i b f9 hb).1;rw[ao] at this;simpa[rho,hi] using this
 have pZ:=uw hn hl;have cH:all.length=cargs.length:=by simpa using kK List.length dC
 refine (dV.2.2 I ⟨Mof β ob (rho ρ s.nb) b0.length,λ_=>none,[]⟩ w vs.toArray (kB β (rho ρ s.nb) b0.length) (obC ob (rho ρ s.nb) b0.length) hst.ibnd hst.glob (hst.give pZ f9 kR)
  (by have:=cP.1;simp;omega) (λj x hx=>?_)).mono ?_
 .have hj:j<cargs.length:=(am.1 hx).1
  have hz:all[j]?=some all[j]:=ak (by omega);have h1:=cP.2 j _ hz;have h2:all[j].fz=x.ren (rho ρ s.nb):=by have e1:(all.map V.fz)[j]?=some all[j].fz:=(by simp[hz]);have e2:(cargs.map (V.ren (rho ρ s.nb)))[j]?=some (x.ren (rho ρ s.nb)):=(by simp[hx]);rw[dC,e2] at e1;exact(ew e1).symm
  rw[h2] at h1;have h3:=h1.ren (β':=kB β (rho ρ s.nb) b0.length) (Cg x (bn hx)) (λi b hi hb=>by simp[kB,hi,hb]);have h4:=h3.wider (base':=Wr ⟨Mof β ob (rho ρ s.nb) b0.length,λ_=>none,[]⟩ w) λb hb=>by cases hb
  simpa using h4
 .rintro e w' ⟨r,b1,hR,v,I',β',ob',o',rfl,oI,L8,JP,sN,QG,JG,pU,iR,ji⟩
  obtain⟨bP,_,_,_,_,nf⟩:=hst.called hρl hn f9 (fO r b1 hR) oI L8 JP sN QG JG pU;exact hk r b1 hR v w' _ _ _ bP nf
def VE.ex:VE->Exit
 | .normal=>.normal
 | .exit i=>.exit i
 | .ret=>.ret
theorem HI {f:Operand} {fv:V} {args:List V} {g:FuncId} {all:List V} (hc:eB fv args=some (g,all)) {ox:Option Nat} (hf:LR base I β w ox (a.eval f) fv) :
 ∃ vf vc:Array Value,a.eval f=.func (.func g) vf vc/\∀ us:List Value,ArgsL base I β w us args->ArgsL base I β w (vf.toList++us++vc.toList) all:=by
 unfold eB at hc;split at hc
 .rename_i g' fs cs
  simp only[ap,er] at hc;obtain⟨rfl,rfl⟩:=hc;obtain⟨vf,vc,hv,q1,q2,q3,q4⟩:=hf.toC.fn_inv;exact⟨vf,vc,hv,λus hu=>((nK vf fs q1 q3).append hu).append (nK vc cs q2 q4)⟩
 .rename_i g' fs cs
  simp only[ap,er] at hc;obtain⟨rfl,rfl⟩:=hc;simp only[LR] at hf;obtain⟨vf,vc,hv,q1,q2,q3,q4⟩:=hf;exact⟨vf,vc,hv,λus hu=>((nL vf fs q1 q3).append hu).append (nL vc cs q2 q4)⟩
 .cases hc
theorem Ow {m:Nat} {f:Operand} {ps:Array Tmp} {assign body:Code} {q:VE->S->Prop} (hn:rgN tr=n) (hQ:∀ e s a w,q e s->SX G n tr I0 M w0 s a w->Q e.ex a w)
 (h:vrg P G tr f ps assign body q s) (cM:SX G n tr I0 M w0 s a w):(Code.rangeFunc f ps assign body).wpIn (FW none) m P Q a w:=by
 obtain⟨sY,fl,nq,⟨g,all,lw⟩,h⟩:=h;obtain⟨I1,M1,w1,rs,sV,_,I,β,ob,hst⟩:=cM;have hA:=hst.allocOwn (Obj.deferred (some []));have ji:=hst.fresh (ai w.heap.size);have hre:=hA.rebase (r:=w.heap.size) ji.1 ji.2;have ahk:=sV.step hA (r:=w.heap.size) (.inl hst.below.size) (by rw[fF];omega) (λo ho=>by have:=hst.ibnd _ _ ho;omega) (iw w _);generalize hMd:(⟨λb=>Wr M1 w1 b/\b≠w.heap.size,M1.e,mkD w.heap.size::M1.d⟩:Mx)=M2 at *;have fnok:=lw;have h:mK P G { s with bx:=up s.bx s.nb [.lp (lp0 (rgN tr) ps assign body) fl],nb:=s.nb+1 } (ev G s f) [.yl s.nb] (λs' _=>N5 q s.nb s'):=by
  split at h
  .exact h
  .exact h.toR
 unfold mK at h;have ahl:eB (ev G s f) [.yl s.nb]=some (g,all):=lw;rw[ahl] at h;obtain⟨ρ,cargs,b0,R0,dV,dC,hρ,f9,hKR⟩:=h;obtain⟨fn,hf1,hf2,c,hf3⟩:=dV.1;refine wpIn_rangeFunc λfid _=>?_;have hB:=hre.newObj (o:=.loop { lp0 (rgN tr) ps assign body with fn:=fid,tmps:=a.tmps,defers:=w.heap.size }) (cs:=[.lp (lp0 (rgN tr) ps assign body) fl]) (cur:=#[.tuple a.tmps])
  ⟨fid,a.tmps,w.heap.size,⟨iw _ _,by rw[hst.size];exact hn.symm⟩,0,rfl⟩ (ai _) (λj=>by
   cases j with
   |zero=>
    show LR _ _ _ _ none (.tuple a.tmps) (.lp _ fl);simp only[LR];refine⟨a.tmps,rfl,λt x hx=>?_⟩;obtain⟨e1,e2⟩:=nq _ hx;simp only at e1 e2;rw[e1] at e2 ⊢
    exact(hre.fr t).toKR e2
   |succ j=>simp only[bg,List.getD_nil,LR];exact .un _)
 rw[fF] at hB;generalize hW2:(w.alloc (Obj.deferred (some []))).alloc (Obj.loop { lp0 (rgN tr) ps assign body with fn:=fid,tmps:=a.tmps,defers:=w.heap.size })=w2 at *
 generalize WS:({ s with bx:=up s.bx s.nb [.lp (lp0 (rgN tr) ps assign body) fl],nb:=s.nb+1 }:S)=s1 at *
 generalize ha1:({ a with defers:=mkD w.heap.size::a.defers }:Act)=a1 at *
 have Aj:ev G s1 f=ev G s f:=by rw[<- WS];cases f<;>rfl
 have hae:a1.eval f=a.eval f:=by rw[<- ha1];cases f<;>rfl
 have hf:=bM hB f;rw[Aj] at hf;obtain⟨vf,vc,hv,cP⟩:=HI lw hf;rw[hae] at hv;have hyl:∀ β':Nat->Option Nat,β' s.nb=some (w.heap.size+1)->LR (Wr M2 (w.alloc (Obj.deferred (some [])))) I β' w2 none (.func (.yield (w.heap.size+1)) #[] #[]) (.yl s.nb):=λβ' hβ=>by simp only[LR];exact⟨_,hβ,rfl⟩
 have hus:=cP [Value.func (.yield (w.heap.size+1)) #[] #[]] ⟨rfl,λj x hx=>by
  cases j with
  |zero=>simp at hx;subst hx;exact hyl _ (by rw[cG])
  |succ j=>simp at hx⟩
 have ajZ:fn.name≠ "runtime.NumGoroutine" :=by simpa using hf2
 refine⟨w.heap.size+1,[mkD w.heap.size],w2,{ target:=.fn (.func g) vc,args:=vf++#[Value.func (.yield (w.heap.size+1)) #[] #[]] },w2,g,
  (vf.toList++[Value.func (.yield (w.heap.size+1)) #[] #[]]++vc.toList).toArray,w2,?_,?_,λ_ _=>trivial,?_,λh=>(by cases h),po.2 ?_⟩
 .rw[<- hW2];exact run_enterLoop_outer _ _ _ _ _
 .simp only[resolve,hv]
  simp[go_sem]
 .have e:vf++#[Value.func (.yield (w.heap.size+1)) #[] #[]]++vc=(vf.toList++[Value.func (.yield (w.heap.size+1)) #[] #[]]++vc.toList).toArray:=by apply dt;simp
  rw[<- e];simp[invoke,callFunc,hf1,ajZ,hf3]
 .refine HH hB dV hus dC hρ f9 ?_
  intro r b1 hR0 v w3 I3 β3 ob3 wi nf;have hK:=hKR r b1 hR0;have hb0:β3 s.nb=some (w.heap.size+1):=nf _ _ (by rw[cG]);generalize hs2:({ s1 with bx:=fC (rho ρ s1.nb) 0 b1 s1.bx,nb:=s1.nb+(b1.length - b0.length) }:S)=s2 at *
  unfold N5 at hK;split at hK
  .rename_i L fl' gs pU
   obtain⟨aho,bF,hK⟩:=hK;obtain⟨blk,cur,e1,e2,e3,e4,e5,e7⟩:=wi.bx s.nb bF;rw[hb0] at e1;cases e1;rw[pU] at e3 e4 e5;obtain⟨f3,tm,d3,⟨h3,ej⟩,mg,rfl⟩:∃ (f:FuncId) (tm:Array Value) (d:Nat),(w3.heap[w.heap.size+1]?=some (.loop { L with fn:=f,tmps:=tm,defers:=d })/\tm.size=L.defers)/\∃ m:Nat,cur=#[Value.tuple tm]++Array.replicate m undef:=e3
   obtain⟨L3,hL3⟩:∃ L3:Loop,L3={ L with fn:=f3,tmps:=tm,defers:=d3 }:=⟨_,rfl⟩
   rw[<- hL3] at h3;have hp3:L3.pending=L.pending:=(by rw[hL3]);have bO:(Instr.endLoop (w.heap.size+1)).run P w3=.ok L.pending (w3.putObj (w.heap.size+1) (.loop { L3 with state:=.exhausted })):=by rw[<- hp3];exact run_endLoop h3 (by rw[hL3];exact aho)
   have aj1:=wi.reBox (o:=.loop { L3 with state:=.exhausted }) (l:=.lp { L with state:=.exhausted } fl'::gs) (cur:=#[Value.tuple tm]++Array.replicate mg undef) (od:=λj=>ob3 (.b s.nb j)) bF hb0
    ⟨f3,tm,d3,⟨by rw[hL3];exact nU (bq.1 h3).1,ej⟩,mg,rfl⟩ e4 (λj=>by
     have:=e5 j;cases j with
     |zero=>exact this
     |succ j=>exact this) (λj b hb=>hb)
   have hsx:SX G n tr I0 M w0 { s2 with bx:=up s2.bx s.nb (.lp { L with state:=.exhausted } fl'::gs) } a1 (World.putObj w3 (w.heap.size+1) (.loop { L3 with state:=.exhausted })):=
    ⟨_,_,_,_,ahk,(λh=>by rw[sY] at h;cases h),_,_,_,aj1⟩
   refine⟨L.pending,_,bO,?_⟩;have ha2:({ a with defers:=[mkD w.heap.size]++a.defers }:Act)=a1:=ha1
   rw[ha2];split at hK
   .rename_i hp;rw[hp];exact hQ .normal _ _ _ hK hsx
   .rename_i hp;rw[hp];exact wpIn_ret (hQ .ret _ _ _ hK hsx)
   .rename_i hp;rw[hp];exact wpIn_exit (hQ (.exit _) _ _ _ hK hsx)
   .exact hK.elim
  .exact hK.elim
end
section
variable {P:Program} {G:Gl} {tr:List Nat} {n:Nat} {I0:Ft} {M:Mx} {w0:World} {I:Ft} {β:Nat->Option Nat} {ob:Loc->Option Nat} {s:S} {a:Act} {w:World} {o:Oper}
 {Q:Exit->Act->World->Prop} {base:Nat->Prop} {v:Value} {x y:V}
def cok (n:Nat) (tr:List Nat):Code->Bool
 | .region id ops draw=>jN n ops&&AZ ops&&(if N6 tr id then(if Ev tr id then !draw else draw&&Xa tr id ops) else if N4 tr id then Q5 tr id&&draw&&Dd tr ops else(!draw||yq tr ops))
 | .seq a b=>cok n tr a&&cok n tr b
 | .cond _ a b=>cok n tr a&&cok n tr b
 | .block _ a=>cok n tr a
 | .loop a=>cok n tr a
 | .scope a=>cok n tr a
 | .rangeFunc _ _ _ _=>decide (rgN tr=n)
 |_=>true
theorem lE {k0:Nat} {l:Option Nat} {m:Nat} (hm:P.follows .mixedOrders=true) (qL:∀ i b,M.e i=some b->i<k0) (hl:l=none∨sZ tr=false):∀ (c:Code) (hc:cok n tr c=true) (q:VE->S->Prop) (Q:Exit->Act->World->Prop) (_hQ:∀ e s a w,q e s->SX G n tr I0 M w0 s a w->Q e.ex a w) (s:S) (a:Act) (w:World),
 gJ P G tr k0 c q s->SX G n tr I0 M w0 s a w->c.wpIn (FW l) m P Q a w:=by
 intro c;induction c with
 |skip=>intro _ q Q hQ s a w h cM;exact wpIn_skip (hQ .normal s a w h cM)
 |region id ops draw=>
  intro hc q Q hQ s a w h hsx;obtain⟨I1,M1,w1,rs,sV,nf,cM⟩:=hsx;have qL:∀ i b,M1.e i=some b->i<k0:=by rw[sV.e];exact qL
  have QL:∀ a w s,q .normal s->SE G n I1 M1 w1 s a w->Q .normal a w:=λa w s hk cM=>hQ .normal s a w hk ⟨I1,M1,w1,rs,sV,nf,cM⟩;simp only[gJ] at h;by_cases hpa:N6 tr id=true
  .simp only[cok,hpa,bY,aA] at hc
   obtain⟨⟨hd,qw⟩,hc⟩:=hc;rw[if_pos hpa] at h;by_cases WV:Ev tr id=true
   .rw[if_pos WV] at hc
    have JK:draw=false:=(by simpa using hc);subst JK;exact Fc hd QL WV h cM
   .rw[if_neg WV,aA] at hc
    obtain⟨JK,h2⟩:=hc;subst JK;exact Fb hm qw hd h2 QL (by simpa using WV) h cM
  rw[if_neg hpa] at h;by_cases htw:N4 tr id=true
  .simp only[cok,hpa,htw,bY,ay,cD,aA] at hc
   obtain⟨⟨hd,qw⟩,⟨Z7,JK⟩,h2⟩:=hc;rw[if_pos Z7] at h;obtain⟨s',fO,h⟩:=h;unfold vtw at h;rw[if_pos htw] at h;subst JK;exact Cy hm qw hd h2 QL h (cM.freeze qL fO)
  simp only[cok,hpa,htw,ay,cD,aA,dS,d5] at hc;obtain⟨⟨hd,qw⟩,hc⟩:=hc;obtain⟨s,h,cM⟩:∃ s,eU P G tr ops ops.toList s (q .normal)/\SE G n I1 M1 w1 s a w:=by
   split at h
   .obtain⟨s',fO,h⟩:=h
    unfold vtw at h;rw[if_neg htw] at h;exact⟨s',h,cM.freeze qL fO⟩
   .exact Dg hd h cM
  cases draw with
  |false=>refine wpIn_region ?_;have:=vE (Q:=Q) (l:=l) (m:=m) hd QL ops.toList 0 rfl s a w h cM;rw[eP];simpa using this
  |true=>exact Bf hm qw hd (hc.resolve_left (by simp)) QL h cM
 |seq x y ihx ihy=>
  intro hc q Q hQ s a w h cM;simp only[cok,aA] at hc;simp only[gJ] at h;refine wpIn_seq (ihx hc.1 _ _ (λe s a w hk cM=>?_) s a w h cM);cases e with
  |normal=>exact ihy hc.2 q Q hQ s a w hk cM
  |exit i=>exact hQ (.exit i) s a w hk cM
  |ret=>exact hQ .ret s a w hk cM
 |cond c x y ihx ihy=>
  intro hc q Q hQ s a w h cM;simp only[cok,aA] at hc;simp only[gJ] at h;split at h
  .rename_i p hp
   have QD:a.eval c=.bool p:=(by obtain⟨_,_,_,_,_,_,I,β,ob,hst⟩:=cM;have:=bM hst c;rw[hp] at this;exact this.lit);have GU:refine s c p=s:=by
    cases c with
    |tmp t=>simp only[refine];simp only[ev] at hp;exact S.up_id hp
    |_=>rfl
   refine wpIn_cond_split QD (λht=>?_) (λhf=>?_)
   .have:=h.1 ht
    rw[ht] at GU;rw[GU] at this;exact ihx hc.1 q Q hQ s a w this cM
   .have:=h.2 hf
    rw[hf] at GU;rw[GU] at this;exact ihy hc.2 q Q hQ s a w this cM
  .exact h.elim
 |block id body ih=>
  intro hc q Q hQ s a w h cM;simp only[cok] at hc;simp only[gJ] at h;refine wpIn_block (ih hc _ _ (λe s a w hk cM=>?_) s a w h cM);cases e with
  |normal=>exact hQ .normal s a w hk cM
  |exit i=>
   simp only[VE.ex,Exit.inBlock] at hk ⊢
   split
   .rename_i e;rw[if_pos e] at hk;exact hQ .normal s a w hk cM
   .rename_i e;rw[if_neg e] at hk;exact hQ (.exit i) s a w hk cM
  |ret=>exact hQ .ret s a w hk cM
 |loop body ih=>
  intro hc q Q hQ s a w h cM;simp only[cok] at hc;simp only[gJ] at h;obtain⟨k,h⟩:=h;refine wpIn_loop_rounds k ?_;induction k generalizing s a w with
  |zero=>exact h.elim
  |succ k ihk=>
   simp only[uu] at h;obtain⟨s',fO,h⟩:=h;rw[roundsIn_succ];refine ih hc _ _ (λe s a w hk cM=>?_) s' a w h (by
    rcases fO with rfl | fO
    .exact cM
    .obtain⟨I1,M1,w1,rs,sV,nf,cM⟩:=cM
     exact⟨I1,M1,w1,rs,sV,nf,cM.weaken (by rw[sV.e];exact qL) fO⟩)
   cases e with
   |normal=>exact ihk s a w cM hk
   |exit i=>exact hQ (.exit i) s a w hk cM
   |ret=>exact hQ .ret s a w hk cM
 |exit id=>intro _ q Q hQ s a w h cM;exact wpIn_exit (hQ (.exit id) s a w h cM)
 |ret=>intro _ q Q hQ s a w h cM;exact wpIn_ret (hQ .ret s a w h cM)
 |label l=>intro _ q Q hQ s a w h cM;exact wpIn_label (hQ .normal s a w h cM)
 |scope body ih=>
  intro hc q Q hQ s a w h cM;simp only[cok] at hc;simp only[gJ] at h;refine uV (ih hc _ _ (λe s a w hk cM=>?_) s a w h cM);cases e with
  |normal=>exact hQ .normal s a w hk cM
  |exit i=>exact hQ (.exit i) s a w hk cM
  |ret=>exact hQ .ret s a w hk cM
 |rangeFunc f ps assign body=>
  intro hc q Q hQ s a w h cM;simp only[cok,br] at hc;simp only[gJ] at h;have hl:l=none:=by
   rcases hl with hl | hl
   .exact hl
   .have:=h.1;rw[hl] at this;cases this
  subst hl;exact Ow hc hQ h cM
 |_=>intro _ q Q hQ s a w h cM;exact h.elim
theorem vI {k0:Nat} (hm:P.follows .mixedOrders=true) (qL:∀ i b,M.e i=some b->i<k0) (sY:sZ tr=false) (c:Code) (hc:cok n tr c=true) (q:VE->S->Prop) (Q:Exit->Act->World->Prop) (hQ:∀ e s a w,q e s->SE G n I0 M w0 s a w->Q e.ex a w) (s:S) (a:Act) (w:World)
 (h:gJ P G tr k0 c q s) (cM:SE G n I0 M w0 s a w):c.wp P Q a w:=
 wpIn_wide.1 (lE (l:=none) (m:=0) hm qL (.inl rfl) c hc q Q (λe s a w hk cM=>hQ e s a w hk (cM.se sY)) s a w h (.of cM))
theorem SX.leaves {fn:Func} {R:Ending->World->Prop} (h:SX G n tr I0 M w0 s a w) (hd:M.d=[])
 (hR:∀ w' I' β' ob',St G n I0 M w0 I' β' ob' s { a with defers:=[] } w'->∃ v,(results fn a.tmps).run P w'=.ok v w'/\R (.returned v) w'):LeavesInM (FW none) 0 P fn a.tmps R a.defers .returning w:=by
 obtain⟨I1,M1,w1,rs,sV,_,I,β,ob,hst⟩:=h;have hbk:=hst.back sV;have hdf:a.defers=rs.map mkD:=by rw[hst.defers,sV.d,hd,d6]
 rw[hdf,hd] at *;refine Dh (a0:={ a with defers:=[] }) rs w sV.nd (λr hr=>?_) hbk (λw' h'=>hR w' _ _ _ h')
 obtain⟨q1,q2,q3,q4⟩:=sV.r r hr;obtain⟨h1,h2,h3,h4⟩:=Reb.notWr hst q1;exact⟨h1,h2,q2,λo ho=>by
  rcases hst.ihigh r o ho with h5 | h5
  .exact q3 o h5
  .exact q1 h5,(hst.below.block r h3 h4).trans q4⟩
def abH (P:Program) (s:S):ResultVar->(V->Prop)->Prop
 | .tmp t,K=>K (s.fr t)
 | .cell p T,K=>dJ P T s (s.fr p) K
def Kq (z:Bool) (s:S) (x r:V):Prop:=if z then imm s x=some r else x=r
def MC (z:Bool) (s:S) (x r:V):Prop:=if z then imm s x=some r else x.fz=r
def qC (P:Program) (z:Bool) (s:S) (r:V):List ResultVar->Prop
 |[.tmp t]=>Kq z s (s.fr t) r
 |[.cell p T]=>dJ P T s (s.fr p) λu=>Kq z s u r
 |rs=>∃ ds,r=.tup ds/\ds.length=rs.length/\∀ (i:Nat) (R:ResultVar) (d:V),rs[i]?=some R->ds[i]?=some d->abH P s R λu=>MC z s u d
def zh (args:List V):S:=⟨λj=>args.getD j .un,λ_=>[],0⟩
theorem LR.ofDR (h:DR I w v x):LR base I β w none v x:=by
 cases h with
 |un=>simp only[LR];exact .un _
 |sk=>simp only[LR];exact .sk
 |c _ _ h=>exact .ofC h
 |agg vs cs h1 h2=>simp only[LR];exact .agg vs cs h1 h2
 |tup vs ds h1 h2=>simp only[LR];exact .tup vs ds h1 h2
theorem St.init {I:Ft} {w:World} {vs:Array Value} {args:List V} {m:Nat} (hI:∀ b o,I b o->b<w.heap.size) (hg:GOK G I w) (ej:vs.size=args.length) (ha:∀ j x,args[j]?=some x->DR I w (vs.getD j undef) x)
 (hm:m=(vs++Array.replicate (n - vs.size) undef).size):St G m I ⟨λ_=>False,λ_=>none,[]⟩ w I (λ_=>none) (λ_=>none) (zh args) { tmps:=vs++Array.replicate (n - vs.size) undef,defers:=[] } w where
 size:=hm.symm
 defers:=rfl
 below:=BelowM.refl _ _
 kept:=λ_ _ _=>rfl
 ilow:=λ_ _ h=>h
 ihigh:=λ_ _ h=>.inl h
 ibnd:=hI
 fr:=λt=>by
  simp only[zh];by_cases ht:t<args.length
  .have e1:args.getD t .un=args[t]:=by simp[List.getD,ht]
   have e2:(vs++Array.replicate (n - vs.size) undef).getD t undef=vs.getD t undef:=(by rw[au,ee (by omega),<- au]);rw[e1,e2];exact .ofDR (ha t _ (ak ht))
  .have e1:args.getD t .un=.un:=by simp[List.getD,cE (dY ht)]
   rw[e1];simp only[LR];exact .un _
 bx:=λi hi=>by simp[zh] at hi
 bnone:=λ_ _=>rfl
 ext:=λ_ _ h=>by cases h
 bnew:=λ_ _ h=>by cases h
 binj:=λ_ _ _ h=>by cases h
 oinj:=λ_ _ _ h=>by cases h
 obx:=λ_ _ _ h=>by cases h
 obnd:=λ_ _ h=>by cases h
 glob:=hg
def V.out:V->Bool
 | .bp _ _ | .clo _ _ _ | .ms _ _ _ _ _ | .mag _ | .mr _ | .it _ _ _ _ | .gh _ _ _ | .gg _ _ _ | .yl _ | .lp _ _ | .bm _ _ _=>false
 |_=>true
theorem LR.leave {ox:Option Nat} (h:LR base I β w ox v x) (hx:x.out=true) {β':Nat->Option Nat}:LR base I β' w ox v x:=by
 cases x<;>simp only[V.out] at hx<;>try cases hx
 all_goals simp only[LR] at h ⊢;exact h
def V.comp:V->Bool
 | .c _ | .agg _=>true
 |_=>false
def V.compT:V->Bool
 | .tup ds=>ds.all V.comp
 |_=>true
def Di (a:Act):ResultVar->Sem Value
 | .tmp t=>pure (a.tmps.getD t undef)
 | .cell p t=>do loadVar t (<- asAddr (a.tmps.getD p undef))
theorem Kr (fn:Func) (a:Act):results fn a.tmps=(do let vs <- fn.results.mapM (Di a);pure (if h:vs.size=1 then vs[0] else .tuple vs)):=by unfold results;congr 1
theorem Xb (hst:St G n I0 M w0 I β ob s a w) {R:ResultVar} {K:V->Prop} (h:abH P s R K):∃ x u o',K x/\LR (Wr M w0) I β w o' u x/\(∀ b,o'=some b->Wr M w0 b/\b<w.heap.size)/\
 (Di a R).run P w=.ok u w:=by
 cases R with
 |tmp t=>exact⟨_,_,_,h,hst.fr t,λb hb=>⟨(hst.obnd _ b hb).2,(hst.obnd _ b hb).1⟩,rfl⟩
 |cell p T=>
  obtain⟨z,u,hz,iR,bO⟩:=ta (x:=s.fr p) hst h (hst.fr p);refine⟨z,u,none,hz,iR,λb hb=>(by cases hb),?_⟩;unfold Instr.loadAt at bO;show(do loadVar T (<- asAddr (a.tmps.getD p undef)):Sem Value).run P w=.ok u w
  generalize a.tmps.getD p undef=pv at bO ⊢
  cases pv<;>first | (simp[Instr.sureAddr,stuck,Sem.run] at bO;done) | skip
  rename_i ad;cases ad with
  |none=>simp[Instr.sureAddr,stuck,Sem.run] at bO
  |some ad=>simpa[Instr.sureAddr,asAddr] using bO
theorem zi (hst:St G n I0 M w0 I β ob s a w) {Ic:Ft} {z:Bool} (hz:z=false->Ic=I) (sM:∀ b o,I b o->Ic b o) (hb:z=true->∀ i b o,β i=some b->Ic b o) :
 ∀ (rs:List ResultVar) (ds:List V),ds.length=rs.length->(∀ (i:Nat) (R:ResultVar) (d:V),rs[i]?=some R->ds[i]?=some d->abH P s R λu=>MC z s u d)->
 ∃ vs:List Value,vs.length=ds.length/\(∀ (i:Nat) (d:V),ds[i]?=some d->LR (Wr M w0) Ic β w none (vs.getD i undef) d)/\
  (rs.mapM (Di a)).run P w=.ok vs w
 |[],[],_,_=>⟨[],rfl,by simp,rfl⟩
 |R::rs,d::ds,hl,h=>by
  obtain⟨vs,h1,h2,h3⟩:=zi hst hz sM hb rs ds (by simpa using hl) (λi R' d' hR hd=>h (i+1) R' d' (by simpa using hR) (by simpa using hd));obtain⟨x,u,o',hx,iR,_,bO⟩:=Xb hst (h 0 R d rfl rfl);refine⟨u::vs,by simp[h1],λi d' sd=>?_,?_⟩
  .cases i with
   |zero=>
    simp at sd;subst sd;cases z with
    |false=>rw[hz rfl];simp only[MC,ay,cD] at hx;rw[<- hx];exact iR.fz none
    |true=>simp only[MC,bY] at hx;exact .ofDR (AM hst iR hx sM (λ_=>hb rfl))
   |succ i=>simpa using h2 i d' (by simpa using sd)
  .rw[fR]
   simp only[aP,bO,aD,h3,bB]
 |[],_::_,hl,_=>by simp at hl
 |_::_,[],hl,_=>by simp at hl
theorem px {fn:Func} (hst:St G n I0 M w0 I β ob s a w) {r:V} (iV:r.compT=true) {Ic:Ft} {z:Bool} (hz:z=false->Ic=I) (sM:∀ b o,I b o->Ic b o)
 (hb:z=true->∀ i b o,β i=some b->Ic b o) (db:qC P z s r fn.results.toList) :
 ∃ v o',(results fn a.tmps).run P w=.ok v w/\LR (Wr M w0) Ic β w o' v r/\∀ b,o'=some b->∃ t,ob (.t t)=some b:=by
 unfold qC at db;rw[Kr,Array.mapM_eq_mapM_toList];split at db
 .rename_i t Az
  rw[Az];cases z with
  |false=>simp only[Kq,ay,cD] at db;refine⟨a.tmps.getD t undef,ob (.t t),by simp[Di],?_,λb hb=>⟨_,hb⟩⟩;rw[<- db,hz rfl];exact hst.fr t
  |true=>simp only[Kq,bY] at db;exact⟨a.tmps.getD t undef,none,by simp[Di],.ofDR (AM hst (hst.fr t) db sM (λ_=>hb rfl)),λb hb=>by cases hb⟩
 .rename_i p T Az
  rw[Az];obtain⟨x,u,hx,iR,bO⟩:=ta (x:=s.fr p) hst db (hst.fr p);have ahn:(Di a (.cell p T)).run P w=.ok u w:=by
   unfold Instr.loadAt at bO;show(do loadVar T (<- asAddr (a.tmps.getD p undef)):Sem Value).run P w=.ok u w
   generalize a.tmps.getD p undef=pv at bO ⊢
   cases pv<;>first | (simp[Instr.sureAddr,stuck,Sem.run] at bO;done) | skip
   rename_i ad;cases ad with
   |none=>simp[Instr.sureAddr,stuck,Sem.run] at bO
   |some ad=>simpa[Instr.sureAddr,asAddr] using bO
  refine⟨u,none,by simp[fR,ahn],?_,λb hb=>by cases hb⟩;cases z with
  |false=>simp only[Kq,ay,cD] at hx;subst hx;rw[hz rfl];exact iR
  |true=>simp only[Kq,bY] at hx;exact .ofDR (AM hst iR hx sM (λ_=>hb rfl))
 .rename_i n1 n2
  obtain⟨ds,rfl,hl,dC⟩:=db;obtain⟨vs',h1,h2,h3⟩:=zi hst hz sM hb fn.results.toList ds hl dC;have gu:vs'.length≠1:=λh=>by
   have:fn.results.toList.length=1:=(by omega);obtain⟨R,hR⟩:=eR.1 this;cases R with
   |tmp t=>exact n1 t hR
   |cell p T=>exact n2 p T hR
  refine⟨.tuple vs'.toArray,none,?_,?_,λb hb=>by cases hb⟩
  .simp[h3,gu]
  .simp only[LR]
   refine .tup _ _ (by simpa using h1) λj d hd=>?_;have h4:=h2 j d hd;have h5:=a8.1 iV d (bn hd);have e1:vs'.toArray.getD j undef=vs'.getD j undef:=(by simp[List.getD]);rw[e1];cases d<;>simp only[V.comp] at h5<;>try cases h5
   all_goals simp only[LR] at h4;exact h4
theorem Rz {f:FuncId} {k0:Nat} {fn:Func} {c:Code} {args:List V} {r:V} (z:Bool) (tr:List Nat) (hm:P.follows .mixedOrders=true) (hf:P.funcs[f]?=some fn) (hb:fn.body=some c) (gZ:(fn.name== "runtime.NumGoroutine")=false)
 (hn:args.length<=fn.ntmps) (pS:cok fn.ntmps tr c=true)
 (hr:r.out=true) (iV:r.compT=true)
 (h:gJ P G tr k0 c (λe s=>(match e with | .exit _=>False | _=>True)/\qC P z s r fn.results.toList) (zh args)):FnOK P G f args r:=by
 refine⟨⟨fn,hf,gZ,c,hb⟩,λI w vs hI hg ej ha=>?_⟩;have iU:fn.ntmps=(vs++Array.replicate (fn.ntmps - vs.size) undef).size:=by simp;omega
 have hst:=St.init (n:=fn.ntmps) hI hg ej ha iU;refine po.1 (callsIn_of_wp_marks (F:=FW none) (n:=0) hf hb trivial (lE (l:=none) hm (λ_ _ h=>by cases h) (.inl rfl) c pS _ _ (λe s a w' hq cM=>?_) _ _ _ h (.of ⟨_,_,_,hst⟩)));obtain⟨QI,db⟩:=hq;have uj:∀ b,Wr ⟨λ_=>False,λ_=>none,[]⟩ w b->w.heap.size<=b:=λb hb=>by rcases hb with hb | hb;exact hb;exact hb.elim
 have main:LeavesInM (FW none) 0 P fn a.tmps (λe w'=>∃ v' I'',e=.returned v'/\World.grt (GT G) w w' none/\(∀ b o,I b o->I'' b o)/\
  (∀ b o,I'' b o->I b o∨(w.heap.size<=b/\b<w'.heap.size))/\afi (λb=>w.heap.size<=b) I'' w' v' r) a.defers .returning w':=by
  refine cM.leaves rfl λw' I' β ob bP=>?_;obtain⟨v,o',h1,h2,h3⟩:=px (P:=P) (fn:=fn) bP iV (Ic:=λb o=>I' b o∨(z=true/\∃ i,β i=some b)) (λhz=>by subst hz;simp) (λ_ _ h=>.inl h) (λhz i b o hi=>.inr ⟨hz,i,hi⟩) db;refine⟨v,h1,v,(λb o=>I' b o∨(z=true/\∃ i,β i=some b)),rfl,⟨bP.below.os,bP.below.tape,bP.below.output,bP.below.size,λk hk _=>bP.below.block k hk (λe=>e.elim),bP.below.drawn⟩,λb o h=>.inl (bP.ilow b o h),λb o xW=>?_,o',?_,λb hb=>?_⟩
  .rcases xW with xW | ⟨_,i,hi⟩
   .rcases bP.ihigh b o xW with h4 | h4
    .exact .inl h4
    .exact .inr ⟨uj b h4,bP.ibnd b o xW⟩
   .obtain⟨_,h5,h6⟩:=bP.boxblk hi
    exact .inr ⟨uj b h5,h6⟩
  .have pY:=h2.leave hr (β':=λ_=>none)
   have e:Wr ⟨λ_=>False,λ_=>none,[]⟩ w=λb=>w.heap.size<=b:=(by funext b;simp[Wr]);rw[e] at pY;exact pY
  .obtain⟨L,hL⟩:=h3 b hb
   obtain⟨h4,h5⟩:=bP.obnd _ b hL;exact⟨uj b h5,h4⟩
 cases e with
 |normal=>exact main
 |exit i=>exact QI.elim
 |ret=>exact main
theorem Xc {f:FuncId} {fn:Func} {c:Code} {args:List V} {r:V} (z:Bool) (tr:List Nat) (hm:P.follows .mixedOrders=true) (hf:P.funcs[f]?=some fn) (hb:fn.body=some c) (gZ:(fn.name== "runtime.NumGoroutine")=false)
 (hn:args.length<=fn.ntmps) (pS:cok fn.ntmps tr c=true)
 (hr:r.out=true) (iV:r.compT=true)
 (h:vwp P G tr c (λe s=>(match e with | .exit _=>False | _=>True)/\qC P z s r fn.results.toList) (zh args)):FnOK P G f args r:=Rz z tr hm hf hb gZ hn pS hr iV h
