/- Layer 18: the derivations are those that are specified. -/
import Derived.Test.YtjfjdomfldolcaaGreatVlY7
import Derived.KernelRfl
set_option linter.all false
namespace Go.Proofs.YtjfjdomfldolcaaGreat
open Go Go.Vl Go.Sort
variable {G:Gl}
set_option maxRecDepth 4000
structure RdI (b:Int) (W:List Wy):Prop where
 pos:∀ w∈W,0<w.round
 le:∀ w∈W,w.round≤b
 pre:∀ w∈W,∀ g∈w.pre,∃ v∈W,v.fact=g∧v.round<w.round
theorem Nx {num:Int} {x:In} {W0:List Wy} (hx:∀ g∈x.pre,∃ v∈W0,v.fact=g∧v.round<num):∀ (l:List Fa) (W:List Wy),(∀ v∈W0,v∈W)→0<num→RdI num W→RdI num (l.foldl (k9 num x) W)∧∀ v∈W0,v∈l.foldl (k9 num x) W
 |[],_,hs,_,h=>⟨h,hs⟩
 |f::l,W,hs,hn,h=>by
  rw[br]
  have Dm:∀ v∈W,v∈k9 num x W f:=fun v hv=>by
   unfold k9
   split
   ·exact hv
   ·exact ee _ hv
  refine Nx hx l _ (fun v hv=>Dm v (hs v hv)) hn ?_
  unfold k9
  split
  ·exact h
  ·refine⟨fun w hw=>?_,fun w hw=>?_,fun w hw g hg=>?_⟩
   ·rcases aV.1 hw with hw | hw
    ·exact h.pos w hw
    ·rw[a7] at hw;subst hw;exact hn
   ·rcases aV.1 hw with hw | hw
    ·exact h.le w hw
    ·rw[a7] at hw;subst hw;exact mC _
   ·rcases aV.1 hw with hw | hw
    ·obtain⟨v,hv,h1,h2⟩:=h.pre w hw g hg
     exact⟨v,ee _ hv,h1,h2⟩
    ·rw[a7] at hw;subst hw
     obtain⟨v,hv,h1,h2⟩:=hx g hg
     exact⟨v,ee _ (hs v hv),h1,h2⟩
theorem Ny {num:Int} {W0:List Wy}:∀ (l:List Wt) (W:List Wy),(∀ w∈l,∀ g∈w.x.pre,∃ v∈W0,v.fact=g∧v.round<num)→(∀ v∈W0,v∈W)→0<num→RdI num W→RdI num (iD num W l)
 |[],_,_,_,_,h=>h
 |w::l,W,hl,hs,hn,h=>by
  obtain⟨h1,h2⟩:=Nx (hl w (a8 ..)) w.x.con W hs hn h
  exact Ny l (tS num W w.x) (fun v hv=>hl v (aD _ hv)) h2 hn h1
theorem RdI.mono {a b:Int} {W:List Wy} (h:RdI a W) (GA:a≤b):RdI b W:=⟨h.pos,fun w hw=>by have:=h.le w hw;omega,h.pre⟩
theorem Nz {L:List In}:∀ (n:Nat) (num:Int) (now:List Wt) (W:List Wy),0<num→(∀ w∈now,∀ g∈w.x.pre,g∈aL W)→RdI (num - 1) W→RdI (num+n) (pX L n num now W)
 |0,num,_,W,_,_,h=>h.mono (by omega)
 |n+1,num,now,W,hn,h0,h=>by
  unfold pX
  split
  ·exact h.mono (by omega)
  ·have h1:RdI num (iD num W now):=by
    refine Ny (W0:=W) now W (fun w hw g hg=>?_) (fun _ h=>h) hn (h.mono (by omega))
    obtain⟨v,hv,he⟩:=bj.1 (h0 w hw g hg)
    exact⟨v,hv,he,by have:=h.le v hv;omega⟩
   have:=Nz (L:=L) n (num+1) (sU L (aL W) (aL (iD num W now))) (iD num W now) (by omega) (fun w hw=>by
    obtain⟨i,x,_,rfl,_,h3⟩:=uG.1 hw
    exact wU.1 h3) (show RdI (num+1 - 1) (iD num W now) by rwa [show num+1 - 1=num by omega])
   exact this.mono (by omega)
theorem aav (L:List In):RdI (L.length+3) (vI L):=by
 have:=Nz (L:=L) (L.length+2) 1 (que L) [] (by decide) (fun w hw=>by
  unfold que at hw
  obtain⟨q,hq,rfl⟩:=bj.1 hw
  have:=(cH.1 hq).2
  have h0:q.1.pre=[]:=by simpa using this
  intro g hg
  rw[h0] at hg;cases hg) ⟨fun w hw=>(by cases hw),fun w hw=>(by cases hw),fun w hw=>(by cases hw)⟩
 exact this.mono (by omega)
inductive Rch (W:List Wy) (f:Fa):Fa→Prop
 |base:Rch W f f
 |step {g h:Fa} {w:Wy}:Rch W f g→w∈W→w.fact=g→h∈w.pre→Rch W f h
theorem Rch.trans {W:List Wy} {f g h:Fa} (h1:Rch W f g) (h2:Rch W g h):Rch W f h:=by
 induction h2 with
 |base=>exact h1
 |step _ hw he hp ih=>exact .step ih hw he hp
theorem Jm {W:List Wy} (hp:sf W):∀ (n:Nat) (N:List Wy) (f:Fa),f∈aL W→∀ g∈aL (kK W n N f),g∈aL N∨Rch W f g
 |0,_,_,_,_,h=>.inl h
 |n+1,N,f,hf,g,h=>by
  unfold kK at h
  split at h
  ·exact .inl h
  ·obtain⟨q1,q2⟩:=ym hf
   have JU:∀ (l:List Fa) (M:List Wy),(∀ x∈l,x∈(mq W f).pre)→g∈aL (l.foldl (kK W n) M)→g∈aL M∨Rch W f g:=by
    intro l
    induction l with
    |nil=>intro M _ h;exact .inl h
    |cons x l ih=>
     intro M hl h
     rw[br] at h
     rcases ih _ (fun y hy=>hl y (aD _ hy)) h with h | h
     ·have hx:=hl x (a8 ..)
      rcases Jm hp n M x (hp _ q1 x hx) g h with h | h
      ·exact .inl h
      ·exact .inr ((Rch.step .base q1 q2 hx).trans h)
     ·exact .inr h
   rcases JU _ _ (fun _ h=>h) h with h | h
   ·rw[nF,aV] at h
    rcases h with h | h
    ·exact .inl h
    ·right
     have:g=f:=by simpa[aL,q2] using h
     rw[this];exact .base
   ·exact .inr h
theorem zW {W:List Wy} (hp:sf W):∀ (n:Nat) (N:List Wy) (f:Fa),f∈aL W→unv W N≤n→f∈aL (kK W n N f)∧∀ w∈kK W n N f,w∈N∨∀ g∈w.pre,g∈aL (kK W n N f)
 |0,N,f,hf,hu=>by
  have h0:unv W N=0:=by omega
  unfold unv at h0
  rw[List.length_eq_zero_iff,List.filter_eq_nil_iff] at h0
  have:=h0 f hf
  exact⟨by show f∈aL N;simpa using this,fun w hw=>.inl hw⟩
 |n+1,N,f,hf,hu=>by
  unfold kK
  split
  ·rename_i h;exact⟨h,fun w hw=>.inl hw⟩
  ·rename_i hn
   obtain⟨q1,q2⟩:=ym hf
   have V9:=Ve (W:=W) (N:=N) (w:=mq W f) (by rw[q2];exact hf) (by rw[q2];exact hn)
   have JU:∀ (l:List Fa) (M:List Wy),(∀ x∈l,x∈aL W)→unv W M≤n→(∀ x∈l,x∈aL (l.foldl (kK W n) M))∧∀ w∈l.foldl (kK W n) M,w∈M∨∀ g∈w.pre,g∈aL (l.foldl (kK W n) M):=by
    intro l
    induction l with
    |nil=>intro M _ _;exact⟨fun _ h=>(by cases h),fun w hw=>.inl hw⟩
    |cons x l ih=>
     intro M hl hM
     rw[br]
     obtain⟨h1,h2⟩:=zW hp n M x (hl x (a8 ..)) hM
     obtain⟨h3,h4⟩:=ih (kK W n M x) (fun y hy=>hl y (aD _ hy)) (bN (I6 fun y hy=>Cg n M x y hy) hM)
     refine⟨fun y hy=>?_,fun w hw=>?_⟩
     ·rcases aK.1 hy with rfl | hy
      ·exact uK _ _ h1
      ·exact h3 y hy
     ·rcases h4 w hw with h5 | h5
      ·rcases h2 w h5 with h6 | h6
       ·exact .inl h6
       ·exact .inr fun g hg=>uK _ _ (h6 g hg)
      ·exact .inr h5
   obtain⟨h1,h2⟩:=JU (mq W f).pre (N++[mq W f]) (hp _ q1) (by omega)
   refine⟨uK _ _ (by rw[nF];exact List.mem_append_right _ (by simp[aL,q2])),fun w hw=>?_⟩
   rcases h2 w hw with h3 | h3
   ·rcases aV.1 h3 with h3 | h3
    ·exact .inl h3
    ·rw[a7] at h3;subst h3
     exact .inr h1
   ·exact .inr h3
theorem Jn {p:Pol} {f g:Fa} (hf:f∈aL (fg p)):g∈aL (qf p f)↔Rch (fg p) f g:=by
 constructor
 ·intro h
  rcases Jm (yn p) _ _ f hf g h with h | h
  ·cases h
  ·exact h
 ·intro h
  obtain⟨h1,h2⟩:=zW (yn p) (fg p).length [] f hf (Ns p)
  have h3:=(lC hf).2
  induction h with
  |base=>exact h1
  |step _ hw he hp ih=>
   obtain⟨v,hv,hve⟩:=bj.1 ih
   have:v=_:=lA (qX p) (h3 v hv) hw (hve.trans he.symm)
   subst this
   rcases h2 v hv with h4 | h4
   ·cases h4
   ·exact h4 _ hp
theorem Vu {g:Fa} {m need:List Fa}:g∈m.foldl nc need↔g∈need∨g∈m:=vq m need
theorem uR {l:List Wy} {f g:Fa}:∀ (m:List Wy) (need:List Fa),g∈m.foldl (oY f) need↔g∈need∨∃ w∈m,w.fact=f∧g∈w.pre
 |[],need=>by simp
 |w::m,need=>by
  rw[br,uR (l:=l) m]
  unfold oY
  split
  ·rename_i h
   rw[Vu]
   simp only[aK,exists_eq_or_imp,h,jt]
   grind
  ·rename_i h
   simp only[aK,exists_eq_or_imp,h,false_and,false_or]
theorem P7 {l:List Wy} (hp:sf l) {f:Fa}:∀ (n i:Nat) (need:List Fa),NI l need→n+i=l.length+1→f∈need→(∀ g∈need,Rch l f g)→(∀ (j:Nat) (g:Fa),j<i→need[j]?=some g→∀ w∈l,w.fact=g→∀ h∈w.pre,h∈need)→∀ g,g∈uQ l n i need↔Rch l f g:=by
 have fin:∀ (i:Nat) (need:List Fa),need.length≤i→f∈need→(∀ g∈need,Rch l f g)→(∀ (j:Nat) (g:Fa),j<i→need[j]?=some g→∀ w∈l,w.fact=g→∀ h∈w.pre,h∈need)→∀ g,g∈need↔Rch l f g:=by
  intro i need hi hf hr hc g
  refine⟨hr g,fun h=>?_⟩
  induction h with
  |base=>exact hf
  |step _ hw he hp ih=>
   obtain⟨j,hj⟩:=da.1 ih
   exact hc j _ (by have:=(ah.1 hj).1;omega) hj _ hw he _ hp
 intro n
 induction n with
 |zero=>
  intro i need Qv gC hf hr hc
  exact fin i need (by have:=Qv.len;omega) hf hr hc
 |succ n ih=>
  intro i need Qv gC hf hr hc g
  unfold uQ
  cases hi:need[i]? with
  |none=>exact fin i need (by rw[List.getElem?_eq_none_iff] at hi;exact hi) hf hr hc g
  |some x=>
   have JZ:x∈need:=aQ hi
   refine ih (i+1) _ (NI.scan hp l need (fun _ h=>h) Qv) (by omega) ((uR (l:=l) l need).2 (.inl hf)) (fun y hy=>?_) (fun j y hj hy w hw he h hh=>?_) g
   ·rcases(uR (l:=l) l need).1 hy with h | ⟨w,hw,he,h⟩
    ·exact hr y h
    ·exact .step (hr x JZ) hw he h
   ·rcases dG j i with h1 | h1
    ·have hil:=(ah.1 hi).1
     have hjn:need[j]?=some y:=by
      have h2:=yp (g:=x) l need (ae (show j<need.length by omega))
      rw[hy] at h2
      rw[ae (show j<need.length by omega),← h2]
     exact(uR (l:=l) l need).2 (.inl (hc j y h1 hjn w hw he h hh))
    ·have:j=i:=by omega
     subst this
     have h2:=yp (g:=x) l need hi
     rw[hy] at h2;cases h2
     exact(uR (l:=l) l need).2 (.inr ⟨w,hw,he,hh⟩)
theorem least_mem {p:Pol} {w:Wy}:w∈cC p↔w∈fg p:=(jT _ _).mem_iff
theorem oq {p:Pol} {f:Fa}:f∈aL (cC p)↔f∈aL (fg p):=pz (jT _ _)
theorem sh (p:Pol):RI (gp p none) (cC p):=by rw[← nK];exact vz p
theorem EA (p:Pol):sf (cC p):=fun w hw g hg=>oq.2 (yn p w (least_mem.1 hw) g hg)
theorem satP_rd {p:Pol}:RdI ((gp p none).length+3) (fg p):=aav _
theorem afF {p:Pol} {w:Wy} (hw:w∈fg p):kS (cC p) w.fact=w.round:=by
 unfold kS
 cases hf:(cC p).find? (fun v=>decide (v.fact=w.fact)) with
 |none=>
  have:=js.1 hf w (least_mem.2 hw)
  simp at this
 |some v=>
  have h1:=jF hf
  have h2:v.fact=w.fact:=by simpa using List.find?_some hf
  have:=lA (qX p) (least_mem.1 h1) hw h2
  rw[this];rfl
theorem Jo {l m:List Wy} (h:∀ w,w∈l↔w∈m) {f g:Fa} (hr:Rch l f g):Rch m f g:=by
 induction hr with
 |base=>exact .base
 |step _ hw he hp ih=>exact .step ih ((h _).1 hw) he hp
theorem aaw {p:Pol} {f g:Fa} (hr:Rch (fg p) f g) {v:Wy} (hv:v∈fg p) (he:v.fact=f):∃ w∈fg p,w.fact=g∧w.round≤v.round:=by
 induction hr with
 |base=>exact⟨v,hv,he,mC _⟩
 |step _ hw hwe hp ih=>
  obtain⟨u,hu,hue,hul⟩:=ih
  have:u=_:=lA (qX p) hu hw (hue.trans hwe.symm)
  subst this
  obtain⟨x,hx,h1,h2⟩:=satP_rd.pre _ hu _ hp
  exact⟨x,hx,h1,by omega⟩
theorem yq (p:Pol):(cC p).Pairwise fun a b=>ltF a.fact b.fact=true:=by
 have h1:(cC p).Pairwise fun a b=>ltF b.fact a.fact=false:=(sh p).srt
 have h2:(cC p).Pairwise fun a b=>a.fact≠b.fact:=by
  have:=(sh p).nd
  unfold aL at this
  rw[List.nodup_iff_pairwise_ne,List.pairwise_map] at this
  exact this
 refine (h1.and h2).imp fun {a b} h=>?_
 cases h3:ltF a.fact b.fact
 ·exact absurd (sR h3 h.1) h.2
 ·rfl
theorem NA {p:Pol} {f:Fa} (hf:f∈aL (fg p)):vV (cC p) f=lg p f:=by
 obtain⟨v,hv,hve⟩:=bj.1 hf
 have hv:v∈fg p:=hv
 have hrv:=afF hv
 rw[show v.fact=f from hve] at hrv
 have ajM:∀ g,g∈uQ (cC p) ((cC p).length+1) 0 [f]↔g∈aL (qf p f):=fun g=>by
  rw[Jn hf]
  refine (P7 (l:=cC p) (f:=f) (EA p) ((cC p).length+1) 0 [f] ⟨by simp,fun g hg=>by simp at hg;subst hg;exact oq.2 hf⟩ rfl (by simp) (fun g hg=>by simp at hg;subst hg;exact .base) (fun j g hj=>absurd hj (fL _)) g).trans ?_
  exact⟨Jo fun w=>least_mem,Jo fun w=>least_mem.symm⟩
 have NV:(vV (cC p) f).Pairwise fun a b=>ltOf tL a b=true:=by
  unfold vV
  rw[List.pairwise_flatMap]
  refine⟨fun r _=>?_,?_⟩
  ·unfold ry
   have h1:=(yq p).filter fun w=>decide (w.fact∈uQ (cC p) ((cC p).length+1) 0 [f])&&decide (w.round=(r:Int))
   refine List.Pairwise.imp_of_mem ?_ h1
   intro a b ha hb h
   have ha:=(cH.1 ha).2
   have hb:=(cH.1 hb).2
   simp only[aS,bJ] at ha hb
   rw[y8,fJ]
   exact .inr ⟨by omega,h⟩
  ·have:(List.range' 1 (kS (cC p) f).toNat).Pairwise (·<·):=List.pairwise_lt_range'
   refine this.imp fun {a b} GA x hx y hy=>?_
   have hx:=(cH.1 hx).2
   have hy:=(cH.1 hy).2
   simp only[aS,bJ] at hx hy
   rw[y8,fJ]
   exact .inl (by omega)
 have j8:∀ w,w∈vV (cC p) f↔w∈qf p f:=fun w=>by
  unfold vV ry
  simp only[iw,cH,aS,bJ,ajM,jN]
  constructor
  ·rintro⟨r,_,hw,hn,_⟩
   obtain⟨u,hu,hue⟩:=bj.1 hn
   have:=lA (qX p) ((lC hf).2 u hu) (least_mem.1 hw) hue
   rw[← this];exact hu
  ·intro hw
   have Wm:=(lC hf).2 w hw
   have WJ:w.fact∈aL (qf p f):=bj.2 ⟨w,hw,rfl⟩
   obtain⟨x,hx,hxe,hxl⟩:=aaw ((Jn hf).1 WJ) hv hve
   have:x=w:=lA (qX p) hx Wm hxe
   subst this
   have hp0:=satP_rd.pos x hx
   refine⟨x.round.toNat,?_,least_mem.2 Wm,WJ,by omega⟩
   rw[hrv];omega
 have oZ:(vV (cC p) f).Nodup:=NV.imp fun {a b} h=>by
  rintro rfl
  rw[swo_r.irrefl] at h;cases h
 have Wk:(qf p f).Nodup:=by
  have:=(lC hf).1
  unfold aL at this
  rw[List.nodup_iff_pairwise_ne,List.pairwise_map] at this
  exact List.nodup_iff_pairwise_ne.2 (this.imp fun h e=>h (by rw[e]))
 have e:lg p f=oh tL (qf p f):=by unfold lg;rw[if_pos hf]
 rw[e]
 refine lO (lt:=ltOf tL) (((fK oZ Wk).2 j8).trans (jT _ _).symm) (fun x hx y hy h1 h2=>?_) (NV.imp fun {a b} h=>?_) (sW swo_r _)
 ·exact lA (qX p) ((lC hf).2 x ((j8 x).1 hx)) ((lC hf).2 y ((j8 y).1 hy)) (cmp_r.tot x y h1 h2)
 ·rw[← iB]
  intro h2
  have:=swo_r.trans _ _ _ h h2
  rw[swo_r.irrefl] at this;cases this
theorem Vv {p:Pol} (h:PolS p) (f:Fa):FnOK Tryz.prog G 11 [.agg (poC p),.agg (faC f)] (.tup [.c (wsC (lg p f)),bo (decide (f∈aL (fg p)))]):=by
 have hL:=vu (G:=G) h
 rw[nK] at hL
 have JS:=h.sat
 have hln:=h.len
 have Mo:=jU p
 have hR:=P6 p (cC p) f hL (by omega) (EA p) (fun w hw=>by have:=qd w (least_mem.1 hw);omega) (sh p).pos (fun w hw=>by have:=satP_rd.le w (least_mem.1 hw);omega)
  (fun g hg=>(oo (sh p).pos).2 hg)
 have h0:=oo (sh p).pos (f:=f)
 rw[oq] at h0
 by_cases hf:f∈aL (fg p)
 ·have hn:kS (cC p) f≠0:=fun q=>h0.1 q hf
  rw[if_neg hn,NA hf,dM hn] at hR
  rw[cu hf];exact hR
 ·have hn:kS (cC p) f=0:=h0.2 hf
  rw[if_pos hn,cu hn] at hR
  have e:lg p f=[]:=by unfold lg;rw[if_neg hf]
  rw[dM hf,e];exact hR
open Go Go.Vl
set_option maxRecDepth 10000
def exP:Pol:=⟨⟨#[112]⟩,[⟨⟨#[107,101,107]⟩,65,0⟩,⟨⟨#[100,101,107]⟩,25,0⟩],[⟨3,1,0⟩],[]⟩
def exL:List Wy:=[⟨⟨1,0,0⟩,4,13,[⟨3,1,0⟩,⟨1,1,0⟩]⟩,⟨⟨1,1,0⟩,1,2,[]⟩,⟨⟨1,2,1⟩,1,2,[]⟩,⟨⟨2,0,0⟩,1,14,[]⟩,⟨⟨2,2,0⟩,2,7,[⟨1,2,1⟩]⟩,⟨⟨2,2,1⟩,2,8,[⟨1,2,1⟩,⟨1,1,0⟩]⟩,⟨⟨3,1,0⟩,3,9,[⟨1,2,1⟩,⟨2,2,1⟩]⟩]
def exT:List Wy:=[⟨⟨1,1,0⟩,1,2,[]⟩,⟨⟨1,2,1⟩,1,2,[]⟩,⟨⟨2,2,1⟩,2,8,[⟨1,2,1⟩,⟨1,1,0⟩]⟩,⟨⟨3,1,0⟩,3,9,[⟨1,2,1⟩,⟨2,2,1⟩]⟩]
theorem exS:PolS exP:=⟨by decide,by decide⟩
theorem yr:cC exP=exL:=by rw[← nK];kernel_rfl
theorem Jp (f:Fa):f∈aL (fg exP)↔f∈aL exL:=by rw[← oq,yr]
theorem Vw:(⟨3,1,0⟩:Fa)∈aL (fg exP):=(Jp _).2 (by decide)
theorem L4:(⟨4,1,0⟩:Fa)∉aL (fg exP):=fun h=>absurd ((Jp _).1 h) (by decide)
theorem Vx:vV exL ⟨3,1,0⟩=exT:=by kernel_rfl
theorem aax:lg exP ⟨3,1,0⟩=exT:=by rw[← NA Vw,yr];exact Vx
theorem aiR:lg exP ⟨4,1,0⟩=[]:=by unfold lg;rw[if_neg L4]
theorem aay:mw exP exP.types.length=[fC 1,pR 1]:=by kernel_rfl
theorem afG:j4 exP=[fC 1,pR 1]:=by rw[Vs];exact aay
theorem Vy:sZ exP=[fC 1]:=by
 unfold sZ
 rw[afG]
 have h1:decide (fC 1∈aL (fg exP))=true:=cu Vw
 have h2:decide (pR 1∈aL (fg exP))=false:=dM L4
 rw[cP,cP]
 simp[h1,h2]
def exF:List Fa:=[bu 0 0,bu 1 0,bu 2 1,gi 0 0,gi 2 0,gi 2 1,fC 1]
theorem ak3:dP exP=exF:=by unfold dP;rw[yr];rfl
theorem qk:FnOK Tryz.prog G 23 [] (.agg (poC exP)):=by
 refine cL (rs:=[.cell 0 26]) false [] mixed Tryz.func23 rfl rfl rfl rfl (by kernel_rfl) (by simp) rfl rfl ?_
 simp only[pkA,ptA,seval]
 refine⟨rfl,?_⟩
 unfold ldA
 exact⟨by decide,⟨rfl,rfl⟩,rfl⟩
def lh:=jj @pkA @gj
def Jq:=jj @pkA (jj @ptA (jj @gj @pkY))
def abO:=jj @pkA (jj @ptA (jj @pkI @gj))
set_option maxHeartbeats 8000000 in
theorem jH:FnOK Tryz.prog G 9 [] (bo true):=by
 refine cL (rs:=[.tmp 0]) false [] mixed Tryz.func9 rfl rfl rfl rfl (by kernel_rfl) (by simp) rfl rfl ?_
 have hF:=yj (G:=G) exS
 rw[ak3] at hF
 have hT1:=Gp (G:=G) exS (fC 1)
 have hT2:=Gp (G:=G) exS (pR 1)
 rw[show lg exP (fC 1)=exT from aax,show decide (fC 1∈aL (fg exP))=true from cu Vw] at hT1
 rw[show lg exP (pR 1)=[] from aiR,show decide (pR 1∈aL (fg exP))=false from dM L4] at hT2
 have hL:=sd (G:=G) exS
 rw[yr] at hL
 have hR:=wT (G:=G) exS
 rw[Vy] at hR
 simp only[lh,seval]
 refine aB rfl qk (fun h=>by cases h) ?_
 simp only[lh,seval]
 refine aB rfl hF (fun h=>by cases h) ?_
 simp only[lh,seval]
 refine aB rfl qk (fun h=>by cases h) ?_
 simp only[lh,seval]
 refine aB rfl (gq 1) (fun _=>rfl) ?_
 simp only[lh,seval]
 refine aB rfl hT1 (fun h=>by cases h) ?_
 simp only[lh,seval]
 refine aB rfl qk (fun h=>by cases h) ?_
 simp only[lh,seval]
 refine aB rfl (iZ 1) (fun _=>rfl) ?_
 simp only[lh,seval]
 refine aB rfl hT2 (fun h=>by cases h) ?_
 simp only[lh,seval]
 refine aB rfl qk (fun h=>by cases h) ?_
 simp only[lh,seval]
 refine aB rfl hL (fun h=>by cases h) ?_
 simp only[lh,seval]
 refine aB rfl (eO 0 0) (fun _=>rfl) ?_
 simp only[lh,seval]
 refine aB rfl (eO 1 0) (fun _=>rfl) ?_
 simp only[lh,seval]
 refine aB rfl (eO 2 1) (fun _=>rfl) ?_
 simp only[lh,seval]
 refine aB rfl (fZ 0 0) (fun _=>rfl) ?_
 simp only[lh,seval]
 refine aB rfl (fZ 2 0) (fun _=>rfl) ?_
 simp only[lh,seval]
 refine aB rfl (fZ 2 1) (fun _=>rfl) ?_
 simp only[lh,seval]
 refine aB rfl (gq 1) (fun _=>rfl) ?_
 have dT:decide (((exT.length:Nat):Int)=4)=true:=rfl
 have dL:decide (((exL.length:Nat):Int)=7)=true:=rfl
 have d9:decide ((9:Int)=9)=true:=rfl
 have d3:decide ((3:Int)=3)=true:=rfl
 have d8:decide ((8:Int)=8)=true:=rfl
 simp only[pkA,ptA,pkI,gj,pkY,seval,dT,dL]
 have ix:∀ (k:Nat) (n:Int) (w:Wy) {K:V→Prop},exT[k]?=some w→n=(k:Nat)→K (.c (.rp (wyC w) 0))→cE Tryz.prog 31 (.c (wsC exT)) (.c (.lit (.int .i64 n))) K:=fun k n w K h hn hK=>by
  subst hn
  exact dR kO rfl gX (by decide) (aA k) (c:=wyC w) (by simp[h]) rfl hK
 refine ix 3 3 ⟨⟨3,1,0⟩,3,9,[⟨1,2,1⟩,⟨2,2,1⟩]⟩ rfl rfl ?_
 simp only[Jq,seval]
 refine aB rfl (eO 2 1) (fun _=>rfl) ?_
 simp only[lh,seval]
 refine aB rfl (fZ 2 1) (fun _=>rfl) ?_
 simp only[abO,seval]
 refine aB («as»:=[.c (fsC [bu 2 1,gi 2 1]),.c (fsC [bu 2 1,gi 2 1])]) rfl (qV [bu 2 1,gi 2 1] [bu 2 1,gi 2 1] (by decide)) (fun _=>rfl) ?_
 simp only[lh,seval,eU]
 refine aB («as»:=[.c (fsC exF),.c (fsC exF)]) rfl (qV exF exF (by decide)) (fun _=>rfl) ?_
 simp only[lh,seval,eU]
 refine ix 3 3 ⟨⟨3,1,0⟩,3,9,[⟨1,2,1⟩,⟨2,2,1⟩]⟩ rfl rfl ?_
 simp only[Jq,seval,eU]
 have dH:decide ((⟨1,1,0⟩:Fa)=bu 1 0)=true:=rfl
 refine ix 3 3 ⟨⟨3,1,0⟩,3,9,[⟨1,2,1⟩,⟨2,2,1⟩]⟩ rfl rfl ?_
 simp only[Jq,seval,eU]
 refine ix 2 2 ⟨⟨2,2,1⟩,2,8,[⟨1,2,1⟩,⟨1,1,0⟩]⟩ rfl rfl ?_
 simp only[Jq,seval,eU]
 refine ix 0 0 ⟨⟨1,1,0⟩,1,2,[]⟩ rfl rfl ?_
 simp only[Jq,seval]
 refine aB rfl (eO 1 0) (fun _=>rfl) ?_
 simp only[pkA,pkI,gj,seval,dH]
 refine aB rfl qk (fun h=>by cases h) ?_
 simp only[lh,seval]
 refine aB rfl hR (fun h=>by cases h) ?_
 simp only[lh,seval]
 refine aB rfl (gq 1) (fun _=>rfl) ?_
 simp only[abO,seval]
 refine aB («as»:=[.c (fsC [fC 1]),.c (fsC [fC 1])]) rfl (qV [fC 1] [fC 1] (by decide)) (fun _=>rfl) ?_
 simp only[lh,seval,eU]
