/- Layer 18, plain: a fact is reached at once; the rounds of reasons. -/
import Derived.Test.YtjfjdomfldolcaaGreatVlZ4
set_option linter.all false
namespace Go.Proofs.YtjfjdomfldolcaaGreat
open Go Go.Vl
set_option maxRecDepth 4000
theorem Js {num:Int} {x:In}:∀ (l:List Fa) (W:List Wy),(∀ w∈l.foldl (k9 num x) W,w∈W∨w.round=num)∧∀ w∈W,w∈l.foldl (k9 num x) W
 |[],_=>⟨fun _ h=>.inl h,fun _ h=>h⟩
 |f::l,W=>by
  rw[br]
  obtain⟨h1,h2⟩:=Js (num:=num) (x:=x) l (k9 num x W f)
  have h3:∀ w∈k9 num x W f,w∈W∨w.round=num:=fun w hw=>by
   unfold k9 at hw
   split at hw
   ·exact .inl hw
   ·rcases aV.1 hw with hw | hw
    ·exact .inl hw
    ·rw[a7] at hw;subst hw;exact .inr rfl
  have h4:∀ w∈W,w∈k9 num x W f:=fun w hw=>by
   unfold k9
   split
   ·exact hw
   ·exact ee _ hw
  exact⟨fun w hw=>(h1 w hw).elim (h3 w) .inr,fun w hw=>h2 w (h4 w hw)⟩
theorem Cq {num:Int}:∀ (l:List Wt) (W:List Wy),(∀ w∈iD num W l,w∈W∨w.round=num)∧∀ w∈W,w∈iD num W l
 |[],_=>⟨fun _ h=>.inl h,fun _ h=>h⟩
 |v::l,W=>by
  obtain⟨h1,h2⟩:=Cq (num:=num) l (tS num W v.x)
  obtain⟨h3,h4⟩:=Js (num:=num) (x:=v.x) v.x.con W
  exact⟨fun w hw=>(h1 w hw).elim (h3 w) .inr,fun w hw=>h2 w (h4 w hw)⟩
theorem Jt {L:List In}:∀ (n:Nat) (num:Int) (now:List Wt) (W:List Wy),∀ w∈pX L n num now W,w∈W∨num≤w.round
 |0,_,_,_,_,h=>.inl h
 |n+1,num,now,W,w,h=>by
  unfold pX at h
  split at h
  ·exact .inl h
  ·rcases Jt n _ _ _ w h with h | h
   ·rcases(Cq now W).1 w h with h | h
    ·exact .inl h
    ·exact .inr (by omega)
   ·exact .inr (by omega)
def Qr (F:List Wy) (x:In) (w:Wy):Prop:=∀ k:Int,0≤k→(∀ g∈x.pre,∃ v∈F,v.fact=g∧v.round≤k)→w.round≤k+1
theorem Cr (L:List In):∀ x∈L,(∀ g∈x.pre,g∈aL (vI L))→∀ c∈x.con,∃ w∈vI L,w.fact=c∧Qr (vI L) x w:=by
 have key:∀ (F:List Wy) (n:Nat) (num:Int) (now:List Wt) (W:List Wy) (old:In→Bool),F=pX L n num now W→now=((L.zipIdx.filter fun q=>rdy (aL W) q.1&&!old q.1).map fun q=>⟨q.1,(q.2:Nat),0⟩)→
  (∀ w∈W,w.round≤num - 1)→(∀ x∈L,old x=true→∀ c∈x.con,∃ w∈W,w.fact=c∧Qr F x w)→
  (∀ x∈L,old x=false→∀ k:Int,0≤k→(∀ g∈x.pre,∃ v∈F,v.fact=g∧v.round≤k)→num - 1≤k)→
  unr L (aL W)+(if now=[] then 0 else 1)<n→∀ x∈L,rdy (aL F) x=true→∀ c∈x.con,∃ w∈F,w.fact=c∧Qr F x w:=by
  intro F n
  induction n with
  |zero=>intro num now W old _ _ _ _ _ h;exact absurd h (fL _)
  |succ n ih=>
   intro num now W old hF ub jW nN hq JQ x hx hr c hc
   have qx:=Jt (L:=L) (n+1) num now W
   rw[← hF] at qx
   unfold pX at hF
   by_cases h0:now=[]
   ·rw[if_pos h0] at hF
    subst hF
    cases ho:old x
    ·exfalso
     obtain⟨i,hi⟩:=da.1 hx
     have:(⟨x,(i:Nat),0⟩:Wt)∈now:=by
      rw[ub]
      exact bj.2 ⟨(x,i),cH.2 ⟨eJ.2 hi,by simp[hr,ho]⟩,rfl⟩
     rw[h0] at this;cases this
    ·exact nN x hx ho c hc
   ·rw[if_neg h0] at hF JQ
    obtain⟨EH,hn2⟩:=Cq (num:=num) now W
    have fc:∀ g∈aL W,g∈aL (iD num W now):=fun g hg=>(lQ _ _).2 (.inl hg)
    have jI:=yd (L:=L) fc
    have aa4:∀ w∈iD num W now,w.round≤num:=fun w hw=>by
     rcases EH w hw with h | h
     ·have:=jW w h;omega
     ·omega
    refine ih (num+1) _ (iD num W now) (rdy (aL W)) hF rfl (fun w hw=>by have:=aa4 w hw;omega) (fun y hy hry d hd=>?_) (fun y hy hry k hk hp=>?_) ?_ x hx hr c hc
    ·cases ho:old y
     ·have hd2:d∈aL (iD num W now):=by
       refine (lQ _ _).2 (.inr ?_)
       obtain⟨i,hi⟩:=da.1 hy
       refine⟨⟨y,(i:Nat),0⟩,?_,hd⟩
       rw[ub]
       exact bj.2 ⟨(y,i),cH.2 ⟨eJ.2 hi,by simp[hry,ho]⟩,rfl⟩
      obtain⟨w,hw,he⟩:=bj.1 hd2
      refine⟨w,hw,he,fun k hk hp=>?_⟩
      have h1:=hq y hy ho k hk hp
      have h2:=aa4 w hw
      omega
     ·obtain⟨w,hw,he,hQ⟩:=nN y hy ho d hd
      exact⟨w,hn2 w hw,he,hQ⟩
    ·have:∃ g∈y.pre,g∉aL W:=by
      apply jG
      intro h
      have:rdy (aL W) y=true:=wU.2 fun g hg=>jG fun h2=>h ⟨g,hg,h2⟩
      rw[this] at hry;cases hry
     obtain⟨g,hg,hng⟩:=this
     obtain⟨v,hv,he,hk2⟩:=hp g hg
     rcases qx v hv with h | h
     ·exact absurd (bj.2 ⟨v,h,he⟩) hng
     ·omega
    ·show unr L (aL (iD num W now))+(if sU L (aL W) (aL (iD num W now))=[] then 0 else 1)<n
     split
     ·rename_i h;rw[h] at jI;simp only[aU] at jI;omega
     ·rename_i h
      have:0<(sU L (aL W) (aL (iD num W now))).length:=fx.2 h
      omega
 intro x hx uU c hc
 refine key (vI L) (L.length+2) 1 (que L) [] (fun _=>false) rfl ?_ (fun _ h=>by cases h) (fun _ _ h=>by cases h) (fun _ _ _ k hk _=>by omega) ?_ x hx (wU.2 uU) c hc
 ·unfold que
  have e:(fun q:In×Nat=>q.1.pre.isEmpty)=fun q=>rdy (aL []) q.1&&!false:=by
   funext q
   have:rdy (aL []) q.1=q.1.pre.isEmpty:=by
    unfold rdy aL
    cases q.1.pre<;>simp
   rw[this];simp
  rw[e]
 ·have:=@B3 L (aL [])
  split<;>omega
def qm (l:List Wy) (g:Fa):Int:=l.foldl (fun r v=>if v.fact=g then v.round else r) 0
theorem VJ {l:List Wy} (hn:(aL l).Nodup) {v:Wy} (hv:v∈l):qm l v.fact=v.round:=by
 have e:∀ (m:List Wy) (r:Int),v.fact∉aL m→m.foldl (fun r u=>if u.fact=v.fact then u.round else r) r=r:=by
  intro m
  induction m with
  |nil=>intro r _;rfl
  |cons u m ih=>
   intro r h
   simp only[aL,bA,aK,not_or] at h
   rw[br,if_neg (gJ h.1)]
   exact ih r h.2
 obtain⟨a,b,rfl⟩:=List.append_of_mem hv
 unfold qm
 rw[ew,br,if_pos rfl]
 refine e b _ fun h=>?_
 simp only[aL,dj,bA] at hn
 have:=(gZ.1 (fU.1 hn).2.1).1
 exact this h
def mxI (a b:Int):Int:=if a<b then b else a
def si (l:List Wy) (m:List Fa):Int:=m.foldl (fun r g=>mxI r (qm l g)) 0
theorem Cs {h:Fa→Int}:∀ (m:List Fa) (r:Int),r≤m.foldl (fun r g=>mxI r (h g)) r∧∀ g∈m,h g≤m.foldl (fun r g=>mxI r (h g)) r
 |[],r=>⟨mC _,fun _ h=>by cases h⟩
 |f::m,r=>by
  rw[br]
  obtain⟨h1,h2⟩:=Cs (h:=h) m (mxI r (h f))
  have h3:r≤mxI r (h f)∧h f≤mxI r (h f):=by unfold mxI;split<;>omega
  refine⟨by omega,fun g hg=>?_⟩
  rcases aK.1 hg with rfl | hg
  ·omega
  ·exact h2 g hg
theorem Ju {h:Fa→Int} {b:Int}:∀ (m:List Fa) (r:Int),r<b→(∀ g∈m,h g<b)→m.foldl (fun r g=>mxI r (h g)) r<b
 |[],_,hr,_=>hr
 |f::m,r,hr,hm=>by
  rw[br]
  refine Ju m _ ?_ fun g hg=>hm g (aD _ hg)
  have:=hm f (a8 ..)
  unfold mxI;split<;>omega
theorem VK (p:Pol):(aL (cC p)).Nodup:=(sh p).nd
theorem Jv {p:Pol} {w:Wy} (hw:w∈cC p):(∀ g∈w.pre,qm (cC p) g≠0)∧w.round=si (cC p) w.pre+1∧w.round≤(gp p none).length+3:=by
 have hs:=least_mem.1 hw
 have hR:=satP_rd (p:=p)
 have h1:∀ g∈w.pre,∃ v∈fg p,v.fact=g∧v.round<w.round∧qm (cC p) g=v.round∧0<v.round:=fun g hg=>by
  obtain⟨v,hv,he,bK⟩:=hR.pre w hs g hg
  exact⟨v,hv,he,bK,by rw[← he];exact VJ (VK p) (least_mem.2 hv),hR.pos v hv⟩
 refine⟨fun g hg=>by obtain⟨v,_,_,_,h2,h3⟩:=h1 g hg;omega,?_,hR.le w hs⟩
 have hub:si (cC p) w.pre<w.round:=Ju _ _ (hR.pos w hs) fun g hg=>by
  obtain⟨v,_,_,h2,h3,_⟩:=h1 g hg;omega
 obtain⟨amh,hlb⟩:=Cs (h:=qm (cC p)) w.pre 0
 obtain⟨x,hx,hr,hp,hc⟩:=(qc _).2 w hs
 obtain⟨w',hw',he,hQ⟩:=Cr (gp p none) x hx (fun g hg=>by
  obtain⟨v,hv,he,_⟩:=h1 g (by rw[hp];exact hg)
  exact bj.2 ⟨v,hv,he⟩) w.fact hc
 have:w'=w:=lA (qX p) hw' hs he
 subst this
 have:=hQ (si (cC p) w'.pre) amh fun g hg=>by
  obtain⟨v,hv,he,_,h2,_⟩:=h1 g (by rw[hp];exact hg)
  exact⟨v,hv,he,by rw[← h2];exact hlb g (by rw[hp];exact hg)⟩
 omega
def vW (w:Wy) (x:In):Bool:=(decide (x.pre=w.pre)&&decide (w.fact∈x.con))&&decide (x.rule=w.rule)
theorem L7 {p:Pol} {w:Wy} (hw:w∈cC p):(gp p none).any (vW w)=true:=by
 obtain⟨x,hx,hr,hp,hc⟩:=(qc _).2 w (least_mem.1 hw)
 rw[dU]
 exact⟨x,hx,by unfold vW;simp[hr,hp,hc]⟩
