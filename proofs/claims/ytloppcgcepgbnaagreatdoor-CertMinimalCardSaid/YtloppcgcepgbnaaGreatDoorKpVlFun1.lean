/- Layer 19, plain: the least set: rounds, closed, least, in order. -/
import Derived.Test.YtloppcgcepgbnaaGreatDoorVlP1
import Derived.Test.YtloppcgcepgbnaaGreatDoorVlTypes
import Derived.Test.YtloppcgcepgbnaaGreatDoorVlRunB
import Derived.Eval
set_option maxHeartbeats 1000000
set_option linter.all false
namespace Go.Proofs.YtloppcgcepgbnaaGreatDoor
open Go Go.Vl Go.Sort
set_option maxRecDepth 4000
theorem Zu {D:List Fa} {x:In}:rdy D x=true↔∀ g∈x.pre,g∈D:=by
 unfold rdy
 rw[aV]
 exact⟨fun h g hg=>bn (h g hg),fun h g hg=>ey (h g hg)⟩
structure RdI (b:Int) (W:List Wy):Prop where
 pos:∀ w∈W,0<w.round
 le:∀ w∈W,w.round≤b
 pre:∀ w∈W,∀ g∈w.pre,∃ v∈W,v.fact=g∧v.round<w.round
theorem P0 {num:Int} {x:In} {W0:List Wy} (hx:∀ g∈x.pre,∃ v∈W0,v.fact=g∧v.round<num):∀ (l:List Fa) (W:List Wy),(∀ v∈W0,v∈W)→0<num→RdI num W→RdI num (l.foldl (tj num x) W)∧∀ v∈W0,v∈l.foldl (tj num x) W
 |[],_,hs,_,h=>⟨h,hs⟩
 |f::l,W,hs,hn,h=>by
  rw[dH]
  have D4:∀ v∈W,v∈tj num x W f:=fun v hv=>by
   unfold tj
   split
   ·exact hv
   ·exact fB _ hv
  refine P0 hx l _ (fun v hv=>D4 v (hs v hv)) hn ?_
  unfold tj
  split
  ·exact h
  ·refine⟨fun w hw=>?_,fun w hw=>?_,fun w hw g hg=>?_⟩
   ·rcases aZ.1 hw with hw | hw
    ·exact h.pos w hw
    ·rw[aW] at hw;subst hw;exact hn
   ·rcases aZ.1 hw with hw | hw
    ·exact h.le w hw
    ·rw[aW] at hw;subst hw;exact Int.le_refl _
   ·rcases aZ.1 hw with hw | hw
    ·obtain⟨v,hv,h1,h2⟩:=h.pre w hw g hg
     exact⟨v,fB _ hv,h1,h2⟩
    ·rw[aW] at hw;subst hw
     obtain⟨v,hv,h1,h2⟩:=hx g hg
     exact⟨v,fB _ (hs v hv),h1,h2⟩
theorem P1 {num:Int} {W0:List Wy}:∀ (l:List Wt) (W:List Wy),(∀ w∈l,∀ g∈w.x.pre,∃ v∈W0,v.fact=g∧v.round<num)→(∀ v∈W0,v∈W)→0<num→RdI num W→RdI num (lg num W l)
 |[],_,_,_,_,h=>h
 |w::l,W,hl,hs,hn,h=>by
  obtain⟨h1,h2⟩:=P0 (hl w (bB ..)) w.x.con W hs hn h
  exact P1 l (Oc num W w.x) (fun v hv=>hl v (aR _ hv)) h2 hn h1
theorem RdI.mono {a b:Int} {W:List Wy} (h:RdI a W) (A5:a≤b):RdI b W:=⟨h.pos,fun w hw=>by have:=h.le w hw;omega,h.pre⟩
theorem P2 {L:List In}:∀ (n:Nat) (num:Int) (now:List Wt) (W:List Wy),0<num→(∀ w∈now,∀ g∈w.x.pre,g∈cm W)→RdI (num - 1) W→RdI (num+n) (y6 L n num now W)
 |0,num,_,W,_,_,h=>h.mono (by omega)
 |n+1,num,now,W,hn,h0,h=>by
  unfold y6
  split
  ·exact h.mono (by omega)
  ·have h1:RdI num (lg num W now):=by
    refine P1 (W0:=W) now W (fun w hw g hg=>?_) (fun _ h=>h) hn (h.mono (by omega))
    obtain⟨v,hv,he⟩:=bA.1 (h0 w hw g hg)
    exact⟨v,hv,he,by have:=h.le v hv;omega⟩
   have:=P2 (L:=L) n (num+1) (yi L (cm W) (cm (lg num W now))) (lg num W now) (by omega) (fun w hw=>by
    obtain⟨i,x,_,rfl,_,h3⟩:=yo.1 hw
    exact Zu.1 h3) (show RdI (num+1 - 1) (lg num W now) by rwa [show num+1 - 1=num by omega])
   exact this.mono (by omega)
theorem aeM (L:List In):RdI (L.length+3) (yj L):=by
 have:=P2 (L:=L) (L.length+2) 1 (que L) [] (by decide) (fun w hw=>by
  unfold que at hw
  obtain⟨q,hq,rfl⟩:=bA.1 hw
  have:=(gb.1 hq).2
  have h0:q.1.pre=[]:=by simpa using this
  intro g hg
  rw[h0] at hg;cases hg) ⟨fun w hw=>(by cases hw),fun w hw=>(by cases hw),fun w hw=>(by cases hw)⟩
 exact this.mono (by omega)
theorem Ot (L:List In):∀ x∈L,(∀ g∈x.pre,g∈cm (yj L))→∀ c∈x.con,c∈cm (yj L):=by
 have key:∀ (n:Nat) (num:Int) (now:List Wt) (W:List Wy) (old:In→Bool),now=((L.zipIdx.filter fun q=>rdy (cm W) q.1&&!old q.1).map fun q=>⟨q.1,(q.2:Nat),0⟩)→
  (∀ x∈L,old x=true→∀ c∈x.con,c∈cm W)→unr L (cm W)+(if now=[] then 0 else 1)<n→∀ x∈L,rdy (cm (y6 L n num now W)) x=true→∀ c∈x.con,c∈cm (y6 L n num now W):=by
  intro n
  induction n with
  |zero=>intro num now W old _ _ h;exact absurd h (gQ _)
  |succ n ih=>
   intro num now W old AK vE afy x hx hr c hc
   unfold y6 at hr ⊢
   by_cases h0:now=[]
   ·rw[if_pos h0] at hr ⊢
    cases ho:old x
    ·exfalso
     obtain⟨i,hi⟩:=eA.1 hx
     have:(⟨x,(i:Nat),0⟩:Wt)∈now:=by
      rw[AK]
      exact bA.2 ⟨(x,i),gb.2 ⟨iU.2 hi,by simp[hr,ho]⟩,rfl⟩
     rw[h0] at this;cases this
    ·exact vE x hx ho c hc
   ·rw[if_neg h0] at hr ⊢ afy
    have fJ:∀ g∈cm W,g∈cm (lg num W now):=fun g hg=>(uq _ _).2 (.inl hg)
    have kf:=KF (L:=L) fJ
    refine ih (num+1) _ (lg num W now) (rdy (cm W)) rfl (fun y hy hry d hd=>?_) ?_ x hx hr c hc
    ·cases ho:old y
     ·refine (uq _ _).2 (.inr ?_)
      obtain⟨i,hi⟩:=eA.1 hy
      refine⟨⟨y,(i:Nat),0⟩,?_,hd⟩
      rw[AK]
      exact bA.2 ⟨(y,i),gb.2 ⟨iU.2 hi,by simp[hry,ho]⟩,rfl⟩
     ·exact fJ d (vE y hy ho d hd)
    ·show unr L (cm (lg num W now))+(if yi L (cm W) (cm (lg num W now))=[] then 0 else 1)<n
     split
     ·rename_i h;rw[h] at kf;simp only[aB] at kf;omega
     ·rename_i h
      have:0<(yi L (cm W) (cm (lg num W now))).length:=fm.2 h
      omega
 intro x hx vJ c hc
 refine key (L.length+2) 1 (que L) [] (fun _=>false) ?_ (fun _ _ h=>by cases h) ?_ x hx (Zu.2 vJ) c hc
 ·unfold que
  have e:(fun q:In×Nat=>q.1.pre.isEmpty)=fun q=>rdy (cm []) q.1&&!false:=by
   funext q
   have:rdy (cm []) q.1=q.1.pre.isEmpty:=by
    unfold rdy cm
    cases q.1.pre<;>simp
   rw[this];simp
  rw[e]
 ·have:=@Og L (cm [])
  split<;>omega
theorem Fe {p:Pol} {w:Wy}:w∈kq p↔w∈wU p:=(sC _ _).mem_iff
theorem nO {p:Pol} {f:Fa}:f∈cR p↔f∈cm (wU p):=by
 unfold cR cm
 rw[bA,bA]
 exact⟨fun⟨w,h,e⟩=>⟨w,Fe.1 h,e⟩,fun⟨w,h,e⟩=>⟨w,Fe.2 h,e⟩⟩
theorem vh (p:Pol):(cR p).Nodup:=by
 have:(cR p).Perm (cm (wU p)):=(sC _ _).map _
 exact this.nodup_iff.2 (HA p)
theorem zh (p:Pol):StF (cR p):=by
 have h1:(kq p).Pairwise fun x y=>ltOf zW y x=false:=yr af2 _
 have h2:(kq p).Pairwise fun x y=>x.fact≠y.fact:=List.pairwise_map.1 (vh p)
 unfold cR cm
 refine List.pairwise_map.2 ((h1.and h2).imp ?_)
 intro x y h
 rw[Zf] at h
 exact Oj h.1 h.2
theorem sF {p:Pol}:∀ x∈iS p none,(∀ g∈x.pre,g∈cR p)→∀ c∈x.con,c∈cR p:=fun x hx h c hc=>
 nO.2 (Ot _ x hx (fun g hg=>nO.1 (h g hg)) c hc)
theorem sG {p:Pol} {f:Fa} (hf:f∈cR p):gU p f=true:=by
 obtain⟨w,hw,rfl⟩:=bA.1 (nO.1 hf)
 obtain⟨x,hx,_,_,hc⟩:=(uy _).2 w hw
 obtain⟨k,_,_,hg⟩:=KJ hx
 exact hg.vc _ hc
theorem amD {p:Pol} {f:Fa} (hp:p.types.length≤1000000) (h:gU p f=true):FaI f:=by
 unfold gU at h
 unfold FaI I64
 split at h
 ·simp only[aX,bF] at h;omega
 split at h
 ·simp only[aX,bF] at h;omega
 split at h
 ·simp only[aX,bF] at h;omega
 ·cases h
theorem sH {p:Pol} (h:PolS p):(cR p).length≤40000:=by
 unfold cR cm
 rw[ak,sE];exact h.sat
theorem TQ {p:Pol} {f:Fa} (hf:f∈cR p):∃ x∈iS p none,f∈x.con∧f∉x.pre∧∀ g∈x.pre,g∈cR p:=by
 obtain⟨w,hw,rfl⟩:=bA.1 (nO.1 hf)
 obtain⟨x,hx,_,hp,hc⟩:=(uy _).2 w hw
 have hr:RdI _ (wU p):=aeM _
 refine⟨x,hx,hc,fun h=>?_,fun g hg=>?_⟩
 ·obtain⟨v,hv,he,bV⟩:=hr.pre w hw w.fact (by rw[hp];exact h)
  have:=E8 (HA p) hv hw he
  subst this;omega
 ·obtain⟨v,hv,he,_⟩:=hr.pre w hw g (by rw[hp];exact hg)
  exact nO.2 (bA.2 ⟨v,hv,he⟩)
theorem CV {l:List Fa} {x:In}:sY (mZ l) x=true↔(∀ g∈x.pre,g∈l)∧¬ ∀ c∈x.con,c∈l:=by
 unfold sY
 rw[aX,aV,dM,← Bool.not_eq_true,aV]
 constructor
 ·rintro⟨h1,h2⟩
  exact⟨fun g hg=>um.1 (bn (h1 g hg)),fun h=>h2 fun c hc=>ey (um.2 (h c hc))⟩
 ·rintro⟨h1,h2⟩
  exact⟨fun g hg=>ey (um.2 (h1 g hg)),fun h=>h2 fun c hc=>um.1 (bn (h c hc))⟩
theorem wW {p:Pol} {l:List Fa}:(gW p l).2=true↔∀ x∈iS p none,(∀ g∈x.pre,g∈l)→∀ c∈x.con,c∈l:=by
 unfold gW pR
 cases h:(iS p none).find? (sY (mZ l)) with
 |none=>
  refine⟨fun _ x hx h1=>?_,fun _=>rfl⟩
  have:=List.find?_eq_none.1 h x hx
  rw[CV] at this
  exact Classical.byContradiction fun q=>this ⟨h1,q⟩
 |some x=>
  refine⟨fun h=>(by cases h),fun q=>?_⟩
  have h1:=List.find?_some h
  rw[CV] at h1
  exact absurd (q x (List.mem_of_find?_eq_some h) h1.1) h1.2
theorem HD {p:Pol} {l:List Fa} (h:(gW p l).2=false):(gW p l).1∈iS p none∧(∀ g∈(gW p l).1.pre,g∈l)∧¬ ∀ c∈(gW p l).1.con,c∈l:=by
 unfold gW pR at h ⊢
 cases hf:(iS p none).find? (sY (mZ l)) with
 |none=>rw[hf] at h;cases h
 |some x=>
  have h1:=List.find?_some hf
  rw[CV] at h1
  exact⟨List.mem_of_find?_eq_some hf,h1⟩
open Go Go.Vl Go.Proofs.YtloppcgcepgbnaaGreatDoor.Kw
variable {G:Gl}
set_option maxRecDepth 100000
def ND (s:Rd):List Fa×Int:=if(sZ s).e≠0 then([],(sZ s).e) else((sZ s).out,0)
def atR (b:B) (q:Nat):Nat→Nat
 |0=>q
 |i+1=>atR b q i+(nH (b.drop (atR b q i))).2.1
end Go.Proofs.YtloppcgcepgbnaaGreatDoor
namespace Go.Proofs.YtloppcgcepgbnaaGreatDoor.Kp
open Go Go.Vl
set_option maxRecDepth 10000
theorem mixed:Tryz.prog.follows .mixedOrders=true:=Tryz.checked.mixed
abbrev i64 (n:Int):V:=.c (.lit (.int .i64 n))
abbrev bo (b:Bool):V:=.c (.lit (.bool b))
variable {G:Gl}
theorem zi (a b c:Int):FnOK Tryz.prog G 92 [i64 a,i64 b,i64 c] (bo (decide (b≤a)&&decide (a≤c))):=by
 refine bR (rs:=[.tmp 6]) false [] mixed Tryz.func92 rfl rfl rfl rfl (by kernel_rfl) (by simp) rfl rfl ?_
 repeat' first
  |(simp only[pkA,seval])
  |refine fA (fun h=>?_) (fun h=>?_)
  |refine aS (fun h=>?_) (fun h=>?_)
 all_goals (simp_all<;>omega)
theorem ug (a:Int):FnOK Tryz.prog G 68 [i64 a] (bo false):=by
 refine bR (rs:=[.tmp 2]) false [] mixed Tryz.func68 rfl rfl rfl rfl (by kernel_rfl) (by simp) rfl rfl ?_
 repeat' first
  |(simp only[pkA,seval])
  |refine fA (fun h=>?_) (fun h=>?_)
  |refine aS (fun h=>?_) (fun h=>?_)
 all_goals simp_all
def qf (a b:Int):Int:=if a<b then -1 else if b<a then 1 else 0
theorem sr (a b:Int):FnOK Tryz.prog G 48 [i64 a,i64 b] (i64 (qf a b)):=by
 refine bR (rs:=[.tmp 4]) false [] mixed Tryz.func48 rfl rfl rfl rfl (by kernel_rfl) (by simp) rfl rfl ?_
 simp only[pkA,seval]
 refine aN rfl (ug a) (by simp[V.boxy]) ?_
 simp only[pkA,seval]
 refine aN rfl (ug b) (by simp[V.boxy]) ?_
 repeat' first
  |(simp only[pkA,seval])
  |refine fA (fun h=>?_) (fun h=>?_)
  |refine aS (fun h=>?_) (fun h=>?_)
 all_goals (simp_all[qf]<;>omega)
