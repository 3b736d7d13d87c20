/- Layer 15: the closure's add. -/
import Derived.Test.YtegbpjodbjhjeaaGreatDoorVlUp
set_option linter.all false
namespace Go.Proofs.YtegbpjodbjhjeaaGreatDoor
open Go Go.Vl
set_option maxRecDepth 4000
def gsV (f:Bool) (l:List Tm):V:=.gs none (if f then some (47,3) else none) (l.map tmC)
def flC (f:Bool) (L L':List Tm):Bool:=f||decide (L.length<L'.length)
theorem Hh {f:Bool} {L:List Tm}:flC f L L=f:=by simp[flC]
theorem Lr {f:Bool} {L:List Tm} {u:Tm}:flC f L (L++[u])=true:=by simp[flC]
def cB (S:List Tm) (f:Bool) (L:List Tm):List (List V):=[mS S,[.mr 0],[gsV f L]]
theorem SU {S L:List Tm} {f:Bool}:cB S f L=[mS S,[.mr 0],[gsV f L]]:=rfl
theorem SV {S L:List Tm} {f:Bool} {xs:List V} (h:xs.all (fun x=>x.ltB 3)=true):eC xs (cB S f L)=true:=by
 simp only[eC,cB,aR,bb,gj,aB,aK,h,gsV];rfl
theorem JQ {S L:List Tm} {f:Bool} {t:Tm}:([mS S,[.mr 0],[gsV f L],(tmC t).map .c]:List (List V)).all (fun b=>b.all fun x=>x.ltB 4)=true:=by
 simp only[aR,bb,gj,jt,gsV];rfl
theorem pP {S L:List Tm} {f:Bool}:([mS S,[.mr 0],[gsV f L]]:List (List V)).all (fun b=>b.all fun x=>x.ltB 3)=true:=by
 simp only[aR,bb,gj,gsV];rfl
def pQ:=jj @pkA (jj @ptA @pkT)
def Cj:=jj @pkA @ptA
set_option maxHeartbeats 8000000 in
theorem SY (t:Tm) (hv:bT t=true) (dR:br t≤1000000000) (S:List Tm) (f:Bool) (L:List Tm) (hS:vT S) (hL:L.length+br t≤1000000000):FnB Tryz.prog glT 122 [.agg (tmC t),.bp 1 0,.bp 2 0] (cB S f L) (.tup []) (cB (j5 t (S,L)).1 (flC f L (j5 t (S,L)).2) (j5 t (S,L)).2):=by
 refine mY (rs:=[]) (k:=3) [1000031,2850006,2400037,3000003] mixed Tryz.func122 rfl rfl rfl rfl (by kernel_rfl) (by simp) rfl rfl rfl (SV rfl) (ae _) ?_
 simp only[pkA,seval,SU]
 refine cF (fun x:Tm×List Tm=>hdS [(1,.bp 1 0),(2,.bp 2 0),(3,.bp 3 0)] [mS x.2,[.mr 0],[gsV f L],(tmC x.1).map .c]) (fun x=>br x.1) (fun x=>bT x.1=true∧br x.1≤1000000000∧vT x.2∧L.length+br x.1≤1000000000∧j5 t (S,L)=j5 x.1 (x.2,L)) (t,S) ⟨hv,dR,hS,hL,rfl⟩ ?_ ?_
 ·exact cj (by simp only[eW];exact b9.2 ⟨rfl,JQ⟩) (show 3≤4 by decide) (ae _) (by simp[FL,ar]) ⟨by simp[ar,bxs],by simp[ar,bxs],by simp[ar,bxs],by simp[],trivial⟩
 clear hv dR hS hL
 rintro⟨u,S⟩ ⟨hv,dR,hS,hL,lx⟩ R ck cG dn
 simp only at hv dR hS hL lx ck
 simp only[pQ,seval]
 refine aD rfl (Eo u hv dR) (fun _=>rfl) ?_
 simp only[pkA,seval]
 refine Lo hS hv rfl (show 0<4 by decide) ?_
 simp only[pQ,seval]
 obtain⟨k,n,l⟩:=u
 obtain⟨_,_,ce,sP⟩:=fh hv
 rw[Es] at lx
 refine aV (fun hm=>?_) (fun hm=>?_)
 ·have hm:Tm.mk k n l∈S:=by simpa using hm
  rw[if_pos hm] at lx
  rw[lx,Hh] at dn
  simp only[pkA]
  refine dn _ ?_
  simp only[pkA]
  exact dJ [] rfl (by simp only[eW];exact b9.2 ⟨rfl,pP⟩) (ae _) (show 3≤5 by decide) trivial ⟨rfl,rfl,rfl,trivial⟩ dl
 ·have hm:Tm.mk k n l∉S:=by simpa using hm
  rw[if_neg hm] at lx
  have afc:GE S (.mk k n l)=S++[.mk k n l]:=by unfold GE;rw[if_neg (by simpa using hm)]
  simp only[pQ,seval]
  refine aD rfl (Eo _ hv dR) (fun _=>rfl) ?_
  simp only[pQ,seval]
  refine aaU hS hv (by simp[ar,bxs]) (show 0<5 by decide) ?_
  rw[afc]
  simp only[pQ,seval]
  have hS':vT (S++[.mk k n l]):=by rw[← afc];exact SQ hS hv
  have Pe:cD l+1≤1000000000:=by simp only[br] at dR;omega
  refine jc (fun h3=>?_) (fun h3=>?_)
  ·have h3:¬ k=3:=by simpa using h3
   simp only[pQ,seval]
   refine aV (fun h4=>?_) (fun h4=>?_)
   ·have h4:¬ k=4:=by simpa using h4
    rw[if_neg (fun h=>h.elim h3 h4)] at lx
    rw[lx,Hh] at dn
    simp only[pkA]
    refine dn _ ?_
    simp only[pkA]
    exact dJ [] rfl (by simp only[eW];exact b9.2 ⟨rfl,pP⟩) (ae _) (show 3≤5 by decide) trivial ⟨by simp[],by simp[ar,bxs],by simp[ar,bxs],trivial⟩ dl
   ·have hk:k=3∨k=4:=.inr (by simpa using h4)
    have h2:l.length=2:=by rcases hk with rfl | rfl<;>simp[gi] at ce<;>omega
    obtain⟨a,b,rfl⟩:∃ a b,l=[a,b]:=by
     match l,h2 with
     |[a,b],_=>exact⟨a,b,rfl⟩
    rw[if_pos hk] at lx
    simp only at lx
    have Kv:br a≤1000000000∧br b+1≤br (.mk k n [a,b]):=by simp only[br,cD] at Pe ⊢;omega
    have ia0:∀ K,K (.c (.rp (tmC a) 0))→cC Tryz.prog 33 (.c (.sl (List.map tmC [a,b]))) (i64 0) K:=fun K hK=>
     dz dq rfl di (by decide) (by decide) (c:=tmC a) rfl (bI _) hK
    have ia1:∀ K,K (.c (.rp (tmC b) 0))→cC Tryz.prog 33 (.c (.sl (List.map tmC [a,b]))) (i64 1) K:=fun K hK=>
     dz dq rfl di (by decide) (by decide) (c:=tmC b) rfl (bI _) hK
    simp only[pQ,seval,tsC]
    refine ia0 _ ?_
    simp only[pkA,seval,jT (bI _)]
    refine kJ rfl (vU (S++[.mk k n [a,b]]) hS' a (sP a (by simp)) Kv.1) (by simp[V.fz]) (show 1≤5 by decide) ⟨by simp[],trivial⟩ (fun _ _=>rfl) ?_
    simp only[pkA,seval]
    refine aV (fun hb=>?_) (fun hb=>?_)
    ·have hb:¬ dt (inP (S++[.mk k n [a,b]])) a=true:=by simpa using hb
     rw[if_neg hb] at lx
     simp only[pkA,seval]
     refine xe (m:=4) (n:=8) rfl rfl rfl ?_
     generalize hu0:Tm.mk k n [a,b]=u at *
     refine .split 2 0 37 (g:=none) (E:=if f then some (47,3) else none) (es:=L.map tmC) (show 2<5 by decide) (by simp[ar,bxs,gsV];rfl) (by simp[ar,bxs,gsV]) rfl fun v _ hgv=>.done ?_
     have H8:∀ K,K (i64 (L.length:Int))→lC Tryz.prog 33 (.c (.ex v)) K:=fun K hK=>by
      rcases hgv with⟨blk,cap,rfl,_⟩ | ⟨h0,_,c,rfl⟩
      ·exact m9 dq rfl (by rw[ap];exact hK)
      ·have:L=[]:=by cases L with
        |nil=>rfl
        |cons=>cases h0
       subst this
       exact m9 dq rfl hK
     simp only[pQ,seval,gsV]
     refine H8 _ ?_
     simp only[Cj,seval]
     generalize hE:(if f=true then some (47,3) else none)=E
     have XR:E=none∨E=some (47,3):=by
      rw[← hE];cases f<;>simp
     have u3:∀ z∈L.map tmC,z.length=3:=Ak
     have tP:(L.map tmC).length=L.length:=ap ..
     have hL1:L.length+1≤1000000000:=by
      have:1≤br u:=by cases u;simp only[br];omega
      omega
     refine kK (f:=3) (by decide +kernel) (by decide +kernel) ?_
     simp only[kL,mw,ah,Nat.reduceAdd]
     repeat' (first | exact trivial | apply And.intro)
     all_goals first
      |exact .inl (by decide +kernel)
      |refine .inr ?_
     simp only[jr,pkA,seval,wY,wJ]
     refine Jq (v:=v) (E:=E) (es:=L.map tmC) (y1:=tmC (.mk 0 0 [])) (sz:=3) (by_:=40) dq rfl di rfl rfl rfl (by decide) rfl (by simp[ar]) (by simp[ar]) ⟨by decide,by simp,by simp⟩ rfl XR u3 (bI _) (by rw[tP];omega) (by rw[tP];omega) ?_
     simp only[pkA,seval]
     obtain⟨w,hw⟩:∃ w:Tm,w=(if u∈S then u else lN):=⟨_,rfl⟩
     refine pL (f:=2) (by decide +kernel) (by decide +kernel) (.splitB 37 4 0 (g:=none) (E:=some (47,3)) (es:=L.map tmC++[tmC (.mk 0 0 [])]) (x:=.c (cI w.kind)) (by simp[]) (show 4<5 by decide) (by simp[ar,mtm]) (by rw[hw];simp[ar,jX]) fun v' _ UB=>.done ?_)
     obtain⟨blk,cap,rfl⟩:∃ blk cap,v'=.slice (some ⟨blk,0,none⟩) (L.map tmC++[tmC (.mk 0 0 [])]).length cap:=by
      rcases UB with⟨blk,cap,h,_⟩ | ⟨h,_⟩
      ·exact⟨blk,cap,h⟩
      ·cases AP:L<;>simp[AP] at h
     have H9:(L.map tmC++[tmC (.mk 0 0 [])]).set L.length (tmC u)=(L++[u]).map tmC:=by
      rw[List.set_append_right _ _ (by rw[tP];exact ae _),tP,kj,dG];rfl
     have gp:∀ (g:V) (w:Tm),((tmC w).map V.c).set 0 g=[g,.c (cI w.n),.c (tsC w.l)]:=fun g w=>by rw[jX];rfl
     have Y8:((L.map tmC++[tmC (.mk 0 0 [])]).length)=L.length+1:=by simp
     simp only[kL,mw,ah,Nat.reduceAdd]
     repeat' (first | exact trivial | apply And.intro)
     all_goals first
      |exact .inl (by decide +kernel)
      |refine .inr ?_
     all_goals simp only[jr,Cj,seval,gp,Y8]
     repeat' first
      |(refine kK (by decide +kernel) (by decide +kernel) ?_;simp only[kL,mw,ah,Nat.reduceAdd];(repeat' (first | exact trivial | apply And.intro));(all_goals (first | exact Or.inl (by decide +kernel) | refine Or.inr ?_)))
      |(refine zO (k:=L.length) dq rfl di rfl (by decide) rfl (bq _) ?_)
      |(refine Jr (b:=4) (k:=0) (len:=L.length+1) (cap:=cap) (e':=47) (sz:=3) (q:=L.length) (es:=L.map tmC++[tmC (.mk 0 0 [])]) (cs:=tmC u) di rfl ?_ ?_ ?_ rfl (bI _) (by decide) (by rw[Y8];exact bq _) rfl ?_;(· simp);(· (simp[ar];rfl));(· simp[ar]))
      |(refine uF (by decide +kernel) ?_)
      |(simp only[jr,Cj,seval])
     all_goals (
      refine .join 2 0 4 0 (v:=.slice (some ⟨blk,0,none⟩) (L.length+1) cap) (E:=some (47,3)) (es:=(L.map tmC++[tmC (.mk 0 0 [])]).set L.length (tmC u)) (show 2<5 by decide) ?_ ?_ (show 4<5 by decide) ?_ (by decide) ?_ (.unname 2 0 (g:=some (.slice (some ⟨blk,0,none⟩) (L.length+1) cap)) (E:=some (47,3)) (es:=(L.map tmC++[tmC (.mk 0 0 [])]).set L.length (tmC u)) (show 2<5 by decide) ?_ (.done ?_))
      ·simp[ar];rfl
      ·simp[ar]
      ·simp[ar];rfl
      ·simp[ar]
      ·simp[ar]
      ·simp only[pkA,seval,Vl.S.cell,H9]
       refine dn _ ?_
       rw[lx,Lr]
       simp only[pkA]
       exact dJ [] rfl (by simp only[eW];exact b9.2 ⟨rfl,pP⟩) (ae _) (show 3≤5 by decide) trivial ⟨by simp[ar],by simp[ar,bxs],by simp[gsV],trivial⟩ dl)
    ·have hb:dt (inP (S++[.mk k n [a,b]])) a=true:=by simpa using hb
     rw[if_pos hb] at lx
     simp only[pQ,seval,tsC]
     refine ia1 _ ?_
     simp only[pQ,seval,jT (bI _)]
     refine ck (b,S++[.mk k n [a,b]]) _ ⟨sP b (by simp),bY (Nat.le_of_succ_le Kv.2) dR,hS',by simp only;omega,lx⟩ (by simp only;omega) (cj (by simp only[eW];exact b9.2 ⟨rfl,JQ⟩) (show 3≤4 by decide) (show 4≤5 by decide) (by simp[FL,ar]) ⟨by simp[ar],by simp[ar,bxs],by simp[ar,bxs],by simp[],trivial⟩)
  ·by_cases hk:k=3∨k=4
   ·skip
    have h2:l.length=2:=by rcases hk with rfl | rfl<;>simp[gi] at ce<;>omega
    obtain⟨a,b,rfl⟩:∃ a b,l=[a,b]:=by
     match l,h2 with
     |[a,b],_=>exact⟨a,b,rfl⟩
    rw[if_pos hk] at lx
    simp only at lx
    have Kv:br a≤1000000000∧br b+1≤br (.mk k n [a,b]):=by simp only[br,cD] at Pe ⊢;omega
    have ia0:∀ K,K (.c (.rp (tmC a) 0))→cC Tryz.prog 33 (.c (.sl (List.map tmC [a,b]))) (i64 0) K:=fun K hK=>
     dz dq rfl di (by decide) (by decide) (c:=tmC a) rfl (bI _) hK
    have ia1:∀ K,K (.c (.rp (tmC b) 0))→cC Tryz.prog 33 (.c (.sl (List.map tmC [a,b]))) (i64 1) K:=fun K hK=>
     dz dq rfl di (by decide) (by decide) (c:=tmC b) rfl (bI _) hK
    simp only[pQ,seval,tsC]
    refine ia0 _ ?_
    simp only[pkA,seval,jT (bI _)]
    refine kJ rfl (vU (S++[.mk k n [a,b]]) hS' a (sP a (by simp)) Kv.1) (by simp[V.fz]) (show 1≤5 by decide) ⟨by simp[],trivial⟩ (fun _ _=>rfl) ?_
    simp only[pkA,seval]
    refine aV (fun hb=>?_) (fun hb=>?_)
    ·have hb:¬ dt (inP (S++[.mk k n [a,b]])) a=true:=by simpa using hb
     rw[if_neg hb] at lx
     simp only[pkA,seval]
     refine xe (m:=4) (n:=8) rfl rfl rfl ?_
     generalize hu0:Tm.mk k n [a,b]=u at *
     refine .split 2 0 37 (g:=none) (E:=if f then some (47,3) else none) (es:=L.map tmC) (show 2<5 by decide) (by simp[ar,bxs,gsV];rfl) (by simp[ar,bxs,gsV]) rfl fun v _ hgv=>.done ?_
     have H8:∀ K,K (i64 (L.length:Int))→lC Tryz.prog 33 (.c (.ex v)) K:=fun K hK=>by
      rcases hgv with⟨blk,cap,rfl,_⟩ | ⟨h0,_,c,rfl⟩
      ·exact m9 dq rfl (by rw[ap];exact hK)
      ·have:L=[]:=by cases L with
        |nil=>rfl
        |cons=>cases h0
       subst this
       exact m9 dq rfl hK
     simp only[pQ,seval,gsV]
     refine H8 _ ?_
     simp only[Cj,seval]
     generalize hE:(if f=true then some (47,3) else none)=E
     have XR:E=none∨E=some (47,3):=by
      rw[← hE];cases f<;>simp
     have u3:∀ z∈L.map tmC,z.length=3:=Ak
     have tP:(L.map tmC).length=L.length:=ap ..
     have hL1:L.length+1≤1000000000:=by
      have:1≤br u:=by cases u;simp only[br];omega
      omega
     refine kK (f:=3) (by decide +kernel) (by decide +kernel) ?_
     simp only[kL,mw,ah,Nat.reduceAdd]
     repeat' (first | exact trivial | apply And.intro)
     all_goals first
      |exact .inl (by decide +kernel)
      |refine .inr ?_
     simp only[jr,pkA,seval,wY,wJ]
     refine Jq (v:=v) (E:=E) (es:=L.map tmC) (y1:=tmC (.mk 0 0 [])) (sz:=3) (by_:=40) dq rfl di rfl rfl rfl (by decide) rfl (by simp[ar]) (by simp[ar]) ⟨by decide,by simp,by simp⟩ rfl XR u3 (bI _) (by rw[tP];omega) (by rw[tP];omega) ?_
     simp only[pkA,seval]
     obtain⟨w,hw⟩:∃ w:Tm,w=(if u∈S then u else lN):=⟨_,rfl⟩
     refine pL (f:=2) (by decide +kernel) (by decide +kernel) (.splitB 37 4 0 (g:=none) (E:=some (47,3)) (es:=L.map tmC++[tmC (.mk 0 0 [])]) (x:=.c (cI w.kind)) (by simp[]) (show 4<5 by decide) (by simp[ar,mtm]) (by rw[hw];simp[ar,jX]) fun v' _ UB=>.done ?_)
     obtain⟨blk,cap,rfl⟩:∃ blk cap,v'=.slice (some ⟨blk,0,none⟩) (L.map tmC++[tmC (.mk 0 0 [])]).length cap:=by
      rcases UB with⟨blk,cap,h,_⟩ | ⟨h,_⟩
      ·exact⟨blk,cap,h⟩
      ·cases AP:L<;>simp[AP] at h
     have H9:(L.map tmC++[tmC (.mk 0 0 [])]).set L.length (tmC u)=(L++[u]).map tmC:=by
      rw[List.set_append_right _ _ (by rw[tP];exact ae _),tP,kj,dG];rfl
     have gp:∀ (g:V) (w:Tm),((tmC w).map V.c).set 0 g=[g,.c (cI w.n),.c (tsC w.l)]:=fun g w=>by rw[jX];rfl
     have Y8:((L.map tmC++[tmC (.mk 0 0 [])]).length)=L.length+1:=by simp
     simp only[kL,mw,ah,Nat.reduceAdd]
     repeat' (first | exact trivial | apply And.intro)
     all_goals first
      |exact .inl (by decide +kernel)
      |refine .inr ?_
     all_goals simp only[jr,Cj,seval,gp,Y8]
     repeat' first
      |(refine kK (by decide +kernel) (by decide +kernel) ?_;simp only[kL,mw,ah,Nat.reduceAdd];(repeat' (first | exact trivial | apply And.intro));(all_goals (first | exact Or.inl (by decide +kernel) | refine Or.inr ?_)))
      |(refine zO (k:=L.length) dq rfl di rfl (by decide) rfl (bq _) ?_)
      |(refine Jr (b:=4) (k:=0) (len:=L.length+1) (cap:=cap) (e':=47) (sz:=3) (q:=L.length) (es:=L.map tmC++[tmC (.mk 0 0 [])]) (cs:=tmC u) di rfl ?_ ?_ ?_ rfl (bI _) (by decide) (by rw[Y8];exact bq _) rfl ?_;(· simp);(· (simp[ar];rfl));(· simp[ar]))
      |(refine uF (by decide +kernel) ?_)
      |(simp only[jr,Cj,seval])
     all_goals (
      refine .join 2 0 4 0 (v:=.slice (some ⟨blk,0,none⟩) (L.length+1) cap) (E:=some (47,3)) (es:=(L.map tmC++[tmC (.mk 0 0 [])]).set L.length (tmC u)) (show 2<5 by decide) ?_ ?_ (show 4<5 by decide) ?_ (by decide) ?_ (.unname 2 0 (g:=some (.slice (some ⟨blk,0,none⟩) (L.length+1) cap)) (E:=some (47,3)) (es:=(L.map tmC++[tmC (.mk 0 0 [])]).set L.length (tmC u)) (show 2<5 by decide) ?_ (.done ?_))
      ·simp[ar];rfl
      ·simp[ar]
      ·simp[ar];rfl
      ·simp[ar]
      ·simp[ar]
      ·simp only[pkA,seval,Vl.S.cell,H9]
       refine dn _ ?_
       rw[lx,Lr]
       simp only[pkA]
       exact dJ [] rfl (by simp only[eW];exact b9.2 ⟨rfl,pP⟩) (ae _) (show 3≤5 by decide) trivial ⟨by simp[ar],by simp[ar,bxs],by simp[gsV],trivial⟩ dl)
    ·have hb:dt (inP (S++[.mk k n [a,b]])) a=true:=by simpa using hb
     rw[if_pos hb] at lx
     simp only[pQ,seval,tsC]
     refine ia1 _ ?_
     simp only[pQ,seval,jT (bI _)]
     refine ck (b,S++[.mk k n [a,b]]) _ ⟨sP b (by simp),bY (Nat.le_of_succ_le Kv.2) dR,hS',by simp only;omega,lx⟩ (by simp only;omega) (cj (by simp only[eW];exact b9.2 ⟨rfl,JQ⟩) (show 3≤4 by decide) (show 4≤5 by decide) (by simp[FL,ar]) ⟨by simp[ar],by simp[ar,bxs],by simp[ar,bxs],by simp[],trivial⟩)
   ·exact absurd (.inl (by simpa using h3)) hk
