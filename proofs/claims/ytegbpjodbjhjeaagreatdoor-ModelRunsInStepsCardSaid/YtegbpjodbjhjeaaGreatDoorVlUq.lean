/- Layer 15: the closure's add. -/
import Derived.Test.YtegbpjodbjhjeaaGreatDoorVlUp
set_option linter.all false
namespace Go.Proofs.YtegbpjodbjhjeaaGreatDoor
open Go Go.Vl
set_option maxRecDepth 4000
def gsV (f:Bool) (l:List Tm):V:=.gs none (if f then some (47,3) else none) (l.map tmC)
def flC (f:Bool) (L L':List Tm):Bool:=f||decide (L.length<L'.length)
theorem DF {f:Bool} {L:List Tm}:flC f L L=f:=by simp[flC]
theorem Hm {f:Bool} {L:List Tm} {u:Tm}:flC f L (L++[u])=true:=by simp[flC]
def cB (S:List Tm) (f:Bool) (L:List Tm):List (List V):=[mS S,[.mr 0],[gsV f L]]
theorem O0 {S L:List Tm} {f:Bool}:cB S f L=[mS S,[.mr 0],[gsV f L]]:=rfl
theorem O1 {S L:List Tm} {f:Bool} {xs:List V} (h:xs.all (fun x=>x.ltB 3)=true):dU xs (cB S f L)=true:=by
 simp only[dU,cB,bh,bq,fE,aC,aJ,h,gsV];rfl
theorem Gd {S L:List Tm} {f:Bool} {t:Tm}:([mS S,[.mr 0],[gsV f L],(tmC t).map .c]:List (List V)).all (fun b=>b.all fun x=>x.ltB 4)=true:=by
 simp only[bh,bq,fE,mM,gsV];rfl
theorem nL {S L:List Tm} {f:Bool}:([mS S,[.mr 0],[gsV f L]]:List (List V)).all (fun b=>b.all fun x=>x.ltB 3)=true:=by
 simp only[bh,bq,fE,gsV];rfl
def nM:=jj @pkA (jj @ptA @pkT)
def y4:=jj @pkA @ptA
set_option maxHeartbeats 8000000 in
theorem O2 (t:Tm) (hv:bR t=true) (hsz:bu t≤1000000000) (S:List Tm) (f:Bool) (L:List Tm) (hS:sP S) (hL:L.length+bu t≤1000000000):FnB Tryz.prog glT 122 [.agg (tmC t),.bp 1 0,.bp 2 0] (cB S f L) (.tup []) (cB (jh t (S,L)).1 (flC f L (jh t (S,L)).2) (jh t (S,L)).2):=by
 refine lH (rs:=[]) (k:=3) [1000031,2850006,2400037,3000003] mixed Tryz.func122 rfl rfl rfl rfl (by kernel_rfl) (by simp) rfl rfl rfl (O1 rfl) (ae _) ?_
 simp only[pkA,seval,O0]
 refine cZ (fun x:Tm×List Tm=>hdS [(1,.bp 1 0),(2,.bp 2 0),(3,.bp 3 0)] [mS x.2,[.mr 0],[gsV f L],(tmC x.1).map .c]) (fun x=>bu x.1) (fun x=>bR x.1=true∧bu x.1≤1000000000∧sP x.2∧L.length+bu x.1≤1000000000∧jh t (S,L)=jh x.1 (x.2,L)) (t,S) ⟨hv,hsz,hS,hL,rfl⟩ ?_ ?_
 ·exact cR (by simp only[fC];exact bX.2 ⟨rfl,Gd⟩) (show 3≤4 by decide) (ae _) (by simp[FL,ar]) ⟨by simp[ar,bxs],by simp[ar,bxs],by simp[ar,bxs],by simp[],trivial⟩
 clear hv hsz hS hL
 rintro⟨u,S⟩ ⟨hv,hsz,hS,hL,heq⟩ R hnorm hexit hret
 simp only at hv hsz hS hL heq hnorm
 simp only[nM,seval]
 refine aD rfl (A4 u hv hsz) (fun _=>rfl) ?_
 simp only[pkA,seval]
 refine Hj hS hv rfl (show 0<4 by decide) ?_
 simp only[nM,seval]
 obtain⟨k,n,l⟩:=u
 obtain⟨_,_,hlen,hvl⟩:=eR hv
 rw[A8] at heq
 refine aZ (fun hm=>?_) (fun hm=>?_)
 ·have hm:Tm.mk k n l∈S:=by simpa using hm
  rw[if_pos hm] at heq
  rw[heq,DF] at hret
  simp only[pkA]
  refine hret _ ?_
  simp only[pkA]
  exact dj [] rfl (by simp only[fC];exact bX.2 ⟨rfl,nL⟩) (ae _) (show 3≤5 by decide) trivial ⟨rfl,rfl,rfl,trivial⟩ cV
 ·have hm:Tm.mk k n l∉S:=by simpa using hm
  rw[if_neg hm] at heq
  have hins:C5 S (.mk k n l)=S++[.mk k n l]:=by unfold C5;rw[if_neg (by simpa using hm)]
  simp only[nM,seval]
  refine aD rfl (A4 _ hv hsz) (fun _=>rfl) ?_
  simp only[nM,seval]
  refine XT hS hv (by simp[ar,bxs]) (show 0<5 by decide) ?_
  rw[hins]
  simp only[nM,seval]
  have hS':sP (S++[.mk k n l]):=by rw[← hins];exact OX hS hv
  have hs1:cH l+1≤1000000000:=by simp only[bu] at hsz;omega
  refine jc (fun h3=>?_) (fun h3=>?_)
  ·have h3:¬ k=3:=by simpa using h3
   simp only[nM,seval]
   refine aZ (fun h4=>?_) (fun h4=>?_)
   ·have h4:¬ k=4:=by simpa using h4
    rw[if_neg (fun h=>h.elim h3 h4)] at heq
    rw[heq,DF] at hret
    simp only[pkA]
    refine hret _ ?_
    simp only[pkA]
    exact dj [] rfl (by simp only[fC];exact bX.2 ⟨rfl,nL⟩) (ae _) (show 3≤5 by decide) trivial ⟨by simp[],by simp[ar,bxs],by simp[ar,bxs],trivial⟩ cV
   ·have hk:k=3∨k=4:=.inr (by simpa using h4)
    have h2:l.length=2:=by rcases hk with rfl | rfl<;>simp[fD] at hlen<;>omega
    obtain⟨a,b,rfl⟩:∃ a b,l=[a,b]:=by
     match l,h2 with
     |[a,b],_=>exact⟨a,b,rfl⟩
    rw[if_pos hk] at heq
    simp only at heq
    have hsab:bu a≤1000000000∧bu b+1≤bu (.mk k n [a,b]):=by simp only[bu,cH] at hs1 ⊢;omega
    have ia0:∀ K,K (.c (.rp (tmC a) 0))→cw Tryz.prog 33 (.c (.sl (List.map tmC [a,b]))) (i64 0) K:=fun K hK=>
     dL dm rfl dc (by decide) (by decide) (c:=tmC a) rfl (b8 _) hK
    have ia1:∀ K,K (.c (.rp (tmC b) 0))→cw Tryz.prog 33 (.c (.sl (List.map tmC [a,b]))) (i64 1) K:=fun K hK=>
     dL dm rfl dc (by decide) (by decide) (c:=tmC b) rfl (b8 _) hK
    simp only[nM,seval,tsC]
    refine ia0 _ ?_
    simp only[pkA,seval,lw (b8 _)]
    refine jJ rfl (sQ (S++[.mk k n [a,b]]) hS' a (hvl a (by simp)) hsab.1) (by simp[V.fz]) (show 1≤5 by decide) ⟨by simp[],trivial⟩ (fun _ _=>rfl) ?_
    simp only[pkA,seval]
    refine aZ (fun hb=>?_) (fun hb=>?_)
    ·have hb:¬ dH (inP (S++[.mk k n [a,b]])) a=true:=by simpa using hb
     rw[if_neg hb] at heq
     simp only[pkA,seval]
     refine tY (m:=4) (n:=8) rfl rfl rfl ?_
     generalize hu0:Tm.mk k n [a,b]=u at *
     refine .split 2 0 37 (g:=none) (E:=if f then some (47,3) else none) (es:=L.map tmC) (show 2<5 by decide) (by simp[ar,bxs,gsV];rfl) (by simp[ar,bxs,gsV]) rfl fun v _ hgv=>.done ?_
     have hlenv:∀ K,K (i64 (L.length:Int))→fB Tryz.prog 33 (.c (.ex v)) K:=fun K hK=>by
      rcases hgv with⟨blk,cap,rfl,_⟩ | ⟨h0,_,c,rfl⟩
      ·exact lR dm rfl (by rw[ap];exact hK)
      ·have:L=[]:=by cases L with
        |nil=>rfl
        |cons=>cases h0
       subst this
       exact lR dm rfl hK
     simp only[nM,seval,gsV]
     refine hlenv _ ?_
     simp only[y4,seval]
     generalize hE:(if f=true then some (47,3) else none)=E
     have hEE:E=none∨E=some (47,3):=by
      rw[← hE];cases f<;>simp
     have hls:∀ z∈L.map tmC,z.length=3:=wQ
     have hlm:(L.map tmC).length=L.length:=ap ..
     have hL1:L.length+1≤1000000000:=by
      have:1≤bu u:=by cases u;simp only[bu];omega
      omega
     refine jK (f:=3) (by decide +kernel) (by decide +kernel) ?_
     simp only[jL,lc,ah,Nat.reduceAdd]
     repeat' (first | exact trivial | apply And.intro)
     all_goals first
      |exact .inl (by decide +kernel)
      |refine .inr ?_
     simp only[iG,pkA,seval,tQ,rK]
     refine FI (v:=v) (E:=E) (es:=L.map tmC) (y1:=tmC (.mk 0 0 [])) (sz:=3) (by_:=40) dm rfl dc rfl rfl rfl (by decide) rfl (by simp[ar]) (by simp[ar]) ⟨by decide,by simp,by simp⟩ rfl hEE hls (b8 _) (by rw[hlm];omega) (by rw[hlm];omega) ?_
     simp only[pkA,seval]
     obtain⟨w,hw⟩:∃ w:Tm,w=(if u∈S then u else kC):=⟨_,rfl⟩
     refine nH (f:=2) (by decide +kernel) (by decide +kernel) (.splitB 37 4 0 (g:=none) (E:=some (47,3)) (es:=L.map tmC++[tmC (.mk 0 0 [])]) (x:=.c (cI w.kind)) (by simp[]) (show 4<5 by decide) (by simp[ar,mtm]) (by rw[hw];simp[ar,gA]) fun v' _ hgv'=>.done ?_)
     obtain⟨blk,cap,rfl⟩:∃ blk cap,v'=.slice (some ⟨blk,0,none⟩) (L.map tmC++[tmC (.mk 0 0 [])]).length cap:=by
      rcases hgv' with⟨blk,cap,h,_⟩ | ⟨h,_⟩
      ·exact⟨blk,cap,h⟩
      ·cases hl0:L<;>simp[hl0] at h
     have hsetl:(L.map tmC++[tmC (.mk 0 0 [])]).set L.length (tmC u)=(L++[u]).map tmC:=by
      rw[List.set_append_right _ _ (by rw[hlm];exact ae _),hlm,jr,eK];rfl
     have hset:∀ (g:V) (w:Tm),((tmC w).map V.c).set 0 g=[g,.c (cI w.n),.c (tsC w.l)]:=fun g w=>by rw[gA];rfl
     have hln:((L.map tmC++[tmC (.mk 0 0 [])]).length)=L.length+1:=by simp
     simp only[jL,lc,ah,Nat.reduceAdd]
     repeat' (first | exact trivial | apply And.intro)
     all_goals first
      |exact .inl (by decide +kernel)
      |refine .inr ?_
     all_goals simp only[iG,y4,seval,hset,hln]
     repeat' first
      |(refine jK (by decide +kernel) (by decide +kernel) ?_;simp only[jL,lc,ah,Nat.reduceAdd];(repeat' (first | exact trivial | apply And.intro));(all_goals (first | exact Or.inl (by decide +kernel) | refine Or.inr ?_)))
      |(refine wn (k:=L.length) dm rfl dc rfl (by decide) rfl (bn _) ?_)
      |(refine FK (b:=4) (k:=0) (len:=L.length+1) (cap:=cap) (e':=47) (sz:=3) (q:=L.length) (es:=L.map tmC++[tmC (.mk 0 0 [])]) (cs:=tmC u) dc rfl ?_ ?_ ?_ rfl (b8 _) (by decide) (by rw[hln];exact bn _) rfl ?_;(· simp);(· (simp[ar];rfl));(· simp[ar]))
      |(refine rA (by decide +kernel) ?_)
      |(simp only[iG,y4,seval])
     all_goals (
      refine .join 2 0 4 0 (v:=.slice (some ⟨blk,0,none⟩) (L.length+1) cap) (E:=some (47,3)) (es:=(L.map tmC++[tmC (.mk 0 0 [])]).set L.length (tmC u)) (show 2<5 by decide) ?_ ?_ (show 4<5 by decide) ?_ (by decide) ?_ (.unname 2 0 (g:=some (.slice (some ⟨blk,0,none⟩) (L.length+1) cap)) (E:=some (47,3)) (es:=(L.map tmC++[tmC (.mk 0 0 [])]).set L.length (tmC u)) (show 2<5 by decide) ?_ (.done ?_))
      ·simp[ar];rfl
      ·simp[ar]
      ·simp[ar];rfl
      ·simp[ar]
      ·simp[ar]
      ·simp only[pkA,seval,Vl.S.cell,hsetl]
       refine hret _ ?_
       rw[heq,Hm]
       simp only[pkA]
       exact dj [] rfl (by simp only[fC];exact bX.2 ⟨rfl,nL⟩) (ae _) (show 3≤5 by decide) trivial ⟨by simp[ar],by simp[ar,bxs],by simp[gsV],trivial⟩ cV)
    ·have hb:dH (inP (S++[.mk k n [a,b]])) a=true:=by simpa using hb
     rw[if_pos hb] at heq
     simp only[nM,seval,tsC]
     refine ia1 _ ?_
     simp only[nM,seval,lw (b8 _)]
     refine hnorm (b,S++[.mk k n [a,b]]) _ ⟨hvl b (by simp),bU (Nat.le_of_succ_le hsab.2) hsz,hS',by simp only;omega,heq⟩ (by simp only;omega) (cR (by simp only[fC];exact bX.2 ⟨rfl,Gd⟩) (show 3≤4 by decide) (show 4≤5 by decide) (by simp[FL,ar]) ⟨by simp[ar],by simp[ar,bxs],by simp[ar,bxs],by simp[],trivial⟩)
  ·by_cases hk:k=3∨k=4
   ·skip
    have h2:l.length=2:=by rcases hk with rfl | rfl<;>simp[fD] at hlen<;>omega
    obtain⟨a,b,rfl⟩:∃ a b,l=[a,b]:=by
     match l,h2 with
     |[a,b],_=>exact⟨a,b,rfl⟩
    rw[if_pos hk] at heq
    simp only at heq
    have hsab:bu a≤1000000000∧bu b+1≤bu (.mk k n [a,b]):=by simp only[bu,cH] at hs1 ⊢;omega
    have ia0:∀ K,K (.c (.rp (tmC a) 0))→cw Tryz.prog 33 (.c (.sl (List.map tmC [a,b]))) (i64 0) K:=fun K hK=>
     dL dm rfl dc (by decide) (by decide) (c:=tmC a) rfl (b8 _) hK
    have ia1:∀ K,K (.c (.rp (tmC b) 0))→cw Tryz.prog 33 (.c (.sl (List.map tmC [a,b]))) (i64 1) K:=fun K hK=>
     dL dm rfl dc (by decide) (by decide) (c:=tmC b) rfl (b8 _) hK
    simp only[nM,seval,tsC]
    refine ia0 _ ?_
    simp only[pkA,seval,lw (b8 _)]
    refine jJ rfl (sQ (S++[.mk k n [a,b]]) hS' a (hvl a (by simp)) hsab.1) (by simp[V.fz]) (show 1≤5 by decide) ⟨by simp[],trivial⟩ (fun _ _=>rfl) ?_
    simp only[pkA,seval]
    refine aZ (fun hb=>?_) (fun hb=>?_)
    ·have hb:¬ dH (inP (S++[.mk k n [a,b]])) a=true:=by simpa using hb
     rw[if_neg hb] at heq
     simp only[pkA,seval]
     refine tY (m:=4) (n:=8) rfl rfl rfl ?_
     generalize hu0:Tm.mk k n [a,b]=u at *
     refine .split 2 0 37 (g:=none) (E:=if f then some (47,3) else none) (es:=L.map tmC) (show 2<5 by decide) (by simp[ar,bxs,gsV];rfl) (by simp[ar,bxs,gsV]) rfl fun v _ hgv=>.done ?_
     have hlenv:∀ K,K (i64 (L.length:Int))→fB Tryz.prog 33 (.c (.ex v)) K:=fun K hK=>by
      rcases hgv with⟨blk,cap,rfl,_⟩ | ⟨h0,_,c,rfl⟩
      ·exact lR dm rfl (by rw[ap];exact hK)
      ·have:L=[]:=by cases L with
        |nil=>rfl
        |cons=>cases h0
       subst this
       exact lR dm rfl hK
     simp only[nM,seval,gsV]
     refine hlenv _ ?_
     simp only[y4,seval]
     generalize hE:(if f=true then some (47,3) else none)=E
     have hEE:E=none∨E=some (47,3):=by
      rw[← hE];cases f<;>simp
     have hls:∀ z∈L.map tmC,z.length=3:=wQ
     have hlm:(L.map tmC).length=L.length:=ap ..
     have hL1:L.length+1≤1000000000:=by
      have:1≤bu u:=by cases u;simp only[bu];omega
      omega
     refine jK (f:=3) (by decide +kernel) (by decide +kernel) ?_
     simp only[jL,lc,ah,Nat.reduceAdd]
     repeat' (first | exact trivial | apply And.intro)
     all_goals first
      |exact .inl (by decide +kernel)
      |refine .inr ?_
     simp only[iG,pkA,seval,tQ,rK]
     refine FI (v:=v) (E:=E) (es:=L.map tmC) (y1:=tmC (.mk 0 0 [])) (sz:=3) (by_:=40) dm rfl dc rfl rfl rfl (by decide) rfl (by simp[ar]) (by simp[ar]) ⟨by decide,by simp,by simp⟩ rfl hEE hls (b8 _) (by rw[hlm];omega) (by rw[hlm];omega) ?_
     simp only[pkA,seval]
     obtain⟨w,hw⟩:∃ w:Tm,w=(if u∈S then u else kC):=⟨_,rfl⟩
     refine nH (f:=2) (by decide +kernel) (by decide +kernel) (.splitB 37 4 0 (g:=none) (E:=some (47,3)) (es:=L.map tmC++[tmC (.mk 0 0 [])]) (x:=.c (cI w.kind)) (by simp[]) (show 4<5 by decide) (by simp[ar,mtm]) (by rw[hw];simp[ar,gA]) fun v' _ hgv'=>.done ?_)
     obtain⟨blk,cap,rfl⟩:∃ blk cap,v'=.slice (some ⟨blk,0,none⟩) (L.map tmC++[tmC (.mk 0 0 [])]).length cap:=by
      rcases hgv' with⟨blk,cap,h,_⟩ | ⟨h,_⟩
      ·exact⟨blk,cap,h⟩
      ·cases hl0:L<;>simp[hl0] at h
     have hsetl:(L.map tmC++[tmC (.mk 0 0 [])]).set L.length (tmC u)=(L++[u]).map tmC:=by
      rw[List.set_append_right _ _ (by rw[hlm];exact ae _),hlm,jr,eK];rfl
     have hset:∀ (g:V) (w:Tm),((tmC w).map V.c).set 0 g=[g,.c (cI w.n),.c (tsC w.l)]:=fun g w=>by rw[gA];rfl
     have hln:((L.map tmC++[tmC (.mk 0 0 [])]).length)=L.length+1:=by simp
     simp only[jL,lc,ah,Nat.reduceAdd]
     repeat' (first | exact trivial | apply And.intro)
     all_goals first
      |exact .inl (by decide +kernel)
      |refine .inr ?_
     all_goals simp only[iG,y4,seval,hset,hln]
     repeat' first
      |(refine jK (by decide +kernel) (by decide +kernel) ?_;simp only[jL,lc,ah,Nat.reduceAdd];(repeat' (first | exact trivial | apply And.intro));(all_goals (first | exact Or.inl (by decide +kernel) | refine Or.inr ?_)))
      |(refine wn (k:=L.length) dm rfl dc rfl (by decide) rfl (bn _) ?_)
      |(refine FK (b:=4) (k:=0) (len:=L.length+1) (cap:=cap) (e':=47) (sz:=3) (q:=L.length) (es:=L.map tmC++[tmC (.mk 0 0 [])]) (cs:=tmC u) dc rfl ?_ ?_ ?_ rfl (b8 _) (by decide) (by rw[hln];exact bn _) rfl ?_;(· simp);(· (simp[ar];rfl));(· simp[ar]))
      |(refine rA (by decide +kernel) ?_)
      |(simp only[iG,y4,seval])
     all_goals (
      refine .join 2 0 4 0 (v:=.slice (some ⟨blk,0,none⟩) (L.length+1) cap) (E:=some (47,3)) (es:=(L.map tmC++[tmC (.mk 0 0 [])]).set L.length (tmC u)) (show 2<5 by decide) ?_ ?_ (show 4<5 by decide) ?_ (by decide) ?_ (.unname 2 0 (g:=some (.slice (some ⟨blk,0,none⟩) (L.length+1) cap)) (E:=some (47,3)) (es:=(L.map tmC++[tmC (.mk 0 0 [])]).set L.length (tmC u)) (show 2<5 by decide) ?_ (.done ?_))
      ·simp[ar];rfl
      ·simp[ar]
      ·simp[ar];rfl
      ·simp[ar]
      ·simp[ar]
      ·simp only[pkA,seval,Vl.S.cell,hsetl]
       refine hret _ ?_
       rw[heq,Hm]
       simp only[pkA]
       exact dj [] rfl (by simp only[fC];exact bX.2 ⟨rfl,nL⟩) (ae _) (show 3≤5 by decide) trivial ⟨by simp[ar],by simp[ar,bxs],by simp[gsV],trivial⟩ cV)
    ·have hb:dH (inP (S++[.mk k n [a,b]])) a=true:=by simpa using hb
     rw[if_pos hb] at heq
     simp only[nM,seval,tsC]
     refine ia1 _ ?_
     simp only[nM,seval,lw (b8 _)]
     refine hnorm (b,S++[.mk k n [a,b]]) _ ⟨hvl b (by simp),bU (Nat.le_of_succ_le hsab.2) hsz,hS',by simp only;omega,heq⟩ (by simp only;omega) (cR (by simp only[fC];exact bX.2 ⟨rfl,Gd⟩) (show 3≤4 by decide) (show 4≤5 by decide) (by simp[FL,ar]) ⟨by simp[ar],by simp[ar,bxs],by simp[ar,bxs],by simp[],trivial⟩)
   ·exact absurd (.inl (by simpa using h3)) hk
