/- Layer 15: the closure's add. -/
import Derived.Test.YtegbpjodbjhjeaaGreatDoorVlUp
set_option linter.all false
namespace Go.Proofs.YtegbpjodbjhjeaaGreatDoor
open Go Go.Vl
set_option maxRecDepth 4000
def gsV (f:Bool) (l:List Tm):V:=.gs none (if f then some (47,3) else none) (l.map tmC)
def flC (f:Bool) (L L':List Tm):Bool:=f||decide (L.length<L'.length)
theorem Iq {f:Bool} {L:List Tm}:flC f L L=f:=by simp[flC]
theorem MG {f:Bool} {L:List Tm} {u:Tm}:flC f L (L++[u])=true:=by simp[flC]
def cB (S:List Tm) (f:Bool) (L:List Tm):List (List V):=[mS S,[.mr 0],[gsV f L]]
theorem Ue {S L:List Tm} {f:Bool}:cB S f L=[mS S,[.mr 0],[gsV f L]]:=rfl
theorem Uf {S L:List Tm} {f:Bool} {xs:List V} (h:xs.all (fun x=>x.ltB 3)=true):eN xs (cB S f L)=true:=by
 simp only[eN,cB,aN,aX,gC,aC,aH,h,gsV];rfl
theorem K4 {S L:List Tm} {f:Bool} {t:Tm}:([mS S,[.mr 0],[gsV f L],(tmC t).map .c]:List (List V)).all (fun b=>b.all fun x=>x.ltB 4)=true:=by
 simp only[aN,aX,gC,jD,gsV];rfl
theorem qi {S L:List Tm} {f:Bool}:([mS S,[.mr 0],[gsV f L]]:List (List V)).all (fun b=>b.all fun x=>x.ltB 3)=true:=by
 simp only[aN,aX,gC,gsV];rfl
def qj:=jj @pkA (jj @ptA @pkT)
def Dp:=jj @pkA @ptA
set_option maxHeartbeats 8000000 in
theorem Ug (t:Tm) (hv:bY t=true) (dZ:bq t≤1000000000) (S:List Tm) (f:Bool) (L:List Tm) (hS:wW S) (hL:L.length+bq t≤1000000000):FnB Tryz.prog glT 122 [.agg (tmC t),.bp 1 0,.bp 2 0] (cB S f L) (.tup []) (cB (kg t (S,L)).1 (flC f L (kg t (S,L)).2) (kg t (S,L)).2):=by
 refine nq (rs:=[]) (k:=3) [1000031,2850006,2400037,3000003] mixed Tryz.func122 rfl rfl rfl rfl (by kernel_rfl) (by simp) rfl rfl rfl (Uf rfl) (ae _) ?_
 simp only[pkA,seval,Ue]
 refine ck (fun x:Tm×List Tm=>hdS [(1,.bp 1 0),(2,.bp 2 0),(3,.bp 3 0)] [mS x.2,[.mr 0],[gsV f L],(tmC x.1).map .c]) (fun x=>bq x.1) (fun x=>bY x.1=true∧bq x.1≤1000000000∧wW x.2∧L.length+bq x.1≤1000000000∧kg t (S,L)=kg x.1 (x.2,L)) (t,S) ⟨hv,dZ,hS,hL,rfl⟩ ?_ ?_
 ·exact bT (by simp only[eQ];exact cn.2 ⟨rfl,K4⟩) (show 3≤4 by decide) (ae _) (by simp[FL,au]) ⟨by simp[au,bxs],by simp[au,bxs],by simp[au,bxs],by simp[],trivial⟩
 clear hv dZ hS hL
 rintro⟨u,S⟩ ⟨hv,dZ,hS,hL,kR⟩ R bS cd cX
 simp only at hv dZ hS hL kR bS
 simp only[qj,seval]
 refine ay rfl (Fv u hv dZ) (fun _=>rfl) ?_
 simp only[pkA,seval]
 refine MD hS hv rfl (show 0<4 by decide) ?_
 simp only[qj,seval]
 obtain⟨k,n,l⟩:=u
 obtain⟨_,_,cu,tV⟩:=fw hv
 rw[Fy] at kR
 refine aL (fun hm=>?_) (fun hm=>?_)
 ·have hm:Tm.mk k n l∈S:=by simpa using hm
  rw[if_pos hm] at kR
  rw[kR,Iq] at cX
  simp only[pkA]
  refine cX _ ?_
  simp only[pkA]
  exact dP [] rfl (by simp only[eQ];exact cn.2 ⟨rfl,qi⟩) (ae _) (show 3≤5 by decide) trivial ⟨rfl,rfl,rfl,trivial⟩ dx
 ·have hm:Tm.mk k n l∉S:=by simpa using hm
  rw[if_neg hm] at kR
  have agk:HJ S (.mk k n l)=S++[.mk k n l]:=by unfold HJ;rw[if_neg (by simpa using hm)]
  simp only[qj,seval]
  refine ay rfl (Fv _ hv dZ) (fun _=>rfl) ?_
  simp only[qj,seval]
  refine acb hS hv (by simp[au,bxs]) (show 0<5 by decide) ?_
  rw[agk]
  simp only[qj,seval]
  have hS':wW (S++[.mk k n l]):=by rw[← agk];exact Ub hS hv
  have Qm:cF l+1≤1000000000:=by simp only[bq] at dZ;omega
  refine iK (fun h3=>?_) (fun h3=>?_)
  ·have h3:¬ k=3:=by simpa using h3
   simp only[qj,seval]
   refine aL (fun h4=>?_) (fun h4=>?_)
   ·have h4:¬ k=4:=by simpa using h4
    rw[if_neg (fun h=>h.elim h3 h4)] at kR
    rw[kR,Iq] at cX
    simp only[pkA]
    refine cX _ ?_
    simp only[pkA]
    exact dP [] rfl (by simp only[eQ];exact cn.2 ⟨rfl,qi⟩) (ae _) (show 3≤5 by decide) trivial ⟨by simp[],by simp[au,bxs],by simp[au,bxs],trivial⟩ dx
   ·have hk:k=3∨k=4:=.inr (by simpa using h4)
    have h2:l.length=2:=by rcases hk with rfl | rfl<;>simp[gA] at cu<;>omega
    obtain⟨a,b,rfl⟩:∃ a b,l=[a,b]:=by
     match l,h2 with
     |[a,b],_=>exact⟨a,b,rfl⟩
    rw[if_pos hk] at kR
    simp only at kR
    have LK:bq a≤1000000000∧bq b+1≤bq (.mk k n [a,b]):=by simp only[bq,cF] at Qm ⊢;omega
    have ia0:∀ K,K (.c (.rp (tmC a) 0))→cA Tryz.prog 33 (.c (.sl (List.map tmC [a,b]))) (i64 0) K:=fun K hK=>
     df du rfl dl (by decide) (by decide) (c:=tmC a) rfl (bG _) hK
    have ia1:∀ K,K (.c (.rp (tmC b) 0))→cA Tryz.prog 33 (.c (.sl (List.map tmC [a,b]))) (i64 1) K:=fun K hK=>
     df du rfl dl (by decide) (by decide) (c:=tmC b) rfl (bG _) hK
    simp only[qj,seval,tsC]
    refine ia0 _ ?_
    simp only[pkA,seval,jA (bG _)]
    refine kZ rfl (wX (S++[.mk k n [a,b]]) hS' a (tV a (by simp)) LK.1) (by simp[V.fz]) (show 1≤5 by decide) ⟨by simp[],trivial⟩ (fun _ _=>rfl) ?_
    simp only[pkA,seval]
    refine aL (fun hb=>?_) (fun hb=>?_)
    ·have hb:¬ dD (inP (S++[.mk k n [a,b]])) a=true:=by simpa using hb
     rw[if_neg hb] at kR
     simp only[pkA,seval]
     refine yj (m:=4) (n:=8) rfl rfl rfl ?_
     generalize hu0:Tm.mk k n [a,b]=u at *
     refine .split 2 0 37 (g:=none) (E:=if f then some (47,3) else none) (es:=L.map tmC) (show 2<5 by decide) (by simp[au,bxs,gsV];rfl) (by simp[au,bxs,gsV]) rfl fun v _ hgv=>.done ?_
     have Ji:∀ K,K (i64 (L.length:Int))→lT Tryz.prog 33 (.c (.ex v)) K:=fun K hK=>by
      rcases hgv with⟨blk,cap,rfl,_⟩ | ⟨h0,_,c,rfl⟩
      ·exact nD du rfl (by rw[am];exact hK)
      ·have:L=[]:=by cases L with
        |nil=>rfl
        |cons=>cases h0
       subst this
       exact nD du rfl hK
     simp only[qj,seval,gsV]
     refine Ji _ ?_
     simp only[Dp,seval]
     generalize hE:(if f=true then some (47,3) else none)=E
     have Y8:E=none∨E=some (47,3):=by
      rw[← hE];cases f<;>simp
     have v7:∀ z∈L.map tmC,z.length=3:=Bh
     have sr:(L.map tmC).length=L.length:=am ..
     have hL1:L.length+1≤1000000000:=by
      have:1≤bq u:=by cases u;simp only[bq];omega
      omega
     refine k6 (f:=3) (by decide +kernel) (by decide +kernel) ?_
     simp only[k7,mR,ah,Nat.reduceAdd]
     repeat' (first | exact trivial | apply And.intro)
     all_goals first
      |exact .inl (by decide +kernel)
      |refine .inr ?_
     simp only[jz,pkA,seval,ye,xM]
     refine Kw (v:=v) (E:=E) (es:=L.map tmC) (y1:=tmC (.mk 0 0 [])) (sz:=3) (by_:=40) du rfl dl rfl rfl rfl (by decide) rfl (by simp[au]) (by simp[au]) ⟨by decide,by simp,by simp⟩ rfl Y8 v7 (bG _) (by rw[sr];omega) (by rw[sr];omega) ?_
     simp only[pkA,seval]
     obtain⟨w,hw⟩:∃ w:Tm,w=(if u∈S then u else ma):=⟨_,rfl⟩
     refine qf (f:=2) (by decide +kernel) (by decide +kernel) (.splitB 37 4 0 (g:=none) (E:=some (47,3)) (es:=L.map tmC++[tmC (.mk 0 0 [])]) (x:=.c (cI w.kind)) (by simp[]) (show 4<5 by decide) (by simp[au,mtm]) (by rw[hw];simp[au,j8]) fun v' _ VQ=>.done ?_)
     obtain⟨blk,cap,rfl⟩:∃ blk cap,v'=.slice (some ⟨blk,0,none⟩) (L.map tmC++[tmC (.mk 0 0 [])]).length cap:=by
      rcases VQ with⟨blk,cap,h,_⟩ | ⟨h,_⟩
      ·exact⟨blk,cap,h⟩
      ·cases BR:L<;>simp[BR] at h
     have Jj:(L.map tmC++[tmC (.mk 0 0 [])]).set L.length (tmC u)=(L++[u]).map tmC:=by
      rw[List.set_append_right _ _ (by rw[sr];exact ae _),sr,kB,dL];rfl
     have gv:∀ (g:V) (w:Tm),((tmC w).map V.c).set 0 g=[g,.c (cI w.n),.c (tsC w.l)]:=fun g w=>by rw[j8];rfl
     have hln:((L.map tmC++[tmC (.mk 0 0 [])]).length)=L.length+1:=by simp
     simp only[k7,mR,ah,Nat.reduceAdd]
     repeat' (first | exact trivial | apply And.intro)
     all_goals first
      |exact .inl (by decide +kernel)
      |refine .inr ?_
     all_goals simp only[jz,Dp,seval,gv,hln]
     repeat' first
      |(refine k6 (by decide +kernel) (by decide +kernel) ?_;simp only[k7,mR,ah,Nat.reduceAdd];(repeat' (first | exact trivial | apply And.intro));(all_goals (first | exact Or.inl (by decide +kernel) | refine Or.inr ?_)))
      |(refine AS (k:=L.length) du rfl dl rfl (by decide) rfl (bz _) ?_)
      |(refine Kx (b:=4) (k:=0) (len:=L.length+1) (cap:=cap) (e':=47) (sz:=3) (q:=L.length) (es:=L.map tmC++[tmC (.mk 0 0 [])]) (cs:=tmC u) dl rfl ?_ ?_ ?_ rfl (bG _) (by decide) (by rw[hln];exact bz _) rfl ?_;(· simp);(· (simp[au];rfl));(· simp[au]))
      |(refine vC (by decide +kernel) ?_)
      |(simp only[jz,Dp,seval])
     all_goals (
      refine .join 2 0 4 0 (v:=.slice (some ⟨blk,0,none⟩) (L.length+1) cap) (E:=some (47,3)) (es:=(L.map tmC++[tmC (.mk 0 0 [])]).set L.length (tmC u)) (show 2<5 by decide) ?_ ?_ (show 4<5 by decide) ?_ (by decide) ?_ (.unname 2 0 (g:=some (.slice (some ⟨blk,0,none⟩) (L.length+1) cap)) (E:=some (47,3)) (es:=(L.map tmC++[tmC (.mk 0 0 [])]).set L.length (tmC u)) (show 2<5 by decide) ?_ (.done ?_))
      ·simp[au];rfl
      ·simp[au]
      ·simp[au];rfl
      ·simp[au]
      ·simp[au]
      ·simp only[pkA,seval,Vl.S.cell,Jj]
       refine cX _ ?_
       rw[kR,MG]
       simp only[pkA]
       exact dP [] rfl (by simp only[eQ];exact cn.2 ⟨rfl,qi⟩) (ae _) (show 3≤5 by decide) trivial ⟨by simp[au],by simp[au,bxs],by simp[gsV],trivial⟩ dx)
    ·have hb:dD (inP (S++[.mk k n [a,b]])) a=true:=by simpa using hb
     rw[if_pos hb] at kR
     simp only[qj,seval,tsC]
     refine ia1 _ ?_
     simp only[qj,seval,jA (bG _)]
     refine bS (b,S++[.mk k n [a,b]]) _ ⟨tV b (by simp),cj (Nat.le_of_succ_le LK.2) dZ,hS',by simp only;omega,kR⟩ (by simp only;omega) (bT (by simp only[eQ];exact cn.2 ⟨rfl,K4⟩) (show 3≤4 by decide) (show 4≤5 by decide) (by simp[FL,au]) ⟨by simp[au],by simp[au,bxs],by simp[au,bxs],by simp[],trivial⟩)
  ·by_cases hk:k=3∨k=4
   ·skip
    have h2:l.length=2:=by rcases hk with rfl | rfl<;>simp[gA] at cu<;>omega
    obtain⟨a,b,rfl⟩:∃ a b,l=[a,b]:=by
     match l,h2 with
     |[a,b],_=>exact⟨a,b,rfl⟩
    rw[if_pos hk] at kR
    simp only at kR
    have LK:bq a≤1000000000∧bq b+1≤bq (.mk k n [a,b]):=by simp only[bq,cF] at Qm ⊢;omega
    have ia0:∀ K,K (.c (.rp (tmC a) 0))→cA Tryz.prog 33 (.c (.sl (List.map tmC [a,b]))) (i64 0) K:=fun K hK=>
     df du rfl dl (by decide) (by decide) (c:=tmC a) rfl (bG _) hK
    have ia1:∀ K,K (.c (.rp (tmC b) 0))→cA Tryz.prog 33 (.c (.sl (List.map tmC [a,b]))) (i64 1) K:=fun K hK=>
     df du rfl dl (by decide) (by decide) (c:=tmC b) rfl (bG _) hK
    simp only[qj,seval,tsC]
    refine ia0 _ ?_
    simp only[pkA,seval,jA (bG _)]
    refine kZ rfl (wX (S++[.mk k n [a,b]]) hS' a (tV a (by simp)) LK.1) (by simp[V.fz]) (show 1≤5 by decide) ⟨by simp[],trivial⟩ (fun _ _=>rfl) ?_
    simp only[pkA,seval]
    refine aL (fun hb=>?_) (fun hb=>?_)
    ·have hb:¬ dD (inP (S++[.mk k n [a,b]])) a=true:=by simpa using hb
     rw[if_neg hb] at kR
     simp only[pkA,seval]
     refine yj (m:=4) (n:=8) rfl rfl rfl ?_
     generalize hu0:Tm.mk k n [a,b]=u at *
     refine .split 2 0 37 (g:=none) (E:=if f then some (47,3) else none) (es:=L.map tmC) (show 2<5 by decide) (by simp[au,bxs,gsV];rfl) (by simp[au,bxs,gsV]) rfl fun v _ hgv=>.done ?_
     have Ji:∀ K,K (i64 (L.length:Int))→lT Tryz.prog 33 (.c (.ex v)) K:=fun K hK=>by
      rcases hgv with⟨blk,cap,rfl,_⟩ | ⟨h0,_,c,rfl⟩
      ·exact nD du rfl (by rw[am];exact hK)
      ·have:L=[]:=by cases L with
        |nil=>rfl
        |cons=>cases h0
       subst this
       exact nD du rfl hK
     simp only[qj,seval,gsV]
     refine Ji _ ?_
     simp only[Dp,seval]
     generalize hE:(if f=true then some (47,3) else none)=E
     have Y8:E=none∨E=some (47,3):=by
      rw[← hE];cases f<;>simp
     have v7:∀ z∈L.map tmC,z.length=3:=Bh
     have sr:(L.map tmC).length=L.length:=am ..
     have hL1:L.length+1≤1000000000:=by
      have:1≤bq u:=by cases u;simp only[bq];omega
      omega
     refine k6 (f:=3) (by decide +kernel) (by decide +kernel) ?_
     simp only[k7,mR,ah,Nat.reduceAdd]
     repeat' (first | exact trivial | apply And.intro)
     all_goals first
      |exact .inl (by decide +kernel)
      |refine .inr ?_
     simp only[jz,pkA,seval,ye,xM]
     refine Kw (v:=v) (E:=E) (es:=L.map tmC) (y1:=tmC (.mk 0 0 [])) (sz:=3) (by_:=40) du rfl dl rfl rfl rfl (by decide) rfl (by simp[au]) (by simp[au]) ⟨by decide,by simp,by simp⟩ rfl Y8 v7 (bG _) (by rw[sr];omega) (by rw[sr];omega) ?_
     simp only[pkA,seval]
     obtain⟨w,hw⟩:∃ w:Tm,w=(if u∈S then u else ma):=⟨_,rfl⟩
     refine qf (f:=2) (by decide +kernel) (by decide +kernel) (.splitB 37 4 0 (g:=none) (E:=some (47,3)) (es:=L.map tmC++[tmC (.mk 0 0 [])]) (x:=.c (cI w.kind)) (by simp[]) (show 4<5 by decide) (by simp[au,mtm]) (by rw[hw];simp[au,j8]) fun v' _ VQ=>.done ?_)
     obtain⟨blk,cap,rfl⟩:∃ blk cap,v'=.slice (some ⟨blk,0,none⟩) (L.map tmC++[tmC (.mk 0 0 [])]).length cap:=by
      rcases VQ with⟨blk,cap,h,_⟩ | ⟨h,_⟩
      ·exact⟨blk,cap,h⟩
      ·cases BR:L<;>simp[BR] at h
     have Jj:(L.map tmC++[tmC (.mk 0 0 [])]).set L.length (tmC u)=(L++[u]).map tmC:=by
      rw[List.set_append_right _ _ (by rw[sr];exact ae _),sr,kB,dL];rfl
     have gv:∀ (g:V) (w:Tm),((tmC w).map V.c).set 0 g=[g,.c (cI w.n),.c (tsC w.l)]:=fun g w=>by rw[j8];rfl
     have hln:((L.map tmC++[tmC (.mk 0 0 [])]).length)=L.length+1:=by simp
     simp only[k7,mR,ah,Nat.reduceAdd]
     repeat' (first | exact trivial | apply And.intro)
     all_goals first
      |exact .inl (by decide +kernel)
      |refine .inr ?_
     all_goals simp only[jz,Dp,seval,gv,hln]
     repeat' first
      |(refine k6 (by decide +kernel) (by decide +kernel) ?_;simp only[k7,mR,ah,Nat.reduceAdd];(repeat' (first | exact trivial | apply And.intro));(all_goals (first | exact Or.inl (by decide +kernel) | refine Or.inr ?_)))
      |(refine AS (k:=L.length) du rfl dl rfl (by decide) rfl (bz _) ?_)
      |(refine Kx (b:=4) (k:=0) (len:=L.length+1) (cap:=cap) (e':=47) (sz:=3) (q:=L.length) (es:=L.map tmC++[tmC (.mk 0 0 [])]) (cs:=tmC u) dl rfl ?_ ?_ ?_ rfl (bG _) (by decide) (by rw[hln];exact bz _) rfl ?_;(· simp);(· (simp[au];rfl));(· simp[au]))
      |(refine vC (by decide +kernel) ?_)
      |(simp only[jz,Dp,seval])
     all_goals (
      refine .join 2 0 4 0 (v:=.slice (some ⟨blk,0,none⟩) (L.length+1) cap) (E:=some (47,3)) (es:=(L.map tmC++[tmC (.mk 0 0 [])]).set L.length (tmC u)) (show 2<5 by decide) ?_ ?_ (show 4<5 by decide) ?_ (by decide) ?_ (.unname 2 0 (g:=some (.slice (some ⟨blk,0,none⟩) (L.length+1) cap)) (E:=some (47,3)) (es:=(L.map tmC++[tmC (.mk 0 0 [])]).set L.length (tmC u)) (show 2<5 by decide) ?_ (.done ?_))
      ·simp[au];rfl
      ·simp[au]
      ·simp[au];rfl
      ·simp[au]
      ·simp[au]
      ·simp only[pkA,seval,Vl.S.cell,Jj]
       refine cX _ ?_
       rw[kR,MG]
       simp only[pkA]
       exact dP [] rfl (by simp only[eQ];exact cn.2 ⟨rfl,qi⟩) (ae _) (show 3≤5 by decide) trivial ⟨by simp[au],by simp[au,bxs],by simp[gsV],trivial⟩ dx)
    ·have hb:dD (inP (S++[.mk k n [a,b]])) a=true:=by simpa using hb
     rw[if_pos hb] at kR
     simp only[qj,seval,tsC]
     refine ia1 _ ?_
     simp only[qj,seval,jA (bG _)]
     refine bS (b,S++[.mk k n [a,b]]) _ ⟨tV b (by simp),cj (Nat.le_of_succ_le LK.2) dZ,hS',by simp only;omega,kR⟩ (by simp only;omega) (bT (by simp only[eQ];exact cn.2 ⟨rfl,K4⟩) (show 3≤4 by decide) (show 4≤5 by decide) (by simp[FL,au]) ⟨by simp[au],by simp[au,bxs],by simp[au,bxs],by simp[],trivial⟩)
   ·exact absurd (.inl (by simpa using h3)) hk
