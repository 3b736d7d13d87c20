/- Layer 15: the closure's add. -/
import Derived.Test.YtegbpjodbjhjeaaGreatDoorVlUp
set_option maxHeartbeats 8000000
set_option linter.all false
namespace Go.Proofs.YtegbpjodbjhjeaaGreatDoor
open Go Go.Vl
set_option maxRecDepth 4000
def gsV (f:Bool) (l:List Tm):V:=.gs none (if f then some (47,3) else none) (l.map tmC)
def flC (f:Bool) (L L':List Tm):Bool:=f||decide (L.length<L'.length)
theorem IT {f:Bool} {L:List Tm}:flC f L L=f:=by simp[flC]
theorem Nh {f:Bool} {L:List Tm} {u:Tm}:flC f L (L++[u])=true:=by simp[flC]
def cB (S:List Tm) (f:Bool) (L:List Tm):List (List V):=[mS S,[.mr 0],[gsV f L]]
theorem UX {S L:List Tm} {f:Bool}:cB S f L=[mS S,[.mr 0],[gsV f L]]:=rfl
theorem UY {S L:List Tm} {f:Bool} {xs:List V} (h:xs.all (λx=>x.ltB 3)=true):eM xs (cB S f L)=true:=by simp only[eM,cB,aK,aQ,gU,aI,aL,h,gsV];rfl
theorem Ly {S L:List Tm} {f:Bool} {t:Tm}:([mS S,[.mr 0],[gsV f L],(tmC t).map .c]:List (List V)).all (λb=>b.all λx=>x.ltB 4)=true:=by simp only[aK,aQ,gU,iY,gsV];rfl
theorem qj {S L:List Tm} {f:Bool}:([mS S,[.mr 0],[gsV f L]]:List (List V)).all (λb=>b.all λx=>x.ltB 3)=true:=by simp only[aK,aQ,gU,gsV];rfl
def qk:=jj @pkA (jj @ptA @pkT)
def DZ:=jj @pkA @ptA
theorem UZ (t:Tm) (hv:bW t=true) (ej:bi t<=1000000000) (S:List Tm) (f:Bool) (L:List Tm) (hS:xh S) (hL:L.length+bi t<=1000000000):FnB Tryz.prog glT 122 [.agg (tmC t),.bp 1 0,.bp 2 0] (cB S f L) (.tup []) (cB (kf t (S,L)).1 (flC f L (kf t (S,L)).2) (kf t (S,L)).2):=by
 refine nD (rs:=[]) (k:=3) [1000031,2850006,2400037,3000003] mixed Tryz.func122 rfl rfl rfl rfl (by kernel_rfl) (by simp) rfl rfl rfl (UY rfl) (ai _) ?_;simp only[pkA,seval,UX];refine cm (λx:Tm×List Tm=>hdS [(1,.bp 1 0),(2,.bp 2 0),(3,.bp 3 0)] [mS x.2,[.mr 0],[gsV f L],(tmC x.1).map .c]) (λx=>bi x.1) (λx=>bW x.1=true/\bi x.1<=1000000000/\xh x.2/\L.length+bi x.1<=1000000000/\kf t (S,L)=kf x.1 (x.2,L)) (t,S) ⟨hv,ej,hS,hL,rfl⟩ ?_ ?_
 .exact bT (by simp only[eu];exact cx.2 ⟨rfl,Ly⟩) (show 3<=4 by decide) (ai _) (by simp[FL,aw]) ⟨by simp[aw,bxs],by simp[aw,bxs],by simp[aw,bxs],by simp[],trivial⟩
 clear hv ej hS hL;rintro⟨u,S⟩ ⟨hv,ej,hS,hL,kL⟩ R bN b8 db;simp only at hv ej hS hL kL bN;simp only[qk,seval];refine ax rfl (F3 u hv ej) (λ_=>rfl) ?_;simp only[pkA,seval];refine Nc hS hv rfl (show 0<4 by decide) ?_;simp only[qk,seval];obtain⟨k,n,l⟩:=u;obtain⟨_,_,cH,ui⟩:=fe hv;rw[F7] at kL;refine aJ (λhm=>?_) (λhm=>?_)
 .have hm:Tm.mk k n l∈S:=by simpa using hm
  rw[if_pos hm] at kL;rw[kL,IT] at db;simp only[pkA];refine db _ ?_;simp only[pkA];exact eO [] rfl (by simp only[eu];exact cx.2 ⟨rfl,qj⟩) (ai _) (show 3<=5 by decide) trivial ⟨rfl,rfl,rfl,trivial⟩ dD
 .have hm:Tm.mk k n l∉S:=by simpa using hm
  rw[if_neg hm] at kL;have ahO:Ih S (.mk k n l)=S++[.mk k n l]:=by unfold Ih;rw[if_neg (by simpa using hm)]
  simp only[qk,seval];refine ax rfl (F3 _ hv ej) (λ_=>rfl) ?_;simp only[qk,seval];refine adC hS hv (by simp[aw,bxs]) (show 0<5 by decide) ?_;rw[ahO];simp only[qk,seval];have hS':xh (S++[.mk k n l]):=by rw[<- ahO];exact UU hS hv
  have WS:cz l+1<=1000000000:=by simp only[bi] at ej;omega
  refine fQ (λh3=>?_) (λh3=>?_)
  .have h3:¬ k=3:=by simpa using h3
   simp only[qk,seval];refine aJ (λh4=>?_) (λh4=>?_)
   .have h4:¬ k=4:=by simpa using h4
    rw[if_neg (λh=>h.elim h3 h4)] at kL;rw[kL,IT] at db;simp only[pkA];refine db _ ?_;simp only[pkA];exact eO [] rfl (by simp only[eu];exact cx.2 ⟨rfl,qj⟩) (ai _) (show 3<=5 by decide) trivial ⟨by simp[],by simp[aw,bxs],by simp[aw,bxs],trivial⟩ dD
   .have hk:k=3∨k=4:=.inr (by simpa using h4)
    have h2:l.length=2:=by rcases hk with rfl | rfl<;>simp[gR] at cH<;>omega
    obtain⟨a,b,rfl⟩:∃ a b,l=[a,b]:=by
     match l,h2 with
     |[a,b],_=>exact⟨a,b,rfl⟩
    rw[if_pos hk] at kL;simp only at kL;have Mj:bi a<=1000000000/\bi b+1<=bi (.mk k n [a,b]):=(by simp only[bi,cz] at WS ⊢;omega);have ia0:∀ K,K (.c (.rp (tmC a) 0))->bK Tryz.prog 33 (.c (.sl (List.map tmC [a,b]))) (i64 0) K:=λK hK=>
     cR dc rfl cV (by decide) (by decide) (c:=tmC a) rfl (bG _) hK
    have ia1:∀ K,K (.c (.rp (tmC b) 0))->bK Tryz.prog 33 (.c (.sl (List.map tmC [a,b]))) (i64 1) K:=λK hK=>
     cR dc rfl cV (by decide) (by decide) (c:=tmC b) rfl (bG _) hK
    simp only[qk,seval,tsC];refine ia0 _ ?_;simp only[pkA,seval,jr (bG _)];refine k7 rfl (xj (S++[.mk k n [a,b]]) hS' a (ui a (by simp)) Mj.1) (by simp[V.fz]) (show 1<=5 by decide) ⟨by simp[],trivial⟩ (λ_ _=>rfl) ?_;simp only[pkA,seval];refine aJ (λhb=>?_) (λhb=>?_)
    .have hb:¬ dH (inP (S++[.mk k n [a,b]])) a=true:=by simpa using hb
     rw[if_neg hb] at kL;simp only[pkA,seval];refine yA (m:=4) (n:=8) rfl rfl rfl ?_;generalize hu0:Tm.mk k n [a,b]=u at *;refine .split 2 0 37 (g:=none) (E:=if f then some (47,3) else none) (es:=L.map tmC) (show 2<5 by decide) (by simp[aw,bxs,gsV];rfl) (by simp[aw,bxs,gsV]) rfl λv _ hgv=>.done ?_
     have JL:∀ K,K (i64 (L.length:Int))->mb Tryz.prog 33 (.c (.ex v)) K:=λK hK=>by
      rcases hgv with⟨blk,cap,rfl,_⟩ | ⟨h0,_,c,rfl⟩
      .exact nN dc rfl (by rw[aj];exact hK)
      .have:L=[]:=by cases L with
        |nil=>rfl
        |cons=>cases h0
       subst this;exact nN dc rfl hK
     simp only[qk,seval,gsV];refine JL _ ?_;simp only[DZ,seval];generalize hE:(if f=true then some (47,3) else none)=E
     have hEE:E=none∨E=some (47,3):=(by rw[<- hE];cases f<;>simp);have xU:∀ z∈L.map tmC,z.length=3:=BP;have sP:(L.map tmC).length=L.length:=aj ..
     have hL1:L.length+1<=1000000000:=(by have:1<=bi u:=(by cases u;simp only[bi];omega);omega);refine k9 (f:=3) (by decide +kernel) (by decide +kernel) ?_;simp only[lb,mY,ao,Nat.reduceAdd]
     repeat' (first | exact trivial | apply And.intro)
     all_goals first
      |exact .inl (by decide +kernel)
      |refine .inr ?_
     simp only[jy,pkA,seval,fP,yd];refine K8 (v:=v) (E:=E) (es:=L.map tmC) (y1:=tmC (.mk 0 0 [])) (sz:=3) (by_:=40) dc rfl cV rfl rfl rfl (by decide) rfl (by simp[aw]) (by simp[aw]) ⟨by decide,by simp,by simp⟩ rfl hEE xU (bG _) (by rw[sP];omega) (by rw[sP];omega) ?_;simp only[pkA,seval];obtain⟨w,hw⟩:∃ w:Tm,w=(if u∈S then u else gV):=⟨_,rfl⟩
     refine qg (f:=2) (by decide +kernel) (by decide +kernel) (.splitB 37 4 0 (g:=none) (E:=some (47,3)) (es:=L.map tmC++[tmC (.mk 0 0 [])]) (x:=.c (cI w.kind)) (by simp[]) (show 4<5 by decide) (by simp[aw,mtm]) (by rw[hw];simp[aw,fx]) λv' _ WR=>.done ?_);obtain⟨blk,cap,rfl⟩:∃ blk cap,v'=.slice (some ⟨blk,0,none⟩) (L.map tmC++[tmC (.mk 0 0 [])]).length cap:=by
      rcases WR with⟨blk,cap,h,_⟩ | ⟨h,_⟩
      .exact⟨blk,cap,h⟩
      .cases JV:L<;>simp[JV] at h
     have JM:(L.map tmC++[tmC (.mk 0 0 [])]).set L.length (tmC u)=(L++[u]).map tmC:=(by rw[List.set_append_right _ _ (by rw[sP];exact ai _),sP,kw,dl];rfl);have nI:∀ (g:V) (w:Tm),((tmC w).map V.c).set 0 g=[g,.c (cI w.n),.c (tsC w.l)]:=λg w=>by rw[fx];rfl
     have hln:((L.map tmC++[tmC (.mk 0 0 [])]).length)=L.length+1:=(by simp);simp only[lb,mY,ao,Nat.reduceAdd]
     repeat' (first | exact trivial | apply And.intro)
     all_goals first
      |exact .inl (by decide +kernel)
      |refine .inr ?_
     all_goals simp only[jy,DZ,seval,nI,hln]
     repeat' first
      |(refine k9 (by decide +kernel) (by decide +kernel) ?_;simp only[lb,mY,ao,Nat.reduceAdd];(repeat' (first | exact trivial | apply And.intro));(all_goals (first | exact Or.inl (by decide +kernel) | refine Or.inr ?_)))
      |(refine Bo (k:=L.length) dc rfl cV rfl (by decide) rfl (bH _) ?_)
      |(refine K9 (b:=4) (k:=0) (len:=L.length+1) (cap:=cap) (e':=47) (sz:=3) (q:=L.length) (es:=L.map tmC++[tmC (.mk 0 0 [])]) (cs:=tmC u) cV rfl ?_ ?_ ?_ rfl (bG _) (by decide) (by rw[hln];exact bH _) rfl ?_;(· simp);(· (simp[aw];rfl));(· simp[aw]))
      |(refine vN (by decide +kernel) ?_)
      |(simp only[jy,DZ,seval])
     all_goals (
      refine .join 2 0 4 0 (v:=.slice (some ⟨blk,0,none⟩) (L.length+1) cap) (E:=some (47,3)) (es:=(L.map tmC++[tmC (.mk 0 0 [])]).set L.length (tmC u)) (show 2<5 by decide) ?_ ?_ (show 4<5 by decide) ?_ (by decide) ?_ (.unname 2 0 (g:=some (.slice (some ⟨blk,0,none⟩) (L.length+1) cap)) (E:=some (47,3)) (es:=(L.map tmC++[tmC (.mk 0 0 [])]).set L.length (tmC u)) (show 2<5 by decide) ?_ (.done ?_))
      .simp[aw];rfl
      .simp[aw]
      .simp[aw];rfl
      .simp[aw]
      .simp[aw]
      .simp only[pkA,seval,Vl.S.cell,JM]
       refine db _ ?_;rw[kL,Nh];simp only[pkA];exact eO [] rfl (by simp only[eu];exact cx.2 ⟨rfl,qj⟩) (ai _) (show 3<=5 by decide) trivial ⟨by simp[aw],by simp[aw,bxs],by simp[gsV],trivial⟩ dD)
    .have hb:dH (inP (S++[.mk k n [a,b]])) a=true:=by simpa using hb
     rw[if_pos hb] at kL;simp only[qk,seval,tsC];refine ia1 _ ?_;simp only[qk,seval,jr (bG _)];refine bN (b,S++[.mk k n [a,b]]) _ ⟨ui b (by simp),ci (Nat.le_of_succ_le Mj.2) ej,hS',by simp only;omega,kL⟩ (by simp only;omega) (bT (by simp only[eu];exact cx.2 ⟨rfl,Ly⟩) (show 3<=4 by decide) (show 4<=5 by decide) (by simp[FL,aw]) ⟨by simp[aw],by simp[aw,bxs],by simp[aw,bxs],by simp[],trivial⟩)
  .by_cases hk:k=3∨k=4
   .skip
    have h2:l.length=2:=by rcases hk with rfl | rfl<;>simp[gR] at cH<;>omega
    obtain⟨a,b,rfl⟩:∃ a b,l=[a,b]:=by
     match l,h2 with
     |[a,b],_=>exact⟨a,b,rfl⟩
    rw[if_pos hk] at kL;simp only at kL;have Mj:bi a<=1000000000/\bi b+1<=bi (.mk k n [a,b]):=(by simp only[bi,cz] at WS ⊢;omega);have ia0:∀ K,K (.c (.rp (tmC a) 0))->bK Tryz.prog 33 (.c (.sl (List.map tmC [a,b]))) (i64 0) K:=λK hK=>
     cR dc rfl cV (by decide) (by decide) (c:=tmC a) rfl (bG _) hK
    have ia1:∀ K,K (.c (.rp (tmC b) 0))->bK Tryz.prog 33 (.c (.sl (List.map tmC [a,b]))) (i64 1) K:=λK hK=>
     cR dc rfl cV (by decide) (by decide) (c:=tmC b) rfl (bG _) hK
    simp only[qk,seval,tsC];refine ia0 _ ?_;simp only[pkA,seval,jr (bG _)];refine k7 rfl (xj (S++[.mk k n [a,b]]) hS' a (ui a (by simp)) Mj.1) (by simp[V.fz]) (show 1<=5 by decide) ⟨by simp[],trivial⟩ (λ_ _=>rfl) ?_;simp only[pkA,seval];refine aJ (λhb=>?_) (λhb=>?_)
    .have hb:¬ dH (inP (S++[.mk k n [a,b]])) a=true:=by simpa using hb
     rw[if_neg hb] at kL;simp only[pkA,seval];refine yA (m:=4) (n:=8) rfl rfl rfl ?_;generalize hu0:Tm.mk k n [a,b]=u at *;refine .split 2 0 37 (g:=none) (E:=if f then some (47,3) else none) (es:=L.map tmC) (show 2<5 by decide) (by simp[aw,bxs,gsV];rfl) (by simp[aw,bxs,gsV]) rfl λv _ hgv=>.done ?_
     have JL:∀ K,K (i64 (L.length:Int))->mb Tryz.prog 33 (.c (.ex v)) K:=λK hK=>by
      rcases hgv with⟨blk,cap,rfl,_⟩ | ⟨h0,_,c,rfl⟩
      .exact nN dc rfl (by rw[aj];exact hK)
      .have:L=[]:=by cases L with
        |nil=>rfl
        |cons=>cases h0
       subst this;exact nN dc rfl hK
     simp only[qk,seval,gsV];refine JL _ ?_;simp only[DZ,seval];generalize hE:(if f=true then some (47,3) else none)=E
     have hEE:E=none∨E=some (47,3):=(by rw[<- hE];cases f<;>simp);have xU:∀ z∈L.map tmC,z.length=3:=BP;have sP:(L.map tmC).length=L.length:=aj ..
     have hL1:L.length+1<=1000000000:=(by have:1<=bi u:=(by cases u;simp only[bi];omega);omega);refine k9 (f:=3) (by decide +kernel) (by decide +kernel) ?_;simp only[lb,mY,ao,Nat.reduceAdd]
     repeat' (first | exact trivial | apply And.intro)
     all_goals first
      |exact .inl (by decide +kernel)
      |refine .inr ?_
     simp only[jy,pkA,seval,fP,yd];refine K8 (v:=v) (E:=E) (es:=L.map tmC) (y1:=tmC (.mk 0 0 [])) (sz:=3) (by_:=40) dc rfl cV rfl rfl rfl (by decide) rfl (by simp[aw]) (by simp[aw]) ⟨by decide,by simp,by simp⟩ rfl hEE xU (bG _) (by rw[sP];omega) (by rw[sP];omega) ?_;simp only[pkA,seval];obtain⟨w,hw⟩:∃ w:Tm,w=(if u∈S then u else gV):=⟨_,rfl⟩
     refine qg (f:=2) (by decide +kernel) (by decide +kernel) (.splitB 37 4 0 (g:=none) (E:=some (47,3)) (es:=L.map tmC++[tmC (.mk 0 0 [])]) (x:=.c (cI w.kind)) (by simp[]) (show 4<5 by decide) (by simp[aw,mtm]) (by rw[hw];simp[aw,fx]) λv' _ WR=>.done ?_);obtain⟨blk,cap,rfl⟩:∃ blk cap,v'=.slice (some ⟨blk,0,none⟩) (L.map tmC++[tmC (.mk 0 0 [])]).length cap:=by
      rcases WR with⟨blk,cap,h,_⟩ | ⟨h,_⟩
      .exact⟨blk,cap,h⟩
      .cases JV:L<;>simp[JV] at h
     have JM:(L.map tmC++[tmC (.mk 0 0 [])]).set L.length (tmC u)=(L++[u]).map tmC:=(by rw[List.set_append_right _ _ (by rw[sP];exact ai _),sP,kw,dl];rfl);have nI:∀ (g:V) (w:Tm),((tmC w).map V.c).set 0 g=[g,.c (cI w.n),.c (tsC w.l)]:=λg w=>by rw[fx];rfl
     have hln:((L.map tmC++[tmC (.mk 0 0 [])]).length)=L.length+1:=(by simp);simp only[lb,mY,ao,Nat.reduceAdd]
     repeat' (first | exact trivial | apply And.intro)
     all_goals first
      |exact .inl (by decide +kernel)
      |refine .inr ?_
     all_goals simp only[jy,DZ,seval,nI,hln]
     repeat' first
      |(refine k9 (by decide +kernel) (by decide +kernel) ?_;simp only[lb,mY,ao,Nat.reduceAdd];(repeat' (first | exact trivial | apply And.intro));(all_goals (first | exact Or.inl (by decide +kernel) | refine Or.inr ?_)))
      |(refine Bo (k:=L.length) dc rfl cV rfl (by decide) rfl (bH _) ?_)
      |(refine K9 (b:=4) (k:=0) (len:=L.length+1) (cap:=cap) (e':=47) (sz:=3) (q:=L.length) (es:=L.map tmC++[tmC (.mk 0 0 [])]) (cs:=tmC u) cV rfl ?_ ?_ ?_ rfl (bG _) (by decide) (by rw[hln];exact bH _) rfl ?_;(· simp);(· (simp[aw];rfl));(· simp[aw]))
      |(refine vN (by decide +kernel) ?_)
      |(simp only[jy,DZ,seval])
     all_goals (
      refine .join 2 0 4 0 (v:=.slice (some ⟨blk,0,none⟩) (L.length+1) cap) (E:=some (47,3)) (es:=(L.map tmC++[tmC (.mk 0 0 [])]).set L.length (tmC u)) (show 2<5 by decide) ?_ ?_ (show 4<5 by decide) ?_ (by decide) ?_ (.unname 2 0 (g:=some (.slice (some ⟨blk,0,none⟩) (L.length+1) cap)) (E:=some (47,3)) (es:=(L.map tmC++[tmC (.mk 0 0 [])]).set L.length (tmC u)) (show 2<5 by decide) ?_ (.done ?_))
      .simp[aw];rfl
      .simp[aw]
      .simp[aw];rfl
      .simp[aw]
      .simp[aw]
      .simp only[pkA,seval,Vl.S.cell,JM]
       refine db _ ?_;rw[kL,Nh];simp only[pkA];exact eO [] rfl (by simp only[eu];exact cx.2 ⟨rfl,qj⟩) (ai _) (show 3<=5 by decide) trivial ⟨by simp[aw],by simp[aw,bxs],by simp[gsV],trivial⟩ dD)
    .have hb:dH (inP (S++[.mk k n [a,b]])) a=true:=by simpa using hb
     rw[if_pos hb] at kL;simp only[qk,seval,tsC];refine ia1 _ ?_;simp only[qk,seval,jr (bG _)];refine bN (b,S++[.mk k n [a,b]]) _ ⟨ui b (by simp),ci (Nat.le_of_succ_le Mj.2) ej,hS',by simp only;omega,kL⟩ (by simp only;omega) (bT (by simp only[eu];exact cx.2 ⟨rfl,Ly⟩) (show 3<=4 by decide) (show 4<=5 by decide) (by simp[FL,aw]) ⟨by simp[aw],by simp[aw,bxs],by simp[aw,bxs],by simp[],trivial⟩)
   .exact absurd (.inl (by simpa using h3)) hk
def xV (a:Option Addr) (E:Option (TypeId×Nat)) (cap:Nat) (L:List Tm):V:=.gs (some (.slice a L.length cap)) E (L.map tmC)
def xB (S:List Tm) (a:Option Addr) (E:Option (TypeId×Nat)) (cap:Nat) (L:List Tm):List (List V):=[mS S,[.mr 0],[xV a E cap L]]
theorem aax {S L:List Tm} {a:Option Addr} {E:Option (TypeId×Nat)} {cap:Nat}:xB S a E cap L=[mS S,[.mr 0],[xV a E cap L]]:=rfl
theorem agc {S L:List Tm} {a:Option Addr} {E:Option (TypeId×Nat)} {cap:Nat} {xs:List V} (h:xs.all (λx=>x.ltB 3)=true):eM xs (xB S a E cap L)=true:=by simp only[eM,xB,aK,aQ,gU,aI,aL,h,xV];rfl
theorem F9 {S L:List Tm} {a:Option Addr} {E:Option (TypeId×Nat)} {cap:Nat}:([mS S,[.mr 0],[xV a E cap L]]:List (List V)).all (λb=>b.all λx=>x.ltB 3)=true:=by simp only[aK,aQ,gU,xV];rfl
theorem Ni {L:List Tm}:∀ z∈L.map tmC,z.length=3:=λz hz=>by obtain⟨t,_,rfl⟩:=ce.1 hz;exact bG t
def P6 (S:List Tm) (t:Tm):Bool:=dH (inP S) (BU t)
def U0:V:=.clo (.func 124) [] [.bp 1 0]
theorem P7 (S:List Tm) (hS:xh S) (L:List Tm) (hL:∀ t∈L,∃ k n a b,t=.mk k n [a,b]/\bW a=true/\bi a<=1000000000) (hm:L.length<=1000000000) (a:Option Addr) (E:Option (TypeId×Nat)) (cap:Nat) (ha:L≠[]->∃ blk,a=some ⟨blk,0,none⟩) :
 FnB Tryz.prog glT 95 [.c (.ex (.slice a L.length cap)),U0] (xB S a E cap L) (i64 (CM (P6 S) L)) (xB S a E cap L):=by
 refine nD (rs:=[.tmp 4]) (k:=3) [1000016,3000003] mixed Tryz.func95 rfl rfl rfl rfl (by kernel_rfl) (by simp) rfl rfl rfl (agc rfl) (ai _) ?_;simp only[pkA,seval,aax];refine nN dc rfl ?_;simp only[pkA,seval];refine cm (λi:Nat=>hdS [(0,.c (.ex (.slice a L.length cap))),(1,U0),(7,i64 L.length),(8,i64 i)] (xB S a E cap L)) (λi=>L.length - i) (λi=>i<=L.length/\∀ j (h:j<L.length),j<i->P6 S L[j]=false) 0 ⟨ar _,λj h h'=>absurd h' (Nat.not_lt_zero _)⟩ ?_ ?_
 .exact bT (by simp only[eu];exact cx.2 ⟨rfl,F9⟩) (ai _) (ai _) (by simp[FL,aw]) ⟨rfl,rfl,rfl,trivial⟩
 rintro i ⟨hi,eX⟩ R bN b8 db;simp only[pkA,seval,aax];refine aJ (λbF=>?_) (λfu=>?_)
 .have bF:i<L.length:=by simpa using bF
  have hw:=dM (n:=(i:Int)+1) (k:=i+1) (by omega) (by omega);obtain⟨blk,rfl⟩:=ha (by intro h;subst h;simp at bF);obtain⟨k,n,x,y,ht,hvx,hsx⟩:=hL L[i] (aH bF);have hb:=UW S hS k n x y hvx hsx;have aag:P6 S L[i]=dH (inP S) x:=by rw[ht];rfl
  rw[<- ht,<- aag] at hb;simp only[pkA,seval,U0];refine Bo (k:=i) dc rfl cV rfl (by decide) rfl bF ?_;simp only[pkA,seval];refine afL (b:=2) (k:=0) (q:=i) (x:=tmC L[i]) cV rfl rfl (show 2<3 by decide) rfl rfl Ni (by simp[bF]) (by rw[ao]) ?_;simp only[pkA,seval];refine k7 rfl hb (by simp[V.fz]) (show 2<=3 by decide) ⟨rfl,rfl,trivial⟩ (λ_ _=>rfl) ?_;simp only[pkA,seval];refine aJ (λhy=>?_) (λhn=>?_)
  .simp only[pkA,seval]
   refine db _ ?_;simp only[pkA];rw[M5 bF hy eX];exact eO [(4,i64 i)] rfl (by simp only[eu];exact cx.2 ⟨rfl,F9⟩) (ai _) (ai _) ⟨by simp[],trivial⟩ ⟨rfl,rfl,rfl,trivial⟩ (by simp[hdS,frs,gK,up])
  .simp only[pkA,seval]
   refine bN (i+1) _ ⟨bF,λj h hj=>?_⟩ (by omega) (bT (by simp only[eu];exact cx.2 ⟨rfl,F9⟩) (ai _) (ai _) (by simp[FL,aw,hw,U0]) ⟨rfl,rfl,rfl,trivial⟩);rcases cd j i with h1 | h1
   .exact eX j h h1
   .have:j=i:=by omega
    subst this;exact hn
 .have:i=L.length:=by simp at fu;omega
  subst this;simp only[pkA];refine b8 _ _ ?_;simp only[pkA,seval];rw[DO (λj h=>eX j h h)];exact eO [(4,i64 (-1))] rfl (by simp only[eu];exact cx.2 ⟨rfl,F9⟩) (ai _) (ai _) ⟨by simp[],trivial⟩ ⟨rfl,rfl,rfl,trivial⟩ (by simp[hdS,frs,gK,up])
def dB (blk cap:Nat) (n:Nat) (es:List (List C)):List (List V):=[[.gs (some (.slice (some ⟨blk,0,none⟩) n cap)) (some (47,3)) es]]
theorem agd {blk cap n:Nat} {es:List (List C)}:dB blk cap n es=[[.gs (some (.slice (some ⟨blk,0,none⟩) n cap)) (some (47,3)) es]]:=rfl
theorem adD {L:List Tm} {i:Nat} (h:i<L.length):((L.map tmC).take i++((L.map tmC).drop (i+1)).take (L.length - (i+1))++(L.map tmC).drop (i+(L.length - (i+1))))=(L.eraseIdx i).map tmC++(L.map tmC).drop (L.length - 1):=by have h2:((L.map tmC).drop (i+1)).take (L.length - (i+1))=(L.map tmC).drop (i+1):=ey (by simp);rw[h2,show i+(L.length - (i+1))=L.length - 1 by omega,List.eraseIdx_eq_take_drop_succ,dl,List.map_take,List.map_drop]
theorem P8 (L:List Tm) (i:Nat) (hi:i<L.length) (hm:L.length<=1000000000) (blk cap:Nat) (hc:L.length<=cap) :
 FnB Tryz.prog glT 125 [.c (.ex (.slice (some ⟨blk,0,none⟩) L.length cap)),i64 i,i64 ((i+1:Nat):Int)] (dB blk cap L.length (L.map tmC)) (.c (.ex (.slice (some ⟨blk,0,none⟩) (L.length - 1) cap))) (dB blk cap L.length ((L.eraseIdx i).map tmC++[tmC (.mk 0 0 [])])):=by
 have fO:(L.eraseIdx i).length=L.length - 1:=List.length_eraseIdx_of_lt hi;refine nD (rs:=[.tmp 6]) (k:=1) [2700026,3000001] mixed Tryz.func125 rfl rfl rfl rfl (by kernel_rfl) (by simp) rfl rfl rfl rfl (ai _) ?_;simp only[pkA,seval,agd];refine nN dc rfl ?_;simp only[pkA,seval];refine MR (l:=i) (h:=i+1) (m:=L.length) (sz:=3) dc rfl cV rfl rfl rfl rfl (by omega) (by omega) hc (λ_=>rfl) ?_;simp only[pkA,seval];refine aJ (λh=>?_) (λ_=>?_)
 .exfalso;have h:=fM h;omega
 simp only[pkA,seval];refine nN dc rfl ?_;simp only[pkA,seval];refine MR (l:=0) (h:=i) (m:=cap) (sz:=3) dc rfl cV rfl rfl rfl rfl (by omega) (by omega) (ai _) (λh=>by cases h) ?_;simp only[pkA,seval];refine MR (l:=i+1) (h:=L.length) (m:=cap) (sz:=3) dc rfl cV rfl rfl rfl rfl (by omega) (by omega) (ai _) (λh=>by cases h) ?_;simp only[pkA,seval,ite_self,lF];have sP:(L.map tmC).length=L.length:=aj ..
 refine Yl (es:=L.map tmC) (b:=0) (k:=0) (q:=i+1) (m:=L.length - (i+1)) (n':=i) (e':=47) (cap:=cap) (sz:=3) dc rfl cV rfl (by decide) (show 0<1 by decide) rfl (by rw[sP];rfl) ?_ (by rw[sP];omega) (by rw[sP];omega) (by omega) ?_
 .by_cases h:cap=i+1
  .exact .inl (by omega)
  .exact .inr (by rw[if_neg h,ao])
 rw[adD hi,sP];have LX:i+(L.length - (i+1))=L.length - 1:=by omega
 rw[LX];simp only[pkA,seval];refine nN dc rfl ?_;simp only[pkA,seval];refine MR (l:=L.length - 1) (h:=L.length) (m:=cap) (sz:=3) dc rfl cV rfl rfl rfl rfl (by omega) (by omega) (ai _) (λh=>by cases h) ?_;simp only[pkA,seval];have qM:((L.eraseIdx i).map tmC++(L.map tmC).drop (L.length - 1)).length=L.length:=by rw[aB,aj,dh,sP,fO];omega
 refine Tx (es:=(L.eraseIdx i).map tmC++(L.map tmC).drop (L.length - 1)) (b:=0) (k:=0) (q:=L.length - 1) (e':=47) (cap:=cap) (sz:=3) (z:=tmC (.mk 0 0 [])) dc rfl cV rfl rfl (by decide) rfl (show 0<1 by decide) rfl (by rw[qM];rfl) ?_ (by rw[qM];omega) ?_
 .by_cases h:cap=L.length - 1
  .exact .inl (by omega)
  .exact .inr (by rw[if_neg h,ao])
 have JH:((L.eraseIdx i).map tmC++(L.map tmC).drop (L.length - 1)).take (L.length - 1)++List.replicate (L.length - (L.length - 1)) (tmC (.mk 0 0 []))++((L.eraseIdx i).map tmC++(L.map tmC).drop (L.length - 1)).drop (L.length - 1+(L.length - (L.length - 1)))=(L.eraseIdx i).map tmC++[tmC (.mk 0 0 [])]:=by
  have h1:L.length - (L.length - 1)=1:=by omega
  have hd:((L.eraseIdx i).map tmC++(L.map tmC).drop (L.length - 1)).drop L.length=[]:=List.drop_of_length_le (by rw[qM];exact ai _);rw[h1,show L.length - 1+1=L.length by omega,hd,d6,gG (by rw[aj];exact fO)];rfl
 rw[JH,qM];simp only[pkA,seval];exact eO [(6,.c (.ex (.slice (some ⟨blk,0,none⟩) (L.length - 1) cap)))] rfl rfl (ai _) (ai _) ⟨by simp[],trivial⟩ ⟨rfl,trivial⟩ (by simp[hdS,frs,gK,up])
