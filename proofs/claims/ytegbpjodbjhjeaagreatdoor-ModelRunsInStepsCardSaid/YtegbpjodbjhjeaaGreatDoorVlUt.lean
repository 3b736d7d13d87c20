/- Layer 15: slices.IndexFunc and slices.Delete of the seals and boxes that are not open yet. -/
import Derived.Test.YtegbpjodbjhjeaaGreatDoorVlUq
set_option linter.all false
namespace Go.Proofs.YtegbpjodbjhjeaaGreatDoor
open Go Go.Vl
set_option maxRecDepth 4000
def xV (a:Option Addr) (E:Option (TypeId×Nat)) (cap:Nat) (L:List Tm):V:=.gs (some (.slice a L.length cap)) E (L.map tmC)
def xB (S:List Tm) (a:Option Addr) (E:Option (TypeId×Nat)) (cap:Nat) (L:List Tm):List (List V):=[mS S,[.mr 0],[xV a E cap L]]
theorem UT {S L:List Tm} {a:Option Addr} {E:Option (TypeId×Nat)} {cap:Nat}:xB S a E cap L=[mS S,[.mr 0],[xV a E cap L]]:=rfl
theorem ZO {S L:List Tm} {a:Option Addr} {E:Option (TypeId×Nat)} {cap:Nat} {xs:List V} (h:xs.all (fun x=>x.ltB 3)=true):dU xs (xB S a E cap L)=true:=by
 simp only[dU,xB,bh,bq,fE,aC,aJ,h,xV];rfl
theorem Ba {S L:List Tm} {a:Option Addr} {E:Option (TypeId×Nat)} {cap:Nat}:([mS S,[.mr 0],[xV a E cap L]]:List (List V)).all (fun b=>b.all fun x=>x.ltB 3)=true:=by
 simp only[bh,bq,fE,xV];rfl
theorem Hn {L:List Tm}:∀ z∈L.map tmC,z.length=3:=fun z hz=>by
 obtain⟨t,_,rfl⟩:=bF.1 hz
 exact b8 t
def Kh (S:List Tm) (t:Tm):Bool:=dH (inP S) (wV t)
def O3:V:=.clo (.func 124) [] [.bp 1 0]
set_option maxHeartbeats 4000000 in
theorem Ki (S:List Tm) (hS:sP S) (L:List Tm) (hL:∀ t∈L,∃ k n a b,t=.mk k n [a,b]∧bR a=true∧bu a≤1000000000) (hm:L.length≤1000000000) (a:Option Addr) (E:Option (TypeId×Nat)) (cap:Nat) (ha:L≠[]→∃ blk,a=some ⟨blk,0,none⟩) :
 FnB Tryz.prog glT 95 [.c (.ex (.slice a L.length cap)),O3] (xB S a E cap L) (i64 (xY (Kh S) L)) (xB S a E cap L):=by
 refine lH (rs:=[.tmp 4]) (k:=3) [1000016,3000003] mixed Tryz.func95 rfl rfl rfl rfl (by kernel_rfl) (by simp) rfl rfl rfl (ZO rfl) (ae _) ?_
 simp only[pkA,seval,UT]
 refine lR dm rfl ?_
 simp only[pkA,seval]
 refine cZ (fun i:Nat=>hdS [(0,.c (.ex (.slice a L.length cap))),(1,O3),(7,i64 L.length),(8,i64 i)] (xB S a E cap L)) (fun i=>L.length - i) (fun i=>i≤L.length∧∀ j (h:j<L.length),j<i→Kh S L[j]=false) 0 ⟨aA _,fun j h h'=>absurd h' (Nat.not_lt_zero _)⟩ ?_ ?_
 ·exact cR (by simp only[fC];exact bX.2 ⟨rfl,Ba⟩) (ae _) (ae _) (by simp[FL,ar]) ⟨rfl,rfl,rfl,trivial⟩
 rintro i ⟨hi,hno⟩ R hnorm hexit hret
 simp only[pkA,seval,UT]
 refine aZ (fun hlt=>?_) (fun hge=>?_)
 ·have hlt:i<L.length:=by simpa using hlt
  have hw:=fj (n:=(i:Int)+1) (k:=i+1) (by omega) (by omega)
  obtain⟨blk,rfl⟩:=ha (by intro h;subst h;simp at hlt)
  obtain⟨k,n,x,y,ht,hvx,hsx⟩:=hL L[i] (aL hlt)
  have hb:=OZ S hS k n x y hvx hsx
  have hask:Kh S L[i]=dH (inP S) x:=by rw[ht];rfl
  rw[← ht,← hask] at hb
  simp only[pkA,seval,O3]
  refine wn (k:=i) dm rfl dc rfl (by decide) rfl hlt ?_
  simp only[pkA,seval]
  refine Ze (b:=2) (k:=0) (q:=i) (x:=tmC L[i]) dc rfl rfl (show 2<3 by decide) rfl rfl Hn (by simp[hlt]) (by rw[ah]) ?_
  simp only[pkA,seval]
  refine jJ rfl hb (by simp[V.fz]) (show 2≤3 by decide) ⟨rfl,rfl,trivial⟩ (fun _ _=>rfl) ?_
  simp only[pkA,seval]
  refine aZ (fun hy=>?_) (fun hn=>?_)
  ·simp only[pkA,seval]
   refine hret _ ?_
   simp only[pkA]
   rw[Ha hlt hy hno]
   exact dj [(4,i64 i)] rfl (by simp only[fC];exact bX.2 ⟨rfl,Ba⟩) (ae _) (ae _) ⟨by simp[],trivial⟩ ⟨rfl,rfl,rfl,trivial⟩ (by simp[hdS,frs,fy,up])
  ·simp only[pkA,seval]
   refine hnorm (i+1) _ ⟨hlt,fun j h hj=>?_⟩ (by omega) (cR (by simp only[fC];exact bX.2 ⟨rfl,Ba⟩) (ae _) (ae _) (by simp[FL,ar,hw,O3]) ⟨rfl,rfl,rfl,trivial⟩)
   rcases cx j i with h1 | h1
   ·exact hno j h h1
   ·have:j=i:=by omega
    subst this;exact hn
 ·have:i=L.length:=by simp at hge;omega
  subst this
  simp only[pkA]
  refine hexit _ _ ?_
  simp only[pkA,seval]
  rw[yX (fun j h=>hno j h h)]
  exact dj [(4,i64 (-1))] rfl (by simp only[fC];exact bX.2 ⟨rfl,Ba⟩) (ae _) (ae _) ⟨by simp[],trivial⟩ ⟨rfl,rfl,rfl,trivial⟩ (by simp[hdS,frs,fy,up])
def dB (blk cap:Nat) (n:Nat) (es:List (List C)):List (List V):=[[.gs (some (.slice (some ⟨blk,0,none⟩) n cap)) (some (47,3)) es]]
theorem ZP {blk cap n:Nat} {es:List (List C)}:dB blk cap n es=[[.gs (some (.slice (some ⟨blk,0,none⟩) n cap)) (some (47,3)) es]]:=rfl
theorem XU {L:List Tm} {i:Nat} (h:i<L.length):((L.map tmC).take i++((L.map tmC).drop (i+1)).take (L.length - (i+1))++(L.map tmC).drop (i+(L.length - (i+1))))=(L.eraseIdx i).map tmC++(L.map tmC).drop (L.length - 1):=by
 have h2:((L.map tmC).drop (i+1)).take (L.length - (i+1))=(L.map tmC).drop (i+1):=dY (by simp)
 rw[h2,show i+(L.length - (i+1))=L.length - 1 by omega,List.eraseIdx_eq_take_drop_succ,eK,List.map_take,List.map_drop]
set_option maxHeartbeats 4000000 in
theorem Kj (L:List Tm) (i:Nat) (hi:i<L.length) (hm:L.length≤1000000000) (blk cap:Nat) (hc:L.length≤cap) :
 FnB Tryz.prog glT 125 [.c (.ex (.slice (some ⟨blk,0,none⟩) L.length cap)),i64 i,i64 ((i+1:Nat):Int)] (dB blk cap L.length (L.map tmC)) (.c (.ex (.slice (some ⟨blk,0,none⟩) (L.length - 1) cap))) (dB blk cap L.length ((L.eraseIdx i).map tmC++[tmC (.mk 0 0 [])])):=by
 have hle:(L.eraseIdx i).length=L.length - 1:=List.length_eraseIdx_of_lt hi
 refine lH (rs:=[.tmp 6]) (k:=1) [2700026,3000001] mixed Tryz.func125 rfl rfl rfl rfl (by kernel_rfl) (by simp) rfl rfl rfl rfl (ae _) ?_
 simp only[pkA,seval,ZP]
 refine lR dm rfl ?_
 simp only[pkA,seval]
 refine G4 (l:=i) (h:=i+1) (m:=L.length) (sz:=3) dm rfl dc rfl rfl rfl rfl (by omega) (by omega) hc (fun _=>rfl) ?_
 simp only[pkA,seval]
 refine aZ (fun h=>?_) (fun _=>?_)
 ·exfalso;have h:=iL h;omega
 simp only[pkA,seval]
 refine lR dm rfl ?_
 simp only[pkA,seval]
 refine G4 (l:=0) (h:=i) (m:=cap) (sz:=3) dm rfl dc rfl rfl rfl rfl (by omega) (by omega) (ae _) (fun h=>by cases h) ?_
 simp only[pkA,seval]
 refine G4 (l:=i+1) (h:=L.length) (m:=cap) (sz:=3) dm rfl dc rfl rfl rfl rfl (by omega) (by omega) (ae _) (fun h=>by cases h) ?_
 simp only[pkA,seval,ite_self,j5]
 have hlm:(L.map tmC).length=L.length:=ap ..
 refine RV (es:=L.map tmC) (b:=0) (k:=0) (q:=i+1) (m:=L.length - (i+1)) (n':=i) (e':=47) (cap:=cap) (sz:=3) dm rfl dc rfl (by decide) (show 0<1 by decide) rfl (by rw[hlm];rfl) ?_ (by rw[hlm];omega) (by rw[hlm];omega) (by omega) ?_
 ·by_cases h:cap=i+1
  ·exact .inl (by omega)
  ·exact .inr (by rw[if_neg h,ah])
 rw[XU hi,hlm]
 have hn1:i+(L.length - (i+1))=L.length - 1:=by omega
 rw[hn1]
 simp only[pkA,seval]
 refine lR dm rfl ?_
 simp only[pkA,seval]
 refine G4 (l:=L.length - 1) (h:=L.length) (m:=cap) (sz:=3) dm rfl dc rfl rfl rfl rfl (by omega) (by omega) (ae _) (fun h=>by cases h) ?_
 simp only[pkA,seval]
 have hes:((L.eraseIdx i).map tmC++(L.map tmC).drop (L.length - 1)).length=L.length:=by
  rw[aw,ap,cL,hlm,hle];omega
 refine Nv (es:=(L.eraseIdx i).map tmC++(L.map tmC).drop (L.length - 1)) (b:=0) (k:=0) (q:=L.length - 1) (e':=47) (cap:=cap) (sz:=3) (z:=tmC (.mk 0 0 [])) dm rfl dc rfl rfl (by decide) rfl (show 0<1 by decide) rfl (by rw[hes];rfl) ?_ (by rw[hes];omega) ?_
 ·by_cases h:cap=L.length - 1
  ·exact .inl (by omega)
  ·exact .inr (by rw[if_neg h,ah])
 have hend:((L.eraseIdx i).map tmC++(L.map tmC).drop (L.length - 1)).take (L.length - 1)++List.replicate (L.length - (L.length - 1)) (tmC (.mk 0 0 []))++((L.eraseIdx i).map tmC++(L.map tmC).drop (L.length - 1)).drop (L.length - 1+(L.length - (L.length - 1)))=(L.eraseIdx i).map tmC++[tmC (.mk 0 0 [])]:=by
  have h1:L.length - (L.length - 1)=1:=by omega
  have hd:((L.eraseIdx i).map tmC++(L.map tmC).drop (L.length - 1)).drop L.length=[]:=List.drop_of_length_le (by rw[hes];exact ae _)
  rw[h1,show L.length - 1+1=L.length by omega,hd,ej,fu (by rw[ap];exact hle)];rfl
 rw[hend,hes]
 simp only[pkA,seval]
 exact dj [(6,.c (.ex (.slice (some ⟨blk,0,none⟩) (L.length - 1) cap)))] rfl rfl (ae _) (ae _) ⟨by simp[],trivial⟩ ⟨rfl,trivial⟩ (by simp[hdS,frs,fy,up])
theorem DG:∀ (t:Tm) (S L:List Tm),(jh t (S,L)).2.length≤L.length+1:=by
 refine Tm.ind fun k n l ih S L=>?_
 rw[A8]
 split
 ·simp
 ·split
  ·match l,ih with
   |[],_=>simp
   |[a],_=>simp
   |[a,b],ih=>
    simp only
    split
    ·exact ih b (by simp) _ _
    ·simp
   |a::b::c::r,_=>simp
  ·simp
theorem qf:∀ (J S L:List Tm),(eB J (S,L)).2.length≤L.length+J.length
 |[],_,_=>by simp[eB]
 |t::J,S,L=>by
  have e:eB (t::J) (S,L)=eB J ((jh t (S,L)).1,(jh t (S,L)).2):=rfl
  have h1:=DG t S L
  have h2:=qf J (jh t (S,L)).1 (jh t (S,L)).2
  rw[e,aC];omega
theorem O4 {f:Bool} {L L':List Tm} (h:L≠[]→f=true):L'≠[]→flC f L L'=true:=fun h'=>by
 unfold flC
 by_cases hl:L=[]
 ·subst hl
  have:=gU.2 h'
  simp[this]
 ·rw[h hl];rfl
theorem sU {I S L:List Tm} (hv:∀ t∈I,bR t=true) (h:sR I S L):sP S:=fun t ht=>by
 obtain⟨w,hw,hsub⟩:=(h.sub t ht).loc rfl
 exact nf w (hv w hw) _ hsub
theorem y5 {I S L:List Tm} (h:sR I S L):∀ t∈S,bu t≤cH I:=fun t ht=>by
 obtain⟨w,hw,hsub⟩:=(h.sub t ht).loc rfl
 exact bU (yU w t hsub) (gq hw)
theorem O5 {I S L:List Tm} (hv:∀ t∈I,bR t=true) (h:sR I S L):∀ t∈L,∃ k n a b,t=.mk k n [a,b]∧bR a=true∧bR b=true∧bu a+bu b+1≤cH I:=fun t ht=>by
 obtain⟨hS,hk⟩:=h.inl t ht
 have hval:=sU hv h t hS
 have hsz:=y5 h t hS
 obtain⟨a,b,hab⟩:=OL hval hk
 rw[hab] at hval hsz
 obtain⟨_,_,_,hvl⟩:=eR hval
 refine⟨_,_,a,b,hab,hvl a (by simp),hvl b (by simp),?_⟩
 simp only[bu,cH] at hsz;omega
def DI:V:=.clo (.func 122) [] [.bp 1 0,.bp 2 0]
theorem XV {E:Option (TypeId×Nat)} {L:List Tm} {v:Value} (h:GsV E (L.map tmC) v):∃ a cap,v=.slice a L.length cap∧L.length≤cap∧(L≠[]→∃ blk,a=some ⟨blk,0,none⟩):=by
 rcases h with⟨blk,cap,rfl,hc⟩ | ⟨h0,_,a,rfl⟩
 ·rw[ap] at hc ⊢
  exact⟨_,cap,rfl,hc,fun _=>⟨blk,rfl⟩⟩
 ·have:L=[]:=by cases L with
   |nil=>rfl
   |cons=>cases h0
  subst this
  exact⟨a,0,rfl,ae _,fun h=>absurd rfl h⟩
theorem Bb {v:Value} {E:Option (TypeId×Nat)} {es:List (List C)}:(V.gs (some v) E es).ldv=.c (.ex v):=rfl
theorem Bc {g:Option Value} {E:Option (TypeId×Nat)} {es:List (List C)}:(V.gs g E es).isMk=false:=rfl
def wW:=jj @pkA @ptA
def Ho:=jj @pkA (jj @ptA @pkT)
set_option maxHeartbeats 8000000 in
theorem wX (I:List Tm) (hv:∀ t∈I,bR t=true) (hsz:cH I≤100000000):FnB Tryz.prog glT 92 [.c (tsC I)] [] (.mr 0) [mS (sS I).1]:=by
 have hIl:=j3 I
 have hstart:∀ j,sR I (eB (I.take j) ([],[])).1 (eB (I.take j) ([],[])).2:=fun j=>(rG hv (I.take j) [] [] (fun _ h=>cF h) ⟨iq,by simp,by simp,fun _ _ _ _ h=>by cases h⟩).1
 refine lH (rs:=[.tmp 2]) (k:=0) [2300003,1000020,2300009,1000024,2850013,2870013,1000039,1000042,3000000] mixed Tryz.func92 rfl rfl rfl rfl (by kernel_rfl) (by simp) rfl rfl rfl rfl (aA _) ?_
 simp only[wW,seval,ZN,aaQ,XO]
 refine qE rfl (.warm 2 0 (show 2<3 by decide) rfl (.done ?_))
 simp only[wW,seval,Vl.S.cell,tsC]
 refine cZ (fun x:Nat×Bool=>hdS [(3,.bp 1 0),(4,.bp 2 0),(5,DI),(12,.c (.sl (I.map tmC))),(13,i64 I.length),(14,i64 x.1)] (cB (eB (I.take x.1) ([],[])).1 x.2 (eB (I.take x.1) ([],[])).2)) (fun x=>I.length - x.1)
  (fun x=>x.1≤I.length∧((eB (I.take x.1) ([],[])).2≠[]→x.2=true)) (0,false) ⟨aA _,fun h=>absurd rfl h⟩ ?_ ?_
 ·refine cR (by simp only[fC];exact bX.2 ⟨rfl,nL⟩) (aA _) (ae 3) (by simp[FL,ar,DI]) ⟨by simp[ar,eB],by simp[ar],by simp[gsV,eB],trivial⟩
 rintro⟨j,f⟩ ⟨hj,hf⟩ R hnorm hexit hret
 simp only at hj hf hnorm hexit
 have hC:=hstart j
 have hlen:=qf (I.take j) [] []
 simp only[aJ,ah,aW] at hlen
 generalize hS:(eB (I.take j) ([],[])).1=S at *
 generalize hL:(eB (I.take j) ([],[])).2=L at *
 have hSL:eB (I.take j) ([],[])=(S,L):=by rw[← hS,← hL]
 simp only[pkA,seval,O0]
 refine aZ (fun hlt=>?_) (fun hge=>?_)
 ·have hlt:j<I.length:=by simpa using hlt
  have hw:=fj (n:=(j:Int)+1) (k:=j+1) (by omega) (by omega)
  have hm:=gq (aL hlt)
  have hstep:eB (I.take (j+1)) ([],[])=jh I[j] (S,L):=by
   rw[← hSL];unfold eB;rw[bg hlt,List.foldl_append];rfl
  simp only[pkA,seval,DI]
  refine dL dm rfl dc (by decide) (aM j) (c:=tmC I[j]) (by simp[hlt]) (b8 _) ?_
  simp only[Ho,seval,lw (b8 _)]
  have hadd:=O2 I[j] (hv _ (aL hlt)) (by omega) S f L (sU hv hC) (by omega)
  rw[← hstep] at hadd
  refine tX rfl hadd (by simp[V.fz]) rfl (F4 (O1 (xs:=[]) rfl)) (show 3≤4 by decide) ⟨rfl,rfl,rfl,trivial⟩ (fun _ _=>rfl) (fun bx' hoth hB=>?_)
  simp only[pkA,seval]
  exact hnorm (j+1,flC f L (eB (I.take (j+1)) ([],[])).2) _ ⟨hlt,O4 hf⟩ (by simp only;omega) (cR (by simp only[fC];exact bX.2 ⟨rfl,nL⟩) (aA _) (show 3≤4 by decide) (by simp[FL,ar,hw,DI]) ⟨hB.1,hB.2.1,hB.2.2.1,trivial⟩)
 have:j=I.length:=by simp at hge;omega
 subst this
 rw[cY] at hSL
 clear hstart hS hL hlen hnorm hret
 simp only[pkA]
 refine hexit _ _ ?_
 have hLI:L.length≤I.length:=by
  have:=qf I [] []
  rw[hSL] at this;simpa using this
 have hclo:sS I=px (2*cH I+L.length+1) (S,L):=by unfold sS;rw[hSL]
 refine cZ (fun x:Nat×List Tm×List Tm×Bool=>hdS [(3,.bp 1 0),(4,.bp 2 0),(5,DI)] (cB x.2.1 x.2.2.2 x.2.2.1)) (fun x=>x.1)
  (fun x=>sR I x.2.1 x.2.2.1∧x.2.2.1.length≤I.length∧(x.2.2.1≠[]→x.2.2.2=true)∧sS I=px x.1 (x.2.1,x.2.2.1)∧2*(cH I - x.2.1.length)+x.2.2.1.length<x.1) (2*cH I+L.length+1,S,L,f) ⟨hC,hLI,hf,hclo,by simp only;omega⟩ ?_ ?_
 ·refine cR (by simp only[fC];exact bX.2 ⟨rfl,nL⟩) (aA _) (ae 3) (by simp[FL,ar,DI]) ⟨by simp[bxs],by simp[bxs],by simp[bxs],trivial⟩
 clear hC hf hLI hclo hSL hge hj S L f hexit
 rintro⟨n,S,L,f⟩ ⟨hC,hLI,hf,hclo,hn⟩ R hnorm hexit hret
 simp only at hC hLI hf hclo hn hnorm hexit
 obtain⟨n,rfl⟩:∃ m,n=m+1:=⟨n - 1,by omega⟩
 have hS:=sU hv hC
 simp only[pkA,seval,O0]
 refine qE rfl (.name 2 0 (E:=if f then some (47,3) else none) (es:=L.map tmC) (show 2<3 by decide) rfl rfl fun v hgv=>.done ?_)
 obtain⟨a,cap,rfl,hcap,ha⟩:=XV hgv
 simp only[wW,seval,Vl.S.cell,DI,Bb,Bc]
 have h2:=O5 hv hC
 have hix:=Ki S hS L (fun t ht=>by obtain⟨k,n,a,b,e,h1,h2,h3⟩:=h2 t ht;exact⟨k,n,a,b,e,h1,by omega⟩) (by omega) a (if f then some (47,3) else none) cap ha
 refine jJ rfl hix (by simp[V.fz,O3]) (show 3≤3 by decide) ⟨rfl,rfl,rfl,trivial⟩ (fun _ _=>rfl) ?_
 simp only[pkA,seval]
 have hloop:px (n+1) (S,L)=match L.findIdx? (Kh S) with
  |none=>(S,L)
  |some i=>px n (jh (Hl (L.getD i kC)) (S,L.eraseIdx i)):=rfl
 rw[hloop] at hclo
 unfold xY
 cases hfi:L.findIdx? (Kh S) with
 |none=>
  rw[hfi] at hclo
  simp only[]
  refine aZ (fun _=>?_) (fun h=>?_)
  ·simp only[wW,seval]
   refine hret _ ?_
   simp only[]
   rw[hclo]
   exact dj [(2,.mr 0)] rfl (by simp only[fC,bh,bq,fE,aC,aJ];rfl) (aA _) (show 1≤3 by decide) ⟨by simp[],trivial⟩ ⟨rfl,trivial⟩ (by simp[hdS,frs,fy,up])
  ·exfalso;simp at h
 |some i=>
  rw[hfi] at hclo
  simp only at hclo
  obtain⟨hlt,hb,_⟩:=bO.1 hfi
  obtain⟨k,m,x,y,hab,hvx,hvy,hxy⟩:=h2 L[i] (aL hlt)
  have hcon:Hl (L.getD i kC)=y:=by
   have eg:L.getD i kC=L[i]:=by simp[hlt]
   rw[eg,hab];rfl
  rw[hcon] at hclo
  obtain⟨blk,rfl⟩:=ha (by intro h;subst h;simp at hlt)
  have hft:f=true:=hf (by intro h;subst h;simp at hlt)
  subst hft
  simp only[↓reduceIte]
  refine aZ (fun h=>?_) (fun _=>?_)
  ·exfalso;simp at h;omega
  simp only[wW,seval,Bb,Bc]
  refine wn (k:=i) dm rfl dc rfl (by decide) rfl hlt ?_
  simp only[pkA,seval]
  refine V8 dc rfl (by decide) ?_
  simp only[pkA,seval]
  refine Wh (b:=2) (k:=0) (q:=i) (r:=2) (x:=tmC L[i]) (c:=.sl ([x,y].map tmC)) (sz:=3) dm rfl (show 2<3 by decide) rfl rfl Hn (by simp[hlt]) (by rw[hab];rfl) (by rw[ah]) ?_
  simp only[pkA,seval]
  refine dL dm rfl dc (by decide) (by decide) (c:=tmC y) rfl (b8 _) ?_
  simp only[Ho,seval,lw (b8 _)]
  have hw:=fj (n:=(i:Int)+1) (k:=i+1) (by omega) (by omega)
  refine RX rfl ?_
  refine sE ?_
  simp only[iG,wW,seval,Bb,Bc]
  refine sE ?_
  simp only[iG,pkA,seval]
  refine sE ?_
  simp only[iG,pkA,seval]
  refine sE ?_
  simp only[iG,pkA,seval,hw]
  refine sE ?_
  simp only[iG,pkA,seval]
  refine qz [2] rfl (Kj L i hlt (by omega) blk cap hcap) (by simp[V.fz,V.ren]) rfl (by decide) rfl ⟨⟨show 2<4 by decide,by simp[ar,V.ren,rho]⟩,trivial⟩ ?_
  intro bx' hoth hat
  have h0:bx' 0=mS S:=by rw[hoth 0 (by decide)];simp[ar,bxs]
  have h1:bx' 1=[.mr 0]:=by rw[hoth 1 (by decide)];simp[ar,bxs]
  have h3:bx' 3=(tmC y).map .c:=by rw[hoth 3 (by decide)];simp[]
  have h2:bx' 2=[.gs (some (.slice (some ⟨blk,0,none⟩) L.length cap)) (some (47,3)) ((L.eraseIdx i).map tmC++[tmC (.mk 0 0 [])])]:=hat 0 2 _ rfl rfl
  simp only[iG,pkA,OQ,JL]
  refine .split 2 0 35 (g:=some (.slice (some ⟨blk,0,none⟩) L.length cap)) (E:=some (47,3)) (es:=(L.eraseIdx i).map tmC++[tmC (.mk 0 0 [])]) (show 2<4 by decide) (by simp only[h2];rfl) (by simp only[h2];rfl) rfl fun u hu _=>.done ?_
  have hu:=hu _ rfl
  subst hu
  simp only[wW,seval,h2]
  have hle:(L.eraseIdx i).length=L.length - 1:=List.length_eraseIdx_of_lt hlt
  have htk:((L.eraseIdx i).map tmC++[tmC (.mk 0 0 [])]).take (L.length - 1)=(L.eraseIdx i).map tmC:=fu (by rw[ap];exact hle)
  rw[Ny]
  refine .joinT 2 0 35 blk L.length (L.length - 1) cap (e:=47) (sz:=3) (es:=(L.eraseIdx i).map tmC++[tmC (.mk 0 0 [])]) (show 2<4 by decide) ?_ ?_ ?_ (by rw[aw,ap,hle];omega) ?_
  ·simp[];rfl
  ·simp[]
  ·simp[]
  rw[htk]
  refine .unname 2 0 (g:=some (.slice (some ⟨blk,0,none⟩) (L.length - 1) cap)) (E:=some (47,3)) (es:=(L.eraseIdx i).map tmC) (show 2<4 by decide) ?_ (.done ?_)
  ·simp[]
  simp only[Ho,seval,Vl.S.cell,h3]
  obtain⟨k2,hk2⟩:∃ k2,jh y (S,L.eraseIdx i)=k2:=⟨_,rfl⟩
  have hmem:=aL hlt
  have hL2:∀ z∈L.eraseIdx i,z∈L:=fun z hz=>List.mem_of_mem_eraseIdx hz
  have hSL:=hC.sub _ (hC.inl _ hmem).1
  have hkk:k=3∨k=4:=by have:=(hC.inl _ hmem).2;rw[hab] at this;exact this
  have hKu:Kn I false (.mk k m [x,y]):=by rw[← hab];exact hSL
  have hbx:dH (inP S) x=true:=by
   have:Kh S L[i]=dH (inP S) x:=by rw[hab];rfl
   rw[← this];exact hb
  obtain⟨q1,_,_,q4⟩:=A9 (I:=I) y S (L.eraseIdx i) hvy hC.nd hC.sub (fun z hz=>hC.inl z (hL2 z hz)) (fun k' n' a' b' g1 g2=>by
   rcases hC.opn k' n' a' b' g1 g2 with h | h
   ·exact .inl h
   ·obtain⟨j,hj,e⟩:=gV h
    by_cases hji:j=i
    ·subst hji
     rw[hab] at e
     injection e with _ _ e
     injection e with _ e
     injection e with e _
     exact .inr (.inr e.symm)
    ·refine .inr (.inl ?_)
     rw[List.mem_eraseIdx_iff_getElem]
     exact⟨j,hj,hji,e⟩) (.opn hKu hkk (me hC.sub x hbx))
  have hcl:=qe q1
  have hcl0:=qe hC
  have hadd:=O2 y hvy (by omega) S true (L.eraseIdx i) hS (by omega)
  refine tX rfl hadd (by simp[V.fz]) rfl (F4 (O1 (xs:=[]) rfl)) (show 3≤4 by decide) ⟨by simp[ar,h0],by simp[ar,h1],by simp[gsV],trivial⟩ (fun _ _=>rfl) (fun bx' hoth hB=>?_)
  simp only[pkA]
  refine hnorm (n,(jh y (S,L.eraseIdx i)).1,(jh y (S,L.eraseIdx i)).2,flC true (L.eraseIdx i) (jh y (S,L.eraseIdx i)).2) _ ⟨q1,?_,O4 (L:=L.eraseIdx i) (fun _=>rfl),hclo,?_⟩ (by simp only;omega) (cR (by simp only[fC];exact bX.2 ⟨rfl,nL⟩) (aA _) (show 3≤4 by decide) (by simp[FL,ar,DI]) ⟨hB.1,hB.2.1,hB.2.2.1,trivial⟩)
  ·have:=DG y S (L.eraseIdx i)
   simp only;omega
  ·simp only
   rcases q4 with h | ⟨g1,g2⟩
   ·rw[h];simp only;omega
   ·omega
theorem O6 {I S L:List Tm} (h:sR I S L) (hs:cH I≤100000000):S.length≤1000000000∧∀ t∈S,bu t≤1000000000:=by
 have h1:=qe h
 exact⟨by omega,fun t ht=>by have:=y5 h t ht;omega⟩
set_option maxHeartbeats 8000000 in
theorem O7 (I:List Tm) (hv:∀ t∈I,bR t=true) (hsz:cH I≤100000000):FnOK Tryz.prog glT 47 [.c (tsC I)] (.c (tsC (eb I))):=by
 obtain⟨hC,hso⟩:=DD hv
 obtain⟨h1,h2⟩:=O6 hC hsz
 have hlist:=T9 (G:=glT) (sS I).1 h1 h2 hC.nd
 rw[hso] at hlist
 refine bP (rs:=[.tmp 2]) false [1000004,1000005] mixed Tryz.func47 rfl rfl rfl rfl (by kernel_rfl) (by simp) rfl rfl ?_
 simp only[pkA,seval]
 refine wT rfl (wX I hv hsz) rfl (fun _=>uf) ?_
 simp only[pkA,seval]
 refine qz [0] rfl hlist (by simp[V.fz,V.ren,rho]) rfl (by decide) rfl ⟨⟨show 0<1 by decide,by simp only[uf];rfl⟩,trivial⟩ ?_
 intro bx2 hoth2 hat2
 simp only[pkA,seval,OQ]
set_option maxHeartbeats 8000000 in
theorem O8 (I:List Tm) (t:Tm) (hv:∀ t∈I,bR t=true) (hsz:cH I≤100000000) (ht:bR t=true) (hst:bu t≤1000000000):FnOK Tryz.prog glT 49 [.c (tsC I),.agg (tmC t)] (bo (dH (inP (eb I)) t)):=by
 obtain⟨hC,hso⟩:=DD hv
 have hb:=sQ (sS I).1 (sU hv hC) t ht hst
 rw[← Dz,hso] at hb
 refine bP (rs:=[.tmp 4]) false [2850001,2860001,1000006,1000008] mixed Tryz.func49 rfl rfl rfl rfl (by kernel_rfl) (by simp) rfl rfl ?_
 simp only[pkA,seval]
 refine G5 rfl rfl ?_
 repeat' first
  |(simp only[iG,Ho,seval,OQ])
  |(refine jK (by decide +kernel) (by decide +kernel) ?_;simp only[jL,lc,ah,Nat.reduceAdd];(repeat' (first | exact trivial | apply And.intro));(all_goals (first | exact Or.inl (by decide +kernel) | refine Or.inr ?_)))
  |(refine wT rfl (wX I hv hsz) rfl (fun _=>uf) ?_)
  |(refine yH (by decide +kernel) ?_)
  |(refine qz [1] rfl hb (by simp[V.fz,V.ren,rho]) rfl (by decide) rfl ⟨⟨show 1<2 by decide,by simp only[uf];rfl⟩,trivial⟩ ?_;intro bx2 hoth2 hat2)
