/- Layer 15: slices.IndexFunc and slices.Delete of the seals and boxes that are not open yet. -/
import Derived.Test.YtegbpjodbjhjeaaGreatDoorVlUq
set_option maxHeartbeats 8000000
set_option linter.all false
namespace Go.Proofs.YtegbpjodbjhjeaaGreatDoor
open Go Go.Vl
set_option maxRecDepth 4000
def xV (a:Option Addr) (E:Option (TypeId×Nat)) (cap:Nat) (L:List Tm):V:=.gs (some (.slice a L.length cap)) E (L.map tmC)
def xB (S:List Tm) (a:Option Addr) (E:Option (TypeId×Nat)) (cap:Nat) (L:List Tm):List (List V):=[mS S,[.mr 0],[xV a E cap L]]
theorem Yg {S L:List Tm} {a:Option Addr} {E:Option (TypeId×Nat)} {cap:Nat}:xB S a E cap L=[mS S,[.mr 0],[xV a E cap L]]:=rfl
theorem adB {S L:List Tm} {a:Option Addr} {E:Option (TypeId×Nat)} {cap:Nat} {xs:List V} (h:xs.all (fun x=>x.ltB 3)=true):eC xs (xB S a E cap L)=true:=by
 simp only[eC,xB,aR,bb,gj,aB,aK,h,xV];rfl
theorem Eu {S L:List Tm} {a:Option Addr} {E:Option (TypeId×Nat)} {cap:Nat}:([mS S,[.mr 0],[xV a E cap L]]:List (List V)).all (fun b=>b.all fun x=>x.ltB 3)=true:=by
 simp only[aR,bb,gj,xV];rfl
theorem Ls {L:List Tm}:∀ z∈L.map tmC,z.length=3:=fun z hz=>by
 obtain⟨t,_,rfl⟩:=bu.1 hz
 exact bI t
def On (S:List Tm) (t:Tm):Bool:=dt (inP S) (Ap t)
def SZ:V:=.clo (.func 124) [] [.bp 1 0]
theorem Oo (S:List Tm) (hS:vT S) (L:List Tm) (hL:∀ t∈L,∃ k n a b,t=.mk k n [a,b]∧bT a=true∧br a≤1000000000) (hm:L.length≤1000000000) (a:Option Addr) (E:Option (TypeId×Nat)) (cap:Nat) (ha:L≠[]→∃ blk,a=some ⟨blk,0,none⟩) :
 FnB Tryz.prog glT 95 [.c (.ex (.slice a L.length cap)),SZ] (xB S a E cap L) (i64 (Bi (On S) L)) (xB S a E cap L):=by
 refine mY (rs:=[.tmp 4]) (k:=3) [1000016,3000003] mixed Tryz.func95 rfl rfl rfl rfl (by kernel_rfl) (by simp) rfl rfl rfl (adB rfl) (ae _) ?_
 simp only[pkA,seval,Yg]
 refine m9 dq rfl ?_
 simp only[pkA,seval]
 refine cF (fun i:Nat=>hdS [(0,.c (.ex (.slice a L.length cap))),(1,SZ),(7,i64 L.length),(8,i64 i)] (xB S a E cap L)) (fun i=>L.length - i) (fun i=>i≤L.length∧∀ j (h:j<L.length),j<i→On S L[j]=false) 0 ⟨au _,fun j h h'=>absurd h' (Nat.not_lt_zero _)⟩ ?_ ?_
 ·exact cj (by simp only[eW];exact b9.2 ⟨rfl,Eu⟩) (ae _) (ae _) (by simp[FL,ar]) ⟨rfl,rfl,rfl,trivial⟩
 rintro i ⟨hi,fU⟩ R ck cG dn
 simp only[pkA,seval,Yg]
 refine aV (fun bF=>?_) (fun ga=>?_)
 ·have bF:i<L.length:=by simpa using bF
  have hw:=fa (n:=(i:Int)+1) (k:=i+1) (by omega) (by omega)
  obtain⟨blk,rfl⟩:=ha (by intro h;subst h;simp at bF)
  obtain⟨k,n,x,y,ht,hvx,hsx⟩:=hL L[i] (aF bF)
  have hb:=SS S hS k n x y hvx hsx
  have XW:On S L[i]=dt (inP S) x:=by rw[ht];rfl
  rw[← ht,← XW] at hb
  simp only[pkA,seval,SZ]
  refine zO (k:=i) dq rfl di rfl (by decide) rfl bF ?_
  simp only[pkA,seval]
  refine ac8 (b:=2) (k:=0) (q:=i) (x:=tmC L[i]) di rfl rfl (show 2<3 by decide) rfl rfl Ls (by simp[bF]) (by rw[ah]) ?_
  simp only[pkA,seval]
  refine kJ rfl hb (by simp[V.fz]) (show 2≤3 by decide) ⟨rfl,rfl,trivial⟩ (fun _ _=>rfl) ?_
  simp only[pkA,seval]
  refine aV (fun hy=>?_) (fun hn=>?_)
  ·simp only[pkA,seval]
   refine dn _ ?_
   simp only[pkA]
   rw[Lh bF hy fU]
   exact dJ [(4,i64 i)] rfl (by simp only[eW];exact b9.2 ⟨rfl,Eu⟩) (ae _) (ae _) ⟨by simp[],trivial⟩ ⟨rfl,rfl,rfl,trivial⟩ (by simp[hdS,frs,fW,up])
  ·simp only[pkA,seval]
   refine ck (i+1) _ ⟨bF,fun j h hj=>?_⟩ (by omega) (cj (by simp only[eW];exact b9.2 ⟨rfl,Eu⟩) (ae _) (ae _) (by simp[FL,ar,hw,SZ]) ⟨rfl,rfl,rfl,trivial⟩)
   rcases cN j i with h1 | h1
   ·exact fU j h h1
   ·have:j=i:=by omega
    subst this;exact hn
 ·have:i=L.length:=by simp at ga;omega
  subst this
  simp only[pkA]
  refine cG _ _ ?_
  simp only[pkA,seval]
  rw[Cd (fun j h=>fU j h h)]
  exact dJ [(4,i64 (-1))] rfl (by simp only[eW];exact b9.2 ⟨rfl,Eu⟩) (ae _) (ae _) ⟨by simp[],trivial⟩ ⟨rfl,rfl,rfl,trivial⟩ (by simp[hdS,frs,fW,up])
def dB (blk cap:Nat) (n:Nat) (es:List (List C)):List (List V):=[[.gs (some (.slice (some ⟨blk,0,none⟩) n cap)) (some (47,3)) es]]
theorem adC {blk cap n:Nat} {es:List (List C)}:dB blk cap n es=[[.gs (some (.slice (some ⟨blk,0,none⟩) n cap)) (some (47,3)) es]]:=rfl
theorem aaV {L:List Tm} {i:Nat} (h:i<L.length):((L.map tmC).take i++((L.map tmC).drop (i+1)).take (L.length - (i+1))++(L.map tmC).drop (i+(L.length - (i+1))))=(L.eraseIdx i).map tmC++(L.map tmC).drop (L.length - 1):=by
 have h2:((L.map tmC).drop (i+1)).take (L.length - (i+1))=(L.map tmC).drop (i+1):=dM (by simp)
 rw[h2,show i+(L.length - (i+1))=L.length - 1 by omega,List.eraseIdx_eq_take_drop_succ,dG,List.map_take,List.map_drop]
theorem Oq (L:List Tm) (i:Nat) (hi:i<L.length) (hm:L.length≤1000000000) (blk cap:Nat) (hc:L.length≤cap) :
 FnB Tryz.prog glT 125 [.c (.ex (.slice (some ⟨blk,0,none⟩) L.length cap)),i64 i,i64 ((i+1:Nat):Int)] (dB blk cap L.length (L.map tmC)) (.c (.ex (.slice (some ⟨blk,0,none⟩) (L.length - 1) cap))) (dB blk cap L.length ((L.eraseIdx i).map tmC++[tmC (.mk 0 0 [])])):=by
 have fx:(L.eraseIdx i).length=L.length - 1:=List.length_eraseIdx_of_lt hi
 refine mY (rs:=[.tmp 6]) (k:=1) [2700026,3000001] mixed Tryz.func125 rfl rfl rfl rfl (by kernel_rfl) (by simp) rfl rfl rfl rfl (ae _) ?_
 simp only[pkA,seval,adC]
 refine m9 dq rfl ?_
 simp only[pkA,seval]
 refine K7 (l:=i) (h:=i+1) (m:=L.length) (sz:=3) dq rfl di rfl rfl rfl rfl (by omega) (by omega) hc (fun _=>rfl) ?_
 simp only[pkA,seval]
 refine aV (fun h=>?_) (fun _=>?_)
 ·exfalso;have h:=fj h;omega
 simp only[pkA,seval]
 refine m9 dq rfl ?_
 simp only[pkA,seval]
 refine K7 (l:=0) (h:=i) (m:=cap) (sz:=3) dq rfl di rfl rfl rfl rfl (by omega) (by omega) (ae _) (fun h=>by cases h) ?_
 simp only[pkA,seval]
 refine K7 (l:=i+1) (h:=L.length) (m:=cap) (sz:=3) dq rfl di rfl rfl rfl rfl (by omega) (by omega) (ae _) (fun h=>by cases h) ?_
 simp only[pkA,seval,ite_self,lb]
 have tP:(L.map tmC).length=L.length:=ap ..
 refine V8 (es:=L.map tmC) (b:=0) (k:=0) (q:=i+1) (m:=L.length - (i+1)) (n':=i) (e':=47) (cap:=cap) (sz:=3) dq rfl di rfl (by decide) (show 0<1 by decide) rfl (by rw[tP];rfl) ?_ (by rw[tP];omega) (by rw[tP];omega) (by omega) ?_
 ·by_cases h:cap=i+1
  ·exact .inl (by omega)
  ·exact .inr (by rw[if_neg h,ah])
 rw[aaV hi,tP]
 have Kg:i+(L.length - (i+1))=L.length - 1:=by omega
 rw[Kg]
 simp only[pkA,seval]
 refine m9 dq rfl ?_
 simp only[pkA,seval]
 refine K7 (l:=L.length - 1) (h:=L.length) (m:=cap) (sz:=3) dq rfl di rfl rfl rfl rfl (by omega) (by omega) (ae _) (fun h=>by cases h) ?_
 simp only[pkA,seval]
 have pz:((L.eraseIdx i).map tmC++(L.map tmC).drop (L.length - 1)).length=L.length:=by
  rw[ax,ap,cY,tP,fx];omega
 refine Rn (es:=(L.eraseIdx i).map tmC++(L.map tmC).drop (L.length - 1)) (b:=0) (k:=0) (q:=L.length - 1) (e':=47) (cap:=cap) (sz:=3) (z:=tmC (.mk 0 0 [])) dq rfl di rfl rfl (by decide) rfl (show 0<1 by decide) rfl (by rw[pz];rfl) ?_ (by rw[pz];omega) ?_
 ·by_cases h:cap=L.length - 1
  ·exact .inl (by omega)
  ·exact .inr (by rw[if_neg h,ah])
 have O3:((L.eraseIdx i).map tmC++(L.map tmC).drop (L.length - 1)).take (L.length - 1)++List.replicate (L.length - (L.length - 1)) (tmC (.mk 0 0 []))++((L.eraseIdx i).map tmC++(L.map tmC).drop (L.length - 1)).drop (L.length - 1+(L.length - (L.length - 1)))=(L.eraseIdx i).map tmC++[tmC (.mk 0 0 [])]:=by
  have h1:L.length - (L.length - 1)=1:=by omega
  have hd:((L.eraseIdx i).map tmC++(L.map tmC).drop (L.length - 1)).drop L.length=[]:=List.drop_of_length_le (by rw[pz];exact ae _)
  rw[h1,show L.length - 1+1=L.length by omega,hd,eA,fR (by rw[ap];exact fx)];rfl
 rw[O3,pz]
 simp only[pkA,seval]
 exact dJ [(6,.c (.ex (.slice (some ⟨blk,0,none⟩) (L.length - 1) cap)))] rfl rfl (ae _) (ae _) ⟨by simp[],trivial⟩ ⟨rfl,trivial⟩ (by simp[hdS,frs,fW,up])
theorem Hi:∀ (t:Tm) (S L:List Tm),(j5 t (S,L)).2.length≤L.length+1:=by
 refine Tm.ind fun k n l ih S L=>?_
 rw[Es]
 split
 ·simp
 ·split
  ·match l,ih with
   |[],_=>simp
   |[a],_=>simp
   |[a,b],ih=>
    simp only
    split
    ·exact ih b (by simp) _ _
    ·simp
   |a::b::c::r,_=>simp
  ·simp
theorem sJ:∀ (J S L:List Tm),(eR J (S,L)).2.length≤L.length+J.length
 |[],_,_=>by simp[eR]
 |t::J,S,L=>by
  have e:eR (t::J) (S,L)=eR J ((j5 t (S,L)).1,(j5 t (S,L)).2):=rfl
  have h1:=Hi t S L
  have h2:=sJ J (j5 t (S,L)).1 (j5 t (S,L)).2
  rw[e,aB];omega
theorem S0 {f:Bool} {L L':List Tm} (h:L≠[]→f=true):L'≠[]→flC f L L'=true:=fun h'=>by
 unfold flC
 by_cases hl:L=[]
 ·subst hl
  have:=iK.2 h'
  simp[this]
 ·rw[h hl];rfl
theorem vX {I S L:List Tm} (hv:∀ t∈I,bT t=true) (h:vV I S L):vT S:=fun t ht=>by
 obtain⟨w,hw,ey⟩:=(h.sub t ht).loc rfl
 exact o5 w (hv w hw) _ ey
theorem Ck {I S L:List Tm} (h:vV I S L):∀ t∈S,br t≤cD I:=fun t ht=>by
 obtain⟨w,hw,ey⟩:=(h.sub t ht).loc rfl
 exact bY (Ca w t ey) (fO hw)
theorem S1 {I S L:List Tm} (hv:∀ t∈I,bT t=true) (h:vV I S L):∀ t∈L,∃ k n a b,t=.mk k n [a,b]∧bT a=true∧bT b=true∧br a+br b+1≤cD I:=fun t ht=>by
 obtain⟨hS,hk⟩:=h.inl t ht
 have rh:=vX hv h t hS
 have dR:=Ck h t hS
 obtain⟨a,b,pT⟩:=Ej rh hk
 rw[pT] at rh dR
 obtain⟨_,_,_,sP⟩:=fh rh
 refine⟨_,_,a,b,pT,sP a (by simp),sP b (by simp),?_⟩
 simp only[br,cD] at dR;omega
def Hj:V:=.clo (.func 122) [] [.bp 1 0,.bp 2 0]
theorem aaW {E:Option (TypeId×Nat)} {L:List Tm} {v:Value} (h:GsV E (L.map tmC) v):∃ a cap,v=.slice a L.length cap∧L.length≤cap∧(L≠[]→∃ blk,a=some ⟨blk,0,none⟩):=by
 rcases h with⟨blk,cap,rfl,hc⟩ | ⟨h0,_,a,rfl⟩
 ·rw[ap] at hc ⊢
  exact⟨_,cap,rfl,hc,fun _=>⟨blk,rfl⟩⟩
 ·have:L=[]:=by cases L with
   |nil=>rfl
   |cons=>cases h0
  subst this
  exact⟨a,0,rfl,ae _,fun h=>absurd rfl h⟩
theorem Ev {v:Value} {E:Option (TypeId×Nat)} {es:List (List C)}:(V.gs (some v) E es).ldv=.c (.ex v):=rfl
theorem Ew {g:Option Value} {E:Option (TypeId×Nat)} {es:List (List C)}:(V.gs g E es).isMk=false:=rfl
def Aq:=jj @pkA @ptA
def Lt:=jj @pkA (jj @ptA @pkT)
theorem Ar (I:List Tm) (hv:∀ t∈I,bT t=true) (dR:cD I≤100000000):FnB Tryz.prog glT 92 [.c (tsC I)] [] (.mr 0) [mS (vW I).1]:=by
 have hIl:=jl I
 have E6:∀ j,vV I (eR (I.take j) ([],[])).1 (eR (I.take j) ([],[])).2:=fun j=>(uO hv (I.take j) [] [] (fun _ h=>cz h) ⟨g8,by simp,by simp,fun _ _ _ _ h=>by cases h⟩).1
 refine mY (rs:=[.tmp 2]) (k:=0) [2300003,1000020,2300009,1000024,2850013,2870013,1000039,1000042,3000000] mixed Tryz.func92 rfl rfl rfl rfl (by kernel_rfl) (by simp) rfl rfl rfl rfl (au _) ?_
 simp only[Aq,seval,adA,afV,aaR]
 refine tA rfl (.warm 2 0 (show 2<3 by decide) rfl (.done ?_))
 simp only[Aq,seval,Vl.S.cell,tsC]
 refine cF (fun x:Nat×Bool=>hdS [(3,.bp 1 0),(4,.bp 2 0),(5,Hj),(12,.c (.sl (I.map tmC))),(13,i64 I.length),(14,i64 x.1)] (cB (eR (I.take x.1) ([],[])).1 x.2 (eR (I.take x.1) ([],[])).2)) (fun x=>I.length - x.1)
  (fun x=>x.1≤I.length∧((eR (I.take x.1) ([],[])).2≠[]→x.2=true)) (0,false) ⟨au _,fun h=>absurd rfl h⟩ ?_ ?_
 ·refine cj (by simp only[eW];exact b9.2 ⟨rfl,pP⟩) (au _) (ae 3) (by simp[FL,ar,Hj]) ⟨by simp[ar,eR],by simp[ar],by simp[gsV,eR],trivial⟩
 rintro⟨j,f⟩ ⟨hj,hf⟩ R ck cG dn
 simp only at hj hf ck cG
 have hC:=E6 j
 have ce:=sJ (I.take j) [] []
 simp only[aK,ah,aZ] at ce
 generalize hS:(eR (I.take j) ([],[])).1=S at *
 generalize hL:(eR (I.take j) ([],[])).2=L at *
 have hSL:eR (I.take j) ([],[])=(S,L):=by rw[← hS,← hL]
 simp only[pkA,seval,SU]
 refine aV (fun bF=>?_) (fun ga=>?_)
 ·have bF:j<I.length:=by simpa using bF
  have hw:=fa (n:=(j:Int)+1) (k:=j+1) (by omega) (by omega)
  have hm:=fO (aF bF)
  have rD:eR (I.take (j+1)) ([],[])=j5 I[j] (S,L):=by
   rw[← hSL];unfold eR;rw[aU bF,kD];rfl
  simp only[pkA,seval,Hj]
  refine dz dq rfl di (by decide) (aI j) (c:=tmC I[j]) (by simp[bF]) (bI _) ?_
  simp only[Lt,seval,jT (bI _)]
  have OU:=SY I[j] (hv _ (aF bF)) (by omega) S f L (vX hv hC) (by omega)
  rw[← rD] at OU
  refine xd rfl OU (by simp[V.fz]) rfl (JG (SV (xs:=[]) rfl)) (show 3≤4 by decide) ⟨rfl,rfl,rfl,trivial⟩ (fun _ _=>rfl) (fun bx' wz hB=>?_)
  simp only[pkA,seval]
  exact ck (j+1,flC f L (eR (I.take (j+1)) ([],[])).2) _ ⟨bF,S0 hf⟩ (by simp only;omega) (cj (by simp only[eW];exact b9.2 ⟨rfl,pP⟩) (au _) (show 3≤4 by decide) (by simp[FL,ar,hw,Hj]) ⟨hB.1,hB.2.1,hB.2.2.1,trivial⟩)
 have:j=I.length:=by simp at ga;omega
 subst this
 rw[cx] at hSL
 clear E6 hS hL ce ck dn
 simp only[pkA]
 refine cG _ _ ?_
 have hLI:L.length≤I.length:=by
  have:=sJ I [] []
  rw[hSL] at this;simpa using this
 have xx:vW I=rA (2*cD I+L.length+1) (S,L):=by unfold vW;rw[hSL]
 refine cF (fun x:Nat×List Tm×List Tm×Bool=>hdS [(3,.bp 1 0),(4,.bp 2 0),(5,Hj)] (cB x.2.1 x.2.2.2 x.2.2.1)) (fun x=>x.1)
  (fun x=>vV I x.2.1 x.2.2.1∧x.2.2.1.length≤I.length∧(x.2.2.1≠[]→x.2.2.2=true)∧vW I=rA x.1 (x.2.1,x.2.2.1)∧2*(cD I - x.2.1.length)+x.2.2.1.length<x.1) (2*cD I+L.length+1,S,L,f) ⟨hC,hLI,hf,xx,by simp only;omega⟩ ?_ ?_
 ·refine cj (by simp only[eW];exact b9.2 ⟨rfl,pP⟩) (au _) (ae 3) (by simp[FL,ar,Hj]) ⟨by simp[bxs],by simp[bxs],by simp[bxs],trivial⟩
 clear hC hf hLI xx hSL ga hj S L f cG
 rintro⟨n,S,L,f⟩ ⟨hC,hLI,hf,xx,hn⟩ R ck cG dn
 simp only at hC hLI hf xx hn ck cG
 obtain⟨n,rfl⟩:∃ m,n=m+1:=⟨n - 1,by omega⟩
 have hS:=vX hv hC
 simp only[pkA,seval,SU]
 refine tA rfl (.name 2 0 (E:=if f then some (47,3) else none) (es:=L.map tmC) (show 2<3 by decide) rfl rfl fun v hgv=>.done ?_)
 obtain⟨a,cap,rfl,jL,ha⟩:=aaW hgv
 simp only[Aq,seval,Vl.S.cell,Hj,Ev,Ew]
 have h2:=S1 hv hC
 have XJ:=Oo S hS L (fun t ht=>by obtain⟨k,n,a,b,e,h1,h2,h3⟩:=h2 t ht;exact⟨k,n,a,b,e,h1,by omega⟩) (by omega) a (if f then some (47,3) else none) cap ha
 refine kJ rfl XJ (by simp[V.fz,SZ]) (show 3≤3 by decide) ⟨rfl,rfl,rfl,trivial⟩ (fun _ _=>rfl) ?_
 simp only[pkA,seval]
 have afd:rA (n+1) (S,L)=match L.findIdx? (On S) with
  |none=>(S,L)
  |some i=>rA n (j5 (Lq (L.getD i lN)) (S,L.eraseIdx i)):=rfl
 rw[afd] at xx
 unfold Bi
 cases hfi:L.findIdx? (On S) with
 |none=>
  rw[hfi] at xx
  simp only[]
  refine aV (fun _=>?_) (fun h=>?_)
  ·simp only[Aq,seval]
   refine dn _ ?_
   simp only[]
   rw[xx]
   exact dJ [(2,.mr 0)] rfl (by simp only[eW,aR,bb,gj,aB,aK];rfl) (au _) (show 1≤3 by decide) ⟨by simp[],trivial⟩ ⟨rfl,trivial⟩ (by simp[hdS,frs,fW,up])
  ·exfalso;simp at h
 |some i=>
  rw[hfi] at xx
  simp only at xx
  obtain⟨bF,hb,_⟩:=bS.1 hfi
  obtain⟨k,m,x,y,pT,hvx,hvy,hxy⟩:=h2 L[i] (aF bF)
  have pp:Lq (L.getD i lN)=y:=by
   have eg:L.getD i lN=L[i]:=by simp[bF]
   rw[eg,pT];rfl
  rw[pp] at xx
  obtain⟨blk,rfl⟩:=ha (by intro h;subst h;simp at bF)
  have hft:f=true:=hf (by intro h;subst h;simp at bF)
  subst hft
  simp only[↓reduceIte]
  refine aV (fun h=>?_) (fun _=>?_)
  ·exfalso;simp at h;omega
  simp only[Aq,seval,Ev,Ew]
  refine zO (k:=i) dq rfl di rfl (by decide) rfl bF ?_
  simp only[pkA,seval]
  refine ZD di rfl (by decide) ?_
  simp only[pkA,seval]
  refine ZK (b:=2) (k:=0) (q:=i) (r:=2) (x:=tmC L[i]) (c:=.sl ([x,y].map tmC)) (sz:=3) dq rfl (show 2<3 by decide) rfl rfl Ls (by simp[bF]) (by rw[pT];rfl) (by rw[ah]) ?_
  simp only[pkA,seval]
  refine dz dq rfl di (by decide) (by decide) (c:=tmC y) rfl (bI _) ?_
  simp only[Lt,seval,jT (bI _)]
  have hw:=fa (n:=(i:Int)+1) (k:=i+1) (by omega) (by omega)
  refine V9 rfl ?_
  refine vK ?_
  simp only[jr,Aq,seval,Ev,Ew]
  refine vK ?_
  simp only[jr,pkA,seval]
  refine vK ?_
  simp only[jr,pkA,seval]
  refine vK ?_
  simp only[jr,pkA,seval,hw]
  refine vK ?_
  simp only[jr,pkA,seval]
  refine tp [2] rfl (Oq L i bF (by omega) blk cap jL) (by simp[V.fz,V.ren]) rfl (by decide) rfl ⟨⟨show 2<4 by decide,by simp[ar,V.ren,rho]⟩,trivial⟩ ?_
  intro bx' wz Y3
  have h0:bx' 0=mS S:=by rw[wz 0 (by decide)];simp[ar,bxs]
  have h1:bx' 1=[.mr 0]:=by rw[wz 1 (by decide)];simp[ar,bxs]
  have h3:bx' 3=(tmC y).map .c:=by rw[wz 3 (by decide)];simp[]
  have h2:bx' 2=[.gs (some (.slice (some ⟨blk,0,none⟩) L.length cap)) (some (47,3)) ((L.eraseIdx i).map tmC++[tmC (.mk 0 0 [])])]:=Y3 0 2 _ rfl rfl
  simp only[jr,pkA,SH,NR]
  refine .split 2 0 35 (g:=some (.slice (some ⟨blk,0,none⟩) L.length cap)) (E:=some (47,3)) (es:=(L.eraseIdx i).map tmC++[tmC (.mk 0 0 [])]) (show 2<4 by decide) (by simp only[h2];rfl) (by simp only[h2];rfl) rfl fun u hu _=>.done ?_
  have hu:=hu _ rfl
  subst hu
  simp only[Aq,seval,h2]
  have fx:(L.eraseIdx i).length=L.length - 1:=List.length_eraseIdx_of_lt bF
  have O1:((L.eraseIdx i).map tmC++[tmC (.mk 0 0 [])]).take (L.length - 1)=(L.eraseIdx i).map tmC:=fR (by rw[ap];exact fx)
  rw[Rq]
  refine .joinT 2 0 35 blk L.length (L.length - 1) cap (e:=47) (sz:=3) (es:=(L.eraseIdx i).map tmC++[tmC (.mk 0 0 [])]) (show 2<4 by decide) ?_ ?_ ?_ (by rw[ax,ap,fx];omega) ?_
  ·simp[];rfl
  ·simp[]
  ·simp[]
  rw[O1]
  refine .unname 2 0 (g:=some (.slice (some ⟨blk,0,none⟩) (L.length - 1) cap)) (E:=some (47,3)) (es:=(L.eraseIdx i).map tmC) (show 2<4 by decide) ?_ (.done ?_)
  ·simp[]
  simp only[Lt,seval,Vl.S.cell,h3]
  obtain⟨k2,hk2⟩:∃ k2,j5 y (S,L.eraseIdx i)=k2:=⟨_,rfl⟩
  have jG:=aF bF
  have hL2:∀ z∈L.eraseIdx i,z∈L:=fun z hz=>List.mem_of_mem_eraseIdx hz
  have hSL:=hC.sub _ (hC.inl _ jG).1
  have Un:k=3∨k=4:=by have:=(hC.inl _ jG).2;rw[pT] at this;exact this
  have hKu:Kn I false (.mk k m [x,y]):=by rw[← pT];exact hSL
  have nF:dt (inP S) x=true:=by
   have:On S L[i]=dt (inP S) x:=by rw[pT];rfl
   rw[← this];exact hb
  obtain⟨q1,_,_,q4⟩:=Et (I:=I) y S (L.eraseIdx i) hvy hC.nd hC.sub (fun z hz=>hC.inl z (hL2 z hz)) (fun k' n' a' b' g1 g2=>by
   rcases hC.opn k' n' a' b' g1 g2 with h | h
   ·exact .inl h
   ·obtain⟨j,hj,e⟩:=iJ h
    by_cases oI:j=i
    ·subst oI
     rw[pT] at e
     injection e with _ _ e
     injection e with _ e
     injection e with e _
     exact .inr (.inr e.symm)
    ·refine .inr (.inl ?_)
     rw[List.mem_eraseIdx_iff_getElem]
     exact⟨j,hj,oI,e⟩) (.opn hKu Un (nA hC.sub x nF))
  have mL:=sH q1
  have ahT:=sH hC
  have OU:=SY y hvy (by omega) S true (L.eraseIdx i) hS (by omega)
  refine xd rfl OU (by simp[V.fz]) rfl (JG (SV (xs:=[]) rfl)) (show 3≤4 by decide) ⟨by simp[ar,h0],by simp[ar,h1],by simp[gsV],trivial⟩ (fun _ _=>rfl) (fun bx' wz hB=>?_)
  simp only[pkA]
  refine ck (n,(j5 y (S,L.eraseIdx i)).1,(j5 y (S,L.eraseIdx i)).2,flC true (L.eraseIdx i) (j5 y (S,L.eraseIdx i)).2) _ ⟨q1,?_,S0 (L:=L.eraseIdx i) (fun _=>rfl),xx,?_⟩ (by simp only;omega) (cj (by simp only[eW];exact b9.2 ⟨rfl,pP⟩) (au _) (show 3≤4 by decide) (by simp[FL,ar,Hj]) ⟨hB.1,hB.2.1,hB.2.2.1,trivial⟩)
  ·have:=Hi y S (L.eraseIdx i)
   simp only;omega
  ·simp only
   rcases q4 with h | ⟨g1,g2⟩
   ·rw[h];simp only;omega
   ·omega
theorem S2 {I S L:List Tm} (h:vV I S L) (hs:cD I≤100000000):S.length≤1000000000∧∀ t∈S,br t≤1000000000:=by
 have h1:=sH h
 exact⟨by omega,fun t ht=>by have:=Ck h t ht;omega⟩
theorem S3 (I:List Tm) (hv:∀ t∈I,bT t=true) (dR:cD I≤100000000):FnOK Tryz.prog glT 47 [.c (tsC I)] (.c (tsC (d4 I))):=by
 obtain⟨hC,hso⟩:=Hg hv
 obtain⟨h1,h2⟩:=S2 hC dR
 have Y9:=W3 (G:=glT) (vW I).1 h1 h2 hC.nd
 rw[hso] at Y9
 refine bP (rs:=[.tmp 2]) false [1000004,1000005] mixed Tryz.func47 rfl rfl rfl rfl (by kernel_rfl) (by simp) rfl rfl ?_
 simp only[pkA,seval]
 refine An rfl (Ar I hv dR) rfl (fun _=>xp) ?_
 simp only[pkA,seval]
 refine tp [0] rfl Y9 (by simp[V.fz,V.ren,rho]) rfl (by decide) rfl ⟨⟨show 0<1 by decide,by simp only[xp];rfl⟩,trivial⟩ ?_
 intro bx2 afe ahV
 simp only[pkA,seval,SH]
theorem S4 (I:List Tm) (t:Tm) (hv:∀ t∈I,bT t=true) (dR:cD I≤100000000) (ht:bT t=true) (hst:br t≤1000000000):FnOK Tryz.prog glT 49 [.c (tsC I),.agg (tmC t)] (bo (dt (inP (d4 I)) t)):=by
 obtain⟨hC,hso⟩:=Hg hv
 have hb:=vU (vW I).1 (vX hv hC) t ht hst
 rw[← Hf,hso] at hb
 refine bP (rs:=[.tmp 4]) false [2850001,2860001,1000006,1000008] mixed Tryz.func49 rfl rfl rfl rfl (by kernel_rfl) (by simp) rfl rfl ?_
 simp only[pkA,seval]
 refine K8 rfl rfl ?_
 repeat' first
  |(simp only[jr,Lt,seval,SH])
  |(refine kK (by decide +kernel) (by decide +kernel) ?_;simp only[kL,mw,ah,Nat.reduceAdd];(repeat' (first | exact trivial | apply And.intro));(all_goals (first | exact Or.inl (by decide +kernel) | refine Or.inr ?_)))
  |(refine An rfl (Ar I hv dR) rfl (fun _=>xp) ?_)
  |(refine BW (by decide +kernel) ?_)
  |(refine tp [1] rfl hb (by simp[V.fz,V.ren,rho]) rfl (by decide) rfl ⟨⟨show 1<2 by decide,by simp only[xp];rfl⟩,trivial⟩ ?_;intro bx2 afe ahV)
