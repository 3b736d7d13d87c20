/- Layer 15: slices.IndexFunc and slices.Delete of the seals and boxes that are not open yet. -/
import Derived.Test.YtegbpjodbjhjeaaGreatDoorVlUq
set_option linter.all false
namespace Go.Proofs.YtegbpjodbjhjeaaGreatDoor
open Go Go.Vl
set_option maxRecDepth 4000
def xV (a:Option Addr) (E:Option (TypeId×Nat)) (cap:Nat) (L:List Tm):V:=.gs (some (.slice a L.length cap)) E (L.map tmC)
def xB (S:List Tm) (a:Option Addr) (E:Option (TypeId×Nat)) (cap:Nat) (L:List Tm):List (List V):=[mS S,[.mr 0],[xV a E cap L]]
theorem Zv {S L:List Tm} {a:Option Addr} {E:Option (TypeId×Nat)} {cap:Nat}:xB S a E cap L=[mS S,[.mr 0],[xV a E cap L]]:=rfl
theorem aeL {S L:List Tm} {a:Option Addr} {E:Option (TypeId×Nat)} {cap:Nat} {xs:List V} (h:xs.all (fun x=>x.ltB 3)=true):eN xs (xB S a E cap L)=true:=by
 simp only[eN,xB,aN,aX,gC,aC,aH,h,xV];rfl
theorem FB {S L:List Tm} {a:Option Addr} {E:Option (TypeId×Nat)} {cap:Nat}:([mS S,[.mr 0],[xV a E cap L]]:List (List V)).all (fun b=>b.all fun x=>x.ltB 3)=true:=by
 simp only[aN,aX,gC,xV];rfl
theorem MH {L:List Tm}:∀ z∈L.map tmC,z.length=3:=fun z hz=>by
 obtain⟨t,_,rfl⟩:=br.1 hz
 exact bG t
def Pu (S:List Tm) (t:Tm):Bool:=dD (inP S) (Bn t)
def Uh:V:=.clo (.func 124) [] [.bp 1 0]
set_option maxHeartbeats 4000000 in
theorem Pv (S:List Tm) (hS:wW S) (L:List Tm) (hL:∀ t∈L,∃ k n a b,t=.mk k n [a,b]∧bY a=true∧bq a≤1000000000) (hm:L.length≤1000000000) (a:Option Addr) (E:Option (TypeId×Nat)) (cap:Nat) (ha:L≠[]→∃ blk,a=some ⟨blk,0,none⟩) :
 FnB Tryz.prog glT 95 [.c (.ex (.slice a L.length cap)),Uh] (xB S a E cap L) (i64 (Ck (Pu S) L)) (xB S a E cap L):=by
 refine nq (rs:=[.tmp 4]) (k:=3) [1000016,3000003] mixed Tryz.func95 rfl rfl rfl rfl (by kernel_rfl) (by simp) rfl rfl rfl (aeL rfl) (ae _) ?_
 simp only[pkA,seval,Zv]
 refine nD du rfl ?_
 simp only[pkA,seval]
 refine ck (fun i:Nat=>hdS [(0,.c (.ex (.slice a L.length cap))),(1,Uh),(7,i64 L.length),(8,i64 i)] (xB S a E cap L)) (fun i=>L.length - i) (fun i=>i≤L.length∧∀ j (h:j<L.length),j<i→Pu S L[j]=false) 0 ⟨ar _,fun j h h'=>absurd h' (Nat.not_lt_zero _)⟩ ?_ ?_
 ·exact bT (by simp only[eQ];exact cn.2 ⟨rfl,FB⟩) (ae _) (ae _) (by simp[FL,au]) ⟨rfl,rfl,rfl,trivial⟩
 rintro i ⟨hi,fm⟩ R bS cd cX
 simp only[pkA,seval,Zv]
 refine aL (fun bB=>?_) (fun fA=>?_)
 ·have bB:i<L.length:=by simpa using bB
  have hw:=ei (n:=(i:Int)+1) (k:=i+1) (by omega) (by omega)
  obtain⟨blk,rfl⟩:=ha (by intro h;subst h;simp at bB)
  obtain⟨k,n,x,y,ht,hvx,hsx⟩:=hL L[i] (aF bB)
  have hb:=Ud S hS k n x y hvx hsx
  have Zb:Pu S L[i]=dD (inP S) x:=by rw[ht];rfl
  rw[← ht,← Zb] at hb
  simp only[pkA,seval,Uh]
  refine AS (k:=i) du rfl dl rfl (by decide) rfl bB ?_
  simp only[pkA,seval]
  refine aek (b:=2) (k:=0) (q:=i) (x:=tmC L[i]) dl rfl rfl (show 2<3 by decide) rfl rfl MH (by simp[bB]) (by rw[ah]) ?_
  simp only[pkA,seval]
  refine kZ rfl hb (by simp[V.fz]) (show 2≤3 by decide) ⟨rfl,rfl,trivial⟩ (fun _ _=>rfl) ?_
  simp only[pkA,seval]
  refine aL (fun hy=>?_) (fun hn=>?_)
  ·simp only[pkA,seval]
   refine cX _ ?_
   simp only[pkA]
   rw[Mv bB hy fm]
   exact dP [(4,i64 i)] rfl (by simp only[eQ];exact cn.2 ⟨rfl,FB⟩) (ae _) (ae _) ⟨by simp[],trivial⟩ ⟨rfl,rfl,rfl,trivial⟩ (by simp[hdS,frs,gx,up])
  ·simp only[pkA,seval]
   refine bS (i+1) _ ⟨bB,fun j h hj=>?_⟩ (by omega) (bT (by simp only[eQ];exact cn.2 ⟨rfl,FB⟩) (ae _) (ae _) (by simp[FL,au,hw,Uh]) ⟨rfl,rfl,rfl,trivial⟩)
   rcases ct j i with h1 | h1
   ·exact fm j h h1
   ·have:j=i:=by omega
    subst this;exact hn
 ·have:i=L.length:=by simp at fA;omega
  subst this
  simp only[pkA]
  refine cd _ _ ?_
  simp only[pkA,seval]
  rw[Dj (fun j h=>fm j h h)]
  exact dP [(4,i64 (-1))] rfl (by simp only[eQ];exact cn.2 ⟨rfl,FB⟩) (ae _) (ae _) ⟨by simp[],trivial⟩ ⟨rfl,rfl,rfl,trivial⟩ (by simp[hdS,frs,gx,up])
def dB (blk cap:Nat) (n:Nat) (es:List (List C)):List (List V):=[[.gs (some (.slice (some ⟨blk,0,none⟩) n cap)) (some (47,3)) es]]
theorem aeM {blk cap n:Nat} {es:List (List C)}:dB blk cap n es=[[.gs (some (.slice (some ⟨blk,0,none⟩) n cap)) (some (47,3)) es]]:=rfl
theorem acd {L:List Tm} {i:Nat} (h:i<L.length):((L.map tmC).take i++((L.map tmC).drop (i+1)).take (L.length - (i+1))++(L.map tmC).drop (i+(L.length - (i+1))))=(L.eraseIdx i).map tmC++(L.map tmC).drop (L.length - 1):=by
 have h2:((L.map tmC).drop (i+1)).take (L.length - (i+1))=(L.map tmC).drop (i+1):=dS (by simp)
 rw[h2,show i+(L.length - (i+1))=L.length - 1 by omega,List.eraseIdx_eq_take_drop_succ,dL,kH,List.map_drop]
set_option maxHeartbeats 4000000 in
theorem Pw (L:List Tm) (i:Nat) (hi:i<L.length) (hm:L.length≤1000000000) (blk cap:Nat) (hc:L.length≤cap) :
 FnB Tryz.prog glT 125 [.c (.ex (.slice (some ⟨blk,0,none⟩) L.length cap)),i64 i,i64 ((i+1:Nat):Int)] (dB blk cap L.length (L.map tmC)) (.c (.ex (.slice (some ⟨blk,0,none⟩) (L.length - 1) cap))) (dB blk cap L.length ((L.eraseIdx i).map tmC++[tmC (.mk 0 0 [])])):=by
 have fy:(L.eraseIdx i).length=L.length - 1:=List.length_eraseIdx_of_lt hi
 refine nq (rs:=[.tmp 6]) (k:=1) [2700026,3000001] mixed Tryz.func125 rfl rfl rfl rfl (by kernel_rfl) (by simp) rfl rfl rfl rfl (ae _) ?_
 simp only[pkA,seval,aeM]
 refine nD du rfl ?_
 simp only[pkA,seval]
 refine Mm (l:=i) (h:=i+1) (m:=L.length) (sz:=3) du rfl dl rfl rfl rfl rfl (by omega) (by omega) hc (fun _=>rfl) ?_
 simp only[pkA,seval]
 refine aL (fun h=>?_) (fun _=>?_)
 ·exfalso;have h:=dA h;omega
 simp only[pkA,seval]
 refine nD du rfl ?_
 simp only[pkA,seval]
 refine Mm (l:=0) (h:=i) (m:=cap) (sz:=3) du rfl dl rfl rfl rfl rfl (by omega) (by omega) (ae _) (fun h=>by cases h) ?_
 simp only[pkA,seval]
 refine Mm (l:=i+1) (h:=L.length) (m:=cap) (sz:=3) du rfl dl rfl rfl rfl rfl (by omega) (by omega) (ae _) (fun h=>by cases h) ?_
 simp only[pkA,seval,ite_self,lF]
 have sr:(L.map tmC).length=L.length:=am ..
 refine Xq (es:=L.map tmC) (b:=0) (k:=0) (q:=i+1) (m:=L.length - (i+1)) (n':=i) (e':=47) (cap:=cap) (sz:=3) du rfl dl rfl (by decide) (show 0<1 by decide) rfl (by rw[sr];rfl) ?_ (by rw[sr];omega) (by rw[sr];omega) (by omega) ?_
 ·by_cases h:cap=i+1
  ·exact .inl (by omega)
  ·exact .inr (by rw[if_neg h,ah])
 rw[acd hi,sr]
 have Ls:i+(L.length - (i+1))=L.length - 1:=by omega
 rw[Ls]
 simp only[pkA,seval]
 refine nD du rfl ?_
 simp only[pkA,seval]
 refine Mm (l:=L.length - 1) (h:=L.length) (m:=cap) (sz:=3) du rfl dl rfl rfl rfl rfl (by omega) (by omega) (ae _) (fun h=>by cases h) ?_
 simp only[pkA,seval]
 have pT:((L.eraseIdx i).map tmC++(L.map tmC).drop (L.length - 1)).length=L.length:=by
  rw[ax,am,di,sr,fy];omega
 refine SL (es:=(L.eraseIdx i).map tmC++(L.map tmC).drop (L.length - 1)) (b:=0) (k:=0) (q:=L.length - 1) (e':=47) (cap:=cap) (sz:=3) (z:=tmC (.mk 0 0 [])) du rfl dl rfl rfl (by decide) rfl (show 0<1 by decide) rfl (by rw[pT];rfl) ?_ (by rw[pT];omega) ?_
 ·by_cases h:cap=L.length - 1
  ·exact .inl (by omega)
  ·exact .inr (by rw[if_neg h,ah])
 have Qc:((L.eraseIdx i).map tmC++(L.map tmC).drop (L.length - 1)).take (L.length - 1)++List.replicate (L.length - (L.length - 1)) (tmC (.mk 0 0 []))++((L.eraseIdx i).map tmC++(L.map tmC).drop (L.length - 1)).drop (L.length - 1+(L.length - (L.length - 1)))=(L.eraseIdx i).map tmC++[tmC (.mk 0 0 [])]:=by
  have h1:L.length - (L.length - 1)=1:=by omega
  have hd:((L.eraseIdx i).map tmC++(L.map tmC).drop (L.length - 1)).drop L.length=[]:=List.drop_of_length_le (by rw[pT];exact ae _)
  rw[h1,show L.length - 1+1=L.length by omega,hd,eK,gq (by rw[am];exact fy)];rfl
 rw[Qc,pT]
 simp only[pkA,seval]
 exact dP [(6,.c (.ex (.slice (some ⟨blk,0,none⟩) (L.length - 1) cap)))] rfl rfl (ae _) (ae _) ⟨by simp[],trivial⟩ ⟨rfl,trivial⟩ (by simp[hdS,frs,gx,up])
theorem Ir:∀ (t:Tm) (S L:List Tm),(kg t (S,L)).2.length≤L.length+1:=by
 refine Tm.ind fun k n l ih S L=>?_
 rw[Fy]
 split
 ·simp
 ·split
  ·match l,ih with
   |[],_=>simp
   |[a],_=>simp
   |[a,b],ih=>
    simp only
    split
    ·exact ih b (by simp) _ _
    ·simp
   |a::b::c::r,_=>simp
  ·simp
theorem tB:∀ (J S L:List Tm),(fc J (S,L)).2.length≤L.length+J.length
 |[],_,_=>by simp[fc]
 |t::J,S,L=>by
  have e:fc (t::J) (S,L)=fc J ((kg t (S,L)).1,(kg t (S,L)).2):=rfl
  have h1:=Ir t S L
  have h2:=tB J (kg t (S,L)).1 (kg t (S,L)).2
  rw[e,aC];omega
theorem Ui {f:Bool} {L L':List Tm} (h:L≠[]→f=true):L'≠[]→flC f L L'=true:=fun h'=>by
 unfold flC
 by_cases hl:L=[]
 ·subst hl
  have:=iV.2 h'
  simp[this]
 ·rw[h hl];rfl
theorem w9 {I S L:List Tm} (hv:∀ t∈I,bY t=true) (h:wY I S L):wW S:=fun t ht=>by
 obtain⟨w,hw,eJ⟩:=(h.sub t ht).loc rfl
 exact pA w (hv w hw) _ eJ
theorem Dq {I S L:List Tm} (h:wY I S L):∀ t∈S,bq t≤cF I:=fun t ht=>by
 obtain⟨w,hw,eJ⟩:=(h.sub t ht).loc rfl
 exact cj (Dg w t eJ) (fx hw)
theorem Uj {I S L:List Tm} (hv:∀ t∈I,bY t=true) (h:wY I S L):∀ t∈L,∃ k n a b,t=.mk k n [a,b]∧bY a=true∧bY b=true∧bq a+bq b+1≤cF I:=fun t ht=>by
 obtain⟨hS,hk⟩:=h.inl t ht
 have rQ:=w9 hv h t hS
 have dZ:=Dq h t hS
 obtain⟨a,b,qn⟩:=Fl rQ hk
 rw[qn] at rQ dZ
 obtain⟨_,_,_,tV⟩:=fw rQ
 refine⟨_,_,a,b,qn,tV a (by simp),tV b (by simp),?_⟩
 simp only[bq,cF] at dZ;omega
def Is:V:=.clo (.func 122) [] [.bp 1 0,.bp 2 0]
theorem ace {E:Option (TypeId×Nat)} {L:List Tm} {v:Value} (h:GsV E (L.map tmC) v):∃ a cap,v=.slice a L.length cap∧L.length≤cap∧(L≠[]→∃ blk,a=some ⟨blk,0,none⟩):=by
 rcases h with⟨blk,cap,rfl,hc⟩ | ⟨h0,_,a,rfl⟩
 ·rw[am] at hc ⊢
  exact⟨_,cap,rfl,hc,fun _=>⟨blk,rfl⟩⟩
 ·have:L=[]:=by cases L with
   |nil=>rfl
   |cons=>cases h0
  subst this
  exact⟨a,0,rfl,ae _,fun h=>absurd rfl h⟩
theorem FC {v:Value} {E:Option (TypeId×Nat)} {es:List (List C)}:(V.gs (some v) E es).ldv=.c (.ex v):=rfl
theorem FD {g:Option Value} {E:Option (TypeId×Nat)} {es:List (List C)}:(V.gs g E es).isMk=false:=rfl
def Bo:=jj @pkA @ptA
def MI:=jj @pkA (jj @ptA @pkT)
set_option maxHeartbeats 8000000 in
theorem Bp (I:List Tm) (hv:∀ t∈I,bY t=true) (dZ:cF I≤100000000):FnB Tryz.prog glT 92 [.c (tsC I)] [] (.mr 0) [mS (wZ I).1]:=by
 have hIl:=jh I
 have Gk:∀ j,wY I (fc (I.take j) ([],[])).1 (fc (I.take j) ([],[])).2:=fun j=>(vL hv (I.take j) [] [] (fun _ h=>cJ h) ⟨ip,by simp,by simp,fun _ _ _ _ h=>by cases h⟩).1
 refine nq (rs:=[.tmp 2]) (k:=0) [2300003,1000020,2300009,1000024,2850013,2870013,1000039,1000042,3000000] mixed Tryz.func92 rfl rfl rfl rfl (by kernel_rfl) (by simp) rfl rfl rfl rfl (ar _) ?_
 simp only[Bo,seval,aeK,ag4,ab8]
 refine ut rfl (.warm 2 0 (show 2<3 by decide) rfl (.done ?_))
 simp only[Bo,seval,Vl.S.cell,tsC]
 refine ck (fun x:Nat×Bool=>hdS [(3,.bp 1 0),(4,.bp 2 0),(5,Is),(12,.c (.sl (I.map tmC))),(13,i64 I.length),(14,i64 x.1)] (cB (fc (I.take x.1) ([],[])).1 x.2 (fc (I.take x.1) ([],[])).2)) (fun x=>I.length - x.1)
  (fun x=>x.1≤I.length∧((fc (I.take x.1) ([],[])).2≠[]→x.2=true)) (0,false) ⟨ar _,fun h=>absurd rfl h⟩ ?_ ?_
 ·refine bT (by simp only[eQ];exact cn.2 ⟨rfl,qi⟩) (ar _) (ae 3) (by simp[FL,au,Is]) ⟨by simp[au,fc],by simp[au],by simp[gsV,fc],trivial⟩
 rintro⟨j,f⟩ ⟨hj,hf⟩ R bS cd cX
 simp only at hj hf bS cd
 have hC:=Gk j
 have cu:=tB (I.take j) [] []
 simp only[aH,ah,a8] at cu
 generalize hS:(fc (I.take j) ([],[])).1=S at *
 generalize hL:(fc (I.take j) ([],[])).2=L at *
 have hSL:fc (I.take j) ([],[])=(S,L):=by rw[← hS,← hL]
 simp only[pkA,seval,Ue]
 refine aL (fun bB=>?_) (fun fA=>?_)
 ·have bB:j<I.length:=by simpa using bB
  have hw:=ei (n:=(j:Int)+1) (k:=j+1) (by omega) (by omega)
  have hm:=fx (aF bB)
  have sf:fc (I.take (j+1)) ([],[])=kg I[j] (S,L):=by
   rw[← hSL];unfold fc;rw[aQ bB,kT];rfl
  simp only[pkA,seval,Is]
  refine df du rfl dl (by decide) (aD j) (c:=tmC I[j]) (by simp[bB]) (bG _) ?_
  simp only[MI,seval,jA (bG _)]
  have P3:=Ug I[j] (hv _ (aF bB)) (by omega) S f L (w9 hv hC) (by omega)
  rw[← sf] at P3
  refine yi rfl P3 (by simp[V.fz]) rfl (KO (Uf (xs:=[]) rfl)) (show 3≤4 by decide) ⟨rfl,rfl,rfl,trivial⟩ (fun _ _=>rfl) (fun bx' xC hB=>?_)
  simp only[pkA,seval]
  exact bS (j+1,flC f L (fc (I.take (j+1)) ([],[])).2) _ ⟨bB,Ui hf⟩ (by simp only;omega) (bT (by simp only[eQ];exact cn.2 ⟨rfl,qi⟩) (ar _) (show 3≤4 by decide) (by simp[FL,au,hw,Is]) ⟨hB.1,hB.2.1,hB.2.2.1,trivial⟩)
 have:j=I.length:=by simp at fA;omega
 subst this
 rw[cw] at hSL
 clear Gk hS hL cu bS cX
 simp only[pkA]
 refine cd _ _ ?_
 have hLI:L.length≤I.length:=by
  have:=tB I [] []
  rw[hSL] at this;simpa using this
 have yE:wZ I=sa (2*cF I+L.length+1) (S,L):=by unfold wZ;rw[hSL]
 refine ck (fun x:Nat×List Tm×List Tm×Bool=>hdS [(3,.bp 1 0),(4,.bp 2 0),(5,Is)] (cB x.2.1 x.2.2.2 x.2.2.1)) (fun x=>x.1)
  (fun x=>wY I x.2.1 x.2.2.1∧x.2.2.1.length≤I.length∧(x.2.2.1≠[]→x.2.2.2=true)∧wZ I=sa x.1 (x.2.1,x.2.2.1)∧2*(cF I - x.2.1.length)+x.2.2.1.length<x.1) (2*cF I+L.length+1,S,L,f) ⟨hC,hLI,hf,yE,by simp only;omega⟩ ?_ ?_
 ·refine bT (by simp only[eQ];exact cn.2 ⟨rfl,qi⟩) (ar _) (ae 3) (by simp[FL,au,Is]) ⟨by simp[bxs],by simp[bxs],by simp[bxs],trivial⟩
 clear hC hf hLI yE hSL fA hj S L f cd
 rintro⟨n,S,L,f⟩ ⟨hC,hLI,hf,yE,hn⟩ R bS cd cX
 simp only at hC hLI hf yE hn bS cd
 obtain⟨n,rfl⟩:∃ m,n=m+1:=⟨n - 1,by omega⟩
 have hS:=w9 hv hC
 simp only[pkA,seval,Ue]
 refine ut rfl (.name 2 0 (E:=if f then some (47,3) else none) (es:=L.map tmC) (show 2<3 by decide) rfl rfl fun v hgv=>.done ?_)
 obtain⟨a,cap,rfl,jW,ha⟩:=ace hgv
 simp only[Bo,seval,Vl.S.cell,Is,FC,FD]
 have h2:=Uj hv hC
 have Y1:=Pv S hS L (fun t ht=>by obtain⟨k,n,a,b,e,h1,h2,h3⟩:=h2 t ht;exact⟨k,n,a,b,e,h1,by omega⟩) (by omega) a (if f then some (47,3) else none) cap ha
 refine kZ rfl Y1 (by simp[V.fz,Uh]) (show 3≤3 by decide) ⟨rfl,rfl,rfl,trivial⟩ (fun _ _=>rfl) ?_
 simp only[pkA,seval]
 have agl:sa (n+1) (S,L)=match L.findIdx? (Pu S) with
  |none=>(S,L)
  |some i=>sa n (kg (MF (L.getD i ma)) (S,L.eraseIdx i)):=rfl
 rw[agl] at yE
 unfold Ck
 cases hfi:L.findIdx? (Pu S) with
 |none=>
  rw[hfi] at yE
  simp only[]
  refine aL (fun _=>?_) (fun h=>?_)
  ·simp only[Bo,seval]
   refine cX _ ?_
   simp only[]
   rw[yE]
   exact dP [(2,.mr 0)] rfl (by simp only[eQ,aN,aX,gC,aC,aH];rfl) (ar _) (show 1≤3 by decide) ⟨by simp[],trivial⟩ ⟨rfl,trivial⟩ (by simp[hdS,frs,gx,up])
  ·exfalso;simp at h
 |some i=>
  rw[hfi] at yE
  simp only at yE
  obtain⟨bB,hb,_⟩:=bW.1 hfi
  obtain⟨k,m,x,y,qn,hvx,hvy,hxy⟩:=h2 L[i] (aF bB)
  have pO:MF (L.getD i ma)=y:=by
   have eg:L.getD i ma=L[i]:=by simp[bB]
   rw[eg,qn];rfl
  rw[pO] at yE
  obtain⟨blk,rfl⟩:=ha (by intro h;subst h;simp at bB)
  have hft:f=true:=hf (by intro h;subst h;simp at bB)
  subst hft
  simp only[↓reduceIte]
  refine aL (fun h=>?_) (fun _=>?_)
  ·exfalso;simp at h;omega
  simp only[Bo,seval,FC,FD]
  refine AS (k:=i) du rfl dl rfl (by decide) rfl bB ?_
  simp only[pkA,seval]
  refine aaS dl rfl (by decide) ?_
  simp only[pkA,seval]
  refine aaZ (b:=2) (k:=0) (q:=i) (r:=2) (x:=tmC L[i]) (c:=.sl ([x,y].map tmC)) (sz:=3) du rfl (show 2<3 by decide) rfl rfl MH (by simp[bB]) (by rw[qn];rfl) (by rw[ah]) ?_
  simp only[pkA,seval]
  refine df du rfl dl (by decide) (by decide) (c:=tmC y) rfl (bG _) ?_
  simp only[MI,seval,jA (bG _)]
  have hw:=ei (n:=(i:Int)+1) (k:=i+1) (by omega) (by omega)
  refine Xr rfl ?_
  refine wO ?_
  simp only[jz,Bo,seval,FC,FD]
  refine wO ?_
  simp only[jz,pkA,seval]
  refine wO ?_
  simp only[jz,pkA,seval]
  refine wO ?_
  simp only[jz,pkA,seval,hw]
  refine wO ?_
  simp only[jz,pkA,seval]
  refine uj [2] rfl (Pw L i bB (by omega) blk cap jW) (by simp[V.fz,V.ren]) rfl (by decide) rfl ⟨⟨show 2<4 by decide,by simp[au,V.ren,rho]⟩,trivial⟩ ?_
  intro bx' xC hat
  have h0:bx' 0=mS S:=by rw[xC 0 (by decide)];simp[au,bxs]
  have h1:bx' 1=[.mr 0]:=by rw[xC 1 (by decide)];simp[au,bxs]
  have h3:bx' 3=(tmC y).map .c:=by rw[xC 3 (by decide)];simp[]
  have h2:bx' 2=[.gs (some (.slice (some ⟨blk,0,none⟩) L.length cap)) (some (47,3)) ((L.eraseIdx i).map tmC++[tmC (.mk 0 0 [])])]:=hat 0 2 _ rfl rfl
  simp only[jz,pkA,TX,OY]
  refine .split 2 0 35 (g:=some (.slice (some ⟨blk,0,none⟩) L.length cap)) (E:=some (47,3)) (es:=(L.eraseIdx i).map tmC++[tmC (.mk 0 0 [])]) (show 2<4 by decide) (by simp only[h2];rfl) (by simp only[h2];rfl) rfl fun u hu _=>.done ?_
  have hu:=hu _ rfl
  subst hu
  simp only[Bo,seval,h2]
  have fy:(L.eraseIdx i).length=L.length - 1:=List.length_eraseIdx_of_lt bB
  have Qa:((L.eraseIdx i).map tmC++[tmC (.mk 0 0 [])]).take (L.length - 1)=(L.eraseIdx i).map tmC:=gq (by rw[am];exact fy)
  rw[SQ]
  refine .joinT 2 0 35 blk L.length (L.length - 1) cap (e:=47) (sz:=3) (es:=(L.eraseIdx i).map tmC++[tmC (.mk 0 0 [])]) (show 2<4 by decide) ?_ ?_ ?_ (by rw[ax,am,fy];omega) ?_
  ·simp[];rfl
  ·simp[]
  ·simp[]
  rw[Qa]
  refine .unname 2 0 (g:=some (.slice (some ⟨blk,0,none⟩) (L.length - 1) cap)) (E:=some (47,3)) (es:=(L.eraseIdx i).map tmC) (show 2<4 by decide) ?_ (.done ?_)
  ·simp[]
  simp only[MI,seval,Vl.S.cell,h3]
  obtain⟨k2,hk2⟩:∃ k2,kg y (S,L.eraseIdx i)=k2:=⟨_,rfl⟩
  have jS:=aF bB
  have hL2:∀ z∈L.eraseIdx i,z∈L:=fun z hz=>List.mem_of_mem_eraseIdx hz
  have hSL:=hC.sub _ (hC.inl _ jS).1
  have VB:k=3∨k=4:=by have:=(hC.inl _ jS).2;rw[qn] at this;exact this
  have hKu:Kn I false (.mk k m [x,y]):=by rw[← qn];exact hSL
  have n0:dD (inP S) x=true:=by
   have:Pu S L[i]=dD (inP S) x:=by rw[qn];rfl
   rw[← this];exact hb
  obtain⟨q1,_,_,q4⟩:=FA (I:=I) y S (L.eraseIdx i) hvy hC.nd hC.sub (fun z hz=>hC.inl z (hL2 z hz)) (fun k' n' a' b' g1 g2=>by
   rcases hC.opn k' n' a' b' g1 g2 with h | h
   ·exact .inl h
   ·obtain⟨j,hj,e⟩:=gi h
    by_cases pd:j=i
    ·subst pd
     rw[qn] at e
     injection e with _ _ e
     injection e with _ e
     injection e with e _
     exact .inr (.inr e.symm)
    ·refine .inr (.inl ?_)
     rw[List.mem_eraseIdx_iff_getElem]
     exact⟨j,hj,pd,e⟩) (.opn hKu VB (nW hC.sub x n0))
  have m9:=tA q1
  have ai2:=tA hC
  have P3:=Ug y hvy (by omega) S true (L.eraseIdx i) hS (by omega)
  refine yi rfl P3 (by simp[V.fz]) rfl (KO (Uf (xs:=[]) rfl)) (show 3≤4 by decide) ⟨by simp[au,h0],by simp[au,h1],by simp[gsV],trivial⟩ (fun _ _=>rfl) (fun bx' xC hB=>?_)
  simp only[pkA]
  refine bS (n,(kg y (S,L.eraseIdx i)).1,(kg y (S,L.eraseIdx i)).2,flC true (L.eraseIdx i) (kg y (S,L.eraseIdx i)).2) _ ⟨q1,?_,Ui (L:=L.eraseIdx i) (fun _=>rfl),yE,?_⟩ (by simp only;omega) (bT (by simp only[eQ];exact cn.2 ⟨rfl,qi⟩) (ar _) (show 3≤4 by decide) (by simp[FL,au,Is]) ⟨hB.1,hB.2.1,hB.2.2.1,trivial⟩)
  ·have:=Ir y S (L.eraseIdx i)
   simp only;omega
  ·simp only
   rcases q4 with h | ⟨g1,g2⟩
   ·rw[h];simp only;omega
   ·omega
theorem Uk {I S L:List Tm} (h:wY I S L) (hs:cF I≤100000000):S.length≤1000000000∧∀ t∈S,bq t≤1000000000:=by
 have h1:=tA h
 exact⟨by omega,fun t ht=>by have:=Dq h t ht;omega⟩
set_option maxHeartbeats 8000000 in
theorem Ul (I:List Tm) (hv:∀ t∈I,bY t=true) (dZ:cF I≤100000000):FnOK Tryz.prog glT 47 [.c (tsC I)] (.c (tsC (en I))):=by
 obtain⟨hC,hso⟩:=Ip hv
 obtain⟨h1,h2⟩:=Uk hC dZ
 have aao:=Yj (G:=glT) (wZ I).1 h1 h2 hC.nd
 rw[hso] at aao
 refine bE (rs:=[.tmp 2]) false [1000004,1000005] mixed Tryz.func47 rfl rfl rfl rfl (by kernel_rfl) (by simp) rfl rfl ?_
 simp only[pkA,seval]
 refine Bl rfl (Bp I hv dZ) rfl (fun _=>yv) ?_
 simp only[pkA,seval]
 refine uj [0] rfl aao (by simp[V.fz,V.ren,rho]) rfl (by decide) rfl ⟨⟨show 0<1 by decide,by simp only[yv];rfl⟩,trivial⟩ ?_
 intro bx2 agm ai4
 simp only[pkA,seval,TX]
set_option maxHeartbeats 8000000 in
theorem Um (I:List Tm) (t:Tm) (hv:∀ t∈I,bY t=true) (dZ:cF I≤100000000) (ht:bY t=true) (hst:bq t≤1000000000):FnOK Tryz.prog glT 49 [.c (tsC I),.agg (tmC t)] (bo (dD (inP (en I)) t)):=by
 obtain⟨hC,hso⟩:=Ip hv
 have hb:=wX (wZ I).1 (w9 hv hC) t ht hst
 rw[← Im,hso] at hb
 refine bE (rs:=[.tmp 4]) false [2850001,2860001,1000006,1000008] mixed Tryz.func49 rfl rfl rfl rfl (by kernel_rfl) (by simp) rfl rfl ?_
 simp only[pkA,seval]
 refine Mn rfl rfl ?_
 repeat' first
  |(simp only[jz,MI,seval,TX])
  |(refine k6 (by decide +kernel) (by decide +kernel) ?_;simp only[k7,mR,ah,Nat.reduceAdd];(repeat' (first | exact trivial | apply And.intro));(all_goals (first | exact Or.inl (by decide +kernel) | refine Or.inr ?_)))
  |(refine Bl rfl (Bp I hv dZ) rfl (fun _=>yv) ?_)
  |(refine C0 (by decide +kernel) ?_)
  |(refine uj [1] rfl hb (by simp[V.fz,V.ren,rho]) rfl (by decide) rfl ⟨⟨show 1<2 by decide,by simp only[yv];rfl⟩,trivial⟩ ?_;intro bx2 agm ai4)
