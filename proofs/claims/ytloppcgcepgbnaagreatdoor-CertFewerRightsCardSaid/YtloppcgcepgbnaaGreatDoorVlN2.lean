/- Layer 19: callers with one outcome; a call of all. -/
import Derived.Test.YtloppcgcepgbnaaGreatDoorVlI2
import Derived.Test.YtloppcgcepgbnaaGreatDoorVlX5
import Derived.Test.YtloppcgcepgbnaaGreatDoorVlR2
import Derived.Test.YtloppcgcepgbnaaGreatDoorVlX4
set_option maxHeartbeats 4000000
set_option linter.all false
namespace Go.Proofs.YtloppcgcepgbnaaGreatDoor
open Go Go.Vl
variable {G:Gl}
set_option maxRecDepth 4000
theorem aeo {P:Program} {f:FuncId} {xs:List V} {b0 b1:List (List V)} {R:V→List (List V)→Prop} {r:V} (h:FnE P G f xs b0 R) (hR:∀ r' b',R r' b'→r'=r∧b'=b1) (ke:b0.length≤b1.length):FnB P G f xs b0 r b1:=
 ⟨h.1,⟨h.2.1.1,h.2.1.2.1,ke⟩,fun I M w vs β ob q1 q2 q3 q4 q5=>(h.2.2 I M w vs β ob q1 q2 q3 q4 q5).mono fun _ _ q=>by
  obtain⟨r',b',hr,q⟩:=q
  obtain⟨rfl,rfl⟩:=hR _ _ hr
  exact q⟩
theorem KG {P:Program} {fr:Nat→V} {bx:Nat→List V} {nb:Nat} {d e:V} {p q:Tmp} {T U:TypeId} (h1:cK P T ⟨fr,bx,nb⟩ (fr p) fun v=>imm ⟨fr,bx,nb⟩ v=some d) (h2:cK P U ⟨fr,bx,nb⟩ (fr q) fun v=>imm ⟨fr,bx,nb⟩ v=some e):rl P true ⟨fr,bx,nb⟩ (.tup [d,e]) [.cell p T,.cell q U]:=by
 refine⟨_,rfl,rfl,fun i R x hR hx=>?_⟩
 match i with
 |0=>simp only[bJ,ai] at hR hx;subst hR;subst hx;simpa[QT,Ez] using h1
 |1=>simp only[ct,bJ,ai] at hR hx;subst hR;subst hx;simpa[QT,Ez] using h2
 |n+2=>simp at hR
theorem KH {S fs:List Fa} {a b nb:Nat} {fr:Nat→V} {bx:Nat→List V} {K:Vl.S→V→Prop} (hm:fs.length≤1000000000) (ha:a<nb) (hb:b<nb) (A5:a≠b) (h0:bx a=k9 faC S) (h1:bx b=[.mr a])
 (hK:∀ bx':Nat→List V,(∀ j,j≠a→j≠b→bx' j=bx j)→bx' a=k9 faC S→bx' b=[.mr a]→K ⟨fr,bx',nb⟩ (bo (fs.all fun f=>decide (f∈S)))):vcallB Tryz.prog G ⟨fr,bx,nb⟩ (.c (.fn (.func 52) [] [])) [.bp b 0,.c (fsC fs)] K:=by
 have setren:∀ (ρ:Nat→Nat) (m:List Fa),(k9 faC m).map (V.ren ρ)=k9 faC m:=fun ρ m=>tX
 refine ko [a,b] rfl (Tv S fs hm) (by simp[V.fz,V.ren,rho]) rfl (by simp[A5]) rfl ⟨⟨by simp[rho,ha],by simp[h0,setren,rho]⟩,⟨by simp[rho,hb],by simp[h1,rho,V.ren]⟩,trivial⟩ ?_
 intro bx' iH qc
 refine hK bx' (fun j hj0 hj1=>iH j (by simp[hj0,hj1])) ?_ ?_
 ·rw[← setren];exact qc 0 a _ rfl rfl
 ·have:=qc 1 b _ rfl rfl
  simpa[rho,V.ren] using this
def flC:List (Nat×V):=[(4,.bp 1 0),(5,.bp 2 0),(6,.bp 3 0)]
def Hv:List (Nat×V):=[(4,.bp 1 0),(5,.bp 2 0),(6,.bp 5 0)]
def Oh (n:Nat) (ps:Array Tmp) (ca cb:Code) (st:Bool):Loop:=if st=true then { lp0 n ps ca cb with state:=.done,pending:=some .ret } else lp0 n ps ca cb
def qU (s:Option In):List V:=match s with
 |none=>[i64 0,.ow none [],.ow none []]
 |some x=>(inC x).map .c
def ybC (n:Nat) (ps:Array Tmp) (ca cb:Code) (S:List Fa) (s:Option In):List (List V):=[[.lp (Oh n ps ca cb s.isSome) flC],qU s,[bo false],[.bp 5 0],k9 faC S,[.mr 4]]
def sY (S:List Fa) (x:In):Bool:=(x.pre.all fun f=>decide (f∈S))&&!(x.con.all fun f=>decide (f∈S))
def lY (S:List Fa) (s:Option In) (x:In):Option In×Bool:=if sY S x=true then(some x,false) else(s,true)
def Yc (n:Nat) (ps:Array Tmp) (ca cb:Code) (S:List Fa):Ys (Option In) where
 yb:=ybC n ps ca cb S
 k:=6
 pos:=by decide
 len:=fun _=>rfl
 lt:=fun s b hb x hx=>by
  simp only[ybC,aQ,aY,cN] at hb
  rcases hb with rfl | rfl | rfl | rfl | rfl | rfl
  ·simp only[aW] at hx;subst hx
   intro p hp
   simp only[flC,aQ,aY,cN] at hp
   rcases hp with rfl | rfl | rfl<;>simp[V.ltP]
  ·cases s with
   |none=>simp only[qU,aQ,aY,cN] at hx;rcases hx with rfl | rfl | rfl<;>trivial
   |some y=>obtain⟨z,_,rfl⟩:=bA.1 hx;trivial
  ·simp only[aW] at hx;subst hx;trivial
  ·simp only[aW] at hx;subst hx;simp[V.lt]
  ·have h:=aV.1 (ja (c:=faC) (m:=6) (l:=S)) x hx
   exact V.ltB_ok h
  ·simp only[aW] at hx;subst hx;simp[V.lt]
 step:=fun s x t b=>lY S s x=(t,b)
theorem amv {n:Nat} {ps:Array Tmp} {ca cb:Code} {S:List Fa} (h:∀ x,x.pre.length≤2→x.con.length≤2→(Yc n ps ca cb S).ok G none x):∀ (m:List In),lE m→Fut G (Yc n ps ca cb S) none m
 |[],_=>trivial
 |x::m,h2=>by
  obtain⟨D8,Ud⟩:=h2 x (bB ..)
  refine⟨h x D8 Ud,fun t hs=>?_⟩
  change lY S none x=(t,true) at hs
  unfold lY at hs
  split at hs
  ·cases hs
  ·cases hs
   exact amv h m fun y hy=>h2 y (aR _ hy)
def pR (S:List Fa) (m:List In):Option In:=m.find? (sY S)
theorem amw {n:Nat} {ps:Array Tmp} {ca cb:Code} {S:List Fa}:∀ {m:List In} {s t:Option In} {b:Bool},(Yc n ps ca cb S).run s m t b→s=none→t=pR S m
 |_,_,_,_,.nil s,h=>h
 |_,_,_,_,.stop (x:=x) l h1,h=>by
  subst h
  change lY S none x=(_,false) at h1
  unfold lY at h1
  split at h1
  ·rename_i hg;cases h1;simp[pR,hg]
  ·cases h1
 |_,_,_,_,.go (x:=x) h1 h2,h=>by
  subst h
  change lY S none x=(_,true) at h1
  unfold lY at h1
  split at h1
  ·cases h1
  ·rename_i hg
   cases h1
   have:=amw h2 rfl
   rw[this]
   simp[pR,hg]
theorem amx {p:Pol} {S:List Fa} (hp:p.types.length≤9223372036854775806) (hr:p.rules.length≤9223372036854775806) (h2:lE (iS p none)) {n:Nat} {ps:Array Tmp} {ca cb:Code} (eK:∀ x,x.pre.length≤2→x.con.length≤2→(Yc n ps ca cb S).ok G none x) :
 FnB Tryz.prog G 70 [.yl 0,.c (.rp (poC p) 0)] (ybC n ps ca cb S none) (.tup []) (ybC n ps ca cb S (pR S (iS p none))):=by
 refine aeo (PG (G:=G) (Yc n ps ca cb S) p hp hr none (amv eK _ h2)) (fun r' b' h=>?_) (ar _)
 obtain⟨t,b,bH,rfl,rfl⟩:=h
 rw[amw bH rfl]
 exact⟨rfl,rfl⟩
theorem aoP {p:Pol} {S:List Fa} (hp:p.types.length≤9223372036854775806) (hr:p.rules.length≤9223372036854775806) (D9:lE (iS p none)) {tr:List Nat} {n t:Nat} {ps:Array Tmp} {ca cb:Code} {Q:VE→Vl.S→Prop} {fr:Nat→V} {bx:Nat→List V}
 (Qm:FP tr=true) (h1f:tr.contains 1200001=false) (hn:rgN tr=n) (hf:fr t=Yv p) (h4:fr 4=.bp 1 0) (h5:fr 5=.bp 2 0) (h6:fr 6=.bp 5 0) (b1:bx 1=qU none) (b2:bx 2=[bo false]) (b3:bx 3=k9 faC S) (b4:bx 4=[.mr 3]) (b5:bx 5=[.bp 4 0])
 (eK:∀ x,x.pre.length≤2→x.con.length≤2→(Yc n ps ca cb S).ok G none x)
 (hQ:∀ bx':Nat→List V,bx' 1=qU (pR S (iS p none))→bx' 2=[bo false]→Q (match pR S (iS p none) with | none=>.normal | some _=>.ret) ⟨fr,bx',7⟩):vrg Tryz.prog G tr (.tmp t) ps ca cb Q ⟨fr,bx,6⟩:=by
 subst hn
 have hI:=amx (G:=G) (S:=S) hp hr D9 eK
 have setren:∀ (ρ:Nat→Nat) (m:List Fa),(k9 faC m).map (V.ren ρ)=k9 faC m:=fun ρ m=>tX
 have resren:∀ (ρ:Nat→Nat) (s:Option In),(qU s).map (V.ren ρ)=qU s:=fun ρ s=>by
  cases s with
  |none=>rfl
  |some x=>exact Vl.cells_ren
 generalize pR S (iS p none)=L at hI hQ
 refine⟨Qm,Hv,fun q hq=>?_,⟨_,_,by simp only[ev,hf];rfl⟩,?_⟩
 ·simp only[Hv,aQ,aY,cN] at hq
  rcases hq with rfl | rfl | rfl<;>simp[h4,h5,h6,V.fz,V.isKR]
 ·rw[if_neg (by rw[h1f];decide)]
  unfold vcallB kD
  simp only[ev,hf]
  refine⟨[6,1,2,5,3,4],_,_,_,_,hI,rfl,⟨rfl,by decide⟩,?_,?_⟩
  ·refine⟨⟨by decide,?_⟩,⟨by decide,?_⟩,⟨by decide,?_⟩,⟨by decide,?_⟩,⟨by decide,?_⟩,⟨by decide,?_⟩,trivial⟩
   ·simp[rho,up,Oh,flC,Hv,V.ren,V.renP]
   ·simp[rho,up,b1,resren]
   ·simp[rho,up,b2,V.ren]
   ·simp[rho,up,b5,V.ren]
   ·simp[rho,up,b3,setren]
   ·simp[rho,up,b4,V.ren]
  ·have e6:fM (rho [6,1,2,5,3,4] 7) 0 (ybC (rgN tr) ps ca cb S L) (up bx 6 [.lp (lp0 (rgN tr) ps ca cb) Hv]) 6=[.lp (Oh (rgN tr) ps ca cb L.isSome) Hv]:=by
    simp[ybC,fM,rho,up,flC,Hv,V.ren,V.renP]
   show Ia Q 6 ⟨fr,fM (rho [6,1,2,5,3,4] 7) 0 (ybC (rgN tr) ps ca cb S L) (up bx 6 [.lp (lp0 (rgN tr) ps ca cb) Hv]),7⟩
   unfold Ia
   simp only[e6]
   have g1:fM (rho [6,1,2,5,3,4] 7) 0 (ybC (rgN tr) ps ca cb S L) (up bx 6 [.lp (lp0 (rgN tr) ps ca cb) Hv]) 1=qU L:=by
    simp[ybC,fM,rho,up,resren]
   have g2:fM (rho [6,1,2,5,3,4] 7) 0 (ybC (rgN tr) ps ca cb S L) (up bx 6 [.lp (lp0 (rgN tr) ps ca cb) Hv]) 2=[bo false]:=by
    simp[ybC,fM,rho,up,V.ren]
   cases L with
   |none=>
    refine⟨by simp[Oh,lp0],by decide,?_⟩
    show Q .normal ⟨fr,up _ 6 _,7⟩
    exact hQ _ ((cF _ _ (by decide)).trans g1) ((cF _ _ (by decide)).trans g2)
   |some x=>
    refine⟨by simp[Oh,lp0],by decide,?_⟩
    show Q .ret ⟨fr,up _ 6 _,7⟩
    exact hQ _ ((cF _ _ (by decide)).trans g1) ((cF _ _ (by decide)).trans g2)
def in0:In:=⟨0,[],[]⟩
def gW (p:Pol) (l:List Fa):In×Bool:=match pR (mZ l) (iS p none) with
 |none=>(in0,true)
 |some x=>(x,false)
theorem amy {n:Nat} {ps:Array Tmp} {ca cb:Code} {S:List Fa} {s:Option In} {x:In} (h:YB Tryz.prog G [.agg (inC x)] (ybC n ps ca cb S s) (bo (lY S s x).2) (ybC n ps ca cb S (lY S s x).1)):(Yc n ps ca cb S).ok G s x:=by
 have e:(fun(r:V) (b1:List (List V))=>∃ t b,lY S s x=(t,b)∧r=bo b∧b1=ybC n ps ca cb S t)=fun r' b'=>r'=bo (lY S s x).2∧b'=ybC n ps ca cb S (lY S s x).1:=by
  funext r b1
  apply propext
  constructor
  ·rintro⟨t,b,h1,h2,h3⟩;rw[h1];exact⟨h2,h3⟩
  ·rintro⟨h2,h3⟩;exact⟨_,_,rfl,h2,h3⟩
 show YE Tryz.prog G [.agg (inC x)] (ybC n ps ca cb S s) (fun r b1=>∃ t b,lY S s x=(t,b)∧r=bo b∧b1=ybC n ps ca cb S t)
 rw[e]
 exact h.toE
theorem ltC {n:Nat} {ps:Array Tmp} {ca cb:Code} {S:List Fa} {s:Option In}:ltL 6 (ybC n ps ca cb S s):=(Yc n ps ca cb S).lt s
theorem af0 {ca cb:Code} {S:List Fa} {x:In} {bx:Nat→List V} {fr:Nat→V} (k0:bx 0=[.lp { lp0 26 #[12] ca cb with state:=.busy } flC]) (k1:bx 1=qU none) (k2:bx 2=[bo false]) (k3:bx 3=[.bp 5 0]) (k4:bx 4=k9 faC S) (k5:bx 5=[.mr 4]) (hg:sY S x=false) :
 WN 6 (bo (lY S none x).2) (ybC 26 #[12] ca cb S (lY S none x).1) .normal ⟨fr,bx,7⟩:=by
 have hs:lY S none x=(none,true):=by simp[lY,hg]
 rw[hs]
 refine⟨rfl,_,_,_,⟨k0,show 0<7 by decide⟩,[],?_⟩
 refine G3 (fun _ h=>by cases h) ltC (ar _) (show 6≤7 by decide) trivial ?_
 intro i hi
 match i,hi with
 |0,_=>simp[ybC,up,bxs,BR,lp0,flC,Oh]
 |1,_=>simp[ybC,up,bxs,k1]
 |2,_=>simp[ybC,up,bxs,k2]
 |3,_=>simp[ybC,up,bxs,k3]
 |4,_=>simp[ybC,up,bxs,k4]
 |5,_=>simp[ybC,up,bxs,k5]
theorem amz {ca cb:Code} {S:List Fa} {x:In} {bx:Nat→List V} {fr:Nat→V} (k0:bx 0=[.lp { lp0 26 #[12] ca cb with state:=.busy } flC]) (k1:bx 1=qU (some x)) (k2:bx 2=[bo false]) (k3:bx 3=[.bp 5 0]) (k4:bx 4=k9 faC S) (k5:bx 5=[.mr 4]) (hg:sY S x=true) :
 WN 6 (bo (lY S none x).2) (ybC 26 #[12] ca cb S (lY S none x).1) .ret ⟨fr,bx,7⟩:=by
 have hs:lY S none x=(some x,false):=by simp[lY,hg]
 rw[hs]
 refine⟨rfl,_,_,_,⟨k0,show 0<7 by decide⟩,[],?_⟩
 refine G3 (fun _ h=>by cases h) ltC (ar _) (show 6≤7 by decide) trivial ?_
 intro i hi
 match i,hi with
 |0,_=>simp[ybC,up,bxs,BR,lp0,flC,Oh]
 |1,_=>simp[ybC,up,bxs,k1]
 |2,_=>simp[ybC,up,bxs,k2]
 |3,_=>simp[ybC,up,bxs,k3]
 |4,_=>simp[ybC,up,bxs,k4]
 |5,_=>simp[ybC,up,bxs,k5]
def KI:=jj @pkA @ptA
def Y4:=jj @pkA (jj @ptA @amk)
theorem E4 (p:Pol) (l:List Fa) (hp:p.types.length≤9223372036854775806) (hr:p.rules.length≤9223372036854775806) (D9:lE (iS p none)) (hll:l.length≤1000000) :
 FnOK Tryz.prog G 34 [.agg (poC p),.c (fsC l)] (.tup [.agg (inC (gW p l).1),bo (gW p l).2]):=by
 refine bR (rs:=[.cell 4 35,.cell 5 4]) true [1200000,1300026,1000009] mixed Tryz.func34 rfl rfl rfl rfl (by kernel_rfl) (by simp) rfl rfl ?_
 have setren:∀ (ρ:Nat→Nat) (m:List Fa),(k9 faC m).map (V.ren ρ)=k9 faC m:=fun ρ m=>tX
 simp only[KI,seval]
 refine uU rfl (ad5 l (by omega)) rfl ?_
 simp only[Y4,seval,V.ren,ye,fM,setren]
 refine aN rfl (yd p) (fun h=>by cases h) ?_
 simp only[pkA,E3]
 refine aoP (n:=26) (S:=mZ l) hp hr D9 rfl rfl rfl rfl rfl rfl rfl (by simp[ao,qU]) (by simp[ao]) (by simp[ao]) (by simp[ao]) (by simp[]) ?_ ?_
 ·intro x D8 Ud
  refine amy ?_
  refine alp (L:=lp0 26 #[12] _ _) (fl:=flC) (bs:=[qU none,[bo false],[.bp 5 0],k9 faC (mZ l),[.mr 4]]) [1000016,1000021] mixed rfl rfl ?_ ?_ ?_ ?_ ?_
  ·intro q hq;simp[lp0] at hq;subst hq;decide
  ·kernel_rfl
  ·kernel_rfl
  ·refine⟨fun y hy=>?_,ltC (s:=none),ar _⟩
   simp only[aW] at hy;subst hy;trivial
  ·simp only[Y4,seval,frY,flC,lp0,List.zip_cons_cons,List.zip_nil_right,dH,List.foldl_nil]
   have hx0:∀ a b c:V,eS [a,b,c] 0 ((inC x).map .c)=(inC x).map .c:=fun _ _ _=>rfl
   have g1:∀ nb q (K:V→Prop),ldB nb q ((inC x).map .c) 1 K=(q<nb∧K (.c (fsC x.pre))):=fun _ _ _=>rfl
   have g2:∀ nb q (K:V→Prop),ldB nb q ((inC x).map .c) 2 K=(q<nb∧K (.c (fsC x.con))):=fun _ _ _=>rfl
   have gm:bY ((inC x).map V.c)=false:=rfl
   simp only[pkA,seval,hx0,g1,gm]
   refine KH (S:=mZ l) (a:=4) (b:=5) (by omega) (show 4<7 by decide) (show 5<7 by decide) (by decide) (by simp[ao,bxs]) (by simp[ao,bxs]) (fun bx1 iH h4 h5=>?_)
   have h1:bx1 1=qU none:=by rw[iH 1 (by decide) (by decide)];simp[ao,bxs]
   have h2:bx1 2=[bo false]:=by rw[iH 2 (by decide) (by decide)];simp[ao,bxs]
   have h3:bx1 3=[.bp 5 0]:=by rw[iH 3 (by decide) (by decide)];simp[ao,bxs]
   have h6:bx1 6=(inC x).map .c:=by rw[iH 6 (by decide) (by decide)];simp[ao]
   have h0:=iH 0 (by decide) (by decide)
   simp only[bT,cF _ _ (show(0:Nat)≠6 by decide)] at h0
   simp only[pkA,seval]
   have gox:sY (mZ l) x=((x.pre.all fun f=>decide (f∈mZ l))&&!(x.con.all fun f=>decide (f∈mZ l))):=rfl
   refine fA (fun hy=>?_) (fun hn=>?_)
   ·simp only[KI,seval,h3,h6,g2,gm]
    refine KH (S:=mZ l) (a:=4) (b:=5) (by omega) (show 4<7 by decide) (show 5<7 by decide) (by decide) h4 h5 (fun bx2 LM k4 k5=>?_)
    have k0:=LM 0 (by decide) (by decide)
    have k1:bx2 1=qU none:=by rw[LM 1 (by decide) (by decide),h1]
    have k2:bx2 2=[bo false]:=by rw[LM 2 (by decide) (by decide),h2]
    have k3:bx2 3=[.bp 5 0]:=by rw[LM 3 (by decide) (by decide),h3]
    have k6:bx2 6=(inC x).map .c:=by rw[LM 6 (by decide) (by decide),h6]
    rw[hy,j5] at gox
    simp only[pkA,seval]
    refine aS (fun hz=>?_) (fun hz=>?_)
    ·have hg:sY (mZ l) x=true:=by rw[gox];exact hz
     have gl:∀ nb q (K:V→Prop),ldA nb q ((inC x).map .c) 0 3 K=(q<nb∧K (.agg (inC x))):=fun nb q K=>by
      unfold ldA
      exact propext ⟨fun h=>⟨h.1,h.2.2⟩,fun h=>⟨h.1,⟨rfl,rfl⟩,h.2⟩⟩
     have m1:bY (qU none)=false:=rfl
     have l1:(qU none).length=3:=rfl
     have m2:bY [bo false]=false:=rfl
     have s1:eS (qU none) 0 ((inC x).map .c)=(inC x).map .c:=rfl
     simp only[Y4,seval,k1,k2,k6,gm,gl,m1,l1,m2,s1]
     refine amz ((cF _ _ (show(0:Nat)≠2 by decide)).trans ((cF _ _ (show(0:Nat)≠1 by decide)).trans (k0.trans h0))) ?_ ?_ ?_ ?_ ?_ hg<;>simp[ao,k3,k4,k5,qU]
    ·have hg:sY (mZ l) x=false:=by rw[gox];exact hz
     simp only[pkA]
     exact af0 (k0.trans h0) k1 k2 k3 k4 k5 hg
   ·have hg:sY (mZ l) x=false:=by rw[gox,hn];rfl
    simp only[pkA,seval]
    exact af0 h0 h1 h2 h3 h4 h5 hg
 ·intro bx' e1 e2
  unfold gW
  cases hL:pR (mZ l) (iS p none) with
  |none=>
   rw[hL] at e1
   have m1:bY (qU none)=false:=rfl
   have l1:(qU none).length=3:=rfl
   have m2:bY [bo false]=false:=rfl
   simp only[KI,seval,e1,e2,m1,l1,m2]
   have gl:∀ nb q (K:V→Prop),ldA nb q ((inC in0).map .c) 0 3 K=(q<nb∧K (.agg (inC in0))):=fun nb q K=>by
    unfold ldA
    exact propext ⟨fun h=>⟨h.1,h.2.2⟩,fun h=>⟨h.1,⟨rfl,rfl⟩,h.2⟩⟩
   have s1:eS (qU none) 0 [i64 0,.c (.sl []),.c (.sl [])]=(inC in0).map .c:=rfl
   have gm:bY ((inC in0).map V.c)=false:=rfl
   rw[s1]
   refine KG ?_ ?_<;>simp only[KI,seval,gl,gm]<;>rfl
  |some x=>
   rw[hL] at e1
   simp only[pkA]
   have gl:∀ nb q (K:V→Prop),ldA nb q ((inC x).map .c) 0 3 K=(q<nb∧K (.agg (inC x))):=fun nb q K=>by
    unfold ldA
    exact propext ⟨fun h=>⟨h.1,h.2.2⟩,fun h=>⟨h.1,⟨rfl,rfl⟩,h.2⟩⟩
   have gm:bY ((inC x).map V.c)=false:=rfl
   have er:qU (some x)=(inC x).map .c:=rfl
   rw[er] at e1
   refine KG ?_ ?_<;>simp only[KI,seval,e1,e2,gl,gm]<;>rfl
theorem yp {α:Type} {f:α→List In} {b:Nat}:∀ (l:List α),(∀ x∈l,(f x).length≤b)→(l.flatMap f).length≤l.length*b
 |[],_=>by simp
 |x::l,h=>by
  rw[iL,aj,aA,eC]
  have h1:=h x (bB ..)
  have h2:=yp l fun y hy=>h y (aR _ hy)
  omega
theorem mh {o:Option Fa} {x:In}:(emL o x).length≤1:=by
 unfold emL;split<;>simp
theorem Y5 {p:Pol} {o:Option Fa} {flag:Int} {D:Nat→List In} {b:Nat} (h:∀ t,(D t).length≤b):(kp p o flag D 0).length≤p.types.length*b:=by
 unfold kp
 have:=yp (f:=rE p o flag D) (b:=b) (List.range' 0 (p.types.length - 0)) fun t _=>by
  unfold rE;split
  ·exact h t
  ·simp
 simpa using this
theorem y7 {n:Nat} {D:Nat→List In} {v b:Nat} (h:∀ t,(D t).length≤b):(gr n D v).length≤(n+1)*b:=by
 unfold gr
 have:=yp (f:=D) (b:=b) (List.range' v (n+1 - v)) fun t _=>h t
 rw[List.length_range'] at this
 exact df this (aL _ (by omega))
theorem Y6 {n first:Nat} {D:Nat→Nat→List In} {b:Nat} (h:∀ v w,(D v w).length≤b):(ui n first D).length≤(n+1)*((n+1)*b):=y7 fun v=>y7 fun w=>h v w
theorem Y7 {p:Pol} {o:Option Fa} {kind:Int} {D:Nat→Nat→List In} {b:Nat} (h:∀ x y,(D x y).length≤b):(ka p o kind D 0).length≤p.rules.length*b:=by
 unfold ka
 have:=yp (f:=rF p o kind D) (b:=b) (p.rules.drop 0) fun t _=>by
  unfold rF;split
  ·exact h _ _
  ·simp
 simpa using this
theorem aep {o:Option Fa} {a b v w:Nat}:(r10 o a b v w).length≤1:=by
 unfold r10;split
 ·simp
 ·exact mh
theorem Y8 {p:Pol} {o:Option Fa} (hn:p.types.length≤7) (hr:p.rules.length≤15):(iS p o).length≤20000:=by
 have h8:p.types.length+1≤8:=by omega
 have h64:(p.types.length+1)*((p.types.length+1)*1)≤8*(8*1):=Nat.mul_le_mul h8 (Nat.mul_le_mul h8 (ar 1))
 have h81:(p.types.length+1)*1≤8*1:=Nat.mul_le_mul h8 (ar 1)
 have c1:∀ D:Nat→List In,(∀ t,(D t).length≤1)→∀ v,(gr p.types.length D v).length≤8:=fun D h v=>by
  have:=y7 (n:=p.types.length) (D:=D) (v:=v) (b:=1) h
  omega
 have c2:∀ D:Nat→Nat→List In,(∀ v w,(D v w).length≤1)→∀ v,(ui p.types.length v D).length≤64:=fun D h v=>df (Y6 (n:=p.types.length) (first:=v) (D:=D) (b:=1) h) h64
 have f1:∀ (D:Nat→List In) (b:Nat),(∀ t,(D t).length≤b)→∀ flag,(kp p o flag D 0).length≤7*b:=fun D b h flag=>df (Y5 h) (aL _ hn)
 have r1:∀ (D:Nat→Nat→List In) (b:Nat),(∀ x y,(D x y).length≤b)→∀ kind,(ka p o kind D 0).length≤15*b:=fun D b h kind=>df (Y7 h) (aL _ hr)
 have l1:(t1 p o).length≤7:=f1 _ 1 (fun _=>mh) _
 have l2:(t2 p o).length≤7:=f1 _ 1 (fun _=>mh) _
 have l3:(t3 p o).length≤120:=r1 _ 8 (fun _ _=>c1 _ (fun _=>mh) _) _
 have l4:(t4 p o).length≤15:=r1 _ 1 (fun _ _=>mh) _
 have l5:(t5 p o).length≤120:=r1 _ 8 (fun _ _=>c1 _ (fun _=>mh) _) _
 have l6:(t6 p o).length≤56:=f1 _ 8 (fun _=>c1 _ (fun _=>mh) _) _
 have l7:(t7 p o).length≤56:=f1 _ 8 (fun _=>c1 _ (fun _=>mh) _) _
 have l8:(t8 p o).length≤960:=r1 _ 64 (fun _ _=>c2 _ (fun _ _=>mh) _) _
 have l9:(t9 p o).length≤448:=f1 _ 64 (fun _=>c2 _ (fun _ _=>mh) _) _
 have l10:(t10 p o).length≤960:=r1 _ 64 (fun _ _=>c2 _ (fun _ _=>aep) _) _
 have l11:(t11 p o).length≤15:=r1 _ 1 (fun _ _=>mh) _
 have l12:(t12 p o).length≤120:=r1 _ 8 (fun _ _=>c1 _ (fun _=>mh) _) _
 have l13:(t13 p o).length≤56:=f1 _ 8 (fun _=>c1 _ (fun _=>mh) _) _
 have l14:(t14 o).length≤1:=mh
 have l15:(t15 p o).length≤8:=c1 _ (fun _=>mh) _
 have e:(iS p o).length=(t1 p o).length+((t2 p o).length+((t3 p o).length+((t4 p o).length+((t5 p o).length+((t6 p o).length+((t7 p o).length+((t8 p o).length+((t9 p o).length+((t10 p o).length+((t11 p o).length+((t12 p o).length+((t13 p o).length+((t14 o).length+(t15 p o).length))))))))))))):=by
  unfold iS Tq
  simp only[cu,List.flatten_nil,aj,aB,eI]
 rw[e]
 omega
theorem mi {o:Option Fa} {x y:In}:x∈emL o y↔vR o y=true∧x=y:=by
 unfold emL;split
 ·rename_i h;simp[h]
 ·rename_i h;simp[h]
theorem hJ {p:Pol} {o:Option Fa} {flag:Int} {D:Nat→List In} {x:In}:x∈kp p o flag D 0↔∃ t:Nat,t<p.types.length∧uf p t flag=true∧pP o [(t:Int)]=true∧x∈D t:=by
 unfold kp
 rw[List.mem_flatMap]
 constructor
 ·rintro⟨t,ht,hx⟩
  unfold rE at hx
  split at hx
  ·rename_i h
   rw[aX] at h
   rw[List.mem_range'_1] at ht
   exact⟨t,by omega,h.1,h.2,hx⟩
  ·cases hx
 ·rintro⟨t,ht,h1,h2,hx⟩
  refine⟨t,by rw[List.mem_range'_1];omega,?_⟩
  unfold rE
  rw[h1,h2];exact hx
theorem eN {n v:Nat} {D:Nat→List In} {x:In}:x∈gr n D v↔∃ t,v≤t∧t≤n∧x∈D t:=by
 unfold gr
 rw[List.mem_flatMap]
 constructor
 ·rintro⟨t,ht,hx⟩
  rw[List.mem_range'_1] at ht
  exact⟨t,by omega,by omega,hx⟩
 ·rintro⟨t,h1,h2,hx⟩
  exact⟨t,by rw[List.mem_range'_1];omega,hx⟩
theorem na {n first:Nat} {D:Nat→Nat→List In} {x:In}:x∈ui n first D↔∃ v w,v≤n∧first≤w∧w≤n∧x∈D v w:=by
 unfold ui
 rw[eN]
 constructor
 ·rintro⟨v,_,h2,h⟩
  obtain⟨w,h3,h4,h5⟩:=eN.1 h
  exact⟨v,w,h2,h3,h4,h5⟩
 ·rintro⟨v,w,h1,h2,h3,h4⟩
  exact⟨v,au _,h1,eN.2 ⟨w,h2,h3,h4⟩⟩
theorem fW {p:Pol} {o:Option Fa} {kind:Int} {D:Nat→Nat→List In} {x:In}:x∈ka p o kind D 0↔∃ a b:Nat,(⟨kind,a,b⟩:Ru)∈p.rules∧a<p.types.length∧b<p.types.length∧pP o [(a:Int),(b:Int)]=true∧x∈D a b:=by
 unfold ka
 rw[dE,List.mem_flatMap]
 constructor
 ·rintro⟨r,hr,hx⟩
  unfold rF at hx
  split at hx
  ·rename_i h
   simp only[DZ,aX,bF] at h
   obtain⟨⟨h1,h2,h3⟩,h4⟩:=h
   have ha:((r.a.toNat:Nat):Int)=r.a:=gI (by omega)
   have hb:((r.b.toNat:Nat):Int)=r.b:=gI (by omega)
   refine⟨r.a.toNat,r.b.toNat,?_,by omega,by omega,by rw[ha,hb];exact h4,hx⟩
   rw[ha,hb,← h1];exact hr
  ·cases hx
 ·rintro⟨a,b,hr,ha,hb,h4,hx⟩
  refine⟨_,hr,?_⟩
  unfold rF
  have:DZ p kind ⟨kind,a,b⟩=true:=by
   simp only[DZ,aX,bF]
   exact⟨trivial,by omega,by omega⟩
  rw[this,h4]
  exact hx
theorem aeq {o:Option Fa} {a b v w:Nat} {x:In}:x∈r10 o a b v w↔¬ (0<w∧v=0)∧vR o (i10 a b v w)=true∧x=i10 a b v w:=by
 unfold r10;split
 ·rename_i h;simp[h]
 ·rename_i h;simp only[h,not_false_eq_true,ia];exact mi
theorem Hw {p:Pol} {o:Option Fa} {x:In}:x∈iS p o↔x∈t1 p o∨x∈t2 p o∨x∈t3 p o∨x∈t4 p o∨x∈t5 p o∨x∈t6 p o∨x∈t7 p o∨x∈t8 p o∨x∈t9 p o∨x∈t10 p o∨x∈t11 p o∨x∈t12 p o∨x∈t13 p o∨x∈t14 o∨x∈t15 p o:=by
 unfold iS Tq
 simp only[cu,List.flatten_nil,aZ,aY,cN]
theorem lQ {p:Pol} {v t:Nat} (hv:v≤p.types.length) (ht:t<p.types.length):gU p (fZ v t)=true:=by
 simp[gU,fZ];omega
theorem CN {p:Pol} {v w:Nat} (hv:v≤p.types.length) (hw:w≤p.types.length):gU p (ue v w)=true:=by
 simp[gU,ue];omega
theorem CO {p:Pol} {s:Nat} (h1:1≤s) (h2:s≤p.types.length):gU p (qw s)=true:=by
 simp[gU,qw];exact⟨ey (show(1:Int)≤(s:Int) by omega),h2⟩
theorem amA {p:Pol} {s:Nat} (h1:1≤s) (h2:s≤p.types.length):gU p (Hh s)=true:=by
 simp[gU,Hh];exact⟨ey (show(1:Int)≤(s:Int) by omega),h2⟩
structure vA (p:Pol) (k:Int) (x:In):Prop where
 rule:x.rule=k
 pre:x.pre.length≤2
 con:1≤x.con.length∧x.con.length≤2
 vp:∀ f∈x.pre,gU p f=true
 vc:∀ f∈x.con,gU p f=true
