/- Layer 17, plain laws: what instances there are, rule by rule. Printed by genn3.py. -/
import Derived.Test.YtloppcgcepgbnaaGreatDoorVlN2
import Derived.Test.YtloppcgcepgbnaaGreatDoorVlI1
set_option linter.all false
namespace Go.Proofs.YtloppcgcepgbnaaGreatDoor
open Go Go.Vl
set_option maxRecDepth 10000
theorem ahN {p:Pol} {o:Option Fa} {x:In} (h:x∈t1 p o):vE p 1 x:=by
 obtain⟨t,ht,_,_,h⟩:=rU.1 h;obtain⟨_,rfl⟩:=mN.1 h;refine⟨rfl,by simp[i1],by simp[i1],λf hf=>?_,λf hf=>?_⟩
 .cases hf
 .simp only[i1,aP,aZ,cR] at hf
  subst hf;exact ma (v:=0) (t:=t) (by omega) (by omega)
theorem ahO {p:Pol} {o:Option Fa} {x:In} (h:x∈t2 p o):vE p 2 x:=by
 obtain⟨t,ht,_,_,h⟩:=rU.1 h;obtain⟨_,rfl⟩:=mN.1 h;refine⟨rfl,by simp[i2],by simp[i2],λf hf=>?_,λf hf=>?_⟩
 .cases hf
 .simp only[i2,aP,aZ,cR] at hf
  subst hf;exact ma (v:=(t+1)) (t:=t) (by omega) (by omega)
theorem ahP {p:Pol} {o:Option Fa} {x:In} (h:x∈t3 p o):vE p 3 x:=by
 obtain⟨a,b,_,ha,hb,_,h⟩:=qd.1 h;obtain⟨s,UK,LU,h⟩:=k9.1 h;obtain⟨_,rfl⟩:=mN.1 h;refine⟨rfl,by simp[i3],by simp[i3],λf hf=>?_,λf hf=>?_⟩
 .simp only[i3,aP,aZ,cR] at hf
  subst hf;exact ma (v:=s) (t:=a) (by omega) (by omega)
 .simp only[i3,aP,aZ,cR] at hf
  subst hf;exact ma (v:=(b+1)) (t:=b) (by omega) (by omega)
theorem ahQ {p:Pol} {o:Option Fa} {x:In} (h:x∈t4 p o):vE p 4 x:=by
 obtain⟨a,b,_,ha,hb,_,h⟩:=qd.1 h;obtain⟨_,rfl⟩:=mN.1 h;refine⟨rfl,by simp[i4],by simp[i4],λf hf=>?_,λf hf=>?_⟩
 .simp only[i4,aP,aZ,cR] at hf
  subst hf;exact ma (v:=0) (t:=a) (by omega) (by omega)
 .simp only[i4,aP,aZ,cR] at hf
  subst hf;exact ma (v:=0) (t:=b) (by omega) (by omega)
theorem ahR {p:Pol} {o:Option Fa} {x:In} (h:x∈t5 p o):vE p 5 x:=by
 obtain⟨a,b,_,ha,hb,_,h⟩:=qd.1 h;obtain⟨s,UK,LU,h⟩:=k9.1 h;obtain⟨_,rfl⟩:=mN.1 h;refine⟨rfl,by simp[i5],by simp[i5],λf hf=>?_,λf hf=>?_⟩
 .simp only[i5,aP,aZ,cR] at hf
  rcases hf with rfl | rfl
  .exact ma (v:=s) (t:=a) (by omega) (by omega)
  .exact Du (s:=s) (by omega) (by omega)
 .simp only[i5,aP,aZ,cR] at hf
  subst hf;exact Du (s:=(b+1)) (by omega) (by omega)
theorem ahS {p:Pol} {o:Option Fa} {x:In} (h:x∈t6 p o):vE p 6 x:=by
 obtain⟨t,ht,_,_,h⟩:=rU.1 h;obtain⟨s,UK,LU,h⟩:=k9.1 h;obtain⟨_,rfl⟩:=mN.1 h;refine⟨rfl,by simp[i6],by simp[i6],λf hf=>?_,λf hf=>?_⟩
 .simp only[i6,aP,aZ,cR] at hf
  subst hf;exact ma (v:=s) (t:=t) (by omega) (by omega)
 .simp only[i6,aP,aZ,cR] at hf
  subst hf;exact Du (s:=s) (by omega) (by omega)
theorem ahT {p:Pol} {o:Option Fa} {x:In} (h:x∈t7 p o):vE p 7 x:=by
 obtain⟨t,ht,_,_,h⟩:=rU.1 h;obtain⟨s,UK,LU,h⟩:=k9.1 h;obtain⟨_,rfl⟩:=mN.1 h;refine⟨rfl,by simp[i7],by simp[i7],λf hf=>?_,λf hf=>?_⟩
 .simp only[i7,aP,aZ,cR] at hf
  subst hf;exact ma (v:=s) (t:=t) (by omega) (by omega)
 .simp only[i7,aP,aZ,cR] at hf
  subst hf;exact Dt (v:=s) (w:=0) (by omega) (by omega)
theorem ahU {p:Pol} {o:Option Fa} {x:In} (h:x∈t8 p o):vE p 8 x:=by
 obtain⟨a,b,_,ha,hb,_,h⟩:=qd.1 h;obtain⟨v,w,hv,xi,LV,h⟩:=Ds.1 h;obtain⟨_,rfl⟩:=mN.1 h;refine⟨rfl,by simp[i8],by simp[i8],λf hf=>?_,λf hf=>?_⟩
 .simp only[i8,aP,aZ,cR] at hf
  rcases hf with rfl | rfl
  .exact ma (v:=v) (t:=a) (by omega) (by omega)
  .exact ma (v:=w) (t:=b) (by omega) (by omega)
 .simp only[i8,aP,aZ,cR] at hf
  subst hf;exact Dt (v:=v) (w:=w) (by omega) (by omega)
theorem ahV {p:Pol} {o:Option Fa} {x:In} (h:x∈t9 p o):vE p 9 x:=by
 obtain⟨t,ht,_,_,h⟩:=rU.1 h;obtain⟨v,w,hv,xi,LV,h⟩:=Ds.1 h;obtain⟨_,rfl⟩:=mN.1 h;refine⟨rfl,by simp[i9],by simp[i9],λf hf=>?_,λf hf=>?_⟩
 .simp only[i9,aP,aZ,cR] at hf
  rcases hf with rfl | rfl
  .exact ma (v:=v) (t:=t) (by omega) (by omega)
  .exact Dt (v:=v) (w:=w) (by omega) (by omega)
 .simp only[i9,aP,aZ,cR] at hf
  subst hf;exact Du (s:=w) (by omega) (by omega)
theorem ac9 {p:Pol} {o:Option Fa} {x:In} (h:x∈t10 p o):vE p 10 x:=by
 obtain⟨a,b,_,ha,hb,_,h⟩:=qd.1 h;obtain⟨v,w,hv,xi,LV,h⟩:=Ds.1 h;obtain⟨hn,_,rfl⟩:=ac7.1 h;unfold i10;split
 .rename_i hw
  refine⟨rfl,by simp,by simp,λf hf=>?_,λf hf=>?_⟩
  .simp only[aP,aZ,cR] at hf
   rcases hf with rfl | rfl
   .exact ma hv (by omega)
   .exact Dt hv LV
  .simp only[aP,aZ,cR] at hf
   rcases hf with rfl | rfl
   .exact ma LV (by omega)
   .exact akN hw LV
 .refine⟨rfl,by simp,by simp,λf hf=>?_,λf hf=>?_⟩
  .simp only[aP,aZ,cR] at hf
   rcases hf with rfl | rfl
   .exact ma hv (by omega)
   .exact Dt hv LV
  .simp only[aP,aZ,cR] at hf
   subst hf;exact ma LV (by omega)
theorem ada {p:Pol} {o:Option Fa} {x:In} (h:x∈t11 p o):vE p 11 x:=by
 obtain⟨a,b,_,ha,hb,_,h⟩:=qd.1 h;obtain⟨_,rfl⟩:=mN.1 h;refine⟨rfl,by simp[i11],by simp[i11],λf hf=>?_,λf hf=>?_⟩
 .simp only[i11,aP,aZ,cR] at hf
  subst hf;exact ma (v:=0) (t:=a) (by omega) (by omega)
 .simp only[i11,aP,aZ,cR] at hf
  subst hf;exact ma (v:=0) (t:=b) (by omega) (by omega)
theorem adb {p:Pol} {o:Option Fa} {x:In} (h:x∈t12 p o):vE p 12 x:=by
 obtain⟨a,b,_,ha,hb,_,h⟩:=qd.1 h;obtain⟨s,UK,LU,h⟩:=k9.1 h;obtain⟨_,rfl⟩:=mN.1 h;refine⟨rfl,by simp[i12],by simp[i12],λf hf=>?_,λf hf=>?_⟩
 .simp only[i12,aP,aZ,cR] at hf
  rcases hf with rfl | rfl
  .exact ma (v:=0) (t:=a) (by omega) (by omega)
  .exact ma (v:=s) (t:=b) (by omega) (by omega)
 .simp only[i12,aP,aZ,cR] at hf
  subst hf;exact Du (s:=s) (by omega) (by omega)
theorem ade {p:Pol} {o:Option Fa} {x:In} (h:x∈t13 p o):vE p 13 x:=by
 obtain⟨t,ht,_,_,h⟩:=rU.1 h;obtain⟨s,UK,LU,h⟩:=k9.1 h;obtain⟨_,rfl⟩:=mN.1 h;refine⟨rfl,by simp[i13],by simp[i13],λf hf=>?_,λf hf=>?_⟩
 .simp only[i13,aP,aZ,cR] at hf
  rcases hf with rfl | rfl
  .exact Du (s:=s) (by omega) (by omega)
  .exact ma (v:=s) (t:=t) (by omega) (by omega)
 .simp only[i13,aP,aZ,cR] at hf
  subst hf;exact ma (v:=0) (t:=t) (by omega) (by omega)
theorem adf {p:Pol} {o:Option Fa} {x:In} (h:x∈t14 o):vE p 14 x:=by
 obtain⟨_,rfl⟩:=mN.1 h;refine⟨rfl,by simp[i14],by simp[i14],λf hf=>?_,λf hf=>?_⟩
 .cases hf
 .simp only[i14,aP,aZ,cR] at hf
  subst hf;exact Dt (v:=0) (w:=0) (by omega) (by omega)
theorem adg {p:Pol} {o:Option Fa} {x:In} (h:x∈t15 p o):vE p 15 x:=by
 obtain⟨s,UK,LU,h⟩:=k9.1 h;obtain⟨_,rfl⟩:=mN.1 h;refine⟨rfl,by simp[i15],by simp[i15],λf hf=>?_,λf hf=>?_⟩
 .simp only[i15,aP,aZ,cR] at hf
  subst hf;exact Dt (v:=0) (w:=s) (by omega) (by omega)
 .simp only[i15,aP,aZ,cR] at hf
  subst hf;exact Du (s:=s) (by omega) (by omega)
theorem K7 {p:Pol} {o:Option Fa} {x:In} (h:x∈fR p o):∃ k,1<=k/\k<=15/\vE p k x:=by
 rw[ac8] at h;rcases h with h | h | h | h | h | h | h | h | h | h | h | h | h | h | h
 .exact⟨1,by decide,by decide,ahN (p:=p) h⟩
 .exact⟨2,by decide,by decide,ahO (p:=p) h⟩
 .exact⟨3,by decide,by decide,ahP (p:=p) h⟩
 .exact⟨4,by decide,by decide,ahQ (p:=p) h⟩
 .exact⟨5,by decide,by decide,ahR (p:=p) h⟩
 .exact⟨6,by decide,by decide,ahS (p:=p) h⟩
 .exact⟨7,by decide,by decide,ahT (p:=p) h⟩
 .exact⟨8,by decide,by decide,ahU (p:=p) h⟩
 .exact⟨9,by decide,by decide,ahV (p:=p) h⟩
 .exact⟨10,by decide,by decide,ac9 (p:=p) h⟩
 .exact⟨11,by decide,by decide,ada (p:=p) h⟩
 .exact⟨12,by decide,by decide,adb (p:=p) h⟩
 .exact⟨13,by decide,by decide,ade (p:=p) h⟩
 .exact⟨14,by decide,by decide,adf (p:=p) h⟩
 .exact⟨15,by decide,by decide,adg (p:=p) h⟩
theorem lN {p:Pol} {o:Option Fa}:kq (fR p o):=λx hx=>by obtain⟨k,_,_,h⟩:=K7 hx;exact⟨h.pre,h.con.2⟩
variable {G:Gl}
set_option maxRecDepth 4000
theorem akO {l:List In} {K:V->Prop}:iR Tryz.prog 86 (.c (acG l)) K=K (i64 l.length):=by unfold acG;rw[agw,au]
def pkU:=jj @pkM @akO
theorem adh (p:Pol) (hn:p.types.length<=1000) (hr:p.rules.length<=1000) (cj:(fR p none).length<=20000):FnOK Tryz.prog G 54 [.agg (poC p)] (.c (acG (fR p none))):=Yi p hn hr cj
theorem K8 {d e:V} {c u:Tmp} {T:TypeId} {fr:Nat->V} {bx:Nat->List V} {nb:Nat} (h1:Rf Tryz.prog ⟨fr,bx,nb⟩ (.cell c T) λv=>v.fz=d) (h2:(fr u).fz=e):rE Tryz.prog false ⟨fr,bx,nb⟩ (.tup [d,e]) [.cell c T,.tmp u]:=by
 refine⟨_,rfl,rfl,λi R x hR hx=>?_⟩
 match i with
 |0=>simp only[bQ,ao] at hR hx;subst hR;subst hx;exact h1
 |1=>simp only[cB,bQ,ao] at hR hx;subst hR;subst hx;exact h2
 |n+2=>simp at hR
theorem aeB {b:Nat} {fr:Nat->V} {bx:Nat->List V} {x:In} {e:Bool} {c u nb:Nat} (h1:fr c=.bp b 0) (hb:b<nb) (h2:bx b=(inC x).map .c) (h3:(fr u).fz=bo e):rE Tryz.prog false ⟨fr,bx,nb⟩ (.tup [.agg (inC x),bo e]) [.cell c 35,.tmp u]:=by refine K8 ?_ h3;show dG Tryz.prog 35 ⟨fr,bx,nb⟩ (fr c) _;rw[h1,wB lD rfl rfl,h2];exact⟨PU,by rw[show ldA nb b ((inC x).map .c) 0 3 _=_ from X8];exact⟨hb,rfl⟩⟩
def tf (l:List Fa) (x:In):Bool:=(x.pre.all λf=>decide (f∈l))&&!(x.con.all λf=>decide (f∈l))
def mG (l:List Fa) (m:List In):In×Bool:=match m.find? (tf l) with
 |none=>(in0,true)
 |some x=>(x,false)
def P5:=jj @pkA (jj @ptA @pkU)
set_option maxHeartbeats 1000000 in
theorem Dv (p:Pol) (l:List Fa) (hn:p.types.length<=1000) (hr:p.rules.length<=1000) (cj:(fR p none).length<=20000) (LU:kq (fR p none)) (LW:l.length<=1000000) :
 FnOK Tryz.prog G 36 [.agg (poC p),.c (fsC l)] (.tup [.agg (inC (mG l (fR p none)).1),bo (mG l (fR p none)).2]):=by
 refine bI (rs:=[.cell 4 35,.tmp 5]) false [] mixed Tryz.func36 rfl rfl rfl rfl (by kernel_rfl) (by simp) rfl rfl ?_;simp only[P5,seval];refine az rfl (adh p hn hr cj) (λh=>by cases h) ?_;simp only[pkA,seval];generalize fR p none=m at cj LU;have an9:∀ x∈m,x.pre.length<=1000000000/\x.con.length<=1000000000:=λx hx=>by have:=LU x hx;omega
 refine bw (λi:Nat=>hdS [(1,.c (fsC l)),(4,.bp 1 0),(6,.c (acG m)),(7,i64 i)] [(poC p).map .c,[i64 0,.ow none [],.ow none []]]) (λi=>m.length - i) (λi=>i<=m.length/\∀ x∈m.take i,tf l x=false) 0 ⟨ar _,by simp⟩ ?_ ?_
 .exact cm rfl (ar _) (ab _) (by simp[FL,ah]) (by simp[BL,ah])
 rintro i ⟨hi,ht⟩ R bL bO c8;simp only[pkA,pkU,seval];refine aD (λbE=>?_) (λfH=>?_)
 .have bE:i<m.length:=by simpa using bE
  have hw:=bn (n:=(i:Int)+1) (k:=i+1) (by omega) (by omega);obtain⟨hb1,hb2⟩:=an9 m[i] (bR bE);simp only[pkA,seval];refine dQ tc rfl lD (by decide) (ay i) (c:=inC m[i]) (by simp[bE]) rfl ?_;simp only[P5,seval];refine az rfl (X7 l m[i].pre (by omega) hb1) (λ_=>rfl) ?_;simp only[pkA,seval];refine dQ tc rfl lD (by decide) (ay i) (c:=inC m[i]) (by simp[bE]) rfl ?_;simp only[P5,seval];refine az rfl (X7 l m[i].con (by omega) hb2) (λ_=>rfl) ?_;have stay:tf l m[i]=false->∀ x∈m.take (i+1),tf l x=false:=λh x hx=>by
   rw[aU bE,ba,aX] at hx;rcases hx with hx | rfl
   .exact ht x hx
   .exact h
  have hg:tf l m[i]=((m[i].pre.all λf=>decide (f∈l))&&!(m[i].con.all λf=>decide (f∈l))):=rfl;cases h1:(m[i].pre.all λf=>decide (f∈l))
  .simp only[pkA,seval,hw]
   exact bL (i+1) _ ⟨bE,stay (by rw[hg,h1];rfl)⟩ (by omega) (cm rfl (ar _) (ab _) (by simp[FL,ah]) (by simp[BL,bxs]))
  .cases h2:(m[i].con.all λf=>decide (f∈l))
   .simp only[pkA,seval]
    refine dQ tc rfl lD (by decide) (ay i) (c:=inC m[i]) (by simp[bE]) rfl ?_;simp only[P5,seval];have hs:∀ a b c:V,eP [a,b,c] 0 ((inC m[i]).map .c)=(inC m[i]).map .c:=λ_ _ _=>rfl;have hf:mG l m=(m[i],false):=(by have:m.find? (tf l)=some m[i]:=(by rw[List.find?_eq_some_iff_getElem];refine⟨by rw[hg,h1,h2];rfl,i,bE,rfl,λj hj=>?_⟩;have:=ht m[j] (fk.2 ⟨j,by omega,rfl⟩);simp[this]);unfold mG;rw[this]);refine c8 _ ?_;simp only[pkA,hs,hf];exact aeB rfl (show 1<2 by decide) (by simp[]) rfl
   .simp only[pkA,seval,hw]
    exact bL (i+1) _ ⟨bE,stay (by rw[hg,h1,h2];rfl)⟩ (by omega) (cm rfl (ar _) (ab _) (by simp[FL,ah]) (by simp[BL,bxs]))
 .have:i=m.length:=by simp at fH;omega
  subst this;rw[bZ] at ht;have hf:mG l m=(in0,true):=by
   have:m.find? (tf l)=none:=List.find?_eq_none.2 λx hx=>by simp[ht x hx]
   unfold mG;rw[this]
  simp only[pkA];refine bO _ _ ?_;simp only[pkA,ptA,seval];rw[hf];have hs:∀ a b c:V,eP [a,b,c] 0 ([C.lit (Value.int IntKind.i64 0),.sl [],.sl []].map V.c)=(inC in0).map .c:=λ_ _ _=>rfl;simp only[];exact aeB rfl (show 1<2 by decide) (by simp[];rfl) rfl
