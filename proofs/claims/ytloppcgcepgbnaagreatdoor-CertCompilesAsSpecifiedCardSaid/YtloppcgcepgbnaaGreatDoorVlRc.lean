/- Layer 17, plain laws: what instances there are, rule by rule. Printed by genn3.py. -/
import Derived.Test.YtloppcgcepgbnaaGreatDoorVlN2
import Derived.Test.YtloppcgcepgbnaaGreatDoorVlI1
set_option linter.all false
namespace Go.Proofs.YtloppcgcepgbnaaGreatDoor
open Go Go.Vl
set_option maxRecDepth 10000
theorem akm {p:Pol} {o:Option Fa} {x:In} (h:x∈t1 p o):vM p 1 x:=by
 obtain⟨t,ht,_,_,h⟩:=sj.1 h;obtain⟨_,rfl⟩:=mM.1 h;refine⟨rfl,by simp[i1],by simp[i1],λf hf=>?_,λf hf=>?_⟩
 .cases hf
 .simp only[i1,aN,bf,cR] at hf
  subst hf;exact mf (v:=0) (t:=t) (by omega) (by omega)
theorem akn {p:Pol} {o:Option Fa} {x:In} (h:x∈t2 p o):vM p 2 x:=by
 obtain⟨t,ht,_,_,h⟩:=sj.1 h;obtain⟨_,rfl⟩:=mM.1 h;refine⟨rfl,by simp[i2],by simp[i2],λf hf=>?_,λf hf=>?_⟩
 .cases hf
 .simp only[i2,aN,bf,cR] at hf
  subst hf;exact mf (v:=(t+1)) (t:=t) (by omega) (by omega)
theorem ako {p:Pol} {o:Option Fa} {x:In} (h:x∈t3 p o):vM p 3 x:=by
 obtain⟨a,b,_,ha,hb,_,h⟩:=qk.1 h;obtain⟨s,Vh,IG,h⟩:=lg.1 h;obtain⟨_,rfl⟩:=mM.1 h;refine⟨rfl,by simp[i3],by simp[i3],λf hf=>?_,λf hf=>?_⟩
 .simp only[i3,aN,bf,cR] at hf
  subst hf;exact mf (v:=s) (t:=a) (by omega) (by omega)
 .simp only[i3,aN,bf,cR] at hf
  subst hf;exact mf (v:=(b+1)) (t:=b) (by omega) (by omega)
theorem akp {p:Pol} {o:Option Fa} {x:In} (h:x∈t4 p o):vM p 4 x:=by
 obtain⟨a,b,_,ha,hb,_,h⟩:=qk.1 h;obtain⟨_,rfl⟩:=mM.1 h;refine⟨rfl,by simp[i4],by simp[i4],λf hf=>?_,λf hf=>?_⟩
 .simp only[i4,aN,bf,cR] at hf
  subst hf;exact mf (v:=0) (t:=a) (by omega) (by omega)
 .simp only[i4,aN,bf,cR] at hf
  subst hf;exact mf (v:=0) (t:=b) (by omega) (by omega)
theorem akq {p:Pol} {o:Option Fa} {x:In} (h:x∈t5 p o):vM p 5 x:=by
 obtain⟨a,b,_,ha,hb,_,h⟩:=qk.1 h;obtain⟨s,Vh,IG,h⟩:=lg.1 h;obtain⟨_,rfl⟩:=mM.1 h;refine⟨rfl,by simp[i5],by simp[i5],λf hf=>?_,λf hf=>?_⟩
 .simp only[i5,aN,bf,cR] at hf
  rcases hf with rfl | rfl
  .exact mf (v:=s) (t:=a) (by omega) (by omega)
  .exact Dt (s:=s) (by omega) (by omega)
 .simp only[i5,aN,bf,cR] at hf
  subst hf;exact Dt (s:=(b+1)) (by omega) (by omega)
theorem akr {p:Pol} {o:Option Fa} {x:In} (h:x∈t6 p o):vM p 6 x:=by
 obtain⟨t,ht,_,_,h⟩:=sj.1 h;obtain⟨s,Vh,IG,h⟩:=lg.1 h;obtain⟨_,rfl⟩:=mM.1 h;refine⟨rfl,by simp[i6],by simp[i6],λf hf=>?_,λf hf=>?_⟩
 .simp only[i6,aN,bf,cR] at hf
  subst hf;exact mf (v:=s) (t:=t) (by omega) (by omega)
 .simp only[i6,aN,bf,cR] at hf
  subst hf;exact Dt (s:=s) (by omega) (by omega)
theorem aks {p:Pol} {o:Option Fa} {x:In} (h:x∈t7 p o):vM p 7 x:=by
 obtain⟨t,ht,_,_,h⟩:=sj.1 h;obtain⟨s,Vh,IG,h⟩:=lg.1 h;obtain⟨_,rfl⟩:=mM.1 h;refine⟨rfl,by simp[i7],by simp[i7],λf hf=>?_,λf hf=>?_⟩
 .simp only[i7,aN,bf,cR] at hf
  subst hf;exact mf (v:=s) (t:=t) (by omega) (by omega)
 .simp only[i7,aN,bf,cR] at hf
  subst hf;exact Ds (v:=s) (w:=0) (by omega) (by omega)
theorem akt {p:Pol} {o:Option Fa} {x:In} (h:x∈t8 p o):vM p 8 x:=by
 obtain⟨a,b,_,ha,hb,_,h⟩:=qk.1 h;obtain⟨v,w,hv,xu,ME,h⟩:=Dq.1 h;obtain⟨_,rfl⟩:=mM.1 h;refine⟨rfl,by simp[i8],by simp[i8],λf hf=>?_,λf hf=>?_⟩
 .simp only[i8,aN,bf,cR] at hf
  rcases hf with rfl | rfl
  .exact mf (v:=v) (t:=a) (by omega) (by omega)
  .exact mf (v:=w) (t:=b) (by omega) (by omega)
 .simp only[i8,aN,bf,cR] at hf
  subst hf;exact Ds (v:=v) (w:=w) (by omega) (by omega)
theorem aku {p:Pol} {o:Option Fa} {x:In} (h:x∈t9 p o):vM p 9 x:=by
 obtain⟨t,ht,_,_,h⟩:=sj.1 h;obtain⟨v,w,hv,xu,ME,h⟩:=Dq.1 h;obtain⟨_,rfl⟩:=mM.1 h;refine⟨rfl,by simp[i9],by simp[i9],λf hf=>?_,λf hf=>?_⟩
 .simp only[i9,aN,bf,cR] at hf
  rcases hf with rfl | rfl
  .exact mf (v:=v) (t:=t) (by omega) (by omega)
  .exact Ds (v:=v) (w:=w) (by omega) (by omega)
 .simp only[i9,aN,bf,cR] at hf
  subst hf;exact Dt (s:=w) (by omega) (by omega)
theorem afg {p:Pol} {o:Option Fa} {x:In} (h:x∈t10 p o):vM p 10 x:=by
 obtain⟨a,b,_,ha,hb,_,h⟩:=qk.1 h;obtain⟨v,w,hv,xu,ME,h⟩:=Dq.1 h;obtain⟨hn,_,rfl⟩:=afe.1 h;unfold i10;split
 .rename_i hw
  refine⟨rfl,by simp,by simp,λf hf=>?_,λf hf=>?_⟩
  .simp only[aN,bf,cR] at hf
   rcases hf with rfl | rfl
   .exact mf hv (by omega)
   .exact Ds hv ME
  .simp only[aN,bf,cR] at hf
   rcases hf with rfl | rfl
   .exact mf ME (by omega)
   .exact anB hw ME
 .refine⟨rfl,by simp,by simp,λf hf=>?_,λf hf=>?_⟩
  .simp only[aN,bf,cR] at hf
   rcases hf with rfl | rfl
   .exact mf hv (by omega)
   .exact Ds hv ME
  .simp only[aN,bf,cR] at hf
   subst hf;exact mf ME (by omega)
theorem afh {p:Pol} {o:Option Fa} {x:In} (h:x∈t11 p o):vM p 11 x:=by
 obtain⟨a,b,_,ha,hb,_,h⟩:=qk.1 h;obtain⟨_,rfl⟩:=mM.1 h;refine⟨rfl,by simp[i11],by simp[i11],λf hf=>?_,λf hf=>?_⟩
 .simp only[i11,aN,bf,cR] at hf
  subst hf;exact mf (v:=0) (t:=a) (by omega) (by omega)
 .simp only[i11,aN,bf,cR] at hf
  subst hf;exact mf (v:=0) (t:=b) (by omega) (by omega)
theorem afi {p:Pol} {o:Option Fa} {x:In} (h:x∈t12 p o):vM p 12 x:=by
 obtain⟨a,b,_,ha,hb,_,h⟩:=qk.1 h;obtain⟨s,Vh,IG,h⟩:=lg.1 h;obtain⟨_,rfl⟩:=mM.1 h;refine⟨rfl,by simp[i12],by simp[i12],λf hf=>?_,λf hf=>?_⟩
 .simp only[i12,aN,bf,cR] at hf
  rcases hf with rfl | rfl
  .exact mf (v:=0) (t:=a) (by omega) (by omega)
  .exact mf (v:=s) (t:=b) (by omega) (by omega)
 .simp only[i12,aN,bf,cR] at hf
  subst hf;exact Dt (s:=s) (by omega) (by omega)
theorem afj {p:Pol} {o:Option Fa} {x:In} (h:x∈t13 p o):vM p 13 x:=by
 obtain⟨t,ht,_,_,h⟩:=sj.1 h;obtain⟨s,Vh,IG,h⟩:=lg.1 h;obtain⟨_,rfl⟩:=mM.1 h;refine⟨rfl,by simp[i13],by simp[i13],λf hf=>?_,λf hf=>?_⟩
 .simp only[i13,aN,bf,cR] at hf
  rcases hf with rfl | rfl
  .exact Dt (s:=s) (by omega) (by omega)
  .exact mf (v:=s) (t:=t) (by omega) (by omega)
 .simp only[i13,aN,bf,cR] at hf
  subst hf;exact mf (v:=0) (t:=t) (by omega) (by omega)
theorem afk {p:Pol} {o:Option Fa} {x:In} (h:x∈t14 o):vM p 14 x:=by
 obtain⟨_,rfl⟩:=mM.1 h;refine⟨rfl,by simp[i14],by simp[i14],λf hf=>?_,λf hf=>?_⟩
 .cases hf
 .simp only[i14,aN,bf,cR] at hf
  subst hf;exact Ds (v:=0) (w:=0) (by omega) (by omega)
theorem afl {p:Pol} {o:Option Fa} {x:In} (h:x∈t15 p o):vM p 15 x:=by
 obtain⟨s,Vh,IG,h⟩:=lg.1 h;obtain⟨_,rfl⟩:=mM.1 h;refine⟨rfl,by simp[i15],by simp[i15],λf hf=>?_,λf hf=>?_⟩
 .simp only[i15,aN,bf,cR] at hf
  subst hf;exact Ds (v:=0) (w:=s) (by omega) (by omega)
 .simp only[i15,aN,bf,cR] at hf
  subst hf;exact Dt (s:=s) (by omega) (by omega)
theorem Lu {p:Pol} {o:Option Fa} {x:In} (h:x∈fN p o):∃ k,1<=k/\k<=15/\vM p k x:=by
 rw[aff] at h;rcases h with h | h | h | h | h | h | h | h | h | h | h | h | h | h | h
 .exact⟨1,by decide,by decide,akm (p:=p) h⟩
 .exact⟨2,by decide,by decide,akn (p:=p) h⟩
 .exact⟨3,by decide,by decide,ako (p:=p) h⟩
 .exact⟨4,by decide,by decide,akp (p:=p) h⟩
 .exact⟨5,by decide,by decide,akq (p:=p) h⟩
 .exact⟨6,by decide,by decide,akr (p:=p) h⟩
 .exact⟨7,by decide,by decide,aks (p:=p) h⟩
 .exact⟨8,by decide,by decide,akt (p:=p) h⟩
 .exact⟨9,by decide,by decide,aku (p:=p) h⟩
 .exact⟨10,by decide,by decide,afg (p:=p) h⟩
 .exact⟨11,by decide,by decide,afh (p:=p) h⟩
 .exact⟨12,by decide,by decide,afi (p:=p) h⟩
 .exact⟨13,by decide,by decide,afj (p:=p) h⟩
 .exact⟨14,by decide,by decide,afk (p:=p) h⟩
 .exact⟨15,by decide,by decide,afl (p:=p) h⟩
theorem og {p:Pol} {o:Option Fa}:kH (fN p o):=λx hx=>by obtain⟨k,_,_,h⟩:=Lu hx;exact⟨h.pre,h.con.2⟩
variable {G:Gl}
set_option maxRecDepth 4000
theorem anC {l:List In} {K:V->Prop}:fq Tryz.prog 86 (.c (OE l)) K=K (i64 l.length):=by unfold OE;rw[Ym,au]
theorem akv {l:List Fa} {K:V->Prop}:fq Tryz.prog 28 (.c (fsC l)) K=K (i64 l.length):=by unfold fsC;rw[HT,au]
theorem afm {p:Pol} {nb q:Nat} {K:V->Prop}:ldA nb q ((poC p).map .c) 0 4 K=(q<nb/\K (.agg (poC p))):=by unfold ldA;exact propext ⟨λh=>⟨h.1,h.2.2⟩,λh=>⟨h.1,⟨rfl,rfl⟩,h.2⟩⟩
theorem ZW {p:Pol}:ck ((poC p).map V.c)=false:=rfl
theorem akw {l:List In}:(owI l).fz=.c (OE l):=rfl
theorem akx {l:List In}:(owI l).isOw=true:=rfl
def pkU:=jj @pkM (jj @anC (jj @akv (jj @OD (jj @afm (jj @H3 (jj @ZW (jj @akw @akx)))))))
theorem afn (p:Pol) (hn:p.types.length<=1000) (hr:p.rules.length<=1000) (cm:(fN p none).length<=20000):FnOK Tryz.prog G 54 [.agg (poC p)] (.c (OE (fN p none))):=Zs p hn hr cm
theorem ZX {d e:V} {c u:Tmp} {T:TypeId} {fr:Nat->V} {bx:Nat->List V} {nb:Nat} (h1:RO Tryz.prog ⟨fr,bx,nb⟩ (.cell c T) λv=>v.fz=d) (h2:(fr u).fz=e):rT Tryz.prog false ⟨fr,bx,nb⟩ (.tup [d,e]) [.cell c T,.tmp u]:=by
 refine⟨_,rfl,rfl,λi R x hR hx=>?_⟩
 match i with
 |0=>simp only[bP,ao] at hR hx;subst hR;subst hx;exact h1
 |1=>simp only[cF,bP,ao] at hR hx;subst hR;subst hx;exact h2
 |n+2=>simp at hR
