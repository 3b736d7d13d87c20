/- Layer 17, plain laws: what instances there are, rule by rule. Printed by genn3.py. -/
import Derived.Test.YtloppcgcepgbnaaGreatDoorVlN2
import Derived.Test.YtloppcgcepgbnaaGreatDoorVlI2
set_option linter.all false
namespace Go.Proofs.YtloppcgcepgbnaaGreatDoor
open Go Go.Vl
set_option maxRecDepth 10000
theorem ajt {p:Pol} {o:Option Fa} {x:In} (h:x∈t1 p o):vA p 1 x:=by
 obtain⟨t,ht,_,_,h⟩:=hJ.1 h
 obtain⟨_,rfl⟩:=mi.1 h
 refine⟨rfl,by simp[i1],by simp[i1],fun f hf=>?_,fun f hf=>?_⟩
 ·cases hf
 ·simp only[i1,aQ,aY,cN] at hf
  subst hf
  exact lQ (v:=0) (t:=t) (by omega) (by omega)
theorem aju {p:Pol} {o:Option Fa} {x:In} (h:x∈t2 p o):vA p 2 x:=by
 obtain⟨t,ht,_,_,h⟩:=hJ.1 h
 obtain⟨_,rfl⟩:=mi.1 h
 refine⟨rfl,by simp[i2],by simp[i2],fun f hf=>?_,fun f hf=>?_⟩
 ·cases hf
 ·simp only[i2,aQ,aY,cN] at hf
  subst hf
  exact lQ (v:=(t+1)) (t:=t) (by omega) (by omega)
theorem ajv {p:Pol} {o:Option Fa} {x:In} (h:x∈t3 p o):vA p 3 x:=by
 obtain⟨a,b,_,ha,hb,_,h⟩:=fW.1 h
 obtain⟨s,Ab,D9,h⟩:=eN.1 h
 obtain⟨_,rfl⟩:=mi.1 h
 refine⟨rfl,by simp[i3],by simp[i3],fun f hf=>?_,fun f hf=>?_⟩
 ·simp only[i3,aQ,aY,cN] at hf
  subst hf
  exact lQ (v:=s) (t:=a) (by omega) (by omega)
 ·simp only[i3,aQ,aY,cN] at hf
  subst hf
  exact lQ (v:=(b+1)) (t:=b) (by omega) (by omega)
theorem ajw {p:Pol} {o:Option Fa} {x:In} (h:x∈t4 p o):vA p 4 x:=by
 obtain⟨a,b,_,ha,hb,_,h⟩:=fW.1 h
 obtain⟨_,rfl⟩:=mi.1 h
 refine⟨rfl,by simp[i4],by simp[i4],fun f hf=>?_,fun f hf=>?_⟩
 ·simp only[i4,aQ,aY,cN] at hf
  subst hf
  exact lQ (v:=0) (t:=a) (by omega) (by omega)
 ·simp only[i4,aQ,aY,cN] at hf
  subst hf
  exact lQ (v:=0) (t:=b) (by omega) (by omega)
theorem ajx {p:Pol} {o:Option Fa} {x:In} (h:x∈t5 p o):vA p 5 x:=by
 obtain⟨a,b,_,ha,hb,_,h⟩:=fW.1 h
 obtain⟨s,Ab,D9,h⟩:=eN.1 h
 obtain⟨_,rfl⟩:=mi.1 h
 refine⟨rfl,by simp[i5],by simp[i5],fun f hf=>?_,fun f hf=>?_⟩
 ·simp only[i5,aQ,aY,cN] at hf
  rcases hf with rfl | rfl
  ·exact lQ (v:=s) (t:=a) (by omega) (by omega)
  ·exact CO (s:=s) (by omega) (by omega)
 ·simp only[i5,aQ,aY,cN] at hf
  subst hf
  exact CO (s:=(b+1)) (by omega) (by omega)
theorem ajy {p:Pol} {o:Option Fa} {x:In} (h:x∈t6 p o):vA p 6 x:=by
 obtain⟨t,ht,_,_,h⟩:=hJ.1 h
 obtain⟨s,Ab,D9,h⟩:=eN.1 h
 obtain⟨_,rfl⟩:=mi.1 h
 refine⟨rfl,by simp[i6],by simp[i6],fun f hf=>?_,fun f hf=>?_⟩
 ·simp only[i6,aQ,aY,cN] at hf
  subst hf
  exact lQ (v:=s) (t:=t) (by omega) (by omega)
 ·simp only[i6,aQ,aY,cN] at hf
  subst hf
  exact CO (s:=s) (by omega) (by omega)
theorem ajz {p:Pol} {o:Option Fa} {x:In} (h:x∈t7 p o):vA p 7 x:=by
 obtain⟨t,ht,_,_,h⟩:=hJ.1 h
 obtain⟨s,Ab,D9,h⟩:=eN.1 h
 obtain⟨_,rfl⟩:=mi.1 h
 refine⟨rfl,by simp[i7],by simp[i7],fun f hf=>?_,fun f hf=>?_⟩
 ·simp only[i7,aQ,aY,cN] at hf
  subst hf
  exact lQ (v:=s) (t:=t) (by omega) (by omega)
 ·simp only[i7,aQ,aY,cN] at hf
  subst hf
  exact CN (v:=s) (w:=0) (by omega) (by omega)
theorem ajA {p:Pol} {o:Option Fa} {x:In} (h:x∈t8 p o):vA p 8 x:=by
 obtain⟨a,b,_,ha,hb,_,h⟩:=fW.1 h
 obtain⟨v,w,hv,Ae,FG,h⟩:=na.1 h
 obtain⟨_,rfl⟩:=mi.1 h
 refine⟨rfl,by simp[i8],by simp[i8],fun f hf=>?_,fun f hf=>?_⟩
 ·simp only[i8,aQ,aY,cN] at hf
  rcases hf with rfl | rfl
  ·exact lQ (v:=v) (t:=a) (by omega) (by omega)
  ·exact lQ (v:=w) (t:=b) (by omega) (by omega)
 ·simp only[i8,aQ,aY,cN] at hf
  subst hf
  exact CN (v:=v) (w:=w) (by omega) (by omega)
theorem ajB {p:Pol} {o:Option Fa} {x:In} (h:x∈t9 p o):vA p 9 x:=by
 obtain⟨t,ht,_,_,h⟩:=hJ.1 h
 obtain⟨v,w,hv,Ae,FG,h⟩:=na.1 h
 obtain⟨_,rfl⟩:=mi.1 h
 refine⟨rfl,by simp[i9],by simp[i9],fun f hf=>?_,fun f hf=>?_⟩
 ·simp only[i9,aQ,aY,cN] at hf
  rcases hf with rfl | rfl
  ·exact lQ (v:=v) (t:=t) (by omega) (by omega)
  ·exact CN (v:=v) (w:=w) (by omega) (by omega)
 ·simp only[i9,aQ,aY,cN] at hf
  subst hf
  exact CO (s:=w) (by omega) (by omega)
theorem aer {p:Pol} {o:Option Fa} {x:In} (h:x∈t10 p o):vA p 10 x:=by
 obtain⟨a,b,_,ha,hb,_,h⟩:=fW.1 h
 obtain⟨v,w,hv,Ae,FG,h⟩:=na.1 h
 obtain⟨hn,_,rfl⟩:=aeq.1 h
 unfold i10
 split
 ·rename_i hw
  refine⟨rfl,by simp,by simp,fun f hf=>?_,fun f hf=>?_⟩
  ·simp only[aQ,aY,cN] at hf
   rcases hf with rfl | rfl
   ·exact lQ hv (by omega)
   ·exact CN hv FG
  ·simp only[aQ,aY,cN] at hf
   rcases hf with rfl | rfl
   ·exact lQ FG (by omega)
   ·exact amA hw FG
 ·refine⟨rfl,by simp,by simp,fun f hf=>?_,fun f hf=>?_⟩
  ·simp only[aQ,aY,cN] at hf
   rcases hf with rfl | rfl
   ·exact lQ hv (by omega)
   ·exact CN hv FG
  ·simp only[aQ,aY,cN] at hf
   subst hf
   exact lQ FG (by omega)
theorem aes {p:Pol} {o:Option Fa} {x:In} (h:x∈t11 p o):vA p 11 x:=by
 obtain⟨a,b,_,ha,hb,_,h⟩:=fW.1 h
 obtain⟨_,rfl⟩:=mi.1 h
 refine⟨rfl,by simp[i11],by simp[i11],fun f hf=>?_,fun f hf=>?_⟩
 ·simp only[i11,aQ,aY,cN] at hf
  subst hf
  exact lQ (v:=0) (t:=a) (by omega) (by omega)
 ·simp only[i11,aQ,aY,cN] at hf
  subst hf
  exact lQ (v:=0) (t:=b) (by omega) (by omega)
theorem aet {p:Pol} {o:Option Fa} {x:In} (h:x∈t12 p o):vA p 12 x:=by
 obtain⟨a,b,_,ha,hb,_,h⟩:=fW.1 h
 obtain⟨s,Ab,D9,h⟩:=eN.1 h
 obtain⟨_,rfl⟩:=mi.1 h
 refine⟨rfl,by simp[i12],by simp[i12],fun f hf=>?_,fun f hf=>?_⟩
 ·simp only[i12,aQ,aY,cN] at hf
  rcases hf with rfl | rfl
  ·exact lQ (v:=0) (t:=a) (by omega) (by omega)
  ·exact lQ (v:=s) (t:=b) (by omega) (by omega)
 ·simp only[i12,aQ,aY,cN] at hf
  subst hf
  exact CO (s:=s) (by omega) (by omega)
theorem aeu {p:Pol} {o:Option Fa} {x:In} (h:x∈t13 p o):vA p 13 x:=by
 obtain⟨t,ht,_,_,h⟩:=hJ.1 h
 obtain⟨s,Ab,D9,h⟩:=eN.1 h
 obtain⟨_,rfl⟩:=mi.1 h
 refine⟨rfl,by simp[i13],by simp[i13],fun f hf=>?_,fun f hf=>?_⟩
 ·simp only[i13,aQ,aY,cN] at hf
  rcases hf with rfl | rfl
  ·exact CO (s:=s) (by omega) (by omega)
  ·exact lQ (v:=s) (t:=t) (by omega) (by omega)
 ·simp only[i13,aQ,aY,cN] at hf
  subst hf
  exact lQ (v:=0) (t:=t) (by omega) (by omega)
theorem aev {p:Pol} {o:Option Fa} {x:In} (h:x∈t14 o):vA p 14 x:=by
 obtain⟨_,rfl⟩:=mi.1 h
 refine⟨rfl,by simp[i14],by simp[i14],fun f hf=>?_,fun f hf=>?_⟩
 ·cases hf
 ·simp only[i14,aQ,aY,cN] at hf
  subst hf
  exact CN (v:=0) (w:=0) (by omega) (by omega)
theorem aew {p:Pol} {o:Option Fa} {x:In} (h:x∈t15 p o):vA p 15 x:=by
 obtain⟨s,Ab,D9,h⟩:=eN.1 h
 obtain⟨_,rfl⟩:=mi.1 h
 refine⟨rfl,by simp[i15],by simp[i15],fun f hf=>?_,fun f hf=>?_⟩
 ·simp only[i15,aQ,aY,cN] at hf
  subst hf
  exact CN (v:=0) (w:=s) (by omega) (by omega)
 ·simp only[i15,aQ,aY,cN] at hf
  subst hf
  exact CO (s:=s) (by omega) (by omega)
theorem KJ {p:Pol} {o:Option Fa} {x:In} (h:x∈iS p o):∃ k,1≤k∧k≤15∧vA p k x:=by
 rw[Hw] at h
 rcases h with h | h | h | h | h | h | h | h | h | h | h | h | h | h | h
 ·exact⟨1,by decide,by decide,ajt (p:=p) h⟩
 ·exact⟨2,by decide,by decide,aju (p:=p) h⟩
 ·exact⟨3,by decide,by decide,ajv (p:=p) h⟩
 ·exact⟨4,by decide,by decide,ajw (p:=p) h⟩
 ·exact⟨5,by decide,by decide,ajx (p:=p) h⟩
 ·exact⟨6,by decide,by decide,ajy (p:=p) h⟩
 ·exact⟨7,by decide,by decide,ajz (p:=p) h⟩
 ·exact⟨8,by decide,by decide,ajA (p:=p) h⟩
 ·exact⟨9,by decide,by decide,ajB (p:=p) h⟩
 ·exact⟨10,by decide,by decide,aer (p:=p) h⟩
 ·exact⟨11,by decide,by decide,aes (p:=p) h⟩
 ·exact⟨12,by decide,by decide,aet (p:=p) h⟩
 ·exact⟨13,by decide,by decide,aeu (p:=p) h⟩
 ·exact⟨14,by decide,by decide,aev (p:=p) h⟩
 ·exact⟨15,by decide,by decide,aew (p:=p) h⟩
theorem nK {p:Pol} {o:Option Fa}:lE (iS p o):=fun x hx=>by
 obtain⟨k,_,_,h⟩:=KJ hx
 exact⟨h.pre,h.con.2⟩
variable {G:Gl}
set_option maxRecDepth 4000
theorem Y9 {d e:V} {c u:Tmp} {T:TypeId} {fr:Nat→V} {bx:Nat→List V} {nb:Nat} (h1:QT Tryz.prog ⟨fr,bx,nb⟩ (.cell c T) fun v=>v.fz=d) (h2:(fr u).fz=e):rl Tryz.prog false ⟨fr,bx,nb⟩ (.tup [d,e]) [.cell c T,.tmp u]:=by
 refine⟨_,rfl,rfl,fun i R x hR hx=>?_⟩
 match i with
 |0=>simp only[bJ,ai] at hR hx;subst hR;subst hx;exact h1
 |1=>simp only[ct,bJ,ai] at hR hx;subst hR;subst hx;exact h2
 |n+2=>simp at hR
