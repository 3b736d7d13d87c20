/- Layer 19: read. -/
import Derived.Test.YtloppcgcepgbnaaGreatDoorVlC4
import Derived.Test.YtloppcgcepgbnaaGreatDoorVlN2
import Derived.Test.YtloppcgcepgbnaaGreatDoorVlC2
set_option maxHeartbeats 4000000
set_option linter.all false
namespace Go.Proofs.YtloppcgcepgbnaaGreatDoor
open Go Go.Vl Go.Proofs.YtloppcgcepgbnaaGreatDoor.Kw
variable {G:Gl}
set_option maxRecDepth 100000
def jd (v:Bool) (p:Pol) (b:B):List Fa×Int:=
 if v=false then([],1) else if(dF b).2≠0 then([],(dF b).2) else if((dF b).1.all fun f=>gU p f)=true then((dF b).1,0) else([],6)
def uz:=jj @pkA (jj @ptA @pkS)
theorem Zq (v:Bool) (p:Pol) (b:B) (hV:FnOK Tryz.prog G 42 [.agg (poC p)] (bo v)) (hb:b.length≤1000000000) (kU:(dF b).1.length≤1000000) :
 FnOK Tryz.prog G 33 [.agg (poC p),bv b] (.tup [.c (fsC (jd v p b).1),i64 (jd v p b).2]):=by
 refine bR (rs:=[.tmp 4,.tmp 5]) false [] mixed Tryz.func33 rfl rfl rfl rfl (by kernel_rfl) (by simp) rfl rfl ?_
 have lf:∀ (m:List Fa) (K:V→Prop),fw Tryz.prog 28 (.c (fsC m)) K=K (i64 m.length):=fun m K=>by unfold fsC;rw[ff eO rfl,ak]
 simp only[uz,seval]
 refine aN rfl hV (fun _=>rfl) ?_
 cases v
 ·simp only[pkA,seval]
  exact iZ rfl rfl
 ·simp only[pkA,seval]
  refine aN rfl (nL b hb) (fun h=>by cases h) ?_
  have hr:jd true p b=if(dF b).2≠0 then([],(dF b).2) else if((dF b).1.all fun f=>gU p f)=true then((dF b).1,0) else([],6):=by unfold jd;rw[if_neg (by decide)]
  rw[hr]
  generalize (dF b).1=l at *
  generalize (dF b).2=e at *
  simp only[pkA,seval]
  refine aS (fun he=>?_) (fun he=>?_)
  ·have he:e≠0:=by simpa using he
   simp only[pkA,seval]
   rw[if_pos he]
   exact iZ rfl rfl
  have he:e=0:=by simpa using he
  rw[if_neg (by rw[he];decide)]
  simp only[pkA,seval,lf]
  refine cx (fun i:Nat=>hdS [(2,.bp 0 0),(6,.c (fsC l)),(21,.c (fsC l)),(22,i64 l.length),(23,i64 i)] [(poC p).map .c]) (fun i=>l.length - i) (fun i=>i≤l.length∧∀ f∈l.take i,gU p f=true) 0 ⟨au _,by simp⟩ ?_ ?_
  ·exact cL rfl (au _) (ar 1) (by simp[FL,ao]) ⟨rfl,trivial⟩
  rintro i ⟨hi,ht⟩ R cE cC dV
  simp only[pkA,seval]
  refine aS (fun bV=>?_) (fun jA=>?_)
  ·have bV:i<l.length:=by simpa using bV
   have hw:=cd (n:=(i:Int)+1) (k:=i+1) (by omega) (by omega)
   have e1:((i+1:Nat):Int)=(i:Int)+1:=by omega
   have q1:∀ a b c:V,eS [a,b,c] 0 ((faC l[i]).map .c)=(faC l[i]).map .c:=fun _ _ _=>rfl
   simp only[pkA,seval]
   refine fE eO rfl eV (by decide) (aJ i) (c:=faC l[i]) (by simp[bV]) rfl ?_
   simp only[uz,seval,q1]
   refine aN rfl (Cm p l[i]) (fun _=>rfl) ?_
   cases hv:gU p l[i]
   ·simp only[pkA,seval]
    have:(l.all fun f=>gU p f)=false:=by rw[List.all_eq_false];exact⟨l[i],bM bV,by simp[hv]⟩
    rw[this] at dV
    refine dV _ ?_
    simp only[pkA,seval]
    exact iZ rfl rfl
   ·simp only[pkA,seval,hw]
    refine cE (i+1) _ ⟨bV,fun f hf=>?_⟩ (by omega) (cL rfl (au _) (show 1≤2 by decide) (by simp[FL,ao,e1]) (by simp[BL,ao,bxs]))
    rw[bg bV,aZ,aW] at hf
    rcases hf with hf | rfl
    ·exact ht f hf
    ·exact hv
  ·have:i=l.length:=by simp at jA;omega
   subst this
   rw[cH] at ht
   have:(l.all fun f=>gU p f)=true:=aV.2 ht
   rw[this] at cC
   simp only[pkA]
   refine cC _ _ ?_
   simp only[pkA,seval]
   exact iZ rfl rfl
def jD (v:Bool) (p:Pol) (b:B):Int:=
 if(jd v p b).2≠0 then(jd v p b).2 else if(gW p (jd v p b).1).2=true∧ng p (jd v p b).1=[] then 0 else 21
theorem Oq (v:Bool) (p:Pol) (b:B) (hR:FnOK Tryz.prog G 33 [.agg (poC p),bv b] (.tup [.c (fsC (jd v p b).1),i64 (jd v p b).2])) (hn:p.types.length≤1000) (hr:p.rules.length≤1000) (hs:lE (iS p none)) (hll:(jd v p b).1.length≤1000000) :
 FnOK Tryz.prog G 16 [.agg (poC p),bv b] (i64 (jD v p b)):=by
 refine bR (rs:=[.tmp 4]) false [] mixed Tryz.func16 rfl rfl rfl rfl (by kernel_rfl) (by simp) rfl rfl ?_
 have lf:∀ (m:List Fa) (K:V→Prop),fw Tryz.prog 28 (.c (fsC m)) K=K (i64 m.length):=fun m K=>by unfold fsC;rw[ff eO rfl,ak]
 simp only[uz,seval]
 refine aN rfl hR (fun h=>by cases h) ?_
 unfold jD
 generalize (jd v p b).1=l at *
 generalize (jd v p b).2=e at *
 simp only[pkA,seval]
 refine aS (fun he=>?_) (fun he=>?_)
 ·have he:e≠0:=by simpa using he
  rw[if_pos he]
  simp only[pkA,seval]
 have he:e=0:=by simpa using he
 rw[if_neg (by rw[he];decide)]
 simp only[uz,seval]
 refine aN rfl (E4 p l (by omega) (by omega) hs hll) (fun h=>by cases h) ?_
 generalize (gW p l).1=y
 have q1:∀ a b c:V,eS [a,b,c] 0 ((inC y).map .c)=(inC y).map .c:=fun _ _ _=>rfl
 cases hc:(gW p l).2
 ·simp only[uz,seval,q1]
  rw[if_neg (by simp)]
 ·simp only[uz,seval,q1]
  refine aN rfl (PX p l hn hll) (fun h=>by cases h) ?_
  simp only[pkA,seval,lf]
  refine aS (fun hb=>?_) (fun hb=>?_)
  ·simp only[pkA,seval]
   rw[if_neg (fun h=>by rw[h] at hb;simp at hb)]
  ·simp only[pkA,seval]
   rw[if_pos (by simpa using hb)]
def gx (v:Bool) (p:Pol):B×List Fa×Int:=
 if v=false then([],[],1) else if ng p (cR p)=[] then(iw (cR p),[],0) else([],ng p (cR p),21)
theorem K1 (v:Bool) (p:Pol) (hV:FnOK Tryz.prog G 42 [.agg (poC p)] (bo v)) (hp:PolS p) (hI:∀ f∈cR p,FaI f) :
 FnOK Tryz.prog G 21 [.agg (poC p)] (.tup [.c (.sl (bC (gx v p).1)),.c (fsC (gx v p).2.1),i64 (gx v p).2.2]):=by
 refine bR (rs:=[.tmp 2,.tmp 3,.tmp 4]) false [] mixed Tryz.func21 rfl rfl rfl rfl (by kernel_rfl) (by simp) rfl rfl ?_
 have lf:∀ (m:List Fa) (K:V→Prop),fw Tryz.prog 28 (.c (fsC m)) K=K (i64 m.length):=fun m K=>by unfold fsC;rw[ff eO rfl,ak]
 have hty:=hp.ty
 have kU:(cR p).length≤40000:=by unfold cR cm;rw[ak,sE];exact hp.sat
 simp only[uz,seval]
 refine aN rfl hV (fun _=>rfl) ?_
 unfold gx
 cases v
 ·simp only[pkA,seval]
  exact kF rfl rfl rfl
 ·simp only[uz,seval]
  refine aN rfl (Zp hp) (fun h=>by cases h) ?_
  simp only[uz,seval]
  refine aN rfl (PX p (cR p) (by omega) (by omega)) (fun h=>by cases h) ?_
  simp only[pkA,seval,lf]
  refine aS (fun hb=>?_) (fun hb=>?_)
  ·have hb:¬ ng p (cR p)=[]:=fun h=>by rw[h] at hb;simp at hb
   simp only[pkA,seval]
   first | rw[if_neg (by decide),if_neg hb] | rw[if_neg hb]
   exact kF rfl rfl rfl
  ·have hb:ng p (cR p)=[]:=by simpa using hb
   simp only[pkA,seval]
   refine aN rfl (pS (cR p) (by omega) hI) (fun h=>by cases h) ?_
   simp only[pkA,seval]
   first | rw[if_neg (by decide),if_pos hb] | rw[if_pos hb]
   exact kF rfl rfl rfl
theorem Zr {b:Nat} {fr:Nat→V} {bx:Nat→List V} {x:In} {e:V} {c u nb:Nat} (h1:fr c=.bp b 0) (hb:b<nb) (h2:bx b=(inC x).map .c) (h3:(fr u).fz=e):rl Tryz.prog false ⟨fr,bx,nb⟩ (.tup [.agg (inC x),e]) [.cell c 35,.tmp u]:=by
 refine Y9 ?_ h3
 show cK Tryz.prog 35 ⟨fr,bx,nb⟩ (fr c) _
 rw[h1,qN qt rfl rfl,h2]
 exact⟨PI,by rw[show ldA nb b ((inC x).map .c) 0 3 _=_ from Yz];exact⟨hb,rfl⟩⟩
def HC (v:Bool) (p:Pol) (b:B):In×Int:=if(jd v p b).2≠0 then(in0,(jd v p b).2) else((gW p (jd v p b).1).1,0)
def K3:=jj @pkA @ptA
theorem aeH (v:Bool) (p:Pol) (b:B) (hR:FnOK Tryz.prog G 33 [.agg (poC p),bv b] (.tup [.c (fsC (jd v p b).1),i64 (jd v p b).2])) (hn:p.types.length≤1000) (hr:p.rules.length≤1000) (hs:lE (iS p none)) (hll:(jd v p b).1.length≤1000000) :
 FnOK Tryz.prog G 12 [.agg (poC p),bv b] (.tup [.agg (inC (HC v p b).1),i64 (HC v p b).2]):=by
 refine bR (rs:=[.cell 4 35,.tmp 5]) false [] mixed Tryz.func12 rfl rfl rfl rfl (by kernel_rfl) (by simp) rfl rfl ?_
 simp only[uz,seval]
 refine aN rfl hR (fun h=>by cases h) ?_
 unfold HC
 generalize (jd v p b).1=l at *
 generalize (jd v p b).2=e at *
 simp only[pkA,seval]
 refine aS (fun he=>?_) (fun he=>?_)
 ·have he:e≠0:=by simpa using he
  rw[if_pos he]
  simp only[K3,seval]
  exact Zr rfl (show 1<2 by decide) (by simp[];rfl) rfl
 ·have he:e=0:=by simpa using he
  rw[if_neg (by rw[he];decide)]
  simp only[uz,seval]
  refine aN rfl (E4 p l (by omega) (by omega) hs hll) (fun h=>by cases h) ?_
  generalize (gW p l).1=y
  have q1:∀ a b c:V,eS [a,b,c] 0 ((inC y).map .c)=(inC y).map .c:=fun _ _ _=>rfl
  simp only[pkA,ptA,pkI,seval,q1]
  exact Zr rfl (show 1<3 by decide) (by simp[];try rfl) rfl
end Go.Proofs.YtloppcgcepgbnaaGreatDoor
namespace Go.Proofs.YtloppcgcepgbnaaGreatDoor.Kw
open Go Go.Vl
variable {G:Gl}
def cnt (b:B) (size:Nat):Int×Nat×Int:=
 ((nH b).1,(nH b).2.1,if(nH b).2.2≠0 then(nH b).2.2 else if(nH b).1<0 then 6 else if(((b.length - (nH b).2.1) / size:Nat):Int)<(nH b).1 then 5 else 0)
set_option maxRecDepth 100000 in
theorem E9 (a b:B) (ha:a.length≤1000000000):FnOK Tryz.prog G 18 [bv a,bv b] (bo (decide (a=b))):=by
 refine bR (rs:=[.tmp 4]) false [] mixed Tryz.func18 rfl rfl rfl rfl (by kernel_rfl) (by simp) rfl rfl ?_
 simp only[K3,seval,aK,tZ]
 refine aS (fun h=>?_) (fun h=>?_)
 ·have h:a≠b:=by rintro rfl;simp at h
  simp only[pkA,seval]
  rw[gd h]
 have hl:a.length=b.length:=by
  have h:=cO (by simpa using h:decide ((a.length:Int)≠(b.length:Int))=false)
  omega
 simp only[pkA,seval]
 refine cx (fun i:Nat=>hdS [(0,bv a),(1,bv b),(5,i64 (i:Nat))] []) (fun i=>a.length - i) (fun i=>i≤a.length∧a.take i=b.take i) 0 ⟨au _,rfl⟩ ?_ ?_
 ·exact cL rfl (au _) (by simp) (by simp[FL,ao]) trivial
 rintro i ⟨hi,he⟩ R cE cC dV
 simp only[K3,seval,tZ]
 refine aS (fun hp=>?_) (fun hz=>?_)
 ·have hp:i<a.length:=by have:=dlt hp;omega
  have hwi:=cd (n:=(i:Int)+1) (k:=i+1) (by omega) (by omega)
  obtain⟨x,hx⟩:∃ x,a[i]?=some x:=⟨a[i],ab hp⟩
  obtain⟨y,hy⟩:∃ y,b[i]?=some y:=⟨b[i]'(by omega),ab _⟩
  simp only[pkA,seval]
  refine EM kN rfl qP rfl rfl hx ?_
  simp only[K3,seval]
  refine EM kN rfl qP rfl rfl hy ?_
  simp only[K3,seval]
  refine aS (fun h=>?_) (fun h=>?_)
  ·have hxy:x≠y:=by rintro rfl;simp at h
   have A5:a≠b:=by rintro rfl;rw[hx] at hy;exact hxy (dz hy)
   simp only[pkA,seval]
   refine dV _ ?_
   rw[gd A5]
   simp only[pkA,seval]
  ·have hxy:x=y:=by
    have h:(x.toNat:Int)=y.toNat:=by simpa using h
    exact UInt8.toNat_inj.1 (by omega)
   subst hxy
   simp only[pkA,seval,bz,hwi]
   exact cE (i+1) _ ⟨hp,by rw[uZ hx,uZ hy,he]⟩ (by omega) (cL rfl (au _) (by simp) (by simp[FL,ao]) trivial)
 ·have hz:i=a.length:=by have:=dge hz;omega
  subst hz
  have A5:a=b:=by rw[cH] at he;rw[he,hl,cH]
  simp only[pkA]
  refine cC _ _ ?_
  simp only[pkA,seval]
  rw[ey A5]
