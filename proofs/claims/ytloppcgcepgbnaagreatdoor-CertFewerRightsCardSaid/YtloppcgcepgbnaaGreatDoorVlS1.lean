/- Layer 19, plain: what grows with a policy; fewer rights. The first part is printed by genz7.py. -/
import Derived.Test.YtloppcgcepgbnaaGreatDoorVlP3
set_option linter.all false
namespace Go.Proofs.YtloppcgcepgbnaaGreatDoor
open Go Go.Vl
set_option maxRecDepth 10000
structure uD (p q:Pol):Prop where
 ty:p.types.length≤q.types.length
 fl:∀ t,t<p.types.length→∀ f,uf p t f=true→uf q t f=true
 ru:∀ r∈p.rules,r∈q.rules
theorem ajL {p q:Pol} {x:In} (g:uD p q) (h:x∈t1 p none):x∈t1 q none:=by
 have gt:=g.ty
 obtain⟨t,h0,hh,h1,h⟩:=hJ.1 h
 refine hJ.2 ⟨t,by omega,g.fl t h0 _ hh,h1,?_⟩
 exact h
theorem ajM {p q:Pol} {x:In} (g:uD p q) (h:x∈t2 p none):x∈t2 q none:=by
 have gt:=g.ty
 obtain⟨t,h0,hh,h1,h⟩:=hJ.1 h
 refine hJ.2 ⟨t,by omega,g.fl t h0 _ hh,h1,?_⟩
 exact h
theorem ajN {p q:Pol} {x:In} (g:uD p q) (h:x∈t3 p none):x∈t3 q none:=by
 have gt:=g.ty
 obtain⟨a,b,hr,ha,hb,h1,h⟩:=fW.1 h
 refine fW.2 ⟨a,b,g.ru _ hr,by omega,by omega,h1,?_⟩
 obtain⟨s,Ab,D9,h⟩:=eN.1 h
 exact eN.2 ⟨s,Ab,by omega,h⟩
theorem ajO {p q:Pol} {x:In} (g:uD p q) (h:x∈t4 p none):x∈t4 q none:=by
 have gt:=g.ty
 obtain⟨a,b,hr,ha,hb,h1,h⟩:=fW.1 h
 refine fW.2 ⟨a,b,g.ru _ hr,by omega,by omega,h1,?_⟩
 exact h
theorem ajP {p q:Pol} {x:In} (g:uD p q) (h:x∈t5 p none):x∈t5 q none:=by
 have gt:=g.ty
 obtain⟨a,b,hr,ha,hb,h1,h⟩:=fW.1 h
 refine fW.2 ⟨a,b,g.ru _ hr,by omega,by omega,h1,?_⟩
 obtain⟨s,Ab,D9,h⟩:=eN.1 h
 exact eN.2 ⟨s,Ab,by omega,h⟩
theorem ajQ {p q:Pol} {x:In} (g:uD p q) (h:x∈t6 p none):x∈t6 q none:=by
 have gt:=g.ty
 obtain⟨t,h0,hh,h1,h⟩:=hJ.1 h
 refine hJ.2 ⟨t,by omega,g.fl t h0 _ hh,h1,?_⟩
 obtain⟨s,Ab,D9,h⟩:=eN.1 h
 exact eN.2 ⟨s,Ab,by omega,h⟩
theorem ajR {p q:Pol} {x:In} (g:uD p q) (h:x∈t7 p none):x∈t7 q none:=by
 have gt:=g.ty
 obtain⟨t,h0,hh,h1,h⟩:=hJ.1 h
 refine hJ.2 ⟨t,by omega,g.fl t h0 _ hh,h1,?_⟩
 obtain⟨s,Ab,D9,h⟩:=eN.1 h
 exact eN.2 ⟨s,Ab,by omega,h⟩
theorem ajS {p q:Pol} {x:In} (g:uD p q) (h:x∈t8 p none):x∈t8 q none:=by
 have gt:=g.ty
 obtain⟨a,b,hr,ha,hb,h1,h⟩:=fW.1 h
 refine fW.2 ⟨a,b,g.ru _ hr,by omega,by omega,h1,?_⟩
 obtain⟨v,w,hv,Ae,FG,h⟩:=na.1 h
 exact na.2 ⟨v,w,by omega,Ae,by omega,h⟩
theorem ajT {p q:Pol} {x:In} (g:uD p q) (h:x∈t9 p none):x∈t9 q none:=by
 have gt:=g.ty
 obtain⟨t,h0,hh,h1,h⟩:=hJ.1 h
 refine hJ.2 ⟨t,by omega,g.fl t h0 _ hh,h1,?_⟩
 obtain⟨v,w,hv,Ae,FG,h⟩:=na.1 h
 exact na.2 ⟨v,w,by omega,Ae,by omega,h⟩
theorem ae1 {p q:Pol} {x:In} (g:uD p q) (h:x∈t10 p none):x∈t10 q none:=by
 have gt:=g.ty
 obtain⟨a,b,hr,ha,hb,h1,h⟩:=fW.1 h
 refine fW.2 ⟨a,b,g.ru _ hr,by omega,by omega,h1,?_⟩
 obtain⟨v,w,hv,Ae,FG,h⟩:=na.1 h
 exact na.2 ⟨v,w,by omega,Ae,by omega,h⟩
theorem ae2 {p q:Pol} {x:In} (g:uD p q) (h:x∈t11 p none):x∈t11 q none:=by
 have gt:=g.ty
 obtain⟨a,b,hr,ha,hb,h1,h⟩:=fW.1 h
 refine fW.2 ⟨a,b,g.ru _ hr,by omega,by omega,h1,?_⟩
 exact h
theorem ae3 {p q:Pol} {x:In} (g:uD p q) (h:x∈t12 p none):x∈t12 q none:=by
 have gt:=g.ty
 obtain⟨a,b,hr,ha,hb,h1,h⟩:=fW.1 h
 refine fW.2 ⟨a,b,g.ru _ hr,by omega,by omega,h1,?_⟩
 obtain⟨s,Ab,D9,h⟩:=eN.1 h
 exact eN.2 ⟨s,Ab,by omega,h⟩
theorem ae4 {p q:Pol} {x:In} (g:uD p q) (h:x∈t13 p none):x∈t13 q none:=by
 have gt:=g.ty
 obtain⟨t,h0,hh,h1,h⟩:=hJ.1 h
 refine hJ.2 ⟨t,by omega,g.fl t h0 _ hh,h1,?_⟩
 obtain⟨s,Ab,D9,h⟩:=eN.1 h
 exact eN.2 ⟨s,Ab,by omega,h⟩
theorem ae5 {p q:Pol} {x:In} (g:uD p q) (h:x∈t14 none):x∈t14 none:=by
 exact h
theorem ae6 {p q:Pol} {x:In} (g:uD p q) (h:x∈t15 p none):x∈t15 q none:=by
 have gt:=g.ty
 obtain⟨s,Ab,D9,h⟩:=eN.1 h
 exact eN.2 ⟨s,Ab,by omega,h⟩
theorem ZQ {p q:Pol} {x:In} (g:uD p q) (h:x∈iS p none):x∈iS q none:=by
 rw[Hw] at h ⊢
 rcases h with h | h | h | h | h | h | h | h | h | h | h | h | h | h | h
 ·exact .inl (ajL (p:=p) (q:=q) g h)
 ·exact .inr (.inl (ajM (p:=p) (q:=q) g h))
 ·exact .inr (.inr (.inl (ajN (p:=p) (q:=q) g h)))
 ·exact .inr (.inr (.inr (.inl (ajO (p:=p) (q:=q) g h))))
 ·exact .inr (.inr (.inr (.inr (.inl (ajP (p:=p) (q:=q) g h)))))
 ·exact .inr (.inr (.inr (.inr (.inr (.inl (ajQ (p:=p) (q:=q) g h))))))
 ·exact .inr (.inr (.inr (.inr (.inr (.inr (.inl (ajR (p:=p) (q:=q) g h)))))))
 ·exact .inr (.inr (.inr (.inr (.inr (.inr (.inr (.inl (ajS (p:=p) (q:=q) g h))))))))
 ·exact .inr (.inr (.inr (.inr (.inr (.inr (.inr (.inr (.inl (ajT (p:=p) (q:=q) g h)))))))))
 ·exact .inr (.inr (.inr (.inr (.inr (.inr (.inr (.inr (.inr (.inl (ae1 (p:=p) (q:=q) g h))))))))))
 ·exact .inr (.inr (.inr (.inr (.inr (.inr (.inr (.inr (.inr (.inr (.inl (ae2 (p:=p) (q:=q) g h)))))))))))
 ·exact .inr (.inr (.inr (.inr (.inr (.inr (.inr (.inr (.inr (.inr (.inr (.inl (ae3 (p:=p) (q:=q) g h))))))))))))
 ·exact .inr (.inr (.inr (.inr (.inr (.inr (.inr (.inr (.inr (.inr (.inr (.inr (.inl (ae4 (p:=p) (q:=q) g h)))))))))))))
 ·exact .inr (.inr (.inr (.inr (.inr (.inr (.inr (.inr (.inr (.inr (.inr (.inr (.inr (.inl (ae5 (p:=p) (q:=q) g h))))))))))))))
 ·exact .inr (.inr (.inr (.inr (.inr (.inr (.inr (.inr (.inr (.inr (.inr (.inr (.inr (.inr (ae6 g h))))))))))))))
theorem Ub {p:Pol} {R:List Ru} {m:Int} {i:Nat} (hR:R.Sublist p.rules):uD ⟨p.name,iK m i p.types,R,p.quorums⟩ p where
 ty:=by show(iK m i p.types).length≤_;rw[im];exact ar _
 fl:=fun t _ f h=>Lp.1 f h
 ru:=fun r hr=>hR.subset hr
theorem zY {p:Pol} {R:List Ru} {m:Int} {i:Nat} {b:B} (hR:R.Sublist p.rules) (ha:jD (iT p) p b=0) :
 jD (iT ⟨p.name,iK m i p.types,R,p.quorums⟩) ⟨p.name,iK m i p.types,R,p.quorums⟩ b=0:=HM hR ha fun _ hx=>ZQ (Ub hR) hx
open Go Go.Vl Go.Proofs.YtloppcgcepgbnaaGreatDoor.Kw
variable {G:Gl}
set_option maxRecDepth 100000
set_option maxRecDepth 20000
def exN (f:Int):Pol:=⟨⟨#[112]⟩,[⟨⟨#[97]⟩,f,0⟩],[],[]⟩
def exP:Pol:=exN 65
def exQ:Pol:=exN 69
def exF:List Fa:=[⟨1,1,0⟩,⟨2,0,0⟩]
def exG:List Fa:=[⟨1,0,0⟩,⟨1,1,0⟩,⟨2,0,0⟩,⟨3,1,0⟩]
def exL:List Fa:=[⟨3,1,0⟩]
def exI:In:=⟨6,[⟨1,1,0⟩],[⟨3,1,0⟩]⟩
theorem exS (f:Int):PolS (exN f):=⟨by simp[exN],by simp[exN]⟩
theorem ZR {p:Pol} {l m:List Fa} (h:cm (yj (iS p none))=m) (hl:StF l) (hm:∀ f,f∈m↔f∈l):cR p=l:=
 sB (zh p) hl fun f=>by rw[nO];unfold wU;rw[h,hm]
theorem ae7:cm (yj (iS exP none))=[⟨1,1,0⟩,⟨2,0,0⟩]:=by kernel_rfl
theorem ae8:cm (yj (iS exQ none))=[⟨1,1,0⟩,⟨2,0,0⟩,⟨3,1,0⟩,⟨1,0,0⟩]:=by kernel_rfl
theorem vn:cR exP=exF:=ZR ae7 (by decide) (fun f=>by simp[exF])
theorem ae9:cR exQ=exG:=ZR ae8 (by decide) (fun f=>by
 simp only[exG,aQ,aY,cN]
 constructor
 ·rintro(h | h | h | h)<;>simp[h]
 ·rintro(h | h | h | h)<;>simp[h])
theorem P5 (f:Int) (h:DY 64 f=true):pf (exN f)=[⟨3,1,0⟩,⟨4,1,0⟩]:=by
 rw[ajD]
 show PK (exN f) [] 0=_
 unfold PK
 rw[show uf (exN f) 0 64=DY 64 f from rfl,if_pos h]
 rfl
theorem P6:ng exP exF=[]:=by
 unfold ng;rw[show pf exP=_ from P5 65 (by kernel_rfl)];decide
theorem afa:ng exQ exG=exL:=by
 unfold ng;rw[show pf exQ=_ from P5 69 (by kernel_rfl)];decide
theorem Fq:iT exP=true:=by kernel_rfl
theorem zm:iT exQ=true:=by kernel_rfl
theorem exK {f:Int} (h:I64 f):Ax (exN f) where
 inn:={
  name:=bn rfl
  lt:=bn rfl
  lr:=bn rfl
  lq:=bn rfl
  types:=fun t ht=>by
   have:t=⟨⟨#[97]⟩,f,0⟩:=by simpa[kPo,exN] using ht
   subst this
   exact⟨bn rfl,h,show I64 0 from⟨by decide,by decide⟩⟩
  rules:=fun t ht=>by cases ht
  quorums:=fun t ht=>by cases ht }
 sm:=bn rfl
theorem afb {p:Pol} (h:∀ f∈exF,gU p f=true):jd true p (iw exF)=(exF,0):=by
 have e:=vl (exS 65)
 rw[show exN 65=exP from rfl,vn] at e
 have:=A2 (p:=p) (b:=iw exF) (by rw[e]) (by rw[e];exact h)
 rw[this,e]
theorem Lr:jd true exQ (iw exF)=(exF,0):=afb (by decide)
theorem Da:gW exQ exF=(exI,false):=by kernel_rfl
theorem ZS:dF (iw exF)=(exF,0):=by
 have e:=vl (exS 65)
 rwa [show exN 65=exP from rfl,vn] at e
theorem afc:gx true exP=(iw exF,[],0):=by
 unfold gx;rw[vn,if_neg (by decide),if_pos P6]
theorem afd:gx true exQ=([],exL,21):=by
 unfold gx;rw[ae9,if_neg (by decide),afa,if_neg (by decide)]
theorem afe:HC true exQ (iw exF)=(exI,0):=by
 unfold HC;rw[Lr,if_neg (by decide),Da]
theorem aff:jD true exP (iw exF)=0:=by
 have:=Oz (exS 65) (by rw[show exN 65=exP from rfl,vn];exact P6)
 rwa [show exN 65=exP from rfl,vn] at this
theorem afg:jD true exQ (iw exF)=21:=by
 unfold jD;rw[Lr,if_neg (by decide),Da,if_neg (by simp)]
theorem ZT:dF [129,1]=([],5):=by kernel_rfl
