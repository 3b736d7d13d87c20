/- Layer 17, plain laws: what instances there are. -/
import Derived.Test.YtjfjdomfldolcaaGreatVlX4
import Derived.Test.YtjfjdomfldolcaaGreatVlG1
set_option linter.all false
namespace Go.Proofs.YtjfjdomfldolcaaGreat
open Go Go.Vl
theorem lZ {o:Option Fa} {x y:In}:x∈emL o y↔vT o y=true∧x=y:=by
 unfold emL;split
 ·rename_i h;simp[h]
 ·rename_i h;simp[h]
theorem ig {p:Pol} {o:Option Fa} {flag:Int} {D:Nat→List In} {x:In}:x∈jb p o flag D 0↔∃ t:Nat,t<p.types.length∧pT p t flag=true∧nC o [(t:Int)]=true∧x∈D t:=by
 unfold jb
 rw[iw]
 constructor
 ·rintro⟨t,ht,hx⟩
  unfold pU at hx
  split at hx
  ·rename_i h
   rw[aS] at h
   rw[jN] at ht
   exact⟨t,by omega,h.1,h.2,hx⟩
  ·cases hx
 ·rintro⟨t,ht,h1,h2,hx⟩
  refine⟨t,by rw[jN];omega,?_⟩
  unfold pU
  rw[h1,h2];exact hx
theorem eS {n v:Nat} {D:Nat→List In} {x:In}:x∈bV n D v↔∃ t,v≤t∧t≤n∧x∈D t:=by
 unfold bV
 rw[iw]
 constructor
 ·rintro⟨t,ht,hx⟩
  rw[jN] at ht
  exact⟨t,by omega,by omega,hx⟩
 ·rintro⟨t,h1,h2,hx⟩
  exact⟨t,by rw[jN];omega,hx⟩
theorem mT {n first:Nat} {D:Nat→Nat→List In} {x:In}:x∈uE n first D↔∃ v w,v≤n∧first≤w∧w≤n∧x∈D v w:=by
 unfold uE
 rw[eS]
 constructor
 ·rintro⟨v,_,h2,h⟩
  obtain⟨w,h3,h4,h5⟩:=eS.1 h
  exact⟨v,w,h2,h3,h4,h5⟩
 ·rintro⟨v,w,h1,h2,h3,h4⟩
  exact⟨v,ar _,h1,eS.2 ⟨w,h2,h3,h4⟩⟩
theorem ga {p:Pol} {o:Option Fa} {kind:Int} {D:Nat→Nat→List In} {x:In}:x∈jy p o kind D 0↔∃ a b:Nat,(⟨kind,a,b⟩:Ru)∈p.rules∧a<p.types.length∧b<p.types.length∧nC o [(a:Int),(b:Int)]=true∧x∈D a b:=by
 unfold jy
 rw[cd,iw]
 constructor
 ·rintro⟨r,hr,hx⟩
  unfold qO at hx
  split at hx
  ·rename_i h
   simp only[Ar,aS,bJ] at h
   obtain⟨⟨h1,h2,h3⟩,h4⟩:=h
   have ha:((r.a.toNat:Nat):Int)=r.a:=gV (by omega)
   have hb:((r.b.toNat:Nat):Int)=r.b:=gV (by omega)
   refine⟨r.a.toNat,r.b.toNat,?_,by omega,by omega,by rw[ha,hb];exact h4,hx⟩
   rw[ha,hb,← h1];exact hr
  ·cases hx
 ·rintro⟨a,b,hr,ha,hb,h4,hx⟩
  refine⟨_,hr,?_⟩
  unfold qO
  have:Ar p kind ⟨kind,a,b⟩=true:=by
   simp only[Ar,aS,bJ]
   exact⟨trivial,by omega,by omega⟩
  rw[this,h4]
  exact hx
theorem aah {o:Option Fa} {a b v w:Nat} {x:In}:x∈r10 o a b v w↔¬ (0<w∧v=0)∧vT o (i10 a b v w)=true∧x=i10 a b v w:=by
 unfold r10;split
 ·rename_i h;simp[h]
 ·rename_i h;simp only[h,not_false_eq_true,jt];exact lZ
theorem Nr {p:Pol} {o:Option Fa} {x:In}:x∈gp p o↔x∈t1 p o∨x∈t2 p o∨x∈t3 p o∨x∈t4 p o∨x∈t5 p o∨x∈t6 p o∨x∈t7 p o∨x∈t8 p o∨x∈t9 p o∨x∈t10 p o∨x∈t11 p o∨x∈t12 p o∨x∈t13 p o∨x∈t14 o∨x∈t15 p o:=by
 unfold gp Lt
 simp only[cU,List.flatten_nil,aV,bn,dc]
theorem lK {p:Pol} {v t:Nat} (hv:v≤p.types.length) (ht:t<p.types.length):oN p (bu v t)=true:=by
 simp[oN,bu];omega
theorem Cd {p:Pol} {v w:Nat} (hv:v≤p.types.length) (hw:w≤p.types.length):oN p (gi v w)=true:=by
 simp[oN,gi];omega
theorem Ce {p:Pol} {s:Nat} (h1:1≤s) (h2:s≤p.types.length):oN p (fC s)=true:=by
 simp[oN,fC];exact⟨cu (show(1:Int)≤(s:Int) by omega),h2⟩
theorem aiN {p:Pol} {s:Nat} (h1:1≤s) (h2:s≤p.types.length):oN p (pR s)=true:=by
 simp[oN,pR];exact⟨cu (show(1:Int)≤(s:Int) by omega),h2⟩
structure vJ (p:Pol) (k:Int) (x:In):Prop where
 rule:x.rule=k
 pre:x.pre.length≤2
 con:1≤x.con.length∧x.con.length≤2
 vp:∀ f∈x.pre,oN p f=true
 vc:∀ f∈x.con,oN p f=true
set_option maxRecDepth 10000
theorem aft {p:Pol} {o:Option Fa} {x:In} (h:x∈t1 p o):vJ p 1 x:=by
 obtain⟨t,ht,_,_,h⟩:=ig.1 h
 obtain⟨_,rfl⟩:=lZ.1 h
 refine⟨rfl,by simp[i1],by simp[i1],fun f hf=>?_,fun f hf=>?_⟩
 ·cases hf
 ·simp only[i1,aK,bn,dc] at hf
  subst hf
  exact lK (v:=0) (t:=t) (by omega) (by omega)
theorem afu {p:Pol} {o:Option Fa} {x:In} (h:x∈t2 p o):vJ p 2 x:=by
 obtain⟨t,ht,_,_,h⟩:=ig.1 h
 obtain⟨_,rfl⟩:=lZ.1 h
 refine⟨rfl,by simp[i2],by simp[i2],fun f hf=>?_,fun f hf=>?_⟩
 ·cases hf
 ·simp only[i2,aK,bn,dc] at hf
  subst hf
  exact lK (v:=(t+1)) (t:=t) (by omega) (by omega)
theorem afv {p:Pol} {o:Option Fa} {x:In} (h:x∈t3 p o):vJ p 3 x:=by
 obtain⟨a,b,_,ha,hb,_,h⟩:=ga.1 h
 obtain⟨s,Aa,JK,h⟩:=eS.1 h
 obtain⟨_,rfl⟩:=lZ.1 h
 refine⟨rfl,by simp[i3],by simp[i3],fun f hf=>?_,fun f hf=>?_⟩
 ·simp only[i3,aK,bn,dc] at hf
  subst hf
  exact lK (v:=s) (t:=a) (by omega) (by omega)
 ·simp only[i3,aK,bn,dc] at hf
  subst hf
  exact lK (v:=(b+1)) (t:=b) (by omega) (by omega)
theorem afw {p:Pol} {o:Option Fa} {x:In} (h:x∈t4 p o):vJ p 4 x:=by
 obtain⟨a,b,_,ha,hb,_,h⟩:=ga.1 h
 obtain⟨_,rfl⟩:=lZ.1 h
 refine⟨rfl,by simp[i4],by simp[i4],fun f hf=>?_,fun f hf=>?_⟩
 ·simp only[i4,aK,bn,dc] at hf
  subst hf
  exact lK (v:=0) (t:=a) (by omega) (by omega)
 ·simp only[i4,aK,bn,dc] at hf
  subst hf
  exact lK (v:=0) (t:=b) (by omega) (by omega)
theorem afx {p:Pol} {o:Option Fa} {x:In} (h:x∈t5 p o):vJ p 5 x:=by
 obtain⟨a,b,_,ha,hb,_,h⟩:=ga.1 h
 obtain⟨s,Aa,JK,h⟩:=eS.1 h
 obtain⟨_,rfl⟩:=lZ.1 h
 refine⟨rfl,by simp[i5],by simp[i5],fun f hf=>?_,fun f hf=>?_⟩
 ·simp only[i5,aK,bn,dc] at hf
  rcases hf with rfl | rfl
  ·exact lK (v:=s) (t:=a) (by omega) (by omega)
  ·exact Ce (s:=s) (by omega) (by omega)
 ·simp only[i5,aK,bn,dc] at hf
  subst hf
  exact Ce (s:=(b+1)) (by omega) (by omega)
theorem afy {p:Pol} {o:Option Fa} {x:In} (h:x∈t6 p o):vJ p 6 x:=by
 obtain⟨t,ht,_,_,h⟩:=ig.1 h
 obtain⟨s,Aa,JK,h⟩:=eS.1 h
 obtain⟨_,rfl⟩:=lZ.1 h
 refine⟨rfl,by simp[i6],by simp[i6],fun f hf=>?_,fun f hf=>?_⟩
 ·simp only[i6,aK,bn,dc] at hf
  subst hf
  exact lK (v:=s) (t:=t) (by omega) (by omega)
 ·simp only[i6,aK,bn,dc] at hf
  subst hf
  exact Ce (s:=s) (by omega) (by omega)
theorem afz {p:Pol} {o:Option Fa} {x:In} (h:x∈t7 p o):vJ p 7 x:=by
 obtain⟨t,ht,_,_,h⟩:=ig.1 h
 obtain⟨s,Aa,JK,h⟩:=eS.1 h
 obtain⟨_,rfl⟩:=lZ.1 h
 refine⟨rfl,by simp[i7],by simp[i7],fun f hf=>?_,fun f hf=>?_⟩
 ·simp only[i7,aK,bn,dc] at hf
  subst hf
  exact lK (v:=s) (t:=t) (by omega) (by omega)
 ·simp only[i7,aK,bn,dc] at hf
  subst hf
  exact Cd (v:=s) (w:=0) (by omega) (by omega)
theorem afA {p:Pol} {o:Option Fa} {x:In} (h:x∈t8 p o):vJ p 8 x:=by
 obtain⟨a,b,_,ha,hb,_,h⟩:=ga.1 h
 obtain⟨v,w,hv,yE,JL,h⟩:=mT.1 h
 obtain⟨_,rfl⟩:=lZ.1 h
 refine⟨rfl,by simp[i8],by simp[i8],fun f hf=>?_,fun f hf=>?_⟩
 ·simp only[i8,aK,bn,dc] at hf
  rcases hf with rfl | rfl
  ·exact lK (v:=v) (t:=a) (by omega) (by omega)
  ·exact lK (v:=w) (t:=b) (by omega) (by omega)
 ·simp only[i8,aK,bn,dc] at hf
  subst hf
  exact Cd (v:=v) (w:=w) (by omega) (by omega)
theorem afB {p:Pol} {o:Option Fa} {x:In} (h:x∈t9 p o):vJ p 9 x:=by
 obtain⟨t,ht,_,_,h⟩:=ig.1 h
 obtain⟨v,w,hv,yE,JL,h⟩:=mT.1 h
 obtain⟨_,rfl⟩:=lZ.1 h
 refine⟨rfl,by simp[i9],by simp[i9],fun f hf=>?_,fun f hf=>?_⟩
 ·simp only[i9,aK,bn,dc] at hf
  rcases hf with rfl | rfl
  ·exact lK (v:=v) (t:=t) (by omega) (by omega)
  ·exact Cd (v:=v) (w:=w) (by omega) (by omega)
 ·simp only[i9,aK,bn,dc] at hf
  subst hf
  exact Ce (s:=w) (by omega) (by omega)
theorem aai {p:Pol} {o:Option Fa} {x:In} (h:x∈t10 p o):vJ p 10 x:=by
 obtain⟨a,b,_,ha,hb,_,h⟩:=ga.1 h
 obtain⟨v,w,hv,yE,JL,h⟩:=mT.1 h
 obtain⟨hn,_,rfl⟩:=aah.1 h
 unfold i10
 split
 ·rename_i hw
  refine⟨rfl,by simp,by simp,fun f hf=>?_,fun f hf=>?_⟩
  ·simp only[aK,bn,dc] at hf
   rcases hf with rfl | rfl
   ·exact lK hv (by omega)
   ·exact Cd hv JL
  ·simp only[aK,bn,dc] at hf
   rcases hf with rfl | rfl
   ·exact lK JL (by omega)
   ·exact aiN hw JL
 ·refine⟨rfl,by simp,by simp,fun f hf=>?_,fun f hf=>?_⟩
  ·simp only[aK,bn,dc] at hf
   rcases hf with rfl | rfl
   ·exact lK hv (by omega)
   ·exact Cd hv JL
  ·simp only[aK,bn,dc] at hf
   subst hf
   exact lK JL (by omega)
theorem aaj {p:Pol} {o:Option Fa} {x:In} (h:x∈t11 p o):vJ p 11 x:=by
 obtain⟨a,b,_,ha,hb,_,h⟩:=ga.1 h
 obtain⟨_,rfl⟩:=lZ.1 h
 refine⟨rfl,by simp[i11],by simp[i11],fun f hf=>?_,fun f hf=>?_⟩
 ·simp only[i11,aK,bn,dc] at hf
  subst hf
  exact lK (v:=0) (t:=a) (by omega) (by omega)
 ·simp only[i11,aK,bn,dc] at hf
  subst hf
  exact lK (v:=0) (t:=b) (by omega) (by omega)
theorem aak {p:Pol} {o:Option Fa} {x:In} (h:x∈t12 p o):vJ p 12 x:=by
 obtain⟨a,b,_,ha,hb,_,h⟩:=ga.1 h
 obtain⟨s,Aa,JK,h⟩:=eS.1 h
 obtain⟨_,rfl⟩:=lZ.1 h
 refine⟨rfl,by simp[i12],by simp[i12],fun f hf=>?_,fun f hf=>?_⟩
 ·simp only[i12,aK,bn,dc] at hf
  rcases hf with rfl | rfl
  ·exact lK (v:=0) (t:=a) (by omega) (by omega)
  ·exact lK (v:=s) (t:=b) (by omega) (by omega)
 ·simp only[i12,aK,bn,dc] at hf
  subst hf
  exact Ce (s:=s) (by omega) (by omega)
theorem aal {p:Pol} {o:Option Fa} {x:In} (h:x∈t13 p o):vJ p 13 x:=by
 obtain⟨t,ht,_,_,h⟩:=ig.1 h
 obtain⟨s,Aa,JK,h⟩:=eS.1 h
 obtain⟨_,rfl⟩:=lZ.1 h
 refine⟨rfl,by simp[i13],by simp[i13],fun f hf=>?_,fun f hf=>?_⟩
 ·simp only[i13,aK,bn,dc] at hf
  rcases hf with rfl | rfl
  ·exact Ce (s:=s) (by omega) (by omega)
  ·exact lK (v:=s) (t:=t) (by omega) (by omega)
 ·simp only[i13,aK,bn,dc] at hf
  subst hf
  exact lK (v:=0) (t:=t) (by omega) (by omega)
theorem aam {p:Pol} {o:Option Fa} {x:In} (h:x∈t14 o):vJ p 14 x:=by
 obtain⟨_,rfl⟩:=lZ.1 h
 refine⟨rfl,by simp[i14],by simp[i14],fun f hf=>?_,fun f hf=>?_⟩
 ·cases hf
 ·simp only[i14,aK,bn,dc] at hf
  subst hf
  exact Cd (v:=0) (w:=0) (by omega) (by omega)
theorem aan {p:Pol} {o:Option Fa} {x:In} (h:x∈t15 p o):vJ p 15 x:=by
 obtain⟨s,Aa,JK,h⟩:=eS.1 h
 obtain⟨_,rfl⟩:=lZ.1 h
 refine⟨rfl,by simp[i15],by simp[i15],fun f hf=>?_,fun f hf=>?_⟩
 ·simp only[i15,aK,bn,dc] at hf
  subst hf
  exact Cd (v:=0) (w:=s) (by omega) (by omega)
 ·simp only[i15,aK,bn,dc] at hf
  subst hf
  exact Ce (s:=s) (by omega) (by omega)
theorem IW {p:Pol} {o:Option Fa} {x:In} (h:x∈gp p o):∃ k,1≤k∧k≤15∧vJ p k x:=by
 rw[Nr] at h
 rcases h with h | h | h | h | h | h | h | h | h | h | h | h | h | h | h
 ·exact⟨1,by decide,by decide,aft (p:=p) h⟩
 ·exact⟨2,by decide,by decide,afu (p:=p) h⟩
 ·exact⟨3,by decide,by decide,afv (p:=p) h⟩
 ·exact⟨4,by decide,by decide,afw (p:=p) h⟩
 ·exact⟨5,by decide,by decide,afx (p:=p) h⟩
 ·exact⟨6,by decide,by decide,afy (p:=p) h⟩
 ·exact⟨7,by decide,by decide,afz (p:=p) h⟩
 ·exact⟨8,by decide,by decide,afA (p:=p) h⟩
 ·exact⟨9,by decide,by decide,afB (p:=p) h⟩
 ·exact⟨10,by decide,by decide,aai (p:=p) h⟩
 ·exact⟨11,by decide,by decide,aaj (p:=p) h⟩
 ·exact⟨12,by decide,by decide,aak (p:=p) h⟩
 ·exact⟨13,by decide,by decide,aal (p:=p) h⟩
 ·exact⟨14,by decide,by decide,aam (p:=p) h⟩
 ·exact⟨15,by decide,by decide,aan (p:=p) h⟩
theorem l0 {p:Pol} {o:Option Fa}:nG (gp p o):=fun x hx=>by
 obtain⟨k,_,_,h⟩:=IW hx
 exact⟨h.pre,h.con.2⟩
