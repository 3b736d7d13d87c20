/- The engine of layer 17: classes, ruled. -/
import Derived.Test.YtjfjdomfldolcaaGreatVlE2
set_option maxHeartbeats 2000000
set_option linter.all false
namespace Go.Proofs.YtjfjdomfldolcaaGreat
open Go Go.Vl
variable {G:Gl}
set_option maxRecDepth 4000
def bV (n:Nat) (D:Nat→List In) (v:Nat):List In:=(List.range' v (n+1 - v)).flatMap D
theorem fw {n:Nat} {D:Nat→List In} {v:Nat} (h:v≤n):bV n D v=D v++bV n D (v+1):=by
 unfold bV
 have:n+1 - v=(n+1 - (v+1))+1:=by omega
 rw[this,iA,fE]
theorem gB {n:Nat} {D:Nat→List In} {v:Nat} (h:n<v):bV n D v=[]:=by
 have:n+1 - v=0:=by omega
 simp[bV,this]
def Ea:=jj @pkA (jj @ptA @pkE)
theorem jr {τ:Type} (Y:Ys τ) (p:Pol) (hp:p.types.length≤9223372036854775806) (o:Option Fa) (first:Nat) (NR:first≤1) (more:List (List V)) (Ad:ltL (kx Y.k (eng p o::more).length) more) (f:V) (D:Nat→List In) (hD:Do1 G Y (eng p o::more) f (fun t=>first≤t∧t≤p.types.length) D) (s:τ)
 (hF:Fut G Y s (bV p.types.length D first)) :
 FnR G Y 116 [.bp (kx Y.k 0) 0,i64 (first:Int),f] s (bV p.types.length D first) (eng p o::more):=by
 obtain⟨g,caps,rfl,jI,JP,eH⟩:=hD
 generalize hm:(eng p o::more).length=m at Ad jI
 have Mf:0<m:=by rw[← hm];simp
 have dV:ltL (kx Y.k m) (eng p o::more):=fun b hb x hx=>by
  rcases aK.1 hb with rfl | hb
  ·exact(wI Y.pos x hx).mono (by simp[kx])
  ·exact Ad b hb x hx
 have GG:(V.clo (.func g) [] caps).lt (kx Y.k m):=⟨fun x hx=>(by cases hx),jI⟩
 have tO:(V.bp (kx Y.k 0) 0).lt (kx Y.k m):=by simp only[V.lt,kz];exact Mf
 refine dt (m:=m) (rs:=[.tmp 6]) [1500019] mixed Tryz.func116 rfl rfl rfl rfl (by kernel_rfl) (by simp) hm dV (fun x hx=>?_) ?_
 ·simp only[aK,bn,dc] at hx
  rcases hx with rfl | rfl | rfl
  ·exact tO
  ·trivial
  ·exact GG
 have cg:∀ s,(Y.yb s++(eng p o::more)).length=kx Y.k m:=fun s=>by rw[AV,hm]
 have h0:(0<m)=True:=by simp[Mf]
 simp only[pkA,seval,bk0 (Y.len _)]
 refine bE (fun x:Nat×τ=>hdS [(0,.bp (kx Y.k 0) 0),(2,.clo (.func g) [] caps),(7,i64 x.1)] (Y.yb x.2++(eng p o::more))) (fun x=>p.types.length+1 - x.1)
  (fun x=>(first≤x.1∧x.1≤p.types.length+1)∧Fut G Y x.2 (bV p.types.length D x.1)∧∀ u b,Y.run x.2 (bV p.types.length D x.1) u b→Y.run s (bV p.types.length D first) u b) (first,s) ⟨⟨ab _,by omega⟩,hF,fun _ _ h=>h⟩ ?_ ?_
 ·exact Ir hm dV (eR tO (eR GG (eR trivial uD))) (by simp[FL,ak])
 rintro⟨i,s'⟩ ⟨⟨kP,hi⟩,AB,qz⟩ R cj cJ eP
 simp only at hi AB qz kP
 simp only[Ea,seval,bk0 (Y.len _),h0,cg]
 refine aT (fun bK=>?_) (fun gr=>?_)
 ·have bK:i≤p.types.length:=by simp at bK;omega
  rw[fw bK] at qz AB
  have hw:=bG (n:=(i:Int)+1) (k:=i+1) (by omega) (by omega)
  simp only[pkA,seval,bk0 (Y.len _)]
  refine dy rfl (eH s' i ⟨kP,bK⟩ AB.app.1) (by simp[V.fz,JP]) hm fun t b hR=>?_
  cases b with
  |false=>
   simp only[pkA,seval,bk0 (Y.len _)]
   refine eP _ ?_
   simp only[pkA,bk0 (Y.len _)]
   exact iq (qz _ _ (AU hR)) rfl hm dV (by simp[])
  |true=>
   simp only[pkA,seval,bk0 (Y.len _)]
   exact cj (i+1,_) _ ⟨⟨by omega,by omega⟩,AB.app.2 _ hR,fun u b h=>qz u b (AS hR h)⟩ (by simp only;omega) (Ir hm dV (eR tO (eR GG (eR trivial uD))) (by simp[FL,ak,hw]))
 ·have:p.types.length<i:=by simp at gr;omega
  rw[gB this] at qz
  simp only[pkA,bk0 (Y.len _)]
  refine cJ _ _ ?_
  simp only[pkA,seval,bk0 (Y.len _)]
  exact iq (qz _ _ (.nil s')) rfl hm dV (by simp[])
theorem Lp {τ:Type} {Y:Ys τ} {s:τ} {p:Pol} {o:Option Fa} {l:List Int} {rest:List (List V)} {f:V} {args all:List V} {n:Nat} {fr:Nat→V} {K:S→V→Prop} (hc:gv f args=some (155,all))
 (eF:all.map V.fz=[.bp (kx Y.k 0) 0,.c (.sl (l.map fun y=>[cI y]))]) (hm:l.length≤9223372036854775807) (hn:rest.length+1=n) (hK:K ⟨fr,bxs (Y.yb s++eng p o::rest),kx Y.k n⟩ (bo (nC o l))):vcallB Tryz.prog G ⟨fr,bxs (Y.yb s++eng p o::rest),kx Y.k n⟩ f args K:=
 DY (ls:=[eng p o]) (rest:=rest) hc (Ip Y s p o l hm) eF (Y.len _) (Y.len _) (Y.lt _) hn (fun _=>rfl) hK
theorem Lq {τ:Type} {Y:Ys τ} {s:τ} {L:List In} {g:FuncId} {E c:List V} {more:List (List V)} {f:V} {args all cargs:List V} {m:Nat} {fr:Nat→V} {K:S→V→Prop} (hc:gv f args=some (g,all)) (hf:FnR G Y g cargs s L (E::more)) (eF:all.map V.fz=cargs)
 (hn:(E::more).length=m) (hK:∀ t b,Y.run s L t b→K ⟨fr,bxs (Y.yb t++E::(more++[c])),kx Y.k (m+1)⟩ (bo b)):kJ Tryz.prog G ⟨fr,bxs (Y.yb s++E::(more++[c])),kx Y.k (m+1)⟩ f args K:=
 nD (ls:=E::more) (rest:=[c]) hc hf eF (by rw[ai,hn];rfl) hK
structure Do2 (G:Gl) {τ:Type} (Y:Ys τ) (ls:List (List V)) (f:V) (R:Nat→Nat→Prop) (D:Nat→Nat→List In) where
 g:FuncId
 caps:List V
 eq:f=.clo (.func g) [] caps
 lt:∀ x∈caps,x.ltP (kx Y.k ls.length)
 fz:caps.map V.fz=caps
 ok:∀ s a b,R a b→Fut G Y s (D a b)→FnR G Y g (i64 (a:Int)::i64 (b:Int)::caps) s (D a b) ls
theorem ZC {a b:Int} {K:V→Prop}:Ah false [i64 a,i64 b] K=K (i64 (min a b)):=by
 have:(if b<a then b else a)=min a b:=by split<;>omega
 rw[← this];rfl
theorem ZD {a b:Int} {K:V→Prop}:Ah true [i64 a,i64 b] K=K (i64 (max a b)):=by
 have:(if a<b then b else a)=max a b:=by split<;>omega
 rw[← this];rfl
def Ar (p:Pol) (kind:Int) (r:Ru):Bool:=decide (r.kind=kind)&&(decide (0≤min r.a r.b)&&decide (max r.a r.b<p.types.length))
def qO (p:Pol) (o:Option Fa) (kind:Int) (D:Nat→Nat→List In) (r:Ru):List In:=if(Ar p kind r&&nC o [r.a,r.b])=true then D r.a.toNat r.b.toNat else[]
def jy (p:Pol) (o:Option Fa) (kind:Int) (D:Nat→Nat→List In) (i:Nat):List In:=(p.rules.drop i).flatMap (qO p o kind D)
theorem Lr {p:Pol} {o:Option Fa} {kind:Int} {D:Nat→Nat→List In} {i:Nat} (h:i<p.rules.length):jy p o kind D i=qO p o kind D p.rules[i]++jy p o kind D (i+1):=by
 unfold jy
 rw[cX h,fE]
theorem PK {p:Pol} {o:Option Fa} {kind:Int} {D:Nat→Nat→List In}:jy p o kind D p.rules.length=[]:=by simp[jy]
section
variable {r:Ru} {n k j:Nat} {K:V→Prop}
theorem akE:ldB (kx k n) (kx k j) ((ruC r).map .c) 0 K=(j<n∧K (i64 r.kind)):=by unfold ldB;rw[kz];rfl
theorem akF:ldB (kx k n) (kx k j) ((ruC r).map .c) 1 K=(j<n∧K (i64 r.a)):=by unfold ldB;rw[kz];rfl
theorem akG:ldB (kx k n) (kx k j) ((ruC r).map .c) 2 K=(j<n∧K (i64 r.b)):=by unfold ldB;rw[kz];rfl
theorem mru:cy ((ruC r).map V.c)=false:=rfl
theorem sru {a b c:C}:fj [V.c a,.c b,.c c] 0 ((ruC r).map .c)=(ruC r).map .c:=rfl
def pkR:=jj @akE (jj @akF (jj @akG (jj @mru @sru)))
end
theorem pV {τ:Type} (Y:Ys τ) (p:Pol) (hp:p.types.length≤9223372036854775806) (hr:p.rules.length≤9223372036854775806) (o:Option Fa) (kind:Int) (more:List (List V)) (Ad:ltL (kx Y.k (eng p o::more).length) more) (f:V) (D:Nat→Nat→List In) (hD:Do2 G Y (eng p o::more) f (fun a b=>a<p.types.length∧b<p.types.length) D) (s:τ)
 (hF:Fut G Y s (jy p o kind D 0)) :
 FnR G Y 114 [.bp (kx Y.k 0) 0,i64 kind,f] s (jy p o kind D 0) (eng p o::more):=by
 obtain⟨g,caps,rfl,jI,JP,eH⟩:=hD
 generalize hm:(eng p o::more).length=m at Ad jI
 have Mf:0<m:=by rw[← hm];simp
 have dV:ltL (kx Y.k m) (eng p o::more):=fun b hb x hx=>by
  rcases aK.1 hb with rfl | hb
  ·exact(wI Y.pos x hx).mono (by simp[kx])
  ·exact Ad b hb x hx
 have GG:(V.clo (.func g) [] caps).lt (kx Y.k m):=⟨fun x hx=>(by cases hx),jI⟩
 have tO:(V.bp (kx Y.k 0) 0).lt (kx Y.k m):=by simp only[V.lt,kz];exact Mf
 refine dt (m:=m) (rs:=[.tmp 6]) [1000052,1500060] mixed Tryz.func114 rfl rfl rfl rfl (by kernel_rfl) (by simp) hm dV (fun x hx=>?_) ?_
 ·simp only[aK,bn,dc] at hx
  rcases hx with rfl | rfl | rfl
  ·exact tO
  ·trivial
  ·exact GG
 have cg:∀ s,(Y.yb s++(eng p o::more)).length=kx Y.k m:=fun s=>by rw[AV,hm]
 have h0:(0<m)=True:=by simp[Mf]
 have h1:(0<m+1)=True:=by simp
 have h2:(m<m+1)=True:=by simp
 have n1:∀ (s:τ) (x:List V),up (bxs (Y.yb s++(eng p o::more))) (kx Y.k m) x=bxs (Y.yb s++(eng p o::(more++[x]))):=fun s x=>ac1 (Y.len s) hm
 have n2:∀ (s:τ) (x:List V),bxs (Y.yb s++(eng p o::(more++[x]))) (kx Y.k m)=x:=fun s x=>ac2 (Y.len s) hm
 have n3:∀ (s:τ) (c x:List V),up (bxs (Y.yb s++(eng p o::(more++[c])))) (kx Y.k m) x=bxs (Y.yb s++(eng p o::(more++[x]))):=fun s c x=>ac3 (Y.len s) hm
 simp only[Ea,seval,bk0 (Y.len _),h0]
 refine bE (fun x:Nat×τ=>hdS [(0,.bp (kx Y.k 0) 0),(1,i64 kind),(2,.clo (.func g) [] caps),(14,.c (.sl (p.rules.map ruC))),(15,i64 p.rules.length),(16,i64 x.1)] (Y.yb x.2++(eng p o::more))) (fun x=>p.rules.length - x.1)
  (fun x=>x.1≤p.rules.length∧Fut G Y x.2 (jy p o kind D x.1)∧∀ u b,Y.run x.2 (jy p o kind D x.1) u b→Y.run s (jy p o kind D 0) u b) (0,s) ⟨ar _,hF,fun _ _ h=>h⟩ ?_ ?_
 ·exact Ir hm dV (eR tO (eR trivial (eR GG (eR trivial (eR trivial (eR trivial uD)))))) (by simp[FL,ak])
 rintro⟨i,s'⟩ ⟨hi,AB,qz⟩ R cj cJ eP
 simp only at hi AB qz
 simp only[pkA,seval,bk0 (Y.len _),cg]
 refine aT (fun bK=>?_) (fun gr=>?_)
 ·have bK:i<p.rules.length:=by simpa using bK
  rw[Lr bK] at AB qz
  have hw:=bG (n:=(i:Int)+1) (k:=i+1) (by omega) (by omega)
  have next:∀ (fr:Nat→V) (s2:τ) (c:List V),fr 0=.bp (kx Y.k 0) 0→fr 1=i64 kind→fr 2=.clo (.func g) [] caps→fr 14=.c (.sl (p.rules.map ruC))→fr 15=i64 p.rules.length→fr 16=i64 ((i+1:Nat):Int)→Fut G Y s2 (jy p o kind D (i+1))→(∀ u b,Y.run s2 (jy p o kind D (i+1)) u b→Y.run s (jy p o kind D 0) u b)→
   R .normal ⟨fr,bxs (Y.yb s2++(eng p o::(more++[c]))),kx Y.k (m+1)⟩:=fun fr s2 c h1 h2 h3 h4 h5 h6 h7 h8=>
   cj (i+1,s2) _ ⟨bK,h7,h8⟩ (by simp only;omega) (aeR (rest:=[c]) hm (by rw[ai,hm];rfl) dV (eR tO (eR trivial (eR GG (eR trivial (eR trivial (eR trivial uD)))))) (by simp[FL,h1,h2,h3,h4,h5,h6]))
  have skip:qO p o kind D p.rules[i]=[]→Fut G Y s' (jy p o kind D (i+1))∧∀ u b,Y.run s' (jy p o kind D (i+1)) u b→Y.run s (jy p o kind D 0) u b:=fun h=>by
   rw[h] at AB qz;exact⟨AB,qz⟩
  simp only[pkA,seval,bk0 (Y.len _)]
  refine dR lJ rfl jZ (by decide) (aA i) (c:=ruC p.rules[i]) (by simp[bK]) rfl ?_
  generalize p.rules[i]=r at *
  have hl3:∀ a b c:C,[V.c a,.c b,.c c].length=3:=fun _ _ _=>rfl
  simp only[hl3,pkA,ptA,pkE,pkR,seval,bk0 (Y.len _),ake (Y.len _),h2,n1,n2,n3,kz,fp]
  have no:Ar p kind r=false→qO p o kind D r=[]:=fun h=>by simp[qO,h]
  refine fY (fun hk=>?_) (fun hk=>?_)
  ·simp only[ZC,Ea,seval,bk0 (Y.len _),h2,n2,kz]
   refine fY (fun aa6=>?_) (fun aa6=>?_)
   ·simp only[ZD,Ea,seval,bk0 (Y.len _),h1,h2,n2,kz]
    have his:Ar p kind r=decide (max r.a r.b<(p.types.length:Int)):=by simp[Ar,hk,aa6]
    refine fY (fun Cy=>?_) (fun Cy=>?_)
    ·have his:Ar p kind r=true:=by rw[his];exact Cy
     simp only[Ea,seval,bk0 (Y.len _),h2,n2,kz]
     refine Lp (l:=[r.a,r.b]) rfl rfl (by simp) (by simp at hm ⊢;omega) ?_
     simp only[pkA,seval,bk0 (Y.len _)]
     refine fY (fun ha=>?_) (fun ha=>?_)
     ·have hT:qO p o kind D r=D r.a.toNat r.b.toNat:=by simp[qO,his,ha]
      rw[hT] at AB qz
      have hlo:0≤min r.a r.b:=by simpa using aa6
      have WA:max r.a r.b<(p.types.length:Int):=by simpa using Cy
      have ea:((r.a.toNat:Nat):Int)=r.a:=by omega
      have eb:((r.b.toNat:Nat):Int)=r.b:=by omega
      have hc:=eH s' r.a.toNat r.b.toNat ⟨by omega,by omega⟩ AB.app.1
      rw[ea,eb] at hc
      simp only[Ea,seval,bk0 (Y.len _),h2,n2,kz]
      refine Lq rfl hc (by simp[V.fz,JP]) hm fun t b hR=>?_
      cases b with
      |false=>
       simp only[pkA,seval,bk0 (Y.len _)]
       refine eP _ ?_
       simp only[pkA,bk0 (Y.len _)]
       exact fD (rest:=[(ruC r).map .c]) (qz _ _ (AU hR)) rfl hm (by rw[ai,hm];rfl) dV (by simp[])
      |true=>
       simp only[pkA,seval,bk0 (Y.len _)]
       exact next _ _ _ (by simp[ak]) (by simp[ak]) (by simp[ak]) (by simp[ak]) (by simp[ak]) (by simp[hw]) (AB.app.2 _ hR) (fun u b h=>qz u b (AS hR h))
     ·have hT:qO p o kind D r=[]:=by simp[qO,ha]
      simp only[pkA,seval,bk0 (Y.len _)]
      exact next _ _ _ (by simp[ak]) (by simp[ak]) (by simp[ak]) (by simp[ak]) (by simp[ak]) (by simp[hw]) (skip hT).1 (skip hT).2
    ·have hT:=no (by rw[his];exact Cy)
     simp only[pkA,seval,bk0 (Y.len _)]
     exact next _ _ _ (by simp[ak]) (by simp[ak]) (by simp[ak]) (by simp[ak]) (by simp[ak]) (by simp[hw]) (skip hT).1 (skip hT).2
   ·have hT:=no (by simp[Ar,aa6])
    simp only[pkA,seval,bk0 (Y.len _)]
    exact next _ _ _ (by simp[ak]) (by simp[ak]) (by simp[ak]) (by simp[ak]) (by simp[ak]) (by simp[hw]) (skip hT).1 (skip hT).2
  ·have hT:=no (by simp[Ar];simp at hk;intro h;exact absurd h hk)
   simp only[pkA,seval,bk0 (Y.len _)]
   exact next _ _ _ (by simp[ak]) (by simp[ak]) (by simp[ak]) (by simp[ak]) (by simp[ak]) (by simp[hw]) (skip hT).1 (skip hT).2
 ·have:i=p.rules.length:=by simp at gr;omega
  subst this
  rw[PK] at qz
  simp only[pkA,bk0 (Y.len _)]
  refine cJ _ _ ?_
  simp only[pkA,seval,bk0 (Y.len _)]
  exact iq (qz _ _ (.nil s')) rfl hm dV (by simp[])
theorem pkB {τ:Type} (Y:Ys τ) (s:τ):type_of% (And.intro (@bk0 _ _ (Y.len s)) (And.intro (@bk1 _ _ (Y.len s)) (And.intro (@bk2 _ _ (Y.len s)) (And.intro (@bk3 _ _ (Y.len s)) (And.intro (@bk4 _ _ (Y.len s)) (And.intro (@bk5 _ _ (Y.len s)) (And.intro (@bk6 _ _ (Y.len s)) (And.intro (@bk7 _ _ (Y.len s)) (And.intro (@bk8 _ _ (Y.len s)) (And.intro (@uk0 _ _ (Y.len s)) (And.intro (@uk1 _ _ (Y.len s)) (And.intro (@uk2 _ _ (Y.len s)) (And.intro (@uk3 _ _ (Y.len s)) (And.intro (@uk4 _ _ (Y.len s)) (And.intro (@uk5 _ _ (Y.len s)) (And.intro (@uk6 _ _ (Y.len s)) (And.intro (@uk7 _ _ (Y.len s)) (And.intro (@uk8 _ _ (Y.len s)) (And.intro (@nk0 _ _ (Y.len s)) (And.intro (@nk1 _ _ (Y.len s)) (And.intro (@nk2 _ _ (Y.len s)) (And.intro (@nk3 _ _ (Y.len s)) (And.intro (@nk4 _ _ (Y.len s)) (And.intro (@nk5 _ _ (Y.len s)) (And.intro (@nk6 _ _ (Y.len s)) (And.intro (@nk7 _ _ (Y.len s)) (@nk8 _ _ (Y.len s)))))))))))))))))))))))))))):=And.intro (@bk0 _ _ (Y.len s)) (And.intro (@bk1 _ _ (Y.len s)) (And.intro (@bk2 _ _ (Y.len s)) (And.intro (@bk3 _ _ (Y.len s)) (And.intro (@bk4 _ _ (Y.len s)) (And.intro (@bk5 _ _ (Y.len s)) (And.intro (@bk6 _ _ (Y.len s)) (And.intro (@bk7 _ _ (Y.len s)) (And.intro (@bk8 _ _ (Y.len s)) (And.intro (@uk0 _ _ (Y.len s)) (And.intro (@uk1 _ _ (Y.len s)) (And.intro (@uk2 _ _ (Y.len s)) (And.intro (@uk3 _ _ (Y.len s)) (And.intro (@uk4 _ _ (Y.len s)) (And.intro (@uk5 _ _ (Y.len s)) (And.intro (@uk6 _ _ (Y.len s)) (And.intro (@uk7 _ _ (Y.len s)) (And.intro (@uk8 _ _ (Y.len s)) (And.intro (@nk0 _ _ (Y.len s)) (And.intro (@nk1 _ _ (Y.len s)) (And.intro (@nk2 _ _ (Y.len s)) (And.intro (@nk3 _ _ (Y.len s)) (And.intro (@nk4 _ _ (Y.len s)) (And.intro (@nk5 _ _ (Y.len s)) (And.intro (@nk6 _ _ (Y.len s)) (And.intro (@nk7 _ _ (Y.len s)) (@nk8 _ _ (Y.len s)))))))))))))))))))))))))))
section
variable {τ:Type} {Y:Ys τ} {s:τ} {p:Pol} {o:Option Fa} {x:In} {f:V} {args all:List V} {fr:Nat→V} {K:S→V→Prop}
theorem ir {rest:List (List V)} {n:Nat} (x:In) (hm:x.pre.length≤9223372036854775807) (hF:Fut G Y s (emL o x)) (hc:gv f args=some (111,all))
 (eF:all.map V.fz=[.bp (kx Y.k 0) 0,i64 x.rule,.c (fsC x.pre),.c (fsC x.con)]) (hn:rest.length+1=n)
 (hK:∀ t b,Y.run s (emL o x) t b→K ⟨fr,bxs (Y.yb t++eng p o::rest),kx Y.k n⟩ (bo b)):kJ Tryz.prog G ⟨fr,bxs (Y.yb s++eng p o::rest),kx Y.k n⟩ f args K:=
 nD (ls:=[eng p o]) (rest:=rest) hc (Iq Y s p o x hm hF) eF hn hK
theorem wJ {rest:List (List V)} {n:Nat} (x:In) (hm:x.pre=[]) (hF:Fut G Y s (emL o x)) (hc:gv f args=some (111,all))
 (eF:all.map V.fz=[.bp (kx Y.k 0) 0,i64 x.rule,.c (.ex (.slice none 0 0)),.c (fsC x.con)]) (hn:rest.length+1=n)
 (hK:∀ t b,Y.run s (emL o x) t b→K ⟨fr,bxs (Y.yb t++eng p o::rest),kx Y.k n⟩ (bo b)):kJ Tryz.prog G ⟨fr,bxs (Y.yb s++eng p o::rest),kx Y.k n⟩ f args K:=
 nD (ls:=[eng p o]) (rest:=rest) hc (show FnR G Y 111 [.bp (kx Y.k 0) 0,i64 x.rule,.c (.ex (.slice none 0 0)),.c (fsC x.con)] s (emL o x) [eng p o] from YC (Iq Y s p o x (by rw[hm];decide) hF) rfl fun j x' x hj EO=>by
  match j,hj,EO with
  |0,hj,EO=>cases hj;cases EO;exact .inl rfl
  |1,hj,EO=>cases hj;cases EO;exact .inl rfl
  |2,hj,EO=>cases hj;cases EO;rw[hm];exact .inr ⟨rfl,rfl⟩
  |3,hj,EO=>cases hj;cases EO;exact .inl rfl
  |j+4,hj,_=>simp at hj) eF hn hK
end
def bS (k:Nat):List V:=[.bp (kx k 0) 0]
def bU (n:Nat):List V:=[i64 (n:Int)]
section
variable {k n j:Nat} {K:V→Prop} {t:Nat}
theorem lev:ldB (kx k n) (kx k j) (bS k) 0 K=(j<n∧K (.bp (kx k 0) 0)):=by unfold ldB;rw[kz];rfl
theorem lnv:ldB (kx k n) (kx k j) (bU t) 0 K=(j<n∧K (i64 (t:Int))):=by unfold ldB;rw[kz];rfl
theorem mev:cy (bS k)=false:=rfl
theorem mnv:cy (bU t)=false:=rfl
theorem fev:[V.bp (kx k 0) 0]=bS k:=rfl
theorem fnv:[V.c (.lit (.int .i64 (t:Int)))]=bU t:=rfl
theorem cA {m:Nat} (h:0<m):∀ x∈bS k,x.lt (kx k m):=fun x hx=>by
 simp only[bS,a7] at hx;subst hx;simp only[V.lt,kz];exact h
theorem cV {m:Nat}:∀ x∈bU t,x.lt m:=fun x hx=>by
 simp only[bU,a7] at hx;subst hx;trivial
end
def pkV:=jj @lev (jj @lnv (jj @mev @mnv))
theorem cM {m:Nat}:ltL m []:=fun _ h=>by cases h
theorem aG {m:Nat} {b:List V} {l:List (List V)} (h:∀ x∈b,x.lt m) (h2:ltL m l):ltL m (b::l):=fun c hc x hx=>by
 rcases aK.1 hc with rfl | hc
 ·exact h x hx
 ·exact h2 c hc x hx
theorem cO {p:Pol} {o:Option Fa} {k m:Nat} (hk:0<k):∀ x∈eng p o,x.lt (kx k m):=fun x hx=>(wI hk x hx).mono (by simp[kx])
theorem eD {m:Nat}:∀ x∈([]:List V),x.lt m:=fun _ h=>by cases h
theorem bz {m:Nat} {a:V} {l:List V} (h:a.lt m) (h2:∀ x∈l,x.lt m):∀ x∈a::l,x.lt m:=fun q hq=>by
 rcases aK.1 hq with rfl | hq
 ·exact h
 ·exact h2 q hq
theorem ec {k i j m:Nat} (h:i<m):(V.bp (kx k i) j).lt (kx k m):=by simp only[V.lt,kz];exact h
