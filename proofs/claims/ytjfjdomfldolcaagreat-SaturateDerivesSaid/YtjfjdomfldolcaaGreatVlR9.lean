/- Layer 17, the specification: the rules 6 to 10. Printed by genr8.py. -/
import Derived.Test.YtjfjdomfldolcaaGreatVlR8
set_option linter.all false
namespace Go.Proofs.YtjfjdomfldolcaaGreat
open Go Go.Vl
variable {G:Gl}
set_option maxRecDepth 4000
theorem U2 {n a b v w:Nat} (hv:v=0) (hw:0<w):bV n (fun s1=>r10 none a b v s1) w=[]:=by
 unfold bV
 rw[List.flatMap_eq_nil_iff]
 intro x hx
 rw[jN] at hx
 unfold r10;rw[if_pos ⟨by omega,hv⟩]
theorem abE (x:In):(inC x).map C.wk=inC x:=rfl
theorem U3 {p:Pol} {es:List In} {a b s0 s1:Nat} (h:s1=0):(lbh p es ⟨10,[bu s0 a,gi s0 s1],[bu s1 b]⟩).set 5 (.ow (some (41,3)) ((es.map inC++[LO ⟨10,[bu s0 a,gi s0 s1],[bu s1 b]⟩]).map (·.map C.wk)))=lbx p (es++[i10 a b s0 s1]):=by
 subst h
 unfold lbh lbx owI
 simp only[ju,ky,dj,gG,bA,lG]
 have e:(fun e:List C=>e.map C.wk)∘inC=inC:=by funext x;exact abE x
 rw[e]
 have h2:(es++[i10 a b s0 0]).isEmpty=false:=by cases es<;>rfl
 rw[h2]
 rfl
theorem afr {p:Pol} {es:List In} {a b s0 s1:Nat} {v0 v1:V} (h:0<s1):(((lbh p es ⟨10,[bu s0 a,gi s0 s1],[bu s1 b]⟩).set 5 v0).set 5 v1).set 5 (.ow (some (41,3)) ((es.map inC++[(LO ⟨10,[bu s0 a,gi s0 s1],[bu s1 b]⟩).set 2 (.sl [faC (bu s1 b),faC (pR s1)])]).map (·.map C.wk)))=lbx p (es++[i10 a b s0 s1]):=by
 unfold lbh lbx owI
 simp only[ju,ky,dj,gG,bA,lG]
 have e:(fun e:List C=>e.map C.wk)∘inC=inC:=by funext x;exact abE x
 rw[e]
 have h2:(es++[i10 a b s0 s1]).isEmpty=false:=by cases es<;>rfl
 have h3:i10 a b s0 s1=⟨10,[bu s0 a,gi s0 s1],[bu s1 b,pR s1]⟩:=by unfold i10;rw[if_pos h]
 rw[h2,h3]
 rfl
theorem LQ {es:List In}:(es.map inC).flatten.length=es.length*3:=by
 induction es with
 |nil=>rfl
 |cons x l ih=>simp only[bA,cU,ai,ih,AQ,aZ];omega
theorem U4 {es:List In} {x:In}:((es.map inC++[LO x]).flatten)[0+es.length*3+2]?=some (.sx (x.con.map faC)):=by
 rw[dX,aH (by rw[LQ];omega),LQ,show 0+es.length*3+2 - es.length*3=2 by omega]
 rfl
theorem U5 {es:List In}:(es.map inC).flatten.length+2=0+es.length*3+2:=by rw[LQ];omega
theorem afs {x y:Fa} {K:V→Prop} (hK:K (.ow (some (28,3)) [faC x,faC y])):dN Tryz.prog 37 (.ow none [faC x]) (.c (.sl [faC y])) K:=by
 rw[y6]
 exact⟨⟨by simp,fun e he=>by rw[a7] at he;subst he;rfl⟩,⟨by simp,by simp,fun e he=>by rw[a7] at he;subst he;rfl⟩,hK⟩
section
variable {p:Pol} {es:List In} {x:In} {v:Value} {E:Option (TypeId×Nat)} {l:List (List C)} {y:V} {nb q:Nat} {K:V→Prop}
theorem abG:cy ((lbh p es x).set 5 y)=false:=rfl
theorem abH:ldB nb q ((lbh p es x).set 5 (.hh (some v) E l)) 5 K=(q<nb∧K (.c (.ex v))):=rfl
end
def U6:=jj @pkA @pkM
def oW:=jj @pkA (jj @ptA @pkM)
def No:=jj @pkA @ptA
set_option maxHeartbeats 8000000 in
theorem PZ (p:Pol) (es:List In) (hn:p.types.length≤1000) (hr':p.rules.length≤1000) (cg:(es++t6 p none++t7 p none++t8 p none++t9 p none++t10 p none).length<900000) :
 FnB Tryz.prog G 43 [.bp 0 0] [lbx p es] (.tup []) [lbx p (es++t6 p none++t7 p none++t8 p none++t9 p none++t10 p none)]:=by
 simp only[ai] at cg
 refine lW (rs:=[]) (k:=1) [1000019,1000044,1000046,1000071,1000073,1000114,1000116,1000151,1000153,1000202,2300050,2300047,3000001] mixed Tryz.func43 rfl rfl rfl rfl (by kernel_rfl) (by simp) rfl rfl rfl (wR rfl) (ab _) ?_
 simp only[pkA,seval]
 refine eK rfl (qb p (es) 4 (by unfold I64;omega) (by omega)) rfl rfl (by simp[bxs]) ?_
 have hL1:(fgN p 4 p.types.length).length≤1000:=bN vt (by omega)
 simp only[pkA,seval]
 have hf1:(fgN p 4 p.types.length).flatMap (fun t=>m6 p none t)=t6 p none:=uI
 refine bE (fun x:Nat×List In=>hdS [(0,.bp 0 0),(2,.c (tsC (fgN p 4 p.types.length))),(3,i64 x.1)] [lbx p x.2]) (fun x=>(fgN p 4 p.types.length).length - x.1) (fun x=>x.1≤(fgN p 4 p.types.length).length∧x.2++((fgN p 4 p.types.length).drop x.1).flatMap (fun t=>m6 p none t)=es++t6 p none) (0,es) ⟨ar _,by rw[cd,hf1]⟩ ?_ ?_
 ·exact(le1 rfl (ab _) (ab _) (by simp[FL,ak]) (by simp[]))
 rintro⟨i,cur⟩ ⟨hi,hT⟩ R cj cJ eP
 simp only at hi hT
 simp only[U6,seval]
 refine aT (fun bK=>?_) (fun gr=>?_)
 ·have bK:i<(fgN p 4 p.types.length).length:=by simpa using bK
  rw[iM bK] at hT
  have hw:=bG (n:=(i:Int)+1) (k:=i+1) (by omega) (by omega)
  have hl:=dK List.length hT
  simp only[ai] at hl
  obtain⟨t,ht⟩:∃ t,t=(fgN p 4 p.types.length)[i]:=⟨_,rfl⟩
  have rC:t<p.types.length:=by rw[ht];exact Cb _
  rw[← ht] at hT hl
  simp only[pkA,seval]
  rw[show m6 p none t=bV p.types.length (fun s0=>emL none (i6 t s0)) 1 from rfl] at hT hl
  refine bE (fun x:Nat×List In=>hdS [(0,.bp 0 0),(2,.c (tsC (fgN p 4 p.types.length))),(3,i64 i),(4,i64 x.1)] [lbx p x.2]) (fun x=>p.types.length+1 - x.1) (fun x=>(1≤x.1∧x.1≤p.types.length+1)∧x.2++bV p.types.length (fun s0=>emL none (i6 t s0)) x.1=cur++bV p.types.length (fun s0=>emL none (i6 t s0)) 1) (1,cur) ⟨⟨ab _,by omega⟩,rfl⟩ ?_ ?_
  ·exact(le1 rfl (ab _) (ab _) (by simp[FL,ak]) (by simp[bxs]))
  rintro⟨s0,c0⟩ ⟨⟨tD,tE⟩,kQ⟩ R0 j5 kq yA
  simp only at tD tE kQ
  have oD:=dK List.length kQ
  simp only[ai] at oD
  simp only[oW,seval]
  refine aT (fun kp=>?_) (fun tB=>?_)
  ·have kp:s0≤p.types.length:=by simp at kp;omega
   rw[fw kp] at kQ oD
   simp only[ai] at oD
   have yD:=bG (n:=(s0:Int)+1) (k:=s0+1) (by omega) (by omega)
   simp only[pkA,seval]
   have hd:(emL none (i6 t s0)).length=1:=rfl
   repeat first
    |(simp only[oW,seval])
    |refine dR oT rfl rS (by decide) (aA i) (c:=[cI (t:Int)]) (by simp[ht,bK]) rfl ?_
    |refine aB rfl (eO _ _) (fun _=>rfl) ?_
    |refine aB rfl (fZ _ _) (fun _=>rfl) ?_
    |refine aB rfl (gq _) (fun _=>rfl) ?_
    |refine aB rfl (iZ _) (fun _=>rfl) ?_
   refine eK rfl (mS p c0 6 (bu s0 t) zfa (fC s0) (by omega)) rfl rfl (by simp[bxs]) ?_
   have hx:lR 6 (bu s0 t) zfa (fC s0)=i6 t s0:=y9 (by simp[bu])
   rw[hx]
   simp only[pkA,seval,yD]
   exact j5 (s0+1,c0++[i6 t s0]) _ ⟨⟨by omega,by omega⟩,by rw[aI];exact kQ⟩ (by simp only;omega) (le1 rfl (ab _) (ab _) (by simp[FL,ak]) (by simp[]))
  have tC:s0=p.types.length+1:=by simp at tB;omega
  subst tC
  rw[gB (bQ _),bq] at kQ
  subst kQ
  simp only[pkA]
  refine kq _ _ ?_
  simp only[pkA,seval,hw]
  exact cj (i+1,cur++bV p.types.length (fun s0=>emL none (i6 t s0)) 1) _ ⟨bK,by rw[aI];exact hT⟩ (by simp only;omega) (le1 rfl (ab _) (ab _) (by simp[FL,ak]) (by simp[bxs]))
 have kU:i=(fgN p 4 p.types.length).length:=by simp at gr;omega
 subst kU
 rw[eo,eZ,bq] at hT
 subst hT
 simp only[pkA]
 refine cJ _ _ ?_
 simp only[pkA,seval]
 refine eK rfl (qb p (es++t6 p none) 8 (by unfold I64;omega) (by omega)) rfl rfl (by simp[bxs]) ?_
 have hL2:(fgN p 8 p.types.length).length≤1000:=bN vt (by omega)
 simp only[pkA,seval]
 have hf2:(fgN p 8 p.types.length).flatMap (fun t=>m7 p none t)=t7 p none:=uI
 refine bE (fun x:Nat×List In=>hdS [(0,.bp 0 0),(2,.c (tsC (fgN p 8 p.types.length))),(5,i64 x.1)] [lbx p x.2]) (fun x=>(fgN p 8 p.types.length).length - x.1) (fun x=>x.1≤(fgN p 8 p.types.length).length∧x.2++((fgN p 8 p.types.length).drop x.1).flatMap (fun t=>m7 p none t)=es++t6 p none++t7 p none) (0,es++t6 p none) ⟨ar _,by rw[cd,hf2]⟩ ?_ ?_
 ·exact(le1 rfl (ab _) (ab _) (by simp[FL,ak]) (by simp[]))
 rintro⟨i,cur⟩ ⟨hi,hT⟩ R cj cJ eP
 simp only at hi hT
 simp only[U6,seval]
 refine aT (fun bK=>?_) (fun gr=>?_)
 ·have bK:i<(fgN p 8 p.types.length).length:=by simpa using bK
  rw[iM bK] at hT
  have hw:=bG (n:=(i:Int)+1) (k:=i+1) (by omega) (by omega)
  have hl:=dK List.length hT
  simp only[ai] at hl
  obtain⟨t,ht⟩:∃ t,t=(fgN p 8 p.types.length)[i]:=⟨_,rfl⟩
  have rC:t<p.types.length:=by rw[ht];exact Cb _
  rw[← ht] at hT hl
  simp only[pkA,seval]
  rw[show m7 p none t=bV p.types.length (fun s0=>emL none (i7 t s0)) 0 from rfl] at hT hl
  refine bE (fun x:Nat×List In=>hdS [(0,.bp 0 0),(2,.c (tsC (fgN p 8 p.types.length))),(5,i64 i),(6,i64 x.1)] [lbx p x.2]) (fun x=>p.types.length+1 - x.1) (fun x=>(0≤x.1∧x.1≤p.types.length+1)∧x.2++bV p.types.length (fun s0=>emL none (i7 t s0)) x.1=cur++bV p.types.length (fun s0=>emL none (i7 t s0)) 0) (0,cur) ⟨⟨ab _,by omega⟩,rfl⟩ ?_ ?_
  ·exact(le1 rfl (ab _) (ab _) (by simp[FL,ak]) (by simp[bxs]))
  rintro⟨s0,c0⟩ ⟨⟨tD,tE⟩,kQ⟩ R0 j5 kq yA
  simp only at tD tE kQ
  have oD:=dK List.length kQ
  simp only[ai] at oD
  simp only[oW,seval]
  refine aT (fun kp=>?_) (fun tB=>?_)
  ·have kp:s0≤p.types.length:=by simp at kp;omega
   rw[fw kp] at kQ oD
   simp only[ai] at oD
   have yD:=bG (n:=(s0:Int)+1) (k:=s0+1) (by omega) (by omega)
   simp only[pkA,seval]
   have hd:(emL none (i7 t s0)).length=1:=rfl
   repeat first
    |(simp only[oW,seval])
    |refine dR oT rfl rS (by decide) (aA i) (c:=[cI (t:Int)]) (by simp[ht,bK]) rfl ?_
    |refine aB rfl (eO _ _) (fun _=>rfl) ?_
    |refine aB rfl (fZ _ _) (fun _=>rfl) ?_
    |refine aB rfl (gq _) (fun _=>rfl) ?_
    |refine aB rfl (iZ _) (fun _=>rfl) ?_
   refine eK rfl (mS p c0 7 (bu s0 t) zfa (gi s0 0) (by omega)) rfl rfl (by simp[bxs]) ?_
   have hx:lR 7 (bu s0 t) zfa (gi s0 0)=i7 t s0:=y9 (by simp[bu])
   rw[hx]
   simp only[pkA,seval,yD]
   exact j5 (s0+1,c0++[i7 t s0]) _ ⟨⟨by omega,by omega⟩,by rw[aI];exact kQ⟩ (by simp only;omega) (le1 rfl (ab _) (ab _) (by simp[FL,ak]) (by simp[]))
  have tC:s0=p.types.length+1:=by simp at tB;omega
  subst tC
  rw[gB (bQ _),bq] at kQ
  subst kQ
  simp only[pkA]
  refine kq _ _ ?_
  simp only[pkA,seval,hw]
  exact cj (i+1,cur++bV p.types.length (fun s0=>emL none (i7 t s0)) 0) _ ⟨bK,by rw[aI];exact hT⟩ (by simp only;omega) (le1 rfl (ab _) (ab _) (by simp[FL,ak]) (by simp[bxs]))
 have kU:i=(fgN p 8 p.types.length).length:=by simp at gr;omega
 subst kU
 rw[eo,eZ,bq] at hT
 subst hT
 simp only[pkA]
 refine cJ _ _ ?_
 simp only[pkA,seval]
 refine eK rfl (sb p (es++t6 p none++t7 p none) 3 (by omega)) rfl rfl (by simp[bxs]) ?_
 have hL3:(ruR p 3 p.rules.length).length≤1000:=bN qW (by omega)
 simp only[pkA,seval]
 have hf3:(ruR p 3 p.rules.length).flatMap (fun r:Ru=>(fun a b=>m8 p none a b) r.a.toNat r.b.toNat)=t8 p none:=qa (D:=fun a b=>m8 p none a b)
 refine bE (fun x:Nat×List In=>hdS [(0,.bp 0 0),(7,.c (.sl ((ruR p 3 p.rules.length).map ruC))),(8,i64 x.1)] [lbx p x.2]) (fun x=>(ruR p 3 p.rules.length).length - x.1) (fun x=>x.1≤(ruR p 3 p.rules.length).length∧x.2++((ruR p 3 p.rules.length).drop x.1).flatMap (fun r:Ru=>(fun a b=>m8 p none a b) r.a.toNat r.b.toNat)=es++t6 p none++t7 p none++t8 p none) (0,es++t6 p none++t7 p none) ⟨ar _,by rw[cd,hf3]⟩ ?_ ?_
 ·exact(le1 rfl (ab _) (ab _) (by simp[FL,ak]) (by simp[]))
 rintro⟨i,cur⟩ ⟨hi,hT⟩ R cj cJ eP
 simp only at hi hT
 simp only[No,seval]
 refine aT (fun bK=>?_) (fun gr=>?_)
 ·have bK:i<(ruR p 3 p.rules.length).length:=by simpa using bK
  rw[iM bK] at hT
  have hw:=bG (n:=(i:Int)+1) (k:=i+1) (by omega) (by omega)
  have hl:=dK List.length hT
  simp only[ai] at hl
  obtain⟨r,hr⟩:∃ r,r=(ruR p 3 p.rules.length)[i]:=⟨_,rfl⟩
  obtain⟨a,b,ha,hb,han,WG⟩:=wS bK
  have ha:r.a=(a:Int):=by rw[hr];exact ha
  have hb:r.b=(b:Int):=by rw[hr];exact hb
  rw[← hr,ha,hb,c7,c7] at hT hl
  simp only[pkA,seval]
  rw[show m8 p none a b=bV p.types.length (fun s0=>bV p.types.length (fun s1=>emL none (i8 a b s0 s1)) 0) 0 from rfl] at hT hl
  refine bE (fun x:Nat×List In=>hdS [(0,.bp 0 0),(7,.c (.sl ((ruR p 3 p.rules.length).map ruC))),(8,i64 i),(9,i64 x.1)] [lbx p x.2]) (fun x=>p.types.length+1 - x.1) (fun x=>(0≤x.1∧x.1≤p.types.length+1)∧x.2++bV p.types.length (fun s0=>bV p.types.length (fun s1=>emL none (i8 a b s0 s1)) 0) x.1=cur++bV p.types.length (fun s0=>bV p.types.length (fun s1=>emL none (i8 a b s0 s1)) 0) 0) (0,cur) ⟨⟨ab _,by omega⟩,rfl⟩ ?_ ?_
  ·exact(le1 rfl (ab _) (ab _) (by simp[FL,ak]) (by simp[bxs]))
  rintro⟨s0,c0⟩ ⟨⟨tD,tE⟩,kQ⟩ R0 j5 kq yA
  simp only at tD tE kQ
  have oD:=dK List.length kQ
  simp only[ai] at oD
  simp only[oW,seval]
  refine aT (fun kp=>?_) (fun tB=>?_)
  ·have kp:s0≤p.types.length:=by simp at kp;omega
   rw[fw kp] at kQ oD
   simp only[ai] at oD
   have yD:=bG (n:=(s0:Int)+1) (k:=s0+1) (by omega) (by omega)
   simp only[pkA,seval]
   refine bE (fun x:Nat×List In=>hdS [(0,.bp 0 0),(7,.c (.sl ((ruR p 3 p.rules.length).map ruC))),(8,i64 i),(9,i64 s0),(10,i64 x.1)] [lbx p x.2]) (fun x=>p.types.length+1 - x.1) (fun x=>(0≤x.1∧x.1≤p.types.length+1)∧x.2++bV p.types.length (fun s1=>emL none (i8 a b s0 s1)) x.1=c0++bV p.types.length (fun s1=>emL none (i8 a b s0 s1)) 0) (0,c0) ⟨⟨ab _,by omega⟩,rfl⟩ ?_ ?_
   ·exact(le1 rfl (ab _) (ab _) (by simp[FL,ak]) (by simp[bxs]))
   rintro⟨s1,c1⟩ ⟨⟨Ws,Wu⟩,vB⟩ R1 xe zl acb
   simp only at Ws Wu vB
   have zZ:=dK List.length vB
   simp only[ai] at zZ
   simp only[oW,seval]
   refine aT (fun rB=>?_) (fun agC=>?_)
   ·have rB:s1≤p.types.length:=by simp at rB;omega
    rw[fw rB] at vB zZ
    simp only[ai] at zZ
    have yE:=bG (n:=(s1:Int)+1) (k:=s1+1) (by omega) (by omega)
    simp only[pkA,seval]
    have hd:(emL none (i8 a b s0 s1)).length=1:=rfl
    repeat first
     |(simp only[oW,seval,ha,hb])
     |refine dR lJ rfl jZ (by decide) (aA i) (c:=ruC r) (by simp[hr,bK]) rfl ?_
     |refine aB rfl (eO _ _) (fun _=>rfl) ?_
     |refine aB rfl (fZ _ _) (fun _=>rfl) ?_
     |refine aB rfl (gq _) (fun _=>rfl) ?_
     |refine aB rfl (iZ _) (fun _=>rfl) ?_
    refine eK rfl (mS p c1 8 (bu s0 a) (bu s1 b) (gi s0 s1) (by omega)) rfl rfl (by simp[bxs]) ?_
    have hx:lR 8 (bu s0 a) (bu s1 b) (gi s0 s1)=i8 a b s0 s1:=Ca (by simp[bu]) (by simp[bu])
    rw[hx]
    simp only[pkA,seval,yE]
    exact xe (s1+1,c1++[i8 a b s0 s1]) _ ⟨⟨by omega,by omega⟩,by rw[aI];exact vB⟩ (by simp only;omega) (le1 rfl (ab _) (ab _) (by simp[FL,ak]) (by simp[]))
   have agD:s1=p.types.length+1:=by simp at agC;omega
   subst agD
   rw[gB (bQ _),bq] at vB
   subst vB
   simp only[pkA]
   refine zl _ _ ?_
   simp only[pkA,seval,yD]
   exact j5 (s0+1,c0++bV p.types.length (fun s1=>emL none (i8 a b s0 s1)) 0) _ ⟨⟨by omega,by omega⟩,by rw[aI];exact kQ⟩ (by simp only;omega) (le1 rfl (ab _) (ab _) (by simp[FL,ak]) (by simp[bxs]))
  have tC:s0=p.types.length+1:=by simp at tB;omega
  subst tC
  rw[gB (bQ _),bq] at kQ
  subst kQ
  simp only[pkA]
  refine kq _ _ ?_
  simp only[pkA,seval,hw]
  exact cj (i+1,cur++bV p.types.length (fun s0=>bV p.types.length (fun s1=>emL none (i8 a b s0 s1)) 0) 0) _ ⟨bK,by rw[aI];exact hT⟩ (by simp only;omega) (le1 rfl (ab _) (ab _) (by simp[FL,ak]) (by simp[bxs]))
 have kU:i=(ruR p 3 p.rules.length).length:=by simp at gr;omega
 subst kU
 rw[eo,eZ,bq] at hT
 subst hT
 simp only[pkA]
 refine cJ _ _ ?_
 simp only[pkA,seval]
 refine eK rfl (qb p (es++t6 p none++t7 p none++t8 p none) 16 (by unfold I64;omega) (by omega)) rfl rfl (by simp[bxs]) ?_
 have hL4:(fgN p 16 p.types.length).length≤1000:=bN vt (by omega)
 simp only[pkA,seval]
 have hf4:(fgN p 16 p.types.length).flatMap (fun t=>m9 p none t)=t9 p none:=uI
 refine bE (fun x:Nat×List In=>hdS [(0,.bp 0 0),(2,.c (tsC (fgN p 16 p.types.length))),(11,i64 x.1)] [lbx p x.2]) (fun x=>(fgN p 16 p.types.length).length - x.1) (fun x=>x.1≤(fgN p 16 p.types.length).length∧x.2++((fgN p 16 p.types.length).drop x.1).flatMap (fun t=>m9 p none t)=es++t6 p none++t7 p none++t8 p none++t9 p none) (0,es++t6 p none++t7 p none++t8 p none) ⟨ar _,by rw[cd,hf4]⟩ ?_ ?_
 ·exact(le1 rfl (ab _) (ab _) (by simp[FL,ak]) (by simp[]))
 rintro⟨i,cur⟩ ⟨hi,hT⟩ R cj cJ eP
 simp only at hi hT
 simp only[U6,seval]
 refine aT (fun bK=>?_) (fun gr=>?_)
 ·have bK:i<(fgN p 16 p.types.length).length:=by simpa using bK
  rw[iM bK] at hT
  have hw:=bG (n:=(i:Int)+1) (k:=i+1) (by omega) (by omega)
  have hl:=dK List.length hT
  simp only[ai] at hl
  obtain⟨t,ht⟩:∃ t,t=(fgN p 16 p.types.length)[i]:=⟨_,rfl⟩
  have rC:t<p.types.length:=by rw[ht];exact Cb _
  rw[← ht] at hT hl
  simp only[pkA,seval]
  rw[show m9 p none t=bV p.types.length (fun s0=>bV p.types.length (fun s1=>emL none (i9 t s0 s1)) 1) 0 from rfl] at hT hl
  refine bE (fun x:Nat×List In=>hdS [(0,.bp 0 0),(2,.c (tsC (fgN p 16 p.types.length))),(11,i64 i),(12,i64 x.1)] [lbx p x.2]) (fun x=>p.types.length+1 - x.1) (fun x=>(0≤x.1∧x.1≤p.types.length+1)∧x.2++bV p.types.length (fun s0=>bV p.types.length (fun s1=>emL none (i9 t s0 s1)) 1) x.1=cur++bV p.types.length (fun s0=>bV p.types.length (fun s1=>emL none (i9 t s0 s1)) 1) 0) (0,cur) ⟨⟨ab _,by omega⟩,rfl⟩ ?_ ?_
  ·exact(le1 rfl (ab _) (ab _) (by simp[FL,ak]) (by simp[bxs]))
  rintro⟨s0,c0⟩ ⟨⟨tD,tE⟩,kQ⟩ R0 j5 kq yA
  simp only at tD tE kQ
  have oD:=dK List.length kQ
  simp only[ai] at oD
  simp only[oW,seval]
  refine aT (fun kp=>?_) (fun tB=>?_)
  ·have kp:s0≤p.types.length:=by simp at kp;omega
   rw[fw kp] at kQ oD
   simp only[ai] at oD
   have yD:=bG (n:=(s0:Int)+1) (k:=s0+1) (by omega) (by omega)
   simp only[pkA,seval]
   refine bE (fun x:Nat×List In=>hdS [(0,.bp 0 0),(2,.c (tsC (fgN p 16 p.types.length))),(11,i64 i),(12,i64 s0),(13,i64 x.1)] [lbx p x.2]) (fun x=>p.types.length+1 - x.1) (fun x=>(1≤x.1∧x.1≤p.types.length+1)∧x.2++bV p.types.length (fun s1=>emL none (i9 t s0 s1)) x.1=c0++bV p.types.length (fun s1=>emL none (i9 t s0 s1)) 1) (1,c0) ⟨⟨ab _,by omega⟩,rfl⟩ ?_ ?_
   ·exact(le1 rfl (ab _) (ab _) (by simp[FL,ak]) (by simp[bxs]))
   rintro⟨s1,c1⟩ ⟨⟨Ws,Wu⟩,vB⟩ R1 xe zl acb
   simp only at Ws Wu vB
   have zZ:=dK List.length vB
   simp only[ai] at zZ
   simp only[oW,seval]
   refine aT (fun rB=>?_) (fun agC=>?_)
   ·have rB:s1≤p.types.length:=by simp at rB;omega
    rw[fw rB] at vB zZ
    simp only[ai] at zZ
    have yE:=bG (n:=(s1:Int)+1) (k:=s1+1) (by omega) (by omega)
    simp only[pkA,seval]
    have hd:(emL none (i9 t s0 s1)).length=1:=rfl
    repeat first
     |(simp only[oW,seval])
     |refine dR oT rfl rS (by decide) (aA i) (c:=[cI (t:Int)]) (by simp[ht,bK]) rfl ?_
     |refine aB rfl (eO _ _) (fun _=>rfl) ?_
     |refine aB rfl (fZ _ _) (fun _=>rfl) ?_
     |refine aB rfl (gq _) (fun _=>rfl) ?_
     |refine aB rfl (iZ _) (fun _=>rfl) ?_
    refine eK rfl (mS p c1 9 (bu s0 t) (gi s0 s1) (fC s1) (by omega)) rfl rfl (by simp[bxs]) ?_
    have hx:lR 9 (bu s0 t) (gi s0 s1) (fC s1)=i9 t s0 s1:=Ca (by simp[bu]) (by simp[gi])
    rw[hx]
    simp only[pkA,seval,yE]
    exact xe (s1+1,c1++[i9 t s0 s1]) _ ⟨⟨by omega,by omega⟩,by rw[aI];exact vB⟩ (by simp only;omega) (le1 rfl (ab _) (ab _) (by simp[FL,ak]) (by simp[]))
   have agD:s1=p.types.length+1:=by simp at agC;omega
   subst agD
   rw[gB (bQ _),bq] at vB
   subst vB
   simp only[pkA]
   refine zl _ _ ?_
   simp only[pkA,seval,yD]
   exact j5 (s0+1,c0++bV p.types.length (fun s1=>emL none (i9 t s0 s1)) 1) _ ⟨⟨by omega,by omega⟩,by rw[aI];exact kQ⟩ (by simp only;omega) (le1 rfl (ab _) (ab _) (by simp[FL,ak]) (by simp[bxs]))
  have tC:s0=p.types.length+1:=by simp at tB;omega
  subst tC
  rw[gB (bQ _),bq] at kQ
  subst kQ
  simp only[pkA]
  refine kq _ _ ?_
  simp only[pkA,seval,hw]
  exact cj (i+1,cur++bV p.types.length (fun s0=>bV p.types.length (fun s1=>emL none (i9 t s0 s1)) 1) 0) _ ⟨bK,by rw[aI];exact hT⟩ (by simp only;omega) (le1 rfl (ab _) (ab _) (by simp[FL,ak]) (by simp[bxs]))
 have kU:i=(fgN p 16 p.types.length).length:=by simp at gr;omega
 subst kU
 rw[eo,eZ,bq] at hT
 subst hT
 simp only[pkA]
 refine cJ _ _ ?_
 simp only[pkA,seval]
 refine eK rfl (sb p (es++t6 p none++t7 p none++t8 p none++t9 p none) 4 (by omega)) rfl rfl (by simp[bxs]) ?_
 have hL5:(ruR p 4 p.rules.length).length≤1000:=bN qW (by omega)
 simp only[pkA,seval]
 have hf5:(ruR p 4 p.rules.length).flatMap (fun r:Ru=>(fun a b=>m10 p none a b) r.a.toNat r.b.toNat)=t10 p none:=qa (D:=fun a b=>m10 p none a b)
 refine bE (fun x:Nat×List In=>hdS [(0,.bp 0 0),(7,.c (.sl ((ruR p 4 p.rules.length).map ruC))),(14,i64 x.1)] [lbx p x.2]) (fun x=>(ruR p 4 p.rules.length).length - x.1) (fun x=>x.1≤(ruR p 4 p.rules.length).length∧x.2++((ruR p 4 p.rules.length).drop x.1).flatMap (fun r:Ru=>(fun a b=>m10 p none a b) r.a.toNat r.b.toNat)=es++t6 p none++t7 p none++t8 p none++t9 p none++t10 p none) (0,es++t6 p none++t7 p none++t8 p none++t9 p none) ⟨ar _,by rw[cd,hf5]⟩ ?_ ?_
 ·exact(le1 rfl (ab _) (ab _) (by simp[FL,ak]) (by simp[]))
 rintro⟨i,cur⟩ ⟨hi,hT⟩ R cj cJ eP
 simp only at hi hT
 simp only[No,seval]
 refine aT (fun bK=>?_) (fun gr=>?_)
 ·have bK:i<(ruR p 4 p.rules.length).length:=by simpa using bK
  rw[iM bK] at hT
  have hw:=bG (n:=(i:Int)+1) (k:=i+1) (by omega) (by omega)
  have hl:=dK List.length hT
  simp only[ai] at hl
  obtain⟨r,hr⟩:∃ r,r=(ruR p 4 p.rules.length)[i]:=⟨_,rfl⟩
  obtain⟨a,b,ha,hb,han,WG⟩:=wS bK
  have ha:r.a=(a:Int):=by rw[hr];exact ha
  have hb:r.b=(b:Int):=by rw[hr];exact hb
  rw[← hr,ha,hb,c7,c7] at hT hl
  simp only[pkA,seval]
  rw[show m10 p none a b=bV p.types.length (fun s0=>bV p.types.length (fun s1=>r10 none a b s0 s1) 0) 0 from rfl] at hT hl
  refine bE (fun x:Nat×List In=>hdS [(0,.bp 0 0),(7,.c (.sl ((ruR p 4 p.rules.length).map ruC))),(14,i64 i),(15,i64 x.1)] [lbx p x.2]) (fun x=>p.types.length+1 - x.1) (fun x=>(0≤x.1∧x.1≤p.types.length+1)∧x.2++bV p.types.length (fun s0=>bV p.types.length (fun s1=>r10 none a b s0 s1) 0) x.1=cur++bV p.types.length (fun s0=>bV p.types.length (fun s1=>r10 none a b s0 s1) 0) 0) (0,cur) ⟨⟨ab _,by omega⟩,rfl⟩ ?_ ?_
  ·exact(le1 rfl (ab _) (ab _) (by simp[FL,ak]) (by simp[bxs]))
  rintro⟨s0,c0⟩ ⟨⟨tD,tE⟩,kQ⟩ R0 j5 kq yA
  simp only at tD tE kQ
  have oD:=dK List.length kQ
  simp only[ai] at oD
  simp only[oW,seval]
  refine aT (fun kp=>?_) (fun tB=>?_)
  ·have kp:s0≤p.types.length:=by simp at kp;omega
   rw[fw kp] at kQ oD
   simp only[ai] at oD
   have yD:=bG (n:=(s0:Int)+1) (k:=s0+1) (by omega) (by omega)
   simp only[pkA,seval]
   refine bE (fun x:Nat×List In=>hdS [(0,.bp 0 0),(7,.c (.sl ((ruR p 4 p.rules.length).map ruC))),(14,i64 i),(15,i64 s0),(16,i64 x.1)] [lbx p x.2]) (fun x=>p.types.length+1 - x.1) (fun x=>(0≤x.1∧x.1≤p.types.length+1)∧x.2++bV p.types.length (fun s1=>r10 none a b s0 s1) x.1=c0++bV p.types.length (fun s1=>r10 none a b s0 s1) 0) (0,c0) ⟨⟨ab _,by omega⟩,rfl⟩ ?_ ?_
   ·exact(le1 rfl (ab _) (ab _) (by simp[FL,ak]) (by simp[bxs]))
   rintro⟨s1,c1⟩ ⟨⟨Ws,Wu⟩,vB⟩ R1 xe zl acb
   simp only at Ws Wu vB
   have zZ:=dK List.length vB
   simp only[ai] at zZ
   simp only[oW,seval]
   have EH:decide ((s1:Int)≤p.types.length)=decide (s1≤p.types.length):=by rw[jg];omega
   have hn2:decide (0<(s0:Int))=decide (0<s0):=by rw[jg];omega
   have hn3:decide ((s1:Int)=0)=decide (s1=0):=by rw[jg];omega
   have hn4:decide (0<(s1:Int))=decide (0<s1):=by rw[jg];omega
   by_cases hA:s1≤p.types.length
   ·have NP:decide (s1≤p.types.length)=true:=cu hA
    by_cases hB:0<s0
    ·have hB':decide (0<s0)=true:=cu hB
     by_cases hz:s1=0
     ·have lT:decide (0<s1)=false:=dM (by omega)
      simp only[pkA,seval,EH,hn2,NP,hB']
      rw[fw hA] at vB zZ
      simp only[ai] at zZ
      have Wq:r10 none a b s0 s1=[i10 a b s0 s1]:=by unfold r10;rw[if_neg (by omega)];rfl
      rw[Wq] at vB zZ
      have yE:=bG (n:=(s1:Int)+1) (k:=s1+1) (by omega) (by omega)
      repeat first
       |(simp only[oW,seval,ha,hb])
       |refine dR lJ rfl jZ (by decide) (aA i) (c:=ruC r) (by simp[hr,bK]) rfl ?_
       |refine aB rfl (eO _ _) (fun _=>rfl) ?_
       |refine aB rfl (fZ _ _) (fun _=>rfl) ?_
       |refine aB rfl (gq _) (fun _=>rfl) ?_
       |refine aB rfl (iZ _) (fun _=>rfl) ?_
      refine eK rfl (Gk p c1 10 (bu s0 a) (gi s0 s1) (bu s1 b) (by omega) (by simp[bu]) (by simp[gi])) rfl rfl (by simp[bxs]) ?_
      simp only[pkA,seval,hn4,lT]
      refine BD 0 5 rfl (show 0<1 by decide) rfl ?_
      simp only[pkA,seval,yE,S.cool]
      exact xe (s1+1,c1++[i10 a b s0 s1]) _ ⟨⟨by omega,by omega⟩,by rw[aI];exact vB⟩ (by simp only;omega) (le1 rfl (ab _) (ab _) (by simp[FL,ak]) (by simp only[ak,db];exact U3 hz))
     ·have lT:decide (0<s1)=true:=cu (by omega)
      simp only[pkA,seval,EH,hn2,NP,hB']
      rw[fw hA] at vB zZ
      simp only[ai] at zZ
      have Wq:r10 none a b s0 s1=[i10 a b s0 s1]:=by unfold r10;rw[if_neg (by omega)];rfl
      rw[Wq] at vB zZ
      have yE:=bG (n:=(s1:Int)+1) (k:=s1+1) (by omega) (by omega)
      repeat first
       |(simp only[oW,seval,ha,hb])
       |refine dR lJ rfl jZ (by decide) (aA i) (c:=ruC r) (by simp[hr,bK]) rfl ?_
       |refine aB rfl (eO _ _) (fun _=>rfl) ?_
       |refine aB rfl (fZ _ _) (fun _=>rfl) ?_
       |refine aB rfl (gq _) (fun _=>rfl) ?_
       |refine aB rfl (iZ _) (fun _=>rfl) ?_
      refine eK rfl (Gk p c1 10 (bu s0 a) (gi s0 s1) (bu s1 b) (by omega) (by simp[bu]) (by simp[gi])) rfl rfl (by simp[bxs]) ?_
      simp only[pkA,seval,hn4,lT]
      refine Re 0 5 rfl (show 0<1 by decide) rfl rfl ?_
      intro blk cap
      have hlz:(c1.map inC++[LO ⟨10,[bu s0 a,gi s0 s1],[bu s1 b]⟩]).length=c1.length+1:=by simp
      have hwl:=bG (n:=((c1.length+1:Nat):Int) - 1) (k:=c1.length) (by omega) (by omega)
      rw[hlz]
      simp only[No,seval,S.name,abH,abG]
      refine AM mP rfl ?_
      simp only[No,seval,abH,abG,hwl]
      refine K8 (k:=c1.length) mP rfl kA rfl (by decide) rfl (by omega) ?_
      simp only[pkA,seval]
      refine K9 kA rfl (by decide) ?_
      simp only[pkA,seval]
      refine acX (b:=0) (k:=5) (c:=.sx [faC (bu s1 b)]) fk rfl (show 0<1 by decide) rfl rfl U4 ?_
      rw[show(C.sx [faC (bu s1 b)]).ldc=.ow none [faC (bu s1 b)] from rfl]
      simp only[pkA,seval]
      refine aB rfl (iZ _) (fun _=>rfl) ?_
      simp only[oW,seval,cG]
      refine afs ?_
      simp only[pkA,seval]
      refine K8 (k:=c1.length) mP rfl kA rfl (by decide) rfl (by omega) ?_
      simp only[pkA,seval]
      refine K9 kA rfl (by decide) ?_
      simp only[pkA,seval]
      refine Yr (b:=0) (k:=5) (es:=c1.map inC) (x:=LO ⟨10,[bu s0 a,gi s0 s1],[bu s1 b]⟩) (r:=2) (c:=.sl [faC (bu s1 b),faC (pR s1)]) fk rfl (show 0<1 by decide) rfl rfl U5 (show 2<3 by decide) rfl ?_
      simp only[pkA,seval]
      refine BD 0 5 rfl (show 0<1 by decide) rfl ?_
      simp only[pkA,seval,yE,S.cool]
      exact xe (s1+1,c1++[i10 a b s0 s1]) _ ⟨⟨by omega,by omega⟩,by rw[aI];exact vB⟩ (by simp only;omega) (le1 rfl (ab _) (ab _) (by simp[FL,ak]) (by simp only[ak,db];exact afr (by omega)))
    ·have hB':decide (0<s0)=false:=dM hB
     by_cases hz:s1=0
     ·have lT:decide (0<s1)=false:=dM (by omega)
      have Qf:decide (s1=0)=true:=cu hz
      simp only[pkA,seval,EH,hn2,hn3,NP,hB',Qf]
      rw[fw hA] at vB zZ
      simp only[ai] at zZ
      have Wq:r10 none a b s0 s1=[i10 a b s0 s1]:=by unfold r10;rw[if_neg (by omega)];rfl
      rw[Wq] at vB zZ
      have yE:=bG (n:=(s1:Int)+1) (k:=s1+1) (by omega) (by omega)
      repeat first
       |(simp only[oW,seval,ha,hb])
       |refine dR lJ rfl jZ (by decide) (aA i) (c:=ruC r) (by simp[hr,bK]) rfl ?_
       |refine aB rfl (eO _ _) (fun _=>rfl) ?_
       |refine aB rfl (fZ _ _) (fun _=>rfl) ?_
       |refine aB rfl (gq _) (fun _=>rfl) ?_
       |refine aB rfl (iZ _) (fun _=>rfl) ?_
      refine eK rfl (Gk p c1 10 (bu s0 a) (gi s0 s1) (bu s1 b) (by omega) (by simp[bu]) (by simp[gi])) rfl rfl (by simp[bxs]) ?_
      simp only[pkA,seval,hn4,lT]
      refine BD 0 5 rfl (show 0<1 by decide) rfl ?_
      simp only[pkA,seval,yE,S.cool]
      exact xe (s1+1,c1++[i10 a b s0 s1]) _ ⟨⟨by omega,by omega⟩,by rw[aI];exact vB⟩ (by simp only;omega) (le1 rfl (ab _) (ab _) (by simp[FL,ak]) (by simp only[ak,db];exact U3 hz))
     ·have Qf:decide (s1=0)=false:=dM hz
      simp only[pkA,seval,EH,hn2,hn3,NP,hB',Qf]
      have kU:bV p.types.length (fun s1=>r10 none a b s0 s1) s1=[]:=U2 (by omega) (by omega)
      rw[kU,bq] at vB
      subst vB
      refine zl _ _ ?_
      simp only[pkA,seval,yD]
      exact j5 (s0+1,c0++bV p.types.length (fun s1=>r10 none a b s0 s1) 0) _ ⟨⟨by omega,by omega⟩,by rw[aI];exact kQ⟩ (by simp only;omega) (le1 rfl (ab _) (ab _) (by simp[FL,ak]) (by simp[bxs]))
   ·have NP:decide (s1≤p.types.length)=false:=dM hA
    simp only[pkA,seval,EH,NP]
    have kU:bV p.types.length (fun s1=>r10 none a b s0 s1) s1=[]:=gB (by omega)
    rw[kU,bq] at vB
    subst vB
    refine zl _ _ ?_
    simp only[pkA,seval,yD]
    exact j5 (s0+1,c0++bV p.types.length (fun s1=>r10 none a b s0 s1) 0) _ ⟨⟨by omega,by omega⟩,by rw[aI];exact kQ⟩ (by simp only;omega) (le1 rfl (ab _) (ab _) (by simp[FL,ak]) (by simp[bxs]))
  have tC:s0=p.types.length+1:=by simp at tB;omega
  subst tC
  rw[gB (bQ _),bq] at kQ
  subst kQ
  simp only[pkA]
  refine kq _ _ ?_
  simp only[pkA,seval,hw]
  exact cj (i+1,cur++bV p.types.length (fun s0=>bV p.types.length (fun s1=>r10 none a b s0 s1) 0) 0) _ ⟨bK,by rw[aI];exact hT⟩ (by simp only;omega) (le1 rfl (ab _) (ab _) (by simp[FL,ak]) (by simp[bxs]))
 have kU:i=(ruR p 4 p.rules.length).length:=by simp at gr;omega
 subst kU
 rw[eo,eZ,bq] at hT
 subst hT
 simp only[pkA]
 refine cJ _ _ ?_
 simp only[pkA,seval]
 exact B8 rfl (ab _) (by simp[bxs])
