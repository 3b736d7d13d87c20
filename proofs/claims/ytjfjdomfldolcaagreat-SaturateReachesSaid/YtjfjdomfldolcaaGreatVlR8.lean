/- Layer 17, the specification: the rules 1 to 5. Printed by genr8.py. -/
import Derived.Test.YtjfjdomfldolcaaGreatVlR7
set_option linter.all false
namespace Go.Proofs.YtjfjdomfldolcaaGreat
open Go Go.Vl
variable {G:Gl}
set_option maxRecDepth 4000
def tsC (l:List Nat):C:=.sl (l.map fun(t:Nat)=>[cI t])
theorem aiL {l:List Nat} {K:V→Prop}:hJ Tryz.prog 86 (.c (tsC l)) K=K (i64 l.length):=by unfold tsC;rw[TP,au]
theorem aiM {l:List Ru} {K:V→Prop}:hJ Tryz.prog 23 (.c (.sl (l.map ruC))) K=K (i64 l.length):=by rw[Tf,au]
theorem e0T {x:Int} {K:V→Prop}:dC false 1 0 [cI x] K=K (i64 x):=rfl
theorem vcI {x:Int}:V.c (cI x)=.c (.lit (.int .i64 x)):=rfl
def pkM:=jj @afq (jj @aiL (jj @aiM (jj @e0T @vcI)))
def zfa:Fa:=⟨0,0,0⟩
theorem LP {rule:Int} {c:Fa}:lR rule zfa zfa c=⟨rule,[],[c]⟩:=rfl
theorem y9 {rule:Int} {a c:Fa} (h:0<a.kind):lR rule a zfa c=⟨rule,[a],[c]⟩:=by simp[lR,h,zfa]
theorem Ca {rule:Int} {a b c:Fa} (h:0<a.kind) (h2:0<b.kind):lR rule a b c=⟨rule,[a,b],[c]⟩:=by simp[lR,h,h2]
theorem akZ {x:In}:emL none x=[x]:=rfl
theorem uI {p:Pol} {flag:Int} {D:Nat→List In}:(fgN p flag p.types.length).flatMap D=jb p none flag D 0:=by
 unfold fgN jb
 rw[Nat.sub_zero,eL,List.flatMap_def,List.flatMap_def]
 generalize List.range' 0 p.types.length=l
 induction l with
 |nil=>rfl
 |cons t l ih=>
  rw[cP,bA,cU,← ih]
  unfold pU
  by_cases h:pT p t flag=true
  ·rw[if_pos h];simp[h,nC]
  ·rw[if_neg h];simp[h]
theorem qa {p:Pol} {kind:Int} {D:Nat→Nat→List In}:(ruR p kind p.rules.length).flatMap (fun r=>D r.a.toNat r.b.toNat)=jy p none kind D 0:=by
 unfold ruR jy
 rw[bD,cd]
 generalize p.rules=l
 induction l with
 |nil=>rfl
 |cons r l ih=>
  rw[cP,fE,← ih]
  unfold qO
  rw[← aae]
  by_cases h:B9 p kind r=true
  ·rw[if_pos h];simp[h,nC]
  ·rw[if_neg h];simp[h]
theorem iM {α:Type} {l:List α} {D:α→List In} {i:Nat} (h:i<l.length):(l.drop i).flatMap D=D l[i]++(l.drop (i+1)).flatMap D:=by
 rw[cX h,fE]
theorem Cb {p:Pol} {flag:Int} {n:Nat} {i:Nat} (h:i<(fgN p flag n).length):(fgN p flag n)[i]<n:=by
 have:=bL h
 unfold fgN at this
 rw[cH,df] at this
 exact this.1
theorem wS {p:Pol} {kind:Int} {n:Nat} {i:Nat} (h:i<(ruR p kind n).length):∃ a b:Nat,(ruR p kind n)[i].a=(a:Int)∧(ruR p kind n)[i].b=(b:Int)∧a<p.types.length∧b<p.types.length:=by
 have hm:=bL h
 have eH:B9 p kind (ruR p kind n)[i]=true:=by
  unfold ruR at hm ⊢
  exact(cH.1 hm).2
 generalize (ruR p kind n)[i]=r at eH
 simp only[B9,aS,bJ] at eH
 exact⟨r.a.toNat,r.b.toNat,by omega,by omega,by omega,by omega⟩
theorem qb (p:Pol) (es:List In) (flag:Int) (hf:I64 flag) (hm:p.types.length≤1000000) :
 FnB Tryz.prog G 61 [.bp 0 0,i64 flag] [lbx p es] (.c (tsC (fgN p flag p.types.length))) [lbx p es]:=IS p es flag hf hm
def abD:=jj @pkA @pkM
def IU:=jj @pkA @ptA
def Cc:=jj @pkA (jj @ptA @pkM)
set_option maxHeartbeats 8000000 in
theorem PY (p:Pol) (es:List In) (hn:p.types.length≤1000) (hr':p.rules.length≤1000) (cg:(es++t1 p none++t2 p none++t3 p none++t4 p none++t5 p none).length<900000) :
 FnB Tryz.prog G 42 [.bp 0 0] [lbx p es] (.tup []) [lbx p (es++t1 p none++t2 p none++t3 p none++t4 p none++t5 p none)]:=by
 simp only[ai] at cg
 refine lW (rs:=[]) (k:=1) [1000012,1000027,1000029,1000049,1000051,1000087,1000108,1000140,3000001] mixed Tryz.func42 rfl rfl rfl rfl (by kernel_rfl) (by simp) rfl rfl rfl (wR rfl) (ab _) ?_
 simp only[pkA,seval]
 refine eK rfl (qb p (es) 2 (by unfold I64;omega) (by omega)) rfl rfl (by simp[bxs]) ?_
 have hL1:(fgN p 2 p.types.length).length≤1000:=bN vt (by omega)
 simp only[pkA,seval]
 have hf1:(fgN p 2 p.types.length).flatMap (fun t=>emL none (i1 t))=t1 p none:=uI
 refine bE (fun x:Nat×List In=>hdS [(0,.bp 0 0),(2,.c (tsC (fgN p 2 p.types.length))),(3,i64 x.1)] [lbx p x.2]) (fun x=>(fgN p 2 p.types.length).length - x.1) (fun x=>x.1≤(fgN p 2 p.types.length).length∧x.2++((fgN p 2 p.types.length).drop x.1).flatMap (fun t=>emL none (i1 t))=es++t1 p none) (0,es) ⟨ar _,by rw[cd,hf1]⟩ ?_ ?_
 ·exact(le1 rfl (ab _) (ab _) (by simp[FL,ak]) (by simp[]))
 rintro⟨i,cur⟩ ⟨hi,hT⟩ R cj cJ eP
 simp only at hi hT
 simp only[abD,seval]
 refine aT (fun bK=>?_) (fun gr=>?_)
 ·have bK:i<(fgN p 2 p.types.length).length:=by simpa using bK
  rw[iM bK] at hT
  have hw:=bG (n:=(i:Int)+1) (k:=i+1) (by omega) (by omega)
  have hl:=dK List.length hT
  simp only[ai] at hl
  obtain⟨t,ht⟩:∃ t,t=(fgN p 2 p.types.length)[i]:=⟨_,rfl⟩
  have rC:t<p.types.length:=by rw[ht];exact Cb _
  rw[← ht] at hT hl
  simp only[IU,seval]
  have hd:(emL none (i1 t)).length=1:=rfl
  repeat first
   |(simp only[Cc,seval])
   |refine dR oT rfl rS (by decide) (aA i) (c:=[cI (t:Int)]) (by simp[ht,bK]) rfl ?_
   |refine aB rfl (eO _ _) (fun _=>rfl) ?_
   |refine aB rfl (fZ _ _) (fun _=>rfl) ?_
   |refine aB rfl (gq _) (fun _=>rfl) ?_
   |refine aB rfl (iZ _) (fun _=>rfl) ?_
  refine eK rfl (mS p cur 1 zfa zfa (bu 0 t) (by omega)) rfl rfl (by simp[bxs]) ?_
  have hx:lR 1 zfa zfa (bu 0 t)=i1 t:=LP
  rw[hx]
  simp only[pkA,seval,hw]
  exact cj (i+1,cur++[i1 t]) _ ⟨bK,by rw[aI];exact hT⟩ (by simp only;omega) (le1 rfl (ab _) (ab _) (by simp[FL,ak]) (by simp[]))
 have kU:i=(fgN p 2 p.types.length).length:=by simp at gr;omega
 subst kU
 rw[eo,eZ,bq] at hT
 subst hT
 simp only[pkA]
 refine cJ _ _ ?_
 simp only[pkA,seval]
 refine eK rfl (qb p (es++t1 p none) 1 (by unfold I64;omega) (by omega)) rfl rfl (by simp[bxs]) ?_
 have hL2:(fgN p 1 p.types.length).length≤1000:=bN vt (by omega)
 simp only[pkA,seval]
 have hf2:(fgN p 1 p.types.length).flatMap (fun t=>emL none (i2 t))=t2 p none:=uI
 refine bE (fun x:Nat×List In=>hdS [(0,.bp 0 0),(2,.c (tsC (fgN p 1 p.types.length))),(4,i64 x.1)] [lbx p x.2]) (fun x=>(fgN p 1 p.types.length).length - x.1) (fun x=>x.1≤(fgN p 1 p.types.length).length∧x.2++((fgN p 1 p.types.length).drop x.1).flatMap (fun t=>emL none (i2 t))=es++t1 p none++t2 p none) (0,es++t1 p none) ⟨ar _,by rw[cd,hf2]⟩ ?_ ?_
 ·exact(le1 rfl (ab _) (ab _) (by simp[FL,ak]) (by simp[]))
 rintro⟨i,cur⟩ ⟨hi,hT⟩ R cj cJ eP
 simp only at hi hT
 simp only[abD,seval]
 refine aT (fun bK=>?_) (fun gr=>?_)
 ·have bK:i<(fgN p 1 p.types.length).length:=by simpa using bK
  rw[iM bK] at hT
  have hw:=bG (n:=(i:Int)+1) (k:=i+1) (by omega) (by omega)
  have hl:=dK List.length hT
  simp only[ai] at hl
  obtain⟨t,ht⟩:∃ t,t=(fgN p 1 p.types.length)[i]:=⟨_,rfl⟩
  have rC:t<p.types.length:=by rw[ht];exact Cb _
  rw[← ht] at hT hl
  have Wm:=bG (n:=(t:Int)+1) (k:=t+1) (by omega) (by omega)
  simp only[IU,seval]
  have hd:(emL none (i2 t)).length=1:=rfl
  repeat first
   |(simp only[Cc,seval,Wm])
   |refine dR oT rfl rS (by decide) (aA i) (c:=[cI (t:Int)]) (by simp[ht,bK]) rfl ?_
   |refine aB rfl (eO _ _) (fun _=>rfl) ?_
   |refine aB rfl (fZ _ _) (fun _=>rfl) ?_
   |refine aB rfl (gq _) (fun _=>rfl) ?_
   |refine aB rfl (iZ _) (fun _=>rfl) ?_
  refine eK rfl (mS p cur 2 zfa zfa (bu (t+1:Nat) t) (by omega)) rfl rfl (by simp[bxs]) ?_
  have hx:lR 2 zfa zfa (bu (t+1:Nat) t)=i2 t:=LP
  rw[hx]
  simp only[pkA,seval,hw]
  exact cj (i+1,cur++[i2 t]) _ ⟨bK,by rw[aI];exact hT⟩ (by simp only;omega) (le1 rfl (ab _) (ab _) (by simp[FL,ak]) (by simp[]))
 have kU:i=(fgN p 1 p.types.length).length:=by simp at gr;omega
 subst kU
 rw[eo,eZ,bq] at hT
 subst hT
 simp only[pkA]
 refine cJ _ _ ?_
 simp only[pkA,seval]
 refine eK rfl (sb p (es++t1 p none++t2 p none) 5 (by omega)) rfl rfl (by simp[bxs]) ?_
 have hL3:(ruR p 5 p.rules.length).length≤1000:=bN qW (by omega)
 simp only[pkA,seval]
 have hf3:(ruR p 5 p.rules.length).flatMap (fun r:Ru=>(fun a b=>m3 p none a b) r.a.toNat r.b.toNat)=t3 p none:=qa (D:=fun a b=>m3 p none a b)
 refine bE (fun x:Nat×List In=>hdS [(0,.bp 0 0),(5,.c (.sl ((ruR p 5 p.rules.length).map ruC))),(6,i64 x.1)] [lbx p x.2]) (fun x=>(ruR p 5 p.rules.length).length - x.1) (fun x=>x.1≤(ruR p 5 p.rules.length).length∧x.2++((ruR p 5 p.rules.length).drop x.1).flatMap (fun r:Ru=>(fun a b=>m3 p none a b) r.a.toNat r.b.toNat)=es++t1 p none++t2 p none++t3 p none) (0,es++t1 p none++t2 p none) ⟨ar _,by rw[cd,hf3]⟩ ?_ ?_
 ·exact(le1 rfl (ab _) (ab _) (by simp[FL,ak]) (by simp[]))
 rintro⟨i,cur⟩ ⟨hi,hT⟩ R cj cJ eP
 simp only at hi hT
 simp only[IU,seval]
 refine aT (fun bK=>?_) (fun gr=>?_)
 ·have bK:i<(ruR p 5 p.rules.length).length:=by simpa using bK
  rw[iM bK] at hT
  have hw:=bG (n:=(i:Int)+1) (k:=i+1) (by omega) (by omega)
  have hl:=dK List.length hT
  simp only[ai] at hl
  obtain⟨r,hr⟩:∃ r,r=(ruR p 5 p.rules.length)[i]:=⟨_,rfl⟩
  obtain⟨a,b,ha,hb,han,WG⟩:=wS bK
  have ha:r.a=(a:Int):=by rw[hr];exact ha
  have hb:r.b=(b:Int):=by rw[hr];exact hb
  rw[← hr,ha,hb,c7,c7] at hT hl
  have Wm:=bG (n:=(b:Int)+1) (k:=b+1) (by omega) (by omega)
  simp only[pkA,seval]
  rw[show m3 p none a b=bV p.types.length (fun s0=>emL none (i3 a b s0)) 1 from rfl] at hT hl
  refine bE (fun x:Nat×List In=>hdS [(0,.bp 0 0),(5,.c (.sl ((ruR p 5 p.rules.length).map ruC))),(6,i64 i),(7,i64 x.1)] [lbx p x.2]) (fun x=>p.types.length+1 - x.1) (fun x=>(1≤x.1∧x.1≤p.types.length+1)∧x.2++bV p.types.length (fun s0=>emL none (i3 a b s0)) x.1=cur++bV p.types.length (fun s0=>emL none (i3 a b s0)) 1) (1,cur) ⟨⟨ab _,by omega⟩,rfl⟩ ?_ ?_
  ·exact(le1 rfl (ab _) (ab _) (by simp[FL,ak]) (by simp[bxs]))
  rintro⟨s0,c0⟩ ⟨⟨tD,tE⟩,kQ⟩ R0 j5 kq yA
  simp only at tD tE kQ
  have oD:=dK List.length kQ
  simp only[ai] at oD
  simp only[Cc,seval]
  refine aT (fun kp=>?_) (fun tB=>?_)
  ·have kp:s0≤p.types.length:=by simp at kp;omega
   rw[fw kp] at kQ oD
   simp only[ai] at oD
   have yD:=bG (n:=(s0:Int)+1) (k:=s0+1) (by omega) (by omega)
   simp only[pkA,seval]
   have hd:(emL none (i3 a b s0)).length=1:=rfl
   repeat first
    |(simp only[Cc,seval,ha,hb,Wm])
    |refine dR lJ rfl jZ (by decide) (aA i) (c:=ruC r) (by simp[hr,bK]) rfl ?_
    |refine aB rfl (eO _ _) (fun _=>rfl) ?_
    |refine aB rfl (fZ _ _) (fun _=>rfl) ?_
    |refine aB rfl (gq _) (fun _=>rfl) ?_
    |refine aB rfl (iZ _) (fun _=>rfl) ?_
   refine eK rfl (mS p c0 3 (bu s0 a) zfa (bu (b+1:Nat) b) (by omega)) rfl rfl (by simp[bxs]) ?_
   have hx:lR 3 (bu s0 a) zfa (bu (b+1:Nat) b)=i3 a b s0:=y9 (by simp[bu])
   rw[hx]
   simp only[pkA,seval,yD]
   exact j5 (s0+1,c0++[i3 a b s0]) _ ⟨⟨by omega,by omega⟩,by rw[aI];exact kQ⟩ (by simp only;omega) (le1 rfl (ab _) (ab _) (by simp[FL,ak]) (by simp[]))
  have tC:s0=p.types.length+1:=by simp at tB;omega
  subst tC
  rw[gB (bQ _),bq] at kQ
  subst kQ
  simp only[pkA]
  refine kq _ _ ?_
  simp only[pkA,seval,hw]
  exact cj (i+1,cur++bV p.types.length (fun s0=>emL none (i3 a b s0)) 1) _ ⟨bK,by rw[aI];exact hT⟩ (by simp only;omega) (le1 rfl (ab _) (ab _) (by simp[FL,ak]) (by simp[bxs]))
 have kU:i=(ruR p 5 p.rules.length).length:=by simp at gr;omega
 subst kU
 rw[eo,eZ,bq] at hT
 subst hT
 simp only[pkA]
 refine cJ _ _ ?_
 simp only[pkA,seval]
 have hL4:(ruR p 5 p.rules.length).length≤1000:=bN qW (by omega)
 have hf4:(ruR p 5 p.rules.length).flatMap (fun r:Ru=>(fun a b=>emL none (i4 a b)) r.a.toNat r.b.toNat)=t4 p none:=qa (D:=fun a b=>emL none (i4 a b))
 refine bE (fun x:Nat×List In=>hdS [(0,.bp 0 0),(5,.c (.sl ((ruR p 5 p.rules.length).map ruC))),(8,i64 x.1)] [lbx p x.2]) (fun x=>(ruR p 5 p.rules.length).length - x.1) (fun x=>x.1≤(ruR p 5 p.rules.length).length∧x.2++((ruR p 5 p.rules.length).drop x.1).flatMap (fun r:Ru=>(fun a b=>emL none (i4 a b)) r.a.toNat r.b.toNat)=es++t1 p none++t2 p none++t3 p none++t4 p none) (0,es++t1 p none++t2 p none++t3 p none) ⟨ar _,by rw[cd,hf4]⟩ ?_ ?_
 ·exact(le1 rfl (ab _) (ab _) (by simp[FL,ak]) (by simp[bxs]))
 rintro⟨i,cur⟩ ⟨hi,hT⟩ R cj cJ eP
 simp only at hi hT
 simp only[IU,seval]
 refine aT (fun bK=>?_) (fun gr=>?_)
 ·have bK:i<(ruR p 5 p.rules.length).length:=by simpa using bK
  rw[iM bK] at hT
  have hw:=bG (n:=(i:Int)+1) (k:=i+1) (by omega) (by omega)
  have hl:=dK List.length hT
  simp only[ai] at hl
  obtain⟨r,hr⟩:∃ r,r=(ruR p 5 p.rules.length)[i]:=⟨_,rfl⟩
  obtain⟨a,b,ha,hb,han,WG⟩:=wS bK
  have ha:r.a=(a:Int):=by rw[hr];exact ha
  have hb:r.b=(b:Int):=by rw[hr];exact hb
  rw[← hr,ha,hb,c7,c7] at hT hl
  simp only[pkA,seval]
  have hd:(emL none (i4 a b)).length=1:=rfl
  repeat first
   |(simp only[Cc,seval,ha,hb])
   |refine dR lJ rfl jZ (by decide) (aA i) (c:=ruC r) (by simp[hr,bK]) rfl ?_
   |refine aB rfl (eO _ _) (fun _=>rfl) ?_
   |refine aB rfl (fZ _ _) (fun _=>rfl) ?_
   |refine aB rfl (gq _) (fun _=>rfl) ?_
   |refine aB rfl (iZ _) (fun _=>rfl) ?_
  refine eK rfl (mS p cur 4 (bu 0 a) zfa (bu 0 b) (by omega)) rfl rfl (by simp[bxs]) ?_
  have hx:lR 4 (bu 0 a) zfa (bu 0 b)=i4 a b:=y9 (by simp[bu])
  rw[hx]
  simp only[pkA,seval,hw]
  exact cj (i+1,cur++[i4 a b]) _ ⟨bK,by rw[aI];exact hT⟩ (by simp only;omega) (le1 rfl (ab _) (ab _) (by simp[FL,ak]) (by simp[]))
 have kU:i=(ruR p 5 p.rules.length).length:=by simp at gr;omega
 subst kU
 rw[eo,eZ,bq] at hT
 subst hT
 simp only[pkA]
 refine cJ _ _ ?_
 simp only[pkA,seval]
 have hL5:(ruR p 5 p.rules.length).length≤1000:=bN qW (by omega)
 have hf5:(ruR p 5 p.rules.length).flatMap (fun r:Ru=>(fun a b=>m5 p none a b) r.a.toNat r.b.toNat)=t5 p none:=qa (D:=fun a b=>m5 p none a b)
 refine bE (fun x:Nat×List In=>hdS [(0,.bp 0 0),(5,.c (.sl ((ruR p 5 p.rules.length).map ruC))),(9,i64 x.1)] [lbx p x.2]) (fun x=>(ruR p 5 p.rules.length).length - x.1) (fun x=>x.1≤(ruR p 5 p.rules.length).length∧x.2++((ruR p 5 p.rules.length).drop x.1).flatMap (fun r:Ru=>(fun a b=>m5 p none a b) r.a.toNat r.b.toNat)=es++t1 p none++t2 p none++t3 p none++t4 p none++t5 p none) (0,es++t1 p none++t2 p none++t3 p none++t4 p none) ⟨ar _,by rw[cd,hf5]⟩ ?_ ?_
 ·exact(le1 rfl (ab _) (ab _) (by simp[FL,ak]) (by simp[bxs]))
 rintro⟨i,cur⟩ ⟨hi,hT⟩ R cj cJ eP
 simp only at hi hT
 simp only[IU,seval]
 refine aT (fun bK=>?_) (fun gr=>?_)
 ·have bK:i<(ruR p 5 p.rules.length).length:=by simpa using bK
  rw[iM bK] at hT
  have hw:=bG (n:=(i:Int)+1) (k:=i+1) (by omega) (by omega)
  have hl:=dK List.length hT
  simp only[ai] at hl
  obtain⟨r,hr⟩:∃ r,r=(ruR p 5 p.rules.length)[i]:=⟨_,rfl⟩
  obtain⟨a,b,ha,hb,han,WG⟩:=wS bK
  have ha:r.a=(a:Int):=by rw[hr];exact ha
  have hb:r.b=(b:Int):=by rw[hr];exact hb
  rw[← hr,ha,hb,c7,c7] at hT hl
  have Wm:=bG (n:=(b:Int)+1) (k:=b+1) (by omega) (by omega)
  simp only[pkA,seval]
  rw[show m5 p none a b=bV p.types.length (fun s0=>emL none (i5 a b s0)) 1 from rfl] at hT hl
  refine bE (fun x:Nat×List In=>hdS [(0,.bp 0 0),(5,.c (.sl ((ruR p 5 p.rules.length).map ruC))),(9,i64 i),(10,i64 x.1)] [lbx p x.2]) (fun x=>p.types.length+1 - x.1) (fun x=>(1≤x.1∧x.1≤p.types.length+1)∧x.2++bV p.types.length (fun s0=>emL none (i5 a b s0)) x.1=cur++bV p.types.length (fun s0=>emL none (i5 a b s0)) 1) (1,cur) ⟨⟨ab _,by omega⟩,rfl⟩ ?_ ?_
  ·exact(le1 rfl (ab _) (ab _) (by simp[FL,ak]) (by simp[bxs]))
  rintro⟨s0,c0⟩ ⟨⟨tD,tE⟩,kQ⟩ R0 j5 kq yA
  simp only at tD tE kQ
  have oD:=dK List.length kQ
  simp only[ai] at oD
  simp only[Cc,seval]
  refine aT (fun kp=>?_) (fun tB=>?_)
  ·have kp:s0≤p.types.length:=by simp at kp;omega
   rw[fw kp] at kQ oD
   simp only[ai] at oD
   have yD:=bG (n:=(s0:Int)+1) (k:=s0+1) (by omega) (by omega)
   simp only[pkA,seval]
   have hd:(emL none (i5 a b s0)).length=1:=rfl
   repeat first
    |(simp only[Cc,seval,ha,hb,Wm])
    |refine dR lJ rfl jZ (by decide) (aA i) (c:=ruC r) (by simp[hr,bK]) rfl ?_
    |refine aB rfl (eO _ _) (fun _=>rfl) ?_
    |refine aB rfl (fZ _ _) (fun _=>rfl) ?_
    |refine aB rfl (gq _) (fun _=>rfl) ?_
    |refine aB rfl (iZ _) (fun _=>rfl) ?_
   refine eK rfl (mS p c0 5 (bu s0 a) (fC s0) (fC (b+1:Nat)) (by omega)) rfl rfl (by simp[bxs]) ?_
   have hx:lR 5 (bu s0 a) (fC s0) (fC (b+1:Nat))=i5 a b s0:=Ca (by simp[bu]) (by simp[fC])
   rw[hx]
   simp only[pkA,seval,yD]
   exact j5 (s0+1,c0++[i5 a b s0]) _ ⟨⟨by omega,by omega⟩,by rw[aI];exact kQ⟩ (by simp only;omega) (le1 rfl (ab _) (ab _) (by simp[FL,ak]) (by simp[]))
  have tC:s0=p.types.length+1:=by simp at tB;omega
  subst tC
  rw[gB (bQ _),bq] at kQ
  subst kQ
  simp only[pkA]
  refine kq _ _ ?_
  simp only[pkA,seval,hw]
  exact cj (i+1,cur++bV p.types.length (fun s0=>emL none (i5 a b s0)) 1) _ ⟨bK,by rw[aI];exact hT⟩ (by simp only;omega) (le1 rfl (ab _) (ab _) (by simp[FL,ak]) (by simp[bxs]))
 have kU:i=(ruR p 5 p.rules.length).length:=by simp at gr;omega
 subst kU
 rw[eo,eZ,bq] at hT
 subst hT
 simp only[pkA]
 refine cJ _ _ ?_
 simp only[pkA,seval]
 exact B8 rfl (ab _) (by simp[bxs])
