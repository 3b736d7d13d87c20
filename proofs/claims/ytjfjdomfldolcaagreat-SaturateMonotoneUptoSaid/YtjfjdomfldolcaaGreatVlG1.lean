/- Layer 17, the specification: the rules 11 to 15. Printed by genr8.py. -/
import Derived.Test.YtjfjdomfldolcaaGreatVlR9
import Derived.Test.YtjfjdomfldolcaaGreatVlH1
set_option maxHeartbeats 8000000
set_option linter.all false
namespace Go.Proofs.YtjfjdomfldolcaaGreat
open Go Go.Vl
variable {G:Gl}
set_option maxRecDepth 4000
theorem ak0 (b:Int):Aq 0 b=true:=by
 unfold Aq
 rw[qL]
 simp
theorem ak1 {p:Pol} {t:Nat} (h:t<p.types.length):pT p t 0=true:=by
 unfold pT
 rw[ae h]
 exact ak0 _
theorem LS {p:Pol} {D:Nat→List In} {t:Nat} (h:t<p.types.length):jb p none 0 D t=D t++jb p none 0 D (t+1):=by
 rw[BX h]
 unfold pU
 rw[if_pos (by rw[ak1 h];rfl)]
def Np:=jj @pkA @ptA
def zQ:=jj @pkA (jj @ptA @pkM)
theorem LU (p:Pol) (es:List In) (hn:p.types.length≤1000) (hr':p.rules.length≤1000) (cg:(es++t11 p none++t12 p none++t13 p none++t14 none++t15 p none).length<900000) :
 FnB Tryz.prog G 44 [.bp 0 0] [lbx p es] (.tup []) [lbx p (es++t11 p none++t12 p none++t13 p none++t14 none++t15 p none)]:=by
 simp only[ai] at cg
 refine lW (rs:=[]) (k:=1) [1000010,1000031,1000033,1000064,1000089,1000094,1000109,3000001] mixed Tryz.func44 rfl rfl rfl rfl (by kernel_rfl) (by simp) rfl rfl rfl (wR rfl) (ab _) ?_
 simp only[pkA,seval]
 refine eK rfl (sb p (es) 2 (by omega)) rfl rfl (by simp[bxs]) ?_
 have hL1:(ruR p 2 p.rules.length).length≤1000:=bN qW (by omega)
 simp only[pkA,seval]
 have hf1:(ruR p 2 p.rules.length).flatMap (fun r:Ru=>(fun a b=>emL none (i11 a b)) r.a.toNat r.b.toNat)=t11 p none:=qa (D:=fun a b=>emL none (i11 a b))
 refine bE (fun x:Nat×List In=>hdS [(0,.bp 0 0),(2,.c (.sl ((ruR p 2 p.rules.length).map ruC))),(3,i64 x.1)] [lbx p x.2]) (fun x=>(ruR p 2 p.rules.length).length - x.1) (fun x=>x.1≤(ruR p 2 p.rules.length).length∧x.2++((ruR p 2 p.rules.length).drop x.1).flatMap (fun r:Ru=>(fun a b=>emL none (i11 a b)) r.a.toNat r.b.toNat)=es++t11 p none) (0,es) ⟨ar _,by rw[cd,hf1]⟩ ?_ ?_
 ·exact(le1 rfl (ab _) (ab _) (by simp[FL,ak]) (by simp[]))
 rintro⟨i,cur⟩ ⟨hi,hT⟩ R cj cJ eP
 simp only at hi hT
 simp only[Np,seval]
 refine aT (fun bK=>?_) (fun gr=>?_)
 ·have bK:i<(ruR p 2 p.rules.length).length:=by simpa using bK
  rw[iM bK] at hT
  have hw:=bG (n:=(i:Int)+1) (k:=i+1) (by omega) (by omega)
  have hl:=dK List.length hT
  simp only[ai] at hl
  obtain⟨r,hr⟩:∃ r,r=(ruR p 2 p.rules.length)[i]:=⟨_,rfl⟩
  obtain⟨a,b,ha,hb,han,WG⟩:=wS bK
  have ha:r.a=(a:Int):=by rw[hr];exact ha
  have hb:r.b=(b:Int):=by rw[hr];exact hb
  rw[← hr,ha,hb,c7,c7] at hT hl
  simp only[pkA,seval]
  have hd:(emL none (i11 a b)).length=1:=rfl
  repeat first
   |(simp only[zQ,seval,ha,hb])
   |refine dR lJ rfl jZ (by decide) (aA i) (c:=ruC r) (by simp[hr,bK]) rfl ?_
   |refine aB rfl (eO _ _) (fun _=>rfl) ?_
   |refine aB rfl (fZ _ _) (fun _=>rfl) ?_
   |refine aB rfl (gq _) (fun _=>rfl) ?_
   |refine aB rfl (iZ _) (fun _=>rfl) ?_
  refine eK rfl (mS p cur 11 (bu 0 a) zfa (bu 0 b) (by omega)) rfl rfl (by simp[bxs]) ?_
  have hx:lR 11 (bu 0 a) zfa (bu 0 b)=i11 a b:=y9 (by simp[bu])
  rw[hx]
  simp only[pkA,seval,hw]
  exact cj (i+1,cur++[i11 a b]) _ ⟨bK,by rw[aI];exact hT⟩ (by simp only;omega) (le1 rfl (ab _) (ab _) (by simp[FL,ak]) (by simp[]))
 have kU:i=(ruR p 2 p.rules.length).length:=by simp at gr;omega
 subst kU
 rw[eo,eZ,bq] at hT
 subst hT
 simp only[pkA]
 refine cJ _ _ ?_
 simp only[pkA,seval]
 refine eK rfl (sb p (es++t11 p none) 1 (by omega)) rfl rfl (by simp[bxs]) ?_
 have hL2:(ruR p 1 p.rules.length).length≤1000:=bN qW (by omega)
 simp only[pkA,seval]
 have hf2:(ruR p 1 p.rules.length).flatMap (fun r:Ru=>(fun a b=>m12 p none a b) r.a.toNat r.b.toNat)=t12 p none:=qa (D:=fun a b=>m12 p none a b)
 refine bE (fun x:Nat×List In=>hdS [(0,.bp 0 0),(2,.c (.sl ((ruR p 1 p.rules.length).map ruC))),(4,i64 x.1)] [lbx p x.2]) (fun x=>(ruR p 1 p.rules.length).length - x.1) (fun x=>x.1≤(ruR p 1 p.rules.length).length∧x.2++((ruR p 1 p.rules.length).drop x.1).flatMap (fun r:Ru=>(fun a b=>m12 p none a b) r.a.toNat r.b.toNat)=es++t11 p none++t12 p none) (0,es++t11 p none) ⟨ar _,by rw[cd,hf2]⟩ ?_ ?_
 ·exact(le1 rfl (ab _) (ab _) (by simp[FL,ak]) (by simp[]))
 rintro⟨i,cur⟩ ⟨hi,hT⟩ R cj cJ eP
 simp only at hi hT
 simp only[Np,seval]
 refine aT (fun bK=>?_) (fun gr=>?_)
 ·have bK:i<(ruR p 1 p.rules.length).length:=by simpa using bK
  rw[iM bK] at hT
  have hw:=bG (n:=(i:Int)+1) (k:=i+1) (by omega) (by omega)
  have hl:=dK List.length hT
  simp only[ai] at hl
  obtain⟨r,hr⟩:∃ r,r=(ruR p 1 p.rules.length)[i]:=⟨_,rfl⟩
  obtain⟨a,b,ha,hb,han,WG⟩:=wS bK
  have ha:r.a=(a:Int):=by rw[hr];exact ha
  have hb:r.b=(b:Int):=by rw[hr];exact hb
  rw[← hr,ha,hb,c7,c7] at hT hl
  simp only[pkA,seval]
  rw[show m12 p none a b=bV p.types.length (fun s0=>emL none (i12 a b s0)) 1 from rfl] at hT hl
  refine bE (fun x:Nat×List In=>hdS [(0,.bp 0 0),(2,.c (.sl ((ruR p 1 p.rules.length).map ruC))),(4,i64 i),(5,i64 x.1)] [lbx p x.2]) (fun x=>p.types.length+1 - x.1) (fun x=>(1≤x.1∧x.1≤p.types.length+1)∧x.2++bV p.types.length (fun s0=>emL none (i12 a b s0)) x.1=cur++bV p.types.length (fun s0=>emL none (i12 a b s0)) 1) (1,cur) ⟨⟨ab _,by omega⟩,rfl⟩ ?_ ?_
  ·exact(le1 rfl (ab _) (ab _) (by simp[FL,ak]) (by simp[bxs]))
  rintro⟨s0,c0⟩ ⟨⟨tD,tE⟩,kQ⟩ R0 j5 kq yA
  simp only at tD tE kQ
  have oD:=dK List.length kQ
  simp only[ai] at oD
  simp only[zQ,seval]
  refine aT (fun kp=>?_) (fun tB=>?_)
  ·have kp:s0≤p.types.length:=by simp at kp;omega
   rw[fw kp] at kQ oD
   simp only[ai] at oD
   have yD:=bG (n:=(s0:Int)+1) (k:=s0+1) (by omega) (by omega)
   simp only[pkA,seval]
   have hd:(emL none (i12 a b s0)).length=1:=rfl
   repeat first
    |(simp only[zQ,seval,ha,hb])
    |refine dR lJ rfl jZ (by decide) (aA i) (c:=ruC r) (by simp[hr,bK]) rfl ?_
    |refine aB rfl (eO _ _) (fun _=>rfl) ?_
    |refine aB rfl (fZ _ _) (fun _=>rfl) ?_
    |refine aB rfl (gq _) (fun _=>rfl) ?_
    |refine aB rfl (iZ _) (fun _=>rfl) ?_
   refine eK rfl (mS p c0 12 (bu 0 a) (bu s0 b) (fC s0) (by omega)) rfl rfl (by simp[bxs]) ?_
   have hx:lR 12 (bu 0 a) (bu s0 b) (fC s0)=i12 a b s0:=Ca (by simp[bu]) (by simp[bu])
   rw[hx]
   simp only[pkA,seval,yD]
   exact j5 (s0+1,c0++[i12 a b s0]) _ ⟨⟨by omega,by omega⟩,by rw[aI];exact kQ⟩ (by simp only;omega) (le1 rfl (ab _) (ab _) (by simp[FL,ak]) (by simp[]))
  have tC:s0=p.types.length+1:=by simp at tB;omega
  subst tC
  rw[gB (bQ _),bq] at kQ
  subst kQ
  simp only[pkA]
  refine kq _ _ ?_
  simp only[pkA,seval,hw]
  exact cj (i+1,cur++bV p.types.length (fun s0=>emL none (i12 a b s0)) 1) _ ⟨bK,by rw[aI];exact hT⟩ (by simp only;omega) (le1 rfl (ab _) (ab _) (by simp[FL,ak]) (by simp[bxs]))
 have kU:i=(ruR p 1 p.rules.length).length:=by simp at gr;omega
 subst kU
 rw[eo,eZ,bq] at hT
 subst hT
 simp only[pkA]
 refine cJ _ _ ?_
 simp only[pkA,seval]
 refine bE (fun x:Nat×List In=>hdS [(0,.bp 0 0),(6,i64 x.1)] [lbx p x.2]) (fun x=>p.types.length - x.1) (fun x=>x.1≤p.types.length∧x.2++jb p none 0 (fun t=>m13 p none t) x.1=es++t11 p none++t12 p none++t13 p none) (0,es++t11 p none++t12 p none) ⟨ar _,rfl⟩ ?_ ?_
 ·exact(le1 rfl (ab _) (ab _) (by simp[FL,ak]) (by simp[bxs]))
 rintro⟨t,cur⟩ ⟨hi,hT⟩ R cj cJ eP
 simp only at hi hT
 simp only[zQ,seval]
 refine aT (fun bK=>?_) (fun gr=>?_)
 ·have bK:t<p.types.length:=by simpa using bK
  rw[LS bK] at hT
  have hw:=bG (n:=(t:Int)+1) (k:=t+1) (by omega) (by omega)
  have hl:=dK List.length hT
  simp only[ai] at hl
  rw[show m13 p none t=bV p.types.length (fun s0=>emL none (i13 t s0)) 1 from rfl] at hT hl
  simp only[pkA,seval]
  refine bE (fun x:Nat×List In=>hdS [(0,.bp 0 0),(6,i64 t),(7,i64 x.1)] [lbx p x.2]) (fun x=>p.types.length+1 - x.1) (fun x=>(1≤x.1∧x.1≤p.types.length+1)∧x.2++bV p.types.length (fun s0=>emL none (i13 t s0)) x.1=cur++bV p.types.length (fun s0=>emL none (i13 t s0)) 1) (1,cur) ⟨⟨ab _,by omega⟩,rfl⟩ ?_ ?_
  ·exact(le1 rfl (ab _) (ab _) (by simp[FL,ak]) (by simp[bxs]))
  rintro⟨s0,c0⟩ ⟨⟨tD,tE⟩,kQ⟩ R0 j5 kq yA
  simp only at tD tE kQ
  have oD:=dK List.length kQ
  simp only[ai] at oD
  simp only[zQ,seval]
  refine aT (fun kp=>?_) (fun tB=>?_)
  ·have kp:s0≤p.types.length:=by simp at kp;omega
   rw[fw kp] at kQ oD
   simp only[ai] at oD
   have yD:=bG (n:=(s0:Int)+1) (k:=s0+1) (by omega) (by omega)
   simp only[pkA,seval]
   have hd:(emL none (i13 t s0)).length=1:=rfl
   repeat first
    |(simp only[pkA,seval])
    |fail
    |refine aB rfl (eO _ _) (fun _=>rfl) ?_
    |refine aB rfl (fZ _ _) (fun _=>rfl) ?_
    |refine aB rfl (gq _) (fun _=>rfl) ?_
    |refine aB rfl (iZ _) (fun _=>rfl) ?_
   refine eK rfl (mS p c0 13 (fC s0) (bu s0 t) (bu 0 t) (by omega)) rfl rfl (by simp[bxs]) ?_
   have hx:lR 13 (fC s0) (bu s0 t) (bu 0 t)=i13 t s0:=Ca (by simp[fC]) (by simp[bu])
   rw[hx]
   simp only[pkA,seval,yD]
   exact j5 (s0+1,c0++[i13 t s0]) _ ⟨⟨by omega,by omega⟩,by rw[aI];exact kQ⟩ (by simp only;omega) (le1 rfl (ab _) (ab _) (by simp[FL,ak]) (by simp[]))
  have tC:s0=p.types.length+1:=by simp at tB;omega
  subst tC
  rw[gB (bQ _),bq] at kQ
  subst kQ
  simp only[pkA]
  refine kq _ _ ?_
  simp only[pkA,seval,hw]
  exact cj (t+1,cur++bV p.types.length (fun s0=>emL none (i13 t s0)) 1) _ ⟨bK,by rw[aI];exact hT⟩ (by simp only;omega) (le1 rfl (ab _) (ab _) (by simp[FL,ak]) (by simp[bxs]))
 have kU:t=p.types.length:=by simp at gr;omega
 subst kU
 rw[D9,bq] at hT
 subst hT
 simp only[pkA]
 refine cJ _ _ ?_
 simp only[Np,seval]
 refine aB rfl (fZ _ _) (fun _=>rfl) ?_
 simp only[pkA,seval]
 refine eK rfl (mS p (es++t11 p none++t12 p none++t13 p none) 14 zfa zfa (gi 0 0) (by simp only[ai];omega)) rfl rfl (by simp[bxs]) ?_
 have hx:lR 14 zfa zfa (gi 0 0)=i14:=LP
 rw[hx]
 simp only[pkA,seval]
 rw[show t15 p none=bV p.types.length (fun s0=>emL none (i15 s0)) 1 from rfl] at cg
 rw[show t14 none=[i14] from rfl] at cg
 have h14:[i14].length=1:=rfl
 refine bE (fun x:Nat×List In=>hdS [(0,.bp 0 0),(8,i64 x.1)] [lbx p x.2]) (fun x=>p.types.length+1 - x.1) (fun x=>(1≤x.1∧x.1≤p.types.length+1)∧x.2++bV p.types.length (fun s0=>emL none (i15 s0)) x.1=(es++t11 p none++t12 p none++t13 p none++[i14])++bV p.types.length (fun s0=>emL none (i15 s0)) 1) (1,(es++t11 p none++t12 p none++t13 p none++[i14])) ⟨⟨ab _,by omega⟩,rfl⟩ ?_ ?_
 ·exact(le1 rfl (ab _) (ab _) (by simp[FL,ak]) (by simp[]))
 rintro⟨s0,c0⟩ ⟨⟨tD,tE⟩,kQ⟩ R0 j5 kq yA
 simp only at tD tE kQ
 have oD:=dK List.length kQ
 simp only[ai] at oD
 simp only[zQ,seval]
 refine aT (fun kp=>?_) (fun tB=>?_)
 ·have kp:s0≤p.types.length:=by simp at kp;omega
  rw[fw kp] at kQ oD
  simp only[ai] at oD
  have yD:=bG (n:=(s0:Int)+1) (k:=s0+1) (by omega) (by omega)
  simp only[pkA,seval]
  have hd:(emL none (i15 s0)).length=1:=rfl
  repeat first
   |(simp only[Np,seval])
   |fail
   |refine aB rfl (eO _ _) (fun _=>rfl) ?_
   |refine aB rfl (fZ _ _) (fun _=>rfl) ?_
   |refine aB rfl (gq _) (fun _=>rfl) ?_
   |refine aB rfl (iZ _) (fun _=>rfl) ?_
  refine eK rfl (mS p c0 15 (gi 0 s0) zfa (fC s0) (by omega)) rfl rfl (by simp[bxs]) ?_
  have hx:lR 15 (gi 0 s0) zfa (fC s0)=i15 s0:=y9 (by simp[gi])
  rw[hx]
  simp only[pkA,seval,yD]
  exact j5 (s0+1,c0++[i15 s0]) _ ⟨⟨by omega,by omega⟩,by rw[aI];exact kQ⟩ (by simp only;omega) (le1 rfl (ab _) (ab _) (by simp[FL,ak]) (by simp[]))
 have tC:s0=p.types.length+1:=by simp at tB;omega
 subst tC
 rw[gB (bQ _),bq] at kQ
 subst kQ
 simp only[pkA]
 refine kq _ _ ?_
 simp only[pkA,seval]
 exact B8 rfl (ab _) (by simp[bxs];rfl)
theorem Nq {p:Pol} {es:List In} {ρ:Nat→Nat}:(lbx p es).map (V.ren ρ)=lbx p es:=rfl
theorem za {p:Pol} {es es':List In} {g:FuncId} {fr:Nat→V} {bx:Nat→List V} {K:Vl.S→V→Prop} (h:FnB Tryz.prog G g [.bp 0 0] [lbx p es] (.tup []) [lbx p es']) (h1:bx 1=lbx p es)
 (hK:∀ bx':Nat→List V,bx' 0=bx 0→bx' 1=lbx p es'→K ⟨fr,bx',2⟩ (.tup [])):vcallB Tryz.prog G ⟨fr,bx,2⟩ (.c (.fn (.func g) [] [])) [.bp 1 0] K:=by
 refine ml [1] rfl h (by simp[V.fz,V.ren,rho]) rfl (by decide) rfl ⟨⟨show 1<2 by decide,by rw[Nq];exact h1⟩,trivial⟩ ?_
 intro bx' ko vA
 exact hK bx' (ko 0 (by decide)) (by rw[← Nq (p:=p) (es:=es')];exact vA 0 1 _ rfl rfl)
theorem Gm {p:Pol} {o:Option Fa}:gp p o=[]++t1 p o++t2 p o++t3 p o++t4 p o++t5 p o++t6 p o++t7 p o++t8 p o++t9 p o++t10 p o++t11 p o++t12 p o++t13 p o++t14 o++t15 p o:=by
 unfold gp Lt
 simp only[cU,List.flatten_nil,bq,eI,aI]
theorem IV (p:Pol) (hn:p.types.length≤1000) (hr:p.rules.length≤1000) (cg:(gp p none).length≤20000):FnOK Tryz.prog G 21 [.agg (poC p)] (.c (.sl ((gp p none).map inC))):=by
 have hl:=cg
 rw[Gm] at hl
 simp only[ai] at hl
 refine cL (rs:=[.tmp 2]) false [1000011,1000013,1000015,2500008] mixed Tryz.func21 rfl rfl rfl rfl (by kernel_rfl) (by simp) rfl rfl ?_
 simp only[zQ,seval]
 refine Iz (l:=lbx p []) (by rw[show(p.types.map tyC).length=p.types.length from au ..];rfl) ?_
 have hbm:∀ {t d:Nat} {fr:Nat→V} {bx:Nat→List V} {nb:Nat} {K:Vl.S→Prop},fr t=.mag (lbx p [])→rL (some t) d (.mag (lbx p [])) ⟨fr,bx,nb⟩ K=K ⟨up fr d (.bp nb 0),up bx nb (lbx p []),nb+1⟩:=fun h=>MM h
 simp only[pkA,seval,hbm]
 refine za (PY p [] hn hr (by simp only[ai,aU];omega)) rfl ?_
 intro bx1 h10 h11
 simp only[pkA,seval]
 refine za (PZ p _ hn hr (by simp only[ai,aU];omega)) h11 ?_
 intro bx2 h20 h21
 simp only[pkA,seval]
 refine za (LU p _ hn hr (by simp only[ai,aU];omega)) h21 ?_
 intro bx3 h30 h31
 rw[← Gm] at h31
 have lb5:∀ nb q K,ldB nb q (lbx p (gp p none)) 5 K=(q<nb∧K (.c (.sl ((gp p none).map inC)))):=fun nb q K=>by
  have gW:(gp p none).isEmpty=false:=by
   rw[Gm];simp[t14,akZ]
  unfold ldB lbx owI
  rw[gW];rfl
 simp only[zQ,seval,h31,lb5]
theorem yi {α:Type} {f:α→List In} {b:Nat}:∀ (l:List α),(∀ x∈l,(f x).length≤b)→(l.flatMap f).length≤l.length*b
 |[],_=>by simp
 |x::l,h=>by
  rw[fE,ai,aZ,dZ]
  have h1:=h x (a8 ..)
  have h2:=yi l fun y hy=>h y (aD _ hy)
  omega
theorem lY {o:Option Fa} {x:In}:(emL o x).length≤1:=by
 unfold emL;split<;>simp
theorem U7 {p:Pol} {o:Option Fa} {flag:Int} {D:Nat→List In} {b:Nat} (h:∀ t,(D t).length≤b):(jb p o flag D 0).length≤p.types.length*b:=by
 unfold jb
 have:=yi (f:=pU p o flag D) (b:=b) (List.range' 0 (p.types.length - 0)) fun t _=>by
  unfold pU;split
  ·exact h t
  ·simp
 simpa using this
theorem zb {n:Nat} {D:Nat→List In} {v b:Nat} (h:∀ t,(D t).length≤b):(bV n D v).length≤(n+1)*b:=by
 unfold bV
 have:=yi (f:=D) (b:=b) (List.range' v (n+1 - v)) fun t _=>h t
 rw[List.length_range'] at this
 exact bN this (aO _ (by omega))
theorem U8 {n first:Nat} {D:Nat→Nat→List In} {b:Nat} (h:∀ v w,(D v w).length≤b):(uE n first D).length≤(n+1)*((n+1)*b):=zb fun v=>zb fun w=>h v w
theorem U9 {p:Pol} {o:Option Fa} {kind:Int} {D:Nat→Nat→List In} {b:Nat} (h:∀ x y,(D x y).length≤b):(jy p o kind D 0).length≤p.rules.length*b:=by
 unfold jy
 have:=yi (f:=qO p o kind D) (b:=b) (p.rules.drop 0) fun t _=>by
  unfold qO;split
  ·exact h _ _
  ·simp
 simpa using this
theorem aag {o:Option Fa} {a b v w:Nat}:(r10 o a b v w).length≤1:=by
 unfold r10;split
 ·simp
 ·exact lY
theorem Va {p:Pol} {o:Option Fa} (hn:p.types.length≤7) (hr:p.rules.length≤15):(gp p o).length≤20000:=by
 have h8:p.types.length+1≤8:=by omega
 have h64:(p.types.length+1)*((p.types.length+1)*1)≤8*(8*1):=Nat.mul_le_mul h8 (Nat.mul_le_mul h8 (ab 1))
 have h81:(p.types.length+1)*1≤8*1:=Nat.mul_le_mul h8 (ab 1)
 have c1:∀ D:Nat→List In,(∀ t,(D t).length≤1)→∀ v,(bV p.types.length D v).length≤8:=fun D h v=>by
  have:=zb (n:=p.types.length) (D:=D) (v:=v) (b:=1) h
  omega
 have c2:∀ D:Nat→Nat→List In,(∀ v w,(D v w).length≤1)→∀ v,(uE p.types.length v D).length≤64:=fun D h v=>bN (U8 (n:=p.types.length) (first:=v) (D:=D) (b:=1) h) h64
 have f1:∀ (D:Nat→List In) (b:Nat),(∀ t,(D t).length≤b)→∀ flag,(jb p o flag D 0).length≤7*b:=fun D b h flag=>bN (U7 h) (aO _ hn)
 have r1:∀ (D:Nat→Nat→List In) (b:Nat),(∀ x y,(D x y).length≤b)→∀ kind,(jy p o kind D 0).length≤15*b:=fun D b h kind=>bN (U9 h) (aO _ hr)
 have l1:(t1 p o).length≤7:=f1 _ 1 (fun _=>lY) _
 have l2:(t2 p o).length≤7:=f1 _ 1 (fun _=>lY) _
 have l3:(t3 p o).length≤120:=r1 _ 8 (fun _ _=>c1 _ (fun _=>lY) _) _
 have l4:(t4 p o).length≤15:=r1 _ 1 (fun _ _=>lY) _
 have l5:(t5 p o).length≤120:=r1 _ 8 (fun _ _=>c1 _ (fun _=>lY) _) _
 have l6:(t6 p o).length≤56:=f1 _ 8 (fun _=>c1 _ (fun _=>lY) _) _
 have l7:(t7 p o).length≤56:=f1 _ 8 (fun _=>c1 _ (fun _=>lY) _) _
 have l8:(t8 p o).length≤960:=r1 _ 64 (fun _ _=>c2 _ (fun _ _=>lY) _) _
 have l9:(t9 p o).length≤448:=f1 _ 64 (fun _=>c2 _ (fun _ _=>lY) _) _
 have l10:(t10 p o).length≤960:=r1 _ 64 (fun _ _=>c2 _ (fun _ _=>aag) _) _
 have l11:(t11 p o).length≤15:=r1 _ 1 (fun _ _=>lY) _
 have l12:(t12 p o).length≤120:=r1 _ 8 (fun _ _=>c1 _ (fun _=>lY) _) _
 have l13:(t13 p o).length≤56:=f1 _ 8 (fun _=>c1 _ (fun _=>lY) _) _
 have l14:(t14 o).length≤1:=lY
 have l15:(t15 p o).length≤8:=c1 _ (fun _=>lY) _
 have e:(gp p o).length=(t1 p o).length+((t2 p o).length+((t3 p o).length+((t4 p o).length+((t5 p o).length+((t6 p o).length+((t7 p o).length+((t8 p o).length+((t9 p o).length+((t10 p o).length+((t11 p o).length+((t12 p o).length+((t13 p o).length+((t14 o).length+(t15 p o).length))))))))))))):=by
  unfold gp Lt
  simp only[cU,List.flatten_nil,ai,aU,eC]
 rw[e]
 omega
