/- Layer 18: is a reason that of an instance? -/
import Derived.Test.YtjfjdomfldolcaaGreatVlZ5
set_option maxHeartbeats 8000000
set_option linter.all false
namespace Go.Proofs.YtjfjdomfldolcaaGreat
open Go Go.Vl
variable {G:Gl}
set_option maxRecDepth 10000
def kD:=jj @pkA @gj
def VL:=jj @pkA (jj @ptA (jj @pkU (jj @gj @pkY)))
theorem Jw (m:List In) (w:Wy) (hm:m.length≤1000000000) (hb:∀ x∈m,x.pre.length≤1000000000∧x.con.length≤1000000000):FnOK Tryz.prog G 22 [.c (sY m),.agg (wyC w)] (bo (m.any (vW w))):=by
 refine cL (rs:=[.tmp 4]) false [] mixed Tryz.func22 rfl rfl rfl rfl (by kernel_rfl) (by simp) rfl rfl ?_
 simp only[kD,seval]
 refine bE (fun i:Nat=>hdS [(0,.c (sY m)),(3,.bp 0 0),(5,i64 i)] [(wyC w).map .c]) (fun i=>m.length - i) (fun i=>i≤m.length∧∀ x∈m.take i,vW w x=false) 0 ⟨ar _,by simp⟩ ?_ ?_
 ·exact cD rfl (ar _) (ab _) (by simp[FL,ak]) (by simp[BL])
 rintro i ⟨hi,ht⟩ R cj cJ eP
 simp only[pkA,pkU,gj,seval]
 refine aT (fun bK=>?_) (fun gr=>?_)
 ·have bK:i<m.length:=by simpa using bK
  have hw:=bG (n:=(i:Int)+1) (k:=i+1) (by omega) (by omega)
  obtain⟨hb1,hb2⟩:=hb m[i] (bL bK)
  have ix:∀ {K:V→Prop},K (.c (.rp (inC m[i]) 0))→cE Tryz.prog 44 (.c (.sl (m.map inC))) (i64 i) K:=fun {K} hK=>
   dR mP rfl kA (by decide) (aA i) (c:=inC m[i]) (by simp[bK]) rfl hK
  have stay:vW w m[i]=false→∀ x∈m.take (i+1),vW w x=false:=fun h x hx=>by
   rw[aC bK,aV,a7] at hx
   rcases hx with hx | rfl
   ·exact ht x hx
   ·exact h
  have hg:vW w m[i]=((decide (m[i].pre=w.pre)&&decide (w.fact∈m[i].con))&&decide (m[i].rule=w.rule)):=rfl
  simp only[kD,seval,sY]
  refine ix ?_
  simp only[VL,seval]
  refine aB rfl (qV m[i].pre w.pre hb1) (fun _=>rfl) ?_
  simp only[kD,seval]
  refine ix ?_
  simp only[VL,seval]
  refine aB rfl (yh m[i].con w.fact hb2) (fun _=>rfl) ?_
  simp only[kD,seval]
  cases h1:decide (m[i].pre=w.pre)
  ·simp only[kD,seval,hw]
   exact cj (i+1) _ ⟨bK,stay (by rw[hg,h1];rfl)⟩ (by omega) (cD rfl (ar _) (ab _) (by simp[FL,ak,sY]) (by simp[BL,bxs]))
  ·cases h2:decide (w.fact∈m[i].con)
   ·simp only[kD,seval,hw]
    exact cj (i+1) _ ⟨bK,stay (by rw[hg,h1,h2];rfl)⟩ (by omega) (cD rfl (ar _) (ab _) (by simp[FL,ak,sY]) (by simp[BL,bxs]))
   ·simp only[kD,seval]
    refine ix ?_
    simp only[VL,seval]
    refine aT (fun h3=>?_) (fun h3=>?_)
    ·simp only[kD,seval]
     have e:m.any (vW w)=true:=dU.2 ⟨m[i],bL bK,by rw[hg,h1,h2,h3];rfl⟩
     refine eP _ ?_
     simp only[pkA,seval]
     rw[e]
    ·simp only[kD,seval,hw]
     exact cj (i+1) _ ⟨bK,stay (by rw[hg,h1,h2,h3];rfl)⟩ (by omega) (cD rfl (ar _) (ab _) (by simp[FL,ak,sY]) (by simp[BL,bxs]))
 ·have:i=m.length:=by simp at gr;omega
  subst this
  rw[bD] at ht
  have e:m.any (vW w)=false:=by rw[List.any_eq_false];exact fun x hx=>by simp[ht x hx]
  simp only[pkA]
  refine cJ _ _ ?_
  simp only[kD,seval]
  rw[e]
theorem Ct {l:List Wy} {g:Fa} {j:Nat} (h:j<l.length):qm (l.take (j+1)) g=if l[j].fact=g then l[j].round else qm (l.take j) g:=by
 unfold qm
 rw[aC h,ew];rfl
theorem L8 {l:List Wy} {m:List Fa} {k:Nat} (h:k<m.length):si l (m.take (k+1))=mxI (si l (m.take k)) (qm l m[k]):=by
 unfold si
 rw[aC h,ew];rfl
theorem afL {a b:Int} {K:V→Prop}:Ah true [i64 a,i64 b] K=K (i64 (mxI a b)):=rfl
def NF:=jj @pkA (jj @ptA (jj @pkU @gj))
def abR:=jj @pkA (jj @gj @pkY)
def EB:=jj @pkA (jj @ptA (jj @gj @pkY))
theorem Di (p:Pol):FnOK Tryz.prog G 5 [.agg (poC p)] (bo true):=by
 refine cL (rs:=[.tmp 2]) false [] mixed Tryz.func5 rfl rfl rfl rfl (by kernel_rfl) (by simp) rfl rfl ?_
 simp only[NF,seval]
 refine aB rfl (qg p) (fun _=>rfl) ?_
 cases hs:(decide ((p.types.length:Int)≤4)&&decide ((p.rules.length:Int)≤8))
 ·simp only[kD,seval]
  refine aB rfl jH (fun _=>rfl) ?_
  simp only[kD,seval]
 ·have hs:(p.types.length:Int)≤4∧(p.rules.length:Int)≤8:=by simpa using hs
  have hp:PolS p:=⟨by omega,by omega⟩
  have hln:=hp.len
  have Mo:=jU p
  have JS:=hp.sat
  have hsm:∀ x∈gp p none,x.pre.length≤1000000000∧x.con.length≤1000000000:=fun x hx=>by
   have:=l0 (p:=p) (o:=none) x hx;omega
  have gC:∀ w∈cC p,(gp p none).any (vW w)=true:=fun w hw=>L7 hw
  have hrd:∀ w∈cC p,(∀ g∈w.pre,qm (cC p) g≠0)∧w.round=si (cC p) w.pre+1∧w.round≤20003:=fun w hw=>by
   obtain⟨h1,h2,h3⟩:=Jv hw
   exact⟨h1,h2,by omega⟩
  have JB:∀ w∈cC p,w.pre.length≤2:=fun w hw=>qd w (least_mem.1 hw)
  have hI:=NB (G:=G) p (by omega) (by omega) hln
  have hL:=sd (G:=G) hp
  simp only[NF,seval]
  refine aB rfl hI (fun h=>by cases h) ?_
  simp only[NF,seval]
  refine aB rfl hL (fun h=>by cases h) ?_
  simp only[kD,seval]
  clear hI hL
  generalize cC p=l at Mo gC hrd JB
  generalize gp p none=m at hln hsm gC
  have hl4:l.length≤40000:=by omega
  refine bE (fun i:Nat=>hdS [(4,.c (sY m)),(5,.c (wsC l)),(6,i64 i)] []) (fun i=>l.length - i) (fun i=>i≤l.length) 0 (ar _) ?_ ?_
  ·exact cD rfl (ar _) (ar _) (by simp[FL,ak]) trivial
  rintro i hi R cj cJ eP
  simp only[abR,seval]
  refine aT (fun bK=>?_) (fun gr=>?_)
  ·have bK:i<l.length:=by simpa using bK
   have hw:=bG (n:=(i:Int)+1) (k:=i+1) (by omega) (by omega)
   have ei:((i+1:Nat):Int)=(i:Int)+1:=by omega
   have hwm:l[i]∈l:=bL bK
   have ajN:=gC _ hwm
   obtain⟨hr1,Ww,hr3⟩:=hrd _ hwm
   have hp2:=JB _ hwm
   obtain⟨w,hwe⟩:∃ w,w=l[i]:=⟨_,rfl⟩
   rw[← hwe] at ajN hr1 Ww hr3 hp2
   have ix:∀ {K:V→Prop},K (.c (.rp (wyC w) 0))→cE Tryz.prog 31 (.c (.sl (l.map wyC))) (i64 i) K:=fun {K} hK=>
    dR kO rfl gX (by decide) (aA i) (c:=wyC w) (by simp[bK,hwe]) rfl hK
   simp only[kD,seval,wsC]
   refine ix ?_
   simp only[EB,seval]
   refine aB rfl (Jw m w (by omega) hsm) (fun _=>rfl) ?_
   rw[ajN]
   simp only[kD,seval]
   refine bE (fun k:Nat=>hdS [(4,.c (sY m)),(5,.c (wsC l)),(6,i64 i),(8,i64 (si l (w.pre.take k))),(9,i64 k)] []) (fun k=>w.pre.length - k) (fun k=>k≤w.pre.length) 0 (ar _) ?_ ?_
   ·exact cD rfl (ar _) (ar _) (by simp[FL,ak,wsC,si]) trivial
   rintro k hk Rk qA tF NT
   simp only[kD,seval,wsC]
   refine ix ?_
   simp only[EB,seval]
   refine aT (fun vX=>?_) (fun hkg=>?_)
   ·have vX:k<w.pre.length:=by simpa using vX
    have Az:=bG (n:=(k:Int)+1) (k:=k+1) (by omega) (by omega)
    have ek:((k+1:Nat):Int)=(k:Int)+1:=by omega
    obtain⟨g,gr⟩:∃ g,g=w.pre[k]:=⟨_,rfl⟩
    have ixg:∀ {K:V→Prop},K (.c (.rp (faC g) 0))→cE Tryz.prog 37 (.c (fsC w.pre)) (i64 k) K:=fun {K} hK=>
     dR fk rfl eY (by decide) (aA k) (c:=faC g) (by simp[vX,gr]) rfl hK
    simp only[kD,seval]
    refine bE (fun j:Nat=>hdS [(4,.c (sY m)),(5,.c (wsC l)),(6,i64 i),(8,i64 (si l (w.pre.take k))),(9,i64 k),(10,i64 (qm (l.take j) g)),(11,i64 j)] []) (fun j=>l.length - j) (fun j=>j≤l.length) 0 (ar _) ?_ ?_
    ·exact cD rfl (ar _) (ar _) (by simp[FL,ak,wsC,qm]) trivial
    rintro j hj Rj GE Ms ajL
    simp only[abR,seval]
    refine aT (fun NG=>?_) (fun hjg=>?_)
    ·have NG:j<l.length:=by simpa using NG
     have hwj:=bG (n:=(j:Int)+1) (k:=j+1) (by omega) (by omega)
     have ej:((j+1:Nat):Int)=(j:Int)+1:=by omega
     have ixj:∀ {K:V→Prop},K (.c (.rp (wyC l[j]) 0))→cE Tryz.prog 31 (.c (.sl (l.map wyC))) (i64 j) K:=fun {K} hK=>
      dR kO rfl gX (by decide) (aA j) (c:=wyC l[j]) (by simp[NG]) rfl hK
     simp only[kD,seval,wsC]
     refine ixj ?_
     simp only[EB,seval]
     refine ix ?_
     simp only[EB,seval]
     refine ixg ?_
     simp only[NF,seval]
     refine aT (fun hy=>?_) (fun hn=>?_)
     ·have hy:l[j].fact=g:=by simpa using hy
      simp only[kD,seval]
      refine ixj ?_
      simp only[EB,seval,hwj]
      exact GE (j+1) _ NG (by omega) (cD rfl (ar _) (ar _) (by simp[FL,ak,wsC,ej,Ct NG,hy]) trivial)
     ·have hn:¬ l[j].fact=g:=by simpa using hn
      simp only[kD,seval,hwj]
      exact GE (j+1) _ NG (by omega) (cD rfl (ar _) (ar _) (by simp[FL,ak,wsC,ej,Ct NG,hn]) trivial)
    ·have:j=l.length:=by simp at hjg;omega
     subst this
     have hg0:qm l g≠0:=hr1 g (by rw[gr];exact bL vX)
     simp only[pkA]
     refine Ms _ _ ?_
     rw[bD]
     simp only[kD,seval]
     refine aT (fun hz=>?_) (fun _=>?_)
     ·exact absurd (by simpa using hz) hg0
     simp only[kD,seval,afL,Az]
     exact qA (k+1) _ vX (by omega) (cD rfl (ar _) (ar _) (by simp[FL,ak,wsC,ek,L8 vX,← gr]) trivial)
   ·have:k=w.pre.length:=by simp at hkg;omega
    subst this
    have oD:0≤si l w.pre:=(Cs (h:=qm l) w.pre 0).1
    have vL:=bG (n:=si l w.pre+1) (k:=w.round.toNat) (by omega) (by omega)
    simp only[pkA]
    refine tF _ _ ?_
    rw[bD]
    simp only[kD,seval]
    refine ix ?_
    have amj:IntKind.i64.wrap (si l w.pre+1)=w.round:=by rw[vL];omega
    simp only[EB,seval,amj,eU,hw]
    exact cj (i+1) _ bK (by omega) (cD rfl (ar _) (ar _) (by simp[FL,ak,wsC,ei]) trivial)
  ·have:i=l.length:=by simp at gr;omega
   subst this
   simp only[pkA]
   refine cJ _ _ ?_
   simp only[kD,seval]
   refine aB rfl jH (fun _=>rfl) ?_
   simp only[kD,seval]
