/- Layer 18, the specification: Tree. -/
import Derived.Test.YtjfjdomfldolcaaGreatVlY6
set_option linter.all false
namespace Go.Proofs.YtjfjdomfldolcaaGreat
open Go Go.Vl
variable {G:Gl}
set_option maxRecDepth 4000
def oY (f:Fa) (need:List Fa) (w:Wy):List Fa:=if w.fact=f then w.pre.foldl nc need else need
def uQ (l:List Wy):Nat→Nat→List Fa→List Fa
 |0,_,need=>need
 |n+1,i,need=>match need[i]? with
  |some f=>uQ l n (i+1) (l.foldl (oY f) need)
  |none=>need
def ry (l:List Wy) (need:List Fa) (r:Nat):List Wy:=l.filter fun w=>decide (w.fact∈need)&&decide (w.round=(r:Int))
def vV (l:List Wy) (f:Fa):List Wy:=(List.range' 1 (kS l f).toNat).flatMap (ry l (uQ l (l.length+1) 0 [f]))
structure NI (l:List Wy) (need:List Fa):Prop where
 nd:need.Nodup
 sub:∀ f∈need,f∈aL l
theorem NI.len {l:List Wy} {need:List Fa} (h:NI l need):need.length≤l.length:=by
 have:=Gn h.nd h.sub
 unfold aL at this
 rwa [au] at this
theorem NI.ins {l:List Wy} {need:List Fa} (h:NI l need) {f:Fa} (hf:f∈aL l):NI l (nc need f):=
 ⟨BM h.nd,fun g hg=>by rw[H6] at hg;rcases hg with hg | rfl;exact h.sub g hg;exact hf⟩
theorem NI.fold {l:List Wy}:∀ (m need:List Fa),(∀ f∈m,f∈aL l)→NI l need→NI l (m.foldl nc need)
 |[],_,_,h=>h
 |f::m,need,hm,h=>by
  rw[br]
  exact NI.fold m _ (fun g hg=>hm g (aD _ hg)) (h.ins (hm f (a8 ..)))
theorem NI.scan {l:List Wy} (hp:sf l) {f:Fa}:∀ (m:List Wy) (need:List Fa),(∀ w∈m,w∈l)→NI l need→NI l (m.foldl (oY f) need)
 |[],_,_,h=>h
 |w::m,need,hm,h=>by
  rw[br]
  refine NI.scan hp m _ (fun v hv=>hm v (aD _ hv)) ?_
  unfold oY
  split
  ·exact NI.fold _ _ (hp w (hm w (a8 ..))) h
  ·exact h
theorem aat {l:List Wy} (h1:∀ w∈l,0<w.round) (h2:∀ w∈l,w.round≤20010) (f:Fa):0≤kS l f∧kS l f≤20010:=by
 unfold kS
 cases hf:l.find? (fun w=>decide (w.fact=f)) with
 |none=>exact⟨mC 0,by decide⟩
 |some w=>
  have h3:=jF hf
  have:=h1 w h3
  have:=h2 w h3
  simp only[b8,cx]
  omega
theorem Jj {l:List Wy} {need:List Fa} {r:Nat}:(ry l need r).length≤l.length:=ck _ _
theorem Jk {l:List Wy} {need:List Fa}:∀ (m:List Nat),(m.flatMap (ry l need)).length≤m.length*l.length
 |[]=>by simp
 |r::m=>by
  rw[fE,ai,aZ,dZ]
  have:=Jk (l:=l) (need:=need) m
  have:=@Jj l need r
  omega
theorem aau {need:List Fa} {i:Nat} {f g:Fa} (h:need[i]?=some f):(nc need g)[i]?=some f:=by
 unfold nc
 split
 ·exact h
 ·rw[az (ah.1 h).1];exact h
theorem Jl {i:Nat} {f:Fa}:∀ (m need:List Fa),need[i]?=some f→(m.foldl nc need)[i]?=some f
 |[],_,h=>h
 |g::m,need,h=>by rw[br];exact Jl m _ (aau h)
theorem yp {i:Nat} {f g:Fa}:∀ (m:List Wy) (need:List Fa),need[i]?=some f→(m.foldl (oY g) need)[i]?=some f
 |[],_,h=>h
 |w::m,need,h=>by
  rw[br]
  refine yp m _ ?_
  unfold oY
  split
  ·exact Jl _ _ h
  ·exact h
def Nw:=jj @pkA (jj @ptA (jj @pkI @gj))
def Vt:=jj @pkA (jj @ptA @gj)
def kB:=jj @pkA @gj
def abN:=jj @pkA (jj @gj @pkY)
def Co:=jj @pkA (jj @ptA (jj @gj @pkY))
set_option maxHeartbeats 8000000 in
theorem P6 (p:Pol) (l:List Wy) (f:Fa) (hL:FnOK Tryz.prog G 14 [.agg (poC p)] (.c (wsC l))) (hl:l.length≤40000) (hp:sf l) (uU:∀ w∈l,w.pre.length≤1000) (tV:∀ w∈l,0<w.round) (hrn:∀ w∈l,w.round≤20010) (hz:∀ f,f∉aL l→kS l f=0) :
 FnOK Tryz.prog G 11 [.agg (poC p),.agg (faC f)] (.tup [.c (wsC (if kS l f=0 then[] else vV l f)),bo (!decide (kS l f=0))]):=by
 refine cL (rs:=[.tmp 4,.tmp 5]) true [68,109] mixed Tryz.func11 rfl rfl rfl rfl (by kernel_rfl) (by simp) rfl rfl ?_
 have r3:∀ nb q (K:V→Prop),ldA nb q ((faC f).map .c) 0 3 K=(q<nb∧K (.agg (faC f))):=fun nb q K=>by
  unfold ldA
  exact propext ⟨fun h=>⟨h.1,h.2.2⟩,fun h=>⟨h.1,⟨rfl,rfl⟩,h.2⟩⟩
 have r2:cy ((faC f).map V.c)=false:=rfl
 have r5:∀ f:Fa,jY 3 [(0,V.agg (faC f))] [[C.lit (Value.int IntKind.i64 0),C.lit (Value.int IntKind.i64 0),C.lit (Value.int IntKind.i64 0)]]=some [faC f]:=fun _=>rfl
 have r6:∀ y:Wy,jY 6 [(0,V.agg (wyC y))] [[.lit (.int .i64 0),.lit (.int .i64 0),.lit (.int .i64 0),.lit (.int .i64 0),.lit (.int .i64 0),.sl []]]=some [wyC y]:=fun _=>rfl
 simp only[Nw,seval]
 refine aB rfl hL (fun h=>by cases h) ?_
 simp only[Vt,seval,r2,r3]
 refine aB rfl (uN l f (by omega)) (fun _=>rfl) ?_
 simp only[pkA,seval]
 refine aT (fun hy=>?_) (fun hn=>?_)
 ·have hy:kS l f=0:=by simpa using hy
  simp only[kB,seval]
  rw[if_pos hy,hy]
  exact uL rfl rfl
 ·have hn:kS l f≠0:=by simpa using hn
  have kP:f∈aL l:=jG fun h=>hn (hz f h)
  rw[if_neg hn,show(!decide (kS l f=0))=true from by simp[hn]]
  simp only[Vt,seval,r2,r3,r5]
  refine bE (fun s:Nat×Nat×List Fa=>hdS [(3,.bp 1 0),(6,.c (wsC l)),(7,owF s.2.2),(8,i64 s.2.1)] [(poC p).map .c,(faC f).map .c]) (fun s=>s.1)
   (fun s=>NI l s.2.2∧s.1+s.2.1=l.length+1∧uQ l s.1 s.2.1 s.2.2=uQ l (l.length+1) 0 [f]) (l.length+1,0,[f]) ⟨⟨by simp,fun g hg=>by simp at hg;subst hg;exact kP⟩,rfl,rfl⟩ ?_ ?_
  ·exact cD rfl (ar _) (ab 2) (by simp[FL,ak,owF]) (by simp[BL,ak])
  rintro⟨n,i,need⟩ ⟨Qv,gC,mX⟩ R cj cJ eP
  simp only at Qv gC mX
  have tX:=Qv.len
  have lenF:∀ (m:List Fa) (K:V→Prop),hJ Tryz.prog 37 (.c (.sl (m.map faC))) K=K (i64 m.length):=fun m K=>by rw[jw fk rfl,au]
  simp only[kB,seval,nH,lenF]
  refine aT (fun bK=>?_) (fun gr=>?_)
  ·have bK:i<need.length:=by simpa using bK
   obtain⟨n,rfl⟩:∃ m,n=m+1:=⟨n - 1,by omega⟩
   obtain⟨fi,NR⟩:∃ x,x=need[i]:=⟨_,rfl⟩
   have ajJ:need[i]?=some fi:=by rw[NR];exact ae bK
   simp only[kB,seval]
   refine bE (fun k:Nat=>hdS [(3,.bp 1 0),(6,.c (wsC l)),(7,owF ((l.take k).foldl (oY fi) need)),(8,i64 i),(9,i64 k)] [(poC p).map .c,(faC f).map .c]) (fun k=>l.length - k) (fun k=>k≤l.length) 0 (ar _) ?_ ?_
   ·exact cD rfl (ar _) (ab 2) (by simp[FL,ak]) ⟨rfl,rfl,trivial⟩
   rintro k hk Rk qA tF NT
   simp only[abN,seval]
   refine aT (fun uW=>?_) (fun agH=>?_)
   ·have uW:k<l.length:=by simpa using uW
    have hgk:=yp (g:=fi) (l.take k) need ajJ
    have ajK:=NI.scan hp (f:=fi) (l.take k) need (fun w hw=>cn hw) Qv
    have am2:=ajK.len
    obtain⟨w,hw⟩:∃ x,x=l[k]:=⟨_,rfl⟩
    have hwm:w∈l:=by rw[hw];exact bL uW
    have hwp:=uU w hwm
    have e1:(l.take (k+1)).foldl (oY fi) need=oY fi ((l.take k).foldl (oY fi) need) w:=by
     rw[aC uW,ew,← hw];rfl
    generalize (l.take k).foldl (oY fi) need=nk at *
    have ixw:∀ {K:V→Prop},K (.c (.rp (wyC w) 0))→cE Tryz.prog 31 (.c (.sl (l.map wyC))) (i64 k) K:=fun {K} hK=>
     dR kO rfl gX (by decide) (aA k) (c:=wyC w) (by simp[uW,hw]) rfl hK
    have hik:=(ah.1 hgk).1
    have Az:=bG (n:=(k:Int)+1) (k:=k+1) (by omega) (by omega)
    have ek:((k+1:Nat):Int)=(k:Int)+1:=by omega
    simp only[kB,seval,wsC]
    refine ixw ?_
    simp only[Co,seval,nH]
    refine dR fk rfl eY (by decide) (aA i) (c:=faC fi) (by simp[hgk]) rfl ?_
    simp only[Nw,seval]
    have hnk:∀ (nd:List Fa) (fr:Nat→V),oY fi nk w=nd→fr 3=.bp 1 0→fr 6=.c (.sl (l.map wyC))→fr 7=owF nd→fr 8=i64 i→fr 9=i64 (k+1:Nat)→Rk .normal ⟨fr,bxs [(poC p).map .c,(faC f).map .c],2⟩:=by
     intro nd fr hs f3 f6 f7 f8 f9
     refine qA (k+1) _ uW (by omega) (cD rfl (ar _) (ab 2) ?_ ⟨rfl,rfl,trivial⟩)
     rw[e1,hs]
     exact⟨f3,f6,f7,f8,f9,trivial⟩
    refine aT (fun gW=>?_) (fun wX=>?_)
    ·have gW:w.fact≠fi:=by simpa using gW
     simp only[kB,seval,Az]
     refine hnk nk _ (by unfold oY;rw[if_neg gW]) ?_ ?_ ?_ ?_ ?_
     all_goals simp[ak,ek]
    ·have wX:w.fact=fi:=by simpa using wX
     simp only[kB,seval]
     refine bE (fun j:Nat=>hdS [(3,.bp 1 0),(6,.c (.sl (l.map wyC))),(7,owF ((w.pre.take j).foldl nc nk)),(8,i64 i),(9,i64 k),(10,i64 j)] [(poC p).map .c,(faC f).map .c]) (fun j=>w.pre.length - j) (fun j=>j≤w.pre.length) 0 (ar _) ?_ ?_
     ·exact cD rfl (ar _) (ab 2) (by simp[FL,ak]) ⟨rfl,rfl,trivial⟩
     rintro j hj Rj GE Ms ajL
     have amc:=NI.fold (l:=l) (w.pre.take j) nk (fun g hg=>hp w hwm g (cn hg)) ajK
     have am3:=amc.len
     simp only[kB,seval]
     refine ixw ?_
     simp only[Co,seval]
     refine aT (fun Wv=>?_) (fun amd=>?_)
     ·have Wv:j<w.pre.length:=by simpa using Wv
      have hwj:=bG (n:=(j:Int)+1) (k:=j+1) (by omega) (by omega)
      have ej:((j+1:Nat):Int)=(j:Int)+1:=by omega
      obtain⟨g,hg⟩:∃ x,x=w.pre[j]:=⟨_,rfl⟩
      have ixg:∀ {K:V→Prop},K (.c (.rp (faC g) 0))→cE Tryz.prog 37 (.c (.sl (w.pre.map faC))) (i64 j) K:=fun {K} hK=>
       dR fk rfl eY (by decide) (aA j) (c:=faC g) (by simp[Wv,hg]) rfl hK
      have e2:(w.pre.take (j+1)).foldl nc nk=nc ((w.pre.take j).foldl nc nk) g:=by
       rw[aC Wv,ew,← hg];rfl
      generalize (w.pre.take j).foldl nc nk=nj at *
      simp only[kB,seval,nH]
      refine ixw ?_
      simp only[Co,seval,fsC]
      refine ixg ?_
      simp only[Nw,seval]
      refine aB rfl (yh nj g (by omega)) (fun _=>rfl) ?_
      simp only[kB,seval]
      have hnj:∀ (nd:List Fa) (fr:Nat→V),nc nj g=nd→fr 3=.bp 1 0→fr 6=.c (.sl (l.map wyC))→fr 7=owF nd→fr 8=i64 i→fr 9=i64 k→fr 10=i64 (j+1:Nat)→Rj .normal ⟨fr,bxs [(poC p).map .c,(faC f).map .c],2⟩:=by
       intro nd fr hs f3 f6 f7 f8 f9 f10
       refine GE (j+1) _ Wv (by omega) (cD rfl (ar _) (ab 2) ?_ ⟨rfl,rfl,trivial⟩)
       rw[e2,hs]
       exact⟨f3,f6,f7,f8,f9,f10,trivial⟩
      refine aT (fun qx=>?_) (fun nN=>?_)
      ·have qx:g∉nj:=by simpa using qx
       simp only[kB,seval,iY]
       refine ixw ?_
       simp only[Co,seval,fsC]
       refine ixg ?_
       simp only[Nw,seval,r5,cG]
       refine pY (by omega) ?_
       simp only[kB,seval,iY,hwj]
       refine hnj (nj++[g]) _ (x8 qx) ?_ ?_ ?_ ?_ ?_ ?_
       all_goals simp[ak,ej]
      ·have nN:g∈nj:=by simpa using nN
       simp only[kB,seval,hwj]
       refine hnj nj _ (AX nN) ?_ ?_ ?_ ?_ ?_ ?_
       all_goals simp[ak,ej]
     ·have:j=w.pre.length:=by simp at amd;omega
      subst this
      rw[bD]
      simp only[pkA]
      refine Ms _ _ ?_
      simp only[kB,seval,Az]
      refine hnk (w.pre.foldl nc nk) _ (by unfold oY;rw[if_pos wX]) ?_ ?_ ?_ ?_ ?_
      all_goals simp[ak,ek]
   ·have:k=l.length:=by simp at agH;omega
    subst this
    rw[bD]
    have hwi:=bG (n:=(i:Int)+1) (k:=i+1) (by omega) (by omega)
    have ei:((i+1:Nat):Int)=(i:Int)+1:=by omega
    simp only[pkA]
    refine tF _ _ ?_
    simp only[kB,seval,hwi]
    refine cj (n,i+1,l.foldl (oY fi) need) _ ⟨NI.scan hp l need (fun _ h=>h) Qv,by simp only;omega,?_⟩ (bQ n) (cD rfl (ar _) (ab 2) (by simp[FL,ak,ei]) ⟨rfl,rfl,trivial⟩)
    rw[← mX]
    simp only[uQ,ajJ]
  ·have gr:need.length≤i:=by simp at gr;omega
   have hw:uQ l n i need=need:=by
    cases n with
    |zero=>rfl
    |succ n=>simp only[uQ,bw gr]
   rw[hw] at mX
   simp only[pkA]
   refine cJ _ _ ?_
   simp only[kB,seval]
   rw[show vV l f=(List.range' 1 (kS l f).toNat).flatMap (ry l need) by unfold vV;rw[← mX]]
   obtain⟨hR0,hR1⟩:=aat tV hrn f
   obtain⟨T,hT⟩:∃ T,T=(kS l f).toNat:=⟨_,rfl⟩
   have hTi:kS l f=(T:Int):=by omega
   rw[← hT]
   have hT1:T≤20010:=by omega
   refine bE (fun r:Nat=>hdS [(3,.bp 1 0),(6,.c (wsC l)),(7,owF need),(12,owY ((List.range' 1 (r - 1)).flatMap (ry l need))),(13,i64 r)] [(poC p).map .c,(faC f).map .c]) (fun r=>T+2 - r) (fun r=>1≤r∧r≤T+1) 1 ⟨ab 1,by omega⟩ ?_ ?_
   ·exact cD rfl (ar _) (ab 2) (by simp[FL,ak,owY]) ⟨rfl,rfl,trivial⟩
   rintro r ⟨hr1,Ww⟩ Rr agI agJ am5
   simp only[Vt,seval,r2,r3]
   refine aB rfl (uN l f (by omega)) (fun _=>rfl) ?_
   rw[hTi]
   simp only[pkA,seval]
   refine aT (fun jW=>?_) (fun hgt=>?_)
   ·have jW:r≤T:=by have:=bX jW;omega
    simp only[kB,seval]
    refine bE (fun k:Nat=>hdS [(3,.bp 1 0),(6,.c (wsC l)),(7,owF need),(12,owY ((List.range' 1 (r - 1)).flatMap (ry l need)++ry (l.take k) need r)),(13,i64 r),(14,i64 k)] [(poC p).map .c,(faC f).map .c]) (fun k=>l.length - k) (fun k=>k≤l.length) 0 (ar _) ?_ ?_
    ·exact cD rfl (ar _) (ab 2) (by simp[FL,ak,ry]) ⟨rfl,rfl,trivial⟩
    rintro k hk Rk qA tF NT
    simp only[abN,seval]
    refine aT (fun uW=>?_) (fun agH=>?_)
    ·have uW:k<l.length:=by simpa using uW
     obtain⟨w,hw⟩:∃ x,x=l[k]:=⟨_,rfl⟩
     have ixw:∀ {K:V→Prop},K (.c (.rp (wyC w) 0))→cE Tryz.prog 31 (.c (.sl (l.map wyC))) (i64 k) K:=fun {K} hK=>
      dR kO rfl gX (by decide) (aA k) (c:=wyC w) (by simp[uW,hw]) rfl hK
     have Az:=bG (n:=(k:Int)+1) (k:=k+1) (by omega) (by omega)
     have ek:((k+1:Nat):Int)=(k:Int)+1:=by omega
     have e1:∀ b,(decide (w.fact∈need)&&decide (w.round=(r:Int)))=b→ry (l.take (k+1)) need r=if b then ry (l.take k) need r++[w] else ry (l.take k) need r:=fun b hb=>by
      unfold ry
      rw[aC uW,fG,← hw]
      cases b
      ·simp only[cP,List.filter_nil,hb];simp
      ·simp only[cP,List.filter_nil,hb];simp
     have zg:((List.range' 1 (r - 1)).flatMap (ry l need)++ry (l.take k) need r).length+1≤1000000000:=by
      have h1:=@Jk l need (List.range' 1 (r - 1))
      rw[List.length_range'] at h1
      have h2:=@Jj (l.take k) need r
      rw[aN] at h2
      rw[ai]
      have h3:(r - 1)*l.length≤20010*40000:=Nat.mul_le_mul (by omega) hl
      omega
     have hnk:∀ (fr:Nat→V),fr 3=.bp 1 0→fr 6=.c (.sl (l.map wyC))→fr 7=owF need→fr 12=owY ((List.range' 1 (r - 1)).flatMap (ry l need)++ry (l.take (k+1)) need r)→fr 13=i64 r→fr 14=i64 (k+1:Nat)→Rk .normal ⟨fr,bxs [(poC p).map .c,(faC f).map .c],2⟩:=by
      intro fr f3 f6 f7 f8 f9 f10
      exact qA (k+1) _ uW (by omega) (cD rfl (ar _) (ab 2) ⟨f3,f6,f7,f8,f9,f10,trivial⟩ ⟨rfl,rfl,trivial⟩)
     simp only[kB,seval,nH,wsC]
     refine ixw ?_
     simp only[Co,seval]
     refine aB rfl (yh need w.fact (by omega)) (fun _=>rfl) ?_
     simp only[kB,seval]
     refine fY (fun gC=>?_) (fun gC=>?_)
     ·simp only[kB,seval]
      refine ixw ?_
      simp only[Co,seval]
      refine aT (fun wX=>?_) (fun gW=>?_)
      ·simp only[kB,seval,qh]
       refine ixw ?_
       simp only[Co,seval,r6,cG]
       refine Er zg ?_
       simp only[kB,seval,qh,Az]
       refine hnk _ ?_ ?_ ?_ ?_ ?_ ?_
       all_goals simp[ak,ek,e1 true (by rw[gC,wX];rfl)]
      ·simp only[kB,seval,Az]
       refine hnk _ ?_ ?_ ?_ ?_ ?_ ?_
       all_goals simp[ak,ek,e1 false (by rw[gC,gW];rfl)]
     ·simp only[kB,seval,Az]
      refine hnk _ ?_ ?_ ?_ ?_ ?_ ?_
      all_goals simp[ak,ek,e1 false (by rw[gC];rfl)]
    ·have:k=l.length:=by simp at agH;omega
     subst this
     rw[bD]
     have vL:=bG (n:=(r:Int)+1) (k:=r+1) (by omega) (by omega)
     have er:((r+1:Nat):Int)=(r:Int)+1:=by omega
     simp only[pkA]
     refine tF _ _ ?_
     simp only[kB,seval,vL]
     have e3:(List.range' 1 r).flatMap (ry l need)=(List.range' 1 (r - 1)).flatMap (ry l need)++ry l need r:=by
      obtain⟨r,rfl⟩:∃ q,r=q+1:=⟨r - 1,by omega⟩
      rw[List.range'_concat,List.flatMap_append]
      simp[lF]
     refine agI (r+1) _ ⟨by omega,by omega⟩ (by omega) (cD rfl (ar _) (ab 2) (by simp[FL,ak,er,e3]) ⟨rfl,rfl,trivial⟩)
   ·have hgt:r=T+1:=by have:=of_decide_eq_false hgt;omega
    subst hgt
    simp only[pkA]
    refine agJ _ _ ?_
    simp only[kB,seval,LW]
    exact uL rfl rfl
