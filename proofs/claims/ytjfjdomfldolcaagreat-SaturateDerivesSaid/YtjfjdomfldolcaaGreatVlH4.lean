/- Layer 17: slices.Compact at facts; Sorted. -/
import Derived.Test.YtjfjdomfldolcaaGreatVlX0
import Derived.Test.YtjfjdomfldolcaaGreatVlFlb
set_option maxHeartbeats 4000000
set_option linter.all false
namespace Go.Proofs.YtjfjdomfldolcaaGreat
open Go Go.Vl
variable {G:Gl}
set_option maxRecDepth 4000
section
variable {α:Type} [DecidableEq α]
def cpk (l:List α):Nat→List α
 |0=>[]
 |m+1=>match l[m]? with
  |none=>cpk l m
  |some x=>if 0<m∧l[m - 1]?=some x then cpk l m else cpk l m++[x]
def iR (l:List α):List α:=cpk l l.length
theorem rZ {l:List α} {m:Nat} (hm:m<l.length) (h0:0<m) (h:l[m]=l[m - 1]'(by omega)):cpk l (m+1)=cpk l m:=by
 simp only[cpk,ae hm]
 rw[if_pos ⟨h0,by rw[ae (by omega),h]⟩]
theorem sV {l:List α} {m:Nat} (hm:m<l.length) (h:∀ h0:0<m,l[m]≠l[m - 1]'(by omega)):cpk l (m+1)=cpk l m++[l[m]]:=by
 simp only[cpk,ae hm]
 rw[if_neg]
 rintro⟨h0,h1⟩
 rw[ae (by omega)] at h1
 exact h h0 (by simpa using h1.symm)
theorem UI (l:List α):∀ m,(cpk l m).length≤m
 |0=>ab _
 |m+1=>by
  have:=UI l m
  simp only[cpk]
  split
  ·omega
  ·split
   ·omega
   ·simp;omega
theorem IJ {l:List α} (h:l.length<2):iR l=l:=by
 unfold iR
 match l,h with
 |[],_=>rfl
 |[x],_=>simp[cpk]
end
def zf:Fa:=⟨0,0,0⟩
def vU:=jj @pkA @ptA
def aby:=jj @pkA @pkF
theorem LH (l:List Fa) (cap:Nat) (hc:l.length≤cap) (hm:l.length≤1000000000) :
 FnB Tryz.prog G 72 [.ms 0 0 l.length cap 3] [flb faC l] (.ms 0 0 (iR l).length cap 3) [flb faC (iR l++List.replicate (l.length - (iR l).length) zf)]:=by
 refine lW (rs:=[.tmp 2]) (k:=1) [3000001] mixed Tryz.func72 rfl rfl rfl rfl (by kernel_rfl) (by simp) rfl rfl rfl (S5 rfl) (by simp) ?_
 have fin:∀ (e:VE) (fr:Nat→V) (L:List Fa),ux e=true→L=iR l++List.replicate (l.length - (iR l).length) zf→fr 2=.ms 0 0 (iR l).length cap 3→∀ (k:Nat) (bx:Nat→List V),k≤1→bx 0=flb faC L→Ap Tryz.prog k (.ms 0 0 (iR l).length cap 3) [flb faC (iR l++List.replicate (l.length - (iR l).length) zf)] [.tmp 2] e ⟨fr,bx,1⟩:=fun e fr L he hL h k bx hk hb=>
  tJ [(2,.ms 0 0 (iR l).length cap 3)] he (by simp only[kR,bR,cz,flb,vh];rfl) hk (ab _) ⟨h,trivial⟩ ⟨hL▸hb,trivial⟩ rfl
 simp only[vU,seval]
 refine aT (fun bK=>?_) (fun gr=>?_)
 ·have WB:l.length<2:=by simp at bK;omega
  have hcp:=IJ WB
  simp only[pkA,seval]
  exact fin _ _ l rfl (by rw[hcp];simp) (by simp[hcp]) _ _ (ab _) rfl
 ·have WB:2≤l.length:=by simp at gr;omega
  simp only[pkA,seval]
  refine bE (fun k:Nat=>hdS [(0,.ms 0 0 l.length cap 3),(3,i64 k)] [flb faC l]) (fun k=>l.length - k) (fun k=>1≤k∧k≤l.length∧cpk l k=l.take k) 1 ⟨ab _,by omega,by rw[sV (by omega) (fun h=>absurd h (Nat.lt_irrefl _))];simp[cpk,List.take_one,List.head?_eq_getElem?,ae (show 0<l.length by omega)]⟩ ?_ ?_
  ·exact BO rfl (ab _) (ab _) (by simp[FL,ak]) rfl
  rintro k ⟨h1k,hkn,htk⟩ R cj cJ eP
  simp only[vU,seval]
  refine aT (fun bK=>?_) (fun gr=>?_)
  ·have bK:k<l.length:=by simpa using bK
   have w1:=bG (n:=(k:Int) - 1) (k:=k - 1) (by omega) (by omega)
   simp only[pkA,seval]
   refine F3 fk rfl eY rfl (by decide) rfl bK ?_
   simp only[vU,seval,iQ,iQ]
   refine BN j0 rfl (bQ 0) (ae bK) ?_
   simp only[pkA,seval,w1]
   refine F3 fk rfl eY rfl (by decide) rfl (show k - 1<l.length by omega) ?_
   simp only[vU,seval,iQ,iQ]
   refine BN j0 rfl (bQ 0) (ae (show k - 1<l.length by omega)) ?_
   simp only[aby,seval]
   refine aT (fun hy=>?_) (fun hn=>?_)
   ·have hy:l[k]=l[k - 1]'(by omega):=by simpa using hy
    simp only[pkA,seval]
    refine S7 fk rfl eY rfl (l:=k) (h:=l.length) (m:=cap) rfl rfl rfl (by omega) hc (ab _) (fun h=>by cases h) ?_
    simp only[pkA,seval,aX]
    refine bE (fun x:Nat×List Fa=>hdS [(0,.ms 0 0 l.length cap 3),(3,i64 (cpk l (k+x.1)).length),(4,.ms 0 (k*3) (l.length - k) (cap - k) 3),(5,i64 x.1)] [flb faC x.2]) (fun x=>l.length - x.1)
     (fun x=>1≤x.1∧k+x.1≤l.length∧x.2.length=l.length∧x.2.take (cpk l (k+x.1)).length=cpk l (k+x.1)∧(cpk l (k+x.1)).length<k+x.1∧∀ j,k+x.1 - 1≤j→x.2[j]?=l[j]?) (1,l)
     ⟨ab _,by simp only;omega,rfl,by simp only[rZ bK h1k hy,htk];rw[aN,bO (by omega)],by simp only[rZ bK h1k hy,htk];rw[aN,bO (by omega)];omega,fun _ _=>rfl⟩ ?_ ?_
    ·refine BO rfl (ab _) (ab _) ?_ rfl
     have e1:((cpk l (k+1)).length:Int)=k:=by rw[rZ bK h1k hy,htk,aN,bO (by omega)]
     simp[FL,ak,e1]
    rintro⟨q,L⟩ ⟨hq1,Qk,hLl,hLt,V7,hLj⟩ R2 Wj ags amO
    simp only at hq1 Qk hLl hLt V7 hLj
    simp only[vU,seval]
    refine aT (fun sA=>?_) (fun alZ=>?_)
    ·have sA:q<l.length - k:=by simp at sA;omega
     have hqk:k+q<l.length:=by omega
     have w2:=bG (n:=(q:Int) - 1) (k:=q - 1) (by omega) (by omega)
     have g1:L[k+q]?=some l[k+q]:=by rw[hLj _ (by omega),ae hqk]
     have g2:L[k+(q - 1)]?=some (l[k+q - 1]'(by omega)):=by rw[hLj _ (by omega),ae (by omega)];simp only[show k+(q - 1)=k+q - 1 by omega]
     simp only[pkA,seval]
     refine S8 fk rfl eY rfl (by decide) rfl rfl sA ?_
     simp only[vU,seval,iQ,iQ]
     refine BN j0 rfl (bQ 0) g1 ?_
     simp only[pkA,seval,w2]
     refine S8 fk rfl eY rfl (by decide) rfl rfl (show q - 1<l.length - k by omega) ?_
     simp only[vU,seval,iQ,iQ]
     refine BN j0 rfl (bQ 0) g2 ?_
     have wq:=bG (n:=(q:Int)+1) (k:=q+1) (by omega) (by omega)
     simp only[aby,seval]
     refine aT (fun gW=>?_) (fun wX=>?_)
     ·have gW:l[k+q]≠l[k+q - 1]'(by omega):=by simpa using gW
      have hcn:=sV (l:=l) hqk fun _=>gW
      have wk:=bG (n:=((cpk l (k+q)).length:Int)+1) (k:=(cpk l (k+q)).length+1) (by omega) (by omega)
      simp only[pkA,seval]
      refine S8 fk rfl eY rfl (by decide) rfl rfl sA ?_
      simp only[vU,seval,iQ,iQ]
      refine BN j0 rfl (bQ 0) g1 ?_
      simp only[pkA,seval]
      refine F3 fk rfl eY rfl (by decide) rfl (show(cpk l (k+q)).length<l.length by omega) ?_
      obtain⟨s1,s2⟩:=stq (sz:=3) (c:=faC) j0 (l:=L) (i:=(cpk l (k+q)).length) (y:=l[k+q]) (by omega) rfl
      simp only[vU,seval,iQ,iQ,s1,s2,j0,wk,wq]
      refine Wj (q+1,L.set (cpk l (k+q)).length l[k+q]) _ ⟨by simp only;omega,by simp only;omega,by simpa using hLl,?_,?_,fun j hj=>?_⟩ (by simp only;omega) (BO rfl (ab _) (ab _) ?_ ?_)
      ·simp only[← dF,hcn,ai,bF]
       rw[H8 (by omega),hLt]
      ·simp only[← dF,hcn,ai,bF];omega
      ·simp only at hj ⊢
       rw[c8 (by omega)];exact hLj _ (by omega)
      ·have e1:((cpk l (k+(q+1))).length:Int)=(cpk l (k+q)).length+1:=by rw[← dF,hcn];simp
       simp[FL,ak,e1]
      ·simp[]
     ·have wX:l[k+q]=l[k+q - 1]'(by omega):=by simpa using wX
      have hcn:=rZ (l:=l) hqk (by omega) wX
      simp only[pkA,seval,wq]
      refine Wj (q+1,L) _ ⟨by simp only;omega,by simp only;omega,hLl,?_,?_,fun j hj=>?_⟩ (by simp only;omega) (BO rfl (ab _) (ab _) ?_ rfl)
      ·simp only[← dF,hcn];exact hLt
      ·simp only[← dF,hcn];omega
      ·simp only at hj ⊢;exact hLj _ (by omega)
      ·have e1:((cpk l (k+(q+1))).length:Int)=(cpk l (k+q)).length:=by rw[← dF,hcn]
       simp[FL,ak,e1]
    ·have hqe:k+q=l.length:=by simp at alZ;omega
     have jI:cpk l (k+q)=iR l:=by rw[hqe];rfl
     rw[jI] at hLt V7 ⊢
     have an0:(iR l).length≤l.length:=by omega
     simp only[pkA]
     refine ags _ _ ?_
     simp only[pkA,seval]
     refine S7 fk rfl eY rfl (l:=(iR l).length) (h:=l.length) (m:=cap) rfl rfl rfl (by omega) hc (ab _) (fun h=>by cases h) ?_
     simp only[pkA,seval,aX]
     have hz:fj (flb faC L) ((iR l).length*3) ((List.replicate (l.length - (iR l).length) (faC zf)).flatten.map .c)=flb faC (iR l++List.replicate (l.length - (iR l).length) zf):=by
      have h1:(List.replicate (l.length - (iR l).length) (faC zf)).flatten.map V.c=flb faC (List.replicate (l.length - (iR l).length) zf):=by unfold flb;rw[List.map_replicate]
      rw[h1,Yz j0 (by simp;omega),hLt]
      congr 1
      rw[List.drop_eq_nil_of_le (by simp;omega),bq]
     refine Sv fk rfl eY rfl (z:=faC zf) rfl (by decide) rfl (bQ 0) iQ (by show(iR l).length*3+(l.length - (iR l).length)*3≤(flb faC L).length;rw[ly j0,hLl];omega) ?_
     rw[show bxs [flb faC L] 0=flb faC L from rfl,hz]
     simp only[pkA,seval]
     refine S7 fk rfl eY rfl (l:=0) (h:=(iR l).length) (m:=cap) rfl rfl rfl (by omega) (by omega) (ab _) (fun h=>by cases h) ?_
     simp only[pkA,seval,aX,Nat.sub_zero,Nat.zero_mul]
     refine eP _ ?_
     simp only[pkA]
     exact fin _ _ _ rfl rfl (by simp[]) _ _ (ab _) (by simp[])
   ·have hn:l[k]≠l[k - 1]'(by omega):=by simpa using hn
    have wk:=bG (n:=(k:Int)+1) (k:=k+1) (by omega) (by omega)
    simp only[pkA,seval,wk]
    refine cj (k+1) _ ⟨by omega,bK,?_⟩ (by omega) (BO rfl (ab _) (ab _) ?_ rfl)
    ·rw[sV bK fun _=>hn,htk,aC bK]
    ·simp[FL,ak]
  ·have:k=l.length:=by simp at gr;omega
   subst this
   have jI:iR l=l:=by unfold iR;rw[htk,bD]
   simp only[pkA]
   refine cJ _ _ ?_
   simp only[pkA,seval]
   exact fin _ _ l rfl (by rw[jI];simp) (by simp[jI]) _ _ (ab _) rfl
theorem IK:FnOK Tryz.prog G 72 [.c (.sl [])] (.c (.sl [])):=by
 refine cL (rs:=[.tmp 2]) false [] mixed Tryz.func72 rfl rfl rfl rfl (by kernel_rfl) (by simp) rfl rfl ?_
 simp only[vU,seval]
 refine aT (fun bK=>?_) (fun gr=>?_)
 ·simp only[pkA,seval]
 ·simp at gr
def pe (l:List Fa):List Fa:=iR (qS l)
theorem IL (l:List Fa):(pe l).length≤l.length:=by
 have:=UI (qS l) (qS l).length
 rw[rV] at this
 unfold pe iR
 rw[rV];exact this
theorem PS (l:List Fa) (hm:l.length<1000000000):FnOK Tryz.prog G 58 [.c (fsC l)] (.c (fsC (pe l))):=by
 by_cases gW:l=[]
 ·subst gW
  refine cL (rs:=[.tmp 2]) false [] mixed Tryz.func58 rfl rfl rfl rfl (by kernel_rfl) (by simp) rfl rfl ?_
  have hc:=Ec (G:=G) [] (by simp) (by decide)
  simp only[pkA,seval,fsC]
  refine aB rfl hc (fun h=>by cases h) ?_
  simp only[pkA,seval]
  refine aB rfl Ut (fun h=>by cases h) ?_
  simp only[pkA,seval]
  refine aB rfl IK (fun h=>by cases h) ?_
  simp only[pkA,seval]
  have h0:pe []=[]:=by simp[pe,qS,iR,cpk]
  rw[h0];rfl
 ·have agr:l.map faC≠[]:=by simpa using gW
  refine cL (rs:=[.tmp 2]) true [1000005,1000007,1000009] mixed Tryz.func58 rfl rfl rfl rfl (by kernel_rfl) (by simp) rfl rfl ?_
  have hc:=PL (G:=G) (l.map faC) agr (by intro e he;obtain⟨x,_,rfl⟩:=bj.1 he;rfl) (by simpa using hm)
  simp only[pkA,seval,fsC]
  refine rO rfl hc rfl ?_
  have kP:(l.map faC).flatten.map V.c=flb faC l:=rfl
  simp only[pkA,seval,kP,V.ren,vl,gz,aX,au]
  refine eK rfl (ZT IB l (by omega) l.length (ab _)) rfl rfl rfl ?_
  simp only[pkA,seval]
  have hC:=LH (G:=G) (qS l) l.length (by rw[rV];exact ab _) (by rw[rV];omega)
  rw[rV] at hC
  refine eK rfl hC rfl rfl (by simp[]) ?_
  simp only[pkA,seval,AK]
  have hv:=fun fr=>yZ (fr:=fr) (bx:=up (up (up (fun _=>[]) 0 (flb faC l)) 0 (flb faC (qS l))) 0 (flb faC (iR (qS l)++List.replicate (l.length - (iR (qS l)).length) zf))) (nb:=1) (b:=0) (a:=0) (n:=(iR (qS l)).length) (o:=0) j0 (bQ 0) (bW _ _ _) rfl (by simp)
  simp only[cd,List.take_left] at hv
  simp only[imm,hv]
  rfl
theorem lz {α:Type} {c:α→List C} {sz:Nat} (hc:∀ x,(c x).length=sz) (l:List α):∀ e∈l.map c,e.length=sz:=by
 intro e he;obtain⟨x,_,rfl⟩:=bj.1 he;exact hc x
def owF (l:List Fa):V:=.ow (if l.isEmpty then none else some (28,3)) (l.map faC)
theorem nH {l:List Fa}:(owF l).fz=.c (.sl (l.map faC)):=rfl
theorem iY {l:List Fa}:(owF l).isOw=true:=rfl
theorem PT {l m:List Fa} {K:V→Prop} (h:l.length+m.length≤1000000000) (hK:K (owF (l++m))):dN Tryz.prog 37 (owF l) (.c (.sl (m.map faC))) K:=by
 unfold owF
 rw[y6]
 refine⟨⟨by cases l<;>simp,lz j0 _⟩,⟨by simp only[au];omega,by simp only[au];omega,lz j0 _⟩,?_⟩
 have e:(if(m.map faC).isEmpty=true then(if l.isEmpty=true then none else some (28,3)) else some (28,3))=if(l++m).isEmpty=true then none else some (28,3):=by
  cases l<;>cases m<;>simp
 rw[e,← dj];exact hK
theorem pY {l:List Fa} {x:Fa} {K:V→Prop} (h:l.length+1≤1000000000) (hK:K (owF (l++[x]))):dN Tryz.prog 37 (owF l) (.c (.sl [faC x])) K:=PT (m:=[x]) h hK
def LI (p:Pol) (n:Nat):List Fa:=if pT p n 64=true then[fC ((n:Int)+1),pR ((n:Int)+1)] else[]
def uH (p:Pol):Nat→List Fa
 |0=>[]
 |n+1=>uH p n++LI p n
theorem ye (p:Pol):∀ n,(uH p n).length≤2*n
 |0=>ab _
 |n+1=>by
  have:=ye p n
  simp only[uH,ai]
  have:(LI p n).length≤2:=by unfold LI;split<;>simp
  omega
def j4 (p:Pol):List Fa:=pe (uH p p.types.length)
def UJ:=jj @pkA (jj @ptA @pkF)
theorem afd (p:Pol) (hm:p.types.length≤1000000):FnOK Tryz.prog G 39 [.agg (poC p)] (.c (fsC (j4 p))):=by
 refine cL (rs:=[.tmp 2]) false [14] mixed Tryz.func39 rfl rfl rfl rfl (by kernel_rfl) (by simp) rfl rfl ?_
 simp only[UJ,seval]
 refine bE (fun i:Nat=>hdS [(1,.bp 0 0),(3,owF (uH p i)),(7,i64 p.types.length),(8,i64 i)] [(poC p).map .c]) (fun i=>p.types.length - i) (fun i=>i≤p.types.length) 0 (ar _) ?_ ?_
 ·refine cD rfl (ar _) (ab _) ?_ (by simp[BL])
  simp[FL,ak,uH,owF]
 rintro i hi R cj cJ eP
 simp only[pkA,seval]
 refine aT (fun bK=>?_) (fun gr=>?_)
 ·have bK:i<p.types.length:=by simpa using bK
  simp only[UJ,seval]
  refine aB rfl (Ug p i 64 (by omega)) (fun _=>rfl) ?_
  have wi:=bG (n:=(i:Int)+1) (k:=i+1) (by omega) (by omega)
  have e1:((i+1:Nat):Int)=(i:Int)+1:=by omega
  have WC:=ye p i
  simp only[pkA,seval]
  refine aT (fun hy=>?_) (fun hn=>?_)
  ·simp only[pkA,seval,iY,wi]
   refine aB rfl (qN ((i+1:Nat):Int)) (fun _=>rfl) ?_
   simp only[pkA,seval,wi]
   refine aB rfl (Uf ((i+1:Nat):Int)) (fun _=>rfl) ?_
   simp only[UJ,seval,cG]
   refine PT (m:=[fC ((i+1:Nat):Int),pR ((i+1:Nat):Int)]) (by simp;omega) ?_
   simp only[pkA,seval,iY,wi]
   refine cj (i+1) _ bK (by omega) (cD rfl (ar _) (ab _) ?_ (by simp[BL,bxs]))
   have hb:uH p (i+1)=uH p i++[fC ((i:Int)+1),pR ((i:Int)+1)]:=by simp only[uH,LI,hy];simp
   simp[FL,ak,hb,e1]
  ·simp only[pkA,seval,wi]
   refine cj (i+1) _ bK (by omega) (cD rfl (ar _) (ab _) ?_ (by simp[BL,bxs]))
   have hb:uH p (i+1)=uH p i:=by simp only[uH,LI,hn];simp
   simp[FL,ak,hb,e1]
 ·have:i=p.types.length:=by simp at gr;omega
  subst this
  have WC:=ye p p.types.length
  simp only[pkA]
  refine cJ _ _ ?_
  simp only[pkA,seval,nH]
  refine aB rfl (PS _ (by omega)) (fun h=>by cases h) ?_
  simp only[pkA,seval]
  rfl
