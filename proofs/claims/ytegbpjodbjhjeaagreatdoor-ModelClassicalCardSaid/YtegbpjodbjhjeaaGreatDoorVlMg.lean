/- Layer 16: facts: their order, slices.SortFunc, Compact (as in layer 17). -/
import Derived.Test.YtegbpjodbjhjeaaGreatDoorVlMf
import Derived.Test.YtegbpjodbjhjeaaGreatDoorSrt
import Derived.Test.YtegbpjodbjhjeaaGreatDoorVlSrt
import Derived.Test.YtegbpjodbjhjeaaGreatDoorVlFlb
set_option linter.all false
namespace Go.Proofs.YtegbpjodbjhjeaaGreatDoor
open Go Go.Vl
open Kp (Pol Ty Ru Qu poC tyC ruC quC)
variable {G:Gl}
set_option maxRecDepth 10000
structure Fa where
 kind:Int
 a:Int
 b:Int
 deriving DecidableEq
def faC (f:Fa):List C:=[cI f.kind,cI f.a,cI f.b]
theorem jX (f:Fa):(faC f).length=3:=rfl
def fsC (l:List Fa):C:=.sl (l.map faC)
section
variable {K:V→Prop} {sz:Nat}
theorem ZE (x y:Fa):jM [.int,.int,.int] (faC x) (faC y)=some (decide (x=y)):=by
 cases x;cases y;simp[jM,eqC,faC,cI,Fa.mk.injEq,Bool.decide_and]
theorem acC {x y:Fa}:m5 Tryz.prog .eql 62 (.agg (faC x)) (.agg (faC y)) K=K (bo (decide (x=y))):=Hx kP rfl rfl (ZE x y) rfl rfl
theorem acD {x y:Fa}:m5 Tryz.prog .neq 62 (.agg (faC x)) (.agg (faC y)) K=K (bo (!decide (x=y))):=RX kP rfl rfl (ZE x y) rfl rfl
end
def pkF:=jj @jX (jj @acC @acD)
def IM (a b:Fa):Int:=orL [l7 a.kind b.kind,l7 a.a b.a,l7 a.b b.b]
def ql:=jj @pkA @ptA
set_option maxHeartbeats 2000000 in
theorem PP (a b:Fa):FnOK Tryz.prog G 53 [.agg (faC a),.agg (faC b)] (i64 (IM a b)):=by
 refine bE (rs:=[.tmp 4]) false [] mixed Tryz.func53 rfl rfl rfl rfl (by kernel_rfl) (by simp) rfl rfl ?_
 have g0:∀ (nb q:Nat) (f:Fa) K,ldB nb q ((faC f).map .c) 0 K=(q<nb∧K (i64 f.kind)):=fun _ _ _ _=>rfl
 have g1:∀ (nb q:Nat) (f:Fa) K,ldB nb q ((faC f).map .c) 1 K=(q<nb∧K (i64 f.a)):=fun _ _ _ _=>rfl
 have g2:∀ (nb q:Nat) (f:Fa) K,ldB nb q ((faC f).map .c) 2 K=(q<nb∧K (i64 f.b)):=fun _ _ _ _=>rfl
 have gm:∀ f:Fa,dc ((faC f).map V.c)=false:=fun _=>rfl
 simp only[ql,seval,g0,gm]
 refine ay rfl (nX _ _) (fun _=>rfl) ?_
 simp only[ql,seval,g1,gm]
 refine ay rfl (nX _ _) (fun _=>rfl) ?_
 simp only[ql,seval,g2,gm]
 refine ay rfl (nX _ _) (fun _=>rfl) ?_
 simp only[ql,seval]
 refine ay rfl (Zt [l7 a.kind b.kind,l7 a.a b.a,l7 a.b b.b] (by simp)) (fun _=>rfl) ?_
 simp only[pkA,seval,IM]
def ltF (x y:Fa):Bool:=decide (x.kind<y.kind∨(x.kind=y.kind∧(x.a<y.a∨(x.a=y.a∧x.b<y.b))))
theorem qS (x y:Fa):ltOf IM x y=ltF x y:=by
 have h:IM x y<0↔(x.kind<y.kind∨(x.kind=y.kind∧(x.a<y.a∨(x.a=y.a∧x.b<y.b)))):=by
  unfold IM
  simp only[orL,l7]
  repeat' split
  all_goals omega
 unfold ltOf ltF
 exact fR.2 h
theorem acE {x y:Fa} (h1:x.kind=y.kind) (h2:x.a=y.a) (h3:x.b=y.b):x=y:=by cases x;cases y;simp_all
theorem YI:Go.Sort.SWO (ltOf IM) where
 irrefl x:=by rw[qS];unfold ltF;simp
 trans x y z h1 h2:=by rw[qS] at *;unfold ltF at *;simp only[bj] at *;omega
 ntrans x y z h1 h2:=by rw[qS] at *;unfold ltF at *;simp only[b9] at *;omega
theorem zW {x y:Fa} (h1:ltF x y=false) (h2:ltF y x=false):x=y:=by
 unfold ltF at *
 simp only[b9] at *
 exact acE (by omega) (by omega) (by omega)
def leF (x y:Fa):Bool:=!ltF y x
def oJ (l:List Fa):List Fa:=l.mergeSort leF
theorem vM (l:List Fa):(oJ l).Perm l:=List.mergeSort_perm l leF
theorem qT (l:List Fa):(oJ l).length=l.length:=(vM l).length_eq
theorem xj (l:List Fa):(oJ l).Pairwise fun x y=>ltF y x=false:=by
 have:=List.pairwise_mergeSort (le:=leF) (fun x y z h1 h2=>by unfold leF ltF at *;simp only[ew,b9] at *;omega) (fun x y=>by
  unfold leF ltF;simp only[dM,ew,b9];omega) l
 exact this.imp fun h=>by unfold leF at h;simpa using h
theorem IP:∃ fn,Tryz.prog.funcs[52]?=some fn∧(fn.name== "runtime.NumGoroutine")=false∧∃ b,fn.body=some b:=⟨_,Tryz.func52,rfl,_,rfl⟩
def ZF (G:Gl) (g:FuncId) (cs:List C):Prop:=(∀ args w,(callFunc g args).run Tryz.prog w=.ok (.enter g args) w)∧∀ x y:Fa,FnOK Tryz.prog G g ([.agg (faC x),.agg (faC y)]++cs.map .c) (i64 (IM x y))
theorem IQ:ZF G 53 []:=⟨enters_of Tryz.func53 (by kernel_rfl) rfl,fun x y=>PP x y⟩
theorem UT {g:FuncId} {cs:List C} (h:ZF gl0 g cs) (l:List Fa) (hl:l.length<4611686018427387904) (cap:Nat) (hc:l.length≤cap) :
 FnB Tryz.prog G 52 [.ms 0 0 l.length cap 3,.c (.fn (.func g) [] cs)] [flb faC l] (.tup []) [flb faC (oJ l)]:=
 HV (ρ:=Tryz.sortFa_ren) Tryz.sortFa IP Tryz.isAgg62 Tryz.sizeOf62 jX (by decide) ⟨0,0,0⟩ [.int .i64 0,.int .i64 0,.int .i64 0] rfl (fun v hv=>by simp at hv;rcases hv with rfl | rfl | rfl<;>rfl)
  (fun I w j x hx=>by
   match j with
   |0 | 1 | 2=>simp only[faC,cI,bJ,cK,ao] at hx;subst hx;exact .lit _ rfl
   |j+3=>simp[faC] at hx)
  IM YI g cs h.1 h.2 l (oJ l) hl (vM l) ((xj l).imp fun h=>by rw[qS];exact h) (fun x _ y _ h1 h2=>by rw[qS] at h1 h2;exact zW h1 h2) cap hc
theorem PQ {x:C}:FnOK Tryz.prog G 52 [.c (.sl []),.c x] (.tup []):=
 uX (ρ:=Tryz.sortFa_ren) Tryz.sortFa IP
section
variable {α:Type} [DecidableEq α]
def cpk (l:List α):Nat→List α
 |0=>[]
 |m+1=>match l[m]? with
  |none=>cpk l m
  |some x=>if 0<m∧l[m - 1]?=some x then cpk l m else cpk l m++[x]
def iD (l:List α):List α:=cpk l l.length
theorem qU {l:List α} {m:Nat} (hm:m<l.length) (h0:0<m) (h:l[m]=l[m - 1]'(by omega)):cpk l (m+1)=cpk l m:=by
 simp only[cpk,aj hm]
 rw[if_pos ⟨h0,by rw[aj (by omega),h]⟩]
theorem rK {l:List α} {m:Nat} (hm:m<l.length) (h:∀ h0:0<m,l[m]≠l[m - 1]'(by omega)):cpk l (m+1)=cpk l m++[l[m]]:=by
 simp only[cpk,aj hm]
 rw[if_neg]
 rintro⟨h0,h1⟩
 rw[aj (by omega)] at h1
 exact h h0 (by simpa using h1.symm)
theorem UU (l:List α):∀ m,(cpk l m).length≤m
 |0=>ae _
 |m+1=>by
  have:=UU l m
  simp only[cpk]
  split
  ·omega
  ·split
   ·omega
   ·simp;omega
theorem IR {l:List α} (h:l.length<2):iD l=l:=by
 unfold iD
 match l,h with
 |[],_=>rfl
 |[x],_=>simp[cpk]
end
def zf:Fa:=⟨0,0,0⟩
def ZG:=jj @pkA @pkF
set_option maxHeartbeats 4000000 in
theorem Lk (l:List Fa) (cap:Nat) (hc:l.length≤cap) (hm:l.length≤1000000000) :
 FnB Tryz.prog G 56 [.ms 0 0 l.length cap 3] [flb faC l] (.ms 0 0 (iD l).length cap 3) [flb faC (iD l++List.replicate (l.length - (iD l).length) zf)]:=by
 refine nq (rs:=[.tmp 2]) (k:=1) [3000001] mixed Tryz.func56 rfl rfl rfl rfl (by kernel_rfl) (by simp) rfl rfl rfl (SD rfl) (by simp) ?_
 have fin:∀ (e:VE) (fr:Nat→V) (L:List Fa),CU e=true→L=iD l++List.replicate (l.length - (iD l).length) zf→fr 2=.ms 0 0 (iD l).length cap 3→∀ (k:Nat) (bx:Nat→List V),k≤1→bx 0=flb faC L→vt Tryz.prog k (.ms 0 0 (iD l).length cap 3) [flb faC (iD l++List.replicate (l.length - (iD l).length) zf)] [.tmp 2] e ⟨fr,bx,1⟩:=fun e fr L he hL h k bx hk hb=>
  dP [(2,.ms 0 0 (iD l).length cap 3)] he (by simp only[eQ,aN,aX,flb,eM];rfl) hk (ae _) ⟨h,trivial⟩ ⟨hL▸hb,trivial⟩ rfl
 simp only[ql,seval]
 refine aL (fun bB=>?_) (fun fA=>?_)
 ·have Z4:l.length<2:=by simp at bB;omega
  have hcp:=IR Z4
  simp only[pkA,seval]
  exact fin _ _ l rfl (by rw[hcp];simp) (by simp[hcp]) _ _ (ae _) rfl
 ·have Z4:2≤l.length:=by simp at fA;omega
  simp only[pkA,seval]
  refine ck (fun k:Nat=>hdS [(0,.ms 0 0 l.length cap 3),(3,i64 k)] [flb faC l]) (fun k=>l.length - k) (fun k=>1≤k∧k≤l.length∧cpk l k=l.take k) 1 ⟨ae _,by omega,by rw[rK (by omega) (fun h=>absurd h (Nat.lt_irrefl _))];simp[cpk,List.take_one,List.head?_eq_getElem?,aj (show 0<l.length by omega)]⟩ ?_ ?_
  ·exact AZ rfl (ae _) (ae _) (by simp[FL,au]) rfl
  rintro k ⟨h1k,Qo,Qa⟩ R bS cd cX
  simp only[ql,seval]
  refine aL (fun bB=>?_) (fun fA=>?_)
  ·have bB:k<l.length:=by simpa using bB
   have w1:=ei (n:=(k:Int) - 1) (k:=k - 1) (by omega) (by omega)
   simp only[pkA,seval]
   refine Kr nU rfl kP rfl (by decide) rfl bB ?_
   simp only[ql,seval,g9,g9]
   refine AY jX rfl (bz 0) (aj bB) ?_
   simp only[pkA,seval,w1]
   refine Kr nU rfl kP rfl (by decide) rfl (show k - 1<l.length by omega) ?_
   simp only[ql,seval,g9,g9]
   refine AY jX rfl (bz 0) (aj (show k - 1<l.length by omega)) ?_
   simp only[ZG,seval]
   refine aL (fun hy=>?_) (fun hn=>?_)
   ·have hy:l[k]=l[k - 1]'(by omega):=by simpa using hy
    simp only[pkA,seval]
    refine SH nU rfl kP rfl (l:=k) (h:=l.length) (m:=cap) rfl rfl rfl (by omega) hc (ae _) (fun h=>by cases h) ?_
    simp only[pkA,seval,ah]
    refine ck (fun x:Nat×List Fa=>hdS [(0,.ms 0 0 l.length cap 3),(3,i64 (cpk l (k+x.1)).length),(4,.ms 0 (k*3) (l.length - k) (cap - k) 3),(5,i64 x.1)] [flb faC x.2]) (fun x=>l.length - x.1)
     (fun x=>1≤x.1∧k+x.1≤l.length∧x.2.length=l.length∧x.2.take (cpk l (k+x.1)).length=cpk l (k+x.1)∧(cpk l (k+x.1)).length<k+x.1∧∀ j,k+x.1 - 1≤j→x.2[j]?=l[j]?) (1,l)
     ⟨ae _,by simp only;omega,rfl,by simp only[qU bB h1k hy,Qa];rw[a8,cv (by omega)],by simp only[qU bB h1k hy,Qa];rw[a8,cv (by omega)];omega,fun _ _=>rfl⟩ ?_ ?_
    ·refine AZ rfl (ae _) (ae _) ?_ rfl
     have e1:((cpk l (k+1)).length:Int)=k:=by rw[qU bB h1k hy,Qa,a8,cv (by omega)]
     simp[FL,au,e1]
    rintro⟨q,L⟩ ⟨Zd,hqn,hLl,hLt,VB,hLj⟩ R2 VR adB ajJ
    simp only at Zd hqn hLl hLt VB hLj
    simp only[ql,seval]
    refine aL (fun m4=>?_) (fun VP=>?_)
    ·have m4:q<l.length - k:=by simp at m4;omega
     have hqk:k+q<l.length:=by omega
     have w2:=ei (n:=(q:Int) - 1) (k:=q - 1) (by omega) (by omega)
     have g1:L[k+q]?=some l[k+q]:=by rw[hLj _ (by omega),aj hqk]
     have g2:L[k+(q - 1)]?=some (l[k+q - 1]'(by omega)):=by rw[hLj _ (by omega),aj (by omega)];simp only[show k+(q - 1)=k+q - 1 by omega]
     simp only[pkA,seval]
     refine HM nU rfl kP rfl (by decide) rfl rfl m4 ?_
     simp only[ql,seval,g9,g9]
     refine AY jX rfl (bz 0) g1 ?_
     simp only[pkA,seval,w2]
     refine HM nU rfl kP rfl (by decide) rfl rfl (show q - 1<l.length - k by omega) ?_
     simp only[ql,seval,g9,g9]
     refine AY jX rfl (bz 0) g2 ?_
     have wq:=ei (n:=(q:Int)+1) (k:=q+1) (by omega) (by omega)
     simp only[ZG,seval]
     refine aL (fun fO=>?_) (fun kR=>?_)
     ·have fO:l[k+q]≠l[k+q - 1]'(by omega):=by simpa using fO
      have hcn:=rK (l:=l) hqk fun _=>fO
      have wk:=ei (n:=((cpk l (k+q)).length:Int)+1) (k:=(cpk l (k+q)).length+1) (by omega) (by omega)
      simp only[pkA,seval]
      refine HM nU rfl kP rfl (by decide) rfl rfl m4 ?_
      simp only[ql,seval,g9,g9]
      refine AY jX rfl (bz 0) g1 ?_
      simp only[pkA,seval]
      refine Kr nU rfl kP rfl (by decide) rfl (show(cpk l (k+q)).length<l.length by omega) ?_
      obtain⟨s1,s2⟩:=stq (sz:=3) (c:=faC) jX (l:=L) (i:=(cpk l (k+q)).length) (y:=l[k+q]) (by omega) rfl
      simp only[ql,seval,g9,g9,s1,s2,jX,wk,wq]
      refine VR (q+1,L.set (cpk l (k+q)).length l[k+q]) _ ⟨by simp only;omega,by simp only;omega,by simpa using hLl,?_,?_,fun j hj=>?_⟩ (by simp only;omega) (AZ rfl (ae _) (ae _) ?_ ?_)
      ·simp only[← dn,hcn,ax,dm]
       rw[HN (by omega),hLt]
      ·simp only[← dn,hcn,ax,dm];omega
      ·simp only at hj ⊢
       rw[dw (by omega)];exact hLj _ (by omega)
      ·have e1:((cpk l (k+(q+1))).length:Int)=(cpk l (k+q)).length+1:=by rw[← dn,hcn];simp
       simp[FL,au,e1]
      ·simp[]
     ·have kR:l[k+q]=l[k+q - 1]'(by omega):=by simpa using kR
      have hcn:=qU (l:=l) hqk (by omega) kR
      simp only[pkA,seval,wq]
      refine VR (q+1,L) _ ⟨by simp only;omega,by simp only;omega,hLl,?_,?_,fun j hj=>?_⟩ (by simp only;omega) (AZ rfl (ae _) (ae _) ?_ rfl)
      ·simp only[← dn,hcn];exact hLt
      ·simp only[← dn,hcn];omega
      ·simp only at hj ⊢;exact hLj _ (by omega)
      ·have e1:((cpk l (k+(q+1))).length:Int)=(cpk l (k+q)).length:=by rw[← dn,hcn]
       simp[FL,au,e1]
    ·have hqe:k+q=l.length:=by simp at VP;omega
     have m9:cpk l (k+q)=iD l:=by rw[hqe];rfl
     rw[m9] at hLt VB ⊢
     have ak9:(iD l).length≤l.length:=by omega
     simp only[pkA]
     refine adB _ _ ?_
     simp only[pkA,seval]
     refine SH nU rfl kP rfl (l:=(iD l).length) (h:=l.length) (m:=cap) rfl rfl rfl (by omega) hc (ae _) (fun h=>by cases h) ?_
     simp only[pkA,seval,ah]
     have hz:eU (flb faC L) ((iD l).length*3) ((List.replicate (l.length - (iD l).length) (faC zf)).flatten.map .c)=flb faC (iD l++List.replicate (l.length - (iD l).length) zf):=by
      have h1:(List.replicate (l.length - (iD l).length) (faC zf)).flatten.map V.c=flb faC (List.replicate (l.length - (iD l).length) zf):=by unfold flb;rw[List.map_replicate]
      rw[h1,Xp jX (by simp;omega),hLt]
      congr 1
      rw[i7 (by simp;omega),eK]
     refine RV nU rfl kP rfl (z:=faC zf) rfl (by decide) rfl (bz 0) g9 (by show(iD l).length*3+(l.length - (iD l).length)*3≤(flb faC L).length;rw[ky jX,hLl];omega) ?_
     rw[show bxs [flb faC L] 0=flb faC L from rfl,hz]
     simp only[pkA,seval]
     refine SH nU rfl kP rfl (l:=0) (h:=(iD l).length) (m:=cap) rfl rfl rfl (by omega) (by omega) (ae _) (fun h=>by cases h) ?_
     simp only[pkA,seval,ah,lF,Nat.zero_mul]
     refine cX _ ?_
     simp only[pkA]
     exact fin _ _ _ rfl rfl (by simp[]) _ _ (ae _) (by simp[])
   ·have hn:l[k]≠l[k - 1]'(by omega):=by simpa using hn
    have wk:=ei (n:=(k:Int)+1) (k:=k+1) (by omega) (by omega)
    simp only[pkA,seval,wk]
    refine bS (k+1) _ ⟨by omega,bB,?_⟩ (by omega) (AZ rfl (ae _) (ae _) ?_ rfl)
    ·rw[rK bB fun _=>hn,Qa,aQ bB]
    ·simp[FL,au]
  ·have:k=l.length:=by simp at fA;omega
   subst this
   have m9:iD l=l:=by unfold iD;rw[Qa,cw]
   simp only[pkA]
   refine cd _ _ ?_
   simp only[pkA,seval]
   exact fin _ _ l rfl (by rw[m9];simp) (by simp[m9]) _ _ (ae _) rfl
set_option maxHeartbeats 1000000 in
theorem IS:FnOK Tryz.prog G 56 [.c (.sl [])] (.c (.sl [])):=by
 refine bE (rs:=[.tmp 2]) false [] mixed Tryz.func56 rfl rfl rfl rfl (by kernel_rfl) (by simp) rfl rfl ?_
 simp only[ql,seval]
 refine aL (fun bB=>?_) (fun fA=>?_)
 ·simp only[pkA,seval]
 ·simp at fA
def qm (l:List Fa):List Fa:=iD (oJ l)
theorem IT (l:List Fa):(qm l).length≤l.length:=by
 have:=UU (oJ l) (oJ l).length
 rw[qT] at this
 unfold qm iD
 rw[qT];exact this
abbrev StF (l:List Fa):Prop:=l.Pairwise fun x y=>ltF x y=true
theorem Ll (x:Fa):ltF x x=false:=by unfold ltF;simp
theorem DK {x y:Fa} (h:ltF x y=true):ltF y x=false:=by
 unfold ltF at *;simp only[bj,b9] at *;omega
theorem acF {x y:Fa} (h1:ltF y x=false) (h2:x≠y):ltF x y=true:=by
 cases h:ltF x y
 ·exact absurd (zW h h1) h2
 ·rfl
theorem StF.nodup {l:List Fa} (h:StF l):l.Nodup:=h.imp fun h e=>by subst e;rw[Ll] at h;cases h
theorem BE {l m:List Fa} (hl:StF l) (hm:StF m) (h:∀ x,x∈l↔x∈m):l=m:=
 qw (lt:=ltF) ((js hl.nodup hm.nodup).2 h) (fun x _ y _ h1 h2=>zW h1 h2) (hl.imp DK) (hm.imp DK)
theorem F3 {l:List Fa}:∀ m,m≤l.length→∀ x,x∈cpk l m↔x∈l.take m
 |0,_,x=>by simp[cpk]
 |m+1,h,x=>by
  have ih:=F3 (l:=l) m (Nat.le_of_succ_le h) x
  rw[aQ (show m<l.length by omega),aZ,aP,← ih]
  by_cases h0:0<m
  ·by_cases he:l[m]=l[m - 1]'(by omega)
   ·rw[qU (by omega) h0 he]
    constructor
    ·exact .inl
    ·rintro(h1 | h1)
     ·exact h1
     ·rw[ih,h1,he]
      exact gw.2 ⟨m - 1,by simp only[Nat.lt_min];omega,rfl⟩
   ·rw[rK (by omega) fun _=>he,aZ,aP]
  ·rw[rK (by omega) fun h=>absurd h h0,aZ,aP]
theorem BF {l:List Fa} (hs:l.Pairwise fun x y=>ltF y x=false):∀ m,m≤l.length→StF (cpk l m)
 |0,_=>List.Pairwise.nil
 |m+1,h=>by
  have ih:=BF hs m (by omega)
  by_cases h0:0<m
  ·by_cases he:l[m]=l[m - 1]'(by omega)
   ·rw[qU (by omega) h0 he];exact ih
   ·rw[rK (by omega) fun _=>he,StF,List.pairwise_append]
    refine⟨ih,List.pairwise_singleton _ _,fun y hy x hx=>?_⟩
    rw[aP] at hx;subst hx
    rw[F3 m (by omega),gw] at hy
    obtain⟨j,hj,rfl⟩:=hy
    have hp:=List.pairwise_iff_getElem.1 hs
    have h1:ltF l[m] (l[j]'(by omega))=false:=hp j m (by omega) (by omega) (by omega)
    refine acF h1 fun e=>he ?_
    have h2:ltF l[m] (l[m - 1]'(by omega))=false:=hp (m - 1) m (by omega) (by omega) (by omega)
    rcases ct j (m - 1) with h3 | h3
    ·have h4:ltF (l[m - 1]'(by omega)) (l[j]'(by omega))=false:=hp j (m - 1) (by omega) (by omega) h3
     rw[e] at h4
     exact zW h2 h4
    ·have:j=m - 1:=by omega
     subst this;exact e.symm
  ·have:m=0:=by omega
   subst this
   rw[rK (by omega) fun h=>absurd h (Nat.lt_irrefl _)]
   simp[cpk]
theorem tM (l:List Fa):StF (qm l):=BF (xj l) _ (ae _)
theorem IU {l:List Fa} {x:Fa}:x∈qm l↔x∈l:=by
 unfold qm iD
 rw[F3 _ (ae _),cw]
 exact(vM l).mem_iff
