/- Layer 16: facts: their order, slices.SortFunc, Compact (as in layer 17). -/
import Derived.Test.YtegbpjodbjhjeaaGreatDoorVlMf
import Derived.Test.YtegbpjodbjhjeaaGreatDoorSrt
import Derived.Test.YtegbpjodbjhjeaaGreatDoorVlSrt
import Derived.Test.YtegbpjodbjhjeaaGreatDoorVlFlb
set_option maxHeartbeats 4000000
set_option linter.all false
namespace Go.Proofs.YtegbpjodbjhjeaaGreatDoor
open Go Go.Vl
open Kp (Pol Ty Ru Qu poC tyC ruC quC)
variable {G:Gl}
set_option maxRecDepth 10000
structure Fa where
 kind:Int
 a:Int
 b:Int
 deriving DecidableEq
def faC (f:Fa):List C:=[cI f.kind,cI f.a,cI f.b]
theorem jM (f:Fa):(faC f).length=3:=rfl
def fsC (l:List Fa):C:=.sl (l.map faC)
section
variable {K:V→Prop} {sz:Nat}
theorem Yo (x y:Fa):jA [.int,.int,.int] (faC x) (faC y)=some (decide (x=y)):=by
 cases x;cases y;simp[jA,eqC,faC,cI,Fa.mk.injEq,Bool.decide_and]
theorem abo {x y:Fa}:mQ Tryz.prog .eql 62 (.agg (faC x)) (.agg (faC y)) K=K (bo (decide (x=y))):=Gr kB rfl rfl (Yo x y) rfl rfl
theorem abp {x y:Fa}:mQ Tryz.prog .neq 62 (.agg (faC x)) (.agg (faC y)) K=K (bo (!decide (x=y))):=QK kB rfl rfl (Yo x y) rfl rfl
end
def pkF:=jj @jM (jj @abo @abp)
def HE (a b:Fa):Int:=orL [lL a.kind b.kind,lL a.a b.a,lL a.b b.b]
def pR:=jj @pkA @ptA
theorem OJ (a b:Fa):FnOK Tryz.prog G 53 [.agg (faC a),.agg (faC b)] (i64 (HE a b)):=by
 refine bP (rs:=[.tmp 4]) false [] mixed Tryz.func53 rfl rfl rfl rfl (by kernel_rfl) (by simp) rfl rfl ?_
 have g0:∀ (nb q:Nat) (f:Fa) K,ldB nb q ((faC f).map .c) 0 K=(q<nb∧K (i64 f.kind)):=fun _ _ _ _=>rfl
 have g1:∀ (nb q:Nat) (f:Fa) K,ldB nb q ((faC f).map .c) 1 K=(q<nb∧K (i64 f.a)):=fun _ _ _ _=>rfl
 have g2:∀ (nb q:Nat) (f:Fa) K,ldB nb q ((faC f).map .c) 2 K=(q<nb∧K (i64 f.b)):=fun _ _ _ _=>rfl
 have gm:∀ f:Fa,cX ((faC f).map V.c)=false:=fun _=>rfl
 simp only[pR,seval,g0,gm]
 refine aD rfl (nB _ _) (fun _=>rfl) ?_
 simp only[pR,seval,g1,gm]
 refine aD rfl (nB _ _) (fun _=>rfl) ?_
 simp only[pR,seval,g2,gm]
 refine aD rfl (nB _ _) (fun _=>rfl) ?_
 simp only[pR,seval]
 refine aD rfl (Ye [lL a.kind b.kind,lL a.a b.a,lL a.b b.b] (by simp)) (fun _=>rfl) ?_
 simp only[pkA,seval,HE]
def ltF (x y:Fa):Bool:=decide (x.kind<y.kind∨(x.kind=y.kind∧(x.a<y.a∨(x.a=y.a∧x.b<y.b))))
theorem qw (x y:Fa):ltOf HE x y=ltF x y:=by
 have h:HE x y<0↔(x.kind<y.kind∨(x.kind=y.kind∧(x.a<y.a∨(x.a=y.a∧x.b<y.b)))):=by
  unfold HE
  simp only[orL,lL]
  repeat' split
  all_goals omega
 unfold ltOf ltF
 exact i8.2 h
theorem abq {x y:Fa} (h1:x.kind=y.kind) (h2:x.a=y.a) (h3:x.b=y.b):x=y:=by cases x;cases y;simp_all
theorem Xt:Go.Sort.SWO (ltOf HE) where
 irrefl x:=by rw[qw];unfold ltF;simp
 trans x y z h1 h2:=by rw[qw] at *;unfold ltF at *;simp only[bi] at *;omega
 ntrans x y z h1 h2:=by rw[qw] at *;unfold ltF at *;simp only[cm] at *;omega
theorem yZ {x y:Fa} (h1:ltF x y=false) (h2:ltF y x=false):x=y:=by
 unfold ltF at *
 simp only[cm] at *
 exact abq (by omega) (by omega) (by omega)
def leF (x y:Fa):Bool:=!ltF y x
def nY (l:List Fa):List Fa:=l.mergeSort leF
theorem uP (l:List Fa):(nY l).Perm l:=List.mergeSort_perm l leF
theorem qx (l:List Fa):(nY l).length=l.length:=(uP l).length_eq
theorem we (l:List Fa):(nY l).Pairwise fun x y=>ltF y x=false:=by
 have:=List.pairwise_mergeSort (le:=leF) (fun x y z h1 h2=>by unfold leF ltF at *;simp only[eb,cm] at *;omega) (fun x y=>by
  unfold leF ltF;simp only[dF,eb,cm];omega) l
 exact this.imp fun h=>by unfold leF at h;simpa using h
theorem HF:∃ fn,Tryz.prog.funcs[52]?=some fn∧(fn.name== "runtime.NumGoroutine")=false∧∃ b,fn.body=some b:=⟨_,Tryz.func52,rfl,_,rfl⟩
def Yp (G:Gl) (g:FuncId) (cs:List C):Prop:=(∀ args w,(callFunc g args).run Tryz.prog w=.ok (.enter g args) w)∧∀ x y:Fa,FnOK Tryz.prog G g ([.agg (faC x),.agg (faC y)]++cs.map .c) (i64 (HE x y))
theorem HG:Yp G 53 []:=⟨enters_of Tryz.func53 (by kernel_rfl) rfl,fun x y=>OJ x y⟩
theorem TG {g:FuncId} {cs:List C} (h:Yp gl0 g cs) (l:List Fa) (hl:l.length<4611686018427387904) (cap:Nat) (hc:l.length≤cap) :
 FnB Tryz.prog G 52 [.ms 0 0 l.length cap 3,.c (.fn (.func g) [] cs)] [flb faC l] (.tup []) [flb faC (nY l)]:=
 GP (ρ:=Tryz.sortFa_ren) Tryz.sortFa HF Tryz.isAgg62 Tryz.sizeOf62 jM (by decide) ⟨0,0,0⟩ [.int .i64 0,.int .i64 0,.int .i64 0] rfl (fun v hv=>by simp at hv;rcases hv with rfl | rfl | rfl<;>rfl)
  (fun I w j x hx=>by
   match j with
   |0 | 1 | 2=>simp only[faC,cI,bG,cH,am] at hx;subst hx;exact .lit _ rfl
   |j+3=>simp[faC] at hx)
  HE Xt g cs h.1 h.2 l (nY l) hl (uP l) ((we l).imp fun h=>by rw[qw];exact h) (fun x _ y _ h1 h2=>by rw[qw] at h1 h2;exact yZ h1 h2) cap hc
theorem OK {x:C}:FnOK Tryz.prog G 52 [.c (.sl []),.c x] (.tup []):=
 ub (ρ:=Tryz.sortFa_ren) Tryz.sortFa HF
section
variable {α:Type} [DecidableEq α]
def cpk (l:List α):Nat→List α
 |0=>[]
 |m+1=>match l[m]? with
  |none=>cpk l m
  |some x=>if 0<m∧l[m - 1]?=some x then cpk l m else cpk l m++[x]
def ip (l:List α):List α:=cpk l l.length
theorem qy {l:List α} {m:Nat} (hm:m<l.length) (h0:0<m) (h:l[m]=l[m - 1]'(by omega)):cpk l (m+1)=cpk l m:=by
 simp only[cpk,aj hm]
 rw[if_pos ⟨h0,by rw[aj (by omega),h]⟩]
theorem rb {l:List α} {m:Nat} (hm:m<l.length) (h:∀ h0:0<m,l[m]≠l[m - 1]'(by omega)):cpk l (m+1)=cpk l m++[l[m]]:=by
 simp only[cpk,aj hm]
 rw[if_neg]
 rintro⟨h0,h1⟩
 rw[aj (by omega)] at h1
 exact h h0 (by simpa using h1.symm)
theorem TJ (l:List α):∀ m,(cpk l m).length≤m
 |0=>ae _
 |m+1=>by
  have:=TJ l m
  simp only[cpk]
  split
  ·omega
  ·split
   ·omega
   ·simp;omega
theorem HH {l:List α} (h:l.length<2):ip l=l:=by
 unfold ip
 match l,h with
 |[],_=>rfl
 |[x],_=>simp[cpk]
end
def zf:Fa:=⟨0,0,0⟩
def Yq:=jj @pkA @pkF
theorem J8 (l:List Fa) (cap:Nat) (hc:l.length≤cap) (hm:l.length≤1000000000) :
 FnB Tryz.prog G 56 [.ms 0 0 l.length cap 3] [flb faC l] (.ms 0 0 (ip l).length cap 3) [flb faC (ip l++List.replicate (l.length - (ip l).length) zf)]:=by
 refine mY (rs:=[.tmp 2]) (k:=1) [3000001] mixed Tryz.func56 rfl rfl rfl rfl (by kernel_rfl) (by simp) rfl rfl rfl (Rh rfl) (by simp) ?_
 have fin:∀ (e:VE) (fr:Nat→V) (L:List Fa),BP e=true→L=ip l++List.replicate (l.length - (ip l).length) zf→fr 2=.ms 0 0 (ip l).length cap 3→∀ (k:Nat) (bx:Nat→List V),k≤1→bx 0=flb faC L→uA Tryz.prog k (.ms 0 0 (ip l).length cap 3) [flb faC (ip l++List.replicate (l.length - (ip l).length) zf)] [.tmp 2] e ⟨fr,bx,1⟩:=fun e fr L he hL h k bx hk hb=>
  dJ [(2,.ms 0 0 (ip l).length cap 3)] he (by simp only[eW,aR,bb,flb,gd];rfl) hk (ae _) ⟨h,trivial⟩ ⟨hL▸hb,trivial⟩ rfl
 simp only[pR,seval]
 refine aV (fun bF=>?_) (fun ga=>?_)
 ·have YO:l.length<2:=by simp at bF;omega
  have hcp:=HH YO
  simp only[pkA,seval]
  exact fin _ _ l rfl (by rw[hcp];simp) (by simp[hcp]) _ _ (ae _) rfl
 ·have YO:2≤l.length:=by simp at ga;omega
  simp only[pkA,seval]
  refine cF (fun k:Nat=>hdS [(0,.ms 0 0 l.length cap 3),(3,i64 k)] [flb faC l]) (fun k=>l.length - k) (fun k=>1≤k∧k≤l.length∧cpk l k=l.take k) 1 ⟨ae _,by omega,by rw[rb (by omega) (fun h=>absurd h (Nat.lt_irrefl _))];simp[cpk,List.take_one,List.head?_eq_getElem?,aj (show 0<l.length by omega)]⟩ ?_ ?_
  ·exact zU rfl (ae _) (ae _) (by simp[FL,ar]) rfl
  rintro k ⟨h1k,UK,O1⟩ R ck cG dn
  simp only[pR,seval]
  refine aV (fun bF=>?_) (fun ga=>?_)
  ·have bF:k<l.length:=by simpa using bF
   have w1:=fa (n:=(k:Int) - 1) (k:=k - 1) (by omega) (by omega)
   simp only[pkA,seval]
   refine Jl ny rfl kB rfl (by decide) rfl bF ?_
   simp only[pR,seval,gK,gK]
   refine zT jM rfl (bq 0) (aj bF) ?_
   simp only[pkA,seval,w1]
   refine Jl ny rfl kB rfl (by decide) rfl (show k - 1<l.length by omega) ?_
   simp only[pR,seval,gK,gK]
   refine zT jM rfl (bq 0) (aj (show k - 1<l.length by omega)) ?_
   simp only[Yq,seval]
   refine aV (fun hy=>?_) (fun hn=>?_)
   ·have hy:l[k]=l[k - 1]'(by omega):=by simpa using hy
    simp only[pkA,seval]
    refine Rj ny rfl kB rfl (l:=k) (h:=l.length) (m:=cap) rfl rfl rfl (by omega) hc (ae _) (fun h=>by cases h) ?_
    simp only[pkA,seval,ah]
    refine cF (fun x:Nat×List Fa=>hdS [(0,.ms 0 0 l.length cap 3),(3,i64 (cpk l (k+x.1)).length),(4,.ms 0 (k*3) (l.length - k) (cap - k) 3),(5,i64 x.1)] [flb faC x.2]) (fun x=>l.length - x.1)
     (fun x=>1≤x.1∧k+x.1≤l.length∧x.2.length=l.length∧x.2.take (cpk l (k+x.1)).length=cpk l (k+x.1)∧(cpk l (k+x.1)).length<k+x.1∧∀ j,k+x.1 - 1≤j→x.2[j]?=l[j]?) (1,l)
     ⟨ae _,by simp only;omega,rfl,by simp only[qy bF h1k hy,O1];rw[aZ,ci (by omega)],by simp only[qy bF h1k hy,O1];rw[aZ,ci (by omega)];omega,fun _ _=>rfl⟩ ?_ ?_
    ·refine zU rfl (ae _) (ae _) ?_ rfl
     have e1:((cpk l (k+1)).length:Int)=k:=by rw[qy bF h1k hy,O1,aZ,ci (by omega)]
     simp[FL,ar,e1]
    rintro⟨q,L⟩ ⟨XY,hqn,hLl,hLt,Un,hLj⟩ R2 UC acp aiB
    simp only at XY hqn hLl hLt Un hLj
    simp only[pR,seval]
    refine aV (fun nS=>?_) (fun UA=>?_)
    ·have nS:q<l.length - k:=by simp at nS;omega
     have hqk:k+q<l.length:=by omega
     have w2:=fa (n:=(q:Int) - 1) (k:=q - 1) (by omega) (by omega)
     have g1:L[k+q]?=some l[k+q]:=by rw[hLj _ (by omega),aj hqk]
     have g2:L[k+(q - 1)]?=some (l[k+q - 1]'(by omega)):=by rw[hLj _ (by omega),aj (by omega)];simp only[show k+(q - 1)=k+q - 1 by omega]
     simp only[pkA,seval]
     refine GH ny rfl kB rfl (by decide) rfl rfl nS ?_
     simp only[pR,seval,gK,gK]
     refine zT jM rfl (bq 0) g1 ?_
     simp only[pkA,seval,w2]
     refine GH ny rfl kB rfl (by decide) rfl rfl (show q - 1<l.length - k by omega) ?_
     simp only[pR,seval,gK,gK]
     refine zT jM rfl (bq 0) g2 ?_
     have wq:=fa (n:=(q:Int)+1) (k:=q+1) (by omega) (by omega)
     simp only[Yq,seval]
     refine aV (fun gv=>?_) (fun lx=>?_)
     ·have gv:l[k+q]≠l[k+q - 1]'(by omega):=by simpa using gv
      have hcn:=rb (l:=l) hqk fun _=>gv
      have wk:=fa (n:=((cpk l (k+q)).length:Int)+1) (k:=(cpk l (k+q)).length+1) (by omega) (by omega)
      simp only[pkA,seval]
      refine GH ny rfl kB rfl (by decide) rfl rfl nS ?_
      simp only[pR,seval,gK,gK]
      refine zT jM rfl (bq 0) g1 ?_
      simp only[pkA,seval]
      refine Jl ny rfl kB rfl (by decide) rfl (show(cpk l (k+q)).length<l.length by omega) ?_
      obtain⟨s1,s2⟩:=stq (sz:=3) (c:=faC) jM (l:=L) (i:=(cpk l (k+q)).length) (y:=l[k+q]) (by omega) rfl
      simp only[pR,seval,gK,gK,s1,s2,jM,wk,wq]
      refine UC (q+1,L.set (cpk l (k+q)).length l[k+q]) _ ⟨by simp only;omega,by simp only;omega,by simpa using hLl,?_,?_,fun j hj=>?_⟩ (by simp only;omega) (zU rfl (ae _) (ae _) ?_ ?_)
      ·simp only[← db,hcn,ax,da]
       rw[GI (by omega),hLt]
      ·simp only[← db,hcn,ax,da];omega
      ·simp only at hj ⊢
       rw[dj (by omega)];exact hLj _ (by omega)
      ·have e1:((cpk l (k+(q+1))).length:Int)=(cpk l (k+q)).length+1:=by rw[← db,hcn];simp
       simp[FL,ar,e1]
      ·simp[]
     ·have lx:l[k+q]=l[k+q - 1]'(by omega):=by simpa using lx
      have hcn:=qy (l:=l) hqk (by omega) lx
      simp only[pkA,seval,wq]
      refine UC (q+1,L) _ ⟨by simp only;omega,by simp only;omega,hLl,?_,?_,fun j hj=>?_⟩ (by simp only;omega) (zU rfl (ae _) (ae _) ?_ rfl)
      ·simp only[← db,hcn];exact hLt
      ·simp only[← db,hcn];omega
      ·simp only at hj ⊢;exact hLj _ (by omega)
      ·have e1:((cpk l (k+(q+1))).length:Int)=(cpk l (k+q)).length:=by rw[← db,hcn]
       simp[FL,ar,e1]
    ·have hqe:k+q=l.length:=by simp at UA;omega
     have mL:cpk l (k+q)=ip l:=by rw[hqe];rfl
     rw[mL] at hLt Un ⊢
     have ajY:(ip l).length≤l.length:=by omega
     simp only[pkA]
     refine acp _ _ ?_
     simp only[pkA,seval]
     refine Rj ny rfl kB rfl (l:=(ip l).length) (h:=l.length) (m:=cap) rfl rfl rfl (by omega) hc (ae _) (fun h=>by cases h) ?_
     simp only[pkA,seval,ah]
     have hz:eU (flb faC L) ((ip l).length*3) ((List.replicate (l.length - (ip l).length) (faC zf)).flatten.map .c)=flb faC (ip l++List.replicate (l.length - (ip l).length) zf):=by
      have h1:(List.replicate (l.length - (ip l).length) (faC zf)).flatten.map V.c=flb faC (List.replicate (l.length - (ip l).length) zf):=by unfold flb;rw[List.map_replicate]
      rw[h1,V7 jM (by simp;omega),hLt]
      congr 1
      rw[iP (by simp;omega),eA]
     refine QJ ny rfl kB rfl (z:=faC zf) rfl (by decide) rfl (bq 0) gK (by show(ip l).length*3+(l.length - (ip l).length)*3≤(flb faC L).length;rw[ke jM,hLl];omega) ?_
     rw[show bxs [flb faC L] 0=flb faC L from rfl,hz]
     simp only[pkA,seval]
     refine Rj ny rfl kB rfl (l:=0) (h:=(ip l).length) (m:=cap) rfl rfl rfl (by omega) (by omega) (ae _) (fun h=>by cases h) ?_
     simp only[pkA,seval,ah,lb,Nat.zero_mul]
     refine dn _ ?_
     simp only[pkA]
     exact fin _ _ _ rfl rfl (by simp[]) _ _ (ae _) (by simp[])
   ·have hn:l[k]≠l[k - 1]'(by omega):=by simpa using hn
    have wk:=fa (n:=(k:Int)+1) (k:=k+1) (by omega) (by omega)
    simp only[pkA,seval,wk]
    refine ck (k+1) _ ⟨by omega,bF,?_⟩ (by omega) (zU rfl (ae _) (ae _) ?_ rfl)
    ·rw[rb bF fun _=>hn,O1,aU bF]
    ·simp[FL,ar]
  ·have:k=l.length:=by simp at ga;omega
   subst this
   have mL:ip l=l:=by unfold ip;rw[O1,cx]
   simp only[pkA]
   refine cG _ _ ?_
   simp only[pkA,seval]
   exact fin _ _ l rfl (by rw[mL];simp) (by simp[mL]) _ _ (ae _) rfl
theorem HI:FnOK Tryz.prog G 56 [.c (.sl [])] (.c (.sl [])):=by
 refine bP (rs:=[.tmp 2]) false [] mixed Tryz.func56 rfl rfl rfl rfl (by kernel_rfl) (by simp) rfl rfl ?_
 simp only[pR,seval]
 refine aV (fun bF=>?_) (fun ga=>?_)
 ·simp only[pkA,seval]
 ·simp at ga
def pS (l:List Fa):List Fa:=ip (nY l)
theorem HJ (l:List Fa):(pS l).length≤l.length:=by
 have:=TJ (nY l) (nY l).length
 rw[qx] at this
 unfold pS ip
 rw[qx];exact this
abbrev StF (l:List Fa):Prop:=l.Pairwise fun x y=>ltF x y=true
theorem J9 (x:Fa):ltF x x=false:=by unfold ltF;simp
theorem Cz {x y:Fa} (h:ltF x y=true):ltF y x=false:=by
 unfold ltF at *;simp only[bi,cm] at *;omega
theorem abr {x y:Fa} (h1:ltF y x=false) (h2:x≠y):ltF x y=true:=by
 cases h:ltF x y
 ·exact absurd (yZ h h1) h2
 ·rfl
theorem StF.nodup {l:List Fa} (h:StF l):l.Nodup:=h.imp fun h e=>by subst e;rw[J9] at h;cases h
theorem AC {l m:List Fa} (hl:StF l) (hm:StF m) (h:∀ x,x∈l↔x∈m):l=m:=
 pZ (lt:=ltF) ((jg hl.nodup hm.nodup).2 h) (fun x _ y _ h1 h2=>yZ h1 h2) (hl.imp Cz) (hm.imp Cz)
theorem EO {l:List Fa}:∀ m,m≤l.length→∀ x,x∈cpk l m↔x∈l.take m
 |0,_,x=>by simp[cpk]
 |m+1,h,x=>by
  have ih:=EO (l:=l) m (Nat.le_of_succ_le h) x
  rw[aU (show m<l.length by omega),aY,aN,← ih]
  by_cases h0:0<m
  ·by_cases he:l[m]=l[m - 1]'(by omega)
   ·rw[qy (by omega) h0 he]
    constructor
    ·exact .inl
    ·rintro(h1 | h1)
     ·exact h1
     ·rw[ih,h1,he]
      exact fV.2 ⟨m - 1,by simp only[Nat.lt_min];omega,rfl⟩
   ·rw[rb (by omega) fun _=>he,aY,aN]
  ·rw[rb (by omega) fun h=>absurd h h0,aY,aN]
theorem AD {l:List Fa} (hs:l.Pairwise fun x y=>ltF y x=false):∀ m,m≤l.length→StF (cpk l m)
 |0,_=>List.Pairwise.nil
 |m+1,h=>by
  have ih:=AD hs m (by omega)
  by_cases h0:0<m
  ·by_cases he:l[m]=l[m - 1]'(by omega)
   ·rw[qy (by omega) h0 he];exact ih
   ·rw[rb (by omega) fun _=>he,StF,List.pairwise_append]
    refine⟨ih,List.pairwise_singleton _ _,fun y hy x hx=>?_⟩
    rw[aN] at hx;subst hx
    rw[EO m (by omega),fV] at hy
    obtain⟨j,hj,rfl⟩:=hy
    have hp:=List.pairwise_iff_getElem.1 hs
    have h1:ltF l[m] (l[j]'(by omega))=false:=hp j m (by omega) (by omega) (by omega)
    refine abr h1 fun e=>he ?_
    have h2:ltF l[m] (l[m - 1]'(by omega))=false:=hp (m - 1) m (by omega) (by omega) (by omega)
    rcases cN j (m - 1) with h3 | h3
    ·have h4:ltF (l[m - 1]'(by omega)) (l[j]'(by omega))=false:=hp j (m - 1) (by omega) (by omega) h3
     rw[e] at h4
     exact yZ h2 h4
    ·have:j=m - 1:=by omega
     subst this;exact e.symm
  ·have:m=0:=by omega
   subst this
   rw[rb (by omega) fun h=>absurd h (Nat.lt_irrefl _)]
   simp[cpk]
theorem sM (l:List Fa):StF (pS l):=AD (we l) _ (ae _)
theorem HK {l:List Fa} {x:Fa}:x∈pS l↔x∈l:=by
 unfold pS ip
 rw[EO _ (ae _),cx]
 exact(uP l).mem_iff
