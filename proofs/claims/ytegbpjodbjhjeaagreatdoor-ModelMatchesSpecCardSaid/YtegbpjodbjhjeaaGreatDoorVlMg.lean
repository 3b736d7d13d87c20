/- Layer 16: facts: their order, slices.SortFunc, Compact (as in layer 17). -/
import Derived.Test.YtegbpjodbjhjeaaGreatDoorVlMf
import Derived.Test.YtegbpjodbjhjeaaGreatDoorSrt
import Derived.Test.YtegbpjodbjhjeaaGreatDoorVlSrt
import Derived.Test.YtegbpjodbjhjeaaGreatDoorVlFlb
set_option maxHeartbeats 4000000
set_option linter.all false
namespace Go.Proofs.YtegbpjodbjhjeaaGreatDoor
open Go Go.Vl
open Kp (Pol Ty Ru Qu poC tyC ruC quC)
variable {G:Gl}
set_option maxRecDepth 10000
structure Fa where
 kind:Int
 a:Int
 b:Int
 deriving DecidableEq
def faC (f:Fa):List C:=[cI f.kind,cI f.a,cI f.b]
theorem iZ (f:Fa):(faC f).length=3:=rfl
def fsC (l:List Fa):C:=.sl (l.map faC)
section
variable {K:V->Prop} {sz:Nat}
theorem aaJ (x y:Fa):jF [.int,.int,.int] (faC x) (faC y)=some (decide (x=y)):=by cases x;cases y;simp[jF,eqC,faC,cI,Fa.mk.injEq,Bool.decide_and]
theorem ad2 {x y:Fa}:nh Tryz.prog .eql 62 (.agg (faC x)) (.agg (faC y)) K=K (bo (decide (x=y))):=H2 jb rfl rfl (aaJ x y) rfl rfl
theorem ad3 {x y:Fa}:nh Tryz.prog .neq 62 (.agg (faC x)) (.agg (faC y)) K=K (bo (!decide (x=y))):=SN jb rfl rfl (aaJ x y) rfl rfl
end
def pkF:=jj @iZ (jj @ad2 @ad3)
def Ji (a b:Fa):Int:=orL [me a.kind b.kind,me a.a b.a,me a.b b.b]
def ql:=jj @pkA @ptA
theorem Ql (a b:Fa):FnOK Tryz.prog G 53 [.agg (faC a),.agg (faC b)] (i64 (Ji a b)):=by refine bD (rs:=[.tmp 4]) false [] mixed Tryz.func53 rfl rfl rfl rfl (by kernel_rfl) (by simp) rfl rfl ?_;have g0:∀ (nb q:Nat) (f:Fa) K,ldB nb q ((faC f).map .c) 0 K=(q<nb/\K (i64 f.kind)):=λ_ _ _ _=>rfl;have g1:∀ (nb q:Nat) (f:Fa) K,ldB nb q ((faC f).map .c) 1 K=(q<nb/\K (i64 f.a)):=λ_ _ _ _=>rfl;have g2:∀ (nb q:Nat) (f:Fa) K,ldB nb q ((faC f).map .c) 2 K=(q<nb/\K (i64 f.b)):=λ_ _ _ _=>rfl;have gm:∀ f:Fa,dE ((faC f).map V.c)=false:=λ_=>rfl;simp only[ql,seval,g0,gm];refine ax rfl (og _ _) (λ_=>rfl) ?_;simp only[ql,seval,g1,gm];refine ax rfl (og _ _) (λ_=>rfl) ?_;simp only[ql,seval,g2,gm];refine ax rfl (og _ _) (λ_=>rfl) ?_;simp only[ql,seval];refine ax rfl (aav [me a.kind b.kind,me a.a b.a,me a.b b.b] (by simp)) (λ_=>rfl) ?_;simp only[pkA,seval,Ji]
def ltF (x y:Fa):Bool:=decide (x.kind<y.kind∨(x.kind=y.kind/\(x.a<y.a∨(x.a=y.a/\x.b<y.b))))
theorem ra (x y:Fa):ltOf Ji x y=ltF x y:=by
 have h:Ji x y<0↔(x.kind<y.kind∨(x.kind=y.kind/\(x.a<y.a∨(x.a=y.a/\x.b<y.b)))):=by
  unfold Ji;simp only[orL,me]
  repeat' split
  all_goals omega
 unfold ltOf ltF;exact fb.2 h
theorem ad4 {x y:Fa} (h1:x.kind=y.kind) (h2:x.a=y.a) (h3:x.b=y.b):x=y:=by cases x;cases y;simp_all
theorem ZE:Go.Sort.SWO (ltOf Ji) where
 irrefl x:=by rw[ra];unfold ltF;simp
 trans x y z h1 h2:=by rw[ra] at *;unfold ltF at *;simp only[br] at *;omega
 ntrans x y z h1 h2:=by rw[ra] at *;unfold ltF at *;simp only[cJ] at *;omega
theorem Aw {x y:Fa} (h1:ltF x y=false) (h2:ltF y x=false):x=y:=by unfold ltF at *;simp only[cJ] at *;exact ad4 (by omega) (by omega) (by omega)
def leF (x y:Fa):Bool:=!ltF y x
def oM (l:List Fa):List Fa:=l.mergeSort leF
theorem vX (l:List Fa):(oM l).Perm l:=List.mergeSort_perm l leF
theorem rb (l:List Fa):(oM l).length=l.length:=(vX l).length_eq
theorem xC (l:List Fa):(oM l).Pairwise λx y=>ltF y x=false:=by have:=List.pairwise_mergeSort (le:=leF) (λx y z h1 h2=>by unfold leF ltF at *;simp only[d5,cJ] at *;omega) (λx y=>by unfold leF ltF;simp only[dS,d5,cJ];omega) l;exact this.imp λh=>by unfold leF at h;simpa using h
theorem Jj:∃ fn,Tryz.prog.funcs[52]?=some fn/\(fn.name== "runtime.NumGoroutine")=false/\∃ b,fn.body=some b:=⟨_,Tryz.func52,rfl,_,rfl⟩
def aaK (G:Gl) (g:FuncId) (cs:List C):Prop:=(∀ args w,(callFunc g args).run Tryz.prog w=.ok (.enter g args) w)/\∀ x y:Fa,FnOK Tryz.prog G g ([.agg (faC x),.agg (faC y)]++cs.map .c) (i64 (Ji x y))
theorem Jk:aaK G 53 []:=⟨enters_of Tryz.func53 (by kernel_rfl) rfl,λx y=>Ql x y⟩
theorem VK {g:FuncId} {cs:List C} (h:aaK gl0 g cs) (l:List Fa) (hl:l.length<4611686018427387904) (cap:Nat) (hc:l.length<=cap) :
 FnB Tryz.prog G 52 [.ms 0 0 l.length cap 3,.c (.fn (.func g) [] cs)] [flb faC l] (.tup []) [flb faC (oM l)]:=
 Ir (ρ:=Tryz.sortFa_ren) Tryz.sortFa Jj Tryz.isAgg62 Tryz.sizeOf62 iZ (by decide) ⟨0,0,0⟩ [.int .i64 0,.int .i64 0,.int .i64 0] rfl (λv hv=>by simp at hv;rcases hv with rfl | rfl | rfl<;>rfl)
  (λI w j x hx=>by
   match j with
   |0 | 1 | 2=>simp only[faC,cI,bJ,cU,ap] at hx;subst hx;exact .lit _ rfl
   |j+3=>simp[faC] at hx)
  Ji ZE g cs h.1 h.2 l (oM l) hl (vX l) ((xC l).imp λh=>by rw[ra];exact h) (λx _ y _ h1 h2=>by rw[ra] at h1 h2;exact Aw h1 h2) cap hc
theorem Qm {x:C}:FnOK Tryz.prog G 52 [.c (.sl []),.c x] (.tup []):=
 vb (ρ:=Tryz.sortFa_ren) Tryz.sortFa Jj
section
variable {α:Type} [DecidableEq α]
def cpk (l:List α):Nat->List α
 |0=>[]
 |m+1=>match l[m]? with
  |none=>cpk l m
  |some x=>if 0<m/\l[m - 1]?=some x then cpk l m else cpk l m++[x]
def iI (l:List α):List α:=cpk l l.length
theorem rc {l:List α} {m:Nat} (hm:m<l.length) (h0:0<m) (h:l[m]=l[m - 1]'(by omega)):cpk l (m+1)=cpk l m:=by simp only[cpk,ak hm];rw[if_pos ⟨h0,by rw[ak (by omega),h]⟩]
theorem rW {l:List α} {m:Nat} (hm:m<l.length) (h:∀ h0:0<m,l[m]≠l[m - 1]'(by omega)):cpk l (m+1)=cpk l m++[l[m]]:=by simp only[cpk,ak hm];rw[if_neg];rintro⟨h0,h1⟩;rw[ak (by omega)] at h1;exact h h0 (by simpa using h1.symm)
theorem VL (l:List α):∀ m,(cpk l m).length<=m
 |0=>ai _
 |m+1=>by
  have:=VL l m;simp only[cpk];split
  .omega
  .split
   .omega
   .simp;omega
theorem Jl {l:List α} (h:l.length<2):iI l=l:=by
 unfold iI
 match l,h with
 |[],_=>rfl
 |[x],_=>simp[cpk]
end
def zf:Fa:=⟨0,0,0⟩
def aaL:=jj @pkA @pkF
theorem LL (l:List Fa) (cap:Nat) (hc:l.length<=cap) (hm:l.length<=1000000000) :
 FnB Tryz.prog G 56 [.ms 0 0 l.length cap 3] [flb faC l] (.ms 0 0 (iI l).length cap 3) [flb faC (iI l++List.replicate (l.length - (iI l).length) zf)]:=by
 refine nD (rs:=[.tmp 2]) (k:=1) [3000001] mixed Tryz.func56 rfl rfl rfl rfl (by kernel_rfl) (by simp) rfl rfl rfl (Tn rfl) (by simp) ?_;have fin:∀ (e:VE) (fr:Nat->V) (L:List Fa),Dk e=true->L=iI l++List.replicate (l.length - (iI l).length) zf->fr 2=.ms 0 0 (iI l).length cap 3->∀ (k:Nat) (bx:Nat->List V),k<=1->bx 0=flb faC L->vJ Tryz.prog k (.ms 0 0 (iI l).length cap 3) [flb faC (iI l++List.replicate (l.length - (iI l).length) zf)] [.tmp 2] e ⟨fr,bx,1⟩:=λe fr L he hL h k bx hk hb=>
  eO [(2,.ms 0 0 (iI l).length cap 3)] he (by simp only[eu,aK,aQ,flb,fa];rfl) hk (ai _) ⟨h,trivial⟩ ⟨hL▸hb,trivial⟩ rfl
 simp only[ql,seval];refine aJ (λbF=>?_) (λfu=>?_)
 .have hl2:l.length<2:=by simp at bF;omega
  have hcp:=Jl hl2;simp only[pkA,seval];exact fin _ _ l rfl (by rw[hcp];simp) (by simp[hcp]) _ _ (ai _) rfl
 .have hl2:2<=l.length:=by simp at fu;omega
  simp only[pkA,seval];refine cm (λk:Nat=>hdS [(0,.ms 0 0 l.length cap 3),(3,i64 k)] [flb faC l]) (λk=>l.length - k) (λk=>1<=k/\k<=l.length/\cpk l k=l.take k) 1 ⟨ai _,by omega,by rw[rW (by omega) (λh=>absurd h (Nat.lt_irrefl _))];simp[cpk,List.take_one,List.head?_eq_getElem?,ak (show 0<l.length by omega)]⟩ ?_ ?_
  .exact Bu rfl (ai _) (ai _) (by simp[FL,aw]) rfl
  rintro k ⟨h1k,WW,WQ⟩ R bN b8 db;simp only[ql,seval];refine aJ (λbF=>?_) (λfu=>?_)
  .have bF:k<l.length:=by simpa using bF
   have w1:=dM (n:=(k:Int) - 1) (k:=k - 1) (by omega) (by omega);simp only[pkA,seval];refine K3 kD rfl jb rfl (by decide) rfl bF ?_;simp only[ql,seval,jn,jn];refine Bt iZ rfl (bH 0) (ak bF) ?_;simp only[pkA,seval,w1];refine K3 kD rfl jb rfl (by decide) rfl (show k - 1<l.length by omega) ?_;simp only[ql,seval,jn,jn];refine Bt iZ rfl (bH 0) (ak (show k - 1<l.length by omega)) ?_;simp only[aaL,seval];refine aJ (λhy=>?_) (λhn=>?_)
   .have hy:l[k]=l[k - 1]'(by omega):=by simpa using hy
    simp only[pkA,seval];refine Tq kD rfl jb rfl (l:=k) (h:=l.length) (m:=cap) rfl rfl rfl (by omega) hc (ai _) (λh=>by cases h) ?_;simp only[pkA,seval,ao];refine cm (λx:Nat×List Fa=>hdS [(0,.ms 0 0 l.length cap 3),(3,i64 (cpk l (k+x.1)).length),(4,.ms 0 (k*3) (l.length - k) (cap - k) 3),(5,i64 x.1)] [flb faC x.2]) (λx=>l.length - x.1)
     (λx=>1<=x.1/\k+x.1<=l.length/\x.2.length=l.length/\x.2.take (cpk l (k+x.1)).length=cpk l (k+x.1)/\(cpk l (k+x.1)).length<k+x.1/\∀ j,k+x.1 - 1<=j->x.2[j]?=l[j]?) (1,l)
     ⟨ai _,by simp only;omega,rfl,by simp only[rc bF h1k hy,WQ];rw[bb,cA (by omega)],by simp only[rc bF h1k hy,WQ];rw[bb,cA (by omega)];omega,λ_ _=>rfl⟩ ?_ ?_
    .refine Bu rfl (ai _) (ai _) ?_ rfl
     have e1:((cpk l (k+1)).length:Int)=k:=(by rw[rc bF h1k hy,WQ,bb,cA (by omega)]);simp[FL,aw,e1]
    rintro⟨q,L⟩ ⟨hq1,hqn,hLl,hLt,hkk,hLj⟩ R2 Cm Ml ahT;simp only at hq1 hqn hLl hLt hkk hLj;simp only[ql,seval];refine aJ (λkR=>?_) (λMh=>?_)
    .have kR:q<l.length - k:=by simp at kR;omega
     have hqk:k+q<l.length:=(by omega);have w2:=dM (n:=(q:Int) - 1) (k:=q - 1) (by omega) (by omega);have g1:L[k+q]?=some l[k+q]:=(by rw[hLj _ (by omega),ak hqk]);have g2:L[k+(q - 1)]?=some (l[k+q - 1]'(by omega)):=(by rw[hLj _ (by omega),ak (by omega)];simp only[show k+(q - 1)=k+q - 1 by omega]);simp only[pkA,seval];refine Tt kD rfl jb rfl (by decide) rfl rfl kR ?_;simp only[ql,seval,jn,jn];refine Bt iZ rfl (bH 0) g1 ?_;simp only[pkA,seval,w2];refine Tt kD rfl jb rfl (by decide) rfl rfl (show q - 1<l.length - k by omega) ?_;simp only[ql,seval,jn,jn];refine Bt iZ rfl (bH 0) g2 ?_;have wq:=dM (n:=(q:Int)+1) (k:=q+1) (by omega) (by omega);simp only[aaL,seval];refine aJ (λgu=>?_) (λkL=>?_)
     .have gu:l[k+q]≠l[k+q - 1]'(by omega):=by simpa using gu
      have hcn:=rW (l:=l) hqk λ_=>gu;have wk:=dM (n:=((cpk l (k+q)).length:Int)+1) (k:=(cpk l (k+q)).length+1) (by omega) (by omega);simp only[pkA,seval];refine Tt kD rfl jb rfl (by decide) rfl rfl kR ?_;simp only[ql,seval,jn,jn];refine Bt iZ rfl (bH 0) g1 ?_;simp only[pkA,seval];refine K3 kD rfl jb rfl (by decide) rfl (show(cpk l (k+q)).length<l.length by omega) ?_;obtain⟨s1,s2⟩:=stq (sz:=3) (c:=faC) iZ (l:=L) (i:=(cpk l (k+q)).length) (y:=l[k+q]) (by omega) rfl;simp only[ql,seval,jn,jn,s1,s2,iZ,wk,wq];refine Cm (q+1,L.set (cpk l (k+q)).length l[k+q]) _ ⟨by simp only;omega,by simp only;omega,by simpa using hLl,?_,?_,λj hj=>?_⟩ (by simp only;omega) (Bu rfl (ai _) (ai _) ?_ ?_)
      .simp only[<- dw,hcn,aB,dR]
       rw[Ij (by omega),hLt]
      .simp only[<- dw,hcn,aB,dR];omega
      .simp only at hj ⊢
       rw[dz (by omega)];exact hLj _ (by omega)
      .have e1:((cpk l (k+(q+1))).length:Int)=(cpk l (k+q)).length+1:=by rw[<- dw,hcn];simp
       simp[FL,aw,e1]
      .simp[]
     .have kL:l[k+q]=l[k+q - 1]'(by omega):=by simpa using kL
      have hcn:=rc (l:=l) hqk (by omega) kL;simp only[pkA,seval,wq];refine Cm (q+1,L) _ ⟨by simp only;omega,by simp only;omega,hLl,?_,?_,λj hj=>?_⟩ (by simp only;omega) (Bu rfl (ai _) (ai _) ?_ rfl)
      .simp only[<- dw,hcn];exact hLt
      .simp only[<- dw,hcn];omega
      .simp only at hj ⊢;exact hLj _ (by omega)
      .have e1:((cpk l (k+(q+1))).length:Int)=(cpk l (k+q)).length:=by rw[<- dw,hcn]
       simp[FL,aw,e1]
    .have hqe:k+q=l.length:=by simp at Mh;omega
     have nr:cpk l (k+q)=iI l:=(by rw[hqe];rfl);rw[nr] at hLt hkk ⊢
     have amR:(iI l).length<=l.length:=(by omega);simp only[pkA];refine Ml _ _ ?_;simp only[pkA,seval];refine Tq kD rfl jb rfl (l:=(iI l).length) (h:=l.length) (m:=cap) rfl rfl rfl (by omega) hc (ai _) (λh=>by cases h) ?_;simp only[pkA,seval,ao];have hz:fW (flb faC L) ((iI l).length*3) ((List.replicate (l.length - (iI l).length) (faC zf)).flatten.map .c)=flb faC (iI l++List.replicate (l.length - (iI l).length) zf):=(by have h1:(List.replicate (l.length - (iI l).length) (faC zf)).flatten.map V.c=flb faC (List.replicate (l.length - (iI l).length) zf):=(by unfold flb;rw[List.map_replicate]);rw[h1,Yk iZ (by simp;omega),hLt];congr 1;rw[List.drop_eq_nil_of_le (by simp;omega),d6]);refine SH kD rfl jb rfl (z:=faC zf) rfl (by decide) rfl (bH 0) jn (by show(iI l).length*3+(l.length - (iI l).length)*3<=(flb faC L).length;rw[kT iZ,hLl];omega) ?_;rw[show bxs [flb faC L] 0=flb faC L from rfl,hz];simp only[pkA,seval];refine Tq kD rfl jb rfl (l:=0) (h:=(iI l).length) (m:=cap) rfl rfl rfl (by omega) (by omega) (ai _) (λh=>by cases h) ?_;simp only[pkA,seval,ao,lF,Nat.zero_mul];refine db _ ?_;simp only[pkA];exact fin _ _ _ rfl rfl (by simp[]) _ _ (ai _) (by simp[])
   .have hn:l[k]≠l[k - 1]'(by omega):=by simpa using hn
    have wk:=dM (n:=(k:Int)+1) (k:=k+1) (by omega) (by omega);simp only[pkA,seval,wk];refine bN (k+1) _ ⟨by omega,bF,?_⟩ (by omega) (Bu rfl (ai _) (ai _) ?_ rfl)
    .rw[rW bF λ_=>hn,WQ,aR bF]
    .simp[FL,aw]
  .have:k=l.length:=by simp at fu;omega
   subst this;have nr:iI l=l:=(by unfold iI;rw[WQ,ct]);simp only[pkA];refine b8 _ _ ?_;simp only[pkA,seval];exact fin _ _ l rfl (by rw[nr];simp) (by simp[nr]) _ _ (ai _) rfl
theorem Jm:FnOK Tryz.prog G 56 [.c (.sl [])] (.c (.sl [])):=by
 refine bD (rs:=[.tmp 2]) false [] mixed Tryz.func56 rfl rfl rfl rfl (by kernel_rfl) (by simp) rfl rfl ?_;simp only[ql,seval];refine aJ (λbF=>?_) (λfu=>?_)
 .simp only[pkA,seval]
 .simp at fu
def qm (l:List Fa):List Fa:=iI (oM l)
theorem Jn (l:List Fa):(qm l).length<=l.length:=by have:=VL (oM l) (oM l).length;rw[rb] at this;unfold qm iI;rw[rb];exact this
abbrev StF (l:List Fa):Prop:=l.Pairwise λx y=>ltF x y=true
theorem LM (x:Fa):ltF x x=false:=by unfold ltF;simp
theorem Eh {x y:Fa} (h:ltF x y=true):ltF y x=false:=by unfold ltF at *;simp only[br,cJ] at *;omega
theorem Ei {x y z:Fa} (h1:ltF x y=true) (h2:ltF y z=true):ltF x z=true:=by unfold ltF at *;simp only[br] at *;omega
theorem VM {x y:Fa} (h1:ltF y x=false) (h2:x≠y):ltF x y=true:=by
 cases h:ltF x y
 .exact absurd (Aw h h1) h2
 .rfl
theorem StF.nodup {l:List Fa} (h:StF l):l.Nodup:=h.imp λh e=>by subst e;rw[LM] at h;cases h
theorem vY {l m:List Fa} (hl:StF l) (hm:StF m) (h:∀ x,x∈l↔x∈m):l=m:=
 qF (lt:=ltF) ((jp hl.nodup hm.nodup).2 h) (λx _ y _ h1 h2=>Aw h1 h2) (hl.imp Eh) (hm.imp Eh)
theorem Gx {l:List Fa}:∀ m,m<=l.length->∀ x,x∈cpk l m↔x∈l.take m
 |0,_,x=>by simp[cpk]
 |m+1,h,x=>by
  have ih:=Gx (l:=l) m (Nat.le_of_succ_le h) x;rw[aR (show m<l.length by omega),bh,bu,<- ih];by_cases h0:0<m
  .by_cases he:l[m]=l[m - 1]'(by omega)
   .rw[rc (by omega) h0 he]
    constructor
    .exact .inl
    .rintro(h1 | h1)
     .exact h1
     .rw[ih,h1,he]
      exact fH.2 ⟨m - 1,by simp only[Nat.lt_min];omega,rfl⟩
   .rw[rW (by omega) λ_=>he,bh,bu]
  .rw[rW (by omega) λh=>absurd h h0,bh,bu]
theorem B6 {l:List Fa} (hs:l.Pairwise λx y=>ltF y x=false):∀ m,m<=l.length->StF (cpk l m)
 |0,_=>List.Pairwise.nil
 |m+1,h=>by
  have ih:=B6 hs m (by omega);by_cases h0:0<m
  .by_cases he:l[m]=l[m - 1]'(by omega)
   .rw[rc (by omega) h0 he];exact ih
   .rw[rW (by omega) λ_=>he,StF,List.pairwise_append]
    refine⟨ih,List.pairwise_singleton _ _,λy hy x hx=>?_⟩;rw[bu] at hx;subst hx;rw[Gx m (by omega),fH] at hy;obtain⟨j,hj,rfl⟩:=hy;have hp:=List.pairwise_iff_getElem.1 hs;have h1:ltF l[m] (l[j]'(by omega))=false:=hp j m (by omega) (by omega) (by omega);refine VM h1 λe=>he ?_;have h2:ltF l[m] (l[m - 1]'(by omega))=false:=hp (m - 1) m (by omega) (by omega) (by omega);rcases cd j (m - 1) with h3 | h3
    .have h4:ltF (l[m - 1]'(by omega)) (l[j]'(by omega))=false:=hp j (m - 1) (by omega) (by omega) h3
     rw[e] at h4;exact Aw h2 h4
    .have:j=m - 1:=by omega
     subst this;exact e.symm
  .have:m=0:=by omega
   subst this;rw[rW (by omega) λh=>absurd h (Nat.lt_irrefl _)];simp[cpk]
theorem pK (l:List Fa):StF (qm l):=B6 (xC l) _ (ai _)
theorem zB {l:List Fa} {x:Fa}:x∈qm l↔x∈l:=by unfold qm iI;rw[Gx _ (ai _),ct];exact(vX l).mem_iff
