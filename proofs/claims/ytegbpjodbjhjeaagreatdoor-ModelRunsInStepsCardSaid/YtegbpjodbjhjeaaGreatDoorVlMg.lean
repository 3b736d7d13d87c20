/- Layer 16: facts: their order, slices.SortFunc, Compact (as in layer 17). -/
import Derived.Test.YtegbpjodbjhjeaaGreatDoorVlMf
import Derived.Test.YtegbpjodbjhjeaaGreatDoorSrt
import Derived.Test.YtegbpjodbjhjeaaGreatDoorVlSrt
import Derived.Test.YtegbpjodbjhjeaaGreatDoorVlFlb
set_option linter.all false
namespace Go.Proofs.YtegbpjodbjhjeaaGreatDoor
open Go Go.Vl
open Kp (Pol Ty Ru Qu poC tyC ruC quC)
variable {G:Gl}
set_option maxRecDepth 10000
structure Fa where
 kind:Int
 a:Int
 b:Int
 deriving DecidableEq
def faC (f:Fa):List C:=[cI f.kind,cI f.a,cI f.b]
theorem iZ (f:Fa):(faC f).length=3:=rfl
def fsC (l:List Fa):C:=.sl (l.map faC)
section
variable {K:V→Prop} {sz:Nat}
theorem aby {t:Fa}:cU false sz 0 (faC t) K=K (i64 t.kind):=rfl
theorem abz {t:Fa}:cU false sz 1 (faC t) K=K (i64 t.a):=rfl
theorem abA {t:Fa}:cU false sz 2 (faC t) K=K (i64 t.b):=rfl
theorem U6 (x y:Fa):ig [.int,.int,.int] (faC x) (faC y)=some (decide (x=y)):=by
 cases x;cases y;simp[ig,eqC,faC,cI,Fa.mk.injEq,Bool.decide_and]
theorem Yw {x y:Fa}:jY Tryz.prog .eql 62 (.agg (faC x)) (.agg (faC y)) K=K (bo (decide (x=y))):=sn iY rfl rfl (U6 x y) rfl rfl
theorem Yx {x y:Fa}:jY Tryz.prog .neq 62 (.agg (faC x)) (.agg (faC y)) K=K (bo (!decide (x=y))):=sq iY rfl rfl (U6 x y) rfl rfl
end
def pkF:=jj @iZ (jj @aby (jj @abz (jj @abA (jj @Yw @Yx))))
def D6 (a b:Fa):Int:=orL [kA a.kind b.kind,kA a.a b.a,kA a.b b.b]
def nN:=jj @pkA @ptA
set_option maxHeartbeats 2000000 in
theorem KA (a b:Fa):FnOK Tryz.prog G 53 [.agg (faC a),.agg (faC b)] (i64 (D6 a b)):=by
 refine bP (rs:=[.tmp 4]) false [] mixed Tryz.func53 rfl rfl rfl rfl (by kernel_rfl) (by simp) rfl rfl ?_
 have g0:∀ (nb q:Nat) (f:Fa) K,ldB nb q ((faC f).map .c) 0 K=(q<nb∧K (i64 f.kind)):=fun _ _ _ _=>rfl
 have g1:∀ (nb q:Nat) (f:Fa) K,ldB nb q ((faC f).map .c) 1 K=(q<nb∧K (i64 f.a)):=fun _ _ _ _=>rfl
 have g2:∀ (nb q:Nat) (f:Fa) K,ldB nb q ((faC f).map .c) 2 K=(q<nb∧K (i64 f.b)):=fun _ _ _ _=>rfl
 have gm:∀ f:Fa,ck ((faC f).map V.c)=false:=fun _=>rfl
 simp only[nN,seval,g0,gm]
 refine aD rfl (mf _ _) (fun _=>rfl) ?_
 simp only[nN,seval,g1,gm]
 refine aD rfl (mf _ _) (fun _=>rfl) ?_
 simp only[nN,seval,g2,gm]
 refine aD rfl (mf _ _) (fun _=>rfl) ?_
 simp only[nN,seval]
 refine aD rfl (UR [kA a.kind b.kind,kA a.a b.a,kA a.b b.b] (by simp)) (fun _=>rfl) ?_
 simp only[pkA,seval,D6]
def ltF (x y:Fa):Bool:=decide (x.kind<y.kind∨(x.kind=y.kind∧(x.a<y.a∨(x.a=y.a∧x.b<y.b))))
theorem oH (x y:Fa):ltOf D6 x y=ltF x y:=by
 have h:D6 x y<0↔(x.kind<y.kind∨(x.kind=y.kind∧(x.a<y.a∨(x.a=y.a∧x.b<y.b)))):=by
  unfold D6
  simp only[orL,kA]
  repeat' split
  all_goals omega
 unfold ltOf ltF
 exact ib.2 h
theorem Yy {x y:Fa} (h1:x.kind=y.kind) (h2:x.a=y.a) (h3:x.b=y.b):x=y:=by cases x;cases y;simp_all
theorem Uz:Go.Sort.SWO (ltOf D6) where
 irrefl x:=by rw[oH];unfold ltF;simp
 trans x y z h1 h2:=by rw[oH] at *;unfold ltF at *;simp only[bi] at *;omega
 ntrans x y z h1 h2:=by rw[oH] at *;unfold ltF at *;simp only[co] at *;omega
theorem vz {x y:Fa} (h1:ltF x y=false) (h2:ltF y x=false):x=y:=by
 unfold ltF at *
 simp only[co] at *
 exact Yy (by omega) (by omega) (by omega)
def leF (x y:Fa):Bool:=!ltF y x
def mH (l:List Fa):List Fa:=l.mergeSort leF
theorem rH (l:List Fa):(mH l).Perm l:=List.mergeSort_perm l leF
theorem oI (l:List Fa):(mH l).length=l.length:=(rH l).length_eq
theorem tc (l:List Fa):(mH l).Pairwise fun x y=>ltF y x=false:=by
 have:=List.pairwise_mergeSort (le:=leF) (fun x y z h1 h2=>by unfold leF ltF at *;simp only[dI,co] at *;omega) (fun x y=>by
  unfold leF ltF;simp only[dx,dI,co];omega) l
 exact this.imp fun h=>by unfold leF at h;simpa using h
theorem D7:∃ fn,Tryz.prog.funcs[52]?=some fn∧(fn.name== "runtime.NumGoroutine")=false∧∃ b,fn.body=some b:=⟨_,Tryz.func52,rfl,_,rfl⟩
def U7 (G:Gl) (g:FuncId) (cs:List C):Prop:=(∀ args w,(callFunc g args).run Tryz.prog w=.ok (.enter g args) w)∧∀ x y:Fa,FnOK Tryz.prog G g ([.agg (faC x),.agg (faC y)]++cs.map .c) (i64 (D6 x y))
theorem D8:U7 G 53 []:=⟨enters_of Tryz.func53 (by kernel_rfl) rfl,fun x y=>KA x y⟩
theorem PQ {g:FuncId} {cs:List C} (h:U7 gl0 g cs) (l:List Fa) (hl:l.length<4611686018427387904) (cap:Nat) (hc:l.length≤cap) :
 FnB Tryz.prog G 52 [.ms 0 0 l.length cap 3,.c (.fn (.func g) [] cs)] [flb faC l] (.tup []) [flb faC (mH l)]:=
 De (ρ:=Tryz.sortFa_ren) Tryz.sortFa D7 Tryz.isAgg62 Tryz.sizeOf62 iZ (by decide) ⟨0,0,0⟩ [.int .i64 0,.int .i64 0,.int .i64 0] rfl (fun v hv=>by simp at hv;rcases hv with rfl | rfl | rfl<;>rfl)
  (fun I w j x hx=>by
   match j with
   |0 | 1 | 2=>simp only[faC,cI,bD,cn,am] at hx;subst hx;exact .lit _ rfl
   |j+3=>simp[faC] at hx)
  D6 Uz g cs h.1 h.2 l (mH l) hl (rH l) ((tc l).imp fun h=>by rw[oH];exact h) (fun x _ y _ h1 h2=>by rw[oH] at h1 h2;exact vz h1 h2) cap hc
theorem KB {x:C}:FnOK Tryz.prog G 52 [.c (.sl []),.c x] (.tup []):=
 qS (ρ:=Tryz.sortFa_ren) Tryz.sortFa D7
section
variable {α:Type} [DecidableEq α]
def cpk (l:List α):Nat→List α
 |0=>[]
 |m+1=>match l[m]? with
  |none=>cpk l m
  |some x=>if 0<m∧l[m - 1]?=some x then cpk l m else cpk l m++[x]
def gu (l:List α):List α:=cpk l l.length
theorem oJ {l:List α} {m:Nat} (hm:m<l.length) (h0:0<m) (h:l[m]=l[m - 1]'(by omega)):cpk l (m+1)=cpk l m:=by
 simp only[cpk,ak hm]
 rw[if_pos ⟨h0,by rw[ak (by omega),h]⟩]
theorem pm {l:List α} {m:Nat} (hm:m<l.length) (h:∀ h0:0<m,l[m]≠l[m - 1]'(by omega)):cpk l (m+1)=cpk l m++[l[m]]:=by
 simp only[cpk,ak hm]
 rw[if_neg]
 rintro⟨h0,h1⟩
 rw[ak (by omega)] at h1
 exact h h0 (by simpa using h1.symm)
theorem PS (l:List α):∀ m,(cpk l m).length≤m
 |0=>ae _
 |m+1=>by
  have:=PS l m
  simp only[cpk]
  split
  ·omega
  ·split
   ·omega
   ·simp;omega
theorem D9 {l:List α} (h:l.length<2):gu l=l:=by
 unfold gu
 match l,h with
 |[],_=>rfl
 |[x],_=>simp[cpk]
end
def zf:Fa:=⟨0,0,0⟩
def U8:=jj @pkA @pkF
set_option maxHeartbeats 4000000 in
theorem Gu (l:List Fa) (cap:Nat) (hc:l.length≤cap) (hm:l.length≤1000000000) :
 FnB Tryz.prog G 56 [.ms 0 0 l.length cap 3] [flb faC l] (.ms 0 0 (gu l).length cap 3) [flb faC (gu l++List.replicate (l.length - (gu l).length) zf)]:=by
 refine lH (rs:=[.tmp 2]) (k:=1) [3000001] mixed Tryz.func56 rfl rfl rfl rfl (by kernel_rfl) (by simp) rfl rfl rfl (Nn rfl) (by simp) ?_
 have fin:∀ (e:VE) (fr:Nat→V) (L:List Fa),yB e=true→L=gu l++List.replicate (l.length - (gu l).length) zf→fr 2=.ms 0 0 (gu l).length cap 3→∀ (k:Nat) (bx:Nat→List V),k≤1→bx 0=flb faC L→rq Tryz.prog k (.ms 0 0 (gu l).length cap 3) [flb faC (gu l++List.replicate (l.length - (gu l).length) zf)] [.tmp 2] e ⟨fr,bx,1⟩:=fun e fr L he hL h k bx hk hb=>
  dj [(2,.ms 0 0 (gu l).length cap 3)] he (by simp only[fC,bh,bq,flb,hZ];rfl) hk (ae _) ⟨h,trivial⟩ ⟨hL▸hb,trivial⟩ rfl
 simp only[nN,seval]
 refine aZ (fun hlt=>?_) (fun hge=>?_)
 ·have hl2:l.length<2:=by simp at hlt;omega
  have hcp:=D9 hl2
  simp only[pkA,seval]
  exact fin _ _ l rfl (by rw[hcp];simp) (by simp[hcp]) _ _ (ae _) rfl
 ·have hl2:2≤l.length:=by simp at hge;omega
  simp only[pkA,seval]
  refine cZ (fun k:Nat=>hdS [(0,.ms 0 0 l.length cap 3),(3,i64 k)] [flb faC l]) (fun k=>l.length - k) (fun k=>1≤k∧k≤l.length∧cpk l k=l.take k) 1 ⟨ae _,by omega,by rw[pm (by omega) (fun h=>absurd h (Nat.lt_irrefl _))];simp[cpk,List.take_one,List.head?_eq_getElem?,ak (show 0<l.length by omega)]⟩ ?_ ?_
  ·exact wy rfl (ae _) (ae _) (by simp[FL,ar]) rfl
  rintro k ⟨h1k,hkn,htk⟩ R hnorm hexit hret
  simp only[nN,seval]
  refine aZ (fun hlt=>?_) (fun hge=>?_)
  ·have hlt:k<l.length:=by simpa using hlt
   have w1:=fj (n:=(k:Int) - 1) (k:=k - 1) (by omega) (by omega)
   simp only[pkA,seval]
   refine FB lv rfl iY rfl (by decide) rfl hlt ?_
   simp only[nN,seval,im,im]
   refine wx iZ rfl (bn 0) (ak hlt) ?_
   simp only[pkA,seval,w1]
   refine FB lv rfl iY rfl (by decide) rfl (show k - 1<l.length by omega) ?_
   simp only[nN,seval,im,im]
   refine wx iZ rfl (bn 0) (ak (show k - 1<l.length by omega)) ?_
   simp only[U8,seval]
   refine aZ (fun hy=>?_) (fun hn=>?_)
   ·have hy:l[k]=l[k - 1]'(by omega):=by simpa using hy
    simp only[pkA,seval]
    refine Nq lv rfl iY rfl (l:=k) (h:=l.length) (m:=cap) rfl rfl rfl (by omega) hc (ae _) (fun h=>by cases h) ?_
    simp only[pkA,seval,ah]
    refine cZ (fun x:Nat×List Fa=>hdS [(0,.ms 0 0 l.length cap 3),(3,i64 (cpk l (k+x.1)).length),(4,.ms 0 (k*3) (l.length - k) (cap - k) 3),(5,i64 x.1)] [flb faC x.2]) (fun x=>l.length - x.1)
     (fun x=>1≤x.1∧k+x.1≤l.length∧x.2.length=l.length∧x.2.take (cpk l (k+x.1)).length=cpk l (k+x.1)∧(cpk l (k+x.1)).length<k+x.1∧∀ j,k+x.1 - 1≤j→x.2[j]?=l[j]?) (1,l)
     ⟨ae _,by simp only;omega,rfl,by simp only[oJ hlt h1k hy,htk];rw[aW,bY (by omega)],by simp only[oJ hlt h1k hy,htk];rw[aW,bY (by omega)];omega,fun _ _=>rfl⟩ ?_ ?_
    ·refine wy rfl (ae _) (ae _) ?_ rfl
     have e1:((cpk l (k+1)).length:Int)=k:=by rw[oJ hlt h1k hy,htk,aW,bY (by omega)]
     simp[FL,ar,e1]
    rintro⟨q,L⟩ ⟨hq1,hqn,hLl,hLt,hkk,hLj⟩ R2 hnorm2 hexit2 hret2
    simp only at hq1 hqn hLl hLt hkk hLj
    simp only[nN,seval]
    refine aZ (fun hlt2=>?_) (fun hge2=>?_)
    ·have hlt2:q<l.length - k:=by simp at hlt2;omega
     have hqk:k+q<l.length:=by omega
     have w2:=fj (n:=(q:Int) - 1) (k:=q - 1) (by omega) (by omega)
     have g1:L[k+q]?=some l[k+q]:=by rw[hLj _ (by omega),ak hqk]
     have g2:L[k+(q - 1)]?=some (l[k+q - 1]'(by omega)):=by rw[hLj _ (by omega),ak (by omega)];simp only[show k+(q - 1)=k+q - 1 by omega]
     simp only[pkA,seval]
     refine Nr lv rfl iY rfl (by decide) rfl rfl hlt2 ?_
     simp only[nN,seval,im,im]
     refine wx iZ rfl (bn 0) g1 ?_
     simp only[pkA,seval,w2]
     refine Nr lv rfl iY rfl (by decide) rfl rfl (show q - 1<l.length - k by omega) ?_
     simp only[nN,seval,im,im]
     refine wx iZ rfl (bn 0) g2 ?_
     have wq:=fj (n:=(q:Int)+1) (k:=q+1) (by omega) (by omega)
     simp only[U8,seval]
     refine aZ (fun hne=>?_) (fun heq=>?_)
     ·have hne:l[k+q]≠l[k+q - 1]'(by omega):=by simpa using hne
      have hcn:=pm (l:=l) hqk fun _=>hne
      have wk:=fj (n:=((cpk l (k+q)).length:Int)+1) (k:=(cpk l (k+q)).length+1) (by omega) (by omega)
      simp only[pkA,seval]
      refine Nr lv rfl iY rfl (by decide) rfl rfl hlt2 ?_
      simp only[nN,seval,im,im]
      refine wx iZ rfl (bn 0) g1 ?_
      simp only[pkA,seval]
      refine FB lv rfl iY rfl (by decide) rfl (show(cpk l (k+q)).length<l.length by omega) ?_
      obtain⟨s1,s2⟩:=stq (sz:=3) (c:=faC) iZ (l:=L) (i:=(cpk l (k+q)).length) (y:=l[k+q]) (by omega) rfl
      simp only[nN,seval,im,im,s1,s2,iZ,wk,wq]
      refine hnorm2 (q+1,L.set (cpk l (k+q)).length l[k+q]) _ ⟨by simp only;omega,by simp only;omega,by simpa using hLl,?_,?_,fun j hj=>?_⟩ (by simp only;omega) (wy rfl (ae _) (ae _) ?_ ?_)
      ·simp only[← cO,hcn,aw,dz]
       rw[C7 (by omega),hLt]
      ·simp only[← cO,hcn,aw,dz];omega
      ·simp only at hj ⊢
       rw[cT (by omega)];exact hLj _ (by omega)
      ·have e1:((cpk l (k+(q+1))).length:Int)=(cpk l (k+q)).length+1:=by rw[← cO,hcn];simp
       simp[FL,ar,e1]
      ·simp[]
     ·have heq:l[k+q]=l[k+q - 1]'(by omega):=by simpa using heq
      have hcn:=oJ (l:=l) hqk (by omega) heq
      simp only[pkA,seval,wq]
      refine hnorm2 (q+1,L) _ ⟨by simp only;omega,by simp only;omega,hLl,?_,?_,fun j hj=>?_⟩ (by simp only;omega) (wy rfl (ae _) (ae _) ?_ rfl)
      ·simp only[← cO,hcn];exact hLt
      ·simp only[← cO,hcn];omega
      ·simp only at hj ⊢;exact hLj _ (by omega)
      ·have e1:((cpk l (k+(q+1))).length:Int)=(cpk l (k+q)).length:=by rw[← cO,hcn]
       simp[FL,ar,e1]
    ·have hqe:k+q=l.length:=by simp at hge2;omega
     have hcl:cpk l (k+q)=gu l:=by rw[hqe];rfl
     rw[hcl] at hLt hkk ⊢
     have hcle:(gu l).length≤l.length:=by omega
     simp only[pkA]
     refine hexit2 _ _ ?_
     simp only[pkA,seval]
     refine Nq lv rfl iY rfl (l:=(gu l).length) (h:=l.length) (m:=cap) rfl rfl rfl (by omega) hc (ae _) (fun h=>by cases h) ?_
     simp only[pkA,seval,ah]
     have hz:eF (flb faC L) ((gu l).length*3) ((List.replicate (l.length - (gu l).length) (faC zf)).flatten.map .c)=flb faC (gu l++List.replicate (l.length - (gu l).length) zf):=by
      have h1:(List.replicate (l.length - (gu l).length) (faC zf)).flatten.map V.c=flb faC (List.replicate (l.length - (gu l).length) zf):=by unfold flb;rw[List.map_replicate]
      rw[h1,RU iZ (by simp;omega),hLt]
      congr 1
      rw[List.drop_eq_nil_of_le (by simp;omega),ej]
     refine MC lv rfl iY rfl (z:=faC zf) rfl (by decide) rfl (bn 0) im (by show(gu l).length*3+(l.length - (gu l).length)*3≤(flb faC L).length;rw[jC iZ,hLl];omega) ?_
     rw[show bxs [flb faC L] 0=flb faC L from rfl,hz]
     simp only[pkA,seval]
     refine Nq lv rfl iY rfl (l:=0) (h:=(gu l).length) (m:=cap) rfl rfl rfl (by omega) (by omega) (ae _) (fun h=>by cases h) ?_
     simp only[pkA,seval,ah,j5,Nat.zero_mul]
     refine hret _ ?_
     simp only[pkA]
     exact fin _ _ _ rfl rfl (by simp[]) _ _ (ae _) (by simp[])
   ·have hn:l[k]≠l[k - 1]'(by omega):=by simpa using hn
    have wk:=fj (n:=(k:Int)+1) (k:=k+1) (by omega) (by omega)
    simp only[pkA,seval,wk]
    refine hnorm (k+1) _ ⟨by omega,hlt,?_⟩ (by omega) (wy rfl (ae _) (ae _) ?_ rfl)
    ·rw[pm hlt fun _=>hn,htk,bg hlt]
    ·simp[FL,ar]
  ·have:k=l.length:=by simp at hge;omega
   subst this
   have hcl:gu l=l:=by unfold gu;rw[htk,cY]
   simp only[pkA]
   refine hexit _ _ ?_
   simp only[pkA,seval]
   exact fin _ _ l rfl (by rw[hcl];simp) (by simp[hcl]) _ _ (ae _) rfl
set_option maxHeartbeats 1000000 in
theorem Ea:FnOK Tryz.prog G 56 [.c (.sl [])] (.c (.sl [])):=by
 refine bP (rs:=[.tmp 2]) false [] mixed Tryz.func56 rfl rfl rfl rfl (by kernel_rfl) (by simp) rfl rfl ?_
 simp only[nN,seval]
 refine aZ (fun hlt=>?_) (fun hge=>?_)
 ·simp only[pkA,seval]
 ·simp at hge
def nO (l:List Fa):List Fa:=gu (mH l)
theorem Eb (l:List Fa):(nO l).length≤l.length:=by
 have:=PS (mH l) (mH l).length
 rw[oI] at this
 unfold nO gu
 rw[oI];exact this
abbrev StF (l:List Fa):Prop:=l.Pairwise fun x y=>ltF x y=true
theorem Gv (x:Fa):ltF x x=false:=by unfold ltF;simp
theorem zm {x y:Fa} (h:ltF x y=true):ltF y x=false:=by
 unfold ltF at *;simp only[bi,co] at *;omega
theorem Yz {x y:Fa} (h1:ltF y x=false) (h2:x≠y):ltF x y=true:=by
 cases h:ltF x y
 ·exact absurd (vz h h1) h2
 ·rfl
theorem StF.nodup {l:List Fa} (h:StF l):l.Nodup:=h.imp fun h e=>by subst e;rw[Gv] at h;cases h
theorem xl {l m:List Fa} (hl:StF l) (hm:StF m) (h:∀ x,x∈l↔x∈m):l=m:=
 nV (lt:=ltF) ((ir hl.nodup hm.nodup).2 h) (fun x _ y _ h1 h2=>vz h1 h2) (hl.imp zm) (hm.imp zm)
theorem Bw {l:List Fa}:∀ m,m≤l.length→∀ x,x∈cpk l m↔x∈l.take m
 |0,_,x=>by simp[cpk]
 |m+1,h,x=>by
  have ih:=Bw (l:=l) m (Nat.le_of_succ_le h) x
  rw[bg (show m<l.length by omega),bf,a8,← ih]
  by_cases h0:0<m
  ·by_cases he:l[m]=l[m - 1]'(by omega)
   ·rw[oJ (by omega) h0 he]
    constructor
    ·exact .inl
    ·rintro(h1 | h1)
     ·exact h1
     ·rw[ih,h1,he]
      exact fx.2 ⟨m - 1,by simp only[Nat.lt_min];omega,rfl⟩
   ·rw[pm (by omega) fun _=>he,bf,a8]
  ·rw[pm (by omega) fun h=>absurd h h0,bf,a8]
theorem xm {l:List Fa} (hs:l.Pairwise fun x y=>ltF y x=false):∀ m,m≤l.length→StF (cpk l m)
 |0,_=>List.Pairwise.nil
 |m+1,h=>by
  have ih:=xm hs m (by omega)
  by_cases h0:0<m
  ·by_cases he:l[m]=l[m - 1]'(by omega)
   ·rw[oJ (by omega) h0 he];exact ih
   ·rw[pm (by omega) fun _=>he,StF,List.pairwise_append]
    refine⟨ih,List.pairwise_singleton _ _,fun y hy x hx=>?_⟩
    rw[a8] at hx;subst hx
    rw[Bw m (by omega),fx] at hy
    obtain⟨j,hj,rfl⟩:=hy
    have hp:=List.pairwise_iff_getElem.1 hs
    have h1:ltF l[m] (l[j]'(by omega))=false:=hp j m (by omega) (by omega) (by omega)
    refine Yz h1 fun e=>he ?_
    have h2:ltF l[m] (l[m - 1]'(by omega))=false:=hp (m - 1) m (by omega) (by omega) (by omega)
    rcases cx j (m - 1) with h3 | h3
    ·have h4:ltF (l[m - 1]'(by omega)) (l[j]'(by omega))=false:=hp j (m - 1) (by omega) (by omega) h3
     rw[e] at h4
     exact vz h2 h4
    ·have:j=m - 1:=by omega
     subst this;exact e.symm
  ·have:m=0:=by omega
   subst this
   rw[pm (by omega) fun h=>absurd h (Nat.lt_irrefl _)]
   simp[cpk]
theorem qi (l:List Fa):StF (nO l):=xm (tc l) _ (ae _)
theorem Ec {l:List Fa} {x:Fa}:x∈nO l↔x∈l:=by
 unfold nO gu
 rw[Bw _ (ae _),cY]
 exact(rH l).mem_iff
