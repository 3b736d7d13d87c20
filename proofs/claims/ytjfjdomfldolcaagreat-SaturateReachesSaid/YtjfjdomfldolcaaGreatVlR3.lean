/- Layer 17, the specification: small functions. -/
import Derived.Test.YtjfjdomfldolcaaGreatVlH4
import Derived.Test.YtjfjdomfldolcaaGreatVlH1
import Derived.Test.YtjfjdomfldolcaaGreatVlLaw
set_option maxHeartbeats 2000000
set_option linter.all false
namespace Go.Proofs.YtjfjdomfldolcaaGreat
open Go Go.Vl
variable {G:Gl}
set_option maxRecDepth 4000
def sa:=jj @pkA @ptA
theorem eO (v t:Int):FnOK Tryz.prog G 26 [i64 v,i64 t] (.agg (faC (bu v t))):=by
 refine cL (rs:=[.cell 4 28]) false [] mixed Tryz.func26 rfl rfl rfl rfl (by kernel_rfl) (by simp) rfl rfl ?_
 simp only[sa,seval]
 exact⟨rfl,by decide,⟨rfl,rfl⟩,rfl⟩
theorem fZ (v t:Int):FnOK Tryz.prog G 27 [i64 v,i64 t] (.agg (faC (gi v t))):=by
 refine cL (rs:=[.cell 4 28]) false [] mixed Tryz.func27 rfl rfl rfl rfl (by kernel_rfl) (by simp) rfl rfl ?_
 simp only[sa,seval]
 exact⟨rfl,by decide,⟨rfl,rfl⟩,rfl⟩
theorem gq (s:Int):FnOK Tryz.prog G 24 [i64 s] (.agg (faC (fC s))):=by
 refine cL (rs:=[.cell 2 28]) false [] mixed Tryz.func24 rfl rfl rfl rfl (by kernel_rfl) (by simp) rfl rfl ?_
 simp only[sa,seval]
 exact⟨rfl,by decide,⟨rfl,rfl⟩,rfl⟩
theorem iZ (s:Int):FnOK Tryz.prog G 25 [i64 s] (.agg (faC (pR s))):=by
 refine cL (rs:=[.cell 2 28]) false [] mixed Tryz.func25 rfl rfl rfl rfl (by kernel_rfl) (by simp) rfl rfl ?_
 simp only[sa,seval]
 exact⟨rfl,by decide,⟨rfl,rfl⟩,rfl⟩
theorem LM (a b:Int) (ha:I64 a):FnOK Tryz.prog G 74 [i64 a,i64 b] (bo (Aq a b)):=by
 refine cL (rs:=[.tmp 4]) false [] mixed Tryz.func74 rfl rfl rfl rfl (by kernel_rfl) (by simp) rfl rfl ?_
 have hN:∀ K,pA .and .i64 a b K=K (i64 (bits .and .i64 a b)):=fun _=>rfl
 simp only[pkA,seval,hN]
 unfold Aq
 rw[jg.2 (Ll (b:=b) ha)]
def Ej:=jj @pkA (jj @ptA @pkF)
theorem afi (p:Pol) (t:Int):FnOK Tryz.prog G 73 [.agg (poC p),i64 t] (bo (decide (0≤t)&&decide (t<p.types.length))):=by
 refine cL (rs:=[.tmp 4]) false [] mixed Tryz.func73 rfl rfl rfl rfl (by kernel_rfl) (by simp) rfl rfl ?_
 repeat' first
  |(simp only[Ej,seval])
  |refine fY (fun h=>?_) (fun h=>?_)
 all_goals (simp_all<;>omega)
theorem Nk (p:Pol) (t:Nat) (flags:Int) (hf:I64 flags) (hm:p.types.length≤9223372036854775807):FnOK Tryz.prog G 59 [.agg (poC p),i64 t,i64 flags] (bo (pT p t flags)):=by
 refine cL (rs:=[.tmp 6]) false [] mixed Tryz.func59 rfl rfl rfl rfl (by kernel_rfl) (by simp) rfl rfl ?_
 simp only[Ej,seval]
 refine aB rfl (afi p t) (fun _=>rfl) ?_
 simp only[pkA,seval]
 refine fY (fun h=>?_) (fun h=>?_)
 ·have ht:t<p.types.length:=by simpa using h
  simp only[Ej,seval]
  refine dR pQ rfl oS (by decide) (aA t) (c:=tyC p.types[t]) (by simp[ht]) rfl ?_
  simp only[Ej,seval]
  refine aB rfl (LM _ _ hf) (fun _=>rfl) ?_
  simp only[pkA,seval]
  unfold pT
  rw[ae ht]
 ·have ht:¬ t<p.types.length:=by simpa using h
  simp only[pkA,seval]
  unfold pT
  rw[bw (by omega)]
theorem mQ {P:Program} {G:Gl} {s:S} {t d y:Nat} {v:Value} {E:Option (TypeId×Nat)} {es:List (List C)} {ts:List TypeId} {K:V→Prop} (h1:s.fr t=.c (.ex v)) (h2:s.fr d=.gh v E es) (h0:t≠d∧y≠t∧y≠d) (h:eW P .append ts [.ow E es,vw s (s.fr y)] K) :
 jl P G s (some d) ts [.tmp t,.tmp y] K:=by
 unfold jl
 simp only[h1,h2]
 exact⟨⟨h0.1,trivial,fun e=>h0.2.1 (by cases e;rfl),fun e=>h0.2.2 (by cases e;rfl)⟩,h⟩
theorem UY {nb q:Nat} {f:Fa} {K:V→Prop}  : ldA nb q ((faC f).map .c) 0 3 K=(q<nb∧K (.agg (faC f))):=by
 unfold ldA
 exact propext ⟨fun h=>⟨h.1,h.2.2⟩,fun h=>⟨h.1,⟨rfl,rfl⟩,h.2⟩⟩
theorem Nl {f:Fa}:cy ((faC f).map V.c)=false:=rfl
def pkT:=jj @pkF (jj @UY @Nl)
section
variable {f:Fa} {nb q:Nat} {K:V→Prop}
theorem akQ:ldB nb q ((faC f).map .c) 0 K=(q<nb∧K (i64 f.kind)):=rfl
theorem akR:ldB nb q ((faC f).map .c) 1 K=(q<nb∧K (i64 f.a)):=rfl
theorem akS:ldB nb q ((faC f).map .c) 2 K=(q<nb∧K (i64 f.b)):=rfl
end
def pkQ:=jj @pkT (jj @akQ (jj @akR @akS))
def B6:=jj @pkA (jj @ptA @pkQ)
theorem zP (a b:Fa):FnOK Tryz.prog G 54 [.agg (faC a),.agg (faC b)] (i64 (wK a b)):=by
 refine cL (rs:=[.tmp 4]) false [] mixed Tryz.func54 rfl rfl rfl rfl (by kernel_rfl) (by simp) rfl rfl ?_
 have e0:∀ x K,dC false 1 0 [cI x] K=K (i64 x):=fun _ _=>rfl
 have low:∀ x y z:Int,V.ow (some (3,1)) [[cI x],[cI y],[cI z]]=.ow (some (3,1)) ([x,y,z].map fun y=>[cI y]):=fun _ _ _=>rfl
 simp only[B6,seval]
 unfold wK
 obtain⟨xs,oE⟩:∃ xs,xs=[a.kind,a.a,a.b]:=⟨_,rfl⟩
 obtain⟨ys,uS⟩:∃ ys,ys=[b.kind,b.a,b.b]:=⟨_,rfl⟩
 obtain⟨cs,jc⟩:∃ cs,cs=[qE a.kind b.kind,qE a.a b.a,qE a.b b.b]:=⟨_,rfl⟩
 have hxl:xs.length=3:=by rw[oE];rfl
 have hyl:ys.length=3:=by rw[uS];rfl
 have jI:cs.length=3:=by rw[jc];rfl
 have hc:∀ i (h:i<3),cs[i]'(by omega)=qE (xs[i]'(by omega)) (ys[i]'(by omega)):=fun i h=>by
  subst oE uS jc
  match i,h with
  |0,_=>rfl
  |1,_=>rfl
  |2,_=>rfl
 have JZ:[[cI a.kind],[cI a.a],[cI a.b]]=xs.map fun y=>[cI y]:=by rw[oE];rfl
 have hym:[[cI b.kind],[cI b.a],[cI b.b]]=ys.map fun y=>[cI y]:=by rw[uS];rfl
 rw[← jc]
 refine bE (fun i:Nat=>hdS [(5,.ow (some (3,1)) (xs.map fun y=>[cI y])),(6,.ow (some (3,1)) (ys.map fun y=>[cI y])),(7,i64 i)] []) (fun i=>3 - i) (fun i=>i≤3∧orL cs=orL (cs.drop i)) 0 ⟨by omega,rfl⟩ ?_ ?_
 ·refine cD rfl (ar _) (ar _) ?_ trivial
  rw[← JZ,← hym]
  simp[FL,ak,cI]
 rintro i ⟨hi,mH⟩ R cj cJ eP
 simp only[pkA,seval]
 refine aT (fun bK=>?_) (fun gr=>?_)
 ·have bK:i<3:=by simp at bK;omega
  have hw:=bG (n:=(i:Int)+1) (k:=i+1) (by omega) (by omega)
  rw[cX (by omega)] at mH
  have J0:i<xs.length:=by omega
  have EJ:i<ys.length:=by omega
  simp only[pkA,seval]
  refine dR oT rfl rS (by decide) (aA i) (c:=[cI xs[i]]) (by simp[J0]) rfl ?_
  simp only[sa,seval,e0]
  refine dR oT rfl rS (by decide) (aA i) (c:=[cI ys[i]]) (by simp[EJ]) rfl ?_
  simp only[sa,seval,e0]
  refine aT (fun h1=>?_) (fun h1=>?_)
  ·have h1:xs[i]<ys[i]:=by simpa using h1
   simp only[pkA,seval]
   refine eP _ ?_
   simp only[pkA,seval]
   rw[mH]
   simp only[orL,hc i bK,qE,h1,db];rfl
  ·have h1:¬ xs[i]<ys[i]:=by simpa using h1
   simp only[pkA,seval]
   refine dR oT rfl rS (by decide) (aA i) (c:=[cI xs[i]]) (by simp[J0]) rfl ?_
   simp only[sa,seval,e0]
   refine dR oT rfl rS (by decide) (aA i) (c:=[cI ys[i]]) (by simp[EJ]) rfl ?_
   simp only[sa,seval,e0]
   refine aT (fun h2=>?_) (fun h2=>?_)
   ·have h2:ys[i]<xs[i]:=by simpa using h2
    simp only[pkA,seval]
    refine eP _ ?_
    simp only[pkA,seval]
    rw[mH]
    simp only[orL,hc i bK,qE,h1,h2,db,dm];rfl
   ·have h2:¬ ys[i]<xs[i]:=by simpa using h2
    simp only[pkA,seval]
    refine cj (i+1) _ ⟨bK,?_⟩ (by omega) (cD rfl (ar _) (ar _) ?_ trivial)
    ·rw[mH]
     simp only[orL,hc i bK,qE,h1,h2,db,dm]
    ·simp[FL,ak,hw]
 ·have:i=3:=by simp at gr;omega
  subst this
  simp only[pkA]
  refine cJ _ _ ?_
  simp only[pkA,seval]
  rw[mH,List.drop_eq_nil_of_le (by omega)];rfl
def oN (p:Pol) (f:Fa):Bool:=
 if f.kind=1 then decide (0≤f.a)&&decide (f.a≤p.types.length)&&decide (0≤f.b)&&decide (f.b<p.types.length)
 else if f.kind=2 then decide (0≤f.a)&&decide (f.a≤p.types.length)&&decide (0≤f.b)&&decide (f.b≤p.types.length)
 else if f.kind=3∨f.kind=4 then decide (1≤f.a)&&decide (f.a≤p.types.length)&&decide (f.b=0)
 else false
theorem qV (a b:List Fa) (hm:a.length≤1000000000):FnOK Tryz.prog G 15 [.c (fsC a),.c (fsC b)] (bo (decide (a=b))):=by
 refine cL (rs:=[.tmp 4]) false [] mixed Tryz.func15 rfl rfl rfl rfl (by kernel_rfl) (by simp) rfl rfl ?_
 simp only[sa,seval,fsC,au]
 refine aT (fun gW=>?_) (fun wX=>?_)
 ·have gW:a≠b:=by rintro rfl;simp at gW
  simp only[pkA,seval]
  rw[dM gW]
 ·have cg:a.length=b.length:=by simp at wX;omega
  simp only[pkA,seval]
  refine bE (fun i:Nat=>hdS [(0,.c (.sl (a.map faC))),(1,.c (.sl (b.map faC))),(5,i64 i)] []) (fun i=>a.length - i) (fun i=>i≤a.length∧a.take i=b.take i) 0 ⟨ar _,rfl⟩ ?_ ?_
  ·exact cD rfl (ar _) (ar _) (by simp[FL,ak]) trivial
  rintro i ⟨hi,ht⟩ R cj cJ eP
  simp only[sa,seval,au]
  refine aT (fun bK=>?_) (fun gr=>?_)
  ·have bK:i<a.length:=by simpa using bK
   have hlb:i<b.length:=by omega
   have hw:=bG (n:=(i:Int)+1) (k:=i+1) (by omega) (by omega)
   simp only[pkA,seval]
   refine dR fk rfl eY (by decide) (aA i) (c:=faC a[i]) (by simp[bK]) rfl ?_
   simp only[Ej,seval]
   refine dR fk rfl eY (by decide) (aA i) (c:=faC b[i]) (by simp[hlb]) rfl ?_
   simp only[Ej,seval]
   refine aT (fun hn=>?_) (fun hy=>?_)
   ·have hn:a≠b:=by rintro rfl;simp at hn
    simp only[pkA,seval]
    refine eP _ ?_
    simp only[pkA,seval]
    rw[dM hn]
   ·have hy:a[i]=b[i]:=by simpa using hy
    simp only[pkA,seval]
    refine cj (i+1) _ ⟨bK,?_⟩ (by omega) (cD rfl (ar _) (ar _) (by simp[FL,ak,hw]) trivial)
    rw[aC bK,aC hlb,ht,hy]
  ·have:i=a.length:=by simp at gr;omega
   subst this
   simp only[pkA]
   refine cJ _ _ ?_
   simp only[pkA,seval]
   rw[bD,cg,bD] at ht
   rw[cu ht]
theorem yh (l:List Fa) (f:Fa) (hm:l.length≤1000000000):FnOK Tryz.prog G 36 [.c (fsC l),.agg (faC f)] (bo (decide (f∈l))):=by
 refine cL (rs:=[.tmp 4]) false [] mixed Tryz.func36 rfl rfl rfl rfl (by kernel_rfl) (by simp) rfl rfl ?_
 simp only[pkA,seval,fsC]
 refine bE (fun i:Nat=>hdS [(0,.c (.sl (l.map faC))),(3,.bp 0 0),(5,i64 i)] [(faC f).map .c]) (fun i=>l.length - i) (fun i=>i≤l.length∧f∉l.take i) 0 ⟨ar _,by simp⟩ ?_ ?_
 ·exact cD rfl (ar _) (ab _) (by simp[FL,ak]) (by simp[BL])
 rintro i ⟨hi,ht⟩ R cj cJ eP
 simp only[sa,seval,au]
 refine aT (fun bK=>?_) (fun gr=>?_)
 ·have bK:i<l.length:=by simpa using bK
  have hw:=bG (n:=(i:Int)+1) (k:=i+1) (by omega) (by omega)
  simp only[pkA,seval]
  refine dR fk rfl eY (by decide) (aA i) (c:=faC l[i]) (by simp[bK]) rfl ?_
  simp only[B6,seval]
  refine aT (fun hy=>?_) (fun hn=>?_)
  ·have hy:l[i]=f:=by simpa using hy
   simp only[pkA,seval]
   refine eP _ ?_
   simp only[pkA,seval]
   rw[cu (hy▸bL bK)]
  ·have hn:¬ l[i]=f:=by simpa using hn
   simp only[pkA,seval]
   refine cj (i+1) _ ⟨bK,?_⟩ (by omega) (cD rfl (ar _) (ab _) (by simp[FL,ak,hw]) (by simp[BL,bxs]))
   rw[aC bK,aV,a7]
   rintro(h | h)
   ·exact ht h
   ·exact hn h.symm
 ·have:i=l.length:=by simp at gr;omega
  subst this
  simp only[pkA]
  refine cJ _ _ ?_
  simp only[pkA,seval]
  rw[bD] at ht
  rw[dM ht]
theorem UZ (l m:List Fa) (hl:l.length≤1000000000) (hm:m.length≤1000000000):FnOK Tryz.prog G 41 [.c (fsC l),.c (fsC m)] (bo (m.all fun f=>decide (f∈l))):=by
 refine cL (rs:=[.tmp 4]) false [] mixed Tryz.func41 rfl rfl rfl rfl (by kernel_rfl) (by simp) rfl rfl ?_
 simp only[pkA,seval]
 refine bE (fun i:Nat=>hdS [(0,.c (fsC l)),(1,.c (fsC m)),(5,i64 i)] []) (fun i=>m.length - i) (fun i=>i≤m.length∧∀ f∈m.take i,f∈l) 0 ⟨ar _,by simp⟩ ?_ ?_
 ·exact cD rfl (ar _) (ab _) (by simp[FL,ak]) trivial
 rintro i ⟨hi,ht⟩ R cj cJ eP
 have hml:∀ K,hJ Tryz.prog 37 (.c (fsC m)) K=K (i64 m.length):=fun K=>by unfold fsC;rw[Lm,au]
 simp only[pkA,seval,hml]
 refine aT (fun bK=>?_) (fun gr=>?_)
 ·have bK:i<m.length:=by simpa using bK
  have hw:=bG (n:=(i:Int)+1) (k:=i+1) (by omega) (by omega)
  simp only[pkA,seval]
  refine dR fk rfl eY (by decide) (aA i) (c:=faC m[i]) (by simp[bK]) rfl ?_
  simp only[B6,seval]
  refine aB rfl (yh l m[i] hl) (fun _=>rfl) ?_
  simp only[pkA,seval]
  refine aT (fun hy=>?_) (fun hn=>?_)
  ·have hy:m[i]∉l:=by simpa using hy
   simp only[pkA,seval]
   refine eP _ ?_
   simp only[pkA,seval]
   have:(m.all fun f=>decide (f∈l))=false:=by
    rw[List.all_eq_false];exact⟨m[i],bL bK,by simpa using hy⟩
   rw[this]
  ·have hn:m[i]∈l:=by simpa using hn
   simp only[pkA,seval]
   refine cj (i+1) _ ⟨bK,fun f hf=>?_⟩ (by omega) (cD rfl (ar _) (ab _) (by simp[FL,ak,hw]) trivial)
   rw[aC bK,aV,a7] at hf
   rcases hf with hf | rfl
   ·exact ht f hf
   ·exact hn
 ·have:i=m.length:=by simp at gr;omega
  subst this
  simp only[pkA]
  refine cJ _ _ ?_
  simp only[pkA,seval]
  rw[bD] at ht
  have:(m.all fun f=>decide (f∈l))=true:=by
   rw[ba];exact fun f hf=>by simpa using ht f hf
  rw[this]
section
variable {x:In} {nb q:Nat} {K:V→Prop}
theorem akT:ldB nb q ((inC x).map .c) 0 K=(q<nb∧K (i64 x.rule)):=rfl
theorem akU:ldB nb q ((inC x).map .c) 1 K=(q<nb∧K (.c (fsC x.pre))):=rfl
theorem akV:ldB nb q ((inC x).map .c) 2 K=(q<nb∧K (.c (fsC x.con))):=rfl
theorem Nm:cy ((inC x).map V.c)=false:=rfl
theorem U0:ldA nb q ((inC x).map .c) 0 3 K=(q<nb∧K (.agg (inC x))):=by
 unfold ldA
 exact propext ⟨fun h=>⟨h.1,h.2.2⟩,fun h=>⟨h.1,⟨rfl,rfl⟩,h.2⟩⟩
end
def pkI:=jj @pkQ (jj @akT (jj @akU (jj @akV (jj @Nm @U0))))
def sY (l:List In):C:=.sl (l.map inC)
def wP (l:List Fa) (f:Fa):Nat:=l.findIdx fun y=>!ltF y f
def wQ (l:List Fa) (f:Fa):List Fa:=if l[wP l f]?=some f then l else l.take (wP l f)++f::l.drop (wP l f)
theorem aab {l:List Fa} {f:Fa}:wP l f≤l.length:=List.findIdx_le_length
theorem aac {l:List Fa} {f:Fa} {i:Nat} (hi:i≤l.length) (h1:∀ j (h:j<l.length),j<i→ltF l[j] f=true) (h2:∀ h:i<l.length,ltF l[i] f=false):wP l f=i:=by
 unfold wP
 rcases dG i l.length with h | h
 ·rw[List.findIdx_eq h]
  exact⟨by simp[h2 h],fun j hj=>by simp[h1 j (by omega) hj]⟩
 ·have:i=l.length:=by omega
  subst this
  rw[List.findIdx_eq_length]
  intro x hx
  obtain⟨j,hj,rfl⟩:=gU hx
  simp[h1 j hj hj]
theorem B7 {l:List Fa} {f:Fa}:(wQ l f).length≤l.length+1:=by
 unfold wQ
 split
 ·omega
 ·simp only[ai,aN,aZ,cW];omega
theorem Gj {P:Program} {T e:TypeId} {i j:TI} {es:List (List C)} {lo hi:Option V} {l h:Nat} {K:V→Prop} (hT:ti P T=some i) (hk:i.kd=.slice e) (hE:ti P e=some j) (h1:jP 0 lo=some (l:Nat)) (h2:jP es.length hi=some (h:Nat)) (hlh:l≤h) (hhe:h≤es.length) (hx:∀ x∈es,x.length=j.size)
 (hK:K (.c (.sl ((es.take h).drop l)))):kI P T (.c (.sl es)) lo hi none K:=by
 obtain⟨kd,a,b,c,d,f,g⟩:=i;simp only at hk;subst hk
 simp only[kI,hT,hE,h1,h2]
 exact⟨⟨by omega,by omega,by omega,hx⟩,hK⟩
theorem Ek (l:List Fa) (f:Fa) (hm:l.length≤1000000):FnOK Tryz.prog G 60 [.c (fsC l),.agg (faC f)] (.c (fsC (wQ l f))):=by
 refine cL (rs:=[.tmp 4]) false [35,40,44] mixed Tryz.func60 rfl rfl rfl rfl (by kernel_rfl) (by simp) rfl rfl ?_
 simp only[pkA,seval,fsC]
 refine bE (fun i:Nat=>hdS [(0,.c (.sl (l.map faC))),(3,.bp 0 0),(5,i64 i)] [(faC f).map .c]) (fun i=>l.length - i) (fun i=>i≤l.length∧∀ j (h:j<l.length),j<i→ltF l[j] f=true) 0 ⟨ar _,fun j h h'=>absurd h' (fL _)⟩ ?_ ?_
 ·exact cD rfl (ar _) (ab _) (by simp[FL,ak]) (by simp[BL])
 rintro i ⟨hi,mH⟩ R cj cJ eP
 have amU:∀ es:List (List C),(V.c (.sl es)).fz=.c (.sl es):=fun _=>rfl
 have tl:∀ m:List Fa,∀ x∈m.map faC,x.length=3:=fun m=>lz j0 m
 have post:(∀ h:i<l.length,ltF l[i] f=false)→∀ fr:Nat→V,fr 0=.c (.sl (l.map faC))→fr 3=.bp 0 0→fr 5=i64 i→R (.exit 0) ⟨fr,bxs [(faC f).map .c],1⟩:=fun h2 fr f0 f3 f5=>by
  have hp:=aac hi mH h2
  have new:l[i]?≠some f→wQ l f=l.take i++f::l.drop i:=fun h=>by unfold wQ;rw[hp,if_neg h]
  have ht:((l.map faC).take i).drop 0=(l.take i).map faC:=by rw[cd,List.map_take]
  have hd:((l.map faC).take l.length).drop i=(l.drop i).map faC:=by rw[fP (by simp),List.map_drop]
  refine cJ _ _ ?_
  simp only[sa,seval,au,f0,f5]
  refine fY (fun bK=>?_) (fun gr=>?_)
  ·have bK:i<l.length:=by simpa using bK
   simp only[pkA,seval,f0,f5]
   refine dR fk rfl eY (by decide) (aA i) (c:=faC l[i]) (by simp[bK]) rfl ?_
   simp only[B6,seval,f3]
   refine aT (fun hy=>?_) (fun hn=>?_)
   ·have hy:l[i]=f:=by simpa using hy
    simp only[pkA,seval,f0]
    unfold wQ
    rw[hp,if_pos (by rw[ae bK,hy])]
   ·have hn:¬ l[i]=f:=by simpa using hn
    rw[new (by rw[ae bK];simpa using hn)]
    simp only[pkA,seval,f0,f5]
    refine Gj (l:=0) (h:=i) fk rfl eY rfl rfl (ar _) (by simp;omega) (tl l) ?_
    rw[ht]
    simp only[pkA,seval,cG]
    refine PT (l:=[]) (m:=l.take i) (by simp;omega) ?_
    rw[eI]
    simp only[B6,seval,f3,cG,iY]
    refine pY (l:=l.take i) (x:=f) (by simp;omega) ?_
    simp only[pkA,seval,f0,f5,iY]
    refine Gj (l:=i) (h:=l.length) fk rfl eY rfl (by rw[au];rfl) hi (by simp) (tl l) ?_
    rw[hd]
    simp only[pkA,seval,cG]
    refine PT (l:=l.take i++[f]) (m:=l.drop i) (by simp;omega) ?_
    simp only[pkA,seval,nH,iY]
    rw[aI];rfl
  ·have gr:¬ i<l.length:=by simpa using gr
   rw[new (by rw[bw (by omega)];simp)]
   simp only[pkA,seval,f0,f5]
   refine Gj (l:=0) (h:=i) fk rfl eY rfl rfl (ar _) (by simp;omega) (tl l) ?_
   rw[ht]
   simp only[pkA,seval,cG]
   refine PT (l:=[]) (m:=l.take i) (by simp;omega) ?_
   rw[eI]
   simp only[B6,seval,f3,cG,iY]
   refine pY (l:=l.take i) (x:=f) (by simp;omega) ?_
   simp only[pkA,seval,f0,f5,iY]
   refine Gj (l:=i) (h:=l.length) fk rfl eY rfl (by rw[au];rfl) hi (by simp) (tl l) ?_
   rw[hd]
   simp only[pkA,seval,cG]
   refine PT (l:=l.take i++[f]) (m:=l.drop i) (by simp;omega) ?_
   simp only[pkA,seval,nH,iY]
   rw[aI];rfl
 simp only[sa,seval,au]
 refine fY (fun bK=>?_) (fun gr=>?_)
 ·have bK:i<l.length:=by simpa using bK
  have hw:=bG (n:=(i:Int)+1) (k:=i+1) (by omega) (by omega)
  simp only[pkA,seval]
  refine dR fk rfl eY (by decide) (aA i) (c:=faC l[i]) (by simp[bK]) rfl ?_
  simp only[B6,seval]
  refine aB rfl (zP l[i] f) (fun _=>rfl) ?_
  have sA:decide (wK l[i] f<0)=ltF l[i] f:=gR _ _
  simp only[pkA,seval,sA]
  refine aT (fun hy=>?_) (fun hn=>?_)
  ·simp only[pkA,seval]
   refine cj (i+1) _ ⟨bK,fun j h hj=>?_⟩ (by omega) (cD rfl (ar _) (ab _) (by simp[FL,ak,hw]) (by simp[BL,bxs]))
   rcases dG j i with h1 | h1
   ·exact mH j h h1
   ·have:j=i:=by omega
    subst this;exact hy
  ·simp only[pkA]
   exact post (fun _=>hn) _ rfl rfl rfl
 ·have gr:¬ i<l.length:=by simpa using gr
  simp only[pkA,seval]
  exact post (fun h=>absurd h gr) _ rfl rfl rfl
