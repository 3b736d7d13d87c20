/- The engine of layer 17: run. -/
import Derived.Test.YtloppcgcepgbnaaGreatDoorVlE8
import Derived.Test.YtloppcgcepgbnaaGreatDoorVlE0
import Derived.Test.YtloppcgcepgbnaaGreatDoorVlLaw
set_option maxHeartbeats 8000000
set_option linter.all false
namespace Go.Proofs.YtloppcgcepgbnaaGreatDoor
open Go Go.Vl
variable {G:Gl}
set_option maxRecDepth 4000
def adY (p:Pol) (o:Option Fa) (i:Nat):List In:=(Tq p o).getD i []
def Kr (p:Pol) (o:Option Fa) (i:Nat):List In:=((Tq p o).drop i).flatten
theorem N3 {p:Pol} {o:Option Fa} {i:Nat} (h:i<15):Kr p o i=adY p o i++Kr p o (i+1):=by
 unfold Kr adY
 have hl:i<(Tq p o).length:=h
 rw[dD hl,cu,ay,ab hl]
 rfl
theorem aja {τ:Type} (Y:Ys τ) (p:Pol) (o:Option Fa) (hp:p.types.length≤9223372036854775806) (hr:p.rules.length≤9223372036854775806) (i:Nat) (hi:i<15) (s:τ) (hF:Fut G Y s (adY p o i)) :
 FnR G Y (93+i) [.bp (kx Y.k 0) 0] s (adY p o i) [eng p o]:=by
 match i,hi with
 |0,_=>exact adP Y p o hp hr s hF
 |1,_=>exact adQ Y p o hp hr s hF
 |2,_=>exact adR Y p o hp hr s hF
 |3,_=>exact adS Y p o hp hr s hF
 |4,_=>exact adT Y p o hp hr s hF
 |5,_=>exact adU Y p o hp hr s hF
 |6,_=>exact adV Y p o hp hr s hF
 |7,_=>exact adW Y p o hp hr s hF
 |8,_=>exact adX Y p o hp hr s hF
 |9,_=>exact Yl Y p o hp hr s hF
 |10,_=>exact Ym Y p o hp hr s hF
 |11,_=>exact Yn Y p o hp hr s hF
 |12,_=>exact Yo Y p o hp hr s hF
 |13,_=>exact Yj Y p o s hF
 |14,_=>exact Yp Y p o hp hr s hF
def ajb (k i:Nat):V:=.clo (.func (93+i)) [.bp (kx k 0) 0] []
def uj (k:Nat):List V:=(List.range 15).map (ajb k)
theorem Yq {k i:Nat} (h:i<15):(uj k)[i]?=some (ajb k i):=by
 unfold uj
 rw[ba,jk h];rfl
def Ys.outT {τ:Type} (Y:Ys τ) (s:τ) (L:List In) (ls:List (List V)) (r:V) (b1:List (List V)):Prop:=∃ t b,Y.run s L t b∧r=.tup []∧b1=Y.yb t++ls
theorem Hk {τ:Type} {Y:Ys τ} {s0 s:τ} {L:List In} {b:Bool} (hR:Y.run s0 L s b) {ls rest:List (List V)} {m n:Nat} {fr:Nat→V} {e:VE} (he:tR e=true) (hm:ls.length=m) (hn:(ls++rest).length=n) (dQ:ltL (kx Y.k m) ls) :
 ND Tryz.prog (kx Y.k m) (Y.outT s0 L ls) [] e ⟨fr,bxs (Y.yb s++(ls++rest)),kx Y.k n⟩:=
 ⟨_,_,⟨s,b,hR,rfl,rfl⟩,WR [] he (Y.len s) (Y.lt s) hm hn dQ (fun _ h=>by cases h) trivial rq⟩
theorem PE {τ:Type} {Y:Ys τ} {s:τ} {L:List In} {ls:List (List V)}:∀ r b1,Y.outT s L ls r b1→r.compT=true∧b1.length=(Y.yb s++ls).length:=fun r b1 h=>by
 obtain⟨t,b,_,rfl,rfl⟩:=h
 exact⟨rfl,by rw[aj,aj,Y.len,Y.len]⟩
theorem Yr {τ:Type} {Y:Ys τ} {s:τ} {ls:List (List V)} {m j:Nat} {l:List (Nat×V)} {fr:Nat→V} (hj:j≤m) (hm:ls.length=m) (dQ:ltL (kx Y.k m) ls) (hl:∀ q∈l,q.2.lt (kx Y.k m)) (h1:FL l fr):S.Le (kx Y.k j) (hdS l (Y.yb s++ls)) ⟨fr,bxs (Y.yb s++ls),kx Y.k m⟩:=by
 have:=acd (rest:=[]) (Y:=Y.yb s) (ls:=ls) (n:=m) (j:=j) (Y.len s) (Y.lt s) hm (by simpa using hm) dQ hl h1 hj
 simpa using this
theorem ajc {P:Program} {T e:TypeId} {i j:TI} {z:List C} {len:Nat} {parts:List (Nat×V)} {L:List V} {fr:Nat→V} {bx:Nat→List V} {nb d:Nat} {K:S→Prop} (hT:ti P T=some i) (hk:i.kd=.slice e) (hE:ti P e=some j) (hs:j.size=1) (hz:j.zero=some z) (vo:z.length=1)
 (hp:parts.map (·.1)=List.range len) (ho:(parts.all fun p=>p.2.fz.one)=true) (h0:0<len) (hl:len≤16777216) (hL:parts.map (fun p=>p.2.fz)=L) (hK:K ⟨up fr d (.ms nb 0 len len 1),up bx nb L,nb+1⟩):xm P T len parts ⟨fr,bx,nb⟩ (some d) K:=by
 obtain⟨kd,a,b,c,q,f,g⟩:=i
 simp only at hk;subst hk
 obtain⟨kd',a',b',c',q',f',g'⟩:=j
 simp only at hs hz;subst hs;subst hz
 unfold xm
 simp only[hT,hE]
 rw[aV] at ho
 exact⟨⟨trivial,vo,hp,ho,h0,hl⟩,by rw[hL];exact hK⟩
theorem Yt {k:Nat}:∀ x∈uj k,x.lt (kx k 2):=fun x hx=>by
 obtain⟨i,_,rfl⟩:=bA.1 hx
 refine⟨fun q hq=>?_,fun q hq=>by cases hq⟩
 simp only[aW] at hq;subst hq;simp only[V.ltP,kM];decide
def x9:=jj @pkA @ptA
theorem ajd {τ:Type} (Y:Ys τ) (p:Pol) (o:Option Fa) (hp:p.types.length≤9223372036854775806) (hr:p.rules.length≤9223372036854775806) (s:τ) (hF:Fut G Y s (iS p o)) :
 FnE Tryz.prog G 71 [.bp (kx Y.k 0) 0] (Y.yb s++[eng p o]) (Y.outT s (iS p o) [eng p o]):=by
 have dQ:ltL (kx Y.k 1) [eng p o]:=aD (cB Y.pos) cz
 refine G5 (k:=Y.k) (m:=1) (rs:=[]) [1400034,1500041] mixed Tryz.func71 rfl rfl rfl rfl (by kernel_rfl) (by simp) PE (Y.len s) (Y.lt s) rfl dQ (bj (dX (by decide)) eE) ?_
 simp only[pkA,seval,pkB Y _]
 refine .inl (ajc B8 rfl Po rfl rfl rfl rfl rfl (by decide) (by decide) (L:=uj Y.k) rfl ?_)
 have hms:(V.ms (kx Y.k 1) 0 15 15 1).lt (kx Y.k 2):=by simp only[V.lt,kM];decide
 have anQ:ltL (kx Y.k 2) [eng p o,uj Y.k]:=aD (cB Y.pos) (aD Yt cz)
 simp only[x9,seval,pkB Y _,fg]
 refine cx (fun x:Nat×τ=>hdS [(34,.ms (kx Y.k 1) 0 15 15 1),(35,i64 15),(36,i64 x.1)] (Y.yb x.2++[eng p o,uj Y.k])) (fun x=>15 - x.1)
  (fun x=>x.1≤15∧Fut G Y x.2 (Kr p o x.1)∧∀ t b,Y.run x.2 (Kr p o x.1) t b→Y.run s (iS p o) t b) (0,s) ⟨au _,hF,fun _ _ h=>h⟩ ?_ ?_
 ·exact Yr (by decide) rfl anQ (eM hms (eM trivial (eM trivial uh))) (by simp[FL,ao])
 rintro⟨i,s'⟩ ⟨hi,AI,vW⟩ R cE cC dV
 simp only at hi AI vW
 simp only[pkA,seval,pkB Y _,AY]
 refine aS (fun bV=>?_) (fun jA=>?_)
 ·have bV:i<15:=by simp at bV;omega
  rw[N3 bV] at AI vW
  have hw:=cd (n:=(i:Int)+1) (k:=i+1) (by omega) (by omega)
  simp only[pkA,seval,pkB Y _]
  refine Wj B8 rfl Po rfl (by decide) (aJ i) (by omega) ?_
  have hld:∀ K,ldB (kx Y.k 2) (kx Y.k 1) (uj Y.k) (0+((i:Int)).toNat*1) K=K (.clo (.func (93+i)) [.bp (kx Y.k 0) 0] []):=fun K=>by
   unfold ldB
   rw[kM,show 0+((i:Int)).toNat*1=i by simp,Yq bV]
   simp only[ajb,O2]
   exact propext ⟨fun h=>h.2,fun h=>⟨by decide,h⟩⟩
  have hml:bY (uj Y.k)=false:=rfl
  simp only[x9,seval,pkB Y _,hld,hml]
  refine nI (ls:=[eng p o]) (rest:=[uj Y.k]) rfl (aja Y p o hp hr i bV s' AI.app.1) rfl rfl fun t' b' hR=>?_
  simp only[pkA,seval,pkB Y _]
  refine aS (fun hn=>?_) (fun hn=>?_)
  ·have hn:b'=false:=by simpa using hn
   subst hn
   simp only[pkA,pkB Y _]
   refine dV _ ?_
   simp only[pkA,pkB Y _]
   exact Hk (vW _ _ (AX hR)) (rest:=[uj Y.k]) rfl rfl rfl dQ
  ·have hn:b'=true:=by simpa using hn
   subst hn
   simp only[pkA,seval,pkB Y _]
   exact cE (i+1,t') _ ⟨by simp only;omega,AI.app.2 _ hR,fun t b h=>vW t b (AW hR h)⟩ (by simp only;omega) (Yr (by decide) rfl anQ (eM hms (eM trivial (eM trivial uh))) (by simp[FL,ao,hw]))
 ·have:i=15:=by simp at jA;omega
  subst this
  simp only[pkA,pkB Y _]
  refine cC _ _ ?_
  simp only[pkA,seval,pkB Y _]
  exact Hk (vW _ _ (.nil s')) (rest:=[uj Y.k]) rfl rfl rfl dQ
theorem Yu {o:Option (List V)} {l:List V} {K:V→Prop} (h:o=some l) (hK:K (.mag l)):qp K o:=by
 subst h;exact hK
theorem N4 {τ:Type} {Y:Ys τ} {s:τ} {L:List In} {g:FuncId} {ls:List (List V)} {f:V} {args all cargs:List V} {n:Nat} {fr:Nat→V} {K:S→V→Prop} (hc:gu f args=some (g,all)) (hf:FnE Tryz.prog G g cargs (Y.yb s++ls) (Y.outT s L ls)) (en:all.map V.fz=cargs)
 (hn:ls.length=n) (hK:∀ t b,Y.run s L t b→K ⟨fr,bxs (Y.yb t++ls),kx Y.k n⟩ (.tup [])):kZ Tryz.prog G ⟨fr,bxs (Y.yb s++ls),kx Y.k n⟩ f args K:=by
 have:=EJ (rest:=[]) (n:=n) (fr:=fr) (K:=K) hc hf en (Y.len s) (by simpa using hn) fun r b1 h=>by
  obtain⟨t,b,hR,rfl,rfl⟩:=h
  exact⟨Y.yb t,rfl,Y.len t,Y.lt t,fun _=>rfl,by simpa using hK t b hR⟩
 simpa using this
theorem adZ {τ:Type} {Y:Ys τ} {s0 s:τ} {L:List In} {b:Bool} (hR:Y.run s0 L s b) {rest:List (List V)} {n:Nat} {fr:Nat→V} {e:VE} (he:tR e=true) (hn:rest.length=n):ND Tryz.prog (kx Y.k 0) (Y.outT s0 L []) [] e ⟨fr,bxs (Y.yb s++rest),kx Y.k n⟩:=by
 have:=Hk hR (ls:=[]) (rest:=rest) (m:=0) (n:=n) (fr:=fr) (e:=e) he rfl (by simpa using hn) cz
 simpa using this
theorem PG {τ:Type} (Y:Ys τ) (p:Pol) (hp:p.types.length≤9223372036854775806) (hr:p.rules.length≤9223372036854775806) (s:τ) (hF:Fut G Y s (iS p none)) :
 FnE Tryz.prog G 70 [.yl 0,.c (.rp (poC p) 0)] (Y.yb s) (fun r b1=>∃ t b,Y.run s (iS p none) t b∧r=.tup []∧b1=Y.yb t):=by
 have h:FnE Tryz.prog G 70 [.yl 0,.c (.rp (poC p) 0)] (Y.yb s++[]) (Y.outT s (iS p none) []):=by
  refine G5 (k:=Y.k) (m:=0) (rs:=[]) [1500010,2500008] mixed Tryz.func70 rfl rfl rfl rfl (by kernel_rfl) (by simp) PE (Y.len s) (Y.lt s) rfl cz (bj (by simpa[V.lt,kx] using Y.pos) (bj trivial eE)) ?_
  simp only[pkA,ptA,pkE,seval,pkB Y _,ee]
  refine Yu (l:=eng p none) (by rw[show(p.types.map tyC).length=p.types.length from ak ..];rfl) ?_
  simp only[pkA,seval,pkB Y _,fg]
  refine N4 (ls:=[eng p none]) rfl (ajd Y p none hp hr s hF) rfl rfl fun t' b' hR=>?_
  simp only[pkA,pkB Y _]
  exact adZ hR rfl rfl
 have e:Y.outT s (iS p none) []=(fun r b1=>∃ t b,Y.run s (iS p none) t b∧r=.tup []∧b1=Y.yb t):=by
  funext r b1;simp[Ys.outT]
 rw[e,ee] at h
 exact h
def Yv (p:Pol):V:=.c (.fn (.func 70) [] [.rp (poC p) 0])
theorem yd (p:Pol):FnOK Tryz.prog G 51 [.agg (poC p)] (Yv p):=by
 refine bR (rs:=[.tmp 2]) true [] mixed Tryz.func51 rfl rfl rfl rfl (by kernel_rfl) (by simp) rfl rfl ?_
 simp only[pkA,seval,AS]
 rfl
theorem Yx {nb q:Nat} {f:Fa} {K:V→Prop}  : ldA nb q ((faC f).map .c) 0 3 K=(q<nb∧K (.agg (faC f))):=by
 unfold ldA
 exact propext ⟨fun h=>⟨h.1,h.2.2⟩,fun h=>⟨h.1,⟨rfl,rfl⟩,h.2⟩⟩
theorem PH {f:Fa}:bY ((faC f).map V.c)=false:=rfl
def pkT:=jj @pkF (jj @Yx @PH)
section
variable {f:Fa} {nb q:Nat} {K:V→Prop}
theorem aoH:ldB nb q ((faC f).map .c) 0 K=(q<nb∧K (i64 f.kind)):=rfl
theorem aoI:ldB nb q ((faC f).map .c) 1 K=(q<nb∧K (i64 f.a)):=rfl
theorem aoJ:ldB nb q ((faC f).map .c) 2 K=(q<nb∧K (i64 f.b)):=rfl
end
def pkQ:=jj @pkT (jj @aoH (jj @aoI @aoJ))
def Yy:=jj @pkA (jj @ptA @pkQ)
theorem Ks (a b:Fa):FnOK Tryz.prog G 32 [.agg (faC a),.agg (faC b)] (i64 (wJ a b)):=by
 refine bR (rs:=[.tmp 4]) false [] mixed Tryz.func32 rfl rfl rfl rfl (by kernel_rfl) (by simp) rfl rfl ?_
 have e0:∀ x K,cJ false 1 0 [cI x] K=K (i64 x):=fun _ _=>rfl
 have low:∀ x y z:Int,V.ow (some (3,1)) [[cI x],[cI y],[cI z]]=.ow (some (3,1)) ([x,y,z].map fun y=>[cI y]):=fun _ _ _=>rfl
 simp only[Yy,seval]
 unfold wJ
 obtain⟨xs,qX⟩:∃ xs,xs=[a.kind,a.a,a.b]:=⟨_,rfl⟩
 obtain⟨ys,uF⟩:∃ ys,ys=[b.kind,b.a,b.b]:=⟨_,rfl⟩
 obtain⟨cs,jo⟩:∃ cs,cs=[qf a.kind b.kind,qf a.a b.a,qf a.b b.b]:=⟨_,rfl⟩
 have hxl:xs.length=3:=by rw[qX];rfl
 have hyl:ys.length=3:=by rw[uF];rfl
 have kf:cs.length=3:=by rw[jo];rfl
 have hc:∀ i (h:i<3),cs[i]'(by omega)=qf (xs[i]'(by omega)) (ys[i]'(by omega)):=fun i h=>by
  subst qX uF jo
  match i,h with
  |0,_=>rfl
  |1,_=>rfl
  |2,_=>rfl
 have Uk:[[cI a.kind],[cI a.a],[cI a.b]]=xs.map fun y=>[cI y]:=by rw[qX];rfl
 have hym:[[cI b.kind],[cI b.a],[cI b.b]]=ys.map fun y=>[cI y]:=by rw[uF];rfl
 rw[← jo]
 refine cx (fun i:Nat=>hdS [(5,.ow (some (3,1)) (xs.map fun y=>[cI y])),(6,.ow (some (3,1)) (ys.map fun y=>[cI y])),(7,i64 i)] []) (fun i=>3 - i) (fun i=>i≤3∧orL cs=orL (cs.drop i)) 0 ⟨by omega,rfl⟩ ?_ ?_
 ·refine cL rfl (au _) (au _) ?_ trivial
  rw[← Uk,← hym]
  simp[FL,ao,cI]
 rintro i ⟨hi,fS⟩ R cE cC dV
 simp only[pkA,seval]
 refine aS (fun bV=>?_) (fun jA=>?_)
 ·have bV:i<3:=by simp at bV;omega
  have hw:=cd (n:=(i:Int)+1) (k:=i+1) (by omega) (by omega)
  rw[dD (by omega)] at fS
  have D8:i<xs.length:=by omega
  have H5:i<ys.length:=by omega
  simp only[pkA,seval]
  refine fE uc rfl pe (by decide) (aJ i) (c:=[cI xs[i]]) (by simp[D8]) rfl ?_
  simp only[x9,seval,e0]
  refine fE uc rfl pe (by decide) (aJ i) (c:=[cI ys[i]]) (by simp[H5]) rfl ?_
  simp only[x9,seval,e0]
  refine aS (fun h1=>?_) (fun h1=>?_)
  ·have h1:xs[i]<ys[i]:=by simpa using h1
   simp only[pkA,seval]
   refine dV _ ?_
   simp only[pkA,seval]
   rw[fS]
   simp only[orL,hc i bV,qf,h1,dn];rfl
  ·have h1:¬ xs[i]<ys[i]:=by simpa using h1
   simp only[pkA,seval]
   refine fE uc rfl pe (by decide) (aJ i) (c:=[cI xs[i]]) (by simp[D8]) rfl ?_
   simp only[x9,seval,e0]
   refine fE uc rfl pe (by decide) (aJ i) (c:=[cI ys[i]]) (by simp[H5]) rfl ?_
   simp only[x9,seval,e0]
   refine aS (fun h2=>?_) (fun h2=>?_)
   ·have h2:ys[i]<xs[i]:=by simpa using h2
    simp only[pkA,seval]
    refine dV _ ?_
    simp only[pkA,seval]
    rw[fS]
    simp only[orL,hc i bV,qf,h1,h2,dn,dj];rfl
   ·have h2:¬ ys[i]<xs[i]:=by simpa using h2
    simp only[pkA,seval]
    refine cE (i+1) _ ⟨bV,?_⟩ (by omega) (cL rfl (au _) (au _) ?_ trivial)
    ·rw[fS]
     simp only[orL,hc i bV,qf,h1,h2,dn,dj]
    ·simp[FL,ao,hw]
 ·have:i=3:=by simp at jA;omega
  subst this
  simp only[pkA]
  refine cC _ _ ?_
  simp only[pkA,seval]
  rw[fS,List.drop_eq_nil_of_le (by omega)];rfl
def gU (p:Pol) (f:Fa):Bool:=
 if f.kind=1 then decide (0≤f.a)&&decide (f.a≤p.types.length)&&decide (0≤f.b)&&decide (f.b<p.types.length)
 else if f.kind=2 then decide (0≤f.a)&&decide (f.a≤p.types.length)&&decide (0≤f.b)&&decide (f.b≤p.types.length)
 else if f.kind=3∨f.kind=4 then decide (1≤f.a)&&decide (f.a≤p.types.length)&&decide (f.b=0)
 else false
theorem Cm (p:Pol) (f:Fa):FnOK Tryz.prog G 49 [.agg (poC p),.agg (faC f)] (bo (gU p f)):=by
 refine bR (rs:=[.tmp 4]) false [] mixed Tryz.func49 rfl rfl rfl rfl (by kernel_rfl) (by simp) rfl rfl ?_
 have hb:∀ b:Bool,(b=true∨b=false):=fun b=>by cases b<;>simp
 unfold gU
 repeat' first
  |(simp only[Yy,seval])
  |refine fA (fun h=>?_) (fun h=>?_)
  |refine aS (fun h=>?_) (fun h=>?_)
 all_goals (simp only[ak,bF,kY,dc] at *)
 all_goals (simp_all<;>omega)
def afR:=jj @pkA (jj @ptA @pkF)
theorem Hl (a b:List Fa) (hm:a.length≤1000000000):FnOK Tryz.prog G 14 [.c (fsC a),.c (fsC b)] (bo (decide (a=b))):=by
 refine bR (rs:=[.tmp 4]) false [] mixed Tryz.func14 rfl rfl rfl rfl (by kernel_rfl) (by simp) rfl rfl ?_
 simp only[x9,seval,fsC,ak]
 refine aS (fun gK=>?_) (fun yC=>?_)
 ·have gK:a≠b:=by rintro rfl;simp at gK
  simp only[pkA,seval]
  rw[gd gK]
 ·have cn:a.length=b.length:=by simp at yC;omega
  simp only[pkA,seval]
  refine cx (fun i:Nat=>hdS [(0,.c (.sl (a.map faC))),(1,.c (.sl (b.map faC))),(5,i64 i)] []) (fun i=>a.length - i) (fun i=>i≤a.length∧a.take i=b.take i) 0 ⟨au _,rfl⟩ ?_ ?_
  ·exact cL rfl (au _) (au _) (by simp[FL,ao]) trivial
  rintro i ⟨hi,ht⟩ R cE cC dV
  simp only[x9,seval,ak]
  refine aS (fun bV=>?_) (fun jA=>?_)
  ·have bV:i<a.length:=by simpa using bV
   have hlb:i<b.length:=by omega
   have hw:=cd (n:=(i:Int)+1) (k:=i+1) (by omega) (by omega)
   simp only[pkA,seval]
   refine fE eO rfl eV (by decide) (aJ i) (c:=faC a[i]) (by simp[bV]) rfl ?_
   simp only[afR,seval]
   refine fE eO rfl eV (by decide) (aJ i) (c:=faC b[i]) (by simp[hlb]) rfl ?_
   simp only[afR,seval]
   refine aS (fun hn=>?_) (fun hy=>?_)
   ·have hn:a≠b:=by rintro rfl;simp at hn
    simp only[pkA,seval]
    refine dV _ ?_
    simp only[pkA,seval]
    rw[gd hn]
   ·have hy:a[i]=b[i]:=by simpa using hy
    simp only[pkA,seval]
    refine cE (i+1) _ ⟨bV,?_⟩ (by omega) (cL rfl (au _) (au _) (by simp[FL,ao,hw]) trivial)
    rw[bg bV,bg hlb,ht,hy]
  ·have:i=a.length:=by simp at jA;omega
   subst this
   simp only[pkA]
   refine cC _ _ ?_
   simp only[pkA,seval]
   rw[cH,cn,cH] at ht
   rw[ey ht]
theorem Kt (l:List Fa) (f:Fa) (hm:l.length≤1000000000):FnOK Tryz.prog G 24 [.c (fsC l),.agg (faC f)] (bo (decide (f∈l))):=by
 refine bR (rs:=[.tmp 4]) false [] mixed Tryz.func24 rfl rfl rfl rfl (by kernel_rfl) (by simp) rfl rfl ?_
 simp only[pkA,seval,fsC]
 refine cx (fun i:Nat=>hdS [(0,.c (.sl (l.map faC))),(3,.bp 0 0),(5,i64 i)] [(faC f).map .c]) (fun i=>l.length - i) (fun i=>i≤l.length∧f∉l.take i) 0 ⟨au _,by simp⟩ ?_ ?_
 ·exact cL rfl (au _) (ar _) (by simp[FL,ao]) (by simp[BL])
 rintro i ⟨hi,ht⟩ R cE cC dV
 simp only[x9,seval,ak]
 refine aS (fun bV=>?_) (fun jA=>?_)
 ·have bV:i<l.length:=by simpa using bV
  have hw:=cd (n:=(i:Int)+1) (k:=i+1) (by omega) (by omega)
  simp only[pkA,seval]
  refine fE eO rfl eV (by decide) (aJ i) (c:=faC l[i]) (by simp[bV]) rfl ?_
  simp only[Yy,seval]
  refine aS (fun hy=>?_) (fun hn=>?_)
  ·have hy:l[i]=f:=by simpa using hy
   simp only[pkA,seval]
   refine dV _ ?_
   simp only[pkA,seval]
   rw[ey (hy▸bM bV)]
  ·have hn:¬ l[i]=f:=by simpa using hn
   simp only[pkA,seval]
   refine cE (i+1) _ ⟨bV,?_⟩ (by omega) (cL rfl (au _) (ar _) (by simp[FL,ao,hw]) (by simp[BL,bxs]))
   rw[bg bV,aZ,aW]
   rintro(h | h)
   ·exact ht h
   ·exact hn h.symm
 ·have:i=l.length:=by simp at jA;omega
  subst this
  simp only[pkA]
  refine cC _ _ ?_
  simp only[pkA,seval]
  rw[cH] at ht
  rw[gd ht]
