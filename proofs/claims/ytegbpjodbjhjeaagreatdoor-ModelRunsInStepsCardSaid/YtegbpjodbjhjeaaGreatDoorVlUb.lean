/- Layer 15: the specification's Close, Knows. -/
import Derived.Test.YtegbpjodbjhjeaaGreatDoorVlT9
import Derived.Test.YtegbpjodbjhjeaaGreatDoorVlFlb
set_option linter.all false
namespace Go.Proofs.YtegbpjodbjhjeaaGreatDoor
open Go Go.Vl
variable {G:Gl}
set_option maxRecDepth 4000
def wR:Nat→List Tm→List Tm
 |0,o=>o
 |n+1,o=>if(pf o).length=o.length then o else wR n (pf o)
def eb (I:List Tm):List Tm:=wR (cH I+1) (jP I)
theorem yV {I:List Tm} (hv:∀ t∈I,bR t=true):∀ (n:Nat) (o:List Tm),xX I o→cH I<n+o.length→xX I (wR n o)∧nJ (wR n o)
 |0,o,h,hn=>by have:=OJ h;omega
 |n+1,o,h,hn=>by
  unfold wR
  split
  ·rename_i he;exact⟨h,OI h he⟩
  ·rename_i he
   have hr:=FY hv h
   have hle:o.length≤(pf o).length:=lL h.st.nodup fun x hx=>((ub h.st).2 x).2 (.inl hx)
   exact yV hv n _ hr (by omega)
theorem kR {I:List Tm} (hv:∀ t∈I,bR t=true):xX I (eb I)∧nJ (eb I):=yV hv _ _ (FX I) (by omega)
theorem yW {I out:List Tm} (hv:∀ t∈I,bR t=true) (hs:StT out) (hk:∀ t∈out,Kn I false t):out.length≤cH I∧cH out≤cH I*cH I∧(∀ t∈out,bR t=true)∧∀ t∈out,bu t≤cH I:=by
 have hsub:∀ x∈out,∃ u∈I,x∈jd u:=fun x hx=>(hk x hx).loc rfl
 have h1:out.length≤cH I:=by
  have:=lL hs.nodup (m:=kP I) fun x hx=>kQ.2 (hsub x hx)
  have e:(kP I).length=cH I:=by
   clear hsub this hk hv
   induction I with
   |nil=>rfl
   |cons t l ih=>simp only[kP,cH,aw,wL,ih]
  omega
 have h2:∀ x∈out,bu x≤cH I:=fun x hx=>by
  obtain⟨u,hu,h⟩:=hsub x hx
  have:=yU u x h
  have:=gq hu
  omega
 refine⟨h1,bU (Dq h2) (aO _ h1),fun t ht=>?_,h2⟩
 obtain⟨u,hu,h⟩:=hsub t ht
 exact nf u (hv u hu) t h
theorem OL {t:Tm} (hv:bR t=true) (hk:t.kind=3∨t.kind=4):∃ a b,t=.mk t.kind t.n [a,b]:=by
 obtain⟨k,n,l⟩:=t
 have hk:k=3∨k=4:=hk
 have:=(eR hv).2.2.1
 have h2:l.length=2:=by rcases hk with rfl | rfl<;>simp[fD] at this<;>omega
 match l,h2 with
 |[a,b],_=>exact⟨a,b,rfl⟩
theorem eqI (a b:Int):ig [.int] [cI a] [cI b]=some (decide (a=b)):=by
 show some (decide (a=b)&&true)=_;rw[iU]
def cS (b:By):C:=.lit (.string (bs8 b))
theorem eqS (a b:By):ig [.str] [cS a] [cS b]=some (decide (a=b)):=by
 show some (decide (bs8 a=bs8 b)&&true)=_;rw[iU,R7]
def shC (k:Int):List C:=[cS (qU k),cI (max 0 (fD k)),.lit (.bool (nX k))]
def shV (k:Int):V:=.agg (shC k)
def shL:List (Int×Int):=[(1,1),(2,2),(3,3),(4,4),(5,5),(6,6)]
def shM:List V:=na i64 shV shL
theorem ue {l m:List (Int×Int)} {k:Int} {s:Vl.S} {i:Nat} {x:V} {K:Vl.S→Prop} (hb:s.bx i=na i64 shV l) (hi:i<s.nb) (hx:x=shV k) (hm:Ns l k k=m) (hK:K { s with bx:=up s.bx i (na i64 shV m) }):gj Tryz.prog 158 s (.mr i) (i64 k) x K:=by
 subst hx;subst hm
 exact C9 (f:=i64) (h:=shV) (c:=fun a=>[cI a]) FO rfl xW rfl mw rfl Om (fun _=>rfl) (fun _=>rfl) eqI rfl rfl hb hi hK
def shZ:V:=.agg [cS [],cI 0,.lit (.bool false)]
theorem OM {l:List (Int×Int)} {k:Int} {s:Vl.S} {i:Nat} {K:V→Prop} (hb:s.bx i=na i64 shV l) (hi:i<s.nb) (hK:K (((sD l k).map shV).getD shZ)):eW Tryz.prog 158 s (.mr i) (i64 k) false K:=
 FC (f:=i64) (h:=shV) (c:=fun a=>[cI a]) FO rfl xW rfl mw rfl Om (fun _=>rfl) (fun _=>rfl) eqI hb hi hK
def ON (k:Int):Bool:=decide (1≤k)&&decide (k≤6)
theorem XN {k:Int}:sD shL k=if ON k=true then some k else none:=by
 by_cases h:ON k=true
 ·rw[if_pos h]
  simp only[ON,aF,bi] at h
  have:k=1∨k=2∨k=3∨k=4∨k=5∨k=6:=by omega
  rcases this with rfl | rfl | rfl | rfl | rfl | rfl<;>decide
 ·rw[if_neg h]
  simp only[ON,aF,bi] at h
  have hn:k∉shL.map (·.1):=by simp[shL];omega
  have:=Nt (l:=shL) (a:=k)
  rw[en hn] at this
  cases hg:sD shL k with
  |none=>rfl
  |some x=>rw[hg] at this;cases this
theorem TV {m:Nat}:shM.all (fun x=>x.ltB m)=true:=Db (fun _=>rfl) (fun _=>rfl)
theorem TW {ρ:Nat→Nat}:shM.map (V.ren ρ)=shM:=Da (fun _=>rfl) (fun _=>rfl)
def wS:=jj @pkA @ptA
set_option maxHeartbeats 4000000 in
theorem Kc:FnB Tryz.prog G 148 [] [] (.mr 0) [shM]:=by
 refine lH (rs:=[.tmp 0]) (k:=0) [] mixed Tryz.func148 rfl rfl rfl rfl (by kernel_rfl) (by simp) rfl rfl rfl rfl (aA _) ?_
 simp only[wS,seval,Tn]
 refine ue (l:=[]) (m:=[(1,1)]) rfl (show 0<1 by decide) rfl rfl ?_
 simp only[wS,seval]
 refine ue (l:=[(1,1)]) (m:=[(1,1),(2,2)]) (by simp[]) (show 0<1 by decide) rfl rfl ?_
 simp only[wS,seval]
 refine ue (l:=[(1,1),(2,2)]) (m:=[(1,1),(2,2),(3,3)]) (by simp[]) (show 0<1 by decide) rfl rfl ?_
 simp only[wS,seval]
 refine ue (l:=[(1,1),(2,2),(3,3)]) (m:=[(1,1),(2,2),(3,3),(4,4)]) (by simp[]) (show 0<1 by decide) rfl rfl ?_
 simp only[wS,seval]
 refine ue (l:=[(1,1),(2,2),(3,3),(4,4)]) (m:=[(1,1),(2,2),(3,3),(4,4),(5,5)]) (by simp[]) (show 0<1 by decide) rfl rfl ?_
 simp only[wS,seval]
 refine ue (l:=[(1,1),(2,2),(3,3),(4,4),(5,5)]) (m:=shL) (by simp[]) (show 0<1 by decide) rfl rfl ?_
 simp only[pkA,seval]
 exact dj [(0,.mr 0)] rfl (by simp only[fC,bh,bq,TV,aC,aJ];rfl) (aA _) (ae _) ⟨by simp[],trivial⟩ ⟨by simp[shM],trivial⟩ rfl
def xY (p:Tm→Bool) (l:List Tm):Int:=match l.findIdx? p with
 |some i=>(i:Int)
 |none=>-1
theorem Ha {p:Tm→Bool} {l:List Tm} {i:Nat} (h:i<l.length) (hp:p l[i]=true) (hn:∀ j (hj:j<l.length),j<i→p l[j]=false):xY p l=(i:Int):=by
 have:l.findIdx? p=some i:=bO.2 ⟨h,hp,fun j hj=>by rw[hn j (by omega) hj];simp⟩
 unfold xY;rw[this]
theorem yX {p:Tm→Bool} {l:List Tm} (hn:∀ j (hj:j<l.length),p l[j]=false):xY p l=-1:=by
 have:l.findIdx? p=none:=di.2 fun x hx=>by
  obtain⟨j,hj,rfl⟩:=gV hx
  exact hn j hj
 unfold xY;rw[this]
theorem OO {p:Tm→Bool} {l:List Tm}:decide (xY p l≥0)=l.any p:=by
 unfold xY
 cases h:l.findIdx? p with
 |none=>
  have:=di.1 h
  have h2:l.any p=false:=by rw[List.any_eq_false];exact fun x hx=>by rw[this x hx];simp
  rw[h2];decide
 |some i=>
  obtain⟨h1,h2,_⟩:=bO.1 h
  have h2:l.any p=true:=dE.2 ⟨_,aL h1,h2⟩
  rw[h2];simp
structure Ask (G:Gl) (Y:List (List V)) (f:V) (R:Tm→Prop) (p:Tm→Bool) where
 g:FuncId
 caps:List V
 eq:f=.clo (.func g) [] caps
 lt:∀ x∈caps,x.ltP Y.length
 ltY:ltL Y.length Y
 fz:caps.map V.fz=caps
 ok:∀ t,R t→FnB Tryz.prog G g (.agg (tmC t)::caps) Y (bo (p t)) Y
theorem yY {Y:List (List V)} {g:FuncId} {f:V} {args all cargs:List V} {fr:Nat→V} {K:S→V→Prop} {r:V} (hc:dS f args=some (g,all)) (hf:FnB Tryz.prog G g cargs Y r Y) (hall:all.map V.fz=cargs) (hlt:ltL Y.length Y) (hr:∀ ρ,r.ren ρ=r)
 (hK:K ⟨fr,bxs Y,kx Y.length 0⟩ r):vcallB Tryz.prog G ⟨fr,bxs Y,kx Y.length 0⟩ f args K:=by
 have:=JF (Y:=Y) (Y':=Y) (ls:=[]) (rest:=[]) (n:=0) (k:=Y.length) (fr:=fr) (K:=K) hc (by simpa using hf) hall rfl rfl hlt rfl hr (by simpa using hK)
 simpa using this
theorem OP {Y:List (List V)} {l:List (Nat×V)} {fr:Nat→V} (hlt:ltL Y.length Y) (hl:∀ q∈l,q.2.lt (kx Y.length 0)) (h1:FL l fr):S.Le (kx Y.length 0) (hdS l Y) ⟨fr,bxs Y,kx Y.length 0⟩:=by
 have:=Zc (Y:=Y) (ls:=[]) (rest:=[]) (k:=Y.length) (m:=0) (n:=0) (j:=0) (l:=l) (fr:=fr) rfl hlt rfl rfl (fun b hb=>by cases hb) hl h1 (ae _)
 simpa using this
theorem A0 {Y:List (List V)} {e:VE} {r:V} {t:Nat} {fr:Nat→V} (he:yB e=true) (hlt:ltL Y.length Y) (hr:r.lt (kx Y.length 0)) (hr2:nS Tryz.prog false (hdS [(t,r)] Y) r [.tmp t]) (h:fr t=r):rq Tryz.prog (kx Y.length 0) r Y [.tmp t] e ⟨fr,bxs Y,kx Y.length 0⟩:=by
 have:=Zd (P:=Tryz.prog) (Y:=Y) (ls:=[]) (rest:=[]) (k:=Y.length) (m:=0) (n:=0) (e:=e) (r:=r) (rs:=[.tmp t]) (fr:=fr) [(t,r)] he rfl hlt rfl rfl (fun b hb=>by cases hb) (by simpa using hr) (by simp[FL,h]) (by simpa using hr2)
 simpa using this
set_option maxHeartbeats 4000000 in
theorem A1 {Y:List (List V)} {f:V} {R:Tm→Prop} {p:Tm→Bool} (h:Ask G Y f R p) (l:List Tm) (hl:∀ t∈l,R t) (hm:l.length≤1000000000):FnB Tryz.prog G 95 [.c (tsC l),f] Y (i64 (xY p l)) Y:=by
 obtain⟨g,caps,rfl,hcl,hltY,hcf,hok⟩:=h
 have hcv:(V.clo (.func g) [] caps).lt (kx Y.length 0):=⟨fun x hx=>(by cases hx),hcl⟩
 have hcz:(V.clo (.func g) [] caps).fz=V.clo (.func g) [] caps:=rfl
 have key:FnB Tryz.prog G 95 [.c (tsC l),.clo (.func g) [] caps] (Y++[]) (i64 (xY p l)) (Y++[]):=by
  refine GZ (k:=Y.length) (m:=0) (rs:=[.tmp 4]) [1000016] mixed Tryz.func95 rfl rfl rfl rfl (by kernel_rfl) (by simp) rfl rfl rfl hltY rfl (fun b hb=>by cases hb) (fun x hx=>?_) ?_
  ·simp only[bw,eo,jT] at hx
   rcases hx with rfl | rfl
   ·trivial
   ·exact hcv
  simp only[wS,seval,tsC,ej]
  refine cZ (fun i:Nat=>hdS [(0,.c (.sl (l.map tmC))),(1,.clo (.func g) [] caps),(7,i64 l.length),(8,i64 i)] Y) (fun i=>l.length - i) (fun i=>i≤l.length∧∀ j (h:j<l.length),j<i→p l[j]=false) 0 ⟨aA _,fun j h h'=>absurd h' (Nat.not_lt_zero _)⟩ ?_ ?_
  ·exact OP hltY (by simp[V.lt];exact hcl) (by simp[FL,ar])
  rintro i ⟨hi,hno⟩ R hnorm hexit hret
  have hlen:Y.length=kx Y.length 0:=rfl
  simp only[pkA,seval]
  refine aZ (fun hlt=>?_) (fun hge=>?_)
  ·have hlt:i<l.length:=by simpa using hlt
   have hw:=fj (n:=(i:Int)+1) (k:=i+1) (by omega) (by omega)
   simp only[pkA,seval,hcz]
   refine dL dm rfl dc (by decide) (aM i) (c:=tmC l[i]) (by simp[hlt]) (b8 _) ?_
   simp only[pkA,seval,lw (b8 _)]
   refine yY rfl (hok _ (hl _ (aL hlt))) (by simp[V.fz,hcf]) hltY (fun _=>rfl) ?_
   simp only[pkA,seval]
   refine aZ (fun hy=>?_) (fun hn=>?_)
   ·simp only[pkA,seval]
    refine hret _ ?_
    simp only[pkA]
    rw[Ha hlt hy hno]
    exact A0 rfl hltY trivial (by simp[hdS,frs,fy,up]) (by simp[])
   ·simp only[pkA,seval]
    refine hnorm (i+1) _ ⟨hlt,fun j h hj=>?_⟩ (by omega) (OP hltY (by simp[V.lt];exact hcl) (by simp[FL,ar,hw]))
    rcases cx j i with h1 | h1
    ·exact hno j h h1
    ·have:j=i:=by omega
     subst this;exact hn
  ·have:i=l.length:=by simp at hge;omega
   subst this
   simp only[pkA]
   refine hexit _ _ ?_
   simp only[pkA,seval]
   rw[yX (fun j h=>hno j h h)]
   exact A0 rfl hltY trivial (by simp[hdS,frs,fy,up]) (by simp[])
 simpa using key
set_option maxHeartbeats 4000000 in
theorem vb {Y:List (List V)} {f:V} {R:Tm→Prop} {p:Tm→Bool} (h:Ask G Y f R p) (l:List Tm) (hl:∀ t∈l,R t) (hm:l.length≤1000000000):FnB Tryz.prog G 50 [.c (tsC l),f] Y (bo (l.any p)) Y:=by
 have hix:=A1 h l hl hm
 obtain⟨g,caps,rfl,hcl,hltY,hcf,hok⟩:=h
 have hcv:(V.clo (.func g) [] caps).lt (kx Y.length 0):=⟨fun x hx=>(by cases hx),hcl⟩
 have hcz:(V.clo (.func g) [] caps).fz=V.clo (.func g) [] caps:=rfl
 have key:FnB Tryz.prog G 50 [.c (tsC l),.clo (.func g) [] caps] (Y++[]) (bo (l.any p)) (Y++[]):=by
  refine GZ (k:=Y.length) (m:=0) (rs:=[.tmp 4]) [1000007] mixed Tryz.func50 rfl rfl rfl rfl (by kernel_rfl) (by simp) rfl rfl rfl hltY rfl (fun b hb=>by cases hb) (fun x hx=>?_) ?_
  ·simp only[bw,eo,jT] at hx
   rcases hx with rfl | rfl
   ·trivial
   ·exact hcv
  simp only[pkA,seval,tsC,ej,hcz]
  refine yY rfl hix (by simp[V.fz,tsC]) hltY (fun _=>rfl) ?_
  simp only[pkA,seval,OO]
  exact A0 rfl hltY trivial (by simp[hdS,frs,fy,up]) (by simp[])
 simpa using key
