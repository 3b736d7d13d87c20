/- Layer 16: open. -/
import Derived.Test.YtegbpjodbjhjeaaGreatDoorVlM5
import Derived.Test.YtegbpjodbjhjeaaGreatDoorVlCA
set_option linter.all false
namespace Go.Proofs.YtegbpjodbjhjeaaGreatDoor
open Go Go.Vl
open Kp (Pol Ty Ru Qu poC tyC ruC quC)
variable {G:Gl}
set_option maxRecDepth 10000
def UG:=jj @pkX (jj @pkA (jj @ptA @pkT))
def Dx:=jj @pkA (jj @ptA @pkT)
theorem Ys (t key:Tm) (kinds:List Int) (ht:bq t≤1000000000) (hk:bq key≤1000000000) (hn:kinds.length≤1000) (hl:t.kind∈kinds→∃ a b,t.l=[a,b]) :
 FnO Tryz.prog G 118 [.agg (tmC t),.agg (tmC key),.c (.sl (kinds.map fun k=>[cI k]))] [] (oP (jc t key kinds)) (rO (fun x=>.agg (tmC x)) (jc t key kinds)) []:=by
 refine E3 (rs:=[.cell 6 47]) (k:=0) [(tmC t).map .c,(tmC key).map .c,rO2 (fun x=>(tmC x).map .c) (jc t key kinds)] [3000000,2900001] mixed Tryz.func118 rfl rfl rfl rfl (by kernel_rfl) (by simp) (by cases jc t key kinds<;>rfl) rfl rfl rfl (ae _) rfl (by cases jc t key kinds<;>rfl) ?_
 simp only[UG,seval,ah,ai]
 have hC:(kinds.any fun e=>decide (t.kind=e))=decide (t.kind∈kinds):=by simp[List.any_eq,eq_comm]
 have hCk:=Kp.y8 (G:=G) kinds (by omega) t.kind
 rw[hC] at hCk
 have ia0:∀ (a b:Tm) K,K (.c (.rp (tmC a) 0))→cA Tryz.prog 33 (.c (tsC [a,b])) (i64 0) K:=fun a b K hK=>
  df du rfl dl (by decide) (jJ 0) (c:=tmC a) rfl (bG _) hK
 have ia1:∀ (a b:Tm) K,K (.c (.rp (tmC b) 0))→cA Tryz.prog 33 (.c (tsC [a,b])) (i64 1) K:=fun a b K hK=>
  df du rfl dl (by decide) (by decide) (c:=tmC b) rfl (bG _) hK
 by_cases fJ:t.kind∈kinds
 ·obtain⟨a,b,qn⟩:=hl fJ
  have hsa:bq a≤1000000000:=by
   obtain⟨k,n,l⟩:=t
   simp only[Tm.l] at qn
   subst qn
   simp only[bq,cF] at ht;omega
  have Jl:=uw (G:=G) a key hsa hk
  rw[cZ fJ] at hCk
  by_cases hab2:a=key
  ·have e:jc t key kinds=.ok b:=by simp[jc,fJ,qn,hab2]
   left
   refine ay rfl hCk (fun _=>rfl) ?_
   simp only[Dx,seval,ah,ai,qn]
   refine ia0 a b _ ?_
   simp only[Dx,seval,ai]
   refine ay rfl Jl (fun _=>rfl) ?_
   simp only[pkA,seval,ai,hab2,ai]
   refine ay rfl (ic 8) (fun _=>rfl) ?_
   simp only[UG,seval,ah,ai,qn,hab2,ai]
   refine ia1 a b _ ?_
   simp only[UG,seval,ah,ai,e,oP,oQ,rO,rO2]
   refine dP [(6,.bp 2 0)] rfl (by simp only[eQ,aN,aX,eM,jd,aC,aH];rfl) (by simp) (ae _) ⟨rfl,trivial⟩ ⟨rfl,rfl,rfl,trivial⟩ ?_
   rw[fh,j8 b]
   refine (pt dl rfl rfl (b:=2) (o:=0)).mpr ⟨rfl,?_⟩
   unfold ldA
   exact⟨bz 2,⟨rfl,rfl⟩,rfl⟩
  ·have e:jc t key kinds=.error 8:=by simp[jc,fJ,qn,hab2]
   right
   refine fY (l:=[_,_,_,_,_,_,_,_,_,_,_,_]) rfl (by kernel_rfl) ?_
   simp only[Dx,seval,e]
   refine ay rfl hCk (fun _=>rfl) ?_
   simp only[Dx,seval,qn]
   refine ia0 a b _ ?_
   simp only[Dx,seval]
   refine ay rfl Jl (fun _=>rfl) ?_
   simp only[pkA,seval,hab2,bK]
   exact MO rfl rfl (j9 8) rfl (cY (ae _) rfl (by simp) trivial)
 ·have e:jc t key kinds=.error 8:=by simp[jc,fJ]
  rw[cR fJ] at hCk
  right
  refine fY (l:=[_,_,_,_,_,_,_,_,_,_,_,_]) rfl (by kernel_rfl) ?_
  simp only[Dx,seval,e]
  refine ay rfl hCk (fun _=>rfl) ?_
  simp only[pkA,seval]
  exact MO rfl rfl (j9 8) rfl (cY (ae _) rfl (by simp) trivial)
open Kp (Pol Ty Ru Qu)
theorem cO {α β:Type} {x:Except Int α} {f:α→Except Int β} {y:β} (h:(x >>=f)=.ok y):∃ a,x=.ok a∧f a=.ok y:=by
 cases x with
 |error e=>cases h
 |ok a=>exact⟨a,rfl,h⟩
theorem gU {b:Bool} {e:Int} {u:Unit} (h:eH b e=.ok u):b=true:=by
 unfold eH at h
 split at h
 ·assumption
 ·cases h
theorem ig {α:Type} {l:List α} {k:Int} {x:α} (h:ofI l k=.ok x):x∈l:=by
 unfold ofI at h
 split at h
 ·rename_i y hy
  cases h
  obtain⟨i,_,hi,rfl⟩:=yz hy
  exact aF hi
 ·cases h
def gvS (s:Sy) (v:Tm):Sy:={ s with its:=s.its++[v] }
def hoS (s:Sy) (t:Int) (v:Tm):Sy:={ s with hs:=s.hs++[⟨t,v⟩] }
theorem lb {s s':Sy} {v:Tm} (h:gk s v=.ok s'):(s.its.length<100∧bq v≤100)∧s'=gvS s v:=by
 unfold gk at h
 split at h
 ·rename_i hc;cases h;exact⟨hc,rfl⟩
 ·cases h
theorem nE {s s':Sy} {t:Int} {v:Tm} (h:m7 s t v=.ok s'):(s.hs.length<100∧bq v≤100)∧s'=hoS s t v:=by
 unfold m7 at h
 split at h
 ·rename_i hc;cases h;exact⟨hc,rfl⟩
 ·cases h
structure SyOk (s:Sy):Prop where
 hn:s.hs.length≤100
 iN:s.its.length≤100
 on:s.os.length≤s.hs.length
 rn:s.rs.length≤s.hs.length
 hv:∀ h∈s.hs,bY h.va=true∧bq h.va≤100∧0≤h.ty∧h.ty≤2147483647
 iv:∀ t∈s.its,bY t=true∧bq t≤100
 ov:∀ o∈s.os,o∈s.hs
 rv:∀ t∈s.rs,bY t=true∧bq t≤100
 fr:0≤s.fresh∧s.fresh≤s.hs.length
theorem sok0:SyOk sy0:=⟨by decide,by decide,by decide,by decide,fun _ h=>(by cases h),fun _ h=>(by cases h),fun _ h=>(by cases h),fun _ h=>(by cases h),by decide⟩
theorem tI {t key y:Tm} {kinds:List Int} (hv:bY t=true) (hk:∀ k∈kinds,k=3∨k=4) (h:jc t key kinds=.ok y):∃ k n,k∈kinds∧t=.mk k n [key,y]:=by
 unfold jc at h
 split at h
 ·rename_i hc
  obtain⟨k,n,l⟩:=t
  simp only[Tm.kind,Tm.l] at hc h
  have hl:=(fw hv).2.2.1
  have h2:l.length=2:=by rcases hk k hc.1 with rfl | rfl<;>simp[gA] at hl<;>omega
  match l,h2 with
  |[a,b],_=>
   simp only[bJ,ao] at hc
   obtain⟨hc1,rfl⟩:=hc
   cases h
   exact⟨k,n,hc1,rfl⟩
 ·cases h
inductive Did (p:Pol) (s:Sy) (c:Cl):Nat→Sy→Prop
 |gen:inI c.t p.types.length=true→jE p c.t 1=true→s.hs.length<100→Did p s c 1 { mkM (hoS s c.t (.mk 2 s.fresh [])) c.t (.mk 2 s.fresh []) with fresh:=s.fresh+1 }
 |load {x:Tm}:x∈s.its→inI c.t p.types.length=true→eC x=true→s.hs.length<100∧bq x≤100→Did p s c 2 (hoS s c.t x)
 |expo {a:Hd}:a∈s.hs→jE p a.ty 4=true→s.its.length<100∧bq a.va≤100→Did p s c 3 (gvS s a.va)
 |encrypt {a:Hd} {x:Tm}:a∈s.hs→x∈s.its→s.its.length<100∧bq (iC a.va x)≤100→Did p s c 4 (gvS s (iC a.va x))
 |decrypt {a:Hd} {n:Int} {y:Tm}:a∈s.hs→.mk 3 n [a.va,y]∈s.its→s.its.length<100∧bq y≤100→Did p s c 5 (gvS s y)
 |mac {a:Hd} {x:Tm}:a∈s.hs→x∈s.its→s.its.length<100∧bq (.mk 6 0 [a.va,x])≤100→Did p s c 6 (gvS s (.mk 6 0 [a.va,x]))
 |wrap {a b:Hd}:a∈s.hs→b∈s.hs→mH p 1 a.ty b.ty=true→s.its.length<100∧bq (.mk 4 b.ty [a.va,b.va])≤100→Did p s c 7 (gvS s (.mk 4 b.ty [a.va,b.va]))
 |unwrap {a:Hd} {n:Int} {y:Tm}:a∈s.hs→.mk 4 n [a.va,y]∈s.its→mH p 2 a.ty n=true→s.hs.length<100∧bq y≤100→Did p s c 8 (hoS s n y)
 |rawWrap {a b:Hd}:a∈s.hs→b∈s.hs→mH p 3 a.ty b.ty=true→s.its.length<100∧bq (iC a.va b.va)≤100→Did p s c 9 (gvS s (iC a.va b.va))
 |rawUnwrap {a:Hd} {n:Int} {y:Tm}:a∈s.hs→.mk 3 n [a.va,y]∈s.its→inI c.t p.types.length=true→mH p 4 a.ty c.t=true→eC y=true→s.hs.length<100∧bq y≤100→
   Did p s c 10 (if knS s y=true then hoS s c.t y else { hoS s c.t y with rs:=s.rs++[y] })
 |derive {a:Hd}:a∈s.hs→inI c.t p.types.length=true→mH p 5 a.ty c.t=true→s.hs.length<100∧bq (.mk 5 c.t [a.va])≤100→
   Did p s c 11 (if knS s a.va=false∧orS s (.mk 5 c.t [a.va])<0 then mkM (hoS s c.t (.mk 5 c.t [a.va])) c.t (.mk 5 c.t [a.va]) else hoS s c.t (.mk 5 c.t [a.va]))
 |data:inI c.t 2147483648=true→s.its.length<100→Did p s c 12 (gvS s (.mk 1 c.t []))
 |hostSeal {a x:Tm}:a∈s.its→x∈s.its→eC a=true→s.its.length<100∧bq (iC a x)≤100→Did p s c 13 (gvS s (iC a x))
 |hostBox {a x:Tm}:a∈s.its→x∈s.its→inI c.t p.types.length=true→eC a=true→eC x=true→s.its.length<100∧bq (.mk 4 c.t [a,x])≤100→Did p s c 14 (gvS s (.mk 4 c.t [a,x]))
 |hostKdf {a:Tm}:a∈s.its→inI c.t p.types.length=true→eC a=true→s.its.length<100∧bq (.mk 5 c.t [a])≤100→Did p s c 15 (gvS s (.mk 5 c.t [a]))
 |hostOpen {a:Tm} {k n:Int} {y:Tm}:a∈s.its→k=3∨k=4→.mk k n [a,y]∈s.its→s.its.length<100∧bq y≤100→Did p s c 16 (gvS s y)
theorem aco {p:Pol} {s s':Sy} {c:Cl} (hS:SyOk s):∀ {n:Nat},doM p s c n=.ok s'→Did p s c n s':=by
 have k3:∀ k∈([3]:List Int),k=3∨k=4:=by simp
 have k4:∀ k∈([4]:List Int),k=3∨k=4:=by simp
 have k34:∀ k∈([3,4]:List Int),k=3∨k=4:=by simp
 intro n h
 unfold doM at h
 split at h
 ·obtain⟨_,h1,h⟩:=cO h
  obtain⟨_,h2,h⟩:=cO h
  obtain⟨s1,h3,h⟩:=cO h
  obtain⟨h4,rfl⟩:=nE h3
  cases h
  exact .gen (gU h1) (gU h2) h4.1
 ·obtain⟨x,h1,h⟩:=cO h
  obtain⟨_,h2,h⟩:=cO h
  obtain⟨_,h3,h⟩:=cO h
  obtain⟨_,h4,h⟩:=cO h
  obtain⟨h5,rfl⟩:=nE h
  exact .load (ig h1) (gU h2) (gU h3) h5
 ·obtain⟨a,h1,h⟩:=cO h
  obtain⟨_,h2,h⟩:=cO h
  obtain⟨h5,rfl⟩:=lb h
  exact .expo (ig h1) (gU h2) h5
 ·obtain⟨a,h1,h⟩:=cO h
  obtain⟨x,h2,h⟩:=cO h
  obtain⟨_,h3,h⟩:=cO h
  obtain⟨h5,rfl⟩:=lb h
  exact .encrypt (ig h1) (ig h2) h5
 ·obtain⟨a,h1,h⟩:=cO h
  obtain⟨x,h2,h⟩:=cO h
  obtain⟨_,h3,h⟩:=cO h
  obtain⟨y,h4,h⟩:=cO h
  obtain⟨h5,rfl⟩:=lb h
  have hx:=ig h2
  obtain⟨k,n,hk,rfl⟩:=tI (hS.iv x hx).1 k3 h4
  obtain rfl:=aP.1 hk
  exact .decrypt (ig h1) hx h5
 ·obtain⟨a,h1,h⟩:=cO h
  obtain⟨x,h2,h⟩:=cO h
  obtain⟨_,h3,h⟩:=cO h
  obtain⟨h5,rfl⟩:=lb h
  exact .mac (ig h1) (ig h2) h5
 ·obtain⟨a,h1,h⟩:=cO h
  obtain⟨x,h2,h⟩:=cO h
  obtain⟨_,h3,h⟩:=cO h
  obtain⟨h5,rfl⟩:=lb h
  exact .wrap (ig h1) (ig h2) (gU h3) h5
 ·obtain⟨a,h1,h⟩:=cO h
  obtain⟨x,h2,h⟩:=cO h
  obtain⟨y,h4,h⟩:=cO h
  obtain⟨_,h3,h⟩:=cO h
  have hx:=ig h2
  obtain⟨k,n,hk,rfl⟩:=tI (hS.iv x hx).1 k4 h4
  obtain rfl:=aP.1 hk
  obtain⟨h5,rfl⟩:=nE h
  exact .unwrap (ig h1) hx (gU h3) h5
 ·obtain⟨a,h1,h⟩:=cO h
  obtain⟨x,h2,h⟩:=cO h
  obtain⟨_,h3,h⟩:=cO h
  obtain⟨h5,rfl⟩:=lb h
  exact .rawWrap (ig h1) (ig h2) (gU h3) h5
 ·obtain⟨a,h1,h⟩:=cO h
  obtain⟨x,h2,h⟩:=cO h
  obtain⟨_,h3,h⟩:=cO h
  obtain⟨_,h4,h⟩:=cO h
  obtain⟨y,h5,h⟩:=cO h
  obtain⟨_,h6,h⟩:=cO h
  obtain⟨s1,h7,h⟩:=cO h
  have hx:=ig h2
  obtain⟨k,n,hk,rfl⟩:=tI (hS.iv x hx).1 k3 h5
  obtain rfl:=aP.1 hk
  obtain⟨h8,rfl⟩:=nE h7
  cases h
  exact .rawUnwrap (ig h1) hx (gU h3) (gU h4) (gU h6) h8
 ·obtain⟨a,h1,h⟩:=cO h
  obtain⟨_,h3,h⟩:=cO h
  obtain⟨_,h4,h⟩:=cO h
  obtain⟨s1,h7,h⟩:=cO h
  obtain⟨h8,rfl⟩:=nE h7
  cases h
  exact .derive (ig h1) (gU h3) (gU h4) h8
 ·obtain⟨_,h1,h⟩:=cO h
  obtain⟨h5,rfl⟩:=lb h
  exact .data (gU h1) h5.1
 ·obtain⟨a,h1,h⟩:=cO h
  obtain⟨x,h2,h⟩:=cO h
  obtain⟨_,h3,h⟩:=cO h
  obtain⟨h5,rfl⟩:=lb h
  exact .hostSeal (ig h1) (ig h2) (gU h3) h5
 ·obtain⟨a,h1,h⟩:=cO h
  obtain⟨x,h2,h⟩:=cO h
  obtain⟨_,h3,h⟩:=cO h
  obtain⟨_,h4,h⟩:=cO h
  obtain⟨_,h6,h⟩:=cO h
  obtain⟨h5,rfl⟩:=lb h
  exact .hostBox (ig h1) (ig h2) (gU h3) (gU h4) (gU h6) h5
 ·obtain⟨a,h1,h⟩:=cO h
  obtain⟨_,h3,h⟩:=cO h
  obtain⟨_,h4,h⟩:=cO h
  obtain⟨h5,rfl⟩:=lb h
  exact .hostKdf (ig h1) (gU h3) (gU h4) h5
 ·obtain⟨a,h1,h⟩:=cO h
  obtain⟨x,h2,h⟩:=cO h
  obtain⟨y,h4,h⟩:=cO h
  have hx:=ig h2
  obtain⟨h5,rfl⟩:=lb h
  obtain⟨k,n,hk,rfl⟩:=tI (hS.iv x hx).1 k34 h4
  exact .hostOpen (ig h1) (by simpa using hk) hx h5
 ·cases h
theorem Bw {p:Pol} {s s':Sy} {c:Cl} (hS:SyOk s) (h:bM p s c=.ok s'):Kp.gu p=true∧1≤c.kind∧c.kind≤16∧Did p s c c.kind.toNat s':=by
 unfold bM at h
 obtain⟨_,h1,h⟩:=cO h
 have:=gU h1
 simp only[aI,inI,bj] at this
 exact⟨this.2,by omega,by omega,aco hS h⟩
theorem MW {k n:Int} (h:inI k n=true):0≤k∧k<n:=by simpa[inI] using h
theorem FT {k n:Int} {a b:Tm} (hk:k=3∨k=4∨k=6) (hn:(k=4→0≤n∧n≤2147483647)∧(k≠4→n=0)) (ha:bY a=true) (hb:bY b=true):bY (.mk k n [a,b])=true:=by
 rcases hk with rfl | rfl | rfl
 ·have:=hn.2 (by decide);subst this;simp[bY,qx,ha,hb,gA]
 ·have:=hn.1 rfl;simp[bY,qx,ha,hb,gA,this.1,this.2]
 ·have:=hn.2 (by decide);subst this;simp[bY,qx,ha,hb,gA]
theorem UH {n:Int} {a:Tm} (hn:0≤n∧n≤2147483647) (ha:bY a=true):bY (.mk 5 n [a])=true:=by simp[bY,qx,ha,gA,hn.1,hn.2]
theorem MX {k n:Int} (hk:k=1∨k=2) (hn:0≤n∧n≤2147483647):bY (.mk k n [])=true:=by rcases hk with rfl | rfl<;>simp[bY,qx,gA,hn.1,hn.2]
theorem pE {k n:Int} {a b:Tm} (h:bY (.mk k n [a,b])=true):bY a=true∧bY b=true∧0≤n∧n≤2147483647:=by
 obtain⟨_,h2,_,h3⟩:=fw h
 exact⟨h3 a (by simp),h3 b (by simp),h2.1,h2.2.1⟩
theorem lc {s:Sy} {v:Tm} (hS:SyOk s) (hv:bY v=true) (hl:s.its.length<100∧bq v≤100):SyOk (gvS s v) where
 hn:=hS.hn
 iN:=by simp[gvS];omega
 on:=hS.on
 rn:=hS.rn
 hv:=hS.hv
 iv:=fun t ht=>by
  rcases aZ.1 ht with h | h
  ·exact hS.iv t h
  ·rw[aP] at h;subst h;exact⟨hv,hl.2⟩
 ov:=hS.ov
 rv:=hS.rv
 fr:=hS.fr
theorem xe {s:Sy} {t:Int} {v:Tm} (hS:SyOk s) (hv:bY v=true) (hl:s.hs.length<100∧bq v≤100) (ht:0≤t∧t≤2147483647):SyOk (hoS s t v) where
 hn:=by simp[hoS];omega
 iN:=hS.iN
 on:=by have:=hS.on;simp[hoS];omega
 rn:=by have:=hS.rn;simp[hoS];omega
 hv:=fun h hh=>by
  rcases aZ.1 hh with h1 | h1
  ·exact hS.hv h h1
  ·rw[aP] at h1;subst h1;exact⟨hv,hl.2,ht.1,ht.2⟩
 iv:=hS.iv
 ov:=fun o ho=>eu _ (hS.ov o ho)
 rv:=hS.rv
 fr:=by have:=hS.fr;simp[hoS];omega
theorem IB {s:Sy} {t:Int} {v:Tm} (hS:SyOk s) (hv:bY v=true) (hl:s.hs.length<100∧bq v≤100) (ht:0≤t∧t≤2147483647):SyOk (mkM (hoS s t v) t v):=
 { xe hS hv hl ht with
  on:=by have:=hS.on;simp[hoS,mkM];omega
  ov:=fun o ho=>by
   rcases aZ.1 ho with h1 | h1
   ·exact eu _ (hS.ov o h1)
   ·rw[aP] at h1;subst h1;exact List.mem_append_right _ (aP.2 rfl) }
theorem Yt {p:Pol} {s s':Sy} {c:Cl} {n:Nat} (hS:SyOk s) (hp:p.types.length≤8) (h:Did p s c n s'):SyOk s':=by
 have tt:inI c.t p.types.length=true→0≤c.t∧c.t≤2147483647:=fun h=>by have:=MW h;omega
 have sl:∀ {a b:Tm},bY a=true→bY b=true→bY (iC a b)=true:=fun ha hb=>FT (.inl rfl) ⟨fun h=>(by cases h),fun _=>rfl⟩ ha hb
 have fr:=hS.fr
 have hn:=hS.hn
 cases h with
 |gen h1 h2 h3=>
  have hk:bY (.mk 2 s.fresh [])=true:=MX (.inr rfl) ⟨fr.1,by omega⟩
  have h:=IB hS hk ⟨h3,by simp[bq,cF]⟩ (tt h1)
  exact { h with fr:=by have:=hS.fr;simp[hoS,mkM];omega }
 |load h1 h2 h3 h4=>exact xe hS (hS.iv _ h1).1 h4 (tt h2)
 |expo h1 h2 h3=>exact lc hS (hS.hv _ h1).1 h3
 |encrypt h1 h2 h3=>exact lc hS (sl (hS.hv _ h1).1 (hS.iv _ h2).1) h3
 |decrypt h1 h2 h3=>exact lc hS (pE (hS.iv _ h2).1).2.1 h3
 |mac h1 h2 h3=>exact lc hS (FT (.inr (.inr rfl)) ⟨fun h=>(by cases h),fun _=>rfl⟩ (hS.hv _ h1).1 (hS.iv _ h2).1) h3
 |wrap h1 h2 h3 h4=>exact lc hS (FT (.inr (.inl rfl)) ⟨fun _=>(hS.hv _ h2).2.2,fun h=>absurd rfl h⟩ (hS.hv _ h1).1 (hS.hv _ h2).1) h4
 |unwrap h1 h2 h3 h4=>have h5:=pE (hS.iv _ h2).1;exact xe hS h5.2.1 h4 h5.2.2
 |rawWrap h1 h2 h3 h4=>exact lc hS (sl (hS.hv _ h1).1 (hS.hv _ h2).1) h4
 |rawUnwrap h1 h2 h3 h4 h5 h6=>
  have hv:=(pE (hS.iv _ h2).1).2.1
  have h:=xe hS hv h6 (tt h3)
  split
  ·exact h
  ·exact { h with
    rn:=by have:=hS.rn;simp[hoS];omega
    rv:=fun t ht=>by
     rcases aZ.1 ht with h1 | h1
     ·exact hS.rv t h1
     ·rw[aP] at h1;subst h1;exact⟨hv,h6.2⟩ }
 |derive h1 h2 h3 h4=>
  have hv:=UH (tt h2) (hS.hv _ h1).1
  split
  ·exact IB hS hv h4 (tt h2)
  ·exact xe hS hv h4 (tt h2)
 |data h1 h2=>exact lc hS (MX (.inl rfl) (by have:=MW h1;omega)) ⟨h2,by simp[bq,cF]⟩
 |hostSeal h1 h2 h3 h4=>exact lc hS (sl (hS.iv _ h1).1 (hS.iv _ h2).1) h4
 |hostBox h1 h2 h3 h4 h5 h6=>exact lc hS (FT (.inr (.inl rfl)) ⟨fun _=>tt h3,fun h=>absurd rfl h⟩ (hS.iv _ h1).1 (hS.iv _ h2).1) h6
 |hostKdf h1 h2 h3 h4=>exact lc hS (UH (tt h2) (hS.iv _ h1).1) h4
 |hostOpen h1 h2 h3 h4=>exact lc hS (pE (hS.iv _ h3).1).2.1 h4
theorem qO {p:Pol} {s s':Sy} {c:Cl} (hS:SyOk s) (hp:p.types.length≤8) (h:bM p s c=.ok s'):SyOk s':=Yt hS hp (Bw hS h).2.2.2
theorem oU {p:Pol} (hp:p.types.length≤8):∀ (l:List Cl) (s:Sy) (n:Nat),SyOk s→SyOk (ji p s n l).1
 |[],_,_,h=>h
 |c::l,s,n,h=>by
  unfold ji
  split
  ·rename_i s' hs;exact oU hp l s' (n+1) (qO h hp hs)
  ·exact h
theorem yB {p:Pol} (hp:p.types.length≤8) {Q:Sy→Prop} (hq:∀ s s' c n,SyOk s→Q s→Kp.gu p=true→Did p s c n s'→Q s'):∀ (l:List Cl) (s:Sy) (n:Nat),SyOk s→Q s→Q (ji p s n l).1
 |[],_,_,_,h=>h
 |c::l,s,n,hS,h=>by
  unfold ji
  split
  ·rename_i s' hs
   have hd:=Bw hS hs
   exact yB hp hq l s' (n+1) (qO hS hp hs) (hq s s' c _ hS h hd.1 hd.2.2.2)
  ·exact h
