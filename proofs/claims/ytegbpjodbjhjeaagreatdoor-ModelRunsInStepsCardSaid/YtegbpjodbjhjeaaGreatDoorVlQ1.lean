/- Layer 16: open. -/
import Derived.Test.YtegbpjodbjhjeaaGreatDoorVlM5
import Derived.Test.YtegbpjodbjhjeaaGreatDoorVlCA
set_option linter.all false
namespace Go.Proofs.YtegbpjodbjhjeaaGreatDoor
open Go Go.Vl
open Kp (Pol Ty Ru Qu poC tyC ruC quC)
variable {G:Gl}
set_option maxRecDepth 10000
def Pv:=jj @pkX (jj @pkA (jj @ptA @pkT))
def zd:=jj @pkA (jj @ptA @pkT)
theorem Uj (t key:Tm) (kinds:List Int) (ht:bu t≤1000000000) (hk:bu key≤1000000000) (hn:kinds.length≤1000) (hl:t.kind∈kinds→∃ a b,t.l=[a,b]) :
 FnO Tryz.prog G 118 [.agg (tmC t),.agg (tmC key),.c (.sl (kinds.map fun k=>[cI k]))] [] (oP (g8 t key kinds)) (rO (fun x=>.agg (tmC x)) (g8 t key kinds)) []:=by
 refine AK (rs:=[.cell 6 47]) (k:=0) [(tmC t).map .c,(tmC key).map .c,rO2 (fun x=>(tmC x).map .c) (g8 t key kinds)] [3000000,2900001] mixed Tryz.func118 rfl rfl rfl rfl (by kernel_rfl) (by simp) (by cases g8 t key kinds<;>rfl) rfl rfl rfl (ae _) rfl (by cases g8 t key kinds<;>rfl) ?_
 simp only[Pv,seval,ah,ai]
 have hC:(kinds.any fun e=>decide (t.kind=e))=decide (t.kind∈kinds):=by simp[List.any_eq,eq_comm]
 have hCk:=Kp.uO (G:=G) kinds (by omega) t.kind
 rw[hC] at hCk
 have ia0:∀ (a b:Tm) K,K (.c (.rp (tmC a) 0))→cw Tryz.prog 33 (.c (tsC [a,b])) (i64 0) K:=fun a b K hK=>
  dL dm rfl dc (by decide) (Int.le_refl 0) (c:=tmC a) rfl (b8 _) hK
 have ia1:∀ (a b:Tm) K,K (.c (.rp (tmC b) 0))→cw Tryz.prog 33 (.c (tsC [a,b])) (i64 1) K:=fun a b K hK=>
  dL dm rfl dc (by decide) (by decide) (c:=tmC b) rfl (b8 _) hK
 by_cases hin:t.kind∈kinds
 ·obtain⟨a,b,hab⟩:=hl hin
  have hsa:bu a≤1000000000:=by
   obtain⟨k,n,l⟩:=t
   simp only[Tm.l] at hab
   subst hab
   simp only[bu,cH] at ht;omega
  have hsm:=qG (G:=G) a key hsa hk
  rw[eI hin] at hCk
  by_cases hab2:a=key
  ·have e:g8 t key kinds=.ok b:=by simp[g8,hin,hab,hab2]
   left
   refine aD rfl hCk (fun _=>rfl) ?_
   simp only[zd,seval,ah,ai,hab]
   refine ia0 a b _ ?_
   simp only[zd,seval,ai]
   refine aD rfl hsm (fun _=>rfl) ?_
   simp only[pkA,seval,ai,hab2,ai]
   refine aD rfl (fW 8) (fun _=>rfl) ?_
   simp only[Pv,seval,ah,ai,hab,hab2,ai]
   refine ia1 a b _ ?_
   simp only[Pv,seval,ah,ai,e,oP,oQ,rO,rO2]
   refine dj [(6,.bp 2 0)] rfl (by simp only[fC,bh,bq,hZ,iU,aC,aJ];rfl) (by simp) (ae _) ⟨rfl,trivial⟩ ⟨rfl,rfl,rfl,trivial⟩ ?_
   rw[eE,gA b]
   refine (k6 dc rfl rfl (b:=2) (o:=0)).mpr ⟨rfl,?_⟩
   unfold ldA
   exact⟨bn 2,⟨rfl,rfl⟩,rfl⟩
  ·have e:g8 t key kinds=.error 8:=by simp[g8,hin,hab,hab2]
   right
   refine fk (l:=[_,_,_,_,_,_,_,_,_,_,_,_]) rfl (by kernel_rfl) ?_
   simp only[zd,seval,e]
   refine aD rfl hCk (fun _=>rfl) ?_
   simp only[zd,seval,hab]
   refine ia0 a b _ ?_
   simp only[zd,seval]
   refine aD rfl hsm (fun _=>rfl) ?_
   simp only[pkA,seval,hab2,bE]
   exact Hv rfl rfl (jf 8) rfl (cG (ae _) rfl (by simp) trivial)
 ·have e:g8 t key kinds=.error 8:=by simp[g8,hin]
  rw[en hin] at hCk
  right
  refine fk (l:=[_,_,_,_,_,_,_,_,_,_,_,_]) rfl (by kernel_rfl) ?_
  simp only[zd,seval,e]
  refine aD rfl hCk (fun _=>rfl) ?_
  simp only[pkA,seval]
  exact Hv rfl rfl (jf 8) rfl (cG (ae _) rfl (by simp) trivial)
open Kp (Pol Ty Ru Qu)
theorem cu {α β:Type} {x:Except Int α} {f:α→Except Int β} {y:β} (h:(x >>=f)=.ok y):∃ a,x=.ok a∧f a=.ok y:=by
 cases x with
 |error e=>cases h
 |ok a=>exact⟨a,rfl,h⟩
theorem fL {b:Bool} {e:Int} {u:Unit} (h:dR b e=.ok u):b=true:=by
 unfold dR at h
 split at h
 ·assumption
 ·cases h
theorem fX {α:Type} {l:List α} {k:Int} {x:α} (h:ofI l k=.ok x):x∈l:=by
 unfold ofI at h
 split at h
 ·rename_i y hy
  cases h
  obtain⟨i,_,hi,rfl⟩:=y9 hy
  exact aL hi
 ·cases h
def gvS (s:Sy) (v:Tm):Sy:={ s with its:=s.its++[v] }
def hoS (s:Sy) (t:Int) (v:Tm):Sy:={ s with hs:=s.hs++[⟨t,v⟩] }
theorem jQ {s s':Sy} {v:Tm} (h:ft s v=.ok s'):(s.its.length<100∧bu v≤100)∧s'=gvS s v:=by
 unfold ft at h
 split at h
 ·rename_i hc;cases h;exact⟨hc,rfl⟩
 ·cases h
theorem lS {s s':Sy} {t:Int} {v:Tm} (h:ll s t v=.ok s'):(s.hs.length<100∧bu v≤100)∧s'=hoS s t v:=by
 unfold ll at h
 split at h
 ·rename_i hc;cases h;exact⟨hc,rfl⟩
 ·cases h
structure SyOk (s:Sy):Prop where
 hn:s.hs.length≤100
 iN:s.its.length≤100
 on:s.os.length≤s.hs.length
 rn:s.rs.length≤s.hs.length
 hv:∀ h∈s.hs,bR h.va=true∧bu h.va≤100∧0≤h.ty∧h.ty≤2147483647
 iv:∀ t∈s.its,bR t=true∧bu t≤100
 ov:∀ o∈s.os,o∈s.hs
 rv:∀ t∈s.rs,bR t=true∧bu t≤100
 fr:0≤s.fresh∧s.fresh≤s.hs.length
theorem Uk:SyOk sy0:=⟨by decide,by decide,by decide,by decide,fun _ h=>(by cases h),fun _ h=>(by cases h),fun _ h=>(by cases h),fun _ h=>(by cases h),by decide⟩
theorem qg {t key y:Tm} {kinds:List Int} (hv:bR t=true) (hk:∀ k∈kinds,k=3∨k=4) (h:g8 t key kinds=.ok y):∃ k n,k∈kinds∧t=.mk k n [key,y]:=by
 unfold g8 at h
 split at h
 ·rename_i hc
  obtain⟨k,n,l⟩:=t
  simp only[Tm.kind,Tm.l] at hc h
  have hl:=(eR hv).2.2.1
  have h2:l.length=2:=by rcases hk k hc.1 with rfl | rfl<;>simp[fD] at hl<;>omega
  match l,h2 with
  |[a,b],_=>
   simp only[bD,am] at hc
   obtain⟨hc1,rfl⟩:=hc
   cases h
   exact⟨k,n,hc1,rfl⟩
 ·cases h
inductive Did (p:Pol) (s:Sy) (c:Cl):Nat→Sy→Prop
 |gen:inI c.t p.types.length=true→j9 p c.t 1=true→s.hs.length<100→Did p s c 1 { mkM (hoS s c.t (.mk 2 s.fresh [])) c.t (.mk 2 s.fresh []) with fresh:=s.fresh+1 }
 |load {x:Tm}:x∈s.its→inI c.t p.types.length=true→ey x=true→s.hs.length<100∧bu x≤100→Did p s c 2 (hoS s c.t x)
 |expo {a:Hd}:a∈s.hs→j9 p a.ty 4=true→s.its.length<100∧bu a.va≤100→Did p s c 3 (gvS s a.va)
 |encrypt {a:Hd} {x:Tm}:a∈s.hs→x∈s.its→s.its.length<100∧bu (gQ a.va x)≤100→Did p s c 4 (gvS s (gQ a.va x))
 |decrypt {a:Hd} {n:Int} {y:Tm}:a∈s.hs→.mk 3 n [a.va,y]∈s.its→s.its.length<100∧bu y≤100→Did p s c 5 (gvS s y)
 |mac {a:Hd} {x:Tm}:a∈s.hs→x∈s.its→s.its.length<100∧bu (.mk 6 0 [a.va,x])≤100→Did p s c 6 (gvS s (.mk 6 0 [a.va,x]))
 |wrap {a b:Hd}:a∈s.hs→b∈s.hs→nA p 1 a.ty b.ty=true→s.its.length<100∧bu (.mk 4 b.ty [a.va,b.va])≤100→Did p s c 7 (gvS s (.mk 4 b.ty [a.va,b.va]))
 |unwrap {a:Hd} {n:Int} {y:Tm}:a∈s.hs→.mk 4 n [a.va,y]∈s.its→nA p 2 a.ty n=true→s.hs.length<100∧bu y≤100→Did p s c 8 (hoS s n y)
 |rawWrap {a b:Hd}:a∈s.hs→b∈s.hs→nA p 3 a.ty b.ty=true→s.its.length<100∧bu (gQ a.va b.va)≤100→Did p s c 9 (gvS s (gQ a.va b.va))
 |rawUnwrap {a:Hd} {n:Int} {y:Tm}:a∈s.hs→.mk 3 n [a.va,y]∈s.its→inI c.t p.types.length=true→nA p 4 a.ty c.t=true→ey y=true→s.hs.length<100∧bu y≤100→
   Did p s c 10 (if knS s y=true then hoS s c.t y else { hoS s c.t y with rs:=s.rs++[y] })
 |derive {a:Hd}:a∈s.hs→inI c.t p.types.length=true→nA p 5 a.ty c.t=true→s.hs.length<100∧bu (.mk 5 c.t [a.va])≤100→
   Did p s c 11 (if knS s a.va=false∧orS s (.mk 5 c.t [a.va])<0 then mkM (hoS s c.t (.mk 5 c.t [a.va])) c.t (.mk 5 c.t [a.va]) else hoS s c.t (.mk 5 c.t [a.va]))
 |data:inI c.t 2147483648=true→s.its.length<100→Did p s c 12 (gvS s (.mk 1 c.t []))
 |hostSeal {a x:Tm}:a∈s.its→x∈s.its→ey a=true→s.its.length<100∧bu (gQ a x)≤100→Did p s c 13 (gvS s (gQ a x))
 |hostBox {a x:Tm}:a∈s.its→x∈s.its→inI c.t p.types.length=true→ey a=true→ey x=true→s.its.length<100∧bu (.mk 4 c.t [a,x])≤100→Did p s c 14 (gvS s (.mk 4 c.t [a,x]))
 |hostKdf {a:Tm}:a∈s.its→inI c.t p.types.length=true→ey a=true→s.its.length<100∧bu (.mk 5 c.t [a])≤100→Did p s c 15 (gvS s (.mk 5 c.t [a]))
 |hostOpen {a:Tm} {k n:Int} {y:Tm}:a∈s.its→k=3∨k=4→.mk k n [a,y]∈s.its→s.its.length<100∧bu y≤100→Did p s c 16 (gvS s y)
theorem Yf {p:Pol} {s s':Sy} {c:Cl} (hS:SyOk s):∀ {n:Nat},doM p s c n=.ok s'→Did p s c n s':=by
 have k3:∀ k∈([3]:List Int),k=3∨k=4:=by simp
 have k4:∀ k∈([4]:List Int),k=3∨k=4:=by simp
 have k34:∀ k∈([3,4]:List Int),k=3∨k=4:=by simp
 intro n h
 unfold doM at h
 split at h
 ·obtain⟨_,h1,h⟩:=cu h
  obtain⟨_,h2,h⟩:=cu h
  obtain⟨s1,h3,h⟩:=cu h
  obtain⟨h4,rfl⟩:=lS h3
  cases h
  exact .gen (fL h1) (fL h2) h4.1
 ·obtain⟨x,h1,h⟩:=cu h
  obtain⟨_,h2,h⟩:=cu h
  obtain⟨_,h3,h⟩:=cu h
  obtain⟨_,h4,h⟩:=cu h
  obtain⟨h5,rfl⟩:=lS h
  exact .load (fX h1) (fL h2) (fL h3) h5
 ·obtain⟨a,h1,h⟩:=cu h
  obtain⟨_,h2,h⟩:=cu h
  obtain⟨h5,rfl⟩:=jQ h
  exact .expo (fX h1) (fL h2) h5
 ·obtain⟨a,h1,h⟩:=cu h
  obtain⟨x,h2,h⟩:=cu h
  obtain⟨_,h3,h⟩:=cu h
  obtain⟨h5,rfl⟩:=jQ h
  exact .encrypt (fX h1) (fX h2) h5
 ·obtain⟨a,h1,h⟩:=cu h
  obtain⟨x,h2,h⟩:=cu h
  obtain⟨_,h3,h⟩:=cu h
  obtain⟨y,h4,h⟩:=cu h
  obtain⟨h5,rfl⟩:=jQ h
  have hx:=fX h2
  obtain⟨k,n,hk,rfl⟩:=qg (hS.iv x hx).1 k3 h4
  obtain rfl:=a8.1 hk
  exact .decrypt (fX h1) hx h5
 ·obtain⟨a,h1,h⟩:=cu h
  obtain⟨x,h2,h⟩:=cu h
  obtain⟨_,h3,h⟩:=cu h
  obtain⟨h5,rfl⟩:=jQ h
  exact .mac (fX h1) (fX h2) h5
 ·obtain⟨a,h1,h⟩:=cu h
  obtain⟨x,h2,h⟩:=cu h
  obtain⟨_,h3,h⟩:=cu h
  obtain⟨h5,rfl⟩:=jQ h
  exact .wrap (fX h1) (fX h2) (fL h3) h5
 ·obtain⟨a,h1,h⟩:=cu h
  obtain⟨x,h2,h⟩:=cu h
  obtain⟨y,h4,h⟩:=cu h
  obtain⟨_,h3,h⟩:=cu h
  have hx:=fX h2
  obtain⟨k,n,hk,rfl⟩:=qg (hS.iv x hx).1 k4 h4
  obtain rfl:=a8.1 hk
  obtain⟨h5,rfl⟩:=lS h
  exact .unwrap (fX h1) hx (fL h3) h5
 ·obtain⟨a,h1,h⟩:=cu h
  obtain⟨x,h2,h⟩:=cu h
  obtain⟨_,h3,h⟩:=cu h
  obtain⟨h5,rfl⟩:=jQ h
  exact .rawWrap (fX h1) (fX h2) (fL h3) h5
 ·obtain⟨a,h1,h⟩:=cu h
  obtain⟨x,h2,h⟩:=cu h
  obtain⟨_,h3,h⟩:=cu h
  obtain⟨_,h4,h⟩:=cu h
  obtain⟨y,h5,h⟩:=cu h
  obtain⟨_,h6,h⟩:=cu h
  obtain⟨s1,h7,h⟩:=cu h
  have hx:=fX h2
  obtain⟨k,n,hk,rfl⟩:=qg (hS.iv x hx).1 k3 h5
  obtain rfl:=a8.1 hk
  obtain⟨h8,rfl⟩:=lS h7
  cases h
  exact .rawUnwrap (fX h1) hx (fL h3) (fL h4) (fL h6) h8
 ·obtain⟨a,h1,h⟩:=cu h
  obtain⟨_,h3,h⟩:=cu h
  obtain⟨_,h4,h⟩:=cu h
  obtain⟨s1,h7,h⟩:=cu h
  obtain⟨h8,rfl⟩:=lS h7
  cases h
  exact .derive (fX h1) (fL h3) (fL h4) h8
 ·obtain⟨_,h1,h⟩:=cu h
  obtain⟨h5,rfl⟩:=jQ h
  exact .data (fL h1) h5.1
 ·obtain⟨a,h1,h⟩:=cu h
  obtain⟨x,h2,h⟩:=cu h
  obtain⟨_,h3,h⟩:=cu h
  obtain⟨h5,rfl⟩:=jQ h
  exact .hostSeal (fX h1) (fX h2) (fL h3) h5
 ·obtain⟨a,h1,h⟩:=cu h
  obtain⟨x,h2,h⟩:=cu h
  obtain⟨_,h3,h⟩:=cu h
  obtain⟨_,h4,h⟩:=cu h
  obtain⟨_,h6,h⟩:=cu h
  obtain⟨h5,rfl⟩:=jQ h
  exact .hostBox (fX h1) (fX h2) (fL h3) (fL h4) (fL h6) h5
 ·obtain⟨a,h1,h⟩:=cu h
  obtain⟨_,h3,h⟩:=cu h
  obtain⟨_,h4,h⟩:=cu h
  obtain⟨h5,rfl⟩:=jQ h
  exact .hostKdf (fX h1) (fL h3) (fL h4) h5
 ·obtain⟨a,h1,h⟩:=cu h
  obtain⟨x,h2,h⟩:=cu h
  obtain⟨y,h4,h⟩:=cu h
  have hx:=fX h2
  obtain⟨h5,rfl⟩:=jQ h
  obtain⟨k,n,hk,rfl⟩:=qg (hS.iv x hx).1 k34 h4
  exact .hostOpen (fX h1) (by simpa using hk) hx h5
 ·cases h
theorem Pw {p:Pol} {s s':Sy} {c:Cl} (hS:SyOk s) (h:bG p s c=.ok s'):Kp.gB p=true∧1≤c.kind∧c.kind≤16∧Did p s c c.kind.toNat s':=by
 unfold bG at h
 obtain⟨_,h1,h⟩:=cu h
 have:=fL h1
 simp only[aF,inI,bi] at this
 exact⟨this.2,by omega,by omega,Yf hS h⟩
theorem Px {k n:Int} (h:inI k n=true):0≤k∧k<n:=by simpa[inI] using h
theorem Bn {k n:Int} {a b:Tm} (hk:k=3∨k=4∨k=6) (hn:(k=4→0≤n∧n≤2147483647)∧(k≠4→n=0)) (ha:bR a=true) (hb:bR b=true):bR (.mk k n [a,b])=true:=by
 rcases hk with rfl | rfl | rfl
 ·have:=hn.2 (by decide);subst this;simp[bR,nW,ha,hb,fD]
 ·have:=hn.1 rfl;simp[bR,nW,ha,hb,fD,this.1,this.2]
 ·have:=hn.2 (by decide);subst this;simp[bR,nW,ha,hb,fD]
theorem Py {n:Int} {a:Tm} (hn:0≤n∧n≤2147483647) (ha:bR a=true):bR (.mk 5 n [a])=true:=by simp[bR,nW,ha,fD,hn.1,hn.2]
theorem HD {k n:Int} (hk:k=1∨k=2) (hn:0≤n∧n≤2147483647):bR (.mk k n [])=true:=by rcases hk with rfl | rfl<;>simp[bR,nW,fD,hn.1,hn.2]
theorem nk {k n:Int} {a b:Tm} (h:bR (.mk k n [a,b])=true):bR a=true∧bR b=true∧0≤n∧n≤2147483647:=by
 obtain⟨_,h2,_,h3⟩:=eR h
 exact⟨h3 a (by simp),h3 b (by simp),h2.1,h2.2.1⟩
theorem jR {s:Sy} {v:Tm} (hS:SyOk s) (hv:bR v=true) (hl:s.its.length<100∧bu v≤100):SyOk (gvS s v) where
 hn:=hS.hn
 iN:=by simp[gvS];omega
 on:=hS.on
 rn:=hS.rn
 hv:=hS.hv
 iv:=fun t ht=>by
  rcases bf.1 ht with h | h
  ·exact hS.iv t h
  ·rw[a8] at h;subst h;exact⟨hv,hl.2⟩
 ov:=hS.ov
 rv:=hS.rv
 fr:=hS.fr
theorem sW {s:Sy} {t:Int} {v:Tm} (hS:SyOk s) (hv:bR v=true) (hl:s.hs.length<100∧bu v≤100) (ht:0≤t∧t≤2147483647):SyOk (hoS s t v) where
 hn:=by simp[hoS];omega
 iN:=hS.iN
 on:=by have:=hS.on;simp[hoS];omega
 rn:=by have:=hS.rn;simp[hoS];omega
 hv:=fun h hh=>by
  rcases bf.1 hh with h1 | h1
  ·exact hS.hv h h1
  ·rw[a8] at h1;subst h1;exact⟨hv,hl.2,ht.1,ht.2⟩
 iv:=hS.iv
 ov:=fun o ho=>eH _ (hS.ov o ho)
 rv:=hS.rv
 fr:=by have:=hS.fr;simp[hoS];omega
theorem DT {s:Sy} {t:Int} {v:Tm} (hS:SyOk s) (hv:bR v=true) (hl:s.hs.length<100∧bu v≤100) (ht:0≤t∧t≤2147483647):SyOk (mkM (hoS s t v) t v):=
 { sW hS hv hl ht with
  on:=by have:=hS.on;simp[hoS,mkM];omega
  ov:=fun o ho=>by
   rcases bf.1 ho with h1 | h1
   ·exact eH _ (hS.ov o h1)
   ·rw[a8] at h1;subst h1;exact List.mem_append_right _ (a8.2 rfl) }
theorem Ul {p:Pol} {s s':Sy} {c:Cl} {n:Nat} (hS:SyOk s) (hp:p.types.length≤8) (h:Did p s c n s'):SyOk s':=by
 have tt:inI c.t p.types.length=true→0≤c.t∧c.t≤2147483647:=fun h=>by have:=Px h;omega
 have sl:∀ {a b:Tm},bR a=true→bR b=true→bR (gQ a b)=true:=fun ha hb=>Bn (.inl rfl) ⟨fun h=>(by cases h),fun _=>rfl⟩ ha hb
 have fr:=hS.fr
 have hn:=hS.hn
 cases h with
 |gen h1 h2 h3=>
  have hk:bR (.mk 2 s.fresh [])=true:=HD (.inr rfl) ⟨fr.1,by omega⟩
  have h:=DT hS hk ⟨h3,by simp[bu,cH]⟩ (tt h1)
  exact { h with fr:=by have:=hS.fr;simp[hoS,mkM];omega }
 |load h1 h2 h3 h4=>exact sW hS (hS.iv _ h1).1 h4 (tt h2)
 |expo h1 h2 h3=>exact jR hS (hS.hv _ h1).1 h3
 |encrypt h1 h2 h3=>exact jR hS (sl (hS.hv _ h1).1 (hS.iv _ h2).1) h3
 |decrypt h1 h2 h3=>exact jR hS (nk (hS.iv _ h2).1).2.1 h3
 |mac h1 h2 h3=>exact jR hS (Bn (.inr (.inr rfl)) ⟨fun h=>(by cases h),fun _=>rfl⟩ (hS.hv _ h1).1 (hS.iv _ h2).1) h3
 |wrap h1 h2 h3 h4=>exact jR hS (Bn (.inr (.inl rfl)) ⟨fun _=>(hS.hv _ h2).2.2,fun h=>absurd rfl h⟩ (hS.hv _ h1).1 (hS.hv _ h2).1) h4
 |unwrap h1 h2 h3 h4=>have h5:=nk (hS.iv _ h2).1;exact sW hS h5.2.1 h4 h5.2.2
 |rawWrap h1 h2 h3 h4=>exact jR hS (sl (hS.hv _ h1).1 (hS.hv _ h2).1) h4
 |rawUnwrap h1 h2 h3 h4 h5 h6=>
  have hv:=(nk (hS.iv _ h2).1).2.1
  have h:=sW hS hv h6 (tt h3)
  split
  ·exact h
  ·exact { h with
    rn:=by have:=hS.rn;simp[hoS];omega
    rv:=fun t ht=>by
     rcases bf.1 ht with h1 | h1
     ·exact hS.rv t h1
     ·rw[a8] at h1;subst h1;exact⟨hv,h6.2⟩ }
 |derive h1 h2 h3 h4=>
  have hv:=Py (tt h2) (hS.hv _ h1).1
  split
  ·exact DT hS hv h4 (tt h2)
  ·exact sW hS hv h4 (tt h2)
 |data h1 h2=>exact jR hS (HD (.inl rfl) (by have:=Px h1;omega)) ⟨h2,by simp[bu,cH]⟩
 |hostSeal h1 h2 h3 h4=>exact jR hS (sl (hS.iv _ h1).1 (hS.iv _ h2).1) h4
 |hostBox h1 h2 h3 h4 h5 h6=>exact jR hS (Bn (.inr (.inl rfl)) ⟨fun _=>tt h3,fun h=>absurd rfl h⟩ (hS.iv _ h1).1 (hS.iv _ h2).1) h6
 |hostKdf h1 h2 h3 h4=>exact jR hS (Py (tt h2) (hS.iv _ h1).1) h4
 |hostOpen h1 h2 h3 h4=>exact jR hS (nk (hS.iv _ h3).1).2.1 h4
theorem sX {p:Pol} {s s':Sy} {c:Cl} (hS:SyOk s) (hp:p.types.length≤8) (h:bG p s c=.ok s'):SyOk s':=Ul hS hp (Pw hS h).2.2.2
theorem Bo {p:Pol} (hp:p.types.length≤8):∀ (l:List Cl) (s:Sy) (n:Nat),SyOk s→SyOk (ji p s n l).1
 |[],_,_,h=>h
 |c::l,s,n,h=>by
  unfold ji
  split
  ·rename_i s' hs;exact Bo hp l s' (n+1) (sX h hp hs)
  ·exact h
