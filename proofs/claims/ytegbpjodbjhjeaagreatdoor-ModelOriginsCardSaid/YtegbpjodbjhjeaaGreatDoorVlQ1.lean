/- Layer 16: open. -/
import Derived.Test.YtegbpjodbjhjeaaGreatDoorVlM5
import Derived.Test.YtegbpjodbjhjeaaGreatDoorVlCA
set_option linter.all false
namespace Go.Proofs.YtegbpjodbjhjeaaGreatDoor
open Go Go.Vl
open Kp (Pol Ty Ru Qu poC tyC ruC quC)
variable {G:Gl}
set_option maxRecDepth 10000
def Tt:=jj @pkX (jj @pkA (jj @ptA @pkT))
def Cs:=jj @pkA (jj @ptA @pkT)
theorem Xc (t key:Tm) (kinds:List Int) (ht:br t≤1000000000) (hk:br key≤1000000000) (hn:kinds.length≤1000) (hl:t.kind∈kinds→∃ a b,t.l=[a,b]) :
 FnO Tryz.prog G 118 [.agg (tmC t),.agg (tmC key),.c (.sl (kinds.map fun k=>[cI k]))] [] (oP (iS t key kinds)) (rO (fun x=>.agg (tmC x)) (iS t key kinds)) []:=by
 refine D3 (rs:=[.cell 6 47]) (k:=0) [(tmC t).map .c,(tmC key).map .c,rO2 (fun x=>(tmC x).map .c) (iS t key kinds)] [3000000,2900001] mixed Tryz.func118 rfl rfl rfl rfl (by kernel_rfl) (by simp) (by cases iS t key kinds<;>rfl) rfl rfl rfl (ae _) rfl (by cases iS t key kinds<;>rfl) ?_
 simp only[Tt,seval,ah,ai]
 have hC:(kinds.any fun e=>decide (t.kind=e))=decide (t.kind∈kinds):=by simp[List.any_eq,eq_comm]
 have hCk:=Kp.yg (G:=G) kinds (by omega) t.kind
 rw[hC] at hCk
 have ia0:∀ (a b:Tm) K,K (.c (.rp (tmC a) 0))→cC Tryz.prog 33 (.c (tsC [a,b])) (i64 0) K:=fun a b K hK=>
  dz dq rfl di (by decide) (Int.le_refl 0) (c:=tmC a) rfl (bI _) hK
 have ia1:∀ (a b:Tm) K,K (.c (.rp (tmC b) 0))→cC Tryz.prog 33 (.c (tsC [a,b])) (i64 1) K:=fun a b K hK=>
  dz dq rfl di (by decide) (by decide) (c:=tmC b) rfl (bI _) hK
 by_cases fy:t.kind∈kinds
 ·obtain⟨a,b,pT⟩:=hl fy
  have hsa:br a≤1000000000:=by
   obtain⟨k,n,l⟩:=t
   simp only[Tm.l] at pT
   subst pT
   simp only[br,cD] at ht;omega
  have OT:=tD (G:=G) a key hsa hk
  rw[eZ fy] at hCk
  by_cases hab2:a=key
  ·have e:iS t key kinds=.ok b:=by simp[iS,fy,pT,hab2]
   left
   refine aD rfl hCk (fun _=>rfl) ?_
   simp only[Cs,seval,ah,ai,pT]
   refine ia0 a b _ ?_
   simp only[Cs,seval,ai]
   refine aD rfl OT (fun _=>rfl) ?_
   simp only[pkA,seval,ai,hab2,ai]
   refine aD rfl (gU 8) (fun _=>rfl) ?_
   simp only[Tt,seval,ah,ai,pT,hab2,ai]
   refine ia1 a b _ ?_
   simp only[Tt,seval,ah,ai,e,oP,oQ,rO,rO2]
   refine dJ [(6,.bp 2 0)] rfl (by simp only[eW,aR,bb,gd,iV,aB,aK];rfl) (by simp) (ae _) ⟨rfl,trivial⟩ ⟨rfl,rfl,rfl,trivial⟩ ?_
   rw[eV,jX b]
   refine (oV di rfl rfl (b:=2) (o:=0)).mpr ⟨rfl,?_⟩
   unfold ldA
   exact⟨bq 2,⟨rfl,rfl⟩,rfl⟩
  ·have e:iS t key kinds=.error 8:=by simp[iS,fy,pT,hab2]
   right
   refine fL (l:=[_,_,_,_,_,_,_,_,_,_,_,_]) rfl (by kernel_rfl) ?_
   simp only[Cs,seval,e]
   refine aD rfl hCk (fun _=>rfl) ?_
   simp only[Cs,seval,pT]
   refine ia0 a b _ ?_
   simp only[Cs,seval]
   refine aD rfl OT (fun _=>rfl) ?_
   simp only[pkA,seval,hab2,cd]
   exact LC rfl rfl (jY 8) rfl (cT (ae _) rfl (by simp) trivial)
 ·have e:iS t key kinds=.error 8:=by simp[iS,fy]
  rw[fu fy] at hCk
  right
  refine fL (l:=[_,_,_,_,_,_,_,_,_,_,_,_]) rfl (by kernel_rfl) ?_
  simp only[Cs,seval,e]
  refine aD rfl hCk (fun _=>rfl) ?_
  simp only[pkA,seval]
  exact LC rfl rfl (jY 8) rfl (cT (ae _) rfl (by simp) trivial)
open Kp (Pol Ty Ru Qu)
theorem cL {α β:Type} {x:Except Int α} {f:α→Except Int β} {y:β} (h:(x >>=f)=.ok y):∃ a,x=.ok a∧f a=.ok y:=by
 cases x with
 |error e=>cases h
 |ok a=>exact⟨a,rfl,h⟩
theorem gz {b:Bool} {e:Int} {u:Unit} (h:er b e=.ok u):b=true:=by
 unfold er at h
 split at h
 ·assumption
 ·cases h
theorem gV {α:Type} {l:List α} {k:Int} {x:α} (h:ofI l k=.ok x):x∈l:=by
 unfold ofI at h
 split at h
 ·rename_i y hy
  cases h
  obtain⟨i,_,hi,rfl⟩:=Cp hy
  exact aF hi
 ·cases h
def gvS (s:Sy) (v:Tm):Sy:={ s with its:=s.its++[v] }
def hoS (s:Sy) (t:Int) (v:Tm):Sy:={ s with hs:=s.hs++[⟨t,v⟩] }
theorem kN {s s':Sy} {v:Tm} (h:fP s v=.ok s'):(s.its.length<100∧br v≤100)∧s'=gvS s v:=by
 unfold fP at h
 split at h
 ·rename_i hc;cases h;exact⟨hc,rfl⟩
 ·cases h
theorem na {s s':Sy} {t:Int} {v:Tm} (h:mJ s t v=.ok s'):(s.hs.length<100∧br v≤100)∧s'=hoS s t v:=by
 unfold mJ at h
 split at h
 ·rename_i hc;cases h;exact⟨hc,rfl⟩
 ·cases h
structure SyOk (s:Sy):Prop where
 hn:s.hs.length≤100
 iN:s.its.length≤100
 on:s.os.length≤s.hs.length
 rn:s.rs.length≤s.hs.length
 hv:∀ h∈s.hs,bT h.va=true∧br h.va≤100∧0≤h.ty∧h.ty≤2147483647
 iv:∀ t∈s.its,bT t=true∧br t≤100
 ov:∀ o∈s.os,o∈s.hs
 rv:∀ t∈s.rs,bT t=true∧br t≤100
 fr:0≤s.fresh∧s.fresh≤s.hs.length
theorem JV:SyOk sy0:=⟨by decide,by decide,by decide,by decide,fun _ h=>(by cases h),fun _ h=>(by cases h),fun _ h=>(by cases h),fun _ h=>(by cases h),by decide⟩
theorem sK {t key y:Tm} {kinds:List Int} (hv:bT t=true) (hk:∀ k∈kinds,k=3∨k=4) (h:iS t key kinds=.ok y):∃ k n,k∈kinds∧t=.mk k n [key,y]:=by
 unfold iS at h
 split at h
 ·rename_i hc
  obtain⟨k,n,l⟩:=t
  simp only[Tm.kind,Tm.l] at hc h
  have hl:=(fh hv).2.2.1
  have h2:l.length=2:=by rcases hk k hc.1 with rfl | rfl<;>simp[gi] at hl<;>omega
  match l,h2 with
  |[a,b],_=>
   simp only[bG,am] at hc
   obtain⟨hc1,rfl⟩:=hc
   cases h
   exact⟨k,n,hc1,rfl⟩
 ·cases h
inductive Did (p:Pol) (s:Sy) (c:Cl):Nat→Sy→Prop
 |gen:inI c.t p.types.length=true→kw p c.t 1=true→s.hs.length<100→Did p s c 1 { mkM (hoS s c.t (.mk 2 s.fresh [])) c.t (.mk 2 s.fresh []) with fresh:=s.fresh+1 }
 |load {x:Tm}:x∈s.its→inI c.t p.types.length=true→ej x=true→s.hs.length<100∧br x≤100→Did p s c 2 (hoS s c.t x)
 |expo {a:Hd}:a∈s.hs→kw p a.ty 4=true→s.its.length<100∧br a.va≤100→Did p s c 3 (gvS s a.va)
 |encrypt {a:Hd} {x:Tm}:a∈s.hs→x∈s.its→s.its.length<100∧br (im a.va x)≤100→Did p s c 4 (gvS s (im a.va x))
 |decrypt {a:Hd} {n:Int} {y:Tm}:a∈s.hs→.mk 3 n [a.va,y]∈s.its→s.its.length<100∧br y≤100→Did p s c 5 (gvS s y)
 |mac {a:Hd} {x:Tm}:a∈s.hs→x∈s.its→s.its.length<100∧br (.mk 6 0 [a.va,x])≤100→Did p s c 6 (gvS s (.mk 6 0 [a.va,x]))
 |wrap {a b:Hd}:a∈s.hs→b∈s.hs→oh p 1 a.ty b.ty=true→s.its.length<100∧br (.mk 4 b.ty [a.va,b.va])≤100→Did p s c 7 (gvS s (.mk 4 b.ty [a.va,b.va]))
 |unwrap {a:Hd} {n:Int} {y:Tm}:a∈s.hs→.mk 4 n [a.va,y]∈s.its→oh p 2 a.ty n=true→s.hs.length<100∧br y≤100→Did p s c 8 (hoS s n y)
 |rawWrap {a b:Hd}:a∈s.hs→b∈s.hs→oh p 3 a.ty b.ty=true→s.its.length<100∧br (im a.va b.va)≤100→Did p s c 9 (gvS s (im a.va b.va))
 |rawUnwrap {a:Hd} {n:Int} {y:Tm}:a∈s.hs→.mk 3 n [a.va,y]∈s.its→inI c.t p.types.length=true→oh p 4 a.ty c.t=true→ej y=true→s.hs.length<100∧br y≤100→
   Did p s c 10 (if knS s y=true then hoS s c.t y else { hoS s c.t y with rs:=s.rs++[y] })
 |derive {a:Hd}:a∈s.hs→inI c.t p.types.length=true→oh p 5 a.ty c.t=true→s.hs.length<100∧br (.mk 5 c.t [a.va])≤100→
   Did p s c 11 (if knS s a.va=false∧orS s (.mk 5 c.t [a.va])<0 then mkM (hoS s c.t (.mk 5 c.t [a.va])) c.t (.mk 5 c.t [a.va]) else hoS s c.t (.mk 5 c.t [a.va]))
 |data:inI c.t 2147483648=true→s.its.length<100→Did p s c 12 (gvS s (.mk 1 c.t []))
 |hostSeal {a x:Tm}:a∈s.its→x∈s.its→ej a=true→s.its.length<100∧br (im a x)≤100→Did p s c 13 (gvS s (im a x))
 |hostBox {a x:Tm}:a∈s.its→x∈s.its→inI c.t p.types.length=true→ej a=true→ej x=true→s.its.length<100∧br (.mk 4 c.t [a,x])≤100→Did p s c 14 (gvS s (.mk 4 c.t [a,x]))
 |hostKdf {a:Tm}:a∈s.its→inI c.t p.types.length=true→ej a=true→s.its.length<100∧br (.mk 5 c.t [a])≤100→Did p s c 15 (gvS s (.mk 5 c.t [a]))
 |hostOpen {a:Tm} {k n:Int} {y:Tm}:a∈s.its→k=3∨k=4→.mk k n [a,y]∈s.its→s.its.length<100∧br y≤100→Did p s c 16 (gvS s y)
theorem aa9 {p:Pol} {s s':Sy} {c:Cl} (hS:SyOk s):∀ {n:Nat},doM p s c n=.ok s'→Did p s c n s':=by
 have k3:∀ k∈([3]:List Int),k=3∨k=4:=by simp
 have k4:∀ k∈([4]:List Int),k=3∨k=4:=by simp
 have k34:∀ k∈([3,4]:List Int),k=3∨k=4:=by simp
 intro n h
 unfold doM at h
 split at h
 ·obtain⟨_,h1,h⟩:=cL h
  obtain⟨_,h2,h⟩:=cL h
  obtain⟨s1,h3,h⟩:=cL h
  obtain⟨h4,rfl⟩:=na h3
  cases h
  exact .gen (gz h1) (gz h2) h4.1
 ·obtain⟨x,h1,h⟩:=cL h
  obtain⟨_,h2,h⟩:=cL h
  obtain⟨_,h3,h⟩:=cL h
  obtain⟨_,h4,h⟩:=cL h
  obtain⟨h5,rfl⟩:=na h
  exact .load (gV h1) (gz h2) (gz h3) h5
 ·obtain⟨a,h1,h⟩:=cL h
  obtain⟨_,h2,h⟩:=cL h
  obtain⟨h5,rfl⟩:=kN h
  exact .expo (gV h1) (gz h2) h5
 ·obtain⟨a,h1,h⟩:=cL h
  obtain⟨x,h2,h⟩:=cL h
  obtain⟨_,h3,h⟩:=cL h
  obtain⟨h5,rfl⟩:=kN h
  exact .encrypt (gV h1) (gV h2) h5
 ·obtain⟨a,h1,h⟩:=cL h
  obtain⟨x,h2,h⟩:=cL h
  obtain⟨_,h3,h⟩:=cL h
  obtain⟨y,h4,h⟩:=cL h
  obtain⟨h5,rfl⟩:=kN h
  have hx:=gV h2
  obtain⟨k,n,hk,rfl⟩:=sK (hS.iv x hx).1 k3 h4
  obtain rfl:=aN.1 hk
  exact .decrypt (gV h1) hx h5
 ·obtain⟨a,h1,h⟩:=cL h
  obtain⟨x,h2,h⟩:=cL h
  obtain⟨_,h3,h⟩:=cL h
  obtain⟨h5,rfl⟩:=kN h
  exact .mac (gV h1) (gV h2) h5
 ·obtain⟨a,h1,h⟩:=cL h
  obtain⟨x,h2,h⟩:=cL h
  obtain⟨_,h3,h⟩:=cL h
  obtain⟨h5,rfl⟩:=kN h
  exact .wrap (gV h1) (gV h2) (gz h3) h5
 ·obtain⟨a,h1,h⟩:=cL h
  obtain⟨x,h2,h⟩:=cL h
  obtain⟨y,h4,h⟩:=cL h
  obtain⟨_,h3,h⟩:=cL h
  have hx:=gV h2
  obtain⟨k,n,hk,rfl⟩:=sK (hS.iv x hx).1 k4 h4
  obtain rfl:=aN.1 hk
  obtain⟨h5,rfl⟩:=na h
  exact .unwrap (gV h1) hx (gz h3) h5
 ·obtain⟨a,h1,h⟩:=cL h
  obtain⟨x,h2,h⟩:=cL h
  obtain⟨_,h3,h⟩:=cL h
  obtain⟨h5,rfl⟩:=kN h
  exact .rawWrap (gV h1) (gV h2) (gz h3) h5
 ·obtain⟨a,h1,h⟩:=cL h
  obtain⟨x,h2,h⟩:=cL h
  obtain⟨_,h3,h⟩:=cL h
  obtain⟨_,h4,h⟩:=cL h
  obtain⟨y,h5,h⟩:=cL h
  obtain⟨_,h6,h⟩:=cL h
  obtain⟨s1,h7,h⟩:=cL h
  have hx:=gV h2
  obtain⟨k,n,hk,rfl⟩:=sK (hS.iv x hx).1 k3 h5
  obtain rfl:=aN.1 hk
  obtain⟨h8,rfl⟩:=na h7
  cases h
  exact .rawUnwrap (gV h1) hx (gz h3) (gz h4) (gz h6) h8
 ·obtain⟨a,h1,h⟩:=cL h
  obtain⟨_,h3,h⟩:=cL h
  obtain⟨_,h4,h⟩:=cL h
  obtain⟨s1,h7,h⟩:=cL h
  obtain⟨h8,rfl⟩:=na h7
  cases h
  exact .derive (gV h1) (gz h3) (gz h4) h8
 ·obtain⟨_,h1,h⟩:=cL h
  obtain⟨h5,rfl⟩:=kN h
  exact .data (gz h1) h5.1
 ·obtain⟨a,h1,h⟩:=cL h
  obtain⟨x,h2,h⟩:=cL h
  obtain⟨_,h3,h⟩:=cL h
  obtain⟨h5,rfl⟩:=kN h
  exact .hostSeal (gV h1) (gV h2) (gz h3) h5
 ·obtain⟨a,h1,h⟩:=cL h
  obtain⟨x,h2,h⟩:=cL h
  obtain⟨_,h3,h⟩:=cL h
  obtain⟨_,h4,h⟩:=cL h
  obtain⟨_,h6,h⟩:=cL h
  obtain⟨h5,rfl⟩:=kN h
  exact .hostBox (gV h1) (gV h2) (gz h3) (gz h4) (gz h6) h5
 ·obtain⟨a,h1,h⟩:=cL h
  obtain⟨_,h3,h⟩:=cL h
  obtain⟨_,h4,h⟩:=cL h
  obtain⟨h5,rfl⟩:=kN h
  exact .hostKdf (gV h1) (gz h3) (gz h4) h5
 ·obtain⟨a,h1,h⟩:=cL h
  obtain⟨x,h2,h⟩:=cL h
  obtain⟨y,h4,h⟩:=cL h
  have hx:=gV h2
  obtain⟨h5,rfl⟩:=kN h
  obtain⟨k,n,hk,rfl⟩:=sK (hS.iv x hx).1 k34 h4
  exact .hostOpen (gV h1) (by simpa using hk) hx h5
 ·cases h
theorem Hp {p:Pol} {s s':Sy} {c:Cl} (hS:SyOk s) (h:bN p s c=.ok s'):Kp.gQ p=true∧1≤c.kind∧c.kind≤16∧Did p s c c.kind.toNat s':=by
 unfold bN at h
 obtain⟨_,h1,h⟩:=cL h
 have:=gz h1
 simp only[aG,inI,bi] at this
 exact⟨this.2,by omega,by omega,aa9 hS h⟩
theorem Tu {k n:Int} (h:inI k n=true):0≤k∧k<n:=by simpa[inI] using h
theorem EF {k n:Int} {a b:Tm} (hk:k=3∨k=4∨k=6) (hn:(k=4→0≤n∧n≤2147483647)∧(k≠4→n=0)) (ha:bT a=true) (hb:bT b=true):bT (.mk k n [a,b])=true:=by
 rcases hk with rfl | rfl | rfl
 ·have:=hn.2 (by decide);subst this;simp[bT,qa,ha,hb,gi]
 ·have:=hn.1 rfl;simp[bT,qa,ha,hb,gi,this.1,this.2]
 ·have:=hn.2 (by decide);subst this;simp[bT,qa,ha,hb,gi]
theorem Tv {n:Int} {a:Tm} (hn:0≤n∧n≤2147483647) (ha:bT a=true):bT (.mk 5 n [a])=true:=by simp[bT,qa,ha,gi,hn.1,hn.2]
theorem LK {k n:Int} (hk:k=1∨k=2) (hn:0≤n∧n≤2147483647):bT (.mk k n [])=true:=by rcases hk with rfl | rfl<;>simp[bT,qa,gi,hn.1,hn.2]
theorem o9 {k n:Int} {a b:Tm} (h:bT (.mk k n [a,b])=true):bT a=true∧bT b=true∧0≤n∧n≤2147483647:=by
 obtain⟨_,h2,_,h3⟩:=fh h
 exact⟨h3 a (by simp),h3 b (by simp),h2.1,h2.2.1⟩
theorem kO {s:Sy} {v:Tm} (hS:SyOk s) (hv:bT v=true) (hl:s.its.length<100∧br v≤100):SyOk (gvS s v) where
 hn:=hS.hn
 iN:=by simp[gvS];omega
 on:=hS.on
 rn:=hS.rn
 hv:=hS.hv
 iv:=fun t ht=>by
  rcases aY.1 ht with h | h
  ·exact hS.iv t h
  ·rw[aN] at h;subst h;exact⟨hv,hl.2⟩
 ov:=hS.ov
 rv:=hS.rv
 fr:=hS.fr
theorem vZ {s:Sy} {t:Int} {v:Tm} (hS:SyOk s) (hv:bT v=true) (hl:s.hs.length<100∧br v≤100) (ht:0≤t∧t≤2147483647):SyOk (hoS s t v) where
 hn:=by simp[hoS];omega
 iN:=hS.iN
 on:=by have:=hS.on;simp[hoS];omega
 rn:=by have:=hS.rn;simp[hoS];omega
 hv:=fun h hh=>by
  rcases aY.1 hh with h1 | h1
  ·exact hS.hv h h1
  ·rw[aN] at h1;subst h1;exact⟨hv,hl.2,ht.1,ht.2⟩
 iv:=hS.iv
 ov:=fun o ho=>ee _ (hS.ov o ho)
 rv:=hS.rv
 fr:=by have:=hS.fr;simp[hoS];omega
theorem Hq {s:Sy} {t:Int} {v:Tm} (hS:SyOk s) (hv:bT v=true) (hl:s.hs.length<100∧br v≤100) (ht:0≤t∧t≤2147483647):SyOk (mkM (hoS s t v) t v):=
 { vZ hS hv hl ht with
  on:=by have:=hS.on;simp[hoS,mkM];omega
  ov:=fun o ho=>by
   rcases aY.1 ho with h1 | h1
   ·exact ee _ (hS.ov o h1)
   ·rw[aN] at h1;subst h1;exact List.mem_append_right _ (aN.2 rfl) }
theorem Xd {p:Pol} {s s':Sy} {c:Cl} {n:Nat} (hS:SyOk s) (hp:p.types.length≤8) (h:Did p s c n s'):SyOk s':=by
 have tt:inI c.t p.types.length=true→0≤c.t∧c.t≤2147483647:=fun h=>by have:=Tu h;omega
 have sl:∀ {a b:Tm},bT a=true→bT b=true→bT (im a b)=true:=fun ha hb=>EF (.inl rfl) ⟨fun h=>(by cases h),fun _=>rfl⟩ ha hb
 have fr:=hS.fr
 have hn:=hS.hn
 cases h with
 |gen h1 h2 h3=>
  have hk:bT (.mk 2 s.fresh [])=true:=LK (.inr rfl) ⟨fr.1,by omega⟩
  have h:=Hq hS hk ⟨h3,by simp[br,cD]⟩ (tt h1)
  exact { h with fr:=by have:=hS.fr;simp[hoS,mkM];omega }
 |load h1 h2 h3 h4=>exact vZ hS (hS.iv _ h1).1 h4 (tt h2)
 |expo h1 h2 h3=>exact kO hS (hS.hv _ h1).1 h3
 |encrypt h1 h2 h3=>exact kO hS (sl (hS.hv _ h1).1 (hS.iv _ h2).1) h3
 |decrypt h1 h2 h3=>exact kO hS (o9 (hS.iv _ h2).1).2.1 h3
 |mac h1 h2 h3=>exact kO hS (EF (.inr (.inr rfl)) ⟨fun h=>(by cases h),fun _=>rfl⟩ (hS.hv _ h1).1 (hS.iv _ h2).1) h3
 |wrap h1 h2 h3 h4=>exact kO hS (EF (.inr (.inl rfl)) ⟨fun _=>(hS.hv _ h2).2.2,fun h=>absurd rfl h⟩ (hS.hv _ h1).1 (hS.hv _ h2).1) h4
 |unwrap h1 h2 h3 h4=>have h5:=o9 (hS.iv _ h2).1;exact vZ hS h5.2.1 h4 h5.2.2
 |rawWrap h1 h2 h3 h4=>exact kO hS (sl (hS.hv _ h1).1 (hS.hv _ h2).1) h4
 |rawUnwrap h1 h2 h3 h4 h5 h6=>
  have hv:=(o9 (hS.iv _ h2).1).2.1
  have h:=vZ hS hv h6 (tt h3)
  split
  ·exact h
  ·exact { h with
    rn:=by have:=hS.rn;simp[hoS];omega
    rv:=fun t ht=>by
     rcases aY.1 ht with h1 | h1
     ·exact hS.rv t h1
     ·rw[aN] at h1;subst h1;exact⟨hv,h6.2⟩ }
 |derive h1 h2 h3 h4=>
  have hv:=Tv (tt h2) (hS.hv _ h1).1
  split
  ·exact Hq hS hv h4 (tt h2)
  ·exact vZ hS hv h4 (tt h2)
 |data h1 h2=>exact kO hS (LK (.inl rfl) (by have:=Tu h1;omega)) ⟨h2,by simp[br,cD]⟩
 |hostSeal h1 h2 h3 h4=>exact kO hS (sl (hS.iv _ h1).1 (hS.iv _ h2).1) h4
 |hostBox h1 h2 h3 h4 h5 h6=>exact kO hS (EF (.inr (.inl rfl)) ⟨fun _=>tt h3,fun h=>absurd rfl h⟩ (hS.iv _ h1).1 (hS.iv _ h2).1) h6
 |hostKdf h1 h2 h3 h4=>exact kO hS (Tv (tt h2) (hS.iv _ h1).1) h4
 |hostOpen h1 h2 h3 h4=>exact kO hS (o9 (hS.iv _ h3).1).2.1 h4
theorem v6 {p:Pol} {s s':Sy} {c:Cl} (hS:SyOk s) (hp:p.types.length≤8) (h:bN p s c=.ok s'):SyOk s':=Xd hS hp (Hp hS h).2.2.2
theorem v7 {p:Pol} (hp:p.types.length≤8):∀ (l:List Cl) (s:Sy) (n:Nat),SyOk s→SyOk (mE p s n l).1
 |[],_,_,h=>h
 |c::l,s,n,h=>by
  unfold mE
  split
  ·rename_i s' hs;exact v7 hp l s' (n+1) (v6 h hp hs)
  ·exact h
theorem xu {p:Pol} (hp:p.types.length≤8) {Q:Sy→Prop} (hq:∀ s s' c n,SyOk s→Q s→Kp.gQ p=true→Did p s c n s'→Q s'):∀ (l:List Cl) (s:Sy) (n:Nat),SyOk s→Q s→Q (mE p s n l).1
 |[],_,_,_,h=>h
 |c::l,s,n,hS,h=>by
  unfold mE
  split
  ·rename_i s' hs
   have hd:=Hp hS hs
   exact xu hp hq l s' (n+1) (v6 hS hp hs) (hq s s' c _ hS h hd.1 hd.2.2.2)
  ·exact h
