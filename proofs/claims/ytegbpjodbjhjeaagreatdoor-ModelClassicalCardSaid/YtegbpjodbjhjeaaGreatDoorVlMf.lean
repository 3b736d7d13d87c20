/- Layer 16: Step, Run. -/
import Derived.Test.YtegbpjodbjhjeaaGreatDoorVlMe
set_option linter.all false
namespace Go.Proofs.YtegbpjodbjhjeaaGreatDoor
open Go Go.Vl
open Kp (Pol Ty Ru Qu poC tyC ruC quC)
variable {G:Gl} {p:Pol} {s:Sy} {c:Cl}
set_option maxRecDepth 10000
structure POk (p:Pol):Prop where
 t:p.types.length≤8
 r:p.rules.length≤40
 q:p.quorums.length≤1000
 i:Kp.PolIn p
theorem ahz (hp:POk p) (hS:SyOk s):FnB Tryz.prog glM 35 [.bp 0 0] [mB p s c] (i64 (stR (bM p s c)).2) [mB p (stO s (bM p s c)) c]:=
 HH [[i64 (stR (bM p s c)).2]] (afd hp.t hp.r hp.q hp.i hS) (ae _) (by simp[yA]) rfl
section
variable {nb q:Nat} {K:V→Prop} {x y z u v:V}
end
def tK:=jj @xd (jj @Yq @Kp.ML)
theorem UP {s s':Sy}:eU ((syC s).map V.c) 0 ((syC s').map V.c)=(syC s').map V.c:=rfl
theorem UQ {c:Cl} {x y z u v:V}:eU [x,y,z,u,v] 0 ((clC c).map V.c)=(clC c).map V.c:=rfl
theorem M7 {P:Program} {fr:Nat→V} {bx:Nat→List V} {nb:Nat} {d e:V} {p q:Tmp} {T:TypeId} (h1:dH P T ⟨fr,bx,nb⟩ (fr p) fun v=>v.fz=d) (h2:(fr q).fz=e):qt P false ⟨fr,bx,nb⟩ (.tup [d,e]) [.cell p T,.tmp q]:=by
 refine⟨_,rfl,rfl,fun i R x hR hx=>?_⟩
 match i with
 |0=>simp only[bJ,ao] at hR hx;subst hR;subst hx;exact h1
 |1=>simp only[cK,bJ,ao] at hR hx;subst hR;subst hx;exact h2
 |n+2=>simp at hR
theorem IK {P:Program} {fr:Nat→V} {bx:Nat→List V} {nb:Nat} {d e g:V} {p q r:Tmp} {T:TypeId} (h1:dH P T ⟨fr,bx,nb⟩ (fr p) fun v=>v.fz=d) (h2:(fr q).fz=e) (h3:(fr r).fz=g):qt P false ⟨fr,bx,nb⟩ (.tup [d,e,g]) [.cell p T,.tmp q,.tmp r]:=by
 refine⟨_,rfl,rfl,fun i R x hR hx=>?_⟩
 match i with
 |0=>simp only[bJ,ao] at hR hx;subst hR;subst hx;exact h1
 |1=>simp only[cK,bJ,ao] at hR hx;subst hR;subst hx;exact h2
 |2=>simp only[cK,bJ,ao] at hR hx;subst hR;subst hx;exact h3
 |n+3=>simp at hR
theorem M8 {fr:Nat→V} {bx:Nat→List V} {nb b:Nat} {x:V} (hx:x=.bp b 0) (hb:b<nb) (h:bx b=(syC s).map .c):dH Tryz.prog 35 ⟨fr,bx,nb⟩ x fun v=>v.fz=.agg (syC s):=by
 subst hx
 refine (pt uZ rfl rfl (b:=b) (o:=0)).mpr ⟨by rw[h];exact ae3,?_⟩
 rw[h,acq]
 exact⟨hb,rfl⟩
theorem nr {flds:List (Nat×Nat×Bool)} {z cs:List C} {parts:List (Nat×V)} {K:V→Prop} {o:Option (List C)} (h:o=some cs) (hK:K (.agg cs)):vu flds z parts K o:=by subst h;exact hK
theorem YF {α β:Type} {x:Except Int α} {f:α→Except Int β} {e:Int} (h:(x >>=f)=.error e):x=.error e∨∃ a,x=.ok a∧f a=.error e:=by
 cases x with
 |error e'=>exact .inl (by cases h;rfl)
 |ok a=>exact .inr ⟨a,rfl,h⟩
theorem YG {b:Bool} {e e':Int} (h:eH b e=.error e'):e'=e:=by
 unfold eH at h
 split at h<;>cases h
 rfl
theorem acB {α:Type} {l:List α} {k e:Int} (h:ofI l k=.error e):e=1:=by
 unfold ofI at h
 split at h<;>cases h
 rfl
theorem UR {t key:Tm} {ks:List Int} {e:Int} (h:jc t key ks=.error e):e=8:=by
 unfold jc at h
 split at h<;>cases h
 rfl
theorem US {s:Sy} {t:Tm} {e:Int} (h:gk s t=.error e):e=2:=by
 unfold gk at h
 split at h<;>cases h
 rfl
theorem YH {s:Sy} {t:Int} {v:Tm} {e:Int} (h:m7 s t v=.error e):e=2:=by
 unfold m7 at h
 split at h<;>cases h
 rfl
theorem M9 {α β:Type} {x:Except Int α} {f:α→Except Int β} (h1:∀ e,x=.error e→e≠0) (h2:∀ a e,f a=.error e→e≠0):∀ e,(x >>=f)=.error e→e≠0:=fun e h=>by
 rcases YF h with h | ⟨a,_,h⟩
 ·exact h1 e h
 ·exact h2 a e h
theorem afe {b:Bool} {k:Int} (hk:k≠0):∀ e,eH b k=.error e→e≠0:=fun e h=>by rw[YG h];exact hk
theorem ahA {α:Type} {l:List α} {k:Int}:∀ e,ofI l k=.error e→e≠0:=fun e h=>by rw[acB h];decide
theorem aff {t key:Tm} {ks:List Int}:∀ e,jc t key ks=.error e→e≠0:=fun e h=>by rw[UR h];decide
theorem ahB {s:Sy} {t:Tm}:∀ e,gk s t=.error e→e≠0:=fun e h=>by rw[US h];decide
theorem ahC {s:Sy} {t:Int} {v:Tm}:∀ e,m7 s t v=.error e→e≠0:=fun e h=>by rw[YH h];decide
theorem afg {s:Sy}:∀ e:Int,(Except.ok s:Ou)=.error e→e≠0:=fun e h=>by cases h
theorem afh {n:Nat}:∀ e,doM p s c n=.error e→e≠0:=by
 unfold doM
 split
 all_goals
  repeat' first
   |exact ahB
   |exact ahC
   |exact afg
   |exact afe (by decide)
   |exact ahA
   |exact aff
   |refine M9 ?_ (fun a=>?_)
 intro e h;cases h;decide
theorem zV {e:Int} (h:bM p s c=.error e):e≠0:=M9 (afe (by decide)) (fun _=>afh) e h
def ZC:=jj @pkA (jj @ptA @tK)
def ZD:=jj @pkA @ptA
def IL:=jj @pkA (jj @ptA (jj @pkS @tK))
set_option maxHeartbeats 1000000 in
theorem qk (hp:POk p) (hS:SyOk s):FnOK Tryz.prog glM 14 [.agg (poC p),.agg (syC s),.agg (clC c)] (.tup [.agg (syC (stR (bM p s c)).1),i64 (stR (bM p s c)).2]):=by
 refine bE (rs:=[.cell 6 35,.tmp 7]) false [1000016] mixed Tryz.func14 rfl rfl rfl rfl (by kernel_rfl) (by simp) rfl rfl ?_
 simp only[ZC,seval]
 refine nr (cs:=mC p s c) rfl ?_
 simp only[pkA,seval]
 refine fS 4 rfl (ahz (c:=c) hp hS) rfl (ab rfl) rfl rfl ?_
 simp only[pkA,seval]
 cases hD:bM p s c with
 |error e=>
  have he:e≠0:=zV hD
  simp only[ZD,seval,stR,stO,he,bK]
  exact M7 (M8 (by rfl) (ab rfl) (by rfl)) (by rfl)
 |ok s'=>
  simp only[IL,seval,stR,stO,ai,Zw,ae9]
  exact M7 (M8 (by rfl) (ab rfl) (by rfl)) (by rfl)
def jr (l:List Cl):C:=.sl (l.map clC)
theorem Na {s s':Sy} {c:Cl} {n:Nat} {l:List Cl} (h:bM p s c=.ok s'):ji p s n (c::l)=ji p s' (n+1) l:=by conv=>lhs;unfold ji;rw[h]
theorem Nb {s:Sy} {c:Cl} {n:Nat} {l:List Cl} {e:Int} (h:bM p s c=.error e):ji p s n (c::l)=(s,n,e):=by unfold ji;rw[h]
theorem BD {p:Pol}:∀ (l:List Cl) (s:Sy) (n:Nat),ji p s n l=((ji p s 0 l).1,n+(ji p s 0 l).2.1,(ji p s 0 l).2.2)
 |[],s,n=>rfl
 |c::l,s,n=>by
  unfold ji
  split
  ·rename_i s' _
   rw[BD l s' (n+1),BD l s' (0+1)]
   simp only[dU,fZ,ga];omega
  ·rfl
set_option maxHeartbeats 1000000 in
theorem tL (hp:POk p) (l:List Cl) (hl:l.length≤1000):FnOK Tryz.prog glM 11 [.agg (poC p),.c (jr l)] (.tup [.agg (syC (ji p sy0 0 l).1),i64 (ji p sy0 0 l).2.1,i64 (ji p sy0 0 l).2.2]):=by
 refine bE (rs:=[.cell 4 35,.tmp 5,.tmp 6]) false [] mixed Tryz.func11 rfl rfl rfl rfl (by kernel_rfl) (by simp) rfl rfl ?_
 have hz:eU [V.ow none [],.ow none [],.ow none [],.ow none [],i64 0] 0 [V.c (.sl []),.c (.sl []),.c (.sl []),.c (.sl []),i64 0]=(syC sy0).map .c:=rfl
 simp only[ZD,seval,hz,jr,am]
 refine ck (fun x:Nat×Sy=>hdS [(1,.c (jr l)),(2,.bp 0 0),(4,.bp 1 0),(7,.bp 2 0),(13,.c (jr l)),(14,i64 l.length),(15,i64 x.1)] [(poC p).map .c,[.ow none [],.ow none [],.ow none [],.ow none [],i64 0],(syC x.2).map .c]) (fun x=>l.length - x.1)
  (fun x=>x.1≤l.length∧SyOk x.2∧ji p sy0 0 l=ji p x.2 x.1 (l.drop x.1)) (0,sy0) ⟨ar _,sok0,rfl⟩ ?_ ?_
 ·refine bT rfl (ar _) (by simp) ?_ ?_
  ·simp[FL,au,jr]
  ·simp[BL,au]
 rintro⟨i,s⟩ ⟨hi,hS,bA⟩ R bS cd cX
 simp only at hi hS bA
 simp only[pkA,seval,jr]
 refine aL (fun bB=>?_) (fun fA=>?_)
 ·have bB:i<l.length:=by simpa using bB
  rw[bX bB] at bA
  simp only[pkA,seval]
  refine df A7 rfl oG (by decide) (aD i) (c:=clC l[i]) (by simp[bB]) (xd _) ?_
  simp only[ZC,seval,UQ]
  refine ay («as»:=[.agg (poC p),.agg (syC s),.agg (clC l[i])]) rfl (qk (c:=l[i]) hp hS) (fun h=>(by cases h)) ?_
  simp only[IL,seval]
  cases hD:bM p s l[i] with
  |error e=>
   have he:e≠0:=zV hD
   have hr:ji p sy0 0 l=(s,i,e):=by rw[bA,Nb hD]
   simp only[IL,seval,stR,he,bK]
   refine cX _ ?_
   simp only[pkA]
   rw[hr]
   exact IK (M8 (by rfl) (ab rfl) (by rfl)) (by rfl) (by rfl)
  |ok s'=>
   have hr:ji p sy0 0 l=ji p s' (i+1) (l.drop (i+1)):=by rw[bA,Na hD]
   simp only[IL,seval,stR,ai]
   have hw:=wrap_i64 (i+1) (by omega)
   refine bS (i+1,s') _ ⟨bB,qO hS hp.t hD,hr⟩ (by simp only;omega) (bT rfl (ar _) (by simp) ?_ ?_)
   ·simp[FL,au,jr,hw]
   ·simp[BL,au,bxs,UP]
 ·have:i=l.length:=by simp at fA;omega
  subst this
  have hr:ji p sy0 0 l=(s,l.length,0):=by rw[bA,fp];rfl
  simp only[pkA]
  refine cd _ _ ?_
  simp only[IL,seval,am]
  rw[hr]
  exact IK (M8 (by rfl) (ab rfl) (by rfl)) (by rfl) (by rfl)
