/- Layer 16: Step, Run. -/
import Derived.Test.YtegbpjodbjhjeaaGreatDoorVlMe
set_option maxHeartbeats 1000000
set_option linter.all false
namespace Go.Proofs.YtegbpjodbjhjeaaGreatDoor
open Go Go.Vl
open Kp (Pol Ty Ru Qu poC tyC ruC quC)
variable {G:Gl} {p:Pol} {s:Sy} {c:Cl}
set_option maxRecDepth 10000
structure POk (p:Pol):Prop where
 t:p.types.length≤8
 r:p.rules.length≤40
 q:p.quorums.length≤1000
 i:Kp.PolIn p
theorem ags (hp:POk p) (hS:SyOk s):FnB Tryz.prog glM 35 [.bp 0 0] [mB p s c] (i64 (stR (bN p s c)).2) [mB p (stO s (bN p s c)) c]:=
 GA [[i64 (stR (bN p s c)).2]] (ad5 hp.t hp.r hp.q hp.i hS) (ae _) (by simp[xt]) rfl
section
variable {nb q:Nat} {K:V→Prop} {x y z u v:V}
end
def HA:=jj @Lz (jj @Xa @Kp.Lx)
theorem abl {s s':Sy}:eU ((syC s).map V.c) 0 ((syC s').map V.c)=(syC s').map V.c:=rfl
theorem abm {c:Cl} {x y z u v:V}:eU [x,y,z,u,v] 0 ((clC c).map V.c)=(clC c).map V.c:=rfl
theorem LS {P:Program} {fr:Nat→V} {bx:Nat→List V} {nb:Nat} {d e:V} {p q:Tmp} {T:TypeId} (h1:dy P T ⟨fr,bx,nb⟩ (fr p) fun v=>v.fz=d) (h2:(fr q).fz=e):pX P false ⟨fr,bx,nb⟩ (.tup [d,e]) [.cell p T,.tmp q]:=by
 refine⟨_,rfl,rfl,fun i R x hR hx=>?_⟩
 match i with
 |0=>simp only[bG,am] at hR hx;subst hR;subst hx;exact h1
 |1=>simp only[cH,bG,am] at hR hx;subst hR;subst hx;exact h2
 |n+2=>simp at hR
theorem HC {P:Program} {fr:Nat→V} {bx:Nat→List V} {nb:Nat} {d e g:V} {p q r:Tmp} {T:TypeId} (h1:dy P T ⟨fr,bx,nb⟩ (fr p) fun v=>v.fz=d) (h2:(fr q).fz=e) (h3:(fr r).fz=g):pX P false ⟨fr,bx,nb⟩ (.tup [d,e,g]) [.cell p T,.tmp q,.tmp r]:=by
 refine⟨_,rfl,rfl,fun i R x hR hx=>?_⟩
 match i with
 |0=>simp only[bG,am] at hR hx;subst hR;subst hx;exact h1
 |1=>simp only[cH,bG,am] at hR hx;subst hR;subst hx;exact h2
 |2=>simp only[cH,bG,am] at hR hx;subst hR;subst hx;exact h3
 |n+3=>simp at hR
theorem LU {fr:Nat→V} {bx:Nat→List V} {nb b:Nat} {x:V} (hx:x=.bp b 0) (hb:b<nb) (h:bx b=(syC s).map .c):dy Tryz.prog 35 ⟨fr,bx,nb⟩ x fun v=>v.fz=.agg (syC s):=by
 subst hx
 refine (oV ud rfl rfl (b:=b) (o:=0)).mpr ⟨by rw[h];exact adV,?_⟩
 rw[h,abb]
 exact⟨hb,rfl⟩
theorem mZ {flds:List (Nat×Nat×Bool)} {z cs:List C} {parts:List (Nat×V)} {K:V→Prop} {o:Option (List C)} (h:o=some cs) (hK:K (.agg cs)):uB flds z parts K o:=by subst h;exact hK
theorem Xo {α β:Type} {x:Except Int α} {f:α→Except Int β} {e:Int} (h:(x >>=f)=.error e):x=.error e∨∃ a,x=.ok a∧f a=.error e:=by
 cases x with
 |error e'=>exact .inl (by cases h;rfl)
 |ok a=>exact .inr ⟨a,rfl,h⟩
theorem Xp {b:Bool} {e e':Int} (h:er b e=.error e'):e'=e:=by
 unfold er at h
 split at h<;>cases h
 rfl
theorem abn {α:Type} {l:List α} {k e:Int} (h:ofI l k=.error e):e=1:=by
 unfold ofI at h
 split at h<;>cases h
 rfl
theorem TE {t key:Tm} {ks:List Int} {e:Int} (h:iS t key ks=.error e):e=8:=by
 unfold iS at h
 split at h<;>cases h
 rfl
theorem TF {s:Sy} {t:Tm} {e:Int} (h:fP s t=.error e):e=2:=by
 unfold fP at h
 split at h<;>cases h
 rfl
theorem Xq {s:Sy} {t:Int} {v:Tm} {e:Int} (h:mJ s t v=.error e):e=2:=by
 unfold mJ at h
 split at h<;>cases h
 rfl
theorem LV {α β:Type} {x:Except Int α} {f:α→Except Int β} (h1:∀ e,x=.error e→e≠0) (h2:∀ a e,f a=.error e→e≠0):∀ e,(x >>=f)=.error e→e≠0:=fun e h=>by
 rcases Xo h with h | ⟨a,_,h⟩
 ·exact h1 e h
 ·exact h2 a e h
theorem ad6 {b:Bool} {k:Int} (hk:k≠0):∀ e,er b k=.error e→e≠0:=fun e h=>by rw[Xp h];exact hk
theorem agt {α:Type} {l:List α} {k:Int}:∀ e,ofI l k=.error e→e≠0:=fun e h=>by rw[abn h];decide
theorem ad7 {t key:Tm} {ks:List Int}:∀ e,iS t key ks=.error e→e≠0:=fun e h=>by rw[TE h];decide
theorem agu {s:Sy} {t:Tm}:∀ e,fP s t=.error e→e≠0:=fun e h=>by rw[TF h];decide
theorem agv {s:Sy} {t:Int} {v:Tm}:∀ e,mJ s t v=.error e→e≠0:=fun e h=>by rw[Xq h];decide
theorem ad8 {s:Sy}:∀ e:Int,(Except.ok s:Ou)=.error e→e≠0:=fun e h=>by cases h
theorem ad9 {n:Nat}:∀ e,doM p s c n=.error e→e≠0:=by
 unfold doM
 split
 all_goals
  repeat' first
   |exact agu
   |exact agv
   |exact ad8
   |exact ad6 (by decide)
   |exact agt
   |exact ad7
   |refine LV ?_ (fun a=>?_)
 intro e h;cases h;decide
theorem LW {e:Int} (h:bN p s c=.error e):e≠0:=LV (ad6 (by decide)) (fun _=>ad9) e h
def Ym:=jj @pkA (jj @ptA @HA)
def Yn:=jj @pkA @ptA
def HD:=jj @pkA (jj @ptA (jj @pkS @HA))
theorem wd (hp:POk p) (hS:SyOk s):FnOK Tryz.prog glM 14 [.agg (poC p),.agg (syC s),.agg (clC c)] (.tup [.agg (syC (stR (bN p s c)).1),i64 (stR (bN p s c)).2]):=by
 refine bP (rs:=[.cell 6 35,.tmp 7]) false [1000016] mixed Tryz.func14 rfl rfl rfl rfl (by kernel_rfl) (by simp) rfl rfl ?_
 simp only[Ym,seval]
 refine mZ (cs:=mC p s c) rfl ?_
 simp only[pkA,seval]
 refine fG 4 rfl (ags (c:=c) hp hS) rfl (ab rfl) rfl rfl ?_
 simp only[pkA,seval]
 cases hD:bN p s c with
 |error e=>
  have he:e≠0:=LW hD
  simp only[Yn,seval,stR,stO,he,cd]
  exact LS (LU (by rfl) (ab rfl) (by rfl)) (by rfl)
 |ok s'=>
  simp only[HD,seval,stR,stO,ai,Yh,ad1]
  exact LS (LU (by rfl) (ab rfl) (by rfl)) (by rfl)
def lP (l:List Cl):C:=.sl (l.map clC)
theorem Xr {s s':Sy} {c:Cl} {n:Nat} {l:List Cl} (h:bN p s c=.ok s'):mE p s n (c::l)=mE p s' (n+1) l:=by conv=>lhs;unfold mE;rw[h]
theorem Xs {s:Sy} {c:Cl} {n:Nat} {l:List Cl} {e:Int} (h:bN p s c=.error e):mE p s n (c::l)=(s,n,e):=by unfold mE;rw[h]
theorem EN (hp:POk p) (l:List Cl) (hl:l.length≤1000):FnOK Tryz.prog glM 11 [.agg (poC p),.c (lP l)] (.tup [.agg (syC (mE p sy0 0 l).1),i64 (mE p sy0 0 l).2.1,i64 (mE p sy0 0 l).2.2]):=by
 refine bP (rs:=[.cell 4 35,.tmp 5,.tmp 6]) false [] mixed Tryz.func11 rfl rfl rfl rfl (by kernel_rfl) (by simp) rfl rfl ?_
 have hz:eU [V.ow none [],.ow none [],.ow none [],.ow none [],i64 0] 0 [V.c (.sl []),.c (.sl []),.c (.sl []),.c (.sl []),i64 0]=(syC sy0).map .c:=rfl
 simp only[Yn,seval,hz,lP,ap]
 refine cF (fun x:Nat×Sy=>hdS [(1,.c (lP l)),(2,.bp 0 0),(4,.bp 1 0),(7,.bp 2 0),(13,.c (lP l)),(14,i64 l.length),(15,i64 x.1)] [(poC p).map .c,[.ow none [],.ow none [],.ow none [],.ow none [],i64 0],(syC x.2).map .c]) (fun x=>l.length - x.1)
  (fun x=>x.1≤l.length∧SyOk x.2∧mE p sy0 0 l=mE p x.2 x.1 (l.drop x.1)) (0,sy0) ⟨au _,JV,rfl⟩ ?_ ?_
 ·refine cj rfl (au _) (by simp) ?_ ?_
  ·simp[FL,ar,lP]
  ·simp[BL,ar]
 rintro⟨i,s⟩ ⟨hi,hS,bA⟩ R ck cG dn
 simp only at hi hS bA
 simp only[pkA,seval,lP]
 refine aV (fun bF=>?_) (fun ga=>?_)
 ·have bF:i<l.length:=by simpa using bF
  rw[cE bF] at bA
  simp only[pkA,seval]
  refine dz Ry rfl rz (by decide) (aI i) (c:=clC l[i]) (by simp[bF]) (Lz _) ?_
  simp only[Ym,seval,abm]
  refine aD («as»:=[.agg (poC p),.agg (syC s),.agg (clC l[i])]) rfl (wd (c:=l[i]) hp hS) (fun h=>(by cases h)) ?_
  simp only[HD,seval]
  cases hD:bN p s l[i] with
  |error e=>
   have he:e≠0:=LW hD
   have hr:mE p sy0 0 l=(s,i,e):=by rw[bA,Xs hD]
   simp only[HD,seval,stR,he,cd]
   refine dn _ ?_
   simp only[pkA]
   rw[hr]
   exact HC (LU (by rfl) (ab rfl) (by rfl)) (by rfl) (by rfl)
  |ok s'=>
   have hr:mE p sy0 0 l=mE p s' (i+1) (l.drop (i+1)):=by rw[bA,Xr hD]
   simp only[HD,seval,stR,ai]
   have hw:=wrap_i64 (i+1) (by omega)
   refine ck (i+1,s') _ ⟨bF,v6 hS hp.t hD,hr⟩ (by simp only;omega) (cj rfl (au _) (by simp) ?_ ?_)
   ·simp[FL,ar,lP,hw]
   ·simp[BL,ar,bxs,abl]
 ·have:i=l.length:=by simp at ga;omega
  subst this
  have hr:mE p sy0 0 l=(s,l.length,0):=by rw[bA,i7];rfl
  simp only[pkA]
  refine cG _ _ ?_
  simp only[HD,seval,ap]
  rw[hr]
  exact HC (LU (by rfl) (ab rfl) (by rfl)) (by rfl) (by rfl)
