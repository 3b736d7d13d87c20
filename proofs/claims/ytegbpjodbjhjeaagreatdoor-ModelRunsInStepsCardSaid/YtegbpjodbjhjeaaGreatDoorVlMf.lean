/- Layer 16: Step, Run. -/
import Derived.Test.YtegbpjodbjhjeaaGreatDoorVlMe
set_option linter.all false
namespace Go.Proofs.YtegbpjodbjhjeaaGreatDoor
open Go Go.Vl
open Kp (Pol Ty Ru Qu poC tyC ruC quC)
variable {G:Gl} {p:Pol} {s:Sy} {c:Cl}
set_option maxRecDepth 10000
structure POk (p:Pol):Prop where
 t:p.types.length≤8
 r:p.rules.length≤40
 q:p.quorums.length≤1000
 i:Kp.PolIn p
theorem abu (hp:POk p) (hS:SyOk s):FnB Tryz.prog glM 35 [.bp 0 0] [mB p s c] (i64 (stR (bG p s c)).2) [mB p (stO s (bG p s c)) c]:=
 C3 [[i64 (stR (bG p s c)).2]] (aai hp.t hp.r hp.q hp.i hS) (ae _) (by simp[ui]) rfl
section
variable {nb q:Nat} {K:V→Prop} {x y z u v:V}
theorem aaj:ck ((clC c).map V.c)=false:=rfl
theorem Yt:ldA nb q ((clC c).map V.c) 0 5 K=(q<nb∧K (.agg (clC c))):=by
 unfold ldA
 exact propext ⟨fun h=>⟨h.1,h.2.2⟩,fun h=>⟨h.1,⟨rfl,rfl⟩,h.2⟩⟩
theorem aak:cU true 5 0 (clC c) K=K (.agg (clC c)):=propext ⟨fun h=>h.2,fun h=>⟨ab rfl,h⟩⟩
theorem aal:ck ((poC p).map V.c)=false:=rfl
theorem Yu:ldA nb q ((poC p).map V.c) 0 4 K=(q<nb∧K (.agg (poC p))):=by
 unfold ldA
 exact propext ⟨fun h=>⟨h.1,h.2.2⟩,fun h=>⟨h.1,⟨rfl,rfl⟩,h.2⟩⟩
theorem aam:cU true 4 0 (poC p) K=K (.agg (poC p)):=propext ⟨fun h=>h.2,fun h=>⟨ab rfl,h⟩⟩
end
def D3:=jj @aaj (jj @Yt (jj @Yu (jj @aak (jj @aal (jj @aam (jj @sV (jj @Ug @Kp.Ht)))))))
theorem PL {s s':Sy}:eF ((syC s).map V.c) 0 ((syC s').map V.c)=(syC s').map V.c:=rfl
theorem PM {c:Cl} {x y z u v:V}:eF [x,y,z,u,v] 0 ((clC c).map V.c)=(clC c).map V.c:=rfl
theorem HK {P:Program} {fr:Nat→V} {bx:Nat→List V} {nb:Nat} {d e:V} {p q:Tmp} {T:TypeId} (h1:cy P T ⟨fr,bx,nb⟩ (fr p) fun v=>v.fz=d) (h2:(fr q).fz=e):nS P false ⟨fr,bx,nb⟩ (.tup [d,e]) [.cell p T,.tmp q]:=by
 refine⟨_,rfl,rfl,fun i R x hR hx=>?_⟩
 match i with
 |0=>simp only[bD,am] at hR hx;subst hR;subst hx;exact h1
 |1=>simp only[cn,bD,am] at hR hx;subst hR;subst hx;exact h2
 |n+2=>simp at hR
theorem D4 {P:Program} {fr:Nat→V} {bx:Nat→List V} {nb:Nat} {d e g:V} {p q r:Tmp} {T:TypeId} (h1:cy P T ⟨fr,bx,nb⟩ (fr p) fun v=>v.fz=d) (h2:(fr q).fz=e) (h3:(fr r).fz=g):nS P false ⟨fr,bx,nb⟩ (.tup [d,e,g]) [.cell p T,.tmp q,.tmp r]:=by
 refine⟨_,rfl,rfl,fun i R x hR hx=>?_⟩
 match i with
 |0=>simp only[bD,am] at hR hx;subst hR;subst hx;exact h1
 |1=>simp only[cn,bD,am] at hR hx;subst hR;subst hx;exact h2
 |2=>simp only[cn,bD,am] at hR hx;subst hR;subst hx;exact h3
 |n+3=>simp at hR
theorem HL {fr:Nat→V} {bx:Nat→List V} {nb b:Nat} {x:V} (hx:x=.bp b 0) (hb:b<nb) (h:bx b=(syC s).map .c):cy Tryz.prog 35 ⟨fr,bx,nb⟩ x fun v=>v.fz=.agg (syC s):=by
 subst hx
 refine (k6 mb rfl rfl (b:=b) (o:=0)).mpr ⟨by rw[h];exact UZ,?_⟩
 rw[h,PC]
 exact⟨hb,rfl⟩
theorem lJ {flds:List (Nat×Nat×Bool)} {z cs:List C} {parts:List (Nat×V)} {K:V→Prop} {o:Option (List C)} (h:o=some cs) (hK:K (.agg cs)):ru flds z parts K o:=by subst h;exact hK
theorem Uw {α β:Type} {x:Except Int α} {f:α→Except Int β} {e:Int} (h:(x >>=f)=.error e):x=.error e∨∃ a,x=.ok a∧f a=.error e:=by
 cases x with
 |error e'=>exact .inl (by cases h;rfl)
 |ok a=>exact .inr ⟨a,rfl,h⟩
theorem Ux {b:Bool} {e e':Int} (h:dR b e=.error e'):e'=e:=by
 unfold dR at h
 split at h<;>cases h
 rfl
theorem Yv {α:Type} {l:List α} {k e:Int} (h:ofI l k=.error e):e=1:=by
 unfold ofI at h
 split at h<;>cases h
 rfl
theorem PN {t key:Tm} {ks:List Int} {e:Int} (h:g8 t key ks=.error e):e=8:=by
 unfold g8 at h
 split at h<;>cases h
 rfl
theorem PO {s:Sy} {t:Tm} {e:Int} (h:ft s t=.error e):e=2:=by
 unfold ft at h
 split at h<;>cases h
 rfl
theorem Uy {s:Sy} {t:Int} {v:Tm} {e:Int} (h:ll s t v=.error e):e=2:=by
 unfold ll at h
 split at h<;>cases h
 rfl
theorem HM {α β:Type} {x:Except Int α} {f:α→Except Int β} (h1:∀ e,x=.error e→e≠0) (h2:∀ a e,f a=.error e→e≠0):∀ e,(x >>=f)=.error e→e≠0:=fun e h=>by
 rcases Uw h with h | ⟨a,_,h⟩
 ·exact h1 e h
 ·exact h2 a e h
theorem aan {b:Bool} {k:Int} (hk:k≠0):∀ e,dR b k=.error e→e≠0:=fun e h=>by rw[Ux h];exact hk
theorem abv {α:Type} {l:List α} {k:Int}:∀ e,ofI l k=.error e→e≠0:=fun e h=>by rw[Yv h];decide
theorem aao {t key:Tm} {ks:List Int}:∀ e,g8 t key ks=.error e→e≠0:=fun e h=>by rw[PN h];decide
theorem abw {s:Sy} {t:Tm}:∀ e,ft s t=.error e→e≠0:=fun e h=>by rw[PO h];decide
theorem abx {s:Sy} {t:Int} {v:Tm}:∀ e,ll s t v=.error e→e≠0:=fun e h=>by rw[Uy h];decide
theorem aap {s:Sy}:∀ e:Int,(Except.ok s:Ou)=.error e→e≠0:=fun e h=>by cases h
theorem aaq {n:Nat}:∀ e,doM p s c n=.error e→e≠0:=by
 unfold doM
 split
 all_goals
  repeat' first
   |exact abw
   |exact abx
   |exact aap
   |exact aan (by decide)
   |exact abv
   |exact aao
   |refine HM ?_ (fun a=>?_)
 intro e h;cases h;decide
theorem Bv {e:Int} (h:bG p s c=.error e):e≠0:=HM (aan (by decide)) (fun _=>aaq) e h
def U4:=jj @pkA (jj @ptA @D3)
def U5:=jj @pkA @ptA
def D5:=jj @pkA (jj @ptA (jj @pkS @D3))
set_option maxHeartbeats 1000000 in
theorem pj (hp:POk p) (hS:SyOk s):FnOK Tryz.prog glM 14 [.agg (poC p),.agg (syC s),.agg (clC c)] (.tup [.agg (syC (stR (bG p s c)).1),i64 (stR (bG p s c)).2]):=by
 refine bP (rs:=[.cell 6 35,.tmp 7]) false [1000016] mixed Tryz.func14 rfl rfl rfl rfl (by kernel_rfl) (by simp) rfl rfl ?_
 simp only[U4,seval]
 refine lJ (cs:=mC p s c) rfl ?_
 simp only[pkA,seval]
 refine fe 4 rfl (abu (c:=c) hp hS) rfl (ab rfl) rfl rfl ?_
 simp only[pkA,seval]
 cases hD:bG p s c with
 |error e=>
  have he:e≠0:=Bv hD
  simp only[U5,seval,stR,stO,he,bE]
  exact HK (HL (by rfl) (ab rfl) (by rfl)) (by rfl)
 |ok s'=>
  simp only[D5,seval,stR,stO,ai,UX,aae]
  exact HK (HL (by rfl) (ab rfl) (by rfl)) (by rfl)
def qh (l:List Cl):C:=.sl (l.map clC)
theorem HN {s s':Sy} {c:Cl} {n:Nat} {l:List Cl} (h:bG p s c=.ok s'):ji p s n (c::l)=ji p s' (n+1) l:=by conv=>lhs;unfold ji;rw[h]
theorem HO {s:Sy} {c:Cl} {n:Nat} {l:List Cl} {e:Int} (h:bG p s c=.error e):ji p s n (c::l)=(s,n,e):=by unfold ji;rw[h]
theorem xj {p:Pol}:∀ (l:List Cl) (s:Sy) (n:Nat),ji p s n l=((ji p s 0 l).1,n+(ji p s 0 l).2.1,(ji p s 0 l).2.2)
 |[],s,n=>rfl
 |c::l,s,n=>by
  unfold ji
  split
  ·rename_i s' _
   rw[xj l s' (n+1),xj l s' (0+1)]
   simp only[dp,fm,fq];omega
  ·rfl
set_option maxHeartbeats 1000000 in
theorem PP (hp:POk p) (l:List Cl) (hl:l.length≤1000):FnOK Tryz.prog glM 11 [.agg (poC p),.c (qh l)] (.tup [.agg (syC (ji p sy0 0 l).1),i64 (ji p sy0 0 l).2.1,i64 (ji p sy0 0 l).2.2]):=by
 refine bP (rs:=[.cell 4 35,.tmp 5,.tmp 6]) false [] mixed Tryz.func11 rfl rfl rfl rfl (by kernel_rfl) (by simp) rfl rfl ?_
 have hz:eF [V.ow none [],.ow none [],.ow none [],.ow none [],i64 0] 0 [V.c (.sl []),.c (.sl []),.c (.sl []),.c (.sl []),i64 0]=(syC sy0).map .c:=rfl
 simp only[U5,seval,hz,qh,ap]
 refine cZ (fun x:Nat×Sy=>hdS [(1,.c (qh l)),(2,.bp 0 0),(4,.bp 1 0),(7,.bp 2 0),(13,.c (qh l)),(14,i64 l.length),(15,i64 x.1)] [(poC p).map .c,[.ow none [],.ow none [],.ow none [],.ow none [],i64 0],(syC x.2).map .c]) (fun x=>l.length - x.1)
  (fun x=>x.1≤l.length∧SyOk x.2∧ji p sy0 0 l=ji p x.2 x.1 (l.drop x.1)) (0,sy0) ⟨aA _,Uk,rfl⟩ ?_ ?_
 ·refine cR rfl (aA _) (by simp) ?_ ?_
  ·simp[FL,ar,qh]
  ·simp[BL,ar]
 rintro⟨i,s⟩ ⟨hi,hS,hrun⟩ R hnorm hexit hret
 simp only at hi hS hrun
 simp only[pkA,seval,qh]
 refine aZ (fun hlt=>?_) (fun hge=>?_)
 ·have hlt:i<l.length:=by simpa using hlt
  rw[cm hlt] at hrun
  simp only[pkA,seval]
  refine dL uK rfl ko (by decide) (aM i) (c:=clC l[i]) (by simp[hlt]) (sV _) ?_
  simp only[U4,seval,PM]
  refine aD («as»:=[.agg (poC p),.agg (syC s),.agg (clC l[i])]) rfl (pj (c:=l[i]) hp hS) (fun h=>(by cases h)) ?_
  simp only[D5,seval]
  cases hD:bG p s l[i] with
  |error e=>
   have he:e≠0:=Bv hD
   have hr:ji p sy0 0 l=(s,i,e):=by rw[hrun,HO hD]
   simp only[D5,seval,stR,he,bE]
   refine hret _ ?_
   simp only[pkA]
   rw[hr]
   exact D4 (HL (by rfl) (ab rfl) (by rfl)) (by rfl) (by rfl)
  |ok s'=>
   have hr:ji p sy0 0 l=ji p s' (i+1) (l.drop (i+1)):=by rw[hrun,HN hD]
   simp only[D5,seval,stR,ai]
   have hw:=wrap_i64 (i+1) (by omega)
   refine hnorm (i+1,s') _ ⟨hlt,sX hS hp.t hD,hr⟩ (by simp only;omega) (cR rfl (aA _) (by simp) ?_ ?_)
   ·simp[FL,ar,qh,hw]
   ·simp[BL,ar,bxs,PL]
 ·have:i=l.length:=by simp at hge;omega
  subst this
  have hr:ji p sy0 0 l=(s,l.length,0):=by rw[hrun,ic];rfl
  simp only[pkA]
  refine hexit _ _ ?_
  simp only[D5,seval,ap]
  rw[hr]
  exact D4 (HL (by rfl) (ab rfl) (by rfl)) (by rfl) (by rfl)
