/- Layer 16: a call is executed: do. -/
import Derived.Test.YtegbpjodbjhjeaaGreatDoorVlMd
import Derived.Test.YtegbpjodbjhjeaaGreatDoorVlM8
import Derived.Test.YtegbpjodbjhjeaaGreatDoorVlM9
import Derived.Test.YtegbpjodbjhjeaaGreatDoorKpVlRefV
set_option maxHeartbeats 2000000
set_option linter.all false
namespace Go.Proofs.YtegbpjodbjhjeaaGreatDoor
open Go Go.Vl
open Kp (Pol Ty Ru Qu poC tyC ruC quC)
variable {G:Gl} {p:Pol} {s:Sy} {c:Cl}
set_option maxRecDepth 10000
abbrev trO:List Nat:=[3000002,2900003,2900004,1000068]
theorem Ee {P:Program} {tr:List Nat} {t:Nat} {g:FuncId} {k m:Nat} {rest:Code} {r:V} {b1:List (List V)} {rs:List ResultVar} {s:Vl.S}:KY P G tr t g k rest r b1 rs m s=(∃ cs,(s.fr t=.clo (.func g) [] cs/\cs.length=k)/\s.nb=ou tr/\pwp P G tr (MI P G tr g k cs (ou tr) r b1 rs m) rest (vJ P (ou tr) r b1 rs) s):=rfl
theorem adY:ou trO=2:=rfl
def VD:=jj @pkA @ptA
theorem agE {e:Int} {fr:Nat->V} {bx:Nat->List V} {nb:Nat} {x:C} (h2:fr 2=.bp 1 0) (h0:bx 0=mB p s c) (h1:bx 1=[V.c x]) (zO:2<=nb) :
 MI Tryz.prog glM trO 68 1 [.bp 1 0] 2 (i64 e) [mB p s c,[i64 e]] [.cell 2 36] 69 (pnV e) ⟨fr,bx,nb⟩:=by
 refine⟨68,[(2,0,36,.int .i64 e,i64 e)],by decide,adW e,?_⟩;refine⟨⟨by decide,⟨1,0,h2,rfl⟩,λI w=>.c _ _ (.lit _ rfl)⟩,?_⟩;have hs:fW [V.c x] 0 [i64 e]=[i64 e]:=rfl;simp only[VD,seval,h2,h1,hs];refine⟨by omega,?_⟩;refine⟨[(2,.bp 1 0)],bT rfl (ai 2) zO ⟨by simp[aw,h2],trivial⟩ ⟨by simp[aw,h0],by simp[],trivial⟩,?_⟩;refine (nC Iu rfl (b:=1) (o:=0)).mpr ⟨rfl,?_⟩;exact⟨by decide,rfl⟩
theorem NB {e:Int} {fr:Nat->V} {bx:Nat->List V} {nb:Nat} {x:C} (h2:fr 2=.bp 1 0) (h0:bx 0=mB p s c) (h1:bx 1=[V.c x]) (zO:2<=nb) :
 MI Tryz.prog glM trO 68 1 [.bp 1 0] (ou trO) (i64 (stR (Except.error e:Ou)).2) [mB p (stO s (.error e)) c,[i64 (stR (Except.error e:Ou)).2]] [.cell 2 36] Tryz.f35.ntmps (pnV e) ⟨fr,bx,nb⟩:=agE h2 h0 h1 zO
theorem Jg {P:Program} {T e:TypeId} {i j:TI} {n:Nat} {z:List C} {parts:List (Nat×V)} {vs:List V} {K:V->Prop} (hT:ti P T=some i) (hk:i.kd=.arr n e) (hz:i.zero=some z) (hE:ti P e=some j)
 (h1:jk ((List.range n).map λi=>(i*j.size,j.size,j.agg)) parts z=none) (h2:nj ((List.range n).map λi=>(i*j.size,j.size,j.agg)) parts (z.map .c)=some vs) (hK:K (.mag vs)):gI P T parts K:=by
 obtain⟨a1,a2,a3,a4,a5,a6,a7⟩:=i;simp only at hk hz;subst hk;subst hz;simp only[gI,hT,hE,h1,h2];exact hK
def bmL:List V:=[.bm 69 0 0,.bm 70 0 0,.bm 71 0 0,.bm 72 0 0,.bm 73 0 0,.bm 74 0 0,.bm 75 0 0,.bm 76 0 0,.bm 77 0 0,.bm 78 0 0,.bm 79 0 0,.bm 80 0 0,.bm 81 0 0,.bm 82 0 0,.bm 83 0 0,.bm 84 0 0]
def NC:=jj @pkX (jj @pkA @ptA)
def Eg:=jj @pkX (jj @pkA (jj @ptA @pkM))
def VF:=jj @pkX @pkA
theorem adZ (hp:p.types.length<=8) (hr:p.rules.length<=40) (hq:p.quorums.length<=1000) (hP:Kp.PolIn p) (hS:SyOk s) (bad0:(inI (c.kind - 1) 16&&Kp.mh p)=false):FnB Tryz.prog glM 35 [.bp 0 0] [mB p s c] (i64 (stR (fp p s c)).2) [mB p (stO s (fp p s c)) c,[i64 (stR (fp p s c)).2]]:=by
 have bad:fp p s c=.error 1:=by unfold fp fw;rw[bad0];rfl
 have hV:=Kp.IZ Nv p hP (by unfold Kp.lh;omega);refine MJ (rs:=[.cell 2 36]) 1 trO mixed Tryz.func35 rfl rfl rfl rfl (by simp) (by kernel_rfl) (by kernel_rfl) ⟨rfl,rfl,by decide⟩ ⟨rfl,rfl,rfl⟩ Nz rfl (fL rfl) (by simp) rfl ?_;simp only[NC,seval,ao,Ie,Ee];refine⟨_,⟨rfl,rfl⟩,rfl,?_⟩;have lV:dE bmL=false:=rfl;have nI:fW (ach 16 (V.c (C.lit Value.nilFunc))) 0 bmL=bmL:=rfl;refine Jg (vs:=bmL) Iv rfl rfl Yv rfl rfl ?_;simp only[Eg,bV,seval,ao,ah];refine⟨rfl,⟨rfl,ai _⟩,?_⟩;rw[nI];by_cases h1:1<=c.kind
 case neg=>rw[bad];simp only[VF,bV,seval,h1,aO];exact .inl (.inr (uX rfl rfl (j5 1) rfl (NB (by rfl) (by rfl) (by rfl) (ae rfl))))
 by_cases h2:c.kind<=16
 case neg=>rw[bad];simp only[Eg,bV,seval,ao,ah,h1,h2,aO,ah];exact .inl (.inr (uX rfl rfl (j5 1) rfl (NB (by rfl) (by rfl) (by rfl) (ae rfl))))
 simp only[Eg,bV,seval,ao,ah,h1,h2,ah];refine .inl (ax rfl hV (λ_=>rfl) ?_);have hv:Kp.mh p=false:=by rw[show inI (c.kind - 1) 16=true by simp[inI];omega] at bad0;exact bad0
 rw[bad];simp only[VF,bV,seval,hv];exact .inr (uX rfl rfl (j5 1) rfl (NB (by rfl) (by rfl) (by rfl) (ae rfl)))
theorem lQ (hp:p.types.length<=8) (hr:p.rules.length<=40) (hq:p.quorums.length<=1000) (hP:Kp.PolIn p) (hS:SyOk s) (hv:Kp.mh p=true) (j:Nat) (g:FuncId) (hj:j<16) (hk:c.kind=((j+1:Nat):Int)) (hl:∀ K:V->Prop,ldB 3 2 bmL j K=K (.clo (.func g) [.bp 0 0] []))
 (hO:FnO Tryz.prog glM g [.bp 0 0] [mB p s c] (oP (doM p s c (j+1))) (.tup []) [mB p (stO s (doM p s c (j+1))) c]):FnB Tryz.prog glM 35 [.bp 0 0] [mB p s c] (i64 (stR (fp p s c)).2) [mB p (stO s (fp p s c)) c,[i64 (stR (fp p s c)).2]]:=by
 have hV:=Kp.IZ Nv p hP (by unfold Kp.lh;omega);refine MJ (rs:=[.cell 2 36]) 1 trO mixed Tryz.func35 rfl rfl rfl rfl (by simp) (by kernel_rfl) (by kernel_rfl) ⟨rfl,rfl,by decide⟩ ⟨rfl,rfl,rfl⟩ Nz rfl (fL rfl) (by simp) rfl ?_;simp only[NC,seval,ao,Ie,Ee];refine⟨_,⟨rfl,rfl⟩,rfl,?_⟩;have lV:dE bmL=false:=rfl;have nI:fW (ach 16 (V.c (C.lit Value.nilFunc))) 0 bmL=bmL:=rfl;refine Jg (vs:=bmL) Iv rfl rfl Yv rfl rfl ?_;simp only[Eg,bV,seval,ao,ah];refine⟨rfl,⟨rfl,ai _⟩,?_⟩;rw[nI];have h1:1<=c.kind:=by omega
 have h2:c.kind<=16:=by omega
 simp only[Eg,bV,seval,ao,ah,h1,h2,ah];refine .inl (ax rfl hV (λ_=>rfl) ?_);have good:fp p s c=doM p s c c.kind.toNat:=by unfold fp fw;rw[hv,if_pos (by simp[inI];omega)];rfl
 simp only[VF,bV,seval,hv];refine .inl (ax rfl (pF 1) (λ_=>rfl) ?_);simp only[Eg,bV,seval,ao,ah];have hg:fp p s c=doM p s c (j+1):=by rw[good,hk,fq]
 have hw:IntKind.i64.wrap (c.kind - 1)=j:=by rw[hk,show((j+1:Nat):Int) - 1=(j:Int) by omega];exact wrap_i64 j (by omega)
 refine ab1 Iv rfl Yv (by rw[hw];omega) (by rw[hw];omega) ?_;have sW:(IntKind.i64.wrap (c.kind - 1)).toNat=j:=by rw[hw];rfl
 rw[sW];simp only[NC,bV,seval,ao,ah,lV,Nat.mul_one,hl];rw[hg];cases hD:doM p s c (j+1) with
 |error e=>rw[hD] at hO;exact .inr (js 0 rfl rfl hO rfl (ae rfl) rfl bz (NB (by rfl) (by rfl) (by rfl) (ae rfl)))
 |ok s'=>rw[hD] at hO;refine .inl (oY 0 rfl hO rfl (ae rfl) rfl rfl ?_);simp only[NC,seval,ao,ah];refine eO [(2,.bp 1 0)] rfl rfl (Nat.le_of_eq adY) (ae rfl) ⟨rfl,trivial⟩ ⟨rfl,rfl,trivial⟩ ?_;rw[o8];exact(nC Iu rfl (b:=1) (o:=0)).mpr ⟨rfl,ai _,rfl⟩
theorem agF (hp:p.types.length<=8) (hr:p.rules.length<=40) (hq:p.quorums.length<=1000) (hP:Kp.PolIn p) (hS:SyOk s):FnB Tryz.prog glM 35 [.bp 0 0] [mB p s c] (i64 (stR (fp p s c)).2) [mB p (stO s (fp p s c)) c,[i64 (stR (fp p s c)).2]]:=by
 by_cases hb:(inI (c.kind - 1) 16&&Kp.mh p)=true
 .simp only[aA] at hb
  obtain⟨hb,hv⟩:=hb;have hb:=D6 hb;have hk:c.kind=1∨c.kind=2∨c.kind=3∨c.kind=4∨c.kind=5∨c.kind=6∨c.kind=7∨c.kind=8∨c.kind=9∨c.kind=10∨c.kind=11∨c.kind=12∨c.kind=13∨c.kind=14∨c.kind=15∨c.kind=16:=by omega
  rcases hk with hk | hk | hk | hk | hk | hk | hk | hk | hk | hk | hk | hk | hk | hk | hk | hk
  .exact lQ hp hr hq hP hS hv 0 _ (by decide) hk (λK=>propext ⟨λh=>h.2,λh=>⟨by decide,h⟩⟩) (Jd hp hr hS)
  .exact lQ hp hr hq hP hS hv 1 _ (by decide) hk (λK=>propext ⟨λh=>h.2,λh=>⟨by decide,h⟩⟩) (ZA hp hr hS)
  .exact lQ hp hr hq hP hS hv 2 _ (by decide) hk (λK=>propext ⟨λh=>h.2,λh=>⟨by decide,h⟩⟩) (B5 hp hr hS)
  .exact lQ hp hr hq hP hS hv 3 _ (by decide) hk (λK=>propext ⟨λh=>h.2,λh=>⟨by decide,h⟩⟩) (LG hp hr hS)
  .exact lQ hp hr hq hP hS hv 4 _ (by decide) hk (λK=>propext ⟨λh=>h.2,λh=>⟨by decide,h⟩⟩) (LH hp hr hS)
  .exact lQ hp hr hq hP hS hv 5 _ (by decide) hk (λK=>propext ⟨λh=>h.2,λh=>⟨by decide,h⟩⟩) (adX hp hr hS)
  .exact lQ hp hr hq hP hS hv 6 _ (by decide) hk (λK=>propext ⟨λh=>h.2,λh=>⟨by decide,h⟩⟩) (Zz hp hr hS)
  .exact lQ hp hr hq hP hS hv 7 _ (by decide) hk (λK=>propext ⟨λh=>h.2,λh=>⟨by decide,h⟩⟩) (Qk hp hr hS)
  .exact lQ hp hr hq hP hS hv 8 _ (by decide) hk (λK=>propext ⟨λh=>h.2,λh=>⟨by decide,h⟩⟩) (LI hp hr hS)
  .exact lQ hp hr hq hP hS hv 9 _ (by decide) hk (λK=>propext ⟨λh=>h.2,λh=>⟨by decide,h⟩⟩) (Gv hp hr hS)
  .exact lQ hp hr hq hP hS hv 10 _ (by decide) hk (λK=>propext ⟨λh=>h.2,λh=>⟨by decide,h⟩⟩) (Qj hp hr hS)
  .exact lQ hp hr hq hP hS hv 11 _ (by decide) hk (λK=>propext ⟨λh=>h.2,λh=>⟨by decide,h⟩⟩) (Zy hp hr hS)
  .exact lQ hp hr hq hP hS hv 12 _ (by decide) hk (λK=>propext ⟨λh=>h.2,λh=>⟨by decide,h⟩⟩) (Je hp hr hS)
  .exact lQ hp hr hq hP hS hv 13 _ (by decide) hk (λK=>propext ⟨λh=>h.2,λh=>⟨by decide,h⟩⟩) (LJ hp hr hS)
  .exact lQ hp hr hq hP hS hv 14 _ (by decide) hk (λK=>propext ⟨λh=>h.2,λh=>⟨by decide,h⟩⟩) (LK hp hr hS)
  .exact lQ hp hr hq hP hS hv 15 _ (by decide) hk (λK=>propext ⟨λh=>h.2,λh=>⟨by decide,h⟩⟩) (Jf hp hr hS)
 .exact adZ hp hr hq hP hS (by simpa using hb)
structure POk (p:Pol):Prop where
 t:p.types.length<=8
 r:p.rules.length<=40
 q:p.quorums.length<=1000
 i:Kp.PolIn p
theorem ai2 (hp:POk p) (hS:SyOk s):FnB Tryz.prog glM 35 [.bp 0 0] [mB p s c] (i64 (stR (fp p s c)).2) [mB p (stO s (fp p s c)) c]:=
 If [[i64 (stR (fp p s c)).2]] (agF hp.t hp.r hp.q hp.i hS) (ai _) (by simp[yN]) rfl
section
variable {nb q:Nat} {K:V->Prop} {x y z u v:V}
end
def xz:=jj @Gm (jj @Zp @Kp.Nl)
theorem VG {s s':Sy}:fW ((syC s).map V.c) 0 ((syC s').map V.c)=(syC s').map V.c:=rfl
theorem ad0 {c:Cl} {x y z u v:V}:fW [x,y,z,u,v] 0 ((clC c).map V.c)=(clC c).map V.c:=rfl
theorem jA {P:Program} {fr:Nat->V} {bx:Nat->List V} {nb:Nat} {d e:V} {p q:Tmp} {T:TypeId} (h1:dJ P T ⟨fr,bx,nb⟩ (fr p) λv=>v.fz=d) (h2:(fr q).fz=e):qC P false ⟨fr,bx,nb⟩ (.tup [d,e]) [.cell p T,.tmp q]:=by
 refine⟨_,rfl,rfl,λi R x hR hx=>?_⟩
 match i with
 |0=>simp only[bJ,ap] at hR hx;subst hR;subst hx;exact h1
 |1=>simp only[cU,bJ,ap] at hR hx;subst hR;subst hx;exact h2
 |n+2=>simp at hR
theorem xA {P:Program} {fr:Nat->V} {bx:Nat->List V} {nb:Nat} {d e g:V} {p q r:Tmp} {T:TypeId} (h1:dJ P T ⟨fr,bx,nb⟩ (fr p) λv=>v.fz=d) (h2:(fr q).fz=e) (h3:(fr r).fz=g):qC P false ⟨fr,bx,nb⟩ (.tup [d,e,g]) [.cell p T,.tmp q,.tmp r]:=by
 refine⟨_,rfl,rfl,λi R x hR hx=>?_⟩
 match i with
 |0=>simp only[bJ,ap] at hR hx;subst hR;subst hx;exact h1
 |1=>simp only[cU,bJ,ap] at hR hx;subst hR;subst hx;exact h2
 |2=>simp only[cU,bJ,ap] at hR hx;subst hR;subst hx;exact h3
 |n+3=>simp at hR
theorem l6 {fr:Nat->V} {bx:Nat->List V} {nb b:Nat} {x:V} (hx:x=.bp b 0) (hb:b<nb) (h:bx b=(syC s).map .c):dJ Tryz.prog 35 ⟨fr,bx,nb⟩ x λv=>v.fz=.agg (syC s):=by subst hx;refine (mT sE rfl rfl (b:=b) (o:=0)).mpr ⟨by rw[h];exact agv,?_⟩;rw[h,adQ];exact⟨hb,rfl⟩
theorem kO {flds:List (Nat×Nat×Bool)} {z cs:List C} {parts:List (Nat×V)} {K:V->Prop} {o:Option (List C)} (h:o=some cs) (hK:K (.agg cs)):tG flds z parts K o:=by subst h;exact hK
theorem ZB {α β:Type} {x:Except Int α} {f:α->Except Int β} {e:Int} (h:(x >>=f)=.error e):x=.error e∨∃ a,x=.ok a/\f a=.error e:=by
 cases x with
 |error e'=>exact .inl (by cases h;rfl)
 |ok a=>exact .inr ⟨a,rfl,h⟩
theorem ZC {b:Bool} {e e':Int} (h:fw b e=.error e'):e'=e:=by unfold fw at h;split at h<;>cases h;rfl
theorem ad1 {α:Type} {l:List α} {k e:Int} (h:ofI l k=.error e):e=1:=by unfold ofI at h;split at h<;>cases h;rfl
theorem VH {t key:Tm} {ks:List Int} {e:Int} (h:iH t key ks=.error e):e=8:=by unfold iH at h;split at h<;>cases h;rfl
theorem VI {s:Sy} {t:Tm} {e:Int} (h:gy s t=.error e):e=2:=by unfold gy at h;split at h<;>cases h;rfl
theorem ZD {s:Sy} {t:Int} {v:Tm} {e:Int} (h:lY s t v=.error e):e=2:=by unfold lY at h;split at h<;>cases h;rfl
theorem ND {α β:Type} {x:Except Int α} {f:α->Except Int β} (h1:∀ e,x=.error e->e≠0) (h2:∀ a e,f a=.error e->e≠0):∀ e,(x >>=f)=.error e->e≠0:=λe h=>by
 rcases ZB h with h | ⟨a,_,h⟩
 .exact h1 e h
 .exact h2 a e h
theorem agG {b:Bool} {k:Int} (hk:k≠0):∀ e,fw b k=.error e->e≠0:=λe h=>by rw[ZC h];exact hk
theorem ai3 {α:Type} {l:List α} {k:Int}:∀ e,ofI l k=.error e->e≠0:=λe h=>by rw[ad1 h];decide
theorem agH {t key:Tm} {ks:List Int}:∀ e,iH t key ks=.error e->e≠0:=λe h=>by rw[VH h];decide
theorem ai4 {s:Sy} {t:Tm}:∀ e,gy s t=.error e->e≠0:=λe h=>by rw[VI h];decide
theorem ai5 {s:Sy} {t:Int} {v:Tm}:∀ e,lY s t v=.error e->e≠0:=λe h=>by rw[ZD h];decide
theorem agI {s:Sy}:∀ e:Int,(Except.ok s:Ou)=.error e->e≠0:=λe h=>by cases h
theorem agJ {n:Nat}:∀ e,doM p s c n=.error e->e≠0:=by
 unfold doM;split
 all_goals
  repeat' first
   |exact ai4
   |exact ai5
   |exact agI
   |exact agG (by decide)
   |exact ai3
   |exact agH
   |refine ND ?_ (λa=>?_)
 intro e h;cases h;decide
theorem Gw {e:Int} (h:fp p s c=.error e):e≠0:=ND (agG (by decide)) (λ_=>agJ) e h
def aaI:=jj @pkA (jj @ptA @xz)
def Jh:=jj @pkA (jj @ptA (jj @pkS @xz))
theorem uP (hp:POk p) (hS:SyOk s):FnOK Tryz.prog glM 14 [.agg (poC p),.agg (syC s),.agg (clC c)] (.tup [.agg (syC (stR (fp p s c)).1),i64 (stR (fp p s c)).2]):=by
 refine bD (rs:=[.cell 6 35,.tmp 7]) false [1000016] mixed Tryz.func14 rfl rfl rfl rfl (by kernel_rfl) (by simp) rfl rfl ?_;simp only[aaI,seval];refine kO (cs:=mC p s c) rfl ?_;simp only[pkA,seval];refine oY 4 rfl (ai2 (c:=c) hp hS) rfl (ae rfl) rfl rfl ?_;simp only[pkA,seval];cases hD:fp p s c with
 |error e=>have he:e≠0:=Gw hD;simp only[VD,seval,stR,stO,he,aO];exact jA (l6 (by rfl) (ae rfl) (by rfl)) (by rfl)
 |ok s'=>simp only[Jh,seval,stR,stO,ah,aay,agB];exact jA (l6 (by rfl) (ae rfl) (by rfl)) (by rfl)
def sR (l:List Cl):C:=.sl (l.map clC)
theorem NF {s s':Sy} {c:Cl} {n:Nat} {l:List Cl} (h:fp p s c=.ok s'):lZ p s n (c::l)=lZ p s' (n+1) l:=by conv=>lhs;unfold lZ;rw[h]
theorem NG {s:Sy} {c:Cl} {n:Nat} {l:List Cl} {e:Int} (h:fp p s c=.error e):lZ p s n (c::l)=(s,n,e):=by unfold lZ;rw[h]
theorem VJ (hp:POk p) (l:List Cl) (hl:l.length<=1000):FnOK Tryz.prog glM 11 [.agg (poC p),.c (sR l)] (.tup [.agg (syC (lZ p sy0 0 l).1),i64 (lZ p sy0 0 l).2.1,i64 (lZ p sy0 0 l).2.2]):=by
 refine bD (rs:=[.cell 4 35,.tmp 5,.tmp 6]) false [] mixed Tryz.func11 rfl rfl rfl rfl (by kernel_rfl) (by simp) rfl rfl ?_;have hz:fW [V.ow none [],.ow none [],.ow none [],.ow none [],i64 0] 0 [V.c (.sl []),.c (.sl []),.c (.sl []),.c (.sl []),i64 0]=(syC sy0).map .c:=rfl;simp only[VD,seval,hz,sR,aj];refine cm (λx:Nat×Sy=>hdS [(1,.c (sR l)),(2,.bp 0 0),(4,.bp 1 0),(7,.bp 2 0),(13,.c (sR l)),(14,i64 l.length),(15,i64 x.1)] [(poC p).map .c,[.ow none [],.ow none [],.ow none [],.ow none [],i64 0],(syC x.2).map .c]) (λx=>l.length - x.1)
  (λx=>x.1<=l.length/\SyOk x.2/\lZ p sy0 0 l=lZ p x.2 x.1 (l.drop x.1)) (0,sy0) ⟨ar _,sok0,rfl⟩ ?_ ?_
 .refine bT rfl (ar _) (by simp) ?_ ?_
  .simp[FL,aw,sR]
  .simp[BL,aw]
 rintro⟨i,s⟩ ⟨hi,hS,bO⟩ R bN b8 db;simp only at hi hS bO;simp only[pkA,seval,sR];refine aJ (λbF=>?_) (λfu=>?_)
 .have bF:i<l.length:=by simpa using bF
  rw[cw bF] at bO;simp only[pkA,seval];refine cR MV rfl qU (by decide) (aC i) (c:=clC l[i]) (by simp[bF]) (Gm _) ?_;simp only[aaI,seval,ad0];refine ax («as»:=[.agg (poC p),.agg (syC s),.agg (clC l[i])]) rfl (uP (c:=l[i]) hp hS) (λh=>(by cases h)) ?_;simp only[Jh,seval];cases hD:fp p s l[i] with
  |error e=>have he:e≠0:=Gw hD;have hr:lZ p sy0 0 l=(s,i,e):=(by rw[bO,NG hD]);simp only[Jh,seval,stR,he,aO];refine db _ ?_;simp only[pkA];rw[hr];exact xA (l6 (by rfl) (ae rfl) (by rfl)) (by rfl) (by rfl)
  |ok s'=>
   have hr:lZ p sy0 0 l=lZ p s' (i+1) (l.drop (i+1)):=(by rw[bO,NF hD]);simp only[Jh,seval,stR,ah];have hw:=wrap_i64 (i+1) (by omega);refine bN (i+1,s') _ ⟨bF,ub hS hp.t hD,hr⟩ (by simp only;omega) (bT rfl (ar _) (by simp) ?_ ?_)
   .simp[FL,aw,sR,hw]
   .simp[BL,aw,bxs,VG]
 .have:i=l.length:=by simp at fu;omega
  subst this;have hr:lZ p sy0 0 l=(s,l.length,0):=by rw[bO,gd];rfl
  simp only[pkA];refine b8 _ _ ?_;simp only[Jh,seval,aj];rw[hr];exact xA (l6 (by rfl) (ae rfl) (by rfl)) (by rfl) (by rfl)
