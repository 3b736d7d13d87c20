/- Layer 16: the specification: a copy of a state. -/
import Derived.Test.YtegbpjodbjhjeaaGreatDoorVlRe
set_option maxHeartbeats 16000000
set_option linter.all false
namespace Go.Proofs.YtegbpjodbjhjeaaGreatDoor
open Go Go.Vl
open Kp (Pol Ty Ru Qu poC tyC ruC quC)
variable {G:Gl}
set_option maxRecDepth 10000
theorem rY {P:Program} {G:Gl} {s:Vl.S} {t d y:Nat} {v:Value} {E:Option (TypeId×Nat)} {es:List (List C)} {ts:List TypeId} {K:V->Prop} (h1:s.fr t=.c (.ex v)) (h2:s.fr d=.gh v E es) (h0:t≠d/\y≠t/\y≠d) (h:eH P .append ts [.ow E es,vw s (s.fr y)] K) :
 jl P G s (some d) ts [.tmp t,.tmp y] K:=by
 unfold jl;simp only[h1,h2];exact⟨⟨h0.1,trivial,λe=>h0.2.1 (by cases e;rfl),λe=>h0.2.2 (by cases e;rfl)⟩,h⟩
def owE (e:TypeId) (l:List (List C)) (sz:Nat):Option (TypeId×Nat):=if l.isEmpty then none else some (e,sz)
theorem NQ {T e:TypeId} {i j:TI} {z:List C} {ys:List (List C)} {K:V->Prop} (hT:ti Tryz.prog T=some i) (hk:i.kd=.slice e) (he:ti Tryz.prog e=some j) (hz:j.zero=some z) (h0:0<j.size/\z.length=j.size) (hb:j.bytes<=1000) (hl:ys.length<=1000000) (hy:∀ x∈ys,x.length=j.size)
 (hK:K (.ow (owE e ys j.size) ys)):dL Tryz.prog T (.ow none []) (.c (.sl ys)) K:=by
 unfold dL;simp only[hT];obtain⟨kd,sz,by_,ag,ze,fl,eq⟩:=i;simp only at hk;subst hk;simp only[he];obtain⟨kd,sz,by_,ag,ze,fl,eq⟩:=j;simp only at hz hb h0 hy hK;subst hz;simp only;refine⟨⟨h0.1,h0.2,.inl trivial,λ_ h=>by cases h⟩,⟨?_,by simp only[aL];omega,hy⟩,hK⟩;have:=Nat.mul_le_mul hl hb;simp only[aL,ao];omega
theorem Ce (l:List Hd):∀ x∈l.map hdC,x.length=4:=λx hx=>by obtain⟨c,_,rfl⟩:=ce.1 hx;exact ek c
theorem GG (l:List Tm):∀ x∈l.map tmC,x.length=3:=λx hx=>by obtain⟨c,_,rfl⟩:=ce.1 hx;exact bG c
def cpR (s:Sy) (r:V) (b1:List (List V)):Prop:=∃ v0 v1 v2 v3:Value,r=.agg [.ex v0,.ex v1,.ex v2,.ex v3,cI s.fresh]/\
 b1=[[.gh v0 (owE 49 (s.hs.map hdC) 4) (s.hs.map hdC),.gh v1 (owE 47 (s.its.map tmC) 3) (s.its.map tmC),.gh v2 (owE 49 (s.os.map hdC) 4) (s.os.map hdC),.gh v3 (owE 47 (s.rs.map tmC) 3) (s.rs.map tmC),i64 s.fresh],[.c (.ex v0),.c (.ex v1),.c (.ex v2),.c (.ex v3),i64 s.fresh]]
def xK:=jj @pkA (jj @ptA @pkS)
def lK:=jj @pkA @ptA
theorem Qw {s:Sy} (hS:SyOk s):FnE Tryz.prog G 39 [.agg (syC s)] [] (cpR s):=by
 refine yB (rs:=[.cell 2 35]) (k:=0) [3000000,2500006,2300002,2400011,2300003,2400017,2300004,2400023,2300005,2400029,2300006] mixed Tryz.func39 rfl rfl rfl rfl (by kernel_rfl) (by simp) (λr b1 h=>by obtain⟨_,_,_,_,rfl,_⟩:=h;rfl) rfl rfl rfl (λr b1 h=>ar _) ?_;have q0:∀ a b c d e x:V,fW [a,b,c,d,e] 0 [x]=[x,b,c,d,e]:=λ_ _ _ _ _ _=>rfl;have q1:∀ a b c d e x:V,fW [a,b,c,d,e] 1 [x]=[a,x,c,d,e]:=λ_ _ _ _ _ _=>rfl;have q2:∀ a b c d e x:V,fW [a,b,c,d,e] 2 [x]=[a,b,x,d,e]:=λ_ _ _ _ _ _=>rfl;have q3:∀ a b c d e x:V,fW [a,b,c,d,e] 3 [x]=[a,b,c,x,e]:=λ_ _ _ _ _ _=>rfl;have w0:fW [V.ow none [],.ow none [],.ow none [],.ow none [],i64 0] 0 [V.ow none [],.ow none [],.ow none [],.ow none [],i64 s.fresh]=[V.ow none [],.ow none [],.ow none [],.ow none [],i64 s.fresh]:=rfl;have w1:∀ n q a b c d K,ldB n q [a,b,c,d,i64 s.fresh] 0 K=ldB n q [a] 0 K:=λ_ _ _ _ _ _ _=>rfl;have w2:True:=trivial;have w3:True:=trivial;have LX:=hS.hn;have hn2:=hS.iN;have hn3:=hS.on;have hn4:=hS.rn;have ap0:∀ K,K (.ow (owE 49 (s.hs.map hdC) 4) (s.hs.map hdC))->dL Tryz.prog 32 (.ow none []) (.c (.sl (s.hs.map hdC))) K:=λK hK=>NQ ko rfl iT rfl ⟨by decide,rfl⟩ (by decide) (by simp;omega) (Ce _) hK;have ap1:∀ K,K (.ow (owE 47 (s.its.map tmC) 3) (s.its.map tmC))->dL Tryz.prog 33 (.ow none []) (.c (.sl (s.its.map tmC))) K:=λK hK=>NQ dc rfl cV rfl ⟨by decide,rfl⟩ (by decide) (by simp;omega) (GG _) hK;have ap2:∀ K,K (.ow (owE 49 (s.os.map hdC) 4) (s.os.map hdC))->dL Tryz.prog 32 (.ow none []) (.c (.sl (s.os.map hdC))) K:=λK hK=>NQ ko rfl iT rfl ⟨by decide,rfl⟩ (by decide) (by simp;omega) (Ce _) hK;have ap3:∀ K,K (.ow (owE 47 (s.rs.map tmC) 3) (s.rs.map tmC))->dL Tryz.prog 33 (.ow none []) (.c (.sl (s.rs.map tmC))) K:=λK hK=>NQ dc rfl cV rfl ⟨by decide,rfl⟩ (by decide) (by simp;omega) (GG _) hK;simp only[bX,xK,seval,w0];refine rJ 2 0 11 (E:=none) (es:=[]) rfl (show 2<3 by decide) rfl rfl ?_;intro u0;simp only[bX,xK,seval,hsC,Vl.S.split,fP,w1];refine rY (v:=u0) (E:=none) (es:=[]) rfl rfl (by decide) ?_;simp only[pkA,seval];refine ap0 _ ?_;simp only[bX,lK,seval,q0];refine rJ 2 1 17 (E:=none) (es:=[]) rfl (show 2<3 by decide) rfl rfl ?_;intro u1;simp only[bX,xK,seval,tsC,Vl.S.split,fP];refine rY (v:=u1) (E:=none) (es:=[]) rfl rfl (by decide) ?_;simp only[pkA,seval];refine ap1 _ ?_;simp only[bX,lK,seval,q1];refine rJ 2 2 23 (E:=none) (es:=[]) rfl (show 2<3 by decide) rfl rfl ?_;intro u2;simp only[bX,xK,seval,hsC,Vl.S.split,fP];refine rY (v:=u2) (E:=none) (es:=[]) rfl rfl (by decide) ?_;simp only[pkA,seval];refine ap2 _ ?_;simp only[bX,lK,seval,q2];refine rJ 2 3 29 (E:=none) (es:=[]) rfl (show 2<3 by decide) rfl rfl ?_;intro u3;simp only[bX,xK,seval,tsC,Vl.S.split,fP];refine rY (v:=u3) (E:=none) (es:=[]) rfl rfl (by decide) ?_;simp only[pkA,seval];refine ap3 _ ?_;simp only[bX,lK,seval,q3];refine Bg rfl (.splitC 2 0 0 0 (show 2<3 by decide) rfl rfl (show 0<3 by decide) rfl (by decide) rfl λv0=>.splitC 2 1 0 1 (show 2<3 by decide) rfl rfl (show 0<3 by decide) rfl (by decide) rfl λv1=>
  .splitC 2 2 0 2 (show 2<3 by decide) rfl rfl (show 0<3 by decide) rfl (by decide) rfl λv2=>.splitC 2 3 0 3 (show 2<3 by decide) rfl rfl (show 0<3 by decide) rfl (by decide) rfl λv3=>.done ?_)
 have hsy:List.map V.c (syC s)=[.c (hsC s.hs),.c (tsC s.its),.c (hsC s.os),.c (tsC s.rs),i64 s.fresh]:=rfl;simp only[lK,seval,hsy];refine⟨_,_,⟨v0,v1,v2,v3,rfl,rfl⟩,eO [(2,.bp 1 0)] rfl rfl (ar _) (show 2<=3 by decide) ⟨rfl,trivial⟩ ⟨rfl,rfl,trivial⟩ ?_⟩;rw[o8];refine (mT sE rfl rfl (b:=1) (o:=0)).mpr ⟨rfl,?_⟩;unfold ldA;exact⟨bH 1,⟨rfl,rfl⟩,rfl⟩
section
variable {r:Rs} {nb q:Nat} {K:V->Prop} {a b c d e f g h i:V}
theorem aja:ldA nb q ((rsC r).map V.c) 5 3 K=(q<nb/\K (.agg (tmC r.item))):=by unfold ldA;rw[fx];exact propext ⟨λh=>⟨h.1,h.2.2⟩,λh=>⟨h.1,⟨rfl,rfl⟩,h.2⟩⟩
theorem ajb:ldA nb q ((rsC r).map V.c) 2 3 K=(q<nb/\K (.agg (tmC r.h.va))):=by unfold ldA;rw[fx];exact propext ⟨λh=>⟨h.1,h.2.2⟩,λh=>⟨h.1,⟨rfl,rfl⟩,h.2⟩⟩
theorem ajc:ldA nb q ((rsC r).map V.c) 1 4 K=(q<nb/\K (.agg (hdC r.h))):=by unfold ldA;exact propext ⟨λh=>⟨h.1,h.2.2⟩,λh=>⟨h.1,⟨rfl,rfl⟩,h.2⟩⟩
theorem agY:dZ false 1 0 (rsC r) K=K (bo r.handle):=rfl
theorem agZ:dZ false 1 8 (rsC r) K=K (i64 r.e):=rfl
theorem aef:fW [a,b,c,d,e,f,g,h,i] 0 ((rsC r).map V.c)=(rsC r).map V.c:=rfl
theorem aeg:(rsC r).length=9:=rfl
end
def aeh:=jj @aja (jj @ajb (jj @ajc (jj @agY (jj @agZ (jj @aef @aeg)))))
theorem Jw {T e:TypeId} {i j:TI} {z x:List C} {es:List (List C)} {K:V->Prop} (hT:ti Tryz.prog T=some i) (hk:i.kd=.slice e) (he:ti Tryz.prog e=some j) (hz:j.zero=some z) (h0:0<j.size/\z.length=j.size) (hb:j.bytes<=1000) (hl:es.length<=1000000) (qM:∀ x∈es,x.length=j.size) (hx:x.length=j.size)
 (hK:K (.ow (some (e,j.size)) (es++[x]))):dL Tryz.prog T (.ow (owE e es j.size) es) (.c (.sl [x])) K:=by
 unfold dL;simp only[hT];obtain⟨kd,sz,by_,ag,ze,fl,eq⟩:=i;simp only at hk;subst hk;simp only[he];obtain⟨kd,sz,by_,ag,ze,fl,eq⟩:=j;simp only at hz hb h0 hx qM hK ⊢;subst hz;simp only;refine⟨⟨h0.1,h0.2,?_,qM⟩,⟨?_,?_,λy hy=>by simp at hy;subst hy;exact hx⟩,hK⟩
 .unfold owE;split
  .exact .inl rfl
  .exact .inr rfl
 .have h1:es.length+[x].length<=1000001:=by simp only[aI,aL];omega
  have:=Nat.mul_le_mul h1 hb;omega
 .simp only[aI,aL];omega
theorem ZP {P:Program} {s:Vl.S} {f:V} {args all cargs:List V} {g:FuncId} {K:Vl.S->V->Prop} {R:V->List (List V)->Prop} (hc:eB f args=some (g,all)) (hf:FnE P G g cargs [] R) (dC:∀ ρ,all.map V.fz=cargs.map (V.ren ρ))
 (hK:∀ r b1,R r b1->K { s with bx:=fC (rho [] s.nb) 0 b1 s.bx,nb:=s.nb+b1.length } (r.ren (rho [] s.nb))):mK P G s f args K:=by
 unfold mK;simp only[hc];exact⟨[],cargs,[],R,hf,dC _,⟨rfl,ir⟩,trivial,λr b1 h=>hK r b1 h⟩
theorem aei {f:Nat->List V} {v0 v1 v2 v3:Value} {E0 E1 E2 E3:Option (TypeId×Nat)} {l0 l1 l2 l3:List (List C)} {w:Int}:fC (rho [] 5) 0 [[.gh v0 E0 l0,.gh v1 E1 l1,.gh v2 E2 l2,.gh v3 E3 l3,i64 w],[.c (.ex v0),.c (.ex v1),.c (.ex v2),.c (.ex v3),i64 w]] f=
 up (up f 5 [.gh v0 E0 l0,.gh v1 E1 l1,.gh v2 E2 l2,.gh v3 E3 l3,i64 w]) 6 [.c (.ex v0),.c (.ex v1),.c (.ex v2),.c (.ex v3),i64 w]:=rfl
theorem ajd {n:Int}:V.c (cI n)=i64 n:=rfl
theorem aej {ρ:Nat->Nat} {cs:List C}:V.ren ρ (.agg cs)=.agg cs:=rfl
theorem Qx {p:Pol} {s:Sy} {c:Cl} (hS:SyOk s) (hf:m9 p s c=true):bi (fD p s c c.kind.toNat).item<=1000/\bi (fD p s c c.kind.toNat).h.va<=1000:=by
 have hk:=LO hf;have hF:=GF hf;obtain⟨k,a,b,m,t⟩:=c;simp only at hk hF ⊢
 have z:bi gV<=1:=by decide
 have sh:∀ k,bi (hAt s k).va<=100:=λk=>by
  unfold hAt;cases e:eD s.hs k with
  |none=>show bi gV<=100;omega
  |some x=>exact(hS.hv _ (jQ e)).2.1
 have si:∀ k,bi (iAt s k)<=100:=λk=>by
  unfold iAt;cases e:eD s.its k with
  |none=>show bi gV<=100;omega
  |some x=>exact(hS.iv _ (jQ e)).2
 have sn:∀ x:Tm,bi x<=100->bi (pX x)<=100:=λx hx=>by
  obtain⟨k,n,l⟩:=x;unfold pX
  match l,hx with
  |[],_=>show bi gV<=100;omega
  |[_],_=>show bi gV<=100;omega
  |_::y::_,hx=>simp only[bi,cz] at hx;show bi y<=100;omega
 have h1:=sh a;have h2:=sh b;have h3:=si m;have h4:=si a;have h5:=sn _ h3;rcases hk with rfl | rfl | rfl | rfl | rfl | rfl | rfl | rfl | rfl | rfl | rfl | rfl | rfl | rfl | rfl | rfl
 all_goals simp only[Int.reduceToNat,fD,rsH,rsI,rsE,gr]
 all_goals (try split)
 all_goals (try split)
 all_goals (try simp only[bi,cz])
 all_goals omega
def V7:=jj @pkA (jj @ptA (jj @xz (jj @pkS @Kp.pkP)))
def zI:=jj @pkA (jj @ptA @aeh)
def aa2:=jj @pkA (jj @ptA (jj @aeh @pkT))
def aa3:=jj @pkA (jj @ptA (jj @pkS @aeh))
theorem V8 {p:Pol} {s:Sy} {c:Cl} (hp:POk p) (hS:SyOk s):FnOK Tryz.prog glM 15 [.agg (poC p),.agg (syC s),.agg (clC c)] (.tup [.agg (syC (vd p s c).1),i64 (vd p s c).2]):=by
 have hz:fW [V.ow none [],.ow none [],.ow none [],.ow none [],i64 0] 0 [V.c (.sl []),.c (.sl []),.c (.sl []),.c (.sl []),i64 0]=(syC sy0).map .c:=rfl;have q0:∀ a b c d e x:V,fW [a,b,c,d,e] 0 [x]=[x,b,c,d,e]:=λ_ _ _ _ _ _=>rfl;have q1:∀ a b c d e x:V,fW [a,b,c,d,e] 1 [x]=[a,x,c,d,e]:=λ_ _ _ _ _ _=>rfl;have q2:∀ a b c d e x:V,fW [a,b,c,d,e] 2 [x]=[a,b,x,d,e]:=λ_ _ _ _ _ _=>rfl;have q3:∀ a b c d e x:V,fW [a,b,c,d,e] 3 [x]=[a,b,c,x,e]:=λ_ _ _ _ _ _=>rfl;have q4:∀ a b c d e x:V,fW [a,b,c,d,e] 4 [x]=[a,b,c,d,x]:=λ_ _ _ _ _ _=>rfl;have q5:∀ a b c d e f g h i j:V,fW [a,b,c,d,e] 0 [f,g,h,i,j]=[f,g,h,i,j]:=λ_ _ _ _ _ _ _ _ _ _=>rfl;have c0:∀ nb q K,ldB nb q ((clC c).map V.c) 0 K=(q<nb/\K (i64 c.kind)):=λ_ _ _=>rfl;have c1:∀ nb q K,ldB nb q ((clC c).map V.c) 1 K=(q<nb/\K (i64 c.a)):=λ_ _ _=>rfl;have fits:=V4 (c:=c) hp hS;refine bD (rs:=[.cell 6 35,.tmp 7]) false [200031,303104,200006,300603,1500033,2300009,2300012,2400053,2300016,2400073,2300019,2400087,2300021,2400106,2300023,2400136] mixed Tryz.func15 rfl rfl rfl rfl (by kernel_rfl) (by simp) rfl rfl ?_;simp only[bX,V7,seval,ah];refine ax («as»:=[.agg (poC p),.agg (syC s),.agg (clC c)]) rfl fits (λ_=>rfl) ?_;cases hf:m9 p s c with
 |false=>
  have e:vd p s c=(sy0,1):=by unfold vd;rw[hf];rfl
  simp only[bX,lK,seval,ah,hz];rw[e];exact jA (l6 (by rfl) (ae rfl) (by rfl)) (by rfl)
 |true=>
 have perm:=V5 (c:=c) hp hS hf;have call:=V6 (c:=c) hp hS hf;have size:=Qx hS hf;have e1:vd p s c=if gY p s c c.kind.toNat=true then uY s c (fD p s c c.kind.toNat) else(sy0,10):=by unfold vd;rw[hf];rfl
 rw[e1];clear e1;simp only[bX,V7,seval,ah];refine ax («as»:=[.agg (poC p),.agg (syC s),.agg (clC c)]) rfl perm (λ_=>rfl) ?_;cases hpm:gY p s c c.kind.toNat with
 |false=>simp only[bX,lK,seval,ah,hz];exact jA (l6 (by rfl) (ae rfl) (by rfl)) (by rfl)
 |true=>
 rw[if_pos rfl];simp only[bX,V7,seval,ah];refine ax («as»:=[.agg (poC p),.agg (syC s),.agg (clC c)]) rfl call (λh=>by cases h) ?_;generalize hr:fD p s c c.kind.toNat=r at *;simp only[bX,zI,seval,ah];refine aJ (λgu=>?_) (λkL=>?_)
 .have gu:r.e≠0:=by simpa using gu
  have e:uY s c r=(sy0,r.e):=by unfold uY;rw[if_pos gu]
  rw[e];simp only[bX,zI,seval,ah,hz];exact jA (l6 (by rfl) (ae rfl) (by rfl)) (by rfl)
 have kL:r.e=0:=by simpa using kL
 simp only[bX,xK,seval,ah];refine ZP (all:=[.agg (syC s)]) rfl (Qw (G:=glM) hS) (λ_=>rfl) ?_;rintro _ _ ⟨v0,v1,v2,v3,rfl,rfl⟩;simp only[bX,lK,seval,aei,aej,ajd,ah,q5];refine Bg rfl (.joinO 7 0 5 0 (show 7<8 by decide) rfl rfl (show 5<8 by decide) rfl (by decide) rfl (.joinO 7 1 5 1 (show 7<8 by decide) rfl rfl (show 5<8 by decide) rfl (by decide) rfl
  (.joinO 7 2 5 2 (show 7<8 by decide) rfl rfl (show 5<8 by decide) rfl (by decide) rfl (.joinO 7 3 5 3 (show 7<8 by decide) rfl rfl (show 5<8 by decide) rfl (by decide) rfl (.done ?_)))))
 simp only[bX,zI,seval,ah];refine aJ (λhh=>?_) (λhh=>?_)
 .have hh:r.handle=false:=by simpa using hh
  have e:uY s c r=if s.its.length<100/\bi r.item<=100 then({ s with its:=s.its++[r.item] },0) else(sy0,2):=by unfold uY;rw[if_neg (by rw[kL];decide),if_neg (by rw[hh];decide)]
  simp only[bX,xK,seval,tsC,aj,ah];refine fQ (λh1=>?_) (λh1=>?_)
  .have h1:s.its.length<100:=by simp at h1;omega
   simp only[bX,zI,seval,ah];refine ax rfl (Iz r.item (by omega)) (λ_=>rfl) ?_;simp only[pkA,seval];refine aJ (λh2=>?_) (λh2=>?_)
   .have h2:¬ bi r.item<=100:=by simp at h2;omega
    simp only[bX,lK,seval,ah,hz];rw[e,if_neg (λh=>h2 h.2)];exact jA (l6 (by rfl) (ae rfl) (by rfl)) (by rfl)
   .have h2:bi r.item<=100:=by simp at h2;omega
    rw[e,if_pos ⟨h1,h2⟩];simp only[pkA,seval];refine rJ 7 1 53 (E:=owE 47 (s.its.map tmC) 3) (es:=s.its.map tmC) rfl (show 7<8 by decide) rfl rfl ?_;intro u;simp only[bX,aa2,seval,ah,Vl.S.split,fP];refine rY (v:=u) (E:=owE 47 (s.its.map tmC) 3) (es:=s.its.map tmC) rfl rfl (by decide) ?_;simp only[pkA,seval];refine Jw (j:=_) dc rfl cV rfl ⟨by decide,rfl⟩ (by decide) (by simp;omega) (GG _) (bG _) ?_;simp only[bX,lK,seval,ah,q1,q5];exact jA (l6 (by rfl) (ae rfl) (by simp only[syC,tsC,hsC,dl,aN,bE];rfl)) (by rfl)
  .have h1:¬ s.its.length<100:=by simp at h1;omega
   rw[e,if_neg (λh=>h1 h.1)];simp only[bX,lK,seval,ah,hz];exact jA (l6 (by rfl) (ae rfl) (by rfl)) (by rfl)
 .have hh:r.handle=true:=by simpa using hh
  have e:uY s c r=if s.hs.length<100/\bi r.h.va<=100 then(pM s c r.h,0) else(sy0,2):=by unfold uY;rw[if_neg (by rw[kL];decide),if_pos hh]
  simp only[bX,xK,seval,hsC,aj,ah];refine fQ (λh1=>?_) (λh1=>?_)
  case refine_2=>have h1:¬ s.hs.length<100:=(by simp at h1;omega);rw[e,if_neg (λh=>h1 h.1)];simp only[bX,lK,seval,ah,hz];exact jA (l6 (by rfl) (ae rfl) (by rfl)) (by rfl)
  have h1:s.hs.length<100:=by simp at h1;omega
  simp only[bX,zI,seval,ah];refine ax rfl (Iz r.h.va (by omega)) (λ_=>rfl) ?_;simp only[pkA,seval];refine aJ (λh2=>?_) (λh2=>?_)
  .have h2:¬ bi r.h.va<=100:=by simp at h2;omega
   simp only[bX,lK,seval,ah,hz];rw[e,if_neg (λh=>h2 h.2)];exact jA (l6 (by rfl) (ae rfl) (by rfl)) (by rfl)
  have h2:bi r.h.va<=100:=by simp at h2;omega
  have on:=hS.on;have rn:=hS.rn;have fr:=hS.fr;have wf:IntKind.i64.wrap (s.fresh+1)=s.fresh+1:=by rw[dM (n:=s.fresh+1) (k:=(s.fresh+1).toNat) (by omega) (by omega)];omega
  rw[e,if_pos ⟨h1,h2⟩];simp only[pkA,seval];refine rJ 7 0 73 (E:=owE 49 (s.hs.map hdC) 4) (es:=s.hs.map hdC) rfl (show 7<8 by decide) rfl rfl ?_;intro u;simp only[bX,zI,seval,ek,ek,ah,Vl.S.split,fP];refine rY (v:=u) (E:=owE 49 (s.hs.map hdC) 4) (es:=s.hs.map hdC) rfl rfl (by decide) ?_;simp only[pkA,seval];refine Jw ko rfl iT rfl ⟨by decide,rfl⟩ (by decide) (by simp;omega) (Ce _) (ek _) ?_;by_cases k1:c.kind=1
  .simp only[bX,lK,seval,ah,q0,q4,c0,k1,wf]
   refine rJ 7 2 87 (E:=owE 49 (s.os.map hdC) 4) (es:=s.os.map hdC) rfl (show 7<8 by decide) rfl rfl ?_;intro u;simp only[bX,zI,seval,ek,ek,ah,Vl.S.split,fP];refine rY (v:=u) (E:=owE 49 (s.os.map hdC) 4) (es:=s.os.map hdC) rfl rfl (by decide) ?_;simp only[pkA,seval];refine Jw ko rfl iT rfl ⟨by decide,rfl⟩ (by decide) (by simp;omega) (Ce _) (ek _) ?_;simp only[bX,lK,seval,ah,aO,q2,q5,c0,k1,Int.reduceEq];have ep:pM s c r.h={ s with hs:=s.hs++[r.h],fresh:=s.fresh+1,os:=s.os++[r.h] }:=by unfold pM;simp[k1]
   rw[ep];exact jA (l6 (by rfl) (ae rfl) (by simp only[syC,tsC,hsC,dl,aN,bE];rfl)) (by rfl)
  by_cases k10:c.kind=10
  .simp only[bX,aa3,seval,ah,aO,q0,c0,k10,Int.reduceEq]
   refine ax («as»:=[.agg (syC s),.agg (tmC r.h.va)]) rfl (uQ hS r.h.va (by omega)) (λ_=>rfl) ?_;cases hK:knS s r.h.va with
   |false=>
    simp only[pkA,seval];refine rJ 7 3 106 (E:=owE 47 (s.rs.map tmC) 3) (es:=s.rs.map tmC) rfl (show 7<8 by decide) rfl rfl ?_;intro u;simp only[bX,aa2,seval,ah,Vl.S.split,fP];refine rY (v:=u) (E:=owE 47 (s.rs.map tmC) 3) (es:=s.rs.map tmC) rfl rfl (by decide) ?_;simp only[pkA,seval];refine Jw dc rfl cV rfl ⟨by decide,rfl⟩ (by decide) (by simp;omega) (GG _) (bG _) ?_;simp only[bX,lK,seval,ah,aO,q3,q5,c0,k10,Int.reduceEq];have ep:pM s c r.h={ s with hs:=s.hs++[r.h],rs:=s.rs++[r.h.va] }:=by unfold pM;simp[k10,hK]
    rw[ep];exact jA (l6 (by rfl) (ae rfl) (by simp only[syC,tsC,hsC,dl,aN,bE];rfl)) (by rfl)
   |true=>
    simp only[bX,lK,seval,ah,aO,q5,c0,k10,Int.reduceEq];have ep:pM s c r.h={ s with hs:=s.hs++[r.h] }:=by unfold pM;simp[k10,hK]
    rw[ep];exact jA (l6 (by rfl) (ae rfl) (by simp only[syC,tsC,hsC,dl,aN,bE];rfl)) (by rfl)
  by_cases k11:c.kind=11
  .have hF:=GF hf
   rw[k11] at hF;simp only[Int.reduceToNat,gC,aA] at hF;obtain⟨x,ex⟩:=fA hF.1;have hx:hAt s c.a=x:=(by unfold hAt;rw[ex];rfl);have sx:=(hS.hv _ (jQ ex)).2.1;simp only[bX,xK,seval,hsC,ah,aO,q0,c0,c1,k11,Int.reduceEq];refine kV ex ?_;simp only[bX,lK,seval,m8];refine ax («as»:=[.agg (syC s),.agg (tmC x.va)]) rfl (uQ hS x.va (by omega)) (λ_=>rfl) ?_;cases hK:knS s x.va with
   |true=>
    simp only[bX,lK,seval,ah,q5];have ep:pM s c r.h={ s with hs:=s.hs++[r.h] }:=by unfold pM;simp[k11,hx,hK]
    rw[ep];exact jA (l6 (by rfl) (ae rfl) (by simp only[syC,tsC,hsC,dl,aN,bE];rfl)) (by rfl)
   |false=>
    simp only[bX,aa3,seval,ah];refine ax («as»:=[.agg (syC s),.agg (tmC r.h.va)]) rfl (B7 hS r.h.va (by omega)) (λ_=>rfl) ?_;simp only[pkA,seval];refine aJ (λho=>?_) (λho=>?_)
    .have ho:orS s r.h.va<0:=by simpa using ho
     simp only[pkA,seval];refine rJ 7 2 136 (E:=owE 49 (s.os.map hdC) 4) (es:=s.os.map hdC) rfl (show 7<8 by decide) rfl rfl ?_;intro u;simp only[bX,zI,seval,ek,ek,ah,Vl.S.split,fP];refine rY (v:=u) (E:=owE 49 (s.os.map hdC) 4) (es:=s.os.map hdC) rfl rfl (by decide) ?_;simp only[pkA,seval];refine Jw ko rfl iT rfl ⟨by decide,rfl⟩ (by decide) (by simp;omega) (Ce _) (ek _) ?_;simp only[bX,lK,seval,ah,q2,q5];have ep:pM s c r.h={ s with hs:=s.hs++[r.h],os:=s.os++[r.h] }:=by unfold pM;simp[k11,hx,hK,ho]
     rw[ep];exact jA (l6 (by rfl) (ae rfl) (by simp only[syC,tsC,hsC,dl,aN,bE];rfl)) (by rfl)
    .have ho:¬ orS s r.h.va<0:=by simpa using ho
     simp only[bX,lK,seval,ah,q5];have ep:pM s c r.h={ s with hs:=s.hs++[r.h] }:=by unfold pM;simp[k11,hx,hK,ho]
     rw[ep];exact jA (l6 (by rfl) (ae rfl) (by simp only[syC,tsC,hsC,dl,aN,bE];rfl)) (by rfl)
  simp only[bX,lK,seval,ah,aO,q0,q5,c0,k1,k10,k11];have ep:pM s c r.h={ s with hs:=s.hs++[r.h] }:=by unfold pM;simp[k1,k10,k11]
  rw[ep];exact jA (l6 (by rfl) (ae rfl) (by simp only[syC,tsC,hsC,dl,aN,bE];rfl)) (by rfl)
