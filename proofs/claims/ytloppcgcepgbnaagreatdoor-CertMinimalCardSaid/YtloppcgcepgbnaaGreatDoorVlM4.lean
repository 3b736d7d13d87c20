/- Layer 19: policy, few, sanity. -/
import Derived.Test.YtloppcgcepgbnaaGreatDoorVlS1
set_option maxHeartbeats 8000000
set_option linter.all false
namespace Go.Proofs.YtloppcgcepgbnaaGreatDoor
open Go Go.Vl Go.Proofs.YtloppcgcepgbnaaGreatDoor.Kw
variable {G:Gl}
set_option maxRecDepth 100000
def P7:=jj @pkA @ptA
theorem Fv (f:Int):FnOK Tryz.prog G 26 [i64 f] (.agg (poC (exN f))):=by
 refine bR (rs:=[.cell 2 26]) false [] mixed Tryz.func26 rfl rfl rfl rfl (by kernel_rfl) (by simp) rfl rfl ?_
 simp only[P7,seval]
 refine⟨rfl,?_⟩
 unfold ldA
 exact⟨by decide,⟨rfl,rfl⟩,rfl⟩
def OA (p:Pol):Bool:=decide ((p.types.length:Int)≤6)&&(decide ((p.rules.length:Int)≤14)&&decide ((p.quorums.length:Int)≤8))
def ZU:=jj @pkA (jj @ptA @pkF)
theorem ZV (p:Pol):FnOK Tryz.prog G 8 [.agg (poC p)] (bo (OA p)):=by
 unfold OA
 refine bR (rs:=[.tmp 2]) false [] mixed Tryz.func8 rfl rfl rfl rfl (by kernel_rfl) (by simp) rfl rfl ?_
 simp only[ZU,seval,ak]
 cases h1:decide ((p.types.length:Int)≤6)
 ·simp only[pkA,seval]
 cases h2:decide ((p.rules.length:Int)≤14)
 ·simp only[ZU,seval,ak,h2]
 simp only[ZU,seval,ak,h2]
theorem ZW {p:Pol} (h:OA p=true):PolS p∧p.types.length≤6∧p.rules.length≤14∧p.quorums.length≤8:=by
 unfold OA at h
 simp only[aX,bF] at h
 exact⟨⟨by omega,by omega⟩,by omega,by omega,by omega⟩
theorem af6 {p:Pol} (h:OA p=true) (hp:Kp.PolIn (kPo p)):Ax p:=by
 obtain⟨_,h1,h2,h3⟩:=ZW h
 refine⟨hp,?_⟩
 unfold Kp.jf
 simp only[kPo,ak]
 omega
theorem P8 (hG:GV G) {p:Pol} (hp:Ax p) (b:B) (hb:b.length≤1000000000):FnOK Tryz.prog G 33 [.agg (poC p),bv b] (.tup [.c (fsC (jd (iT p) p b).1),i64 (jd (iT p) p b).2]):=
 Zq _ p b (Fj hG hp) hb (by have:=zg b;omega)
theorem Ls (v:Bool) (p:Pol) (b:B):(jd v p b).1.length≤1000000:=by
 have:=zg b
 unfold jd
 repeat' split
 all_goals simp only[aB]
 all_goals omega
theorem px (hG:GV G) {p:Pol} (hp:Ax p) (hs:PolS p) (b:B) (hb:b.length≤1000000000):FnOK Tryz.prog G 16 [.agg (poC p),bv b] (i64 (jD (iT p) p b)):=
 Oq _ p b (P8 hG hp b hb) (by have:=hs.ty;omega) (by have:=hs.ru;omega) nK (Ls _ _ _)
theorem ZX (hG:GV G) {p:Pol} (hp:Ax p) (hs:PolS p) (b:B) (hb:b.length≤1000000000):FnOK Tryz.prog G 12 [.agg (poC p),bv b] (.tup [.agg (inC (HC (iT p) p b).1),i64 (HC (iT p) p b).2]):=
 aeH _ p b (P8 hG hp b hb) (by have:=hs.ty;omega) (by have:=hs.ru;omega) nK (Ls _ _ _)
theorem wY (hG:GV G) {p:Pol} (hp:Ax p) (hs:PolS p):FnOK Tryz.prog G 21 [.agg (poC p)] (.tup [.c (.sl (bC (gx (iT p) p).1)),.c (fsC (gx (iT p) p).2.1),i64 (gx (iT p) p).2.2]):=
 K1 _ p (Fj hG hp) hs (uB hs)
theorem rN {l:List Fa} (h:l.length≤100000):(iw l).length≤3000000:=by
 have h1:=nN (fb l).length
 have h2:=Om (fb l)
 have h3:=oh l
 show(Vl.encI (fb l).length++((fb l).map nM).flatten).length≤_
 rw[aj];omega
def qE:=jj @pkA (jj @ptA @pkI)
theorem jr (hG:GV G):FnOK Tryz.prog G 9 [] (bo true):=by
 have kP:Ax exP:=exK ⟨by decide,by decide⟩
 have kQ:Ax exQ:=exK ⟨by decide,by decide⟩
 have Ux:=rN (l:=exF) (by decide)
 have hE:FnOK Tryz.prog G 19 [.c (fsC exF)] (.c (.sl (bC (iw exF)))):=pS exF (by decide) fun f hf=>uB (exS 65) f (by rw[show exN 65=exP from rfl,vn];exact hf)
 have hCP:=wY hG kP (exS 65)
 rw[Fq,afc] at hCP
 have hCQ:=wY hG kQ (exS 69)
 rw[zm,afd] at hCQ
 have hFB:=nL (G:=G) (iw exF) (by omega)
 rw[ZS] at hFB
 have hFT:=nL (G:=G) [129,1] (by decide)
 rw[ZT] at hFT
 have hW:=ZX hG kQ (exS 69) (iw exF) (by omega)
 rw[zm,afe] at hW
 have hAP:=px hG kP (exS 65) (iw exF) (by omega)
 rw[Fq,aff] at hAP
 have hAQ:=px hG kQ (exS 69) (iw exF) (by omega)
 rw[zm,afg] at hAQ
 have hSb:=E9 (G:=G) (iw exF) (iw exF) (by omega)
 have hS1:=Hl (G:=G) exF exF (by decide)
 have hS2:=Hl (G:=G) exL exL (by decide)
 have lf:∀ (m:List Fa) (K:V→Prop),fw Tryz.prog 28 (.c (fsC m)) K=K (i64 m.length):=fun m K=>by unfold fsC;rw[ff eO rfl,ak]
 have lb:∀ (b:B) (K:V→Prop),fw Tryz.prog 27 (.c (.sl (bC b))) K=K (i64 b.length):=fun b K=>by rw[ff kN rfl];simp[bC]
 generalize hcb:iw exF=cb at *
 refine bR (rs:=[.tmp 0]) false [] mixed Tryz.func9 rfl rfl rfl rfl (by kernel_rfl) (by simp) rfl rfl ?_
 simp only[pkA,seval]
 refine aN rfl (Fv 65) (fun h=>by cases h) ?_
 simp only[pkA,seval]
 refine aN rfl (Fv 69) (fun h=>by cases h) ?_
 rw[show exN 65=exP from rfl,show exN 69=exQ from rfl]
 have q0:∀ (p:Pol) (a b c d:V),eS [a,b,c,d] 0 ((poC p).map .c)=(poC p).map .c:=fun _ _ _ _ _=>rfl
 have d1:decide (((exI.con.length:Nat):Int)=1)=true:=rfl
 have d2:decide (((([]:List Fa).length:Nat):Int)=0)=true:=rfl
 have d3:decide (((([]:B).length:Nat):Int)=0)=true:=rfl
 have d4:decide (exI.rule=6)=true:=rfl
 have d6:decide (((0:Nat):Int)=0)=true:=rfl
 have d7:decide (((1:Nat):Int)=1)=true:=rfl
 have d5:decide ((0:Int)=0)=true:=rfl
 have qi:∀ (a b c:V),eS [a,b,c] 0 ((inC exI).map .c)=(inC exI).map .c:=fun _ _ _=>rfl
 simp only[qE,seval,q0,List.append_eq,bO,bz]
 refine aN rfl hCP (fun h=>by cases h) ?_
 simp only[pkA,seval,bO]
 refine aN rfl hFB (fun h=>by cases h) ?_
 simp only[qE,seval,bO,bz]
 refine aN rfl hCQ (fun h=>by cases h) ?_
 simp only[qE,seval,bO,bz]
 refine aN rfl hW (fun h=>by cases h) ?_
 simp only[qE,seval,qi,bO,bz]
 refine aN («as»:=[bv [129,1]]) rfl hFT (fun h=>by cases h) ?_
 simp only[P7,seval,lf,bO,d6,bz]
 refine aN («as»:=[.c (fsC exF),.c (fsC exF)]) rfl hS1 (fun h=>by cases h) ?_
 simp only[P7,seval,lb,bO,d6,bz]
 refine aN («as»:=[.c (fsC exL),.c (fsC exL)]) rfl hS2 (fun h=>by cases h) ?_
 simp only[qE,seval,bO,bz]
 refine aN rfl hAP (fun h=>by cases h) ?_
 simp only[qE,seval,bO,bz]
 refine aN rfl hAQ (fun h=>by cases h) ?_
 simp only[qE,seval,lf,bO,d1,d4,bz]
 refine aN rfl hE (fun h=>by cases h) ?_
 simp only[pkA,seval,bO]
 rw[ey rfl] at hSb
 refine aN rfl hSb (fun h=>by cases h) ?_
 simp only[pkA,seval,bO]
theorem amP {p:Pol} {x:In} (h:x∈iS p none):ami x:=by
 have:=nK x h
 unfold ami;omega
theorem HN {v:Bool} {p:Pol} (h:(gx v p).2.2=0):v=true∧ng p (cR p)=[]∧gx v p=(iw (cR p),[],0):=by
 unfold gx at h ⊢
 cases v
 ·rw[if_pos rfl] at h;exact absurd h (by decide)
 ·rw[if_neg (by decide)] at h ⊢
  by_cases hb:ng p (cR p)=[]
  ·rw[if_pos hb];exact⟨rfl,hb,rfl⟩
  ·rw[if_neg hb] at h;exact absurd h (show ¬ (21:Int)=0 by decide)
theorem Lt {v:Bool} {p:Pol} (h:PolS p):(gx v p).1.length≤3000000∧(gx v p).2.1.length≤1000000:=by
 have h1:=sH h
 have h2:=rN (l:=cR p) (by omega)
 have h3:=@KZ p
 have h4:(ng p (cR p)).length≤(pf p).length:=eD _ _
 have h5:=h.ty
 unfold gx
 repeat' split
 ·exact⟨au _,au _⟩
 ·exact⟨h2,au _⟩
 ·exact⟨au _,by show(ng p (cR p)).length≤_;omega⟩
theorem Lu (hG:GV G) (l:List Fa) (b:B) (hI:∀ f∈l,FaI f):FnOK Tryz.prog G 5 [.c (fsC l),bv b] (bo true):=by
 refine bR (rs:=[.tmp 4]) false [] mixed Tryz.func5 rfl rfl rfl rfl (by kernel_rfl) (by simp) rfl rfl ?_
 have lf:∀ (m:List Fa) (K:V→Prop),fw Tryz.prog 28 (.c (fsC m)) K=K (i64 m.length):=fun m K=>by unfold fsC;rw[ff eO rfl,ak]
 have lb:∀ (b:B) (K:V→Prop),fw Tryz.prog 27 (.c (.sl (bC b))) K=K (i64 b.length):=fun b K=>by rw[ff kN rfl];simp[bC]
 have q0:∀ (p:Pol) (a b c d:V),eS [a,b,c,d] 0 ((poC p).map .c)=(poC p).map .c:=fun _ _ _ _ _=>rfl
 have qi:∀ (x:In) (a b c:V),eS [a,b,c] 0 ((inC x).map .c)=(inC x).map .c:=fun _ _ _ _=>rfl
 simp only[pkA,seval,lf,bO]
 cases hl:decide ((200:Int)<(l.length:Nat))
 case true=>
  simp only[pkA,seval,bO]
  refine aN rfl (jr hG) (fun h=>by cases h) ?_
  simp only[pkA,seval,bO]
 have hl2:l.length≤200:=by have:=cO hl;omega
 cases hb:decide ((3000:Int)<(b.length:Nat))
 case true=>
  simp only[pkA,seval,lb,bO,hb]
  refine aN rfl (jr hG) (fun h=>by cases h) ?_
  simp only[pkA,seval,bO]
 have hb3:b.length≤3000:=by have:=cO hb;omega
 have Qc:=rN (l:=l) (by omega)
 have hFE:=nL (G:=G) (iw l) (by omega)
 rw[zd hI (by omega)] at hFE
 have LO:=oh l
 have hS:=N5 (G:=G) l (by omega)
 rw[← Ol] at hS
 have kU:=zg b
 have hfI:=aeL b
 simp only[pkA,seval,lb,bO,hb]
 refine aN rfl (pS l (by omega) hI) (fun h=>by cases h) ?_
 simp only[pkA,seval,bO]
 refine aN rfl (hFE) (fun h=>by cases h) ?_
 simp only[pkA,seval,bO]
 refine aN rfl (nL b (by omega)) (fun h=>by cases h) ?_
 simp only[pkA,seval,bO]
 refine aN rfl (jr hG) (fun h=>by cases h) ?_
 simp only[pkA,seval,bO,bz]
 refine aN rfl (hS) (fun h=>by cases h) ?_
 simp only[pkA,seval,bO]
 refine aN rfl (Hl (fb l) (fb l) (by omega)) (fun h=>by cases h) ?_
 simp only[pkA,seval,bO,bz]
 cases he:decide ((dF b).2=0)
 ·simp only[pkA,seval,bO]
 ·have Uo:=(wV (bn he)).2.2.2
  have hSb:=E9 (G:=G) (iw (dF b).1) b (by rw[Uo];omega)
  rw[ey Uo] at hSb
  simp only[pkA,seval,bO]
  refine aN rfl (pS (dF b).1 (by omega) hfI) (fun h=>by cases h) ?_
  simp only[pkA,seval,bO]
  refine aN rfl (hSb) (fun h=>by cases h) ?_
  simp only[pkA,seval,bO]
theorem ZY (p:Pol):cR p≠[]:=by
 have hx:(⟨14,[],[ue 0 0]⟩:In)∈iS p none:=by
  rw[Hw]
  refine .inr (.inr (.inr (.inr (.inr (.inr (.inr (.inr (.inr (.inr (.inr (.inr (.inr (.inl ?_)))))))))))))
  exact aW.2 rfl
 have:=sF _ hx (fun _ h=>by cases h) (ue 0 0) (aW.2 rfl)
 intro h
 rw[h] at this;cases this
theorem HO {a b:Nat} {K:V→Prop} (hb:0<b):mO .rem .i64 (a:Int) (b:Int) K=K (.c (.lit (.int .i64 ((a % b:Nat):Int)))):=by
 have h:(b:Int)≠0:=by omega
 have e:(a:Int).tmod b=((a % b:Nat):Int):=by rw[Int.tmod_eq_emod_of_nonneg (by omega)];simp
 simp only[mO,e,h,ne_eq,not_false_eq_true,ia]
def P9:=jj @pkA (jj @ptA (jj @pkI @pkI))
theorem D1 (hG:GV G) {p:Pol} (hp0:Kp.PolIn (kPo p)) (n:Nat) (hn:n≤65535):FnOK Tryz.prog G 6 [.agg (poC p),.c (.lit (.int .u16 n))] (bo true):=by
 refine bR (rs:=[.tmp 4]) false [] mixed Tryz.func6 rfl rfl rfl rfl (by kernel_rfl) (by simp) rfl rfl ?_
 have lf:∀ (m:List Fa) (K:V→Prop),fw Tryz.prog 28 (.c (fsC m)) K=K (i64 m.length):=fun m K=>by unfold fsC;rw[ff eO rfl,ak]
 have lb:∀ (b:B) (K:V→Prop),fw Tryz.prog 27 (.c (.sl (bC b))) K=K (i64 b.length):=fun b K=>by rw[ff kN rfl];simp[bC]
 have q0:∀ (p:Pol) (a b c d:V),eS [a,b,c,d] 0 ((poC p).map .c)=(poC p).map .c:=fun _ _ _ _ _=>rfl
 have qi:∀ (x:In) (a b c:V),eS [a,b,c] 0 ((inC x).map .c)=(inC x).map .c:=fun _ _ _ _=>rfl
 have cv:∀ (K:V→Prop),iW Tryz.prog 51 3 (.c (.lit (.int .u16 n))) K=K (i64 n):=fun K=>BV alN pe rfl (by omega)
 simp only[qE,seval,bO,bz]
 refine aN rfl (ZV p) (fun _=>rfl) ?_
 simp only[pkA,seval,bO]
 cases hf:OA p
 ·simp only[pkA,seval]
  refine aN rfl (jr hG) (fun h=>by cases h) ?_
  simp only[pkA,seval,bO]
 obtain⟨hs,hty,hru,hqu⟩:=ZW hf
 have hp:=af6 hf hp0
 have hxl:=Lt (v:=iT p) hs
 have Aa:=wY hG hp hs
 have hz:=HN (v:=iT p) (p:=p)
 by_cases he0:(gx (iT p) p).2.2=0
 case neg=>
  generalize gx (iT p) p=x at *
  have he:decide (x.2.2=0)=false:=gd he0
  simp only[qE,seval,bO,bz]
  refine aN rfl (Aa) (fun h=>by cases h) ?_
  simp only[pkA,seval,bO]
  refine aN rfl (nL x.1 (by omega)) (fun h=>by cases h) ?_
  simp only[pkA,seval,bO]
  simp only[pkA,seval,bO,he]
  refine aN rfl (jr hG) (fun h=>by cases h) ?_
  simp only[pkA,seval,bO,he]
 obtain⟨h1,h2,h3⟩:=hz he0
 rw[h3] at Aa hxl
 have LA:=sH hs
 have gK:=ZY p
 have qY:0<(cR p).length:=fm.2 gK
 have hFB:=nL (G:=G) (iw (cR p)) (by have:=rN (l:=cR p) (by omega);omega)
 rw[vl hs] at hFB
 obtain⟨k,hk⟩:∃ k,k=n % (cR p).length:=⟨_,rfl⟩
 have zn:k<(cR p).length:=by rw[hk];exact kH _ qY
 have hrm:=fun K=>HO (a:=n) (K:=K) qY
 rw[← hk] at hrm
 have Qc:=rN (l:=ni p k) (by have:=C7 hs (k:=k);omega)
 have hE:=pS (G:=G) (ni p k) (by have:=C7 hs (k:=k);omega) fun f hf=>uB hs f (uC f hf)
 obtain⟨x,hw,hwc,hwp,Uk⟩:=ZP hs zn
 have hW:=ZX hG hp hs (iw (ni p k)) (by omega)
 rw[h1,hw] at hW
 have hA:=px hG hp hs (iw (ni p k)) (by omega)
 rw[h1,Ln hs zn] at hA
 have qX:=amP Uk
 have Qo:decide (((cR p).length:Int)=0)=false:=gd (by omega)
 have d5:decide ((0:Int)=0)=true:=rfl
 have OK:=cd (n:=(k:Int)+1) (k:=k+1) (by omega) (by omega)
 have lessE:ni p k=(cR p).take k++(cR p).drop (k+1):=rfl
 generalize iw (cR p)=cb at *
 generalize iw (ni p k)=cl at *
 generalize ni p k=ll at *
 generalize cR p=l at *
 simp only[qE,seval,bO,bz]
 refine aN rfl (Aa) (fun h=>by cases h) ?_
 simp only[pkA,seval,bO]
 refine aN rfl (hFB) (fun h=>by cases h) ?_
 simp only[P7,seval,lf,bO,bz,Qo,cv,hrm]
 have tl:∀ m:List Fa,∀ x∈m.map faC,x.length=3:=fun m=>nR jQ m
 have ht:((l.map faC).take k).drop 0=(l.take k).map faC:=by rw[dE,j7]
 have hd:((l.map faC).take l.length).drop (k+1)=(l.drop (k+1)).map faC:=by rw[dW (by simp),List.map_drop]
 refine uk (l:=0) (h:=k) eO rfl eV rfl rfl (au _) (by simp;omega) (tl l) ?_
 rw[ht]
 simp only[pkA,seval,bO,fh]
 refine J2 (l:=[]) (m:=l.take k) (by rw[aG,aB];omega) ?_
 rw[dP]
 simp only[pkA,seval,bO,OK]
 refine uk (l:=k+1) (h:=l.length) eO rfl eV rfl (by rw[ak];rfl) (by omega) (by simp) (tl l) ?_
 rw[hd]
 simp only[pkA,seval,bO,fh]
 refine J2 (l:=l.take k) (m:=l.drop (k+1)) (by rw[aG,b9];omega) ?_
 rw[← lessE]
 simp only[pkA,seval,bO,lj]
 refine aN («as»:=[.c (fsC ll)]) rfl (hE) (fun h=>by cases h) ?_
 simp only[qE,seval,bO,bz]
 refine aN rfl (hW) (fun h=>by cases h) ?_
 simp only[qE,seval,qi,bO,bz]
 refine aN rfl (jr hG) (fun h=>by cases h) ?_
 simp only[qE,seval,bO,bz]
 refine aN rfl (hA) (fun h=>by cases h) ?_
 simp only[qE,seval,lf,bO,bz]
 have hc0:decide ((0:Int)<(x.con.length:Nat))=true:=ey (by have:=List.length_pos_of_mem hwc;omega)
 have ix:∀ {K:V→Prop},K (.c (.rp (faC l[k]) 0))→dS Tryz.prog 28 (.c (fsC l)) (i64 k) K:=fun {K} hK=>
  fE eO rfl eV (by decide) (aJ k) (c:=faC l[k]) (by simp[zn]) rfl hK
 have hH1:=Kt (G:=G) x.con l[k] qX.2
 rw[ey hwc] at hH1
 have hH2:=Kt (G:=G) x.pre l[k] qX.1
 rw[gd hwp] at hH2
 simp only[P9,seval,bO,bz,hc0]
 refine ix ?_
 simp only[P9,seval,bO]
 refine aN rfl (hH1) (fun h=>by cases h) ?_
 simp only[P9,seval,bO,bz]
 refine ix ?_
 simp only[P9,seval,bO]
 refine aN rfl (hH2) (fun h=>by cases h) ?_
 simp only[pkA,seval,bO]
