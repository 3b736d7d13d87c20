/- Layer 16: few, policy, sanity. -/
import Derived.Test.YtegbpjodbjhjeaaGreatDoorVlMl
import Derived.Test.YtegbpjodbjhjeaaGreatDoorVlM4
import Derived.Test.YtegbpjodbjhjeaaGreatDoorRows
import Derived.JoinedOf
import Derived.JoinedCond
import Derived.MakeChecks
set_option linter.all false
namespace Go.Proofs.YtegbpjodbjhjeaaGreatDoor
open Go Go.Vl
open Kp (Pol Ty Ru Qu poC tyC ruC quC)
variable {G:Gl}
set_option maxRecDepth 10000
def few (p:Pol) (n:Nat):Bool:=decide (p.types.length<=8)&&(decide (p.rules.length<=40)&&(decide (p.quorums.length<=8)&&decide (n<=40)))
def NL:=jj @pkA (jj @ptA @Kp.pkP)
theorem ad8 (p:Pol) (l:List Cl):FnOK Tryz.prog G 9 [.agg (poC p),.c (sR l)] (bo (few p l.length)):=by
 have c8:∀ n:Nat,decide ((n:Int)<=8)=decide (n<=8):=λn=>fb.2 (by omega);have c40:∀ n:Nat,decide ((n:Int)<=40)=decide (n<=40):=λn=>fb.2 (by omega);unfold few;refine bD (rs:=[.tmp 4]) false [] mixed Tryz.func9 rfl rfl rfl rfl (by kernel_rfl) (by simp) rfl rfl ?_;simp only[NL,seval,sR,aj,c8];by_cases h1:p.types.length<=8
 case neg=>simp only[pkA,seval,h1,aO]
 by_cases h2:p.rules.length<=40
 case neg=>simp only[NL,seval,aj,c40,h1,h2,ah,aO]
 by_cases h3:p.quorums.length<=8
 case neg=>simp only[NL,seval,aj,c8,c40,h1,h2,h3,ah,aO]
 simp only[NL,seval,aj,c8,c40,h1,h2,h3,ah]
theorem ZH {p:Pol} {n:Nat} (hP:Kp.PolIn p) (h:few p n=true):POk p/\n<=40:=by unfold few at h;simp only[aA,br] at h;exact⟨⟨h.1,h.2.1,by omega,hP⟩,h.2.2.2⟩
def pL:Pol:=⟨⟨#[112]⟩,[⟨⟨#[97]⟩,17,0⟩],[⟨3,0,0⟩],[]⟩
def VW:=jj @pkA @ptA
theorem Qo:FnOK Tryz.prog G 32 [] (.agg (poC pL)):=by refine bD (rs:=[.cell 0 26]) false [] mixed Tryz.func32 rfl rfl rfl rfl (by kernel_rfl) (by simp) rfl rfl ?_;simp only[VW,seval];refine⟨rfl,?_⟩;unfold ldA;exact⟨by decide,⟨rfl,rfl⟩,rfl⟩
theorem Ju:POk pL:=⟨by decide,by decide,by decide,by
 have i:∀ n:Nat,n<100->I64 (n:Int):=λn h=>⟨by omega,by omega⟩;constructor
 all_goals simp only[pL,bI,eK,kJ,forall_eq,aI,aL]
 all_goals first
  |exact⟨by decide,i 17 (by decide),i 0 (by decide)⟩
  |exact⟨i 3 (by decide),i 0 (by decide),i 0 (by decide)⟩
  |decide
  |exact λt h=>False.elim h⟩
theorem ue:Kp.mh pL=true:=by decide
abbrev s2E:Sy:=Gy 0 0
abbrev s6E:Sy:=Js 0 0
theorem aaS:lZ pL sy0 0 [⟨1,0,0,0,0⟩,⟨1,0,0,0,0⟩,⟨9,0,1,0,0⟩]=(s2E,3,0):=(ad6 (p:=pL) (a:=0) (b:=0) ue (by decide) (by decide) (by decide)).1
theorem e_ok2:SyOk s2E:=by have:=Gq (p:=pL) (by decide) [⟨1,0,0,0,0⟩,⟨1,0,0,0,0⟩,⟨9,0,1,0,0⟩] sy0 0 sok0;rw[aaS] at this;exact this
theorem aaT:fp pL s2E ⟨5,0,0,0,0⟩=.ok s6E:=by
 refine xG (k:=5) ue rfl rfl ?_;have h0:ofI s2E.hs 0=.ok ⟨0,clK 0⟩:=rfl;have h1:ofI s2E.its 0=.ok (gr (clK 0) (clK 1)):=rfl;have h2:iH (gr (clK 0) (clK 1)) (clK 0) [3]=.ok (clK 1):=rfl;have h3:jO pL 0 16=true:=by decide
 simp only[doM,okb,h0,h1,h2,h3,fw,bY];rfl
theorem e_ok6:SyOk s6E:=ub e_ok2 (by decide) aaT
theorem agL:fp pL s2E ⟨3,0,0,0,0⟩=.error 10:=by
 unfold fp;rw[ue];have h0:ofI s2E.hs 0=.ok ⟨0,clK 0⟩:=rfl;have h3:jO pL 0 4=false:=by decide
 show doM pL s2E ⟨3,0,0,0,0⟩ 3=_;simp only[doM,okb,h0,h3,fw];rfl
theorem ad9:fp pL s6E ⟨5,0,0,1,0⟩=.error 8:=by
 unfold fp;rw[ue];have h0:ofI s6E.hs 0=.ok ⟨0,clK 0⟩:=rfl;have h1:ofI s6E.its 1=.ok (clK 1):=rfl;have h2:iH (clK 1) (clK 0) [3]=.error 8:=rfl;have h3:jO pL 0 16=true:=by decide
 show doM pL s6E ⟨5,0,0,1,0⟩ 5=_;simp only[doM,okb,h0,h1,h2,h3,fw,bY];rfl
theorem aea:fp pL s2E ⟨3,2,0,0,0⟩=.error 1:=by unfold fp;rw[ue];have h0:ofI s2E.hs 2=.error 1:=rfl;show doM pL s2E ⟨3,2,0,0,0⟩ 3=_;simp only[doM,h0];rfl
theorem aaU (n:Int):knS s2E (clK n)=false:=by
 cases hk:knS s2E (clK n) with
 |false=>rfl
 |true=>exact absurd rfl ((aaP ((Gc λt ht=>(e_ok2.iv t ht).1).1 hk)).2 n)
theorem aaV:knS s6E (clK 1)=true:=(Gc λt ht=>(e_ok6.iv t ht).1).2 (.of (.item (by simp[Js])))
theorem cl6 {b:Bool} {t:Tm} (h:Kn s6E.its b t):(b=false->t=gr (clK 0) (clK 1)∨t=clK 1)/\t≠clK 0:=by
 induction h with
 |item h=>
   simp only[Js,bI,eK,kJ] at h;rcases h with rfl | rfl
   .exact⟨λ_=>.inl rfl,λe=>by cases e⟩
   .exact⟨λ_=>.inr rfl,λe=>by cases e⟩
 |opn _ hk _ i1 i2=>
  rcases i1.1 rfl with e | e
  .unfold gr at e;cases e;exact absurd rfl i2.2
  .cases e
 |of _ ih=>exact⟨λh=>(by cases h),ih.2⟩
 |data=>exact⟨λh=>(by cases h),λe=>by cases e⟩
 |make h _ _=>exact⟨λh=>(by cases h),λe=>by cases e;exact h rfl⟩
theorem VX:knS s6E (clK 0)=false:=by
 cases hk:knS s6E (clK 0) with
 |false=>rfl
 |true=>exact absurd rfl (cl6 ((Gc λt ht=>(e_ok6.iv t ht).1).1 hk)).2
theorem aeb:c9 s2E.its=[gr (clK 0) (clK 1)]:=by have hv:∀ t∈s2E.its,bW t=true:=λt ht=>(e_ok2.iv t ht).1;refine qi (j4 hv).1.st (List.pairwise_singleton _ _) λx=>?_;rw[BW hv,bu];exact⟨λh=>(aaP h).1 rfl,λh=>by subst h;exact .item (by simp[Gy])⟩
theorem aec:∀ x,x∈c9 s6E.its↔x=gr (clK 0) (clK 1)∨x=clK 1:=λx=>by
 have hv:∀ t∈s6E.its,bW t=true:=λt ht=>(e_ok6.iv t ht).1;rw[BW hv];exact⟨λh=>(cl6 h).1 rfl,λh=>.item (by rcases h with rfl | rfl<;>simp[Js])⟩
theorem agM (n:Int) (h:n=0∨n=1):orS s2E (clK n)=0/\orS s6E (clK n)=0:=by rcases h with rfl | rfl<;>exact⟨rfl,rfl⟩
theorem Ca (n:Int) (h:n=0∨n=1):ni s2E (clK n)=1:=by unfold ni;rw[aaU,(agM n h).1];rfl
theorem GA:ni s6E (clK 1)=0:=by unfold ni;rw[aaV];rfl
theorem NM:ni s6E (clK 0)=1:=by unfold ni;rw[VX,(agM 0 (.inl rfl)).2];rfl
theorem Jv:kP s2E=[⟨1,1,0⟩,⟨2,1,1⟩]:=by
 refine vY (pK _) (by decide) λf=>?_;rw[Ej,aeb];simp only[Gy,bI,eK,kJ,exists_eq_or_imp,exists_eq_left];have h1:kX s2E ⟨0,clK 0⟩=⟨1,1,0⟩:=by unfold kX;rw[Ca 0 (.inl rfl)]
 have h2:kX s2E ⟨0,clK 1⟩=⟨1,1,0⟩:=by unfold kX;rw[Ca 1 (.inr rfl)]
 have h3:iy s2E (gr (clK 0) (clK 1))=[⟨2,1,1⟩]:=by have e1:=Ca 0 (.inl rfl);have e2:=Ca 1 (.inr rfl);show[(⟨2,ni s2E (clK 0),ni s2E (clK 1)⟩:Fa)]=_;rw[e1,e2]
 have h4:∀ n,m7 s2E ⟨0,clK n⟩=[]:=λn=>by unfold m7;rw[aaU];rfl
 simp only[Gy] at h1 h2 h3 h4;rw[h1,h2,h3,h4,h4];simp[eq_comm]
theorem Cb:kP s6E=[⟨1,0,0⟩,⟨1,1,0⟩,⟨2,1,0⟩,⟨3,1,0⟩]:=by
 refine vY (pK _) (by decide) λf=>?_;rw[Ej];simp only[aec];simp only[Js,bI,eK,kJ,exists_eq_or_imp,exists_eq_left];have h1:kX s6E ⟨0,clK 0⟩=⟨1,1,0⟩:=by unfold kX;rw[NM]
 have h2:kX s6E ⟨0,clK 1⟩=⟨1,0,0⟩:=by unfold kX;rw[GA]
 have h3:iy s6E (gr (clK 0) (clK 1))=[⟨2,1,0⟩]:=by have e1:=NM;have e2:=GA;show[(⟨2,ni s6E (clK 0),ni s6E (clK 1)⟩:Fa)]=_;rw[e1,e2]
 have h5:iy s6E (clK 1)=[]:=rfl;have h4:m7 s6E ⟨0,clK 0⟩=[]:=by unfold m7;rw[VX];rfl
 have h6:m7 s6E ⟨0,clK 1⟩=[⟨3,1,0⟩]:=by unfold m7;rw[aaV];rfl
 simp only[Js] at h1 h2 h3 h4 h5 h6;rw[h1,h2,h3,h4,h5,h6];simp only[bI,eK,kJ,false_or,eq_comm (b:=f)];constructor
 .rintro((h | h) | h | h)<;>simp[h]
 .rintro(h | h | h | h)<;>simp[h]
open Kp (Pol poC)
theorem agN:fW [i64 0,i64 0,V.ow none []] 0 [i64 2,i64 1,V.c (C.sl [])]=(tmC (clK 1)).map V.c:=rfl
def Ek:=jj @pkA (jj @ptA (jj @pkS @xz))
def vr:=jj @pkA (jj @ptA @xz)
def aaW:=jj @pkA (jj @ptA @pkS)
def aaX:=jj @pkA (jj @ptA @pkT)
def aaY:=jj @pkA (jj @ptA (jj @pkT @xz))
set_option maxHeartbeats 8000000 in
theorem Qp:FnOK Tryz.prog glM 10 [] (bo true):=by
 have pol:=Qo (G:=glM);have run:FnOK Tryz.prog glM 11 [.agg (poC pL),.c (sR [⟨1,0,0,0,0⟩,⟨1,0,0,0,0⟩,⟨9,0,1,0,0⟩])] (.tup [.agg (syC s2E),i64 3,i64 0]):=by have:=VJ (p:=pL) Ju [⟨1,0,0,0,0⟩,⟨1,0,0,0,0⟩,⟨9,0,1,0,0⟩] (by decide);rw[aaS] at this;exact this
 have st6:=uP (p:=pL) (s:=s2E) (c:=⟨5,0,0,0,0⟩) Ju e_ok2;rw[aaT] at st6;have st8:=uP (p:=pL) (s:=s2E) (c:=⟨3,0,0,0,0⟩) Ju e_ok2;rw[agL] at st8;have st10:=uP (p:=pL) (s:=s6E) (c:=⟨5,0,0,1,0⟩) Ju e_ok6;rw[ad9] at st10;have st12:=uP (p:=pL) (s:=s2E) (c:=⟨3,2,0,0,0⟩) Ju e_ok2;rw[aea] at st12;simp only[stR] at st6 st8 st10 st12;have f2:=uc e_ok2;rw[Jv] at f2;have f6:=uc e_ok6;rw[Cb] at f6;have l1:s2E.hs.length=2:=rfl;have l2:s2E.its.length=1:=rfl;have l3:s2E.os.length=2:=rfl;have l4:s6E.its.length=2:=rfl;have l5:s2E.fresh=2:=rfl;have i6:s6E.its=[gr (clK 0) (clK 1),clK 1]:=rfl;have i2:s2E.its=[gr (clK 0) (clK 1)]:=rfl;have sf2:=rX (G:=glM) [⟨1,1,0⟩,⟨2,1,1⟩] [⟨1,1,0⟩,⟨2,1,1⟩] (by decide) (by decide);rw[dU rfl] at sf2;have sf6:=rX (G:=glM) [⟨1,0,0⟩,⟨1,1,0⟩,⟨2,1,0⟩,⟨3,1,0⟩] [⟨1,0,0⟩,⟨1,1,0⟩,⟨2,1,0⟩,⟨3,1,0⟩] (by decide) (by decide);rw[dU rfl] at sf6;have k1:=om e_ok2 (clK 1) (by decide) (by decide);rw[Ca 1 (.inr rfl)] at k1;have k2:=om e_ok6 (clK 1) (by decide) (by decide);rw[GA] at k2;have k3:=om e_ok2 (gr (clK 0) (clK 1)) (by decide) (by decide);rw[show ni s2E (gr (clK 0) (clK 1))=-1 from rfl] at k3;have r1:=vZ e_ok6 1;rw[show CP s6E 3 1=true by unfold CP;rw[Cb];decide] at r1;have r2:=vZ e_ok2 1;rw[show CP s2E 3 1=false by unfold CP;rw[Jv];decide] at r2;have r3:=VT e_ok6 1;rw[show CP s6E 4 1=false by unfold CP;rw[Cb];decide] at r3;have m1:=Gz (G:=glM) e_ok2.b e_ok2.b;rw[dU rfl] at m1;have m2:=Gz (G:=glM) e_ok2.b e_ok6.b;rw[eY (show s2E≠s6E from λh=>absurd (kK (λs=>s.its.length) h) (by decide))] at m2;have n2:((2:Nat):Int)=2:=rfl;have n1:((1:Nat):Int)=1:=rfl;have c0:=ol (G:=glM) (clK 1) (clK 1) (by decide) (by decide);rw[show jJ (clK 1) (clK 1)=0 by decide] at c0;generalize hs2:s2E=s2 at *;generalize hs6:s6E=s6 at *;refine bD (rs:=[.tmp 0]) false [] mixed Tryz.func10 rfl rfl rfl rfl (by kernel_rfl) (by simp) rfl rfl ?_;simp only[VW,seval,List.append_eq];refine ax rfl pol (by first | exact(λh=>by cases h) | exact λ_=>rfl) ?_
 simp only[pkA,seval];refine ax rfl run (by first | exact(λh=>by cases h) | exact λ_=>rfl) ?_
 simp only[Ek,seval,hsC,tsC,aj,l1,l2,l3,n2,n1,ah];refine ax rfl f2 (by first | exact(λh=>by cases h) | exact λ_=>rfl) ?_
 simp only[pkA,seval];refine ax rfl pol (by first | exact(λh=>by cases h) | exact λ_=>rfl) ?_
 simp only[vr,seval,ah];refine ax rfl st6 (by first | exact(λh=>by cases h) | exact λ_=>rfl) ?_
 simp only[Ek,seval,ah];refine ax rfl pol (by first | exact(λh=>by cases h) | exact λ_=>rfl) ?_
 simp only[vr,seval,ah];refine ax rfl st8 (by first | exact(λh=>by cases h) | exact λ_=>rfl) ?_
 simp only[Ek,seval,tsC,aj,l4,n2,ah];refine ax rfl pol (by first | exact(λh=>by cases h) | exact λ_=>rfl) ?_
 simp only[vr,seval,ah];refine ax rfl st10 (by first | exact(λh=>by cases h) | exact λ_=>rfl) ?_
 simp only[Ek,seval,ah];refine ax rfl pol (by first | exact(λh=>by cases h) | exact λ_=>rfl) ?_
 simp only[vr,seval,ah];refine ax rfl st12 (by first | exact(λh=>by cases h) | exact λ_=>rfl) ?_
 simp only[Ek,seval,agN,ah];refine ax rfl sf2 (by first | exact(λh=>by cases h) | exact λ_=>rfl) ?_
 simp only[vr,seval,ah];refine ax rfl f6 (by first | exact(λh=>by cases h) | exact λ_=>rfl) ?_
 simp only[VW,seval];refine ax rfl sf6 (by first | exact(λh=>by cases h) | exact λ_=>rfl) ?_
 simp only[aaW,seval,tsC,ah];refine cR dc rfl cV (by decide) (by decide) (c:=tmC (clK 1)) (by rw[i6];rfl) (by rfl) ?_;simp only[aaX,seval,ah];refine ax rfl c0 (by first | exact(λh=>by cases h) | exact λ_=>rfl) ?_
 simp only[aaY,seval,ah];refine ax rfl k1 (by first | exact(λh=>by cases h) | exact λ_=>rfl) ?_
 simp only[aaY,seval,ah];refine ax rfl k2 (by first | exact(λh=>by cases h) | exact λ_=>rfl) ?_
 simp only[Ek,seval,tsC,ah];refine cR dc rfl cV (by decide) (by decide) (c:=tmC (gr (clK 0) (clK 1))) (by rw[i2];rfl) (by rfl) ?_;simp only[aaX,seval];refine ax rfl k3 (by first | exact(λh=>by cases h) | exact λ_=>rfl) ?_
 simp only[vr,seval,ah];refine ax rfl r1 (by first | exact(λh=>by cases h) | exact λ_=>rfl) ?_
 simp only[vr,seval,ah];refine ax rfl r2 (by first | exact(λh=>by cases h) | exact λ_=>rfl) ?_
 simp only[vr,seval,ah];refine ax rfl r3 (by first | exact(λh=>by cases h) | exact λ_=>rfl) ?_
 simp only[vr,seval,ah];refine ax rfl m1 (by first | exact(λh=>by cases h) | exact λ_=>rfl) ?_
 simp only[vr,seval,ah];refine ax rfl m2 (by first | exact(λh=>by cases h) | exact λ_=>rfl) ?_
 simp only[aaW,seval,l5,ah]
theorem GB {P:Program} {T e:TypeId} {i j:TI} {es:List (List C)} {lo hi:Option V} {l h:Nat} {K:V->Prop} (hT:ti P T=some i) (hk:i.kd=.slice e) (hE:ti P e=some j) (h1:ic 0 lo=some (l:Nat)) (h2:ic es.length hi=some (h:Nat)) (hlh:l<=h) (hhe:h<=es.length) (hx:∀ x∈es,x.length=j.size)
 (hK:K (.c (.sl ((es.take h).drop l)))):ig P T (.c (.sl es)) lo hi none K:=by
 obtain⟨kd,a,b,c,d,f,g⟩:=i;simp only at hk;subst hk;simp only[ig,hT,hE,h1,h2];exact⟨⟨by omega,by omega,by omega,hx⟩,hK⟩
open Go Go.Vl Go.RowKit Go.ChangeShapes Go.Proofs.YtegbpjodbjhjeaaGreatDoor
set_option maxRecDepth 100000
def argTypes:List TypeId:=[26,9,3,22,23,24,56,94,154,27,29,221,151,179]
theorem v6:vO Tryz.prog argTypes=true:=by kernel_rfl
theorem Qq:laidOutB Tryz.prog=true:=by kernel_rfl
theorem agO:ownKnob Tryz.prog.godebug=none:=by kernel_rfl
def xJ:List (String×DataW Unit):=[("math/bits.deBruijn32tab",Rows.laid_math_bits_deBruijn32tab),("math/bits.deBruijn64tab",Rows.laid_math_bits_deBruijn64tab),("internal/strconv.uint64pow10",Rows.laid_internal_strconv_uint64pow10),("custody/check.own",Rows.laid_custody_check_own)]
theorem ai6:(Tryz.prog.globals[1]?).map (·.type)=some 221:=by kernel_rfl
theorem ZI:tM (Rows.laid_internal_strconv_uint64pow10:DataW Unit)=some (Lib.pow10Tab.map λz=>[C.lit (.int .u64 z)]).flatten:=by kernel_rfl
theorem Qr:Tryz.prog.globalNamed "custody/check.own" = some 0:=by kernel_rfl
theorem agP:(Tryz.prog.globals[0]?).map (·.type)=some 179:=by kernel_rfl
theorem ZJ:tM (Rows.laid_custody_check_own:DataW Unit)=some [.lit (.int .i64 23),.lit (.int .i64 24),.lit (.int .i64 25)]:=by kernel_rfl
set_option maxRecDepth 100000 in
theorem agQ {W:World} (h:laidMetH Tryz.prog xJ W):GOK glM (Bv W) W:=by
 have h':laidMet Tryz.prog xJ W:=by rw[Go.MakeChecks.laidMetH_plain _ _ _ (by kernel_rfl)] at h;exact h
 intro g cs hg;obtain⟨ps,hv,_⟩:=h';unfold gat at hg;split at hg
 .cases hg
 .unfold glM at hg
  split at hg
  .rename_i h0
   simp only[ap] at hg;subst hg;subst h0;exact BA v6 Qr agP (by simp[argTypes]) (d:=Rows.laid_custody_check_own) ZJ xJ ps hv (aT _ (aT _ (aT _ (aX ..))))
  .unfold glT at hg
   split at hg
   .rename_i h0
    simp only[ap] at hg;subst hg;subst h0;exact BA v6 DV ai6 (by simp[argTypes]) (d:=Rows.laid_internal_strconv_uint64pow10) ZI xJ ps hv (aT _ (aT _ (aX ..)))
   .cases hg
theorem VY (os:Os) (args:Array Value):laidMet Tryz.prog xJ ((World.doorLaid Tryz.prog 400 os).forCall (λ_ _=>0) ⟨#[],args,[]⟩).memory:=
 laidMet_of_run' 8 (by kernel_rfl) (by kernel_rfl)
theorem Qs (os:Os) (args:Array Value):laidMetH Tryz.prog xJ ((World.doorLaid Tryz.prog 400 os).forCall (λ_ _=>0) ⟨#[],args,[]⟩).memory:=by rw[Go.MakeChecks.laidMetH_plain _ _ _ (by kernel_rfl)];exact VY os args
def ai7:Value:=.agg #[.string ⟨#[]⟩,.slice none 0 0,.slice none 0 0,.slice none 0 0]
def ai8:Value:=.agg #[.int .i64 0,.int .i64 0,.int .i64 0,.int .i64 0,.int .i64 0]
theorem Qt {x:List V} {a b c d:TypeId} (h:wX Tryz.prog [a,b,c,d] x):∃ u v w y,x=[u,v,w,y]/\(∃ n cs,Shp Tryz.prog n a cs/\u=sQ Tryz.prog a cs)/\(∃ n cs,Shp Tryz.prog n b cs/\v=sQ Tryz.prog b cs)/\(∃ n cs,Shp Tryz.prog n c cs/\w=sQ Tryz.prog c cs)/\(∃ n cs,Shp Tryz.prog n d cs/\y=sQ Tryz.prog d cs):=by
 match x,h with
 |[u,v,w,y],h=>exact⟨u,v,w,y,rfl,h.1,h.2.1,h.2.2.1,h.2.2.2.1⟩
