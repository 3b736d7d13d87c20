/- Layer 19, the specification: Least, Compile. -/
import Derived.Test.YtloppcgcepgbnaaGreatDoorVlD4
set_option maxHeartbeats 8000000
set_option linter.all false
namespace Go.Proofs.YtloppcgcepgbnaaGreatDoor
open Go Go.Vl Go.Proofs.YtloppcgcepgbnaaGreatDoor.Kw
variable {G:Gl}
set_option maxRecDepth 100000
open Go Go.Vl
set_option maxRecDepth 20000
def exN (f:Int):Pol:=⟨⟨#[112]⟩,[⟨⟨#[97]⟩,f,0⟩],[],[]⟩
def exP:Pol:=exN 65
def exQ:Pol:=exN 69
def exF:List Fa:=[⟨1,1,0⟩,⟨2,0,0⟩]
def exG:List Fa:=[⟨1,0,0⟩,⟨1,1,0⟩,⟨2,0,0⟩,⟨3,1,0⟩]
def exL:List Fa:=[⟨3,1,0⟩]
def exI:In:=⟨6,[⟨1,1,0⟩],[⟨3,1,0⟩]⟩
theorem exS (f:Int):PolS (exN f):=⟨by simp[exN],by simp[exN]⟩
theorem Zs {p:Pol} {l m:List Fa} (h:cG (zm (fR p none))=m) (hl:StF l) (hm:∀ f,f∈m↔f∈l):fm p=l:=
 sF (FX p) hl λf=>by rw[sK];unfold yz;rw[h,hm]
theorem adE:cG (zm (fR exP none))=[⟨1,1,0⟩,⟨2,0,0⟩]:=by kernel_rfl
theorem adF:cG (zm (fR exQ none))=[⟨1,1,0⟩,⟨2,0,0⟩,⟨3,1,0⟩,⟨1,0,0⟩]:=by kernel_rfl
theorem vl:fm exP=exF:=Zs adE (by decide) (λf=>by simp[exF])
theorem adG:fm exQ=exG:=Zs adF (by decide) (λf=>by
 simp only[exG,aP,aZ,cR];constructor
 .rintro(h | h | h | h)<;>simp[h]
 .rintro(h | h | h | h)<;>simp[h])
theorem Qj (f:Int) (h:Ks 64 f=true):rh (exN f)=[⟨3,1,0⟩,⟨4,1,0⟩]:=by rw[YQ];show C6 (exN f) [] 0=_;unfold C6;rw[show sy (exN f) 0 64=Ks 64 f from rfl,if_pos h];rfl
theorem Qk:oI exP exF=[]:=by unfold oI;rw[show rh exP=_ from Qj 65 (by kernel_rfl)];decide
theorem adH:oI exQ exG=exL:=by unfold oI;rw[show rh exQ=_ from Qj 69 (by kernel_rfl)];decide
theorem F4:kH exP=true:=by kernel_rfl
theorem zB:kH exQ=true:=by kernel_rfl
theorem exK {f:Int} (h:I64 f):zy (exN f) where
 inn:={
  name:=a8 rfl
  lt:=a8 rfl
  lr:=a8 rfl
  lq:=a8 rfl
  types:=λt ht=>by have:t=⟨⟨#[97]⟩,f,0⟩:=(by simpa[kPo,exN] using ht);subst this;exact⟨a8 rfl,h,show I64 0 from⟨by decide,by decide⟩⟩
  rules:=λt ht=>by cases ht
  quorums:=λt ht=>by cases ht }
 sm:=a8 rfl
theorem adI {p:Pol} (h:∀ f∈exF,gj p f=true):fS true p (jJ exF)=(exF,0):=by have e:=zA (exS 65);rw[show exN 65=exP from rfl,vl] at e;have:=Qi (p:=p) (b:=jJ exF) (by rw[e]) (by rw[e];exact h);rw[this,e]
theorem LH:fS true exQ (jJ exF)=(exF,0):=adI (by decide)
theorem DW:gX exQ exF=(exI,false):=by kernel_rfl
theorem Zt:dX (jJ exF)=(exF,0):=by have e:=zA (exS 65);rwa [show exN 65=exP from rfl,vl] at e
theorem adJ:lO true exP=(jJ exF,[],0):=by unfold lO;rw[vl,if_neg (by decide),if_pos Qk]
theorem adK:lO true exQ=([],exL,21):=by unfold lO;rw[adG,if_neg (by decide),adH,if_neg (by decide)]
theorem adL:vF true exQ (jJ exF)=(exI,0):=by unfold vF;rw[LH,if_neg (by decide),DW]
theorem adM:mH true exP (jJ exF)=0:=by have:=OI (exS 65) (by rw[show exN 65=exP from rfl,vl];exact Qk);rwa [show exN 65=exP from rfl,vl] at this
theorem adN:mH true exQ (jJ exF)=21:=by unfold mH;rw[LH,if_neg (by decide),DW,if_neg (by simp)]
theorem Zu:dX [129,1]=([],5):=by kernel_rfl
def Zv:=jj @pkA @ptA
theorem F5 (f:Int):FnOK Tryz.prog G 26 [i64 f] (.agg (poC (exN f))):=by refine bI (rs:=[.cell 2 26]) false [] mixed Tryz.func26 rfl rfl rfl rfl (by kernel_rfl) (by simp) rfl rfl ?_;simp only[Zv,seval];refine⟨rfl,?_⟩;unfold ldA;exact⟨by decide,⟨rfl,rfl⟩,rfl⟩
def Um (p:Pol):Bool:=decide ((p.types.length:Int)<=6)&&(decide ((p.rules.length:Int)<=14)&&decide ((p.quorums.length:Int)<=8))
def Zw:=jj @pkA (jj @ptA @pkF)
theorem ah7 (p:Pol):FnOK Tryz.prog G 8 [.agg (poC p)] (bo (Um p)):=by
 unfold Um;refine bI (rs:=[.tmp 2]) false [] mixed Tryz.func8 rfl rfl rfl rfl (by kernel_rfl) (by simp) rfl rfl ?_;simp only[Zw,seval,au];cases h1:decide ((p.types.length:Int)<=6)
 .simp only[pkA,seval]
 cases h2:decide ((p.rules.length:Int)<=14)
 .simp only[Zw,seval,au,h2]
 simp only[Zw,seval,au,h2]
theorem aeI {p:Pol} (h:Um p=true):PolS p/\p.types.length<=6/\p.rules.length<=14/\p.quorums.length<=8:=by unfold Um at h;simp only[aW,bF] at h;exact⟨⟨by omega,by omega⟩,by omega,by omega,by omega⟩
theorem ak8 {p:Pol} (h:Um p=true) (hp:Kp.PolIn (kPo p)):zy p:=by obtain⟨_,h1,h2,h3⟩:=aeI h;refine⟨hp,?_⟩;unfold Kp.mb;simp only[kPo,au];omega
theorem Ql (hG:GV G) {p:Pol} (hp:zy p) (b:B) (hb:b.length<=1000000000):FnOK Tryz.prog G 33 [.agg (poC p),bv b] (.tup [.c (fsC (fS (kH p) p b).1),i64 (fS (kH p) p b).2]):=
 Y2 _ p b (F3 hG hp) hb (by have:=vg b;omega)
theorem Qm {p:Pol} (hp:zy p) (b:B) (hb:b.length<=1000000000):FnOK Tryz.prog G 35 [.agg (poC p),bv b] (.tup [.c (fsC (fS (kH p) p b).1),i64 (fS (kH p) p b).2]):=
 Zr _ p b (LG hp) hb
theorem yD (v:Bool) (p:Pol) (b:B):(fS v p b).1.length<=1000000:=by
 have:=vg b;unfold fS
 repeat' split
 all_goals simp only[aG]
 all_goals omega
theorem zC (hG:GV G) {p:Pol} (hp:zy p) (hs:PolS p) (b:B) (hb:b.length<=1000000000):FnOK Tryz.prog G 16 [.agg (poC p),bv b] (i64 (mH (kH p) p b)):=
 Ox _ p b (Ql hG hp b hb) (by have:=hs.ty;omega) (by have:=hs.ru;omega) lN (yD _ _ _)
theorem Un {p:Pol} (hp:zy p) (hs:PolS p) (b:B) (hb:b.length<=1000000000):FnOK Tryz.prog G 17 [.agg (poC p),bv b] (i64 (mH (kH p) p b)):=
 OJ _ p b (Qm hp b hb) (by have:=hs.ty;omega) (by have:=hs.ru;omega) hs.len lN (yD _ _ _)
theorem Zx (hG:GV G) {p:Pol} (hp:zy p) (hs:PolS p) (b:B) (hb:b.length<=1000000000):FnOK Tryz.prog G 12 [.agg (poC p),bv b] (.tup [.agg (inC (vF (kH p) p b).1),i64 (vF (kH p) p b).2]):=
 adr _ p b (Ql hG hp b hb) (by have:=hs.ty;omega) (by have:=hs.ru;omega) lN (yD _ _ _)
theorem ah8 {p:Pol} (hp:zy p) (hs:PolS p) (b:B) (hb:b.length<=1000000000):FnOK Tryz.prog G 13 [.agg (poC p),bv b] (.tup [.agg (inC (vF (kH p) p b).1),i64 (vF (kH p) p b).2]):=
 adD _ p b (Qm hp b hb) (by have:=hs.ty;omega) (by have:=hs.ru;omega) hs.len lN (yD _ _ _)
theorem DX (hG:GV G) {p:Pol} (hp:zy p) (hs:PolS p):FnOK Tryz.prog G 21 [.agg (poC p)] (.tup [.c (.sl (bC (lO (kH p) p).1)),.c (fsC (lO (kH p) p).2.1),i64 (lO (kH p) p).2.2]):=
 Lr _ p (F3 hG hp) hs (DV hs)
theorem Uo (l:List Fa) (hl:l.length<=100000) (hI:∀ f∈l,FaI f):FnOK Tryz.prog G 20 [.c (fsC l)] (.c (.sl (bC (jJ l)))):=by have hS:=N6 (G:=G) l (by omega);rw[<- Ot] at hS;exact Oy l hl hI hS
theorem F6 {l:List Fa} (h:l.length<=100000):(jJ l).length<=3000000:=by have h1:=kr (eV l).length;have h2:=H8 (eV l);have h3:=oC l;show(Vl.encI (eV l).length++((eV l).map lW).flatten).length<=_;rw[ae];omega
def qS:=jj @pkA (jj @ptA @pkI)
theorem vm (hG:GV G):FnOK Tryz.prog G 9 [] (bo true):=by
 have kP:zy exP:=exK ⟨by decide,by decide⟩;have kQ:zy exQ:=exK ⟨by decide,by decide⟩;have OP:=F6 (l:=exF) (by decide);have hE:FnOK Tryz.prog G 19 [.c (fsC exF)] (.c (.sl (bC (jJ exF)))):=wW exF (by decide) λf hf=>DV (exS 65) f (by rw[show exN 65=exP from rfl,vl];exact hf);have hCP:=DX hG kP (exS 65);rw[F4,adJ] at hCP;have hCQ:=DX hG kQ (exS 69);rw[zB,adK] at hCQ;have hFB:=vd (G:=G) (jJ exF) (by omega);rw[Zt] at hFB;have hFT:=vd (G:=G) [129,1] (by decide);rw[Zu] at hFT;have hW:=Zx hG kQ (exS 69) (jJ exF) (by omega);rw[zB,adL] at hW;have hAP:=zC hG kP (exS 65) (jJ exF) (by omega);rw[F4,adM] at hAP;have hAQ:=zC hG kQ (exS 69) (jJ exF) (by omega);rw[zB,adN] at hAQ;have hSb:=zt (G:=G) (jJ exF) (jJ exF) (by omega);have hS1:=yj (G:=G) exF exF (by decide);have hS2:=yj (G:=G) exL exL (by decide);have lf:∀ (m:List Fa) (K:V->Prop),iR Tryz.prog 28 (.c (fsC m)) K=K (i64 m.length):=λm K=>by unfold fsC;rw[fN eC rfl,au]
 have lb:∀ (b:B) (K:V->Prop),iR Tryz.prog 27 (.c (.sl (bC b))) K=K (i64 b.length):=λb K=>by rw[fN kU rfl];simp[bC]
 generalize hcb:jJ exF=cb at *;refine bI (rs:=[.tmp 0]) false [] mixed Tryz.func9 rfl rfl rfl rfl (by kernel_rfl) (by simp) rfl rfl ?_;simp only[pkA,seval];refine az rfl (F5 65) (λh=>by cases h) ?_;simp only[pkA,seval];refine az rfl (F5 69) (λh=>by cases h) ?_;rw[show exN 65=exP from rfl,show exN 69=exQ from rfl];have q0:∀ (p:Pol) (a b c d:V),eP [a,b,c,d] 0 ((poC p).map .c)=(poC p).map .c:=λ_ _ _ _ _=>rfl;have d1:decide (((exI.con.length:Nat):Int)=1)=true:=rfl;have d2:decide (((([]:List Fa).length:Nat):Int)=0)=true:=rfl;have d3:decide (((([]:B).length:Nat):Int)=0)=true:=rfl;have d4:decide (exI.rule=6)=true:=rfl;have d6:decide (((0:Nat):Int)=0)=true:=rfl;have d7:decide (((1:Nat):Int)=1)=true:=rfl;have d5:decide ((0:Int)=0)=true:=rfl;have qi:∀ (a b c:V),eP [a,b,c] 0 ((inC exI).map .c)=(inC exI).map .c:=λ_ _ _=>rfl;simp only[qS,seval,q0,List.append_eq,jm,bW];refine az rfl hCP (λh=>by cases h) ?_;simp only[pkA,seval,jm];refine az rfl hFB (λh=>by cases h) ?_;simp only[qS,seval,jm,bW];refine az rfl hCQ (λh=>by cases h) ?_;simp only[qS,seval,jm,bW];refine az rfl hW (λh=>by cases h) ?_;simp only[qS,seval,qi,jm,bW];refine az («as»:=[bv [129,1]]) rfl hFT (λh=>by cases h) ?_;simp only[Zv,seval,lf,jm,d6,bW];refine az («as»:=[.c (fsC exF),.c (fsC exF)]) rfl hS1 (λh=>by cases h) ?_;simp only[Zv,seval,lb,jm,d6,bW];refine az («as»:=[.c (fsC exL),.c (fsC exL)]) rfl hS2 (λh=>by cases h) ?_;simp only[qS,seval,jm,bW];refine az rfl hAP (λh=>by cases h) ?_;simp only[qS,seval,jm,bW];refine az rfl hAQ (λh=>by cases h) ?_;simp only[qS,seval,lf,jm,d1,d4,bW];refine az rfl hE (λh=>by cases h) ?_;simp only[pkA,seval,jm];rw[dn rfl] at hSb;refine az rfl hSb (λh=>by cases h) ?_;simp only[pkA,seval,jm]
theorem ak9 {p:Pol} {x:In} (h:x∈fR p none):N5 x:=by have:=lN x h;unfold N5;omega
theorem Up (p:Pol) (l:List Fa):N5 (gX p l).1:=by
 cases h:(gX p l).2
 .exact ak9 (Ib h).1
 .rw[uz] at h ⊢
  unfold mG at h ⊢
  cases hf:(fR p none).find? (tf l) with
  |none=>rw[hf] at h;exact⟨by decide,by decide⟩
  |some x=>rw[hf] at h;cases h
theorem Zy (v:Bool) (p:Pol) (b:B):N5 (vF v p b).1:=by
 unfold vF;split
 .exact show N5 in0 from⟨by decide,by decide⟩
 .exact Up _ _
theorem Ez (hG:GV G) {p:Pol} (hp0:Kp.PolIn (kPo p)) (b:B) (l:List Fa) (hI:∀ f∈l,FaI f):FnOK Tryz.prog G 3 [.agg (poC p),bv b,.c (fsC l)] (bo true):=by
 refine bI (rs:=[.tmp 6]) false [] mixed Tryz.func3 rfl rfl rfl rfl (by kernel_rfl) (by simp) rfl rfl ?_;have lf:∀ (m:List Fa) (K:V->Prop),iR Tryz.prog 28 (.c (fsC m)) K=K (i64 m.length):=λm K=>by unfold fsC;rw[fN eC rfl,au]
 have lb:∀ (b:B) (K:V->Prop),iR Tryz.prog 27 (.c (.sl (bC b))) K=K (i64 b.length):=λb K=>by rw[fN kU rfl];simp[bC]
 have q0:∀ (p:Pol) (a b c d:V),eP [a,b,c,d] 0 ((poC p).map .c)=(poC p).map .c:=λ_ _ _ _ _=>rfl;have qi:∀ (x:In) (a b c:V),eP [a,b,c] 0 ((inC x).map .c)=(inC x).map .c:=λ_ _ _ _=>rfl;simp only[qS,seval,bW];refine az rfl (ah7 p) (λ_=>rfl) ?_;cases hf:Um p
 .simp only[pkA,seval]
  refine az rfl (vm hG) (λh=>by cases h) ?_;simp only[pkA,seval]
 obtain⟨hs,hty,hru,hqu⟩:=aeI hf;have hp:=ak8 hf hp0;cases hb:decide ((3000:Int)<(b.length:Nat))
 case true=>simp only[pkA,seval,lb,hb];refine az rfl (vm hG) (λh=>by cases h) ?_;simp only[pkA,seval]
 have hb3:b.length<=3000:=by have:=bK hb;omega
 cases hl:decide ((200:Int)<(l.length:Nat))
 case true=>simp only[pkA,seval,lf,lb,hb,hl];refine az rfl (vm hG) (λh=>by cases h) ?_;simp only[pkA,seval]
 have hl2:l.length<=200:=by have:=bK hl;omega
 simp only[pkA,seval,lf,lb,hb,hl];have lu:=vg b;refine az rfl (vd b (by omega)) (λh=>by cases h) ?_;simp only[pkA,seval];refine az rfl (Ap b (by omega)) (λh=>by cases h) ?_;simp only[qS,seval,bW];refine az rfl (Zx hG hp hs b (by omega)) (λh=>by cases h) ?_;simp only[qS,seval,qi,bW];refine az rfl (ah8 hp hs b (by omega)) (λh=>by cases h) ?_;simp only[qS,seval,qi,bW];have Qo:=F6 (l:=l) (by omega);refine az rfl (vm hG) (λh=>by cases h) ?_;simp only[pkA,seval,jm];refine az rfl (yj (dX b).1 (dX b).1 (by omega)) (λh=>by cases h) ?_;simp only[qS,seval,jm,bW];refine az rfl (Tt (vF (kH p) p b).1 (vF (kH p) p b).1 (Zy _ _ _) (Zy _ _ _)) (λh=>by cases h) ?_;simp only[qS,seval,jm,bW];refine az rfl (zC hG hp hs b (by omega)) (λh=>by cases h) ?_;simp only[qS,seval,jm,bW];refine az rfl (Un hp hs b (by omega)) (λh=>by cases h) ?_;simp only[pkA,seval,jm,bW];refine az rfl (wW l (by omega) hI) (λh=>by cases h) ?_;simp only[pkA,seval,jm];refine az rfl (Uo l (by omega) hI) (λh=>by cases h) ?_;simp only[pkA,seval,jm];refine az rfl (zt (jJ l) (jJ l) (by omega)) (λh=>by cases h) ?_;simp only[pkA,seval,jm,bW]
