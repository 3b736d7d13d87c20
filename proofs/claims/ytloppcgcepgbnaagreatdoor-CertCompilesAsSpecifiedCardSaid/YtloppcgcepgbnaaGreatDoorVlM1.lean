/- Layer 19, the specification: Least, Compile. -/
import Derived.Test.YtloppcgcepgbnaaGreatDoorVlD4
set_option maxHeartbeats 8000000
set_option linter.all false
namespace Go.Proofs.YtloppcgcepgbnaaGreatDoor
open Go Go.Vl Go.Proofs.YtloppcgcepgbnaaGreatDoor.Kw
variable {G:Gl}
set_option maxRecDepth 100000
theorem Gf {l:List Fa}:∀ (cs:List Fa) {out:List Fa},StF out->StF (cs.foldl (zq l) out)/\∀ x,x∈cs.foldl (zq l) out↔x∈out∨(x∈cs/\x∉l)
 |[],out,h=>⟨h,λx=>by simp⟩
 |c::cs,out,h=>by
  rw[di];have h1:StF (zq l out c):=by
   unfold zq;split
   .exact h
   .exact oO h c
  obtain⟨h2,h3⟩:=Gf (l:=l) cs h1;refine⟨h2,λx=>?_⟩;rw[h3 x];unfold zq;by_cases hc:c∈l
  .rw[if_pos hc]
   constructor
   .rintro(h | ⟨h,k⟩)
    .exact .inl h
    .exact .inr ⟨aP _ h,k⟩
   .rintro(h | ⟨h,k⟩)
    .exact .inl h
    .rcases aN.1 h with rfl | h
     .exact absurd hc k
     .exact .inr ⟨h,k⟩
  .rw[if_neg hc,uR]
   constructor
   .rintro((h | rfl) | ⟨h,k⟩)
    .exact .inl h
    .exact .inr ⟨bD ..,hc⟩
    .exact .inr ⟨aP _ h,k⟩
   .rintro(h | ⟨h,k⟩)
    .exact .inl (.inl h)
    .rcases aN.1 h with rfl | h
     .exact .inl (.inr rfl)
     .exact .inr ⟨h,k⟩
theorem xh {l:List Fa}:∀ (m:List In) {out:List Fa},StF out->StF (m.foldl (vY l) out)/\∀ x,x∈m.foldl (vY l) out↔x∈out∨∃ y∈m,(∀ f∈y.pre,f∈l)/\x∈y.con/\x∉l
 |[],out,h=>⟨h,λx=>by simp⟩
 |y::m,out,h=>by
  rw[di];have hs:StF (vY l out y)/\∀ x,x∈vY l out y↔x∈out∨((∀ f∈y.pre,f∈l)/\x∈y.con/\x∉l):=by
   unfold vY;have ha:(y.pre.all λf=>decide (f∈l))=true↔∀ f∈y.pre,f∈l:=(by rw[a8];exact⟨λh f hf=>bw (h f hf),λh f hf=>dD (h f hf)⟩);by_cases hp:(y.pre.all λf=>decide (f∈l))=true
   .rw[if_pos hp]
    obtain⟨h2,h3⟩:=Gf (l:=l) y.con h;refine⟨h2,λx=>?_⟩;rw[h3 x];exact⟨λh=>h.imp id λh=>⟨ha.1 hp,h⟩,λh=>h.imp id λh=>h.2⟩
   .rw[if_neg hp]
    exact⟨h,λx=>⟨.inl,λh=>h.elim id λh=>absurd (ha.2 h.1) hp⟩⟩
  obtain⟨h2,h3⟩:=xh (l:=l) m hs.1;refine⟨h2,λx=>?_⟩;rw[h3 x,hs.2 x];constructor
  .rintro((h | h) | ⟨z,hz,h⟩)
   .exact .inl h
   .exact .inr ⟨y,bD ..,h⟩
   .exact .inr ⟨z,aP _ hz,h⟩
  .rintro(h | ⟨z,hz,h⟩)
   .exact .inl (.inl h)
   .rcases aN.1 hz with rfl | hz
    .exact .inl (.inr h)
    .exact .inr ⟨z,hz,h⟩
theorem zG {l:List Fa} {m:List In} {x:Fa}:x∈sn l m↔∃ y∈m,(∀ f∈y.pre,f∈l)/\x∈y.con/\x∉l:=by unfold sn;rw[(xh m List.Pairwise.nil).2 x];simp
theorem UX {p:Pol} {l:List Fa} (hs:StF l) (fF:∀ f∈l,f∈db p) (h:sn l (fN p none)=[]):l=db p:=by refine ql hs (zA p) λx=>⟨fF x,λhx=>?_⟩;refine UK (S:=l) (λy hy hp c hc=>Classical.byContradiction λq=>?_) x hx;have:c∈sn l (fN p none):=zG.2 ⟨y,hy,hp,hc,q⟩;rw[h] at this;cases this
def QP (p:Pol) (l:List Fa):Nat:=((db p).filter λf=>!decide (f∈l)).length
theorem afI {p:Pol} {l m:List Fa} (fF:∀ f∈l,f∈m) {x:Fa} (hx:x∈db p) (h1:x∉l) (h2:x∈m):QP p m<QP p l:=by
 unfold QP;have e:(db p).filter (λf=>!decide (f∈m))=((db p).filter λf=>!decide (f∈l)).filter λf=>!decide (f∈m):=by
  rw[List.filter_filter];congr 1;funext f;by_cases q:f∈l
  .simp[q,fF f q]
  .simp[q]
 rw[e];exact List.length_filter_lt_length_iff_exists.2 ⟨x,eW.2 ⟨hx,by simpa using h1⟩,by simpa using h2⟩
def agJ:=jj @pkA (jj @ptA @aky)
theorem UY (p:Pol) (h:PolS p) (cm:(fN p none).length<=20000):FnOK Tryz.prog G 44 [.agg (poC p)] (.c (fsC (db p))):=by
 refine bJ (rs:=[.tmp 2]) false [] mixed Tryz.func44 rfl rfl rfl rfl (by kernel_rfl) (by simp) rfl rfl ?_;have hty:=h.ty;have hru:=h.ru;have IG:kH (fN p none):=og;have Gk:=qo h;have lf:∀ (m:List Fa) (K:V->Prop),fq Tryz.prog 28 (.c (fsC m)) K=K (i64 m.length):=λm K=>by unfold fsC;rw[fD dY rfl,au]
 simp only[pkA,seval];refine bz (λx:Bool×List Fa=>hdS [(1,.bp 0 0),(3,nV x.1 x.2)] [(poC p).map .c]) (λx=>QP p x.2) (λx=>(x.1=true->x.2=[])/\StF x.2/\∀ f∈x.2,f∈db p) (true,[]) ⟨λ_=>rfl,List.Pairwise.nil,λ_ h=>by cases h⟩ ?_ ?_
 .exact cg (by simp only[gz,aY,bn,oe];rfl) (ar _) (ab _) (by simp[FL,aj,nV]) (by simp[BL])
 rintro⟨b,l⟩ ⟨hb,hst,fF⟩ R bL bQ dq;simp only at hb hst fF;have hz:(nV b l).fz=.c (fsC l):=FK hb;have Vb:l.length<=40000:=by have:=Im hst.nodup fF;omega
 simp only[agJ,seval,hz];refine aC rfl (ZY p l (by omega) (by omega) cm IG (by omega)) (λh=>by cases h) ?_;simp only[pkA,seval,lf];refine aD (λh0=>?_) (λh0=>?_)
 .have h0:sn l (fN p none)=[]:=by have:(sn l (fN p none)).length=0:=(by simpa using h0);exact List.length_eq_zero_iff.1 this
  have e:=UX hst fF h0;simp only[pkA,seval,hz];refine dq _ ?_;simp only[pkA,seval];rw[<- e]
 have h0:sn l (fN p none)≠[]:=λq=>by rw[q] at h0;simp at h0
 have hn:∀ f∈sn l (fN p none),f∈db p:=λf hf=>by obtain⟨y,hy,h1,h2,_⟩:=zG.1 hf;exact yI y hy (λg hg=>fF g (h1 g hg)) f h2
 have vC:∀ f∈sn l (fN p none),f∉l:=λf hf=>by obtain⟨y,hy,h1,h2,h3⟩:=zG.1 hf;exact h3
 have hnn:StF (sn l (fN p none)):=(xh _ List.Pairwise.nil).1;have ar4:(sn l (fN p none)).length<=40000:=by have:=Im hnn.nodup hn;omega
 generalize sn l (fN p none)=m at *;simp only[pkA,seval];refine bz (λy:Nat×Bool×List Fa=>hdS [(1,.bp 0 0),(3,nV y.2.1 y.2.2),(4,.c (fsC m)),(5,i64 y.1)] [(poC p).map .c]) (λy=>m.length - y.1) (λy=>y.1<=m.length/\(y.2.1=true->y.2.2=[])/\StF y.2.2/\∀ x,x∈y.2.2↔x∈l∨x∈m.take y.1) (0,b,l) ⟨ar _,hb,hst,λx=>by simp⟩ ?_ ?_
 .exact cg (by simp only[gz,aY,bn,oe];rfl) (ar _) (ab _) (by simp[FL,aj]) (by simp[BL,bxs])
 rintro⟨i,b2,l2⟩ ⟨hi,hb2,nB,Vp⟩ R2 xp zP agZ;simp only at hi hb2 nB Vp;have L8:(nV b2 l2).fz=.c (fsC l2):=FK hb2;have ag3:∀ f∈l2,f∈db p:=λf hf=>by
  rcases(Vp f).1 hf with q | q
  .exact fF f q
  .exact hn f (c9 q)
 have atQ:l2.length<=40000:=by have:=Im nB.nodup ag3;omega
 simp only[pkA,seval,lf];refine aD (λbF=>?_) (λfO=>?_)
 .have bF:i<m.length:=by simpa using bF
  have hw:=br (n:=(i:Int)+1) (k:=i+1) (by omega) (by omega);simp only[pkA,seval,L8];refine dP dY rfl eK (by decide) (ay i) (c:=faC m[i]) (by simp[bF]) rfl ?_;simp only[agJ,seval];refine aC rfl (sb l2 m[i] (by omega)) (λh=>by cases h) ?_;simp only[pkA,seval,hw];refine xp (i+1,false,o8 l2 m[i]) _ ⟨bF,(λh=>by cases h),oO nB _,λx=>?_⟩ (by simp only;omega) (cg (by simp only[gz,aY,bn,oe];rfl) (ar _) (ab _) (by simp[FL,aj,nV]) (by simp[BL,bxs]));simp only;rw[uR,Vp,aT bF,ba,aX];exact⟨λh=>by rcases h with(h | h) | h;exact .inl h;exact .inr (.inl h);exact .inr (.inr h),λh=>by rcases h with h | h | h;exact .inl (.inl h);exact .inl (.inr h);exact .inr h⟩
 .have:i=m.length:=by simp at fO;omega
  subst this;rw[bW] at Vp;simp only[pkA];refine zP _ _ ?_;simp only[pkA,seval];obtain⟨x,hx⟩:=List.exists_mem_of_ne_nil m h0;exact bL (b2,l2) _ ⟨hb2,nB,ag3⟩ (afI (λf hf=>(Vp f).2 (.inl hf)) (hn x hx) (vC x hx) ((Vp x).2 (.inr hx))) (cg (by simp only[gz,aY,bn,oe];rfl) (ar _) (ab _) (by simp[FL,aj]) (by simp[BL,bxs]))
def cpC (x:B×List Fa×Int):List C:=[.sl (bC x.1),fsC x.2.1,.lit (.int .i64 x.2.2)]
theorem Pg (x:B×List Fa×Int):ck (eQ [.ow none [],.ow none [],i64 0] 0 [V.c (.sl (bC x.1)),V.c (fsC x.2.1),i64 x.2.2])=false/\ldA 2 1 (eQ [.ow none [],.ow none [],i64 0] 0 [V.c (.sl (bC x.1)),V.c (fsC x.2.1),i64 x.2.2]) 0 3 λu=>u=V.agg (cpC x):=
 ⟨rfl,by unfold ldA;exact⟨by decide,⟨rfl,rfl⟩,rfl⟩⟩
def aaD:=jj @pkA (jj @ptA @pkS)
def Gg:=jj @pkA @ptA
theorem LW (v:Bool) (p:Pol) (hV:FnOK Tryz.prog G 25 [.agg (poC p)] (bo v)) (hp:PolS p) :
 FnOK Tryz.prog G 22 [.agg (poC p)] (.agg (cpC (gb v p))):=by
 refine bJ (rs:=[.cell 2 47]) false [] mixed Tryz.func22 rfl rfl rfl rfl (by kernel_rfl) (by simp) rfl rfl ?_;have lf:∀ (m:List Fa) (K:V->Prop),fq Tryz.prog 28 (.c (fsC m)) K=K (i64 m.length):=λm K=>by unfold fsC;rw[fD dY rfl,au]
 have hty:=hp.ty;have lG:=qo hp;have Gk:(fN p none).length<=20000:=hp.len;simp only[aaD,seval];refine aC rfl hV (λ_=>rfl) ?_;unfold gb;cases v
 .simp only[Gg,seval]
  exact Pg ([],[],1)
 .simp only[aaD,seval]
  refine aC rfl (UY p hp Gk) (λh=>by cases h) ?_;simp only[aaD,seval];refine aC rfl (UW p (db p) (by omega) (by omega)) (λh=>by cases h) ?_;simp only[pkA,seval,lf];refine aD (λhb=>?_) (λhb=>?_)
  .have hb:¬ mF p (db p)=[]:=λh=>by rw[h] at hb;simp at hb
   simp only[Gg,seval]
   first | rw[if_neg (by decide),if_neg hb] | rw[if_neg hb]
   exact Pg ([],mF p (db p),21)
  .have hb:mF p (db p)=[]:=by simpa using hb
   simp only[pkA,seval];have hS:=OF (G:=G) (db p) (by omega);rw[<- OY] at hS;refine aC rfl (O3 (db p) (by omega) (yJ hp) hS) (λh=>by cases h) ?_;simp only[Gg,seval]
   first | rw[if_neg (by decide),if_pos hb] | rw[if_pos hb]
   exact Pg (jI (db p),[],0)
open Go Go.Vl
set_option maxRecDepth 20000
def exN (f:Int):Pol:=⟨⟨#[112]⟩,[⟨⟨#[97]⟩,f,0⟩],[],[]⟩
def exP:Pol:=exN 65
def exQ:Pol:=exN 69
def exF:List Fa:=[⟨1,1,0⟩,⟨2,0,0⟩]
def exG:List Fa:=[⟨1,0,0⟩,⟨1,1,0⟩,⟨2,0,0⟩,⟨3,1,0⟩]
def exL:List Fa:=[⟨3,1,0⟩]
def exI:In:=⟨6,[⟨1,1,0⟩],[⟨3,1,0⟩]⟩
theorem exS (f:Int):PolS (exN f):=⟨by simp[exN],by simp[exN]⟩
theorem aaE {p:Pol} {l m:List Fa} (h:cB (vL (fN p none))=m) (hl:StF l) (hm:∀ f,f∈m↔f∈l):db p=l:=
 ql (zA p) hl λf=>by rw[qn];unfold yG;rw[h,hm]
theorem afJ:cB (vL (fN exP none))=[⟨1,1,0⟩,⟨2,0,0⟩]:=by kernel_rfl
theorem afK:cB (vL (fN exQ none))=[⟨1,1,0⟩,⟨2,0,0⟩,⟨3,1,0⟩,⟨1,0,0⟩]:=by kernel_rfl
theorem vB:db exP=exF:=aaE afJ (by decide) (λf=>by simp[exF])
theorem afL:db exQ=exG:=aaE afK (by decide) (λf=>by
 simp only[exG,aN,bf,cR];constructor
 .rintro(h | h | h | h)<;>simp[h]
 .rintro(h | h | h | h)<;>simp[h])
theorem QQ (f:Int) (h:KL 64 f=true):qG (exN f)=[⟨3,1,0⟩,⟨4,1,0⟩]:=by rw[Z3];show C7 (exN f) [] 0=_;unfold C7;rw[show sV (exN f) 0 64=KL 64 f from rfl,if_pos h];rfl
theorem QR:mF exP exF=[]:=by unfold mF;rw[show qG exP=_ from QQ 65 (by kernel_rfl)];decide
theorem afM:mF exQ exG=exL:=by unfold mF;rw[show qG exQ=_ from QQ 69 (by kernel_rfl)];decide
theorem Gh:mq exP=true:=by kernel_rfl
theorem zH:mq exQ=true:=by kernel_rfl
theorem exK {f:Int} (h:I64 f):DK (exN f) where
 inn:={
  name:=bw rfl
  lt:=bw rfl
  lr:=bw rfl
  lq:=bw rfl
  types:=λt ht=>by have:t=⟨⟨#[97]⟩,f,0⟩:=(by simpa[kPo,exN] using ht);subst this;exact⟨bw rfl,h,show I64 0 from⟨by decide,by decide⟩⟩
  rules:=λt ht=>by cases ht
  quorums:=λt ht=>by cases ht }
 sm:=bw rfl
theorem afN {p:Pol} (h:∀ f∈exF,jn p f=true):jU true p (jI exF)=(exF,0):=by have e:=zF (exS 65);rw[show exN 65=exP from rfl,vB] at e;have:=QO (p:=p) (b:=jI exF) (by rw[e]) (by rw[e];exact h);rw[this,e]
theorem LX:jU true exQ (jI exF)=(exF,0):=afN (by decide)
theorem DO:lY exQ exF=(exI,false):=by kernel_rfl
theorem aaF:fi (jI exF)=(exF,0):=by have e:=zF (exS 65);rwa [show exN 65=exP from rfl,vB] at e
theorem afO:gb true exP=(jI exF,[],0):=by unfold gb;rw[vB,if_neg (by decide),if_pos QR]
theorem afP:gb true exQ=([],exL,21):=by unfold gb;rw[afL,if_neg (by decide),afM,if_neg (by decide)]
theorem afQ:O2 true exQ (jI exF)=(exI,0):=by unfold O2;rw[LX,if_neg (by decide),DO]
theorem afR:pF true exP (jI exF)=0:=by have:=DN (exS 65) (by rw[show exN 65=exP from rfl,vB];exact QR);rwa [show exN 65=exP from rfl,vB] at this
theorem afS:pF true exQ (jI exF)=21:=by unfold pF;rw[LX,if_neg (by decide),DO,if_neg (by simp)]
theorem aaG:fi [129,1]=([],5):=by kernel_rfl
theorem Gi (f:Int):FnOK Tryz.prog G 26 [i64 f] (.agg (poC (exN f))):=by refine bJ (rs:=[.cell 2 26]) false [] mixed Tryz.func26 rfl rfl rfl rfl (by kernel_rfl) (by simp) rfl rfl ?_;simp only[Gg,seval];refine⟨rfl,?_⟩;unfold ldA;exact⟨by decide,⟨rfl,rfl⟩,rfl⟩
def UZ (p:Pol):Bool:=decide ((p.types.length:Int)<=6)&&(decide ((p.rules.length:Int)<=14)&&decide ((p.quorums.length:Int)<=8))
def aaH:=jj @pkA (jj @ptA @pkF)
theorem akF (p:Pol):FnOK Tryz.prog G 8 [.agg (poC p)] (bo (UZ p)):=by
 unfold UZ;refine bJ (rs:=[.tmp 2]) false [] mixed Tryz.func8 rfl rfl rfl rfl (by kernel_rfl) (by simp) rfl rfl ?_;simp only[aaH,seval,au];cases h1:decide ((p.types.length:Int)<=6)
 .simp only[pkA,seval]
 cases h2:decide ((p.rules.length:Int)<=14)
 .simp only[aaH,seval,au,h2]
 simp only[aaH,seval,au,h2]
theorem agK {p:Pol} (h:UZ p=true):PolS p/\p.types.length<=6/\p.rules.length<=14/\p.quorums.length<=8:=by unfold UZ at h;simp only[aZ,bI] at h;exact⟨⟨by omega,by omega⟩,by omega,by omega,by omega⟩
theorem anT {p:Pol} (h:UZ p=true) (hp:Kp.PolIn (kPo p)):DK p:=by obtain⟨_,h1,h2,h3⟩:=agK h;refine⟨hp,?_⟩;unfold Kp.mi;simp only[kPo,au];omega
theorem QS (hG:GV G) {p:Pol} (hp:DK p) (b:B) (hb:b.length<=1000000000):FnOK Tryz.prog G 33 [.agg (poC p),bv b] (.tup [.c (fsC (jU (mq p) p b).1),i64 (jU (mq p) p b).2]):=
 aaf _ p b (Ge hG hp) hb (by have:=F5 b;omega)
theorem LY (v:Bool) (p:Pol) (b:B):(jU v p b).1.length<=1000000:=by
 have:=F5 b;unfold jU
 repeat' split
 all_goals simp only[aF]
 all_goals omega
theorem zI (hG:GV G) {p:Pol} (hp:DK p) (hs:PolS p) (b:B) (hb:b.length<=1000000000):FnOK Tryz.prog G 16 [.agg (poC p),bv b] (i64 (pF (mq p) p b)):=
 O1 _ p b (QS hG hp b hb) (by have:=hs.ty;omega) (by have:=hs.ru;omega) og (LY _ _ _)
theorem akG (hG:GV G) {p:Pol} (hp:DK p) (hs:PolS p) (b:B) (hb:b.length<=1000000000):FnOK Tryz.prog G 12 [.agg (poC p),bv b] (.tup [.agg (inC (O2 (mq p) p b).1),i64 (O2 (mq p) p b).2]):=
 afy _ p b (QS hG hp b hb) (by have:=hs.ty;omega) (by have:=hs.ru;omega) og (LY _ _ _)
theorem xi (hG:GV G) {p:Pol} (hp:DK p) (hs:PolS p):FnOK Tryz.prog G 21 [.agg (poC p)] (.tup [.c (.sl (bC (gb (mq p) p).1)),.c (fsC (gb (mq p) p).2.1),i64 (gb (mq p) p).2.2]):=
 LJ _ p (Ge hG hp) hs (yJ hs)
theorem Ph {p:Pol} (hp:DK p) (hs:PolS p):FnOK Tryz.prog G 22 [.agg (poC p)] (.agg (cpC (gb (mq p) p))):=
 LW _ p (LV hp) hs
theorem zJ {l:List Fa} (h:l.length<=100000):(jI l).length<=3000000:=by have h1:=kp (eS l).length;have h2:=Il (eS l);have h3:=oL l;show(Vl.encI (eS l).length++((eS l).map lZ).flatten).length<=_;rw[ae];omega
def DT:=jj @pkA (jj @ptA @pkI)
theorem Gj (hG:GV G):FnOK Tryz.prog G 9 [] (bo true):=by
 have kP:DK exP:=exK ⟨by decide,by decide⟩;have kQ:DK exQ:=exK ⟨by decide,by decide⟩;have Pv:=zJ (l:=exF) (by decide);have hE:FnOK Tryz.prog G 19 [.c (fsC exF)] (.c (.sl (bC (jI exF)))):=Dx exF (by decide) λf hf=>yJ (exS 65) f (by rw[show exN 65=exP from rfl,vB];exact hf);have hCP:=xi hG kP (exS 65);rw[Gh,afO] at hCP;have hCQ:=xi hG kQ (exS 69);rw[zH,afP] at hCQ;have hFB:=zw (G:=G) (jI exF) (by omega);rw[aaF] at hFB;have hFT:=zw (G:=G) [129,1] (by decide);rw[aaG] at hFT;have hW:=akG hG kQ (exS 69) (jI exF) (by omega);rw[zH,afQ] at hW;have hAP:=zI hG kP (exS 65) (jI exF) (by omega);rw[Gh,afR] at hAP;have hAQ:=zI hG kQ (exS 69) (jI exF) (by omega);rw[zH,afS] at hAQ;have hSb:=F4 (G:=G) (jI exF) (jI exF) (by omega);have hS1:=H4 (G:=G) exF exF (by decide);have hS2:=H4 (G:=G) exL exL (by decide);have lf:∀ (m:List Fa) (K:V->Prop),fq Tryz.prog 28 (.c (fsC m)) K=K (i64 m.length):=λm K=>by unfold fsC;rw[fD dY rfl,au]
 have lb:∀ (b:B) (K:V->Prop),fq Tryz.prog 27 (.c (.sl (bC b))) K=K (i64 b.length):=λb K=>by rw[fD lE rfl];simp[bC]
 generalize hcb:jI exF=cb at *;refine bJ (rs:=[.tmp 0]) false [] mixed Tryz.func9 rfl rfl rfl rfl (by kernel_rfl) (by simp) rfl rfl ?_;simp only[pkA,seval];refine aC rfl (Gi 65) (λh=>by cases h) ?_;simp only[pkA,seval];refine aC rfl (Gi 69) (λh=>by cases h) ?_;rw[show exN 65=exP from rfl,show exN 69=exQ from rfl];have q0:∀ (p:Pol) (a b c d:V),eQ [a,b,c,d] 0 ((poC p).map .c)=(poC p).map .c:=λ_ _ _ _ _=>rfl;have d1:decide (((exI.con.length:Nat):Int)=1)=true:=rfl;have d2:decide (((([]:List Fa).length:Nat):Int)=0)=true:=rfl;have d3:decide (((([]:B).length:Nat):Int)=0)=true:=rfl;have d4:decide (exI.rule=6)=true:=rfl;have d6:decide (((0:Nat):Int)=0)=true:=rfl;have d7:decide (((1:Nat):Int)=1)=true:=rfl;have d5:decide ((0:Int)=0)=true:=rfl;have qi:∀ (a b c:V),eQ [a,b,c] 0 ((inC exI).map .c)=(inC exI).map .c:=λ_ _ _=>rfl;simp only[DT,seval,q0,List.append_eq,gK,cy];refine aC rfl hCP (λh=>by cases h) ?_;simp only[pkA,seval,gK];refine aC rfl hFB (λh=>by cases h) ?_;simp only[DT,seval,gK,cy];refine aC rfl hCQ (λh=>by cases h) ?_;simp only[DT,seval,gK,cy];refine aC rfl hW (λh=>by cases h) ?_;simp only[DT,seval,qi,gK,cy];refine aC («as»:=[bv [129,1]]) rfl hFT (λh=>by cases h) ?_;simp only[Gg,seval,lf,gK,d6,cy];refine aC («as»:=[.c (fsC exF),.c (fsC exF)]) rfl hS1 (λh=>by cases h) ?_;simp only[Gg,seval,lb,gK,d6,cy];refine aC («as»:=[.c (fsC exL),.c (fsC exL)]) rfl hS2 (λh=>by cases h) ?_;simp only[DT,seval,gK,cy];refine aC rfl hAP (λh=>by cases h) ?_;simp only[DT,seval,gK,cy];refine aC rfl hAQ (λh=>by cases h) ?_;simp only[DT,seval,lf,gK,d1,d4,cy];refine aC rfl hE (λh=>by cases h) ?_;simp only[pkA,seval,gK];rw[dD rfl] at hSb;refine aC rfl hSb (λh=>by cases h) ?_;simp only[pkA,seval,gK]
