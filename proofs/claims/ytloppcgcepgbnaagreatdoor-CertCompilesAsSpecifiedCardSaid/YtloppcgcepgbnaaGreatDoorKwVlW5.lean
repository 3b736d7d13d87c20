/- Layer 19: bad. -/
import Derived.Test.YtloppcgcepgbnaaGreatDoorVlC3
import Derived.Test.YtloppcgcepgbnaaGreatDoorVlX8
import Derived.Test.YtloppcgcepgbnaaGreatDoorVlN2
import Derived.Test.YtloppcgcepgbnaaGreatDoorVlC1
set_option maxHeartbeats 4000000
set_option linter.all false
namespace Go.Proofs.YtloppcgcepgbnaaGreatDoor
open Go Go.Vl
variable {G:Gl}
set_option maxRecDepth 100000
def mF (p:Pol) (l:List Fa):List Fa:=(qG p).filter λf=>decide (f∈l)
def qm:=jj @pkA (jj @ptA @pkS)
theorem QG (p:Pol) (l:List Fa) (hn:p.types.length<=1000) (hl:l.length<=1000000):FnOK Tryz.prog G 37 [.agg (poC p),.c (fsC l)] (.c (fsC (mF p l))):=by
 refine bJ (rs:=[.tmp 4]) false [31] mixed Tryz.func37 rfl rfl rfl rfl (by kernel_rfl) (by simp) rfl rfl ?_;have lf:∀ (m:List Fa) (K:V->Prop),fq Tryz.prog 28 (.c (fsC m)) K=K (i64 m.length):=λm K=>by unfold fsC;rw[fD dY rfl,au]
 have Pv:=@Dy p;simp only[pkA,seval,lf,Yn];refine bz (λi:Nat=>hdS [(2,.bp 0 0),(5,.mr 1),(12,.c (fsC l)),(13,i64 l.length),(14,i64 i)] [(poC p).map .c,ln faC (nI (l.take i))]) (λi=>l.length - i) (λi=>i<=l.length) 0 (ar _) ?_ ?_
 .refine cg (by simp only[gz,aY,bn,jd,aB,aF];rfl) (ar _) (ab 2) ?_ (by simp[BL,aj,nI,Ko])
  simp[FL,aj]
 rintro i hi R bL bQ dq;simp only[pkA,seval];refine aD (λbF=>?_) (λfO=>?_)
 .have bF:i<l.length:=by simpa using bF
  have hw:=br (n:=(i:Int)+1) (k:=i+1) (by omega) (by omega);have e1:((i+1:Nat):Int)=(i:Int)+1:=by omega
  simp only[pkA,seval];refine dP dY rfl eK (by decide) (ay i) (c:=faC l[i]) (by simp[bF]) rfl ?_;have q1:∀ a b c:V,eQ [a,b,c] 0 ((faC l[i]).map .c)=(faC l[i]).map .c:=λ_ _ _=>rfl;simp only[qm,seval,q1];refine Zt rfl (show 1<3 by decide) ?_;rw[<- FO bF];simp only[pkA,seval,hw];refine bL (i+1) _ bF (by omega) (cg (by simp only[gz,aY,bn,jd,aB,aF];rfl) (ar _) (show 2<=3 by decide) ?_ (by simp[BL,aj,bxs]));simp[FL,aj,e1]
 .have:i=l.length:=by simp at fO;omega
  subst this;rw[bW];simp only[pkA];refine bQ _ _ ?_;simp only[qm,seval];refine aC rfl (ajD p (by omega)) (λh=>by cases h) ?_;simp only[pkA,seval,lf];have hm:∀ f,decide (f∈nI l)=decide (f∈l):=λf=>by rw[jt];exact uJ
  refine bz (λi:Nat=>hdS [(5,.mr 1),(8,owF (((qG p).take i).filter λf=>decide (f∈l))),(22,.c (fsC (qG p))),(23,i64 (qG p).length),(24,i64 i)] [(poC p).map .c,ln faC (nI l)]) (λi=>(qG p).length - i) (λi=>i<=(qG p).length) 0 (ar _) ?_ ?_
  .refine cg (by simp only[gz,aY,bn,jd,aB,aF];rfl) (ar _) (ab 2) ?_ (by simp[BL,bxs])
   simp[FL,aj,owF]
  rintro i hi R bL bQ dq;simp only[pkA,seval];refine aD (λbF=>?_) (λfO=>?_)
  .have bF:i<(qG p).length:=by simpa using bF
   have hw:=br (n:=(i:Int)+1) (k:=i+1) (by omega) (by omega);have e1:((i+1:Nat):Int)=(i:Int)+1:=(by omega);obtain⟨f,hf⟩:∃ f,f=(qG p)[i]:=⟨_,rfl⟩;have q1:∀ a b c:V,eQ [a,b,c] 0 ((faC f).map .c)=(faC f).map .c:=λ_ _ _=>rfl;have r5:mb 3 [(0,V.agg (faC f))] [[C.lit (Value.int IntKind.i64 0),C.lit (Value.int IntKind.i64 0),C.lit (Value.int IntKind.i64 0)]]=some [faC f]:=rfl;have e2:∀ b,decide (f∈l)=b->((qG p).take (i+1)).filter (λf=>decide (f∈l))=if b then((qG p).take i).filter (λf=>decide (f∈l))++[f] else((qG p).take i).filter (λf=>decide (f∈l)):=λb hb=>by rw[aT bF,ir,<- hf];cases b<;>simp[hb]
   simp only[pkA,seval];refine dP dY rfl eK (by decide) (ay i) (c:=faC f) (by simp[bF,hf]) rfl ?_;simp only[qm,seval,q1];refine H8 rfl (show 1<3 by decide) ?_;rw[hm];simp only[pkA,seval];refine aD (λhy=>?_) (λhy=>?_)
   .simp only[qm,seval,kG,r5,dx]
    refine tJ (by have:=du (λf=>decide (f∈l)) ((qG p).take i);rw[aQ] at this;omega) ?_;simp only[pkA,seval,kG,hw];refine bL (i+1) _ bF (by omega) (cg (by simp only[gz,aY,bn,jd,aB,aF];rfl) (ar _) (show 2<=3 by decide) ?_ (by simp[BL,aj,bxs]));simp[FL,aj,e1,e2 true hy]
   .simp only[pkA,seval,hw]
    refine bL (i+1) _ bF (by omega) (cg (by simp only[gz,aY,bn,jd,aB,aF];rfl) (ar _) (show 2<=3 by decide) ?_ (by simp[BL,aj,bxs]));simp[FL,aj,e1,e2 false hy]
  .have:i=(qG p).length:=by simp at fO;omega
   subst this;rw[bW];simp only[pkA];refine bQ _ _ ?_;simp only[pkA,seval,uD];rfl
open Go Go.Vl Go.Proofs.YtloppcgcepgbnaaGreatDoor.Kw
def jU (v:Bool) (p:Pol) (b:B):List Fa×Int:=
 if v=false then([],1) else if(fi b).2≠0 then([],(fi b).2) else if((fi b).1.all λf=>jn p f)=true then((fi b).1,0) else([],6)
theorem aaf (v:Bool) (p:Pol) (b:B) (hV:FnOK Tryz.prog G 42 [.agg (poC p)] (bo v)) (hb:b.length<=1000000000) (lG:(fi b).1.length<=1000000) :
 FnOK Tryz.prog G 33 [.agg (poC p),bv b] (.tup [.c (fsC (jU v p b).1),i64 (jU v p b).2]):=by
 refine bJ (rs:=[.tmp 4,.tmp 5]) false [] mixed Tryz.func33 rfl rfl rfl rfl (by kernel_rfl) (by simp) rfl rfl ?_;have lf:∀ (m:List Fa) (K:V->Prop),fq Tryz.prog 28 (.c (fsC m)) K=K (i64 m.length):=λm K=>by unfold fsC;rw[fD dY rfl,au]
 simp only[qm,seval];refine aC rfl hV (λ_=>rfl) ?_;cases v
 .simp only[pkA,seval]
  exact jb rfl rfl
 .simp only[pkA,seval]
  refine aC rfl (zw b hb) (λh=>by cases h) ?_;have hr:jU true p b=if(fi b).2≠0 then([],(fi b).2) else if((fi b).1.all λf=>jn p f)=true then((fi b).1,0) else([],6):=by unfold jU;rw[if_neg (by decide)]
  rw[hr];generalize (fi b).1=l at *;generalize (fi b).2=e at *;simp only[pkA,seval];refine aD (λhe=>?_) (λhe=>?_)
  .have he:e≠0:=by simpa using he
   simp only[pkA,seval];rw[if_pos he];exact jb rfl rfl
  have he:e=0:=by simpa using he
  rw[if_neg (by rw[he];decide)];simp only[pkA,seval,lf];refine bz (λi:Nat=>hdS [(2,.bp 0 0),(6,.c (fsC l)),(21,.c (fsC l)),(22,i64 l.length),(23,i64 i)] [(poC p).map .c]) (λi=>l.length - i) (λi=>i<=l.length/\∀ f∈l.take i,jn p f=true) 0 ⟨ar _,by simp⟩ ?_ ?_
  .exact cg rfl (ar _) (ab 1) (by simp[FL,aj]) ⟨rfl,trivial⟩
  rintro i ⟨hi,ht⟩ R bL bQ dq;simp only[pkA,seval];refine aD (λbF=>?_) (λfO=>?_)
  .have bF:i<l.length:=by simpa using bF
   have hw:=br (n:=(i:Int)+1) (k:=i+1) (by omega) (by omega);have e1:((i+1:Nat):Int)=(i:Int)+1:=(by omega);have q1:∀ a b c:V,eQ [a,b,c] 0 ((faC l[i]).map .c)=(faC l[i]).map .c:=λ_ _ _=>rfl;simp only[pkA,seval];refine dP dY rfl eK (by decide) (ay i) (c:=faC l[i]) (by simp[bF]) rfl ?_;simp only[qm,seval,q1];refine aC rfl (C4 p l[i]) (λ_=>rfl) ?_;cases hv:jn p l[i]
   .simp only[pkA,seval]
    have:(l.all λf=>jn p f)=false:=(by rw[List.all_eq_false];exact⟨l[i],bT bF,by simp[hv]⟩);rw[this] at dq;refine dq _ ?_;simp only[pkA,seval];exact jb rfl rfl
   .simp only[pkA,seval,hw]
    refine bL (i+1) _ ⟨bF,λf hf=>?_⟩ (by omega) (cg rfl (ar _) (show 1<=2 by decide) (by simp[FL,aj,e1]) (by simp[BL,aj,bxs]));rw[aT bF,ba,aX] at hf;rcases hf with hf | rfl
    .exact ht f hf
    .exact hv
  .have:i=l.length:=by simp at fO;omega
   subst this;rw[bW] at ht;have:(l.all λf=>jn p f)=true:=a8.2 ht;rw[this] at bQ;simp only[pkA];refine bQ _ _ ?_;simp only[pkA,seval];exact jb rfl rfl
def pF (v:Bool) (p:Pol) (b:B):Int:=
 if(jU v p b).2≠0 then(jU v p b).2 else if(lY p (jU v p b).1).2=true/\mF p (jU v p b).1=[] then 0 else 21
theorem O1 (v:Bool) (p:Pol) (b:B) (hR:FnOK Tryz.prog G 33 [.agg (poC p),bv b] (.tup [.c (fsC (jU v p b).1),i64 (jU v p b).2])) (hn:p.types.length<=1000) (hr:p.rules.length<=1000) (hs:kH (fN p none)) (Vb:(jU v p b).1.length<=1000000) :
 FnOK Tryz.prog G 16 [.agg (poC p),bv b] (i64 (pF v p b)):=by
 refine bJ (rs:=[.tmp 4]) false [] mixed Tryz.func16 rfl rfl rfl rfl (by kernel_rfl) (by simp) rfl rfl ?_;have lf:∀ (m:List Fa) (K:V->Prop),fq Tryz.prog 28 (.c (fsC m)) K=K (i64 m.length):=λm K=>by unfold fsC;rw[fD dY rfl,au]
 simp only[qm,seval];refine aC rfl hR (λh=>by cases h) ?_;unfold pF;generalize (jU v p b).1=l at *;generalize (jU v p b).2=e at *;simp only[pkA,seval];refine aD (λhe=>?_) (λhe=>?_)
 .have he:e≠0:=by simpa using he
  rw[if_pos he];simp only[pkA,seval]
 have he:e=0:=by simpa using he
 rw[if_neg (by rw[he];decide)];simp only[qm,seval];refine aC rfl (FX p l (by omega) (by omega) hs Vb) (λh=>by cases h) ?_;generalize (lY p l).1=y;have q1:∀ a b c:V,eQ [a,b,c] 0 ((inC y).map .c)=(inC y).map .c:=λ_ _ _=>rfl;cases hc:(lY p l).2
 .simp only[qm,seval,q1]
  rw[if_neg (by simp)]
 .simp only[qm,seval,q1]
  refine aC rfl (QG p l hn Vb) (λh=>by cases h) ?_;simp only[pkA,seval,lf];refine aD (λhb=>?_) (λhb=>?_)
  .simp only[pkA,seval]
   rw[if_neg (λh=>by rw[h] at hb;simp at hb)]
  .simp only[pkA,seval]
   rw[if_pos (by simpa using hb)]
def gb (v:Bool) (p:Pol):B×List Fa×Int:=
 if v=false then([],[],1) else if mF p (db p)=[] then(jI (db p),[],0) else([],mF p (db p),21)
theorem LJ (v:Bool) (p:Pol) (hV:FnOK Tryz.prog G 42 [.agg (poC p)] (bo v)) (hp:PolS p) (hI:∀ f∈db p,FaI f) :
 FnOK Tryz.prog G 21 [.agg (poC p)] (.tup [.c (.sl (bC (gb v p).1)),.c (fsC (gb v p).2.1),i64 (gb v p).2.2]):=by
 refine bJ (rs:=[.tmp 2,.tmp 3,.tmp 4]) false [] mixed Tryz.func21 rfl rfl rfl rfl (by kernel_rfl) (by simp) rfl rfl ?_;have lf:∀ (m:List Fa) (K:V->Prop),fq Tryz.prog 28 (.c (fsC m)) K=K (i64 m.length):=λm K=>by unfold fsC;rw[fD dY rfl,au]
 have hty:=hp.ty;have lG:(db p).length<=40000:=by unfold db cB;rw[au,tf];exact hp.sat
 simp only[qm,seval];refine aC rfl hV (λ_=>rfl) ?_;unfold gb;cases v
 .simp only[pkA,seval]
  exact kJ rfl rfl rfl
 .simp only[qm,seval]
  refine aC rfl (aae hp) (λh=>by cases h) ?_;simp only[qm,seval];refine aC rfl (QG p (db p) (by omega) (by omega)) (λh=>by cases h) ?_;simp only[pkA,seval,lf];refine aD (λhb=>?_) (λhb=>?_)
  .have hb:¬ mF p (db p)=[]:=λh=>by rw[h] at hb;simp at hb
   simp only[pkA,seval]
   first | rw[if_neg (by decide),if_neg hb] | rw[if_neg hb]
   exact kJ rfl rfl rfl
  .have hb:mF p (db p)=[]:=by simpa using hb
   simp only[pkA,seval];refine aC rfl (Dx (db p) (by omega) hI) (λh=>by cases h) ?_;simp only[pkA,seval]
   first | rw[if_neg (by decide),if_pos hb] | rw[if_pos hb]
   exact kJ rfl rfl rfl
theorem aag {b:Nat} {fr:Nat->V} {bx:Nat->List V} {x:In} {e:V} {c u nb:Nat} (h1:fr c=.bp b 0) (hb:b<nb) (h2:bx b=(inC x).map .c) (h3:(fr u).fz=e):rT Tryz.prog false ⟨fr,bx,nb⟩ (.tup [.agg (inC x),e]) [.cell c 35,.tmp u]:=by refine ZX ?_ h3;show cO Tryz.prog 35 ⟨fr,bx,nb⟩ (fr c) _;rw[h1,rn lF rfl rfl,h2];exact⟨Qo,by rw[show ldA nb b ((inC x).map .c) 0 3 _=_ from Zk];exact⟨hb,rfl⟩⟩
def O2 (v:Bool) (p:Pol) (b:B):In×Int:=if(jU v p b).2≠0 then(in0,(jU v p b).2) else((lY p (jU v p b).1).1,0)
theorem afy (v:Bool) (p:Pol) (b:B) (hR:FnOK Tryz.prog G 33 [.agg (poC p),bv b] (.tup [.c (fsC (jU v p b).1),i64 (jU v p b).2])) (hn:p.types.length<=1000) (hr:p.rules.length<=1000) (hs:kH (fN p none)) (Vb:(jU v p b).1.length<=1000000) :
 FnOK Tryz.prog G 12 [.agg (poC p),bv b] (.tup [.agg (inC (O2 v p b).1),i64 (O2 v p b).2]):=by
 refine bJ (rs:=[.cell 4 35,.tmp 5]) false [] mixed Tryz.func12 rfl rfl rfl rfl (by kernel_rfl) (by simp) rfl rfl ?_;simp only[qm,seval];refine aC rfl hR (λh=>by cases h) ?_;unfold O2;generalize (jU v p b).1=l at *;generalize (jU v p b).2=e at *;simp only[pkA,seval];refine aD (λhe=>?_) (λhe=>?_)
 .have he:e≠0:=by simpa using he
  rw[if_pos he];simp only[pkA,ptA,seval];exact aag rfl (show 1<2 by decide) (by simp[];rfl) rfl
 .have he:e=0:=by simpa using he
  rw[if_neg (by rw[he];decide)];simp only[qm,seval];refine aC rfl (FX p l (by omega) (by omega) hs Vb) (λh=>by cases h) ?_;generalize (lY p l).1=y;have q1:∀ a b c:V,eQ [a,b,c] 0 ((inC y).map .c)=(inC y).map .c:=λ_ _ _=>rfl;simp only[pkA,ptA,pkI,seval,q1];exact aag rfl (show 1<3 by decide) (by simp[];try rfl) rfl
end Go.Proofs.YtloppcgcepgbnaaGreatDoor
namespace Go.Proofs.YtloppcgcepgbnaaGreatDoor.Kw
open Go Go.Vl
variable {G:Gl}
def cnt (b:B) (size:Nat):Int×Nat×Int:=
 ((nZ b).1,(nZ b).2.1,if(nZ b).2.2≠0 then(nZ b).2.2 else if(nZ b).1<0 then 6 else if(((b.length - (nZ b).2.1) / size:Nat):Int)<(nZ b).1 then 5 else 0)
