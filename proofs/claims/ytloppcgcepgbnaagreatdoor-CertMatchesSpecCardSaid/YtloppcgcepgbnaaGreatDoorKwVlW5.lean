/- Layer 19: bad. -/
import Derived.Test.YtloppcgcepgbnaaGreatDoorVlC3
import Derived.Test.YtloppcgcepgbnaaGreatDoorVlX8
import Derived.Test.YtloppcgcepgbnaaGreatDoorVlN2
import Derived.Test.YtloppcgcepgbnaaGreatDoorVlC1
set_option maxHeartbeats 4000000
set_option linter.all false
namespace Go.Proofs.YtloppcgcepgbnaaGreatDoor
open Go Go.Vl
variable {G:Gl}
set_option maxRecDepth 100000
def oI (p:Pol) (l:List Fa):List Fa:=(rh p).filter λf=>decide (f∈l)
def qe:=jj @pkA (jj @ptA @pkS)
theorem Qb (p:Pol) (l:List Fa) (hn:p.types.length<=1000) (hl:l.length<=1000000):FnOK Tryz.prog G 37 [.agg (poC p),.c (fsC l)] (.c (fsC (oI p l))):=by
 refine bI (rs:=[.tmp 4]) false [31] mixed Tryz.func37 rfl rfl rfl rfl (by kernel_rfl) (by simp) rfl rfl ?_;have lf:∀ (m:List Fa) (K:V->Prop),iR Tryz.prog 28 (.c (fsC m)) K=K (i64 m.length):=λm K=>by unfold fsC;rw[fN eC rfl,au]
 have OP:=@Lq p;simp only[pkA,seval,lf,Xt];refine bw (λi:Nat=>hdS [(2,.bp 0 0),(5,.mr 1),(12,.c (fsC l)),(13,i64 l.length),(14,i64 i)] [(poC p).map .c,lk faC (mA (l.take i))]) (λi=>l.length - i) (λi=>i<=l.length) 0 (ar _) ?_ ?_
 .refine cm (by simp only[iV,bh,bB,jc,aC,aG];rfl) (ar _) (ab 2) ?_ (by simp[BL,ah,mA,JU])
  simp[FL,ah]
 rintro i hi R bL bO c8;simp only[pkA,seval];refine aD (λbE=>?_) (λfH=>?_)
 .have bE:i<l.length:=by simpa using bE
  have hw:=bn (n:=(i:Int)+1) (k:=i+1) (by omega) (by omega);have e1:((i+1:Nat):Int)=(i:Int)+1:=by omega
  simp only[pkA,seval];refine dQ eC rfl eS (by decide) (ay i) (c:=faC l[i]) (by simp[bE]) rfl ?_;have q1:∀ a b c:V,eP [a,b,c] 0 ((faC l[i]).map .c)=(faC l[i]).map .c:=λ_ _ _=>rfl;simp only[qe,seval,q1];refine Yj rfl (show 1<3 by decide) ?_;rw[<- FH bE];simp only[pkA,seval,hw];refine bL (i+1) _ bE (by omega) (cm (by simp only[iV,bh,bB,jc,aC,aG];rfl) (ar _) (show 2<=3 by decide) ?_ (by simp[BL,ah,bxs]));simp[FL,ah,e1]
 .have:i=l.length:=by simp at fH;omega
  subst this;rw[bZ];simp only[pkA];refine bO _ _ ?_;simp only[qe,seval];refine az rfl (ag8 p (by omega)) (λh=>by cases h) ?_;simp only[pkA,seval,lf];have hm:∀ f,decide (f∈mA l)=decide (f∈l):=λf=>by rw[ir];exact rQ
  refine bw (λi:Nat=>hdS [(5,.mr 1),(8,owF (((rh p).take i).filter λf=>decide (f∈l))),(22,.c (fsC (rh p))),(23,i64 (rh p).length),(24,i64 i)] [(poC p).map .c,lk faC (mA l)]) (λi=>(rh p).length - i) (λi=>i<=(rh p).length) 0 (ar _) ?_ ?_
  .refine cm (by simp only[iV,bh,bB,jc,aC,aG];rfl) (ar _) (ab 2) ?_ (by simp[BL,bxs])
   simp[FL,ah,owF]
  rintro i hi R bL bO c8;simp only[pkA,seval];refine aD (λbE=>?_) (λfH=>?_)
  .have bE:i<(rh p).length:=by simpa using bE
   have hw:=bn (n:=(i:Int)+1) (k:=i+1) (by omega) (by omega);have e1:((i+1:Nat):Int)=(i:Int)+1:=(by omega);obtain⟨f,hf⟩:∃ f,f=(rh p)[i]:=⟨_,rfl⟩;have q1:∀ a b c:V,eP [a,b,c] 0 ((faC f).map .c)=(faC f).map .c:=λ_ _ _=>rfl;have r5:ml 3 [(0,V.agg (faC f))] [[C.lit (Value.int IntKind.i64 0),C.lit (Value.int IntKind.i64 0),C.lit (Value.int IntKind.i64 0)]]=some [faC f]:=rfl;have e2:∀ b,decide (f∈l)=b->((rh p).take (i+1)).filter (λf=>decide (f∈l))=if b then((rh p).take i).filter (λf=>decide (f∈l))++[f] else((rh p).take i).filter (λf=>decide (f∈l)):=λb hb=>by rw[aU bE,iq,<- hf];cases b<;>simp[hb]
   simp only[pkA,seval];refine dQ eC rfl eS (by decide) (ay i) (c:=faC f) (by simp[bE,hf]) rfl ?_;simp only[qe,seval,q1];refine HV rfl (show 1<3 by decide) ?_;rw[hm];simp only[pkA,seval];refine aD (λhy=>?_) (λhy=>?_)
   .simp only[qe,seval,ka,r5,dm]
    refine rM (by have:=dK (λf=>decide (f∈l)) ((rh p).take i);rw[aN] at this;omega) ?_;simp only[pkA,seval,ka,hw];refine bL (i+1) _ bE (by omega) (cm (by simp only[iV,bh,bB,jc,aC,aG];rfl) (ar _) (show 2<=3 by decide) ?_ (by simp[BL,ah,bxs]));simp[FL,ah,e1,e2 true hy]
   .simp only[pkA,seval,hw]
    refine bL (i+1) _ bE (by omega) (cm (by simp only[iV,bh,bB,jc,aC,aG];rfl) (ar _) (show 2<=3 by decide) ?_ (by simp[BL,ah,bxs]));simp[FL,ah,e1,e2 false hy]
  .have:i=(rh p).length:=by simp at fH;omega
   subst this;rw[bZ];simp only[pkA];refine bO _ _ ?_;simp only[pkA,seval,rf];rfl
open Go Go.Vl Go.Proofs.YtloppcgcepgbnaaGreatDoor.Kw
def fS (v:Bool) (p:Pol) (b:B):List Fa×Int:=
 if v=false then([],1) else if(dX b).2≠0 then([],(dX b).2) else if((dX b).1.all λf=>gj p f)=true then((dX b).1,0) else([],6)
theorem Y2 (v:Bool) (p:Pol) (b:B) (hV:FnOK Tryz.prog G 42 [.agg (poC p)] (bo v)) (hb:b.length<=1000000000) (lu:(dX b).1.length<=1000000) :
 FnOK Tryz.prog G 33 [.agg (poC p),bv b] (.tup [.c (fsC (fS v p b).1),i64 (fS v p b).2]):=by
 refine bI (rs:=[.tmp 4,.tmp 5]) false [] mixed Tryz.func33 rfl rfl rfl rfl (by kernel_rfl) (by simp) rfl rfl ?_;have lf:∀ (m:List Fa) (K:V->Prop),iR Tryz.prog 28 (.c (fsC m)) K=K (i64 m.length):=λm K=>by unfold fsC;rw[fN eC rfl,au]
 simp only[qe,seval];refine az rfl hV (λ_=>rfl) ?_;cases v
 .simp only[pkA,seval]
  exact fi rfl rfl
 .simp only[pkA,seval]
  refine az rfl (vd b hb) (λh=>by cases h) ?_;have hr:fS true p b=if(dX b).2≠0 then([],(dX b).2) else if((dX b).1.all λf=>gj p f)=true then((dX b).1,0) else([],6):=by unfold fS;rw[if_neg (by decide)]
  rw[hr];generalize (dX b).1=l at *;generalize (dX b).2=e at *;simp only[pkA,seval];refine aD (λhe=>?_) (λhe=>?_)
  .have he:e≠0:=by simpa using he
   simp only[pkA,seval];rw[if_pos he];exact fi rfl rfl
  have he:e=0:=by simpa using he
  rw[if_neg (by rw[he];decide)];simp only[pkA,seval,lf];refine bw (λi:Nat=>hdS [(2,.bp 0 0),(6,.c (fsC l)),(21,.c (fsC l)),(22,i64 l.length),(23,i64 i)] [(poC p).map .c]) (λi=>l.length - i) (λi=>i<=l.length/\∀ f∈l.take i,gj p f=true) 0 ⟨ar _,by simp⟩ ?_ ?_
  .exact cm rfl (ar _) (ab 1) (by simp[FL,ah]) ⟨rfl,trivial⟩
  rintro i ⟨hi,ht⟩ R bL bO c8;simp only[pkA,seval];refine aD (λbE=>?_) (λfH=>?_)
  .have bE:i<l.length:=by simpa using bE
   have hw:=bn (n:=(i:Int)+1) (k:=i+1) (by omega) (by omega);have e1:((i+1:Nat):Int)=(i:Int)+1:=(by omega);have q1:∀ a b c:V,eP [a,b,c] 0 ((faC l[i]).map .c)=(faC l[i]).map .c:=λ_ _ _=>rfl;simp only[pkA,seval];refine dQ eC rfl eS (by decide) (ay i) (c:=faC l[i]) (by simp[bE]) rfl ?_;simp only[qe,seval,q1];refine az rfl (C3 p l[i]) (λ_=>rfl) ?_;cases hv:gj p l[i]
   .simp only[pkA,seval]
    have:(l.all λf=>gj p f)=false:=(by rw[List.all_eq_false];exact⟨l[i],bR bE,by simp[hv]⟩);rw[this] at c8;refine c8 _ ?_;simp only[pkA,seval];exact fi rfl rfl
   .simp only[pkA,seval,hw]
    refine bL (i+1) _ ⟨bE,λf hf=>?_⟩ (by omega) (cm rfl (ar _) (show 1<=2 by decide) (by simp[FL,ah,e1]) (by simp[BL,ah,bxs]));rw[aU bE,ba,aX] at hf;rcases hf with hf | rfl
    .exact ht f hf
    .exact hv
  .have:i=l.length:=by simp at fH;omega
   subst this;rw[bZ] at ht;have:(l.all λf=>gj p f)=true:=aY.2 ht;rw[this] at bO;simp only[pkA];refine bO _ _ ?_;simp only[pkA,seval];exact fi rfl rfl
def mH (v:Bool) (p:Pol) (b:B):Int:=
 if(fS v p b).2≠0 then(fS v p b).2 else if(gX p (fS v p b).1).2=true/\oI p (fS v p b).1=[] then 0 else 21
theorem Ox (v:Bool) (p:Pol) (b:B) (hR:FnOK Tryz.prog G 33 [.agg (poC p),bv b] (.tup [.c (fsC (fS v p b).1),i64 (fS v p b).2])) (hn:p.types.length<=1000) (hr:p.rules.length<=1000) (hs:kq (fR p none)) (LW:(fS v p b).1.length<=1000000) :
 FnOK Tryz.prog G 16 [.agg (poC p),bv b] (i64 (mH v p b)):=by
 refine bI (rs:=[.tmp 4]) false [] mixed Tryz.func16 rfl rfl rfl rfl (by kernel_rfl) (by simp) rfl rfl ?_;have lf:∀ (m:List Fa) (K:V->Prop),iR Tryz.prog 28 (.c (fsC m)) K=K (i64 m.length):=λm K=>by unfold fsC;rw[fN eC rfl,au]
 simp only[qe,seval];refine az rfl hR (λh=>by cases h) ?_;unfold mH;generalize (fS v p b).1=l at *;generalize (fS v p b).2=e at *;simp only[pkA,seval];refine aD (λhe=>?_) (λhe=>?_)
 .have he:e≠0:=by simpa using he
  rw[if_pos he];simp only[pkA,seval]
 have he:e=0:=by simpa using he
 rw[if_neg (by rw[he];decide)];simp only[qe,seval];refine az rfl (FQ p l (by omega) (by omega) hs LW) (λh=>by cases h) ?_;generalize (gX p l).1=y;have q1:∀ a b c:V,eP [a,b,c] 0 ((inC y).map .c)=(inC y).map .c:=λ_ _ _=>rfl;cases hc:(gX p l).2
 .simp only[qe,seval,q1]
  rw[if_neg (by simp)]
 .simp only[qe,seval,q1]
  refine az rfl (Qb p l hn LW) (λh=>by cases h) ?_;simp only[pkA,seval,lf];refine aD (λhb=>?_) (λhb=>?_)
  .simp only[pkA,seval]
   rw[if_neg (λh=>by rw[h] at hb;simp at hb)]
  .simp only[pkA,seval]
   rw[if_pos (by simpa using hb)]
def lO (v:Bool) (p:Pol):B×List Fa×Int:=
 if v=false then([],[],1) else if oI p (fm p)=[] then(jJ (fm p),[],0) else([],oI p (fm p),21)
theorem Lr (v:Bool) (p:Pol) (hV:FnOK Tryz.prog G 42 [.agg (poC p)] (bo v)) (hp:PolS p) (hI:∀ f∈fm p,FaI f) :
 FnOK Tryz.prog G 21 [.agg (poC p)] (.tup [.c (.sl (bC (lO v p).1)),.c (fsC (lO v p).2.1),i64 (lO v p).2.2]):=by
 refine bI (rs:=[.tmp 2,.tmp 3,.tmp 4]) false [] mixed Tryz.func21 rfl rfl rfl rfl (by kernel_rfl) (by simp) rfl rfl ?_;have lf:∀ (m:List Fa) (K:V->Prop),iR Tryz.prog 28 (.c (fsC m)) K=K (i64 m.length):=λm K=>by unfold fsC;rw[fN eC rfl,au]
 have hty:=hp.ty;have lu:(fm p).length<=40000:=by unfold fm cG;rw[au,sJ];exact hp.sat
 simp only[qe,seval];refine az rfl hV (λ_=>rfl) ?_;unfold lO;cases v
 .simp only[pkA,seval]
  exact fW rfl rfl rfl
 .simp only[qe,seval]
  refine az rfl (Y1 hp) (λh=>by cases h) ?_;simp only[qe,seval];refine az rfl (Qb p (fm p) (by omega) (by omega)) (λh=>by cases h) ?_;simp only[pkA,seval,lf];refine aD (λhb=>?_) (λhb=>?_)
  .have hb:¬ oI p (fm p)=[]:=λh=>by rw[h] at hb;simp at hb
   simp only[pkA,seval]
   first | rw[if_neg (by decide),if_neg hb] | rw[if_neg hb]
   exact fW rfl rfl rfl
  .have hb:oI p (fm p)=[]:=by simpa using hb
   simp only[pkA,seval];refine az rfl (wW (fm p) (by omega) hI) (λh=>by cases h) ?_;simp only[pkA,seval]
   first | rw[if_neg (by decide),if_pos hb] | rw[if_pos hb]
   exact fW rfl rfl rfl
theorem H9 {b:Nat} {fr:Nat->V} {bx:Nat->List V} {x:In} {e:V} {c u nb:Nat} (h1:fr c=.bp b 0) (hb:b<nb) (h2:bx b=(inC x).map .c) (h3:(fr u).fz=e):rE Tryz.prog false ⟨fr,bx,nb⟩ (.tup [.agg (inC x),e]) [.cell c 35,.tmp u]:=by refine K8 ?_ h3;show dG Tryz.prog 35 ⟨fr,bx,nb⟩ (fr c) _;rw[h1,wB lD rfl rfl,h2];exact⟨PU,by rw[show ldA nb b ((inC x).map .c) 0 3 _=_ from X8];exact⟨hb,rfl⟩⟩
def vF (v:Bool) (p:Pol) (b:B):In×Int:=if(fS v p b).2≠0 then(in0,(fS v p b).2) else((gX p (fS v p b).1).1,0)
theorem adr (v:Bool) (p:Pol) (b:B) (hR:FnOK Tryz.prog G 33 [.agg (poC p),bv b] (.tup [.c (fsC (fS v p b).1),i64 (fS v p b).2])) (hn:p.types.length<=1000) (hr:p.rules.length<=1000) (hs:kq (fR p none)) (LW:(fS v p b).1.length<=1000000) :
 FnOK Tryz.prog G 12 [.agg (poC p),bv b] (.tup [.agg (inC (vF v p b).1),i64 (vF v p b).2]):=by
 refine bI (rs:=[.cell 4 35,.tmp 5]) false [] mixed Tryz.func12 rfl rfl rfl rfl (by kernel_rfl) (by simp) rfl rfl ?_;simp only[qe,seval];refine az rfl hR (λh=>by cases h) ?_;unfold vF;generalize (fS v p b).1=l at *;generalize (fS v p b).2=e at *;simp only[pkA,seval];refine aD (λhe=>?_) (λhe=>?_)
 .have he:e≠0:=by simpa using he
  rw[if_pos he];simp only[pkA,ptA,seval];exact H9 rfl (show 1<2 by decide) (by simp[];rfl) rfl
 .have he:e=0:=by simpa using he
  rw[if_neg (by rw[he];decide)];simp only[qe,seval];refine az rfl (FQ p l (by omega) (by omega) hs LW) (λh=>by cases h) ?_;generalize (gX p l).1=y;have q1:∀ a b c:V,eP [a,b,c] 0 ((inC y).map .c)=(inC y).map .c:=λ_ _ _=>rfl;simp only[pkA,ptA,pkI,seval,q1];exact H9 rfl (show 1<3 by decide) (by simp[];try rfl) rfl
end Go.Proofs.YtloppcgcepgbnaaGreatDoor
namespace Go.Proofs.YtloppcgcepgbnaaGreatDoor.Kw
open Go Go.Vl
variable {G:Gl}
def cnt (b:B) (size:Nat):Int×Nat×Int:=
 ((kB b).1,(kB b).2.1,if(kB b).2.2≠0 then(kB b).2.2 else if(kB b).1<0 then 6 else if(((b.length - (kB b).2.1) / size:Nat):Int)<(kB b).1 then 5 else 0)
