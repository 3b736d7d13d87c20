/- Layer 19, plain: what is accepted. -/
import Derived.Test.YtloppcgcepgbnaaGreatDoorVlCB
import Derived.Test.YtloppcgcepgbnaaGreatDoorVlLaw
set_option maxHeartbeats 4000000
set_option linter.all false
namespace Go.Proofs.YtloppcgcepgbnaaGreatDoor
open Go Go.Vl
set_option maxRecDepth 4000
theorem Qi {p:Pol} {b:B} (h1:(dX b).2=0) (h2:∀ f∈(dX b).1,gj p f=true):fS true p b=((dX b).1,0):=by unfold fS;rw[if_neg (by decide),if_neg (by rw[h1];decide),if_pos (aY.2 h2)]
theorem Uk {p:Pol} {b:B} (h1:(dX b).2=0) (h2:∀ f∈(dX b).1,gj p f=true) (h3:(gX p (dX b).1).2=true) (h4:oI p (dX b).1=[]):mH true p b=0:=by unfold mH;rw[Qi h1 h2,if_neg (λh=>h rfl),if_pos ⟨h3,h4⟩]
theorem DV {p:Pol} (h:PolS p):∀ f∈fm p,FaI f:=λf hf=>akT (by have:=h.ty;omega) (DG hf)
theorem zA {p:Pol} (h:PolS p):dX (jJ (fm p))=(fm p,0):=by rw[TY (DV h) (by have:=OB h;omega),qQ (FX p)]
theorem OH (p:Pol):(gX p (fm p)).2=true:=OC.2 Ia
theorem OI {p:Pol} (h:PolS p) (hb:oI p (fm p)=[]):mH true p (jJ (fm p))=0:=by
 have e:=zA h;refine Uk ?_ ?_ ?_ ?_
 .rw[e]
 .rw[e];exact λf hf=>DG hf
 .rw[e];exact OH p
 .rw[e];exact hb
set_option maxRecDepth 10000
structure ao8 (p q:Pol):Prop where
 ty:p.types.length<=q.types.length
 fl:∀ t,t<p.types.length->∀ f,sy p t f=true->sy q t f=true
 ru:∀ r∈p.rules,r∈q.rules
open Go Go.Vl Go.Proofs.YtloppcgcepgbnaaGreatDoor.Kw
variable {G:Gl}
set_option maxRecDepth 100000
def uF:=jj @pkA (jj @ptA @pkS)
theorem Zr (v:Bool) (p:Pol) (b:B) (hV:FnOK Tryz.prog G 25 [.agg (poC p)] (bo v)) (hb:b.length<=1000000000) :
 FnOK Tryz.prog G 35 [.agg (poC p),bv b] (.tup [.c (fsC (fS v p b).1),i64 (fS v p b).2]):=by
 refine bI (rs:=[.tmp 4,.tmp 5]) false [] mixed Tryz.func35 rfl rfl rfl rfl (by kernel_rfl) (by simp) rfl rfl ?_;have lf:∀ (m:List Fa) (K:V->Prop),iR Tryz.prog 28 (.c (fsC m)) K=K (i64 m.length):=λm K=>by unfold fsC;rw[fN eC rfl,au]
 have lu:=vg b;simp only[uF,seval];refine az rfl hV (λ_=>rfl) ?_;cases v
 .simp only[pkA,seval]
  exact fi rfl rfl
 .simp only[pkA,seval]
  refine az rfl (Ap b hb) (λh=>by cases h) ?_;have hr:fS true p b=if(dX b).2≠0 then([],(dX b).2) else if((dX b).1.all λf=>gj p f)=true then((dX b).1,0) else([],6):=by unfold fS;rw[if_neg (by decide)]
  rw[hr];generalize (dX b).1=l at *;generalize (dX b).2=e at *;simp only[pkA,seval];refine aD (λhe=>?_) (λhe=>?_)
  .have he:e≠0:=by simpa using he
   simp only[pkA,seval];rw[if_pos he];exact fi rfl rfl
  have he:e=0:=by simpa using he
  rw[if_neg (by rw[he];decide)];simp only[pkA,seval];refine bw (λi:Nat=>hdS [(2,.bp 0 0),(7,.c (fsC l)),(9,i64 i)] [(poC p).map .c]) (λi=>l.length - i) (λi=>i<=l.length/\∀ f∈l.take i,gj p f=true) 0 ⟨ar _,by simp⟩ ?_ ?_
  .exact cm rfl (ar _) (ab 1) (by simp[FL,ah]) ⟨rfl,trivial⟩
  rintro i ⟨hi,ht⟩ R bL bO c8;simp only[pkA,seval,lf];refine aD (λbE=>?_) (λfH=>?_)
  .have bE:i<l.length:=by simpa using bE
   have hw:=bn (n:=(i:Int)+1) (k:=i+1) (by omega) (by omega);have e1:((i+1:Nat):Int)=(i:Int)+1:=(by omega);simp only[uF,seval];refine dQ eC rfl eS (by decide) (ay i) (c:=faC l[i]) (by simp[bE]) rfl ?_;simp only[uF,seval];refine az rfl (Tq p l[i]) (λ_=>rfl) ?_;cases hv:gj p l[i]
   .simp only[pkA,seval]
    have:(l.all λf=>gj p f)=false:=(by rw[List.all_eq_false];exact⟨l[i],bR bE,by simp[hv]⟩);rw[this] at c8;refine c8 _ ?_;simp only[pkA,seval];exact fi rfl rfl
   .simp only[pkA,seval,hw]
    refine bL (i+1) _ ⟨bE,λf hf=>?_⟩ (by omega) (cm rfl (ar _) (ab 1) (by simp[FL,ah,e1]) (by simp[BL,bxs]));rw[aU bE,ba,aX] at hf;rcases hf with hf | rfl
    .exact ht f hf
    .exact hv
  .have:i=l.length:=by simp at fH;omega
   subst this;rw[bZ] at ht;have:(l.all λf=>gj p f)=true:=aY.2 ht;rw[this] at bO;simp only[pkA];refine bO _ _ ?_;simp only[pkA,seval];exact fi rfl rfl
theorem Ul (p:Pol) (l:List Fa) (hn:p.types.length<=1000) (hl:l.length<=1000000):FnOK Tryz.prog G 38 [.agg (poC p),.c (fsC l)] (.c (fsC (oI p l))):=by
 refine bI (rs:=[.tmp 4]) false [22] mixed Tryz.func38 rfl rfl rfl rfl (by kernel_rfl) (by simp) rfl rfl ?_;have lf:∀ (m:List Fa) (K:V->Prop),iR Tryz.prog 28 (.c (fsC m)) K=K (i64 m.length):=λm K=>by unfold fsC;rw[fN eC rfl,au]
 have OP:=@Lq p;simp only[uF,seval];refine az rfl (acJ p (by omega)) (λh=>by cases h) ?_;rw[<- YQ];unfold oI;generalize rh p=m at OP ⊢
 simp only[pkA,seval];refine bw (λi:Nat=>hdS [(1,.c (fsC l)),(5,.c (fsC m)),(6,owF ((m.take i).filter λf=>decide (f∈l))),(7,i64 i)] [(poC p).map .c]) (λi=>m.length - i) (λi=>i<=m.length) 0 (ar _) ?_ ?_
 .exact cm rfl (ar _) (ab 1) (by simp[FL,ah,owF]) ⟨rfl,trivial⟩
 rintro i hi R bL bO c8;simp only[pkA,seval,lf];refine aD (λbE=>?_) (λfH=>?_)
 .have bE:i<m.length:=by simpa using bE
  have hw:=bn (n:=(i:Int)+1) (k:=i+1) (by omega) (by omega);have e1:((i+1:Nat):Int)=(i:Int)+1:=by omega
  obtain⟨f,hf⟩:∃ f,f=m[i]:=⟨_,rfl⟩;have e2:∀ b,decide (f∈l)=b->(m.take (i+1)).filter (λf=>decide (f∈l))=if b then(m.take i).filter (λf=>decide (f∈l))++[f] else(m.take i).filter (λf=>decide (f∈l)):=λb hb=>by rw[aU bE,iq,<- hf];cases b<;>simp[hb]
  simp only[pkA,seval];refine dQ eC rfl eS (by decide) (ay i) (c:=faC f) (by simp[bE,hf]) rfl ?_;simp only[uF,seval];refine az rfl (KI l f (by omega)) (λ_=>rfl) ?_;simp only[pkA,seval];refine aD (λhy=>?_) (λhy=>?_)
  .simp only[pkA,seval,ka]
   refine dQ eC rfl eS (by decide) (ay i) (c:=faC f) (by simp[bE,hf]) rfl ?_;have r5:ml 3 [(0,V.agg (faC f))] [[C.lit (Value.int IntKind.i64 0),C.lit (Value.int IntKind.i64 0),C.lit (Value.int IntKind.i64 0)]]=some [faC f]:=rfl;simp only[uF,seval,r5,dm];refine rM (l:=(m.take i).filter λf=>decide (f∈l)) (x:=f) (by have:=dK (λf=>decide (f∈l)) (m.take i);rw[aN] at this;omega) ?_;simp only[pkA,seval,ka,hw];exact bL (i+1) _ bE (by omega) (cm rfl (ar _) (ab 1) (by simp[FL,ah,e1,e2 true hy]) (by simp[BL,bxs]))
  .simp only[pkA,seval,hw]
   exact bL (i+1) _ bE (by omega) (cm rfl (ar _) (ab 1) (by simp[FL,ah,e1,e2 false hy]) (by simp[BL,bxs]))
 .have:i=m.length:=by simp at fH;omega
  subst this;rw[bZ];simp only[pkA];refine bO _ _ ?_;simp only[pkA,seval,rf];rfl
theorem OJ (v:Bool) (p:Pol) (b:B) (hR:FnOK Tryz.prog G 35 [.agg (poC p),bv b] (.tup [.c (fsC (fS v p b).1),i64 (fS v p b).2])) (hn:p.types.length<=1000) (hr:p.rules.length<=1000) (cj:(fR p none).length<=20000) (hs:kq (fR p none)) (LW:(fS v p b).1.length<=1000000) :
 FnOK Tryz.prog G 17 [.agg (poC p),bv b] (i64 (mH v p b)):=by
 refine bI (rs:=[.tmp 4]) false [] mixed Tryz.func17 rfl rfl rfl rfl (by kernel_rfl) (by simp) rfl rfl ?_;have lf:∀ (m:List Fa) (K:V->Prop),iR Tryz.prog 28 (.c (fsC m)) K=K (i64 m.length):=λm K=>by unfold fsC;rw[fN eC rfl,au]
 simp only[uF,seval];refine az rfl hR (λh=>by cases h) ?_;unfold mH;generalize (fS v p b).1=l at *;generalize (fS v p b).2=e at *;simp only[pkA,seval];refine aD (λhe=>?_) (λhe=>?_)
 .have he:e≠0:=by simpa using he
  rw[if_pos he];simp only[pkA,seval]
 have he:e=0:=by simpa using he
 rw[if_neg (by rw[he];decide),uz];simp only[uF,seval];refine az rfl (Dv p l hn hr cj hs LW) (λh=>by cases h) ?_;generalize (mG l (fR p none)).1=y;generalize (mG l (fR p none)).2=cl;have q1:∀ a b c:V,eP [a,b,c] 0 ((inC y).map .c)=(inC y).map .c:=λ_ _ _=>rfl;simp only[uF,seval,q1];refine az rfl (Ul p l hn LW) (λh=>by cases h) ?_;simp only[pkA,seval,lf];have UC:∀ b,decide (((0:Nat):Int)<((oI p l).length:Int))=b->(decide (oI p l=[])=!b):=λb hb=>by
  cases hq:oI p l with
  |nil=>rw[hq] at hb;subst hb;rfl
  |cons x m=>rw[hq] at hb;subst hb;simp
 refine eT (λhb=>?_) (λhb=>?_)
 .simp only[pkA,seval]
  cases cl<;>simp only[pkA,seval]<;>simp_all
 .simp only[pkA,seval]
  rw[if_neg];rintro⟨_,h⟩;rw[h] at hb;simp at hb
theorem adD (v:Bool) (p:Pol) (b:B) (hR:FnOK Tryz.prog G 35 [.agg (poC p),bv b] (.tup [.c (fsC (fS v p b).1),i64 (fS v p b).2])) (hn:p.types.length<=1000) (hr:p.rules.length<=1000) (cj:(fR p none).length<=20000) (hs:kq (fR p none)) (LW:(fS v p b).1.length<=1000000) :
 FnOK Tryz.prog G 13 [.agg (poC p),bv b] (.tup [.agg (inC (vF v p b).1),i64 (vF v p b).2]):=by
 refine bI (rs:=[.cell 4 35,.tmp 5]) false [] mixed Tryz.func13 rfl rfl rfl rfl (by kernel_rfl) (by simp) rfl rfl ?_;simp only[uF,seval];refine az rfl hR (λh=>by cases h) ?_;unfold vF;generalize (fS v p b).1=l at *;generalize (fS v p b).2=e at *;simp only[pkA,seval];refine aD (λhe=>?_) (λhe=>?_)
 .have he:e≠0:=by simpa using he
  rw[if_pos he];simp only[pkA,ptA,seval];exact H9 rfl (show 1<2 by decide) (by simp[];rfl) rfl
 .have he:e=0:=by simpa using he
  rw[if_neg (by rw[he];decide),uz];simp only[uF,seval];refine az rfl (Dv p l hn hr cj hs LW) (λh=>by cases h) ?_;generalize (mG l (fR p none)).1=y;have q1:∀ a b c:V,eP [a,b,c] 0 ((inC y).map .c)=(inC y).map .c:=λ_ _ _=>rfl;simp only[pkA,ptA,pkI,seval,q1];exact H9 rfl (show 1<3 by decide) (by simp[];try rfl) rfl
