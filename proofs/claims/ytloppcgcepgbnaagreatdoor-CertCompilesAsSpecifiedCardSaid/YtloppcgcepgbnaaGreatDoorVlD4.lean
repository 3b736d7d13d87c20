/- Layer 19, plain: what is accepted. -/
import Derived.Test.YtloppcgcepgbnaaGreatDoorVlCB
import Derived.Test.YtloppcgcepgbnaaGreatDoorVlLaw
set_option linter.all false
namespace Go.Proofs.YtloppcgcepgbnaaGreatDoor
open Go Go.Vl
set_option maxRecDepth 4000
theorem QO {p:Pol} {b:B} (h1:(fi b).2=0) (h2:∀ f∈(fi b).1,jn p f=true):jU true p b=((fi b).1,0):=by unfold jU;rw[if_neg (by decide),if_neg (by rw[h1];decide),if_pos (a8.2 h2)]
theorem UU {p:Pol} {b:B} (h1:(fi b).2=0) (h2:∀ f∈(fi b).1,jn p f=true) (h3:(lY p (fi b).1).2=true) (h4:mF p (fi b).1=[]):pF true p b=0:=by unfold pF;rw[QO h1 h2,if_neg (λh=>h rfl),if_pos ⟨h3,h4⟩]
theorem yJ {p:Pol} (h:PolS p):∀ f∈db p,FaI f:=λf hf=>anH (by have:=h.ty;omega) (DD hf)
theorem zF {p:Pol} (h:PolS p):fi (jI (db p))=(db p,0):=by rw[UH (yJ h) (by have:=qo h;omega),ra (zA p)]
theorem Pe (p:Pol):(lY p (db p)).2=true:=O6.2 yI
theorem DN {p:Pol} (h:PolS p) (hb:mF p (db p)=[]):pF true p (jI (db p))=0:=by
 have e:=zF h;refine UU ?_ ?_ ?_ ?_
 .rw[e]
 .rw[e];exact λf hf=>DD hf
 .rw[e];exact Pe p
 .rw[e];exact hb
set_option maxRecDepth 10000
structure asc (p q:Pol):Prop where
 ty:p.types.length<=q.types.length
 fl:∀ t,t<p.types.length->∀ f,sV p t f=true->sV q t f=true
 ru:∀ r∈p.rules,r∈q.rules
open Go Go.Vl Go.Proofs.YtloppcgcepgbnaaGreatDoor.Kw
variable {G:Gl}
set_option maxRecDepth 100000
def aaC:=jj @pkA (jj @ptA @pkS)
set_option maxHeartbeats 4000000 in
theorem UW (p:Pol) (l:List Fa) (hn:p.types.length<=1000) (hl:l.length<=1000000):FnOK Tryz.prog G 38 [.agg (poC p),.c (fsC l)] (.c (fsC (mF p l))):=by
 refine bJ (rs:=[.tmp 4]) false [22] mixed Tryz.func38 rfl rfl rfl rfl (by kernel_rfl) (by simp) rfl rfl ?_;have lf:∀ (m:List Fa) (K:V->Prop),fq Tryz.prog 28 (.c (fsC m)) K=K (i64 m.length):=λm K=>by unfold fsC;rw[fD dY rfl,au]
 have Pv:=@Dy p;simp only[aaC,seval];refine aC rfl (aeN p (by omega)) (λh=>by cases h) ?_;rw[<- Z3];unfold mF;generalize qG p=m at Pv ⊢
 simp only[pkA,seval];refine bz (λi:Nat=>hdS [(1,.c (fsC l)),(5,.c (fsC m)),(6,owF ((m.take i).filter λf=>decide (f∈l))),(7,i64 i)] [(poC p).map .c]) (λi=>m.length - i) (λi=>i<=m.length) 0 (ar _) ?_ ?_
 .exact cg rfl (ar _) (ab 1) (by simp[FL,aj,owF]) ⟨rfl,trivial⟩
 rintro i hi R bL bQ dq;simp only[pkA,seval,lf];refine aD (λbF=>?_) (λfO=>?_)
 .have bF:i<m.length:=by simpa using bF
  have hw:=br (n:=(i:Int)+1) (k:=i+1) (by omega) (by omega);have e1:((i+1:Nat):Int)=(i:Int)+1:=by omega
  obtain⟨f,hf⟩:∃ f,f=m[i]:=⟨_,rfl⟩;have e2:∀ b,decide (f∈l)=b->(m.take (i+1)).filter (λf=>decide (f∈l))=if b then(m.take i).filter (λf=>decide (f∈l))++[f] else(m.take i).filter (λf=>decide (f∈l)):=λb hb=>by rw[aT bF,ir,<- hf];cases b<;>simp[hb]
  simp only[pkA,seval];refine dP dY rfl eK (by decide) (ay i) (c:=faC f) (by simp[bF,hf]) rfl ?_;simp only[aaC,seval];refine aC rfl (C5 l f (by omega)) (λ_=>rfl) ?_;simp only[pkA,seval];refine aD (λhy=>?_) (λhy=>?_)
  .simp only[pkA,seval,kG]
   refine dP dY rfl eK (by decide) (ay i) (c:=faC f) (by simp[bF,hf]) rfl ?_;have r5:mb 3 [(0,V.agg (faC f))] [[C.lit (Value.int IntKind.i64 0),C.lit (Value.int IntKind.i64 0),C.lit (Value.int IntKind.i64 0)]]=some [faC f]:=rfl;simp only[aaC,seval,r5,dx];refine tJ (l:=(m.take i).filter λf=>decide (f∈l)) (x:=f) (by have:=du (λf=>decide (f∈l)) (m.take i);rw[aQ] at this;omega) ?_;simp only[pkA,seval,kG,hw];exact bL (i+1) _ bF (by omega) (cg rfl (ar _) (ab 1) (by simp[FL,aj,e1,e2 true hy]) (by simp[BL,bxs]))
  .simp only[pkA,seval,hw]
   exact bL (i+1) _ bF (by omega) (cg rfl (ar _) (ab 1) (by simp[FL,aj,e1,e2 false hy]) (by simp[BL,bxs]))
 .have:i=m.length:=by simp at fO;omega
  subst this;rw[bW];simp only[pkA];refine bQ _ _ ?_;simp only[pkA,seval,uD];rfl
