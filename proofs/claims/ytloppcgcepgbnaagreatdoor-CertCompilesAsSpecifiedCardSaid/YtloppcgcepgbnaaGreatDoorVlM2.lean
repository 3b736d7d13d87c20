/- Layer 19: the law CertCompilesAsSpecified, as a contract. -/
import Derived.Test.YtloppcgcepgbnaaGreatDoorVlM1
set_option linter.all false
namespace Go.Proofs.YtloppcgcepgbnaaGreatDoor
open Go Go.Vl Go.Proofs.YtloppcgcepgbnaaGreatDoor.Kw
variable {G:Gl}
set_option maxRecDepth 100000
theorem Ix {v:Bool} {p:Pol} (h:(gb v p).2.2=0):v=true/\mF p (db p)=[]/\gb v p=(jI (db p),[],0):=by
 unfold gb at h ⊢
 cases v
 .rw[if_pos rfl] at h;exact absurd h (by decide)
 .rw[if_neg (by decide)] at h ⊢
  by_cases hb:mF p (db p)=[]
  .rw[if_pos hb];exact⟨rfl,hb,rfl⟩
  .rw[if_neg hb] at h;exact absurd h (show ¬ (21:Int)=0 by decide)
theorem L2 {v:Bool} {p:Pol} (h:PolS p):(gb v p).1.length<=3000000/\(gb v p).2.1.length<=1000000:=by
 have h1:=qo h;have h2:=zJ (l:=db p) (by omega);have h3:=@Dy p;have h4:(mF p (db p)).length<=(qG p).length:=du _ _;have h5:=h.ty;unfold gb
 repeat' split
 .exact⟨ar _,ar _⟩
 .exact⟨h2,ar _⟩
 .exact⟨ar _,by show(mF p (db p)).length<=_;omega⟩
def QT:=jj @pkA (jj @ptA @pkI)
def QU:=jj @pkA @ptA
set_option maxHeartbeats 8000000 in
theorem DU (hG:GV G) {p:Pol} (hp0:Kp.PolIn (kPo p)):FnOK Tryz.prog G 4 [.agg (poC p)] (bo true):=by
 refine bJ (rs:=[.tmp 2]) false [] mixed Tryz.func4 rfl rfl rfl rfl (by kernel_rfl) (by simp) rfl rfl ?_;have lf:∀ (m:List Fa) (K:V->Prop),fq Tryz.prog 28 (.c (fsC m)) K=K (i64 m.length):=λm K=>by unfold fsC;rw[fD dY rfl,au]
 have lb:∀ (b:B) (K:V->Prop),fq Tryz.prog 27 (.c (.sl (bC b))) K=K (i64 b.length):=λb K=>by rw[fD lE rfl];simp[bC]
 have q0:∀ (p:Pol) (a b c d:V),eQ [a,b,c,d] 0 ((poC p).map .c)=(poC p).map .c:=λ_ _ _ _ _=>rfl;have qi:∀ (x:In) (a b c:V),eQ [a,b,c] 0 ((inC x).map .c)=(inC x).map .c:=λ_ _ _ _=>rfl;simp only[QT,seval,gK,cy];refine aC rfl (akF p) (λ_=>rfl) ?_;simp only[pkA,seval,gK];cases hf:UZ p
 .simp only[pkA,seval]
  refine aC rfl (Gj hG) (λh=>by cases h) ?_;simp only[pkA,seval,gK]
 obtain⟨hs,hty,hru,hqu⟩:=agK hf;have hp:=anT hf hp0;have hxl:=L2 (v:=mq p) hs;have D6:=xi hG hp hs;have hrc:=Ph (G:=G) hp hs;have hz:=Ix (v:=mq p) (p:=p);generalize gb (mq p) p=x at *;have qc:∀ (a b c:V),eQ [a,b,c] 0 ((cpC x).map .c)=(cpC x).map .c:=λ_ _ _=>rfl;have g0:∀ nb q (K:V->Prop),ldB nb q ((cpC x).map .c) 0 K=(q<nb/\K (.c (.sl (bC x.1)))):=λ_ _ _=>rfl;have g1:∀ nb q (K:V->Prop),ldB nb q ((cpC x).map .c) 1 K=(q<nb/\K (.c (fsC x.2.1))):=λ_ _ _=>rfl;have g2:∀ nb q (K:V->Prop),ldB nb q ((cpC x).map .c) 2 K=(q<nb/\K (i64 x.2.2)):=λ_ _ _=>rfl;have j8:(cpC x).length=3:=rfl;have mc:ck ((cpC x).map V.c)=false:=rfl;simp only[QT,seval,gK,cy];refine aC rfl (D6) (λh=>by cases h) ?_;simp only[QT,seval,gK,cy];refine aC rfl (hrc) (λh=>by cases h) ?_;simp only[QU,seval,gK,cy,qc,j8];refine aC rfl (Gj hG) (λh=>by cases h) ?_;simp only[QU,seval,gK,cy,g0,mc];refine aC rfl (F4 x.1 x.1 (by omega)) (λh=>by cases h) ?_;simp only[QU,seval,gK,cy,g1,mc];refine aC rfl (H4 x.2.1 x.2.1 (by omega)) (λh=>by cases h) ?_;simp only[QU,seval,gK,cy,g2,mc];cases he:decide (x.2.2=0)
 .simp only[pkA,seval,gK]
 .obtain⟨h1,h2,h3⟩:=hz (bw he)
  have hA:FnOK Tryz.prog G 16 [.agg (poC p),bv x.1] (i64 0):=by have:=zI hG hp hs (jI (db p)) (by have:=zJ (l:=db p) (by have:=qo hs;omega);omega);rw[h1,DN hs h2] at this;rw[h3];exact this
  simp only[QT,seval,gK,cy];refine aC rfl (hA) (λh=>by cases h) ?_;simp only[pkA,seval,gK,cy]
