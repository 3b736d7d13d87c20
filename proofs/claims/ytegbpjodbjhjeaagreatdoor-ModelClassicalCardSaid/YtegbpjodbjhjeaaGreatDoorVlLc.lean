/- Layer 16: the law of the classical example. -/
import Derived.Test.YtegbpjodbjhjeaaGreatDoorVlS2
import Derived.Test.YtegbpjodbjhjeaaGreatDoorVlCA
set_option linter.all false
namespace Go.Proofs.YtegbpjodbjhjeaaGreatDoor
open Go Go.Vl
open Kp (Pol Ty poC tyC)
set_option maxRecDepth 10000
theorem YT {p:Pol} {t f:Int} (h:jE p t f=true):0≤t∧t<p.types.length:=by
 unfold jE at h
 split at h
 ·rename_i x hx
  obtain⟨i,rfl,hi,_⟩:=yz hx
  omega
 ·cases h
def DX:=jj @pkA (jj @ptA @Kp.pkP)
def Z2:=jj @pkA (jj @ptA @tK)
set_option maxHeartbeats 4000000 in
theorem PZ (p:Pol) (a b:Int) (hP:Kp.PolIn p) (ha:I64 a) (hb:I64 b):FnOK Tryz.prog glM 7 [.agg (poC p),i64 a,i64 b] (bo true):=by
 have hz:eU [V.ow none [],.ow none [],.ow none [],.ow none [],i64 0] 0 [V.c (.sl []),.c (.sl []),.c (.sl []),.c (.sl []),i64 0]=(syC sy0).map .c:=rfl
 have few:=yD (G:=glM) p []
 have san:=o9
 refine bE (rs:=[.tmp 6]) false [] mixed Tryz.func7 rfl rfl rfl rfl (by kernel_rfl) (by simp) rfl rfl ?_
 simp only[DX,seval]
 refine ay («as»:=[.agg (poC p),.c (jr [])]) rfl few (by first | exact(fun h=>by cases h) | exact fun _=>rfl) ?_
 simp only[pkA,seval]
 cases hf:Go.Proofs.YtegbpjodbjhjeaaGreatDoor.few p 0 with
 |false=>
  simp only[pkA,seval]
  refine ay rfl san (by first | exact(fun h=>by cases h) | exact fun _=>rfl) ?_
  simp only[pkA,seval]
 |true=>
  simp only[DX,seval]
  obtain⟨hp,_⟩:=uB hP hf
  have rv:=Kp.Ix (G:=glM) p hP (by have:=hp.t;have:=hp.r;have:=hp.q;unfold Kp.gj;omega)
  refine ay rfl rv (by first | exact(fun h=>by cases h) | exact fun _=>rfl) ?_
  cases hv:Kp.gu p with
  |false=>
   simp only[pkA,seval]
   refine ay rfl san (by first | exact(fun h=>by cases h) | exact fun _=>rfl) ?_
   simp only[pkA,seval]
  |true=>
   simp only[DX,seval]
   have r1:=IZ (G:=glM) p a 17 ⟨by decide,by decide⟩
   refine ay («as»:=[.agg (poC p),i64 a,i64 17]) rfl r1 (by first | exact(fun h=>by cases h) | exact fun _=>rfl) ?_
   cases h1:jE p a 17 with
   |false=>
    simp only[pkA,seval]
    refine ay rfl san (by first | exact(fun h=>by cases h) | exact fun _=>rfl) ?_
    simp only[pkA,seval]
   |true=>
    simp only[DX,seval]
    have r2:=IZ (G:=glM) p b 1 ⟨by decide,by decide⟩
    refine ay («as»:=[.agg (poC p),i64 b,i64 1]) rfl r2 (by first | exact(fun h=>by cases h) | exact fun _=>rfl) ?_
    cases h2:jE p b 1 with
    |false=>
     simp only[pkA,seval]
     refine ay rfl san (by first | exact(fun h=>by cases h) | exact fun _=>rfl) ?_
     simp only[pkA,seval]
    |true=>
     simp only[DX,seval]
     have r3:=YN (G:=glM) p 3 a b (by have:=hp.r;omega)
     refine ay («as»:=[.agg (poC p),i64 3,i64 a,i64 b]) rfl r3 (by first | exact(fun h=>by cases h) | exact fun _=>rfl) ?_
     cases h3:mH p 3 a b with
     |false=>
      simp only[pkA,seval]
      refine ay rfl san (by first | exact(fun h=>by cases h) | exact fun _=>rfl) ?_
      simp only[pkA,seval]
     |true=>
      simp only[DX,seval]
      have hl:=YT h2
      have:=hp.t
      obtain⟨q1,q2⟩:=U5 hv h1 h2 h3
      have hR1:FnOK Tryz.prog glM 11 [.agg (poC p),.c (jr ((clL a b).take 3))] (.tup [.agg (syC (uO a b)),i64 3,i64 0]):=by
       have:=tL hp ((clL a b).take 3) (ab rfl)
       rw[q1] at this;exact this
      have hR2:FnOK Tryz.prog glM 11 [.agg (poC p),.c (jr (clL a b))] (.tup [.agg (syC (vN a b)),i64 4,i64 0]):=by
       have:=tL hp (clL a b) (ab rfl)
       rw[q2] at this;exact this
      have k1:=oU hp.t ((clL a b).take 3) sy0 0 sok0
      rw[q1] at k1
      have k2:=oU hp.t (clL a b) sy0 0 sok0
      rw[q2] at k2
      simp only at k1 k2
      obtain⟨v1,v2⟩:=acI (p:=p) k1 k2
      have rv1:=ny k1 (b+1)
      rw[v1] at rv1
      have rv2:=ny k2 (b+1)
      rw[v2] at rv2
      have hw:IntKind.i64.wrap (b+1)=b+1:=wrap_i64 _ (by omega)
      refine vO A7 rfl oG (l:=0) (h:=3) rfl rfl (ar _) (ab rfl) (fun x hx=>by simp only[bu,dW,jK] at hx;rcases hx with rfl | rfl | rfl | rfl<;>rfl) ?_
      simp only[pkA,seval]
      refine ay («as»:=[.agg (poC p),.c (jr ((clL a b).take 3))]) rfl hR1 (by first | exact(fun h=>by cases h) | exact fun _=>rfl) ?_
      simp only[pkA,ptA,pkS,tK,Kp.pkP,seval]
      refine ay («as»:=[.agg (poC p),.c (jr (clL a b))]) rfl hR2 (by first | exact(fun h=>by cases h) | exact fun _=>rfl) ?_
      simp only[pkA,ptA,pkS,tK,seval]
      refine ay rfl san (by first | exact(fun h=>by cases h) | exact fun _=>rfl) ?_
      simp only[pkA,seval]
      simp only[hw,ai,Z2,seval]
      refine ay («as»:=[.agg (syC (uO a b)),i64 (b+1)]) rfl rv1 (by first | exact(fun h=>by cases h) | exact fun _=>rfl) ?_
      simp only[hw,ai,fC,Z2,seval]
      refine ay («as»:=[.agg (syC (vN a b)),i64 (b+1)]) rfl rv2 (by first | exact(fun h=>by cases h) | exact fun _=>rfl) ?_
      simp only[pkA,seval]
