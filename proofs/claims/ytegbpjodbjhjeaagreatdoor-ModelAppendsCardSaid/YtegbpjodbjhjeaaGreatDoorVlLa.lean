/- Layer 16: the law that calls append. -/
import Derived.Test.YtegbpjodbjhjeaaGreatDoorVlS2
set_option linter.all false
namespace Go.Proofs.YtegbpjodbjhjeaaGreatDoor
open Go Go.Vl
open Kp (Pol Ty poC tyC)
variable {G:Gl}
set_option maxRecDepth 10000
theorem zX {α:Type} {f:α→List C} {l m:List α} (h:l <+: m):((m.map f).take l.length).drop 0=l.map f:=by
 rw[ep,← kH,← List.prefix_iff_eq_take.1 h]
theorem Vn {l:List Tm}:∀ x∈l.map tmC,x.length=3:=fun x hx=>by
 obtain⟨c,_,rfl⟩:=br.1 hx;exact bG c
def Vo:=jj @pkA (jj @ptA (jj @pkS @tK))
def DW:=jj @pkA (jj @ptA @pkS)
set_option maxHeartbeats 4000000 in
theorem PY {a b:Sy} (h:Beg a b) (ha:SyB a):FnOK Tryz.prog G 26 [.agg (syC a),.agg (syC b)] (bo true):=by
 have hz:eU [V.ow none [],.ow none [],.ow none [],.ow none [],i64 0] 0 [V.c (.sl []),.c (.sl []),.c (.sl []),.c (.sl []),i64 0]=(syC sy0).map .c:=rfl
 have sm:=yC (G:=G) ha ha
 rw[cZ rfl] at sm
 have d1:decide ((b.hs.length:Int)<a.hs.length)=false:=cR (by have:=h.hs.length_le;omega)
 have d2:decide ((b.its.length:Int)<a.its.length)=false:=cR (by have:=h.its.length_le;omega)
 have d3:decide ((b.os.length:Int)<a.os.length)=false:=cR (by have:=h.os.length_le;omega)
 have d4:decide ((b.rs.length:Int)<a.rs.length)=false:=cR (by have:=h.rs.length_le;omega)
 have d5:decide (b.fresh<a.fresh)=false:=cR (by have:=h.fr;omega)
 refine bE (rs:=[.tmp 4]) false [] mixed Tryz.func26 rfl rfl rfl rfl (by kernel_rfl) (by simp) rfl rfl ?_
 simp only[Vo,seval,hsC,tsC,am,d1,d2,d3,d4,d5]
 refine vO kN rfl jp (l:=0) (h:=a.hs.length) rfl rfl (ar _) (by rw[am];exact h.hs.length_le) Lo ?_
 rw[zX h.hs]
 simp only[DW,seval,tsC,am]
 refine vO du rfl dl (l:=0) (h:=a.its.length) rfl rfl (ar _) (by rw[am];exact h.its.length_le) Vn ?_
 rw[zX h.its]
 simp only[DW,seval,hsC,am]
 refine vO kN rfl jp (l:=0) (h:=a.os.length) rfl rfl (ar _) (by rw[am];exact h.os.length_le) Lo ?_
 rw[zX h.os]
 simp only[DW,seval,tsC,am]
 refine vO du rfl dl (l:=0) (h:=a.rs.length) rfl rfl (ar _) (by rw[am];exact h.rs.length_le) Vn ?_
 rw[zX h.rs]
 simp only[DW,seval]
 refine ay («as»:=[.agg (syC a),.agg (syC a)]) rfl sm (by first | exact(fun h=>by cases h) | exact fun _=>rfl) ?_
 simp only[pkA,seval]
theorem aft {c:Cl} {K:V→Prop}:eA false 1 0 (clC c) K=K (i64 c.kind):=by
 first
  |exact propext ⟨fun h=>h.2,fun h=>⟨ab rfl,h⟩⟩
  |(unfold eA;rfl)
  |(unfold eA;simp[clC])
def Z1:=jj @pkA (jj @ptA @Kp.pkP)
set_option maxHeartbeats 4000000 in
theorem YS (p:Pol) (l:List Cl) (c:Cl) (hP:Kp.PolIn p) (hc:I64 c.kind):FnOK Tryz.prog glM 4 [.agg (poC p),.c (jr l),.agg (clC c)] (bo true):=by
 have hz:eU [V.ow none [],.ow none [],.ow none [],.ow none [],i64 0] 0 [V.c (.sl []),.c (.sl []),.c (.sl []),.c (.sl []),i64 0]=(syC sy0).map .c:=rfl
 have few:=yD (G:=glM) p l
 have san:=o9
 refine bE (rs:=[.tmp 6]) false [] mixed Tryz.func4 rfl rfl rfl rfl (by kernel_rfl) (by simp) rfl rfl ?_
 simp only[Z1,seval,jr]
 refine ay («as»:=[.agg (poC p),.c (jr l)]) rfl few (by first | exact(fun h=>by cases h) | exact fun _=>rfl) ?_
 simp only[pkA,seval]
 cases hf:Go.Proofs.YtegbpjodbjhjeaaGreatDoor.few p l.length with
 |false=>
  simp only[pkA,seval]
  refine ay rfl san (by first | exact(fun h=>by cases h) | exact fun _=>rfl) ?_
  simp only[pkA,seval]
 |true=>
  obtain⟨hp,hl⟩:=uB hP hf
  have hR:=tL hp l (by omega)
  have dC:=oU hp.t l sy0 0 sok0
  generalize hrr:ji p sy0 0 l=rr at *
  obtain⟨s,n,e⟩:=rr
  simp only at hR dC
  have hst:=qk (c:=c) hp dC
  simp only[Z1,seval]
  refine ay («as»:=[.agg (poC p),.c (jr l)]) rfl hR (by first | exact(fun h=>by cases h) | exact fun _=>rfl) ?_
  simp only[pkA,ptA,pkS,tK,Kp.pkP,seval]
  cases hD:bM p s c with
  |error e=>
   rw[hD] at hst
   simp only[stR] at hst
   have he:=zV hD
   have hed:decide (e=0)=false:=cR he
   refine ay («as»:=[.agg (poC p),.agg (syC s),.agg (clC c)]) rfl hst (by first | exact(fun h=>by cases h) | exact fun _=>rfl) ?_
   simp only[hed,fC,Vo,seval]
   have sm:=yC (G:=glM) sok0.b sok0.b
   rw[cZ rfl] at sm
   refine ay rfl san (by first | exact(fun h=>by cases h) | exact fun _=>rfl) ?_
   simp only[pkA,ptA,tK,seval]
   refine ay («as»:=[.agg (syC sy0),.agg (syC sy0)]) rfl sm (by first | exact(fun h=>by cases h) | exact fun _=>rfl) ?_
   simp only[pkA,seval]
  |ok t=>
   rw[hD] at hst
   simp only[stR] at hst
   refine ay («as»:=[.agg (poC p),.agg (syC s),.agg (clC c)]) rfl hst (by first | exact(fun h=>by cases h) | exact fun _=>rfl) ?_
   obtain⟨_,k1,k2,hd⟩:=Bw dC hD
   have hb:=YL hd
   have hT:=qO dC hp.t hD
   have bg:=PY (G:=glM) hb dC.b
   have b1:=hb.one
   have b2:=dC.hn
   have b3:=dC.iN
   have w1:IntKind.i64.wrap ((t.hs.length:Int)+t.its.length)=t.hs.length+t.its.length:=wrap_i64 _ (by omega)
   have w2:IntKind.i64.wrap ((s.hs.length:Int)+s.its.length)=s.hs.length+s.its.length:=wrap_i64 _ (by omega)
   have w3:IntKind.i64.wrap ((s.hs.length:Int)+s.its.length+1)=s.hs.length+s.its.length+1:=wrap_i64 _ (by omega)
   have q1:decide ((t.hs.length:Int)+t.its.length=s.hs.length+s.its.length+1)=true:=cZ (by omega)
   simp only[ai,fV,Vo,seval]
   refine ay («as»:=[.agg (syC s),.agg (syC t)]) rfl bg (by first | exact(fun h=>by cases h) | exact fun _=>rfl) ?_
   simp only[aft,w1,w2,w3,q1,ai,fV,DW,seval,hsC,tsC,am]
   by_cases hk:c.kind<12
   ·have VU:decide (c.kind<12)=true:=cZ hk
    simp only[VU,pkA,seval]
    refine ay rfl san (by first | exact(fun h=>by cases h) | exact fun _=>rfl) ?_
    simp only[pkA,seval]
   ·have VU:decide (c.kind<12)=false:=cR hk
    obtain⟨v,hv,Qo⟩:=YK dC (by omega) hd
    have e1:t.its=s.its++[v]:=by rw[hv];rfl
    have l1:t.its.length=s.its.length+1:=by rw[e1];simp
    have q2:decide ((t.its.length:Int)=s.its.length+1)=true:=cZ (by omega)
    have q3:decide ((t.os.length:Int)=s.os.length)=true:=cZ (by rw[hv];rfl)
    have q4:decide ((t.rs.length:Int)=s.rs.length)=true:=cZ (by rw[hv];rfl)
    have q5:decide (t.fresh=s.fresh)=true:=cZ (by rw[hv];rfl)
    have sA:=hT.iv v (by rw[e1];simp)
    have kr:=Ng (G:=glM) dC v (by omega)
    rw[show knS s v=true from(oS fun t ht=>(dC.iv t ht).1).2 Qo] at kr
    have w4:IntKind.i64.wrap ((s.its.length:Int)+1)=s.its.length+1:=wrap_i64 _ (by omega)
    simp only[VU,pkA,seval]
    refine ay rfl san (by first | exact(fun h=>by cases h) | exact fun _=>rfl) ?_
    simp only[w4,q2,q3,q4,q5,DW,seval,hsC,tsC,am]
    refine df du rfl dl (by decide) (aD _) (c:=tmC v) (by rw[e1];simp) (bG _) ?_
    simp only[pkA,ptA,pkT,seval]
    refine ay («as»:=[.c (tsC s.its),.agg (tmC v)]) rfl kr (by first | exact(fun h=>by cases h) | exact fun _=>rfl) ?_
    simp only[pkA,seval]
