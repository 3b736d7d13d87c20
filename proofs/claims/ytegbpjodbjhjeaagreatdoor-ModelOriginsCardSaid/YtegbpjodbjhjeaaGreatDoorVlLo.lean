/- Layer 16: the law of the origins. -/
import Derived.Test.YtegbpjodbjhjeaaGreatDoorVlS2
set_option linter.all false
namespace Go.Proofs.YtegbpjodbjhjeaaGreatDoor
open Go Go.Vl
open Kp (Pol Ty poC tyC)
set_option maxRecDepth 10000
section
variable {fr:Nat→V} {bx:Nat→List V} {nb q:Nat} {K:V→Prop} {o:Hd}
end
def pkO:=@fi
theorem abO {a b:Tm}:decide (jK a b=0)=decide (a=b):=i8.2 jk
def YL:=jj @pkA (jj @ptA @Kp.pkP)
def YM:=jj @pkA (jj @ptA (jj @pkH (jj @pkS @pkO)))
def T0:=jj @pkA (jj @ptA @pkS)
def T8:=jj @pkA (jj @ptA (jj @pkH @pkO))
def T9:=jj @pkA (jj @ptA @pkH)
set_option maxHeartbeats 8000000 in
theorem Ua (p:Pol) (l:List Cl) (hP:Kp.PolIn p):FnOK Tryz.prog glM 5 [.agg (poC p),.c (lP l)] (bo true):=by
 have hz:eU [V.ow none [],.ow none [],.ow none [],.ow none [],i64 0] 0 [V.c (.sl []),.c (.sl []),.c (.sl []),.c (.sl []),i64 0]=(syC sy0).map .c:=rfl
 have few:=Kc (G:=glM) p l
 have san:=xw
 refine bP (rs:=[.tmp 4]) false [] mixed Tryz.func5 rfl rfl rfl rfl (by kernel_rfl) (by simp) rfl rfl ?_
 simp only[YL,seval,lP]
 refine aD («as»:=[.agg (poC p),.c (lP l)]) rfl few (by first | exact(fun h=>by cases h) | exact fun _=>rfl) ?_
 simp only[pkA,seval]
 cases hf:Go.Proofs.YtegbpjodbjhjeaaGreatDoor.few p l.length with
 |false=>
  simp only[pkA,seval]
  refine aD rfl san (by first | exact(fun h=>by cases h) | exact fun _=>rfl) ?_
  simp only[pkA,seval]
 |true=>
  obtain⟨hp,hl⟩:=ER hP hf
  have hR:=EN hp l (by omega)
  have dI:=v7 hp.t l sy0 0 JV
  have hor:=TO hp.t l
  generalize hrr:mE p sy0 0 l=rr at *
  obtain⟨s,n,e⟩:=rr
  simp only at hR dI hor
  have hn:=dI.hn
  have Ur:=dI.on
  simp only[YL,seval]
  refine aD («as»:=[.agg (poC p),.c (lP l)]) rfl hR (by first | exact(fun h=>by cases h) | exact fun _=>rfl) ?_
  simp only[pkA,ptA,pkS,HA,seval,hsC,ap]
  refine cF (fun i:Nat=>hdS [(5,.bp 1 0),(33,.c (.sl (s.hs.map hdC))),(34,i64 s.hs.length),(35,i64 i)] [(poC p).map .c,(syC s).map .c]) (fun i=>s.hs.length - i) (fun i=>i≤s.hs.length) 0 (au _) ?_ ?_
  ·refine cj rfl (au _) (by simp) ?_ ?_
   ·simp[FL,ar]
   ·simp[BL,ar]
  intro i hi R ck cG dn
  simp only[pkA,seval]
  refine aV (fun bF=>?_) (fun ga=>?_)
  ·have bF:i<s.hs.length:=by simpa using bF
   have hv:=dI.hv _ (aF bF)
   have hkr:=Xu (G:=glM) dI s.hs[i].va (by omega)
   simp only[pkA,seval]
   refine dz l6 rfl jU (by decide) (aI i) (c:=hdC s.hs[i]) (by simp[bF]) (fi _) ?_
   simp only[YM,seval,tsC]
   refine aD («as»:=[.c (tsC s.its),.agg (tmC s.hs[i].va)]) rfl hkr (by first | exact(fun h=>by cases h) | exact fun _=>rfl) ?_
   simp only[T0,seval,hsC,ap]
   refine cF (fun j:Nat=>hdS [(5,.bp 1 0),(9,.bp 2 0),(10,bo (knS s s.hs[i].va||(s.os.take j).any (fun o=>decide (o.va=s.hs[i].va)))),(33,.c (.sl (s.hs.map hdC))),(34,i64 s.hs.length),(35,i64 i),(45,.c (.sl (s.os.map hdC))),(46,i64 s.os.length),(47,i64 j)] [(poC p).map .c,(syC s).map .c,(hdC s.hs[i]).map .c]) (fun j=>s.os.length - j) (fun j=>j≤s.os.length) 0 (au _) ?_ ?_
   ·refine cj rfl (au _) (by simp) ?_ ?_
    ·simp[FL,ar]
    ·simp[BL,ar,bxs]
   intro j hj R' rm xz UE
   simp only[pkA,seval]
   refine aV (fun nG=>?_) (fun XZ=>?_)
   ·have nG:j<s.os.length:=by simpa using nG
    have hvo:=dI.hv _ (dI.ov _ (aF nG))
    have HW:=mb (G:=glM) s.os[j].va s.hs[i].va (by omega) (by omega)
    have hw:=wrap_i64 (j+1) (by omega)
    have et:(s.os.take (j+1)).any (fun o=>decide (o.va=s.hs[i].va))=((s.os.take j).any (fun o=>decide (o.va=s.hs[i].va))||decide (s.os[j].va=s.hs[i].va)):=by
     rw[aU nG,List.any_append];simp
    simp only[pkA,seval]
    refine dz l6 rfl jU (by decide) (aI j) (c:=hdC s.os[j]) (by simp[nG]) (fi _) ?_
    simp only[T8,seval]
    cases AU:(knS s s.hs[i].va||(s.os.take j).any (fun o=>decide (o.va=s.hs[i].va))) with
    |true=>
     simp only[pkA,seval]
     refine rm (j+1) _ nG (by omega) (cj rfl (au _) (by simp) ?_ ?_)
     ·have e2:(knS s s.hs[i].va||(s.os.take (j+1)).any (fun o=>decide (o.va=s.hs[i].va)))=true:=by rw[et,← Bool.or_assoc,AU];rfl
      simp[FL,ar,hw,e2]
     ·simp[BL,ar,bxs]
    |false=>
     simp only[T9,seval]
     refine aD («as»:=[.agg (tmC s.os[j].va),.agg (tmC s.hs[i].va)]) rfl HW (by first | exact(fun h=>by cases h) | exact fun _=>rfl) ?_
     simp only[abO,pkA,seval]
     refine rm (j+1) _ nG (by omega) (cj rfl (au _) (by simp) ?_ ?_)
     ·have e2:(knS s s.hs[i].va||(s.os.take (j+1)).any (fun o=>decide (o.va=s.hs[i].va)))=decide (s.os[j].va=s.hs[i].va):=by rw[et,← Bool.or_assoc,AU];rfl
      simp[FL,ar,hw,e2]
     ·simp[BL,ar,bxs]
   ·have:j=s.os.length:=by simp at XZ;omega
    subst this
    have AU:(knS s s.hs[i].va||s.os.any (fun o=>decide (o.va=s.hs[i].va)))=true:=by
     rcases(hor.hs _ (aF bF)).2 with h | h
     ·rw[show knS s s.hs[i].va=true from(tB fun t ht=>(dI.iv t ht).1).2 h];rfl
     ·obtain⟨o,ho,e⟩:=bu.1 h
      rw[dF,dp]
      exact .inr ⟨o,ho,eZ e⟩
    have hw:=wrap_i64 (i+1) (by omega)
    simp only[pkA]
    refine xz _ _ ?_
    simp only[cx,AU,iU,pkA,seval]
    refine ck (i+1) _ bF (by omega) (cj rfl (au _) (by simp) ?_ ?_)
    ·simp[FL,ar,hw]
    ·simp[BL,bxs]
  ·have:i=s.hs.length:=by simp at ga;omega
   subst this
   simp only[pkA]
   refine cG _ _ ?_
   simp only[T0,seval,hsC,ap]
   clear ck dn cG
   clear R
   refine cF (fun k:Nat=>hdS [(5,.bp 1 0),(65,.c (.sl (s.os.map hdC))),(66,i64 s.os.length),(67,i64 k)] [(poC p).map .c,(syC s).map .c]) (fun k=>s.os.length - k) (fun k=>k≤s.os.length) 0 (au _) ?_ ?_
   ·refine cj rfl (au _) (by simp) ?_ ?_
    ·simp[FL,ar]
    ·simp[BL,bxs]
   intro k hk R ck cG dn
   simp only[pkA,seval]
   refine aV (fun bF=>?_) (fun ga=>?_)
   ·have bF:k<s.os.length:=by simpa using bF
    have hvo:=dI.hv _ (dI.ov _ (aF bF))
    simp only[pkA,seval]
    refine dz l6 rfl jU (by decide) (aI k) (c:=hdC s.os[k]) (by simp[bF]) (fi _) ?_
    simp only[YM,seval,hsC,ap]
    generalize ho:s.os[k]=o at *
    refine cF (fun j:Nat=>hdS [(5,.bp 1 0),(13,i64 k),(14,.bp 2 0),(15,bo ((s.hs.take j).any (fun h=>decide (h.ty=o.ty)&&decide (o.va=h.va)))),(65,.c (.sl (s.os.map hdC))),(66,i64 s.os.length),(67,i64 k),(73,.c (.sl (s.hs.map hdC))),(74,i64 s.hs.length),(75,i64 j)] [(poC p).map .c,(syC s).map .c,(hdC o).map .c]) (fun j=>s.hs.length - j) (fun j=>j≤s.hs.length) 0 (au _) ?_ ?_
    ·refine cj rfl (au _) (by simp) ?_ ?_
     ·simp[FL,ar]
     ·simp[BL,ar,bxs]
    intro j hj R' rm xz UE
    simp only[pkA,seval]
    refine aV (fun nG=>?_) (fun XZ=>?_)
    ·have nG:j<s.hs.length:=by simpa using nG
     have hvh:=dI.hv _ (aF nG)
     have HW:=mb (G:=glM) o.va s.hs[j].va (by omega) (by omega)
     have hw:=wrap_i64 (j+1) (by omega)
     have et:(s.hs.take (j+1)).any (fun h=>decide (h.ty=o.ty)&&decide (o.va=h.va))=((s.hs.take j).any (fun h=>decide (h.ty=o.ty)&&decide (o.va=h.va))||(decide (s.hs[j].ty=o.ty)&&decide (o.va=s.hs[j].va))):=by
      rw[aU nG,List.any_append];simp
     simp only[pkA,seval]
     refine dz l6 rfl jU (by decide) (aI j) (c:=hdC s.hs[j]) (by simp[nG]) (fi _) ?_
     simp only[T8,seval]
     cases AU:(s.hs.take j).any (fun h=>decide (h.ty=o.ty)&&decide (o.va=h.va)) with
     |true=>
      rw[AU,Bool.true_or] at et
      simp only[pkA,seval]
      refine rm (j+1) _ nG (by omega) (cj rfl (au _) (by simp) ?_ ?_)
      ·simp[FL,ar,hw,et]
      ·simp[BL,ar,bxs]
     |false=>
      rw[AU,Bool.false_or] at et
      simp only[T9,seval]
      cases hty:decide (s.hs[j].ty=o.ty) with
      |false=>
       rw[hty,Bool.false_and] at et
       simp only[pkA,seval]
       refine rm (j+1) _ nG (by omega) (cj rfl (au _) (by simp) ?_ ?_)
       ·simp[FL,ar,hw,et]
       ·simp[BL,ar,bxs]
      |true=>
       rw[hty,Bool.true_and] at et
       simp only[T9,seval]
       refine aD («as»:=[.agg (tmC o.va),.agg (tmC s.hs[j].va)]) rfl HW (by first | exact(fun h=>by cases h) | exact fun _=>rfl) ?_
       simp only[abO,pkA,seval]
       refine rm (j+1) _ nG (by omega) (cj rfl (au _) (by simp) ?_ ?_)
       ·simp[FL,ar,hw,et]
       ·simp[BL,ar,bxs]
    ·have:j=s.hs.length:=by simp at XZ;omega
     subst this
     have AU:s.hs.any (fun h=>decide (h.ty=o.ty)&&decide (o.va=h.va))=true:=by
      rw[dp]
      exact⟨o,ho▸dI.ov _ (aF bF),by simp⟩
     simp only[pkA]
     refine xz _ _ ?_
     simp only[cx,AU,iU,T0,seval]
     clear rm UE xz
     clear R'
     have pA:∀ m (hm:m<k),s.os[m].va≠o.va:=fun m hm e=>by
      have h1:(om s)[m]?=some s.os[m].va:=by unfold om;rw[ba,aj (by omega)];rfl
      have h2:(om s)[k]?=some o.va:=by unfold om;rw[ba,aj bF,ho];rfl
      have EU:m<(om s).length:=by unfold om;rw[ap];omega
      have:=(List.getElem?_inj EU hor.nd).1 (h1.trans (e▸h2.symm))
      omega
     have UJ:(s.os.take k).length=k:=by simp;omega
     refine abA (es:=s.os.map hdC) l6 rfl jU (l:=0) (h:=k) rfl rfl (au _) (by rw[ap];omega) abB ?_
     rw[eM,← List.map_take]
     simp only[UJ,pkA,ptA,seval,ap]
     refine cF (fun m:Nat=>hdS [(5,.bp 1 0),(14,.bp 2 0),(65,.c (.sl (s.os.map hdC))),(66,i64 s.os.length),(67,i64 k),(101,.c (.sl ((s.os.take k).map hdC))),(102,i64 k),(103,i64 m)] [(poC p).map .c,(syC s).map .c,(hdC o).map .c]) (fun m=>k - m) (fun m=>m≤k) 0 (au _) ?_ ?_
     ·refine cj rfl (au _) (by simp) ?_ ?_
      ·simp[FL,ar]
      ·simp[BL,bxs]
     intro m hm R' rm xz UE
     simp only[pkA,seval]
     refine aV (fun nG=>?_) (fun XZ=>?_)
     ·have nG:m<k:=by simpa using nG
      have hvm:=dI.hv _ (dI.ov _ (aF (l:=s.os) (n:=m) (by omega)))
      have HW:=mb (G:=glM) s.os[m].va o.va (by omega) (by omega)
      have gv:decide (s.os[m].va=o.va)=false:=fu (pA m nG)
      have hw:=wrap_i64 (m+1) (by omega)
      simp only[pkA,seval]
      refine dz l6 rfl jU (by decide) (aI m) (c:=hdC s.os[m]) (by rw[iw,ba,List.getElem?_take_of_lt nG,aj (by omega)];rfl) (fi _) ?_
      simp only[T8,seval]
      refine aD («as»:=[.agg (tmC s.os[m].va),.agg (tmC o.va)]) rfl HW (by first | exact(fun h=>by cases h) | exact fun _=>rfl) ?_
      simp only[abO,gv,pkA,seval]
      refine rm (m+1) _ nG (by omega) (cj rfl (au _) (by simp) ?_ ?_)
      ·simp[FL,ar,hw]
      ·simp[BL,ar,bxs]
     ·have hw:=wrap_i64 (k+1) (by omega)
      simp only[pkA]
      refine xz _ _ ?_
      simp only[pkA,seval]
      refine ck (k+1) _ bF (by omega) (cj rfl (au _) (by simp) ?_ ?_)
      ·simp[FL,ar,hw]
      ·simp[BL,bxs]
   ·simp only[pkA]
    refine cG _ _ ?_
    simp only[pkA,seval]
    refine aD rfl san (by first | exact(fun h=>by cases h) | exact fun _=>rfl) ?_
    simp only[pkA,seval]
