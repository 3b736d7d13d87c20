/- Layer 16: the law that runs keep secrets. -/
import Derived.Test.YtegbpjodbjhjeaaGreatDoorVlS2
set_option maxHeartbeats 4000000
set_option linter.all false
namespace Go.Proofs.YtegbpjodbjhjeaaGreatDoor
open Go Go.Vl
open Kp (Pol Ty poC tyC)
set_option maxRecDepth 10000
def noT (t:Ty):Ty:={ t with flags:=OM t.flags }
def noP (p:Pol):Pol:={ p with types:=p.types.map noT,rules:=[] }
theorem XA {fr:Nat→V} {bx:Nat→List V} {nb:Nat} {K:Vl.S→Prop} {dO:Option Tmp} {b o:Nat} {E:Option (TypeId×Nat)} {es:List (List C)}:stS 1 none dO b o (.ow E es) ⟨fr,bx,nb⟩ K=((b<nb∧o+1≤(bx b).length)∧K ((⟨fr,up bx b (eU (bx b) o [.ow E es]),nb⟩:Vl.S).put dO .sk)):=by
 simp[stS,V.bcells,Gh]
def p0 (p:Pol):Pol:={ p with rules:=[] }
def b0 (p:Pol):List V:=((poC (p0 p)).map V.c).set 2 (.ow none [])
section
variable {nb q:Nat} {K:V→Prop} {p:Pol}
theorem aeh:eU ((poC p).map V.c) 2 [V.ow none []]=b0 p:=rfl
theorem aei:cX (b0 p)=false:=rfl
theorem abC:(b0 p).length=4:=rfl
theorem abD:ldA nb q (b0 p) 0 4 K=(q<nb∧K (.agg (poC (p0 p)))):=by
 unfold ldA
 exact propext ⟨fun h=>⟨h.1,h.2.2⟩,fun h=>⟨h.1,⟨rfl,rfl⟩,h.2⟩⟩
theorem abE:ldB nb q (b0 p) 1 K=(q<nb∧K (.c (.sl (p.types.map tyC)))):=by
 unfold ldB;rfl
end
theorem abG {K:V→Prop} {ts:List Ty} (gv:ts≠[]) (hl:ts.length≤1000) (hK:K (.ow (some (56,3)) (ts.map tyC))):dX Tryz.prog 22 (.ow none []) (.c (.sl (ts.map tyC))) K:=by
 unfold dX
 simp only[nw,kM]
 refine⟨⟨by decide,by trivial,by simp,fun x hx=>by cases hx⟩,⟨by simp only[aK,ap];omega,by simp only[aK,ap];omega,fun x hx=>by obtain⟨y,_,rfl⟩:=bu.1 hx;rfl⟩,?_⟩
 rw[if_neg (by simpa using gv)];exact hK
theorem Kd {A B:List Ty} {t:Ty}:flb tyC (A++t::B)=flb tyC A++(.c (Kp.cS t.name)::i64 t.flags::i64 t.life::flb tyC B):=by simp[flb,tyC,Kp.cI,i64]
theorem flb_tyl {A:List Ty}:(flb tyC A).length=A.length*3:=ke Kp.yX A
theorem abH {A B:List Ty} {t:Ty}:(flb tyC (A++t::B))[A.length*3+1]?=some (i64 t.flags):=by
 rw[Kd,aJ (by rw[flb_tyl];omega),flb_tyl,show A.length*3+1 - A.length*3=1 by omega];rfl
theorem abI {A B:List Ty} {t:Ty} {v:Int}:eU (flb tyC (A++t::B)) (A.length*3+1) [i64 v]=flb tyC (A++{ t with flags:=v }::B):=by
 rw[Kd,Kd]
 have h:A.length*3=(flb tyC A).length:=flb_tyl.symm
 unfold eU
 rw[h]
 simp[List.take_append,List.drop_append,show(flb tyC A).length+2 - (flb tyC A).length=2 by omega,show(flb tyC A).length+1 - (flb tyC A).length=1 by omega]
 rw[dM (by omega),iP (by omega)];rfl
theorem aej {nb b o:Nat} {A B:List Ty} {t:Ty} {K:V→Prop} (ho:o=A.length*3+1) (hb:b<nb) (hK:K (i64 t.flags)):ldB nb b (flb tyC (A++t::B)) o K:=by
 subst ho
 unfold ldB
 rw[abH];exact⟨hb,hK⟩
theorem abJ {a b:Int} {K:V→Prop} (hK:K (i64 (bits .andNot .i64 a b))):qG .andNot .i64 a b K:=hK
def b1 (p:Pol):List V:=eU (b0 p) 1 [V.c (C.sl (List.map tyC (List.map noT p.types)))]
section
variable {nb q:Nat} {K:V→Prop} {p:Pol}
theorem aek:eU (b0 p) 1 [V.c (C.sl (List.map tyC (List.map noT p.types)))]=b1 p:=rfl
theorem ael:cX (b1 p)=false:=rfl
theorem abK:ldA nb q (b1 p) 0 4 K=(q<nb∧K (.agg (poC (noP p)))):=by
 unfold ldA
 exact propext ⟨fun h=>⟨h.1,h.2.2⟩,fun h=>⟨h.1,⟨rfl,rfl⟩,h.2⟩⟩
theorem abL:ldB nb q (b1 p) 1 K=(q<nb∧K (.c (.sl ((p.types.map noT).map tyC)))):=by
 unfold ldB;rfl
end
theorem abM (f:Int):I64 (OM f):=by
 unfold OM
 rw[pM]
 have h1:=BitVec.toInt_lt (x:=BitVec.ofInt 64 f &&&~~~BitVec.ofInt 64 4)
 have h2:=BitVec.le_toInt (BitVec.ofInt 64 f &&&~~~BitVec.ofInt 64 4)
 exact⟨by omega,by omega⟩
theorem TX {p:Pol} (h:POk (p0 p)):POk (noP p):=⟨by have:=h.t;simpa[noP,p0] using this,au _,h.q,⟨h.i.name,by have:=h.i.lt;simpa[noP,p0] using this,au _,h.i.lq,fun t ht=>by
 obtain⟨u,hu,rfl⟩:=bu.1 ht
 obtain⟨a,b,c⟩:=h.i.types u hu
 exact⟨a,abM _,c⟩,fun _ h=>(by cases h),h.i.quorums⟩⟩
theorem Mc {p:Pol} (t:Int):kw (noP p) t 4=false:=by
 unfold kw
 cases h:vY (noP p).types t with
 |none=>rfl
 |some x=>
  have hx:x∈(noP p).types:=by
   unfold vY at h
   split at h
   ·exact bg h
   ·cases h
  obtain⟨u,hu,rfl⟩:=bu.1 hx
  exact TP u.flags
section
theorem aem {K:V→Prop} (hK:K (.ow none [])):dX Tryz.prog 22 (.ow none []) (.c (.sl [])) K:=by
 unfold dX
 simp only[nw,kM]
 exact⟨⟨by decide,by trivial,by simp,fun x hx=>by cases hx⟩,⟨by decide,by decide,fun x hx=>by cases hx⟩,hK⟩
end
def abN:=jj @aeh (jj @aei (jj @abC (jj @abD (jj @abE (jj @XA (jj @aek (jj @ael (jj @abK @abL))))))))
def YI:=jj @pkA (jj @ptA (jj @Kp.pkP @abN))
def CL:=jj @pkA (jj @ptA @abN)
def Md:=jj @pkA @ptA
def YJ:=jj @pkA (jj @ptA (jj @pkS @HA))
def Me:=jj @pkA (jj @ptA @HA)
def YK:=jj @pkA (jj @ptA @pkS)
theorem TY (p:Pol) (l:List Cl) (hP:Kp.PolIn p) (gv:p.types≠[]):FnOK Tryz.prog glM 6 [.agg (poC p),.c (lP l)] (bo true):=by
 have hz:eU [V.ow none [],.ow none [],.ow none [],.ow none [],i64 0] 0 [V.c (.sl []),.c (.sl []),.c (.sl []),.c (.sl []),i64 0]=(syC sy0).map .c:=rfl
 have few:=Kc (G:=glM) (p0 p) l
 have san:=xw
 have hP0:Kp.PolIn (p0 p):=⟨hP.name,hP.lt,au _,hP.lq,hP.types,fun _ h=>(by cases h),hP.quorums⟩
 refine bP (rs:=[.tmp 4]) false [2000020,2600010] mixed Tryz.func6 rfl rfl rfl rfl (by kernel_rfl) (by simp) rfl rfl ?_
 simp only[YI,seval,lP,ap]
 refine aD («as»:=[.agg (poC (p0 p)),.c (lP l)]) rfl few (by first | exact(fun h=>by cases h) | exact fun _=>rfl) ?_
 cases hf:Go.Proofs.YtegbpjodbjhjeaaGreatDoor.few (p0 p) l.length with
 |false=>
  simp only[pkA,seval]
  refine aD rfl san (by first | exact(fun h=>by cases h) | exact fun _=>rfl) ?_
  simp only[pkA,seval]
 |true=>
  simp only[CL,seval]
  obtain⟨hp0,hl⟩:=ER hP0 hf
  have hn:p.types.length≤8:=hp0.t
  refine abG gv (by omega) ?_
  simp only[Md,seval,ap]
  refine cF (fun i:Nat=>hdS [(1,.c (lP l)),(2,.bp 0 0),(5,.ms 1 0 p.types.length p.types.length 3),(22,i64 p.types.length),(23,i64 i)] [b0 p,flb tyC ((p.types.take i).map noT++p.types.drop i)]) (fun i=>p.types.length - i) (fun i=>i≤p.types.length) 0 (au _) ?_ ?_
  ·refine cj (by simp only[eW,aR,bb,flb,gd,aB,aK];rfl) (au _) (by simp) ?_ ?_
   ·simp[FL,ar,lP]
   ·simp[BL,ar,flb]
  intro i hi R ck cG dn
  simp only[pkA,seval,lP]
  refine aV (fun bF=>?_) (fun ga=>?_)
  ·have bF:i<p.types.length:=by simpa using bF
   have hA:((p.types.take i).map noT).length=i:=by simp;omega
   rw[cE bF]
   simp only[pkA,seval]
   refine GH (a:=0) (k:=i) nw rfl kM rfl (by decide) rfl rfl bF ?_
   rw[ah]
   simp only[Md,seval,gK]
   refine aej (by rw[hA]) (by decide) ?_
   simp only[pkA,seval]
   refine abJ ?_
   simp only[pkA,seval]
   refine GH (a:=0) (k:=i) nw rfl kM rfl (by decide) rfl rfl bF ?_
   rw[ah]
   simp only[Md,seval,gK]
   have hw:=wrap_i64 (i+1) (by omega)
   have e1:(p.types.take (i+1)).map noT++p.types.drop (i+1)=(p.types.take i).map noT++noT p.types[i]::p.types.drop (i+1):=by
    rw[aU bF,dG,bU];rfl
   refine⟨by rw[flb_tyl,ax,aB,hA];omega,?_⟩
   rw[show i*3+1=((p.types.take i).map noT).length*3+1 by rw[hA],abI]
   refine ck (i+1) _ bF (by omega) (cj (by simp only[eW,aR,bb,flb,gd,aB,aK];rfl) (au _) (by simp) ?_ ?_)
   ·simp[FL,ar,lP,hw]
   ·rw[e1];simp[BL,ar,bxs,noT,OM]
  ·have:i=p.types.length:=by simp at ga;omega
   subst this
   rw[dM (ae _),i7,eA]
   simp only[pkA]
   refine cG _ _ ?_
   simp only[pkA,seval]
   clear ck dn cG
   clear R
   refine X7 (l:=[(1,.c (lP l)),(2,.bp 0 0),(5,.c (.sl ((p.types.map noT).map tyC)))]) (bl:=[b0 p]) rfl (au _) (ab rfl) ⟨.inl (by simp[ar,lP]),.inl (by simp[ar]),.inr ⟨1,0,p.types.length,p.types.length,3,_,by simp[ar],ab rfl,GG Kp.yX (by decide) rfl (by simp),rfl⟩,trivial⟩ ⟨yW _,trivial⟩ ?_
   have Mh:=TX hp0
   have hR:=EN Mh l (by omega)
   have dI:=v7 Mh.t l sy0 0 JV
   have E7:=L2 Mh.t rfl Mc l
   generalize hrr:mE (noP p) sy0 0 l=rr at *
   obtain⟨s,n,e⟩:=rr
   simp only at hR dI E7
   simp only[CL,seval,lP]
   refine aD rfl hR (by first | exact(fun h=>by cases h) | exact fun _=>rfl) ?_
   simp only[YJ,seval]
   refine cF (fun k:Nat=>hdS [(2,.bp 0 0),(7,.bp 1 0),(10,i64 k)] [b1 p,(syC s).map .c]) (fun k=>p.types.length+1 - k) (fun k=>k≤p.types.length+1) 1 (Nat.le_add_left _ _) ?_ ?_
   ·refine cj rfl (au _) (by simp) ?_ ?_
    ·simp[FL,ar]
    ·simp[BL,ar]
   intro k hk R ck cG dn
   simp only[CL,seval,ap]
   refine aV (fun bF=>?_) (fun ga=>?_)
   ·have bF:k≤p.types.length:=by simp at bF;omega
    have hr:=rc dI k
    rw[(tJ dI E7 k).1] at hr
    have lG:=Ka dI k
    rw[(tJ dI E7 k).2] at lG
    have hw:=wrap_i64 (k+1) (by omega)
    simp only[Me,seval]
    refine aD rfl hr (by first | exact(fun h=>by cases h) | exact fun _=>rfl) ?_
    simp only[Me,seval]
    refine aD rfl lG (by first | exact(fun h=>by cases h) | exact fun _=>rfl) ?_
    simp only[pkA,seval]
    refine ck (k+1) _ (by omega) (by omega) (cj rfl (au _) (by simp) ?_ ?_)
    ·simp[FL,ar,hw]
    ·simp[BL,bxs]
   ·simp only[pkA]
    refine cG _ _ ?_
    simp only[pkA,seval]
    refine aD rfl san (by first | exact(fun h=>by cases h) | exact fun _=>rfl) ?_
    have wG:s.rs=[]:=E7.rs
    have AP:(tsC s.rs)=.sl []:=by rw[wG];rfl
    simp only[YK,seval,AP]
    rfl
theorem TZ (p:Pol) (l:List Cl) (hP:Kp.PolIn p) (gv:p.types=[]):FnOK Tryz.prog glM 6 [.agg (poC p),.c (lP l)] (bo true):=by
 have hz:eU [V.ow none [],.ow none [],.ow none [],.ow none [],i64 0] 0 [V.c (.sl []),.c (.sl []),.c (.sl []),.c (.sl []),i64 0]=(syC sy0).map .c:=rfl
 have few:=Kc (G:=glM) (p0 p) l
 have san:=xw
 have hP0:Kp.PolIn (p0 p):=⟨hP.name,hP.lt,au _,hP.lq,hP.types,fun _ h=>(by cases h),hP.quorums⟩
 refine bP (rs:=[.tmp 4]) false [] mixed Tryz.func6 rfl rfl rfl rfl (by kernel_rfl) (by simp) rfl rfl ?_
 simp only[YI,seval,lP,ap]
 refine aD («as»:=[.agg (poC (p0 p)),.c (lP l)]) rfl few (by first | exact(fun h=>by cases h) | exact fun _=>rfl) ?_
 cases hf:Go.Proofs.YtegbpjodbjhjeaaGreatDoor.few (p0 p) l.length with
 |false=>
  simp only[pkA,seval]
  refine aD rfl san (by first | exact(fun h=>by cases h) | exact fun _=>rfl) ?_
  simp only[pkA,seval]
 |true=>
  simp only[CL,seval]
  obtain⟨hp0,hl⟩:=ER hP0 hf
  have hn:p.types.length≤8:=hp0.t
  have hny:(C.sl (p.types.map tyC))=.sl []:=by rw[gv];rfl
  rw[hny]
  refine aem ?_
  simp only[Md,seval]
  refine cF (fun i:Nat=>hdS [(1,.c (lP l)),(2,.bp 0 0),(5,.ow none []),(22,i64 0),(23,i64 0)] [b0 p]) (fun i=>0) (fun i=>True) 0 trivial ?_ ?_
  ·refine cj rfl (au _) (by simp) ?_ ?_
   ·simp[FL,ar,lP]
   ·simp[BL]
  ·intro i _ R ck cG dn
   simp only[pkA,seval,lP]
   refine aV (fun h=>absurd h (by decide)) (fun _=>?_)
   simp only[pkA]
   refine cG _ _ ?_
   simp only[CL,seval]
   clear ck dn cG
   clear R
   have hb:eU (b0 p) 1 [V.c (C.sl [])]=b1 p:=by unfold b1;rw[gv];rfl
   rw[hb]
   have Mh:=TX hp0
   have hR:=EN Mh l (by omega)
   have dI:=v7 Mh.t l sy0 0 JV
   have E7:=L2 Mh.t rfl Mc l
   generalize hrr:mE (noP p) sy0 0 l=rr at *
   obtain⟨s,n,e⟩:=rr
   simp only at hR dI E7
   simp only[pkA,abN,seval]
   refine aD rfl hR (by first | exact(fun h=>by cases h) | exact fun _=>rfl) ?_
   simp only[YJ,seval]
   refine cF (fun k:Nat=>hdS [(2,.bp 0 0),(7,.bp 1 0),(10,i64 k)] [b1 p,(syC s).map .c]) (fun k=>p.types.length+1 - k) (fun k=>k≤p.types.length+1) 1 (Nat.le_add_left _ _) ?_ ?_
   ·refine cj rfl (au _) (by simp) ?_ ?_
    ·simp[FL,ar]
    ·simp[BL,ar]
   intro k hk R ck cG dn
   simp only[CL,seval,ap]
   refine aV (fun bF=>?_) (fun ga=>?_)
   ·have bF:k≤p.types.length:=by simp at bF;omega
    have hr:=rc dI k
    rw[(tJ dI E7 k).1] at hr
    have lG:=Ka dI k
    rw[(tJ dI E7 k).2] at lG
    have hw:=wrap_i64 (k+1) (by omega)
    simp only[Me,seval]
    refine aD rfl hr (by first | exact(fun h=>by cases h) | exact fun _=>rfl) ?_
    simp only[Me,seval]
    refine aD rfl lG (by first | exact(fun h=>by cases h) | exact fun _=>rfl) ?_
    simp only[pkA,seval]
    refine ck (k+1) _ (by omega) (by omega) (cj rfl (au _) (by simp) ?_ ?_)
    ·simp[FL,ar,hw]
    ·simp[BL,bxs]
   ·simp only[pkA]
    refine cG _ _ ?_
    simp only[pkA,seval]
    refine aD rfl san (by first | exact(fun h=>by cases h) | exact fun _=>rfl) ?_
    have wG:s.rs=[]:=E7.rs
    have AP:(tsC s.rs)=.sl []:=by rw[wG];rfl
    simp only[YK,seval,AP]
    rfl
theorem OP (p:Pol) (l:List Cl) (hP:Kp.PolIn p):FnOK Tryz.prog glM 6 [.agg (poC p),.c (lP l)] (bo true):=by
 by_cases h:p.types=[]
 ·exact TZ p l hP h
 ·exact TY p l hP h
