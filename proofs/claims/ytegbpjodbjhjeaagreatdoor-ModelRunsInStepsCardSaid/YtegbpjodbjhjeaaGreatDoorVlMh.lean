/- Layer 16: Facts. -/
import Derived.Test.YtegbpjodbjhjeaaGreatDoorVlMg
set_option linter.all false
namespace Go.Proofs.YtegbpjodbjhjeaaGreatDoor
open Go Go.Vl
open Kp (Pol Ty Ru Qu poC tyC ruC quC)
variable {G:Gl}
set_option maxRecDepth 10000
theorem FnOK.toB {P:Program} {G:Gl} {f:FuncId} {args:List V} {r:V} (h:FnOK P G f args r) (ha:args.all (fun x=>match x with | .c _=>true | .agg _=>true | _=>false)=true):FnB P G f args [] r []:=by
 rw[aU] at ha
 refine⟨h.1,⟨fun x hx=>?_,fun b hb=>(by cases hb),ae _⟩,fun I M w vs β ob hI hg hB hs hv=>(h.2 I w vs hI hg hs (fun j x hx=>?_)).mono ?_⟩
 ·have:=ha x hx
  cases x<;>first | trivial | cases this
 ·have h1:=ha x (bb hx)
  have h2:=hv j x hx
  cases x<;>first | exact h2 | cases h1
 ·rintro e w' ⟨v,I',h1,h2,h3,h4,o,h5,h6⟩
  refine⟨v,I',fun _=>none,fun _ _=>none,o,h1,⟨h2.os,h2.tape,h2.output,h2.size,fun k hk _=>h2.block k hk (by simp),h2.drawn⟩,h3,fun b o hbo=>(h4 b o hbo).imp id fun h=>⟨.inl h.1,h.2⟩,fun b o hbo=>?_,fun i hi=>(by cases hi),fun i b _ hb=>(by cases hb),
   ⟨fun i cs hcs=>by simp at hcs,fun _ _=>rfl,fun _ _ _ h=>(by cases h),fun _ _ _ _ _ h=>(by cases h),fun _ _ _ _ h=>(by cases h),fun _ _ _ h=>(by cases h),fun _ _ _=>rfl⟩,h5.wider fun b hb=>.inl (h6 b hb).1,fun b hb=>⟨⟨(h6 b hb).2,.inl (h6 b hb).1⟩,fun _ _ h=>(by cases h),fun _ h=>(by cases h)⟩⟩
  have hb:=hI b o hbo
  exact dq (h2.block b hb (by simp))
theorem YA {P:Program} {G:Gl} {s:Vl.S} {T e:TypeId} {i j:TI} {sz:Nat} {E:Option (TypeId×Nat)} {es:List (List C)} {K:V→Prop} {t d:Nat} {y:Operand} {y1:List C} {by_:Nat} {z:List C} (hT:ti P T=some i) (hk:i.kd=.slice e) (hE:ti P e=some j) (hs:j.size=sz) (hb:j.bytes=by_) (hz:j.zero=some z) (hp:0<sz) (hzl:z.length=sz) (h1:s.fr t=.gs none E es)
 (h0:t≠d∧y≠.tmp t) (hy:(vw s (ev G s y)).fz=.c (.sl [y1])) (hEE:E=none∨E=some (e,sz)) (hes:∀ x∈es,x.length=sz) (hy1:y1.length=sz) (hm:(es.length+1)*by_≤140737488355328) (hm2:es.length+1≤9223372036854775807)
 (hK:K (.gs none (some (e,sz)) (es++[y1]))):iQ P G s (some d) [T,T] [.tmp t,y] K:=by
 obtain⟨kd',a1,a2,a3,a4,a5,a6⟩:=i;simp only at hk;subst hk
 obtain⟨b0,b1,b2,b3,b4,b5,b6⟩:=j;simp only at hs hb hz;subst hs;subst hb;subst hz
 unfold iQ
 simp only[h1]
 refine⟨h0,?_⟩
 rw[hy]
 simp only[ln,hT,hE]
 exact⟨trivial,⟨hp,hzl,hEE,hes⟩,⟨hm,hm2,hy1⟩,hK⟩
def gsF (L:List Fa):V:=.gs none (if L.isEmpty=true then none else some (62,3)) (L.map faC)
theorem kq {L:List Fa}:(gsF L).isOw=true:=rfl
theorem PT {L:List Fa} {f:Fa}:V.gs none (some (62,3)) (L.map faC++[faC f])=gsF (L++[f]):=by
 unfold gsF
 rw[if_neg (by simp)];simp
def nq (s:Sy) (h:Hd):Fa:=⟨1,oa s h.va,h.ty⟩
def PU (t:Tm):Bool:=decide (t.kind=3)&&(ey (t.l.getD 0 kC)&&ey (t.l.getD 1 kC))
def kE (s:Sy) (t:Tm):List Fa:=if PU t=true then[⟨2,oa s (t.l.getD 0 kC),oa s (t.l.getD 1 kC)⟩] else[]
def lO (s:Sy) (o:Hd):List Fa:=(if knS s o.va=true then[⟨3,o.ty+1,0⟩] else[])++(if s.rs.any (fun t=>decide (t=o.va))=true then[⟨4,o.ty+1,0⟩] else[])
def Bz (s:Sy):List Fa:=s.hs.map (nq s)++((eb s.its).flatMap (kE s)++s.os.flatMap (lO s))
def nr (s:Sy):List Fa:=nO (Bz s)
theorem PV {fr:Nat→V} {bx:Nat→List V} {nb:Nat} {o:Hd} {K:V→Prop}:cy Tryz.prog 47 ⟨fr,bx,nb⟩ (.c (.rp (hdC o) 1)) K=K (.agg (tmC o.va)):=by
 simp only[cy,dc]
 exact UY
def uS:=jj @pkA (jj @ptA @pkT)
theorem KC (t:Tm) (o:Hd) (ht:bu t≤1000000000) (ho:bu o.va≤1000000000):FnOK Tryz.prog G 51 [.agg (tmC t),.c (.rp (hdC o) 0)] (bo (decide (t=o.va))):=by
 refine bP (rs:=[.tmp 3]) false [] mixed Tryz.func51 rfl rfl rfl rfl (by kernel_rfl) (by simp) rfl rfl ?_
 simp -implicitDefEqProofs only[uS,seval,PV]
 refine aD («as»:=[.agg (tmC t),.agg (tmC o.va)]) rfl (qG t o.va ht ho) (fun _=>rfl) ?_
 simp -implicitDefEqProofs only[pkA,seval]
theorem HQ {P:Program} {G:Gl} {s:Vl.S} {f:V} {args all cargs:List V} {g:FuncId} {K:Vl.S→V→Prop} {r:V} {c0 c1:List C} (q:Nat) (hc:dS f args=some (g,all)) (hf:FnB P G g cargs [c0.map .c] r [c1.map .c])
 (hall:all.map V.fz=cargs.map (V.ren (rho [q] s.nb))) (hq:q<s.nb) (hb:s.bx q=c0.map .c) (hK:K ⟨s.fr,up s.bx q (c1.map .c),s.nb⟩ (r.ren (rho [q] s.nb))):vcallB P G s f args K:=by
 have hm:∀ (ρ:Nat→Nat) (l:List C),(l.map V.c).map (V.ren ρ)=l.map .c:=fun ρ l=>by
  rw[fM];rfl
 have h0:rho [q] s.nb 0=q:=rfl
 unfold vcallB ja
 simp only[hc]
 refine⟨[q],cargs,[c0.map .c],r,[c1.map .c],hf,hall,⟨rfl,by simp⟩,⟨⟨by rw[h0];exact hq,by rw[h0,hm];exact hb⟩,trivial⟩,?_⟩
 have e:eO (rho [q] s.nb) 0 [c1.map .c] s.bx=up s.bx q (c1.map .c):=by
  simp only[eO,hm,h0]
 rw[e]
 exact hK
theorem Ed {c:Prop} [Decidable c] {A B:Prop} (hc:c) (h:A):(if c then A else B):=by rw[if_pos hc];exact h
theorem td {s:Vl.S} {L:List Fa} {f:Fa} {t d:Nat} {y:Operand} {K:V→Prop} (h1:s.fr t=gsF L) (h0:t≠d∧y≠.tmp t) (hy:(vw s (ev G s y)).fz=.c (.sl [faC f])) (hl:L.length≤1000000) (hK:K (gsF (L++[f]))) :
 iQ Tryz.prog G s (some d) [43,43] [.tmp t,y] K:=by
 refine YA (E:=if L.isEmpty=true then none else some (62,3)) (es:=L.map faC) (y1:=faC f) (sz:=3) (by_:=24) lv rfl iY rfl rfl rfl (by decide) rfl h1 h0 hy ?_ (fun x hx=>by obtain⟨y,_,rfl⟩:=bF.1 hx;exact iZ y) (iZ f) (by rw[ap];omega) (by rw[ap];omega) ?_
 ·split
  ·exact .inl rfl
  ·exact .inr rfl
 ·rw[PT];exact hK
theorem nu {α β:Type} {f:α→List β} {b:Nat}:∀ {l:List α},(∀ x∈l,(f x).length≤b)→(l.flatMap f).length≤l.length*b
 |[],_=>by simp
 |x::l,h=>by
  rw[List.flatMap_cons,aw,aC,dh]
  have h1:=h x (aR ..)
  have h2:=nu (l:=l) fun y hy=>h y (aN _ hy)
  omega
def Ee:=jj @pkA (jj @ptA @pkS)
def U9:=jj @pkA (jj @ptA (jj @pkH @pkS))
def HS:=jj @pkA (jj @ptA @pkH)
def Va:=jj @pkA @ptA
def Vb:=jj @pkA (jj @ptA (jj @pkT @pkS))
set_option maxHeartbeats 4000000 in
theorem tf {s:Sy} (hS:SyOk s):FnOK Tryz.prog glM 18 [.agg (syC s)] (.c (fsC (nr s))):=by
 have hCl:FnOK Tryz.prog glM 47 [.c (tsC s.its)] (.c (tsC (eb s.its))):=upM (O7 s.its (fun t ht=>(hS.iv t ht).1) (by have:=sZ hS;omega))
 have hn:=hS.hn
 have hcv:∀ h∈s.hs,FnOK Tryz.prog glM 24 [.agg (syC s),.agg (tmC h.va)] (i64 (oa s h.va)):=fun h hh=>oG hS _ (hS.hv h hh).1 (bU (hS.hv h hh).2.1 (by decide))
 refine bP (rs:=[.tmp 2]) true [17,53,82,93,2400026,2400068,2400088,2400099,2300002,2300021,1000102,1000104] mixed Tryz.func18 rfl rfl rfl rfl (by kernel_rfl) (by simp) rfl rfl ?_
 simp -implicitDefEqProofs only[pkA,seval]
 refine ET rfl (.warmT 3 (by simp[]) (.done ?_))
 simp -implicitDefEqProofs only[Ee,seval,hsC,ap]
 refine cZ (fun i:Nat=>hdS [(1,.bp 0 0),(3,gsF ((s.hs.map (nq s)).take i)),(11,.c (.sl (s.hs.map hdC))),(12,i64 s.hs.length),(13,i64 i)] [(syC s).map .c]) (fun i=>s.hs.length - i) (fun i=>i≤s.hs.length) 0 (aA _) ?_ ?_
 ·refine cR rfl (aA _) (by simp) ?_ ?_
  ·simp[FL,ar,gsF]
  ·simp[BL]
 ·intro i hi R hnorm hexit hret
  simp -implicitDefEqProofs only[pkA,seval]
  refine aZ (fun hlt=>?_) (fun hge=>?_)
  ·have hlt:i<s.hs.length:=by simpa using hlt
   simp -implicitDefEqProofs only[pkA,seval]
   refine dL kO rfl jD (by decide) (aM i) (c:=hdC s.hs[i]) (by simp[hlt]) (fK _) ?_
   simp -implicitDefEqProofs only[U9,seval,kq,fK]
   refine aD rfl (hcv _ (aL hlt)) (fun _=>rfl) ?_
   simp -implicitDefEqProofs only[HS,seval]
   refine Ed rfl ?_
   refine td (L:=(s.hs.map (nq s)).take i) (f:=nq s s.hs[i]) (by simp[ar]) ⟨by decide,by simp⟩ rfl (by rw[aW,ap];omega) ?_
   simp -implicitDefEqProofs only[pkA,seval,kq]
   have hw:=wrap_i64 (i+1) (by omega)
   refine hnorm (i+1) _ hlt (by omega) (cR rfl (aA _) (by simp) ?_ ?_)
   ·have e:(s.hs.map (nq s)).take (i+1)=(s.hs.map (nq s)).take i++[nq s s.hs[i]]:=by rw[bg (by simpa using hlt)];simp
    simp[FL,ar,hw,e]
   ·simp[BL,ar,bxs]
  ·have:i=s.hs.length:=by simp at hge;omega
   subst this
   rw[dY (by simp)]
   simp -implicitDefEqProofs only[pkA]
   refine hexit _ _ ?_
   simp -implicitDefEqProofs only[Ee,seval]
   refine aD rfl hCl (fun h=>(by cases h)) ?_
   simp -implicitDefEqProofs only[pkA,seval]
   clear hnorm hret hexit
   clear R
   have hCs:=yW (fun t ht=>(hS.iv t ht).1) (kR fun t ht=>(hS.iv t ht).1).1.st (kR fun t ht=>(hS.iv t ht).1).1.kn
   have hcl:=hCs.1
   have h10:=sZ hS
   simp -implicitDefEqProofs only[Va,seval,tsC,ap]
   refine cZ (fun i:Nat=>hdS [(1,.bp 0 0),(3,gsF (s.hs.map (nq s)++((eb s.its).take i).flatMap (kE s))),(30,.c (.sl ((eb s.its).map tmC))),(31,i64 (eb s.its).length),(32,i64 i)] [(syC s).map .c]) (fun i=>(eb s.its).length - i) (fun i=>i≤(eb s.its).length) 0 (aA _) ?_ ?_
   ·refine cR rfl (aA _) (by simp) ?_ ?_
    ·simp[FL,ar]
    ·simp[BL,bxs]
   ·intro i hi R hnorm hexit hret
    simp -implicitDefEqProofs only[pkA,seval]
    refine aZ (fun hlt=>?_) (fun hge=>?_)
    ·have hlt:i<(eb s.its).length:=by simpa using hlt
     have hm:(eb s.its)[i]∈eb s.its:=aL hlt
     have hvt:=hCs.2.2.1 _ hm
     have hst:=hCs.2.2.2 _ hm
     have e:((eb s.its).take (i+1)).flatMap (kE s)=((eb s.its).take i).flatMap (kE s)++kE s (eb s.its)[i]:=by rw[bg hlt,List.flatMap_append];simp
     have hlen:(((eb s.its).take i).flatMap (kE s)).length≤10000:=by
      have:=nu (l:=(eb s.its).take i) (f:=kE s) (b:=1) (fun t _=>by unfold kE;split<;>simp)
      rw[aW] at this;omega
     have hw:=wrap_i64 (i+1) (by omega)
     simp -implicitDefEqProofs only[pkA,seval]
     refine dL dm rfl dc (by decide) (aM i) (c:=tmC (eb s.its)[i]) (by simp[hlt]) (b8 _) ?_
     generalize (eb s.its)[i]=t at hm hvt hst e ⊢
     simp -implicitDefEqProofs only[uS,seval]
     by_cases hk:t.kind=3
     ·obtain⟨a,b,hab⟩:=HE hvt (.inl hk)
      have hva:bR a=true∧bu a≤1000000000:=by
       obtain⟨k,n,l⟩:=t
       simp only[Tm.l] at hab;subst hab
       exact⟨(nk hvt).1,by simp only[bu,cH] at hst;omega⟩
      have hvb:bR b=true∧bu b≤1000000000:=by
       obtain⟨k,n,l⟩:=t
       simp only[Tm.l] at hab;subst hab
       exact⟨(nk hvt).2.1,by simp only[bu,cH] at hst;omega⟩
      have ia0:∀ K,K (.c (.rp (tmC a) 0))→cw Tryz.prog 33 (.c (.sl (t.l.map tmC))) (i64 0) K:=fun K hK=>
       dL dm rfl dc (by decide) (Int.le_refl 0) (c:=tmC a) (by rw[hab];rfl) (b8 _) hK
      have ia1:∀ K,K (.c (.rp (tmC b) 0))→cw Tryz.prog 33 (.c (.sl (t.l.map tmC))) (i64 1) K:=fun K hK=>
       dL dm rfl dc (by decide) (by decide) (c:=tmC b) (by rw[hab];rfl) (b8 _) hK
      have hisl:PU t=(ey a&&ey b):=by unfold PU;rw[hk,hab];simp
      simp -implicitDefEqProofs only[uS,seval,tsC,hk,ai]
      refine ia0 _ ?_
      simp -implicitDefEqProofs only[uS,seval]
      refine aD rfl (sN a) (fun _=>rfl) ?_
      cases hka:ey a with
      |false=>
       simp -implicitDefEqProofs only[pkA,seval]
       refine hnorm (i+1) _ hlt (by omega) (cR rfl (aA _) (by simp) ?_ ?_)
       ·have e':kE s t=[]:=by unfold kE;rw[if_neg (by rw[hisl,hka];simp)]
        simp[FL,ar,hw,e,e']
       ·simp[BL,ar,bxs]
      |true=>
       simp -implicitDefEqProofs only[uS,seval,tsC,ai]
       refine ia1 _ ?_
       simp -implicitDefEqProofs only[uS,seval]
       refine aD rfl (sN b) (fun _=>rfl) ?_
       cases hkb:ey b with
       |false=>
        simp -implicitDefEqProofs only[pkA,seval]
        refine hnorm (i+1) _ hlt (by omega) (cR rfl (aA _) (by simp) ?_ ?_)
        ·have e':kE s t=[]:=by unfold kE;rw[if_neg (by rw[hisl,hka,hkb];simp)]
         simp[FL,ar,hw,e,e']
        ·simp[BL,ar,bxs]
       |true=>
        simp -implicitDefEqProofs only[Vb,seval,kq,tsC,ai]
        refine ia0 _ ?_
        simp -implicitDefEqProofs only[uS,seval]
        refine aD rfl (oG hS a hva.1 hva.2) (fun _=>rfl) ?_
        simp -implicitDefEqProofs only[Vb,seval,tsC,ai]
        refine ia1 _ ?_
        simp -implicitDefEqProofs only[uS,seval]
        refine aD rfl (oG hS b hvb.1 hvb.2) (fun _=>rfl) ?_
        simp -implicitDefEqProofs only[Va,seval]
        refine Ed rfl ?_
        refine td (L:=s.hs.map (nq s)++((eb s.its).take i).flatMap (kE s)) (f:=⟨2,oa s a,oa s b⟩) (by simp[ar]) ⟨by decide,by simp⟩ rfl (by rw[aw,ap];omega) ?_
        simp -implicitDefEqProofs only[pkA,seval,kq]
        refine hnorm (i+1) _ hlt (by omega) (cR rfl (aA _) (by simp) ?_ ?_)
        ·have e':kE s t=[⟨2,oa s a,oa s b⟩]:=by unfold kE;rw[if_pos (by rw[hisl,hka,hkb];rfl),hab];rfl
         simp[FL,ar,hw,e,e']
        ·simp[BL,ar,bxs]
     ·have hisl:PU t=false:=by unfold PU;simp[hk]
      simp -implicitDefEqProofs only[pkA,seval,bE,hk]
      refine hnorm (i+1) _ hlt (by omega) (cR rfl (aA _) (by simp) ?_ ?_)
      ·have e':kE s t=[]:=by unfold kE;rw[if_neg (by rw[hisl];simp)]
       simp[FL,ar,hw,e,e']
      ·simp[BL,ar,bxs]
    ·have:i=(eb s.its).length:=by simp at hge;omega
     subst this
     rw[dY (ae _)]
     simp -implicitDefEqProofs only[pkA]
     refine hexit _ _ ?_
     simp -implicitDefEqProofs only[Ee,seval,hsC,ap,ai,ap]
     clear hnorm hret hexit
     clear R
     have hos:s.os.length≤100:=by have:=hS.on;omega
     have hrs:s.rs.length≤100:=by have:=hS.rn;omega
     have hl2:((eb s.its).flatMap (kE s)).length≤10000:=by
      have:=nu (l:=eb s.its) (f:=kE s) (b:=1) (fun t _=>by unfold kE;split<;>simp)
      omega
     refine cZ (fun i:Nat=>hdS [(1,.bp 0 0),(3,gsF (s.hs.map (nq s)++((eb s.its).flatMap (kE s)++(s.os.take i).flatMap (lO s)))),(71,.c (.sl (s.os.map hdC))),(72,i64 s.os.length),(73,i64 i)] [(syC s).map .c]) (fun i=>s.os.length - i) (fun i=>i≤s.os.length) 0 (aA _) ?_ ?_
     ·refine cR rfl (aA _) (by simp) ?_ ?_
      ·simp[FL,ar]
      ·simp[BL,bxs]
     ·intro i hi R hnorm hexit hret
      simp -implicitDefEqProofs only[pkA,seval]
      refine aZ (fun hlt=>?_) (fun hge=>?_)
      ·have hlt:i<s.os.length:=by simpa using hlt
       have hv:=hS.hv _ (hS.ov _ (aL hlt))
       have e:(s.os.take (i+1)).flatMap (lO s)=(s.os.take i).flatMap (lO s)++lO s s.os[i]:=by rw[bg hlt,List.flatMap_append];simp
       have hlen:((s.os.take i).flatMap (lO s)).length≤200:=by
        have:=nu (l:=s.os.take i) (f:=lO s) (b:=2) (fun t _=>by unfold lO;split<;>split<;>simp)
        rw[aW] at this;omega
       have hw:=wrap_i64 (i+1) (by omega)
       have hwo:IntKind.i64.wrap (s.os[i].ty+1)=s.os[i].ty+1:=wrap_i64 _ (by omega)
       have hCF:=vj (G:=glM) (caps:=[.rp (hdC s.os[i]) 0]) s.rs (by omega) 51 (fun t=>decide (t=s.os[i].va)) (fun t ht=>KC t s.os[i] (bU (hS.rv t ht).2 (by decide)) (bU hv.2.1 (by decide)))
       simp -implicitDefEqProofs only[pkA,seval]
       refine dL kO rfl jD (by decide) (aM i) (c:=hdC s.os[i]) (by simp[hlt]) (fK _) ?_
       simp -implicitDefEqProofs only[U9,seval,fK,tsC]
       refine aD rfl (vu hS _ hv.1 (bU hv.2.1 (by decide))) (fun _=>rfl) ?_
       cases hkn:knS s s.os[i].va with
       |false=>
        simp -implicitDefEqProofs only[Ee,seval,tsC,ai]
        refine aD («as»:=[.c (.sl (s.rs.map tmC)),.c (.fn (.func 51) [] [.rp (hdC s.os[i]) 0])]) rfl hCF (fun _=>rfl) ?_
        cases hrw:s.rs.any (fun t=>decide (t=s.os[i].va)) with
        |false=>
         simp -implicitDefEqProofs only[pkA,seval]
         refine hnorm (i+1) _ hlt (by omega) (cR rfl (aA _) (by simp) ?_ ?_)
         ·simp[FL,ar,hw,e,lO,hkn,hrw]
         ·simp[BL,ar,bxs]
        |true=>
         simp -implicitDefEqProofs only[HS,seval,kq,hwo,ai]
         refine Ed rfl ?_
         refine td (L:=s.hs.map (nq s)++((eb s.its).flatMap (kE s)++(s.os.take i).flatMap (lO s))) (f:=⟨4,s.os[i].ty+1,0⟩) (by simp[ar]) ⟨by decide,by simp⟩ rfl (by simp only[aw,ap];omega) ?_
         simp -implicitDefEqProofs only[pkA,seval,kq]
         refine hnorm (i+1) _ hlt (by omega) (cR rfl (aA _) (by simp) ?_ ?_)
         ·simp[FL,ar,hw,e,lO,hkn,hrw]
         ·simp[BL,ar,bxs]
       |true=>
        simp -implicitDefEqProofs only[HS,seval,kq,hwo,ai]
        refine Ed rfl ?_
        refine td (L:=s.hs.map (nq s)++((eb s.its).flatMap (kE s)++(s.os.take i).flatMap (lO s))) (f:=⟨3,s.os[i].ty+1,0⟩) (by simp[ar]) ⟨by decide,by simp⟩ rfl (by simp only[aw,ap];omega) ?_
        simp -implicitDefEqProofs only[Ee,seval,kq,tsC,ai]
        refine aD («as»:=[.c (.sl (s.rs.map tmC)),.c (.fn (.func 51) [] [.rp (hdC s.os[i]) 0])]) rfl hCF (fun _=>rfl) ?_
        cases hrw:s.rs.any (fun t=>decide (t=s.os[i].va)) with
        |false=>
         simp -implicitDefEqProofs only[pkA,seval]
         refine hnorm (i+1) _ hlt (by omega) (cR rfl (aA _) (by simp) ?_ ?_)
         ·simp[FL,ar,hw,e,lO,hkn,hrw]
         ·simp[BL,ar,bxs]
        |true=>
         simp -implicitDefEqProofs only[HS,seval,kq,hwo,ai]
         refine Ed rfl ?_
         refine td (L:=(s.hs.map (nq s)++((eb s.its).flatMap (kE s)++(s.os.take i).flatMap (lO s)))++[⟨3,s.os[i].ty+1,0⟩]) (f:=⟨4,s.os[i].ty+1,0⟩) (by simp[ar]) ⟨by decide,by simp⟩ rfl (by simp only[aw,ap,aC,aJ];omega) ?_
         simp -implicitDefEqProofs only[pkA,seval,kq]
         refine hnorm (i+1) _ hlt (by omega) (cR rfl (aA _) (by simp) ?_ ?_)
         ·simp[FL,ar,hw,e,lO,hkn,hrw]
         ·simp[BL,ar,bxs]
      ·have:i=s.os.length:=by simp at hge;omega
       subst this
       rw[dY (ae _)]
       simp -implicitDefEqProofs only[pkA]
       refine hexit _ _ ?_
       simp -implicitDefEqProofs only[pkA,seval]
       have hsl:(Bz s).length≤20000:=by
        have h3:=nu (l:=s.os) (f:=lO s) (b:=2) (fun t _=>by unfold lO;split<;>split<;>simp)
        unfold Bz
        simp only[aw,ap];omega
       unfold nr
       have hsrc:s.hs.map (nq s)++((eb s.its).flatMap (kE s)++s.os.flatMap (lO s))=Bz s:=rfl
       rw[hsrc]
       generalize Bz s=L at hsl
       by_cases hL:L=[]
       ·subst hL
        refine ET rfl (.coolT (g:=none) (E:=none) (es:=[]) 3 rfl (.done ?_))
        simp -implicitDefEqProofs only[pkA,seval]
        refine tV rfl (FnOK.toB KB rfl) rfl ?_
        simp -implicitDefEqProofs only[pkA,seval,eO,dn,V.ren]
        refine tV rfl (FnOK.toB Ea rfl) rfl ?_
        simp -implicitDefEqProofs only[pkA,seval,eO,dn,V.ren]
        have h0:nO []=[]:=by simp[nO,mH,gu,cpk]
        rw[GN,h0];rfl
       ·have hie:L.isEmpty=false:=by simpa using hL
        refine ET rfl (.boxT (g:=none) (e:=62) (sz:=3) (es:=L.map faC) 3 (by show gsF L=_;unfold gsF;rw[hie];rfl) (.done ?_))
        have hfl:(L.map faC).flatten.map V.c=flb faC L:=rfl
        simp -implicitDefEqProofs only[pkA,seval,ap,hfl]
        refine HQ (c0:=(L.map faC).flatten) (c1:=((mH L).map faC).flatten) 1 rfl (PQ D8 L (by omega) L.length (ae _)) rfl (ab rfl) rfl ?_
        simp -implicitDefEqProofs only[pkA,seval,V.ren]
        have hC:=Gu (G:=glM) (mH L) L.length (by rw[oI];exact ae _) (by rw[oI];omega)
        rw[oI] at hC
        refine HQ (c0:=((mH L).map faC).flatten) (c1:=((gu (mH L)++List.replicate (L.length - (gu (mH L)).length) zf).map faC).flatten) 1 rfl hC rfl (ab rfl) rfl ?_
        simp -implicitDefEqProofs only[pkA,seval,V.ren,GN]
        show Option.map V.c (kF _ _ _ _ _)=some _
        rw[JI (c:=faC) (l:=gu (mH L)++List.replicate (L.length - (gu (mH L)).length) zf) (a:=0) iZ (ab rfl) (by rfl) rfl (by simp)]
        simp only[ei,List.take_left]
        rfl
