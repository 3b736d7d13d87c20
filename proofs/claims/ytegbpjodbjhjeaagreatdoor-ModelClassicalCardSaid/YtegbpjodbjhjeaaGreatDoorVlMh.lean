/- Layer 16: Facts. -/
import Derived.Test.YtegbpjodbjhjeaaGreatDoorVlMg
set_option linter.all false
namespace Go.Proofs.YtegbpjodbjhjeaaGreatDoor
open Go Go.Vl
open Kp (Pol Ty Ru Qu poC tyC ruC quC)
variable {G:Gl}
set_option maxRecDepth 10000
theorem FnOK.toB {P:Program} {G:Gl} {f:FuncId} {args:List V} {r:V} (h:FnOK P G f args r) (ha:args.all (fun x=>match x with | .c _=>true | .agg _=>true | _=>false)=true):FnB P G f args [] r []:=by
 rw[aU] at ha
 refine⟨h.1,⟨fun x hx=>?_,fun b hb=>(by cases hb),ae _⟩,fun I M w vs β ob hI hg hB hs hv=>(h.2 I w vs hI hg hs (fun j x hx=>?_)).mono ?_⟩
 ·have:=ha x hx
  cases x<;>first | trivial | cases this
 ·have h1:=ha x (bh hx)
  have h2:=hv j x hx
  cases x<;>first | exact h2 | cases h1
 ·rintro e w' ⟨v,I',h1,h2,h3,h4,o,h5,h6⟩
  refine⟨v,I',fun _=>none,fun _ _=>none,o,h1,⟨h2.os,h2.tape,h2.output,h2.size,fun k hk _=>h2.block k hk (by simp),h2.drawn⟩,h3,fun b o xG=>(h4 b o xG).imp id fun h=>⟨.inl h.1,h.2⟩,fun b o xG=>?_,fun i hi=>(by cases hi),fun i b _ hb=>(by cases hb),
   ⟨fun i cs iR=>by simp at iR,fun _ _=>rfl,fun _ _ _ h=>(by cases h),fun _ _ _ _ _ h=>(by cases h),fun _ _ _ _ h=>(by cases h),fun _ _ _ h=>(by cases h),fun _ _ _=>rfl⟩,h5.wider fun b hb=>.inl (h6 b hb).1,fun b hb=>⟨⟨(h6 b hb).2,.inl (h6 b hb).1⟩,fun _ _ h=>(by cases h),fun _ h=>(by cases h)⟩⟩
  have hb:=hI b o xG
  exact dV (h2.block b hb (by simp))
theorem acG {P:Program} {G:Gl} {s:Vl.S} {T e:TypeId} {i j:TI} {sz:Nat} {E:Option (TypeId×Nat)} {es:List (List C)} {K:V→Prop} {t d:Nat} {y:Operand} {y1:List C} {by_:Nat} {z:List C} (hT:ti P T=some i) (hk:i.kd=.slice e) (hE:ti P e=some j) (hs:j.size=sz) (hb:j.bytes=by_) (hz:j.zero=some z) (hp:0<sz) (uD:z.length=sz) (h1:s.fr t=.gs none E es)
 (h0:t≠d∧y≠.tmp t) (hy:(vw s (ev G s y)).fz=.c (.sl [y1])) (Y8:E=none∨E=some (e,sz)) (pT:∀ x∈es,x.length=sz) (Gd:y1.length=sz) (hm:(es.length+1)*by_≤140737488355328) (hm2:es.length+1≤9223372036854775807)
 (hK:K (.gs none (some (e,sz)) (es++[y1]))):jO P G s (some d) [T,T] [.tmp t,y] K:=by
 obtain⟨kd',a1,a2,a3,a4,a5,a6⟩:=i;simp only at hk;subst hk
 obtain⟨b0,b1,b2,b3,b4,b5,b6⟩:=j;simp only at hs hb hz;subst hs;subst hb;subst hz
 unfold jO
 simp only[h1]
 refine⟨h0,?_⟩
 rw[hy]
 simp only[nf,hT,hE]
 exact⟨trivial,⟨hp,uD,Y8,pT⟩,⟨hm,hm2,Gd⟩,hK⟩
def gsF (L:List Fa):V:=.gs none (if L.isEmpty=true then none else some (62,3)) (L.map faC)
theorem lX {L:List Fa}:(gsF L).isOw=true:=rfl
theorem UV {L:List Fa} {f:Fa}:V.gs none (some (62,3)) (L.map faC++[faC f])=gsF (L++[f]):=by
 unfold gsF
 rw[if_neg (by simp)];simp
def oq (s:Sy) (h:Hd):Fa:=⟨1,qA s h.va,h.ty⟩
def UW (t:Tm):Bool:=decide (t.kind=3)&&(eC (t.l.getD 0 ma)&&eC (t.l.getD 1 ma))
def lQ (s:Sy) (t:Tm):List Fa:=if UW t=true then[⟨2,qA s (t.l.getD 0 ma),qA s (t.l.getD 1 ma)⟩] else[]
def mI (s:Sy) (o:Hd):List Fa:=(if knS s o.va=true then[⟨3,o.ty+1,0⟩] else[])++(if s.rs.any (fun t=>decide (t=o.va))=true then[⟨4,o.ty+1,0⟩] else[])
def F4 (s:Sy):List Fa:=s.hs.map (oq s)++((en s.its).flatMap (lQ s)++s.os.flatMap (mI s))
def pI (s:Sy):List Fa:=qm (F4 s)
theorem UX {fr:Nat→V} {bx:Nat→List V} {nb:Nat} {o:Hd} {K:V→Prop}:dH Tryz.prog 47 ⟨fr,bx,nb⟩ (.c (.rp (hdC o) 1)) K=K (.agg (tmC o.va)):=by
 simp only[dH,dl]
 exact ae2
def zd:=jj @pkA (jj @ptA @pkT)
theorem PS (t:Tm) (o:Hd) (ht:bq t≤1000000000) (ho:bq o.va≤1000000000):FnOK Tryz.prog G 51 [.agg (tmC t),.c (.rp (hdC o) 0)] (bo (decide (t=o.va))):=by
 refine bE (rs:=[.tmp 3]) false [] mixed Tryz.func51 rfl rfl rfl rfl (by kernel_rfl) (by simp) rfl rfl ?_
 simp -implicitDefEqProofs only[zd,seval,UX]
 refine ay («as»:=[.agg (tmC t),.agg (tmC o.va)]) rfl (uw t o.va ht ho) (fun _=>rfl) ?_
 simp -implicitDefEqProofs only[pkA,seval]
theorem Nc {P:Program} {G:Gl} {s:Vl.S} {f:V} {args all cargs:List V} {g:FuncId} {K:Vl.S→V→Prop} {r:V} {c0 c1:List C} (q:Nat) (hc:eI f args=some (g,all)) (hf:FnB P G g cargs [c0.map .c] r [c1.map .c])
 (dh:all.map V.fz=cargs.map (V.ren (rho [q] s.nb))) (hq:q<s.nb) (hb:s.bx q=c0.map .c) (hK:K ⟨s.fr,up s.bx q (c1.map .c),s.nb⟩ (r.ren (rho [q] s.nb))):vcallB P G s f args K:=by
 have hm:∀ (ρ:Nat→Nat) (l:List C),(l.map V.c).map (V.ren ρ)=l.map .c:=fun ρ l=>by
  rw[gV];rfl
 have h0:rho [q] s.nb 0=q:=rfl
 unfold vcallB j4
 simp only[hc]
 refine⟨[q],cargs,[c0.map .c],r,[c1.map .c],hf,dh,⟨rfl,by simp⟩,⟨⟨by rw[h0];exact hq,by rw[h0,hm];exact hb⟩,trivial⟩,?_⟩
 have e:fu (rho [q] s.nb) 0 [c1.map .c] s.bx=up s.bx q (c1.map .c):=by
  simp only[fu,hm,h0]
 rw[e]
 exact hK
theorem IV {c:Prop} [Decidable c] {A B:Prop} (hc:c) (h:A):(if c then A else B):=by rw[if_pos hc];exact h
theorem xl {s:Vl.S} {L:List Fa} {f:Fa} {t d:Nat} {y:Operand} {K:V→Prop} (h1:s.fr t=gsF L) (h0:t≠d∧y≠.tmp t) (hy:(vw s (ev G s y)).fz=.c (.sl [faC f])) (hl:L.length≤1000000) (hK:K (gsF (L++[f]))) :
 jO Tryz.prog G s (some d) [43,43] [.tmp t,y] K:=by
 refine acG (E:=if L.isEmpty=true then none else some (62,3)) (es:=L.map faC) (y1:=faC f) (sz:=3) (by_:=24) nU rfl kP rfl rfl rfl (by decide) rfl h1 h0 hy ?_ (fun x hx=>by obtain⟨y,_,rfl⟩:=br.1 hx;exact jX y) (jX f) (by rw[am];omega) (by rw[am];omega) ?_
 ·split
  ·exact .inl rfl
  ·exact .inr rfl
 ·rw[UV];exact hK
theorem pJ {α β:Type} {f:α→List β} {b:Nat}:∀ {l:List α},(∀ x∈l,(f x).length≤b)→(l.flatMap f).length≤l.length*b
 |[],_=>by simp
 |x::l,h=>by
  rw[List.flatMap_cons,ax,aC,dJ]
  have h1:=h x (aW ..)
  have h2:=pJ (l:=l) fun y hy=>h y (aR _ hy)
  omega
def IW:=jj @pkA (jj @ptA @pkS)
def ZH:=jj @pkA (jj @ptA (jj @pkH @pkS))
def Nf:=jj @pkA (jj @ptA @pkH)
def ZI:=jj @pkA @ptA
def ZJ:=jj @pkA (jj @ptA (jj @pkT @pkS))
set_option maxHeartbeats 4000000 in
theorem xm {s:Sy} (hS:SyOk s):FnOK Tryz.prog glM 18 [.agg (syC s)] (.c (fsC (pI s))):=by
 have hCl:FnOK Tryz.prog glM 47 [.c (tsC s.its)] (.c (tsC (en s.its))):=upM (Ul s.its (fun t ht=>(hS.iv t ht).1) (by have:=tJ hS;omega))
 have hn:=hS.hn
 have Vw:∀ h∈s.hs,FnOK Tryz.prog glM 24 [.agg (syC s),.agg (tmC h.va)] (i64 (qA s h.va)):=fun h hh=>qR hS _ (hS.hv h hh).1 (cj (hS.hv h hh).2.1 (by decide))
 refine bE (rs:=[.tmp 2]) true [17,53,82,93,2400026,2400068,2400088,2400099,2300002,2300021,1000102,1000104] mixed Tryz.func18 rfl rfl rfl rfl (by kernel_rfl) (by simp) rfl rfl ?_
 simp -implicitDefEqProofs only[pkA,seval]
 refine JX rfl (.warmT 3 (by simp[]) (.done ?_))
 simp -implicitDefEqProofs only[IW,seval,hsC,am]
 refine ck (fun i:Nat=>hdS [(1,.bp 0 0),(3,gsF ((s.hs.map (oq s)).take i)),(11,.c (.sl (s.hs.map hdC))),(12,i64 s.hs.length),(13,i64 i)] [(syC s).map .c]) (fun i=>s.hs.length - i) (fun i=>i≤s.hs.length) 0 (ar _) ?_ ?_
 ·refine bT rfl (ar _) (by simp) ?_ ?_
  ·simp[FL,au,gsF]
  ·simp[BL]
 ·intro i hi R bS cd cX
  simp -implicitDefEqProofs only[pkA,seval]
  refine aL (fun bB=>?_) (fun fA=>?_)
  ·have bB:i<s.hs.length:=by simpa using bB
   simp -implicitDefEqProofs only[pkA,seval]
   refine df kN rfl jp (by decide) (aD i) (c:=hdC s.hs[i]) (by simp[bB]) (fi _) ?_
   simp -implicitDefEqProofs only[ZH,seval,lX,fi]
   refine ay rfl (Vw _ (aF bB)) (fun _=>rfl) ?_
   simp -implicitDefEqProofs only[Nf,seval]
   refine IV rfl ?_
   refine xl (L:=(s.hs.map (oq s)).take i) (f:=oq s s.hs[i]) (by simp[au]) ⟨by decide,by simp⟩ rfl (by rw[a8,am];omega) ?_
   simp -implicitDefEqProofs only[pkA,seval,lX]
   have hw:=wrap_i64 (i+1) (by omega)
   refine bS (i+1) _ bB (by omega) (bT rfl (ar _) (by simp) ?_ ?_)
   ·have e:(s.hs.map (oq s)).take (i+1)=(s.hs.map (oq s)).take i++[oq s s.hs[i]]:=by rw[aQ (by simpa using bB)];simp
    simp[FL,au,hw,e]
   ·simp[BL,au,bxs]
  ·have:i=s.hs.length:=by simp at fA;omega
   subst this
   rw[dS (by simp)]
   simp -implicitDefEqProofs only[pkA]
   refine cd _ _ ?_
   simp -implicitDefEqProofs only[IW,seval]
   refine ay rfl hCl (fun h=>(by cases h)) ?_
   simp -implicitDefEqProofs only[pkA,seval]
   clear bS cX cd
   clear R
   have hCs:=o7 (fun t ht=>(hS.iv t ht).1) (ly fun t ht=>(hS.iv t ht).1).1.st (ly fun t ht=>(hS.iv t ht).1).1.kn
   have m9:=hCs.1
   have h10:=tJ hS
   simp -implicitDefEqProofs only[ZI,seval,tsC,am]
   refine ck (fun i:Nat=>hdS [(1,.bp 0 0),(3,gsF (s.hs.map (oq s)++((en s.its).take i).flatMap (lQ s))),(30,.c (.sl ((en s.its).map tmC))),(31,i64 (en s.its).length),(32,i64 i)] [(syC s).map .c]) (fun i=>(en s.its).length - i) (fun i=>i≤(en s.its).length) 0 (ar _) ?_ ?_
   ·refine bT rfl (ar _) (by simp) ?_ ?_
    ·simp[FL,au]
    ·simp[BL,bxs]
   ·intro i hi R bS cd cX
    simp -implicitDefEqProofs only[pkA,seval]
    refine aL (fun bB=>?_) (fun fA=>?_)
    ·have bB:i<(en s.its).length:=by simpa using bB
     have hm:(en s.its)[i]∈en s.its:=aF bB
     have hvt:=hCs.2.2.1 _ hm
     have hst:=hCs.2.2.2 _ hm
     have e:((en s.its).take (i+1)).flatMap (lQ s)=((en s.its).take i).flatMap (lQ s)++lQ s (en s.its)[i]:=by rw[aQ bB,List.flatMap_append];simp
     have cu:(((en s.its).take i).flatMap (lQ s)).length≤10000:=by
      have:=pJ (l:=(en s.its).take i) (f:=lQ s) (b:=1) (fun t _=>by unfold lQ;split<;>simp)
      rw[a8] at this;omega
     have hw:=wrap_i64 (i+1) (by omega)
     simp -implicitDefEqProofs only[pkA,seval]
     refine df du rfl dl (by decide) (aD i) (c:=tmC (en s.its)[i]) (by simp[bB]) (bG _) ?_
     generalize (en s.its)[i]=t at hm hvt hst e ⊢
     simp -implicitDefEqProofs only[zd,seval]
     by_cases hk:t.kind=3
     ·obtain⟨a,b,qn⟩:=MY hvt (.inl hk)
      have hva:bY a=true∧bq a≤1000000000:=by
       obtain⟨k,n,l⟩:=t
       simp only[Tm.l] at qn;subst qn
       exact⟨(pE hvt).1,by simp only[bq,cF] at hst;omega⟩
      have hvb:bY b=true∧bq b≤1000000000:=by
       obtain⟨k,n,l⟩:=t
       simp only[Tm.l] at qn;subst qn
       exact⟨(pE hvt).2.1,by simp only[bq,cF] at hst;omega⟩
      have ia0:∀ K,K (.c (.rp (tmC a) 0))→cA Tryz.prog 33 (.c (.sl (t.l.map tmC))) (i64 0) K:=fun K hK=>
       df du rfl dl (by decide) (jJ 0) (c:=tmC a) (by rw[qn];rfl) (bG _) hK
      have ia1:∀ K,K (.c (.rp (tmC b) 0))→cA Tryz.prog 33 (.c (.sl (t.l.map tmC))) (i64 1) K:=fun K hK=>
       df du rfl dl (by decide) (by decide) (c:=tmC b) (by rw[qn];rfl) (bG _) hK
      have VS:UW t=(eC a&&eC b):=by unfold UW;rw[hk,qn];simp
      simp -implicitDefEqProofs only[zd,seval,tsC,hk,ai]
      refine ia0 _ ?_
      simp -implicitDefEqProofs only[zd,seval]
      refine ay rfl (wU a) (fun _=>rfl) ?_
      cases Y7:eC a with
      |false=>
       simp -implicitDefEqProofs only[pkA,seval]
       refine bS (i+1) _ bB (by omega) (bT rfl (ar _) (by simp) ?_ ?_)
       ·have e':lQ s t=[]:=by unfold lQ;rw[if_neg (by rw[VS,Y7];simp)]
        simp[FL,au,hw,e,e']
       ·simp[BL,au,bxs]
      |true=>
       simp -implicitDefEqProofs only[zd,seval,tsC,ai]
       refine ia1 _ ?_
       simp -implicitDefEqProofs only[zd,seval]
       refine ay rfl (wU b) (fun _=>rfl) ?_
       cases hkb:eC b with
       |false=>
        simp -implicitDefEqProofs only[pkA,seval]
        refine bS (i+1) _ bB (by omega) (bT rfl (ar _) (by simp) ?_ ?_)
        ·have e':lQ s t=[]:=by unfold lQ;rw[if_neg (by rw[VS,Y7,hkb];simp)]
         simp[FL,au,hw,e,e']
        ·simp[BL,au,bxs]
       |true=>
        simp -implicitDefEqProofs only[ZJ,seval,lX,tsC,ai]
        refine ia0 _ ?_
        simp -implicitDefEqProofs only[zd,seval]
        refine ay rfl (qR hS a hva.1 hva.2) (fun _=>rfl) ?_
        simp -implicitDefEqProofs only[ZJ,seval,tsC,ai]
        refine ia1 _ ?_
        simp -implicitDefEqProofs only[zd,seval]
        refine ay rfl (qR hS b hvb.1 hvb.2) (fun _=>rfl) ?_
        simp -implicitDefEqProofs only[ZI,seval]
        refine IV rfl ?_
        refine xl (L:=s.hs.map (oq s)++((en s.its).take i).flatMap (lQ s)) (f:=⟨2,qA s a,qA s b⟩) (by simp[au]) ⟨by decide,by simp⟩ rfl (by rw[ax,am];omega) ?_
        simp -implicitDefEqProofs only[pkA,seval,lX]
        refine bS (i+1) _ bB (by omega) (bT rfl (ar _) (by simp) ?_ ?_)
        ·have e':lQ s t=[⟨2,qA s a,qA s b⟩]:=by unfold lQ;rw[if_pos (by rw[VS,Y7,hkb];rfl),qn];rfl
         simp[FL,au,hw,e,e']
        ·simp[BL,au,bxs]
     ·have VS:UW t=false:=by unfold UW;simp[hk]
      simp -implicitDefEqProofs only[pkA,seval,bK,hk]
      refine bS (i+1) _ bB (by omega) (bT rfl (ar _) (by simp) ?_ ?_)
      ·have e':lQ s t=[]:=by unfold lQ;rw[if_neg (by rw[VS];simp)]
       simp[FL,au,hw,e,e']
      ·simp[BL,au,bxs]
    ·have:i=(en s.its).length:=by simp at fA;omega
     subst this
     rw[dS (ae _)]
     simp -implicitDefEqProofs only[pkA]
     refine cd _ _ ?_
     simp -implicitDefEqProofs only[IW,seval,hsC,am,ai,am]
     clear bS cX cd
     clear R
     have Cq:s.os.length≤100:=by have:=hS.on;omega
     have xI:s.rs.length≤100:=by have:=hS.rn;omega
     have Z4:((en s.its).flatMap (lQ s)).length≤10000:=by
      have:=pJ (l:=en s.its) (f:=lQ s) (b:=1) (fun t _=>by unfold lQ;split<;>simp)
      omega
     refine ck (fun i:Nat=>hdS [(1,.bp 0 0),(3,gsF (s.hs.map (oq s)++((en s.its).flatMap (lQ s)++(s.os.take i).flatMap (mI s)))),(71,.c (.sl (s.os.map hdC))),(72,i64 s.os.length),(73,i64 i)] [(syC s).map .c]) (fun i=>s.os.length - i) (fun i=>i≤s.os.length) 0 (ar _) ?_ ?_
     ·refine bT rfl (ar _) (by simp) ?_ ?_
      ·simp[FL,au]
      ·simp[BL,bxs]
     ·intro i hi R bS cd cX
      simp -implicitDefEqProofs only[pkA,seval]
      refine aL (fun bB=>?_) (fun fA=>?_)
      ·have bB:i<s.os.length:=by simpa using bB
       have hv:=hS.hv _ (hS.ov _ (aF bB))
       have e:(s.os.take (i+1)).flatMap (mI s)=(s.os.take i).flatMap (mI s)++mI s s.os[i]:=by rw[aQ bB,List.flatMap_append];simp
       have cu:((s.os.take i).flatMap (mI s)).length≤200:=by
        have:=pJ (l:=s.os.take i) (f:=mI s) (b:=2) (fun t _=>by unfold mI;split<;>split<;>simp)
        rw[a8] at this;omega
       have hw:=wrap_i64 (i+1) (by omega)
       have hwo:IntKind.i64.wrap (s.os[i].ty+1)=s.os[i].ty+1:=wrap_i64 _ (by omega)
       have hCF:=zA (G:=glM) (caps:=[.rp (hdC s.os[i]) 0]) s.rs (by omega) 51 (fun t=>decide (t=s.os[i].va)) (fun t ht=>PS t s.os[i] (cj (hS.rv t ht).2 (by decide)) (cj hv.2.1 (by decide)))
       simp -implicitDefEqProofs only[pkA,seval]
       refine df kN rfl jp (by decide) (aD i) (c:=hdC s.os[i]) (by simp[bB]) (fi _) ?_
       simp -implicitDefEqProofs only[ZH,seval,fi,tsC]
       refine ay rfl (zU hS _ hv.1 (cj hv.2.1 (by decide))) (fun _=>rfl) ?_
       cases Qo:knS s s.os[i].va with
       |false=>
        simp -implicitDefEqProofs only[IW,seval,tsC,ai]
        refine ay («as»:=[.c (.sl (s.rs.map tmC)),.c (.fn (.func 51) [] [.rp (hdC s.os[i]) 0])]) rfl hCF (fun _=>rfl) ?_
        cases hrw:s.rs.any (fun t=>decide (t=s.os[i].va)) with
        |false=>
         simp -implicitDefEqProofs only[pkA,seval]
         refine bS (i+1) _ bB (by omega) (bT rfl (ar _) (by simp) ?_ ?_)
         ·simp[FL,au,hw,e,mI,Qo,hrw]
         ·simp[BL,au,bxs]
        |true=>
         simp -implicitDefEqProofs only[Nf,seval,lX,hwo,ai]
         refine IV rfl ?_
         refine xl (L:=s.hs.map (oq s)++((en s.its).flatMap (lQ s)++(s.os.take i).flatMap (mI s))) (f:=⟨4,s.os[i].ty+1,0⟩) (by simp[au]) ⟨by decide,by simp⟩ rfl (by simp only[ax,am];omega) ?_
         simp -implicitDefEqProofs only[pkA,seval,lX]
         refine bS (i+1) _ bB (by omega) (bT rfl (ar _) (by simp) ?_ ?_)
         ·simp[FL,au,hw,e,mI,Qo,hrw]
         ·simp[BL,au,bxs]
       |true=>
        simp -implicitDefEqProofs only[Nf,seval,lX,hwo,ai]
        refine IV rfl ?_
        refine xl (L:=s.hs.map (oq s)++((en s.its).flatMap (lQ s)++(s.os.take i).flatMap (mI s))) (f:=⟨3,s.os[i].ty+1,0⟩) (by simp[au]) ⟨by decide,by simp⟩ rfl (by simp only[ax,am];omega) ?_
        simp -implicitDefEqProofs only[IW,seval,lX,tsC,ai]
        refine ay («as»:=[.c (.sl (s.rs.map tmC)),.c (.fn (.func 51) [] [.rp (hdC s.os[i]) 0])]) rfl hCF (fun _=>rfl) ?_
        cases hrw:s.rs.any (fun t=>decide (t=s.os[i].va)) with
        |false=>
         simp -implicitDefEqProofs only[pkA,seval]
         refine bS (i+1) _ bB (by omega) (bT rfl (ar _) (by simp) ?_ ?_)
         ·simp[FL,au,hw,e,mI,Qo,hrw]
         ·simp[BL,au,bxs]
        |true=>
         simp -implicitDefEqProofs only[Nf,seval,lX,hwo,ai]
         refine IV rfl ?_
         refine xl (L:=(s.hs.map (oq s)++((en s.its).flatMap (lQ s)++(s.os.take i).flatMap (mI s)))++[⟨3,s.os[i].ty+1,0⟩]) (f:=⟨4,s.os[i].ty+1,0⟩) (by simp[au]) ⟨by decide,by simp⟩ rfl (by simp only[ax,am,aC,aH];omega) ?_
         simp -implicitDefEqProofs only[pkA,seval,lX]
         refine bS (i+1) _ bB (by omega) (bT rfl (ar _) (by simp) ?_ ?_)
         ·simp[FL,au,hw,e,mI,Qo,hrw]
         ·simp[BL,au,bxs]
      ·have:i=s.os.length:=by simp at fA;omega
       subst this
       rw[dS (ae _)]
       simp -implicitDefEqProofs only[pkA]
       refine cd _ _ ?_
       simp -implicitDefEqProofs only[pkA,seval]
       have Nq:(F4 s).length≤20000:=by
        have h3:=pJ (l:=s.os) (f:=mI s) (b:=2) (fun t _=>by unfold mI;split<;>split<;>simp)
        unfold F4
        simp only[ax,am];omega
       unfold pI
       have pP:s.hs.map (oq s)++((en s.its).flatMap (lQ s)++s.os.flatMap (mI s))=F4 s:=rfl
       rw[pP]
       generalize F4 s=L at Nq
       by_cases hL:L=[]
       ·subst hL
        refine JX rfl (.coolT (g:=none) (E:=none) (es:=[]) 3 rfl (.done ?_))
        simp -implicitDefEqProofs only[pkA,seval]
        refine yh rfl (FnOK.toB PQ rfl) rfl ?_
        simp -implicitDefEqProofs only[pkA,seval,fu,dR,V.ren]
        refine yh rfl (FnOK.toB IS rfl) rfl ?_
        simp -implicitDefEqProofs only[pkA,seval,fu,dR,V.ren]
        have h0:qm []=[]:=by simp[qm,oJ,iD,cpk]
        rw[Ma,h0];rfl
       ·have sg:L.isEmpty=false:=by simpa using hL
        refine JX rfl (.boxT (g:=none) (e:=62) (sz:=3) (es:=L.map faC) 3 (by show gsF L=_;unfold gsF;rw[sg];rfl) (.done ?_))
        have m8:(L.map faC).flatten.map V.c=flb faC L:=rfl
        simp -implicitDefEqProofs only[pkA,seval,am,m8]
        refine Nc (c0:=(L.map faC).flatten) (c1:=((oJ L).map faC).flatten) 1 rfl (UT IQ L (by omega) L.length (ae _)) rfl (ab rfl) rfl ?_
        simp -implicitDefEqProofs only[pkA,seval,V.ren]
        have hC:=Lk (G:=glM) (oJ L) L.length (by rw[qT];exact ae _) (by rw[qT];omega)
        rw[qT] at hC
        refine Nc (c0:=((oJ L).map faC).flatten) (c1:=((iD (oJ L)++List.replicate (L.length - (iD (oJ L)).length) zf).map faC).flatten) 1 rfl hC rfl (ab rfl) rfl ?_
        simp -implicitDefEqProofs only[pkA,seval,V.ren,Ma]
        show Option.map V.c (mh _ _ _ _ _)=some _
        rw[OV (c:=faC) (l:=iD (oJ L)++List.replicate (L.length - (iD (oJ L)).length) zf) (a:=0) jX (ab rfl) (by rfl) rfl (by simp)]
        simp only[ep,List.take_left]
        rfl
