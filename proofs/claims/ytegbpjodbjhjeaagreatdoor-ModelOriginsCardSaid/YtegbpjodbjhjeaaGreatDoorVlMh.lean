/- Layer 16: Facts. -/
import Derived.Test.YtegbpjodbjhjeaaGreatDoorVlMg
set_option linter.all false
namespace Go.Proofs.YtegbpjodbjhjeaaGreatDoor
open Go Go.Vl
open Kp (Pol Ty Ru Qu poC tyC ruC quC)
variable {G:Gl}
set_option maxRecDepth 10000
theorem FnOK.toB {P:Program} {G:Gl} {f:FuncId} {args:List V} {r:V} (h:FnOK P G f args r) (ha:args.all (fun x=>match x with | .c _=>true | .agg _=>true | _=>false)=true):FnB P G f args [] r []:=by
 rw[aW] at ha
 refine⟨h.1,⟨fun x hx=>?_,fun b hb=>(by cases hb),ae _⟩,fun I M w vs β ob hI hg hB hs hv=>(h.2 I w vs hI hg hs (fun j x hx=>?_)).mono ?_⟩
 ·have:=ha x hx
  cases x<;>first | trivial | cases this
 ·have h1:=ha x (bg hx)
  have h2:=hv j x hx
  cases x<;>first | exact h2 | cases h1
 ·rintro e w' ⟨v,I',h1,h2,h3,h4,o,h5,h6⟩
  refine⟨v,I',fun _=>none,fun _ _=>none,o,h1,⟨h2.os,h2.tape,h2.output,h2.size,fun k hk _=>h2.block k hk (by simp),h2.drawn⟩,h3,fun b o wC=>(h4 b o wC).imp id fun h=>⟨.inl h.1,h.2⟩,fun b o wC=>?_,fun i hi=>(by cases hi),fun i b _ hb=>(by cases hb),
   ⟨fun i cs iE=>by simp at iE,fun _ _=>rfl,fun _ _ _ h=>(by cases h),fun _ _ _ _ _ h=>(by cases h),fun _ _ _ _ h=>(by cases h),fun _ _ _ h=>(by cases h),fun _ _ _=>rfl⟩,h5.wider fun b hb=>.inl (h6 b hb).1,fun b hb=>⟨⟨(h6 b hb).2,.inl (h6 b hb).1⟩,fun _ _ h=>(by cases h),fun _ h=>(by cases h)⟩⟩
  have hb:=hI b o wC
  exact dN (h2.block b hb (by simp))
theorem abt {P:Program} {G:Gl} {s:Vl.S} {T e:TypeId} {i j:TI} {sz:Nat} {E:Option (TypeId×Nat)} {es:List (List C)} {K:V→Prop} {t d:Nat} {y:Operand} {y1:List C} {by_:Nat} {z:List C} (hT:ti P T=some i) (hk:i.kd=.slice e) (hE:ti P e=some j) (hs:j.size=sz) (hb:j.bytes=by_) (hz:j.zero=some z) (hp:0<sz) (tL:z.length=sz) (h1:s.fr t=.gs none E es)
 (h0:t≠d∧y≠.tmp t) (hy:(vw s (ev G s y)).fz=.c (.sl [y1])) (XR:E=none∨E=some (e,sz)) (pz:∀ x∈es,x.length=sz) (EZ:y1.length=sz) (hm:(es.length+1)*by_≤140737488355328) (hm2:es.length+1≤9223372036854775807)
 (hK:K (.gs none (some (e,sz)) (es++[y1]))):jC P G s (some d) [T,T] [.tmp t,y] K:=by
 obtain⟨kd',a1,a2,a3,a4,a5,a6⟩:=i;simp only at hk;subst hk
 obtain⟨b0,b1,b2,b3,b4,b5,b6⟩:=j;simp only at hs hb hz;subst hs;subst hb;subst hz
 unfold jC
 simp only[h1]
 refine⟨h0,?_⟩
 rw[hy]
 simp only[mN,hT,hE]
 exact⟨trivial,⟨hp,tL,XR,pz⟩,⟨hm,hm2,EZ⟩,hK⟩
def gsF (L:List Fa):V:=.gs none (if L.isEmpty=true then none else some (62,3)) (L.map faC)
theorem lF {L:List Fa}:(gsF L).isOw=true:=rfl
theorem TK {L:List Fa} {f:Fa}:V.gs none (some (62,3)) (L.map faC++[faC f])=gsF (L++[f]):=by
 unfold gsF
 rw[if_neg (by simp)];simp
def nP (s:Sy) (h:Hd):Fa:=⟨1,qd s h.va,h.ty⟩
def TL (t:Tm):Bool:=decide (t.kind=3)&&(ej (t.l.getD 0 lN)&&ej (t.l.getD 1 lN))
def lw (s:Sy) (t:Tm):List Fa:=if TL t=true then[⟨2,qd s (t.l.getD 0 lN),qd s (t.l.getD 1 lN)⟩] else[]
def mf (s:Sy) (o:Hd):List Fa:=(if knS s o.va=true then[⟨3,o.ty+1,0⟩] else[])++(if s.rs.any (fun t=>decide (t=o.va))=true then[⟨4,o.ty+1,0⟩] else[])
def EP (s:Sy):List Fa:=s.hs.map (nP s)++((d4 s.its).flatMap (lw s)++s.os.flatMap (mf s))
def pf (s:Sy):List Fa:=pS (EP s)
theorem aea {fr:Nat→V} {bx:Nat→List V} {nb:Nat} {o:Hd} {K:V→Prop}:dy Tryz.prog 47 ⟨fr,bx,nb⟩ (.c (.rp (hdC o) 1)) K=K (.agg (tmC o.va)):=by
 simp only[dy,di]
 exact adU
def ym:=jj @pkA (jj @ptA @pkT)
theorem OL (t:Tm) (o:Hd) (ht:br t≤1000000000) (ho:br o.va≤1000000000):FnOK Tryz.prog G 51 [.agg (tmC t),.c (.rp (hdC o) 0)] (bo (decide (t=o.va))):=by
 refine bP (rs:=[.tmp 3]) false [] mixed Tryz.func51 rfl rfl rfl rfl (by kernel_rfl) (by simp) rfl rfl ?_
 simp -implicitDefEqProofs only[ym,seval,aea]
 refine aD («as»:=[.agg (tmC t),.agg (tmC o.va)]) rfl (tD t o.va ht ho) (fun _=>rfl) ?_
 simp -implicitDefEqProofs only[pkA,seval]
theorem LX {P:Program} {G:Gl} {s:Vl.S} {f:V} {args all cargs:List V} {g:FuncId} {K:Vl.S→V→Prop} {r:V} {c0 c1:List C} (q:Nat) (hc:ew f args=some (g,all)) (hf:FnB P G g cargs [c0.map .c] r [c1.map .c])
 (dh:all.map V.fz=cargs.map (V.ren (rho [q] s.nb))) (hq:q<s.nb) (hb:s.bx q=c0.map .c) (hK:K ⟨s.fr,up s.bx q (c1.map .c),s.nb⟩ (r.ren (rho [q] s.nb))):vcallB P G s f args K:=by
 have hm:∀ (ρ:Nat→Nat) (l:List C),(l.map V.c).map (V.ren ρ)=l.map .c:=fun ρ l=>by
  rw[gA];rfl
 have h0:rho [q] s.nb 0=q:=rfl
 unfold vcallB jR
 simp only[hc]
 refine⟨[q],cargs,[c0.map .c],r,[c1.map .c],hf,dh,⟨rfl,by simp⟩,⟨⟨by rw[h0];exact hq,by rw[h0,hm];exact hb⟩,trivial⟩,?_⟩
 have e:ff (rho [q] s.nb) 0 [c1.map .c] s.bx=up s.bx q (c1.map .c):=by
  simp only[ff,hm,h0]
 rw[e]
 exact hK
theorem HL {c:Prop} [Decidable c] {A B:Prop} (hc:c) (h:A):(if c then A else B):=by rw[if_pos hc];exact h
theorem wh {s:Vl.S} {L:List Fa} {f:Fa} {t d:Nat} {y:Operand} {K:V→Prop} (h1:s.fr t=gsF L) (h0:t≠d∧y≠.tmp t) (hy:(vw s (ev G s y)).fz=.c (.sl [faC f])) (hl:L.length≤1000000) (hK:K (gsF (L++[f]))) :
 jC Tryz.prog G s (some d) [43,43] [.tmp t,y] K:=by
 refine abt (E:=if L.isEmpty=true then none else some (62,3)) (es:=L.map faC) (y1:=faC f) (sz:=3) (by_:=24) ny rfl kB rfl rfl rfl (by decide) rfl h1 h0 hy ?_ (fun x hx=>by obtain⟨y,_,rfl⟩:=bu.1 hx;exact jM y) (jM f) (by rw[ap];omega) (by rw[ap];omega) ?_
 ·split
  ·exact .inl rfl
  ·exact .inr rfl
 ·rw[TK];exact hK
theorem pg {α β:Type} {f:α→List β} {b:Nat}:∀ {l:List α},(∀ x∈l,(f x).length≤b)→(l.flatMap f).length≤l.length*b
 |[],_=>by simp
 |x::l,h=>by
  rw[List.flatMap_cons,ax,aB,dD]
  have h1:=h x (aT ..)
  have h2:=pg (l:=l) fun y hy=>h y (aM _ hy)
  omega
def HM:=jj @pkA (jj @ptA @pkS)
def Yr:=jj @pkA (jj @ptA (jj @pkH @pkS))
def LY:=jj @pkA (jj @ptA @pkH)
def Ys:=jj @pkA @ptA
def Yt:=jj @pkA (jj @ptA (jj @pkT @pkS))
set_option maxHeartbeats 4000000 in
theorem wi {s:Sy} (hS:SyOk s):FnOK Tryz.prog glM 18 [.agg (syC s)] (.c (fsC (pf s))):=by
 have hCl:FnOK Tryz.prog glM 47 [.c (tsC s.its)] (.c (tsC (d4 s.its))):=upM (S3 s.its (fun t ht=>(hS.iv t ht).1) (by have:=sL hS;omega))
 have hn:=hS.hn
 have Ui:∀ h∈s.hs,FnOK Tryz.prog glM 24 [.agg (syC s),.agg (tmC h.va)] (i64 (qd s h.va)):=fun h hh=>qu hS _ (hS.hv h hh).1 (bY (hS.hv h hh).2.1 (by decide))
 refine bP (rs:=[.tmp 2]) true [17,53,82,93,2400026,2400068,2400088,2400099,2300002,2300021,1000102,1000104] mixed Tryz.func18 rfl rfl rfl rfl (by kernel_rfl) (by simp) rfl rfl ?_
 simp -implicitDefEqProofs only[pkA,seval]
 refine IQ rfl (.warmT 3 (by simp[]) (.done ?_))
 simp -implicitDefEqProofs only[HM,seval,hsC,ap]
 refine cF (fun i:Nat=>hdS [(1,.bp 0 0),(3,gsF ((s.hs.map (nP s)).take i)),(11,.c (.sl (s.hs.map hdC))),(12,i64 s.hs.length),(13,i64 i)] [(syC s).map .c]) (fun i=>s.hs.length - i) (fun i=>i≤s.hs.length) 0 (au _) ?_ ?_
 ·refine cj rfl (au _) (by simp) ?_ ?_
  ·simp[FL,ar,gsF]
  ·simp[BL]
 ·intro i hi R ck cG dn
  simp -implicitDefEqProofs only[pkA,seval]
  refine aV (fun bF=>?_) (fun ga=>?_)
  ·have bF:i<s.hs.length:=by simpa using bF
   simp -implicitDefEqProofs only[pkA,seval]
   refine dz l6 rfl jU (by decide) (aI i) (c:=hdC s.hs[i]) (by simp[bF]) (fi _) ?_
   simp -implicitDefEqProofs only[Yr,seval,lF,fi]
   refine aD rfl (Ui _ (aF bF)) (fun _=>rfl) ?_
   simp -implicitDefEqProofs only[LY,seval]
   refine HL rfl ?_
   refine wh (L:=(s.hs.map (nP s)).take i) (f:=nP s s.hs[i]) (by simp[ar]) ⟨by decide,by simp⟩ rfl (by rw[aZ,ap];omega) ?_
   simp -implicitDefEqProofs only[pkA,seval,lF]
   have hw:=wrap_i64 (i+1) (by omega)
   refine ck (i+1) _ bF (by omega) (cj rfl (au _) (by simp) ?_ ?_)
   ·have e:(s.hs.map (nP s)).take (i+1)=(s.hs.map (nP s)).take i++[nP s s.hs[i]]:=by rw[aU (by simpa using bF)];simp
    simp[FL,ar,hw,e]
   ·simp[BL,ar,bxs]
  ·have:i=s.hs.length:=by simp at ga;omega
   subst this
   rw[dM (by simp)]
   simp -implicitDefEqProofs only[pkA]
   refine cG _ _ ?_
   simp -implicitDefEqProofs only[HM,seval]
   refine aD rfl hCl (fun h=>(by cases h)) ?_
   simp -implicitDefEqProofs only[pkA,seval]
   clear ck dn cG
   clear R
   have hCs:=oD (fun t ht=>(hS.iv t ht).1) (k7 fun t ht=>(hS.iv t ht).1).1.st (k7 fun t ht=>(hS.iv t ht).1).1.kn
   have mL:=hCs.1
   have h10:=sL hS
   simp -implicitDefEqProofs only[Ys,seval,tsC,ap]
   refine cF (fun i:Nat=>hdS [(1,.bp 0 0),(3,gsF (s.hs.map (nP s)++((d4 s.its).take i).flatMap (lw s))),(30,.c (.sl ((d4 s.its).map tmC))),(31,i64 (d4 s.its).length),(32,i64 i)] [(syC s).map .c]) (fun i=>(d4 s.its).length - i) (fun i=>i≤(d4 s.its).length) 0 (au _) ?_ ?_
   ·refine cj rfl (au _) (by simp) ?_ ?_
    ·simp[FL,ar]
    ·simp[BL,bxs]
   ·intro i hi R ck cG dn
    simp -implicitDefEqProofs only[pkA,seval]
    refine aV (fun bF=>?_) (fun ga=>?_)
    ·have bF:i<(d4 s.its).length:=by simpa using bF
     have hm:(d4 s.its)[i]∈d4 s.its:=aF bF
     have hvt:=hCs.2.2.1 _ hm
     have hst:=hCs.2.2.2 _ hm
     have e:((d4 s.its).take (i+1)).flatMap (lw s)=((d4 s.its).take i).flatMap (lw s)++lw s (d4 s.its)[i]:=by rw[aU bF,List.flatMap_append];simp
     have ce:(((d4 s.its).take i).flatMap (lw s)).length≤10000:=by
      have:=pg (l:=(d4 s.its).take i) (f:=lw s) (b:=1) (fun t _=>by unfold lw;split<;>simp)
      rw[aZ] at this;omega
     have hw:=wrap_i64 (i+1) (by omega)
     simp -implicitDefEqProofs only[pkA,seval]
     refine dz dq rfl di (by decide) (aI i) (c:=tmC (d4 s.its)[i]) (by simp[bF]) (bI _) ?_
     generalize (d4 s.its)[i]=t at hm hvt hst e ⊢
     simp -implicitDefEqProofs only[ym,seval]
     by_cases hk:t.kind=3
     ·obtain⟨a,b,pT⟩:=LL hvt (.inl hk)
      have hva:bT a=true∧br a≤1000000000:=by
       obtain⟨k,n,l⟩:=t
       simp only[Tm.l] at pT;subst pT
       exact⟨(o9 hvt).1,by simp only[br,cD] at hst;omega⟩
      have hvb:bT b=true∧br b≤1000000000:=by
       obtain⟨k,n,l⟩:=t
       simp only[Tm.l] at pT;subst pT
       exact⟨(o9 hvt).2.1,by simp only[br,cD] at hst;omega⟩
      have ia0:∀ K,K (.c (.rp (tmC a) 0))→cC Tryz.prog 33 (.c (.sl (t.l.map tmC))) (i64 0) K:=fun K hK=>
       dz dq rfl di (by decide) (Int.le_refl 0) (c:=tmC a) (by rw[pT];rfl) (bI _) hK
      have ia1:∀ K,K (.c (.rp (tmC b) 0))→cC Tryz.prog 33 (.c (.sl (t.l.map tmC))) (i64 1) K:=fun K hK=>
       dz dq rfl di (by decide) (by decide) (c:=tmC b) (by rw[pT];rfl) (bI _) hK
      have UD:TL t=(ej a&&ej b):=by unfold TL;rw[hk,pT];simp
      simp -implicitDefEqProofs only[ym,seval,tsC,hk,ai]
      refine ia0 _ ?_
      simp -implicitDefEqProofs only[ym,seval]
      refine aD rfl (vR a) (fun _=>rfl) ?_
      cases XQ:ej a with
      |false=>
       simp -implicitDefEqProofs only[pkA,seval]
       refine ck (i+1) _ bF (by omega) (cj rfl (au _) (by simp) ?_ ?_)
       ·have e':lw s t=[]:=by unfold lw;rw[if_neg (by rw[UD,XQ];simp)]
        simp[FL,ar,hw,e,e']
       ·simp[BL,ar,bxs]
      |true=>
       simp -implicitDefEqProofs only[ym,seval,tsC,ai]
       refine ia1 _ ?_
       simp -implicitDefEqProofs only[ym,seval]
       refine aD rfl (vR b) (fun _=>rfl) ?_
       cases hkb:ej b with
       |false=>
        simp -implicitDefEqProofs only[pkA,seval]
        refine ck (i+1) _ bF (by omega) (cj rfl (au _) (by simp) ?_ ?_)
        ·have e':lw s t=[]:=by unfold lw;rw[if_neg (by rw[UD,XQ,hkb];simp)]
         simp[FL,ar,hw,e,e']
        ·simp[BL,ar,bxs]
       |true=>
        simp -implicitDefEqProofs only[Yt,seval,lF,tsC,ai]
        refine ia0 _ ?_
        simp -implicitDefEqProofs only[ym,seval]
        refine aD rfl (qu hS a hva.1 hva.2) (fun _=>rfl) ?_
        simp -implicitDefEqProofs only[Yt,seval,tsC,ai]
        refine ia1 _ ?_
        simp -implicitDefEqProofs only[ym,seval]
        refine aD rfl (qu hS b hvb.1 hvb.2) (fun _=>rfl) ?_
        simp -implicitDefEqProofs only[Ys,seval]
        refine HL rfl ?_
        refine wh (L:=s.hs.map (nP s)++((d4 s.its).take i).flatMap (lw s)) (f:=⟨2,qd s a,qd s b⟩) (by simp[ar]) ⟨by decide,by simp⟩ rfl (by rw[ax,ap];omega) ?_
        simp -implicitDefEqProofs only[pkA,seval,lF]
        refine ck (i+1) _ bF (by omega) (cj rfl (au _) (by simp) ?_ ?_)
        ·have e':lw s t=[⟨2,qd s a,qd s b⟩]:=by unfold lw;rw[if_pos (by rw[UD,XQ,hkb];rfl),pT];rfl
         simp[FL,ar,hw,e,e']
        ·simp[BL,ar,bxs]
     ·have UD:TL t=false:=by unfold TL;simp[hk]
      simp -implicitDefEqProofs only[pkA,seval,cd,hk]
      refine ck (i+1) _ bF (by omega) (cj rfl (au _) (by simp) ?_ ?_)
      ·have e':lw s t=[]:=by unfold lw;rw[if_neg (by rw[UD];simp)]
       simp[FL,ar,hw,e,e']
      ·simp[BL,ar,bxs]
    ·have:i=(d4 s.its).length:=by simp at ga;omega
     subst this
     rw[dM (ae _)]
     simp -implicitDefEqProofs only[pkA]
     refine cG _ _ ?_
     simp -implicitDefEqProofs only[HM,seval,hsC,ap,ai,ap]
     clear ck dn cG
     clear R
     have Bp:s.os.length≤100:=by have:=hS.on;omega
     have wG:s.rs.length≤100:=by have:=hS.rn;omega
     have YO:((d4 s.its).flatMap (lw s)).length≤10000:=by
      have:=pg (l:=d4 s.its) (f:=lw s) (b:=1) (fun t _=>by unfold lw;split<;>simp)
      omega
     refine cF (fun i:Nat=>hdS [(1,.bp 0 0),(3,gsF (s.hs.map (nP s)++((d4 s.its).flatMap (lw s)++(s.os.take i).flatMap (mf s)))),(71,.c (.sl (s.os.map hdC))),(72,i64 s.os.length),(73,i64 i)] [(syC s).map .c]) (fun i=>s.os.length - i) (fun i=>i≤s.os.length) 0 (au _) ?_ ?_
     ·refine cj rfl (au _) (by simp) ?_ ?_
      ·simp[FL,ar]
      ·simp[BL,bxs]
     ·intro i hi R ck cG dn
      simp -implicitDefEqProofs only[pkA,seval]
      refine aV (fun bF=>?_) (fun ga=>?_)
      ·have bF:i<s.os.length:=by simpa using bF
       have hv:=hS.hv _ (hS.ov _ (aF bF))
       have e:(s.os.take (i+1)).flatMap (mf s)=(s.os.take i).flatMap (mf s)++mf s s.os[i]:=by rw[aU bF,List.flatMap_append];simp
       have ce:((s.os.take i).flatMap (mf s)).length≤200:=by
        have:=pg (l:=s.os.take i) (f:=mf s) (b:=2) (fun t _=>by unfold mf;split<;>split<;>simp)
        rw[aZ] at this;omega
       have hw:=wrap_i64 (i+1) (by omega)
       have hwo:IntKind.i64.wrap (s.os[i].ty+1)=s.os[i].ty+1:=wrap_i64 _ (by omega)
       have hCF:=yH (G:=glM) (caps:=[.rp (hdC s.os[i]) 0]) s.rs (by omega) 51 (fun t=>decide (t=s.os[i].va)) (fun t ht=>OL t s.os[i] (bY (hS.rv t ht).2 (by decide)) (bY hv.2.1 (by decide)))
       simp -implicitDefEqProofs only[pkA,seval]
       refine dz l6 rfl jU (by decide) (aI i) (c:=hdC s.os[i]) (by simp[bF]) (fi _) ?_
       simp -implicitDefEqProofs only[Yr,seval,fi,tsC]
       refine aD rfl (yY hS _ hv.1 (bY hv.2.1 (by decide))) (fun _=>rfl) ?_
       cases UK:knS s s.os[i].va with
       |false=>
        simp -implicitDefEqProofs only[HM,seval,tsC,ai]
        refine aD («as»:=[.c (.sl (s.rs.map tmC)),.c (.fn (.func 51) [] [.rp (hdC s.os[i]) 0])]) rfl hCF (fun _=>rfl) ?_
        cases hrw:s.rs.any (fun t=>decide (t=s.os[i].va)) with
        |false=>
         simp -implicitDefEqProofs only[pkA,seval]
         refine ck (i+1) _ bF (by omega) (cj rfl (au _) (by simp) ?_ ?_)
         ·simp[FL,ar,hw,e,mf,UK,hrw]
         ·simp[BL,ar,bxs]
        |true=>
         simp -implicitDefEqProofs only[LY,seval,lF,hwo,ai]
         refine HL rfl ?_
         refine wh (L:=s.hs.map (nP s)++((d4 s.its).flatMap (lw s)++(s.os.take i).flatMap (mf s))) (f:=⟨4,s.os[i].ty+1,0⟩) (by simp[ar]) ⟨by decide,by simp⟩ rfl (by simp only[ax,ap];omega) ?_
         simp -implicitDefEqProofs only[pkA,seval,lF]
         refine ck (i+1) _ bF (by omega) (cj rfl (au _) (by simp) ?_ ?_)
         ·simp[FL,ar,hw,e,mf,UK,hrw]
         ·simp[BL,ar,bxs]
       |true=>
        simp -implicitDefEqProofs only[LY,seval,lF,hwo,ai]
        refine HL rfl ?_
        refine wh (L:=s.hs.map (nP s)++((d4 s.its).flatMap (lw s)++(s.os.take i).flatMap (mf s))) (f:=⟨3,s.os[i].ty+1,0⟩) (by simp[ar]) ⟨by decide,by simp⟩ rfl (by simp only[ax,ap];omega) ?_
        simp -implicitDefEqProofs only[HM,seval,lF,tsC,ai]
        refine aD («as»:=[.c (.sl (s.rs.map tmC)),.c (.fn (.func 51) [] [.rp (hdC s.os[i]) 0])]) rfl hCF (fun _=>rfl) ?_
        cases hrw:s.rs.any (fun t=>decide (t=s.os[i].va)) with
        |false=>
         simp -implicitDefEqProofs only[pkA,seval]
         refine ck (i+1) _ bF (by omega) (cj rfl (au _) (by simp) ?_ ?_)
         ·simp[FL,ar,hw,e,mf,UK,hrw]
         ·simp[BL,ar,bxs]
        |true=>
         simp -implicitDefEqProofs only[LY,seval,lF,hwo,ai]
         refine HL rfl ?_
         refine wh (L:=(s.hs.map (nP s)++((d4 s.its).flatMap (lw s)++(s.os.take i).flatMap (mf s)))++[⟨3,s.os[i].ty+1,0⟩]) (f:=⟨4,s.os[i].ty+1,0⟩) (by simp[ar]) ⟨by decide,by simp⟩ rfl (by simp only[ax,ap,aB,aK];omega) ?_
         simp -implicitDefEqProofs only[pkA,seval,lF]
         refine ck (i+1) _ bF (by omega) (cj rfl (au _) (by simp) ?_ ?_)
         ·simp[FL,ar,hw,e,mf,UK,hrw]
         ·simp[BL,ar,bxs]
      ·have:i=s.os.length:=by simp at ga;omega
       subst this
       rw[dM (ae _)]
       simp -implicitDefEqProofs only[pkA]
       refine cG _ _ ?_
       simp -implicitDefEqProofs only[pkA,seval]
       have Mg:(EP s).length≤20000:=by
        have h3:=pg (l:=s.os) (f:=mf s) (b:=2) (fun t _=>by unfold mf;split<;>split<;>simp)
        unfold EP
        simp only[ax,ap];omega
       unfold pf
       have pq:s.hs.map (nP s)++((d4 s.its).flatMap (lw s)++s.os.flatMap (mf s))=EP s:=rfl
       rw[pq]
       generalize EP s=L at Mg
       by_cases hL:L=[]
       ·subst hL
        refine IQ rfl (.coolT (g:=none) (E:=none) (es:=[]) 3 rfl (.done ?_))
        simp -implicitDefEqProofs only[pkA,seval]
        refine xb rfl (FnOK.toB OK rfl) rfl ?_
        simp -implicitDefEqProofs only[pkA,seval,ff,dL,V.ren]
        refine xb rfl (FnOK.toB HI rfl) rfl ?_
        simp -implicitDefEqProofs only[pkA,seval,ff,dL,V.ren]
        have h0:pS []=[]:=by simp[pS,nY,ip,cpk]
        rw[KO,h0];rfl
       ·have rE:L.isEmpty=false:=by simpa using hL
        refine IQ rfl (.boxT (g:=none) (e:=62) (sz:=3) (es:=L.map faC) 3 (by show gsF L=_;unfold gsF;rw[rE];rfl) (.done ?_))
        have mK:(L.map faC).flatten.map V.c=flb faC L:=rfl
        simp -implicitDefEqProofs only[pkA,seval,ap,mK]
        refine LX (c0:=(L.map faC).flatten) (c1:=((nY L).map faC).flatten) 1 rfl (TG HG L (by omega) L.length (ae _)) rfl (ab rfl) rfl ?_
        simp -implicitDefEqProofs only[pkA,seval,V.ren]
        have hC:=J8 (G:=glM) (nY L) L.length (by rw[qx];exact ae _) (by rw[qx];omega)
        rw[qx] at hC
        refine LX (c0:=((nY L).map faC).flatten) (c1:=((ip (nY L)++List.replicate (L.length - (ip (nY L)).length) zf).map faC).flatten) 1 rfl hC rfl (ab rfl) rfl ?_
        simp -implicitDefEqProofs only[pkA,seval,V.ren,KO]
        show Option.map V.c (lT _ _ _ _ _)=some _
        rw[NN (c:=faC) (l:=ip (nY L)++List.replicate (L.length - (ip (nY L)).length) zf) (a:=0) jM (ab rfl) (by rfl) rfl (by simp)]
        simp only[eM,List.take_left]
        rfl
