/- Layer 16: generate, data. -/
import Derived.Test.YtegbpjodbjhjeaaGreatDoorVlMa
set_option linter.all false
namespace Go.Proofs.YtegbpjodbjhjeaaGreatDoor
open Go Go.Vl
open Kp (Pol Ty Ru Qu poC tyC ruC quC)
variable {G:Gl} {p:Pol} {s:Sy} {c:Cl}
set_option maxRecDepth 10000
theorem fS {P:Program} {st:S} {f:V} {args all cargs:List V} {g:FuncId} {K:S→V→Prop} {r:V} {p p':Pol} {s s':Sy} {c c':Cl} (q:Nat) (hc:eI f args=some (g,all)) (hf:FnB P G g cargs [mB p s c] r [mB p' s' c'])
 (dh:all.map V.fz=cargs.map (V.ren (rho [q] st.nb))) (hq:q<st.nb) (hb:st.bx q=mB p s c) (hr:r.ren (rho [q] st.nb)=r) (hK:K ⟨st.fr,up st.bx q (mB p' s' c'),st.nb⟩ r):vcallB P G st f args K:=iz q hc hf dh hq hb hr hK
theorem PK {n:Int}:eU (mB p s c) 8 [i64 n]=mB p { s with fresh:=n } c:=rfl
theorem acu:(mB p s c).length=14:=rfl
def xh:=jj @pkX (jj @pkA (jj @ptA @pkM))
def xi:=jj @pkX @pkA
theorem Yy (hp:p.types.length≤8) (hr:p.rules.length≤40) (hS:SyOk s):FnO Tryz.prog G 80 [.bp 0 0] [mB p s c] (oP (doM p s c 12)) (.tup []) [mB p (stO s (doM p s c 12)) c]:=by
 refine jo (rs:=[]) (k:=1) [3000001,2900000,2900001,1000024] mixed Tryz.func80 rfl rfl rfl rfl (by kernel_rfl) (by simp) rfl rfl rfl (dI rfl) (ae _) ?_
 simp -implicitDefEqProofs only[xh,ba,seval,ah,ai]
 have fm:inI c.t 2147483648=false→doM p s c 12=.error 1:=fun h=>by simp only[doM,h,eH];rfl
 by_cases h0:0≤c.t
 ·by_cases h1:c.t<2147483648
  ·have fJ:inI c.t 2147483648=true:=by simp[inI,h0,h1]
   simp -implicitDefEqProofs only[xh,ba,seval,ah,ai,h0,h1,ai]
   left
   refine ay rfl (ic 1) (fun _=>rfl) ?_
   simp -implicitDefEqProofs only[xh,ba,seval,ah,ai]
   left
   refine ay («as»:=[i64 1,i64 c.t,.c (tsC [])]) rfl (of_ok 1 c.t []) (fun h=>(by cases h)) ?_
   simp -implicitDefEqProofs only[xi,ba,seval]
   cases hG:gk s (.mk 1 c.t []) with
   |error e=>
    have hD:doM p s c 12=.error e:=by simp only[doM,okb,fJ,eH,cL,hG]
    rw[hD]
    exact .inr (ft 0 rfl rfl (pG hS MZ hG) rfl (ab rfl) rfl bf (cY (ae _) rfl (ab rfl) (by simp[BL,bxs,stO])))
   |ok s'=>
    left
    refine iz 0 rfl (pF hS MZ hG) rfl (ab rfl) rfl rfl ?_
    try simp -implicitDefEqProofs only[xi]
    have hD:doM p s c 12=.ok s':=by simp only[doM,okb,fJ,eH,cL,hG]
    simp only[hD,oQ,oP,stO]
    exact dP [] rfl rfl (ae _) (ab rfl) trivial ⟨rfl,trivial⟩ dx
  ·rw[fm (by simp[inI,h1])]
   simp -implicitDefEqProofs only[xh,ba,seval,ah,ai,h0,h1,ai,bK]
   exact .inr (uM rfl rfl (j9 1) rfl (cY (ae _) rfl (ab rfl) (by simp[BL,bxs,stO])))
 ·rw[fm (by simp[inI,h0])]
  simp -implicitDefEqProofs only[xi,ba,seval,h0,bK]
  exact .inr (uM rfl rfl (j9 1) rfl (cY (ae _) rfl (ab rfl) (by simp[BL,bxs,stO])))
def y9:=jj @pkX (jj @pkA (jj @ptA (jj @pkM @pkT)))
def DG:=jj @pkA (jj @ptA (jj @pkM @pkT))
def za:=jj @pkA (jj @ptA (jj @pkM (jj @pkT @pkH)))
set_option maxHeartbeats 1000000 in
theorem IE (hp:p.types.length≤8) (hr:p.rules.length≤40) (hS:SyOk s):FnO Tryz.prog G 69 [.bp 0 0] [mB p s c] (oP (doM p s c 1)) (.tup []) [mB p (stO s (doM p s c 1)) c]:=by
 refine jo (rs:=[]) (k:=1) [3000001,2900000,2900001,2900003,1900004,1900011,1000025,1000033] mixed Tryz.func69 rfl rfl rfl rfl (by kernel_rfl) (by simp) rfl rfl rfl (dI rfl) (ae _) ?_
 simp -implicitDefEqProofs only[xi,ba,seval,ah]
 cases hT:pC p c.t with
 |error e=>
  have hD:doM p s c 1=.error e:=by simp only[doM,erb,hT]
  rw[hD]
  exact .inr (ft 0 rfl rfl (qQ hp hT) rfl (ab rfl) rfl bf (cY (ae _) rfl (ab rfl) (by simp[BL,bxs,stO])))
 |ok _u=>
 left
 refine da 0 rfl (qP hp hT) (fun _=>rfl) (ab rfl) rfl bf (fun _=>rfl) ?_
 simp -implicitDefEqProofs only[xh,ba,seval,ah,ai]
 cases hF:eH (jE p c.t 1) 10 with
 |error e=>
  have hD:doM p s c 1=.error e:=by simp only[doM,okb,erb,hT,hF]
  rw[hD]
  exact .inr (ft 0 rfl rfl (Dz hp hF) rfl (ab rfl) rfl bf (cY (ae _) rfl (ab rfl) (by simp[BL,bxs,stO])))
 |ok _v=>
 left
 refine da 0 rfl (Dy hp hF) (fun _=>rfl) (ab rfl) rfl bf (fun _=>rfl) ?_
 simp -implicitDefEqProofs only[xh,seval,ah,ai]
 refine ay («as»:=[i64 2,i64 s.fresh,.c (tsC [])]) rfl (of_ok 2 s.fresh []) (fun h=>(by cases h)) ?_
 simp -implicitDefEqProofs only[y9,seval,ah,ai]
 cases hW:m7 s c.t (.mk 2 s.fresh []) with
 |error e=>
  have hD:doM p s c 1=.error e:=by simp only[doM,okb,erb,hT,hF,hW]
  rw[hD]
  right
  refine fY (l:=[_,_,_,_,_,_,_]) rfl (by kernel_rfl) ?_
  simp -implicitDefEqProofs only[DG,seval]
  exact fU 0 rfl rfl (BA hS MZ hW) rfl (ab rfl) rfl bf (cY (ae _) rfl (ab rfl) (by simp[BL,bxs,au,stO]))
 |ok s1=>
 left
 try simp -implicitDefEqProofs only[za,seval]
 refine fS 0 rfl (Bz hS MZ hW) rfl (ab rfl) rfl rfl ?_
 obtain⟨dZ,Qm⟩:=nE hW
 have hm:=MV (G:=G) p s1 c c.t (.mk 2 s.fresh []) (by rw[Qm];have:=hS.on;have:=hS.hn;simp[hoS];omega)
 simp -implicitDefEqProofs only[y9,seval,ah,ai]
 refine fS 0 rfl hm rfl (ab rfl) rfl rfl ?_
 have hf1:(mkM s1 c.t (.mk 2 s.fresh [])).fresh=s.fresh:=by rw[Qm];rfl
 have hw:IntKind.i64.wrap ((mkM s1 c.t (.mk 2 s.fresh [])).fresh+1)=s.fresh+1:=by
  rw[hf1]
  have:=hS.fr;have:=hS.hn
  obtain⟨k,hk⟩:∃ k:Nat,s.fresh=k:=⟨s.fresh.toNat,by omega⟩
  rw[hk];exact wrap_i64 (k+1) (by omega)
 have hD:doM p s c 1=.ok { mkM s1 c.t (.mk 2 s.fresh []) with fresh:=s.fresh+1 }:=by simp only[doM,okb,hT,hF,hW]
 simp -implicitDefEqProofs only[xh,seval,ah,ai,hw,PK,acu]
 simp only[hD,oQ,oP,stO]
 exact dP [] rfl rfl (ae _) (ab rfl) trivial ⟨rfl,trivial⟩ dx
theorem ae9 {nb q:Nat} {K:V→Prop}:ldA nb q (mB p s c) 4 5 K=(q<nb∧K (.agg (syC s))):=by
 unfold ldA
 exact propext ⟨fun h=>⟨h.1,h.2.2⟩,fun h=>⟨h.1,⟨rfl,rfl⟩,h.2⟩⟩
def rwB (p:Pol) (s:Sy) (c:Cl):List V:=match doM p s c 10 with
 | .error _=>mB p s c
 | .ok s'=>mX p s' c (.c (hsC s'.hs)) (.c (tsC s'.its)) (.c (hsC s'.os)) (if s'.rs.length=s.rs.length then .c (tsC s'.rs) else .ow (some (47,3)) (s'.rs.map tmC))
theorem acv:∀ b∈[rwB p s c],oe (b.map V.fz)=oe b:=fun b hb=>by
 rw[aP] at hb;subst hb
 unfold rwB
 split<;>rfl
theorem acw {o:Ou} (h:doM p s c 10=o):oP o=none→[rwB p s c].map (·.map V.fz)=[mB p (stO s o) c]:=fun ho=>by
 unfold rwB
 rw[h]
 cases o with
 |error e=>cases ho
 |ok s'=>
  simp only[aO,bI,stO]
  split<;>rfl
theorem afa {s':Sy} (h:doM p s c 10=.ok s') (hl:s'.rs=s.rs):rwB p s c=mB p s' c:=by
 unfold rwB
 rw[h]
 simp only[hl,cL]
 rw[← hl];rfl
theorem afb {s':Sy} (h:doM p s c 10=.ok s') (hl:s'.rs.length≠s.rs.length):rwB p s c=mX p s' c (.c (hsC s'.hs)) (.c (tsC s'.its)) (.c (hsC s'.os)) (.ow (some (47,3)) (s'.rs.map tmC)):=by
 unfold rwB
 rw[h]
 simp only[hl,dy]
def DI:=jj @pkA (jj @ptA @pkM)
def M4:=jj @pkX (jj @pkA (jj @ptA (jj @pkM (jj @pkT @pkH))))
def UJ:=jj @pkX (jj @pkA (jj @ptA (jj @pkM @pkH)))
def ZA:=jj @pkA (jj @ptA (jj @pkM @pkH))
set_option maxHeartbeats 1000000 in
theorem FZ (hp:p.types.length≤8) (hr:p.rules.length≤40) (hS:SyOk s):FnO Tryz.prog glM 78 [.bp 0 0] [mB p s c] (oP (doM p s c 10)) (.tup []) [mB p (stO s (doM p s c 10)) c]:=by
 refine zM (b2:=[rwB p s c]) (rs:=[]) (k:=1) [3000001,2900000,2900001,2900002,2900003,2900004,2900005,2800000,1900011,1900018,1900020,1900029,1900034,1900036,1000044] mixed Tryz.func78 rfl rfl rfl rfl (by kernel_rfl) (by simp) rfl rfl rfl (dI rfl) (by simp) (by simp) acv (acw rfl) ?_
 simp only[xi,seval,ah]
 have hb:BL 0 [mB p s c] (bxs [mB p s c]):=⟨rfl,trivial⟩
 cases hA:ofI s.hs c.a with
 |error e=>
  have hD:doM p s c 10=.error e:=by simp only[doM,erb,hA]
  rw[hD]
  right
  refine iy 1000 6 [0,1,2,3,4,5] [7,8,9,10,11,12,14,15] (lA:=[_,_,_,_,_,_]) (lB:=[_,_,_,_,_,_,_,_]) rfl (by kernel_rfl) rfl rfl rfl ?_
  simp only[unA,unO,aO,bI,b8,bQ,bR]
  simp only[DI,seval]
  intro fr jn
  have h4:=jn 5 (by decide)
  have h9:=jn 10 (by decide)
  refine fU 0 rfl (all:=[.bp 0 0,i64 c.a]) (g:=116) (by simp only[ev,aO,bI,h4,h9];rfl) (lg hS hA) (by rfl) (bz 0) rfl bf (cY (ae _) rfl (ae _) hb)
 |ok a=>
  cases hX:ofI s.its c.m with
  |error e=>
   have hD:doM p s c 10=.error e:=by simp only[doM,okb,erb,hA,hX]
   rw[hD]
   right
   refine iy 1000 13 [0,1,2,3,4,5,6,7,8,9,10,11,12] [14,15] (lA:=[_,_,_,_,_,_,_,_,_,_,_,_,_]) (lB:=[_,_]) rfl (by kernel_rfl) rfl rfl rfl ?_
   simp only[unA,unO,aO,bI,b8,bQ,bR]
   simp only[DI,seval]
   refine da 0 rfl (gy hS hA) (fun _=>rfl) (ab rfl) rfl bf (fun _=>rfl) ?_
   simp only[DI,seval]
   intro fr jn
   have h4:=jn 12 (by decide)
   have h9:=jn 17 (by decide)
   refine fU 0 rfl (all:=[.bp 0 0,i64 c.m]) (g:=114) (by simp only[ev,aO,bI,h4,h9];rfl) (nw hS hX) (by rfl) (bz 0) rfl bf (cY (ae _) rfl (ae _) hb)
  |ok x=>
   left
   refine nF (n:=14) rfl rfl rfl ?_
   simp only[DI,seval]
   refine da 0 rfl (gy hS hA) (fun _=>rfl) (ab rfl) rfl bf (fun _=>rfl) ?_
   simp only[DI,seval]
   refine da 0 rfl (lO hS hX) (fun _=>rfl) (ab rfl) rfl bf (fun _=>rfl) ?_
   simp only[M4,ba,seval,ah,ai]
   refine⟨?_,?_⟩
   all_goals
    try simp only[M4,ba,seval,ah,ai]
    cases hT:pC p c.t with
    |error e=>
     have hD:doM p s c 10=.error e:=by simp only[doM,okb,erb,hA,hX,hT]
     rw[hD]
     exact .inr (ft 0 rfl rfl (qQ hp hT) rfl (ab rfl) rfl bf (cY (ae _) rfl (ab rfl) (by simp[BL,bxs,au,stO])))
    |ok _u=>
     left
     refine da 0 rfl (qP hp hT) (fun _=>rfl) (ab rfl) rfl bf (fun _=>rfl) ?_
     try simp only[UJ,seval,ah,ai]
     cases hY:eH (mH p 4 a.ty c.t) 10 with
     |error e=>
      have hD:doM p s c 10=.error e:=by simp only[doM,okb,erb,hA,hX,hT,hY]
      rw[hD]
      right
      refine fY (l:=[_,_,_,_,_,_,_,_]) rfl (by kernel_rfl) ?_
      simp only[ZA,seval]
      exact fU 0 rfl rfl (ID hr hY) rfl (ab rfl) rfl bf (cY (ae _) rfl (ab rfl) (by simp[BL,bxs,au,stO]))
     |ok _u=>
      left
      try simp only[za,seval]
      refine da 0 rfl (IC hr hY) (fun _=>rfl) (ab rfl) rfl bf (fun _=>rfl) ?_
      try simp only[pkX,pkA,ptA,pkT,pkH,ba,seval,ah,ai]
      cases hO:jc x a.va [3] with
      |error e=>
       have hD:doM p s c 10=.error e:=by simp only[doM,okb,erb,hA,hX,hT,hY,hO]
       rw[hD]
       exact .inr (vb rfl rfl (FV (fj hS hX) (gG hS hA).2.1 (by decide) (by simp) hO) rfl (cY (ae _) rfl (ab rfl) (by simp[BL,bxs,au,stO])))
      |ok y=>
       left
       refine nG rfl (FU (fj hS hX) (gG hS hA).2.1 (by decide) (by simp) hO) (fun _=>rfl) (fun _=>rfl) ?_
       try simp only[pkX,pkA,ptA,pkT,ba,seval,ah,ai]
       cases hK:eH (eC y) 1 with
       |error e=>
        have hD:doM p s c 10=.error e:=by simp only[doM,okb,erb,hA,hX,hT,hY,hO,hK]
        rw[hD]
        exact .inr (vb rfl rfl (uy hK) rfl (cY (ae _) rfl (ab rfl) (by simp[BL,bxs,au,stO])))
       |ok _u=>
        left
        refine nG rfl (ux hK) (fun _=>rfl) (fun _=>rfl) ?_
        try simp only[y9,seval,ah,ai]
        cases hW:m7 s c.t y with
        |error e=>
         have hD:doM p s c 10=.error e:=by simp only[doM,okb,erb,hA,hX,hT,hY,hO,hK,hW]
         rw[hD]
         right
         refine fY (l:=[_,_,_,_,_,_,_]) rfl (by kernel_rfl) ?_
         simp only[DG,seval]
         exact fU 0 rfl rfl (BA hS (cj (oV (fj hS hX) (by simp) hO).2 (by decide)) hW) rfl (ab rfl) rfl bf (cY (ae _) rfl (ab rfl) (by simp[BL,bxs,au,stO]))
        |ok s'=>
         left
         try simp only[za,seval]
         refine fS 0 rfl (Bz hS (cj (oV (fj hS hX) (by simp) hO).2 (by decide)) hW) rfl (ab rfl) rfl rfl ?_
         try simp only[y9,seval,ah,ai]
         obtain⟨dZ,rfl⟩:=nE hW
         have hy:=oV (fj hS hX) (by simp) hO
         have hD:doM p s c 10=.ok (if knS (hoS s c.t y) y=true then hoS s c.t y else { hoS s c.t y with rs:=(hoS s c.t y).rs++[y] }):=by simp only[doM,okb,hA,hX,hT,hY,hO,hK,hW]
         have Qo:knS (hoS s c.t y) y=knS s y:=rfl
         rw[Qo] at hD
         refine ay rfl (zU hS y hy.1 (by omega)) (fun _=>rfl) ?_
         simp only[xi,seval]
         cases hn:knS s y with
         |true=>
          rw[hn,if_pos rfl] at hD
          simp only[xi]
          simp only[hD,oQ,oP]
          rw[afa hD rfl]
          exact dP [] rfl rfl (ae _) (ab rfl) trivial ⟨rfl,trivial⟩ dx
         |false=>
          rw[hn,if_neg (by decide)] at hD
          simp only[xh,seval,ah,ai,tsC,am]
          refine FS du rfl dl (fun x hx=>by obtain⟨y,_,rfl⟩:=br.1 hx;exact bG y) (am ..) ?_
          simp only[pkA,ptA,pkT,seval,ah,ai]
          rw[if_neg (by decide)]
          refine apT (by rw[am];have:=hS.rn;have:=hS.hn;simp only[hoS];omega) (fun x hx=>by obtain⟨y,_,rfl⟩:=br.1 hx;exact bG y) (bG y) ?_
          simp only[DI,seval,ah,ai]
          refine⟨ab rfl,?_⟩
          simp only[hD,oQ,oP]
          rw[afb hD (by simp[hoS])]
          exact dP [] rfl rfl (ae _) (ab rfl) trivial ⟨by simp only[hoS,dL,aO,bI];rfl,trivial⟩ dx
set_option maxHeartbeats 1000000 in
theorem PL (hp:p.types.length≤8) (hr:p.rules.length≤40) (hS:SyOk s):FnO Tryz.prog glM 79 [.bp 0 0] [mB p s c] (oP (doM p s c 11)) (.tup []) [mB p (stO s (doM p s c 11)) c]:=by
 refine jo (rs:=[]) (k:=1) [3000001,2900000,2900001,2900002,2900005,1900011,1900013,1900022,1000057,1000066] mixed Tryz.func79 rfl rfl rfl rfl (by kernel_rfl) (by simp) rfl rfl rfl (dI rfl) (ae _) ?_
 simp only[xh,ba,seval,ah,ai]
 have hb:BL 0 [mB p s c] (bxs [mB p s c]):=⟨rfl,trivial⟩
 cases hA:ofI s.hs c.a with
 |error e=>
  have hD:doM p s c 11=.error e:=by simp only[doM,erb,hA]
  rw[hD]
  exact .inr (ft 0 rfl rfl (lg hS hA) rfl (ab rfl) rfl bf (cY (ae _) rfl (ab rfl) (by simp[BL,bxs,stO])))
 |ok a=>
  left
  refine da 0 rfl (gy hS hA) (fun _=>rfl) (ab rfl) rfl bf (fun _=>rfl) ?_
  try simp only[UJ,ba,seval,ah,ai]
  cases hT:pC p c.t with
  |error e=>
   have hD:doM p s c 11=.error e:=by simp only[doM,okb,erb,hA,hT]
   rw[hD]
   exact .inr (ft 0 rfl rfl (qQ hp hT) rfl (ab rfl) rfl bf (cY (ae _) rfl (ab rfl) (by simp[BL,bxs,au,stO])))
  |ok _u=>
   left
   refine da 0 rfl (qP hp hT) (fun _=>rfl) (ab rfl) rfl bf (fun _=>rfl) ?_
   try simp only[UJ,seval,ah,ai]
   cases hY:eH (mH p 5 a.ty c.t) 10 with
   |error e=>
    have hD:doM p s c 11=.error e:=by simp only[doM,okb,erb,hA,hT,hY]
    rw[hD]
    right
    refine fY (l:=[_,_,_,_,_,_,_,_]) rfl (by kernel_rfl) ?_
    simp only[ZA,seval]
    exact fU 0 rfl rfl (ID hr hY) rfl (ab rfl) rfl bf (cY (ae _) rfl (ab rfl) (by simp[BL,bxs,au,stO]))
   |ok _u=>
    left
    try simp only[za,seval]
    refine da 0 rfl (IC hr hY) (fun _=>rfl) (ab rfl) rfl bf (fun _=>rfl) ?_
    try simp only[M4,seval,ah,ai]
    try simp only[za,seval]
    refine ay («as»:=[i64 5,i64 c.t,.c (tsC [a.va])]) rfl (of_ok 5 c.t [a.va]) (fun h=>(by cases h)) ?_
    try simp only[M4,seval,ah,ai]
    have hv:=gG hS hA
    refine ay rfl (zU hS a.va hv.1 (by omega)) (fun _=>rfl) ?_
    cases hn:knS s a.va with
    |true=>
     simp only[y9,seval,ah,ai]
     cases hW:m7 s c.t (.mk 5 c.t [a.va]) with
     |error e=>
      have hD:doM p s c 11=.error e:=by simp only[doM,okb,erb,hA,hT,hY,hW]
      rw[hD]
      right
      refine fY (l:=[_,_,_,_,_,_,_]) rfl (by kernel_rfl) ?_
      simp only[DG,seval]
      exact fU 0 rfl rfl (BA hS (xg (gG hS hA).2.1) hW) rfl (ab rfl) rfl bf (cY (ae _) rfl (ab rfl) (by simp[BL,bxs,au,stO]))
     |ok s1=>
      left
      try simp only[za,seval]
      refine fS 0 rfl (Bz hS (xg (gG hS hA).2.1) hW) rfl (ab rfl) rfl rfl ?_
      obtain⟨dZ,rfl⟩:=nE hW
      try simp only[xi,seval]
      have hD:doM p s c 11=.ok (hoS s c.t (.mk 5 c.t [a.va])):=by
       simp only[doM,okb,hA,hT,hY,hW]
       rw[if_neg (fun h=>by rw[hn] at h;cases h.1)]
      simp only[hD,oQ,oP,stO]
      exact dP [] rfl rfl (ae _) (ab rfl) trivial ⟨rfl,trivial⟩ dx
    |false=>
     simp only[DG,seval,ah,ai,ae9]
     refine ay rfl (DF hS (.mk 5 c.t [a.va]) (xg hv.2.1)) (fun _=>rfl) ?_
     by_cases ho:orS s (.mk 5 c.t [a.va])<0
     ·simp only[y9,seval,ah,ai,ho,ai]
      cases hW:m7 s c.t (.mk 5 c.t [a.va]) with
      |error e=>
       have hD:doM p s c 11=.error e:=by simp only[doM,okb,erb,hA,hT,hY,hW]
       rw[hD]
       right
       refine fY (l:=[_,_,_,_,_,_,_]) rfl (by kernel_rfl) ?_
       simp only[DG,seval]
       exact fU 0 rfl rfl (BA hS (xg (gG hS hA).2.1) hW) rfl (ab rfl) rfl bf (cY (ae _) rfl (ab rfl) (by simp[BL,bxs,au,stO]))
      |ok s1=>
       left
       try simp only[za,seval]
       refine fS 0 rfl (Bz hS (xg (gG hS hA).2.1) hW) rfl (ab rfl) rfl rfl ?_
       obtain⟨dZ,rfl⟩:=nE hW
       try simp only[y9,seval,ah,ai]
       have hD:doM p s c 11=.ok (mkM (hoS s c.t (.mk 5 c.t [a.va])) c.t (.mk 5 c.t [a.va])):=by
        simp only[doM,okb,hA,hT,hY,hW]
        rw[if_pos ⟨hn,ho⟩]
       have hm:=MV (G:=glM) p (hoS s c.t (.mk 5 c.t [a.va])) c c.t (.mk 5 c.t [a.va]) (by have:=hS.on;have:=hS.hn;simp only[hoS];omega)
       refine fS 0 rfl hm rfl (ab rfl) rfl rfl ?_
       try simp only[pkA]
       simp only[hD,oQ,oP,stO]
       exact dP [] rfl rfl (ae _) (ab rfl) trivial ⟨rfl,trivial⟩ dx
     ·simp only[y9,seval,ah,ai,ho,bK]
      cases hW:m7 s c.t (.mk 5 c.t [a.va]) with
      |error e=>
       have hD:doM p s c 11=.error e:=by simp only[doM,okb,erb,hA,hT,hY,hW]
       rw[hD]
       right
       refine fY (l:=[_,_,_,_,_,_,_]) rfl (by kernel_rfl) ?_
       simp only[DG,seval]
       exact fU 0 rfl rfl (BA hS (xg (gG hS hA).2.1) hW) rfl (ab rfl) rfl bf (cY (ae _) rfl (ab rfl) (by simp[BL,bxs,au,stO]))
      |ok s1=>
       left
       try simp only[za,seval]
       refine fS 0 rfl (Bz hS (xg (gG hS hA).2.1) hW) rfl (ab rfl) rfl rfl ?_
       obtain⟨dZ,rfl⟩:=nE hW
       try simp only[xi,seval]
       have hD:doM p s c 11=.ok (hoS s c.t (.mk 5 c.t [a.va])):=by
        simp only[doM,okb,hA,hT,hY,hW]
        rw[if_neg (fun h=>ho h.2)]
       simp only[hD,oQ,oP,stO]
       exact dP [] rfl rfl (ae _) (ab rfl) trivial ⟨rfl,trivial⟩ dx
