/- Layer 16: generate, data. -/
import Derived.Test.YtegbpjodbjhjeaaGreatDoorVlMa
set_option linter.all false
namespace Go.Proofs.YtegbpjodbjhjeaaGreatDoor
open Go Go.Vl
open Kp (Pol Ty Ru Qu poC tyC ruC quC)
variable {G:Gl} {p:Pol} {s:Sy} {c:Cl}
set_option maxRecDepth 10000
theorem fe {P:Program} {st:S} {f:V} {args all cargs:List V} {g:FuncId} {K:S→V→Prop} {r:V} {p p':Pol} {s s':Sy} {c c':Cl} (q:Nat) (hc:dS f args=some (g,all)) (hf:FnB P G g cargs [mB p s c] r [mB p' s' c'])
 (hall:all.map V.fz=cargs.map (V.ren (rho [q] st.nb))) (hq:q<st.nb) (hb:st.bx q=mB p s c) (hr:r.ren (rho [q] st.nb)=r) (hK:K ⟨st.fr,up st.bx q (mB p' s' c'),st.nb⟩ r):vcallB P G st f args K:=gp q hc hf hall hq hb hr hK
theorem Kv {n:Int}:eF (mB p s c) 8 [i64 n]=mB p { s with fresh:=n } c:=rfl
theorem Ym:(mB p s c).length=14:=rfl
def s0:=jj @pkX (jj @pkA (jj @ptA @pkM))
def ta:=jj @pkX @pkA
theorem Uq (hp:p.types.length≤8) (hr:p.rules.length≤40) (hS:SyOk s):FnO Tryz.prog G 80 [.bp 0 0] [mB p s c] (oP (doM p s c 12)) (.tup []) [mB p (stO s (doM p s c 12)) c]:=by
 refine ij (rs:=[]) (k:=1) [3000001,2900000,2900001,1000024] mixed Tryz.func80 rfl rfl rfl rfl (by kernel_rfl) (by simp) rfl rfl rfl (df rfl) (ae _) ?_
 simp -implicitDefEqProofs only[s0,aV,seval,ah,ai]
 have hno:inI c.t 2147483648=false→doM p s c 12=.error 1:=fun h=>by simp only[doM,h,dR];rfl
 by_cases h0:0≤c.t
 ·by_cases h1:c.t<2147483648
  ·have hin:inI c.t 2147483648=true:=by simp[inI,h0,h1]
   simp -implicitDefEqProofs only[s0,aV,seval,ah,ai,h0,h1,ai]
   left
   refine aD rfl (fW 1) (fun _=>rfl) ?_
   simp -implicitDefEqProofs only[s0,aV,seval,ah,ai]
   left
   refine aD («as»:=[i64 1,i64 c.t,.c (tsC [])]) rfl (of_ok 1 c.t []) (fun h=>(by cases h)) ?_
   simp -implicitDefEqProofs only[ta,aV,seval]
   cases hG:ft s (.mk 1 c.t []) with
   |error e=>
    have hD:doM p s c 12=.error e:=by simp only[doM,okb,hin,dR,cA,hG]
    rw[hD]
    exact .inr (eM 0 rfl rfl (nn hS HF hG) rfl (ab rfl) rfl aY (cG (ae _) rfl (ab rfl) (by simp[BL,bxs,stO])))
   |ok s'=>
    left
    refine gp 0 rfl (nl hS HF hG) rfl (ab rfl) rfl rfl ?_
    try simp -implicitDefEqProofs only[ta]
    have hD:doM p s c 12=.ok s':=by simp only[doM,okb,hin,dR,cA,hG]
    simp only[hD,oQ,oP,stO]
    exact dj [] rfl rfl (ae _) (ab rfl) trivial ⟨rfl,trivial⟩ cV
  ·rw[hno (by simp[inI,h1])]
   simp -implicitDefEqProofs only[s0,aV,seval,ah,ai,h0,h1,ai,bE]
   exact .inr (qN rfl rfl (jf 1) rfl (cG (ae _) rfl (ab rfl) (by simp[BL,bxs,stO])))
 ·rw[hno (by simp[inI,h0])]
  simp -implicitDefEqProofs only[ta,aV,seval,h0,bE]
  exact .inr (qN rfl rfl (jf 1) rfl (cG (ae _) rfl (ab rfl) (by simp[BL,bxs,stO])))
def uP:=jj @pkX (jj @pkA (jj @ptA (jj @pkM @pkT)))
def zj:=jj @pkA (jj @ptA (jj @pkM @pkT))
def uQ:=jj @pkA (jj @ptA (jj @pkM (jj @pkT @pkH)))
set_option maxHeartbeats 1000000 in
theorem DW (hp:p.types.length≤8) (hr:p.rules.length≤40) (hS:SyOk s):FnO Tryz.prog G 69 [.bp 0 0] [mB p s c] (oP (doM p s c 1)) (.tup []) [mB p (stO s (doM p s c 1)) c]:=by
 refine ij (rs:=[]) (k:=1) [3000001,2900000,2900001,2900003,1900004,1900011,1000025,1000033] mixed Tryz.func69 rfl rfl rfl rfl (by kernel_rfl) (by simp) rfl rfl rfl (df rfl) (ae _) ?_
 simp -implicitDefEqProofs only[ta,aV,seval,ah]
 cases hT:ni p c.t with
 |error e=>
  have hD:doM p s c 1=.error e:=by simp only[doM,erb,hT]
  rw[hD]
  exact .inr (eM 0 rfl rfl (oD hp hT) rfl (ab rfl) rfl aY (cG (ae _) rfl (ab rfl) (by simp[BL,bxs,stO])))
 |ok _u=>
 left
 refine cJ 0 rfl (oC hp hT) (fun _=>rfl) (ab rfl) rfl aY (fun _=>rfl) ?_
 simp -implicitDefEqProofs only[s0,aV,seval,ah,ai]
 cases hF:dR (j9 p c.t 1) 10 with
 |error e=>
  have hD:doM p s c 1=.error e:=by simp only[doM,okb,erb,hT,hF]
  rw[hD]
  exact .inr (eM 0 rfl rfl (zg hp hF) rfl (ab rfl) rfl aY (cG (ae _) rfl (ab rfl) (by simp[BL,bxs,stO])))
 |ok _v=>
 left
 refine cJ 0 rfl (ze hp hF) (fun _=>rfl) (ab rfl) rfl aY (fun _=>rfl) ?_
 simp -implicitDefEqProofs only[s0,seval,ah,ai]
 refine aD («as»:=[i64 2,i64 s.fresh,.c (tsC [])]) rfl (of_ok 2 s.fresh []) (fun h=>(by cases h)) ?_
 simp -implicitDefEqProofs only[uP,seval,ah,ai]
 cases hW:ll s c.t (.mk 2 s.fresh []) with
 |error e=>
  have hD:doM p s c 1=.error e:=by simp only[doM,okb,erb,hT,hF,hW]
  rw[hD]
  right
  refine fk (l:=[_,_,_,_,_,_,_]) rfl (by kernel_rfl) ?_
  simp -implicitDefEqProofs only[zj,seval]
  exact ff 0 rfl rfl (xg hS HF hW) rfl (ab rfl) rfl aY (cG (ae _) rfl (ab rfl) (by simp[BL,bxs,ar,stO]))
 |ok s1=>
 left
 try simp -implicitDefEqProofs only[uQ,seval]
 refine fe 0 rfl (xe hS HF hW) rfl (ab rfl) rfl rfl ?_
 obtain⟨hsz,hs1⟩:=lS hW
 have hm:=HC (G:=G) p s1 c c.t (.mk 2 s.fresh []) (by rw[hs1];have:=hS.on;have:=hS.hn;simp[hoS];omega)
 simp -implicitDefEqProofs only[uP,seval,ah,ai]
 refine fe 0 rfl hm rfl (ab rfl) rfl rfl ?_
 have hf1:(mkM s1 c.t (.mk 2 s.fresh [])).fresh=s.fresh:=by rw[hs1];rfl
 have hw:IntKind.i64.wrap ((mkM s1 c.t (.mk 2 s.fresh [])).fresh+1)=s.fresh+1:=by
  rw[hf1]
  have:=hS.fr;have:=hS.hn
  obtain⟨k,hk⟩:∃ k:Nat,s.fresh=k:=⟨s.fresh.toNat,by omega⟩
  rw[hk];exact wrap_i64 (k+1) (by omega)
 have hD:doM p s c 1=.ok { mkM s1 c.t (.mk 2 s.fresh []) with fresh:=s.fresh+1 }:=by simp only[doM,okb,hT,hF,hW]
 simp -implicitDefEqProofs only[s0,seval,ah,ai,hw,Kv,Ym]
 simp only[hD,oQ,oP,stO]
 exact dj [] rfl rfl (ae _) (ab rfl) trivial ⟨rfl,trivial⟩ cV
theorem aae {nb q:Nat} {K:V→Prop}:ldA nb q (mB p s c) 4 5 K=(q<nb∧K (.agg (syC s))):=by
 unfold ldA
 exact propext ⟨fun h=>⟨h.1,h.2.2⟩,fun h=>⟨h.1,⟨rfl,rfl⟩,h.2⟩⟩
def rwB (p:Pol) (s:Sy) (c:Cl):List V:=match doM p s c 10 with
 | .error _=>mB p s c
 | .ok s'=>mX p s' c (.c (hsC s'.hs)) (.c (tsC s'.its)) (.c (hsC s'.os)) (if s'.rs.length=s.rs.length then .c (tsC s'.rs) else .ow (some (47,3)) (s'.rs.map tmC))
theorem Yn:∀ b∈[rwB p s c],mi (b.map V.fz)=mi b:=fun b hb=>by
 rw[a8] at hb;subst hb
 unfold rwB
 split<;>rfl
theorem Yo {o:Ou} (h:doM p s c 10=o):oP o=none→[rwB p s c].map (·.map V.fz)=[mB p (stO s o) c]:=fun ho=>by
 unfold rwB
 rw[h]
 cases o with
 |error e=>cases ho
 |ok s'=>
  simp only[aI,bA,stO]
  split<;>rfl
theorem aaf {s':Sy} (h:doM p s c 10=.ok s') (hl:s'.rs=s.rs):rwB p s c=mB p s' c:=by
 unfold rwB
 rw[h]
 simp only[hl,cA]
 rw[← hl];rfl
theorem aag {s':Sy} (h:doM p s c 10=.ok s') (hl:s'.rs.length≠s.rs.length):rwB p s c=mX p s' c (.c (hsC s'.hs)) (.c (tsC s'.its)) (.c (hsC s'.os)) (.ow (some (47,3)) (s'.rs.map tmC)):=by
 unfold rwB
 rw[h]
 simp only[hl,cX]
def zk:=jj @pkA (jj @ptA @pkM)
def HH:=jj @pkX (jj @pkA (jj @ptA (jj @pkM (jj @pkT @pkH))))
def PD:=jj @pkX (jj @pkA (jj @ptA (jj @pkM @pkH)))
def U2:=jj @pkA (jj @ptA (jj @pkM @pkH))
set_option maxHeartbeats 1000000 in
theorem Bt (hp:p.types.length≤8) (hr:p.rules.length≤40) (hS:SyOk s):FnO Tryz.prog glM 78 [.bp 0 0] [mB p s c] (oP (doM p s c 10)) (.tup []) [mB p (stO s (doM p s c 10)) c]:=by
 refine vp (b2:=[rwB p s c]) (rs:=[]) (k:=1) [3000001,2900000,2900001,2900002,2900003,2900004,2900005,2800000,1900011,1900018,1900020,1900029,1900034,1900036,1000044] mixed Tryz.func78 rfl rfl rfl rfl (by kernel_rfl) (by simp) rfl rfl rfl (df rfl) (by simp) (by simp) Yn (Yo rfl) ?_
 simp only[ta,seval,ah]
 have hb:BL 0 [mB p s c] (bxs [mB p s c]):=⟨rfl,trivial⟩
 cases hA:ofI s.hs c.a with
 |error e=>
  have hD:doM p s c 10=.error e:=by simp only[doM,erb,hA]
  rw[hD]
  right
  refine gk 1000 6 [0,1,2,3,4,5] [7,8,9,10,11,12,14,15] (lA:=[_,_,_,_,_,_]) (lB:=[_,_,_,_,_,_,_,_]) rfl (by kernel_rfl) rfl rfl rfl ?_
  simp only[unA,unO,aI,bA,bQ,bK,bL]
  simp only[zk,seval]
  intro fr hfr
  have h4:=hfr 5 (by decide)
  have h9:=hfr 10 (by decide)
  refine ff 0 rfl (all:=[.bp 0 0,i64 c.a]) (g:=116) (by simp only[ev,aI,bA,h4,h9];rfl) (jS hS hA) (by rfl) (bn 0) rfl aY (cG (ae _) rfl (ae _) hb)
 |ok a=>
  cases hX:ofI s.its c.m with
  |error e=>
   have hD:doM p s c 10=.error e:=by simp only[doM,okb,erb,hA,hX]
   rw[hD]
   right
   refine gk 1000 13 [0,1,2,3,4,5,6,7,8,9,10,11,12] [14,15] (lA:=[_,_,_,_,_,_,_,_,_,_,_,_,_]) (lB:=[_,_]) rfl (by kernel_rfl) rfl rfl rfl ?_
   simp only[unA,unO,aI,bA,bQ,bK,bL]
   simp only[zk,seval]
   refine cJ 0 rfl (fA hS hA) (fun _=>rfl) (ab rfl) rfl aY (fun _=>rfl) ?_
   simp only[zk,seval]
   intro fr hfr
   have h4:=hfr 12 (by decide)
   have h9:=hfr 17 (by decide)
   refine ff 0 rfl (all:=[.bp 0 0,i64 c.m]) (g:=114) (by simp only[ev,aI,bA,h4,h9];rfl) (lN hS hX) (by rfl) (bn 0) rfl aY (cG (ae _) rfl (ae _) hb)
  |ok x=>
   left
   refine lT (n:=14) rfl rfl rfl ?_
   simp only[zk,seval]
   refine cJ 0 rfl (fA hS hA) (fun _=>rfl) (ab rfl) rfl aY (fun _=>rfl) ?_
   simp only[zk,seval]
   refine cJ 0 rfl (ka hS hX) (fun _=>rfl) (ab rfl) rfl aY (fun _=>rfl) ?_
   simp only[HH,aV,seval,ah,ai]
   refine⟨?_,?_⟩
   all_goals
    try simp only[HH,aV,seval,ah,ai]
    cases hT:ni p c.t with
    |error e=>
     have hD:doM p s c 10=.error e:=by simp only[doM,okb,erb,hA,hX,hT]
     rw[hD]
     exact .inr (eM 0 rfl rfl (oD hp hT) rfl (ab rfl) rfl aY (cG (ae _) rfl (ab rfl) (by simp[BL,bxs,ar,stO])))
    |ok _u=>
     left
     refine cJ 0 rfl (oC hp hT) (fun _=>rfl) (ab rfl) rfl aY (fun _=>rfl) ?_
     try simp only[PD,seval,ah,ai]
     cases hY:dR (nA p 4 a.ty c.t) 10 with
     |error e=>
      have hD:doM p s c 10=.error e:=by simp only[doM,okb,erb,hA,hX,hT,hY]
      rw[hD]
      right
      refine fk (l:=[_,_,_,_,_,_,_,_]) rfl (by kernel_rfl) ?_
      simp only[U2,seval]
      exact ff 0 rfl rfl (DV hr hY) rfl (ab rfl) rfl aY (cG (ae _) rfl (ab rfl) (by simp[BL,bxs,ar,stO]))
     |ok _u=>
      left
      try simp only[uQ,seval]
      refine cJ 0 rfl (DU hr hY) (fun _=>rfl) (ab rfl) rfl aY (fun _=>rfl) ?_
      try simp only[pkX,pkA,ptA,pkT,pkH,aV,seval,ah,ai]
      cases hO:g8 x a.va [3] with
      |error e=>
       have hD:doM p s c 10=.error e:=by simp only[doM,okb,erb,hA,hX,hT,hY,hO]
       rw[hD]
       exact .inr (qY rfl rfl (Bq (eG hS hX) (fF hS hA).2.1 (by decide) (by simp) hO) rfl (cG (ae _) rfl (ab rfl) (by simp[BL,bxs,ar,stO])))
      |ok y=>
       left
       refine lU rfl (Bp (eG hS hX) (fF hS hA).2.1 (by decide) (by simp) hO) (fun _=>rfl) (fun _=>rfl) ?_
       try simp only[pkX,pkA,ptA,pkT,aV,seval,ah,ai]
       cases hK:dR (ey y) 1 with
       |error e=>
        have hD:doM p s c 10=.error e:=by simp only[doM,okb,erb,hA,hX,hT,hY,hO,hK]
        rw[hD]
        exact .inr (qY rfl rfl (qI hK) rfl (cG (ae _) rfl (ab rfl) (by simp[BL,bxs,ar,stO])))
       |ok _u=>
        left
        refine lU rfl (qH hK) (fun _=>rfl) (fun _=>rfl) ?_
        try simp only[uP,seval,ah,ai]
        cases hW:ll s c.t y with
        |error e=>
         have hD:doM p s c 10=.error e:=by simp only[doM,okb,erb,hA,hX,hT,hY,hO,hK,hW]
         rw[hD]
         right
         refine fk (l:=[_,_,_,_,_,_,_]) rfl (by kernel_rfl) ?_
         simp only[zj,seval]
         exact ff 0 rfl rfl (xg hS (bU (mN (eG hS hX) (by simp) hO).2 (by decide)) hW) rfl (ab rfl) rfl aY (cG (ae _) rfl (ab rfl) (by simp[BL,bxs,ar,stO]))
        |ok s'=>
         left
         try simp only[uQ,seval]
         refine fe 0 rfl (xe hS (bU (mN (eG hS hX) (by simp) hO).2 (by decide)) hW) rfl (ab rfl) rfl rfl ?_
         try simp only[uP,seval,ah,ai]
         obtain⟨hsz,rfl⟩:=lS hW
         have hy:=mN (eG hS hX) (by simp) hO
         have hD:doM p s c 10=.ok (if knS (hoS s c.t y) y=true then hoS s c.t y else { hoS s c.t y with rs:=(hoS s c.t y).rs++[y] }):=by simp only[doM,okb,hA,hX,hT,hY,hO,hK,hW]
         have hkn:knS (hoS s c.t y) y=knS s y:=rfl
         rw[hkn] at hD
         refine aD rfl (vu hS y hy.1 (by omega)) (fun _=>rfl) ?_
         simp only[ta,seval]
         cases hn:knS s y with
         |true=>
          rw[hn,if_pos rfl] at hD
          simp only[ta]
          simp only[hD,oQ,oP]
          rw[aaf hD rfl]
          exact dj [] rfl rfl (ae _) (ab rfl) trivial ⟨rfl,trivial⟩ cV
         |false=>
          rw[hn,if_neg (by decide)] at hD
          simp only[s0,seval,ah,ai,tsC,ap]
          refine Bm dm rfl dc (fun x hx=>by obtain⟨y,_,rfl⟩:=bF.1 hx;exact b8 y) (ap ..) ?_
          simp only[pkA,ptA,pkT,seval,ah,ai]
          rw[if_neg (by decide)]
          refine apT (by rw[ap];have:=hS.rn;have:=hS.hn;simp only[hoS];omega) (fun x hx=>by obtain⟨y,_,rfl⟩:=bF.1 hx;exact b8 y) (b8 y) ?_
          simp only[zk,seval,ah,ai]
          refine⟨ab rfl,?_⟩
          simp only[hD,oQ,oP]
          rw[aag hD (by simp[hoS])]
          exact dj [] rfl rfl (ae _) (ab rfl) trivial ⟨by simp only[hoS,eK,aI,bA];rfl,trivial⟩ cV
set_option maxHeartbeats 1000000 in
theorem Kw (hp:p.types.length≤8) (hr:p.rules.length≤40) (hS:SyOk s):FnO Tryz.prog glM 79 [.bp 0 0] [mB p s c] (oP (doM p s c 11)) (.tup []) [mB p (stO s (doM p s c 11)) c]:=by
 refine ij (rs:=[]) (k:=1) [3000001,2900000,2900001,2900002,2900005,1900011,1900013,1900022,1000057,1000066] mixed Tryz.func79 rfl rfl rfl rfl (by kernel_rfl) (by simp) rfl rfl rfl (df rfl) (ae _) ?_
 simp only[s0,aV,seval,ah,ai]
 have hb:BL 0 [mB p s c] (bxs [mB p s c]):=⟨rfl,trivial⟩
 cases hA:ofI s.hs c.a with
 |error e=>
  have hD:doM p s c 11=.error e:=by simp only[doM,erb,hA]
  rw[hD]
  exact .inr (eM 0 rfl rfl (jS hS hA) rfl (ab rfl) rfl aY (cG (ae _) rfl (ab rfl) (by simp[BL,bxs,stO])))
 |ok a=>
  left
  refine cJ 0 rfl (fA hS hA) (fun _=>rfl) (ab rfl) rfl aY (fun _=>rfl) ?_
  try simp only[PD,aV,seval,ah,ai]
  cases hT:ni p c.t with
  |error e=>
   have hD:doM p s c 11=.error e:=by simp only[doM,okb,erb,hA,hT]
   rw[hD]
   exact .inr (eM 0 rfl rfl (oD hp hT) rfl (ab rfl) rfl aY (cG (ae _) rfl (ab rfl) (by simp[BL,bxs,ar,stO])))
  |ok _u=>
   left
   refine cJ 0 rfl (oC hp hT) (fun _=>rfl) (ab rfl) rfl aY (fun _=>rfl) ?_
   try simp only[PD,seval,ah,ai]
   cases hY:dR (nA p 5 a.ty c.t) 10 with
   |error e=>
    have hD:doM p s c 11=.error e:=by simp only[doM,okb,erb,hA,hT,hY]
    rw[hD]
    right
    refine fk (l:=[_,_,_,_,_,_,_,_]) rfl (by kernel_rfl) ?_
    simp only[U2,seval]
    exact ff 0 rfl rfl (DV hr hY) rfl (ab rfl) rfl aY (cG (ae _) rfl (ab rfl) (by simp[BL,bxs,ar,stO]))
   |ok _u=>
    left
    try simp only[uQ,seval]
    refine cJ 0 rfl (DU hr hY) (fun _=>rfl) (ab rfl) rfl aY (fun _=>rfl) ?_
    try simp only[HH,seval,ah,ai]
    try simp only[uQ,seval]
    refine aD («as»:=[i64 5,i64 c.t,.c (tsC [a.va])]) rfl (of_ok 5 c.t [a.va]) (fun h=>(by cases h)) ?_
    try simp only[HH,seval,ah,ai]
    have hv:=fF hS hA
    refine aD rfl (vu hS a.va hv.1 (by omega)) (fun _=>rfl) ?_
    cases hn:knS s a.va with
    |true=>
     simp only[uP,seval,ah,ai]
     cases hW:ll s c.t (.mk 5 c.t [a.va]) with
     |error e=>
      have hD:doM p s c 11=.error e:=by simp only[doM,okb,erb,hA,hT,hY,hW]
      rw[hD]
      right
      refine fk (l:=[_,_,_,_,_,_,_]) rfl (by kernel_rfl) ?_
      simp only[zj,seval]
      exact ff 0 rfl rfl (xg hS (sY (fF hS hA).2.1) hW) rfl (ab rfl) rfl aY (cG (ae _) rfl (ab rfl) (by simp[BL,bxs,ar,stO]))
     |ok s1=>
      left
      try simp only[uQ,seval]
      refine fe 0 rfl (xe hS (sY (fF hS hA).2.1) hW) rfl (ab rfl) rfl rfl ?_
      obtain⟨hsz,rfl⟩:=lS hW
      try simp only[ta,seval]
      have hD:doM p s c 11=.ok (hoS s c.t (.mk 5 c.t [a.va])):=by
       simp only[doM,okb,hA,hT,hY,hW]
       rw[if_neg (fun h=>by rw[hn] at h;cases h.1)]
      simp only[hD,oQ,oP,stO]
      exact dj [] rfl rfl (ae _) (ab rfl) trivial ⟨rfl,trivial⟩ cV
    |false=>
     simp only[zj,seval,ah,ai,aae]
     refine aD rfl (zi hS (.mk 5 c.t [a.va]) (sY hv.2.1)) (fun _=>rfl) ?_
     by_cases ho:orS s (.mk 5 c.t [a.va])<0
     ·simp only[uP,seval,ah,ai,ho,ai]
      cases hW:ll s c.t (.mk 5 c.t [a.va]) with
      |error e=>
       have hD:doM p s c 11=.error e:=by simp only[doM,okb,erb,hA,hT,hY,hW]
       rw[hD]
       right
       refine fk (l:=[_,_,_,_,_,_,_]) rfl (by kernel_rfl) ?_
       simp only[zj,seval]
       exact ff 0 rfl rfl (xg hS (sY (fF hS hA).2.1) hW) rfl (ab rfl) rfl aY (cG (ae _) rfl (ab rfl) (by simp[BL,bxs,ar,stO]))
      |ok s1=>
       left
       try simp only[uQ,seval]
       refine fe 0 rfl (xe hS (sY (fF hS hA).2.1) hW) rfl (ab rfl) rfl rfl ?_
       obtain⟨hsz,rfl⟩:=lS hW
       try simp only[uP,seval,ah,ai]
       have hD:doM p s c 11=.ok (mkM (hoS s c.t (.mk 5 c.t [a.va])) c.t (.mk 5 c.t [a.va])):=by
        simp only[doM,okb,hA,hT,hY,hW]
        rw[if_pos ⟨hn,ho⟩]
       have hm:=HC (G:=glM) p (hoS s c.t (.mk 5 c.t [a.va])) c c.t (.mk 5 c.t [a.va]) (by have:=hS.on;have:=hS.hn;simp only[hoS];omega)
       refine fe 0 rfl hm rfl (ab rfl) rfl rfl ?_
       try simp only[pkA]
       simp only[hD,oQ,oP,stO]
       exact dj [] rfl rfl (ae _) (ab rfl) trivial ⟨rfl,trivial⟩ cV
     ·simp only[uP,seval,ah,ai,ho,bE]
      cases hW:ll s c.t (.mk 5 c.t [a.va]) with
      |error e=>
       have hD:doM p s c 11=.error e:=by simp only[doM,okb,erb,hA,hT,hY,hW]
       rw[hD]
       right
       refine fk (l:=[_,_,_,_,_,_,_]) rfl (by kernel_rfl) ?_
       simp only[zj,seval]
       exact ff 0 rfl rfl (xg hS (sY (fF hS hA).2.1) hW) rfl (ab rfl) rfl aY (cG (ae _) rfl (ab rfl) (by simp[BL,bxs,ar,stO]))
      |ok s1=>
       left
       try simp only[uQ,seval]
       refine fe 0 rfl (xe hS (sY (fF hS hA).2.1) hW) rfl (ab rfl) rfl rfl ?_
       obtain⟨hsz,rfl⟩:=lS hW
       try simp only[ta,seval]
       have hD:doM p s c 11=.ok (hoS s c.t (.mk 5 c.t [a.va])):=by
        simp only[doM,okb,hA,hT,hY,hW]
        rw[if_neg (fun h=>ho h.2)]
       simp only[hD,oQ,oP,stO]
       exact dj [] rfl rfl (ae _) (ab rfl) trivial ⟨rfl,trivial⟩ cV
