/- Layer 16: generate, data. -/
import Derived.Test.YtegbpjodbjhjeaaGreatDoorVlMa
set_option maxHeartbeats 1000000
set_option linter.all false
namespace Go.Proofs.YtegbpjodbjhjeaaGreatDoor
open Go Go.Vl
open Kp (Pol Ty Ru Qu poC tyC ruC quC)
variable {G:Gl} {p:Pol} {s:Sy} {c:Cl}
set_option maxRecDepth 10000
theorem fG {P:Program} {st:S} {f:V} {args all cargs:List V} {g:FuncId} {K:S→V→Prop} {r:V} {p p':Pol} {s s':Sy} {c c':Cl} (q:Nat) (hc:ew f args=some (g,all)) (hf:FnB P G g cargs [mB p s c] r [mB p' s' c'])
 (dh:all.map V.fz=cargs.map (V.ren (rho [q] st.nb))) (hq:q<st.nb) (hb:st.bx q=mB p s c) (hr:r.ren (rho [q] st.nb)=r) (hK:K ⟨st.fr,up st.bx q (mB p' s' c'),st.nb⟩ r):vcallB P G st f args K:=ig q hc hf dh hq hb hr hK
theorem OE {n:Int}:eU (mB p s c) 8 [i64 n]=mB p { s with fresh:=n } c:=rfl
theorem abe:(mB p s c).length=14:=rfl
def wa:=jj @pkX (jj @pkA (jj @ptA @pkM))
def wb:=jj @pkX @pkA
theorem Xi (hp:p.types.length≤8) (hr:p.rules.length≤40) (hS:SyOk s):FnO Tryz.prog G 80 [.bp 0 0] [mB p s c] (oP (doM p s c 12)) (.tup []) [mB p (stO s (doM p s c 12)) c]:=by
 refine jd (rs:=[]) (k:=1) [3000001,2900000,2900001,1000024] mixed Tryz.func80 rfl rfl rfl rfl (by kernel_rfl) (by simp) rfl rfl rfl (dA rfl) (ae _) ?_
 simp -implicitDefEqProofs only[wa,a8,seval,ah,ai]
 have fU:inI c.t 2147483648=false→doM p s c 12=.error 1:=fun h=>by simp only[doM,h,er];rfl
 by_cases h0:0≤c.t
 ·by_cases h1:c.t<2147483648
  ·have fy:inI c.t 2147483648=true:=by simp[inI,h0,h1]
   simp -implicitDefEqProofs only[wa,a8,seval,ah,ai,h0,h1,ai]
   left
   refine aD rfl (gU 1) (fun _=>rfl) ?_
   simp -implicitDefEqProofs only[wa,a8,seval,ah,ai]
   left
   refine aD («as»:=[i64 1,i64 c.t,.c (tsC [])]) rfl (of_ok 1 c.t []) (fun h=>(by cases h)) ?_
   simp -implicitDefEqProofs only[wb,a8,seval]
   cases hG:fP s (.mk 1 c.t []) with
   |error e=>
    have hD:doM p s c 12=.error e:=by simp only[doM,okb,fy,er,cJ,hG]
    rw[hD]
    exact .inr (fc 0 rfl rfl (pd hS LM hG) rfl (ab rfl) rfl bf (cT (ae _) rfl (ab rfl) (by simp[BL,bxs,stO])))
   |ok s'=>
    left
    refine ig 0 rfl (pa hS LM hG) rfl (ab rfl) rfl rfl ?_
    try simp -implicitDefEqProofs only[wb]
    have hD:doM p s c 12=.ok s':=by simp only[doM,okb,fy,er,cJ,hG]
    simp only[hD,oQ,oP,stO]
    exact dJ [] rfl rfl (ae _) (ab rfl) trivial ⟨rfl,trivial⟩ dl
  ·rw[fU (by simp[inI,h1])]
   simp -implicitDefEqProofs only[wa,a8,seval,ah,ai,h0,h1,ai,cd]
   exact .inr (tW rfl rfl (jY 1) rfl (cT (ae _) rfl (ab rfl) (by simp[BL,bxs,stO])))
 ·rw[fU (by simp[inI,h0])]
  simp -implicitDefEqProofs only[wb,a8,seval,h0,cd]
  exact .inr (tW rfl rfl (jY 1) rfl (cT (ae _) rfl (ab rfl) (by simp[BL,bxs,stO])))
def yh:=jj @pkX (jj @pkA (jj @ptA (jj @pkM @pkT)))
def Cw:=jj @pkA (jj @ptA (jj @pkM @pkT))
def yi:=jj @pkA (jj @ptA (jj @pkM (jj @pkT @pkH)))
theorem Hu (hp:p.types.length≤8) (hr:p.rules.length≤40) (hS:SyOk s):FnO Tryz.prog G 69 [.bp 0 0] [mB p s c] (oP (doM p s c 1)) (.tup []) [mB p (stO s (doM p s c 1)) c]:=by
 refine jd (rs:=[]) (k:=1) [3000001,2900000,2900001,2900003,1900004,1900011,1000025,1000033] mixed Tryz.func69 rfl rfl rfl rfl (by kernel_rfl) (by simp) rfl rfl rfl (dA rfl) (ae _) ?_
 simp -implicitDefEqProofs only[wb,a8,seval,ah]
 cases hT:o7 p c.t with
 |error e=>
  have hD:doM p s c 1=.error e:=by simp only[doM,erb,hT]
  rw[hD]
  exact .inr (fc 0 rfl rfl (qt hp hT) rfl (ab rfl) rfl bf (cT (ae _) rfl (ab rfl) (by simp[BL,bxs,stO])))
 |ok _u=>
 left
 refine cU 0 rfl (qq hp hT) (fun _=>rfl) (ab rfl) rfl bf (fun _=>rfl) ?_
 simp -implicitDefEqProofs only[wa,a8,seval,ah,ai]
 cases hF:er (kw p c.t 1) 10 with
 |error e=>
  have hD:doM p s c 1=.error e:=by simp only[doM,okb,erb,hT,hF]
  rw[hD]
  exact .inr (fc 0 rfl rfl (Cu hp hF) rfl (ab rfl) rfl bf (cT (ae _) rfl (ab rfl) (by simp[BL,bxs,stO])))
 |ok _v=>
 left
 refine cU 0 rfl (Ct hp hF) (fun _=>rfl) (ab rfl) rfl bf (fun _=>rfl) ?_
 simp -implicitDefEqProofs only[wa,seval,ah,ai]
 refine aD («as»:=[i64 2,i64 s.fresh,.c (tsC [])]) rfl (of_ok 2 s.fresh []) (fun h=>(by cases h)) ?_
 simp -implicitDefEqProofs only[yh,seval,ah,ai]
 cases hW:mJ s c.t (.mk 2 s.fresh []) with
 |error e=>
  have hD:doM p s c 1=.error e:=by simp only[doM,okb,erb,hT,hF,hW]
  rw[hD]
  right
  refine fL (l:=[_,_,_,_,_,_,_]) rfl (by kernel_rfl) ?_
  simp -implicitDefEqProofs only[Cw,seval]
  exact fH 0 rfl rfl (Az hS LM hW) rfl (ab rfl) rfl bf (cT (ae _) rfl (ab rfl) (by simp[BL,bxs,ar,stO]))
 |ok s1=>
 left
 try simp -implicitDefEqProofs only[yi,seval]
 refine fG 0 rfl (Ay hS LM hW) rfl (ab rfl) rfl rfl ?_
 obtain⟨dR,Pe⟩:=na hW
 have hm:=LJ (G:=G) p s1 c c.t (.mk 2 s.fresh []) (by rw[Pe];have:=hS.on;have:=hS.hn;simp[hoS];omega)
 simp -implicitDefEqProofs only[yh,seval,ah,ai]
 refine fG 0 rfl hm rfl (ab rfl) rfl rfl ?_
 have hf1:(mkM s1 c.t (.mk 2 s.fresh [])).fresh=s.fresh:=by rw[Pe];rfl
 have hw:IntKind.i64.wrap ((mkM s1 c.t (.mk 2 s.fresh [])).fresh+1)=s.fresh+1:=by
  rw[hf1]
  have:=hS.fr;have:=hS.hn
  obtain⟨k,hk⟩:∃ k:Nat,s.fresh=k:=⟨s.fresh.toNat,by omega⟩
  rw[hk];exact wrap_i64 (k+1) (by omega)
 have hD:doM p s c 1=.ok { mkM s1 c.t (.mk 2 s.fresh []) with fresh:=s.fresh+1 }:=by simp only[doM,okb,hT,hF,hW]
 simp -implicitDefEqProofs only[wa,seval,ah,ai,hw,OE,abe]
 simp only[hD,oQ,oP,stO]
 exact dJ [] rfl rfl (ae _) (ab rfl) trivial ⟨rfl,trivial⟩ dl
theorem ad1 {nb q:Nat} {K:V→Prop}:ldA nb q (mB p s c) 4 5 K=(q<nb∧K (.agg (syC s))):=by
 unfold ldA
 exact propext ⟨fun h=>⟨h.1,h.2.2⟩,fun h=>⟨h.1,⟨rfl,rfl⟩,h.2⟩⟩
def rwB (p:Pol) (s:Sy) (c:Cl):List V:=match doM p s c 10 with
 | .error _=>mB p s c
 | .ok s'=>mX p s' c (.c (hsC s'.hs)) (.c (tsC s'.its)) (.c (hsC s'.os)) (if s'.rs.length=s.rs.length then .c (tsC s'.rs) else .ow (some (47,3)) (s'.rs.map tmC))
theorem abf:∀ b∈[rwB p s c],nI (b.map V.fz)=nI b:=fun b hb=>by
 rw[aN] at hb;subst hb
 unfold rwB
 split<;>rfl
theorem abg {o:Ou} (h:doM p s c 10=o):oP o=none→[rwB p s c].map (·.map V.fz)=[mB p (stO s o) c]:=fun ho=>by
 unfold rwB
 rw[h]
 cases o with
 |error e=>cases ho
 |ok s'=>
  simp only[aL,bE,stO]
  split<;>rfl
theorem ad2 {s':Sy} (h:doM p s c 10=.ok s') (hl:s'.rs=s.rs):rwB p s c=mB p s' c:=by
 unfold rwB
 rw[h]
 simp only[hl,cJ]
 rw[← hl];rfl
theorem ad3 {s':Sy} (h:doM p s c 10=.ok s') (hl:s'.rs.length≠s.rs.length):rwB p s c=mX p s' c (.c (hsC s'.hs)) (.c (tsC s'.its)) (.c (hsC s'.os)) (.ow (some (47,3)) (s'.rs.map tmC)):=by
 unfold rwB
 rw[h]
 simp only[hl,dm]
def Cx:=jj @pkA (jj @ptA @pkM)
def LO:=jj @pkX (jj @pkA (jj @ptA (jj @pkM (jj @pkT @pkH))))
def Tx:=jj @pkX (jj @pkA (jj @ptA (jj @pkM @pkH)))
def Yk:=jj @pkA (jj @ptA (jj @pkM @pkH))
theorem EL (hp:p.types.length≤8) (hr:p.rules.length≤40) (hS:SyOk s):FnO Tryz.prog glM 78 [.bp 0 0] [mB p s c] (oP (doM p s c 10)) (.tup []) [mB p (stO s (doM p s c 10)) c]:=by
 refine yR (b2:=[rwB p s c]) (rs:=[]) (k:=1) [3000001,2900000,2900001,2900002,2900003,2900004,2900005,2800000,1900011,1900018,1900020,1900029,1900034,1900036,1000044] mixed Tryz.func78 rfl rfl rfl rfl (by kernel_rfl) (by simp) rfl rfl rfl (dA rfl) (by simp) (by simp) abf (abg rfl) ?_
 simp only[wb,seval,ah]
 have hb:BL 0 [mB p s c] (bxs [mB p s c]):=⟨rfl,trivial⟩
 cases hA:ofI s.hs c.a with
 |error e=>
  have hD:doM p s c 10=.error e:=by simp only[doM,erb,hA]
  rw[hD]
  right
  refine ic 1000 6 [0,1,2,3,4,5] [7,8,9,10,11,12,14,15] (lA:=[_,_,_,_,_,_]) (lB:=[_,_,_,_,_,_,_,_]) rfl (by kernel_rfl) rfl rfl rfl ?_
  simp only[unA,unO,aL,bE,bV,bL,bM]
  simp only[Cx,seval]
  intro fr jb
  have h4:=jb 5 (by decide)
  have h9:=jb 10 (by decide)
  refine fH 0 rfl (all:=[.bp 0 0,i64 c.a]) (g:=116) (by simp only[ev,aL,bE,h4,h9];rfl) (kP hS hA) (by rfl) (bq 0) rfl bf (cT (ae _) rfl (ae _) hb)
 |ok a=>
  cases hX:ofI s.its c.m with
  |error e=>
   have hD:doM p s c 10=.error e:=by simp only[doM,okb,erb,hA,hX]
   rw[hD]
   right
   refine ic 1000 13 [0,1,2,3,4,5,6,7,8,9,10,11,12] [14,15] (lA:=[_,_,_,_,_,_,_,_,_,_,_,_,_]) (lB:=[_,_]) rfl (by kernel_rfl) rfl rfl rfl ?_
   simp only[unA,unO,aL,bE,bV,bL,bM]
   simp only[Cx,seval]
   refine cU 0 rfl (fX hS hA) (fun _=>rfl) (ab rfl) rfl bf (fun _=>rfl) ?_
   simp only[Cx,seval]
   intro fr jb
   have h4:=jb 12 (by decide)
   have h9:=jb 17 (by decide)
   refine fH 0 rfl (all:=[.bp 0 0,i64 c.m]) (g:=114) (by simp only[ev,aL,bE,h4,h9];rfl) (m4 hS hX) (by rfl) (bq 0) rfl bf (cT (ae _) rfl (ae _) hb)
  |ok x=>
   left
   refine nc (n:=14) rfl rfl rfl ?_
   simp only[Cx,seval]
   refine cU 0 rfl (fX hS hA) (fun _=>rfl) (ab rfl) rfl bf (fun _=>rfl) ?_
   simp only[Cx,seval]
   refine cU 0 rfl (lu hS hX) (fun _=>rfl) (ab rfl) rfl bf (fun _=>rfl) ?_
   simp only[LO,a8,seval,ah,ai]
   refine⟨?_,?_⟩
   all_goals
    try simp only[LO,a8,seval,ah,ai]
    cases hT:o7 p c.t with
    |error e=>
     have hD:doM p s c 10=.error e:=by simp only[doM,okb,erb,hA,hX,hT]
     rw[hD]
     exact .inr (fc 0 rfl rfl (qt hp hT) rfl (ab rfl) rfl bf (cT (ae _) rfl (ab rfl) (by simp[BL,bxs,ar,stO])))
    |ok _u=>
     left
     refine cU 0 rfl (qq hp hT) (fun _=>rfl) (ab rfl) rfl bf (fun _=>rfl) ?_
     try simp only[Tx,seval,ah,ai]
     cases hY:er (oh p 4 a.ty c.t) 10 with
     |error e=>
      have hD:doM p s c 10=.error e:=by simp only[doM,okb,erb,hA,hX,hT,hY]
      rw[hD]
      right
      refine fL (l:=[_,_,_,_,_,_,_,_]) rfl (by kernel_rfl) ?_
      simp only[Yk,seval]
      exact fH 0 rfl rfl (Ht hr hY) rfl (ab rfl) rfl bf (cT (ae _) rfl (ab rfl) (by simp[BL,bxs,ar,stO]))
     |ok _u=>
      left
      try simp only[yi,seval]
      refine cU 0 rfl (Hr hr hY) (fun _=>rfl) (ab rfl) rfl bf (fun _=>rfl) ?_
      try simp only[pkX,pkA,ptA,pkT,pkH,a8,seval,ah,ai]
      cases hO:iS x a.va [3] with
      |error e=>
       have hD:doM p s c 10=.error e:=by simp only[doM,okb,erb,hA,hX,hT,hY,hO]
       rw[hD]
       exact .inr (uj rfl rfl (EH (eX hS hX) (gk hS hA).2.1 (by decide) (by simp) hO) rfl (cT (ae _) rfl (ab rfl) (by simp[BL,bxs,ar,stO])))
      |ok y=>
       left
       refine nf rfl (EG (eX hS hX) (gk hS hA).2.1 (by decide) (by simp) hO) (fun _=>rfl) (fun _=>rfl) ?_
       try simp only[pkX,pkA,ptA,pkT,a8,seval,ah,ai]
       cases hK:er (ej y) 1 with
       |error e=>
        have hD:doM p s c 10=.error e:=by simp only[doM,okb,erb,hA,hX,hT,hY,hO,hK]
        rw[hD]
        exact .inr (uj rfl rfl (tH hK) rfl (cT (ae _) rfl (ab rfl) (by simp[BL,bxs,ar,stO])))
       |ok _u=>
        left
        refine nf rfl (tG hK) (fun _=>rfl) (fun _=>rfl) ?_
        try simp only[yh,seval,ah,ai]
        cases hW:mJ s c.t y with
        |error e=>
         have hD:doM p s c 10=.error e:=by simp only[doM,okb,erb,hA,hX,hT,hY,hO,hK,hW]
         rw[hD]
         right
         refine fL (l:=[_,_,_,_,_,_,_]) rfl (by kernel_rfl) ?_
         simp only[Cw,seval]
         exact fH 0 rfl rfl (Az hS (bY (ol (eX hS hX) (by simp) hO).2 (by decide)) hW) rfl (ab rfl) rfl bf (cT (ae _) rfl (ab rfl) (by simp[BL,bxs,ar,stO]))
        |ok s'=>
         left
         try simp only[yi,seval]
         refine fG 0 rfl (Ay hS (bY (ol (eX hS hX) (by simp) hO).2 (by decide)) hW) rfl (ab rfl) rfl rfl ?_
         try simp only[yh,seval,ah,ai]
         obtain⟨dR,rfl⟩:=na hW
         have hy:=ol (eX hS hX) (by simp) hO
         have hD:doM p s c 10=.ok (if knS (hoS s c.t y) y=true then hoS s c.t y else { hoS s c.t y with rs:=(hoS s c.t y).rs++[y] }):=by simp only[doM,okb,hA,hX,hT,hY,hO,hK,hW]
         have UK:knS (hoS s c.t y) y=knS s y:=rfl
         rw[UK] at hD
         refine aD rfl (yY hS y hy.1 (by omega)) (fun _=>rfl) ?_
         simp only[wb,seval]
         cases hn:knS s y with
         |true=>
          rw[hn,if_pos rfl] at hD
          simp only[wb]
          simp only[hD,oQ,oP]
          rw[ad2 hD rfl]
          exact dJ [] rfl rfl (ae _) (ab rfl) trivial ⟨rfl,trivial⟩ dl
         |false=>
          rw[hn,if_neg (by decide)] at hD
          simp only[wa,seval,ah,ai,tsC,ap]
          refine EE dq rfl di (fun x hx=>by obtain⟨y,_,rfl⟩:=bu.1 hx;exact bI y) (ap ..) ?_
          simp only[pkA,ptA,pkT,seval,ah,ai]
          rw[if_neg (by decide)]
          refine apT (by rw[ap];have:=hS.rn;have:=hS.hn;simp only[hoS];omega) (fun x hx=>by obtain⟨y,_,rfl⟩:=bu.1 hx;exact bI y) (bI y) ?_
          simp only[Cx,seval,ah,ai]
          refine⟨ab rfl,?_⟩
          simp only[hD,oQ,oP]
          rw[ad3 hD (by simp[hoS])]
          exact dJ [] rfl rfl (ae _) (ab rfl) trivial ⟨by simp only[hoS,dG,aL,bE];rfl,trivial⟩ dl
theorem OF (hp:p.types.length≤8) (hr:p.rules.length≤40) (hS:SyOk s):FnO Tryz.prog glM 79 [.bp 0 0] [mB p s c] (oP (doM p s c 11)) (.tup []) [mB p (stO s (doM p s c 11)) c]:=by
 refine jd (rs:=[]) (k:=1) [3000001,2900000,2900001,2900002,2900005,1900011,1900013,1900022,1000057,1000066] mixed Tryz.func79 rfl rfl rfl rfl (by kernel_rfl) (by simp) rfl rfl rfl (dA rfl) (ae _) ?_
 simp only[wa,a8,seval,ah,ai]
 have hb:BL 0 [mB p s c] (bxs [mB p s c]):=⟨rfl,trivial⟩
 cases hA:ofI s.hs c.a with
 |error e=>
  have hD:doM p s c 11=.error e:=by simp only[doM,erb,hA]
  rw[hD]
  exact .inr (fc 0 rfl rfl (kP hS hA) rfl (ab rfl) rfl bf (cT (ae _) rfl (ab rfl) (by simp[BL,bxs,stO])))
 |ok a=>
  left
  refine cU 0 rfl (fX hS hA) (fun _=>rfl) (ab rfl) rfl bf (fun _=>rfl) ?_
  try simp only[Tx,a8,seval,ah,ai]
  cases hT:o7 p c.t with
  |error e=>
   have hD:doM p s c 11=.error e:=by simp only[doM,okb,erb,hA,hT]
   rw[hD]
   exact .inr (fc 0 rfl rfl (qt hp hT) rfl (ab rfl) rfl bf (cT (ae _) rfl (ab rfl) (by simp[BL,bxs,ar,stO])))
  |ok _u=>
   left
   refine cU 0 rfl (qq hp hT) (fun _=>rfl) (ab rfl) rfl bf (fun _=>rfl) ?_
   try simp only[Tx,seval,ah,ai]
   cases hY:er (oh p 5 a.ty c.t) 10 with
   |error e=>
    have hD:doM p s c 11=.error e:=by simp only[doM,okb,erb,hA,hT,hY]
    rw[hD]
    right
    refine fL (l:=[_,_,_,_,_,_,_,_]) rfl (by kernel_rfl) ?_
    simp only[Yk,seval]
    exact fH 0 rfl rfl (Ht hr hY) rfl (ab rfl) rfl bf (cT (ae _) rfl (ab rfl) (by simp[BL,bxs,ar,stO]))
   |ok _u=>
    left
    try simp only[yi,seval]
    refine cU 0 rfl (Hr hr hY) (fun _=>rfl) (ab rfl) rfl bf (fun _=>rfl) ?_
    try simp only[LO,seval,ah,ai]
    try simp only[yi,seval]
    refine aD («as»:=[i64 5,i64 c.t,.c (tsC [a.va])]) rfl (of_ok 5 c.t [a.va]) (fun h=>(by cases h)) ?_
    try simp only[LO,seval,ah,ai]
    have hv:=gk hS hA
    refine aD rfl (yY hS a.va hv.1 (by omega)) (fun _=>rfl) ?_
    cases hn:knS s a.va with
    |true=>
     simp only[yh,seval,ah,ai]
     cases hW:mJ s c.t (.mk 5 c.t [a.va]) with
     |error e=>
      have hD:doM p s c 11=.error e:=by simp only[doM,okb,erb,hA,hT,hY,hW]
      rw[hD]
      right
      refine fL (l:=[_,_,_,_,_,_,_]) rfl (by kernel_rfl) ?_
      simp only[Cw,seval]
      exact fH 0 rfl rfl (Az hS (v8 (gk hS hA).2.1) hW) rfl (ab rfl) rfl bf (cT (ae _) rfl (ab rfl) (by simp[BL,bxs,ar,stO]))
     |ok s1=>
      left
      try simp only[yi,seval]
      refine fG 0 rfl (Ay hS (v8 (gk hS hA).2.1) hW) rfl (ab rfl) rfl rfl ?_
      obtain⟨dR,rfl⟩:=na hW
      try simp only[wb,seval]
      have hD:doM p s c 11=.ok (hoS s c.t (.mk 5 c.t [a.va])):=by
       simp only[doM,okb,hA,hT,hY,hW]
       rw[if_neg (fun h=>by rw[hn] at h;cases h.1)]
      simp only[hD,oQ,oP,stO]
      exact dJ [] rfl rfl (ae _) (ab rfl) trivial ⟨rfl,trivial⟩ dl
    |false=>
     simp only[Cw,seval,ah,ai,ad1]
     refine aD rfl (Cv hS (.mk 5 c.t [a.va]) (v8 hv.2.1)) (fun _=>rfl) ?_
     by_cases ho:orS s (.mk 5 c.t [a.va])<0
     ·simp only[yh,seval,ah,ai,ho,ai]
      cases hW:mJ s c.t (.mk 5 c.t [a.va]) with
      |error e=>
       have hD:doM p s c 11=.error e:=by simp only[doM,okb,erb,hA,hT,hY,hW]
       rw[hD]
       right
       refine fL (l:=[_,_,_,_,_,_,_]) rfl (by kernel_rfl) ?_
       simp only[Cw,seval]
       exact fH 0 rfl rfl (Az hS (v8 (gk hS hA).2.1) hW) rfl (ab rfl) rfl bf (cT (ae _) rfl (ab rfl) (by simp[BL,bxs,ar,stO]))
      |ok s1=>
       left
       try simp only[yi,seval]
       refine fG 0 rfl (Ay hS (v8 (gk hS hA).2.1) hW) rfl (ab rfl) rfl rfl ?_
       obtain⟨dR,rfl⟩:=na hW
       try simp only[yh,seval,ah,ai]
       have hD:doM p s c 11=.ok (mkM (hoS s c.t (.mk 5 c.t [a.va])) c.t (.mk 5 c.t [a.va])):=by
        simp only[doM,okb,hA,hT,hY,hW]
        rw[if_pos ⟨hn,ho⟩]
       have hm:=LJ (G:=glM) p (hoS s c.t (.mk 5 c.t [a.va])) c c.t (.mk 5 c.t [a.va]) (by have:=hS.on;have:=hS.hn;simp only[hoS];omega)
       refine fG 0 rfl hm rfl (ab rfl) rfl rfl ?_
       try simp only[pkA]
       simp only[hD,oQ,oP,stO]
       exact dJ [] rfl rfl (ae _) (ab rfl) trivial ⟨rfl,trivial⟩ dl
     ·simp only[yh,seval,ah,ai,ho,cd]
      cases hW:mJ s c.t (.mk 5 c.t [a.va]) with
      |error e=>
       have hD:doM p s c 11=.error e:=by simp only[doM,okb,erb,hA,hT,hY,hW]
       rw[hD]
       right
       refine fL (l:=[_,_,_,_,_,_,_]) rfl (by kernel_rfl) ?_
       simp only[Cw,seval]
       exact fH 0 rfl rfl (Az hS (v8 (gk hS hA).2.1) hW) rfl (ab rfl) rfl bf (cT (ae _) rfl (ab rfl) (by simp[BL,bxs,ar,stO]))
      |ok s1=>
       left
       try simp only[yi,seval]
       refine fG 0 rfl (Ay hS (v8 (gk hS hA).2.1) hW) rfl (ab rfl) rfl rfl ?_
       obtain⟨dR,rfl⟩:=na hW
       try simp only[wb,seval]
       have hD:doM p s c 11=.ok (hoS s c.t (.mk 5 c.t [a.va])):=by
        simp only[doM,okb,hA,hT,hY,hW]
        rw[if_neg (fun h=>ho h.2)]
       simp only[hD,oQ,oP,stO]
       exact dJ [] rfl rfl (ae _) (ab rfl) trivial ⟨rfl,trivial⟩ dl
