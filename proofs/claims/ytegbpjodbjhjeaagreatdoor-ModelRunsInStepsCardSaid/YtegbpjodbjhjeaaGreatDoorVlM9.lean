/- Layer 16: the calls. (Printed by gen16.py.) -/
import Derived.Test.YtegbpjodbjhjeaaGreatDoorVlMa
set_option linter.all false
namespace Go.Proofs.YtegbpjodbjhjeaaGreatDoor
open Go Go.Vl
open Kp (Pol Ty Ru Qu poC tyC ruC quC)
variable {G:Gl} {p:Pol} {s:Sy} {c:Cl}
set_option maxRecDepth 10000
def uR:=jj @pkX @pkA
def np:=jj @pkA (jj @ptA @pkM)
def q0:=jj @pkX (jj @pkA (jj @ptA @pkT))
def PG:=jj @pkX (jj @pkA (jj @ptA (jj @pkM (jj @pkT @pkH))))
theorem DX (hp:p.types.length≤8) (hr:p.rules.length≤40) (hS:SyOk s):FnO Tryz.prog G 81 [.bp 0 0] [mB p s c] (oP (doM p s c 13)) (.tup []) [mB p (stO s (doM p s c 13)) c]:=by
 refine ij (rs:=[]) (k:=1) [3000001,2900000,2900001,2900002,2800000,1900010,1900017,1900019,1000025] mixed Tryz.func81 rfl rfl rfl rfl (by kernel_rfl) (by simp) rfl rfl rfl (df rfl) (ae _) ?_
 simp only[uR,seval,ah]
 have hb:BL 0 [mB p s c] (bxs [mB p s c]):=⟨rfl,trivial⟩
 cases hA:ofI s.its c.a with
 |error e=>
  have hD:doM p s c 13=.error e:=by simp only[doM,erb,hA]
  rw[hD]
  right
  refine gk 1000 6 [0,1,2,3,4,5] [7,8,9,10,11,12,14,15] (lA:=[_,_,_,_,_,_]) (lB:=[_,_,_,_,_,_,_,_]) rfl (by kernel_rfl) rfl rfl rfl ?_
  simp only[unA,unO,aI,bA,bQ,bK,bL]
  simp only[np,seval]
  intro fr hfr
  have h4:=hfr 4 (by decide)
  have h9:=hfr 9 (by decide)
  refine ff 0 rfl (all:=[.bp 0 0,i64 c.a]) (g:=114) (by simp only[ev,aI,bA,h4,h9];rfl) (lN hS hA) (by rfl) (bn 0) rfl aY (cG (ae _) rfl (ae _) hb)
 |ok a=>
  cases hX:ofI s.its c.m with
  |error e=>
   have hD:doM p s c 13=.error e:=by simp only[doM,okb,erb,hA,hX]
   rw[hD]
   right
   refine gk 1000 13 [0,1,2,3,4,5,6,7,8,9,10,11,12] [14,15] (lA:=[_,_,_,_,_,_,_,_,_,_,_,_,_]) (lB:=[_,_]) rfl (by kernel_rfl) rfl rfl rfl ?_
   simp only[unA,unO,aI,bA,bQ,bK,bL]
   simp only[np,seval]
   refine cJ 0 rfl (ka hS hA) (fun _=>rfl) (ab rfl) rfl aY (fun _=>rfl) ?_
   simp only[np,seval]
   intro fr hfr
   have h4:=hfr 11 (by decide)
   have h9:=hfr 16 (by decide)
   refine ff 0 rfl (all:=[.bp 0 0,i64 c.m]) (g:=114) (by simp only[ev,aI,bA,h4,h9];rfl) (lN hS hX) (by rfl) (bn 0) rfl aY (cG (ae _) rfl (ae _) hb)
  |ok x=>
   left
   refine lT (n:=14) rfl rfl rfl ?_
   simp only[np,seval]
   refine cJ 0 rfl (ka hS hA) (fun _=>rfl) (ab rfl) rfl aY (fun _=>rfl) ?_
   simp only[np,seval]
   refine cJ 0 rfl (ka hS hX) (fun _=>rfl) (ab rfl) rfl aY (fun _=>rfl) ?_
   simp only[q0,aV,seval,ah,ai]
   refine⟨?_,?_⟩
   all_goals
    try simp only[PG,aV,seval,ah,ai]
    cases hK:dR (ey a) 1 with
    |error e=>
     have hD:doM p s c 13=.error e:=by simp only[doM,okb,erb,hA,hX,hK]
     rw[hD]
     exact .inr (qY rfl rfl (qI hK) rfl (cG (ae _) rfl (ab rfl) (by simp[BL,bxs,ar,stO])))
    |ok _u=>
     left
     refine lU rfl (qH hK) (fun _=>rfl) (fun _=>rfl) ?_
     try simp only[q0,aV,seval,ah,ai]
     left
     refine aD («as»:=[i64 3,i64 0,.c (tsC [a,x])]) rfl (of_ok 3 0 [a,x]) (fun h=>(by cases h)) ?_
     simp only[uR,aV,seval]
     cases hG:ft s (gQ a x) with
     |error e=>
      have hD:doM p s c 13=.error e:=by simp only[doM,okb,hA,hX,hK,hG]
      rw[hD]
      exact .inr (eM 0 rfl rfl (nn hS (pz (eG hS hA).2 (eG hS hX).2) hG) rfl (ab rfl) rfl aY (cG (ae _) rfl (ab rfl) (by simp[BL,bxs,ar,stO])))
     |ok s'=>
      left
      refine gp 0 rfl (nl hS (pz (eG hS hA).2 (eG hS hX).2) hG) rfl (ab rfl) rfl rfl ?_
      try simp only[uR]
      have hD:doM p s c 13=.ok s':=by simp only[doM,okb,hA,hX,hK,hG]
      simp only[hD,oQ,oP,stO]
      exact dj [] rfl rfl (ae _) (ab rfl) trivial ⟨rfl,trivial⟩ cV
def PH:=jj @pkX (jj @pkA (jj @ptA (jj @pkM @pkT)))
def PI:=jj @pkA (jj @ptA (jj @pkM @pkT))
def PK:=jj @pkA (jj @ptA (jj @pkM (jj @pkT @pkH)))
theorem Gm (hp:p.types.length≤8) (hr:p.rules.length≤40) (hS:SyOk s):FnO Tryz.prog G 82 [.bp 0 0] [mB p s c] (oP (doM p s c 14)) (.tup []) [mB p (stO s (doM p s c 14)) c]:=by
 refine ij (rs:=[]) (k:=1) [3000001,2900000,2900001,2900002,2900003,2900004,2800000,1900010,1900017,1900019,1900021,1900023,1000034] mixed Tryz.func82 rfl rfl rfl rfl (by kernel_rfl) (by simp) rfl rfl rfl (df rfl) (ae _) ?_
 simp only[uR,seval,ah]
 have hb:BL 0 [mB p s c] (bxs [mB p s c]):=⟨rfl,trivial⟩
 cases hA:ofI s.its c.a with
 |error e=>
  have hD:doM p s c 14=.error e:=by simp only[doM,erb,hA]
  rw[hD]
  right
  refine gk 1000 6 [0,1,2,3,4,5] [7,8,9,10,11,12,14,15] (lA:=[_,_,_,_,_,_]) (lB:=[_,_,_,_,_,_,_,_]) rfl (by kernel_rfl) rfl rfl rfl ?_
  simp only[unA,unO,aI,bA,bQ,bK,bL]
  simp only[np,seval]
  intro fr hfr
  have h4:=hfr 4 (by decide)
  have h9:=hfr 9 (by decide)
  refine ff 0 rfl (all:=[.bp 0 0,i64 c.a]) (g:=114) (by simp only[ev,aI,bA,h4,h9];rfl) (lN hS hA) (by rfl) (bn 0) rfl aY (cG (ae _) rfl (ae _) hb)
 |ok a=>
  cases hX:ofI s.its c.m with
  |error e=>
   have hD:doM p s c 14=.error e:=by simp only[doM,okb,erb,hA,hX]
   rw[hD]
   right
   refine gk 1000 13 [0,1,2,3,4,5,6,7,8,9,10,11,12] [14,15] (lA:=[_,_,_,_,_,_,_,_,_,_,_,_,_]) (lB:=[_,_]) rfl (by kernel_rfl) rfl rfl rfl ?_
   simp only[unA,unO,aI,bA,bQ,bK,bL]
   simp only[np,seval]
   refine cJ 0 rfl (ka hS hA) (fun _=>rfl) (ab rfl) rfl aY (fun _=>rfl) ?_
   simp only[np,seval]
   intro fr hfr
   have h4:=hfr 11 (by decide)
   have h9:=hfr 16 (by decide)
   refine ff 0 rfl (all:=[.bp 0 0,i64 c.m]) (g:=114) (by simp only[ev,aI,bA,h4,h9];rfl) (lN hS hX) (by rfl) (bn 0) rfl aY (cG (ae _) rfl (ae _) hb)
  |ok x=>
   left
   refine lT (n:=14) rfl rfl rfl ?_
   simp only[np,seval]
   refine cJ 0 rfl (ka hS hA) (fun _=>rfl) (ab rfl) rfl aY (fun _=>rfl) ?_
   simp only[np,seval]
   refine cJ 0 rfl (ka hS hX) (fun _=>rfl) (ab rfl) rfl aY (fun _=>rfl) ?_
   simp only[q0,aV,seval,ah,ai]
   refine⟨?_,?_⟩
   all_goals
    try simp only[PG,aV,seval,ah,ai]
    cases hT:ni p c.t with
    |error e=>
     have hD:doM p s c 14=.error e:=by simp only[doM,okb,erb,hA,hX,hT]
     rw[hD]
     exact .inr (eM 0 rfl rfl (oD hp hT) rfl (ab rfl) rfl aY (cG (ae _) rfl (ab rfl) (by simp[BL,bxs,ar,stO])))
    |ok _u=>
     left
     refine cJ 0 rfl (oC hp hT) (fun _=>rfl) (ab rfl) rfl aY (fun _=>rfl) ?_
     try simp only[q0,aV,seval,ai]
     cases hK:dR (ey a) 1 with
     |error e=>
      have hD:doM p s c 14=.error e:=by simp only[doM,okb,erb,hA,hX,hT,hK]
      rw[hD]
      exact .inr (qY rfl rfl (qI hK) rfl (cG (ae _) rfl (ab rfl) (by simp[BL,bxs,ar,stO])))
     |ok _u=>
      left
      refine lU rfl (qH hK) (fun _=>rfl) (fun _=>rfl) ?_
      try simp only[q0,aV,seval,ai]
      cases hL:dR (ey x) 1 with
      |error e=>
       have hD:doM p s c 14=.error e:=by simp only[doM,okb,erb,hA,hX,hT,hK,hL]
       rw[hD]
       exact .inr (qY rfl rfl (qI hL) rfl (cG (ae _) rfl (ab rfl) (by simp[BL,bxs,ar,stO])))
      |ok _u=>
       left
       refine lU rfl (qH hL) (fun _=>rfl) (fun _=>rfl) ?_
       try simp only[PH,seval,ah,ai]
       cases hG:ft s (.mk 4 c.t [a,x]) with
       |error e=>
        have hD:doM p s c 14=.error e:=by simp only[doM,okb,hA,hX,hT,hK,hL,hG]
        rw[hD]
        right
        refine fk (l:=[_,_,_,_,_,_,_,_,_,_]) rfl (by kernel_rfl) ?_
        simp only[PI,seval]
        refine aD («as»:=[i64 4,i64 c.t,.c (tsC [a,x])]) rfl (of_ok 4 c.t [a,x]) (fun h=>(by cases h)) ?_
        simp only[pkA]
        exact ff 0 rfl rfl (nn hS (pz (eG hS hA).2 (eG hS hX).2) hG) rfl (ab rfl) rfl aY (cG (ae _) rfl (ab rfl) (by simp[BL,bxs,ar,stO]))
       |ok s'=>
        left
        try simp only[PK,seval]
        refine aD («as»:=[i64 4,i64 c.t,.c (tsC [a,x])]) rfl (of_ok 4 c.t [a,x]) (fun h=>(by cases h)) ?_
        try simp only[pkA,seval]
        refine gp 0 rfl (nl hS (pz (eG hS hA).2 (eG hS hX).2) hG) rfl (ab rfl) rfl rfl ?_
        try simp only[pkA]
        have hD:doM p s c 14=.ok s':=by simp only[doM,okb,hA,hX,hT,hK,hL,hG]
        simp only[hD,oQ,oP,stO]
        exact dj [] rfl rfl (ae _) (ab rfl) trivial ⟨rfl,trivial⟩ cV
theorem DY (hp:p.types.length≤8) (hr:p.rules.length≤40) (hS:SyOk s):FnO Tryz.prog G 84 [.bp 0 0] [mB p s c] (oP (doM p s c 16)) (.tup []) [mB p (stO s (doM p s c 16)) c]:=by
 refine ij (rs:=[]) (k:=1) [3000001,2900000,2900001,2800000,1900010,1900017,1900022,1000023] mixed Tryz.func84 rfl rfl rfl rfl (by kernel_rfl) (by simp) rfl rfl rfl (df rfl) (ae _) ?_
 simp only[uR,seval,ah]
 have hb:BL 0 [mB p s c] (bxs [mB p s c]):=⟨rfl,trivial⟩
 cases hA:ofI s.its c.a with
 |error e=>
  have hD:doM p s c 16=.error e:=by simp only[doM,erb,hA]
  rw[hD]
  right
  refine gk 1000 6 [0,1,2,3,4,5] [7,8,9,10,11,12,14,15] (lA:=[_,_,_,_,_,_]) (lB:=[_,_,_,_,_,_,_,_]) rfl (by kernel_rfl) rfl rfl rfl ?_
  simp only[unA,unO,aI,bA,bQ,bK,bL]
  simp only[np,seval]
  intro fr hfr
  have h4:=hfr 4 (by decide)
  have h9:=hfr 9 (by decide)
  refine ff 0 rfl (all:=[.bp 0 0,i64 c.a]) (g:=114) (by simp only[ev,aI,bA,h4,h9];rfl) (lN hS hA) (by rfl) (bn 0) rfl aY (cG (ae _) rfl (ae _) hb)
 |ok a=>
  cases hX:ofI s.its c.m with
  |error e=>
   have hD:doM p s c 16=.error e:=by simp only[doM,okb,erb,hA,hX]
   rw[hD]
   right
   refine gk 1000 13 [0,1,2,3,4,5,6,7,8,9,10,11,12] [14,15] (lA:=[_,_,_,_,_,_,_,_,_,_,_,_,_]) (lB:=[_,_]) rfl (by kernel_rfl) rfl rfl rfl ?_
   simp only[unA,unO,aI,bA,bQ,bK,bL]
   simp only[np,seval]
   refine cJ 0 rfl (ka hS hA) (fun _=>rfl) (ab rfl) rfl aY (fun _=>rfl) ?_
   simp only[np,seval]
   intro fr hfr
   have h4:=hfr 11 (by decide)
   have h9:=hfr 16 (by decide)
   refine ff 0 rfl (all:=[.bp 0 0,i64 c.m]) (g:=114) (by simp only[ev,aI,bA,h4,h9];rfl) (lN hS hX) (by rfl) (bn 0) rfl aY (cG (ae _) rfl (ae _) hb)
  |ok x=>
   left
   refine lT (n:=14) rfl rfl rfl ?_
   simp only[np,seval]
   refine cJ 0 rfl (ka hS hA) (fun _=>rfl) (ab rfl) rfl aY (fun _=>rfl) ?_
   simp only[np,seval]
   refine cJ 0 rfl (ka hS hX) (fun _=>rfl) (ab rfl) rfl aY (fun _=>rfl) ?_
   simp only[q0,aV,seval,ah,ai]
   refine⟨?_,?_⟩
   all_goals
    try simp only[PG,aV,seval,ah,ai]
    cases hO:g8 x a [3,4] with
    |error e=>
     have hD:doM p s c 16=.error e:=by simp only[doM,okb,erb,hA,hX,hO]
     rw[hD]
     exact .inr (qY rfl rfl (Bq (eG hS hX) (eG hS hA).2 (by decide) (by simp) hO) rfl (cG (ae _) rfl (ab rfl) (by simp[BL,bxs,ar,stO])))
    |ok y=>
     left
     refine lU rfl (Bp (eG hS hX) (eG hS hA).2 (by decide) (by simp) hO) (fun _=>rfl) (fun _=>rfl) ?_
     try simp only[uR,aV,seval]
     cases hG:ft s y with
     |error e=>
      have hD:doM p s c 16=.error e:=by simp only[doM,okb,hA,hX,hO,hG]
      rw[hD]
      exact .inr (eM 0 rfl rfl (nn hS (bU (mN (eG hS hX) (by simp) hO).2 (by decide)) hG) rfl (ab rfl) rfl aY (cG (ae _) rfl (ab rfl) (by simp[BL,bxs,ar,stO])))
     |ok s'=>
      left
      refine gp 0 rfl (nl hS (bU (mN (eG hS hX) (by simp) hO).2 (by decide)) hG) rfl (ab rfl) rfl rfl ?_
      try simp only[uR]
      have hD:doM p s c 16=.ok s':=by simp only[doM,okb,hA,hX,hO,hG]
      simp only[hD,oQ,oP,stO]
      exact dj [] rfl rfl (ae _) (ab rfl) trivial ⟨rfl,trivial⟩ cV
def HJ:=jj @pkX (jj @pkA (jj @ptA @pkM))
theorem xh (hp:p.types.length≤8) (hr:p.rules.length≤40) (hS:SyOk s):FnO Tryz.prog G 71 [.bp 0 0] [mB p s c] (oP (doM p s c 3)) (.tup []) [mB p (stO s (doM p s c 3)) c]:=by
 refine ij (rs:=[]) (k:=1) [3000001,2900000,2900001,2900002,1900009,1900013,1000017] mixed Tryz.func71 rfl rfl rfl rfl (by kernel_rfl) (by simp) rfl rfl rfl (df rfl) (ae _) ?_
 simp only[HJ,aV,seval,ah,ai]
 have hb:BL 0 [mB p s c] (bxs [mB p s c]):=⟨rfl,trivial⟩
 cases hA:ofI s.hs c.a with
 |error e=>
  have hD:doM p s c 3=.error e:=by simp only[doM,erb,hA]
  rw[hD]
  exact .inr (eM 0 rfl rfl (jS hS hA) rfl (ab rfl) rfl aY (cG (ae _) rfl (ab rfl) (by simp[BL,bxs,stO])))
 |ok a=>
  left
  refine cJ 0 rfl (fA hS hA) (fun _=>rfl) (ab rfl) rfl aY (fun _=>rfl) ?_
  try simp only[pkX,pkA,ptA,pkM,pkH,aV,seval,ah,ai]
  cases hF:dR (j9 p a.ty 4) 10 with
  |error e=>
   have hD:doM p s c 3=.error e:=by simp only[doM,okb,erb,hA,hF]
   rw[hD]
   exact .inr (eM 0 rfl rfl (zg hp hF) rfl (ab rfl) rfl aY (cG (ae _) rfl (ab rfl) (by simp[BL,bxs,ar,stO])))
  |ok _u=>
   left
   refine cJ 0 rfl (ze hp hF) (fun _=>rfl) (ab rfl) rfl aY (fun _=>rfl) ?_
   try simp only[pkX,pkA,ptA,pkH,aV,seval,ah,ai]
   cases hG:ft s a.va with
   |error e=>
    have hD:doM p s c 3=.error e:=by simp only[doM,okb,hA,hF,hG]
    rw[hD]
    exact .inr (eM 0 rfl rfl (nn hS (bU (fF hS hA).2.1 (by decide)) hG) rfl (ab rfl) rfl aY (cG (ae _) rfl (ab rfl) (by simp[BL,bxs,ar,stO])))
   |ok s'=>
    left
    refine gp 0 rfl (nl hS (bU (fF hS hA).2.1 (by decide)) hG) rfl (ab rfl) rfl rfl ?_
    try simp only[uR]
    have hD:doM p s c 3=.ok s':=by simp only[doM,okb,hA,hF,hG]
    simp only[hD,oQ,oP,stO]
    exact dj [] rfl rfl (ae _) (ab rfl) trivial ⟨rfl,trivial⟩ cV
theorem Us (hp:p.types.length≤8) (hr:p.rules.length≤40) (hS:SyOk s):FnO Tryz.prog G 70 [.bp 0 0] [mB p s c] (oP (doM p s c 2)) (.tup []) [mB p (stO s (doM p s c 2)) c]:=by
 refine ij (rs:=[]) (k:=1) [3000001,2900000,2900001,2900002,2900003,2900004,1900009,1900011,1900013,1900020,1000028] mixed Tryz.func70 rfl rfl rfl rfl (by kernel_rfl) (by simp) rfl rfl rfl (df rfl) (ae _) ?_
 simp only[HJ,aV,seval,ah,ai]
 have hb:BL 0 [mB p s c] (bxs [mB p s c]):=⟨rfl,trivial⟩
 cases hX:ofI s.its c.m with
 |error e=>
  have hD:doM p s c 2=.error e:=by simp only[doM,erb,hX]
  rw[hD]
  exact .inr (eM 0 rfl rfl (lN hS hX) rfl (ab rfl) rfl aY (cG (ae _) rfl (ab rfl) (by simp[BL,bxs,stO])))
 |ok x=>
  left
  refine cJ 0 rfl (ka hS hX) (fun _=>rfl) (ab rfl) rfl aY (fun _=>rfl) ?_
  try simp only[q0,aV,seval,ah,ai]
  cases hT:ni p c.t with
  |error e=>
   have hD:doM p s c 2=.error e:=by simp only[doM,okb,erb,hX,hT]
   rw[hD]
   exact .inr (eM 0 rfl rfl (oD hp hT) rfl (ab rfl) rfl aY (cG (ae _) rfl (ab rfl) (by simp[BL,bxs,ar,stO])))
  |ok _u=>
   left
   refine cJ 0 rfl (oC hp hT) (fun _=>rfl) (ab rfl) rfl aY (fun _=>rfl) ?_
   try simp only[q0,aV,seval,ai]
   cases hK:dR (ey x) 1 with
   |error e=>
    have hD:doM p s c 2=.error e:=by simp only[doM,okb,erb,hX,hT,hK]
    rw[hD]
    exact .inr (qY rfl rfl (qI hK) rfl (cG (ae _) rfl (ab rfl) (by simp[BL,bxs,ar,stO])))
   |ok _u=>
    left
    refine lU rfl (qH hK) (fun _=>rfl) (fun _=>rfl) ?_
    try simp only[HJ,aV,seval,ah,ai]
    cases hF:dR (j9 p c.t 2) 10 with
    |error e=>
     have hD:doM p s c 2=.error e:=by simp only[doM,okb,erb,hX,hT,hK,hF]
     rw[hD]
     exact .inr (eM 0 rfl rfl (zg hp hF) rfl (ab rfl) rfl aY (cG (ae _) rfl (ab rfl) (by simp[BL,bxs,ar,stO])))
    |ok _u=>
     left
     refine cJ 0 rfl (ze hp hF) (fun _=>rfl) (ab rfl) rfl aY (fun _=>rfl) ?_
     try simp only[PH,seval,ah,ai]
     cases hW:ll s c.t x with
     |error e=>
      have hD:doM p s c 2=.error e:=by simp only[doM,okb,hX,hT,hK,hF,hW]
      rw[hD]
      right
      refine fk (l:=[_,_,_,_,_,_,_]) rfl (by kernel_rfl) ?_
      simp only[PI,seval]
      exact ff 0 rfl rfl (xg hS (bU (eG hS hX).2 (by decide)) hW) rfl (ab rfl) rfl aY (cG (ae _) rfl (ab rfl) (by simp[BL,bxs,ar,stO]))
     |ok s'=>
      left
      try simp only[PK,seval]
      refine gp 0 rfl (xe hS (bU (eG hS hX).2 (by decide)) hW) rfl (ab rfl) rfl rfl ?_
      try simp only[pkA]
      have hD:doM p s c 2=.ok s':=by simp only[doM,okb,hX,hT,hK,hF,hW]
      simp only[hD,oQ,oP,stO]
      exact dj [] rfl rfl (ae _) (ab rfl) trivial ⟨rfl,trivial⟩ cV
theorem Gn (hp:p.types.length≤8) (hr:p.rules.length≤40) (hS:SyOk s):FnO Tryz.prog G 83 [.bp 0 0] [mB p s c] (oP (doM p s c 15)) (.tup []) [mB p (stO s (doM p s c 15)) c]:=by
 refine ij (rs:=[]) (k:=1) [3000001,2900000,2900001,2900002,2900003,1900009,1900011,1900013,1000023] mixed Tryz.func83 rfl rfl rfl rfl (by kernel_rfl) (by simp) rfl rfl rfl (df rfl) (ae _) ?_
 simp only[HJ,aV,seval,ah,ai]
 have hb:BL 0 [mB p s c] (bxs [mB p s c]):=⟨rfl,trivial⟩
 cases hA:ofI s.its c.a with
 |error e=>
  have hD:doM p s c 15=.error e:=by simp only[doM,erb,hA]
  rw[hD]
  exact .inr (eM 0 rfl rfl (lN hS hA) rfl (ab rfl) rfl aY (cG (ae _) rfl (ab rfl) (by simp[BL,bxs,stO])))
 |ok a=>
  left
  refine cJ 0 rfl (ka hS hA) (fun _=>rfl) (ab rfl) rfl aY (fun _=>rfl) ?_
  try simp only[q0,aV,seval,ah,ai]
  cases hT:ni p c.t with
  |error e=>
   have hD:doM p s c 15=.error e:=by simp only[doM,okb,erb,hA,hT]
   rw[hD]
   exact .inr (eM 0 rfl rfl (oD hp hT) rfl (ab rfl) rfl aY (cG (ae _) rfl (ab rfl) (by simp[BL,bxs,ar,stO])))
  |ok _u=>
   left
   refine cJ 0 rfl (oC hp hT) (fun _=>rfl) (ab rfl) rfl aY (fun _=>rfl) ?_
   try simp only[q0,aV,seval,ai]
   cases hK:dR (ey a) 1 with
   |error e=>
    have hD:doM p s c 15=.error e:=by simp only[doM,okb,erb,hA,hT,hK]
    rw[hD]
    exact .inr (qY rfl rfl (qI hK) rfl (cG (ae _) rfl (ab rfl) (by simp[BL,bxs,ar,stO])))
   |ok _u=>
    left
    refine lU rfl (qH hK) (fun _=>rfl) (fun _=>rfl) ?_
    try simp only[PH,seval,ah,ai]
    cases hG:ft s (.mk 5 c.t [a]) with
    |error e=>
     have hD:doM p s c 15=.error e:=by simp only[doM,okb,hA,hT,hK,hG]
     rw[hD]
     right
     refine fk (l:=[_,_,_,_,_,_,_,_,_]) rfl (by kernel_rfl) ?_
     simp only[PI,seval]
     refine aD («as»:=[i64 5,i64 c.t,.c (tsC [a])]) rfl (of_ok 5 c.t [a]) (fun h=>(by cases h)) ?_
     simp only[pkA]
     exact ff 0 rfl rfl (nn hS (sY (eG hS hA).2) hG) rfl (ab rfl) rfl aY (cG (ae _) rfl (ab rfl) (by simp[BL,bxs,ar,stO]))
    |ok s'=>
     left
     try simp only[PK,seval]
     refine aD («as»:=[i64 5,i64 c.t,.c (tsC [a])]) rfl (of_ok 5 c.t [a]) (fun h=>(by cases h)) ?_
     try simp only[pkA,seval]
     refine gp 0 rfl (nl hS (sY (eG hS hA).2) hG) rfl (ab rfl) rfl rfl ?_
     try simp only[pkA]
     have hD:doM p s c 15=.ok s':=by simp only[doM,okb,hA,hT,hK,hG]
     simp only[hD,oQ,oP,stO]
     exact dj [] rfl rfl (ae _) (ab rfl) trivial ⟨rfl,trivial⟩ cV
