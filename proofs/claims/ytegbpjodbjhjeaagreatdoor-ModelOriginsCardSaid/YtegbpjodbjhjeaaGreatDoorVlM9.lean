/- Layer 16: the calls. (Printed by gen16.py.) -/
import Derived.Test.YtegbpjodbjhjeaaGreatDoorVlMa
set_option linter.all false
namespace Go.Proofs.YtegbpjodbjhjeaaGreatDoor
open Go Go.Vl
open Kp (Pol Ty Ru Qu poC tyC ruC quC)
variable {G:Gl} {p:Pol} {s:Sy} {c:Cl}
set_option maxRecDepth 10000
def yj:=jj @pkX @pkA
def pe:=jj @pkA (jj @ptA @pkM)
def ul:=jj @pkX (jj @pkA (jj @ptA @pkT))
def TA:=jj @pkX (jj @pkA (jj @ptA (jj @pkM (jj @pkT @pkH))))
theorem Hv (hp:p.types.length≤8) (hr:p.rules.length≤40) (hS:SyOk s):FnO Tryz.prog G 81 [.bp 0 0] [mB p s c] (oP (doM p s c 13)) (.tup []) [mB p (stO s (doM p s c 13)) c]:=by
 refine jd (rs:=[]) (k:=1) [3000001,2900000,2900001,2900002,2800000,1900010,1900017,1900019,1000025] mixed Tryz.func81 rfl rfl rfl rfl (by kernel_rfl) (by simp) rfl rfl rfl (dA rfl) (ae _) ?_
 simp only[yj,seval,ah]
 have hb:BL 0 [mB p s c] (bxs [mB p s c]):=⟨rfl,trivial⟩
 cases hA:ofI s.its c.a with
 |error e=>
  have hD:doM p s c 13=.error e:=by simp only[doM,erb,hA]
  rw[hD]
  right
  refine ic 1000 6 [0,1,2,3,4,5] [7,8,9,10,11,12,14,15] (lA:=[_,_,_,_,_,_]) (lB:=[_,_,_,_,_,_,_,_]) rfl (by kernel_rfl) rfl rfl rfl ?_
  simp only[unA,unO,aL,bE,bV,bL,bM]
  simp only[pe,seval]
  intro fr jb
  have h4:=jb 4 (by decide)
  have h9:=jb 9 (by decide)
  refine fH 0 rfl (all:=[.bp 0 0,i64 c.a]) (g:=114) (by simp only[ev,aL,bE,h4,h9];rfl) (m4 hS hA) (by rfl) (bq 0) rfl bf (cT (ae _) rfl (ae _) hb)
 |ok a=>
  cases hX:ofI s.its c.m with
  |error e=>
   have hD:doM p s c 13=.error e:=by simp only[doM,okb,erb,hA,hX]
   rw[hD]
   right
   refine ic 1000 13 [0,1,2,3,4,5,6,7,8,9,10,11,12] [14,15] (lA:=[_,_,_,_,_,_,_,_,_,_,_,_,_]) (lB:=[_,_]) rfl (by kernel_rfl) rfl rfl rfl ?_
   simp only[unA,unO,aL,bE,bV,bL,bM]
   simp only[pe,seval]
   refine cU 0 rfl (lu hS hA) (fun _=>rfl) (ab rfl) rfl bf (fun _=>rfl) ?_
   simp only[pe,seval]
   intro fr jb
   have h4:=jb 11 (by decide)
   have h9:=jb 16 (by decide)
   refine fH 0 rfl (all:=[.bp 0 0,i64 c.m]) (g:=114) (by simp only[ev,aL,bE,h4,h9];rfl) (m4 hS hX) (by rfl) (bq 0) rfl bf (cT (ae _) rfl (ae _) hb)
  |ok x=>
   left
   refine nc (n:=14) rfl rfl rfl ?_
   simp only[pe,seval]
   refine cU 0 rfl (lu hS hA) (fun _=>rfl) (ab rfl) rfl bf (fun _=>rfl) ?_
   simp only[pe,seval]
   refine cU 0 rfl (lu hS hX) (fun _=>rfl) (ab rfl) rfl bf (fun _=>rfl) ?_
   simp only[ul,a8,seval,ah,ai]
   refine⟨?_,?_⟩
   all_goals
    try simp only[TA,a8,seval,ah,ai]
    cases hK:er (ej a) 1 with
    |error e=>
     have hD:doM p s c 13=.error e:=by simp only[doM,okb,erb,hA,hX,hK]
     rw[hD]
     exact .inr (uj rfl rfl (tH hK) rfl (cT (ae _) rfl (ab rfl) (by simp[BL,bxs,ar,stO])))
    |ok _u=>
     left
     refine nf rfl (tG hK) (fun _=>rfl) (fun _=>rfl) ?_
     try simp only[ul,a8,seval,ah,ai]
     left
     refine aD («as»:=[i64 3,i64 0,.c (tsC [a,x])]) rfl (of_ok 3 0 [a,x]) (fun h=>(by cases h)) ?_
     simp only[yj,a8,seval]
     cases hG:fP s (im a x) with
     |error e=>
      have hD:doM p s c 13=.error e:=by simp only[doM,okb,hA,hX,hK,hG]
      rw[hD]
      exact .inr (fc 0 rfl rfl (pd hS (rB (eX hS hA).2 (eX hS hX).2) hG) rfl (ab rfl) rfl bf (cT (ae _) rfl (ab rfl) (by simp[BL,bxs,ar,stO])))
     |ok s'=>
      left
      refine ig 0 rfl (pa hS (rB (eX hS hA).2 (eX hS hX).2) hG) rfl (ab rfl) rfl rfl ?_
      try simp only[yj]
      have hD:doM p s c 13=.ok s':=by simp only[doM,okb,hA,hX,hK,hG]
      simp only[hD,oQ,oP,stO]
      exact dJ [] rfl rfl (ae _) (ab rfl) trivial ⟨rfl,trivial⟩ dl
def TB:=jj @pkX (jj @pkA (jj @ptA (jj @pkM @pkT)))
def TC:=jj @pkA (jj @ptA (jj @pkM @pkT))
def TD:=jj @pkA (jj @ptA (jj @pkM (jj @pkT @pkH)))
theorem J1 (hp:p.types.length≤8) (hr:p.rules.length≤40) (hS:SyOk s):FnO Tryz.prog G 82 [.bp 0 0] [mB p s c] (oP (doM p s c 14)) (.tup []) [mB p (stO s (doM p s c 14)) c]:=by
 refine jd (rs:=[]) (k:=1) [3000001,2900000,2900001,2900002,2900003,2900004,2800000,1900010,1900017,1900019,1900021,1900023,1000034] mixed Tryz.func82 rfl rfl rfl rfl (by kernel_rfl) (by simp) rfl rfl rfl (dA rfl) (ae _) ?_
 simp only[yj,seval,ah]
 have hb:BL 0 [mB p s c] (bxs [mB p s c]):=⟨rfl,trivial⟩
 cases hA:ofI s.its c.a with
 |error e=>
  have hD:doM p s c 14=.error e:=by simp only[doM,erb,hA]
  rw[hD]
  right
  refine ic 1000 6 [0,1,2,3,4,5] [7,8,9,10,11,12,14,15] (lA:=[_,_,_,_,_,_]) (lB:=[_,_,_,_,_,_,_,_]) rfl (by kernel_rfl) rfl rfl rfl ?_
  simp only[unA,unO,aL,bE,bV,bL,bM]
  simp only[pe,seval]
  intro fr jb
  have h4:=jb 4 (by decide)
  have h9:=jb 9 (by decide)
  refine fH 0 rfl (all:=[.bp 0 0,i64 c.a]) (g:=114) (by simp only[ev,aL,bE,h4,h9];rfl) (m4 hS hA) (by rfl) (bq 0) rfl bf (cT (ae _) rfl (ae _) hb)
 |ok a=>
  cases hX:ofI s.its c.m with
  |error e=>
   have hD:doM p s c 14=.error e:=by simp only[doM,okb,erb,hA,hX]
   rw[hD]
   right
   refine ic 1000 13 [0,1,2,3,4,5,6,7,8,9,10,11,12] [14,15] (lA:=[_,_,_,_,_,_,_,_,_,_,_,_,_]) (lB:=[_,_]) rfl (by kernel_rfl) rfl rfl rfl ?_
   simp only[unA,unO,aL,bE,bV,bL,bM]
   simp only[pe,seval]
   refine cU 0 rfl (lu hS hA) (fun _=>rfl) (ab rfl) rfl bf (fun _=>rfl) ?_
   simp only[pe,seval]
   intro fr jb
   have h4:=jb 11 (by decide)
   have h9:=jb 16 (by decide)
   refine fH 0 rfl (all:=[.bp 0 0,i64 c.m]) (g:=114) (by simp only[ev,aL,bE,h4,h9];rfl) (m4 hS hX) (by rfl) (bq 0) rfl bf (cT (ae _) rfl (ae _) hb)
  |ok x=>
   left
   refine nc (n:=14) rfl rfl rfl ?_
   simp only[pe,seval]
   refine cU 0 rfl (lu hS hA) (fun _=>rfl) (ab rfl) rfl bf (fun _=>rfl) ?_
   simp only[pe,seval]
   refine cU 0 rfl (lu hS hX) (fun _=>rfl) (ab rfl) rfl bf (fun _=>rfl) ?_
   simp only[ul,a8,seval,ah,ai]
   refine⟨?_,?_⟩
   all_goals
    try simp only[TA,a8,seval,ah,ai]
    cases hT:o7 p c.t with
    |error e=>
     have hD:doM p s c 14=.error e:=by simp only[doM,okb,erb,hA,hX,hT]
     rw[hD]
     exact .inr (fc 0 rfl rfl (qt hp hT) rfl (ab rfl) rfl bf (cT (ae _) rfl (ab rfl) (by simp[BL,bxs,ar,stO])))
    |ok _u=>
     left
     refine cU 0 rfl (qq hp hT) (fun _=>rfl) (ab rfl) rfl bf (fun _=>rfl) ?_
     try simp only[ul,a8,seval,ai]
     cases hK:er (ej a) 1 with
     |error e=>
      have hD:doM p s c 14=.error e:=by simp only[doM,okb,erb,hA,hX,hT,hK]
      rw[hD]
      exact .inr (uj rfl rfl (tH hK) rfl (cT (ae _) rfl (ab rfl) (by simp[BL,bxs,ar,stO])))
     |ok _u=>
      left
      refine nf rfl (tG hK) (fun _=>rfl) (fun _=>rfl) ?_
      try simp only[ul,a8,seval,ai]
      cases hL:er (ej x) 1 with
      |error e=>
       have hD:doM p s c 14=.error e:=by simp only[doM,okb,erb,hA,hX,hT,hK,hL]
       rw[hD]
       exact .inr (uj rfl rfl (tH hL) rfl (cT (ae _) rfl (ab rfl) (by simp[BL,bxs,ar,stO])))
      |ok _u=>
       left
       refine nf rfl (tG hL) (fun _=>rfl) (fun _=>rfl) ?_
       try simp only[TB,seval,ah,ai]
       cases hG:fP s (.mk 4 c.t [a,x]) with
       |error e=>
        have hD:doM p s c 14=.error e:=by simp only[doM,okb,hA,hX,hT,hK,hL,hG]
        rw[hD]
        right
        refine fL (l:=[_,_,_,_,_,_,_,_,_,_]) rfl (by kernel_rfl) ?_
        simp only[TC,seval]
        refine aD («as»:=[i64 4,i64 c.t,.c (tsC [a,x])]) rfl (of_ok 4 c.t [a,x]) (fun h=>(by cases h)) ?_
        simp only[pkA]
        exact fH 0 rfl rfl (pd hS (rB (eX hS hA).2 (eX hS hX).2) hG) rfl (ab rfl) rfl bf (cT (ae _) rfl (ab rfl) (by simp[BL,bxs,ar,stO]))
       |ok s'=>
        left
        try simp only[TD,seval]
        refine aD («as»:=[i64 4,i64 c.t,.c (tsC [a,x])]) rfl (of_ok 4 c.t [a,x]) (fun h=>(by cases h)) ?_
        try simp only[pkA,seval]
        refine ig 0 rfl (pa hS (rB (eX hS hA).2 (eX hS hX).2) hG) rfl (ab rfl) rfl rfl ?_
        try simp only[pkA]
        have hD:doM p s c 14=.ok s':=by simp only[doM,okb,hA,hX,hT,hK,hL,hG]
        simp only[hD,oQ,oP,stO]
        exact dJ [] rfl rfl (ae _) (ab rfl) trivial ⟨rfl,trivial⟩ dl
theorem Hw (hp:p.types.length≤8) (hr:p.rules.length≤40) (hS:SyOk s):FnO Tryz.prog G 84 [.bp 0 0] [mB p s c] (oP (doM p s c 16)) (.tup []) [mB p (stO s (doM p s c 16)) c]:=by
 refine jd (rs:=[]) (k:=1) [3000001,2900000,2900001,2800000,1900010,1900017,1900022,1000023] mixed Tryz.func84 rfl rfl rfl rfl (by kernel_rfl) (by simp) rfl rfl rfl (dA rfl) (ae _) ?_
 simp only[yj,seval,ah]
 have hb:BL 0 [mB p s c] (bxs [mB p s c]):=⟨rfl,trivial⟩
 cases hA:ofI s.its c.a with
 |error e=>
  have hD:doM p s c 16=.error e:=by simp only[doM,erb,hA]
  rw[hD]
  right
  refine ic 1000 6 [0,1,2,3,4,5] [7,8,9,10,11,12,14,15] (lA:=[_,_,_,_,_,_]) (lB:=[_,_,_,_,_,_,_,_]) rfl (by kernel_rfl) rfl rfl rfl ?_
  simp only[unA,unO,aL,bE,bV,bL,bM]
  simp only[pe,seval]
  intro fr jb
  have h4:=jb 4 (by decide)
  have h9:=jb 9 (by decide)
  refine fH 0 rfl (all:=[.bp 0 0,i64 c.a]) (g:=114) (by simp only[ev,aL,bE,h4,h9];rfl) (m4 hS hA) (by rfl) (bq 0) rfl bf (cT (ae _) rfl (ae _) hb)
 |ok a=>
  cases hX:ofI s.its c.m with
  |error e=>
   have hD:doM p s c 16=.error e:=by simp only[doM,okb,erb,hA,hX]
   rw[hD]
   right
   refine ic 1000 13 [0,1,2,3,4,5,6,7,8,9,10,11,12] [14,15] (lA:=[_,_,_,_,_,_,_,_,_,_,_,_,_]) (lB:=[_,_]) rfl (by kernel_rfl) rfl rfl rfl ?_
   simp only[unA,unO,aL,bE,bV,bL,bM]
   simp only[pe,seval]
   refine cU 0 rfl (lu hS hA) (fun _=>rfl) (ab rfl) rfl bf (fun _=>rfl) ?_
   simp only[pe,seval]
   intro fr jb
   have h4:=jb 11 (by decide)
   have h9:=jb 16 (by decide)
   refine fH 0 rfl (all:=[.bp 0 0,i64 c.m]) (g:=114) (by simp only[ev,aL,bE,h4,h9];rfl) (m4 hS hX) (by rfl) (bq 0) rfl bf (cT (ae _) rfl (ae _) hb)
  |ok x=>
   left
   refine nc (n:=14) rfl rfl rfl ?_
   simp only[pe,seval]
   refine cU 0 rfl (lu hS hA) (fun _=>rfl) (ab rfl) rfl bf (fun _=>rfl) ?_
   simp only[pe,seval]
   refine cU 0 rfl (lu hS hX) (fun _=>rfl) (ab rfl) rfl bf (fun _=>rfl) ?_
   simp only[ul,a8,seval,ah,ai]
   refine⟨?_,?_⟩
   all_goals
    try simp only[TA,a8,seval,ah,ai]
    cases hO:iS x a [3,4] with
    |error e=>
     have hD:doM p s c 16=.error e:=by simp only[doM,okb,erb,hA,hX,hO]
     rw[hD]
     exact .inr (uj rfl rfl (EH (eX hS hX) (eX hS hA).2 (by decide) (by simp) hO) rfl (cT (ae _) rfl (ab rfl) (by simp[BL,bxs,ar,stO])))
    |ok y=>
     left
     refine nf rfl (EG (eX hS hX) (eX hS hA).2 (by decide) (by simp) hO) (fun _=>rfl) (fun _=>rfl) ?_
     try simp only[yj,a8,seval]
     cases hG:fP s y with
     |error e=>
      have hD:doM p s c 16=.error e:=by simp only[doM,okb,hA,hX,hO,hG]
      rw[hD]
      exact .inr (fc 0 rfl rfl (pd hS (bY (ol (eX hS hX) (by simp) hO).2 (by decide)) hG) rfl (ab rfl) rfl bf (cT (ae _) rfl (ab rfl) (by simp[BL,bxs,ar,stO])))
     |ok s'=>
      left
      refine ig 0 rfl (pa hS (bY (ol (eX hS hX) (by simp) hO).2 (by decide)) hG) rfl (ab rfl) rfl rfl ?_
      try simp only[yj]
      have hD:doM p s c 16=.ok s':=by simp only[doM,okb,hA,hX,hO,hG]
      simp only[hD,oQ,oP,stO]
      exact dJ [] rfl rfl (ae _) (ab rfl) trivial ⟨rfl,trivial⟩ dl
def LQ:=jj @pkX (jj @pkA (jj @ptA @pkM))
theorem AA (hp:p.types.length≤8) (hr:p.rules.length≤40) (hS:SyOk s):FnO Tryz.prog G 71 [.bp 0 0] [mB p s c] (oP (doM p s c 3)) (.tup []) [mB p (stO s (doM p s c 3)) c]:=by
 refine jd (rs:=[]) (k:=1) [3000001,2900000,2900001,2900002,1900009,1900013,1000017] mixed Tryz.func71 rfl rfl rfl rfl (by kernel_rfl) (by simp) rfl rfl rfl (dA rfl) (ae _) ?_
 simp only[LQ,a8,seval,ah,ai]
 have hb:BL 0 [mB p s c] (bxs [mB p s c]):=⟨rfl,trivial⟩
 cases hA:ofI s.hs c.a with
 |error e=>
  have hD:doM p s c 3=.error e:=by simp only[doM,erb,hA]
  rw[hD]
  exact .inr (fc 0 rfl rfl (kP hS hA) rfl (ab rfl) rfl bf (cT (ae _) rfl (ab rfl) (by simp[BL,bxs,stO])))
 |ok a=>
  left
  refine cU 0 rfl (fX hS hA) (fun _=>rfl) (ab rfl) rfl bf (fun _=>rfl) ?_
  try simp only[pkX,pkA,ptA,pkM,pkH,a8,seval,ah,ai]
  cases hF:er (kw p a.ty 4) 10 with
  |error e=>
   have hD:doM p s c 3=.error e:=by simp only[doM,okb,erb,hA,hF]
   rw[hD]
   exact .inr (fc 0 rfl rfl (Cu hp hF) rfl (ab rfl) rfl bf (cT (ae _) rfl (ab rfl) (by simp[BL,bxs,ar,stO])))
  |ok _u=>
   left
   refine cU 0 rfl (Ct hp hF) (fun _=>rfl) (ab rfl) rfl bf (fun _=>rfl) ?_
   try simp only[pkX,pkA,ptA,pkH,a8,seval,ah,ai]
   cases hG:fP s a.va with
   |error e=>
    have hD:doM p s c 3=.error e:=by simp only[doM,okb,hA,hF,hG]
    rw[hD]
    exact .inr (fc 0 rfl rfl (pd hS (bY (gk hS hA).2.1 (by decide)) hG) rfl (ab rfl) rfl bf (cT (ae _) rfl (ab rfl) (by simp[BL,bxs,ar,stO])))
   |ok s'=>
    left
    refine ig 0 rfl (pa hS (bY (gk hS hA).2.1 (by decide)) hG) rfl (ab rfl) rfl rfl ?_
    try simp only[yj]
    have hD:doM p s c 3=.ok s':=by simp only[doM,okb,hA,hF,hG]
    simp only[hD,oQ,oP,stO]
    exact dJ [] rfl rfl (ae _) (ab rfl) trivial ⟨rfl,trivial⟩ dl
theorem Xk (hp:p.types.length≤8) (hr:p.rules.length≤40) (hS:SyOk s):FnO Tryz.prog G 70 [.bp 0 0] [mB p s c] (oP (doM p s c 2)) (.tup []) [mB p (stO s (doM p s c 2)) c]:=by
 refine jd (rs:=[]) (k:=1) [3000001,2900000,2900001,2900002,2900003,2900004,1900009,1900011,1900013,1900020,1000028] mixed Tryz.func70 rfl rfl rfl rfl (by kernel_rfl) (by simp) rfl rfl rfl (dA rfl) (ae _) ?_
 simp only[LQ,a8,seval,ah,ai]
 have hb:BL 0 [mB p s c] (bxs [mB p s c]):=⟨rfl,trivial⟩
 cases hX:ofI s.its c.m with
 |error e=>
  have hD:doM p s c 2=.error e:=by simp only[doM,erb,hX]
  rw[hD]
  exact .inr (fc 0 rfl rfl (m4 hS hX) rfl (ab rfl) rfl bf (cT (ae _) rfl (ab rfl) (by simp[BL,bxs,stO])))
 |ok x=>
  left
  refine cU 0 rfl (lu hS hX) (fun _=>rfl) (ab rfl) rfl bf (fun _=>rfl) ?_
  try simp only[ul,a8,seval,ah,ai]
  cases hT:o7 p c.t with
  |error e=>
   have hD:doM p s c 2=.error e:=by simp only[doM,okb,erb,hX,hT]
   rw[hD]
   exact .inr (fc 0 rfl rfl (qt hp hT) rfl (ab rfl) rfl bf (cT (ae _) rfl (ab rfl) (by simp[BL,bxs,ar,stO])))
  |ok _u=>
   left
   refine cU 0 rfl (qq hp hT) (fun _=>rfl) (ab rfl) rfl bf (fun _=>rfl) ?_
   try simp only[ul,a8,seval,ai]
   cases hK:er (ej x) 1 with
   |error e=>
    have hD:doM p s c 2=.error e:=by simp only[doM,okb,erb,hX,hT,hK]
    rw[hD]
    exact .inr (uj rfl rfl (tH hK) rfl (cT (ae _) rfl (ab rfl) (by simp[BL,bxs,ar,stO])))
   |ok _u=>
    left
    refine nf rfl (tG hK) (fun _=>rfl) (fun _=>rfl) ?_
    try simp only[LQ,a8,seval,ah,ai]
    cases hF:er (kw p c.t 2) 10 with
    |error e=>
     have hD:doM p s c 2=.error e:=by simp only[doM,okb,erb,hX,hT,hK,hF]
     rw[hD]
     exact .inr (fc 0 rfl rfl (Cu hp hF) rfl (ab rfl) rfl bf (cT (ae _) rfl (ab rfl) (by simp[BL,bxs,ar,stO])))
    |ok _u=>
     left
     refine cU 0 rfl (Ct hp hF) (fun _=>rfl) (ab rfl) rfl bf (fun _=>rfl) ?_
     try simp only[TB,seval,ah,ai]
     cases hW:mJ s c.t x with
     |error e=>
      have hD:doM p s c 2=.error e:=by simp only[doM,okb,hX,hT,hK,hF,hW]
      rw[hD]
      right
      refine fL (l:=[_,_,_,_,_,_,_]) rfl (by kernel_rfl) ?_
      simp only[TC,seval]
      exact fH 0 rfl rfl (Az hS (bY (eX hS hX).2 (by decide)) hW) rfl (ab rfl) rfl bf (cT (ae _) rfl (ab rfl) (by simp[BL,bxs,ar,stO]))
     |ok s'=>
      left
      try simp only[TD,seval]
      refine ig 0 rfl (Ay hS (bY (eX hS hX).2 (by decide)) hW) rfl (ab rfl) rfl rfl ?_
      try simp only[pkA]
      have hD:doM p s c 2=.ok s':=by simp only[doM,okb,hX,hT,hK,hF,hW]
      simp only[hD,oQ,oP,stO]
      exact dJ [] rfl rfl (ae _) (ab rfl) trivial ⟨rfl,trivial⟩ dl
theorem J2 (hp:p.types.length≤8) (hr:p.rules.length≤40) (hS:SyOk s):FnO Tryz.prog G 83 [.bp 0 0] [mB p s c] (oP (doM p s c 15)) (.tup []) [mB p (stO s (doM p s c 15)) c]:=by
 refine jd (rs:=[]) (k:=1) [3000001,2900000,2900001,2900002,2900003,1900009,1900011,1900013,1000023] mixed Tryz.func83 rfl rfl rfl rfl (by kernel_rfl) (by simp) rfl rfl rfl (dA rfl) (ae _) ?_
 simp only[LQ,a8,seval,ah,ai]
 have hb:BL 0 [mB p s c] (bxs [mB p s c]):=⟨rfl,trivial⟩
 cases hA:ofI s.its c.a with
 |error e=>
  have hD:doM p s c 15=.error e:=by simp only[doM,erb,hA]
  rw[hD]
  exact .inr (fc 0 rfl rfl (m4 hS hA) rfl (ab rfl) rfl bf (cT (ae _) rfl (ab rfl) (by simp[BL,bxs,stO])))
 |ok a=>
  left
  refine cU 0 rfl (lu hS hA) (fun _=>rfl) (ab rfl) rfl bf (fun _=>rfl) ?_
  try simp only[ul,a8,seval,ah,ai]
  cases hT:o7 p c.t with
  |error e=>
   have hD:doM p s c 15=.error e:=by simp only[doM,okb,erb,hA,hT]
   rw[hD]
   exact .inr (fc 0 rfl rfl (qt hp hT) rfl (ab rfl) rfl bf (cT (ae _) rfl (ab rfl) (by simp[BL,bxs,ar,stO])))
  |ok _u=>
   left
   refine cU 0 rfl (qq hp hT) (fun _=>rfl) (ab rfl) rfl bf (fun _=>rfl) ?_
   try simp only[ul,a8,seval,ai]
   cases hK:er (ej a) 1 with
   |error e=>
    have hD:doM p s c 15=.error e:=by simp only[doM,okb,erb,hA,hT,hK]
    rw[hD]
    exact .inr (uj rfl rfl (tH hK) rfl (cT (ae _) rfl (ab rfl) (by simp[BL,bxs,ar,stO])))
   |ok _u=>
    left
    refine nf rfl (tG hK) (fun _=>rfl) (fun _=>rfl) ?_
    try simp only[TB,seval,ah,ai]
    cases hG:fP s (.mk 5 c.t [a]) with
    |error e=>
     have hD:doM p s c 15=.error e:=by simp only[doM,okb,hA,hT,hK,hG]
     rw[hD]
     right
     refine fL (l:=[_,_,_,_,_,_,_,_,_]) rfl (by kernel_rfl) ?_
     simp only[TC,seval]
     refine aD («as»:=[i64 5,i64 c.t,.c (tsC [a])]) rfl (of_ok 5 c.t [a]) (fun h=>(by cases h)) ?_
     simp only[pkA]
     exact fH 0 rfl rfl (pd hS (v8 (eX hS hA).2) hG) rfl (ab rfl) rfl bf (cT (ae _) rfl (ab rfl) (by simp[BL,bxs,ar,stO]))
    |ok s'=>
     left
     try simp only[TD,seval]
     refine aD («as»:=[i64 5,i64 c.t,.c (tsC [a])]) rfl (of_ok 5 c.t [a]) (fun h=>(by cases h)) ?_
     try simp only[pkA,seval]
     refine ig 0 rfl (pa hS (v8 (eX hS hA).2) hG) rfl (ab rfl) rfl rfl ?_
     try simp only[pkA]
     have hD:doM p s c 15=.ok s':=by simp only[doM,okb,hA,hT,hK,hG]
     simp only[hD,oQ,oP,stO]
     exact dJ [] rfl rfl (ae _) (ab rfl) trivial ⟨rfl,trivial⟩ dl
