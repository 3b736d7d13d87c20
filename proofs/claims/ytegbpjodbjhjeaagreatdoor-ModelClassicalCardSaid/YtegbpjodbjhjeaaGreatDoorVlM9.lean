/- Layer 16: the calls. (Printed by gen16.py.) -/
import Derived.Test.YtegbpjodbjhjeaaGreatDoorVlMa
set_option linter.all false
namespace Go.Proofs.YtegbpjodbjhjeaaGreatDoor
open Go Go.Vl
open Kp (Pol Ty Ru Qu poC tyC ruC quC)
variable {G:Gl} {p:Pol} {s:Sy} {c:Cl}
set_option maxRecDepth 10000
def zb:=jj @pkX @pkA
def pH:=jj @pkA (jj @ptA @pkM)
def ve:=jj @pkX (jj @pkA (jj @ptA @pkT))
def UL:=jj @pkX (jj @pkA (jj @ptA (jj @pkM (jj @pkT @pkH))))
theorem IF (hp:p.types.length≤8) (hr:p.rules.length≤40) (hS:SyOk s):FnO Tryz.prog G 81 [.bp 0 0] [mB p s c] (oP (doM p s c 13)) (.tup []) [mB p (stO s (doM p s c 13)) c]:=by
 refine jo (rs:=[]) (k:=1) [3000001,2900000,2900001,2900002,2800000,1900010,1900017,1900019,1000025] mixed Tryz.func81 rfl rfl rfl rfl (by kernel_rfl) (by simp) rfl rfl rfl (dI rfl) (ae _) ?_
 simp only[zb,seval,ah]
 have hb:BL 0 [mB p s c] (bxs [mB p s c]):=⟨rfl,trivial⟩
 cases hA:ofI s.its c.a with
 |error e=>
  have hD:doM p s c 13=.error e:=by simp only[doM,erb,hA]
  rw[hD]
  right
  refine iy 1000 6 [0,1,2,3,4,5] [7,8,9,10,11,12,14,15] (lA:=[_,_,_,_,_,_]) (lB:=[_,_,_,_,_,_,_,_]) rfl (by kernel_rfl) rfl rfl rfl ?_
  simp only[unA,unO,aO,bI,b8,bQ,bR]
  simp only[pH,seval]
  intro fr jn
  have h4:=jn 4 (by decide)
  have h9:=jn 9 (by decide)
  refine fU 0 rfl (all:=[.bp 0 0,i64 c.a]) (g:=114) (by simp only[ev,aO,bI,h4,h9];rfl) (nw hS hA) (by rfl) (bz 0) rfl bf (cY (ae _) rfl (ae _) hb)
 |ok a=>
  cases hX:ofI s.its c.m with
  |error e=>
   have hD:doM p s c 13=.error e:=by simp only[doM,okb,erb,hA,hX]
   rw[hD]
   right
   refine iy 1000 13 [0,1,2,3,4,5,6,7,8,9,10,11,12] [14,15] (lA:=[_,_,_,_,_,_,_,_,_,_,_,_,_]) (lB:=[_,_]) rfl (by kernel_rfl) rfl rfl rfl ?_
   simp only[unA,unO,aO,bI,b8,bQ,bR]
   simp only[pH,seval]
   refine da 0 rfl (lO hS hA) (fun _=>rfl) (ab rfl) rfl bf (fun _=>rfl) ?_
   simp only[pH,seval]
   intro fr jn
   have h4:=jn 11 (by decide)
   have h9:=jn 16 (by decide)
   refine fU 0 rfl (all:=[.bp 0 0,i64 c.m]) (g:=114) (by simp only[ev,aO,bI,h4,h9];rfl) (nw hS hX) (by rfl) (bz 0) rfl bf (cY (ae _) rfl (ae _) hb)
  |ok x=>
   left
   refine nF (n:=14) rfl rfl rfl ?_
   simp only[pH,seval]
   refine da 0 rfl (lO hS hA) (fun _=>rfl) (ab rfl) rfl bf (fun _=>rfl) ?_
   simp only[pH,seval]
   refine da 0 rfl (lO hS hX) (fun _=>rfl) (ab rfl) rfl bf (fun _=>rfl) ?_
   simp only[ve,ba,seval,ah,ai]
   refine⟨?_,?_⟩
   all_goals
    try simp only[UL,ba,seval,ah,ai]
    cases hK:eH (eC a) 1 with
    |error e=>
     have hD:doM p s c 13=.error e:=by simp only[doM,okb,erb,hA,hX,hK]
     rw[hD]
     exact .inr (vb rfl rfl (uy hK) rfl (cY (ae _) rfl (ab rfl) (by simp[BL,bxs,au,stO])))
    |ok _u=>
     left
     refine nG rfl (ux hK) (fun _=>rfl) (fun _=>rfl) ?_
     try simp only[ve,ba,seval,ah,ai]
     left
     refine ay («as»:=[i64 3,i64 0,.c (tsC [a,x])]) rfl (of_ok 3 0 [a,x]) (fun h=>(by cases h)) ?_
     simp only[zb,ba,seval]
     cases hG:gk s (iC a x) with
     |error e=>
      have hD:doM p s c 13=.error e:=by simp only[doM,okb,hA,hX,hK,hG]
      rw[hD]
      exact .inr (ft 0 rfl rfl (pG hS (sb (fj hS hA).2 (fj hS hX).2) hG) rfl (ab rfl) rfl bf (cY (ae _) rfl (ab rfl) (by simp[BL,bxs,au,stO])))
     |ok s'=>
      left
      refine iz 0 rfl (pF hS (sb (fj hS hA).2 (fj hS hX).2) hG) rfl (ab rfl) rfl rfl ?_
      try simp only[zb]
      have hD:doM p s c 13=.ok s':=by simp only[doM,okb,hA,hX,hK,hG]
      simp only[hD,oQ,oP,stO]
      exact dP [] rfl rfl (ae _) (ab rfl) trivial ⟨rfl,trivial⟩ dx
def UM:=jj @pkX (jj @pkA (jj @ptA (jj @pkM @pkT)))
def UN:=jj @pkA (jj @ptA (jj @pkM @pkT))
def UO:=jj @pkA (jj @ptA (jj @pkM (jj @pkT @pkH)))
theorem Lc (hp:p.types.length≤8) (hr:p.rules.length≤40) (hS:SyOk s):FnO Tryz.prog G 82 [.bp 0 0] [mB p s c] (oP (doM p s c 14)) (.tup []) [mB p (stO s (doM p s c 14)) c]:=by
 refine jo (rs:=[]) (k:=1) [3000001,2900000,2900001,2900002,2900003,2900004,2800000,1900010,1900017,1900019,1900021,1900023,1000034] mixed Tryz.func82 rfl rfl rfl rfl (by kernel_rfl) (by simp) rfl rfl rfl (dI rfl) (ae _) ?_
 simp only[zb,seval,ah]
 have hb:BL 0 [mB p s c] (bxs [mB p s c]):=⟨rfl,trivial⟩
 cases hA:ofI s.its c.a with
 |error e=>
  have hD:doM p s c 14=.error e:=by simp only[doM,erb,hA]
  rw[hD]
  right
  refine iy 1000 6 [0,1,2,3,4,5] [7,8,9,10,11,12,14,15] (lA:=[_,_,_,_,_,_]) (lB:=[_,_,_,_,_,_,_,_]) rfl (by kernel_rfl) rfl rfl rfl ?_
  simp only[unA,unO,aO,bI,b8,bQ,bR]
  simp only[pH,seval]
  intro fr jn
  have h4:=jn 4 (by decide)
  have h9:=jn 9 (by decide)
  refine fU 0 rfl (all:=[.bp 0 0,i64 c.a]) (g:=114) (by simp only[ev,aO,bI,h4,h9];rfl) (nw hS hA) (by rfl) (bz 0) rfl bf (cY (ae _) rfl (ae _) hb)
 |ok a=>
  cases hX:ofI s.its c.m with
  |error e=>
   have hD:doM p s c 14=.error e:=by simp only[doM,okb,erb,hA,hX]
   rw[hD]
   right
   refine iy 1000 13 [0,1,2,3,4,5,6,7,8,9,10,11,12] [14,15] (lA:=[_,_,_,_,_,_,_,_,_,_,_,_,_]) (lB:=[_,_]) rfl (by kernel_rfl) rfl rfl rfl ?_
   simp only[unA,unO,aO,bI,b8,bQ,bR]
   simp only[pH,seval]
   refine da 0 rfl (lO hS hA) (fun _=>rfl) (ab rfl) rfl bf (fun _=>rfl) ?_
   simp only[pH,seval]
   intro fr jn
   have h4:=jn 11 (by decide)
   have h9:=jn 16 (by decide)
   refine fU 0 rfl (all:=[.bp 0 0,i64 c.m]) (g:=114) (by simp only[ev,aO,bI,h4,h9];rfl) (nw hS hX) (by rfl) (bz 0) rfl bf (cY (ae _) rfl (ae _) hb)
  |ok x=>
   left
   refine nF (n:=14) rfl rfl rfl ?_
   simp only[pH,seval]
   refine da 0 rfl (lO hS hA) (fun _=>rfl) (ab rfl) rfl bf (fun _=>rfl) ?_
   simp only[pH,seval]
   refine da 0 rfl (lO hS hX) (fun _=>rfl) (ab rfl) rfl bf (fun _=>rfl) ?_
   simp only[ve,ba,seval,ah,ai]
   refine⟨?_,?_⟩
   all_goals
    try simp only[UL,ba,seval,ah,ai]
    cases hT:pC p c.t with
    |error e=>
     have hD:doM p s c 14=.error e:=by simp only[doM,okb,erb,hA,hX,hT]
     rw[hD]
     exact .inr (ft 0 rfl rfl (qQ hp hT) rfl (ab rfl) rfl bf (cY (ae _) rfl (ab rfl) (by simp[BL,bxs,au,stO])))
    |ok _u=>
     left
     refine da 0 rfl (qP hp hT) (fun _=>rfl) (ab rfl) rfl bf (fun _=>rfl) ?_
     try simp only[ve,ba,seval,ai]
     cases hK:eH (eC a) 1 with
     |error e=>
      have hD:doM p s c 14=.error e:=by simp only[doM,okb,erb,hA,hX,hT,hK]
      rw[hD]
      exact .inr (vb rfl rfl (uy hK) rfl (cY (ae _) rfl (ab rfl) (by simp[BL,bxs,au,stO])))
     |ok _u=>
      left
      refine nG rfl (ux hK) (fun _=>rfl) (fun _=>rfl) ?_
      try simp only[ve,ba,seval,ai]
      cases hL:eH (eC x) 1 with
      |error e=>
       have hD:doM p s c 14=.error e:=by simp only[doM,okb,erb,hA,hX,hT,hK,hL]
       rw[hD]
       exact .inr (vb rfl rfl (uy hL) rfl (cY (ae _) rfl (ab rfl) (by simp[BL,bxs,au,stO])))
      |ok _u=>
       left
       refine nG rfl (ux hL) (fun _=>rfl) (fun _=>rfl) ?_
       try simp only[UM,seval,ah,ai]
       cases hG:gk s (.mk 4 c.t [a,x]) with
       |error e=>
        have hD:doM p s c 14=.error e:=by simp only[doM,okb,hA,hX,hT,hK,hL,hG]
        rw[hD]
        right
        refine fY (l:=[_,_,_,_,_,_,_,_,_,_]) rfl (by kernel_rfl) ?_
        simp only[UN,seval]
        refine ay («as»:=[i64 4,i64 c.t,.c (tsC [a,x])]) rfl (of_ok 4 c.t [a,x]) (fun h=>(by cases h)) ?_
        simp only[pkA]
        exact fU 0 rfl rfl (pG hS (sb (fj hS hA).2 (fj hS hX).2) hG) rfl (ab rfl) rfl bf (cY (ae _) rfl (ab rfl) (by simp[BL,bxs,au,stO]))
       |ok s'=>
        left
        try simp only[UO,seval]
        refine ay («as»:=[i64 4,i64 c.t,.c (tsC [a,x])]) rfl (of_ok 4 c.t [a,x]) (fun h=>(by cases h)) ?_
        try simp only[pkA,seval]
        refine iz 0 rfl (pF hS (sb (fj hS hA).2 (fj hS hX).2) hG) rfl (ab rfl) rfl rfl ?_
        try simp only[pkA]
        have hD:doM p s c 14=.ok s':=by simp only[doM,okb,hA,hX,hT,hK,hL,hG]
        simp only[hD,oQ,oP,stO]
        exact dP [] rfl rfl (ae _) (ab rfl) trivial ⟨rfl,trivial⟩ dx
theorem IG (hp:p.types.length≤8) (hr:p.rules.length≤40) (hS:SyOk s):FnO Tryz.prog G 84 [.bp 0 0] [mB p s c] (oP (doM p s c 16)) (.tup []) [mB p (stO s (doM p s c 16)) c]:=by
 refine jo (rs:=[]) (k:=1) [3000001,2900000,2900001,2800000,1900010,1900017,1900022,1000023] mixed Tryz.func84 rfl rfl rfl rfl (by kernel_rfl) (by simp) rfl rfl rfl (dI rfl) (ae _) ?_
 simp only[zb,seval,ah]
 have hb:BL 0 [mB p s c] (bxs [mB p s c]):=⟨rfl,trivial⟩
 cases hA:ofI s.its c.a with
 |error e=>
  have hD:doM p s c 16=.error e:=by simp only[doM,erb,hA]
  rw[hD]
  right
  refine iy 1000 6 [0,1,2,3,4,5] [7,8,9,10,11,12,14,15] (lA:=[_,_,_,_,_,_]) (lB:=[_,_,_,_,_,_,_,_]) rfl (by kernel_rfl) rfl rfl rfl ?_
  simp only[unA,unO,aO,bI,b8,bQ,bR]
  simp only[pH,seval]
  intro fr jn
  have h4:=jn 4 (by decide)
  have h9:=jn 9 (by decide)
  refine fU 0 rfl (all:=[.bp 0 0,i64 c.a]) (g:=114) (by simp only[ev,aO,bI,h4,h9];rfl) (nw hS hA) (by rfl) (bz 0) rfl bf (cY (ae _) rfl (ae _) hb)
 |ok a=>
  cases hX:ofI s.its c.m with
  |error e=>
   have hD:doM p s c 16=.error e:=by simp only[doM,okb,erb,hA,hX]
   rw[hD]
   right
   refine iy 1000 13 [0,1,2,3,4,5,6,7,8,9,10,11,12] [14,15] (lA:=[_,_,_,_,_,_,_,_,_,_,_,_,_]) (lB:=[_,_]) rfl (by kernel_rfl) rfl rfl rfl ?_
   simp only[unA,unO,aO,bI,b8,bQ,bR]
   simp only[pH,seval]
   refine da 0 rfl (lO hS hA) (fun _=>rfl) (ab rfl) rfl bf (fun _=>rfl) ?_
   simp only[pH,seval]
   intro fr jn
   have h4:=jn 11 (by decide)
   have h9:=jn 16 (by decide)
   refine fU 0 rfl (all:=[.bp 0 0,i64 c.m]) (g:=114) (by simp only[ev,aO,bI,h4,h9];rfl) (nw hS hX) (by rfl) (bz 0) rfl bf (cY (ae _) rfl (ae _) hb)
  |ok x=>
   left
   refine nF (n:=14) rfl rfl rfl ?_
   simp only[pH,seval]
   refine da 0 rfl (lO hS hA) (fun _=>rfl) (ab rfl) rfl bf (fun _=>rfl) ?_
   simp only[pH,seval]
   refine da 0 rfl (lO hS hX) (fun _=>rfl) (ab rfl) rfl bf (fun _=>rfl) ?_
   simp only[ve,ba,seval,ah,ai]
   refine⟨?_,?_⟩
   all_goals
    try simp only[UL,ba,seval,ah,ai]
    cases hO:jc x a [3,4] with
    |error e=>
     have hD:doM p s c 16=.error e:=by simp only[doM,okb,erb,hA,hX,hO]
     rw[hD]
     exact .inr (vb rfl rfl (FV (fj hS hX) (fj hS hA).2 (by decide) (by simp) hO) rfl (cY (ae _) rfl (ab rfl) (by simp[BL,bxs,au,stO])))
    |ok y=>
     left
     refine nG rfl (FU (fj hS hX) (fj hS hA).2 (by decide) (by simp) hO) (fun _=>rfl) (fun _=>rfl) ?_
     try simp only[zb,ba,seval]
     cases hG:gk s y with
     |error e=>
      have hD:doM p s c 16=.error e:=by simp only[doM,okb,hA,hX,hO,hG]
      rw[hD]
      exact .inr (ft 0 rfl rfl (pG hS (cj (oV (fj hS hX) (by simp) hO).2 (by decide)) hG) rfl (ab rfl) rfl bf (cY (ae _) rfl (ab rfl) (by simp[BL,bxs,au,stO])))
     |ok s'=>
      left
      refine iz 0 rfl (pF hS (cj (oV (fj hS hX) (by simp) hO).2 (by decide)) hG) rfl (ab rfl) rfl rfl ?_
      try simp only[zb]
      have hD:doM p s c 16=.ok s':=by simp only[doM,okb,hA,hX,hO,hG]
      simp only[hD,oQ,oP,stO]
      exact dP [] rfl rfl (ae _) (ab rfl) trivial ⟨rfl,trivial⟩ dx
def M6:=jj @pkX (jj @pkA (jj @ptA @pkM))
theorem BB (hp:p.types.length≤8) (hr:p.rules.length≤40) (hS:SyOk s):FnO Tryz.prog G 71 [.bp 0 0] [mB p s c] (oP (doM p s c 3)) (.tup []) [mB p (stO s (doM p s c 3)) c]:=by
 refine jo (rs:=[]) (k:=1) [3000001,2900000,2900001,2900002,1900009,1900013,1000017] mixed Tryz.func71 rfl rfl rfl rfl (by kernel_rfl) (by simp) rfl rfl rfl (dI rfl) (ae _) ?_
 simp only[M6,ba,seval,ah,ai]
 have hb:BL 0 [mB p s c] (bxs [mB p s c]):=⟨rfl,trivial⟩
 cases hA:ofI s.hs c.a with
 |error e=>
  have hD:doM p s c 3=.error e:=by simp only[doM,erb,hA]
  rw[hD]
  exact .inr (ft 0 rfl rfl (lg hS hA) rfl (ab rfl) rfl bf (cY (ae _) rfl (ab rfl) (by simp[BL,bxs,stO])))
 |ok a=>
  left
  refine da 0 rfl (gy hS hA) (fun _=>rfl) (ab rfl) rfl bf (fun _=>rfl) ?_
  try simp only[pkX,pkA,ptA,pkM,pkH,ba,seval,ah,ai]
  cases hF:eH (jE p a.ty 4) 10 with
  |error e=>
   have hD:doM p s c 3=.error e:=by simp only[doM,okb,erb,hA,hF]
   rw[hD]
   exact .inr (ft 0 rfl rfl (Dz hp hF) rfl (ab rfl) rfl bf (cY (ae _) rfl (ab rfl) (by simp[BL,bxs,au,stO])))
  |ok _u=>
   left
   refine da 0 rfl (Dy hp hF) (fun _=>rfl) (ab rfl) rfl bf (fun _=>rfl) ?_
   try simp only[pkX,pkA,ptA,pkH,ba,seval,ah,ai]
   cases hG:gk s a.va with
   |error e=>
    have hD:doM p s c 3=.error e:=by simp only[doM,okb,hA,hF,hG]
    rw[hD]
    exact .inr (ft 0 rfl rfl (pG hS (cj (gG hS hA).2.1 (by decide)) hG) rfl (ab rfl) rfl bf (cY (ae _) rfl (ab rfl) (by simp[BL,bxs,au,stO])))
   |ok s'=>
    left
    refine iz 0 rfl (pF hS (cj (gG hS hA).2.1 (by decide)) hG) rfl (ab rfl) rfl rfl ?_
    try simp only[zb]
    have hD:doM p s c 3=.ok s':=by simp only[doM,okb,hA,hF,hG]
    simp only[hD,oQ,oP,stO]
    exact dP [] rfl rfl (ae _) (ab rfl) trivial ⟨rfl,trivial⟩ dx
theorem YA (hp:p.types.length≤8) (hr:p.rules.length≤40) (hS:SyOk s):FnO Tryz.prog G 70 [.bp 0 0] [mB p s c] (oP (doM p s c 2)) (.tup []) [mB p (stO s (doM p s c 2)) c]:=by
 refine jo (rs:=[]) (k:=1) [3000001,2900000,2900001,2900002,2900003,2900004,1900009,1900011,1900013,1900020,1000028] mixed Tryz.func70 rfl rfl rfl rfl (by kernel_rfl) (by simp) rfl rfl rfl (dI rfl) (ae _) ?_
 simp only[M6,ba,seval,ah,ai]
 have hb:BL 0 [mB p s c] (bxs [mB p s c]):=⟨rfl,trivial⟩
 cases hX:ofI s.its c.m with
 |error e=>
  have hD:doM p s c 2=.error e:=by simp only[doM,erb,hX]
  rw[hD]
  exact .inr (ft 0 rfl rfl (nw hS hX) rfl (ab rfl) rfl bf (cY (ae _) rfl (ab rfl) (by simp[BL,bxs,stO])))
 |ok x=>
  left
  refine da 0 rfl (lO hS hX) (fun _=>rfl) (ab rfl) rfl bf (fun _=>rfl) ?_
  try simp only[ve,ba,seval,ah,ai]
  cases hT:pC p c.t with
  |error e=>
   have hD:doM p s c 2=.error e:=by simp only[doM,okb,erb,hX,hT]
   rw[hD]
   exact .inr (ft 0 rfl rfl (qQ hp hT) rfl (ab rfl) rfl bf (cY (ae _) rfl (ab rfl) (by simp[BL,bxs,au,stO])))
  |ok _u=>
   left
   refine da 0 rfl (qP hp hT) (fun _=>rfl) (ab rfl) rfl bf (fun _=>rfl) ?_
   try simp only[ve,ba,seval,ai]
   cases hK:eH (eC x) 1 with
   |error e=>
    have hD:doM p s c 2=.error e:=by simp only[doM,okb,erb,hX,hT,hK]
    rw[hD]
    exact .inr (vb rfl rfl (uy hK) rfl (cY (ae _) rfl (ab rfl) (by simp[BL,bxs,au,stO])))
   |ok _u=>
    left
    refine nG rfl (ux hK) (fun _=>rfl) (fun _=>rfl) ?_
    try simp only[M6,ba,seval,ah,ai]
    cases hF:eH (jE p c.t 2) 10 with
    |error e=>
     have hD:doM p s c 2=.error e:=by simp only[doM,okb,erb,hX,hT,hK,hF]
     rw[hD]
     exact .inr (ft 0 rfl rfl (Dz hp hF) rfl (ab rfl) rfl bf (cY (ae _) rfl (ab rfl) (by simp[BL,bxs,au,stO])))
    |ok _u=>
     left
     refine da 0 rfl (Dy hp hF) (fun _=>rfl) (ab rfl) rfl bf (fun _=>rfl) ?_
     try simp only[UM,seval,ah,ai]
     cases hW:m7 s c.t x with
     |error e=>
      have hD:doM p s c 2=.error e:=by simp only[doM,okb,hX,hT,hK,hF,hW]
      rw[hD]
      right
      refine fY (l:=[_,_,_,_,_,_,_]) rfl (by kernel_rfl) ?_
      simp only[UN,seval]
      exact fU 0 rfl rfl (BA hS (cj (fj hS hX).2 (by decide)) hW) rfl (ab rfl) rfl bf (cY (ae _) rfl (ab rfl) (by simp[BL,bxs,au,stO]))
     |ok s'=>
      left
      try simp only[UO,seval]
      refine iz 0 rfl (Bz hS (cj (fj hS hX).2 (by decide)) hW) rfl (ab rfl) rfl rfl ?_
      try simp only[pkA]
      have hD:doM p s c 2=.ok s':=by simp only[doM,okb,hX,hT,hK,hF,hW]
      simp only[hD,oQ,oP,stO]
      exact dP [] rfl rfl (ae _) (ab rfl) trivial ⟨rfl,trivial⟩ dx
theorem Ld (hp:p.types.length≤8) (hr:p.rules.length≤40) (hS:SyOk s):FnO Tryz.prog G 83 [.bp 0 0] [mB p s c] (oP (doM p s c 15)) (.tup []) [mB p (stO s (doM p s c 15)) c]:=by
 refine jo (rs:=[]) (k:=1) [3000001,2900000,2900001,2900002,2900003,1900009,1900011,1900013,1000023] mixed Tryz.func83 rfl rfl rfl rfl (by kernel_rfl) (by simp) rfl rfl rfl (dI rfl) (ae _) ?_
 simp only[M6,ba,seval,ah,ai]
 have hb:BL 0 [mB p s c] (bxs [mB p s c]):=⟨rfl,trivial⟩
 cases hA:ofI s.its c.a with
 |error e=>
  have hD:doM p s c 15=.error e:=by simp only[doM,erb,hA]
  rw[hD]
  exact .inr (ft 0 rfl rfl (nw hS hA) rfl (ab rfl) rfl bf (cY (ae _) rfl (ab rfl) (by simp[BL,bxs,stO])))
 |ok a=>
  left
  refine da 0 rfl (lO hS hA) (fun _=>rfl) (ab rfl) rfl bf (fun _=>rfl) ?_
  try simp only[ve,ba,seval,ah,ai]
  cases hT:pC p c.t with
  |error e=>
   have hD:doM p s c 15=.error e:=by simp only[doM,okb,erb,hA,hT]
   rw[hD]
   exact .inr (ft 0 rfl rfl (qQ hp hT) rfl (ab rfl) rfl bf (cY (ae _) rfl (ab rfl) (by simp[BL,bxs,au,stO])))
  |ok _u=>
   left
   refine da 0 rfl (qP hp hT) (fun _=>rfl) (ab rfl) rfl bf (fun _=>rfl) ?_
   try simp only[ve,ba,seval,ai]
   cases hK:eH (eC a) 1 with
   |error e=>
    have hD:doM p s c 15=.error e:=by simp only[doM,okb,erb,hA,hT,hK]
    rw[hD]
    exact .inr (vb rfl rfl (uy hK) rfl (cY (ae _) rfl (ab rfl) (by simp[BL,bxs,au,stO])))
   |ok _u=>
    left
    refine nG rfl (ux hK) (fun _=>rfl) (fun _=>rfl) ?_
    try simp only[UM,seval,ah,ai]
    cases hG:gk s (.mk 5 c.t [a]) with
    |error e=>
     have hD:doM p s c 15=.error e:=by simp only[doM,okb,hA,hT,hK,hG]
     rw[hD]
     right
     refine fY (l:=[_,_,_,_,_,_,_,_,_]) rfl (by kernel_rfl) ?_
     simp only[UN,seval]
     refine ay («as»:=[i64 5,i64 c.t,.c (tsC [a])]) rfl (of_ok 5 c.t [a]) (fun h=>(by cases h)) ?_
     simp only[pkA]
     exact fU 0 rfl rfl (pG hS (xg (fj hS hA).2) hG) rfl (ab rfl) rfl bf (cY (ae _) rfl (ab rfl) (by simp[BL,bxs,au,stO]))
    |ok s'=>
     left
     try simp only[UO,seval]
     refine ay («as»:=[i64 5,i64 c.t,.c (tsC [a])]) rfl (of_ok 5 c.t [a]) (fun h=>(by cases h)) ?_
     try simp only[pkA,seval]
     refine iz 0 rfl (pF hS (xg (fj hS hA).2) hG) rfl (ab rfl) rfl rfl ?_
     try simp only[pkA]
     have hD:doM p s c 15=.ok s':=by simp only[doM,okb,hA,hT,hK,hG]
     simp only[hD,oQ,oP,stO]
     exact dP [] rfl rfl (ae _) (ab rfl) trivial ⟨rfl,trivial⟩ dx
