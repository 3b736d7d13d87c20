/- Layer 16: the calls. (Printed by gen16.py.) -/
import Derived.Test.YtegbpjodbjhjeaaGreatDoorVlMa
set_option linter.all false
namespace Go.Proofs.YtegbpjodbjhjeaaGreatDoor
open Go Go.Vl
open Kp (Pol Ty Ru Qu poC tyC ruC quC)
variable {G:Gl} {p:Pol} {s:Sy} {c:Cl}
set_option maxRecDepth 10000
def nY:=jj @pkX @pkA
def jt:=jj @pkA (jj @ptA @pkM)
def vd:=jj @pkX (jj @pkA (jj @ptA (jj @pkM (jj @pkT @pkH))))
def DJ:=jj @pkX (jj @pkA (jj @ptA (jj @pkT @pkH)))
theorem K9 (hp:p.types.length≤8) (hr:p.rules.length≤40) (hS:SyOk s):FnO Tryz.prog G 72 [.bp 0 0] [mB p s c] (oP (doM p s c 4)) (.tup []) [mB p (stO s (doM p s c 4)) c]:=by
 refine jo (rs:=[]) (k:=1) [3000001,2900000,2900001,2900002,2800000,1900010,1900017,1900021,1000028] mixed Tryz.func72 rfl rfl rfl rfl (by kernel_rfl) (by simp) rfl rfl rfl (dI rfl) (ae _) ?_
 simp only[nY,seval,ah]
 have hb:BL 0 [mB p s c] (bxs [mB p s c]):=⟨rfl,trivial⟩
 cases hA:ofI s.hs c.a with
 |error e=>
  have hD:doM p s c 4=.error e:=by simp only[doM,erb,hA]
  rw[hD]
  right
  refine iy 1000 6 [0,1,2,3,4,5] [7,8,9,10,11,12,14,15] (lA:=[_,_,_,_,_,_]) (lB:=[_,_,_,_,_,_,_,_]) rfl (by kernel_rfl) rfl rfl rfl ?_
  simp only[unA,unO,aO,bI,b8,bQ,bR]
  simp only[jt,seval]
  intro fr jn
  have h4:=jn 4 (by decide)
  have h9:=jn 9 (by decide)
  refine fU 0 rfl (all:=[.bp 0 0,i64 c.a]) (g:=116) (by simp only[ev,aO,bI,h4,h9];rfl) (lg hS hA) (by rfl) (bz 0) rfl bf (cY (ae _) rfl (ae _) hb)
 |ok a=>
  cases hX:ofI s.its c.m with
  |error e=>
   have hD:doM p s c 4=.error e:=by simp only[doM,okb,erb,hA,hX]
   rw[hD]
   right
   refine iy 1000 13 [0,1,2,3,4,5,6,7,8,9,10,11,12] [14,15] (lA:=[_,_,_,_,_,_,_,_,_,_,_,_,_]) (lB:=[_,_]) rfl (by kernel_rfl) rfl rfl rfl ?_
   simp only[unA,unO,aO,bI,b8,bQ,bR]
   simp only[jt,seval]
   refine da 0 rfl (gy hS hA) (fun _=>rfl) (ab rfl) rfl bf (fun _=>rfl) ?_
   simp only[jt,seval]
   intro fr jn
   have h4:=jn 11 (by decide)
   have h9:=jn 16 (by decide)
   refine fU 0 rfl (all:=[.bp 0 0,i64 c.m]) (g:=114) (by simp only[ev,aO,bI,h4,h9];rfl) (nw hS hX) (by rfl) (bz 0) rfl bf (cY (ae _) rfl (ae _) hb)
  |ok x=>
   left
   refine nF (n:=14) rfl rfl rfl ?_
   simp only[jt,seval]
   refine da 0 rfl (gy hS hA) (fun _=>rfl) (ab rfl) rfl bf (fun _=>rfl) ?_
   simp only[jt,seval]
   refine da 0 rfl (lO hS hX) (fun _=>rfl) (ab rfl) rfl bf (fun _=>rfl) ?_
   simp only[vd,ba,seval,ah,ai]
   refine⟨?_,?_⟩
   all_goals
    try simp only[vd,ba,seval,ah,ai]
    cases hF:eH (jE p a.ty 8) 10 with
    |error e=>
     have hD:doM p s c 4=.error e:=by simp only[doM,okb,erb,hA,hX,hF]
     rw[hD]
     exact .inr (ft 0 rfl rfl (Dz hp hF) rfl (ab rfl) rfl bf (cY (ae _) rfl (ab rfl) (by simp[BL,bxs,au,stO])))
    |ok _u=>
     left
     refine da 0 rfl (Dy hp hF) (fun _=>rfl) (ab rfl) rfl bf (fun _=>rfl) ?_
     try simp only[DJ,ba,seval,ah,ai]
     left
     refine ay («as»:=[i64 3,i64 0,.c (tsC [a.va,x])]) rfl (of_ok 3 0 [a.va,x]) (fun h=>(by cases h)) ?_
     simp only[nY,ba,seval]
     cases hG:gk s (iC a.va x) with
     |error e=>
      have hD:doM p s c 4=.error e:=by simp only[doM,okb,hA,hX,hF,hG]
      rw[hD]
      exact .inr (ft 0 rfl rfl (pG hS (sb (gG hS hA).2.1 (fj hS hX).2) hG) rfl (ab rfl) rfl bf (cY (ae _) rfl (ab rfl) (by simp[BL,bxs,au,stO])))
     |ok s'=>
      left
      refine iz 0 rfl (pF hS (sb (gG hS hA).2.1 (fj hS hX).2) hG) rfl (ab rfl) rfl rfl ?_
      try simp only[nY]
      have hD:doM p s c 4=.ok s':=by simp only[doM,okb,hA,hX,hF,hG]
      simp only[hD,oQ,oP,stO]
      exact dP [] rfl rfl (ae _) (ab rfl) trivial ⟨rfl,trivial⟩ dx
theorem La (hp:p.types.length≤8) (hr:p.rules.length≤40) (hS:SyOk s):FnO Tryz.prog G 73 [.bp 0 0] [mB p s c] (oP (doM p s c 5)) (.tup []) [mB p (stO s (doM p s c 5)) c]:=by
 refine jo (rs:=[]) (k:=1) [3000001,2900000,2900001,2900002,2800000,1900010,1900017,1900021,1900027,1000028] mixed Tryz.func73 rfl rfl rfl rfl (by kernel_rfl) (by simp) rfl rfl rfl (dI rfl) (ae _) ?_
 simp only[nY,seval,ah]
 have hb:BL 0 [mB p s c] (bxs [mB p s c]):=⟨rfl,trivial⟩
 cases hA:ofI s.hs c.a with
 |error e=>
  have hD:doM p s c 5=.error e:=by simp only[doM,erb,hA]
  rw[hD]
  right
  refine iy 1000 6 [0,1,2,3,4,5] [7,8,9,10,11,12,14,15] (lA:=[_,_,_,_,_,_]) (lB:=[_,_,_,_,_,_,_,_]) rfl (by kernel_rfl) rfl rfl rfl ?_
  simp only[unA,unO,aO,bI,b8,bQ,bR]
  simp only[jt,seval]
  intro fr jn
  have h4:=jn 4 (by decide)
  have h9:=jn 9 (by decide)
  refine fU 0 rfl (all:=[.bp 0 0,i64 c.a]) (g:=116) (by simp only[ev,aO,bI,h4,h9];rfl) (lg hS hA) (by rfl) (bz 0) rfl bf (cY (ae _) rfl (ae _) hb)
 |ok a=>
  cases hX:ofI s.its c.m with
  |error e=>
   have hD:doM p s c 5=.error e:=by simp only[doM,okb,erb,hA,hX]
   rw[hD]
   right
   refine iy 1000 13 [0,1,2,3,4,5,6,7,8,9,10,11,12] [14,15] (lA:=[_,_,_,_,_,_,_,_,_,_,_,_,_]) (lB:=[_,_]) rfl (by kernel_rfl) rfl rfl rfl ?_
   simp only[unA,unO,aO,bI,b8,bQ,bR]
   simp only[jt,seval]
   refine da 0 rfl (gy hS hA) (fun _=>rfl) (ab rfl) rfl bf (fun _=>rfl) ?_
   simp only[jt,seval]
   intro fr jn
   have h4:=jn 11 (by decide)
   have h9:=jn 16 (by decide)
   refine fU 0 rfl (all:=[.bp 0 0,i64 c.m]) (g:=114) (by simp only[ev,aO,bI,h4,h9];rfl) (nw hS hX) (by rfl) (bz 0) rfl bf (cY (ae _) rfl (ae _) hb)
  |ok x=>
   left
   refine nF (n:=14) rfl rfl rfl ?_
   simp only[jt,seval]
   refine da 0 rfl (gy hS hA) (fun _=>rfl) (ab rfl) rfl bf (fun _=>rfl) ?_
   simp only[jt,seval]
   refine da 0 rfl (lO hS hX) (fun _=>rfl) (ab rfl) rfl bf (fun _=>rfl) ?_
   simp only[vd,ba,seval,ah,ai]
   refine⟨?_,?_⟩
   all_goals
    try simp only[vd,ba,seval,ah,ai]
    cases hF:eH (jE p a.ty 16) 10 with
    |error e=>
     have hD:doM p s c 5=.error e:=by simp only[doM,okb,erb,hA,hX,hF]
     rw[hD]
     exact .inr (ft 0 rfl rfl (Dz hp hF) rfl (ab rfl) rfl bf (cY (ae _) rfl (ab rfl) (by simp[BL,bxs,au,stO])))
    |ok _u=>
     left
     refine da 0 rfl (Dy hp hF) (fun _=>rfl) (ab rfl) rfl bf (fun _=>rfl) ?_
     try simp only[DJ,ba,seval,ah,ai]
     cases hO:jc x a.va [3] with
     |error e=>
      have hD:doM p s c 5=.error e:=by simp only[doM,okb,erb,hA,hX,hF,hO]
      rw[hD]
      exact .inr (vb rfl rfl (FV (fj hS hX) (gG hS hA).2.1 (by decide) (by simp) hO) rfl (cY (ae _) rfl (ab rfl) (by simp[BL,bxs,au,stO])))
     |ok y=>
      left
      refine nG rfl (FU (fj hS hX) (gG hS hA).2.1 (by decide) (by simp) hO) (fun _=>rfl) (fun _=>rfl) ?_
      try simp only[nY,ba,seval]
      cases hG:gk s y with
      |error e=>
       have hD:doM p s c 5=.error e:=by simp only[doM,okb,hA,hX,hF,hO,hG]
       rw[hD]
       exact .inr (ft 0 rfl rfl (pG hS (cj (oV (fj hS hX) (by simp) hO).2 (by decide)) hG) rfl (ab rfl) rfl bf (cY (ae _) rfl (ab rfl) (by simp[BL,bxs,au,stO])))
      |ok s'=>
       left
       refine iz 0 rfl (pF hS (cj (oV (fj hS hX) (by simp) hO).2 (by decide)) hG) rfl (ab rfl) rfl rfl ?_
       try simp only[nY]
       have hD:doM p s c 5=.ok s':=by simp only[doM,okb,hA,hX,hF,hO,hG]
       simp only[hD,oQ,oP,stO]
       exact dP [] rfl rfl (ae _) (ab rfl) trivial ⟨rfl,trivial⟩ dx
theorem acy (hp:p.types.length≤8) (hr:p.rules.length≤40) (hS:SyOk s):FnO Tryz.prog G 74 [.bp 0 0] [mB p s c] (oP (doM p s c 6)) (.tup []) [mB p (stO s (doM p s c 6)) c]:=by
 refine jo (rs:=[]) (k:=1) [3000001,2900000,2900001,2900002,2800000,1900010,1900017,1900021,1000028] mixed Tryz.func74 rfl rfl rfl rfl (by kernel_rfl) (by simp) rfl rfl rfl (dI rfl) (ae _) ?_
 simp only[nY,seval,ah]
 have hb:BL 0 [mB p s c] (bxs [mB p s c]):=⟨rfl,trivial⟩
 cases hA:ofI s.hs c.a with
 |error e=>
  have hD:doM p s c 6=.error e:=by simp only[doM,erb,hA]
  rw[hD]
  right
  refine iy 1000 6 [0,1,2,3,4,5] [7,8,9,10,11,12,14,15] (lA:=[_,_,_,_,_,_]) (lB:=[_,_,_,_,_,_,_,_]) rfl (by kernel_rfl) rfl rfl rfl ?_
  simp only[unA,unO,aO,bI,b8,bQ,bR]
  simp only[jt,seval]
  intro fr jn
  have h4:=jn 4 (by decide)
  have h9:=jn 9 (by decide)
  refine fU 0 rfl (all:=[.bp 0 0,i64 c.a]) (g:=116) (by simp only[ev,aO,bI,h4,h9];rfl) (lg hS hA) (by rfl) (bz 0) rfl bf (cY (ae _) rfl (ae _) hb)
 |ok a=>
  cases hX:ofI s.its c.m with
  |error e=>
   have hD:doM p s c 6=.error e:=by simp only[doM,okb,erb,hA,hX]
   rw[hD]
   right
   refine iy 1000 13 [0,1,2,3,4,5,6,7,8,9,10,11,12] [14,15] (lA:=[_,_,_,_,_,_,_,_,_,_,_,_,_]) (lB:=[_,_]) rfl (by kernel_rfl) rfl rfl rfl ?_
   simp only[unA,unO,aO,bI,b8,bQ,bR]
   simp only[jt,seval]
   refine da 0 rfl (gy hS hA) (fun _=>rfl) (ab rfl) rfl bf (fun _=>rfl) ?_
   simp only[jt,seval]
   intro fr jn
   have h4:=jn 11 (by decide)
   have h9:=jn 16 (by decide)
   refine fU 0 rfl (all:=[.bp 0 0,i64 c.m]) (g:=114) (by simp only[ev,aO,bI,h4,h9];rfl) (nw hS hX) (by rfl) (bz 0) rfl bf (cY (ae _) rfl (ae _) hb)
  |ok x=>
   left
   refine nF (n:=14) rfl rfl rfl ?_
   simp only[jt,seval]
   refine da 0 rfl (gy hS hA) (fun _=>rfl) (ab rfl) rfl bf (fun _=>rfl) ?_
   simp only[jt,seval]
   refine da 0 rfl (lO hS hX) (fun _=>rfl) (ab rfl) rfl bf (fun _=>rfl) ?_
   simp only[vd,ba,seval,ah,ai]
   refine⟨?_,?_⟩
   all_goals
    try simp only[vd,ba,seval,ah,ai]
    cases hF:eH (jE p a.ty 32) 10 with
    |error e=>
     have hD:doM p s c 6=.error e:=by simp only[doM,okb,erb,hA,hX,hF]
     rw[hD]
     exact .inr (ft 0 rfl rfl (Dz hp hF) rfl (ab rfl) rfl bf (cY (ae _) rfl (ab rfl) (by simp[BL,bxs,au,stO])))
    |ok _u=>
     left
     refine da 0 rfl (Dy hp hF) (fun _=>rfl) (ab rfl) rfl bf (fun _=>rfl) ?_
     try simp only[DJ,ba,seval,ah,ai]
     left
     refine ay («as»:=[i64 6,i64 0,.c (tsC [a.va,x])]) rfl (of_ok 6 0 [a.va,x]) (fun h=>(by cases h)) ?_
     simp only[nY,ba,seval]
     cases hG:gk s (.mk 6 0 [a.va,x]) with
     |error e=>
      have hD:doM p s c 6=.error e:=by simp only[doM,okb,hA,hX,hF,hG]
      rw[hD]
      exact .inr (ft 0 rfl rfl (pG hS (sb (gG hS hA).2.1 (fj hS hX).2) hG) rfl (ab rfl) rfl bf (cY (ae _) rfl (ab rfl) (by simp[BL,bxs,au,stO])))
     |ok s'=>
      left
      refine iz 0 rfl (pF hS (sb (gG hS hA).2.1 (fj hS hX).2) hG) rfl (ab rfl) rfl rfl ?_
      try simp only[nY]
      have hD:doM p s c 6=.ok s':=by simp only[doM,okb,hA,hX,hF,hG]
      simp only[hD,oQ,oP,stO]
      exact dP [] rfl rfl (ae _) (ab rfl) trivial ⟨rfl,trivial⟩ dx
def ZB:=jj @pkX (jj @pkA (jj @ptA (jj @pkM @pkH)))
theorem Yz (hp:p.types.length≤8) (hr:p.rules.length≤40) (hS:SyOk s):FnO Tryz.prog G 75 [.bp 0 0] [mB p s c] (oP (doM p s c 7)) (.tup []) [mB p (stO s (doM p s c 7)) c]:=by
 refine jo (rs:=[]) (k:=1) [3000001,2900000,2900001,2900002,2800000,1900010,1900017,1900023,1000033] mixed Tryz.func75 rfl rfl rfl rfl (by kernel_rfl) (by simp) rfl rfl rfl (dI rfl) (ae _) ?_
 simp only[nY,seval,ah]
 have hb:BL 0 [mB p s c] (bxs [mB p s c]):=⟨rfl,trivial⟩
 cases hA:ofI s.hs c.a with
 |error e=>
  have hD:doM p s c 7=.error e:=by simp only[doM,erb,hA]
  rw[hD]
  right
  refine iy 1000 6 [0,1,2,3,4,5] [7,8,9,10,11,12,14,15] (lA:=[_,_,_,_,_,_]) (lB:=[_,_,_,_,_,_,_,_]) rfl (by kernel_rfl) rfl rfl rfl ?_
  simp only[unA,unO,aO,bI,b8,bQ,bR]
  simp only[jt,seval]
  intro fr jn
  have h4:=jn 4 (by decide)
  have h9:=jn 9 (by decide)
  refine fU 0 rfl (all:=[.bp 0 0,i64 c.a]) (g:=116) (by simp only[ev,aO,bI,h4,h9];rfl) (lg hS hA) (by rfl) (bz 0) rfl bf (cY (ae _) rfl (ae _) hb)
 |ok a=>
  cases hB:ofI s.hs c.b with
  |error e=>
   have hD:doM p s c 7=.error e:=by simp only[doM,okb,erb,hA,hB]
   rw[hD]
   right
   refine iy 1000 13 [0,1,2,3,4,5,6,7,8,9,10,11,12] [14,15] (lA:=[_,_,_,_,_,_,_,_,_,_,_,_,_]) (lB:=[_,_]) rfl (by kernel_rfl) rfl rfl rfl ?_
   simp only[unA,unO,aO,bI,b8,bQ,bR]
   simp only[jt,seval]
   refine da 0 rfl (gy hS hA) (fun _=>rfl) (ab rfl) rfl bf (fun _=>rfl) ?_
   simp only[jt,seval]
   intro fr jn
   have h4:=jn 11 (by decide)
   have h9:=jn 16 (by decide)
   refine fU 0 rfl (all:=[.bp 0 0,i64 c.b]) (g:=116) (by simp only[ev,aO,bI,h4,h9];rfl) (lg hS hB) (by rfl) (bz 0) rfl bf (cY (ae _) rfl (ae _) hb)
  |ok b=>
   left
   refine nF (n:=14) rfl rfl rfl ?_
   simp only[jt,seval]
   refine da 0 rfl (gy hS hA) (fun _=>rfl) (ab rfl) rfl bf (fun _=>rfl) ?_
   simp only[jt,seval]
   refine da 0 rfl (gy hS hB) (fun _=>rfl) (ab rfl) rfl bf (fun _=>rfl) ?_
   simp only[ZB,ba,seval,ah,ai]
   refine⟨?_,?_⟩
   all_goals
    try simp only[vd,ba,seval,ah,ai]
    cases hY:eH (mH p 1 a.ty b.ty) 10 with
    |error e=>
     have hD:doM p s c 7=.error e:=by simp only[doM,okb,erb,hA,hB,hY]
     rw[hD]
     exact .inr (ft 0 rfl rfl (ID hr hY) rfl (ab rfl) rfl bf (cY (ae _) rfl (ab rfl) (by simp[BL,bxs,au,stO])))
    |ok _u=>
     left
     refine da 0 rfl (IC hr hY) (fun _=>rfl) (ab rfl) rfl bf (fun _=>rfl) ?_
     try simp only[DJ,ba,seval,ah,ai]
     left
     refine ay («as»:=[i64 4,i64 b.ty,.c (tsC [a.va,b.va])]) rfl (of_ok 4 b.ty [a.va,b.va]) (fun h=>(by cases h)) ?_
     simp only[nY,ba,seval]
     cases hG:gk s (.mk 4 b.ty [a.va,b.va]) with
     |error e=>
      have hD:doM p s c 7=.error e:=by simp only[doM,okb,hA,hB,hY,hG]
      rw[hD]
      exact .inr (ft 0 rfl rfl (pG hS (sb (gG hS hA).2.1 (gG hS hB).2.1) hG) rfl (ab rfl) rfl bf (cY (ae _) rfl (ab rfl) (by simp[BL,bxs,au,stO])))
     |ok s'=>
      left
      refine iz 0 rfl (pF hS (sb (gG hS hA).2.1 (gG hS hB).2.1) hG) rfl (ab rfl) rfl rfl ?_
      try simp only[nY]
      have hD:doM p s c 7=.ok s':=by simp only[doM,okb,hA,hB,hY,hG]
      simp only[hD,oQ,oP,stO]
      exact dP [] rfl rfl (ae _) (ab rfl) trivial ⟨rfl,trivial⟩ dx
theorem PM (hp:p.types.length≤8) (hr:p.rules.length≤40) (hS:SyOk s):FnO Tryz.prog G 76 [.bp 0 0] [mB p s c] (oP (doM p s c 8)) (.tup []) [mB p (stO s (doM p s c 8)) c]:=by
 refine jo (rs:=[]) (k:=1) [3000001,2900000,2900001,2900002,2900003,2800000,1900011,1900018,1900023,1900029,1000034] mixed Tryz.func76 rfl rfl rfl rfl (by kernel_rfl) (by simp) rfl rfl rfl (dI rfl) (ae _) ?_
 simp only[nY,seval,ah]
 have hb:BL 0 [mB p s c] (bxs [mB p s c]):=⟨rfl,trivial⟩
 cases hA:ofI s.hs c.a with
 |error e=>
  have hD:doM p s c 8=.error e:=by simp only[doM,erb,hA]
  rw[hD]
  right
  refine iy 1000 6 [0,1,2,3,4,5] [7,8,9,10,11,12,14,15] (lA:=[_,_,_,_,_,_]) (lB:=[_,_,_,_,_,_,_,_]) rfl (by kernel_rfl) rfl rfl rfl ?_
  simp only[unA,unO,aO,bI,b8,bQ,bR]
  simp only[jt,seval]
  intro fr jn
  have h4:=jn 5 (by decide)
  have h9:=jn 10 (by decide)
  refine fU 0 rfl (all:=[.bp 0 0,i64 c.a]) (g:=116) (by simp only[ev,aO,bI,h4,h9];rfl) (lg hS hA) (by rfl) (bz 0) rfl bf (cY (ae _) rfl (ae _) hb)
 |ok a=>
  cases hX:ofI s.its c.m with
  |error e=>
   have hD:doM p s c 8=.error e:=by simp only[doM,okb,erb,hA,hX]
   rw[hD]
   right
   refine iy 1000 13 [0,1,2,3,4,5,6,7,8,9,10,11,12] [14,15] (lA:=[_,_,_,_,_,_,_,_,_,_,_,_,_]) (lB:=[_,_]) rfl (by kernel_rfl) rfl rfl rfl ?_
   simp only[unA,unO,aO,bI,b8,bQ,bR]
   simp only[jt,seval]
   refine da 0 rfl (gy hS hA) (fun _=>rfl) (ab rfl) rfl bf (fun _=>rfl) ?_
   simp only[jt,seval]
   intro fr jn
   have h4:=jn 12 (by decide)
   have h9:=jn 17 (by decide)
   refine fU 0 rfl (all:=[.bp 0 0,i64 c.m]) (g:=114) (by simp only[ev,aO,bI,h4,h9];rfl) (nw hS hX) (by rfl) (bz 0) rfl bf (cY (ae _) rfl (ae _) hb)
  |ok x=>
   left
   refine nF (n:=14) rfl rfl rfl ?_
   simp only[jt,seval]
   refine da 0 rfl (gy hS hA) (fun _=>rfl) (ab rfl) rfl bf (fun _=>rfl) ?_
   simp only[jt,seval]
   refine da 0 rfl (lO hS hX) (fun _=>rfl) (ab rfl) rfl bf (fun _=>rfl) ?_
   simp only[vd,ba,seval,ah,ai]
   refine⟨?_,?_⟩
   all_goals
    try simp only[vd,ba,seval,ah,ai]
    cases hO:jc x a.va [4] with
    |error e=>
     have hD:doM p s c 8=.error e:=by simp only[doM,okb,erb,hA,hX,hO]
     rw[hD]
     exact .inr (vb rfl rfl (FV (fj hS hX) (gG hS hA).2.1 (by decide) (by simp) hO) rfl (cY (ae _) rfl (ab rfl) (by simp[BL,bxs,au,stO])))
    |ok y=>
     left
     refine nG rfl (FU (fj hS hX) (gG hS hA).2.1 (by decide) (by simp) hO) (fun _=>rfl) (fun _=>rfl) ?_
     try simp only[DJ,ba,seval,ah,ai]
     cases hY:eH (mH p 2 a.ty x.n) 10 with
     |error e=>
      have hD:doM p s c 8=.error e:=by simp only[doM,okb,erb,hA,hX,hO,hY]
      rw[hD]
      exact .inr (ft 0 rfl rfl (ID hr hY) rfl (ab rfl) rfl bf (cY (ae _) rfl (ab rfl) (by simp[BL,bxs,au,stO])))
     |ok _u=>
      left
      refine da 0 rfl (IC hr hY) (fun _=>rfl) (ab rfl) rfl bf (fun _=>rfl) ?_
      try simp only[pkX,pkA,ptA,pkT,ba,seval,ah,ai]
      cases hW:m7 s x.n y with
      |error e=>
       have hD:doM p s c 8=.error e:=by simp only[doM,okb,hA,hX,hO,hY,hW]
       rw[hD]
       exact .inr (ft 0 rfl rfl (BA hS (cj (oV (fj hS hX) (by simp) hO).2 (by decide)) hW) rfl (ab rfl) rfl bf (cY (ae _) rfl (ab rfl) (by simp[BL,bxs,au,stO])))
      |ok s'=>
       left
       refine iz 0 rfl (Bz hS (cj (oV (fj hS hX) (by simp) hO).2 (by decide)) hW) rfl (ab rfl) rfl rfl ?_
       try simp only[nY]
       have hD:doM p s c 8=.ok s':=by simp only[doM,okb,hA,hX,hO,hY,hW]
       simp only[hD,oQ,oP,stO]
       exact dP [] rfl rfl (ae _) (ab rfl) trivial ⟨rfl,trivial⟩ dx
theorem Lb (hp:p.types.length≤8) (hr:p.rules.length≤40) (hS:SyOk s):FnO Tryz.prog G 77 [.bp 0 0] [mB p s c] (oP (doM p s c 9)) (.tup []) [mB p (stO s (doM p s c 9)) c]:=by
 refine jo (rs:=[]) (k:=1) [3000001,2900000,2900001,2900002,2800000,1900010,1900017,1900023,1000031] mixed Tryz.func77 rfl rfl rfl rfl (by kernel_rfl) (by simp) rfl rfl rfl (dI rfl) (ae _) ?_
 simp only[nY,seval,ah]
 have hb:BL 0 [mB p s c] (bxs [mB p s c]):=⟨rfl,trivial⟩
 cases hA:ofI s.hs c.a with
 |error e=>
  have hD:doM p s c 9=.error e:=by simp only[doM,erb,hA]
  rw[hD]
  right
  refine iy 1000 6 [0,1,2,3,4,5] [7,8,9,10,11,12,14,15] (lA:=[_,_,_,_,_,_]) (lB:=[_,_,_,_,_,_,_,_]) rfl (by kernel_rfl) rfl rfl rfl ?_
  simp only[unA,unO,aO,bI,b8,bQ,bR]
  simp only[jt,seval]
  intro fr jn
  have h4:=jn 4 (by decide)
  have h9:=jn 9 (by decide)
  refine fU 0 rfl (all:=[.bp 0 0,i64 c.a]) (g:=116) (by simp only[ev,aO,bI,h4,h9];rfl) (lg hS hA) (by rfl) (bz 0) rfl bf (cY (ae _) rfl (ae _) hb)
 |ok a=>
  cases hB:ofI s.hs c.b with
  |error e=>
   have hD:doM p s c 9=.error e:=by simp only[doM,okb,erb,hA,hB]
   rw[hD]
   right
   refine iy 1000 13 [0,1,2,3,4,5,6,7,8,9,10,11,12] [14,15] (lA:=[_,_,_,_,_,_,_,_,_,_,_,_,_]) (lB:=[_,_]) rfl (by kernel_rfl) rfl rfl rfl ?_
   simp only[unA,unO,aO,bI,b8,bQ,bR]
   simp only[jt,seval]
   refine da 0 rfl (gy hS hA) (fun _=>rfl) (ab rfl) rfl bf (fun _=>rfl) ?_
   simp only[jt,seval]
   intro fr jn
   have h4:=jn 11 (by decide)
   have h9:=jn 16 (by decide)
   refine fU 0 rfl (all:=[.bp 0 0,i64 c.b]) (g:=116) (by simp only[ev,aO,bI,h4,h9];rfl) (lg hS hB) (by rfl) (bz 0) rfl bf (cY (ae _) rfl (ae _) hb)
  |ok b=>
   left
   refine nF (n:=14) rfl rfl rfl ?_
   simp only[jt,seval]
   refine da 0 rfl (gy hS hA) (fun _=>rfl) (ab rfl) rfl bf (fun _=>rfl) ?_
   simp only[jt,seval]
   refine da 0 rfl (gy hS hB) (fun _=>rfl) (ab rfl) rfl bf (fun _=>rfl) ?_
   simp only[ZB,ba,seval,ah,ai]
   refine⟨?_,?_⟩
   all_goals
    try simp only[vd,ba,seval,ah,ai]
    cases hY:eH (mH p 3 a.ty b.ty) 10 with
    |error e=>
     have hD:doM p s c 9=.error e:=by simp only[doM,okb,erb,hA,hB,hY]
     rw[hD]
     exact .inr (ft 0 rfl rfl (ID hr hY) rfl (ab rfl) rfl bf (cY (ae _) rfl (ab rfl) (by simp[BL,bxs,au,stO])))
    |ok _u=>
     left
     refine da 0 rfl (IC hr hY) (fun _=>rfl) (ab rfl) rfl bf (fun _=>rfl) ?_
     try simp only[DJ,ba,seval,ah,ai]
     left
     refine ay («as»:=[i64 3,i64 0,.c (tsC [a.va,b.va])]) rfl (of_ok 3 0 [a.va,b.va]) (fun h=>(by cases h)) ?_
     simp only[nY,ba,seval]
     cases hG:gk s (iC a.va b.va) with
     |error e=>
      have hD:doM p s c 9=.error e:=by simp only[doM,okb,hA,hB,hY,hG]
      rw[hD]
      exact .inr (ft 0 rfl rfl (pG hS (sb (gG hS hA).2.1 (gG hS hB).2.1) hG) rfl (ab rfl) rfl bf (cY (ae _) rfl (ab rfl) (by simp[BL,bxs,au,stO])))
     |ok s'=>
      left
      refine iz 0 rfl (pF hS (sb (gG hS hA).2.1 (gG hS hB).2.1) hG) rfl (ab rfl) rfl rfl ?_
      try simp only[nY]
      have hD:doM p s c 9=.ok s':=by simp only[doM,okb,hA,hB,hY,hG]
      simp only[hD,oQ,oP,stO]
      exact dP [] rfl rfl (ae _) (ab rfl) trivial ⟨rfl,trivial⟩ dx
