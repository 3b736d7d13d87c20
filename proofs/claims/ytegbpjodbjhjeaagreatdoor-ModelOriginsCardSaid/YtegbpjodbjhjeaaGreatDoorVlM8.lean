/- Layer 16: the calls. (Printed by gen16.py.) -/
import Derived.Test.YtegbpjodbjhjeaaGreatDoorVlMa
set_option linter.all false
namespace Go.Proofs.YtegbpjodbjhjeaaGreatDoor
open Go Go.Vl
open Kp (Pol Ty Ru Qu poC tyC ruC quC)
variable {G:Gl} {p:Pol} {s:Sy} {c:Cl}
set_option maxRecDepth 10000
def nD:=jj @pkX @pkA
def jh:=jj @pkA (jj @ptA @pkM)
def uk:=jj @pkX (jj @pkA (jj @ptA (jj @pkM (jj @pkT @pkH))))
def Cy:=jj @pkX (jj @pkA (jj @ptA (jj @pkT @pkH)))
theorem JY (hp:p.types.length≤8) (hr:p.rules.length≤40) (hS:SyOk s):FnO Tryz.prog G 72 [.bp 0 0] [mB p s c] (oP (doM p s c 4)) (.tup []) [mB p (stO s (doM p s c 4)) c]:=by
 refine jd (rs:=[]) (k:=1) [3000001,2900000,2900001,2900002,2800000,1900010,1900017,1900021,1000028] mixed Tryz.func72 rfl rfl rfl rfl (by kernel_rfl) (by simp) rfl rfl rfl (dA rfl) (ae _) ?_
 simp only[nD,seval,ah]
 have hb:BL 0 [mB p s c] (bxs [mB p s c]):=⟨rfl,trivial⟩
 cases hA:ofI s.hs c.a with
 |error e=>
  have hD:doM p s c 4=.error e:=by simp only[doM,erb,hA]
  rw[hD]
  right
  refine ic 1000 6 [0,1,2,3,4,5] [7,8,9,10,11,12,14,15] (lA:=[_,_,_,_,_,_]) (lB:=[_,_,_,_,_,_,_,_]) rfl (by kernel_rfl) rfl rfl rfl ?_
  simp only[unA,unO,aL,bE,bV,bL,bM]
  simp only[jh,seval]
  intro fr jb
  have h4:=jb 4 (by decide)
  have h9:=jb 9 (by decide)
  refine fH 0 rfl (all:=[.bp 0 0,i64 c.a]) (g:=116) (by simp only[ev,aL,bE,h4,h9];rfl) (kP hS hA) (by rfl) (bq 0) rfl bf (cT (ae _) rfl (ae _) hb)
 |ok a=>
  cases hX:ofI s.its c.m with
  |error e=>
   have hD:doM p s c 4=.error e:=by simp only[doM,okb,erb,hA,hX]
   rw[hD]
   right
   refine ic 1000 13 [0,1,2,3,4,5,6,7,8,9,10,11,12] [14,15] (lA:=[_,_,_,_,_,_,_,_,_,_,_,_,_]) (lB:=[_,_]) rfl (by kernel_rfl) rfl rfl rfl ?_
   simp only[unA,unO,aL,bE,bV,bL,bM]
   simp only[jh,seval]
   refine cU 0 rfl (fX hS hA) (fun _=>rfl) (ab rfl) rfl bf (fun _=>rfl) ?_
   simp only[jh,seval]
   intro fr jb
   have h4:=jb 11 (by decide)
   have h9:=jb 16 (by decide)
   refine fH 0 rfl (all:=[.bp 0 0,i64 c.m]) (g:=114) (by simp only[ev,aL,bE,h4,h9];rfl) (m4 hS hX) (by rfl) (bq 0) rfl bf (cT (ae _) rfl (ae _) hb)
  |ok x=>
   left
   refine nc (n:=14) rfl rfl rfl ?_
   simp only[jh,seval]
   refine cU 0 rfl (fX hS hA) (fun _=>rfl) (ab rfl) rfl bf (fun _=>rfl) ?_
   simp only[jh,seval]
   refine cU 0 rfl (lu hS hX) (fun _=>rfl) (ab rfl) rfl bf (fun _=>rfl) ?_
   simp only[uk,a8,seval,ah,ai]
   refine⟨?_,?_⟩
   all_goals
    try simp only[uk,a8,seval,ah,ai]
    cases hF:er (kw p a.ty 8) 10 with
    |error e=>
     have hD:doM p s c 4=.error e:=by simp only[doM,okb,erb,hA,hX,hF]
     rw[hD]
     exact .inr (fc 0 rfl rfl (Cu hp hF) rfl (ab rfl) rfl bf (cT (ae _) rfl (ab rfl) (by simp[BL,bxs,ar,stO])))
    |ok _u=>
     left
     refine cU 0 rfl (Ct hp hF) (fun _=>rfl) (ab rfl) rfl bf (fun _=>rfl) ?_
     try simp only[Cy,a8,seval,ah,ai]
     left
     refine aD («as»:=[i64 3,i64 0,.c (tsC [a.va,x])]) rfl (of_ok 3 0 [a.va,x]) (fun h=>(by cases h)) ?_
     simp only[nD,a8,seval]
     cases hG:fP s (im a.va x) with
     |error e=>
      have hD:doM p s c 4=.error e:=by simp only[doM,okb,hA,hX,hF,hG]
      rw[hD]
      exact .inr (fc 0 rfl rfl (pd hS (rB (gk hS hA).2.1 (eX hS hX).2) hG) rfl (ab rfl) rfl bf (cT (ae _) rfl (ab rfl) (by simp[BL,bxs,ar,stO])))
     |ok s'=>
      left
      refine ig 0 rfl (pa hS (rB (gk hS hA).2.1 (eX hS hX).2) hG) rfl (ab rfl) rfl rfl ?_
      try simp only[nD]
      have hD:doM p s c 4=.ok s':=by simp only[doM,okb,hA,hX,hF,hG]
      simp only[hD,oQ,oP,stO]
      exact dJ [] rfl rfl (ae _) (ab rfl) trivial ⟨rfl,trivial⟩ dl
theorem JZ (hp:p.types.length≤8) (hr:p.rules.length≤40) (hS:SyOk s):FnO Tryz.prog G 73 [.bp 0 0] [mB p s c] (oP (doM p s c 5)) (.tup []) [mB p (stO s (doM p s c 5)) c]:=by
 refine jd (rs:=[]) (k:=1) [3000001,2900000,2900001,2900002,2800000,1900010,1900017,1900021,1900027,1000028] mixed Tryz.func73 rfl rfl rfl rfl (by kernel_rfl) (by simp) rfl rfl rfl (dA rfl) (ae _) ?_
 simp only[nD,seval,ah]
 have hb:BL 0 [mB p s c] (bxs [mB p s c]):=⟨rfl,trivial⟩
 cases hA:ofI s.hs c.a with
 |error e=>
  have hD:doM p s c 5=.error e:=by simp only[doM,erb,hA]
  rw[hD]
  right
  refine ic 1000 6 [0,1,2,3,4,5] [7,8,9,10,11,12,14,15] (lA:=[_,_,_,_,_,_]) (lB:=[_,_,_,_,_,_,_,_]) rfl (by kernel_rfl) rfl rfl rfl ?_
  simp only[unA,unO,aL,bE,bV,bL,bM]
  simp only[jh,seval]
  intro fr jb
  have h4:=jb 4 (by decide)
  have h9:=jb 9 (by decide)
  refine fH 0 rfl (all:=[.bp 0 0,i64 c.a]) (g:=116) (by simp only[ev,aL,bE,h4,h9];rfl) (kP hS hA) (by rfl) (bq 0) rfl bf (cT (ae _) rfl (ae _) hb)
 |ok a=>
  cases hX:ofI s.its c.m with
  |error e=>
   have hD:doM p s c 5=.error e:=by simp only[doM,okb,erb,hA,hX]
   rw[hD]
   right
   refine ic 1000 13 [0,1,2,3,4,5,6,7,8,9,10,11,12] [14,15] (lA:=[_,_,_,_,_,_,_,_,_,_,_,_,_]) (lB:=[_,_]) rfl (by kernel_rfl) rfl rfl rfl ?_
   simp only[unA,unO,aL,bE,bV,bL,bM]
   simp only[jh,seval]
   refine cU 0 rfl (fX hS hA) (fun _=>rfl) (ab rfl) rfl bf (fun _=>rfl) ?_
   simp only[jh,seval]
   intro fr jb
   have h4:=jb 11 (by decide)
   have h9:=jb 16 (by decide)
   refine fH 0 rfl (all:=[.bp 0 0,i64 c.m]) (g:=114) (by simp only[ev,aL,bE,h4,h9];rfl) (m4 hS hX) (by rfl) (bq 0) rfl bf (cT (ae _) rfl (ae _) hb)
  |ok x=>
   left
   refine nc (n:=14) rfl rfl rfl ?_
   simp only[jh,seval]
   refine cU 0 rfl (fX hS hA) (fun _=>rfl) (ab rfl) rfl bf (fun _=>rfl) ?_
   simp only[jh,seval]
   refine cU 0 rfl (lu hS hX) (fun _=>rfl) (ab rfl) rfl bf (fun _=>rfl) ?_
   simp only[uk,a8,seval,ah,ai]
   refine⟨?_,?_⟩
   all_goals
    try simp only[uk,a8,seval,ah,ai]
    cases hF:er (kw p a.ty 16) 10 with
    |error e=>
     have hD:doM p s c 5=.error e:=by simp only[doM,okb,erb,hA,hX,hF]
     rw[hD]
     exact .inr (fc 0 rfl rfl (Cu hp hF) rfl (ab rfl) rfl bf (cT (ae _) rfl (ab rfl) (by simp[BL,bxs,ar,stO])))
    |ok _u=>
     left
     refine cU 0 rfl (Ct hp hF) (fun _=>rfl) (ab rfl) rfl bf (fun _=>rfl) ?_
     try simp only[Cy,a8,seval,ah,ai]
     cases hO:iS x a.va [3] with
     |error e=>
      have hD:doM p s c 5=.error e:=by simp only[doM,okb,erb,hA,hX,hF,hO]
      rw[hD]
      exact .inr (uj rfl rfl (EH (eX hS hX) (gk hS hA).2.1 (by decide) (by simp) hO) rfl (cT (ae _) rfl (ab rfl) (by simp[BL,bxs,ar,stO])))
     |ok y=>
      left
      refine nf rfl (EG (eX hS hX) (gk hS hA).2.1 (by decide) (by simp) hO) (fun _=>rfl) (fun _=>rfl) ?_
      try simp only[nD,a8,seval]
      cases hG:fP s y with
      |error e=>
       have hD:doM p s c 5=.error e:=by simp only[doM,okb,hA,hX,hF,hO,hG]
       rw[hD]
       exact .inr (fc 0 rfl rfl (pd hS (bY (ol (eX hS hX) (by simp) hO).2 (by decide)) hG) rfl (ab rfl) rfl bf (cT (ae _) rfl (ab rfl) (by simp[BL,bxs,ar,stO])))
      |ok s'=>
       left
       refine ig 0 rfl (pa hS (bY (ol (eX hS hX) (by simp) hO).2 (by decide)) hG) rfl (ab rfl) rfl rfl ?_
       try simp only[nD]
       have hD:doM p s c 5=.ok s':=by simp only[doM,okb,hA,hX,hF,hO,hG]
       simp only[hD,oQ,oP,stO]
       exact dJ [] rfl rfl (ae _) (ab rfl) trivial ⟨rfl,trivial⟩ dl
theorem abi (hp:p.types.length≤8) (hr:p.rules.length≤40) (hS:SyOk s):FnO Tryz.prog G 74 [.bp 0 0] [mB p s c] (oP (doM p s c 6)) (.tup []) [mB p (stO s (doM p s c 6)) c]:=by
 refine jd (rs:=[]) (k:=1) [3000001,2900000,2900001,2900002,2800000,1900010,1900017,1900021,1000028] mixed Tryz.func74 rfl rfl rfl rfl (by kernel_rfl) (by simp) rfl rfl rfl (dA rfl) (ae _) ?_
 simp only[nD,seval,ah]
 have hb:BL 0 [mB p s c] (bxs [mB p s c]):=⟨rfl,trivial⟩
 cases hA:ofI s.hs c.a with
 |error e=>
  have hD:doM p s c 6=.error e:=by simp only[doM,erb,hA]
  rw[hD]
  right
  refine ic 1000 6 [0,1,2,3,4,5] [7,8,9,10,11,12,14,15] (lA:=[_,_,_,_,_,_]) (lB:=[_,_,_,_,_,_,_,_]) rfl (by kernel_rfl) rfl rfl rfl ?_
  simp only[unA,unO,aL,bE,bV,bL,bM]
  simp only[jh,seval]
  intro fr jb
  have h4:=jb 4 (by decide)
  have h9:=jb 9 (by decide)
  refine fH 0 rfl (all:=[.bp 0 0,i64 c.a]) (g:=116) (by simp only[ev,aL,bE,h4,h9];rfl) (kP hS hA) (by rfl) (bq 0) rfl bf (cT (ae _) rfl (ae _) hb)
 |ok a=>
  cases hX:ofI s.its c.m with
  |error e=>
   have hD:doM p s c 6=.error e:=by simp only[doM,okb,erb,hA,hX]
   rw[hD]
   right
   refine ic 1000 13 [0,1,2,3,4,5,6,7,8,9,10,11,12] [14,15] (lA:=[_,_,_,_,_,_,_,_,_,_,_,_,_]) (lB:=[_,_]) rfl (by kernel_rfl) rfl rfl rfl ?_
   simp only[unA,unO,aL,bE,bV,bL,bM]
   simp only[jh,seval]
   refine cU 0 rfl (fX hS hA) (fun _=>rfl) (ab rfl) rfl bf (fun _=>rfl) ?_
   simp only[jh,seval]
   intro fr jb
   have h4:=jb 11 (by decide)
   have h9:=jb 16 (by decide)
   refine fH 0 rfl (all:=[.bp 0 0,i64 c.m]) (g:=114) (by simp only[ev,aL,bE,h4,h9];rfl) (m4 hS hX) (by rfl) (bq 0) rfl bf (cT (ae _) rfl (ae _) hb)
  |ok x=>
   left
   refine nc (n:=14) rfl rfl rfl ?_
   simp only[jh,seval]
   refine cU 0 rfl (fX hS hA) (fun _=>rfl) (ab rfl) rfl bf (fun _=>rfl) ?_
   simp only[jh,seval]
   refine cU 0 rfl (lu hS hX) (fun _=>rfl) (ab rfl) rfl bf (fun _=>rfl) ?_
   simp only[uk,a8,seval,ah,ai]
   refine⟨?_,?_⟩
   all_goals
    try simp only[uk,a8,seval,ah,ai]
    cases hF:er (kw p a.ty 32) 10 with
    |error e=>
     have hD:doM p s c 6=.error e:=by simp only[doM,okb,erb,hA,hX,hF]
     rw[hD]
     exact .inr (fc 0 rfl rfl (Cu hp hF) rfl (ab rfl) rfl bf (cT (ae _) rfl (ab rfl) (by simp[BL,bxs,ar,stO])))
    |ok _u=>
     left
     refine cU 0 rfl (Ct hp hF) (fun _=>rfl) (ab rfl) rfl bf (fun _=>rfl) ?_
     try simp only[Cy,a8,seval,ah,ai]
     left
     refine aD («as»:=[i64 6,i64 0,.c (tsC [a.va,x])]) rfl (of_ok 6 0 [a.va,x]) (fun h=>(by cases h)) ?_
     simp only[nD,a8,seval]
     cases hG:fP s (.mk 6 0 [a.va,x]) with
     |error e=>
      have hD:doM p s c 6=.error e:=by simp only[doM,okb,hA,hX,hF,hG]
      rw[hD]
      exact .inr (fc 0 rfl rfl (pd hS (rB (gk hS hA).2.1 (eX hS hX).2) hG) rfl (ab rfl) rfl bf (cT (ae _) rfl (ab rfl) (by simp[BL,bxs,ar,stO])))
     |ok s'=>
      left
      refine ig 0 rfl (pa hS (rB (gk hS hA).2.1 (eX hS hX).2) hG) rfl (ab rfl) rfl rfl ?_
      try simp only[nD]
      have hD:doM p s c 6=.ok s':=by simp only[doM,okb,hA,hX,hF,hG]
      simp only[hD,oQ,oP,stO]
      exact dJ [] rfl rfl (ae _) (ab rfl) trivial ⟨rfl,trivial⟩ dl
def Yl:=jj @pkX (jj @pkA (jj @ptA (jj @pkM @pkH)))
theorem Xj (hp:p.types.length≤8) (hr:p.rules.length≤40) (hS:SyOk s):FnO Tryz.prog G 75 [.bp 0 0] [mB p s c] (oP (doM p s c 7)) (.tup []) [mB p (stO s (doM p s c 7)) c]:=by
 refine jd (rs:=[]) (k:=1) [3000001,2900000,2900001,2900002,2800000,1900010,1900017,1900023,1000033] mixed Tryz.func75 rfl rfl rfl rfl (by kernel_rfl) (by simp) rfl rfl rfl (dA rfl) (ae _) ?_
 simp only[nD,seval,ah]
 have hb:BL 0 [mB p s c] (bxs [mB p s c]):=⟨rfl,trivial⟩
 cases hA:ofI s.hs c.a with
 |error e=>
  have hD:doM p s c 7=.error e:=by simp only[doM,erb,hA]
  rw[hD]
  right
  refine ic 1000 6 [0,1,2,3,4,5] [7,8,9,10,11,12,14,15] (lA:=[_,_,_,_,_,_]) (lB:=[_,_,_,_,_,_,_,_]) rfl (by kernel_rfl) rfl rfl rfl ?_
  simp only[unA,unO,aL,bE,bV,bL,bM]
  simp only[jh,seval]
  intro fr jb
  have h4:=jb 4 (by decide)
  have h9:=jb 9 (by decide)
  refine fH 0 rfl (all:=[.bp 0 0,i64 c.a]) (g:=116) (by simp only[ev,aL,bE,h4,h9];rfl) (kP hS hA) (by rfl) (bq 0) rfl bf (cT (ae _) rfl (ae _) hb)
 |ok a=>
  cases hB:ofI s.hs c.b with
  |error e=>
   have hD:doM p s c 7=.error e:=by simp only[doM,okb,erb,hA,hB]
   rw[hD]
   right
   refine ic 1000 13 [0,1,2,3,4,5,6,7,8,9,10,11,12] [14,15] (lA:=[_,_,_,_,_,_,_,_,_,_,_,_,_]) (lB:=[_,_]) rfl (by kernel_rfl) rfl rfl rfl ?_
   simp only[unA,unO,aL,bE,bV,bL,bM]
   simp only[jh,seval]
   refine cU 0 rfl (fX hS hA) (fun _=>rfl) (ab rfl) rfl bf (fun _=>rfl) ?_
   simp only[jh,seval]
   intro fr jb
   have h4:=jb 11 (by decide)
   have h9:=jb 16 (by decide)
   refine fH 0 rfl (all:=[.bp 0 0,i64 c.b]) (g:=116) (by simp only[ev,aL,bE,h4,h9];rfl) (kP hS hB) (by rfl) (bq 0) rfl bf (cT (ae _) rfl (ae _) hb)
  |ok b=>
   left
   refine nc (n:=14) rfl rfl rfl ?_
   simp only[jh,seval]
   refine cU 0 rfl (fX hS hA) (fun _=>rfl) (ab rfl) rfl bf (fun _=>rfl) ?_
   simp only[jh,seval]
   refine cU 0 rfl (fX hS hB) (fun _=>rfl) (ab rfl) rfl bf (fun _=>rfl) ?_
   simp only[Yl,a8,seval,ah,ai]
   refine⟨?_,?_⟩
   all_goals
    try simp only[uk,a8,seval,ah,ai]
    cases hY:er (oh p 1 a.ty b.ty) 10 with
    |error e=>
     have hD:doM p s c 7=.error e:=by simp only[doM,okb,erb,hA,hB,hY]
     rw[hD]
     exact .inr (fc 0 rfl rfl (Ht hr hY) rfl (ab rfl) rfl bf (cT (ae _) rfl (ab rfl) (by simp[BL,bxs,ar,stO])))
    |ok _u=>
     left
     refine cU 0 rfl (Hr hr hY) (fun _=>rfl) (ab rfl) rfl bf (fun _=>rfl) ?_
     try simp only[Cy,a8,seval,ah,ai]
     left
     refine aD («as»:=[i64 4,i64 b.ty,.c (tsC [a.va,b.va])]) rfl (of_ok 4 b.ty [a.va,b.va]) (fun h=>(by cases h)) ?_
     simp only[nD,a8,seval]
     cases hG:fP s (.mk 4 b.ty [a.va,b.va]) with
     |error e=>
      have hD:doM p s c 7=.error e:=by simp only[doM,okb,hA,hB,hY,hG]
      rw[hD]
      exact .inr (fc 0 rfl rfl (pd hS (rB (gk hS hA).2.1 (gk hS hB).2.1) hG) rfl (ab rfl) rfl bf (cT (ae _) rfl (ab rfl) (by simp[BL,bxs,ar,stO])))
     |ok s'=>
      left
      refine ig 0 rfl (pa hS (rB (gk hS hA).2.1 (gk hS hB).2.1) hG) rfl (ab rfl) rfl rfl ?_
      try simp only[nD]
      have hD:doM p s c 7=.ok s':=by simp only[doM,okb,hA,hB,hY,hG]
      simp only[hD,oQ,oP,stO]
      exact dJ [] rfl rfl (ae _) (ab rfl) trivial ⟨rfl,trivial⟩ dl
theorem OG (hp:p.types.length≤8) (hr:p.rules.length≤40) (hS:SyOk s):FnO Tryz.prog G 76 [.bp 0 0] [mB p s c] (oP (doM p s c 8)) (.tup []) [mB p (stO s (doM p s c 8)) c]:=by
 refine jd (rs:=[]) (k:=1) [3000001,2900000,2900001,2900002,2900003,2800000,1900011,1900018,1900023,1900029,1000034] mixed Tryz.func76 rfl rfl rfl rfl (by kernel_rfl) (by simp) rfl rfl rfl (dA rfl) (ae _) ?_
 simp only[nD,seval,ah]
 have hb:BL 0 [mB p s c] (bxs [mB p s c]):=⟨rfl,trivial⟩
 cases hA:ofI s.hs c.a with
 |error e=>
  have hD:doM p s c 8=.error e:=by simp only[doM,erb,hA]
  rw[hD]
  right
  refine ic 1000 6 [0,1,2,3,4,5] [7,8,9,10,11,12,14,15] (lA:=[_,_,_,_,_,_]) (lB:=[_,_,_,_,_,_,_,_]) rfl (by kernel_rfl) rfl rfl rfl ?_
  simp only[unA,unO,aL,bE,bV,bL,bM]
  simp only[jh,seval]
  intro fr jb
  have h4:=jb 5 (by decide)
  have h9:=jb 10 (by decide)
  refine fH 0 rfl (all:=[.bp 0 0,i64 c.a]) (g:=116) (by simp only[ev,aL,bE,h4,h9];rfl) (kP hS hA) (by rfl) (bq 0) rfl bf (cT (ae _) rfl (ae _) hb)
 |ok a=>
  cases hX:ofI s.its c.m with
  |error e=>
   have hD:doM p s c 8=.error e:=by simp only[doM,okb,erb,hA,hX]
   rw[hD]
   right
   refine ic 1000 13 [0,1,2,3,4,5,6,7,8,9,10,11,12] [14,15] (lA:=[_,_,_,_,_,_,_,_,_,_,_,_,_]) (lB:=[_,_]) rfl (by kernel_rfl) rfl rfl rfl ?_
   simp only[unA,unO,aL,bE,bV,bL,bM]
   simp only[jh,seval]
   refine cU 0 rfl (fX hS hA) (fun _=>rfl) (ab rfl) rfl bf (fun _=>rfl) ?_
   simp only[jh,seval]
   intro fr jb
   have h4:=jb 12 (by decide)
   have h9:=jb 17 (by decide)
   refine fH 0 rfl (all:=[.bp 0 0,i64 c.m]) (g:=114) (by simp only[ev,aL,bE,h4,h9];rfl) (m4 hS hX) (by rfl) (bq 0) rfl bf (cT (ae _) rfl (ae _) hb)
  |ok x=>
   left
   refine nc (n:=14) rfl rfl rfl ?_
   simp only[jh,seval]
   refine cU 0 rfl (fX hS hA) (fun _=>rfl) (ab rfl) rfl bf (fun _=>rfl) ?_
   simp only[jh,seval]
   refine cU 0 rfl (lu hS hX) (fun _=>rfl) (ab rfl) rfl bf (fun _=>rfl) ?_
   simp only[uk,a8,seval,ah,ai]
   refine⟨?_,?_⟩
   all_goals
    try simp only[uk,a8,seval,ah,ai]
    cases hO:iS x a.va [4] with
    |error e=>
     have hD:doM p s c 8=.error e:=by simp only[doM,okb,erb,hA,hX,hO]
     rw[hD]
     exact .inr (uj rfl rfl (EH (eX hS hX) (gk hS hA).2.1 (by decide) (by simp) hO) rfl (cT (ae _) rfl (ab rfl) (by simp[BL,bxs,ar,stO])))
    |ok y=>
     left
     refine nf rfl (EG (eX hS hX) (gk hS hA).2.1 (by decide) (by simp) hO) (fun _=>rfl) (fun _=>rfl) ?_
     try simp only[Cy,a8,seval,ah,ai]
     cases hY:er (oh p 2 a.ty x.n) 10 with
     |error e=>
      have hD:doM p s c 8=.error e:=by simp only[doM,okb,erb,hA,hX,hO,hY]
      rw[hD]
      exact .inr (fc 0 rfl rfl (Ht hr hY) rfl (ab rfl) rfl bf (cT (ae _) rfl (ab rfl) (by simp[BL,bxs,ar,stO])))
     |ok _u=>
      left
      refine cU 0 rfl (Hr hr hY) (fun _=>rfl) (ab rfl) rfl bf (fun _=>rfl) ?_
      try simp only[pkX,pkA,ptA,pkT,a8,seval,ah,ai]
      cases hW:mJ s x.n y with
      |error e=>
       have hD:doM p s c 8=.error e:=by simp only[doM,okb,hA,hX,hO,hY,hW]
       rw[hD]
       exact .inr (fc 0 rfl rfl (Az hS (bY (ol (eX hS hX) (by simp) hO).2 (by decide)) hW) rfl (ab rfl) rfl bf (cT (ae _) rfl (ab rfl) (by simp[BL,bxs,ar,stO])))
      |ok s'=>
       left
       refine ig 0 rfl (Ay hS (bY (ol (eX hS hX) (by simp) hO).2 (by decide)) hW) rfl (ab rfl) rfl rfl ?_
       try simp only[nD]
       have hD:doM p s c 8=.ok s':=by simp only[doM,okb,hA,hX,hO,hY,hW]
       simp only[hD,oQ,oP,stO]
       exact dJ [] rfl rfl (ae _) (ab rfl) trivial ⟨rfl,trivial⟩ dl
theorem J0 (hp:p.types.length≤8) (hr:p.rules.length≤40) (hS:SyOk s):FnO Tryz.prog G 77 [.bp 0 0] [mB p s c] (oP (doM p s c 9)) (.tup []) [mB p (stO s (doM p s c 9)) c]:=by
 refine jd (rs:=[]) (k:=1) [3000001,2900000,2900001,2900002,2800000,1900010,1900017,1900023,1000031] mixed Tryz.func77 rfl rfl rfl rfl (by kernel_rfl) (by simp) rfl rfl rfl (dA rfl) (ae _) ?_
 simp only[nD,seval,ah]
 have hb:BL 0 [mB p s c] (bxs [mB p s c]):=⟨rfl,trivial⟩
 cases hA:ofI s.hs c.a with
 |error e=>
  have hD:doM p s c 9=.error e:=by simp only[doM,erb,hA]
  rw[hD]
  right
  refine ic 1000 6 [0,1,2,3,4,5] [7,8,9,10,11,12,14,15] (lA:=[_,_,_,_,_,_]) (lB:=[_,_,_,_,_,_,_,_]) rfl (by kernel_rfl) rfl rfl rfl ?_
  simp only[unA,unO,aL,bE,bV,bL,bM]
  simp only[jh,seval]
  intro fr jb
  have h4:=jb 4 (by decide)
  have h9:=jb 9 (by decide)
  refine fH 0 rfl (all:=[.bp 0 0,i64 c.a]) (g:=116) (by simp only[ev,aL,bE,h4,h9];rfl) (kP hS hA) (by rfl) (bq 0) rfl bf (cT (ae _) rfl (ae _) hb)
 |ok a=>
  cases hB:ofI s.hs c.b with
  |error e=>
   have hD:doM p s c 9=.error e:=by simp only[doM,okb,erb,hA,hB]
   rw[hD]
   right
   refine ic 1000 13 [0,1,2,3,4,5,6,7,8,9,10,11,12] [14,15] (lA:=[_,_,_,_,_,_,_,_,_,_,_,_,_]) (lB:=[_,_]) rfl (by kernel_rfl) rfl rfl rfl ?_
   simp only[unA,unO,aL,bE,bV,bL,bM]
   simp only[jh,seval]
   refine cU 0 rfl (fX hS hA) (fun _=>rfl) (ab rfl) rfl bf (fun _=>rfl) ?_
   simp only[jh,seval]
   intro fr jb
   have h4:=jb 11 (by decide)
   have h9:=jb 16 (by decide)
   refine fH 0 rfl (all:=[.bp 0 0,i64 c.b]) (g:=116) (by simp only[ev,aL,bE,h4,h9];rfl) (kP hS hB) (by rfl) (bq 0) rfl bf (cT (ae _) rfl (ae _) hb)
  |ok b=>
   left
   refine nc (n:=14) rfl rfl rfl ?_
   simp only[jh,seval]
   refine cU 0 rfl (fX hS hA) (fun _=>rfl) (ab rfl) rfl bf (fun _=>rfl) ?_
   simp only[jh,seval]
   refine cU 0 rfl (fX hS hB) (fun _=>rfl) (ab rfl) rfl bf (fun _=>rfl) ?_
   simp only[Yl,a8,seval,ah,ai]
   refine⟨?_,?_⟩
   all_goals
    try simp only[uk,a8,seval,ah,ai]
    cases hY:er (oh p 3 a.ty b.ty) 10 with
    |error e=>
     have hD:doM p s c 9=.error e:=by simp only[doM,okb,erb,hA,hB,hY]
     rw[hD]
     exact .inr (fc 0 rfl rfl (Ht hr hY) rfl (ab rfl) rfl bf (cT (ae _) rfl (ab rfl) (by simp[BL,bxs,ar,stO])))
    |ok _u=>
     left
     refine cU 0 rfl (Hr hr hY) (fun _=>rfl) (ab rfl) rfl bf (fun _=>rfl) ?_
     try simp only[Cy,a8,seval,ah,ai]
     left
     refine aD («as»:=[i64 3,i64 0,.c (tsC [a.va,b.va])]) rfl (of_ok 3 0 [a.va,b.va]) (fun h=>(by cases h)) ?_
     simp only[nD,a8,seval]
     cases hG:fP s (im a.va b.va) with
     |error e=>
      have hD:doM p s c 9=.error e:=by simp only[doM,okb,hA,hB,hY,hG]
      rw[hD]
      exact .inr (fc 0 rfl rfl (pd hS (rB (gk hS hA).2.1 (gk hS hB).2.1) hG) rfl (ab rfl) rfl bf (cT (ae _) rfl (ab rfl) (by simp[BL,bxs,ar,stO])))
     |ok s'=>
      left
      refine ig 0 rfl (pa hS (rB (gk hS hA).2.1 (gk hS hB).2.1) hG) rfl (ab rfl) rfl rfl ?_
      try simp only[nD]
      have hD:doM p s c 9=.ok s':=by simp only[doM,okb,hA,hB,hY,hG]
      simp only[hD,oQ,oP,stO]
      exact dJ [] rfl rfl (ae _) (ab rfl) trivial ⟨rfl,trivial⟩ dl
