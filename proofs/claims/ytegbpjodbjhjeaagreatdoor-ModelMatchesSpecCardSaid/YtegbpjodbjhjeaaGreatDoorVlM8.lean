/- Layer 16: the calls. (Printed by gen16.py.) -/
import Derived.Test.YtegbpjodbjhjeaaGreatDoorVlMa
set_option linter.all false
namespace Go.Proofs.YtegbpjodbjhjeaaGreatDoor
open Go Go.Vl
open Kp (Pol Ty Ru Qu poC tyC ruC quC)
variable {G:Gl} {p:Pol} {s:Sy} {c:Cl}
set_option maxRecDepth 10000
def oo:=jj @pkX @pkA
def jt:=jj @pkA (jj @ptA @pkM)
def vp:=jj @pkX (jj @pkA (jj @ptA (jj @pkM (jj @pkT @pkH))))
def Ed:=jj @pkX (jj @pkA (jj @ptA (jj @pkT @pkH)))
theorem LG (hp:p.types.length<=8) (hr:p.rules.length<=40) (hS:SyOk s):FnO Tryz.prog G 72 [.bp 0 0] [mB p s c] (oP (doM p s c 4)) (.tup []) [mB p (stO s (doM p s c 4)) c]:=by
 refine jm (rs:=[]) (k:=1) [3000001,2900000,2900001,2900002,2800000,1900010,1900017,1900021,1000028] mixed Tryz.func72 rfl rfl rfl rfl (by kernel_rfl) (by simp) rfl rfl rfl (fL rfl) (ai _) ?_;simp only[oo,seval,ao];have hb:BL 0 [mB p s c] (bxs [mB p s c]):=⟨rfl,trivial⟩;cases hA:ofI s.hs c.a with
 |error e=>
  have hD:doM p s c 4=.error e:=by simp only[doM,erb,hA]
  rw[hD];right;refine iD 1000 6 [0,1,2,3,4,5] [7,8,9,10,11,12,14,15] (lA:=[_,_,_,_,_,_]) (lB:=[_,_,_,_,_,_,_,_]) rfl (by kernel_rfl) rfl rfl rfl ?_;simp only[unA,unO,aN,bE,ck,bR,bS];simp only[jt,seval];intro fr ji;have h4:=ji 4 (by decide);have h9:=ji 9 (by decide);refine gq 0 rfl (all:=[.bp 0 0,i64 c.a]) (g:=116) (by simp only[ev,aN,bE,h4,h9];rfl) (ln hS hA) (by rfl) (bH 0) rfl bz (di (ai _) rfl (ai _) hb)
 |ok a=>
  cases hX:ofI s.its c.m with
  |error e=>have hD:doM p s c 4=.error e:=(by simp only[doM,okb,erb,hA,hX]);rw[hD];right;refine iD 1000 13 [0,1,2,3,4,5,6,7,8,9,10,11,12] [14,15] (lA:=[_,_,_,_,_,_,_,_,_,_,_,_,_]) (lB:=[_,_]) rfl (by kernel_rfl) rfl rfl rfl ?_;simp only[unA,unO,aN,bE,ck,bR,bS];simp only[jt,seval];refine dj 0 rfl (gP hS hA) (λ_=>rfl) (ae rfl) rfl bz (λ_=>rfl) ?_;simp only[jt,seval];intro fr ji;have h4:=ji 11 (by decide);have h9:=ji 16 (by decide);refine gq 0 rfl (all:=[.bp 0 0,i64 c.m]) (g:=114) (by simp only[ev,aN,bE,h4,h9];rfl) (nH hS hX) (by rfl) (bH 0) rfl bz (di (ai _) rfl (ai _) hb)
  |ok x=>
   left;refine nP (n:=14) rfl rfl rfl ?_;simp only[jt,seval];refine dj 0 rfl (gP hS hA) (λ_=>rfl) (ae rfl) rfl bz (λ_=>rfl) ?_;simp only[jt,seval];refine dj 0 rfl (lP hS hX) (λ_=>rfl) (ae rfl) rfl bz (λ_=>rfl) ?_;simp only[vp,bV,seval,ao,ah];refine⟨?_,?_⟩
   all_goals
    try simp only[vp,bV,seval,ao,ah]
    cases hF:fw (jO p a.ty 8) 10 with
    |error e=>have hD:doM p s c 4=.error e:=(by simp only[doM,okb,erb,hA,hX,hF]);rw[hD];exact .inr (js 0 rfl rfl (D8 hp hF) rfl (ae rfl) rfl bz (di (ai _) rfl (ae rfl) (by simp[BL,bxs,aw,stO])))
    |ok _u=>
     left;refine dj 0 rfl (D7 hp hF) (λ_=>rfl) (ae rfl) rfl bz (λ_=>rfl) ?_
     try simp only[Ed,bV,seval,ao,ah]
     left;refine ax («as»:=[i64 3,i64 0,.c (tsC [a.va,x])]) rfl (of_ok 3 0 [a.va,x]) (λh=>(by cases h)) ?_;simp only[oo,bV,seval];cases hG:gy s (gr a.va x) with
     |error e=>have hD:doM p s c 4=.error e:=(by simp only[doM,okb,hA,hX,hF,hG]);rw[hD];exact .inr (js 0 rfl rfl (pH hS (sH (gW hS hA).2.1 (fy hS hX).2) hG) rfl (ae rfl) rfl bz (di (ai _) rfl (ae rfl) (by simp[BL,bxs,aw,stO])))
     |ok s'=>
      left;refine iE 0 rfl (pG hS (sH (gW hS hA).2.1 (fy hS hX).2) hG) rfl (ae rfl) rfl rfl ?_
      try simp only[oo]
      have hD:doM p s c 4=.ok s':=(by simp only[doM,okb,hA,hX,hF,hG]);simp only[hD,oQ,oP,stO];exact eO [] rfl rfl (ai _) (ae rfl) trivial ⟨rfl,trivial⟩ dD
theorem LH (hp:p.types.length<=8) (hr:p.rules.length<=40) (hS:SyOk s):FnO Tryz.prog G 73 [.bp 0 0] [mB p s c] (oP (doM p s c 5)) (.tup []) [mB p (stO s (doM p s c 5)) c]:=by
 refine jm (rs:=[]) (k:=1) [3000001,2900000,2900001,2900002,2800000,1900010,1900017,1900021,1900027,1000028] mixed Tryz.func73 rfl rfl rfl rfl (by kernel_rfl) (by simp) rfl rfl rfl (fL rfl) (ai _) ?_;simp only[oo,seval,ao];have hb:BL 0 [mB p s c] (bxs [mB p s c]):=⟨rfl,trivial⟩;cases hA:ofI s.hs c.a with
 |error e=>
  have hD:doM p s c 5=.error e:=by simp only[doM,erb,hA]
  rw[hD];right;refine iD 1000 6 [0,1,2,3,4,5] [7,8,9,10,11,12,14,15] (lA:=[_,_,_,_,_,_]) (lB:=[_,_,_,_,_,_,_,_]) rfl (by kernel_rfl) rfl rfl rfl ?_;simp only[unA,unO,aN,bE,ck,bR,bS];simp only[jt,seval];intro fr ji;have h4:=ji 4 (by decide);have h9:=ji 9 (by decide);refine gq 0 rfl (all:=[.bp 0 0,i64 c.a]) (g:=116) (by simp only[ev,aN,bE,h4,h9];rfl) (ln hS hA) (by rfl) (bH 0) rfl bz (di (ai _) rfl (ai _) hb)
 |ok a=>
  cases hX:ofI s.its c.m with
  |error e=>have hD:doM p s c 5=.error e:=(by simp only[doM,okb,erb,hA,hX]);rw[hD];right;refine iD 1000 13 [0,1,2,3,4,5,6,7,8,9,10,11,12] [14,15] (lA:=[_,_,_,_,_,_,_,_,_,_,_,_,_]) (lB:=[_,_]) rfl (by kernel_rfl) rfl rfl rfl ?_;simp only[unA,unO,aN,bE,ck,bR,bS];simp only[jt,seval];refine dj 0 rfl (gP hS hA) (λ_=>rfl) (ae rfl) rfl bz (λ_=>rfl) ?_;simp only[jt,seval];intro fr ji;have h4:=ji 11 (by decide);have h9:=ji 16 (by decide);refine gq 0 rfl (all:=[.bp 0 0,i64 c.m]) (g:=114) (by simp only[ev,aN,bE,h4,h9];rfl) (nH hS hX) (by rfl) (bH 0) rfl bz (di (ai _) rfl (ai _) hb)
  |ok x=>
   left;refine nP (n:=14) rfl rfl rfl ?_;simp only[jt,seval];refine dj 0 rfl (gP hS hA) (λ_=>rfl) (ae rfl) rfl bz (λ_=>rfl) ?_;simp only[jt,seval];refine dj 0 rfl (lP hS hX) (λ_=>rfl) (ae rfl) rfl bz (λ_=>rfl) ?_;simp only[vp,bV,seval,ao,ah];refine⟨?_,?_⟩
   all_goals
    try simp only[vp,bV,seval,ao,ah]
    cases hF:fw (jO p a.ty 16) 10 with
    |error e=>have hD:doM p s c 5=.error e:=(by simp only[doM,okb,erb,hA,hX,hF]);rw[hD];exact .inr (js 0 rfl rfl (D8 hp hF) rfl (ae rfl) rfl bz (di (ai _) rfl (ae rfl) (by simp[BL,bxs,aw,stO])))
    |ok _u=>
     left;refine dj 0 rfl (D7 hp hF) (λ_=>rfl) (ae rfl) rfl bz (λ_=>rfl) ?_
     try simp only[Ed,bV,seval,ao,ah]
     cases hO:iH x a.va [3] with
     |error e=>have hD:doM p s c 5=.error e:=(by simp only[doM,okb,erb,hA,hX,hF,hO]);rw[hD];exact .inr (vo rfl rfl (Gs (fy hS hX) (gW hS hA).2.1 (by decide) (by simp) hO) rfl (di (ai _) rfl (ae rfl) (by simp[BL,bxs,aw,stO])))
     |ok y=>
      left;refine nQ rfl (Gr (fy hS hX) (gW hS hA).2.1 (by decide) (by simp) hO) (λ_=>rfl) (λ_=>rfl) ?_
      try simp only[oo,bV,seval]
      cases hG:gy s y with
      |error e=>have hD:doM p s c 5=.error e:=(by simp only[doM,okb,hA,hX,hF,hO,hG]);rw[hD];exact .inr (js 0 rfl rfl (pH hS (ci (oW (fy hS hX) (by simp) hO).2 (by decide)) hG) rfl (ae rfl) rfl bz (di (ai _) rfl (ae rfl) (by simp[BL,bxs,aw,stO])))
      |ok s'=>
       left;refine iE 0 rfl (pG hS (ci (oW (fy hS hX) (by simp) hO).2 (by decide)) hG) rfl (ae rfl) rfl rfl ?_
       try simp only[oo]
       have hD:doM p s c 5=.ok s':=(by simp only[doM,okb,hA,hX,hF,hO,hG]);simp only[hD,oQ,oP,stO];exact eO [] rfl rfl (ai _) (ae rfl) trivial ⟨rfl,trivial⟩ dD
theorem adX (hp:p.types.length<=8) (hr:p.rules.length<=40) (hS:SyOk s):FnO Tryz.prog G 74 [.bp 0 0] [mB p s c] (oP (doM p s c 6)) (.tup []) [mB p (stO s (doM p s c 6)) c]:=by
 refine jm (rs:=[]) (k:=1) [3000001,2900000,2900001,2900002,2800000,1900010,1900017,1900021,1000028] mixed Tryz.func74 rfl rfl rfl rfl (by kernel_rfl) (by simp) rfl rfl rfl (fL rfl) (ai _) ?_;simp only[oo,seval,ao];have hb:BL 0 [mB p s c] (bxs [mB p s c]):=⟨rfl,trivial⟩;cases hA:ofI s.hs c.a with
 |error e=>
  have hD:doM p s c 6=.error e:=by simp only[doM,erb,hA]
  rw[hD];right;refine iD 1000 6 [0,1,2,3,4,5] [7,8,9,10,11,12,14,15] (lA:=[_,_,_,_,_,_]) (lB:=[_,_,_,_,_,_,_,_]) rfl (by kernel_rfl) rfl rfl rfl ?_;simp only[unA,unO,aN,bE,ck,bR,bS];simp only[jt,seval];intro fr ji;have h4:=ji 4 (by decide);have h9:=ji 9 (by decide);refine gq 0 rfl (all:=[.bp 0 0,i64 c.a]) (g:=116) (by simp only[ev,aN,bE,h4,h9];rfl) (ln hS hA) (by rfl) (bH 0) rfl bz (di (ai _) rfl (ai _) hb)
 |ok a=>
  cases hX:ofI s.its c.m with
  |error e=>have hD:doM p s c 6=.error e:=(by simp only[doM,okb,erb,hA,hX]);rw[hD];right;refine iD 1000 13 [0,1,2,3,4,5,6,7,8,9,10,11,12] [14,15] (lA:=[_,_,_,_,_,_,_,_,_,_,_,_,_]) (lB:=[_,_]) rfl (by kernel_rfl) rfl rfl rfl ?_;simp only[unA,unO,aN,bE,ck,bR,bS];simp only[jt,seval];refine dj 0 rfl (gP hS hA) (λ_=>rfl) (ae rfl) rfl bz (λ_=>rfl) ?_;simp only[jt,seval];intro fr ji;have h4:=ji 11 (by decide);have h9:=ji 16 (by decide);refine gq 0 rfl (all:=[.bp 0 0,i64 c.m]) (g:=114) (by simp only[ev,aN,bE,h4,h9];rfl) (nH hS hX) (by rfl) (bH 0) rfl bz (di (ai _) rfl (ai _) hb)
  |ok x=>
   left;refine nP (n:=14) rfl rfl rfl ?_;simp only[jt,seval];refine dj 0 rfl (gP hS hA) (λ_=>rfl) (ae rfl) rfl bz (λ_=>rfl) ?_;simp only[jt,seval];refine dj 0 rfl (lP hS hX) (λ_=>rfl) (ae rfl) rfl bz (λ_=>rfl) ?_;simp only[vp,bV,seval,ao,ah];refine⟨?_,?_⟩
   all_goals
    try simp only[vp,bV,seval,ao,ah]
    cases hF:fw (jO p a.ty 32) 10 with
    |error e=>have hD:doM p s c 6=.error e:=(by simp only[doM,okb,erb,hA,hX,hF]);rw[hD];exact .inr (js 0 rfl rfl (D8 hp hF) rfl (ae rfl) rfl bz (di (ai _) rfl (ae rfl) (by simp[BL,bxs,aw,stO])))
    |ok _u=>
     left;refine dj 0 rfl (D7 hp hF) (λ_=>rfl) (ae rfl) rfl bz (λ_=>rfl) ?_
     try simp only[Ed,bV,seval,ao,ah]
     left;refine ax («as»:=[i64 6,i64 0,.c (tsC [a.va,x])]) rfl (of_ok 6 0 [a.va,x]) (λh=>(by cases h)) ?_;simp only[oo,bV,seval];cases hG:gy s (.mk 6 0 [a.va,x]) with
     |error e=>have hD:doM p s c 6=.error e:=(by simp only[doM,okb,hA,hX,hF,hG]);rw[hD];exact .inr (js 0 rfl rfl (pH hS (sH (gW hS hA).2.1 (fy hS hX).2) hG) rfl (ae rfl) rfl bz (di (ai _) rfl (ae rfl) (by simp[BL,bxs,aw,stO])))
     |ok s'=>
      left;refine iE 0 rfl (pG hS (sH (gW hS hA).2.1 (fy hS hX).2) hG) rfl (ae rfl) rfl rfl ?_
      try simp only[oo]
      have hD:doM p s c 6=.ok s':=(by simp only[doM,okb,hA,hX,hF,hG]);simp only[hD,oQ,oP,stO];exact eO [] rfl rfl (ai _) (ae rfl) trivial ⟨rfl,trivial⟩ dD
def aaH:=jj @pkX (jj @pkA (jj @ptA (jj @pkM @pkH)))
theorem Zz (hp:p.types.length<=8) (hr:p.rules.length<=40) (hS:SyOk s):FnO Tryz.prog G 75 [.bp 0 0] [mB p s c] (oP (doM p s c 7)) (.tup []) [mB p (stO s (doM p s c 7)) c]:=by
 refine jm (rs:=[]) (k:=1) [3000001,2900000,2900001,2900002,2800000,1900010,1900017,1900023,1000033] mixed Tryz.func75 rfl rfl rfl rfl (by kernel_rfl) (by simp) rfl rfl rfl (fL rfl) (ai _) ?_;simp only[oo,seval,ao];have hb:BL 0 [mB p s c] (bxs [mB p s c]):=⟨rfl,trivial⟩;cases hA:ofI s.hs c.a with
 |error e=>
  have hD:doM p s c 7=.error e:=by simp only[doM,erb,hA]
  rw[hD];right;refine iD 1000 6 [0,1,2,3,4,5] [7,8,9,10,11,12,14,15] (lA:=[_,_,_,_,_,_]) (lB:=[_,_,_,_,_,_,_,_]) rfl (by kernel_rfl) rfl rfl rfl ?_;simp only[unA,unO,aN,bE,ck,bR,bS];simp only[jt,seval];intro fr ji;have h4:=ji 4 (by decide);have h9:=ji 9 (by decide);refine gq 0 rfl (all:=[.bp 0 0,i64 c.a]) (g:=116) (by simp only[ev,aN,bE,h4,h9];rfl) (ln hS hA) (by rfl) (bH 0) rfl bz (di (ai _) rfl (ai _) hb)
 |ok a=>
  cases hB:ofI s.hs c.b with
  |error e=>have hD:doM p s c 7=.error e:=(by simp only[doM,okb,erb,hA,hB]);rw[hD];right;refine iD 1000 13 [0,1,2,3,4,5,6,7,8,9,10,11,12] [14,15] (lA:=[_,_,_,_,_,_,_,_,_,_,_,_,_]) (lB:=[_,_]) rfl (by kernel_rfl) rfl rfl rfl ?_;simp only[unA,unO,aN,bE,ck,bR,bS];simp only[jt,seval];refine dj 0 rfl (gP hS hA) (λ_=>rfl) (ae rfl) rfl bz (λ_=>rfl) ?_;simp only[jt,seval];intro fr ji;have h4:=ji 11 (by decide);have h9:=ji 16 (by decide);refine gq 0 rfl (all:=[.bp 0 0,i64 c.b]) (g:=116) (by simp only[ev,aN,bE,h4,h9];rfl) (ln hS hB) (by rfl) (bH 0) rfl bz (di (ai _) rfl (ai _) hb)
  |ok b=>
   left;refine nP (n:=14) rfl rfl rfl ?_;simp only[jt,seval];refine dj 0 rfl (gP hS hA) (λ_=>rfl) (ae rfl) rfl bz (λ_=>rfl) ?_;simp only[jt,seval];refine dj 0 rfl (gP hS hB) (λ_=>rfl) (ae rfl) rfl bz (λ_=>rfl) ?_;simp only[aaH,bV,seval,ao,ah];refine⟨?_,?_⟩
   all_goals
    try simp only[vp,bV,seval,ao,ah]
    cases hY:fw (li p 1 a.ty b.ty) 10 with
    |error e=>have hD:doM p s c 7=.error e:=(by simp only[doM,okb,erb,hA,hB,hY]);rw[hD];exact .inr (js 0 rfl rfl (Jc hr hY) rfl (ae rfl) rfl bz (di (ai _) rfl (ae rfl) (by simp[BL,bxs,aw,stO])))
    |ok _u=>
     left;refine dj 0 rfl (Jb hr hY) (λ_=>rfl) (ae rfl) rfl bz (λ_=>rfl) ?_
     try simp only[Ed,bV,seval,ao,ah]
     left;refine ax («as»:=[i64 4,i64 b.ty,.c (tsC [a.va,b.va])]) rfl (of_ok 4 b.ty [a.va,b.va]) (λh=>(by cases h)) ?_;simp only[oo,bV,seval];cases hG:gy s (.mk 4 b.ty [a.va,b.va]) with
     |error e=>have hD:doM p s c 7=.error e:=(by simp only[doM,okb,hA,hB,hY,hG]);rw[hD];exact .inr (js 0 rfl rfl (pH hS (sH (gW hS hA).2.1 (gW hS hB).2.1) hG) rfl (ae rfl) rfl bz (di (ai _) rfl (ae rfl) (by simp[BL,bxs,aw,stO])))
     |ok s'=>
      left;refine iE 0 rfl (pG hS (sH (gW hS hA).2.1 (gW hS hB).2.1) hG) rfl (ae rfl) rfl rfl ?_
      try simp only[oo]
      have hD:doM p s c 7=.ok s':=(by simp only[doM,okb,hA,hB,hY,hG]);simp only[hD,oQ,oP,stO];exact eO [] rfl rfl (ai _) (ae rfl) trivial ⟨rfl,trivial⟩ dD
theorem Qk (hp:p.types.length<=8) (hr:p.rules.length<=40) (hS:SyOk s):FnO Tryz.prog G 76 [.bp 0 0] [mB p s c] (oP (doM p s c 8)) (.tup []) [mB p (stO s (doM p s c 8)) c]:=by
 refine jm (rs:=[]) (k:=1) [3000001,2900000,2900001,2900002,2900003,2800000,1900011,1900018,1900023,1900029,1000034] mixed Tryz.func76 rfl rfl rfl rfl (by kernel_rfl) (by simp) rfl rfl rfl (fL rfl) (ai _) ?_;simp only[oo,seval,ao];have hb:BL 0 [mB p s c] (bxs [mB p s c]):=⟨rfl,trivial⟩;cases hA:ofI s.hs c.a with
 |error e=>
  have hD:doM p s c 8=.error e:=by simp only[doM,erb,hA]
  rw[hD];right;refine iD 1000 6 [0,1,2,3,4,5] [7,8,9,10,11,12,14,15] (lA:=[_,_,_,_,_,_]) (lB:=[_,_,_,_,_,_,_,_]) rfl (by kernel_rfl) rfl rfl rfl ?_;simp only[unA,unO,aN,bE,ck,bR,bS];simp only[jt,seval];intro fr ji;have h4:=ji 5 (by decide);have h9:=ji 10 (by decide);refine gq 0 rfl (all:=[.bp 0 0,i64 c.a]) (g:=116) (by simp only[ev,aN,bE,h4,h9];rfl) (ln hS hA) (by rfl) (bH 0) rfl bz (di (ai _) rfl (ai _) hb)
 |ok a=>
  cases hX:ofI s.its c.m with
  |error e=>have hD:doM p s c 8=.error e:=(by simp only[doM,okb,erb,hA,hX]);rw[hD];right;refine iD 1000 13 [0,1,2,3,4,5,6,7,8,9,10,11,12] [14,15] (lA:=[_,_,_,_,_,_,_,_,_,_,_,_,_]) (lB:=[_,_]) rfl (by kernel_rfl) rfl rfl rfl ?_;simp only[unA,unO,aN,bE,ck,bR,bS];simp only[jt,seval];refine dj 0 rfl (gP hS hA) (λ_=>rfl) (ae rfl) rfl bz (λ_=>rfl) ?_;simp only[jt,seval];intro fr ji;have h4:=ji 12 (by decide);have h9:=ji 17 (by decide);refine gq 0 rfl (all:=[.bp 0 0,i64 c.m]) (g:=114) (by simp only[ev,aN,bE,h4,h9];rfl) (nH hS hX) (by rfl) (bH 0) rfl bz (di (ai _) rfl (ai _) hb)
  |ok x=>
   left;refine nP (n:=14) rfl rfl rfl ?_;simp only[jt,seval];refine dj 0 rfl (gP hS hA) (λ_=>rfl) (ae rfl) rfl bz (λ_=>rfl) ?_;simp only[jt,seval];refine dj 0 rfl (lP hS hX) (λ_=>rfl) (ae rfl) rfl bz (λ_=>rfl) ?_;simp only[vp,bV,seval,ao,ah];refine⟨?_,?_⟩
   all_goals
    try simp only[vp,bV,seval,ao,ah]
    cases hO:iH x a.va [4] with
    |error e=>have hD:doM p s c 8=.error e:=(by simp only[doM,okb,erb,hA,hX,hO]);rw[hD];exact .inr (vo rfl rfl (Gs (fy hS hX) (gW hS hA).2.1 (by decide) (by simp) hO) rfl (di (ai _) rfl (ae rfl) (by simp[BL,bxs,aw,stO])))
    |ok y=>
     left;refine nQ rfl (Gr (fy hS hX) (gW hS hA).2.1 (by decide) (by simp) hO) (λ_=>rfl) (λ_=>rfl) ?_
     try simp only[Ed,bV,seval,ao,ah]
     cases hY:fw (li p 2 a.ty x.n) 10 with
     |error e=>have hD:doM p s c 8=.error e:=(by simp only[doM,okb,erb,hA,hX,hO,hY]);rw[hD];exact .inr (js 0 rfl rfl (Jc hr hY) rfl (ae rfl) rfl bz (di (ai _) rfl (ae rfl) (by simp[BL,bxs,aw,stO])))
     |ok _u=>
      left;refine dj 0 rfl (Jb hr hY) (λ_=>rfl) (ae rfl) rfl bz (λ_=>rfl) ?_
      try simp only[pkX,pkA,ptA,pkT,bV,seval,ao,ah]
      cases hW:lY s x.n y with
      |error e=>have hD:doM p s c 8=.error e:=(by simp only[doM,okb,hA,hX,hO,hY,hW]);rw[hD];exact .inr (js 0 rfl rfl (B2 hS (ci (oW (fy hS hX) (by simp) hO).2 (by decide)) hW) rfl (ae rfl) rfl bz (di (ai _) rfl (ae rfl) (by simp[BL,bxs,aw,stO])))
      |ok s'=>
       left;refine iE 0 rfl (B1 hS (ci (oW (fy hS hX) (by simp) hO).2 (by decide)) hW) rfl (ae rfl) rfl rfl ?_
       try simp only[oo]
       have hD:doM p s c 8=.ok s':=(by simp only[doM,okb,hA,hX,hO,hY,hW]);simp only[hD,oQ,oP,stO];exact eO [] rfl rfl (ai _) (ae rfl) trivial ⟨rfl,trivial⟩ dD
theorem LI (hp:p.types.length<=8) (hr:p.rules.length<=40) (hS:SyOk s):FnO Tryz.prog G 77 [.bp 0 0] [mB p s c] (oP (doM p s c 9)) (.tup []) [mB p (stO s (doM p s c 9)) c]:=by
 refine jm (rs:=[]) (k:=1) [3000001,2900000,2900001,2900002,2800000,1900010,1900017,1900023,1000031] mixed Tryz.func77 rfl rfl rfl rfl (by kernel_rfl) (by simp) rfl rfl rfl (fL rfl) (ai _) ?_;simp only[oo,seval,ao];have hb:BL 0 [mB p s c] (bxs [mB p s c]):=⟨rfl,trivial⟩;cases hA:ofI s.hs c.a with
 |error e=>
  have hD:doM p s c 9=.error e:=by simp only[doM,erb,hA]
  rw[hD];right;refine iD 1000 6 [0,1,2,3,4,5] [7,8,9,10,11,12,14,15] (lA:=[_,_,_,_,_,_]) (lB:=[_,_,_,_,_,_,_,_]) rfl (by kernel_rfl) rfl rfl rfl ?_;simp only[unA,unO,aN,bE,ck,bR,bS];simp only[jt,seval];intro fr ji;have h4:=ji 4 (by decide);have h9:=ji 9 (by decide);refine gq 0 rfl (all:=[.bp 0 0,i64 c.a]) (g:=116) (by simp only[ev,aN,bE,h4,h9];rfl) (ln hS hA) (by rfl) (bH 0) rfl bz (di (ai _) rfl (ai _) hb)
 |ok a=>
  cases hB:ofI s.hs c.b with
  |error e=>have hD:doM p s c 9=.error e:=(by simp only[doM,okb,erb,hA,hB]);rw[hD];right;refine iD 1000 13 [0,1,2,3,4,5,6,7,8,9,10,11,12] [14,15] (lA:=[_,_,_,_,_,_,_,_,_,_,_,_,_]) (lB:=[_,_]) rfl (by kernel_rfl) rfl rfl rfl ?_;simp only[unA,unO,aN,bE,ck,bR,bS];simp only[jt,seval];refine dj 0 rfl (gP hS hA) (λ_=>rfl) (ae rfl) rfl bz (λ_=>rfl) ?_;simp only[jt,seval];intro fr ji;have h4:=ji 11 (by decide);have h9:=ji 16 (by decide);refine gq 0 rfl (all:=[.bp 0 0,i64 c.b]) (g:=116) (by simp only[ev,aN,bE,h4,h9];rfl) (ln hS hB) (by rfl) (bH 0) rfl bz (di (ai _) rfl (ai _) hb)
  |ok b=>
   left;refine nP (n:=14) rfl rfl rfl ?_;simp only[jt,seval];refine dj 0 rfl (gP hS hA) (λ_=>rfl) (ae rfl) rfl bz (λ_=>rfl) ?_;simp only[jt,seval];refine dj 0 rfl (gP hS hB) (λ_=>rfl) (ae rfl) rfl bz (λ_=>rfl) ?_;simp only[aaH,bV,seval,ao,ah];refine⟨?_,?_⟩
   all_goals
    try simp only[vp,bV,seval,ao,ah]
    cases hY:fw (li p 3 a.ty b.ty) 10 with
    |error e=>have hD:doM p s c 9=.error e:=(by simp only[doM,okb,erb,hA,hB,hY]);rw[hD];exact .inr (js 0 rfl rfl (Jc hr hY) rfl (ae rfl) rfl bz (di (ai _) rfl (ae rfl) (by simp[BL,bxs,aw,stO])))
    |ok _u=>
     left;refine dj 0 rfl (Jb hr hY) (λ_=>rfl) (ae rfl) rfl bz (λ_=>rfl) ?_
     try simp only[Ed,bV,seval,ao,ah]
     left;refine ax («as»:=[i64 3,i64 0,.c (tsC [a.va,b.va])]) rfl (of_ok 3 0 [a.va,b.va]) (λh=>(by cases h)) ?_;simp only[oo,bV,seval];cases hG:gy s (gr a.va b.va) with
     |error e=>have hD:doM p s c 9=.error e:=(by simp only[doM,okb,hA,hB,hY,hG]);rw[hD];exact .inr (js 0 rfl rfl (pH hS (sH (gW hS hA).2.1 (gW hS hB).2.1) hG) rfl (ae rfl) rfl bz (di (ai _) rfl (ae rfl) (by simp[BL,bxs,aw,stO])))
     |ok s'=>
      left;refine iE 0 rfl (pG hS (sH (gW hS hA).2.1 (gW hS hB).2.1) hG) rfl (ae rfl) rfl rfl ?_
      try simp only[oo]
      have hD:doM p s c 9=.ok s':=(by simp only[doM,okb,hA,hB,hY,hG]);simp only[hD,oQ,oP,stO];exact eO [] rfl rfl (ai _) (ae rfl) trivial ⟨rfl,trivial⟩ dD
