/- Layer 16: the calls. (Printed by gen16.py.) -/
import Derived.Test.YtegbpjodbjhjeaaGreatDoorVlMa
set_option linter.all false
namespace Go.Proofs.YtegbpjodbjhjeaaGreatDoor
open Go Go.Vl
open Kp (Pol Ty Ru Qu poC tyC ruC quC)
variable {G:Gl} {p:Pol} {s:Sy} {c:Cl}
set_option maxRecDepth 10000
def zA:=jj @pkX @pkA
def pJ:=jj @pkA (jj @ptA @pkM)
def vq:=jj @pkX (jj @pkA (jj @ptA @pkT))
def Vz:=jj @pkX (jj @pkA (jj @ptA (jj @pkM (jj @pkT @pkH))))
theorem Je (hp:p.types.length<=8) (hr:p.rules.length<=40) (hS:SyOk s):FnO Tryz.prog G 81 [.bp 0 0] [mB p s c] (oP (doM p s c 13)) (.tup []) [mB p (stO s (doM p s c 13)) c]:=by
 refine jm (rs:=[]) (k:=1) [3000001,2900000,2900001,2900002,2800000,1900010,1900017,1900019,1000025] mixed Tryz.func81 rfl rfl rfl rfl (by kernel_rfl) (by simp) rfl rfl rfl (fL rfl) (ai _) ?_;simp only[zA,seval,ao];have hb:BL 0 [mB p s c] (bxs [mB p s c]):=⟨rfl,trivial⟩;cases hA:ofI s.its c.a with
 |error e=>
  have hD:doM p s c 13=.error e:=by simp only[doM,erb,hA]
  rw[hD];right;refine iD 1000 6 [0,1,2,3,4,5] [7,8,9,10,11,12,14,15] (lA:=[_,_,_,_,_,_]) (lB:=[_,_,_,_,_,_,_,_]) rfl (by kernel_rfl) rfl rfl rfl ?_;simp only[unA,unO,aN,bE,ck,bR,bS];simp only[pJ,seval];intro fr ji;have h4:=ji 4 (by decide);have h9:=ji 9 (by decide);refine gq 0 rfl (all:=[.bp 0 0,i64 c.a]) (g:=114) (by simp only[ev,aN,bE,h4,h9];rfl) (nH hS hA) (by rfl) (bH 0) rfl bz (di (ai _) rfl (ai _) hb)
 |ok a=>
  cases hX:ofI s.its c.m with
  |error e=>have hD:doM p s c 13=.error e:=(by simp only[doM,okb,erb,hA,hX]);rw[hD];right;refine iD 1000 13 [0,1,2,3,4,5,6,7,8,9,10,11,12] [14,15] (lA:=[_,_,_,_,_,_,_,_,_,_,_,_,_]) (lB:=[_,_]) rfl (by kernel_rfl) rfl rfl rfl ?_;simp only[unA,unO,aN,bE,ck,bR,bS];simp only[pJ,seval];refine dj 0 rfl (lP hS hA) (λ_=>rfl) (ae rfl) rfl bz (λ_=>rfl) ?_;simp only[pJ,seval];intro fr ji;have h4:=ji 11 (by decide);have h9:=ji 16 (by decide);refine gq 0 rfl (all:=[.bp 0 0,i64 c.m]) (g:=114) (by simp only[ev,aN,bE,h4,h9];rfl) (nH hS hX) (by rfl) (bH 0) rfl bz (di (ai _) rfl (ai _) hb)
  |ok x=>
   left;refine nP (n:=14) rfl rfl rfl ?_;simp only[pJ,seval];refine dj 0 rfl (lP hS hA) (λ_=>rfl) (ae rfl) rfl bz (λ_=>rfl) ?_;simp only[pJ,seval];refine dj 0 rfl (lP hS hX) (λ_=>rfl) (ae rfl) rfl bz (λ_=>rfl) ?_;simp only[vq,bV,seval,ao,ah];refine⟨?_,?_⟩
   all_goals
    try simp only[Vz,bV,seval,ao,ah]
    cases hK:fw (dF a) 1 with
    |error e=>have hD:doM p s c 13=.error e:=(by simp only[doM,okb,erb,hA,hX,hK]);rw[hD];exact .inr (vo rfl rfl (uO hK) rfl (di (ai _) rfl (ae rfl) (by simp[BL,bxs,aw,stO])))
    |ok _u=>
     left;refine nQ rfl (uN hK) (λ_=>rfl) (λ_=>rfl) ?_
     try simp only[vq,bV,seval,ao,ah]
     left;refine ax («as»:=[i64 3,i64 0,.c (tsC [a,x])]) rfl (of_ok 3 0 [a,x]) (λh=>(by cases h)) ?_;simp only[zA,bV,seval];cases hG:gy s (gr a x) with
     |error e=>have hD:doM p s c 13=.error e:=(by simp only[doM,okb,hA,hX,hK,hG]);rw[hD];exact .inr (js 0 rfl rfl (pH hS (sH (fy hS hA).2 (fy hS hX).2) hG) rfl (ae rfl) rfl bz (di (ai _) rfl (ae rfl) (by simp[BL,bxs,aw,stO])))
     |ok s'=>
      left;refine iE 0 rfl (pG hS (sH (fy hS hA).2 (fy hS hX).2) hG) rfl (ae rfl) rfl rfl ?_
      try simp only[zA]
      have hD:doM p s c 13=.ok s':=(by simp only[doM,okb,hA,hX,hK,hG]);simp only[hD,oQ,oP,stO];exact eO [] rfl rfl (ai _) (ae rfl) trivial ⟨rfl,trivial⟩ dD
def VA:=jj @pkX (jj @pkA (jj @ptA (jj @pkM @pkT)))
def VB:=jj @pkA (jj @ptA (jj @pkM @pkT))
def VC:=jj @pkA (jj @ptA (jj @pkM (jj @pkT @pkH)))
theorem LJ (hp:p.types.length<=8) (hr:p.rules.length<=40) (hS:SyOk s):FnO Tryz.prog G 82 [.bp 0 0] [mB p s c] (oP (doM p s c 14)) (.tup []) [mB p (stO s (doM p s c 14)) c]:=by
 refine jm (rs:=[]) (k:=1) [3000001,2900000,2900001,2900002,2900003,2900004,2800000,1900010,1900017,1900019,1900021,1900023,1000034] mixed Tryz.func82 rfl rfl rfl rfl (by kernel_rfl) (by simp) rfl rfl rfl (fL rfl) (ai _) ?_;simp only[zA,seval,ao];have hb:BL 0 [mB p s c] (bxs [mB p s c]):=⟨rfl,trivial⟩;cases hA:ofI s.its c.a with
 |error e=>
  have hD:doM p s c 14=.error e:=by simp only[doM,erb,hA]
  rw[hD];right;refine iD 1000 6 [0,1,2,3,4,5] [7,8,9,10,11,12,14,15] (lA:=[_,_,_,_,_,_]) (lB:=[_,_,_,_,_,_,_,_]) rfl (by kernel_rfl) rfl rfl rfl ?_;simp only[unA,unO,aN,bE,ck,bR,bS];simp only[pJ,seval];intro fr ji;have h4:=ji 4 (by decide);have h9:=ji 9 (by decide);refine gq 0 rfl (all:=[.bp 0 0,i64 c.a]) (g:=114) (by simp only[ev,aN,bE,h4,h9];rfl) (nH hS hA) (by rfl) (bH 0) rfl bz (di (ai _) rfl (ai _) hb)
 |ok a=>
  cases hX:ofI s.its c.m with
  |error e=>have hD:doM p s c 14=.error e:=(by simp only[doM,okb,erb,hA,hX]);rw[hD];right;refine iD 1000 13 [0,1,2,3,4,5,6,7,8,9,10,11,12] [14,15] (lA:=[_,_,_,_,_,_,_,_,_,_,_,_,_]) (lB:=[_,_]) rfl (by kernel_rfl) rfl rfl rfl ?_;simp only[unA,unO,aN,bE,ck,bR,bS];simp only[pJ,seval];refine dj 0 rfl (lP hS hA) (λ_=>rfl) (ae rfl) rfl bz (λ_=>rfl) ?_;simp only[pJ,seval];intro fr ji;have h4:=ji 11 (by decide);have h9:=ji 16 (by decide);refine gq 0 rfl (all:=[.bp 0 0,i64 c.m]) (g:=114) (by simp only[ev,aN,bE,h4,h9];rfl) (nH hS hX) (by rfl) (bH 0) rfl bz (di (ai _) rfl (ai _) hb)
  |ok x=>
   left;refine nP (n:=14) rfl rfl rfl ?_;simp only[pJ,seval];refine dj 0 rfl (lP hS hA) (λ_=>rfl) (ae rfl) rfl bz (λ_=>rfl) ?_;simp only[pJ,seval];refine dj 0 rfl (lP hS hX) (λ_=>rfl) (ae rfl) rfl bz (λ_=>rfl) ?_;simp only[vq,bV,seval,ao,ah];refine⟨?_,?_⟩
   all_goals
    try simp only[Vz,bV,seval,ao,ah]
    cases hT:m5 p c.t with
    |error e=>have hD:doM p s c 14=.error e:=(by simp only[doM,okb,erb,hA,hX,hT]);rw[hD];exact .inr (js 0 rfl rfl (qZ hp hT) rfl (ae rfl) rfl bz (di (ai _) rfl (ae rfl) (by simp[BL,bxs,aw,stO])))
    |ok _u=>
     left;refine dj 0 rfl (qY hp hT) (λ_=>rfl) (ae rfl) rfl bz (λ_=>rfl) ?_
     try simp only[vq,bV,seval,ah]
     cases hK:fw (dF a) 1 with
     |error e=>have hD:doM p s c 14=.error e:=(by simp only[doM,okb,erb,hA,hX,hT,hK]);rw[hD];exact .inr (vo rfl rfl (uO hK) rfl (di (ai _) rfl (ae rfl) (by simp[BL,bxs,aw,stO])))
     |ok _u=>
      left;refine nQ rfl (uN hK) (λ_=>rfl) (λ_=>rfl) ?_
      try simp only[vq,bV,seval,ah]
      cases hL:fw (dF x) 1 with
      |error e=>have hD:doM p s c 14=.error e:=(by simp only[doM,okb,erb,hA,hX,hT,hK,hL]);rw[hD];exact .inr (vo rfl rfl (uO hL) rfl (di (ai _) rfl (ae rfl) (by simp[BL,bxs,aw,stO])))
      |ok _u=>
       left;refine nQ rfl (uN hL) (λ_=>rfl) (λ_=>rfl) ?_
       try simp only[VA,seval,ao,ah]
       cases hG:gy s (.mk 4 c.t [a,x]) with
       |error e=>have hD:doM p s c 14=.error e:=(by simp only[doM,okb,hA,hX,hT,hK,hL,hG]);rw[hD];right;refine gx (l:=[_,_,_,_,_,_,_,_,_,_]) rfl (by kernel_rfl) ?_;simp only[VB,seval];refine ax («as»:=[i64 4,i64 c.t,.c (tsC [a,x])]) rfl (of_ok 4 c.t [a,x]) (λh=>(by cases h)) ?_;simp only[pkA];exact gq 0 rfl rfl (pH hS (sH (fy hS hA).2 (fy hS hX).2) hG) rfl (ae rfl) rfl bz (di (ai _) rfl (ae rfl) (by simp[BL,bxs,aw,stO]))
       |ok s'=>
        left
        try simp only[VC,seval]
        refine ax («as»:=[i64 4,i64 c.t,.c (tsC [a,x])]) rfl (of_ok 4 c.t [a,x]) (λh=>(by cases h)) ?_
        try simp only[pkA,seval]
        refine iE 0 rfl (pG hS (sH (fy hS hA).2 (fy hS hX).2) hG) rfl (ae rfl) rfl rfl ?_
        try simp only[pkA]
        have hD:doM p s c 14=.ok s':=(by simp only[doM,okb,hA,hX,hT,hK,hL,hG]);simp only[hD,oQ,oP,stO];exact eO [] rfl rfl (ai _) (ae rfl) trivial ⟨rfl,trivial⟩ dD
theorem Jf (hp:p.types.length<=8) (hr:p.rules.length<=40) (hS:SyOk s):FnO Tryz.prog G 84 [.bp 0 0] [mB p s c] (oP (doM p s c 16)) (.tup []) [mB p (stO s (doM p s c 16)) c]:=by
 refine jm (rs:=[]) (k:=1) [3000001,2900000,2900001,2800000,1900010,1900017,1900022,1000023] mixed Tryz.func84 rfl rfl rfl rfl (by kernel_rfl) (by simp) rfl rfl rfl (fL rfl) (ai _) ?_;simp only[zA,seval,ao];have hb:BL 0 [mB p s c] (bxs [mB p s c]):=⟨rfl,trivial⟩;cases hA:ofI s.its c.a with
 |error e=>
  have hD:doM p s c 16=.error e:=by simp only[doM,erb,hA]
  rw[hD];right;refine iD 1000 6 [0,1,2,3,4,5] [7,8,9,10,11,12,14,15] (lA:=[_,_,_,_,_,_]) (lB:=[_,_,_,_,_,_,_,_]) rfl (by kernel_rfl) rfl rfl rfl ?_;simp only[unA,unO,aN,bE,ck,bR,bS];simp only[pJ,seval];intro fr ji;have h4:=ji 4 (by decide);have h9:=ji 9 (by decide);refine gq 0 rfl (all:=[.bp 0 0,i64 c.a]) (g:=114) (by simp only[ev,aN,bE,h4,h9];rfl) (nH hS hA) (by rfl) (bH 0) rfl bz (di (ai _) rfl (ai _) hb)
 |ok a=>
  cases hX:ofI s.its c.m with
  |error e=>have hD:doM p s c 16=.error e:=(by simp only[doM,okb,erb,hA,hX]);rw[hD];right;refine iD 1000 13 [0,1,2,3,4,5,6,7,8,9,10,11,12] [14,15] (lA:=[_,_,_,_,_,_,_,_,_,_,_,_,_]) (lB:=[_,_]) rfl (by kernel_rfl) rfl rfl rfl ?_;simp only[unA,unO,aN,bE,ck,bR,bS];simp only[pJ,seval];refine dj 0 rfl (lP hS hA) (λ_=>rfl) (ae rfl) rfl bz (λ_=>rfl) ?_;simp only[pJ,seval];intro fr ji;have h4:=ji 11 (by decide);have h9:=ji 16 (by decide);refine gq 0 rfl (all:=[.bp 0 0,i64 c.m]) (g:=114) (by simp only[ev,aN,bE,h4,h9];rfl) (nH hS hX) (by rfl) (bH 0) rfl bz (di (ai _) rfl (ai _) hb)
  |ok x=>
   left;refine nP (n:=14) rfl rfl rfl ?_;simp only[pJ,seval];refine dj 0 rfl (lP hS hA) (λ_=>rfl) (ae rfl) rfl bz (λ_=>rfl) ?_;simp only[pJ,seval];refine dj 0 rfl (lP hS hX) (λ_=>rfl) (ae rfl) rfl bz (λ_=>rfl) ?_;simp only[vq,bV,seval,ao,ah];refine⟨?_,?_⟩
   all_goals
    try simp only[Vz,bV,seval,ao,ah]
    cases hO:iH x a [3,4] with
    |error e=>have hD:doM p s c 16=.error e:=(by simp only[doM,okb,erb,hA,hX,hO]);rw[hD];exact .inr (vo rfl rfl (Gs (fy hS hX) (fy hS hA).2 (by decide) (by simp) hO) rfl (di (ai _) rfl (ae rfl) (by simp[BL,bxs,aw,stO])))
    |ok y=>
     left;refine nQ rfl (Gr (fy hS hX) (fy hS hA).2 (by decide) (by simp) hO) (λ_=>rfl) (λ_=>rfl) ?_
     try simp only[zA,bV,seval]
     cases hG:gy s y with
     |error e=>have hD:doM p s c 16=.error e:=(by simp only[doM,okb,hA,hX,hO,hG]);rw[hD];exact .inr (js 0 rfl rfl (pH hS (ci (oW (fy hS hX) (by simp) hO).2 (by decide)) hG) rfl (ae rfl) rfl bz (di (ai _) rfl (ae rfl) (by simp[BL,bxs,aw,stO])))
     |ok s'=>
      left;refine iE 0 rfl (pG hS (ci (oW (fy hS hX) (by simp) hO).2 (by decide)) hG) rfl (ae rfl) rfl rfl ?_
      try simp only[zA]
      have hD:doM p s c 16=.ok s':=(by simp only[doM,okb,hA,hX,hO,hG]);simp only[hD,oQ,oP,stO];exact eO [] rfl rfl (ai _) (ae rfl) trivial ⟨rfl,trivial⟩ dD
def NA:=jj @pkX (jj @pkA (jj @ptA @pkM))
theorem B5 (hp:p.types.length<=8) (hr:p.rules.length<=40) (hS:SyOk s):FnO Tryz.prog G 71 [.bp 0 0] [mB p s c] (oP (doM p s c 3)) (.tup []) [mB p (stO s (doM p s c 3)) c]:=by
 refine jm (rs:=[]) (k:=1) [3000001,2900000,2900001,2900002,1900009,1900013,1000017] mixed Tryz.func71 rfl rfl rfl rfl (by kernel_rfl) (by simp) rfl rfl rfl (fL rfl) (ai _) ?_;simp only[NA,bV,seval,ao,ah];have hb:BL 0 [mB p s c] (bxs [mB p s c]):=⟨rfl,trivial⟩;cases hA:ofI s.hs c.a with
 |error e=>
  have hD:doM p s c 3=.error e:=by simp only[doM,erb,hA]
  rw[hD];exact .inr (js 0 rfl rfl (ln hS hA) rfl (ae rfl) rfl bz (di (ai _) rfl (ae rfl) (by simp[BL,bxs,stO])))
 |ok a=>
  left;refine dj 0 rfl (gP hS hA) (λ_=>rfl) (ae rfl) rfl bz (λ_=>rfl) ?_
  try simp only[pkX,pkA,ptA,pkM,pkH,bV,seval,ao,ah]
  cases hF:fw (jO p a.ty 4) 10 with
  |error e=>have hD:doM p s c 3=.error e:=(by simp only[doM,okb,erb,hA,hF]);rw[hD];exact .inr (js 0 rfl rfl (D8 hp hF) rfl (ae rfl) rfl bz (di (ai _) rfl (ae rfl) (by simp[BL,bxs,aw,stO])))
  |ok _u=>
   left;refine dj 0 rfl (D7 hp hF) (λ_=>rfl) (ae rfl) rfl bz (λ_=>rfl) ?_
   try simp only[pkX,pkA,ptA,pkH,bV,seval,ao,ah]
   cases hG:gy s a.va with
   |error e=>have hD:doM p s c 3=.error e:=(by simp only[doM,okb,hA,hF,hG]);rw[hD];exact .inr (js 0 rfl rfl (pH hS (ci (gW hS hA).2.1 (by decide)) hG) rfl (ae rfl) rfl bz (di (ai _) rfl (ae rfl) (by simp[BL,bxs,aw,stO])))
   |ok s'=>
    left;refine iE 0 rfl (pG hS (ci (gW hS hA).2.1 (by decide)) hG) rfl (ae rfl) rfl rfl ?_
    try simp only[zA]
    have hD:doM p s c 3=.ok s':=(by simp only[doM,okb,hA,hF,hG]);simp only[hD,oQ,oP,stO];exact eO [] rfl rfl (ai _) (ae rfl) trivial ⟨rfl,trivial⟩ dD
theorem ZA (hp:p.types.length<=8) (hr:p.rules.length<=40) (hS:SyOk s):FnO Tryz.prog G 70 [.bp 0 0] [mB p s c] (oP (doM p s c 2)) (.tup []) [mB p (stO s (doM p s c 2)) c]:=by
 refine jm (rs:=[]) (k:=1) [3000001,2900000,2900001,2900002,2900003,2900004,1900009,1900011,1900013,1900020,1000028] mixed Tryz.func70 rfl rfl rfl rfl (by kernel_rfl) (by simp) rfl rfl rfl (fL rfl) (ai _) ?_;simp only[NA,bV,seval,ao,ah];have hb:BL 0 [mB p s c] (bxs [mB p s c]):=⟨rfl,trivial⟩;cases hX:ofI s.its c.m with
 |error e=>
  have hD:doM p s c 2=.error e:=by simp only[doM,erb,hX]
  rw[hD];exact .inr (js 0 rfl rfl (nH hS hX) rfl (ae rfl) rfl bz (di (ai _) rfl (ae rfl) (by simp[BL,bxs,stO])))
 |ok x=>
  left;refine dj 0 rfl (lP hS hX) (λ_=>rfl) (ae rfl) rfl bz (λ_=>rfl) ?_
  try simp only[vq,bV,seval,ao,ah]
  cases hT:m5 p c.t with
  |error e=>have hD:doM p s c 2=.error e:=(by simp only[doM,okb,erb,hX,hT]);rw[hD];exact .inr (js 0 rfl rfl (qZ hp hT) rfl (ae rfl) rfl bz (di (ai _) rfl (ae rfl) (by simp[BL,bxs,aw,stO])))
  |ok _u=>
   left;refine dj 0 rfl (qY hp hT) (λ_=>rfl) (ae rfl) rfl bz (λ_=>rfl) ?_
   try simp only[vq,bV,seval,ah]
   cases hK:fw (dF x) 1 with
   |error e=>have hD:doM p s c 2=.error e:=(by simp only[doM,okb,erb,hX,hT,hK]);rw[hD];exact .inr (vo rfl rfl (uO hK) rfl (di (ai _) rfl (ae rfl) (by simp[BL,bxs,aw,stO])))
   |ok _u=>
    left;refine nQ rfl (uN hK) (λ_=>rfl) (λ_=>rfl) ?_
    try simp only[NA,bV,seval,ao,ah]
    cases hF:fw (jO p c.t 2) 10 with
    |error e=>have hD:doM p s c 2=.error e:=(by simp only[doM,okb,erb,hX,hT,hK,hF]);rw[hD];exact .inr (js 0 rfl rfl (D8 hp hF) rfl (ae rfl) rfl bz (di (ai _) rfl (ae rfl) (by simp[BL,bxs,aw,stO])))
    |ok _u=>
     left;refine dj 0 rfl (D7 hp hF) (λ_=>rfl) (ae rfl) rfl bz (λ_=>rfl) ?_
     try simp only[VA,seval,ao,ah]
     cases hW:lY s c.t x with
     |error e=>have hD:doM p s c 2=.error e:=(by simp only[doM,okb,hX,hT,hK,hF,hW]);rw[hD];right;refine gx (l:=[_,_,_,_,_,_,_]) rfl (by kernel_rfl) ?_;simp only[VB,seval];exact gq 0 rfl rfl (B2 hS (ci (fy hS hX).2 (by decide)) hW) rfl (ae rfl) rfl bz (di (ai _) rfl (ae rfl) (by simp[BL,bxs,aw,stO]))
     |ok s'=>
      left
      try simp only[VC,seval]
      refine iE 0 rfl (B1 hS (ci (fy hS hX).2 (by decide)) hW) rfl (ae rfl) rfl rfl ?_
      try simp only[pkA]
      have hD:doM p s c 2=.ok s':=(by simp only[doM,okb,hX,hT,hK,hF,hW]);simp only[hD,oQ,oP,stO];exact eO [] rfl rfl (ai _) (ae rfl) trivial ⟨rfl,trivial⟩ dD
theorem LK (hp:p.types.length<=8) (hr:p.rules.length<=40) (hS:SyOk s):FnO Tryz.prog G 83 [.bp 0 0] [mB p s c] (oP (doM p s c 15)) (.tup []) [mB p (stO s (doM p s c 15)) c]:=by
 refine jm (rs:=[]) (k:=1) [3000001,2900000,2900001,2900002,2900003,1900009,1900011,1900013,1000023] mixed Tryz.func83 rfl rfl rfl rfl (by kernel_rfl) (by simp) rfl rfl rfl (fL rfl) (ai _) ?_;simp only[NA,bV,seval,ao,ah];have hb:BL 0 [mB p s c] (bxs [mB p s c]):=⟨rfl,trivial⟩;cases hA:ofI s.its c.a with
 |error e=>
  have hD:doM p s c 15=.error e:=by simp only[doM,erb,hA]
  rw[hD];exact .inr (js 0 rfl rfl (nH hS hA) rfl (ae rfl) rfl bz (di (ai _) rfl (ae rfl) (by simp[BL,bxs,stO])))
 |ok a=>
  left;refine dj 0 rfl (lP hS hA) (λ_=>rfl) (ae rfl) rfl bz (λ_=>rfl) ?_
  try simp only[vq,bV,seval,ao,ah]
  cases hT:m5 p c.t with
  |error e=>have hD:doM p s c 15=.error e:=(by simp only[doM,okb,erb,hA,hT]);rw[hD];exact .inr (js 0 rfl rfl (qZ hp hT) rfl (ae rfl) rfl bz (di (ai _) rfl (ae rfl) (by simp[BL,bxs,aw,stO])))
  |ok _u=>
   left;refine dj 0 rfl (qY hp hT) (λ_=>rfl) (ae rfl) rfl bz (λ_=>rfl) ?_
   try simp only[vq,bV,seval,ah]
   cases hK:fw (dF a) 1 with
   |error e=>have hD:doM p s c 15=.error e:=(by simp only[doM,okb,erb,hA,hT,hK]);rw[hD];exact .inr (vo rfl rfl (uO hK) rfl (di (ai _) rfl (ae rfl) (by simp[BL,bxs,aw,stO])))
   |ok _u=>
    left;refine nQ rfl (uN hK) (λ_=>rfl) (λ_=>rfl) ?_
    try simp only[VA,seval,ao,ah]
    cases hG:gy s (.mk 5 c.t [a]) with
    |error e=>have hD:doM p s c 15=.error e:=(by simp only[doM,okb,hA,hT,hK,hG]);rw[hD];right;refine gx (l:=[_,_,_,_,_,_,_,_,_]) rfl (by kernel_rfl) ?_;simp only[VB,seval];refine ax («as»:=[i64 5,i64 c.t,.c (tsC [a])]) rfl (of_ok 5 c.t [a]) (λh=>(by cases h)) ?_;simp only[pkA];exact gq 0 rfl rfl (pH hS (xu (fy hS hA).2) hG) rfl (ae rfl) rfl bz (di (ai _) rfl (ae rfl) (by simp[BL,bxs,aw,stO]))
    |ok s'=>
     left
     try simp only[VC,seval]
     refine ax («as»:=[i64 5,i64 c.t,.c (tsC [a])]) rfl (of_ok 5 c.t [a]) (λh=>(by cases h)) ?_
     try simp only[pkA,seval]
     refine iE 0 rfl (pG hS (xu (fy hS hA).2) hG) rfl (ae rfl) rfl rfl ?_
     try simp only[pkA]
     have hD:doM p s c 15=.ok s':=(by simp only[doM,okb,hA,hT,hK,hG]);simp only[hD,oQ,oP,stO];exact eO [] rfl rfl (ai _) (ae rfl) trivial ⟨rfl,trivial⟩ dD
