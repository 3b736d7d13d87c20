/- Layer 16: generate, data. -/
import Derived.Test.YtegbpjodbjhjeaaGreatDoorVlMa
import Derived.WalkKit
import Derived.Recover
import Derived.Tactics
set_option maxHeartbeats 4000000
set_option linter.all false
namespace Go.Proofs.YtegbpjodbjhjeaaGreatDoor
open Go Go.Vl
open Kp (Pol Ty Ru Qu poC tyC ruC quC)
variable {G:Gl} {p:Pol} {s:Sy} {c:Cl}
set_option maxRecDepth 10000
theorem oY {P:Program} {st:S} {f:V} {args all cargs:List V} {g:FuncId} {K:S->V->Prop} {r:V} {p p':Pol} {s s':Sy} {c c':Cl} (q:Nat) (hc:eB f args=some (g,all)) (hf:FnB P G g cargs [mB p s c] r [mB p' s' c'])
 (dC:all.map V.fz=cargs.map (V.ren (rho [q] st.nb))) (hq:q<st.nb) (hb:st.bx q=mB p s c) (hr:r.ren (rho [q] st.nb)=r) (hK:K ⟨st.fr,up st.bx q (mB p' s' c'),st.nb⟩ r):vcallB P G st f args K:=iE q hc hf dC hq hb hr hK
theorem Qi {n:Int}:fW (mB p s c) 8 [i64 n]=mB p { s with fresh:=n } c:=rfl
theorem adT:(mB p s c).length=14:=rfl
def xw:=jj @pkX (jj @pkA (jj @ptA @pkM))
def xx:=jj @pkX @pkA
theorem Zy (hp:p.types.length<=8) (hr:p.rules.length<=40) (hS:SyOk s):FnO Tryz.prog G 80 [.bp 0 0] [mB p s c] (oP (doM p s c 12)) (.tup []) [mB p (stO s (doM p s c 12)) c]:=by
 refine jm (rs:=[]) (k:=1) [3000001,2900000,2900001,1000024] mixed Tryz.func80 rfl rfl rfl rfl (by kernel_rfl) (by simp) rfl rfl rfl (fL rfl) (ai _) ?_;simp -implicitDefEqProofs only[xw,bV,seval,ao,ah];have eX:inI c.t 2147483648=false->doM p s c 12=.error 1:=λh=>by simp only[doM,h,fw];rfl
 by_cases h0:0<=c.t
 .by_cases h1:c.t<2147483648
  .have f9:inI c.t 2147483648=true:=by simp[inI,h0,h1]
   simp -implicitDefEqProofs only[xw,bV,seval,ao,ah,h0,h1,ah];left;refine ax rfl (pF 1) (λ_=>rfl) ?_;simp -implicitDefEqProofs only[xw,bV,seval,ao,ah];left;refine ax («as»:=[i64 1,i64 c.t,.c (tsC [])]) rfl (of_ok 1 c.t []) (λh=>(by cases h)) ?_;simp -implicitDefEqProofs only[xx,bV,seval];cases hG:gy s (.mk 1 c.t []) with
   |error e=>have hD:doM p s c 12=.error e:=(by simp only[doM,okb,f9,fw,bY,hG]);rw[hD];exact .inr (js 0 rfl rfl (pH hS Nu hG) rfl (ae rfl) rfl bz (di (ai _) rfl (ae rfl) (by simp[BL,bxs,stO])))
   |ok s'=>
    left;refine iE 0 rfl (pG hS Nu hG) rfl (ae rfl) rfl rfl ?_
    try simp -implicitDefEqProofs only[xx]
    have hD:doM p s c 12=.ok s':=(by simp only[doM,okb,f9,fw,bY,hG]);simp only[hD,oQ,oP,stO];exact eO [] rfl rfl (ai _) (ae rfl) trivial ⟨rfl,trivial⟩ dD
  .rw[eX (by simp[inI,h1])]
   simp -implicitDefEqProofs only[xw,bV,seval,ao,ah,h0,h1,ah,aO];exact .inr (uX rfl rfl (j5 1) rfl (di (ai _) rfl (ae rfl) (by simp[BL,bxs,stO])))
 .rw[eX (by simp[inI,h0])]
  simp -implicitDefEqProofs only[xx,bV,seval,h0,aO];exact .inr (uX rfl rfl (j5 1) rfl (di (ai _) rfl (ae rfl) (by simp[BL,bxs,stO])))
def zx:=jj @pkX (jj @pkA (jj @ptA (jj @pkM @pkT)))
def Eb:=jj @pkA (jj @ptA (jj @pkM @pkT))
def zy:=jj @pkA (jj @ptA (jj @pkM (jj @pkT @pkH)))
theorem Jd (hp:p.types.length<=8) (hr:p.rules.length<=40) (hS:SyOk s):FnO Tryz.prog G 69 [.bp 0 0] [mB p s c] (oP (doM p s c 1)) (.tup []) [mB p (stO s (doM p s c 1)) c]:=by
 refine jm (rs:=[]) (k:=1) [3000001,2900000,2900001,2900003,1900004,1900011,1000025,1000033] mixed Tryz.func69 rfl rfl rfl rfl (by kernel_rfl) (by simp) rfl rfl rfl (fL rfl) (ai _) ?_;simp -implicitDefEqProofs only[xx,bV,seval,ao];cases hT:m5 p c.t with
 |error e=>
  have hD:doM p s c 1=.error e:=by simp only[doM,erb,hT]
  rw[hD];exact .inr (js 0 rfl rfl (qZ hp hT) rfl (ae rfl) rfl bz (di (ai _) rfl (ae rfl) (by simp[BL,bxs,stO])))
 |ok _u=>
 left;refine dj 0 rfl (qY hp hT) (λ_=>rfl) (ae rfl) rfl bz (λ_=>rfl) ?_;simp -implicitDefEqProofs only[xw,bV,seval,ao,ah];cases hF:fw (jO p c.t 1) 10 with
 |error e=>
  have hD:doM p s c 1=.error e:=by simp only[doM,okb,erb,hT,hF]
  rw[hD];exact .inr (js 0 rfl rfl (D8 hp hF) rfl (ae rfl) rfl bz (di (ai _) rfl (ae rfl) (by simp[BL,bxs,stO])))
 |ok _v=>
 left;refine dj 0 rfl (D7 hp hF) (λ_=>rfl) (ae rfl) rfl bz (λ_=>rfl) ?_;simp -implicitDefEqProofs only[xw,seval,ao,ah];refine ax («as»:=[i64 2,i64 s.fresh,.c (tsC [])]) rfl (of_ok 2 s.fresh []) (λh=>(by cases h)) ?_;simp -implicitDefEqProofs only[zx,seval,ao,ah];cases hW:lY s c.t (.mk 2 s.fresh []) with
 |error e=>
  have hD:doM p s c 1=.error e:=by simp only[doM,okb,erb,hT,hF,hW]
  rw[hD];right;refine gx (l:=[_,_,_,_,_,_,_]) rfl (by kernel_rfl) ?_;simp -implicitDefEqProofs only[Eb,seval];exact gq 0 rfl rfl (B2 hS Nu hW) rfl (ae rfl) rfl bz (di (ai _) rfl (ae rfl) (by simp[BL,bxs,aw,stO]))
 |ok s1=>
 left
 try simp -implicitDefEqProofs only[zy,seval]
 refine oY 0 rfl (B1 hS Nu hW) rfl (ae rfl) rfl rfl ?_;obtain⟨ej,WS⟩:=nO hW;have hm:=Ns (G:=G) p s1 c c.t (.mk 2 s.fresh []) (by rw[WS];have:=hS.on;have:=hS.hn;simp[hoS];omega);simp -implicitDefEqProofs only[zx,seval,ao,ah];refine oY 0 rfl hm rfl (ae rfl) rfl rfl ?_;have hf1:(mkM s1 c.t (.mk 2 s.fresh [])).fresh=s.fresh:=by rw[WS];rfl
 have hw:IntKind.i64.wrap ((mkM s1 c.t (.mk 2 s.fresh [])).fresh+1)=s.fresh+1:=by rw[hf1];have:=hS.fr;have:=hS.hn;obtain⟨k,hk⟩:∃ k:Nat,s.fresh=k:=⟨s.fresh.toNat,by omega⟩;rw[hk];exact wrap_i64 (k+1) (by omega)
 have hD:doM p s c 1=.ok { mkM s1 c.t (.mk 2 s.fresh []) with fresh:=s.fresh+1 }:=by simp only[doM,okb,hT,hF,hW]
 simp -implicitDefEqProofs only[xw,seval,ao,ah,hw,Qi,adT];simp only[hD,oQ,oP,stO];exact eO [] rfl rfl (ai _) (ae rfl) trivial ⟨rfl,trivial⟩ dD
theorem agB {nb q:Nat} {K:V->Prop}:ldA nb q (mB p s c) 4 5 K=(q<nb/\K (.agg (syC s))):=by unfold ldA;exact propext ⟨λh=>⟨h.1,h.2.2⟩,λh=>⟨h.1,⟨rfl,rfl⟩,h.2⟩⟩
def rwB (p:Pol) (s:Sy) (c:Cl):List V:=match doM p s c 10 with
 | .error _=>mB p s c
 | .ok s'=>mX p s' c (.c (hsC s'.hs)) (.c (tsC s'.its)) (.c (hsC s'.os)) (if s'.rs.length=s.rs.length then .c (tsC s'.rs) else .ow (some (47,3)) (s'.rs.map tmC))
theorem adU:∀ b∈[rwB p s c],oq (b.map V.fz)=oq b:=λb hb=>by rw[bu] at hb;subst hb;unfold rwB;split<;>rfl
theorem adV {o:Ou} (h:doM p s c 10=o):oP o=none->[rwB p s c].map (·.map V.fz)=[mB p (stO s o) c]:=λho=>by
 unfold rwB;rw[h];cases o with
 |error e=>cases ho
 |ok s'=>simp only[aN,bE,stO];split<;>rfl
theorem agC {s':Sy} (h:doM p s c 10=.ok s') (hl:s'.rs=s.rs):rwB p s c=mB p s' c:=by unfold rwB;rw[h];simp only[hl,bY];rw[<- hl];rfl
theorem agD {s':Sy} (h:doM p s c 10=.ok s') (hl:s'.rs.length≠s.rs.length):rwB p s c=mX p s' c (.c (hsC s'.hs)) (.c (tsC s'.its)) (.c (hsC s'.os)) (.ow (some (47,3)) (s'.rs.map tmC)):=by unfold rwB;rw[h];simp only[hl,cD]
def Ec:=jj @pkA (jj @ptA @pkM)
def Nx:=jj @pkX (jj @pkA (jj @ptA (jj @pkM (jj @pkT @pkH))))
def Vx:=jj @pkX (jj @pkA (jj @ptA (jj @pkM @pkH)))
def aaG:=jj @pkA (jj @ptA (jj @pkM @pkH))
theorem Gv (hp:p.types.length<=8) (hr:p.rules.length<=40) (hS:SyOk s):FnO Tryz.prog glM 78 [.bp 0 0] [mB p s c] (oP (doM p s c 10)) (.tup []) [mB p (stO s (doM p s c 10)) c]:=by
 refine Ao (b2:=[rwB p s c]) (rs:=[]) (k:=1) [3000001,2900000,2900001,2900002,2900003,2900004,2900005,2800000,1900011,1900018,1900020,1900029,1900034,1900036,1000044] mixed Tryz.func78 rfl rfl rfl rfl (by kernel_rfl) (by simp) rfl rfl rfl (fL rfl) (by simp) (by simp) adU (adV rfl) ?_;simp only[xx,seval,ao];have hb:BL 0 [mB p s c] (bxs [mB p s c]):=⟨rfl,trivial⟩;cases hA:ofI s.hs c.a with
 |error e=>
  have hD:doM p s c 10=.error e:=by simp only[doM,erb,hA]
  rw[hD];right;refine iD 1000 6 [0,1,2,3,4,5] [7,8,9,10,11,12,14,15] (lA:=[_,_,_,_,_,_]) (lB:=[_,_,_,_,_,_,_,_]) rfl (by kernel_rfl) rfl rfl rfl ?_;simp only[unA,unO,aN,bE,ck,bR,bS];simp only[Ec,seval];intro fr ji;have h4:=ji 5 (by decide);have h9:=ji 10 (by decide);refine gq 0 rfl (all:=[.bp 0 0,i64 c.a]) (g:=116) (by simp only[ev,aN,bE,h4,h9];rfl) (ln hS hA) (by rfl) (bH 0) rfl bz (di (ai _) rfl (ai _) hb)
 |ok a=>
  cases hX:ofI s.its c.m with
  |error e=>have hD:doM p s c 10=.error e:=(by simp only[doM,okb,erb,hA,hX]);rw[hD];right;refine iD 1000 13 [0,1,2,3,4,5,6,7,8,9,10,11,12] [14,15] (lA:=[_,_,_,_,_,_,_,_,_,_,_,_,_]) (lB:=[_,_]) rfl (by kernel_rfl) rfl rfl rfl ?_;simp only[unA,unO,aN,bE,ck,bR,bS];simp only[Ec,seval];refine dj 0 rfl (gP hS hA) (λ_=>rfl) (ae rfl) rfl bz (λ_=>rfl) ?_;simp only[Ec,seval];intro fr ji;have h4:=ji 12 (by decide);have h9:=ji 17 (by decide);refine gq 0 rfl (all:=[.bp 0 0,i64 c.m]) (g:=114) (by simp only[ev,aN,bE,h4,h9];rfl) (nH hS hX) (by rfl) (bH 0) rfl bz (di (ai _) rfl (ai _) hb)
  |ok x=>
   left;refine nP (n:=14) rfl rfl rfl ?_;simp only[Ec,seval];refine dj 0 rfl (gP hS hA) (λ_=>rfl) (ae rfl) rfl bz (λ_=>rfl) ?_;simp only[Ec,seval];refine dj 0 rfl (lP hS hX) (λ_=>rfl) (ae rfl) rfl bz (λ_=>rfl) ?_;simp only[Nx,bV,seval,ao,ah];refine⟨?_,?_⟩
   all_goals
    try simp only[Nx,bV,seval,ao,ah]
    cases hT:m5 p c.t with
    |error e=>have hD:doM p s c 10=.error e:=(by simp only[doM,okb,erb,hA,hX,hT]);rw[hD];exact .inr (js 0 rfl rfl (qZ hp hT) rfl (ae rfl) rfl bz (di (ai _) rfl (ae rfl) (by simp[BL,bxs,aw,stO])))
    |ok _u=>
     left;refine dj 0 rfl (qY hp hT) (λ_=>rfl) (ae rfl) rfl bz (λ_=>rfl) ?_
     try simp only[Vx,seval,ao,ah]
     cases hY:fw (li p 4 a.ty c.t) 10 with
     |error e=>have hD:doM p s c 10=.error e:=(by simp only[doM,okb,erb,hA,hX,hT,hY]);rw[hD];right;refine gx (l:=[_,_,_,_,_,_,_,_]) rfl (by kernel_rfl) ?_;simp only[aaG,seval];exact gq 0 rfl rfl (Jc hr hY) rfl (ae rfl) rfl bz (di (ai _) rfl (ae rfl) (by simp[BL,bxs,aw,stO]))
     |ok _u=>
      left
      try simp only[zy,seval]
      refine dj 0 rfl (Jb hr hY) (λ_=>rfl) (ae rfl) rfl bz (λ_=>rfl) ?_
      try simp only[pkX,pkA,ptA,pkT,pkH,bV,seval,ao,ah]
      cases hO:iH x a.va [3] with
      |error e=>have hD:doM p s c 10=.error e:=(by simp only[doM,okb,erb,hA,hX,hT,hY,hO]);rw[hD];exact .inr (vo rfl rfl (Gs (fy hS hX) (gW hS hA).2.1 (by decide) (by simp) hO) rfl (di (ai _) rfl (ae rfl) (by simp[BL,bxs,aw,stO])))
      |ok y=>
       left;refine nQ rfl (Gr (fy hS hX) (gW hS hA).2.1 (by decide) (by simp) hO) (λ_=>rfl) (λ_=>rfl) ?_
       try simp only[pkX,pkA,ptA,pkT,bV,seval,ao,ah]
       cases hK:fw (dF y) 1 with
       |error e=>have hD:doM p s c 10=.error e:=(by simp only[doM,okb,erb,hA,hX,hT,hY,hO,hK]);rw[hD];exact .inr (vo rfl rfl (uO hK) rfl (di (ai _) rfl (ae rfl) (by simp[BL,bxs,aw,stO])))
       |ok _u=>
        left;refine nQ rfl (uN hK) (λ_=>rfl) (λ_=>rfl) ?_
        try simp only[zx,seval,ao,ah]
        cases hW:lY s c.t y with
        |error e=>have hD:doM p s c 10=.error e:=(by simp only[doM,okb,erb,hA,hX,hT,hY,hO,hK,hW]);rw[hD];right;refine gx (l:=[_,_,_,_,_,_,_]) rfl (by kernel_rfl) ?_;simp only[Eb,seval];exact gq 0 rfl rfl (B2 hS (ci (oW (fy hS hX) (by simp) hO).2 (by decide)) hW) rfl (ae rfl) rfl bz (di (ai _) rfl (ae rfl) (by simp[BL,bxs,aw,stO]))
        |ok s'=>
         left
         try simp only[zy,seval]
         refine oY 0 rfl (B1 hS (ci (oW (fy hS hX) (by simp) hO).2 (by decide)) hW) rfl (ae rfl) rfl rfl ?_
         try simp only[zx,seval,ao,ah]
         obtain⟨ej,rfl⟩:=nO hW;have hy:=oW (fy hS hX) (by simp) hO;have hD:doM p s c 10=.ok (if knS (hoS s c.t y) y=true then hoS s c.t y else { hoS s c.t y with rs:=(hoS s c.t y).rs++[y] }):=by simp only[doM,okb,hA,hX,hT,hY,hO,hK,hW]
         have WW:knS (hoS s c.t y) y=knS s y:=rfl;rw[WW] at hD;refine ax rfl (Av hS y hy.1 (by omega)) (λ_=>rfl) ?_;simp only[xx,seval];cases hn:knS s y with
         |true=>rw[hn,if_pos rfl] at hD;simp only[xx];simp only[hD,oQ,oP];rw[agC hD rfl];exact eO [] rfl rfl (ai _) (ae rfl) trivial ⟨rfl,trivial⟩ dD
         |false=>rw[hn,if_neg (by decide)] at hD;simp only[xw,seval,ao,ah,tsC,aj];refine Gn dc rfl cV (λx hx=>by obtain⟨y,_,rfl⟩:=ce.1 hx;exact bG y) (aj ..) ?_;simp only[pkA,ptA,pkT,seval,ao,ah];rw[if_neg (by decide)];refine apT (by rw[aj];have:=hS.rn;have:=hS.hn;simp only[hoS];omega) (λx hx=>by obtain⟨y,_,rfl⟩:=ce.1 hx;exact bG y) (bG y) ?_;simp only[Ec,seval,ao,ah];refine⟨ae rfl,?_⟩;simp only[hD,oQ,oP];rw[agD hD (by simp[hoS])];exact eO [] rfl rfl (ai _) (ae rfl) trivial ⟨by simp only[hoS,dl,aN,bE];rfl,trivial⟩ dD
theorem Qj (hp:p.types.length<=8) (hr:p.rules.length<=40) (hS:SyOk s):FnO Tryz.prog glM 79 [.bp 0 0] [mB p s c] (oP (doM p s c 11)) (.tup []) [mB p (stO s (doM p s c 11)) c]:=by
 refine jm (rs:=[]) (k:=1) [3000001,2900000,2900001,2900002,2900005,1900011,1900013,1900022,1000057,1000066] mixed Tryz.func79 rfl rfl rfl rfl (by kernel_rfl) (by simp) rfl rfl rfl (fL rfl) (ai _) ?_;simp only[xw,bV,seval,ao,ah];have hb:BL 0 [mB p s c] (bxs [mB p s c]):=⟨rfl,trivial⟩;cases hA:ofI s.hs c.a with
 |error e=>
  have hD:doM p s c 11=.error e:=by simp only[doM,erb,hA]
  rw[hD];exact .inr (js 0 rfl rfl (ln hS hA) rfl (ae rfl) rfl bz (di (ai _) rfl (ae rfl) (by simp[BL,bxs,stO])))
 |ok a=>
  left;refine dj 0 rfl (gP hS hA) (λ_=>rfl) (ae rfl) rfl bz (λ_=>rfl) ?_
  try simp only[Vx,bV,seval,ao,ah]
  cases hT:m5 p c.t with
  |error e=>have hD:doM p s c 11=.error e:=(by simp only[doM,okb,erb,hA,hT]);rw[hD];exact .inr (js 0 rfl rfl (qZ hp hT) rfl (ae rfl) rfl bz (di (ai _) rfl (ae rfl) (by simp[BL,bxs,aw,stO])))
  |ok _u=>
   left;refine dj 0 rfl (qY hp hT) (λ_=>rfl) (ae rfl) rfl bz (λ_=>rfl) ?_
   try simp only[Vx,seval,ao,ah]
   cases hY:fw (li p 5 a.ty c.t) 10 with
   |error e=>have hD:doM p s c 11=.error e:=(by simp only[doM,okb,erb,hA,hT,hY]);rw[hD];right;refine gx (l:=[_,_,_,_,_,_,_,_]) rfl (by kernel_rfl) ?_;simp only[aaG,seval];exact gq 0 rfl rfl (Jc hr hY) rfl (ae rfl) rfl bz (di (ai _) rfl (ae rfl) (by simp[BL,bxs,aw,stO]))
   |ok _u=>
    left
    try simp only[zy,seval]
    refine dj 0 rfl (Jb hr hY) (λ_=>rfl) (ae rfl) rfl bz (λ_=>rfl) ?_
    try simp only[Nx,seval,ao,ah]
    try simp only[zy,seval]
    refine ax («as»:=[i64 5,i64 c.t,.c (tsC [a.va])]) rfl (of_ok 5 c.t [a.va]) (λh=>(by cases h)) ?_
    try simp only[Nx,seval,ao,ah]
    have hv:=gW hS hA;refine ax rfl (Av hS a.va hv.1 (by omega)) (λ_=>rfl) ?_;cases hn:knS s a.va with
    |true=>
     simp only[zx,seval,ao,ah];cases hW:lY s c.t (.mk 5 c.t [a.va]) with
     |error e=>have hD:doM p s c 11=.error e:=(by simp only[doM,okb,erb,hA,hT,hY,hW]);rw[hD];right;refine gx (l:=[_,_,_,_,_,_,_]) rfl (by kernel_rfl) ?_;simp only[Eb,seval];exact gq 0 rfl rfl (B2 hS (xu (gW hS hA).2.1) hW) rfl (ae rfl) rfl bz (di (ai _) rfl (ae rfl) (by simp[BL,bxs,aw,stO]))
     |ok s1=>
      left
      try simp only[zy,seval]
      refine oY 0 rfl (B1 hS (xu (gW hS hA).2.1) hW) rfl (ae rfl) rfl rfl ?_;obtain⟨ej,rfl⟩:=nO hW
      try simp only[xx,seval]
      have hD:doM p s c 11=.ok (hoS s c.t (.mk 5 c.t [a.va])):=(by simp only[doM,okb,hA,hT,hY,hW];rw[if_neg (λh=>by rw[hn] at h;cases h.1)]);simp only[hD,oQ,oP,stO];exact eO [] rfl rfl (ai _) (ae rfl) trivial ⟨rfl,trivial⟩ dD
    |false=>
     simp only[Eb,seval,ao,ah,agB];refine ax rfl (Ea hS (.mk 5 c.t [a.va]) (xu hv.2.1)) (λ_=>rfl) ?_;by_cases ho:orS s (.mk 5 c.t [a.va])<0
     .simp only[zx,seval,ao,ah,ho,ah]
      cases hW:lY s c.t (.mk 5 c.t [a.va]) with
      |error e=>have hD:doM p s c 11=.error e:=(by simp only[doM,okb,erb,hA,hT,hY,hW]);rw[hD];right;refine gx (l:=[_,_,_,_,_,_,_]) rfl (by kernel_rfl) ?_;simp only[Eb,seval];exact gq 0 rfl rfl (B2 hS (xu (gW hS hA).2.1) hW) rfl (ae rfl) rfl bz (di (ai _) rfl (ae rfl) (by simp[BL,bxs,aw,stO]))
      |ok s1=>
       left
       try simp only[zy,seval]
       refine oY 0 rfl (B1 hS (xu (gW hS hA).2.1) hW) rfl (ae rfl) rfl rfl ?_;obtain⟨ej,rfl⟩:=nO hW
       try simp only[zx,seval,ao,ah]
       have hD:doM p s c 11=.ok (mkM (hoS s c.t (.mk 5 c.t [a.va])) c.t (.mk 5 c.t [a.va])):=(by simp only[doM,okb,hA,hT,hY,hW];rw[if_pos ⟨hn,ho⟩]);have hm:=Ns (G:=glM) p (hoS s c.t (.mk 5 c.t [a.va])) c c.t (.mk 5 c.t [a.va]) (by have:=hS.on;have:=hS.hn;simp only[hoS];omega);refine oY 0 rfl hm rfl (ae rfl) rfl rfl ?_
       try simp only[pkA]
       simp only[hD,oQ,oP,stO];exact eO [] rfl rfl (ai _) (ae rfl) trivial ⟨rfl,trivial⟩ dD
     .simp only[zx,seval,ao,ah,ho,aO]
      cases hW:lY s c.t (.mk 5 c.t [a.va]) with
      |error e=>have hD:doM p s c 11=.error e:=(by simp only[doM,okb,erb,hA,hT,hY,hW]);rw[hD];right;refine gx (l:=[_,_,_,_,_,_,_]) rfl (by kernel_rfl) ?_;simp only[Eb,seval];exact gq 0 rfl rfl (B2 hS (xu (gW hS hA).2.1) hW) rfl (ae rfl) rfl bz (di (ai _) rfl (ae rfl) (by simp[BL,bxs,aw,stO]))
      |ok s1=>
       left
       try simp only[zy,seval]
       refine oY 0 rfl (B1 hS (xu (gW hS hA).2.1) hW) rfl (ae rfl) rfl rfl ?_;obtain⟨ej,rfl⟩:=nO hW
       try simp only[xx,seval]
       have hD:doM p s c 11=.ok (hoS s c.t (.mk 5 c.t [a.va])):=(by simp only[doM,okb,hA,hT,hY,hW];rw[if_neg (λh=>ho h.2)]);simp only[hD,oQ,oP,stO];exact eO [] rfl rfl (ai _) (ae rfl) trivial ⟨rfl,trivial⟩ dD
open Go Go.Vl Go.RowKit
set_option maxRecDepth 100000 in
theorem Vy (p:Value) (w:World):CallsD Tryz.prog 68 #[p] .returning w λe u' w'=>e=.returned (.tuple #[])/\u'=.returning/\w'=w:=by
 refine callsD_of_wpS Tryz.func68 rfl λc₀ cs hu=>?_;apply wpS_seq;apply wpS_region;simp[wpOpsS,go_sem,recoverD,hu,Tryz.ntmps68,Exit.thenS];have amP:∀ w:World,(binOp BinOp.neq 20 .nilIface .nilIface).run Tryz.prog w=.ok (.bool false) w:=λ_=>by kernel_rfl
 have hta:∀ w:World,(Instr.typeAssert .nilIface 20 95 true).run Tryz.prog w=.ok (.tuple #[.int .i64 0,.bool false]) w:=λ_=>by kernel_rfl
 refine wpS_of_wp ?_
 go_wp2
 cases c₀;simp_all[bodyPostS,results,Tryz.results68]
theorem Ny {caps:Array Value} (hc:caps.size=1):∃ p,caps=#[p]:=⟨caps[0],by
 apply j8
 .simpa using hc
 .intro i h1 h2
  have:i<1:=by simpa using h2
  match i with
  |0=>rfl⟩
theorem Nz:S1 Tryz.prog 68 1:=by refine⟨⟨_,Tryz.func68,rfl,_,rfl⟩,λcaps w hc=>?_⟩;obtain⟨p,rfl⟩:=Ny hc;exact(Vy p w).mono (λe u' w' h=>⟨⟨_,h.1⟩,h.2⟩)
set_option maxRecDepth 100000 in
attribute [-go_sem] Instr.storeAt in
theorem adW (e:Int):afG Tryz.prog 68 1 (pnV e) [(0,36,.int .i64 e)]:=by
 intro caps w w' hc hw;obtain⟨p,rfl⟩:=Ny hc;obtain⟨w1,h1,rfl⟩:=hw;have h1:(Instr.storeAt 36 p (.int .i64 e)).run Tryz.prog w=.ok () w':=h1;clear hc;refine callsD_of_wpS Tryz.func68 rfl λc₀ cs hu=>?_;apply wpS_seq;apply wpS_region;simp[wpOpsS,go_sem,recoverD,hu,Tryz.ntmps68,Exit.thenS,pnV];have hta:∀ w:World,(Instr.typeAssert (.iface 95 (.int .i64 e)) 20 95 true).run Tryz.prog w=.ok (.tuple #[.int .i64 e,.bool true]) w:=λ_=>by kernel_rfl
 have e0:(#[p]++((Array.replicate 14 undef).setIfInBounds 3 (Value.iface 95 (Value.int IntKind.i64 e))).setIfInBounds 0 (Value.iface 95 (Value.int IntKind.i64 e)))=#[p,Value.iface 95 (Value.int IntKind.i64 e),undef,undef,Value.iface 95 (Value.int IntKind.i64 e),undef,undef,undef,undef,undef,undef,undef,undef,undef,undef]:=rfl;rw[e0];refine wpS_of_wp ?_;clear e0 hu;generalize hI:Value.iface 95 (Value.int IntKind.i64 e)=I at *
 go_wp2
 simp[bodyPostS,results,Tryz.results68]
