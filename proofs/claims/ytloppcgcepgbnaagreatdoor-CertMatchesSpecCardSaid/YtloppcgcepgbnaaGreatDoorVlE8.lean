/- The engine of layer 17: the closures between, the rules. Printed by gen18.py. -/
import Derived.Test.YtloppcgcepgbnaaGreatDoorVlE7
set_option linter.all false
namespace Go.Proofs.YtloppcgcepgbnaaGreatDoor
open Go Go.Vl
variable {G:Gl}
set_option maxRecDepth 4000
def m3 (p:Pol) (o:Option Fa) (a b:Nat):List In:=cd p.types.length (λs0=>emL o (i3 a b s0)) 1
def lM:=jj @pkA (jj @ptA @pkW)
theorem akl {τ:Type} (Y:Ys τ) (p:Pol) (o:Option Fa) (hp:p.types.length<=9223372036854775806) (a b:Nat) (ha:a<p.types.length) (hb:b<p.types.length) (s:τ) (hF:Fut G Y s (m3 p o a b)) :
 FnR G Y 146 [i64 (a:Int),i64 (b:Int),.bp (kx Y.k 1) 0] s (m3 p o a b) [eng p o,bV Y.k]:=by
 unfold m3 at hF ⊢
 have dU:ltL (kx Y.k 2) [eng p o,bV Y.k]:=aJ (cM Y.pos) (aJ (cD (by decide)) cJ);have o9:ltL (kx Y.k 4) [bV Y.k,bY a,bY b]:=λq hq=>(aJ (cM Y.pos) (aJ (cD (by decide)) (aJ cU (aJ cU cJ))):ltL (kx Y.k 4) [eng p o,bV Y.k,bY a,bY b]) q (aT _ hq);refine dw (m:=2) (rs:=[.tmp 5]) [1500008] mixed Tryz.func146 rfl rfl rfl rfl (by kernel_rfl) (by simp) rfl dU (bu trivial (bu trivial (bu (dZ (by decide)) eD))) ?_;simp only[fh,fX];simp only[lM,seval,pkB Y _,fw,fnv];refine dz (ls:=[eng p o,bV Y.k,bY a,bY b]) rfl (jz Y p hp o 1 (by decide) [bV Y.k,bY a,bY b] o9 _ (λs0=>emL o (i3 a b s0)) ⟨148,[.bp (kx Y.k 1) 0,.bp (kx Y.k 2) 0,.bp (kx Y.k 3) 0],rfl,dA (aL rfl) (dA (aL rfl) (dA (aL rfl) (im))),rfl,λs x hx hF=>ake Y p o a b x (by omega) s hF⟩ s hF) rfl rfl λt' b' hR=>?_;simp only[pkA,seval,pkB Y _];exact fE (rest:=[bY a,bY b]) hR rfl rfl rfl dU (by simp[])
def m5 (p:Pol) (o:Option Fa) (a b:Nat):List In:=cd p.types.length (λs0=>emL o (i5 a b s0)) 1
theorem akm {τ:Type} (Y:Ys τ) (p:Pol) (o:Option Fa) (hp:p.types.length<=9223372036854775806) (a b:Nat) (ha:a<p.types.length) (hb:b<p.types.length) (s:τ) (hF:Fut G Y s (m5 p o a b)) :
 FnR G Y 150 [i64 (a:Int),i64 (b:Int),.bp (kx Y.k 1) 0] s (m5 p o a b) [eng p o,bV Y.k]:=by
 unfold m5 at hF ⊢
 have dU:ltL (kx Y.k 2) [eng p o,bV Y.k]:=aJ (cM Y.pos) (aJ (cD (by decide)) cJ);have o9:ltL (kx Y.k 4) [bV Y.k,bY a,bY b]:=λq hq=>(aJ (cM Y.pos) (aJ (cD (by decide)) (aJ cU (aJ cU cJ))):ltL (kx Y.k 4) [eng p o,bV Y.k,bY a,bY b]) q (aT _ hq);refine dw (m:=2) (rs:=[.tmp 5]) [1500008] mixed Tryz.func150 rfl rfl rfl rfl (by kernel_rfl) (by simp) rfl dU (bu trivial (bu trivial (bu (dZ (by decide)) eD))) ?_;simp only[fh,fX];simp only[lM,seval,pkB Y _,fw,fnv];refine dz (ls:=[eng p o,bV Y.k,bY a,bY b]) rfl (jz Y p hp o 1 (by decide) [bV Y.k,bY a,bY b] o9 _ (λs0=>emL o (i5 a b s0)) ⟨151,[.bp (kx Y.k 1) 0,.bp (kx Y.k 2) 0,.bp (kx Y.k 3) 0],rfl,dA (aL rfl) (dA (aL rfl) (dA (aL rfl) (im))),rfl,λs x hx hF=>akg Y p o a b x (by omega) s hF⟩ s hF) rfl rfl λt' b' hR=>?_;simp only[pkA,seval,pkB Y _];exact fE (rest:=[bY a,bY b]) hR rfl rfl rfl dU (by simp[])
def m6 (p:Pol) (o:Option Fa) (t:Nat):List In:=cd p.types.length (λs0=>emL o (i6 t s0)) 1
theorem akn {τ:Type} (Y:Ys τ) (p:Pol) (o:Option Fa) (hp:p.types.length<=9223372036854775806) (t:Nat) (ht:t<p.types.length) (s:τ) (hF:Fut G Y s (m6 p o t)) :
 FnR G Y 152 [i64 (t:Int),.bp (kx Y.k 1) 0] s (m6 p o t) [eng p o,bV Y.k]:=by
 unfold m6 at hF ⊢
 have dU:ltL (kx Y.k 2) [eng p o,bV Y.k]:=aJ (cM Y.pos) (aJ (cD (by decide)) cJ);have o9:ltL (kx Y.k 3) [bV Y.k,bY t]:=λq hq=>(aJ (cM Y.pos) (aJ (cD (by decide)) (aJ cU cJ)):ltL (kx Y.k 3) [eng p o,bV Y.k,bY t]) q (aT _ hq);refine dw (m:=2) (rs:=[.tmp 3]) [1500006] mixed Tryz.func152 rfl rfl rfl rfl (by kernel_rfl) (by simp) rfl dU (bu trivial (bu (dZ (by decide)) eD)) ?_;simp only[fh,fX];simp only[lM,seval,pkB Y _,fw,fnv];refine dz (ls:=[eng p o,bV Y.k,bY t]) rfl (jz Y p hp o 1 (by decide) [bV Y.k,bY t] o9 _ (λs0=>emL o (i6 t s0)) ⟨153,[.bp (kx Y.k 1) 0,.bp (kx Y.k 2) 0],rfl,dA (aL rfl) (dA (aL rfl) (im)),rfl,λs x hx hF=>akh Y p o t x  s hF⟩ s hF) rfl rfl λt' b' hR=>?_;simp only[pkA,seval,pkB Y _];exact fE (rest:=[bY t]) hR rfl rfl rfl dU (by simp[])
def m7 (p:Pol) (o:Option Fa) (t:Nat):List In:=cd p.types.length (λs0=>emL o (i7 t s0)) 0
theorem ako {τ:Type} (Y:Ys τ) (p:Pol) (o:Option Fa) (hp:p.types.length<=9223372036854775806) (t:Nat) (ht:t<p.types.length) (s:τ) (hF:Fut G Y s (m7 p o t)) :
 FnR G Y 154 [i64 (t:Int),.bp (kx Y.k 1) 0] s (m7 p o t) [eng p o,bV Y.k]:=by
 unfold m7 at hF ⊢
 have dU:ltL (kx Y.k 2) [eng p o,bV Y.k]:=aJ (cM Y.pos) (aJ (cD (by decide)) cJ);have o9:ltL (kx Y.k 3) [bV Y.k,bY t]:=λq hq=>(aJ (cM Y.pos) (aJ (cD (by decide)) (aJ cU cJ)):ltL (kx Y.k 3) [eng p o,bV Y.k,bY t]) q (aT _ hq);refine dw (m:=2) (rs:=[.tmp 3]) [1500006] mixed Tryz.func154 rfl rfl rfl rfl (by kernel_rfl) (by simp) rfl dU (bu trivial (bu (dZ (by decide)) eD)) ?_;simp only[fh,fX];simp only[lM,seval,pkB Y _,fw,fnv];refine dz (ls:=[eng p o,bV Y.k,bY t]) rfl (jz Y p hp o 0 (by decide) [bV Y.k,bY t] o9 _ (λs0=>emL o (i7 t s0)) ⟨155,[.bp (kx Y.k 1) 0,.bp (kx Y.k 2) 0],rfl,dA (aL rfl) (dA (aL rfl) (im)),rfl,λs x hx hF=>aki Y p o t x  s hF⟩ s hF) rfl rfl λt' b' hR=>?_;simp only[pkA,seval,pkB Y _];exact fE (rest:=[bY t]) hR rfl rfl rfl dU (by simp[])
def m8 (p:Pol) (o:Option Fa) (a b:Nat):List In:=um p.types.length 0 (λv w=>emL o (i8 a b v w))
theorem akp {τ:Type} (Y:Ys τ) (p:Pol) (o:Option Fa) (hp:p.types.length<=9223372036854775806) (a b:Nat) (ha:a<p.types.length) (hb:b<p.types.length) (s:τ) (hF:Fut G Y s (m8 p o a b)) :
 FnR G Y 157 [i64 (a:Int),i64 (b:Int),.bp (kx Y.k 1) 0] s (m8 p o a b) [eng p o,bV Y.k]:=by
 unfold m8 at hF ⊢
 have dU:ltL (kx Y.k 2) [eng p o,bV Y.k]:=aJ (cM Y.pos) (aJ (cD (by decide)) cJ);have o9:ltL (kx Y.k 4) [bV Y.k,bY a,bY b]:=λq hq=>(aJ (cM Y.pos) (aJ (cD (by decide)) (aJ cU (aJ cU cJ))):ltL (kx Y.k 4) [eng p o,bV Y.k,bY a,bY b]) q (aT _ hq);refine dw (m:=2) (rs:=[.tmp 5]) [1500008] mixed Tryz.func157 rfl rfl rfl rfl (by kernel_rfl) (by simp) rfl dU (bu trivial (bu trivial (bu (dZ (by decide)) eD))) ?_;simp only[fh,fX];simp only[lM,seval,pkB Y _,fw,fnv];refine dz (ls:=[eng p o,bV Y.k,bY a,bY b]) rfl (C2 Y p o a b 0 159 [.bp (kx Y.k 1) 0,.bp (kx Y.k 2) 0,.bp (kx Y.k 3) 0] (dA (aL rfl) (dA (aL rfl) (dA (aL rfl) (im)))) rfl (λv w=>emL o (i8 a b v w)) (λs v w _ hF=>akj Y p o a b v w s hF) hp (by decide) s hF) rfl rfl λt' b' hR=>?_;simp only[pkA,seval,pkB Y _];exact fE (rest:=[bY a,bY b]) hR rfl rfl rfl dU (by simp[])
def m9 (p:Pol) (o:Option Fa) (t:Nat):List In:=um p.types.length 1 (λv w=>emL o (i9 t v w))
theorem akq {τ:Type} (Y:Ys τ) (p:Pol) (o:Option Fa) (hp:p.types.length<=9223372036854775806) (t:Nat) (ht:t<p.types.length) (s:τ) (hF:Fut G Y s (m9 p o t)) :
 FnR G Y 160 [i64 (t:Int),.bp (kx Y.k 1) 0] s (m9 p o t) [eng p o,bV Y.k]:=by
 unfold m9 at hF ⊢
 have dU:ltL (kx Y.k 2) [eng p o,bV Y.k]:=aJ (cM Y.pos) (aJ (cD (by decide)) cJ);have o9:ltL (kx Y.k 3) [bV Y.k,bY t]:=λq hq=>(aJ (cM Y.pos) (aJ (cD (by decide)) (aJ cU cJ)):ltL (kx Y.k 3) [eng p o,bV Y.k,bY t]) q (aT _ hq);refine dw (m:=2) (rs:=[.tmp 3]) [1500006] mixed Tryz.func160 rfl rfl rfl rfl (by kernel_rfl) (by simp) rfl dU (bu trivial (bu (dZ (by decide)) eD)) ?_;simp only[fh,fX];simp only[lM,seval,pkB Y _,fw,fnv];refine dz (ls:=[eng p o,bV Y.k,bY t]) rfl (NZ Y p o t 1 161 [.bp (kx Y.k 1) 0,.bp (kx Y.k 2) 0] (dA (aL rfl) (dA (aL rfl) (im))) rfl (λv w=>emL o (i9 t v w)) (λs v w _ hF=>akk Y p o t v w s hF) hp (by decide) s hF) rfl rfl λt' b' hR=>?_;simp only[pkA,seval,pkB Y _];exact fE (rest:=[bY t]) hR rfl rfl rfl dU (by simp[])
def m10 (p:Pol) (o:Option Fa) (a b:Nat):List In:=um p.types.length 0 (λv w=>r10 o a b v w)
theorem ahi {τ:Type} (Y:Ys τ) (p:Pol) (o:Option Fa) (hp:p.types.length<=9223372036854775806) (a b:Nat) (ha:a<p.types.length) (hb:b<p.types.length) (s:τ) (hF:Fut G Y s (m10 p o a b)) :
 FnR G Y 162 [i64 (a:Int),i64 (b:Int),.bp (kx Y.k 1) 0] s (m10 p o a b) [eng p o,bV Y.k]:=by
 unfold m10 at hF ⊢
 have dU:ltL (kx Y.k 2) [eng p o,bV Y.k]:=aJ (cM Y.pos) (aJ (cD (by decide)) cJ);have o9:ltL (kx Y.k 4) [bV Y.k,bY a,bY b]:=λq hq=>(aJ (cM Y.pos) (aJ (cD (by decide)) (aJ cU (aJ cU cJ))):ltL (kx Y.k 4) [eng p o,bV Y.k,bY a,bY b]) q (aT _ hq);refine dw (m:=2) (rs:=[.tmp 5]) [1500008] mixed Tryz.func162 rfl rfl rfl rfl (by kernel_rfl) (by simp) rfl dU (bu trivial (bu trivial (bu (dZ (by decide)) eD))) ?_;simp only[fh,fX];simp only[lM,seval,pkB Y _,fw,fnv];refine dz (ls:=[eng p o,bV Y.k,bY a,bY b]) rfl (C2 Y p o a b 0 163 [.bp (kx Y.k 3) 0,.bp (kx Y.k 1) 0,.bp (kx Y.k 2) 0] (dA (aL rfl) (dA (aL rfl) (dA (aL rfl) (im)))) rfl (λv w=>r10 o a b v w) (λs v w _ hF=>acu Y p o a b v w s hF) hp (by decide) s hF) rfl rfl λt' b' hR=>?_;simp only[pkA,seval,pkB Y _];exact fE (rest:=[bY a,bY b]) hR rfl rfl rfl dU (by simp[])
def m12 (p:Pol) (o:Option Fa) (a b:Nat):List In:=cd p.types.length (λs0=>emL o (i12 a b s0)) 1
theorem ahj {τ:Type} (Y:Ys τ) (p:Pol) (o:Option Fa) (hp:p.types.length<=9223372036854775806) (a b:Nat) (ha:a<p.types.length) (hb:b<p.types.length) (s:τ) (hF:Fut G Y s (m12 p o a b)) :
 FnR G Y 165 [i64 (a:Int),i64 (b:Int),.bp (kx Y.k 1) 0] s (m12 p o a b) [eng p o,bV Y.k]:=by
 unfold m12 at hF ⊢
 have dU:ltL (kx Y.k 2) [eng p o,bV Y.k]:=aJ (cM Y.pos) (aJ (cD (by decide)) cJ);have o9:ltL (kx Y.k 4) [bV Y.k,bY a,bY b]:=λq hq=>(aJ (cM Y.pos) (aJ (cD (by decide)) (aJ cU (aJ cU cJ))):ltL (kx Y.k 4) [eng p o,bV Y.k,bY a,bY b]) q (aT _ hq);refine dw (m:=2) (rs:=[.tmp 5]) [1500008] mixed Tryz.func165 rfl rfl rfl rfl (by kernel_rfl) (by simp) rfl dU (bu trivial (bu trivial (bu (dZ (by decide)) eD))) ?_;simp only[fh,fX];simp only[lM,seval,pkB Y _,fw,fnv];refine dz (ls:=[eng p o,bV Y.k,bY a,bY b]) rfl (jz Y p hp o 1 (by decide) [bV Y.k,bY a,bY b] o9 _ (λs0=>emL o (i12 a b s0)) ⟨166,[.bp (kx Y.k 1) 0,.bp (kx Y.k 2) 0,.bp (kx Y.k 3) 0],rfl,dA (aL rfl) (dA (aL rfl) (dA (aL rfl) (im))),rfl,λs x hx hF=>ahf Y p o a b x  s hF⟩ s hF) rfl rfl λt' b' hR=>?_;simp only[pkA,seval,pkB Y _];exact fE (rest:=[bY a,bY b]) hR rfl rfl rfl dU (by simp[])
def m13 (p:Pol) (o:Option Fa) (t:Nat):List In:=cd p.types.length (λs0=>emL o (i13 t s0)) 1
theorem ahk {τ:Type} (Y:Ys τ) (p:Pol) (o:Option Fa) (hp:p.types.length<=9223372036854775806) (t:Nat) (ht:t<p.types.length) (s:τ) (hF:Fut G Y s (m13 p o t)) :
 FnR G Y 167 [i64 (t:Int),.bp (kx Y.k 1) 0] s (m13 p o t) [eng p o,bV Y.k]:=by
 unfold m13 at hF ⊢
 have dU:ltL (kx Y.k 2) [eng p o,bV Y.k]:=aJ (cM Y.pos) (aJ (cD (by decide)) cJ);have o9:ltL (kx Y.k 3) [bV Y.k,bY t]:=λq hq=>(aJ (cM Y.pos) (aJ (cD (by decide)) (aJ cU cJ)):ltL (kx Y.k 3) [eng p o,bV Y.k,bY t]) q (aT _ hq);refine dw (m:=2) (rs:=[.tmp 3]) [1500006] mixed Tryz.func167 rfl rfl rfl rfl (by kernel_rfl) (by simp) rfl dU (bu trivial (bu (dZ (by decide)) eD)) ?_;simp only[fh,fX];simp only[lM,seval,pkB Y _,fw,fnv];refine dz (ls:=[eng p o,bV Y.k,bY t]) rfl (jz Y p hp o 1 (by decide) [bV Y.k,bY t] o9 _ (λs0=>emL o (i13 t s0)) ⟨168,[.bp (kx Y.k 1) 0,.bp (kx Y.k 2) 0],rfl,dA (aL rfl) (dA (aL rfl) (im)),rfl,λs x hx hF=>ahg Y p o t x  s hF⟩ s hF) rfl rfl λt' b' hR=>?_;simp only[pkA,seval,pkB Y _];exact fE (rest:=[bY t]) hR rfl rfl rfl dU (by simp[])
def t1 (p:Pol) (o:Option Fa):List In:=jo p o 2 (λt=>emL o (i1 t)) 0
theorem acv {τ:Type} (Y:Ys τ) (p:Pol) (o:Option Fa) (hp:p.types.length<=9223372036854775806) (hr:p.rules.length<=9223372036854775806) (s:τ) (hF:Fut G Y s (t1 p o)) :
 FnR G Y 93 [.bp (kx Y.k 0) 0] s (t1 p o) [eng p o]:=by
 unfold t1 at hF ⊢
 have dU:ltL (kx Y.k 1) [eng p o]:=aJ (cM Y.pos) cJ;have o9:ltL (kx Y.k 2) [bV Y.k]:=aJ (cD (by decide)) cJ;refine dw (m:=1) (rs:=[.tmp 2]) [1500005] mixed Tryz.func93 rfl rfl rfl rfl (by kernel_rfl) (by simp) rfl dU (bu (dZ (by decide)) eD) ?_;simp only[fh,fX];simp only[lM,seval,pkB Y _,fw,fev];refine dz (ls:=[eng p o,bV Y.k]) rfl (nX Y p hp o 2 [bV Y.k] o9 _ (λt=>emL o (i1 t)) ⟨141,[.bp (kx Y.k 1) 0],rfl,dA (aL rfl) im,rfl,λs t ht hF=>akc Y p o t  s hF⟩ s hF) rfl rfl λt' b' hR=>?_;simp only[pkA,seval,pkB Y _];exact fE (rest:=[bV Y.k]) hR rfl rfl rfl dU (by simp[])
def t2 (p:Pol) (o:Option Fa):List In:=jo p o 1 (λt=>emL o (i2 t)) 0
theorem acw {τ:Type} (Y:Ys τ) (p:Pol) (o:Option Fa) (hp:p.types.length<=9223372036854775806) (hr:p.rules.length<=9223372036854775806) (s:τ) (hF:Fut G Y s (t2 p o)) :
 FnR G Y 94 [.bp (kx Y.k 0) 0] s (t2 p o) [eng p o]:=by
 unfold t2 at hF ⊢
 have dU:ltL (kx Y.k 1) [eng p o]:=aJ (cM Y.pos) cJ;have o9:ltL (kx Y.k 2) [bV Y.k]:=aJ (cD (by decide)) cJ;refine dw (m:=1) (rs:=[.tmp 2]) [1500005] mixed Tryz.func94 rfl rfl rfl rfl (by kernel_rfl) (by simp) rfl dU (bu (dZ (by decide)) eD) ?_;simp only[fh,fX];simp only[lM,seval,pkB Y _,fw,fev];refine dz (ls:=[eng p o,bV Y.k]) rfl (nX Y p hp o 1 [bV Y.k] o9 _ (λt=>emL o (i2 t)) ⟨144,[.bp (kx Y.k 1) 0],rfl,dA (aL rfl) im,rfl,λs t ht hF=>akd Y p o t (by omega) s hF⟩ s hF) rfl rfl λt' b' hR=>?_;simp only[pkA,seval,pkB Y _];exact fE (rest:=[bV Y.k]) hR rfl rfl rfl dU (by simp[])
def t3 (p:Pol) (o:Option Fa):List In:=jH p o 5 (λa b=>m3 p o a b) 0
theorem acx {τ:Type} (Y:Ys τ) (p:Pol) (o:Option Fa) (hp:p.types.length<=9223372036854775806) (hr:p.rules.length<=9223372036854775806) (s:τ) (hF:Fut G Y s (t3 p o)) :
 FnR G Y 95 [.bp (kx Y.k 0) 0] s (t3 p o) [eng p o]:=by
 unfold t3 at hF ⊢
 have dU:ltL (kx Y.k 1) [eng p o]:=aJ (cM Y.pos) cJ;have o9:ltL (kx Y.k 2) [bV Y.k]:=aJ (cD (by decide)) cJ;refine dw (m:=1) (rs:=[.tmp 2]) [1500005] mixed Tryz.func95 rfl rfl rfl rfl (by kernel_rfl) (by simp) rfl dU (bu (dZ (by decide)) eD) ?_;simp only[fh,fX];simp only[lM,seval,pkB Y _,fw,fev];refine dz (ls:=[eng p o,bV Y.k]) rfl (pZ Y p hp hr o 5 [bV Y.k] o9 _ (λa b=>m3 p o a b) ⟨146,[.bp (kx Y.k 1) 0],rfl,dA (aL rfl) im,rfl,λs a b Bo hF=>akl Y p o hp a b Bo.1 Bo.2 s hF⟩ s hF) rfl rfl λt' b' hR=>?_;simp only[pkA,seval,pkB Y _];exact fE (rest:=[bV Y.k]) hR rfl rfl rfl dU (by simp[])
def t4 (p:Pol) (o:Option Fa):List In:=jH p o 5 (λa b=>emL o (i4 a b)) 0
theorem acy {τ:Type} (Y:Ys τ) (p:Pol) (o:Option Fa) (hp:p.types.length<=9223372036854775806) (hr:p.rules.length<=9223372036854775806) (s:τ) (hF:Fut G Y s (t4 p o)) :
 FnR G Y 96 [.bp (kx Y.k 0) 0] s (t4 p o) [eng p o]:=by
 unfold t4 at hF ⊢
 have dU:ltL (kx Y.k 1) [eng p o]:=aJ (cM Y.pos) cJ;have o9:ltL (kx Y.k 2) [bV Y.k]:=aJ (cD (by decide)) cJ;refine dw (m:=1) (rs:=[.tmp 2]) [1500005] mixed Tryz.func96 rfl rfl rfl rfl (by kernel_rfl) (by simp) rfl dU (bu (dZ (by decide)) eD) ?_;simp only[fh,fX];simp only[lM,seval,pkB Y _,fw,fev];refine dz (ls:=[eng p o,bV Y.k]) rfl (pZ Y p hp hr o 5 [bV Y.k] o9 _ (λa b=>emL o (i4 a b)) ⟨149,[.bp (kx Y.k 1) 0],rfl,dA (aL rfl) im,rfl,λs a b Bo hF=>akf Y p o a b  s hF⟩ s hF) rfl rfl λt' b' hR=>?_;simp only[pkA,seval,pkB Y _];exact fE (rest:=[bV Y.k]) hR rfl rfl rfl dU (by simp[])
def t5 (p:Pol) (o:Option Fa):List In:=jH p o 5 (λa b=>m5 p o a b) 0
theorem acz {τ:Type} (Y:Ys τ) (p:Pol) (o:Option Fa) (hp:p.types.length<=9223372036854775806) (hr:p.rules.length<=9223372036854775806) (s:τ) (hF:Fut G Y s (t5 p o)) :
 FnR G Y 97 [.bp (kx Y.k 0) 0] s (t5 p o) [eng p o]:=by
 unfold t5 at hF ⊢
 have dU:ltL (kx Y.k 1) [eng p o]:=aJ (cM Y.pos) cJ;have o9:ltL (kx Y.k 2) [bV Y.k]:=aJ (cD (by decide)) cJ;refine dw (m:=1) (rs:=[.tmp 2]) [1500005] mixed Tryz.func97 rfl rfl rfl rfl (by kernel_rfl) (by simp) rfl dU (bu (dZ (by decide)) eD) ?_;simp only[fh,fX];simp only[lM,seval,pkB Y _,fw,fev];refine dz (ls:=[eng p o,bV Y.k]) rfl (pZ Y p hp hr o 5 [bV Y.k] o9 _ (λa b=>m5 p o a b) ⟨150,[.bp (kx Y.k 1) 0],rfl,dA (aL rfl) im,rfl,λs a b Bo hF=>akm Y p o hp a b Bo.1 Bo.2 s hF⟩ s hF) rfl rfl λt' b' hR=>?_;simp only[pkA,seval,pkB Y _];exact fE (rest:=[bV Y.k]) hR rfl rfl rfl dU (by simp[])
def t6 (p:Pol) (o:Option Fa):List In:=jo p o 4 (λt=>m6 p o t) 0
theorem acA {τ:Type} (Y:Ys τ) (p:Pol) (o:Option Fa) (hp:p.types.length<=9223372036854775806) (hr:p.rules.length<=9223372036854775806) (s:τ) (hF:Fut G Y s (t6 p o)) :
 FnR G Y 98 [.bp (kx Y.k 0) 0] s (t6 p o) [eng p o]:=by
 unfold t6 at hF ⊢
 have dU:ltL (kx Y.k 1) [eng p o]:=aJ (cM Y.pos) cJ;have o9:ltL (kx Y.k 2) [bV Y.k]:=aJ (cD (by decide)) cJ;refine dw (m:=1) (rs:=[.tmp 2]) [1500005] mixed Tryz.func98 rfl rfl rfl rfl (by kernel_rfl) (by simp) rfl dU (bu (dZ (by decide)) eD) ?_;simp only[fh,fX];simp only[lM,seval,pkB Y _,fw,fev];refine dz (ls:=[eng p o,bV Y.k]) rfl (nX Y p hp o 4 [bV Y.k] o9 _ (λt=>m6 p o t) ⟨152,[.bp (kx Y.k 1) 0],rfl,dA (aL rfl) im,rfl,λs t ht hF=>akn Y p o hp t ht s hF⟩ s hF) rfl rfl λt' b' hR=>?_;simp only[pkA,seval,pkB Y _];exact fE (rest:=[bV Y.k]) hR rfl rfl rfl dU (by simp[])
def t7 (p:Pol) (o:Option Fa):List In:=jo p o 8 (λt=>m7 p o t) 0
theorem acB {τ:Type} (Y:Ys τ) (p:Pol) (o:Option Fa) (hp:p.types.length<=9223372036854775806) (hr:p.rules.length<=9223372036854775806) (s:τ) (hF:Fut G Y s (t7 p o)) :
 FnR G Y 99 [.bp (kx Y.k 0) 0] s (t7 p o) [eng p o]:=by
 unfold t7 at hF ⊢
 have dU:ltL (kx Y.k 1) [eng p o]:=aJ (cM Y.pos) cJ;have o9:ltL (kx Y.k 2) [bV Y.k]:=aJ (cD (by decide)) cJ;refine dw (m:=1) (rs:=[.tmp 2]) [1500005] mixed Tryz.func99 rfl rfl rfl rfl (by kernel_rfl) (by simp) rfl dU (bu (dZ (by decide)) eD) ?_;simp only[fh,fX];simp only[lM,seval,pkB Y _,fw,fev];refine dz (ls:=[eng p o,bV Y.k]) rfl (nX Y p hp o 8 [bV Y.k] o9 _ (λt=>m7 p o t) ⟨154,[.bp (kx Y.k 1) 0],rfl,dA (aL rfl) im,rfl,λs t ht hF=>ako Y p o hp t ht s hF⟩ s hF) rfl rfl λt' b' hR=>?_;simp only[pkA,seval,pkB Y _];exact fE (rest:=[bV Y.k]) hR rfl rfl rfl dU (by simp[])
def t8 (p:Pol) (o:Option Fa):List In:=jH p o 3 (λa b=>m8 p o a b) 0
theorem acC {τ:Type} (Y:Ys τ) (p:Pol) (o:Option Fa) (hp:p.types.length<=9223372036854775806) (hr:p.rules.length<=9223372036854775806) (s:τ) (hF:Fut G Y s (t8 p o)) :
 FnR G Y 100 [.bp (kx Y.k 0) 0] s (t8 p o) [eng p o]:=by
 unfold t8 at hF ⊢
 have dU:ltL (kx Y.k 1) [eng p o]:=aJ (cM Y.pos) cJ;have o9:ltL (kx Y.k 2) [bV Y.k]:=aJ (cD (by decide)) cJ;refine dw (m:=1) (rs:=[.tmp 2]) [1500005] mixed Tryz.func100 rfl rfl rfl rfl (by kernel_rfl) (by simp) rfl dU (bu (dZ (by decide)) eD) ?_;simp only[fh,fX];simp only[lM,seval,pkB Y _,fw,fev];refine dz (ls:=[eng p o,bV Y.k]) rfl (pZ Y p hp hr o 3 [bV Y.k] o9 _ (λa b=>m8 p o a b) ⟨157,[.bp (kx Y.k 1) 0],rfl,dA (aL rfl) im,rfl,λs a b Bo hF=>akp Y p o hp a b Bo.1 Bo.2 s hF⟩ s hF) rfl rfl λt' b' hR=>?_;simp only[pkA,seval,pkB Y _];exact fE (rest:=[bV Y.k]) hR rfl rfl rfl dU (by simp[])
def t9 (p:Pol) (o:Option Fa):List In:=jo p o 16 (λt=>m9 p o t) 0
theorem acD {τ:Type} (Y:Ys τ) (p:Pol) (o:Option Fa) (hp:p.types.length<=9223372036854775806) (hr:p.rules.length<=9223372036854775806) (s:τ) (hF:Fut G Y s (t9 p o)) :
 FnR G Y 101 [.bp (kx Y.k 0) 0] s (t9 p o) [eng p o]:=by
 unfold t9 at hF ⊢
 have dU:ltL (kx Y.k 1) [eng p o]:=aJ (cM Y.pos) cJ;have o9:ltL (kx Y.k 2) [bV Y.k]:=aJ (cD (by decide)) cJ;refine dw (m:=1) (rs:=[.tmp 2]) [1500005] mixed Tryz.func101 rfl rfl rfl rfl (by kernel_rfl) (by simp) rfl dU (bu (dZ (by decide)) eD) ?_;simp only[fh,fX];simp only[lM,seval,pkB Y _,fw,fev];refine dz (ls:=[eng p o,bV Y.k]) rfl (nX Y p hp o 16 [bV Y.k] o9 _ (λt=>m9 p o t) ⟨160,[.bp (kx Y.k 1) 0],rfl,dA (aL rfl) im,rfl,λs t ht hF=>akq Y p o hp t ht s hF⟩ s hF) rfl rfl λt' b' hR=>?_;simp only[pkA,seval,pkB Y _];exact fE (rest:=[bV Y.k]) hR rfl rfl rfl dU (by simp[])
def t10 (p:Pol) (o:Option Fa):List In:=jH p o 4 (λa b=>m10 p o a b) 0
theorem XY {τ:Type} (Y:Ys τ) (p:Pol) (o:Option Fa) (hp:p.types.length<=9223372036854775806) (hr:p.rules.length<=9223372036854775806) (s:τ) (hF:Fut G Y s (t10 p o)) :
 FnR G Y 102 [.bp (kx Y.k 0) 0] s (t10 p o) [eng p o]:=by
 unfold t10 at hF ⊢
 have dU:ltL (kx Y.k 1) [eng p o]:=aJ (cM Y.pos) cJ;have o9:ltL (kx Y.k 2) [bV Y.k]:=aJ (cD (by decide)) cJ;refine dw (m:=1) (rs:=[.tmp 2]) [1500005] mixed Tryz.func102 rfl rfl rfl rfl (by kernel_rfl) (by simp) rfl dU (bu (dZ (by decide)) eD) ?_;simp only[fh,fX];simp only[lM,seval,pkB Y _,fw,fev];refine dz (ls:=[eng p o,bV Y.k]) rfl (pZ Y p hp hr o 4 [bV Y.k] o9 _ (λa b=>m10 p o a b) ⟨162,[.bp (kx Y.k 1) 0],rfl,dA (aL rfl) im,rfl,λs a b Bo hF=>ahi Y p o hp a b Bo.1 Bo.2 s hF⟩ s hF) rfl rfl λt' b' hR=>?_;simp only[pkA,seval,pkB Y _];exact fE (rest:=[bV Y.k]) hR rfl rfl rfl dU (by simp[])
def t11 (p:Pol) (o:Option Fa):List In:=jH p o 2 (λa b=>emL o (i11 a b)) 0
theorem XZ {τ:Type} (Y:Ys τ) (p:Pol) (o:Option Fa) (hp:p.types.length<=9223372036854775806) (hr:p.rules.length<=9223372036854775806) (s:τ) (hF:Fut G Y s (t11 p o)) :
 FnR G Y 103 [.bp (kx Y.k 0) 0] s (t11 p o) [eng p o]:=by
 unfold t11 at hF ⊢
 have dU:ltL (kx Y.k 1) [eng p o]:=aJ (cM Y.pos) cJ;have o9:ltL (kx Y.k 2) [bV Y.k]:=aJ (cD (by decide)) cJ;refine dw (m:=1) (rs:=[.tmp 2]) [1500005] mixed Tryz.func103 rfl rfl rfl rfl (by kernel_rfl) (by simp) rfl dU (bu (dZ (by decide)) eD) ?_;simp only[fh,fX];simp only[lM,seval,pkB Y _,fw,fev];refine dz (ls:=[eng p o,bV Y.k]) rfl (pZ Y p hp hr o 2 [bV Y.k] o9 _ (λa b=>emL o (i11 a b)) ⟨164,[.bp (kx Y.k 1) 0],rfl,dA (aL rfl) im,rfl,λs a b Bo hF=>ahe Y p o a b  s hF⟩ s hF) rfl rfl λt' b' hR=>?_;simp only[pkA,seval,pkB Y _];exact fE (rest:=[bV Y.k]) hR rfl rfl rfl dU (by simp[])
def t12 (p:Pol) (o:Option Fa):List In:=jH p o 1 (λa b=>m12 p o a b) 0
theorem X0 {τ:Type} (Y:Ys τ) (p:Pol) (o:Option Fa) (hp:p.types.length<=9223372036854775806) (hr:p.rules.length<=9223372036854775806) (s:τ) (hF:Fut G Y s (t12 p o)) :
 FnR G Y 104 [.bp (kx Y.k 0) 0] s (t12 p o) [eng p o]:=by
 unfold t12 at hF ⊢
 have dU:ltL (kx Y.k 1) [eng p o]:=aJ (cM Y.pos) cJ;have o9:ltL (kx Y.k 2) [bV Y.k]:=aJ (cD (by decide)) cJ;refine dw (m:=1) (rs:=[.tmp 2]) [1500005] mixed Tryz.func104 rfl rfl rfl rfl (by kernel_rfl) (by simp) rfl dU (bu (dZ (by decide)) eD) ?_;simp only[fh,fX];simp only[lM,seval,pkB Y _,fw,fev];refine dz (ls:=[eng p o,bV Y.k]) rfl (pZ Y p hp hr o 1 [bV Y.k] o9 _ (λa b=>m12 p o a b) ⟨165,[.bp (kx Y.k 1) 0],rfl,dA (aL rfl) im,rfl,λs a b Bo hF=>ahj Y p o hp a b Bo.1 Bo.2 s hF⟩ s hF) rfl rfl λt' b' hR=>?_;simp only[pkA,seval,pkB Y _];exact fE (rest:=[bV Y.k]) hR rfl rfl rfl dU (by simp[])
def t13 (p:Pol) (o:Option Fa):List In:=jo p o 0 (λt=>m13 p o t) 0
theorem X1 {τ:Type} (Y:Ys τ) (p:Pol) (o:Option Fa) (hp:p.types.length<=9223372036854775806) (hr:p.rules.length<=9223372036854775806) (s:τ) (hF:Fut G Y s (t13 p o)) :
 FnR G Y 105 [.bp (kx Y.k 0) 0] s (t13 p o) [eng p o]:=by
 unfold t13 at hF ⊢
 have dU:ltL (kx Y.k 1) [eng p o]:=aJ (cM Y.pos) cJ;have o9:ltL (kx Y.k 2) [bV Y.k]:=aJ (cD (by decide)) cJ;refine dw (m:=1) (rs:=[.tmp 2]) [1500005] mixed Tryz.func105 rfl rfl rfl rfl (by kernel_rfl) (by simp) rfl dU (bu (dZ (by decide)) eD) ?_;simp only[fh,fX];simp only[lM,seval,pkB Y _,fw,fev];refine dz (ls:=[eng p o,bV Y.k]) rfl (nX Y p hp o 0 [bV Y.k] o9 _ (λt=>m13 p o t) ⟨167,[.bp (kx Y.k 1) 0],rfl,dA (aL rfl) im,rfl,λs t ht hF=>ahk Y p o hp t ht s hF⟩ s hF) rfl rfl λt' b' hR=>?_;simp only[pkA,seval,pkB Y _];exact fE (rest:=[bV Y.k]) hR rfl rfl rfl dU (by simp[])
def t15 (p:Pol) (o:Option Fa):List In:=cd p.types.length (λs0=>emL o (i15 s0)) 1
theorem X2 {τ:Type} (Y:Ys τ) (p:Pol) (o:Option Fa) (hp:p.types.length<=9223372036854775806) (hr:p.rules.length<=9223372036854775806) (s:τ) (hF:Fut G Y s (t15 p o)) :
 FnR G Y 107 [.bp (kx Y.k 0) 0] s (t15 p o) [eng p o]:=by
 unfold t15 at hF ⊢
 have dU:ltL (kx Y.k 1) [eng p o]:=aJ (cM Y.pos) cJ;have o9:ltL (kx Y.k 2) [bV Y.k]:=aJ (cD (by decide)) cJ;refine dw (m:=1) (rs:=[.tmp 2]) [1500005] mixed Tryz.func107 rfl rfl rfl rfl (by kernel_rfl) (by simp) rfl dU (bu (dZ (by decide)) eD) ?_;simp only[fh,fX];simp only[lM,seval,pkB Y _,fw,fev];refine dz (ls:=[eng p o,bV Y.k]) rfl (jz Y p hp o 1 (by decide) [bV Y.k] o9 _ (λs0=>emL o (i15 s0)) ⟨169,[.bp (kx Y.k 1) 0],rfl,dA (aL rfl) im,rfl,λs x hx hF=>ahh Y p o x  s hF⟩ s hF) rfl rfl λt' b' hR=>?_;simp only[pkA,seval,pkB Y _];exact fE (rest:=[bV Y.k]) hR rfl rfl rfl dU (by simp[])
def t14 (o:Option Fa):List In:=emL o i14
def N1 (p:Pol) (o:Option Fa):List (List In):=[t1 p o,t2 p o,t3 p o,t4 p o,t5 p o,t6 p o,t7 p o,t8 p o,t9 p o,t10 p o,t11 p o,t12 p o,t13 p o,t14 o,t15 p o]
def fR (p:Pol) (o:Option Fa):List In:=(N1 p o).flatten
