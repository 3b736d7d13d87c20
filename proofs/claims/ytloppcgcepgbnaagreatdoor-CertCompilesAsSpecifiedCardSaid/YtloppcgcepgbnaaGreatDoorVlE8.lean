/- The engine of layer 17: the closures between, the rules. Printed by gen18.py. -/
import Derived.Test.YtloppcgcepgbnaaGreatDoorVlE7
set_option linter.all false
namespace Go.Proofs.YtloppcgcepgbnaaGreatDoor
open Go Go.Vl
variable {G:Gl}
set_option maxRecDepth 4000
def m3 (p:Pol) (o:Option Fa) (a b:Nat):List In:=b8 p.types.length (λs0=>emL o (i3 a b s0)) 1
def lO:=jj @pkA (jj @ptA @pkW)
theorem am5 {τ:Type} (Y:Ys τ) (p:Pol) (o:Option Fa) (hp:p.types.length<=9223372036854775806) (a b:Nat) (ha:a<p.types.length) (hb:b<p.types.length) (s:τ) (hF:Fut G Y s (m3 p o a b)) :
 FnR G Y 146 [i64 (a:Int),i64 (b:Int),.bp (kx Y.k 1) 0] s (m3 p o a b) [eng p o,bU Y.k]:=by
 unfold m3 at hF ⊢
 have dU:ltL (kx Y.k 2) [eng p o,bU Y.k]:=aI (cL Y.pos) (aI (cA (by decide)) cJ);have pq:ltL (kx Y.k 4) [bU Y.k,bV a,bV b]:=λq hq=>(aI (cL Y.pos) (aI (cA (by decide)) (aI cV (aI cV cJ))):ltL (kx Y.k 4) [eng p o,bU Y.k,bV a,bV b]) q (aP _ hq);refine dy (m:=2) (rs:=[.tmp 5]) [1500008] mixed Tryz.func146 rfl rfl rfl rfl (by kernel_rfl) (by simp) rfl dU (bu trivial (bu trivial (bu (dZ (by decide)) eC))) ?_;simp only[fe,fU];simp only[lO,seval,pkB Y _,fp,fnv];refine dB (ls:=[eng p o,bU Y.k,bV a,bV b]) rfl (jB Y p hp o 1 (by decide) [bU Y.k,bV a,bV b] pq _ (λs0=>emL o (i3 a b s0)) ⟨148,[.bp (kx Y.k 1) 0,.bp (kx Y.k 2) 0,.bp (kx Y.k 3) 0],rfl,dC (aL rfl) (dC (aL rfl) (dC (aL rfl) (iq))),rfl,λs x hx hF=>amY Y p o a b x (by omega) s hF⟩ s hF) rfl rfl λt' b' hR=>?_;simp only[pkA,seval,pkB Y _];exact fC (rest:=[bV a,bV b]) hR rfl rfl rfl dU (by simp[])
def m5 (p:Pol) (o:Option Fa) (a b:Nat):List In:=b8 p.types.length (λs0=>emL o (i5 a b s0)) 1
theorem am6 {τ:Type} (Y:Ys τ) (p:Pol) (o:Option Fa) (hp:p.types.length<=9223372036854775806) (a b:Nat) (ha:a<p.types.length) (hb:b<p.types.length) (s:τ) (hF:Fut G Y s (m5 p o a b)) :
 FnR G Y 150 [i64 (a:Int),i64 (b:Int),.bp (kx Y.k 1) 0] s (m5 p o a b) [eng p o,bU Y.k]:=by
 unfold m5 at hF ⊢
 have dU:ltL (kx Y.k 2) [eng p o,bU Y.k]:=aI (cL Y.pos) (aI (cA (by decide)) cJ);have pq:ltL (kx Y.k 4) [bU Y.k,bV a,bV b]:=λq hq=>(aI (cL Y.pos) (aI (cA (by decide)) (aI cV (aI cV cJ))):ltL (kx Y.k 4) [eng p o,bU Y.k,bV a,bV b]) q (aP _ hq);refine dy (m:=2) (rs:=[.tmp 5]) [1500008] mixed Tryz.func150 rfl rfl rfl rfl (by kernel_rfl) (by simp) rfl dU (bu trivial (bu trivial (bu (dZ (by decide)) eC))) ?_;simp only[fe,fU];simp only[lO,seval,pkB Y _,fp,fnv];refine dB (ls:=[eng p o,bU Y.k,bV a,bV b]) rfl (jB Y p hp o 1 (by decide) [bU Y.k,bV a,bV b] pq _ (λs0=>emL o (i5 a b s0)) ⟨151,[.bp (kx Y.k 1) 0,.bp (kx Y.k 2) 0,.bp (kx Y.k 3) 0],rfl,dC (aL rfl) (dC (aL rfl) (dC (aL rfl) (iq))),rfl,λs x hx hF=>am0 Y p o a b x (by omega) s hF⟩ s hF) rfl rfl λt' b' hR=>?_;simp only[pkA,seval,pkB Y _];exact fC (rest:=[bV a,bV b]) hR rfl rfl rfl dU (by simp[])
def m6 (p:Pol) (o:Option Fa) (t:Nat):List In:=b8 p.types.length (λs0=>emL o (i6 t s0)) 1
theorem am7 {τ:Type} (Y:Ys τ) (p:Pol) (o:Option Fa) (hp:p.types.length<=9223372036854775806) (t:Nat) (ht:t<p.types.length) (s:τ) (hF:Fut G Y s (m6 p o t)) :
 FnR G Y 152 [i64 (t:Int),.bp (kx Y.k 1) 0] s (m6 p o t) [eng p o,bU Y.k]:=by
 unfold m6 at hF ⊢
 have dU:ltL (kx Y.k 2) [eng p o,bU Y.k]:=aI (cL Y.pos) (aI (cA (by decide)) cJ);have pq:ltL (kx Y.k 3) [bU Y.k,bV t]:=λq hq=>(aI (cL Y.pos) (aI (cA (by decide)) (aI cV cJ)):ltL (kx Y.k 3) [eng p o,bU Y.k,bV t]) q (aP _ hq);refine dy (m:=2) (rs:=[.tmp 3]) [1500006] mixed Tryz.func152 rfl rfl rfl rfl (by kernel_rfl) (by simp) rfl dU (bu trivial (bu (dZ (by decide)) eC)) ?_;simp only[fe,fU];simp only[lO,seval,pkB Y _,fp,fnv];refine dB (ls:=[eng p o,bU Y.k,bV t]) rfl (jB Y p hp o 1 (by decide) [bU Y.k,bV t] pq _ (λs0=>emL o (i6 t s0)) ⟨153,[.bp (kx Y.k 1) 0,.bp (kx Y.k 2) 0],rfl,dC (aL rfl) (dC (aL rfl) (iq)),rfl,λs x hx hF=>am1 Y p o t x  s hF⟩ s hF) rfl rfl λt' b' hR=>?_;simp only[pkA,seval,pkB Y _];exact fC (rest:=[bV t]) hR rfl rfl rfl dU (by simp[])
def m7 (p:Pol) (o:Option Fa) (t:Nat):List In:=b8 p.types.length (λs0=>emL o (i7 t s0)) 0
theorem am8 {τ:Type} (Y:Ys τ) (p:Pol) (o:Option Fa) (hp:p.types.length<=9223372036854775806) (t:Nat) (ht:t<p.types.length) (s:τ) (hF:Fut G Y s (m7 p o t)) :
 FnR G Y 154 [i64 (t:Int),.bp (kx Y.k 1) 0] s (m7 p o t) [eng p o,bU Y.k]:=by
 unfold m7 at hF ⊢
 have dU:ltL (kx Y.k 2) [eng p o,bU Y.k]:=aI (cL Y.pos) (aI (cA (by decide)) cJ);have pq:ltL (kx Y.k 3) [bU Y.k,bV t]:=λq hq=>(aI (cL Y.pos) (aI (cA (by decide)) (aI cV cJ)):ltL (kx Y.k 3) [eng p o,bU Y.k,bV t]) q (aP _ hq);refine dy (m:=2) (rs:=[.tmp 3]) [1500006] mixed Tryz.func154 rfl rfl rfl rfl (by kernel_rfl) (by simp) rfl dU (bu trivial (bu (dZ (by decide)) eC)) ?_;simp only[fe,fU];simp only[lO,seval,pkB Y _,fp,fnv];refine dB (ls:=[eng p o,bU Y.k,bV t]) rfl (jB Y p hp o 0 (by decide) [bU Y.k,bV t] pq _ (λs0=>emL o (i7 t s0)) ⟨155,[.bp (kx Y.k 1) 0,.bp (kx Y.k 2) 0],rfl,dC (aL rfl) (dC (aL rfl) (iq)),rfl,λs x hx hF=>am2 Y p o t x  s hF⟩ s hF) rfl rfl λt' b' hR=>?_;simp only[pkA,seval,pkB Y _];exact fC (rest:=[bV t]) hR rfl rfl rfl dU (by simp[])
def m8 (p:Pol) (o:Option Fa) (a b:Nat):List In:=uF p.types.length 0 (λv w=>emL o (i8 a b v w))
theorem am9 {τ:Type} (Y:Ys τ) (p:Pol) (o:Option Fa) (hp:p.types.length<=9223372036854775806) (a b:Nat) (ha:a<p.types.length) (hb:b<p.types.length) (s:τ) (hF:Fut G Y s (m8 p o a b)) :
 FnR G Y 157 [i64 (a:Int),i64 (b:Int),.bp (kx Y.k 1) 0] s (m8 p o a b) [eng p o,bU Y.k]:=by
 unfold m8 at hF ⊢
 have dU:ltL (kx Y.k 2) [eng p o,bU Y.k]:=aI (cL Y.pos) (aI (cA (by decide)) cJ);have pq:ltL (kx Y.k 4) [bU Y.k,bV a,bV b]:=λq hq=>(aI (cL Y.pos) (aI (cA (by decide)) (aI cV (aI cV cJ))):ltL (kx Y.k 4) [eng p o,bU Y.k,bV a,bV b]) q (aP _ hq);refine dy (m:=2) (rs:=[.tmp 5]) [1500008] mixed Tryz.func157 rfl rfl rfl rfl (by kernel_rfl) (by simp) rfl dU (bu trivial (bu trivial (bu (dZ (by decide)) eC))) ?_;simp only[fe,fU];simp only[lO,seval,pkB Y _,fp,fnv];refine dB (ls:=[eng p o,bU Y.k,bV a,bV b]) rfl (C3 Y p o a b 0 159 [.bp (kx Y.k 1) 0,.bp (kx Y.k 2) 0,.bp (kx Y.k 3) 0] (dC (aL rfl) (dC (aL rfl) (dC (aL rfl) (iq)))) rfl (λv w=>emL o (i8 a b v w)) (λs v w _ hF=>am3 Y p o a b v w s hF) hp (by decide) s hF) rfl rfl λt' b' hR=>?_;simp only[pkA,seval,pkB Y _];exact fC (rest:=[bV a,bV b]) hR rfl rfl rfl dU (by simp[])
def m9 (p:Pol) (o:Option Fa) (t:Nat):List In:=uF p.types.length 1 (λv w=>emL o (i9 t v w))
theorem ana {τ:Type} (Y:Ys τ) (p:Pol) (o:Option Fa) (hp:p.types.length<=9223372036854775806) (t:Nat) (ht:t<p.types.length) (s:τ) (hF:Fut G Y s (m9 p o t)) :
 FnR G Y 160 [i64 (t:Int),.bp (kx Y.k 1) 0] s (m9 p o t) [eng p o,bU Y.k]:=by
 unfold m9 at hF ⊢
 have dU:ltL (kx Y.k 2) [eng p o,bU Y.k]:=aI (cL Y.pos) (aI (cA (by decide)) cJ);have pq:ltL (kx Y.k 3) [bU Y.k,bV t]:=λq hq=>(aI (cL Y.pos) (aI (cA (by decide)) (aI cV cJ)):ltL (kx Y.k 3) [eng p o,bU Y.k,bV t]) q (aP _ hq);refine dy (m:=2) (rs:=[.tmp 3]) [1500006] mixed Tryz.func160 rfl rfl rfl rfl (by kernel_rfl) (by simp) rfl dU (bu trivial (bu (dZ (by decide)) eC)) ?_;simp only[fe,fU];simp only[lO,seval,pkB Y _,fp,fnv];refine dB (ls:=[eng p o,bU Y.k,bV t]) rfl (Oy Y p o t 1 161 [.bp (kx Y.k 1) 0,.bp (kx Y.k 2) 0] (dC (aL rfl) (dC (aL rfl) (iq))) rfl (λv w=>emL o (i9 t v w)) (λs v w _ hF=>am4 Y p o t v w s hF) hp (by decide) s hF) rfl rfl λt' b' hR=>?_;simp only[pkA,seval,pkB Y _];exact fC (rest:=[bV t]) hR rfl rfl rfl dU (by simp[])
def m10 (p:Pol) (o:Option Fa) (a b:Nat):List In:=uF p.types.length 0 (λv w=>r10 o a b v w)
theorem ajN {τ:Type} (Y:Ys τ) (p:Pol) (o:Option Fa) (hp:p.types.length<=9223372036854775806) (a b:Nat) (ha:a<p.types.length) (hb:b<p.types.length) (s:τ) (hF:Fut G Y s (m10 p o a b)) :
 FnR G Y 162 [i64 (a:Int),i64 (b:Int),.bp (kx Y.k 1) 0] s (m10 p o a b) [eng p o,bU Y.k]:=by
 unfold m10 at hF ⊢
 have dU:ltL (kx Y.k 2) [eng p o,bU Y.k]:=aI (cL Y.pos) (aI (cA (by decide)) cJ);have pq:ltL (kx Y.k 4) [bU Y.k,bV a,bV b]:=λq hq=>(aI (cL Y.pos) (aI (cA (by decide)) (aI cV (aI cV cJ))):ltL (kx Y.k 4) [eng p o,bU Y.k,bV a,bV b]) q (aP _ hq);refine dy (m:=2) (rs:=[.tmp 5]) [1500008] mixed Tryz.func162 rfl rfl rfl rfl (by kernel_rfl) (by simp) rfl dU (bu trivial (bu trivial (bu (dZ (by decide)) eC))) ?_;simp only[fe,fU];simp only[lO,seval,pkB Y _,fp,fnv];refine dB (ls:=[eng p o,bU Y.k,bV a,bV b]) rfl (C3 Y p o a b 0 163 [.bp (kx Y.k 3) 0,.bp (kx Y.k 1) 0,.bp (kx Y.k 2) 0] (dC (aL rfl) (dC (aL rfl) (dC (aL rfl) (iq)))) rfl (λv w=>r10 o a b v w) (λs v w _ hF=>aez Y p o a b v w s hF) hp (by decide) s hF) rfl rfl λt' b' hR=>?_;simp only[pkA,seval,pkB Y _];exact fC (rest:=[bV a,bV b]) hR rfl rfl rfl dU (by simp[])
def m12 (p:Pol) (o:Option Fa) (a b:Nat):List In:=b8 p.types.length (λs0=>emL o (i12 a b s0)) 1
theorem ajO {τ:Type} (Y:Ys τ) (p:Pol) (o:Option Fa) (hp:p.types.length<=9223372036854775806) (a b:Nat) (ha:a<p.types.length) (hb:b<p.types.length) (s:τ) (hF:Fut G Y s (m12 p o a b)) :
 FnR G Y 165 [i64 (a:Int),i64 (b:Int),.bp (kx Y.k 1) 0] s (m12 p o a b) [eng p o,bU Y.k]:=by
 unfold m12 at hF ⊢
 have dU:ltL (kx Y.k 2) [eng p o,bU Y.k]:=aI (cL Y.pos) (aI (cA (by decide)) cJ);have pq:ltL (kx Y.k 4) [bU Y.k,bV a,bV b]:=λq hq=>(aI (cL Y.pos) (aI (cA (by decide)) (aI cV (aI cV cJ))):ltL (kx Y.k 4) [eng p o,bU Y.k,bV a,bV b]) q (aP _ hq);refine dy (m:=2) (rs:=[.tmp 5]) [1500008] mixed Tryz.func165 rfl rfl rfl rfl (by kernel_rfl) (by simp) rfl dU (bu trivial (bu trivial (bu (dZ (by decide)) eC))) ?_;simp only[fe,fU];simp only[lO,seval,pkB Y _,fp,fnv];refine dB (ls:=[eng p o,bU Y.k,bV a,bV b]) rfl (jB Y p hp o 1 (by decide) [bU Y.k,bV a,bV b] pq _ (λs0=>emL o (i12 a b s0)) ⟨166,[.bp (kx Y.k 1) 0,.bp (kx Y.k 2) 0,.bp (kx Y.k 3) 0],rfl,dC (aL rfl) (dC (aL rfl) (dC (aL rfl) (iq))),rfl,λs x hx hF=>ajK Y p o a b x  s hF⟩ s hF) rfl rfl λt' b' hR=>?_;simp only[pkA,seval,pkB Y _];exact fC (rest:=[bV a,bV b]) hR rfl rfl rfl dU (by simp[])
def m13 (p:Pol) (o:Option Fa) (t:Nat):List In:=b8 p.types.length (λs0=>emL o (i13 t s0)) 1
theorem ajP {τ:Type} (Y:Ys τ) (p:Pol) (o:Option Fa) (hp:p.types.length<=9223372036854775806) (t:Nat) (ht:t<p.types.length) (s:τ) (hF:Fut G Y s (m13 p o t)) :
 FnR G Y 167 [i64 (t:Int),.bp (kx Y.k 1) 0] s (m13 p o t) [eng p o,bU Y.k]:=by
 unfold m13 at hF ⊢
 have dU:ltL (kx Y.k 2) [eng p o,bU Y.k]:=aI (cL Y.pos) (aI (cA (by decide)) cJ);have pq:ltL (kx Y.k 3) [bU Y.k,bV t]:=λq hq=>(aI (cL Y.pos) (aI (cA (by decide)) (aI cV cJ)):ltL (kx Y.k 3) [eng p o,bU Y.k,bV t]) q (aP _ hq);refine dy (m:=2) (rs:=[.tmp 3]) [1500006] mixed Tryz.func167 rfl rfl rfl rfl (by kernel_rfl) (by simp) rfl dU (bu trivial (bu (dZ (by decide)) eC)) ?_;simp only[fe,fU];simp only[lO,seval,pkB Y _,fp,fnv];refine dB (ls:=[eng p o,bU Y.k,bV t]) rfl (jB Y p hp o 1 (by decide) [bU Y.k,bV t] pq _ (λs0=>emL o (i13 t s0)) ⟨168,[.bp (kx Y.k 1) 0,.bp (kx Y.k 2) 0],rfl,dC (aL rfl) (dC (aL rfl) (iq)),rfl,λs x hx hF=>ajL Y p o t x  s hF⟩ s hF) rfl rfl λt' b' hR=>?_;simp only[pkA,seval,pkB Y _];exact fC (rest:=[bV t]) hR rfl rfl rfl dU (by simp[])
def t1 (p:Pol) (o:Option Fa):List In:=jq p o 2 (λt=>emL o (i1 t)) 0
theorem aeA {τ:Type} (Y:Ys τ) (p:Pol) (o:Option Fa) (hp:p.types.length<=9223372036854775806) (hr:p.rules.length<=9223372036854775806) (s:τ) (hF:Fut G Y s (t1 p o)) :
 FnR G Y 93 [.bp (kx Y.k 0) 0] s (t1 p o) [eng p o]:=by
 unfold t1 at hF ⊢
 have dU:ltL (kx Y.k 1) [eng p o]:=aI (cL Y.pos) cJ;have pq:ltL (kx Y.k 2) [bU Y.k]:=aI (cA (by decide)) cJ;refine dy (m:=1) (rs:=[.tmp 2]) [1500005] mixed Tryz.func93 rfl rfl rfl rfl (by kernel_rfl) (by simp) rfl dU (bu (dZ (by decide)) eC) ?_;simp only[fe,fU];simp only[lO,seval,pkB Y _,fp,fev];refine dB (ls:=[eng p o,bU Y.k]) rfl (oc Y p hp o 2 [bU Y.k] pq _ (λt=>emL o (i1 t)) ⟨141,[.bp (kx Y.k 1) 0],rfl,dC (aL rfl) iq,rfl,λs t ht hF=>amW Y p o t  s hF⟩ s hF) rfl rfl λt' b' hR=>?_;simp only[pkA,seval,pkB Y _];exact fC (rest:=[bU Y.k]) hR rfl rfl rfl dU (by simp[])
def t2 (p:Pol) (o:Option Fa):List In:=jq p o 1 (λt=>emL o (i2 t)) 0
theorem aeB {τ:Type} (Y:Ys τ) (p:Pol) (o:Option Fa) (hp:p.types.length<=9223372036854775806) (hr:p.rules.length<=9223372036854775806) (s:τ) (hF:Fut G Y s (t2 p o)) :
 FnR G Y 94 [.bp (kx Y.k 0) 0] s (t2 p o) [eng p o]:=by
 unfold t2 at hF ⊢
 have dU:ltL (kx Y.k 1) [eng p o]:=aI (cL Y.pos) cJ;have pq:ltL (kx Y.k 2) [bU Y.k]:=aI (cA (by decide)) cJ;refine dy (m:=1) (rs:=[.tmp 2]) [1500005] mixed Tryz.func94 rfl rfl rfl rfl (by kernel_rfl) (by simp) rfl dU (bu (dZ (by decide)) eC) ?_;simp only[fe,fU];simp only[lO,seval,pkB Y _,fp,fev];refine dB (ls:=[eng p o,bU Y.k]) rfl (oc Y p hp o 1 [bU Y.k] pq _ (λt=>emL o (i2 t)) ⟨144,[.bp (kx Y.k 1) 0],rfl,dC (aL rfl) iq,rfl,λs t ht hF=>amX Y p o t (by omega) s hF⟩ s hF) rfl rfl λt' b' hR=>?_;simp only[pkA,seval,pkB Y _];exact fC (rest:=[bU Y.k]) hR rfl rfl rfl dU (by simp[])
def t3 (p:Pol) (o:Option Fa):List In:=jG p o 5 (λa b=>m3 p o a b) 0
theorem aeC {τ:Type} (Y:Ys τ) (p:Pol) (o:Option Fa) (hp:p.types.length<=9223372036854775806) (hr:p.rules.length<=9223372036854775806) (s:τ) (hF:Fut G Y s (t3 p o)) :
 FnR G Y 95 [.bp (kx Y.k 0) 0] s (t3 p o) [eng p o]:=by
 unfold t3 at hF ⊢
 have dU:ltL (kx Y.k 1) [eng p o]:=aI (cL Y.pos) cJ;have pq:ltL (kx Y.k 2) [bU Y.k]:=aI (cA (by decide)) cJ;refine dy (m:=1) (rs:=[.tmp 2]) [1500005] mixed Tryz.func95 rfl rfl rfl rfl (by kernel_rfl) (by simp) rfl dU (bu (dZ (by decide)) eC) ?_;simp only[fe,fU];simp only[lO,seval,pkB Y _,fp,fev];refine dB (ls:=[eng p o,bU Y.k]) rfl (qg Y p hp hr o 5 [bU Y.k] pq _ (λa b=>m3 p o a b) ⟨146,[.bp (kx Y.k 1) 0],rfl,dC (aL rfl) iq,rfl,λs a b Bt hF=>am5 Y p o hp a b Bt.1 Bt.2 s hF⟩ s hF) rfl rfl λt' b' hR=>?_;simp only[pkA,seval,pkB Y _];exact fC (rest:=[bU Y.k]) hR rfl rfl rfl dU (by simp[])
def t4 (p:Pol) (o:Option Fa):List In:=jG p o 5 (λa b=>emL o (i4 a b)) 0
theorem aeD {τ:Type} (Y:Ys τ) (p:Pol) (o:Option Fa) (hp:p.types.length<=9223372036854775806) (hr:p.rules.length<=9223372036854775806) (s:τ) (hF:Fut G Y s (t4 p o)) :
 FnR G Y 96 [.bp (kx Y.k 0) 0] s (t4 p o) [eng p o]:=by
 unfold t4 at hF ⊢
 have dU:ltL (kx Y.k 1) [eng p o]:=aI (cL Y.pos) cJ;have pq:ltL (kx Y.k 2) [bU Y.k]:=aI (cA (by decide)) cJ;refine dy (m:=1) (rs:=[.tmp 2]) [1500005] mixed Tryz.func96 rfl rfl rfl rfl (by kernel_rfl) (by simp) rfl dU (bu (dZ (by decide)) eC) ?_;simp only[fe,fU];simp only[lO,seval,pkB Y _,fp,fev];refine dB (ls:=[eng p o,bU Y.k]) rfl (qg Y p hp hr o 5 [bU Y.k] pq _ (λa b=>emL o (i4 a b)) ⟨149,[.bp (kx Y.k 1) 0],rfl,dC (aL rfl) iq,rfl,λs a b Bt hF=>amZ Y p o a b  s hF⟩ s hF) rfl rfl λt' b' hR=>?_;simp only[pkA,seval,pkB Y _];exact fC (rest:=[bU Y.k]) hR rfl rfl rfl dU (by simp[])
def t5 (p:Pol) (o:Option Fa):List In:=jG p o 5 (λa b=>m5 p o a b) 0
theorem aeE {τ:Type} (Y:Ys τ) (p:Pol) (o:Option Fa) (hp:p.types.length<=9223372036854775806) (hr:p.rules.length<=9223372036854775806) (s:τ) (hF:Fut G Y s (t5 p o)) :
 FnR G Y 97 [.bp (kx Y.k 0) 0] s (t5 p o) [eng p o]:=by
 unfold t5 at hF ⊢
 have dU:ltL (kx Y.k 1) [eng p o]:=aI (cL Y.pos) cJ;have pq:ltL (kx Y.k 2) [bU Y.k]:=aI (cA (by decide)) cJ;refine dy (m:=1) (rs:=[.tmp 2]) [1500005] mixed Tryz.func97 rfl rfl rfl rfl (by kernel_rfl) (by simp) rfl dU (bu (dZ (by decide)) eC) ?_;simp only[fe,fU];simp only[lO,seval,pkB Y _,fp,fev];refine dB (ls:=[eng p o,bU Y.k]) rfl (qg Y p hp hr o 5 [bU Y.k] pq _ (λa b=>m5 p o a b) ⟨150,[.bp (kx Y.k 1) 0],rfl,dC (aL rfl) iq,rfl,λs a b Bt hF=>am6 Y p o hp a b Bt.1 Bt.2 s hF⟩ s hF) rfl rfl λt' b' hR=>?_;simp only[pkA,seval,pkB Y _];exact fC (rest:=[bU Y.k]) hR rfl rfl rfl dU (by simp[])
def t6 (p:Pol) (o:Option Fa):List In:=jq p o 4 (λt=>m6 p o t) 0
theorem aeF {τ:Type} (Y:Ys τ) (p:Pol) (o:Option Fa) (hp:p.types.length<=9223372036854775806) (hr:p.rules.length<=9223372036854775806) (s:τ) (hF:Fut G Y s (t6 p o)) :
 FnR G Y 98 [.bp (kx Y.k 0) 0] s (t6 p o) [eng p o]:=by
 unfold t6 at hF ⊢
 have dU:ltL (kx Y.k 1) [eng p o]:=aI (cL Y.pos) cJ;have pq:ltL (kx Y.k 2) [bU Y.k]:=aI (cA (by decide)) cJ;refine dy (m:=1) (rs:=[.tmp 2]) [1500005] mixed Tryz.func98 rfl rfl rfl rfl (by kernel_rfl) (by simp) rfl dU (bu (dZ (by decide)) eC) ?_;simp only[fe,fU];simp only[lO,seval,pkB Y _,fp,fev];refine dB (ls:=[eng p o,bU Y.k]) rfl (oc Y p hp o 4 [bU Y.k] pq _ (λt=>m6 p o t) ⟨152,[.bp (kx Y.k 1) 0],rfl,dC (aL rfl) iq,rfl,λs t ht hF=>am7 Y p o hp t ht s hF⟩ s hF) rfl rfl λt' b' hR=>?_;simp only[pkA,seval,pkB Y _];exact fC (rest:=[bU Y.k]) hR rfl rfl rfl dU (by simp[])
def t7 (p:Pol) (o:Option Fa):List In:=jq p o 8 (λt=>m7 p o t) 0
theorem aeG {τ:Type} (Y:Ys τ) (p:Pol) (o:Option Fa) (hp:p.types.length<=9223372036854775806) (hr:p.rules.length<=9223372036854775806) (s:τ) (hF:Fut G Y s (t7 p o)) :
 FnR G Y 99 [.bp (kx Y.k 0) 0] s (t7 p o) [eng p o]:=by
 unfold t7 at hF ⊢
 have dU:ltL (kx Y.k 1) [eng p o]:=aI (cL Y.pos) cJ;have pq:ltL (kx Y.k 2) [bU Y.k]:=aI (cA (by decide)) cJ;refine dy (m:=1) (rs:=[.tmp 2]) [1500005] mixed Tryz.func99 rfl rfl rfl rfl (by kernel_rfl) (by simp) rfl dU (bu (dZ (by decide)) eC) ?_;simp only[fe,fU];simp only[lO,seval,pkB Y _,fp,fev];refine dB (ls:=[eng p o,bU Y.k]) rfl (oc Y p hp o 8 [bU Y.k] pq _ (λt=>m7 p o t) ⟨154,[.bp (kx Y.k 1) 0],rfl,dC (aL rfl) iq,rfl,λs t ht hF=>am8 Y p o hp t ht s hF⟩ s hF) rfl rfl λt' b' hR=>?_;simp only[pkA,seval,pkB Y _];exact fC (rest:=[bU Y.k]) hR rfl rfl rfl dU (by simp[])
def t8 (p:Pol) (o:Option Fa):List In:=jG p o 3 (λa b=>m8 p o a b) 0
theorem aeH {τ:Type} (Y:Ys τ) (p:Pol) (o:Option Fa) (hp:p.types.length<=9223372036854775806) (hr:p.rules.length<=9223372036854775806) (s:τ) (hF:Fut G Y s (t8 p o)) :
 FnR G Y 100 [.bp (kx Y.k 0) 0] s (t8 p o) [eng p o]:=by
 unfold t8 at hF ⊢
 have dU:ltL (kx Y.k 1) [eng p o]:=aI (cL Y.pos) cJ;have pq:ltL (kx Y.k 2) [bU Y.k]:=aI (cA (by decide)) cJ;refine dy (m:=1) (rs:=[.tmp 2]) [1500005] mixed Tryz.func100 rfl rfl rfl rfl (by kernel_rfl) (by simp) rfl dU (bu (dZ (by decide)) eC) ?_;simp only[fe,fU];simp only[lO,seval,pkB Y _,fp,fev];refine dB (ls:=[eng p o,bU Y.k]) rfl (qg Y p hp hr o 3 [bU Y.k] pq _ (λa b=>m8 p o a b) ⟨157,[.bp (kx Y.k 1) 0],rfl,dC (aL rfl) iq,rfl,λs a b Bt hF=>am9 Y p o hp a b Bt.1 Bt.2 s hF⟩ s hF) rfl rfl λt' b' hR=>?_;simp only[pkA,seval,pkB Y _];exact fC (rest:=[bU Y.k]) hR rfl rfl rfl dU (by simp[])
def t9 (p:Pol) (o:Option Fa):List In:=jq p o 16 (λt=>m9 p o t) 0
theorem aeI {τ:Type} (Y:Ys τ) (p:Pol) (o:Option Fa) (hp:p.types.length<=9223372036854775806) (hr:p.rules.length<=9223372036854775806) (s:τ) (hF:Fut G Y s (t9 p o)) :
 FnR G Y 101 [.bp (kx Y.k 0) 0] s (t9 p o) [eng p o]:=by
 unfold t9 at hF ⊢
 have dU:ltL (kx Y.k 1) [eng p o]:=aI (cL Y.pos) cJ;have pq:ltL (kx Y.k 2) [bU Y.k]:=aI (cA (by decide)) cJ;refine dy (m:=1) (rs:=[.tmp 2]) [1500005] mixed Tryz.func101 rfl rfl rfl rfl (by kernel_rfl) (by simp) rfl dU (bu (dZ (by decide)) eC) ?_;simp only[fe,fU];simp only[lO,seval,pkB Y _,fp,fev];refine dB (ls:=[eng p o,bU Y.k]) rfl (oc Y p hp o 16 [bU Y.k] pq _ (λt=>m9 p o t) ⟨160,[.bp (kx Y.k 1) 0],rfl,dC (aL rfl) iq,rfl,λs t ht hF=>ana Y p o hp t ht s hF⟩ s hF) rfl rfl λt' b' hR=>?_;simp only[pkA,seval,pkB Y _];exact fC (rest:=[bU Y.k]) hR rfl rfl rfl dU (by simp[])
def t10 (p:Pol) (o:Option Fa):List In:=jG p o 4 (λa b=>m10 p o a b) 0
theorem Zb {τ:Type} (Y:Ys τ) (p:Pol) (o:Option Fa) (hp:p.types.length<=9223372036854775806) (hr:p.rules.length<=9223372036854775806) (s:τ) (hF:Fut G Y s (t10 p o)) :
 FnR G Y 102 [.bp (kx Y.k 0) 0] s (t10 p o) [eng p o]:=by
 unfold t10 at hF ⊢
 have dU:ltL (kx Y.k 1) [eng p o]:=aI (cL Y.pos) cJ;have pq:ltL (kx Y.k 2) [bU Y.k]:=aI (cA (by decide)) cJ;refine dy (m:=1) (rs:=[.tmp 2]) [1500005] mixed Tryz.func102 rfl rfl rfl rfl (by kernel_rfl) (by simp) rfl dU (bu (dZ (by decide)) eC) ?_;simp only[fe,fU];simp only[lO,seval,pkB Y _,fp,fev];refine dB (ls:=[eng p o,bU Y.k]) rfl (qg Y p hp hr o 4 [bU Y.k] pq _ (λa b=>m10 p o a b) ⟨162,[.bp (kx Y.k 1) 0],rfl,dC (aL rfl) iq,rfl,λs a b Bt hF=>ajN Y p o hp a b Bt.1 Bt.2 s hF⟩ s hF) rfl rfl λt' b' hR=>?_;simp only[pkA,seval,pkB Y _];exact fC (rest:=[bU Y.k]) hR rfl rfl rfl dU (by simp[])
def t11 (p:Pol) (o:Option Fa):List In:=jG p o 2 (λa b=>emL o (i11 a b)) 0
theorem Zc {τ:Type} (Y:Ys τ) (p:Pol) (o:Option Fa) (hp:p.types.length<=9223372036854775806) (hr:p.rules.length<=9223372036854775806) (s:τ) (hF:Fut G Y s (t11 p o)) :
 FnR G Y 103 [.bp (kx Y.k 0) 0] s (t11 p o) [eng p o]:=by
 unfold t11 at hF ⊢
 have dU:ltL (kx Y.k 1) [eng p o]:=aI (cL Y.pos) cJ;have pq:ltL (kx Y.k 2) [bU Y.k]:=aI (cA (by decide)) cJ;refine dy (m:=1) (rs:=[.tmp 2]) [1500005] mixed Tryz.func103 rfl rfl rfl rfl (by kernel_rfl) (by simp) rfl dU (bu (dZ (by decide)) eC) ?_;simp only[fe,fU];simp only[lO,seval,pkB Y _,fp,fev];refine dB (ls:=[eng p o,bU Y.k]) rfl (qg Y p hp hr o 2 [bU Y.k] pq _ (λa b=>emL o (i11 a b)) ⟨164,[.bp (kx Y.k 1) 0],rfl,dC (aL rfl) iq,rfl,λs a b Bt hF=>ajJ Y p o a b  s hF⟩ s hF) rfl rfl λt' b' hR=>?_;simp only[pkA,seval,pkB Y _];exact fC (rest:=[bU Y.k]) hR rfl rfl rfl dU (by simp[])
def t12 (p:Pol) (o:Option Fa):List In:=jG p o 1 (λa b=>m12 p o a b) 0
theorem Zd {τ:Type} (Y:Ys τ) (p:Pol) (o:Option Fa) (hp:p.types.length<=9223372036854775806) (hr:p.rules.length<=9223372036854775806) (s:τ) (hF:Fut G Y s (t12 p o)) :
 FnR G Y 104 [.bp (kx Y.k 0) 0] s (t12 p o) [eng p o]:=by
 unfold t12 at hF ⊢
 have dU:ltL (kx Y.k 1) [eng p o]:=aI (cL Y.pos) cJ;have pq:ltL (kx Y.k 2) [bU Y.k]:=aI (cA (by decide)) cJ;refine dy (m:=1) (rs:=[.tmp 2]) [1500005] mixed Tryz.func104 rfl rfl rfl rfl (by kernel_rfl) (by simp) rfl dU (bu (dZ (by decide)) eC) ?_;simp only[fe,fU];simp only[lO,seval,pkB Y _,fp,fev];refine dB (ls:=[eng p o,bU Y.k]) rfl (qg Y p hp hr o 1 [bU Y.k] pq _ (λa b=>m12 p o a b) ⟨165,[.bp (kx Y.k 1) 0],rfl,dC (aL rfl) iq,rfl,λs a b Bt hF=>ajO Y p o hp a b Bt.1 Bt.2 s hF⟩ s hF) rfl rfl λt' b' hR=>?_;simp only[pkA,seval,pkB Y _];exact fC (rest:=[bU Y.k]) hR rfl rfl rfl dU (by simp[])
def t13 (p:Pol) (o:Option Fa):List In:=jq p o 0 (λt=>m13 p o t) 0
theorem Ze {τ:Type} (Y:Ys τ) (p:Pol) (o:Option Fa) (hp:p.types.length<=9223372036854775806) (hr:p.rules.length<=9223372036854775806) (s:τ) (hF:Fut G Y s (t13 p o)) :
 FnR G Y 105 [.bp (kx Y.k 0) 0] s (t13 p o) [eng p o]:=by
 unfold t13 at hF ⊢
 have dU:ltL (kx Y.k 1) [eng p o]:=aI (cL Y.pos) cJ;have pq:ltL (kx Y.k 2) [bU Y.k]:=aI (cA (by decide)) cJ;refine dy (m:=1) (rs:=[.tmp 2]) [1500005] mixed Tryz.func105 rfl rfl rfl rfl (by kernel_rfl) (by simp) rfl dU (bu (dZ (by decide)) eC) ?_;simp only[fe,fU];simp only[lO,seval,pkB Y _,fp,fev];refine dB (ls:=[eng p o,bU Y.k]) rfl (oc Y p hp o 0 [bU Y.k] pq _ (λt=>m13 p o t) ⟨167,[.bp (kx Y.k 1) 0],rfl,dC (aL rfl) iq,rfl,λs t ht hF=>ajP Y p o hp t ht s hF⟩ s hF) rfl rfl λt' b' hR=>?_;simp only[pkA,seval,pkB Y _];exact fC (rest:=[bU Y.k]) hR rfl rfl rfl dU (by simp[])
def t15 (p:Pol) (o:Option Fa):List In:=b8 p.types.length (λs0=>emL o (i15 s0)) 1
theorem Zf {τ:Type} (Y:Ys τ) (p:Pol) (o:Option Fa) (hp:p.types.length<=9223372036854775806) (hr:p.rules.length<=9223372036854775806) (s:τ) (hF:Fut G Y s (t15 p o)) :
 FnR G Y 107 [.bp (kx Y.k 0) 0] s (t15 p o) [eng p o]:=by
 unfold t15 at hF ⊢
 have dU:ltL (kx Y.k 1) [eng p o]:=aI (cL Y.pos) cJ;have pq:ltL (kx Y.k 2) [bU Y.k]:=aI (cA (by decide)) cJ;refine dy (m:=1) (rs:=[.tmp 2]) [1500005] mixed Tryz.func107 rfl rfl rfl rfl (by kernel_rfl) (by simp) rfl dU (bu (dZ (by decide)) eC) ?_;simp only[fe,fU];simp only[lO,seval,pkB Y _,fp,fev];refine dB (ls:=[eng p o,bU Y.k]) rfl (jB Y p hp o 1 (by decide) [bU Y.k] pq _ (λs0=>emL o (i15 s0)) ⟨169,[.bp (kx Y.k 1) 0],rfl,dC (aL rfl) iq,rfl,λs x hx hF=>ajM Y p o x  s hF⟩ s hF) rfl rfl λt' b' hR=>?_;simp only[pkA,seval,pkB Y _];exact fC (rest:=[bU Y.k]) hR rfl rfl rfl dU (by simp[])
def t14 (o:Option Fa):List In:=emL o i14
def Oz (p:Pol) (o:Option Fa):List (List In):=[t1 p o,t2 p o,t3 p o,t4 p o,t5 p o,t6 p o,t7 p o,t8 p o,t9 p o,t10 p o,t11 p o,t12 p o,t13 p o,t14 o,t15 p o]
def fN (p:Pol) (o:Option Fa):List In:=(Oz p o).flatten
