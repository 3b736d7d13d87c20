/- The engine of layer 17: the closures between, the rules. Printed by gen18.py. -/
import Derived.Test.YtjfjdomfldolcaaGreatVlE7
set_option linter.all false
namespace Go.Proofs.YtjfjdomfldolcaaGreat
open Go Go.Vl
variable {G:Gl}
set_option maxRecDepth 4000
def m3 (p:Pol) (o:Option Fa) (a b:Nat):List In:=bV p.types.length (fun s0=>emL o (i3 a b s0)) 1
def k8:=jj @pkA (jj @ptA @pkW)
theorem aio {τ:Type} (Y:Ys τ) (p:Pol) (o:Option Fa) (hp:p.types.length≤9223372036854775806) (a b:Nat) (ha:a<p.types.length) (hb:b<p.types.length) (s:τ) (hF:Fut G Y s (m3 p o a b)) :
 FnR G Y 115 [i64 (a:Int),i64 (b:Int),.bp (kx Y.k 1) 0] s (m3 p o a b) [eng p o,bS Y.k]:=by
 unfold m3 at hF ⊢
 have dV:ltL (kx Y.k 2) [eng p o,bS Y.k]:=aG (cO Y.pos) (aG (cA (by decide)) cM)
 have o0:ltL (kx Y.k 4) [bS Y.k,bU a,bU b]:=fun q hq=>(aG (cO Y.pos) (aG (cA (by decide)) (aG cV (aG cV cM))):ltL (kx Y.k 4) [eng p o,bS Y.k,bU a,bU b]) q (aD _ hq)
 refine dt (m:=2) (rs:=[.tmp 5]) [1500008] mixed Tryz.func115 rfl rfl rfl rfl (by kernel_rfl) (by simp) rfl dV (bz trivial (bz trivial (bz (ec (by decide)) eD))) ?_
 simp only[fe,fS]
 simp only[k8,seval,pkB Y _,fp,fnv]
 refine dy (ls:=[eng p o,bS Y.k,bU a,bU b]) rfl (jr Y p hp o 1 (by decide) [bS Y.k,bU a,bU b] o0 _ (fun s0=>emL o (i3 a b s0)) ⟨117,[.bp (kx Y.k 1) 0,.bp (kx Y.k 2) 0,.bp (kx Y.k 3) 0],rfl,dz (aJ rfl) (dz (aJ rfl) (dz (aJ rfl) (iu))),rfl,fun s x hx hF=>aih Y p o a b x (by omega) s hF⟩ s hF) rfl rfl fun t' b' hR=>?_
 simp only[pkA,seval,pkB Y _]
 exact fD (rest:=[bU a,bU b]) hR rfl rfl rfl dV (by simp[])
def m5 (p:Pol) (o:Option Fa) (a b:Nat):List In:=bV p.types.length (fun s0=>emL o (i5 a b s0)) 1
theorem aip {τ:Type} (Y:Ys τ) (p:Pol) (o:Option Fa) (hp:p.types.length≤9223372036854775806) (a b:Nat) (ha:a<p.types.length) (hb:b<p.types.length) (s:τ) (hF:Fut G Y s (m5 p o a b)) :
 FnR G Y 119 [i64 (a:Int),i64 (b:Int),.bp (kx Y.k 1) 0] s (m5 p o a b) [eng p o,bS Y.k]:=by
 unfold m5 at hF ⊢
 have dV:ltL (kx Y.k 2) [eng p o,bS Y.k]:=aG (cO Y.pos) (aG (cA (by decide)) cM)
 have o0:ltL (kx Y.k 4) [bS Y.k,bU a,bU b]:=fun q hq=>(aG (cO Y.pos) (aG (cA (by decide)) (aG cV (aG cV cM))):ltL (kx Y.k 4) [eng p o,bS Y.k,bU a,bU b]) q (aD _ hq)
 refine dt (m:=2) (rs:=[.tmp 5]) [1500008] mixed Tryz.func119 rfl rfl rfl rfl (by kernel_rfl) (by simp) rfl dV (bz trivial (bz trivial (bz (ec (by decide)) eD))) ?_
 simp only[fe,fS]
 simp only[k8,seval,pkB Y _,fp,fnv]
 refine dy (ls:=[eng p o,bS Y.k,bU a,bU b]) rfl (jr Y p hp o 1 (by decide) [bS Y.k,bU a,bU b] o0 _ (fun s0=>emL o (i5 a b s0)) ⟨120,[.bp (kx Y.k 1) 0,.bp (kx Y.k 2) 0,.bp (kx Y.k 3) 0],rfl,dz (aJ rfl) (dz (aJ rfl) (dz (aJ rfl) (iu))),rfl,fun s x hx hF=>aij Y p o a b x (by omega) s hF⟩ s hF) rfl rfl fun t' b' hR=>?_
 simp only[pkA,seval,pkB Y _]
 exact fD (rest:=[bU a,bU b]) hR rfl rfl rfl dV (by simp[])
def m6 (p:Pol) (o:Option Fa) (t:Nat):List In:=bV p.types.length (fun s0=>emL o (i6 t s0)) 1
theorem aiq {τ:Type} (Y:Ys τ) (p:Pol) (o:Option Fa) (hp:p.types.length≤9223372036854775806) (t:Nat) (ht:t<p.types.length) (s:τ) (hF:Fut G Y s (m6 p o t)) :
 FnR G Y 121 [i64 (t:Int),.bp (kx Y.k 1) 0] s (m6 p o t) [eng p o,bS Y.k]:=by
 unfold m6 at hF ⊢
 have dV:ltL (kx Y.k 2) [eng p o,bS Y.k]:=aG (cO Y.pos) (aG (cA (by decide)) cM)
 have o0:ltL (kx Y.k 3) [bS Y.k,bU t]:=fun q hq=>(aG (cO Y.pos) (aG (cA (by decide)) (aG cV cM)):ltL (kx Y.k 3) [eng p o,bS Y.k,bU t]) q (aD _ hq)
 refine dt (m:=2) (rs:=[.tmp 3]) [1500006] mixed Tryz.func121 rfl rfl rfl rfl (by kernel_rfl) (by simp) rfl dV (bz trivial (bz (ec (by decide)) eD)) ?_
 simp only[fe,fS]
 simp only[k8,seval,pkB Y _,fp,fnv]
 refine dy (ls:=[eng p o,bS Y.k,bU t]) rfl (jr Y p hp o 1 (by decide) [bS Y.k,bU t] o0 _ (fun s0=>emL o (i6 t s0)) ⟨122,[.bp (kx Y.k 1) 0,.bp (kx Y.k 2) 0],rfl,dz (aJ rfl) (dz (aJ rfl) (iu)),rfl,fun s x hx hF=>aik Y p o t x  s hF⟩ s hF) rfl rfl fun t' b' hR=>?_
 simp only[pkA,seval,pkB Y _]
 exact fD (rest:=[bU t]) hR rfl rfl rfl dV (by simp[])
def m7 (p:Pol) (o:Option Fa) (t:Nat):List In:=bV p.types.length (fun s0=>emL o (i7 t s0)) 0
theorem air {τ:Type} (Y:Ys τ) (p:Pol) (o:Option Fa) (hp:p.types.length≤9223372036854775806) (t:Nat) (ht:t<p.types.length) (s:τ) (hF:Fut G Y s (m7 p o t)) :
 FnR G Y 123 [i64 (t:Int),.bp (kx Y.k 1) 0] s (m7 p o t) [eng p o,bS Y.k]:=by
 unfold m7 at hF ⊢
 have dV:ltL (kx Y.k 2) [eng p o,bS Y.k]:=aG (cO Y.pos) (aG (cA (by decide)) cM)
 have o0:ltL (kx Y.k 3) [bS Y.k,bU t]:=fun q hq=>(aG (cO Y.pos) (aG (cA (by decide)) (aG cV cM)):ltL (kx Y.k 3) [eng p o,bS Y.k,bU t]) q (aD _ hq)
 refine dt (m:=2) (rs:=[.tmp 3]) [1500006] mixed Tryz.func123 rfl rfl rfl rfl (by kernel_rfl) (by simp) rfl dV (bz trivial (bz (ec (by decide)) eD)) ?_
 simp only[fe,fS]
 simp only[k8,seval,pkB Y _,fp,fnv]
 refine dy (ls:=[eng p o,bS Y.k,bU t]) rfl (jr Y p hp o 0 (by decide) [bS Y.k,bU t] o0 _ (fun s0=>emL o (i7 t s0)) ⟨124,[.bp (kx Y.k 1) 0,.bp (kx Y.k 2) 0],rfl,dz (aJ rfl) (dz (aJ rfl) (iu)),rfl,fun s x hx hF=>ail Y p o t x  s hF⟩ s hF) rfl rfl fun t' b' hR=>?_
 simp only[pkA,seval,pkB Y _]
 exact fD (rest:=[bU t]) hR rfl rfl rfl dV (by simp[])
def m8 (p:Pol) (o:Option Fa) (a b:Nat):List In:=uE p.types.length 0 (fun v w=>emL o (i8 a b v w))
theorem ais {τ:Type} (Y:Ys τ) (p:Pol) (o:Option Fa) (hp:p.types.length≤9223372036854775806) (a b:Nat) (ha:a<p.types.length) (hb:b<p.types.length) (s:τ) (hF:Fut G Y s (m8 p o a b)) :
 FnR G Y 126 [i64 (a:Int),i64 (b:Int),.bp (kx Y.k 1) 0] s (m8 p o a b) [eng p o,bS Y.k]:=by
 unfold m8 at hF ⊢
 have dV:ltL (kx Y.k 2) [eng p o,bS Y.k]:=aG (cO Y.pos) (aG (cA (by decide)) cM)
 have o0:ltL (kx Y.k 4) [bS Y.k,bU a,bU b]:=fun q hq=>(aG (cO Y.pos) (aG (cA (by decide)) (aG cV (aG cV cM))):ltL (kx Y.k 4) [eng p o,bS Y.k,bU a,bU b]) q (aD _ hq)
 refine dt (m:=2) (rs:=[.tmp 5]) [1500008] mixed Tryz.func126 rfl rfl rfl rfl (by kernel_rfl) (by simp) rfl dV (bz trivial (bz trivial (bz (ec (by decide)) eD))) ?_
 simp only[fe,fS]
 simp only[k8,seval,pkB Y _,fp,fnv]
 refine dy (ls:=[eng p o,bS Y.k,bU a,bU b]) rfl (BY Y p o a b 0 128 [.bp (kx Y.k 1) 0,.bp (kx Y.k 2) 0,.bp (kx Y.k 3) 0] (dz (aJ rfl) (dz (aJ rfl) (dz (aJ rfl) (iu)))) rfl (fun v w=>emL o (i8 a b v w)) (fun s v w _ hF=>aim Y p o a b v w s hF) hp (by decide) s hF) rfl rfl fun t' b' hR=>?_
 simp only[pkA,seval,pkB Y _]
 exact fD (rest:=[bU a,bU b]) hR rfl rfl rfl dV (by simp[])
def m9 (p:Pol) (o:Option Fa) (t:Nat):List In:=uE p.types.length 1 (fun v w=>emL o (i9 t v w))
theorem ait {τ:Type} (Y:Ys τ) (p:Pol) (o:Option Fa) (hp:p.types.length≤9223372036854775806) (t:Nat) (ht:t<p.types.length) (s:τ) (hF:Fut G Y s (m9 p o t)) :
 FnR G Y 129 [i64 (t:Int),.bp (kx Y.k 1) 0] s (m9 p o t) [eng p o,bS Y.k]:=by
 unfold m9 at hF ⊢
 have dV:ltL (kx Y.k 2) [eng p o,bS Y.k]:=aG (cO Y.pos) (aG (cA (by decide)) cM)
 have o0:ltL (kx Y.k 3) [bS Y.k,bU t]:=fun q hq=>(aG (cO Y.pos) (aG (cA (by decide)) (aG cV cM)):ltL (kx Y.k 3) [eng p o,bS Y.k,bU t]) q (aD _ hq)
 refine dt (m:=2) (rs:=[.tmp 3]) [1500006] mixed Tryz.func129 rfl rfl rfl rfl (by kernel_rfl) (by simp) rfl dV (bz trivial (bz (ec (by decide)) eD)) ?_
 simp only[fe,fS]
 simp only[k8,seval,pkB Y _,fp,fnv]
 refine dy (ls:=[eng p o,bS Y.k,bU t]) rfl (Ls Y p o t 1 130 [.bp (kx Y.k 1) 0,.bp (kx Y.k 2) 0] (dz (aJ rfl) (dz (aJ rfl) (iu))) rfl (fun v w=>emL o (i9 t v w)) (fun s v w _ hF=>ain Y p o t v w s hF) hp (by decide) s hF) rfl rfl fun t' b' hR=>?_
 simp only[pkA,seval,pkB Y _]
 exact fD (rest:=[bU t]) hR rfl rfl rfl dV (by simp[])
def m10 (p:Pol) (o:Option Fa) (a b:Nat):List In:=uE p.types.length 0 (fun v w=>r10 o a b v w)
theorem aeW {τ:Type} (Y:Ys τ) (p:Pol) (o:Option Fa) (hp:p.types.length≤9223372036854775806) (a b:Nat) (ha:a<p.types.length) (hb:b<p.types.length) (s:τ) (hF:Fut G Y s (m10 p o a b)) :
 FnR G Y 131 [i64 (a:Int),i64 (b:Int),.bp (kx Y.k 1) 0] s (m10 p o a b) [eng p o,bS Y.k]:=by
 unfold m10 at hF ⊢
 have dV:ltL (kx Y.k 2) [eng p o,bS Y.k]:=aG (cO Y.pos) (aG (cA (by decide)) cM)
 have o0:ltL (kx Y.k 4) [bS Y.k,bU a,bU b]:=fun q hq=>(aG (cO Y.pos) (aG (cA (by decide)) (aG cV (aG cV cM))):ltL (kx Y.k 4) [eng p o,bS Y.k,bU a,bU b]) q (aD _ hq)
 refine dt (m:=2) (rs:=[.tmp 5]) [1500008] mixed Tryz.func131 rfl rfl rfl rfl (by kernel_rfl) (by simp) rfl dV (bz trivial (bz trivial (bz (ec (by decide)) eD))) ?_
 simp only[fe,fS]
 simp only[k8,seval,pkB Y _,fp,fnv]
 refine dy (ls:=[eng p o,bS Y.k,bU a,bU b]) rfl (BY Y p o a b 0 132 [.bp (kx Y.k 3) 0,.bp (kx Y.k 1) 0,.bp (kx Y.k 2) 0] (dz (aJ rfl) (dz (aJ rfl) (dz (aJ rfl) (iu)))) rfl (fun v w=>r10 o a b v w) (fun s v w _ hF=>ZE Y p o a b v w s hF) hp (by decide) s hF) rfl rfl fun t' b' hR=>?_
 simp only[pkA,seval,pkB Y _]
 exact fD (rest:=[bU a,bU b]) hR rfl rfl rfl dV (by simp[])
def m12 (p:Pol) (o:Option Fa) (a b:Nat):List In:=bV p.types.length (fun s0=>emL o (i12 a b s0)) 1
theorem aeX {τ:Type} (Y:Ys τ) (p:Pol) (o:Option Fa) (hp:p.types.length≤9223372036854775806) (a b:Nat) (ha:a<p.types.length) (hb:b<p.types.length) (s:τ) (hF:Fut G Y s (m12 p o a b)) :
 FnR G Y 134 [i64 (a:Int),i64 (b:Int),.bp (kx Y.k 1) 0] s (m12 p o a b) [eng p o,bS Y.k]:=by
 unfold m12 at hF ⊢
 have dV:ltL (kx Y.k 2) [eng p o,bS Y.k]:=aG (cO Y.pos) (aG (cA (by decide)) cM)
 have o0:ltL (kx Y.k 4) [bS Y.k,bU a,bU b]:=fun q hq=>(aG (cO Y.pos) (aG (cA (by decide)) (aG cV (aG cV cM))):ltL (kx Y.k 4) [eng p o,bS Y.k,bU a,bU b]) q (aD _ hq)
 refine dt (m:=2) (rs:=[.tmp 5]) [1500008] mixed Tryz.func134 rfl rfl rfl rfl (by kernel_rfl) (by simp) rfl dV (bz trivial (bz trivial (bz (ec (by decide)) eD))) ?_
 simp only[fe,fS]
 simp only[k8,seval,pkB Y _,fp,fnv]
 refine dy (ls:=[eng p o,bS Y.k,bU a,bU b]) rfl (jr Y p hp o 1 (by decide) [bS Y.k,bU a,bU b] o0 _ (fun s0=>emL o (i12 a b s0)) ⟨135,[.bp (kx Y.k 1) 0,.bp (kx Y.k 2) 0,.bp (kx Y.k 3) 0],rfl,dz (aJ rfl) (dz (aJ rfl) (dz (aJ rfl) (iu))),rfl,fun s x hx hF=>aeT Y p o a b x  s hF⟩ s hF) rfl rfl fun t' b' hR=>?_
 simp only[pkA,seval,pkB Y _]
 exact fD (rest:=[bU a,bU b]) hR rfl rfl rfl dV (by simp[])
def m13 (p:Pol) (o:Option Fa) (t:Nat):List In:=bV p.types.length (fun s0=>emL o (i13 t s0)) 1
theorem aeY {τ:Type} (Y:Ys τ) (p:Pol) (o:Option Fa) (hp:p.types.length≤9223372036854775806) (t:Nat) (ht:t<p.types.length) (s:τ) (hF:Fut G Y s (m13 p o t)) :
 FnR G Y 136 [i64 (t:Int),.bp (kx Y.k 1) 0] s (m13 p o t) [eng p o,bS Y.k]:=by
 unfold m13 at hF ⊢
 have dV:ltL (kx Y.k 2) [eng p o,bS Y.k]:=aG (cO Y.pos) (aG (cA (by decide)) cM)
 have o0:ltL (kx Y.k 3) [bS Y.k,bU t]:=fun q hq=>(aG (cO Y.pos) (aG (cA (by decide)) (aG cV cM)):ltL (kx Y.k 3) [eng p o,bS Y.k,bU t]) q (aD _ hq)
 refine dt (m:=2) (rs:=[.tmp 3]) [1500006] mixed Tryz.func136 rfl rfl rfl rfl (by kernel_rfl) (by simp) rfl dV (bz trivial (bz (ec (by decide)) eD)) ?_
 simp only[fe,fS]
 simp only[k8,seval,pkB Y _,fp,fnv]
 refine dy (ls:=[eng p o,bS Y.k,bU t]) rfl (jr Y p hp o 1 (by decide) [bS Y.k,bU t] o0 _ (fun s0=>emL o (i13 t s0)) ⟨137,[.bp (kx Y.k 1) 0,.bp (kx Y.k 2) 0],rfl,dz (aJ rfl) (dz (aJ rfl) (iu)),rfl,fun s x hx hF=>aeU Y p o t x  s hF⟩ s hF) rfl rfl fun t' b' hR=>?_
 simp only[pkA,seval,pkB Y _]
 exact fD (rest:=[bU t]) hR rfl rfl rfl dV (by simp[])
def t1 (p:Pol) (o:Option Fa):List In:=jb p o 2 (fun t=>emL o (i1 t)) 0
theorem ZF {τ:Type} (Y:Ys τ) (p:Pol) (o:Option Fa) (hp:p.types.length≤9223372036854775806) (hr:p.rules.length≤9223372036854775806) (s:τ) (hF:Fut G Y s (t1 p o)) :
 FnR G Y 75 [.bp (kx Y.k 0) 0] s (t1 p o) [eng p o]:=by
 unfold t1 at hF ⊢
 have dV:ltL (kx Y.k 1) [eng p o]:=aG (cO Y.pos) cM
 have o0:ltL (kx Y.k 2) [bS Y.k]:=aG (cA (by decide)) cM
 refine dt (m:=1) (rs:=[.tmp 2]) [1500005] mixed Tryz.func75 rfl rfl rfl rfl (by kernel_rfl) (by simp) rfl dV (bz (ec (by decide)) eD) ?_
 simp only[fe,fS]
 simp only[k8,seval,pkB Y _,fp,fev]
 refine dy (ls:=[eng p o,bS Y.k]) rfl (nE Y p hp o 2 [bS Y.k] o0 _ (fun t=>emL o (i1 t)) ⟨110,[.bp (kx Y.k 1) 0],rfl,dz (aJ rfl) iu,rfl,fun s t ht hF=>aie Y p o t  s hF⟩ s hF) rfl rfl fun t' b' hR=>?_
 simp only[pkA,seval,pkB Y _]
 exact fD (rest:=[bS Y.k]) hR rfl rfl rfl dV (by simp[])
def t2 (p:Pol) (o:Option Fa):List In:=jb p o 1 (fun t=>emL o (i2 t)) 0
theorem ZG {τ:Type} (Y:Ys τ) (p:Pol) (o:Option Fa) (hp:p.types.length≤9223372036854775806) (hr:p.rules.length≤9223372036854775806) (s:τ) (hF:Fut G Y s (t2 p o)) :
 FnR G Y 76 [.bp (kx Y.k 0) 0] s (t2 p o) [eng p o]:=by
 unfold t2 at hF ⊢
 have dV:ltL (kx Y.k 1) [eng p o]:=aG (cO Y.pos) cM
 have o0:ltL (kx Y.k 2) [bS Y.k]:=aG (cA (by decide)) cM
 refine dt (m:=1) (rs:=[.tmp 2]) [1500005] mixed Tryz.func76 rfl rfl rfl rfl (by kernel_rfl) (by simp) rfl dV (bz (ec (by decide)) eD) ?_
 simp only[fe,fS]
 simp only[k8,seval,pkB Y _,fp,fev]
 refine dy (ls:=[eng p o,bS Y.k]) rfl (nE Y p hp o 1 [bS Y.k] o0 _ (fun t=>emL o (i2 t)) ⟨113,[.bp (kx Y.k 1) 0],rfl,dz (aJ rfl) iu,rfl,fun s t ht hF=>aif Y p o t (by omega) s hF⟩ s hF) rfl rfl fun t' b' hR=>?_
 simp only[pkA,seval,pkB Y _]
 exact fD (rest:=[bS Y.k]) hR rfl rfl rfl dV (by simp[])
def t3 (p:Pol) (o:Option Fa):List In:=jy p o 5 (fun a b=>m3 p o a b) 0
theorem ZH {τ:Type} (Y:Ys τ) (p:Pol) (o:Option Fa) (hp:p.types.length≤9223372036854775806) (hr:p.rules.length≤9223372036854775806) (s:τ) (hF:Fut G Y s (t3 p o)) :
 FnR G Y 77 [.bp (kx Y.k 0) 0] s (t3 p o) [eng p o]:=by
 unfold t3 at hF ⊢
 have dV:ltL (kx Y.k 1) [eng p o]:=aG (cO Y.pos) cM
 have o0:ltL (kx Y.k 2) [bS Y.k]:=aG (cA (by decide)) cM
 refine dt (m:=1) (rs:=[.tmp 2]) [1500005] mixed Tryz.func77 rfl rfl rfl rfl (by kernel_rfl) (by simp) rfl dV (bz (ec (by decide)) eD) ?_
 simp only[fe,fS]
 simp only[k8,seval,pkB Y _,fp,fev]
 refine dy (ls:=[eng p o,bS Y.k]) rfl (pV Y p hp hr o 5 [bS Y.k] o0 _ (fun a b=>m3 p o a b) ⟨115,[.bp (kx Y.k 1) 0],rfl,dz (aJ rfl) iu,rfl,fun s a b GA hF=>aio Y p o hp a b GA.1 GA.2 s hF⟩ s hF) rfl rfl fun t' b' hR=>?_
 simp only[pkA,seval,pkB Y _]
 exact fD (rest:=[bS Y.k]) hR rfl rfl rfl dV (by simp[])
def t4 (p:Pol) (o:Option Fa):List In:=jy p o 5 (fun a b=>emL o (i4 a b)) 0
theorem ZI {τ:Type} (Y:Ys τ) (p:Pol) (o:Option Fa) (hp:p.types.length≤9223372036854775806) (hr:p.rules.length≤9223372036854775806) (s:τ) (hF:Fut G Y s (t4 p o)) :
 FnR G Y 78 [.bp (kx Y.k 0) 0] s (t4 p o) [eng p o]:=by
 unfold t4 at hF ⊢
 have dV:ltL (kx Y.k 1) [eng p o]:=aG (cO Y.pos) cM
 have o0:ltL (kx Y.k 2) [bS Y.k]:=aG (cA (by decide)) cM
 refine dt (m:=1) (rs:=[.tmp 2]) [1500005] mixed Tryz.func78 rfl rfl rfl rfl (by kernel_rfl) (by simp) rfl dV (bz (ec (by decide)) eD) ?_
 simp only[fe,fS]
 simp only[k8,seval,pkB Y _,fp,fev]
 refine dy (ls:=[eng p o,bS Y.k]) rfl (pV Y p hp hr o 5 [bS Y.k] o0 _ (fun a b=>emL o (i4 a b)) ⟨118,[.bp (kx Y.k 1) 0],rfl,dz (aJ rfl) iu,rfl,fun s a b GA hF=>aii Y p o a b  s hF⟩ s hF) rfl rfl fun t' b' hR=>?_
 simp only[pkA,seval,pkB Y _]
 exact fD (rest:=[bS Y.k]) hR rfl rfl rfl dV (by simp[])
def t5 (p:Pol) (o:Option Fa):List In:=jy p o 5 (fun a b=>m5 p o a b) 0
theorem ZJ {τ:Type} (Y:Ys τ) (p:Pol) (o:Option Fa) (hp:p.types.length≤9223372036854775806) (hr:p.rules.length≤9223372036854775806) (s:τ) (hF:Fut G Y s (t5 p o)) :
 FnR G Y 79 [.bp (kx Y.k 0) 0] s (t5 p o) [eng p o]:=by
 unfold t5 at hF ⊢
 have dV:ltL (kx Y.k 1) [eng p o]:=aG (cO Y.pos) cM
 have o0:ltL (kx Y.k 2) [bS Y.k]:=aG (cA (by decide)) cM
 refine dt (m:=1) (rs:=[.tmp 2]) [1500005] mixed Tryz.func79 rfl rfl rfl rfl (by kernel_rfl) (by simp) rfl dV (bz (ec (by decide)) eD) ?_
 simp only[fe,fS]
 simp only[k8,seval,pkB Y _,fp,fev]
 refine dy (ls:=[eng p o,bS Y.k]) rfl (pV Y p hp hr o 5 [bS Y.k] o0 _ (fun a b=>m5 p o a b) ⟨119,[.bp (kx Y.k 1) 0],rfl,dz (aJ rfl) iu,rfl,fun s a b GA hF=>aip Y p o hp a b GA.1 GA.2 s hF⟩ s hF) rfl rfl fun t' b' hR=>?_
 simp only[pkA,seval,pkB Y _]
 exact fD (rest:=[bS Y.k]) hR rfl rfl rfl dV (by simp[])
def t6 (p:Pol) (o:Option Fa):List In:=jb p o 4 (fun t=>m6 p o t) 0
theorem ZK {τ:Type} (Y:Ys τ) (p:Pol) (o:Option Fa) (hp:p.types.length≤9223372036854775806) (hr:p.rules.length≤9223372036854775806) (s:τ) (hF:Fut G Y s (t6 p o)) :
 FnR G Y 80 [.bp (kx Y.k 0) 0] s (t6 p o) [eng p o]:=by
 unfold t6 at hF ⊢
 have dV:ltL (kx Y.k 1) [eng p o]:=aG (cO Y.pos) cM
 have o0:ltL (kx Y.k 2) [bS Y.k]:=aG (cA (by decide)) cM
 refine dt (m:=1) (rs:=[.tmp 2]) [1500005] mixed Tryz.func80 rfl rfl rfl rfl (by kernel_rfl) (by simp) rfl dV (bz (ec (by decide)) eD) ?_
 simp only[fe,fS]
 simp only[k8,seval,pkB Y _,fp,fev]
 refine dy (ls:=[eng p o,bS Y.k]) rfl (nE Y p hp o 4 [bS Y.k] o0 _ (fun t=>m6 p o t) ⟨121,[.bp (kx Y.k 1) 0],rfl,dz (aJ rfl) iu,rfl,fun s t ht hF=>aiq Y p o hp t ht s hF⟩ s hF) rfl rfl fun t' b' hR=>?_
 simp only[pkA,seval,pkB Y _]
 exact fD (rest:=[bS Y.k]) hR rfl rfl rfl dV (by simp[])
def t7 (p:Pol) (o:Option Fa):List In:=jb p o 8 (fun t=>m7 p o t) 0
theorem ZL {τ:Type} (Y:Ys τ) (p:Pol) (o:Option Fa) (hp:p.types.length≤9223372036854775806) (hr:p.rules.length≤9223372036854775806) (s:τ) (hF:Fut G Y s (t7 p o)) :
 FnR G Y 81 [.bp (kx Y.k 0) 0] s (t7 p o) [eng p o]:=by
 unfold t7 at hF ⊢
 have dV:ltL (kx Y.k 1) [eng p o]:=aG (cO Y.pos) cM
 have o0:ltL (kx Y.k 2) [bS Y.k]:=aG (cA (by decide)) cM
 refine dt (m:=1) (rs:=[.tmp 2]) [1500005] mixed Tryz.func81 rfl rfl rfl rfl (by kernel_rfl) (by simp) rfl dV (bz (ec (by decide)) eD) ?_
 simp only[fe,fS]
 simp only[k8,seval,pkB Y _,fp,fev]
 refine dy (ls:=[eng p o,bS Y.k]) rfl (nE Y p hp o 8 [bS Y.k] o0 _ (fun t=>m7 p o t) ⟨123,[.bp (kx Y.k 1) 0],rfl,dz (aJ rfl) iu,rfl,fun s t ht hF=>air Y p o hp t ht s hF⟩ s hF) rfl rfl fun t' b' hR=>?_
 simp only[pkA,seval,pkB Y _]
 exact fD (rest:=[bS Y.k]) hR rfl rfl rfl dV (by simp[])
def t8 (p:Pol) (o:Option Fa):List In:=jy p o 3 (fun a b=>m8 p o a b) 0
theorem ZM {τ:Type} (Y:Ys τ) (p:Pol) (o:Option Fa) (hp:p.types.length≤9223372036854775806) (hr:p.rules.length≤9223372036854775806) (s:τ) (hF:Fut G Y s (t8 p o)) :
 FnR G Y 82 [.bp (kx Y.k 0) 0] s (t8 p o) [eng p o]:=by
 unfold t8 at hF ⊢
 have dV:ltL (kx Y.k 1) [eng p o]:=aG (cO Y.pos) cM
 have o0:ltL (kx Y.k 2) [bS Y.k]:=aG (cA (by decide)) cM
 refine dt (m:=1) (rs:=[.tmp 2]) [1500005] mixed Tryz.func82 rfl rfl rfl rfl (by kernel_rfl) (by simp) rfl dV (bz (ec (by decide)) eD) ?_
 simp only[fe,fS]
 simp only[k8,seval,pkB Y _,fp,fev]
 refine dy (ls:=[eng p o,bS Y.k]) rfl (pV Y p hp hr o 3 [bS Y.k] o0 _ (fun a b=>m8 p o a b) ⟨126,[.bp (kx Y.k 1) 0],rfl,dz (aJ rfl) iu,rfl,fun s a b GA hF=>ais Y p o hp a b GA.1 GA.2 s hF⟩ s hF) rfl rfl fun t' b' hR=>?_
 simp only[pkA,seval,pkB Y _]
 exact fD (rest:=[bS Y.k]) hR rfl rfl rfl dV (by simp[])
def t9 (p:Pol) (o:Option Fa):List In:=jb p o 16 (fun t=>m9 p o t) 0
theorem ZN {τ:Type} (Y:Ys τ) (p:Pol) (o:Option Fa) (hp:p.types.length≤9223372036854775806) (hr:p.rules.length≤9223372036854775806) (s:τ) (hF:Fut G Y s (t9 p o)) :
 FnR G Y 83 [.bp (kx Y.k 0) 0] s (t9 p o) [eng p o]:=by
 unfold t9 at hF ⊢
 have dV:ltL (kx Y.k 1) [eng p o]:=aG (cO Y.pos) cM
 have o0:ltL (kx Y.k 2) [bS Y.k]:=aG (cA (by decide)) cM
 refine dt (m:=1) (rs:=[.tmp 2]) [1500005] mixed Tryz.func83 rfl rfl rfl rfl (by kernel_rfl) (by simp) rfl dV (bz (ec (by decide)) eD) ?_
 simp only[fe,fS]
 simp only[k8,seval,pkB Y _,fp,fev]
 refine dy (ls:=[eng p o,bS Y.k]) rfl (nE Y p hp o 16 [bS Y.k] o0 _ (fun t=>m9 p o t) ⟨129,[.bp (kx Y.k 1) 0],rfl,dz (aJ rfl) iu,rfl,fun s t ht hF=>ait Y p o hp t ht s hF⟩ s hF) rfl rfl fun t' b' hR=>?_
 simp only[pkA,seval,pkB Y _]
 exact fD (rest:=[bS Y.k]) hR rfl rfl rfl dV (by simp[])
def t10 (p:Pol) (o:Option Fa):List In:=jy p o 4 (fun a b=>m10 p o a b) 0
theorem Uk {τ:Type} (Y:Ys τ) (p:Pol) (o:Option Fa) (hp:p.types.length≤9223372036854775806) (hr:p.rules.length≤9223372036854775806) (s:τ) (hF:Fut G Y s (t10 p o)) :
 FnR G Y 84 [.bp (kx Y.k 0) 0] s (t10 p o) [eng p o]:=by
 unfold t10 at hF ⊢
 have dV:ltL (kx Y.k 1) [eng p o]:=aG (cO Y.pos) cM
 have o0:ltL (kx Y.k 2) [bS Y.k]:=aG (cA (by decide)) cM
 refine dt (m:=1) (rs:=[.tmp 2]) [1500005] mixed Tryz.func84 rfl rfl rfl rfl (by kernel_rfl) (by simp) rfl dV (bz (ec (by decide)) eD) ?_
 simp only[fe,fS]
 simp only[k8,seval,pkB Y _,fp,fev]
 refine dy (ls:=[eng p o,bS Y.k]) rfl (pV Y p hp hr o 4 [bS Y.k] o0 _ (fun a b=>m10 p o a b) ⟨131,[.bp (kx Y.k 1) 0],rfl,dz (aJ rfl) iu,rfl,fun s a b GA hF=>aeW Y p o hp a b GA.1 GA.2 s hF⟩ s hF) rfl rfl fun t' b' hR=>?_
 simp only[pkA,seval,pkB Y _]
 exact fD (rest:=[bS Y.k]) hR rfl rfl rfl dV (by simp[])
def t11 (p:Pol) (o:Option Fa):List In:=jy p o 2 (fun a b=>emL o (i11 a b)) 0
theorem Ul {τ:Type} (Y:Ys τ) (p:Pol) (o:Option Fa) (hp:p.types.length≤9223372036854775806) (hr:p.rules.length≤9223372036854775806) (s:τ) (hF:Fut G Y s (t11 p o)) :
 FnR G Y 85 [.bp (kx Y.k 0) 0] s (t11 p o) [eng p o]:=by
 unfold t11 at hF ⊢
 have dV:ltL (kx Y.k 1) [eng p o]:=aG (cO Y.pos) cM
 have o0:ltL (kx Y.k 2) [bS Y.k]:=aG (cA (by decide)) cM
 refine dt (m:=1) (rs:=[.tmp 2]) [1500005] mixed Tryz.func85 rfl rfl rfl rfl (by kernel_rfl) (by simp) rfl dV (bz (ec (by decide)) eD) ?_
 simp only[fe,fS]
 simp only[k8,seval,pkB Y _,fp,fev]
 refine dy (ls:=[eng p o,bS Y.k]) rfl (pV Y p hp hr o 2 [bS Y.k] o0 _ (fun a b=>emL o (i11 a b)) ⟨133,[.bp (kx Y.k 1) 0],rfl,dz (aJ rfl) iu,rfl,fun s a b GA hF=>aeS Y p o a b  s hF⟩ s hF) rfl rfl fun t' b' hR=>?_
 simp only[pkA,seval,pkB Y _]
 exact fD (rest:=[bS Y.k]) hR rfl rfl rfl dV (by simp[])
def t12 (p:Pol) (o:Option Fa):List In:=jy p o 1 (fun a b=>m12 p o a b) 0
theorem Um {τ:Type} (Y:Ys τ) (p:Pol) (o:Option Fa) (hp:p.types.length≤9223372036854775806) (hr:p.rules.length≤9223372036854775806) (s:τ) (hF:Fut G Y s (t12 p o)) :
 FnR G Y 86 [.bp (kx Y.k 0) 0] s (t12 p o) [eng p o]:=by
 unfold t12 at hF ⊢
 have dV:ltL (kx Y.k 1) [eng p o]:=aG (cO Y.pos) cM
 have o0:ltL (kx Y.k 2) [bS Y.k]:=aG (cA (by decide)) cM
 refine dt (m:=1) (rs:=[.tmp 2]) [1500005] mixed Tryz.func86 rfl rfl rfl rfl (by kernel_rfl) (by simp) rfl dV (bz (ec (by decide)) eD) ?_
 simp only[fe,fS]
 simp only[k8,seval,pkB Y _,fp,fev]
 refine dy (ls:=[eng p o,bS Y.k]) rfl (pV Y p hp hr o 1 [bS Y.k] o0 _ (fun a b=>m12 p o a b) ⟨134,[.bp (kx Y.k 1) 0],rfl,dz (aJ rfl) iu,rfl,fun s a b GA hF=>aeX Y p o hp a b GA.1 GA.2 s hF⟩ s hF) rfl rfl fun t' b' hR=>?_
 simp only[pkA,seval,pkB Y _]
 exact fD (rest:=[bS Y.k]) hR rfl rfl rfl dV (by simp[])
def t13 (p:Pol) (o:Option Fa):List In:=jb p o 0 (fun t=>m13 p o t) 0
theorem Un {τ:Type} (Y:Ys τ) (p:Pol) (o:Option Fa) (hp:p.types.length≤9223372036854775806) (hr:p.rules.length≤9223372036854775806) (s:τ) (hF:Fut G Y s (t13 p o)) :
 FnR G Y 87 [.bp (kx Y.k 0) 0] s (t13 p o) [eng p o]:=by
 unfold t13 at hF ⊢
 have dV:ltL (kx Y.k 1) [eng p o]:=aG (cO Y.pos) cM
 have o0:ltL (kx Y.k 2) [bS Y.k]:=aG (cA (by decide)) cM
 refine dt (m:=1) (rs:=[.tmp 2]) [1500005] mixed Tryz.func87 rfl rfl rfl rfl (by kernel_rfl) (by simp) rfl dV (bz (ec (by decide)) eD) ?_
 simp only[fe,fS]
 simp only[k8,seval,pkB Y _,fp,fev]
 refine dy (ls:=[eng p o,bS Y.k]) rfl (nE Y p hp o 0 [bS Y.k] o0 _ (fun t=>m13 p o t) ⟨136,[.bp (kx Y.k 1) 0],rfl,dz (aJ rfl) iu,rfl,fun s t ht hF=>aeY Y p o hp t ht s hF⟩ s hF) rfl rfl fun t' b' hR=>?_
 simp only[pkA,seval,pkB Y _]
 exact fD (rest:=[bS Y.k]) hR rfl rfl rfl dV (by simp[])
def t15 (p:Pol) (o:Option Fa):List In:=bV p.types.length (fun s0=>emL o (i15 s0)) 1
theorem Uo {τ:Type} (Y:Ys τ) (p:Pol) (o:Option Fa) (hp:p.types.length≤9223372036854775806) (hr:p.rules.length≤9223372036854775806) (s:τ) (hF:Fut G Y s (t15 p o)) :
 FnR G Y 89 [.bp (kx Y.k 0) 0] s (t15 p o) [eng p o]:=by
 unfold t15 at hF ⊢
 have dV:ltL (kx Y.k 1) [eng p o]:=aG (cO Y.pos) cM
 have o0:ltL (kx Y.k 2) [bS Y.k]:=aG (cA (by decide)) cM
 refine dt (m:=1) (rs:=[.tmp 2]) [1500005] mixed Tryz.func89 rfl rfl rfl rfl (by kernel_rfl) (by simp) rfl dV (bz (ec (by decide)) eD) ?_
 simp only[fe,fS]
 simp only[k8,seval,pkB Y _,fp,fev]
 refine dy (ls:=[eng p o,bS Y.k]) rfl (jr Y p hp o 1 (by decide) [bS Y.k] o0 _ (fun s0=>emL o (i15 s0)) ⟨138,[.bp (kx Y.k 1) 0],rfl,dz (aJ rfl) iu,rfl,fun s x hx hF=>aeV Y p o x  s hF⟩ s hF) rfl rfl fun t' b' hR=>?_
 simp only[pkA,seval,pkB Y _]
 exact fD (rest:=[bS Y.k]) hR rfl rfl rfl dV (by simp[])
def t14 (o:Option Fa):List In:=emL o i14
def Lt (p:Pol) (o:Option Fa):List (List In):=[t1 p o,t2 p o,t3 p o,t4 p o,t5 p o,t6 p o,t7 p o,t8 p o,t9 p o,t10 p o,t11 p o,t12 p o,t13 p o,t14 o,t15 p o]
def gp (p:Pol) (o:Option Fa):List In:=(Lt p o).flatten
