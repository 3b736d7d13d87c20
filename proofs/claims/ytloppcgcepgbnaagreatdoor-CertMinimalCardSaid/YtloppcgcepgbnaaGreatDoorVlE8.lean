/- The engine of layer 17: the closures between, the rules. Printed by gen18.py. -/
import Derived.Test.YtloppcgcepgbnaaGreatDoorVlE7
set_option linter.all false
namespace Go.Proofs.YtloppcgcepgbnaaGreatDoor
open Go Go.Vl
variable {G:Gl}
set_option maxRecDepth 4000
def m3 (p:Pol) (o:Option Fa) (a b:Nat):List In:=gr p.types.length (fun s0=>emL o (i3 a b s0)) 1
def lD:=jj @pkA (jj @ptA @pkW)
theorem amc {τ:Type} (Y:Ys τ) (p:Pol) (o:Option Fa) (hp:p.types.length≤9223372036854775806) (a b:Nat) (ha:a<p.types.length) (hb:b<p.types.length) (s:τ) (hF:Fut G Y s (m3 p o a b)) :
 FnR G Y 146 [i64 (a:Int),i64 (b:Int),.bp (kx Y.k 1) 0] s (m3 p o a b) [eng p o,bP Y.k]:=by
 unfold m3 at hF ⊢
 have dQ:ltL (kx Y.k 2) [eng p o,bP Y.k]:=aD (cB Y.pos) (aD (cg (by decide)) cz)
 have oW:ltL (kx Y.k 4) [bP Y.k,bQ a,bQ b]:=fun q hq=>(aD (cB Y.pos) (aD (cg (by decide)) (aD cP (aD cP cz))):ltL (kx Y.k 4) [eng p o,bP Y.k,bQ a,bQ b]) q (aR _ hq)
 refine dm (m:=2) (rs:=[.tmp 5]) [1500008] mixed Tryz.func146 rfl rfl rfl rfl (by kernel_rfl) (by simp) rfl dQ (bj trivial (bj trivial (bj (dX (by decide)) eE))) ?_
 simp only[eY,fO]
 simp only[lD,seval,pkB Y _,fg,fnv]
 refine dt (ls:=[eng p o,bP Y.k,bQ a,bQ b]) rfl (jz Y p hp o 1 (by decide) [bP Y.k,bQ a,bQ b] oW _ (fun s0=>emL o (i3 a b s0)) ⟨148,[.bp (kx Y.k 1) 0,.bp (kx Y.k 2) 0,.bp (kx Y.k 3) 0],rfl,du (aH rfl) (du (aH rfl) (du (aH rfl) (ij))),rfl,fun s x hx hF=>al5 Y p o a b x (by omega) s hF⟩ s hF) rfl rfl fun t' b' hR=>?_
 simp only[pkA,seval,pkB Y _]
 exact ft (rest:=[bQ a,bQ b]) hR rfl rfl rfl dQ (by simp[])
def m5 (p:Pol) (o:Option Fa) (a b:Nat):List In:=gr p.types.length (fun s0=>emL o (i5 a b s0)) 1
theorem amd {τ:Type} (Y:Ys τ) (p:Pol) (o:Option Fa) (hp:p.types.length≤9223372036854775806) (a b:Nat) (ha:a<p.types.length) (hb:b<p.types.length) (s:τ) (hF:Fut G Y s (m5 p o a b)) :
 FnR G Y 150 [i64 (a:Int),i64 (b:Int),.bp (kx Y.k 1) 0] s (m5 p o a b) [eng p o,bP Y.k]:=by
 unfold m5 at hF ⊢
 have dQ:ltL (kx Y.k 2) [eng p o,bP Y.k]:=aD (cB Y.pos) (aD (cg (by decide)) cz)
 have oW:ltL (kx Y.k 4) [bP Y.k,bQ a,bQ b]:=fun q hq=>(aD (cB Y.pos) (aD (cg (by decide)) (aD cP (aD cP cz))):ltL (kx Y.k 4) [eng p o,bP Y.k,bQ a,bQ b]) q (aR _ hq)
 refine dm (m:=2) (rs:=[.tmp 5]) [1500008] mixed Tryz.func150 rfl rfl rfl rfl (by kernel_rfl) (by simp) rfl dQ (bj trivial (bj trivial (bj (dX (by decide)) eE))) ?_
 simp only[eY,fO]
 simp only[lD,seval,pkB Y _,fg,fnv]
 refine dt (ls:=[eng p o,bP Y.k,bQ a,bQ b]) rfl (jz Y p hp o 1 (by decide) [bP Y.k,bQ a,bQ b] oW _ (fun s0=>emL o (i5 a b s0)) ⟨151,[.bp (kx Y.k 1) 0,.bp (kx Y.k 2) 0,.bp (kx Y.k 3) 0],rfl,du (aH rfl) (du (aH rfl) (du (aH rfl) (ij))),rfl,fun s x hx hF=>al7 Y p o a b x (by omega) s hF⟩ s hF) rfl rfl fun t' b' hR=>?_
 simp only[pkA,seval,pkB Y _]
 exact ft (rest:=[bQ a,bQ b]) hR rfl rfl rfl dQ (by simp[])
def m6 (p:Pol) (o:Option Fa) (t:Nat):List In:=gr p.types.length (fun s0=>emL o (i6 t s0)) 1
theorem ame {τ:Type} (Y:Ys τ) (p:Pol) (o:Option Fa) (hp:p.types.length≤9223372036854775806) (t:Nat) (ht:t<p.types.length) (s:τ) (hF:Fut G Y s (m6 p o t)) :
 FnR G Y 152 [i64 (t:Int),.bp (kx Y.k 1) 0] s (m6 p o t) [eng p o,bP Y.k]:=by
 unfold m6 at hF ⊢
 have dQ:ltL (kx Y.k 2) [eng p o,bP Y.k]:=aD (cB Y.pos) (aD (cg (by decide)) cz)
 have oW:ltL (kx Y.k 3) [bP Y.k,bQ t]:=fun q hq=>(aD (cB Y.pos) (aD (cg (by decide)) (aD cP cz)):ltL (kx Y.k 3) [eng p o,bP Y.k,bQ t]) q (aR _ hq)
 refine dm (m:=2) (rs:=[.tmp 3]) [1500006] mixed Tryz.func152 rfl rfl rfl rfl (by kernel_rfl) (by simp) rfl dQ (bj trivial (bj (dX (by decide)) eE)) ?_
 simp only[eY,fO]
 simp only[lD,seval,pkB Y _,fg,fnv]
 refine dt (ls:=[eng p o,bP Y.k,bQ t]) rfl (jz Y p hp o 1 (by decide) [bP Y.k,bQ t] oW _ (fun s0=>emL o (i6 t s0)) ⟨153,[.bp (kx Y.k 1) 0,.bp (kx Y.k 2) 0],rfl,du (aH rfl) (du (aH rfl) (ij)),rfl,fun s x hx hF=>al8 Y p o t x  s hF⟩ s hF) rfl rfl fun t' b' hR=>?_
 simp only[pkA,seval,pkB Y _]
 exact ft (rest:=[bQ t]) hR rfl rfl rfl dQ (by simp[])
def m7 (p:Pol) (o:Option Fa) (t:Nat):List In:=gr p.types.length (fun s0=>emL o (i7 t s0)) 0
theorem amf {τ:Type} (Y:Ys τ) (p:Pol) (o:Option Fa) (hp:p.types.length≤9223372036854775806) (t:Nat) (ht:t<p.types.length) (s:τ) (hF:Fut G Y s (m7 p o t)) :
 FnR G Y 154 [i64 (t:Int),.bp (kx Y.k 1) 0] s (m7 p o t) [eng p o,bP Y.k]:=by
 unfold m7 at hF ⊢
 have dQ:ltL (kx Y.k 2) [eng p o,bP Y.k]:=aD (cB Y.pos) (aD (cg (by decide)) cz)
 have oW:ltL (kx Y.k 3) [bP Y.k,bQ t]:=fun q hq=>(aD (cB Y.pos) (aD (cg (by decide)) (aD cP cz)):ltL (kx Y.k 3) [eng p o,bP Y.k,bQ t]) q (aR _ hq)
 refine dm (m:=2) (rs:=[.tmp 3]) [1500006] mixed Tryz.func154 rfl rfl rfl rfl (by kernel_rfl) (by simp) rfl dQ (bj trivial (bj (dX (by decide)) eE)) ?_
 simp only[eY,fO]
 simp only[lD,seval,pkB Y _,fg,fnv]
 refine dt (ls:=[eng p o,bP Y.k,bQ t]) rfl (jz Y p hp o 0 (by decide) [bP Y.k,bQ t] oW _ (fun s0=>emL o (i7 t s0)) ⟨155,[.bp (kx Y.k 1) 0,.bp (kx Y.k 2) 0],rfl,du (aH rfl) (du (aH rfl) (ij)),rfl,fun s x hx hF=>al9 Y p o t x  s hF⟩ s hF) rfl rfl fun t' b' hR=>?_
 simp only[pkA,seval,pkB Y _]
 exact ft (rest:=[bQ t]) hR rfl rfl rfl dQ (by simp[])
def m8 (p:Pol) (o:Option Fa) (a b:Nat):List In:=ui p.types.length 0 (fun v w=>emL o (i8 a b v w))
theorem amg {τ:Type} (Y:Ys τ) (p:Pol) (o:Option Fa) (hp:p.types.length≤9223372036854775806) (a b:Nat) (ha:a<p.types.length) (hb:b<p.types.length) (s:τ) (hF:Fut G Y s (m8 p o a b)) :
 FnR G Y 157 [i64 (a:Int),i64 (b:Int),.bp (kx Y.k 1) 0] s (m8 p o a b) [eng p o,bP Y.k]:=by
 unfold m8 at hF ⊢
 have dQ:ltL (kx Y.k 2) [eng p o,bP Y.k]:=aD (cB Y.pos) (aD (cg (by decide)) cz)
 have oW:ltL (kx Y.k 4) [bP Y.k,bQ a,bQ b]:=fun q hq=>(aD (cB Y.pos) (aD (cg (by decide)) (aD cP (aD cP cz))):ltL (kx Y.k 4) [eng p o,bP Y.k,bQ a,bQ b]) q (aR _ hq)
 refine dm (m:=2) (rs:=[.tmp 5]) [1500008] mixed Tryz.func157 rfl rfl rfl rfl (by kernel_rfl) (by simp) rfl dQ (bj trivial (bj trivial (bj (dX (by decide)) eE))) ?_
 simp only[eY,fO]
 simp only[lD,seval,pkB Y _,fg,fnv]
 refine dt (ls:=[eng p o,bP Y.k,bQ a,bQ b]) rfl (Cj Y p o a b 0 159 [.bp (kx Y.k 1) 0,.bp (kx Y.k 2) 0,.bp (kx Y.k 3) 0] (du (aH rfl) (du (aH rfl) (du (aH rfl) (ij)))) rfl (fun v w=>emL o (i8 a b v w)) (fun s v w _ hF=>ama Y p o a b v w s hF) hp (by decide) s hF) rfl rfl fun t' b' hR=>?_
 simp only[pkA,seval,pkB Y _]
 exact ft (rest:=[bQ a,bQ b]) hR rfl rfl rfl dQ (by simp[])
def m9 (p:Pol) (o:Option Fa) (t:Nat):List In:=ui p.types.length 1 (fun v w=>emL o (i9 t v w))
theorem amh {τ:Type} (Y:Ys τ) (p:Pol) (o:Option Fa) (hp:p.types.length≤9223372036854775806) (t:Nat) (ht:t<p.types.length) (s:τ) (hF:Fut G Y s (m9 p o t)) :
 FnR G Y 160 [i64 (t:Int),.bp (kx Y.k 1) 0] s (m9 p o t) [eng p o,bP Y.k]:=by
 unfold m9 at hF ⊢
 have dQ:ltL (kx Y.k 2) [eng p o,bP Y.k]:=aD (cB Y.pos) (aD (cg (by decide)) cz)
 have oW:ltL (kx Y.k 3) [bP Y.k,bQ t]:=fun q hq=>(aD (cB Y.pos) (aD (cg (by decide)) (aD cP cz)):ltL (kx Y.k 3) [eng p o,bP Y.k,bQ t]) q (aR _ hq)
 refine dm (m:=2) (rs:=[.tmp 3]) [1500006] mixed Tryz.func160 rfl rfl rfl rfl (by kernel_rfl) (by simp) rfl dQ (bj trivial (bj (dX (by decide)) eE)) ?_
 simp only[eY,fO]
 simp only[lD,seval,pkB Y _,fg,fnv]
 refine dt (ls:=[eng p o,bP Y.k,bQ t]) rfl (N2 Y p o t 1 161 [.bp (kx Y.k 1) 0,.bp (kx Y.k 2) 0] (du (aH rfl) (du (aH rfl) (ij))) rfl (fun v w=>emL o (i9 t v w)) (fun s v w _ hF=>amb Y p o t v w s hF) hp (by decide) s hF) rfl rfl fun t' b' hR=>?_
 simp only[pkA,seval,pkB Y _]
 exact ft (rest:=[bQ t]) hR rfl rfl rfl dQ (by simp[])
def m10 (p:Pol) (o:Option Fa) (a b:Nat):List In:=ui p.types.length 0 (fun v w=>r10 o a b v w)
theorem ai7 {τ:Type} (Y:Ys τ) (p:Pol) (o:Option Fa) (hp:p.types.length≤9223372036854775806) (a b:Nat) (ha:a<p.types.length) (hb:b<p.types.length) (s:τ) (hF:Fut G Y s (m10 p o a b)) :
 FnR G Y 162 [i64 (a:Int),i64 (b:Int),.bp (kx Y.k 1) 0] s (m10 p o a b) [eng p o,bP Y.k]:=by
 unfold m10 at hF ⊢
 have dQ:ltL (kx Y.k 2) [eng p o,bP Y.k]:=aD (cB Y.pos) (aD (cg (by decide)) cz)
 have oW:ltL (kx Y.k 4) [bP Y.k,bQ a,bQ b]:=fun q hq=>(aD (cB Y.pos) (aD (cg (by decide)) (aD cP (aD cP cz))):ltL (kx Y.k 4) [eng p o,bP Y.k,bQ a,bQ b]) q (aR _ hq)
 refine dm (m:=2) (rs:=[.tmp 5]) [1500008] mixed Tryz.func162 rfl rfl rfl rfl (by kernel_rfl) (by simp) rfl dQ (bj trivial (bj trivial (bj (dX (by decide)) eE))) ?_
 simp only[eY,fO]
 simp only[lD,seval,pkB Y _,fg,fnv]
 refine dt (ls:=[eng p o,bP Y.k,bQ a,bQ b]) rfl (Cj Y p o a b 0 163 [.bp (kx Y.k 3) 0,.bp (kx Y.k 1) 0,.bp (kx Y.k 2) 0] (du (aH rfl) (du (aH rfl) (du (aH rfl) (ij)))) rfl (fun v w=>r10 o a b v w) (fun s v w _ hF=>adO Y p o a b v w s hF) hp (by decide) s hF) rfl rfl fun t' b' hR=>?_
 simp only[pkA,seval,pkB Y _]
 exact ft (rest:=[bQ a,bQ b]) hR rfl rfl rfl dQ (by simp[])
def m12 (p:Pol) (o:Option Fa) (a b:Nat):List In:=gr p.types.length (fun s0=>emL o (i12 a b s0)) 1
theorem ai8 {τ:Type} (Y:Ys τ) (p:Pol) (o:Option Fa) (hp:p.types.length≤9223372036854775806) (a b:Nat) (ha:a<p.types.length) (hb:b<p.types.length) (s:τ) (hF:Fut G Y s (m12 p o a b)) :
 FnR G Y 165 [i64 (a:Int),i64 (b:Int),.bp (kx Y.k 1) 0] s (m12 p o a b) [eng p o,bP Y.k]:=by
 unfold m12 at hF ⊢
 have dQ:ltL (kx Y.k 2) [eng p o,bP Y.k]:=aD (cB Y.pos) (aD (cg (by decide)) cz)
 have oW:ltL (kx Y.k 4) [bP Y.k,bQ a,bQ b]:=fun q hq=>(aD (cB Y.pos) (aD (cg (by decide)) (aD cP (aD cP cz))):ltL (kx Y.k 4) [eng p o,bP Y.k,bQ a,bQ b]) q (aR _ hq)
 refine dm (m:=2) (rs:=[.tmp 5]) [1500008] mixed Tryz.func165 rfl rfl rfl rfl (by kernel_rfl) (by simp) rfl dQ (bj trivial (bj trivial (bj (dX (by decide)) eE))) ?_
 simp only[eY,fO]
 simp only[lD,seval,pkB Y _,fg,fnv]
 refine dt (ls:=[eng p o,bP Y.k,bQ a,bQ b]) rfl (jz Y p hp o 1 (by decide) [bP Y.k,bQ a,bQ b] oW _ (fun s0=>emL o (i12 a b s0)) ⟨166,[.bp (kx Y.k 1) 0,.bp (kx Y.k 2) 0,.bp (kx Y.k 3) 0],rfl,du (aH rfl) (du (aH rfl) (du (aH rfl) (ij))),rfl,fun s x hx hF=>ai4 Y p o a b x  s hF⟩ s hF) rfl rfl fun t' b' hR=>?_
 simp only[pkA,seval,pkB Y _]
 exact ft (rest:=[bQ a,bQ b]) hR rfl rfl rfl dQ (by simp[])
def m13 (p:Pol) (o:Option Fa) (t:Nat):List In:=gr p.types.length (fun s0=>emL o (i13 t s0)) 1
theorem ai9 {τ:Type} (Y:Ys τ) (p:Pol) (o:Option Fa) (hp:p.types.length≤9223372036854775806) (t:Nat) (ht:t<p.types.length) (s:τ) (hF:Fut G Y s (m13 p o t)) :
 FnR G Y 167 [i64 (t:Int),.bp (kx Y.k 1) 0] s (m13 p o t) [eng p o,bP Y.k]:=by
 unfold m13 at hF ⊢
 have dQ:ltL (kx Y.k 2) [eng p o,bP Y.k]:=aD (cB Y.pos) (aD (cg (by decide)) cz)
 have oW:ltL (kx Y.k 3) [bP Y.k,bQ t]:=fun q hq=>(aD (cB Y.pos) (aD (cg (by decide)) (aD cP cz)):ltL (kx Y.k 3) [eng p o,bP Y.k,bQ t]) q (aR _ hq)
 refine dm (m:=2) (rs:=[.tmp 3]) [1500006] mixed Tryz.func167 rfl rfl rfl rfl (by kernel_rfl) (by simp) rfl dQ (bj trivial (bj (dX (by decide)) eE)) ?_
 simp only[eY,fO]
 simp only[lD,seval,pkB Y _,fg,fnv]
 refine dt (ls:=[eng p o,bP Y.k,bQ t]) rfl (jz Y p hp o 1 (by decide) [bP Y.k,bQ t] oW _ (fun s0=>emL o (i13 t s0)) ⟨168,[.bp (kx Y.k 1) 0,.bp (kx Y.k 2) 0],rfl,du (aH rfl) (du (aH rfl) (ij)),rfl,fun s x hx hF=>ai5 Y p o t x  s hF⟩ s hF) rfl rfl fun t' b' hR=>?_
 simp only[pkA,seval,pkB Y _]
 exact ft (rest:=[bQ t]) hR rfl rfl rfl dQ (by simp[])
def t1 (p:Pol) (o:Option Fa):List In:=kp p o 2 (fun t=>emL o (i1 t)) 0
theorem adP {τ:Type} (Y:Ys τ) (p:Pol) (o:Option Fa) (hp:p.types.length≤9223372036854775806) (hr:p.rules.length≤9223372036854775806) (s:τ) (hF:Fut G Y s (t1 p o)) :
 FnR G Y 93 [.bp (kx Y.k 0) 0] s (t1 p o) [eng p o]:=by
 unfold t1 at hF ⊢
 have dQ:ltL (kx Y.k 1) [eng p o]:=aD (cB Y.pos) cz
 have oW:ltL (kx Y.k 2) [bP Y.k]:=aD (cg (by decide)) cz
 refine dm (m:=1) (rs:=[.tmp 2]) [1500005] mixed Tryz.func93 rfl rfl rfl rfl (by kernel_rfl) (by simp) rfl dQ (bj (dX (by decide)) eE) ?_
 simp only[eY,fO]
 simp only[lD,seval,pkB Y _,fg,fev]
 refine dt (ls:=[eng p o,bP Y.k]) rfl (nJ Y p hp o 2 [bP Y.k] oW _ (fun t=>emL o (i1 t)) ⟨141,[.bp (kx Y.k 1) 0],rfl,du (aH rfl) ij,rfl,fun s t ht hF=>al3 Y p o t  s hF⟩ s hF) rfl rfl fun t' b' hR=>?_
 simp only[pkA,seval,pkB Y _]
 exact ft (rest:=[bP Y.k]) hR rfl rfl rfl dQ (by simp[])
def t2 (p:Pol) (o:Option Fa):List In:=kp p o 1 (fun t=>emL o (i2 t)) 0
theorem adQ {τ:Type} (Y:Ys τ) (p:Pol) (o:Option Fa) (hp:p.types.length≤9223372036854775806) (hr:p.rules.length≤9223372036854775806) (s:τ) (hF:Fut G Y s (t2 p o)) :
 FnR G Y 94 [.bp (kx Y.k 0) 0] s (t2 p o) [eng p o]:=by
 unfold t2 at hF ⊢
 have dQ:ltL (kx Y.k 1) [eng p o]:=aD (cB Y.pos) cz
 have oW:ltL (kx Y.k 2) [bP Y.k]:=aD (cg (by decide)) cz
 refine dm (m:=1) (rs:=[.tmp 2]) [1500005] mixed Tryz.func94 rfl rfl rfl rfl (by kernel_rfl) (by simp) rfl dQ (bj (dX (by decide)) eE) ?_
 simp only[eY,fO]
 simp only[lD,seval,pkB Y _,fg,fev]
 refine dt (ls:=[eng p o,bP Y.k]) rfl (nJ Y p hp o 1 [bP Y.k] oW _ (fun t=>emL o (i2 t)) ⟨144,[.bp (kx Y.k 1) 0],rfl,du (aH rfl) ij,rfl,fun s t ht hF=>al4 Y p o t (by omega) s hF⟩ s hF) rfl rfl fun t' b' hR=>?_
 simp only[pkA,seval,pkB Y _]
 exact ft (rest:=[bP Y.k]) hR rfl rfl rfl dQ (by simp[])
def t3 (p:Pol) (o:Option Fa):List In:=ka p o 5 (fun a b=>m3 p o a b) 0
theorem adR {τ:Type} (Y:Ys τ) (p:Pol) (o:Option Fa) (hp:p.types.length≤9223372036854775806) (hr:p.rules.length≤9223372036854775806) (s:τ) (hF:Fut G Y s (t3 p o)) :
 FnR G Y 95 [.bp (kx Y.k 0) 0] s (t3 p o) [eng p o]:=by
 unfold t3 at hF ⊢
 have dQ:ltL (kx Y.k 1) [eng p o]:=aD (cB Y.pos) cz
 have oW:ltL (kx Y.k 2) [bP Y.k]:=aD (cg (by decide)) cz
 refine dm (m:=1) (rs:=[.tmp 2]) [1500005] mixed Tryz.func95 rfl rfl rfl rfl (by kernel_rfl) (by simp) rfl dQ (bj (dX (by decide)) eE) ?_
 simp only[eY,fO]
 simp only[lD,seval,pkB Y _,fg,fev]
 refine dt (ls:=[eng p o,bP Y.k]) rfl (pQ Y p hp hr o 5 [bP Y.k] oW _ (fun a b=>m3 p o a b) ⟨146,[.bp (kx Y.k 1) 0],rfl,du (aH rfl) ij,rfl,fun s a b A5 hF=>amc Y p o hp a b A5.1 A5.2 s hF⟩ s hF) rfl rfl fun t' b' hR=>?_
 simp only[pkA,seval,pkB Y _]
 exact ft (rest:=[bP Y.k]) hR rfl rfl rfl dQ (by simp[])
def t4 (p:Pol) (o:Option Fa):List In:=ka p o 5 (fun a b=>emL o (i4 a b)) 0
theorem adS {τ:Type} (Y:Ys τ) (p:Pol) (o:Option Fa) (hp:p.types.length≤9223372036854775806) (hr:p.rules.length≤9223372036854775806) (s:τ) (hF:Fut G Y s (t4 p o)) :
 FnR G Y 96 [.bp (kx Y.k 0) 0] s (t4 p o) [eng p o]:=by
 unfold t4 at hF ⊢
 have dQ:ltL (kx Y.k 1) [eng p o]:=aD (cB Y.pos) cz
 have oW:ltL (kx Y.k 2) [bP Y.k]:=aD (cg (by decide)) cz
 refine dm (m:=1) (rs:=[.tmp 2]) [1500005] mixed Tryz.func96 rfl rfl rfl rfl (by kernel_rfl) (by simp) rfl dQ (bj (dX (by decide)) eE) ?_
 simp only[eY,fO]
 simp only[lD,seval,pkB Y _,fg,fev]
 refine dt (ls:=[eng p o,bP Y.k]) rfl (pQ Y p hp hr o 5 [bP Y.k] oW _ (fun a b=>emL o (i4 a b)) ⟨149,[.bp (kx Y.k 1) 0],rfl,du (aH rfl) ij,rfl,fun s a b A5 hF=>al6 Y p o a b  s hF⟩ s hF) rfl rfl fun t' b' hR=>?_
 simp only[pkA,seval,pkB Y _]
 exact ft (rest:=[bP Y.k]) hR rfl rfl rfl dQ (by simp[])
def t5 (p:Pol) (o:Option Fa):List In:=ka p o 5 (fun a b=>m5 p o a b) 0
theorem adT {τ:Type} (Y:Ys τ) (p:Pol) (o:Option Fa) (hp:p.types.length≤9223372036854775806) (hr:p.rules.length≤9223372036854775806) (s:τ) (hF:Fut G Y s (t5 p o)) :
 FnR G Y 97 [.bp (kx Y.k 0) 0] s (t5 p o) [eng p o]:=by
 unfold t5 at hF ⊢
 have dQ:ltL (kx Y.k 1) [eng p o]:=aD (cB Y.pos) cz
 have oW:ltL (kx Y.k 2) [bP Y.k]:=aD (cg (by decide)) cz
 refine dm (m:=1) (rs:=[.tmp 2]) [1500005] mixed Tryz.func97 rfl rfl rfl rfl (by kernel_rfl) (by simp) rfl dQ (bj (dX (by decide)) eE) ?_
 simp only[eY,fO]
 simp only[lD,seval,pkB Y _,fg,fev]
 refine dt (ls:=[eng p o,bP Y.k]) rfl (pQ Y p hp hr o 5 [bP Y.k] oW _ (fun a b=>m5 p o a b) ⟨150,[.bp (kx Y.k 1) 0],rfl,du (aH rfl) ij,rfl,fun s a b A5 hF=>amd Y p o hp a b A5.1 A5.2 s hF⟩ s hF) rfl rfl fun t' b' hR=>?_
 simp only[pkA,seval,pkB Y _]
 exact ft (rest:=[bP Y.k]) hR rfl rfl rfl dQ (by simp[])
def t6 (p:Pol) (o:Option Fa):List In:=kp p o 4 (fun t=>m6 p o t) 0
theorem adU {τ:Type} (Y:Ys τ) (p:Pol) (o:Option Fa) (hp:p.types.length≤9223372036854775806) (hr:p.rules.length≤9223372036854775806) (s:τ) (hF:Fut G Y s (t6 p o)) :
 FnR G Y 98 [.bp (kx Y.k 0) 0] s (t6 p o) [eng p o]:=by
 unfold t6 at hF ⊢
 have dQ:ltL (kx Y.k 1) [eng p o]:=aD (cB Y.pos) cz
 have oW:ltL (kx Y.k 2) [bP Y.k]:=aD (cg (by decide)) cz
 refine dm (m:=1) (rs:=[.tmp 2]) [1500005] mixed Tryz.func98 rfl rfl rfl rfl (by kernel_rfl) (by simp) rfl dQ (bj (dX (by decide)) eE) ?_
 simp only[eY,fO]
 simp only[lD,seval,pkB Y _,fg,fev]
 refine dt (ls:=[eng p o,bP Y.k]) rfl (nJ Y p hp o 4 [bP Y.k] oW _ (fun t=>m6 p o t) ⟨152,[.bp (kx Y.k 1) 0],rfl,du (aH rfl) ij,rfl,fun s t ht hF=>ame Y p o hp t ht s hF⟩ s hF) rfl rfl fun t' b' hR=>?_
 simp only[pkA,seval,pkB Y _]
 exact ft (rest:=[bP Y.k]) hR rfl rfl rfl dQ (by simp[])
def t7 (p:Pol) (o:Option Fa):List In:=kp p o 8 (fun t=>m7 p o t) 0
theorem adV {τ:Type} (Y:Ys τ) (p:Pol) (o:Option Fa) (hp:p.types.length≤9223372036854775806) (hr:p.rules.length≤9223372036854775806) (s:τ) (hF:Fut G Y s (t7 p o)) :
 FnR G Y 99 [.bp (kx Y.k 0) 0] s (t7 p o) [eng p o]:=by
 unfold t7 at hF ⊢
 have dQ:ltL (kx Y.k 1) [eng p o]:=aD (cB Y.pos) cz
 have oW:ltL (kx Y.k 2) [bP Y.k]:=aD (cg (by decide)) cz
 refine dm (m:=1) (rs:=[.tmp 2]) [1500005] mixed Tryz.func99 rfl rfl rfl rfl (by kernel_rfl) (by simp) rfl dQ (bj (dX (by decide)) eE) ?_
 simp only[eY,fO]
 simp only[lD,seval,pkB Y _,fg,fev]
 refine dt (ls:=[eng p o,bP Y.k]) rfl (nJ Y p hp o 8 [bP Y.k] oW _ (fun t=>m7 p o t) ⟨154,[.bp (kx Y.k 1) 0],rfl,du (aH rfl) ij,rfl,fun s t ht hF=>amf Y p o hp t ht s hF⟩ s hF) rfl rfl fun t' b' hR=>?_
 simp only[pkA,seval,pkB Y _]
 exact ft (rest:=[bP Y.k]) hR rfl rfl rfl dQ (by simp[])
def t8 (p:Pol) (o:Option Fa):List In:=ka p o 3 (fun a b=>m8 p o a b) 0
theorem adW {τ:Type} (Y:Ys τ) (p:Pol) (o:Option Fa) (hp:p.types.length≤9223372036854775806) (hr:p.rules.length≤9223372036854775806) (s:τ) (hF:Fut G Y s (t8 p o)) :
 FnR G Y 100 [.bp (kx Y.k 0) 0] s (t8 p o) [eng p o]:=by
 unfold t8 at hF ⊢
 have dQ:ltL (kx Y.k 1) [eng p o]:=aD (cB Y.pos) cz
 have oW:ltL (kx Y.k 2) [bP Y.k]:=aD (cg (by decide)) cz
 refine dm (m:=1) (rs:=[.tmp 2]) [1500005] mixed Tryz.func100 rfl rfl rfl rfl (by kernel_rfl) (by simp) rfl dQ (bj (dX (by decide)) eE) ?_
 simp only[eY,fO]
 simp only[lD,seval,pkB Y _,fg,fev]
 refine dt (ls:=[eng p o,bP Y.k]) rfl (pQ Y p hp hr o 3 [bP Y.k] oW _ (fun a b=>m8 p o a b) ⟨157,[.bp (kx Y.k 1) 0],rfl,du (aH rfl) ij,rfl,fun s a b A5 hF=>amg Y p o hp a b A5.1 A5.2 s hF⟩ s hF) rfl rfl fun t' b' hR=>?_
 simp only[pkA,seval,pkB Y _]
 exact ft (rest:=[bP Y.k]) hR rfl rfl rfl dQ (by simp[])
def t9 (p:Pol) (o:Option Fa):List In:=kp p o 16 (fun t=>m9 p o t) 0
theorem adX {τ:Type} (Y:Ys τ) (p:Pol) (o:Option Fa) (hp:p.types.length≤9223372036854775806) (hr:p.rules.length≤9223372036854775806) (s:τ) (hF:Fut G Y s (t9 p o)) :
 FnR G Y 101 [.bp (kx Y.k 0) 0] s (t9 p o) [eng p o]:=by
 unfold t9 at hF ⊢
 have dQ:ltL (kx Y.k 1) [eng p o]:=aD (cB Y.pos) cz
 have oW:ltL (kx Y.k 2) [bP Y.k]:=aD (cg (by decide)) cz
 refine dm (m:=1) (rs:=[.tmp 2]) [1500005] mixed Tryz.func101 rfl rfl rfl rfl (by kernel_rfl) (by simp) rfl dQ (bj (dX (by decide)) eE) ?_
 simp only[eY,fO]
 simp only[lD,seval,pkB Y _,fg,fev]
 refine dt (ls:=[eng p o,bP Y.k]) rfl (nJ Y p hp o 16 [bP Y.k] oW _ (fun t=>m9 p o t) ⟨160,[.bp (kx Y.k 1) 0],rfl,du (aH rfl) ij,rfl,fun s t ht hF=>amh Y p o hp t ht s hF⟩ s hF) rfl rfl fun t' b' hR=>?_
 simp only[pkA,seval,pkB Y _]
 exact ft (rest:=[bP Y.k]) hR rfl rfl rfl dQ (by simp[])
def t10 (p:Pol) (o:Option Fa):List In:=ka p o 4 (fun a b=>m10 p o a b) 0
theorem Yl {τ:Type} (Y:Ys τ) (p:Pol) (o:Option Fa) (hp:p.types.length≤9223372036854775806) (hr:p.rules.length≤9223372036854775806) (s:τ) (hF:Fut G Y s (t10 p o)) :
 FnR G Y 102 [.bp (kx Y.k 0) 0] s (t10 p o) [eng p o]:=by
 unfold t10 at hF ⊢
 have dQ:ltL (kx Y.k 1) [eng p o]:=aD (cB Y.pos) cz
 have oW:ltL (kx Y.k 2) [bP Y.k]:=aD (cg (by decide)) cz
 refine dm (m:=1) (rs:=[.tmp 2]) [1500005] mixed Tryz.func102 rfl rfl rfl rfl (by kernel_rfl) (by simp) rfl dQ (bj (dX (by decide)) eE) ?_
 simp only[eY,fO]
 simp only[lD,seval,pkB Y _,fg,fev]
 refine dt (ls:=[eng p o,bP Y.k]) rfl (pQ Y p hp hr o 4 [bP Y.k] oW _ (fun a b=>m10 p o a b) ⟨162,[.bp (kx Y.k 1) 0],rfl,du (aH rfl) ij,rfl,fun s a b A5 hF=>ai7 Y p o hp a b A5.1 A5.2 s hF⟩ s hF) rfl rfl fun t' b' hR=>?_
 simp only[pkA,seval,pkB Y _]
 exact ft (rest:=[bP Y.k]) hR rfl rfl rfl dQ (by simp[])
def t11 (p:Pol) (o:Option Fa):List In:=ka p o 2 (fun a b=>emL o (i11 a b)) 0
theorem Ym {τ:Type} (Y:Ys τ) (p:Pol) (o:Option Fa) (hp:p.types.length≤9223372036854775806) (hr:p.rules.length≤9223372036854775806) (s:τ) (hF:Fut G Y s (t11 p o)) :
 FnR G Y 103 [.bp (kx Y.k 0) 0] s (t11 p o) [eng p o]:=by
 unfold t11 at hF ⊢
 have dQ:ltL (kx Y.k 1) [eng p o]:=aD (cB Y.pos) cz
 have oW:ltL (kx Y.k 2) [bP Y.k]:=aD (cg (by decide)) cz
 refine dm (m:=1) (rs:=[.tmp 2]) [1500005] mixed Tryz.func103 rfl rfl rfl rfl (by kernel_rfl) (by simp) rfl dQ (bj (dX (by decide)) eE) ?_
 simp only[eY,fO]
 simp only[lD,seval,pkB Y _,fg,fev]
 refine dt (ls:=[eng p o,bP Y.k]) rfl (pQ Y p hp hr o 2 [bP Y.k] oW _ (fun a b=>emL o (i11 a b)) ⟨164,[.bp (kx Y.k 1) 0],rfl,du (aH rfl) ij,rfl,fun s a b A5 hF=>ai3 Y p o a b  s hF⟩ s hF) rfl rfl fun t' b' hR=>?_
 simp only[pkA,seval,pkB Y _]
 exact ft (rest:=[bP Y.k]) hR rfl rfl rfl dQ (by simp[])
def t12 (p:Pol) (o:Option Fa):List In:=ka p o 1 (fun a b=>m12 p o a b) 0
theorem Yn {τ:Type} (Y:Ys τ) (p:Pol) (o:Option Fa) (hp:p.types.length≤9223372036854775806) (hr:p.rules.length≤9223372036854775806) (s:τ) (hF:Fut G Y s (t12 p o)) :
 FnR G Y 104 [.bp (kx Y.k 0) 0] s (t12 p o) [eng p o]:=by
 unfold t12 at hF ⊢
 have dQ:ltL (kx Y.k 1) [eng p o]:=aD (cB Y.pos) cz
 have oW:ltL (kx Y.k 2) [bP Y.k]:=aD (cg (by decide)) cz
 refine dm (m:=1) (rs:=[.tmp 2]) [1500005] mixed Tryz.func104 rfl rfl rfl rfl (by kernel_rfl) (by simp) rfl dQ (bj (dX (by decide)) eE) ?_
 simp only[eY,fO]
 simp only[lD,seval,pkB Y _,fg,fev]
 refine dt (ls:=[eng p o,bP Y.k]) rfl (pQ Y p hp hr o 1 [bP Y.k] oW _ (fun a b=>m12 p o a b) ⟨165,[.bp (kx Y.k 1) 0],rfl,du (aH rfl) ij,rfl,fun s a b A5 hF=>ai8 Y p o hp a b A5.1 A5.2 s hF⟩ s hF) rfl rfl fun t' b' hR=>?_
 simp only[pkA,seval,pkB Y _]
 exact ft (rest:=[bP Y.k]) hR rfl rfl rfl dQ (by simp[])
def t13 (p:Pol) (o:Option Fa):List In:=kp p o 0 (fun t=>m13 p o t) 0
theorem Yo {τ:Type} (Y:Ys τ) (p:Pol) (o:Option Fa) (hp:p.types.length≤9223372036854775806) (hr:p.rules.length≤9223372036854775806) (s:τ) (hF:Fut G Y s (t13 p o)) :
 FnR G Y 105 [.bp (kx Y.k 0) 0] s (t13 p o) [eng p o]:=by
 unfold t13 at hF ⊢
 have dQ:ltL (kx Y.k 1) [eng p o]:=aD (cB Y.pos) cz
 have oW:ltL (kx Y.k 2) [bP Y.k]:=aD (cg (by decide)) cz
 refine dm (m:=1) (rs:=[.tmp 2]) [1500005] mixed Tryz.func105 rfl rfl rfl rfl (by kernel_rfl) (by simp) rfl dQ (bj (dX (by decide)) eE) ?_
 simp only[eY,fO]
 simp only[lD,seval,pkB Y _,fg,fev]
 refine dt (ls:=[eng p o,bP Y.k]) rfl (nJ Y p hp o 0 [bP Y.k] oW _ (fun t=>m13 p o t) ⟨167,[.bp (kx Y.k 1) 0],rfl,du (aH rfl) ij,rfl,fun s t ht hF=>ai9 Y p o hp t ht s hF⟩ s hF) rfl rfl fun t' b' hR=>?_
 simp only[pkA,seval,pkB Y _]
 exact ft (rest:=[bP Y.k]) hR rfl rfl rfl dQ (by simp[])
def t15 (p:Pol) (o:Option Fa):List In:=gr p.types.length (fun s0=>emL o (i15 s0)) 1
theorem Yp {τ:Type} (Y:Ys τ) (p:Pol) (o:Option Fa) (hp:p.types.length≤9223372036854775806) (hr:p.rules.length≤9223372036854775806) (s:τ) (hF:Fut G Y s (t15 p o)) :
 FnR G Y 107 [.bp (kx Y.k 0) 0] s (t15 p o) [eng p o]:=by
 unfold t15 at hF ⊢
 have dQ:ltL (kx Y.k 1) [eng p o]:=aD (cB Y.pos) cz
 have oW:ltL (kx Y.k 2) [bP Y.k]:=aD (cg (by decide)) cz
 refine dm (m:=1) (rs:=[.tmp 2]) [1500005] mixed Tryz.func107 rfl rfl rfl rfl (by kernel_rfl) (by simp) rfl dQ (bj (dX (by decide)) eE) ?_
 simp only[eY,fO]
 simp only[lD,seval,pkB Y _,fg,fev]
 refine dt (ls:=[eng p o,bP Y.k]) rfl (jz Y p hp o 1 (by decide) [bP Y.k] oW _ (fun s0=>emL o (i15 s0)) ⟨169,[.bp (kx Y.k 1) 0],rfl,du (aH rfl) ij,rfl,fun s x hx hF=>ai6 Y p o x  s hF⟩ s hF) rfl rfl fun t' b' hR=>?_
 simp only[pkA,seval,pkB Y _]
 exact ft (rest:=[bP Y.k]) hR rfl rfl rfl dQ (by simp[])
def t14 (o:Option Fa):List In:=emL o i14
def Tq (p:Pol) (o:Option Fa):List (List In):=[t1 p o,t2 p o,t3 p o,t4 p o,t5 p o,t6 p o,t7 p o,t8 p o,t9 p o,t10 p o,t11 p o,t12 p o,t13 p o,t14 o,t15 p o]
def iS (p:Pol) (o:Option Fa):List In:=(Tq p o).flatten
