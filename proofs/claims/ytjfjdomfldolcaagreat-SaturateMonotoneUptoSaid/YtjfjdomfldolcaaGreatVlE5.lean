/- The engine of layer 17: the closures that emit. Printed by gen18.py. -/
import Derived.Test.YtjfjdomfldolcaaGreatVlE4
set_option linter.all false
namespace Go.Proofs.YtjfjdomfldolcaaGreat
open Go Go.Vl
variable {G:Gl}
set_option maxRecDepth 4000
def i1 (t:Nat):In:=⟨1,[],[bu 0 t]⟩
def oU:=jj @pkA (jj @ptA @pkV)
def lP:=jj @pkA (jj @ptA @pkE)
theorem aie {τ:Type} (Y:Ys τ) (p:Pol) (o:Option Fa) (t:Nat) (s:τ) (hF:Fut G Y s (emL o (i1 t))) :
 FnR G Y 110 [i64 (t:Int),.bp (kx Y.k 1) 0] s (emL o (i1 t)) [eng p o,bS Y.k]:=by
 have dV:ltL (kx Y.k 2) [eng p o,bS Y.k]:=aG (cO Y.pos) (aG (cA (by decide)) cM)
 have zk:∀ x∈[i64 (t:Int),V.bp (kx Y.k 1) 0],x.lt (kx Y.k 2):=bz trivial (bz (ec (by decide)) (eD))
 refine dt (m:=2) (rs:=[.tmp 3]) [1500008,2850001,2880001] mixed Tryz.func110 rfl rfl rfl rfl (by kernel_rfl) (by simp) rfl dV zk ?_
 simp only[pkA,seval,pkB Y _]
 refine lX ?_
 simp only[oU,seval,pkB Y _]
 refine aB rfl (fq _ _) (fun _=>rfl) ?_
 simp only[lP,seval,pkB Y _]
 refine wJ (i1 t) rfl hF rfl rfl rfl ?_
 intro t' b' hR
 simp only[pkA,seval,pkB Y _]
 exact iq hR rfl rfl dV (by simp[])
def i2 (t:Nat):In:=⟨2,[],[bu (t+1:Nat) t]⟩
theorem aif {τ:Type} (Y:Ys τ) (p:Pol) (o:Option Fa) (t:Nat) (ht:t≤9223372036854775806) (s:τ) (hF:Fut G Y s (emL o (i2 t))) :
 FnR G Y 113 [i64 (t:Int),.bp (kx Y.k 1) 0] s (emL o (i2 t)) [eng p o,bS Y.k]:=by
 have dV:ltL (kx Y.k 2) [eng p o,bS Y.k]:=aG (cO Y.pos) (aG (cA (by decide)) cM)
 have zk:∀ x∈[i64 (t:Int),V.bp (kx Y.k 1) 0],x.lt (kx Y.k 2):=bz trivial (bz (ec (by decide)) (eD))
 have wt:=bG (n:=(t:Int)+1) (k:=t+1) (by omega) (by omega)
 refine dt (m:=2) (rs:=[.tmp 3]) [1500010,2850001,2880001] mixed Tryz.func113 rfl rfl rfl rfl (by kernel_rfl) (by simp) rfl dV zk ?_
 simp only[pkA,seval,pkB Y _]
 refine lX ?_
 simp only[oU,seval,pkB Y _,wt]
 refine aB rfl (fq _ _) (fun _=>rfl) ?_
 simp only[lP,seval,pkB Y _]
 refine wJ (i2 t) rfl hF rfl rfl rfl ?_
 intro t' b' hR
 simp only[pkA,seval,pkB Y _]
 exact iq hR rfl rfl dV (by simp[])
def i3 (a b s0:Nat):In:=⟨3,[bu s0 a],[bu (b+1:Nat) b]⟩
def Uh:=jj @pkA (jj @ptA (jj @pkE @pkV))
theorem aih {τ:Type} (Y:Ys τ) (p:Pol) (o:Option Fa) (a b s0:Nat) (hb:b≤9223372036854775806) (s:τ) (hF:Fut G Y s (emL o (i3 a b s0))) :
 FnR G Y 117 [i64 (s0:Int),.bp (kx Y.k 1) 0,.bp (kx Y.k 2) 0,.bp (kx Y.k 3) 0] s (emL o (i3 a b s0)) [eng p o,bS Y.k,bU a,bU b]:=by
 have dV:ltL (kx Y.k 4) [eng p o,bS Y.k,bU a,bU b]:=aG (cO Y.pos) (aG (cA (by decide)) (aG cV (aG cV cM)))
 have zk:∀ x∈[i64 (s0:Int),V.bp (kx Y.k 1) 0,V.bp (kx Y.k 2) 0,V.bp (kx Y.k 3) 0],x.lt (kx Y.k 4):=bz trivial (bz (ec (by decide)) (bz (ec (by decide)) (bz (ec (by decide)) (eD))))
 have wb:=bG (n:=(b:Int)+1) (k:=b+1) (by omega) (by omega)
 refine dt (m:=4) (rs:=[.tmp 5]) [1500016,2850001,2880001] mixed Tryz.func117 rfl rfl rfl rfl (by kernel_rfl) (by simp) rfl dV zk ?_
 simp only[pkA,seval,pkB Y _]
 refine lX ?_
 simp only[oU,seval,pkB Y _]
 refine aB rfl (fq _ _) (fun _=>rfl) ?_
 simp only[Uh,seval,pkB Y _,wb]
 refine aB rfl (fq _ _) (fun _=>rfl) ?_
 simp only[lP,seval,pkB Y _]
 refine ir (i3 a b s0) (by simp[i3]) hF rfl rfl rfl ?_
 intro t' b' hR
 simp only[pkA,seval,pkB Y _]
 exact iq hR rfl rfl dV (by simp[])
def i4 (a b:Nat):In:=⟨4,[bu 0 a],[bu 0 b]⟩
theorem aii {τ:Type} (Y:Ys τ) (p:Pol) (o:Option Fa) (a b:Nat) (s:τ) (hF:Fut G Y s (emL o (i4 a b))) :
 FnR G Y 118 [i64 (a:Int),i64 (b:Int),.bp (kx Y.k 1) 0] s (emL o (i4 a b)) [eng p o,bS Y.k]:=by
 have dV:ltL (kx Y.k 2) [eng p o,bS Y.k]:=aG (cO Y.pos) (aG (cA (by decide)) cM)
 have zk:∀ x∈[i64 (a:Int),i64 (b:Int),V.bp (kx Y.k 1) 0],x.lt (kx Y.k 2):=bz trivial (bz trivial (bz (ec (by decide)) (eD)))
 refine dt (m:=2) (rs:=[.tmp 5]) [1500013,2850001,2880001] mixed Tryz.func118 rfl rfl rfl rfl (by kernel_rfl) (by simp) rfl dV zk ?_
 simp only[pkA,seval,pkB Y _]
 refine lX ?_
 simp only[oU,seval,pkB Y _]
 refine aB rfl (fq _ _) (fun _=>rfl) ?_
 simp only[lP,seval,pkB Y _]
 refine aB rfl (fq _ _) (fun _=>rfl) ?_
 simp only[lP,seval,pkB Y _]
 refine ir (i4 a b) (by simp[i4]) hF rfl rfl rfl ?_
 intro t' b' hR
 simp only[pkA,seval,pkB Y _]
 exact iq hR rfl rfl dV (by simp[])
def i5 (a b s0:Nat):In:=⟨5,[bu s0 a,fC s0],[fC (b+1:Nat)]⟩
theorem aij {τ:Type} (Y:Ys τ) (p:Pol) (o:Option Fa) (a b s0:Nat) (hb:b≤9223372036854775806) (s:τ) (hF:Fut G Y s (emL o (i5 a b s0))) :
 FnR G Y 120 [i64 (s0:Int),.bp (kx Y.k 1) 0,.bp (kx Y.k 2) 0,.bp (kx Y.k 3) 0] s (emL o (i5 a b s0)) [eng p o,bS Y.k,bU a,bU b]:=by
 have dV:ltL (kx Y.k 4) [eng p o,bS Y.k,bU a,bU b]:=aG (cO Y.pos) (aG (cA (by decide)) (aG cV (aG cV cM)))
 have zk:∀ x∈[i64 (s0:Int),V.bp (kx Y.k 1) 0,V.bp (kx Y.k 2) 0,V.bp (kx Y.k 3) 0],x.lt (kx Y.k 4):=bz trivial (bz (ec (by decide)) (bz (ec (by decide)) (bz (ec (by decide)) (eD))))
 have wb:=bG (n:=(b:Int)+1) (k:=b+1) (by omega) (by omega)
 refine dt (m:=4) (rs:=[.tmp 5]) [1500017,2850001,2880001] mixed Tryz.func120 rfl rfl rfl rfl (by kernel_rfl) (by simp) rfl dV zk ?_
 simp only[pkA,seval,pkB Y _]
 refine lX ?_
 simp only[oU,seval,pkB Y _]
 refine aB rfl (fq _ _) (fun _=>rfl) ?_
 simp only[pkA,seval,pkB Y _]
 refine aB rfl (qN _) (fun _=>rfl) ?_
 simp only[Uh,seval,pkB Y _,wb]
 refine aB rfl (qN _) (fun _=>rfl) ?_
 simp only[lP,seval,pkB Y _]
 refine ir (i5 a b s0) (by simp[i5]) hF rfl rfl rfl ?_
 intro t' b' hR
 simp only[pkA,seval,pkB Y _]
 exact iq hR rfl rfl dV (by simp[])
def i6 (t s0:Nat):In:=⟨6,[bu s0 t],[fC s0]⟩
theorem aik {τ:Type} (Y:Ys τ) (p:Pol) (o:Option Fa) (t s0:Nat) (s:τ) (hF:Fut G Y s (emL o (i6 t s0))) :
 FnR G Y 122 [i64 (s0:Int),.bp (kx Y.k 1) 0,.bp (kx Y.k 2) 0] s (emL o (i6 t s0)) [eng p o,bS Y.k,bU t]:=by
 have dV:ltL (kx Y.k 3) [eng p o,bS Y.k,bU t]:=aG (cO Y.pos) (aG (cA (by decide)) (aG cV cM))
 have zk:∀ x∈[i64 (s0:Int),V.bp (kx Y.k 1) 0,V.bp (kx Y.k 2) 0],x.lt (kx Y.k 3):=bz trivial (bz (ec (by decide)) (bz (ec (by decide)) (eD)))
 refine dt (m:=3) (rs:=[.tmp 4]) [1500013,2850001,2880001] mixed Tryz.func122 rfl rfl rfl rfl (by kernel_rfl) (by simp) rfl dV zk ?_
 simp only[pkA,seval,pkB Y _]
 refine lX ?_
 simp only[oU,seval,pkB Y _]
 refine aB rfl (fq _ _) (fun _=>rfl) ?_
 simp only[lP,seval,pkB Y _]
 refine aB rfl (qN _) (fun _=>rfl) ?_
 simp only[lP,seval,pkB Y _]
 refine ir (i6 t s0) (by simp[i6]) hF rfl rfl rfl ?_
 intro t' b' hR
 simp only[pkA,seval,pkB Y _]
 exact iq hR rfl rfl dV (by simp[])
def i7 (t v:Nat):In:=⟨7,[bu v t],[gi v 0]⟩
theorem ail {τ:Type} (Y:Ys τ) (p:Pol) (o:Option Fa) (t v:Nat) (s:τ) (hF:Fut G Y s (emL o (i7 t v))) :
 FnR G Y 124 [i64 (v:Int),.bp (kx Y.k 1) 0,.bp (kx Y.k 2) 0] s (emL o (i7 t v)) [eng p o,bS Y.k,bU t]:=by
 have dV:ltL (kx Y.k 3) [eng p o,bS Y.k,bU t]:=aG (cO Y.pos) (aG (cA (by decide)) (aG cV cM))
 have zk:∀ x∈[i64 (v:Int),V.bp (kx Y.k 1) 0,V.bp (kx Y.k 2) 0],x.lt (kx Y.k 3):=bz trivial (bz (ec (by decide)) (bz (ec (by decide)) (eD)))
 refine dt (m:=3) (rs:=[.tmp 4]) [1500013,2850001,2880001] mixed Tryz.func124 rfl rfl rfl rfl (by kernel_rfl) (by simp) rfl dV zk ?_
 simp only[pkA,seval,pkB Y _]
 refine lX ?_
 simp only[oU,seval,pkB Y _]
 refine aB rfl (fq _ _) (fun _=>rfl) ?_
 simp only[lP,seval,pkB Y _]
 refine aB rfl (sQ _ _) (fun _=>rfl) ?_
 simp only[lP,seval,pkB Y _]
 refine ir (i7 t v) (by simp[i7]) hF rfl rfl rfl ?_
 intro t' b' hR
 simp only[pkA,seval,pkB Y _]
 exact iq hR rfl rfl dV (by simp[])
def i8 (a b v w:Nat):In:=⟨8,[bu v a,bu w b],[gi v w]⟩
theorem aim {τ:Type} (Y:Ys τ) (p:Pol) (o:Option Fa) (a b v w:Nat) (s:τ) (hF:Fut G Y s (emL o (i8 a b v w))) :
 FnR G Y 128 [i64 (v:Int),i64 (w:Int),.bp (kx Y.k 1) 0,.bp (kx Y.k 2) 0,.bp (kx Y.k 3) 0] s (emL o (i8 a b v w)) [eng p o,bS Y.k,bU a,bU b]:=by
 have dV:ltL (kx Y.k 4) [eng p o,bS Y.k,bU a,bU b]:=aG (cO Y.pos) (aG (cA (by decide)) (aG cV (aG cV cM)))
 have zk:∀ x∈[i64 (v:Int),i64 (w:Int),V.bp (kx Y.k 1) 0,V.bp (kx Y.k 2) 0,V.bp (kx Y.k 3) 0],x.lt (kx Y.k 4):=bz trivial (bz trivial (bz (ec (by decide)) (bz (ec (by decide)) (bz (ec (by decide)) (eD)))))
 refine dt (m:=4) (rs:=[.tmp 7]) [1500020,2850001,2880001] mixed Tryz.func128 rfl rfl rfl rfl (by kernel_rfl) (by simp) rfl dV zk ?_
 simp only[pkA,seval,pkB Y _]
 refine lX ?_
 simp only[oU,seval,pkB Y _]
 refine aB rfl (fq _ _) (fun _=>rfl) ?_
 simp only[oU,seval,pkB Y _]
 refine aB rfl (fq _ _) (fun _=>rfl) ?_
 simp only[lP,seval,pkB Y _]
 refine aB rfl (sQ _ _) (fun _=>rfl) ?_
 simp only[lP,seval,pkB Y _]
 refine ir (i8 a b v w) (by simp[i8]) hF rfl rfl rfl ?_
 intro t' b' hR
 simp only[pkA,seval,pkB Y _]
 exact iq hR rfl rfl dV (by simp[])
def i9 (t v w:Nat):In:=⟨9,[bu v t,gi v w],[fC w]⟩
theorem ain {τ:Type} (Y:Ys τ) (p:Pol) (o:Option Fa) (t v w:Nat) (s:τ) (hF:Fut G Y s (emL o (i9 t v w))) :
 FnR G Y 130 [i64 (v:Int),i64 (w:Int),.bp (kx Y.k 1) 0,.bp (kx Y.k 2) 0] s (emL o (i9 t v w)) [eng p o,bS Y.k,bU t]:=by
 have dV:ltL (kx Y.k 3) [eng p o,bS Y.k,bU t]:=aG (cO Y.pos) (aG (cA (by decide)) (aG cV cM))
 have zk:∀ x∈[i64 (v:Int),i64 (w:Int),V.bp (kx Y.k 1) 0,V.bp (kx Y.k 2) 0],x.lt (kx Y.k 3):=bz trivial (bz trivial (bz (ec (by decide)) (bz (ec (by decide)) (eD))))
 refine dt (m:=3) (rs:=[.tmp 6]) [1500018,2850001,2880001] mixed Tryz.func130 rfl rfl rfl rfl (by kernel_rfl) (by simp) rfl dV zk ?_
 simp only[pkA,seval,pkB Y _]
 refine lX ?_
 simp only[oU,seval,pkB Y _]
 refine aB rfl (fq _ _) (fun _=>rfl) ?_
 simp only[pkA,seval,pkB Y _]
 refine aB rfl (sQ _ _) (fun _=>rfl) ?_
 simp only[lP,seval,pkB Y _]
 refine aB rfl (qN _) (fun _=>rfl) ?_
 simp only[lP,seval,pkB Y _]
 refine ir (i9 t v w) (by simp[i9]) hF rfl rfl rfl ?_
 intro t' b' hR
 simp only[pkA,seval,pkB Y _]
 exact iq hR rfl rfl dV (by simp[])
def i11 (a b:Nat):In:=⟨11,[bu 0 a],[bu 0 b]⟩
theorem aeS {τ:Type} (Y:Ys τ) (p:Pol) (o:Option Fa) (a b:Nat) (s:τ) (hF:Fut G Y s (emL o (i11 a b))) :
 FnR G Y 133 [i64 (a:Int),i64 (b:Int),.bp (kx Y.k 1) 0] s (emL o (i11 a b)) [eng p o,bS Y.k]:=by
 have dV:ltL (kx Y.k 2) [eng p o,bS Y.k]:=aG (cO Y.pos) (aG (cA (by decide)) cM)
 have zk:∀ x∈[i64 (a:Int),i64 (b:Int),V.bp (kx Y.k 1) 0],x.lt (kx Y.k 2):=bz trivial (bz trivial (bz (ec (by decide)) (eD)))
 refine dt (m:=2) (rs:=[.tmp 5]) [1500013,2850001,2880001] mixed Tryz.func133 rfl rfl rfl rfl (by kernel_rfl) (by simp) rfl dV zk ?_
 simp only[pkA,seval,pkB Y _]
 refine lX ?_
 simp only[oU,seval,pkB Y _]
 refine aB rfl (fq _ _) (fun _=>rfl) ?_
 simp only[lP,seval,pkB Y _]
 refine aB rfl (fq _ _) (fun _=>rfl) ?_
 simp only[lP,seval,pkB Y _]
 refine ir (i11 a b) (by simp[i11]) hF rfl rfl rfl ?_
 intro t' b' hR
 simp only[pkA,seval,pkB Y _]
 exact iq hR rfl rfl dV (by simp[])
def i12 (a b s0:Nat):In:=⟨12,[bu 0 a,bu s0 b],[fC s0]⟩
theorem aeT {τ:Type} (Y:Ys τ) (p:Pol) (o:Option Fa) (a b s0:Nat) (s:τ) (hF:Fut G Y s (emL o (i12 a b s0))) :
 FnR G Y 135 [i64 (s0:Int),.bp (kx Y.k 1) 0,.bp (kx Y.k 2) 0,.bp (kx Y.k 3) 0] s (emL o (i12 a b s0)) [eng p o,bS Y.k,bU a,bU b]:=by
 have dV:ltL (kx Y.k 4) [eng p o,bS Y.k,bU a,bU b]:=aG (cO Y.pos) (aG (cA (by decide)) (aG cV (aG cV cM)))
 have zk:∀ x∈[i64 (s0:Int),V.bp (kx Y.k 1) 0,V.bp (kx Y.k 2) 0,V.bp (kx Y.k 3) 0],x.lt (kx Y.k 4):=bz trivial (bz (ec (by decide)) (bz (ec (by decide)) (bz (ec (by decide)) (eD))))
 refine dt (m:=4) (rs:=[.tmp 5]) [1500016,2850001,2880001] mixed Tryz.func135 rfl rfl rfl rfl (by kernel_rfl) (by simp) rfl dV zk ?_
 simp only[pkA,seval,pkB Y _]
 refine lX ?_
 simp only[oU,seval,pkB Y _]
 refine aB rfl (fq _ _) (fun _=>rfl) ?_
 simp only[oU,seval,pkB Y _]
 refine aB rfl (fq _ _) (fun _=>rfl) ?_
 simp only[lP,seval,pkB Y _]
 refine aB rfl (qN _) (fun _=>rfl) ?_
 simp only[lP,seval,pkB Y _]
 refine ir (i12 a b s0) (by simp[i12]) hF rfl rfl rfl ?_
 intro t' b' hR
 simp only[pkA,seval,pkB Y _]
 exact iq hR rfl rfl dV (by simp[])
def i13 (t s0:Nat):In:=⟨13,[fC s0,bu s0 t],[bu 0 t]⟩
theorem aeU {τ:Type} (Y:Ys τ) (p:Pol) (o:Option Fa) (t s0:Nat) (s:τ) (hF:Fut G Y s (emL o (i13 t s0))) :
 FnR G Y 137 [i64 (s0:Int),.bp (kx Y.k 1) 0,.bp (kx Y.k 2) 0] s (emL o (i13 t s0)) [eng p o,bS Y.k,bU t]:=by
 have dV:ltL (kx Y.k 3) [eng p o,bS Y.k,bU t]:=aG (cO Y.pos) (aG (cA (by decide)) (aG cV cM))
 have zk:∀ x∈[i64 (s0:Int),V.bp (kx Y.k 1) 0,V.bp (kx Y.k 2) 0],x.lt (kx Y.k 3):=bz trivial (bz (ec (by decide)) (bz (ec (by decide)) (eD)))
 refine dt (m:=3) (rs:=[.tmp 4]) [1500015,2850001,2880001] mixed Tryz.func137 rfl rfl rfl rfl (by kernel_rfl) (by simp) rfl dV zk ?_
 simp only[pkA,seval,pkB Y _]
 refine lX ?_
 simp only[oU,seval,pkB Y _]
 refine aB rfl (qN _) (fun _=>rfl) ?_
 simp only[oU,seval,pkB Y _]
 refine aB rfl (fq _ _) (fun _=>rfl) ?_
 simp only[Uh,seval,pkB Y _]
 refine aB rfl (fq _ _) (fun _=>rfl) ?_
 simp only[lP,seval,pkB Y _]
 refine ir (i13 t s0) (by simp[i13]) hF rfl rfl rfl ?_
 intro t' b' hR
 simp only[pkA,seval,pkB Y _]
 exact iq hR rfl rfl dV (by simp[])
def i15 (s0:Nat):In:=⟨15,[gi 0 s0],[fC s0]⟩
theorem aeV {τ:Type} (Y:Ys τ) (p:Pol) (o:Option Fa) (s0:Nat) (s:τ) (hF:Fut G Y s (emL o (i15 s0))) :
 FnR G Y 138 [i64 (s0:Int),.bp (kx Y.k 1) 0] s (emL o (i15 s0)) [eng p o,bS Y.k]:=by
 have dV:ltL (kx Y.k 2) [eng p o,bS Y.k]:=aG (cO Y.pos) (aG (cA (by decide)) cM)
 have zk:∀ x∈[i64 (s0:Int),V.bp (kx Y.k 1) 0],x.lt (kx Y.k 2):=bz trivial (bz (ec (by decide)) (eD))
 refine dt (m:=2) (rs:=[.tmp 3]) [1500011,2850001,2880001] mixed Tryz.func138 rfl rfl rfl rfl (by kernel_rfl) (by simp) rfl dV zk ?_
 simp only[pkA,seval,pkB Y _]
 refine lX ?_
 simp only[oU,seval,pkB Y _]
 refine aB rfl (sQ _ _) (fun _=>rfl) ?_
 simp only[lP,seval,pkB Y _]
 refine aB rfl (qN _) (fun _=>rfl) ?_
 simp only[lP,seval,pkB Y _]
 refine ir (i15 s0) (by simp[i15]) hF rfl rfl rfl ?_
 intro t' b' hR
 simp only[pkA,seval,pkB Y _]
 exact iq hR rfl rfl dV (by simp[])
