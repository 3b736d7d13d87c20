/- The engine of layer 17: pairs, the closures between. Printed by gen18.py. -/
import Derived.Test.YtloppcgcepgbnaaGreatDoorVlE5
set_option linter.all false
namespace Go.Proofs.YtloppcgcepgbnaaGreatDoor
open Go Go.Vl
variable {G:Gl}
set_option maxRecDepth 4000
def mn (f:V):List V:=[f]
theorem lfv {k n j:Nat} {K:V->Prop} {g:FuncId} {cs:List V}:ldB (kx k n) (kx k j) (mn (.clo (.func g) [] cs)) 0 K=(j<n/\K (.clo (.func g) [] cs)):=by unfold ldB;rw[kU];rfl
theorem mfv {g:FuncId} {cs:List V}:ck (mn (.clo (.func g) [] cs))=false:=rfl
theorem qW {k m:Nat} {g:FuncId} {cs:List V} (h:∀ x∈cs,x.ltP (kx k m)):∀ x∈mn (.clo (.func g) [] cs),x.lt (kx k m):=λx hx=>by simp only[mn,aX] at hx;subst hx;exact⟨λx hx=>(by cases hx),h⟩
theorem ffv {g:FuncId} {cs:List V}:[V.clo (.func g) [] cs]=mn (.clo (.func g) [] cs):=rfl
def pkW:=jj @lfv (jj @mfv @pkV)
theorem iq {m:Nat}:∀ x∈([]:List V),x.ltP m:=λ_ h=>by cases h
theorem dC {k m i j:Nat} {l:List V} (h:i<m) (h2:∀ x∈l,x.ltP (kx k m)):∀ x∈V.bp (kx k i) j::l,x.ltP (kx k m):=λq hq=>by
 rcases aN.1 hq with rfl | hq
 .simp only[V.ltP,kU];exact h
 .exact h2 q hq
theorem qX {m n:Nat} {l:List V} (h:∀ x∈l,x.ltP m) (kg:m<=n):∀ x∈l,x.ltP n:=λx hx=>(h x hx).mono kg
def uF (n:Nat) (first:Nat) (D:Nat->Nat->List In):List In:=b8 n (λv=>b8 n (D v) first) 0
def FH:=jj @pkA (jj @ptA @pkW)
theorem KX {τ:Type} (Y:Ys τ) (p:Pol) (o:Option Fa) (t first:Nat) (g:FuncId) (caps:List V) (j8:∀ x∈caps,x.ltP (kx Y.k 3)) (MG:caps.map V.fz=caps) (D:Nat->Nat->List In)
 (eG:∀ s v w,(v<=p.types.length/\first<=w/\w<=p.types.length)->Fut G Y s (D v w)->FnR G Y g (i64 (v:Int)::i64 (w:Int)::caps) s (D v w) [eng p o,bU Y.k,bV t]) (v w:Nat) (hv:v<=p.types.length) (hw:first<=w/\w<=p.types.length) (s:τ) (hF:Fut G Y s (D v w)) :
 FnR G Y 186 [i64 (w:Int),.bp (kx Y.k 5) 0,.bp (kx Y.k 6) 0] s (D v w) [eng p o,bU Y.k,bV t,bU Y.k,bV first,mn (.clo (.func g) [] caps),bV v]:=by
 have dU:ltL (kx Y.k 7) [eng p o,bU Y.k,bV t,bU Y.k,bV first,mn (.clo (.func g) [] caps),bV v]:=aI (cL Y.pos) (aI (cA (by decide)) (aI cV (aI (cA (by decide)) (aI cV (aI (qW (qX j8 (by simp[kx]))) (aI cV cJ))))))
 refine dy (m:=7) (rs:=[.tmp 4]) [1500008] mixed Tryz.func186 rfl rfl rfl rfl (by kernel_rfl) (by simp) rfl dU (bu trivial (bu (dZ (by decide)) (bu (dZ (by decide)) eC))) ?_;simp only[FH,↓reduceIte,Nat.reduceEqDiff,Nat.reduceAdd,Nat.reduceBEq,Nat.reduceMul,Nat.reduceLT,pkB Y _];refine oa (ls:=[eng p o,bU Y.k,bV t]) (rest:=[bU Y.k,bV first,mn (.clo (.func g) [] caps),bV v]) rfl (eG s v w ⟨hv,hw.1,hw.2⟩ hF) (by simp[V.fz,MG]) rfl λt' b' hR=>?_
 simp only[pkA,↓reduceIte,pkB Y _];exact ij hR rfl rfl dU (by simp[])
theorem KY {τ:Type} (Y:Ys τ) (p:Pol) (o:Option Fa) (t first:Nat) (g:FuncId) (caps:List V) (j8:∀ x∈caps,x.ltP (kx Y.k 3)) (MG:caps.map V.fz=caps) (D:Nat->Nat->List In)
 (eG:∀ s v w,(v<=p.types.length/\first<=w/\w<=p.types.length)->Fut G Y s (D v w)->FnR G Y g (i64 (v:Int)::i64 (w:Int)::caps) s (D v w) [eng p o,bU Y.k,bV t]) (hp:p.types.length<=9223372036854775806) (hfi:first<=1) (v:Nat) (hv:v<=p.types.length) (s:τ) (hF:Fut G Y s (b8 p.types.length (D v) first)) :
 FnR G Y 185 [i64 (v:Int),.bp (kx Y.k 3) 0,.bp (kx Y.k 4) 0,.bp (kx Y.k 5) 0] s (b8 p.types.length (D v) first) [eng p o,bU Y.k,bV t,bU Y.k,bV first,mn (.clo (.func g) [] caps)]:=by
 have dU:ltL (kx Y.k 6) [eng p o,bU Y.k,bV t,bU Y.k,bV first,mn (.clo (.func g) [] caps)]:=aI (cL Y.pos) (aI (cA (by decide)) (aI cV (aI (cA (by decide)) (aI cV (aI (qW (qX j8 (by simp[kx]))) cJ)))))
 have pq:ltL (kx Y.k 7) [bU Y.k,bV t,bU Y.k,bV first,mn (.clo (.func g) [] caps),bV v]:=λq hq=>(aI (cL Y.pos) (aI (cA (by decide)) (aI cV (aI (cA (by decide)) (aI cV (aI (qW (qX j8 (by simp[kx]))) (aI cV cJ)))))):ltL (kx Y.k 7) [eng p o,bU Y.k,bV t,bU Y.k,bV first,mn (.clo (.func g) [] caps),bV v]) q (aP _ hq)
 refine dy (m:=6) (rs:=[.tmp 5]) [1500009] mixed Tryz.func185 rfl rfl rfl rfl (by kernel_rfl) (by simp) rfl dU (bu trivial (bu (dZ (by decide)) (bu (dZ (by decide)) (bu (dZ (by decide)) eC)))) ?_;simp only[FH,↓reduceIte,Nat.reduceEqDiff,Nat.reduceAdd,Nat.reduceBEq,Nat.reduceMul,Nat.reduceLT,pkB Y _,fp,fnv,ffv];refine dB (ls:=[eng p o,bU Y.k,bV t,bU Y.k,bV first,mn (.clo (.func g) [] caps),bV v]) rfl (jB Y p hp o first hfi [bU Y.k,bV t,bU Y.k,bV first,mn (.clo (.func g) [] caps),bV v] pq _ (D v) ⟨186,[.bp (kx Y.k 5) 0,.bp (kx Y.k 6) 0],rfl,dC (aL rfl) (dC (aL rfl) iq),rfl,λs w hw hF=>KX Y p o t first g caps j8 MG D eG v w hv hw s hF⟩ s hF) rfl rfl λt' b' hR=>?_
 simp only[pkA,↓reduceIte,pkB Y _];exact fC (rest:=[bV v]) hR rfl rfl rfl dU (by simp[])
theorem Oy {τ:Type} (Y:Ys τ) (p:Pol) (o:Option Fa) (t first:Nat) (g:FuncId) (caps:List V) (j8:∀ x∈caps,x.ltP (kx Y.k 3)) (MG:caps.map V.fz=caps) (D:Nat->Nat->List In)
 (eG:∀ s v w,(v<=p.types.length/\first<=w/\w<=p.types.length)->Fut G Y s (D v w)->FnR G Y g (i64 (v:Int)::i64 (w:Int)::caps) s (D v w) [eng p o,bU Y.k,bV t]) (hp:p.types.length<=9223372036854775806) (hfi:first<=1) (s:τ) (hF:Fut G Y s (uF p.types.length first D)) :
 FnR G Y 158 [.bp (kx Y.k 0) 0,i64 (first:Int),.clo (.func g) [] caps] s (uF p.types.length first D) [eng p o,bU Y.k,bV t]:=by
 have dU:ltL (kx Y.k 3) [eng p o,bU Y.k,bV t]:=aI (cL Y.pos) (aI (cA (by decide)) (aI cV cJ));have pq:ltL (kx Y.k 6) [bU Y.k,bV t,bU Y.k,bV first,mn (.clo (.func g) [] caps)]:=λq hq=>(aI (cL Y.pos) (aI (cA (by decide)) (aI cV (aI (cA (by decide)) (aI cV (aI (qW (qX j8 (by simp[kx]))) cJ))))):ltL (kx Y.k 6) [eng p o,bU Y.k,bV t,bU Y.k,bV first,mn (.clo (.func g) [] caps)]) q (aP _ hq)
 refine dy (m:=3) (rs:=[.tmp 6]) [1500009] mixed Tryz.func158 rfl rfl rfl rfl (by kernel_rfl) (by simp) rfl dU (bu (dZ (by decide)) (bu trivial (bu ⟨λx hx=>(by cases hx),j8⟩ eC))) ?_;simp only[fe,fU];simp only[FH,↓reduceIte,Nat.reduceEqDiff,Nat.reduceAdd,Nat.reduceBEq,Nat.reduceMul,Nat.reduceLT,pkB Y _,fp,fev,fnv,ffv];refine dB (ls:=[eng p o,bU Y.k,bV t,bU Y.k,bV first,mn (.clo (.func g) [] caps)]) rfl (jB Y p hp o 0 (by decide) [bU Y.k,bV t,bU Y.k,bV first,mn (.clo (.func g) [] caps)] pq _ (λv=>b8 p.types.length (D v) first) ⟨185,[.bp (kx Y.k 3) 0,.bp (kx Y.k 4) 0,.bp (kx Y.k 5) 0],rfl,dC (aL rfl) (dC (aL rfl) (dC (aL rfl) iq)),rfl,λs v hv hF=>KY Y p o t first g caps j8 MG D eG hp hfi v hv.2 s hF⟩ s hF) rfl rfl λt' b' hR=>?_
 simp only[pkA,↓reduceIte,pkB Y _];exact fC (rest:=[bU Y.k,bV first,mn (.clo (.func g) [] caps)]) hR rfl rfl rfl dU (by simp[])
theorem KZ {τ:Type} (Y:Ys τ) (p:Pol) (o:Option Fa) (a b first:Nat) (g:FuncId) (caps:List V) (j8:∀ x∈caps,x.ltP (kx Y.k 4)) (MG:caps.map V.fz=caps) (D:Nat->Nat->List In)
 (eG:∀ s v w,(v<=p.types.length/\first<=w/\w<=p.types.length)->Fut G Y s (D v w)->FnR G Y g (i64 (v:Int)::i64 (w:Int)::caps) s (D v w) [eng p o,bU Y.k,bV a,bV b]) (v w:Nat) (hv:v<=p.types.length) (hw:first<=w/\w<=p.types.length) (s:τ) (hF:Fut G Y s (D v w)) :
 FnR G Y 186 [i64 (w:Int),.bp (kx Y.k 6) 0,.bp (kx Y.k 7) 0] s (D v w) [eng p o,bU Y.k,bV a,bV b,bU Y.k,bV first,mn (.clo (.func g) [] caps),bV v]:=by
 have dU:ltL (kx Y.k 8) [eng p o,bU Y.k,bV a,bV b,bU Y.k,bV first,mn (.clo (.func g) [] caps),bV v]:=aI (cL Y.pos) (aI (cA (by decide)) (aI cV (aI cV (aI (cA (by decide)) (aI cV (aI (qW (qX j8 (by simp[kx]))) (aI cV cJ)))))))
 refine dy (m:=8) (rs:=[.tmp 4]) [1500008] mixed Tryz.func186 rfl rfl rfl rfl (by kernel_rfl) (by simp) rfl dU (bu trivial (bu (dZ (by decide)) (bu (dZ (by decide)) eC))) ?_;simp only[FH,↓reduceIte,Nat.reduceEqDiff,Nat.reduceAdd,Nat.reduceBEq,Nat.reduceMul,Nat.reduceLT,pkB Y _];refine oa (ls:=[eng p o,bU Y.k,bV a,bV b]) (rest:=[bU Y.k,bV first,mn (.clo (.func g) [] caps),bV v]) rfl (eG s v w ⟨hv,hw.1,hw.2⟩ hF) (by simp[V.fz,MG]) rfl λt' b' hR=>?_
 simp only[pkA,↓reduceIte,pkB Y _];exact ij hR rfl rfl dU (by simp[])
theorem K1 {τ:Type} (Y:Ys τ) (p:Pol) (o:Option Fa) (a b first:Nat) (g:FuncId) (caps:List V) (j8:∀ x∈caps,x.ltP (kx Y.k 4)) (MG:caps.map V.fz=caps) (D:Nat->Nat->List In)
 (eG:∀ s v w,(v<=p.types.length/\first<=w/\w<=p.types.length)->Fut G Y s (D v w)->FnR G Y g (i64 (v:Int)::i64 (w:Int)::caps) s (D v w) [eng p o,bU Y.k,bV a,bV b]) (hp:p.types.length<=9223372036854775806) (hfi:first<=1) (v:Nat) (hv:v<=p.types.length) (s:τ) (hF:Fut G Y s (b8 p.types.length (D v) first)) :
 FnR G Y 185 [i64 (v:Int),.bp (kx Y.k 4) 0,.bp (kx Y.k 5) 0,.bp (kx Y.k 6) 0] s (b8 p.types.length (D v) first) [eng p o,bU Y.k,bV a,bV b,bU Y.k,bV first,mn (.clo (.func g) [] caps)]:=by
 have dU:ltL (kx Y.k 7) [eng p o,bU Y.k,bV a,bV b,bU Y.k,bV first,mn (.clo (.func g) [] caps)]:=aI (cL Y.pos) (aI (cA (by decide)) (aI cV (aI cV (aI (cA (by decide)) (aI cV (aI (qW (qX j8 (by simp[kx]))) cJ))))))
 have pq:ltL (kx Y.k 8) [bU Y.k,bV a,bV b,bU Y.k,bV first,mn (.clo (.func g) [] caps),bV v]:=λq hq=>(aI (cL Y.pos) (aI (cA (by decide)) (aI cV (aI cV (aI (cA (by decide)) (aI cV (aI (qW (qX j8 (by simp[kx]))) (aI cV cJ))))))):ltL (kx Y.k 8) [eng p o,bU Y.k,bV a,bV b,bU Y.k,bV first,mn (.clo (.func g) [] caps),bV v]) q (aP _ hq)
 refine dy (m:=7) (rs:=[.tmp 5]) [1500009] mixed Tryz.func185 rfl rfl rfl rfl (by kernel_rfl) (by simp) rfl dU (bu trivial (bu (dZ (by decide)) (bu (dZ (by decide)) (bu (dZ (by decide)) eC)))) ?_;simp only[FH,↓reduceIte,Nat.reduceEqDiff,Nat.reduceAdd,Nat.reduceBEq,Nat.reduceMul,Nat.reduceLT,pkB Y _,fp,fnv,ffv];refine dB (ls:=[eng p o,bU Y.k,bV a,bV b,bU Y.k,bV first,mn (.clo (.func g) [] caps),bV v]) rfl (jB Y p hp o first hfi [bU Y.k,bV a,bV b,bU Y.k,bV first,mn (.clo (.func g) [] caps),bV v] pq _ (D v) ⟨186,[.bp (kx Y.k 6) 0,.bp (kx Y.k 7) 0],rfl,dC (aL rfl) (dC (aL rfl) iq),rfl,λs w hw hF=>KZ Y p o a b first g caps j8 MG D eG v w hv hw s hF⟩ s hF) rfl rfl λt' b' hR=>?_
 simp only[pkA,↓reduceIte,pkB Y _];exact fC (rest:=[bV v]) hR rfl rfl rfl dU (by simp[])
theorem C3 {τ:Type} (Y:Ys τ) (p:Pol) (o:Option Fa) (a b first:Nat) (g:FuncId) (caps:List V) (j8:∀ x∈caps,x.ltP (kx Y.k 4)) (MG:caps.map V.fz=caps) (D:Nat->Nat->List In)
 (eG:∀ s v w,(v<=p.types.length/\first<=w/\w<=p.types.length)->Fut G Y s (D v w)->FnR G Y g (i64 (v:Int)::i64 (w:Int)::caps) s (D v w) [eng p o,bU Y.k,bV a,bV b]) (hp:p.types.length<=9223372036854775806) (hfi:first<=1) (s:τ) (hF:Fut G Y s (uF p.types.length first D)) :
 FnR G Y 158 [.bp (kx Y.k 0) 0,i64 (first:Int),.clo (.func g) [] caps] s (uF p.types.length first D) [eng p o,bU Y.k,bV a,bV b]:=by
 have dU:ltL (kx Y.k 4) [eng p o,bU Y.k,bV a,bV b]:=aI (cL Y.pos) (aI (cA (by decide)) (aI cV (aI cV cJ)));have pq:ltL (kx Y.k 7) [bU Y.k,bV a,bV b,bU Y.k,bV first,mn (.clo (.func g) [] caps)]:=λq hq=>(aI (cL Y.pos) (aI (cA (by decide)) (aI cV (aI cV (aI (cA (by decide)) (aI cV (aI (qW (qX j8 (by simp[kx]))) cJ)))))):ltL (kx Y.k 7) [eng p o,bU Y.k,bV a,bV b,bU Y.k,bV first,mn (.clo (.func g) [] caps)]) q (aP _ hq)
 refine dy (m:=4) (rs:=[.tmp 6]) [1500009] mixed Tryz.func158 rfl rfl rfl rfl (by kernel_rfl) (by simp) rfl dU (bu (dZ (by decide)) (bu trivial (bu ⟨λx hx=>(by cases hx),j8⟩ eC))) ?_;simp only[fe,fU];simp only[FH,↓reduceIte,Nat.reduceEqDiff,Nat.reduceAdd,Nat.reduceBEq,Nat.reduceMul,Nat.reduceLT,pkB Y _,fp,fev,fnv,ffv];refine dB (ls:=[eng p o,bU Y.k,bV a,bV b,bU Y.k,bV first,mn (.clo (.func g) [] caps)]) rfl (jB Y p hp o 0 (by decide) [bU Y.k,bV a,bV b,bU Y.k,bV first,mn (.clo (.func g) [] caps)] pq _ (λv=>b8 p.types.length (D v) first) ⟨185,[.bp (kx Y.k 4) 0,.bp (kx Y.k 5) 0,.bp (kx Y.k 6) 0],rfl,dC (aL rfl) (dC (aL rfl) (dC (aL rfl) iq)),rfl,λs v hv hF=>K1 Y p o a b first g caps j8 MG D eG hp hfi v hv.2 s hF⟩ s hF) rfl rfl λt' b' hR=>?_
 simp only[pkA,↓reduceIte,pkB Y _];exact fC (rest:=[bU Y.k,bV first,mn (.clo (.func g) [] caps)]) hR rfl rfl rfl dU (by simp[])
def i14:In:=⟨14,[],[iI 0 0]⟩
def K3:=jj @pkA (jj @ptA @pkE)
theorem Y9 {τ:Type} (Y:Ys τ) (p:Pol) (o:Option Fa) (s:τ) (hF:Fut G Y s (emL o i14)) :
 FnR G Y 106 [.bp (kx Y.k 0) 0] s (emL o i14) [eng p o]:=by
 have dU:ltL (kx Y.k 1) [eng p o]:=aI (cL Y.pos) cJ;have zQ:∀ x∈[V.bp (kx Y.k 0) 0],x.lt (kx Y.k 1):=bu (dZ (by decide)) eC;refine dy (m:=1) (rs:=[.tmp 2]) [1500006] mixed Tryz.func106 rfl rfl rfl rfl (by kernel_rfl) (by simp) rfl dU zQ ?_;simp only[pkA,↓reduceIte,Nat.reduceEqDiff,Nat.reduceAdd,Nat.reduceBEq,pkB Y _];refine aC rfl (sU _ _) (λ_=>rfl) ?_;simp only[K3,↓reduceIte,Nat.reduceEqDiff,Nat.reduceAdd,Nat.reduceBEq,Nat.reduceMul,Nat.reduceLeDiff,pkB Y _];refine wX i14 rfl hF rfl rfl rfl ?_;intro t' b' hR;simp only[pkA,↓reduceIte,pkB Y _];exact ij hR rfl rfl dU (by simp[])
def i10 (a b v w:Nat):In:=⟨10,[bE v a,iI v w],if 0<w then[bE w b,wT w] else[bE w b]⟩
def r10 (o:Option Fa) (a b v w:Nat):List In:=if 0<w/\v=0 then[] else emL o (i10 a b v w)
def Za:=jj @pkA (jj @ptA @pkV)
theorem aez {τ:Type} (Y:Ys τ) (p:Pol) (o:Option Fa) (a b v w:Nat) (s:τ) (hF:Fut G Y s (r10 o a b v w)) :
 FnR G Y 163 [i64 (v:Int),i64 (w:Int),.bp (kx Y.k 3) 0,.bp (kx Y.k 1) 0,.bp (kx Y.k 2) 0] s (r10 o a b v w) [eng p o,bU Y.k,bV a,bV b]:=by
 have dU:ltL (kx Y.k 4) [eng p o,bU Y.k,bV a,bV b]:=aI (cL Y.pos) (aI (cA (by decide)) (aI cV (aI cV cJ)));refine dy (m:=4) (rs:=[.tmp 7]) [1500037,23,2850006,2880006] mixed Tryz.func163 rfl rfl rfl rfl (by kernel_rfl) (by simp) rfl dU (bu trivial (bu trivial (bu (dZ (by decide)) (bu (dZ (by decide)) (bu (dZ (by decide)) eC))))) ?_;simp only[Za,↓reduceIte,Nat.reduceEqDiff,Nat.reduceAdd,Nat.reduceBEq,Nat.reduceMul,pkB Y _];refine aC rfl (ft _ _) (λ_=>rfl) ?_;simp only[K3,↓reduceIte,Nat.reduceEqDiff,Nat.reduceAdd,Nat.reduceBEq,Nat.reduceMul,Nat.reduceLeDiff,pkB Y _];have e1:∀ x:Fa,[V.agg (faC x)].length=1:=λ_=>rfl;refine fy (λhw=>?_) (λhw=>?_)
 .have xt:0<w:=by simpa using hw
  simp only[pkA,↓reduceIte,Nat.reduceEqDiff,Nat.reduceBEq,pkB Y _];refine aD (λhv=>?_) (λhv=>?_)
  .have U6:v=0:=by simpa using hv
   have hr:r10 o a b v w=[]:=(by simp[r10,xt,U6]);rw[hr];simp only[pkA,↓reduceIte,Nat.reduceAdd,Nat.reduceBEq,pkB Y _];exact ij (.nil s) rfl rfl dU (by simp[])
  .have U6:¬ v=0:=by simpa using hv
   have hr:r10 o a b v w=emL o (i10 a b v w):=(by simp[r10,U6]);rw[hr] at hF ⊢
   have hi:(i10 a b v w).con=[bE w b,wT w]:=(by simp[i10,xt]);simp only[pkA,↓reduceIte,Nat.reduceEqDiff,Nat.reduceAdd,Nat.reduceBEq,pkB Y _,hw];refine aC rfl (Y3 _) (λ_=>rfl) ?_;simp only[K3,↓reduceIte,Nat.reduceEqDiff,Nat.reduceAdd,Nat.reduceBEq,Nat.reduceMul,Nat.reduceLeDiff,pkB Y _];simp only[pkA,↓reduceIte,Nat.reduceEqDiff,Nat.reduceAdd,Nat.reduceBEq,Nat.reduceMul,Nat.reduceLeDiff,pkB Y _,dx,zj];refine⟨⟨.inr (by first | trivial | rfl),by simp[faC]⟩,by simp[faC],?_⟩
   refine mK ?_;simp only[Za,↓reduceIte,Nat.reduceEqDiff,Nat.reduceAdd,Nat.reduceBEq,Nat.reduceMul,Nat.reduceLT,pkB Y _];refine aC rfl (ft _ _) (λ_=>rfl) ?_;simp only[pkA,↓reduceIte,Nat.reduceEqDiff,Nat.reduceAdd,Nat.reduceBEq,pkB Y _];refine aC rfl (sU _ _) (λ_=>rfl) ?_;simp only[K3,↓reduceIte,Nat.reduceEqDiff,Nat.reduceAdd,Nat.reduceBEq,Nat.reduceMul,Nat.reduceLT,Nat.reduceLeDiff,pkB Y _];refine im (i10 a b v w) (by simp[i10]) hF rfl (by rw[hi];rfl) rfl ?_;intro t' b' hR;simp only[pkA,↓reduceIte,pkB Y _];exact ij hR rfl rfl dU (by simp[])
 .have xt:w=0:=by simpa using hw
  subst xt;have hr:r10 o a b v 0=emL o (i10 a b v 0):=by simp[r10]
  rw[hr] at hF ⊢
  simp only[pkA,↓reduceIte,Nat.reduceEqDiff,Nat.reduceAdd,Nat.reduceBEq,pkB Y _,hw];refine mK ?_;simp only[Za,↓reduceIte,Nat.reduceEqDiff,Nat.reduceAdd,Nat.reduceBEq,Nat.reduceMul,Nat.reduceLT,pkB Y _];refine aC rfl (ft _ _) (λ_=>rfl) ?_;simp only[pkA,↓reduceIte,Nat.reduceEqDiff,Nat.reduceAdd,Nat.reduceBEq,pkB Y _];refine aC rfl (sU _ _) (λ_=>rfl) ?_;simp only[K3,↓reduceIte,Nat.reduceEqDiff,Nat.reduceAdd,Nat.reduceBEq,Nat.reduceMul,Nat.reduceLT,Nat.reduceLeDiff,pkB Y _];refine im (i10 a b v 0) (by simp[i10]) hF rfl rfl rfl ?_;intro t' b' hR;simp only[pkA,↓reduceIte,pkB Y _];exact ij hR rfl rfl dU (by simp[])
