/- The engine of layer 17: pairs, the closures between. Printed by gen18.py. -/
import Derived.Test.YtloppcgcepgbnaaGreatDoorVlE5
set_option linter.all false
namespace Go.Proofs.YtloppcgcepgbnaaGreatDoor
open Go Go.Vl
variable {G:Gl}
set_option maxRecDepth 4000
def mh (f:V):List V:=[f]
theorem lfv {k n j:Nat} {K:V->Prop} {g:FuncId} {cs:List V}:ldB (kx k n) (kx k j) (mh (.clo (.func g) [] cs)) 0 K=(j<n/\K (.clo (.func g) [] cs)):=by unfold ldB;rw[l0];rfl
theorem mfv {g:FuncId} {cs:List V}:cL (mh (.clo (.func g) [] cs))=false:=rfl
theorem qM {k m:Nat} {g:FuncId} {cs:List V} (h:∀ x∈cs,x.ltP (kx k m)):∀ x∈mh (.clo (.func g) [] cs),x.lt (kx k m):=λx hx=>by simp only[mh,aX] at hx;subst hx;exact⟨λx hx=>(by cases hx),h⟩
theorem ffv {g:FuncId} {cs:List V}:[V.clo (.func g) [] cs]=mh (.clo (.func g) [] cs):=rfl
def pkW:=jj @lfv (jj @mfv @pkV)
theorem im {m:Nat}:∀ x∈([]:List V),x.ltP m:=λ_ h=>by cases h
theorem dA {k m i j:Nat} {l:List V} (h:i<m) (h2:∀ x∈l,x.ltP (kx k m)):∀ x∈V.bp (kx k i) j::l,x.ltP (kx k m):=λq hq=>by
 rcases aP.1 hq with rfl | hq
 .simp only[V.ltP,l0];exact h
 .exact h2 q hq
theorem qN {m n:Nat} {l:List V} (h:∀ x∈l,x.ltP m) (ko:m<=n):∀ x∈l,x.ltP n:=λx hx=>(h x hx).mono ko
def um (n:Nat) (first:Nat) (D:Nat->Nat->List In):List In:=cd n (λv=>cd n (D v) first) 0
def FB:=jj @pkA (jj @ptA @pkW)
theorem KA {τ:Type} (Y:Ys τ) (p:Pol) (o:Option Fa) (t first:Nat) (g:FuncId) (caps:List V) (j4:∀ x∈caps,x.ltP (kx Y.k 3)) (Iz:caps.map V.fz=caps) (D:Nat->Nat->List In)
 (eH:∀ s v w,(v<=p.types.length/\first<=w/\w<=p.types.length)->Fut G Y s (D v w)->FnR G Y g (i64 (v:Int)::i64 (w:Int)::caps) s (D v w) [eng p o,bV Y.k,bY t]) (v w:Nat) (hv:v<=p.types.length) (hw:first<=w/\w<=p.types.length) (s:τ) (hF:Fut G Y s (D v w)) :
 FnR G Y 186 [i64 (w:Int),.bp (kx Y.k 5) 0,.bp (kx Y.k 6) 0] s (D v w) [eng p o,bV Y.k,bY t,bV Y.k,bY first,mh (.clo (.func g) [] caps),bY v]:=by
 have dU:ltL (kx Y.k 7) [eng p o,bV Y.k,bY t,bV Y.k,bY first,mh (.clo (.func g) [] caps),bY v]:=aJ (cM Y.pos) (aJ (cD (by decide)) (aJ cU (aJ (cD (by decide)) (aJ cU (aJ (qM (qN j4 (by simp[kx]))) (aJ cU cJ))))))
 refine dw (m:=7) (rs:=[.tmp 4]) [1500008] mixed Tryz.func186 rfl rfl rfl rfl (by kernel_rfl) (by simp) rfl dU (bu trivial (bu (dZ (by decide)) (bu (dZ (by decide)) eD))) ?_;simp only[FB,↓reduceIte,Nat.reduceEqDiff,Nat.reduceAdd,Nat.reduceBEq,Nat.reduceMul,Nat.reduceLT,pkB Y _];refine nW (ls:=[eng p o,bV Y.k,bY t]) (rest:=[bV Y.k,bY first,mh (.clo (.func g) [] caps),bY v]) rfl (eH s v w ⟨hv,hw.1,hw.2⟩ hF) (by simp[V.fz,Iz]) rfl λt' b' hR=>?_
 simp only[pkA,↓reduceIte,pkB Y _];exact ig hR rfl rfl dU (by simp[])
theorem KB {τ:Type} (Y:Ys τ) (p:Pol) (o:Option Fa) (t first:Nat) (g:FuncId) (caps:List V) (j4:∀ x∈caps,x.ltP (kx Y.k 3)) (Iz:caps.map V.fz=caps) (D:Nat->Nat->List In)
 (eH:∀ s v w,(v<=p.types.length/\first<=w/\w<=p.types.length)->Fut G Y s (D v w)->FnR G Y g (i64 (v:Int)::i64 (w:Int)::caps) s (D v w) [eng p o,bV Y.k,bY t]) (hp:p.types.length<=9223372036854775806) (hfi:first<=1) (v:Nat) (hv:v<=p.types.length) (s:τ) (hF:Fut G Y s (cd p.types.length (D v) first)) :
 FnR G Y 185 [i64 (v:Int),.bp (kx Y.k 3) 0,.bp (kx Y.k 4) 0,.bp (kx Y.k 5) 0] s (cd p.types.length (D v) first) [eng p o,bV Y.k,bY t,bV Y.k,bY first,mh (.clo (.func g) [] caps)]:=by
 have dU:ltL (kx Y.k 6) [eng p o,bV Y.k,bY t,bV Y.k,bY first,mh (.clo (.func g) [] caps)]:=aJ (cM Y.pos) (aJ (cD (by decide)) (aJ cU (aJ (cD (by decide)) (aJ cU (aJ (qM (qN j4 (by simp[kx]))) cJ)))))
 have o9:ltL (kx Y.k 7) [bV Y.k,bY t,bV Y.k,bY first,mh (.clo (.func g) [] caps),bY v]:=λq hq=>(aJ (cM Y.pos) (aJ (cD (by decide)) (aJ cU (aJ (cD (by decide)) (aJ cU (aJ (qM (qN j4 (by simp[kx]))) (aJ cU cJ)))))):ltL (kx Y.k 7) [eng p o,bV Y.k,bY t,bV Y.k,bY first,mh (.clo (.func g) [] caps),bY v]) q (aT _ hq)
 refine dw (m:=6) (rs:=[.tmp 5]) [1500009] mixed Tryz.func185 rfl rfl rfl rfl (by kernel_rfl) (by simp) rfl dU (bu trivial (bu (dZ (by decide)) (bu (dZ (by decide)) (bu (dZ (by decide)) eD)))) ?_;simp only[FB,↓reduceIte,Nat.reduceEqDiff,Nat.reduceAdd,Nat.reduceBEq,Nat.reduceMul,Nat.reduceLT,pkB Y _,fw,fnv,ffv];refine dz (ls:=[eng p o,bV Y.k,bY t,bV Y.k,bY first,mh (.clo (.func g) [] caps),bY v]) rfl (jz Y p hp o first hfi [bV Y.k,bY t,bV Y.k,bY first,mh (.clo (.func g) [] caps),bY v] o9 _ (D v) ⟨186,[.bp (kx Y.k 5) 0,.bp (kx Y.k 6) 0],rfl,dA (aL rfl) (dA (aL rfl) im),rfl,λs w hw hF=>KA Y p o t first g caps j4 Iz D eH v w hv hw s hF⟩ s hF) rfl rfl λt' b' hR=>?_
 simp only[pkA,↓reduceIte,pkB Y _];exact fE (rest:=[bY v]) hR rfl rfl rfl dU (by simp[])
theorem NZ {τ:Type} (Y:Ys τ) (p:Pol) (o:Option Fa) (t first:Nat) (g:FuncId) (caps:List V) (j4:∀ x∈caps,x.ltP (kx Y.k 3)) (Iz:caps.map V.fz=caps) (D:Nat->Nat->List In)
 (eH:∀ s v w,(v<=p.types.length/\first<=w/\w<=p.types.length)->Fut G Y s (D v w)->FnR G Y g (i64 (v:Int)::i64 (w:Int)::caps) s (D v w) [eng p o,bV Y.k,bY t]) (hp:p.types.length<=9223372036854775806) (hfi:first<=1) (s:τ) (hF:Fut G Y s (um p.types.length first D)) :
 FnR G Y 158 [.bp (kx Y.k 0) 0,i64 (first:Int),.clo (.func g) [] caps] s (um p.types.length first D) [eng p o,bV Y.k,bY t]:=by
 have dU:ltL (kx Y.k 3) [eng p o,bV Y.k,bY t]:=aJ (cM Y.pos) (aJ (cD (by decide)) (aJ cU cJ));have o9:ltL (kx Y.k 6) [bV Y.k,bY t,bV Y.k,bY first,mh (.clo (.func g) [] caps)]:=λq hq=>(aJ (cM Y.pos) (aJ (cD (by decide)) (aJ cU (aJ (cD (by decide)) (aJ cU (aJ (qM (qN j4 (by simp[kx]))) cJ))))):ltL (kx Y.k 6) [eng p o,bV Y.k,bY t,bV Y.k,bY first,mh (.clo (.func g) [] caps)]) q (aT _ hq)
 refine dw (m:=3) (rs:=[.tmp 6]) [1500009] mixed Tryz.func158 rfl rfl rfl rfl (by kernel_rfl) (by simp) rfl dU (bu (dZ (by decide)) (bu trivial (bu ⟨λx hx=>(by cases hx),j4⟩ eD))) ?_;simp only[fh,fX];simp only[FB,↓reduceIte,Nat.reduceEqDiff,Nat.reduceAdd,Nat.reduceBEq,Nat.reduceMul,Nat.reduceLT,pkB Y _,fw,fev,fnv,ffv];refine dz (ls:=[eng p o,bV Y.k,bY t,bV Y.k,bY first,mh (.clo (.func g) [] caps)]) rfl (jz Y p hp o 0 (by decide) [bV Y.k,bY t,bV Y.k,bY first,mh (.clo (.func g) [] caps)] o9 _ (λv=>cd p.types.length (D v) first) ⟨185,[.bp (kx Y.k 3) 0,.bp (kx Y.k 4) 0,.bp (kx Y.k 5) 0],rfl,dA (aL rfl) (dA (aL rfl) (dA (aL rfl) im)),rfl,λs v hv hF=>KB Y p o t first g caps j4 Iz D eH hp hfi v hv.2 s hF⟩ s hF) rfl rfl λt' b' hR=>?_
 simp only[pkA,↓reduceIte,pkB Y _];exact fE (rest:=[bV Y.k,bY first,mh (.clo (.func g) [] caps)]) hR rfl rfl rfl dU (by simp[])
theorem KC {τ:Type} (Y:Ys τ) (p:Pol) (o:Option Fa) (a b first:Nat) (g:FuncId) (caps:List V) (j4:∀ x∈caps,x.ltP (kx Y.k 4)) (Iz:caps.map V.fz=caps) (D:Nat->Nat->List In)
 (eH:∀ s v w,(v<=p.types.length/\first<=w/\w<=p.types.length)->Fut G Y s (D v w)->FnR G Y g (i64 (v:Int)::i64 (w:Int)::caps) s (D v w) [eng p o,bV Y.k,bY a,bY b]) (v w:Nat) (hv:v<=p.types.length) (hw:first<=w/\w<=p.types.length) (s:τ) (hF:Fut G Y s (D v w)) :
 FnR G Y 186 [i64 (w:Int),.bp (kx Y.k 6) 0,.bp (kx Y.k 7) 0] s (D v w) [eng p o,bV Y.k,bY a,bY b,bV Y.k,bY first,mh (.clo (.func g) [] caps),bY v]:=by
 have dU:ltL (kx Y.k 8) [eng p o,bV Y.k,bY a,bY b,bV Y.k,bY first,mh (.clo (.func g) [] caps),bY v]:=aJ (cM Y.pos) (aJ (cD (by decide)) (aJ cU (aJ cU (aJ (cD (by decide)) (aJ cU (aJ (qM (qN j4 (by simp[kx]))) (aJ cU cJ)))))))
 refine dw (m:=8) (rs:=[.tmp 4]) [1500008] mixed Tryz.func186 rfl rfl rfl rfl (by kernel_rfl) (by simp) rfl dU (bu trivial (bu (dZ (by decide)) (bu (dZ (by decide)) eD))) ?_;simp only[FB,↓reduceIte,Nat.reduceEqDiff,Nat.reduceAdd,Nat.reduceBEq,Nat.reduceMul,Nat.reduceLT,pkB Y _];refine nW (ls:=[eng p o,bV Y.k,bY a,bY b]) (rest:=[bV Y.k,bY first,mh (.clo (.func g) [] caps),bY v]) rfl (eH s v w ⟨hv,hw.1,hw.2⟩ hF) (by simp[V.fz,Iz]) rfl λt' b' hR=>?_
 simp only[pkA,↓reduceIte,pkB Y _];exact ig hR rfl rfl dU (by simp[])
theorem KD {τ:Type} (Y:Ys τ) (p:Pol) (o:Option Fa) (a b first:Nat) (g:FuncId) (caps:List V) (j4:∀ x∈caps,x.ltP (kx Y.k 4)) (Iz:caps.map V.fz=caps) (D:Nat->Nat->List In)
 (eH:∀ s v w,(v<=p.types.length/\first<=w/\w<=p.types.length)->Fut G Y s (D v w)->FnR G Y g (i64 (v:Int)::i64 (w:Int)::caps) s (D v w) [eng p o,bV Y.k,bY a,bY b]) (hp:p.types.length<=9223372036854775806) (hfi:first<=1) (v:Nat) (hv:v<=p.types.length) (s:τ) (hF:Fut G Y s (cd p.types.length (D v) first)) :
 FnR G Y 185 [i64 (v:Int),.bp (kx Y.k 4) 0,.bp (kx Y.k 5) 0,.bp (kx Y.k 6) 0] s (cd p.types.length (D v) first) [eng p o,bV Y.k,bY a,bY b,bV Y.k,bY first,mh (.clo (.func g) [] caps)]:=by
 have dU:ltL (kx Y.k 7) [eng p o,bV Y.k,bY a,bY b,bV Y.k,bY first,mh (.clo (.func g) [] caps)]:=aJ (cM Y.pos) (aJ (cD (by decide)) (aJ cU (aJ cU (aJ (cD (by decide)) (aJ cU (aJ (qM (qN j4 (by simp[kx]))) cJ))))))
 have o9:ltL (kx Y.k 8) [bV Y.k,bY a,bY b,bV Y.k,bY first,mh (.clo (.func g) [] caps),bY v]:=λq hq=>(aJ (cM Y.pos) (aJ (cD (by decide)) (aJ cU (aJ cU (aJ (cD (by decide)) (aJ cU (aJ (qM (qN j4 (by simp[kx]))) (aJ cU cJ))))))):ltL (kx Y.k 8) [eng p o,bV Y.k,bY a,bY b,bV Y.k,bY first,mh (.clo (.func g) [] caps),bY v]) q (aT _ hq)
 refine dw (m:=7) (rs:=[.tmp 5]) [1500009] mixed Tryz.func185 rfl rfl rfl rfl (by kernel_rfl) (by simp) rfl dU (bu trivial (bu (dZ (by decide)) (bu (dZ (by decide)) (bu (dZ (by decide)) eD)))) ?_;simp only[FB,↓reduceIte,Nat.reduceEqDiff,Nat.reduceAdd,Nat.reduceBEq,Nat.reduceMul,Nat.reduceLT,pkB Y _,fw,fnv,ffv];refine dz (ls:=[eng p o,bV Y.k,bY a,bY b,bV Y.k,bY first,mh (.clo (.func g) [] caps),bY v]) rfl (jz Y p hp o first hfi [bV Y.k,bY a,bY b,bV Y.k,bY first,mh (.clo (.func g) [] caps),bY v] o9 _ (D v) ⟨186,[.bp (kx Y.k 6) 0,.bp (kx Y.k 7) 0],rfl,dA (aL rfl) (dA (aL rfl) im),rfl,λs w hw hF=>KC Y p o a b first g caps j4 Iz D eH v w hv hw s hF⟩ s hF) rfl rfl λt' b' hR=>?_
 simp only[pkA,↓reduceIte,pkB Y _];exact fE (rest:=[bY v]) hR rfl rfl rfl dU (by simp[])
theorem C2 {τ:Type} (Y:Ys τ) (p:Pol) (o:Option Fa) (a b first:Nat) (g:FuncId) (caps:List V) (j4:∀ x∈caps,x.ltP (kx Y.k 4)) (Iz:caps.map V.fz=caps) (D:Nat->Nat->List In)
 (eH:∀ s v w,(v<=p.types.length/\first<=w/\w<=p.types.length)->Fut G Y s (D v w)->FnR G Y g (i64 (v:Int)::i64 (w:Int)::caps) s (D v w) [eng p o,bV Y.k,bY a,bY b]) (hp:p.types.length<=9223372036854775806) (hfi:first<=1) (s:τ) (hF:Fut G Y s (um p.types.length first D)) :
 FnR G Y 158 [.bp (kx Y.k 0) 0,i64 (first:Int),.clo (.func g) [] caps] s (um p.types.length first D) [eng p o,bV Y.k,bY a,bY b]:=by
 have dU:ltL (kx Y.k 4) [eng p o,bV Y.k,bY a,bY b]:=aJ (cM Y.pos) (aJ (cD (by decide)) (aJ cU (aJ cU cJ)));have o9:ltL (kx Y.k 7) [bV Y.k,bY a,bY b,bV Y.k,bY first,mh (.clo (.func g) [] caps)]:=λq hq=>(aJ (cM Y.pos) (aJ (cD (by decide)) (aJ cU (aJ cU (aJ (cD (by decide)) (aJ cU (aJ (qM (qN j4 (by simp[kx]))) cJ)))))):ltL (kx Y.k 7) [eng p o,bV Y.k,bY a,bY b,bV Y.k,bY first,mh (.clo (.func g) [] caps)]) q (aT _ hq)
 refine dw (m:=4) (rs:=[.tmp 6]) [1500009] mixed Tryz.func158 rfl rfl rfl rfl (by kernel_rfl) (by simp) rfl dU (bu (dZ (by decide)) (bu trivial (bu ⟨λx hx=>(by cases hx),j4⟩ eD))) ?_;simp only[fh,fX];simp only[FB,↓reduceIte,Nat.reduceEqDiff,Nat.reduceAdd,Nat.reduceBEq,Nat.reduceMul,Nat.reduceLT,pkB Y _,fw,fev,fnv,ffv];refine dz (ls:=[eng p o,bV Y.k,bY a,bY b,bV Y.k,bY first,mh (.clo (.func g) [] caps)]) rfl (jz Y p hp o 0 (by decide) [bV Y.k,bY a,bY b,bV Y.k,bY first,mh (.clo (.func g) [] caps)] o9 _ (λv=>cd p.types.length (D v) first) ⟨185,[.bp (kx Y.k 4) 0,.bp (kx Y.k 5) 0,.bp (kx Y.k 6) 0],rfl,dA (aL rfl) (dA (aL rfl) (dA (aL rfl) im)),rfl,λs v hv hF=>KD Y p o a b first g caps j4 Iz D eH hp hfi v hv.2 s hF⟩ s hF) rfl rfl λt' b' hR=>?_
 simp only[pkA,↓reduceIte,pkB Y _];exact fE (rest:=[bV Y.k,bY first,mh (.clo (.func g) [] caps)]) hR rfl rfl rfl dU (by simp[])
def i14:In:=⟨14,[],[iI 0 0]⟩
def KE:=jj @pkA (jj @ptA @pkE)
theorem XW {τ:Type} (Y:Ys τ) (p:Pol) (o:Option Fa) (s:τ) (hF:Fut G Y s (emL o i14)) :
 FnR G Y 106 [.bp (kx Y.k 0) 0] s (emL o i14) [eng p o]:=by
 have dU:ltL (kx Y.k 1) [eng p o]:=aJ (cM Y.pos) cJ;have zH:∀ x∈[V.bp (kx Y.k 0) 0],x.lt (kx Y.k 1):=bu (dZ (by decide)) eD;refine dw (m:=1) (rs:=[.tmp 2]) [1500006] mixed Tryz.func106 rfl rfl rfl rfl (by kernel_rfl) (by simp) rfl dU zH ?_;simp only[pkA,↓reduceIte,Nat.reduceEqDiff,Nat.reduceAdd,Nat.reduceBEq,pkB Y _];refine az rfl (sw _ _) (λ_=>rfl) ?_;simp only[KE,↓reduceIte,Nat.reduceEqDiff,Nat.reduceAdd,Nat.reduceBEq,Nat.reduceMul,Nat.reduceLeDiff,pkB Y _];refine wO i14 rfl hF rfl rfl rfl ?_;intro t' b' hR;simp only[pkA,↓reduceIte,pkB Y _];exact ig hR rfl rfl dU (by simp[])
def i10 (a b v w:Nat):In:=⟨10,[bD v a,iI v w],if 0<w then[bD w b,wK w] else[bD w b]⟩
def r10 (o:Option Fa) (a b v w:Nat):List In:=if 0<w/\v=0 then[] else emL o (i10 a b v w)
def XX:=jj @pkA (jj @ptA @pkV)
theorem acu {τ:Type} (Y:Ys τ) (p:Pol) (o:Option Fa) (a b v w:Nat) (s:τ) (hF:Fut G Y s (r10 o a b v w)) :
 FnR G Y 163 [i64 (v:Int),i64 (w:Int),.bp (kx Y.k 3) 0,.bp (kx Y.k 1) 0,.bp (kx Y.k 2) 0] s (r10 o a b v w) [eng p o,bV Y.k,bY a,bY b]:=by
 have dU:ltL (kx Y.k 4) [eng p o,bV Y.k,bY a,bY b]:=aJ (cM Y.pos) (aJ (cD (by decide)) (aJ cU (aJ cU cJ)));refine dw (m:=4) (rs:=[.tmp 7]) [1500037,23,2850006,2880006] mixed Tryz.func163 rfl rfl rfl rfl (by kernel_rfl) (by simp) rfl dU (bu trivial (bu trivial (bu (dZ (by decide)) (bu (dZ (by decide)) (bu (dZ (by decide)) eD))))) ?_;simp only[XX,↓reduceIte,Nat.reduceEqDiff,Nat.reduceAdd,Nat.reduceBEq,Nat.reduceMul,pkB Y _];refine az rfl (fx _ _) (λ_=>rfl) ?_;simp only[KE,↓reduceIte,Nat.reduceEqDiff,Nat.reduceAdd,Nat.reduceBEq,Nat.reduceMul,Nat.reduceLeDiff,pkB Y _];have e1:∀ x:Fa,[V.agg (faC x)].length=1:=λ_=>rfl;refine eT (λhw=>?_) (λhw=>?_)
 .have xh:0<w:=by simpa using hw
  simp only[pkA,↓reduceIte,Nat.reduceEqDiff,Nat.reduceBEq,pkB Y _];refine aD (λhv=>?_) (λhv=>?_)
  .have Uy:v=0:=by simpa using hv
   have hr:r10 o a b v w=[]:=(by simp[r10,xh,Uy]);rw[hr];simp only[pkA,↓reduceIte,Nat.reduceAdd,Nat.reduceBEq,pkB Y _];exact ig (.nil s) rfl rfl dU (by simp[])
  .have Uy:¬ v=0:=by simpa using hv
   have hr:r10 o a b v w=emL o (i10 a b v w):=(by simp[r10,Uy]);rw[hr] at hF ⊢
   have hi:(i10 a b v w).con=[bD w b,wK w]:=(by simp[i10,xh]);simp only[pkA,↓reduceIte,Nat.reduceEqDiff,Nat.reduceAdd,Nat.reduceBEq,pkB Y _,hw];refine az rfl (XO _) (λ_=>rfl) ?_;simp only[KE,↓reduceIte,Nat.reduceEqDiff,Nat.reduceAdd,Nat.reduceBEq,Nat.reduceMul,Nat.reduceLeDiff,pkB Y _];simp only[pkA,↓reduceIte,Nat.reduceEqDiff,Nat.reduceAdd,Nat.reduceBEq,Nat.reduceMul,Nat.reduceLeDiff,pkB Y _,dm,zd];refine⟨⟨.inr (by first | trivial | rfl),by simp[faC]⟩,by simp[faC],?_⟩
   refine mL ?_;simp only[XX,↓reduceIte,Nat.reduceEqDiff,Nat.reduceAdd,Nat.reduceBEq,Nat.reduceMul,Nat.reduceLT,pkB Y _];refine az rfl (fx _ _) (λ_=>rfl) ?_;simp only[pkA,↓reduceIte,Nat.reduceEqDiff,Nat.reduceAdd,Nat.reduceBEq,pkB Y _];refine az rfl (sw _ _) (λ_=>rfl) ?_;simp only[KE,↓reduceIte,Nat.reduceEqDiff,Nat.reduceAdd,Nat.reduceBEq,Nat.reduceMul,Nat.reduceLT,Nat.reduceLeDiff,pkB Y _];refine ij (i10 a b v w) (by simp[i10]) hF rfl (by rw[hi];rfl) rfl ?_;intro t' b' hR;simp only[pkA,↓reduceIte,pkB Y _];exact ig hR rfl rfl dU (by simp[])
 .have xh:w=0:=by simpa using hw
  subst xh;have hr:r10 o a b v 0=emL o (i10 a b v 0):=by simp[r10]
  rw[hr] at hF ⊢
  simp only[pkA,↓reduceIte,Nat.reduceEqDiff,Nat.reduceAdd,Nat.reduceBEq,pkB Y _,hw];refine mL ?_;simp only[XX,↓reduceIte,Nat.reduceEqDiff,Nat.reduceAdd,Nat.reduceBEq,Nat.reduceMul,Nat.reduceLT,pkB Y _];refine az rfl (fx _ _) (λ_=>rfl) ?_;simp only[pkA,↓reduceIte,Nat.reduceEqDiff,Nat.reduceAdd,Nat.reduceBEq,pkB Y _];refine az rfl (sw _ _) (λ_=>rfl) ?_;simp only[KE,↓reduceIte,Nat.reduceEqDiff,Nat.reduceAdd,Nat.reduceBEq,Nat.reduceMul,Nat.reduceLT,Nat.reduceLeDiff,pkB Y _];refine ij (i10 a b v 0) (by simp[i10]) hF rfl rfl rfl ?_;intro t' b' hR;simp only[pkA,↓reduceIte,pkB Y _];exact ig hR rfl rfl dU (by simp[])
