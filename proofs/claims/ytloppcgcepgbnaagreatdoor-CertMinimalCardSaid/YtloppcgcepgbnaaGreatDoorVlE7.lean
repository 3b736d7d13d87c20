/- The engine of layer 17: pairs, the closures between. Printed by gen18.py. -/
import Derived.Test.YtloppcgcepgbnaaGreatDoorVlE5
set_option linter.all false
namespace Go.Proofs.YtloppcgcepgbnaaGreatDoor
open Go Go.Vl
variable {G:Gl}
set_option maxRecDepth 4000
def lU (f:V):List V:=[f]
theorem lfv {k n j:Nat} {K:V→Prop} {g:FuncId} {cs:List V}:ldB (kx k n) (kx k j) (lU (.clo (.func g) [] cs)) 0 K=(j<n∧K (.clo (.func g) [] cs)):=by unfold ldB;rw[kM];rfl
theorem mfv {g:FuncId} {cs:List V}:bY (lU (.clo (.func g) [] cs))=false:=rfl
theorem qA {k m:Nat} {g:FuncId} {cs:List V} (h:∀ x∈cs,x.ltP (kx k m)):∀ x∈lU (.clo (.func g) [] cs),x.lt (kx k m):=fun x hx=>by
 simp only[lU,aW] at hx;subst hx;exact⟨fun x hx=>(by cases hx),h⟩
theorem ffv {g:FuncId} {cs:List V}:[V.clo (.func g) [] cs]=lU (.clo (.func g) [] cs):=rfl
def pkW:=jj @lfv (jj @mfv @pkV)
theorem ij {m:Nat}:∀ x∈([]:List V),x.ltP m:=fun _ h=>by cases h
theorem du {k m i j:Nat} {l:List V} (h:i<m) (h2:∀ x∈l,x.ltP (kx k m)):∀ x∈V.bp (kx k i) j::l,x.ltP (kx k m):=fun q hq=>by
 rcases aQ.1 hq with rfl | hq
 ·simp only[V.ltP,kM];exact h
 ·exact h2 q hq
theorem qC {m n:Nat} {l:List V} (h:∀ x∈l,x.ltP m) (ke:m≤n):∀ x∈l,x.ltP n:=fun x hx=>(h x hx).mono ke
def ui (n:Nat) (first:Nat) (D:Nat→Nat→List In):List In:=gr n (fun v=>gr n (D v) first) 0
def EW:=jj @pkA (jj @ptA @pkW)
theorem J7 {τ:Type} (Y:Ys τ) (p:Pol) (o:Option Fa) (t first:Nat) (g:FuncId) (caps:List V) (kf:∀ x∈caps,x.ltP (kx Y.k 3)) (LL:caps.map V.fz=caps) (D:Nat→Nat→List In)
 (eK:∀ s v w,(v≤p.types.length∧first≤w∧w≤p.types.length)→Fut G Y s (D v w)→FnR G Y g (i64 (v:Int)::i64 (w:Int)::caps) s (D v w) [eng p o,bP Y.k,bQ t]) (v w:Nat) (hv:v≤p.types.length) (hw:first≤w∧w≤p.types.length) (s:τ) (hF:Fut G Y s (D v w)) :
 FnR G Y 186 [i64 (w:Int),.bp (kx Y.k 5) 0,.bp (kx Y.k 6) 0] s (D v w) [eng p o,bP Y.k,bQ t,bP Y.k,bQ first,lU (.clo (.func g) [] caps),bQ v]:=by
 have dQ:ltL (kx Y.k 7) [eng p o,bP Y.k,bQ t,bP Y.k,bQ first,lU (.clo (.func g) [] caps),bQ v]:=aD (cB Y.pos) (aD (cg (by decide)) (aD cP (aD (cg (by decide)) (aD cP (aD (qA (qC kf (by simp[kx]))) (aD cP cz))))))
 refine dm (m:=7) (rs:=[.tmp 4]) [1500008] mixed Tryz.func186 rfl rfl rfl rfl (by kernel_rfl) (by simp) rfl dQ (bj trivial (bj (dX (by decide)) (bj (dX (by decide)) eE))) ?_
 simp only[EW,↓reduceIte,Nat.reduceEqDiff,Nat.reduceAdd,Nat.reduceBEq,Nat.reduceMul,Nat.reduceLT,pkB Y _]
 refine nI (ls:=[eng p o,bP Y.k,bQ t]) (rest:=[bP Y.k,bQ first,lU (.clo (.func g) [] caps),bQ v]) rfl (eK s v w ⟨hv,hw.1,hw.2⟩ hF) (by simp[V.fz,LL]) rfl fun t' b' hR=>?_
 simp only[pkA,↓reduceIte,pkB Y _]
 exact ib hR rfl rfl dQ (by simp[])
theorem J8 {τ:Type} (Y:Ys τ) (p:Pol) (o:Option Fa) (t first:Nat) (g:FuncId) (caps:List V) (kf:∀ x∈caps,x.ltP (kx Y.k 3)) (LL:caps.map V.fz=caps) (D:Nat→Nat→List In)
 (eK:∀ s v w,(v≤p.types.length∧first≤w∧w≤p.types.length)→Fut G Y s (D v w)→FnR G Y g (i64 (v:Int)::i64 (w:Int)::caps) s (D v w) [eng p o,bP Y.k,bQ t]) (hp:p.types.length≤9223372036854775806) (hfi:first≤1) (v:Nat) (hv:v≤p.types.length) (s:τ) (hF:Fut G Y s (gr p.types.length (D v) first)) :
 FnR G Y 185 [i64 (v:Int),.bp (kx Y.k 3) 0,.bp (kx Y.k 4) 0,.bp (kx Y.k 5) 0] s (gr p.types.length (D v) first) [eng p o,bP Y.k,bQ t,bP Y.k,bQ first,lU (.clo (.func g) [] caps)]:=by
 have dQ:ltL (kx Y.k 6) [eng p o,bP Y.k,bQ t,bP Y.k,bQ first,lU (.clo (.func g) [] caps)]:=aD (cB Y.pos) (aD (cg (by decide)) (aD cP (aD (cg (by decide)) (aD cP (aD (qA (qC kf (by simp[kx]))) cz)))))
 have oW:ltL (kx Y.k 7) [bP Y.k,bQ t,bP Y.k,bQ first,lU (.clo (.func g) [] caps),bQ v]:=fun q hq=>(aD (cB Y.pos) (aD (cg (by decide)) (aD cP (aD (cg (by decide)) (aD cP (aD (qA (qC kf (by simp[kx]))) (aD cP cz)))))):ltL (kx Y.k 7) [eng p o,bP Y.k,bQ t,bP Y.k,bQ first,lU (.clo (.func g) [] caps),bQ v]) q (aR _ hq)
 refine dm (m:=6) (rs:=[.tmp 5]) [1500009] mixed Tryz.func185 rfl rfl rfl rfl (by kernel_rfl) (by simp) rfl dQ (bj trivial (bj (dX (by decide)) (bj (dX (by decide)) (bj (dX (by decide)) eE)))) ?_
 simp only[EW,↓reduceIte,Nat.reduceEqDiff,Nat.reduceAdd,Nat.reduceBEq,Nat.reduceMul,Nat.reduceLT,pkB Y _,fg,fnv,ffv]
 refine dt (ls:=[eng p o,bP Y.k,bQ t,bP Y.k,bQ first,lU (.clo (.func g) [] caps),bQ v]) rfl (jz Y p hp o first hfi [bP Y.k,bQ t,bP Y.k,bQ first,lU (.clo (.func g) [] caps),bQ v] oW _ (D v) ⟨186,[.bp (kx Y.k 5) 0,.bp (kx Y.k 6) 0],rfl,du (aH rfl) (du (aH rfl) ij),rfl,fun s w hw hF=>J7 Y p o t first g caps kf LL D eK v w hv hw s hF⟩ s hF) rfl rfl fun t' b' hR=>?_
 simp only[pkA,↓reduceIte,pkB Y _]
 exact ft (rest:=[bQ v]) hR rfl rfl rfl dQ (by simp[])
theorem N2 {τ:Type} (Y:Ys τ) (p:Pol) (o:Option Fa) (t first:Nat) (g:FuncId) (caps:List V) (kf:∀ x∈caps,x.ltP (kx Y.k 3)) (LL:caps.map V.fz=caps) (D:Nat→Nat→List In)
 (eK:∀ s v w,(v≤p.types.length∧first≤w∧w≤p.types.length)→Fut G Y s (D v w)→FnR G Y g (i64 (v:Int)::i64 (w:Int)::caps) s (D v w) [eng p o,bP Y.k,bQ t]) (hp:p.types.length≤9223372036854775806) (hfi:first≤1) (s:τ) (hF:Fut G Y s (ui p.types.length first D)) :
 FnR G Y 158 [.bp (kx Y.k 0) 0,i64 (first:Int),.clo (.func g) [] caps] s (ui p.types.length first D) [eng p o,bP Y.k,bQ t]:=by
 have dQ:ltL (kx Y.k 3) [eng p o,bP Y.k,bQ t]:=aD (cB Y.pos) (aD (cg (by decide)) (aD cP cz))
 have oW:ltL (kx Y.k 6) [bP Y.k,bQ t,bP Y.k,bQ first,lU (.clo (.func g) [] caps)]:=fun q hq=>(aD (cB Y.pos) (aD (cg (by decide)) (aD cP (aD (cg (by decide)) (aD cP (aD (qA (qC kf (by simp[kx]))) cz))))):ltL (kx Y.k 6) [eng p o,bP Y.k,bQ t,bP Y.k,bQ first,lU (.clo (.func g) [] caps)]) q (aR _ hq)
 refine dm (m:=3) (rs:=[.tmp 6]) [1500009] mixed Tryz.func158 rfl rfl rfl rfl (by kernel_rfl) (by simp) rfl dQ (bj (dX (by decide)) (bj trivial (bj ⟨fun x hx=>(by cases hx),kf⟩ eE))) ?_
 simp only[eY,fO]
 simp only[EW,↓reduceIte,Nat.reduceEqDiff,Nat.reduceAdd,Nat.reduceBEq,Nat.reduceMul,Nat.reduceLT,pkB Y _,fg,fev,fnv,ffv]
 refine dt (ls:=[eng p o,bP Y.k,bQ t,bP Y.k,bQ first,lU (.clo (.func g) [] caps)]) rfl (jz Y p hp o 0 (by decide) [bP Y.k,bQ t,bP Y.k,bQ first,lU (.clo (.func g) [] caps)] oW _ (fun v=>gr p.types.length (D v) first) ⟨185,[.bp (kx Y.k 3) 0,.bp (kx Y.k 4) 0,.bp (kx Y.k 5) 0],rfl,du (aH rfl) (du (aH rfl) (du (aH rfl) ij)),rfl,fun s v hv hF=>J8 Y p o t first g caps kf LL D eK hp hfi v hv.2 s hF⟩ s hF) rfl rfl fun t' b' hR=>?_
 simp only[pkA,↓reduceIte,pkB Y _]
 exact ft (rest:=[bP Y.k,bQ first,lU (.clo (.func g) [] caps)]) hR rfl rfl rfl dQ (by simp[])
theorem J9 {τ:Type} (Y:Ys τ) (p:Pol) (o:Option Fa) (a b first:Nat) (g:FuncId) (caps:List V) (kf:∀ x∈caps,x.ltP (kx Y.k 4)) (LL:caps.map V.fz=caps) (D:Nat→Nat→List In)
 (eK:∀ s v w,(v≤p.types.length∧first≤w∧w≤p.types.length)→Fut G Y s (D v w)→FnR G Y g (i64 (v:Int)::i64 (w:Int)::caps) s (D v w) [eng p o,bP Y.k,bQ a,bQ b]) (v w:Nat) (hv:v≤p.types.length) (hw:first≤w∧w≤p.types.length) (s:τ) (hF:Fut G Y s (D v w)) :
 FnR G Y 186 [i64 (w:Int),.bp (kx Y.k 6) 0,.bp (kx Y.k 7) 0] s (D v w) [eng p o,bP Y.k,bQ a,bQ b,bP Y.k,bQ first,lU (.clo (.func g) [] caps),bQ v]:=by
 have dQ:ltL (kx Y.k 8) [eng p o,bP Y.k,bQ a,bQ b,bP Y.k,bQ first,lU (.clo (.func g) [] caps),bQ v]:=aD (cB Y.pos) (aD (cg (by decide)) (aD cP (aD cP (aD (cg (by decide)) (aD cP (aD (qA (qC kf (by simp[kx]))) (aD cP cz)))))))
 refine dm (m:=8) (rs:=[.tmp 4]) [1500008] mixed Tryz.func186 rfl rfl rfl rfl (by kernel_rfl) (by simp) rfl dQ (bj trivial (bj (dX (by decide)) (bj (dX (by decide)) eE))) ?_
 simp only[EW,↓reduceIte,Nat.reduceEqDiff,Nat.reduceAdd,Nat.reduceBEq,Nat.reduceMul,Nat.reduceLT,pkB Y _]
 refine nI (ls:=[eng p o,bP Y.k,bQ a,bQ b]) (rest:=[bP Y.k,bQ first,lU (.clo (.func g) [] caps),bQ v]) rfl (eK s v w ⟨hv,hw.1,hw.2⟩ hF) (by simp[V.fz,LL]) rfl fun t' b' hR=>?_
 simp only[pkA,↓reduceIte,pkB Y _]
 exact ib hR rfl rfl dQ (by simp[])
theorem Ko {τ:Type} (Y:Ys τ) (p:Pol) (o:Option Fa) (a b first:Nat) (g:FuncId) (caps:List V) (kf:∀ x∈caps,x.ltP (kx Y.k 4)) (LL:caps.map V.fz=caps) (D:Nat→Nat→List In)
 (eK:∀ s v w,(v≤p.types.length∧first≤w∧w≤p.types.length)→Fut G Y s (D v w)→FnR G Y g (i64 (v:Int)::i64 (w:Int)::caps) s (D v w) [eng p o,bP Y.k,bQ a,bQ b]) (hp:p.types.length≤9223372036854775806) (hfi:first≤1) (v:Nat) (hv:v≤p.types.length) (s:τ) (hF:Fut G Y s (gr p.types.length (D v) first)) :
 FnR G Y 185 [i64 (v:Int),.bp (kx Y.k 4) 0,.bp (kx Y.k 5) 0,.bp (kx Y.k 6) 0] s (gr p.types.length (D v) first) [eng p o,bP Y.k,bQ a,bQ b,bP Y.k,bQ first,lU (.clo (.func g) [] caps)]:=by
 have dQ:ltL (kx Y.k 7) [eng p o,bP Y.k,bQ a,bQ b,bP Y.k,bQ first,lU (.clo (.func g) [] caps)]:=aD (cB Y.pos) (aD (cg (by decide)) (aD cP (aD cP (aD (cg (by decide)) (aD cP (aD (qA (qC kf (by simp[kx]))) cz))))))
 have oW:ltL (kx Y.k 8) [bP Y.k,bQ a,bQ b,bP Y.k,bQ first,lU (.clo (.func g) [] caps),bQ v]:=fun q hq=>(aD (cB Y.pos) (aD (cg (by decide)) (aD cP (aD cP (aD (cg (by decide)) (aD cP (aD (qA (qC kf (by simp[kx]))) (aD cP cz))))))):ltL (kx Y.k 8) [eng p o,bP Y.k,bQ a,bQ b,bP Y.k,bQ first,lU (.clo (.func g) [] caps),bQ v]) q (aR _ hq)
 refine dm (m:=7) (rs:=[.tmp 5]) [1500009] mixed Tryz.func185 rfl rfl rfl rfl (by kernel_rfl) (by simp) rfl dQ (bj trivial (bj (dX (by decide)) (bj (dX (by decide)) (bj (dX (by decide)) eE)))) ?_
 simp only[EW,↓reduceIte,Nat.reduceEqDiff,Nat.reduceAdd,Nat.reduceBEq,Nat.reduceMul,Nat.reduceLT,pkB Y _,fg,fnv,ffv]
 refine dt (ls:=[eng p o,bP Y.k,bQ a,bQ b,bP Y.k,bQ first,lU (.clo (.func g) [] caps),bQ v]) rfl (jz Y p hp o first hfi [bP Y.k,bQ a,bQ b,bP Y.k,bQ first,lU (.clo (.func g) [] caps),bQ v] oW _ (D v) ⟨186,[.bp (kx Y.k 6) 0,.bp (kx Y.k 7) 0],rfl,du (aH rfl) (du (aH rfl) ij),rfl,fun s w hw hF=>J9 Y p o a b first g caps kf LL D eK v w hv hw s hF⟩ s hF) rfl rfl fun t' b' hR=>?_
 simp only[pkA,↓reduceIte,pkB Y _]
 exact ft (rest:=[bQ v]) hR rfl rfl rfl dQ (by simp[])
theorem Cj {τ:Type} (Y:Ys τ) (p:Pol) (o:Option Fa) (a b first:Nat) (g:FuncId) (caps:List V) (kf:∀ x∈caps,x.ltP (kx Y.k 4)) (LL:caps.map V.fz=caps) (D:Nat→Nat→List In)
 (eK:∀ s v w,(v≤p.types.length∧first≤w∧w≤p.types.length)→Fut G Y s (D v w)→FnR G Y g (i64 (v:Int)::i64 (w:Int)::caps) s (D v w) [eng p o,bP Y.k,bQ a,bQ b]) (hp:p.types.length≤9223372036854775806) (hfi:first≤1) (s:τ) (hF:Fut G Y s (ui p.types.length first D)) :
 FnR G Y 158 [.bp (kx Y.k 0) 0,i64 (first:Int),.clo (.func g) [] caps] s (ui p.types.length first D) [eng p o,bP Y.k,bQ a,bQ b]:=by
 have dQ:ltL (kx Y.k 4) [eng p o,bP Y.k,bQ a,bQ b]:=aD (cB Y.pos) (aD (cg (by decide)) (aD cP (aD cP cz)))
 have oW:ltL (kx Y.k 7) [bP Y.k,bQ a,bQ b,bP Y.k,bQ first,lU (.clo (.func g) [] caps)]:=fun q hq=>(aD (cB Y.pos) (aD (cg (by decide)) (aD cP (aD cP (aD (cg (by decide)) (aD cP (aD (qA (qC kf (by simp[kx]))) cz)))))):ltL (kx Y.k 7) [eng p o,bP Y.k,bQ a,bQ b,bP Y.k,bQ first,lU (.clo (.func g) [] caps)]) q (aR _ hq)
 refine dm (m:=4) (rs:=[.tmp 6]) [1500009] mixed Tryz.func158 rfl rfl rfl rfl (by kernel_rfl) (by simp) rfl dQ (bj (dX (by decide)) (bj trivial (bj ⟨fun x hx=>(by cases hx),kf⟩ eE))) ?_
 simp only[eY,fO]
 simp only[EW,↓reduceIte,Nat.reduceEqDiff,Nat.reduceAdd,Nat.reduceBEq,Nat.reduceMul,Nat.reduceLT,pkB Y _,fg,fev,fnv,ffv]
 refine dt (ls:=[eng p o,bP Y.k,bQ a,bQ b,bP Y.k,bQ first,lU (.clo (.func g) [] caps)]) rfl (jz Y p hp o 0 (by decide) [bP Y.k,bQ a,bQ b,bP Y.k,bQ first,lU (.clo (.func g) [] caps)] oW _ (fun v=>gr p.types.length (D v) first) ⟨185,[.bp (kx Y.k 4) 0,.bp (kx Y.k 5) 0,.bp (kx Y.k 6) 0],rfl,du (aH rfl) (du (aH rfl) (du (aH rfl) ij)),rfl,fun s v hv hF=>Ko Y p o a b first g caps kf LL D eK hp hfi v hv.2 s hF⟩ s hF) rfl rfl fun t' b' hR=>?_
 simp only[pkA,↓reduceIte,pkB Y _]
 exact ft (rest:=[bP Y.k,bQ first,lU (.clo (.func g) [] caps)]) hR rfl rfl rfl dQ (by simp[])
def i14:In:=⟨14,[],[ue 0 0]⟩
def Kq:=jj @pkA (jj @ptA @pkE)
theorem Yj {τ:Type} (Y:Ys τ) (p:Pol) (o:Option Fa) (s:τ) (hF:Fut G Y s (emL o i14)) :
 FnR G Y 106 [.bp (kx Y.k 0) 0] s (emL o i14) [eng p o]:=by
 have dQ:ltL (kx Y.k 1) [eng p o]:=aD (cB Y.pos) cz
 have zu:∀ x∈[V.bp (kx Y.k 0) 0],x.lt (kx Y.k 1):=bj (dX (by decide)) eE
 refine dm (m:=1) (rs:=[.tmp 2]) [1500006] mixed Tryz.func106 rfl rfl rfl rfl (by kernel_rfl) (by simp) rfl dQ zu ?_
 simp only[pkA,↓reduceIte,Nat.reduceEqDiff,Nat.reduceAdd,Nat.reduceBEq,pkB Y _]
 refine aN rfl (sq _ _) (fun _=>rfl) ?_
 simp only[Kq,↓reduceIte,Nat.reduceEqDiff,Nat.reduceAdd,Nat.reduceBEq,Nat.reduceMul,Nat.reduceLeDiff,pkB Y _]
 refine wO i14 rfl hF rfl rfl rfl ?_
 intro t' b' hR
 simp only[pkA,↓reduceIte,pkB Y _]
 exact ib hR rfl rfl dQ (by simp[])
def i10 (a b v w:Nat):In:=⟨10,[fZ v a,ue v w],if 0<w then[fZ w b,Hh w] else[fZ w b]⟩
def r10 (o:Option Fa) (a b v w:Nat):List In:=if 0<w∧v=0 then[] else emL o (i10 a b v w)
def Yk:=jj @pkA (jj @ptA @pkV)
theorem adO {τ:Type} (Y:Ys τ) (p:Pol) (o:Option Fa) (a b v w:Nat) (s:τ) (hF:Fut G Y s (r10 o a b v w)) :
 FnR G Y 163 [i64 (v:Int),i64 (w:Int),.bp (kx Y.k 3) 0,.bp (kx Y.k 1) 0,.bp (kx Y.k 2) 0] s (r10 o a b v w) [eng p o,bP Y.k,bQ a,bQ b]:=by
 have dQ:ltL (kx Y.k 4) [eng p o,bP Y.k,bQ a,bQ b]:=aD (cB Y.pos) (aD (cg (by decide)) (aD cP (aD cP cz)))
 refine dm (m:=4) (rs:=[.tmp 7]) [1500037,23,2850006,2880006] mixed Tryz.func163 rfl rfl rfl rfl (by kernel_rfl) (by simp) rfl dQ (bj trivial (bj trivial (bj (dX (by decide)) (bj (dX (by decide)) (bj (dX (by decide)) eE))))) ?_
 simp only[Yk,↓reduceIte,Nat.reduceEqDiff,Nat.reduceAdd,Nat.reduceBEq,Nat.reduceMul,pkB Y _]
 refine aN rfl (fi _ _) (fun _=>rfl) ?_
 simp only[Kq,↓reduceIte,Nat.reduceEqDiff,Nat.reduceAdd,Nat.reduceBEq,Nat.reduceMul,Nat.reduceLeDiff,pkB Y _]
 have e1:∀ x:Fa,[V.agg (faC x)].length=1:=fun _=>rfl
 refine fA (fun hw=>?_) (fun hw=>?_)
 ·have hw0:0<w:=by simpa using hw
  simp only[pkA,↓reduceIte,Nat.reduceEqDiff,Nat.reduceBEq,pkB Y _]
  refine aS (fun hv=>?_) (fun hv=>?_)
  ·have Uj:v=0:=by simpa using hv
   have hr:r10 o a b v w=[]:=by simp[r10,hw0,Uj]
   rw[hr]
   simp only[pkA,↓reduceIte,Nat.reduceAdd,Nat.reduceBEq,pkB Y _]
   exact ib (.nil s) rfl rfl dQ (by simp[])
  ·have Uj:¬ v=0:=by simpa using hv
   have hr:r10 o a b v w=emL o (i10 a b v w):=by simp[r10,Uj]
   rw[hr] at hF ⊢
   have hi:(i10 a b v w).con=[fZ w b,Hh w]:=by simp[i10,hw0]
   simp only[pkA,↓reduceIte,Nat.reduceEqDiff,Nat.reduceAdd,Nat.reduceBEq,pkB Y _,hw]
   refine aN rfl (Yd _) (fun _=>rfl) ?_
   simp only[Kq,↓reduceIte,Nat.reduceEqDiff,Nat.reduceAdd,Nat.reduceBEq,Nat.reduceMul,Nat.reduceLeDiff,pkB Y _]
   simp only[pkA,↓reduceIte,Nat.reduceEqDiff,Nat.reduceAdd,Nat.reduceBEq,Nat.reduceMul,Nat.reduceLeDiff,pkB Y _,fh,Cc]
   refine⟨⟨.inr (by first | trivial | rfl),by simp[faC]⟩,by simp[faC],?_⟩
   refine mf ?_
   simp only[Yk,↓reduceIte,Nat.reduceEqDiff,Nat.reduceAdd,Nat.reduceBEq,Nat.reduceMul,Nat.reduceLT,pkB Y _]
   refine aN rfl (fi _ _) (fun _=>rfl) ?_
   simp only[pkA,↓reduceIte,Nat.reduceEqDiff,Nat.reduceAdd,Nat.reduceBEq,pkB Y _]
   refine aN rfl (sq _ _) (fun _=>rfl) ?_
   simp only[Kq,↓reduceIte,Nat.reduceEqDiff,Nat.reduceAdd,Nat.reduceBEq,Nat.reduceMul,Nat.reduceLT,Nat.reduceLeDiff,pkB Y _]
   refine ig (i10 a b v w) (by simp[i10]) hF rfl (by rw[hi];rfl) rfl ?_
   intro t' b' hR
   simp only[pkA,↓reduceIte,pkB Y _]
   exact ib hR rfl rfl dQ (by simp[])
 ·have hw0:w=0:=by simpa using hw
  subst hw0
  have hr:r10 o a b v 0=emL o (i10 a b v 0):=by simp[r10]
  rw[hr] at hF ⊢
  simp only[pkA,↓reduceIte,Nat.reduceEqDiff,Nat.reduceAdd,Nat.reduceBEq,pkB Y _,hw]
  refine mf ?_
  simp only[Yk,↓reduceIte,Nat.reduceEqDiff,Nat.reduceAdd,Nat.reduceBEq,Nat.reduceMul,Nat.reduceLT,pkB Y _]
  refine aN rfl (fi _ _) (fun _=>rfl) ?_
  simp only[pkA,↓reduceIte,Nat.reduceEqDiff,Nat.reduceAdd,Nat.reduceBEq,pkB Y _]
  refine aN rfl (sq _ _) (fun _=>rfl) ?_
  simp only[Kq,↓reduceIte,Nat.reduceEqDiff,Nat.reduceAdd,Nat.reduceBEq,Nat.reduceMul,Nat.reduceLT,Nat.reduceLeDiff,pkB Y _]
  refine ig (i10 a b v 0) (by simp[i10]) hF rfl rfl rfl ?_
  intro t' b' hR
  simp only[pkA,↓reduceIte,pkB Y _]
  exact ib hR rfl rfl dQ (by simp[])
