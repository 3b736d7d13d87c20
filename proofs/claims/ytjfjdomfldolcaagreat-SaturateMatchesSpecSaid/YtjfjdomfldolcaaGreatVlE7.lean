/- The engine of layer 17: pairs, the closures between. Printed by gen18.py. -/
import Derived.Test.YtjfjdomfldolcaaGreatVlE5
set_option linter.all false
namespace Go.Proofs.YtjfjdomfldolcaaGreat
open Go Go.Vl
variable {G:Gl}
set_option maxRecDepth 4000
def lM (f:V):List V:=[f]
theorem lfv {k n j:Nat} {K:V→Prop} {g:FuncId} {cs:List V}:ldB (kx k n) (kx k j) (lM (.clo (.func g) [] cs)) 0 K=(j<n∧K (.clo (.func g) [] cs)):=by unfold ldB;rw[kz];rfl
theorem mfv {g:FuncId} {cs:List V}:cy (lM (.clo (.func g) [] cs))=false:=rfl
theorem qP {k m:Nat} {g:FuncId} {cs:List V} (h:∀ x∈cs,x.ltP (kx k m)):∀ x∈lM (.clo (.func g) [] cs),x.lt (kx k m):=fun x hx=>by
 simp only[lM,a7] at hx;subst hx;exact⟨fun x hx=>(by cases hx),h⟩
theorem ffv {g:FuncId} {cs:List V}:[V.clo (.func g) [] cs]=lM (.clo (.func g) [] cs):=rfl
def pkW:=jj @lfv (jj @mfv @pkV)
theorem iu {m:Nat}:∀ x∈([]:List V),x.ltP m:=fun _ h=>by cases h
theorem dz {k m i j:Nat} {l:List V} (h:i<m) (h2:∀ x∈l,x.ltP (kx k m)):∀ x∈V.bp (kx k i) j::l,x.ltP (kx k m):=fun q hq=>by
 rcases aK.1 hq with rfl | hq
 ·simp only[V.ltP,kz];exact h
 ·exact h2 q hq
theorem qQ {m n:Nat} {l:List V} (h:∀ x∈l,x.ltP m) (jW:m≤n):∀ x∈l,x.ltP n:=fun x hx=>(h x hx).mono jW
def uE (n:Nat) (first:Nat) (D:Nat→Nat→List In):List In:=bV n (fun v=>bV n (D v) first) 0
def Eb:=jj @pkA (jj @ptA @pkW)
theorem Is {τ:Type} (Y:Ys τ) (p:Pol) (o:Option Fa) (t first:Nat) (g:FuncId) (caps:List V) (jI:∀ x∈caps,x.ltP (kx Y.k 3)) (JP:caps.map V.fz=caps) (D:Nat→Nat→List In)
 (eH:∀ s v w,(v≤p.types.length∧first≤w∧w≤p.types.length)→Fut G Y s (D v w)→FnR G Y g (i64 (v:Int)::i64 (w:Int)::caps) s (D v w) [eng p o,bS Y.k,bU t]) (v w:Nat) (hv:v≤p.types.length) (hw:first≤w∧w≤p.types.length) (s:τ) (hF:Fut G Y s (D v w)) :
 FnR G Y 158 [i64 (w:Int),.bp (kx Y.k 5) 0,.bp (kx Y.k 6) 0] s (D v w) [eng p o,bS Y.k,bU t,bS Y.k,bU first,lM (.clo (.func g) [] caps),bU v]:=by
 have dV:ltL (kx Y.k 7) [eng p o,bS Y.k,bU t,bS Y.k,bU first,lM (.clo (.func g) [] caps),bU v]:=aG (cO Y.pos) (aG (cA (by decide)) (aG cV (aG (cA (by decide)) (aG cV (aG (qP (qQ jI (by simp[kx]))) (aG cV cM))))))
 refine dt (m:=7) (rs:=[.tmp 4]) [1500008] mixed Tryz.func158 rfl rfl rfl rfl (by kernel_rfl) (by simp) rfl dV (bz trivial (bz (ec (by decide)) (bz (ec (by decide)) eD))) ?_
 simp only[Eb,seval,pkB Y _]
 refine nD (ls:=[eng p o,bS Y.k,bU t]) (rest:=[bS Y.k,bU first,lM (.clo (.func g) [] caps),bU v]) rfl (eH s v w ⟨hv,hw.1,hw.2⟩ hF) (by simp[V.fz,JP]) rfl fun t' b' hR=>?_
 simp only[pkA,seval,pkB Y _]
 exact iq hR rfl rfl dV (by simp[])
theorem Iu {τ:Type} (Y:Ys τ) (p:Pol) (o:Option Fa) (t first:Nat) (g:FuncId) (caps:List V) (jI:∀ x∈caps,x.ltP (kx Y.k 3)) (JP:caps.map V.fz=caps) (D:Nat→Nat→List In)
 (eH:∀ s v w,(v≤p.types.length∧first≤w∧w≤p.types.length)→Fut G Y s (D v w)→FnR G Y g (i64 (v:Int)::i64 (w:Int)::caps) s (D v w) [eng p o,bS Y.k,bU t]) (hp:p.types.length≤9223372036854775806) (NR:first≤1) (v:Nat) (hv:v≤p.types.length) (s:τ) (hF:Fut G Y s (bV p.types.length (D v) first)) :
 FnR G Y 157 [i64 (v:Int),.bp (kx Y.k 3) 0,.bp (kx Y.k 4) 0,.bp (kx Y.k 5) 0] s (bV p.types.length (D v) first) [eng p o,bS Y.k,bU t,bS Y.k,bU first,lM (.clo (.func g) [] caps)]:=by
 have dV:ltL (kx Y.k 6) [eng p o,bS Y.k,bU t,bS Y.k,bU first,lM (.clo (.func g) [] caps)]:=aG (cO Y.pos) (aG (cA (by decide)) (aG cV (aG (cA (by decide)) (aG cV (aG (qP (qQ jI (by simp[kx]))) cM)))))
 have o0:ltL (kx Y.k 7) [bS Y.k,bU t,bS Y.k,bU first,lM (.clo (.func g) [] caps),bU v]:=fun q hq=>(aG (cO Y.pos) (aG (cA (by decide)) (aG cV (aG (cA (by decide)) (aG cV (aG (qP (qQ jI (by simp[kx]))) (aG cV cM)))))):ltL (kx Y.k 7) [eng p o,bS Y.k,bU t,bS Y.k,bU first,lM (.clo (.func g) [] caps),bU v]) q (aD _ hq)
 refine dt (m:=6) (rs:=[.tmp 5]) [1500009] mixed Tryz.func157 rfl rfl rfl rfl (by kernel_rfl) (by simp) rfl dV (bz trivial (bz (ec (by decide)) (bz (ec (by decide)) (bz (ec (by decide)) eD)))) ?_
 simp only[Eb,seval,pkB Y _,fp,fnv,ffv]
 refine dy (ls:=[eng p o,bS Y.k,bU t,bS Y.k,bU first,lM (.clo (.func g) [] caps),bU v]) rfl (jr Y p hp o first NR [bS Y.k,bU t,bS Y.k,bU first,lM (.clo (.func g) [] caps),bU v] o0 _ (D v) ⟨158,[.bp (kx Y.k 5) 0,.bp (kx Y.k 6) 0],rfl,dz (aJ rfl) (dz (aJ rfl) iu),rfl,fun s w hw hF=>Is Y p o t first g caps jI JP D eH v w hv hw s hF⟩ s hF) rfl rfl fun t' b' hR=>?_
 simp only[pkA,seval,pkB Y _]
 exact fD (rest:=[bU v]) hR rfl rfl rfl dV (by simp[])
theorem Ls {τ:Type} (Y:Ys τ) (p:Pol) (o:Option Fa) (t first:Nat) (g:FuncId) (caps:List V) (jI:∀ x∈caps,x.ltP (kx Y.k 3)) (JP:caps.map V.fz=caps) (D:Nat→Nat→List In)
 (eH:∀ s v w,(v≤p.types.length∧first≤w∧w≤p.types.length)→Fut G Y s (D v w)→FnR G Y g (i64 (v:Int)::i64 (w:Int)::caps) s (D v w) [eng p o,bS Y.k,bU t]) (hp:p.types.length≤9223372036854775806) (NR:first≤1) (s:τ) (hF:Fut G Y s (uE p.types.length first D)) :
 FnR G Y 127 [.bp (kx Y.k 0) 0,i64 (first:Int),.clo (.func g) [] caps] s (uE p.types.length first D) [eng p o,bS Y.k,bU t]:=by
 have dV:ltL (kx Y.k 3) [eng p o,bS Y.k,bU t]:=aG (cO Y.pos) (aG (cA (by decide)) (aG cV cM))
 have o0:ltL (kx Y.k 6) [bS Y.k,bU t,bS Y.k,bU first,lM (.clo (.func g) [] caps)]:=fun q hq=>(aG (cO Y.pos) (aG (cA (by decide)) (aG cV (aG (cA (by decide)) (aG cV (aG (qP (qQ jI (by simp[kx]))) cM))))):ltL (kx Y.k 6) [eng p o,bS Y.k,bU t,bS Y.k,bU first,lM (.clo (.func g) [] caps)]) q (aD _ hq)
 refine dt (m:=3) (rs:=[.tmp 6]) [1500009] mixed Tryz.func127 rfl rfl rfl rfl (by kernel_rfl) (by simp) rfl dV (bz (ec (by decide)) (bz trivial (bz ⟨fun x hx=>(by cases hx),jI⟩ eD))) ?_
 simp only[fe,fS]
 simp only[Eb,seval,pkB Y _,fp,fev,fnv,ffv]
 refine dy (ls:=[eng p o,bS Y.k,bU t,bS Y.k,bU first,lM (.clo (.func g) [] caps)]) rfl (jr Y p hp o 0 (by decide) [bS Y.k,bU t,bS Y.k,bU first,lM (.clo (.func g) [] caps)] o0 _ (fun v=>bV p.types.length (D v) first) ⟨157,[.bp (kx Y.k 3) 0,.bp (kx Y.k 4) 0,.bp (kx Y.k 5) 0],rfl,dz (aJ rfl) (dz (aJ rfl) (dz (aJ rfl) iu)),rfl,fun s v hv hF=>Iu Y p o t first g caps jI JP D eH hp NR v hv.2 s hF⟩ s hF) rfl rfl fun t' b' hR=>?_
 simp only[pkA,seval,pkB Y _]
 exact fD (rest:=[bS Y.k,bU first,lM (.clo (.func g) [] caps)]) hR rfl rfl rfl dV (by simp[])
theorem Iv {τ:Type} (Y:Ys τ) (p:Pol) (o:Option Fa) (a b first:Nat) (g:FuncId) (caps:List V) (jI:∀ x∈caps,x.ltP (kx Y.k 4)) (JP:caps.map V.fz=caps) (D:Nat→Nat→List In)
 (eH:∀ s v w,(v≤p.types.length∧first≤w∧w≤p.types.length)→Fut G Y s (D v w)→FnR G Y g (i64 (v:Int)::i64 (w:Int)::caps) s (D v w) [eng p o,bS Y.k,bU a,bU b]) (v w:Nat) (hv:v≤p.types.length) (hw:first≤w∧w≤p.types.length) (s:τ) (hF:Fut G Y s (D v w)) :
 FnR G Y 158 [i64 (w:Int),.bp (kx Y.k 6) 0,.bp (kx Y.k 7) 0] s (D v w) [eng p o,bS Y.k,bU a,bU b,bS Y.k,bU first,lM (.clo (.func g) [] caps),bU v]:=by
 have dV:ltL (kx Y.k 8) [eng p o,bS Y.k,bU a,bU b,bS Y.k,bU first,lM (.clo (.func g) [] caps),bU v]:=aG (cO Y.pos) (aG (cA (by decide)) (aG cV (aG cV (aG (cA (by decide)) (aG cV (aG (qP (qQ jI (by simp[kx]))) (aG cV cM)))))))
 refine dt (m:=8) (rs:=[.tmp 4]) [1500008] mixed Tryz.func158 rfl rfl rfl rfl (by kernel_rfl) (by simp) rfl dV (bz trivial (bz (ec (by decide)) (bz (ec (by decide)) eD))) ?_
 simp only[Eb,seval,pkB Y _]
 refine nD (ls:=[eng p o,bS Y.k,bU a,bU b]) (rest:=[bS Y.k,bU first,lM (.clo (.func g) [] caps),bU v]) rfl (eH s v w ⟨hv,hw.1,hw.2⟩ hF) (by simp[V.fz,JP]) rfl fun t' b' hR=>?_
 simp only[pkA,seval,pkB Y _]
 exact iq hR rfl rfl dV (by simp[])
theorem Iw {τ:Type} (Y:Ys τ) (p:Pol) (o:Option Fa) (a b first:Nat) (g:FuncId) (caps:List V) (jI:∀ x∈caps,x.ltP (kx Y.k 4)) (JP:caps.map V.fz=caps) (D:Nat→Nat→List In)
 (eH:∀ s v w,(v≤p.types.length∧first≤w∧w≤p.types.length)→Fut G Y s (D v w)→FnR G Y g (i64 (v:Int)::i64 (w:Int)::caps) s (D v w) [eng p o,bS Y.k,bU a,bU b]) (hp:p.types.length≤9223372036854775806) (NR:first≤1) (v:Nat) (hv:v≤p.types.length) (s:τ) (hF:Fut G Y s (bV p.types.length (D v) first)) :
 FnR G Y 157 [i64 (v:Int),.bp (kx Y.k 4) 0,.bp (kx Y.k 5) 0,.bp (kx Y.k 6) 0] s (bV p.types.length (D v) first) [eng p o,bS Y.k,bU a,bU b,bS Y.k,bU first,lM (.clo (.func g) [] caps)]:=by
 have dV:ltL (kx Y.k 7) [eng p o,bS Y.k,bU a,bU b,bS Y.k,bU first,lM (.clo (.func g) [] caps)]:=aG (cO Y.pos) (aG (cA (by decide)) (aG cV (aG cV (aG (cA (by decide)) (aG cV (aG (qP (qQ jI (by simp[kx]))) cM))))))
 have o0:ltL (kx Y.k 8) [bS Y.k,bU a,bU b,bS Y.k,bU first,lM (.clo (.func g) [] caps),bU v]:=fun q hq=>(aG (cO Y.pos) (aG (cA (by decide)) (aG cV (aG cV (aG (cA (by decide)) (aG cV (aG (qP (qQ jI (by simp[kx]))) (aG cV cM))))))):ltL (kx Y.k 8) [eng p o,bS Y.k,bU a,bU b,bS Y.k,bU first,lM (.clo (.func g) [] caps),bU v]) q (aD _ hq)
 refine dt (m:=7) (rs:=[.tmp 5]) [1500009] mixed Tryz.func157 rfl rfl rfl rfl (by kernel_rfl) (by simp) rfl dV (bz trivial (bz (ec (by decide)) (bz (ec (by decide)) (bz (ec (by decide)) eD)))) ?_
 simp only[Eb,seval,pkB Y _,fp,fnv,ffv]
 refine dy (ls:=[eng p o,bS Y.k,bU a,bU b,bS Y.k,bU first,lM (.clo (.func g) [] caps),bU v]) rfl (jr Y p hp o first NR [bS Y.k,bU a,bU b,bS Y.k,bU first,lM (.clo (.func g) [] caps),bU v] o0 _ (D v) ⟨158,[.bp (kx Y.k 6) 0,.bp (kx Y.k 7) 0],rfl,dz (aJ rfl) (dz (aJ rfl) iu),rfl,fun s w hw hF=>Iv Y p o a b first g caps jI JP D eH v w hv hw s hF⟩ s hF) rfl rfl fun t' b' hR=>?_
 simp only[pkA,seval,pkB Y _]
 exact fD (rest:=[bU v]) hR rfl rfl rfl dV (by simp[])
theorem BY {τ:Type} (Y:Ys τ) (p:Pol) (o:Option Fa) (a b first:Nat) (g:FuncId) (caps:List V) (jI:∀ x∈caps,x.ltP (kx Y.k 4)) (JP:caps.map V.fz=caps) (D:Nat→Nat→List In)
 (eH:∀ s v w,(v≤p.types.length∧first≤w∧w≤p.types.length)→Fut G Y s (D v w)→FnR G Y g (i64 (v:Int)::i64 (w:Int)::caps) s (D v w) [eng p o,bS Y.k,bU a,bU b]) (hp:p.types.length≤9223372036854775806) (NR:first≤1) (s:τ) (hF:Fut G Y s (uE p.types.length first D)) :
 FnR G Y 127 [.bp (kx Y.k 0) 0,i64 (first:Int),.clo (.func g) [] caps] s (uE p.types.length first D) [eng p o,bS Y.k,bU a,bU b]:=by
 have dV:ltL (kx Y.k 4) [eng p o,bS Y.k,bU a,bU b]:=aG (cO Y.pos) (aG (cA (by decide)) (aG cV (aG cV cM)))
 have o0:ltL (kx Y.k 7) [bS Y.k,bU a,bU b,bS Y.k,bU first,lM (.clo (.func g) [] caps)]:=fun q hq=>(aG (cO Y.pos) (aG (cA (by decide)) (aG cV (aG cV (aG (cA (by decide)) (aG cV (aG (qP (qQ jI (by simp[kx]))) cM)))))):ltL (kx Y.k 7) [eng p o,bS Y.k,bU a,bU b,bS Y.k,bU first,lM (.clo (.func g) [] caps)]) q (aD _ hq)
 refine dt (m:=4) (rs:=[.tmp 6]) [1500009] mixed Tryz.func127 rfl rfl rfl rfl (by kernel_rfl) (by simp) rfl dV (bz (ec (by decide)) (bz trivial (bz ⟨fun x hx=>(by cases hx),jI⟩ eD))) ?_
 simp only[fe,fS]
 simp only[Eb,seval,pkB Y _,fp,fev,fnv,ffv]
 refine dy (ls:=[eng p o,bS Y.k,bU a,bU b,bS Y.k,bU first,lM (.clo (.func g) [] caps)]) rfl (jr Y p hp o 0 (by decide) [bS Y.k,bU a,bU b,bS Y.k,bU first,lM (.clo (.func g) [] caps)] o0 _ (fun v=>bV p.types.length (D v) first) ⟨157,[.bp (kx Y.k 4) 0,.bp (kx Y.k 5) 0,.bp (kx Y.k 6) 0],rfl,dz (aJ rfl) (dz (aJ rfl) (dz (aJ rfl) iu)),rfl,fun s v hv hF=>Iw Y p o a b first g caps jI JP D eH hp NR v hv.2 s hF⟩ s hF) rfl rfl fun t' b' hR=>?_
 simp only[pkA,seval,pkB Y _]
 exact fD (rest:=[bS Y.k,bU first,lM (.clo (.func g) [] caps)]) hR rfl rfl rfl dV (by simp[])
def i14:In:=⟨14,[],[gi 0 0]⟩
def Ix:=jj @pkA (jj @ptA @pkE)
theorem Ui {τ:Type} (Y:Ys τ) (p:Pol) (o:Option Fa) (s:τ) (hF:Fut G Y s (emL o i14)) :
 FnR G Y 88 [.bp (kx Y.k 0) 0] s (emL o i14) [eng p o]:=by
 have dV:ltL (kx Y.k 1) [eng p o]:=aG (cO Y.pos) cM
 have zk:∀ x∈[V.bp (kx Y.k 0) 0],x.lt (kx Y.k 1):=bz (ec (by decide)) eD
 refine dt (m:=1) (rs:=[.tmp 2]) [1500006] mixed Tryz.func88 rfl rfl rfl rfl (by kernel_rfl) (by simp) rfl dV zk ?_
 simp only[pkA,seval,pkB Y _]
 refine aB rfl (sQ _ _) (fun _=>rfl) ?_
 simp only[Ix,seval,pkB Y _]
 refine wJ i14 rfl hF rfl rfl rfl ?_
 intro t' b' hR
 simp only[pkA,seval,pkB Y _]
 exact iq hR rfl rfl dV (by simp[])
def i10 (a b v w:Nat):In:=⟨10,[bu v a,gi v w],if 0<w then[bu w b,pR w] else[bu w b]⟩
def r10 (o:Option Fa) (a b v w:Nat):List In:=if 0<w∧v=0 then[] else emL o (i10 a b v w)
def Uj:=jj @pkA (jj @ptA @pkV)
theorem ZE {τ:Type} (Y:Ys τ) (p:Pol) (o:Option Fa) (a b v w:Nat) (s:τ) (hF:Fut G Y s (r10 o a b v w)) :
 FnR G Y 132 [i64 (v:Int),i64 (w:Int),.bp (kx Y.k 3) 0,.bp (kx Y.k 1) 0,.bp (kx Y.k 2) 0] s (r10 o a b v w) [eng p o,bS Y.k,bU a,bU b]:=by
 have dV:ltL (kx Y.k 4) [eng p o,bS Y.k,bU a,bU b]:=aG (cO Y.pos) (aG (cA (by decide)) (aG cV (aG cV cM)))
 refine dt (m:=4) (rs:=[.tmp 7]) [1500037,23,2850006,2880006] mixed Tryz.func132 rfl rfl rfl rfl (by kernel_rfl) (by simp) rfl dV (bz trivial (bz trivial (bz (ec (by decide)) (bz (ec (by decide)) (bz (ec (by decide)) eD))))) ?_
 simp only[Uj,seval,pkB Y _]
 refine aB rfl (fq _ _) (fun _=>rfl) ?_
 simp only[Ix,seval,pkB Y _]
 have e1:∀ x:Fa,[V.agg (faC x)].length=1:=fun _=>rfl
 refine fY (fun hw=>?_) (fun hw=>?_)
 ·have yD:0<w:=by simpa using hw
  simp only[pkA,seval,pkB Y _]
  refine aT (fun hv=>?_) (fun hv=>?_)
  ·have Mk:v=0:=by simpa using hv
   have hr:r10 o a b v w=[]:=by simp[r10,yD,Mk]
   rw[hr]
   simp only[pkA,seval,pkB Y _]
   exact iq (.nil s) rfl rfl dV (by simp[])
  ·have Mk:¬ v=0:=by simpa using hv
   have hr:r10 o a b v w=emL o (i10 a b v w):=by simp[r10,Mk]
   rw[hr] at hF ⊢
   have hi:(i10 a b v w).con=[bu w b,pR w]:=by simp[i10,yD]
   simp only[pkA,↓reduceIte,Nat.reduceEqDiff,Nat.reduceAdd,Nat.reduceBEq,pkB Y _,hw]
   refine aB rfl (Uf _) (fun _=>rfl) ?_
   simp only[Ix,seval,pkB Y _]
   simp only[pkA,seval,pkB Y _,cG,y6]
   refine⟨⟨.inr (by first | trivial | rfl),by simp[faC]⟩,by simp[faC],?_⟩
   refine lX ?_
   simp only[Uj,seval,pkB Y _]
   refine aB rfl (fq _ _) (fun _=>rfl) ?_
   simp only[pkA,seval,pkB Y _]
   refine aB rfl (sQ _ _) (fun _=>rfl) ?_
   simp only[Ix,seval,pkB Y _]
   refine ir (i10 a b v w) (by simp[i10]) hF rfl (by rw[hi];rfl) rfl ?_
   intro t' b' hR
   simp only[pkA,seval,pkB Y _]
   exact iq hR rfl rfl dV (by simp[])
 ·have yD:w=0:=by simpa using hw
  subst yD
  have hr:r10 o a b v 0=emL o (i10 a b v 0):=by simp[r10]
  rw[hr] at hF ⊢
  simp only[pkA,↓reduceIte,Nat.reduceEqDiff,Nat.reduceAdd,Nat.reduceBEq,pkB Y _,hw]
  refine lX ?_
  simp only[Uj,seval,pkB Y _]
  refine aB rfl (fq _ _) (fun _=>rfl) ?_
  simp only[pkA,seval,pkB Y _]
  refine aB rfl (sQ _ _) (fun _=>rfl) ?_
  simp only[Ix,seval,pkB Y _]
  refine ir (i10 a b v 0) (by simp[i10]) hF rfl rfl rfl ?_
  intro t' b' hR
  simp only[pkA,seval,pkB Y _]
  exact iq hR rfl rfl dV (by simp[])
