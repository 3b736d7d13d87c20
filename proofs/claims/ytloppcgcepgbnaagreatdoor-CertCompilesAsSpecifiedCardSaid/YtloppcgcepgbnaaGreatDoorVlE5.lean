/- The engine of layer 17: how its closures call emit. -/
import Derived.Test.YtloppcgcepgbnaaGreatDoorVlE3
set_option linter.all false
namespace Go.Proofs.YtloppcgcepgbnaaGreatDoor
open Go Go.Vl
variable {G:Gl}
set_option maxRecDepth 4000
theorem pkB {τ:Type} (Y:Ys τ) (s:τ):type_of% (And.intro (@bk0 _ _ (Y.len s)) (And.intro (@bk1 _ _ (Y.len s)) (And.intro (@bk2 _ _ (Y.len s)) (And.intro (@bk3 _ _ (Y.len s)) (And.intro (@bk4 _ _ (Y.len s)) (And.intro (@bk5 _ _ (Y.len s)) (And.intro (@bk6 _ _ (Y.len s)) (And.intro (@bk7 _ _ (Y.len s)) (And.intro (@bk8 _ _ (Y.len s)) (And.intro (@uk0 _ _ (Y.len s)) (And.intro (@uk1 _ _ (Y.len s)) (And.intro (@uk2 _ _ (Y.len s)) (And.intro (@uk3 _ _ (Y.len s)) (And.intro (@uk4 _ _ (Y.len s)) (And.intro (@uk5 _ _ (Y.len s)) (And.intro (@uk6 _ _ (Y.len s)) (And.intro (@uk7 _ _ (Y.len s)) (And.intro (@uk8 _ _ (Y.len s)) (And.intro (@nk0 _ _ (Y.len s)) (And.intro (@nk1 _ _ (Y.len s)) (And.intro (@nk2 _ _ (Y.len s)) (And.intro (@nk3 _ _ (Y.len s)) (And.intro (@nk4 _ _ (Y.len s)) (And.intro (@nk5 _ _ (Y.len s)) (And.intro (@nk6 _ _ (Y.len s)) (And.intro (@nk7 _ _ (Y.len s)) (@nk8 _ _ (Y.len s)))))))))))))))))))))))))))):=And.intro (@bk0 _ _ (Y.len s)) (And.intro (@bk1 _ _ (Y.len s)) (And.intro (@bk2 _ _ (Y.len s)) (And.intro (@bk3 _ _ (Y.len s)) (And.intro (@bk4 _ _ (Y.len s)) (And.intro (@bk5 _ _ (Y.len s)) (And.intro (@bk6 _ _ (Y.len s)) (And.intro (@bk7 _ _ (Y.len s)) (And.intro (@bk8 _ _ (Y.len s)) (And.intro (@uk0 _ _ (Y.len s)) (And.intro (@uk1 _ _ (Y.len s)) (And.intro (@uk2 _ _ (Y.len s)) (And.intro (@uk3 _ _ (Y.len s)) (And.intro (@uk4 _ _ (Y.len s)) (And.intro (@uk5 _ _ (Y.len s)) (And.intro (@uk6 _ _ (Y.len s)) (And.intro (@uk7 _ _ (Y.len s)) (And.intro (@uk8 _ _ (Y.len s)) (And.intro (@nk0 _ _ (Y.len s)) (And.intro (@nk1 _ _ (Y.len s)) (And.intro (@nk2 _ _ (Y.len s)) (And.intro (@nk3 _ _ (Y.len s)) (And.intro (@nk4 _ _ (Y.len s)) (And.intro (@nk5 _ _ (Y.len s)) (And.intro (@nk6 _ _ (Y.len s)) (And.intro (@nk7 _ _ (Y.len s)) (@nk8 _ _ (Y.len s)))))))))))))))))))))))))))
section
variable {τ:Type} {Y:Ys τ} {s:τ} {p:Pol} {o:Option Fa} {x:In} {f:V} {args all:List V} {fr:Nat->V} {K:S->V->Prop}
theorem im {rest:List (List V)} {n:Nat} (x:In) (hm:x.pre.length<=9223372036854775807) (hF:Fut G Y s (emL o x)) (hc:gx f args=some (142,all))
 (eE:all.map V.fz=[.bp (kx Y.k 0) 0,i64 x.rule,.c (fsC x.pre),.c (fsC x.con)]) (hn:rest.length+1=n)
 (hK:∀ t b,Y.run s (emL o x) t b->K ⟨fr,bxs (Y.yb t++eng p o::rest),kx Y.k n⟩ (bo b)):ll Tryz.prog G ⟨fr,bxs (Y.yb s++eng p o::rest),kx Y.k n⟩ f args K:=
 oa (ls:=[eng p o]) (rest:=rest) hc (KT Y s p o x hm hF) eE hn hK
theorem wX {rest:List (List V)} {n:Nat} (x:In) (hm:x.pre=[]) (hF:Fut G Y s (emL o x)) (hc:gx f args=some (142,all))
 (eE:all.map V.fz=[.bp (kx Y.k 0) 0,i64 x.rule,.c (.ex (.slice none 0 0)),.c (fsC x.con)]) (hn:rest.length+1=n)
 (hK:∀ t b,Y.run s (emL o x) t b->K ⟨fr,bxs (Y.yb t++eng p o::rest),kx Y.k n⟩ (bo b)):ll Tryz.prog G ⟨fr,bxs (Y.yb s++eng p o::rest),kx Y.k n⟩ f args K:=
 oa (ls:=[eng p o]) (rest:=rest) hc (show FnR G Y 142 [.bp (kx Y.k 0) 0,i64 x.rule,.c (.ex (.slice none 0 0)),.c (fsC x.con)] s (emL o x) [eng p o] from ac6 (KT Y s p o x (by rw[hm];decide) hF) rfl λj x' x hj Gu=>by
  match j,hj,Gu with
  |0,hj,Gu=>cases hj;cases Gu;exact .inl rfl
  |1,hj,Gu=>cases hj;cases Gu;exact .inl rfl
  |2,hj,Gu=>cases hj;cases Gu;rw[hm];exact .inr ⟨rfl,rfl⟩
  |3,hj,Gu=>cases hj;cases Gu;exact .inl rfl
  |j+4,hj,_=>simp at hj) eE hn hK
end
def bU (k:Nat):List V:=[.bp (kx k 0) 0]
def bV (n:Nat):List V:=[i64 (n:Int)]
section
variable {k n j:Nat} {K:V->Prop} {t:Nat}
theorem lev:ldB (kx k n) (kx k j) (bU k) 0 K=(j<n/\K (.bp (kx k 0) 0)):=by unfold ldB;rw[kU];rfl
theorem lnv:ldB (kx k n) (kx k j) (bV t) 0 K=(j<n/\K (i64 (t:Int))):=by unfold ldB;rw[kU];rfl
theorem mev:ck (bU k)=false:=rfl
theorem mnv:ck (bV t)=false:=rfl
theorem fev:[V.bp (kx k 0) 0]=bU k:=rfl
theorem fnv:[V.c (.lit (.int .i64 (t:Int)))]=bV t:=rfl
theorem cA {m:Nat} (h:0<m):∀ x∈bU k,x.lt (kx k m):=λx hx=>by simp only[bU,aX] at hx;subst hx;simp only[V.lt,kU];exact h
theorem cV {m:Nat}:∀ x∈bV t,x.lt m:=λx hx=>by simp only[bV,aX] at hx;subst hx;trivial
end
def pkV:=jj @lev (jj @lnv (jj @mev @mnv))
theorem cJ {m:Nat}:ltL m []:=λ_ h=>by cases h
theorem aI {m:Nat} {b:List V} {l:List (List V)} (h:∀ x∈b,x.lt m) (h2:ltL m l):ltL m (b::l):=λc hc x hx=>by
 rcases aN.1 hc with rfl | hc
 .exact h x hx
 .exact h2 c hc x hx
theorem cL {p:Pol} {o:Option Fa} {k m:Nat} (hk:0<k):∀ x∈eng p o,x.lt (kx k m):=λx hx=>(wW hk x hx).mono (by simp[kx])
theorem eC {m:Nat}:∀ x∈([]:List V),x.lt m:=λ_ h=>by cases h
theorem bu {m:Nat} {a:V} {l:List V} (h:a.lt m) (h2:∀ x∈l,x.lt m):∀ x∈a::l,x.lt m:=λq hq=>by
 rcases aN.1 hq with rfl | hq
 .exact h
 .exact h2 q hq
theorem dZ {k i j m:Nat} (h:i<m):(V.bp (kx k i) j).lt (kx k m):=by simp only[V.lt,kU];exact h
def i1 (t:Nat):In:=⟨1,[],[bE 0 t]⟩
def pj:=jj @pkA (jj @ptA @pkV)
def mA:=jj @pkA (jj @ptA @pkE)
theorem amW {τ:Type} (Y:Ys τ) (p:Pol) (o:Option Fa) (t:Nat) (s:τ) (hF:Fut G Y s (emL o (i1 t))) :
 FnR G Y 141 [i64 (t:Int),.bp (kx Y.k 1) 0] s (emL o (i1 t)) [eng p o,bU Y.k]:=by
 have dU:ltL (kx Y.k 2) [eng p o,bU Y.k]:=aI (cL Y.pos) (aI (cA (by decide)) cJ);have zQ:∀ x∈[i64 (t:Int),V.bp (kx Y.k 1) 0],x.lt (kx Y.k 2):=bu trivial (bu (dZ (by decide)) (eC));refine dy (m:=2) (rs:=[.tmp 3]) [1500008,2850001,2880001] mixed Tryz.func141 rfl rfl rfl rfl (by kernel_rfl) (by simp) rfl dU zQ ?_;simp only[pkA,seval,pkB Y _];refine mK ?_;simp only[pj,seval,pkB Y _];refine aC rfl (ft _ _) (λ_=>rfl) ?_;simp only[mA,seval,pkB Y _];refine wX (i1 t) rfl hF rfl rfl rfl ?_;intro t' b' hR;simp only[pkA,seval,pkB Y _];exact ij hR rfl rfl dU (by simp[])
def i2 (t:Nat):In:=⟨2,[],[bE (t+1:Nat) t]⟩
theorem amX {τ:Type} (Y:Ys τ) (p:Pol) (o:Option Fa) (t:Nat) (ht:t<=9223372036854775806) (s:τ) (hF:Fut G Y s (emL o (i2 t))) :
 FnR G Y 144 [i64 (t:Int),.bp (kx Y.k 1) 0] s (emL o (i2 t)) [eng p o,bU Y.k]:=by
 have dU:ltL (kx Y.k 2) [eng p o,bU Y.k]:=aI (cL Y.pos) (aI (cA (by decide)) cJ);have zQ:∀ x∈[i64 (t:Int),V.bp (kx Y.k 1) 0],x.lt (kx Y.k 2):=bu trivial (bu (dZ (by decide)) (eC));have wt:=br (n:=(t:Int)+1) (k:=t+1) (by omega) (by omega);refine dy (m:=2) (rs:=[.tmp 3]) [1500010,2850001,2880001] mixed Tryz.func144 rfl rfl rfl rfl (by kernel_rfl) (by simp) rfl dU zQ ?_;simp only[pkA,seval,pkB Y _];refine mK ?_;simp only[pj,seval,pkB Y _,wt];refine aC rfl (ft _ _) (λ_=>rfl) ?_;simp only[mA,seval,pkB Y _];refine wX (i2 t) rfl hF rfl rfl rfl ?_;intro t' b' hR;simp only[pkA,seval,pkB Y _];exact ij hR rfl rfl dU (by simp[])
def i3 (a b s0:Nat):In:=⟨3,[bE s0 a],[bE (b+1:Nat) b]⟩
def Y8:=jj @pkA (jj @ptA (jj @pkE @pkV))
theorem amY {τ:Type} (Y:Ys τ) (p:Pol) (o:Option Fa) (a b s0:Nat) (hb:b<=9223372036854775806) (s:τ) (hF:Fut G Y s (emL o (i3 a b s0))) :
 FnR G Y 148 [i64 (s0:Int),.bp (kx Y.k 1) 0,.bp (kx Y.k 2) 0,.bp (kx Y.k 3) 0] s (emL o (i3 a b s0)) [eng p o,bU Y.k,bV a,bV b]:=by
 have dU:ltL (kx Y.k 4) [eng p o,bU Y.k,bV a,bV b]:=aI (cL Y.pos) (aI (cA (by decide)) (aI cV (aI cV cJ)));have zQ:∀ x∈[i64 (s0:Int),V.bp (kx Y.k 1) 0,V.bp (kx Y.k 2) 0,V.bp (kx Y.k 3) 0],x.lt (kx Y.k 4):=bu trivial (bu (dZ (by decide)) (bu (dZ (by decide)) (bu (dZ (by decide)) (eC))));have wb:=br (n:=(b:Int)+1) (k:=b+1) (by omega) (by omega);refine dy (m:=4) (rs:=[.tmp 5]) [1500016,2850001,2880001] mixed Tryz.func148 rfl rfl rfl rfl (by kernel_rfl) (by simp) rfl dU zQ ?_;simp only[pkA,seval,pkB Y _];refine mK ?_;simp only[pj,seval,pkB Y _];refine aC rfl (ft _ _) (λ_=>rfl) ?_;simp only[Y8,seval,pkB Y _,wb];refine aC rfl (ft _ _) (λ_=>rfl) ?_;simp only[mA,seval,pkB Y _];refine im (i3 a b s0) (by simp[i3]) hF rfl rfl rfl ?_;intro t' b' hR;simp only[pkA,seval,pkB Y _];exact ij hR rfl rfl dU (by simp[])
def i4 (a b:Nat):In:=⟨4,[bE 0 a],[bE 0 b]⟩
theorem amZ {τ:Type} (Y:Ys τ) (p:Pol) (o:Option Fa) (a b:Nat) (s:τ) (hF:Fut G Y s (emL o (i4 a b))) :
 FnR G Y 149 [i64 (a:Int),i64 (b:Int),.bp (kx Y.k 1) 0] s (emL o (i4 a b)) [eng p o,bU Y.k]:=by
 have dU:ltL (kx Y.k 2) [eng p o,bU Y.k]:=aI (cL Y.pos) (aI (cA (by decide)) cJ);have zQ:∀ x∈[i64 (a:Int),i64 (b:Int),V.bp (kx Y.k 1) 0],x.lt (kx Y.k 2):=bu trivial (bu trivial (bu (dZ (by decide)) (eC)));refine dy (m:=2) (rs:=[.tmp 5]) [1500013,2850001,2880001] mixed Tryz.func149 rfl rfl rfl rfl (by kernel_rfl) (by simp) rfl dU zQ ?_;simp only[pkA,seval,pkB Y _];refine mK ?_;simp only[pj,seval,pkB Y _];refine aC rfl (ft _ _) (λ_=>rfl) ?_;simp only[mA,seval,pkB Y _];refine aC rfl (ft _ _) (λ_=>rfl) ?_;simp only[mA,seval,pkB Y _];refine im (i4 a b) (by simp[i4]) hF rfl rfl rfl ?_;intro t' b' hR;simp only[pkA,seval,pkB Y _];exact ij hR rfl rfl dU (by simp[])
def i5 (a b s0:Nat):In:=⟨5,[bE s0 a,iJ s0],[iJ (b+1:Nat)]⟩
theorem am0 {τ:Type} (Y:Ys τ) (p:Pol) (o:Option Fa) (a b s0:Nat) (hb:b<=9223372036854775806) (s:τ) (hF:Fut G Y s (emL o (i5 a b s0))) :
 FnR G Y 151 [i64 (s0:Int),.bp (kx Y.k 1) 0,.bp (kx Y.k 2) 0,.bp (kx Y.k 3) 0] s (emL o (i5 a b s0)) [eng p o,bU Y.k,bV a,bV b]:=by
 have dU:ltL (kx Y.k 4) [eng p o,bU Y.k,bV a,bV b]:=aI (cL Y.pos) (aI (cA (by decide)) (aI cV (aI cV cJ)));have zQ:∀ x∈[i64 (s0:Int),V.bp (kx Y.k 1) 0,V.bp (kx Y.k 2) 0,V.bp (kx Y.k 3) 0],x.lt (kx Y.k 4):=bu trivial (bu (dZ (by decide)) (bu (dZ (by decide)) (bu (dZ (by decide)) (eC))));have wb:=br (n:=(b:Int)+1) (k:=b+1) (by omega) (by omega);refine dy (m:=4) (rs:=[.tmp 5]) [1500017,2850001,2880001] mixed Tryz.func151 rfl rfl rfl rfl (by kernel_rfl) (by simp) rfl dU zQ ?_;simp only[pkA,seval,pkB Y _];refine mK ?_;simp only[pj,seval,pkB Y _];refine aC rfl (ft _ _) (λ_=>rfl) ?_;simp only[pkA,seval,pkB Y _];refine aC rfl (qS _) (λ_=>rfl) ?_;simp only[Y8,seval,pkB Y _,wb];refine aC rfl (qS _) (λ_=>rfl) ?_;simp only[mA,seval,pkB Y _];refine im (i5 a b s0) (by simp[i5]) hF rfl rfl rfl ?_;intro t' b' hR;simp only[pkA,seval,pkB Y _];exact ij hR rfl rfl dU (by simp[])
def i6 (t s0:Nat):In:=⟨6,[bE s0 t],[iJ s0]⟩
theorem am1 {τ:Type} (Y:Ys τ) (p:Pol) (o:Option Fa) (t s0:Nat) (s:τ) (hF:Fut G Y s (emL o (i6 t s0))) :
 FnR G Y 153 [i64 (s0:Int),.bp (kx Y.k 1) 0,.bp (kx Y.k 2) 0] s (emL o (i6 t s0)) [eng p o,bU Y.k,bV t]:=by
 have dU:ltL (kx Y.k 3) [eng p o,bU Y.k,bV t]:=aI (cL Y.pos) (aI (cA (by decide)) (aI cV cJ));have zQ:∀ x∈[i64 (s0:Int),V.bp (kx Y.k 1) 0,V.bp (kx Y.k 2) 0],x.lt (kx Y.k 3):=bu trivial (bu (dZ (by decide)) (bu (dZ (by decide)) (eC)));refine dy (m:=3) (rs:=[.tmp 4]) [1500013,2850001,2880001] mixed Tryz.func153 rfl rfl rfl rfl (by kernel_rfl) (by simp) rfl dU zQ ?_;simp only[pkA,seval,pkB Y _];refine mK ?_;simp only[pj,seval,pkB Y _];refine aC rfl (ft _ _) (λ_=>rfl) ?_;simp only[mA,seval,pkB Y _];refine aC rfl (qS _) (λ_=>rfl) ?_;simp only[mA,seval,pkB Y _];refine im (i6 t s0) (by simp[i6]) hF rfl rfl rfl ?_;intro t' b' hR;simp only[pkA,seval,pkB Y _];exact ij hR rfl rfl dU (by simp[])
def i7 (t v:Nat):In:=⟨7,[bE v t],[iI v 0]⟩
theorem am2 {τ:Type} (Y:Ys τ) (p:Pol) (o:Option Fa) (t v:Nat) (s:τ) (hF:Fut G Y s (emL o (i7 t v))) :
 FnR G Y 155 [i64 (v:Int),.bp (kx Y.k 1) 0,.bp (kx Y.k 2) 0] s (emL o (i7 t v)) [eng p o,bU Y.k,bV t]:=by
 have dU:ltL (kx Y.k 3) [eng p o,bU Y.k,bV t]:=aI (cL Y.pos) (aI (cA (by decide)) (aI cV cJ));have zQ:∀ x∈[i64 (v:Int),V.bp (kx Y.k 1) 0,V.bp (kx Y.k 2) 0],x.lt (kx Y.k 3):=bu trivial (bu (dZ (by decide)) (bu (dZ (by decide)) (eC)));refine dy (m:=3) (rs:=[.tmp 4]) [1500013,2850001,2880001] mixed Tryz.func155 rfl rfl rfl rfl (by kernel_rfl) (by simp) rfl dU zQ ?_;simp only[pkA,seval,pkB Y _];refine mK ?_;simp only[pj,seval,pkB Y _];refine aC rfl (ft _ _) (λ_=>rfl) ?_;simp only[mA,seval,pkB Y _];refine aC rfl (sU _ _) (λ_=>rfl) ?_;simp only[mA,seval,pkB Y _];refine im (i7 t v) (by simp[i7]) hF rfl rfl rfl ?_;intro t' b' hR;simp only[pkA,seval,pkB Y _];exact ij hR rfl rfl dU (by simp[])
def i8 (a b v w:Nat):In:=⟨8,[bE v a,bE w b],[iI v w]⟩
theorem am3 {τ:Type} (Y:Ys τ) (p:Pol) (o:Option Fa) (a b v w:Nat) (s:τ) (hF:Fut G Y s (emL o (i8 a b v w))) :
 FnR G Y 159 [i64 (v:Int),i64 (w:Int),.bp (kx Y.k 1) 0,.bp (kx Y.k 2) 0,.bp (kx Y.k 3) 0] s (emL o (i8 a b v w)) [eng p o,bU Y.k,bV a,bV b]:=by
 have dU:ltL (kx Y.k 4) [eng p o,bU Y.k,bV a,bV b]:=aI (cL Y.pos) (aI (cA (by decide)) (aI cV (aI cV cJ)));have zQ:∀ x∈[i64 (v:Int),i64 (w:Int),V.bp (kx Y.k 1) 0,V.bp (kx Y.k 2) 0,V.bp (kx Y.k 3) 0],x.lt (kx Y.k 4):=bu trivial (bu trivial (bu (dZ (by decide)) (bu (dZ (by decide)) (bu (dZ (by decide)) (eC)))));refine dy (m:=4) (rs:=[.tmp 7]) [1500020,2850001,2880001] mixed Tryz.func159 rfl rfl rfl rfl (by kernel_rfl) (by simp) rfl dU zQ ?_;simp only[pkA,seval,pkB Y _];refine mK ?_;simp only[pj,seval,pkB Y _];refine aC rfl (ft _ _) (λ_=>rfl) ?_;simp only[pj,seval,pkB Y _];refine aC rfl (ft _ _) (λ_=>rfl) ?_;simp only[mA,seval,pkB Y _];refine aC rfl (sU _ _) (λ_=>rfl) ?_;simp only[mA,seval,pkB Y _];refine im (i8 a b v w) (by simp[i8]) hF rfl rfl rfl ?_;intro t' b' hR;simp only[pkA,seval,pkB Y _];exact ij hR rfl rfl dU (by simp[])
def i9 (t v w:Nat):In:=⟨9,[bE v t,iI v w],[iJ w]⟩
theorem am4 {τ:Type} (Y:Ys τ) (p:Pol) (o:Option Fa) (t v w:Nat) (s:τ) (hF:Fut G Y s (emL o (i9 t v w))) :
 FnR G Y 161 [i64 (v:Int),i64 (w:Int),.bp (kx Y.k 1) 0,.bp (kx Y.k 2) 0] s (emL o (i9 t v w)) [eng p o,bU Y.k,bV t]:=by
 have dU:ltL (kx Y.k 3) [eng p o,bU Y.k,bV t]:=aI (cL Y.pos) (aI (cA (by decide)) (aI cV cJ));have zQ:∀ x∈[i64 (v:Int),i64 (w:Int),V.bp (kx Y.k 1) 0,V.bp (kx Y.k 2) 0],x.lt (kx Y.k 3):=bu trivial (bu trivial (bu (dZ (by decide)) (bu (dZ (by decide)) (eC))));refine dy (m:=3) (rs:=[.tmp 6]) [1500018,2850001,2880001] mixed Tryz.func161 rfl rfl rfl rfl (by kernel_rfl) (by simp) rfl dU zQ ?_;simp only[pkA,seval,pkB Y _];refine mK ?_;simp only[pj,seval,pkB Y _];refine aC rfl (ft _ _) (λ_=>rfl) ?_;simp only[pkA,seval,pkB Y _];refine aC rfl (sU _ _) (λ_=>rfl) ?_;simp only[mA,seval,pkB Y _];refine aC rfl (qS _) (λ_=>rfl) ?_;simp only[mA,seval,pkB Y _];refine im (i9 t v w) (by simp[i9]) hF rfl rfl rfl ?_;intro t' b' hR;simp only[pkA,seval,pkB Y _];exact ij hR rfl rfl dU (by simp[])
def i11 (a b:Nat):In:=⟨11,[bE 0 a],[bE 0 b]⟩
theorem ajJ {τ:Type} (Y:Ys τ) (p:Pol) (o:Option Fa) (a b:Nat) (s:τ) (hF:Fut G Y s (emL o (i11 a b))) :
 FnR G Y 164 [i64 (a:Int),i64 (b:Int),.bp (kx Y.k 1) 0] s (emL o (i11 a b)) [eng p o,bU Y.k]:=by
 have dU:ltL (kx Y.k 2) [eng p o,bU Y.k]:=aI (cL Y.pos) (aI (cA (by decide)) cJ);have zQ:∀ x∈[i64 (a:Int),i64 (b:Int),V.bp (kx Y.k 1) 0],x.lt (kx Y.k 2):=bu trivial (bu trivial (bu (dZ (by decide)) (eC)));refine dy (m:=2) (rs:=[.tmp 5]) [1500013,2850001,2880001] mixed Tryz.func164 rfl rfl rfl rfl (by kernel_rfl) (by simp) rfl dU zQ ?_;simp only[pkA,seval,pkB Y _];refine mK ?_;simp only[pj,seval,pkB Y _];refine aC rfl (ft _ _) (λ_=>rfl) ?_;simp only[mA,seval,pkB Y _];refine aC rfl (ft _ _) (λ_=>rfl) ?_;simp only[mA,seval,pkB Y _];refine im (i11 a b) (by simp[i11]) hF rfl rfl rfl ?_;intro t' b' hR;simp only[pkA,seval,pkB Y _];exact ij hR rfl rfl dU (by simp[])
def i12 (a b s0:Nat):In:=⟨12,[bE 0 a,bE s0 b],[iJ s0]⟩
theorem ajK {τ:Type} (Y:Ys τ) (p:Pol) (o:Option Fa) (a b s0:Nat) (s:τ) (hF:Fut G Y s (emL o (i12 a b s0))) :
 FnR G Y 166 [i64 (s0:Int),.bp (kx Y.k 1) 0,.bp (kx Y.k 2) 0,.bp (kx Y.k 3) 0] s (emL o (i12 a b s0)) [eng p o,bU Y.k,bV a,bV b]:=by
 have dU:ltL (kx Y.k 4) [eng p o,bU Y.k,bV a,bV b]:=aI (cL Y.pos) (aI (cA (by decide)) (aI cV (aI cV cJ)));have zQ:∀ x∈[i64 (s0:Int),V.bp (kx Y.k 1) 0,V.bp (kx Y.k 2) 0,V.bp (kx Y.k 3) 0],x.lt (kx Y.k 4):=bu trivial (bu (dZ (by decide)) (bu (dZ (by decide)) (bu (dZ (by decide)) (eC))));refine dy (m:=4) (rs:=[.tmp 5]) [1500016,2850001,2880001] mixed Tryz.func166 rfl rfl rfl rfl (by kernel_rfl) (by simp) rfl dU zQ ?_;simp only[pkA,seval,pkB Y _];refine mK ?_;simp only[pj,seval,pkB Y _];refine aC rfl (ft _ _) (λ_=>rfl) ?_;simp only[pj,seval,pkB Y _];refine aC rfl (ft _ _) (λ_=>rfl) ?_;simp only[mA,seval,pkB Y _];refine aC rfl (qS _) (λ_=>rfl) ?_;simp only[mA,seval,pkB Y _];refine im (i12 a b s0) (by simp[i12]) hF rfl rfl rfl ?_;intro t' b' hR;simp only[pkA,seval,pkB Y _];exact ij hR rfl rfl dU (by simp[])
def i13 (t s0:Nat):In:=⟨13,[iJ s0,bE s0 t],[bE 0 t]⟩
theorem ajL {τ:Type} (Y:Ys τ) (p:Pol) (o:Option Fa) (t s0:Nat) (s:τ) (hF:Fut G Y s (emL o (i13 t s0))) :
 FnR G Y 168 [i64 (s0:Int),.bp (kx Y.k 1) 0,.bp (kx Y.k 2) 0] s (emL o (i13 t s0)) [eng p o,bU Y.k,bV t]:=by
 have dU:ltL (kx Y.k 3) [eng p o,bU Y.k,bV t]:=aI (cL Y.pos) (aI (cA (by decide)) (aI cV cJ));have zQ:∀ x∈[i64 (s0:Int),V.bp (kx Y.k 1) 0,V.bp (kx Y.k 2) 0],x.lt (kx Y.k 3):=bu trivial (bu (dZ (by decide)) (bu (dZ (by decide)) (eC)));refine dy (m:=3) (rs:=[.tmp 4]) [1500015,2850001,2880001] mixed Tryz.func168 rfl rfl rfl rfl (by kernel_rfl) (by simp) rfl dU zQ ?_;simp only[pkA,seval,pkB Y _];refine mK ?_;simp only[pj,seval,pkB Y _];refine aC rfl (qS _) (λ_=>rfl) ?_;simp only[pj,seval,pkB Y _];refine aC rfl (ft _ _) (λ_=>rfl) ?_;simp only[Y8,seval,pkB Y _];refine aC rfl (ft _ _) (λ_=>rfl) ?_;simp only[mA,seval,pkB Y _];refine im (i13 t s0) (by simp[i13]) hF rfl rfl rfl ?_;intro t' b' hR;simp only[pkA,seval,pkB Y _];exact ij hR rfl rfl dU (by simp[])
def i15 (s0:Nat):In:=⟨15,[iI 0 s0],[iJ s0]⟩
theorem ajM {τ:Type} (Y:Ys τ) (p:Pol) (o:Option Fa) (s0:Nat) (s:τ) (hF:Fut G Y s (emL o (i15 s0))) :
 FnR G Y 169 [i64 (s0:Int),.bp (kx Y.k 1) 0] s (emL o (i15 s0)) [eng p o,bU Y.k]:=by
 have dU:ltL (kx Y.k 2) [eng p o,bU Y.k]:=aI (cL Y.pos) (aI (cA (by decide)) cJ);have zQ:∀ x∈[i64 (s0:Int),V.bp (kx Y.k 1) 0],x.lt (kx Y.k 2):=bu trivial (bu (dZ (by decide)) (eC));refine dy (m:=2) (rs:=[.tmp 3]) [1500011,2850001,2880001] mixed Tryz.func169 rfl rfl rfl rfl (by kernel_rfl) (by simp) rfl dU zQ ?_;simp only[pkA,seval,pkB Y _];refine mK ?_;simp only[pj,seval,pkB Y _];refine aC rfl (sU _ _) (λ_=>rfl) ?_;simp only[mA,seval,pkB Y _];refine aC rfl (qS _) (λ_=>rfl) ?_;simp only[mA,seval,pkB Y _];refine im (i15 s0) (by simp[i15]) hF rfl rfl rfl ?_;intro t' b' hR;simp only[pkA,seval,pkB Y _];exact ij hR rfl rfl dU (by simp[])
