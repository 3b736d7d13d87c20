/- The engine of layer 17: how its closures call emit. -/
import Derived.Test.YtloppcgcepgbnaaGreatDoorVlE3
set_option linter.all false
namespace Go.Proofs.YtloppcgcepgbnaaGreatDoor
open Go Go.Vl
variable {G:Gl}
set_option maxRecDepth 4000
theorem pkB {τ:Type} (Y:Ys τ) (s:τ):type_of% (And.intro (@bk0 _ _ (Y.len s)) (And.intro (@bk1 _ _ (Y.len s)) (And.intro (@bk2 _ _ (Y.len s)) (And.intro (@bk3 _ _ (Y.len s)) (And.intro (@bk4 _ _ (Y.len s)) (And.intro (@bk5 _ _ (Y.len s)) (And.intro (@bk6 _ _ (Y.len s)) (And.intro (@bk7 _ _ (Y.len s)) (And.intro (@bk8 _ _ (Y.len s)) (And.intro (@uk0 _ _ (Y.len s)) (And.intro (@uk1 _ _ (Y.len s)) (And.intro (@uk2 _ _ (Y.len s)) (And.intro (@uk3 _ _ (Y.len s)) (And.intro (@uk4 _ _ (Y.len s)) (And.intro (@uk5 _ _ (Y.len s)) (And.intro (@uk6 _ _ (Y.len s)) (And.intro (@uk7 _ _ (Y.len s)) (And.intro (@uk8 _ _ (Y.len s)) (And.intro (@nk0 _ _ (Y.len s)) (And.intro (@nk1 _ _ (Y.len s)) (And.intro (@nk2 _ _ (Y.len s)) (And.intro (@nk3 _ _ (Y.len s)) (And.intro (@nk4 _ _ (Y.len s)) (And.intro (@nk5 _ _ (Y.len s)) (And.intro (@nk6 _ _ (Y.len s)) (And.intro (@nk7 _ _ (Y.len s)) (@nk8 _ _ (Y.len s)))))))))))))))))))))))))))):=And.intro (@bk0 _ _ (Y.len s)) (And.intro (@bk1 _ _ (Y.len s)) (And.intro (@bk2 _ _ (Y.len s)) (And.intro (@bk3 _ _ (Y.len s)) (And.intro (@bk4 _ _ (Y.len s)) (And.intro (@bk5 _ _ (Y.len s)) (And.intro (@bk6 _ _ (Y.len s)) (And.intro (@bk7 _ _ (Y.len s)) (And.intro (@bk8 _ _ (Y.len s)) (And.intro (@uk0 _ _ (Y.len s)) (And.intro (@uk1 _ _ (Y.len s)) (And.intro (@uk2 _ _ (Y.len s)) (And.intro (@uk3 _ _ (Y.len s)) (And.intro (@uk4 _ _ (Y.len s)) (And.intro (@uk5 _ _ (Y.len s)) (And.intro (@uk6 _ _ (Y.len s)) (And.intro (@uk7 _ _ (Y.len s)) (And.intro (@uk8 _ _ (Y.len s)) (And.intro (@nk0 _ _ (Y.len s)) (And.intro (@nk1 _ _ (Y.len s)) (And.intro (@nk2 _ _ (Y.len s)) (And.intro (@nk3 _ _ (Y.len s)) (And.intro (@nk4 _ _ (Y.len s)) (And.intro (@nk5 _ _ (Y.len s)) (And.intro (@nk6 _ _ (Y.len s)) (And.intro (@nk7 _ _ (Y.len s)) (@nk8 _ _ (Y.len s)))))))))))))))))))))))))))
section
variable {τ:Type} {Y:Ys τ} {s:τ} {p:Pol} {o:Option Fa} {x:In} {f:V} {args all:List V} {fr:Nat->V} {K:S->V->Prop}
theorem ij {rest:List (List V)} {n:Nat} (x:In) (hm:x.pre.length<=9223372036854775807) (hF:Fut G Y s (emL o x)) (hc:gz f args=some (142,all))
 (eF:all.map V.fz=[.bp (kx Y.k 0) 0,i64 x.rule,.c (fsC x.pre),.c (fsC x.con)]) (hn:rest.length+1=n)
 (hK:∀ t b,Y.run s (emL o x) t b->K ⟨fr,bxs (Y.yb t++eng p o::rest),kx Y.k n⟩ (bo b)):lj Tryz.prog G ⟨fr,bxs (Y.yb s++eng p o::rest),kx Y.k n⟩ f args K:=
 nW (ls:=[eng p o]) (rest:=rest) hc (Ky Y s p o x hm hF) eF hn hK
theorem wO {rest:List (List V)} {n:Nat} (x:In) (hm:x.pre=[]) (hF:Fut G Y s (emL o x)) (hc:gz f args=some (142,all))
 (eF:all.map V.fz=[.bp (kx Y.k 0) 0,i64 x.rule,.c (.ex (.slice none 0 0)),.c (fsC x.con)]) (hn:rest.length+1=n)
 (hK:∀ t b,Y.run s (emL o x) t b->K ⟨fr,bxs (Y.yb t++eng p o::rest),kx Y.k n⟩ (bo b)):lj Tryz.prog G ⟨fr,bxs (Y.yb s++eng p o::rest),kx Y.k n⟩ f args K:=
 nW (ls:=[eng p o]) (rest:=rest) hc (show FnR G Y 142 [.bp (kx Y.k 0) 0,i64 x.rule,.c (.ex (.slice none 0 0)),.c (fsC x.con)] s (emL o x) [eng p o] from abD (Ky Y s p o x (by rw[hm];decide) hF) rfl λj x' x hj Gj=>by
  match j,hj,Gj with
  |0,hj,Gj=>cases hj;cases Gj;exact .inl rfl
  |1,hj,Gj=>cases hj;cases Gj;exact .inl rfl
  |2,hj,Gj=>cases hj;cases Gj;rw[hm];exact .inr ⟨rfl,rfl⟩
  |3,hj,Gj=>cases hj;cases Gj;exact .inl rfl
  |j+4,hj,_=>simp at hj) eF hn hK
end
def bV (k:Nat):List V:=[.bp (kx k 0) 0]
def bY (n:Nat):List V:=[i64 (n:Int)]
section
variable {k n j:Nat} {K:V->Prop} {t:Nat}
theorem lev:ldB (kx k n) (kx k j) (bV k) 0 K=(j<n/\K (.bp (kx k 0) 0)):=by unfold ldB;rw[l0];rfl
theorem lnv:ldB (kx k n) (kx k j) (bY t) 0 K=(j<n/\K (i64 (t:Int))):=by unfold ldB;rw[l0];rfl
theorem mev:cL (bV k)=false:=rfl
theorem mnv:cL (bY t)=false:=rfl
theorem fev:[V.bp (kx k 0) 0]=bV k:=rfl
theorem fnv:[V.c (.lit (.int .i64 (t:Int)))]=bY t:=rfl
theorem cD {m:Nat} (h:0<m):∀ x∈bV k,x.lt (kx k m):=λx hx=>by simp only[bV,aX] at hx;subst hx;simp only[V.lt,l0];exact h
theorem cU {m:Nat}:∀ x∈bY t,x.lt m:=λx hx=>by simp only[bY,aX] at hx;subst hx;trivial
end
def pkV:=jj @lev (jj @lnv (jj @mev @mnv))
theorem cJ {m:Nat}:ltL m []:=λ_ h=>by cases h
theorem aJ {m:Nat} {b:List V} {l:List (List V)} (h:∀ x∈b,x.lt m) (h2:ltL m l):ltL m (b::l):=λc hc x hx=>by
 rcases aP.1 hc with rfl | hc
 .exact h x hx
 .exact h2 c hc x hx
theorem cM {p:Pol} {o:Option Fa} {k m:Nat} (hk:0<k):∀ x∈eng p o,x.lt (kx k m):=λx hx=>(wN hk x hx).mono (by simp[kx])
theorem eD {m:Nat}:∀ x∈([]:List V),x.lt m:=λ_ h=>by cases h
theorem bu {m:Nat} {a:V} {l:List V} (h:a.lt m) (h2:∀ x∈l,x.lt m):∀ x∈a::l,x.lt m:=λq hq=>by
 rcases aP.1 hq with rfl | hq
 .exact h
 .exact h2 q hq
theorem dZ {k i j m:Nat} (h:i<m):(V.bp (kx k i) j).lt (kx k m):=by simp only[V.lt,l0];exact h
def i1 (t:Nat):In:=⟨1,[],[bD 0 t]⟩
def o6:=jj @pkA (jj @ptA @pkV)
def mw:=jj @pkA (jj @ptA @pkE)
theorem akc {τ:Type} (Y:Ys τ) (p:Pol) (o:Option Fa) (t:Nat) (s:τ) (hF:Fut G Y s (emL o (i1 t))) :
 FnR G Y 141 [i64 (t:Int),.bp (kx Y.k 1) 0] s (emL o (i1 t)) [eng p o,bV Y.k]:=by
 have dU:ltL (kx Y.k 2) [eng p o,bV Y.k]:=aJ (cM Y.pos) (aJ (cD (by decide)) cJ);have zH:∀ x∈[i64 (t:Int),V.bp (kx Y.k 1) 0],x.lt (kx Y.k 2):=bu trivial (bu (dZ (by decide)) (eD));refine dw (m:=2) (rs:=[.tmp 3]) [1500008,2850001,2880001] mixed Tryz.func141 rfl rfl rfl rfl (by kernel_rfl) (by simp) rfl dU zH ?_;simp only[pkA,seval,pkB Y _];refine mL ?_;simp only[o6,seval,pkB Y _];refine az rfl (fx _ _) (λ_=>rfl) ?_;simp only[mw,seval,pkB Y _];refine wO (i1 t) rfl hF rfl rfl rfl ?_;intro t' b' hR;simp only[pkA,seval,pkB Y _];exact ig hR rfl rfl dU (by simp[])
def i2 (t:Nat):In:=⟨2,[],[bD (t+1:Nat) t]⟩
theorem akd {τ:Type} (Y:Ys τ) (p:Pol) (o:Option Fa) (t:Nat) (ht:t<=9223372036854775806) (s:τ) (hF:Fut G Y s (emL o (i2 t))) :
 FnR G Y 144 [i64 (t:Int),.bp (kx Y.k 1) 0] s (emL o (i2 t)) [eng p o,bV Y.k]:=by
 have dU:ltL (kx Y.k 2) [eng p o,bV Y.k]:=aJ (cM Y.pos) (aJ (cD (by decide)) cJ);have zH:∀ x∈[i64 (t:Int),V.bp (kx Y.k 1) 0],x.lt (kx Y.k 2):=bu trivial (bu (dZ (by decide)) (eD));have wt:=bn (n:=(t:Int)+1) (k:=t+1) (by omega) (by omega);refine dw (m:=2) (rs:=[.tmp 3]) [1500010,2850001,2880001] mixed Tryz.func144 rfl rfl rfl rfl (by kernel_rfl) (by simp) rfl dU zH ?_;simp only[pkA,seval,pkB Y _];refine mL ?_;simp only[o6,seval,pkB Y _,wt];refine az rfl (fx _ _) (λ_=>rfl) ?_;simp only[mw,seval,pkB Y _];refine wO (i2 t) rfl hF rfl rfl rfl ?_;intro t' b' hR;simp only[pkA,seval,pkB Y _];exact ig hR rfl rfl dU (by simp[])
def i3 (a b s0:Nat):In:=⟨3,[bD s0 a],[bD (b+1:Nat) b]⟩
def XV:=jj @pkA (jj @ptA (jj @pkE @pkV))
theorem ake {τ:Type} (Y:Ys τ) (p:Pol) (o:Option Fa) (a b s0:Nat) (hb:b<=9223372036854775806) (s:τ) (hF:Fut G Y s (emL o (i3 a b s0))) :
 FnR G Y 148 [i64 (s0:Int),.bp (kx Y.k 1) 0,.bp (kx Y.k 2) 0,.bp (kx Y.k 3) 0] s (emL o (i3 a b s0)) [eng p o,bV Y.k,bY a,bY b]:=by
 have dU:ltL (kx Y.k 4) [eng p o,bV Y.k,bY a,bY b]:=aJ (cM Y.pos) (aJ (cD (by decide)) (aJ cU (aJ cU cJ)));have zH:∀ x∈[i64 (s0:Int),V.bp (kx Y.k 1) 0,V.bp (kx Y.k 2) 0,V.bp (kx Y.k 3) 0],x.lt (kx Y.k 4):=bu trivial (bu (dZ (by decide)) (bu (dZ (by decide)) (bu (dZ (by decide)) (eD))));have wb:=bn (n:=(b:Int)+1) (k:=b+1) (by omega) (by omega);refine dw (m:=4) (rs:=[.tmp 5]) [1500016,2850001,2880001] mixed Tryz.func148 rfl rfl rfl rfl (by kernel_rfl) (by simp) rfl dU zH ?_;simp only[pkA,seval,pkB Y _];refine mL ?_;simp only[o6,seval,pkB Y _];refine az rfl (fx _ _) (λ_=>rfl) ?_;simp only[XV,seval,pkB Y _,wb];refine az rfl (fx _ _) (λ_=>rfl) ?_;simp only[mw,seval,pkB Y _];refine ij (i3 a b s0) (by simp[i3]) hF rfl rfl rfl ?_;intro t' b' hR;simp only[pkA,seval,pkB Y _];exact ig hR rfl rfl dU (by simp[])
def i4 (a b:Nat):In:=⟨4,[bD 0 a],[bD 0 b]⟩
theorem akf {τ:Type} (Y:Ys τ) (p:Pol) (o:Option Fa) (a b:Nat) (s:τ) (hF:Fut G Y s (emL o (i4 a b))) :
 FnR G Y 149 [i64 (a:Int),i64 (b:Int),.bp (kx Y.k 1) 0] s (emL o (i4 a b)) [eng p o,bV Y.k]:=by
 have dU:ltL (kx Y.k 2) [eng p o,bV Y.k]:=aJ (cM Y.pos) (aJ (cD (by decide)) cJ);have zH:∀ x∈[i64 (a:Int),i64 (b:Int),V.bp (kx Y.k 1) 0],x.lt (kx Y.k 2):=bu trivial (bu trivial (bu (dZ (by decide)) (eD)));refine dw (m:=2) (rs:=[.tmp 5]) [1500013,2850001,2880001] mixed Tryz.func149 rfl rfl rfl rfl (by kernel_rfl) (by simp) rfl dU zH ?_;simp only[pkA,seval,pkB Y _];refine mL ?_;simp only[o6,seval,pkB Y _];refine az rfl (fx _ _) (λ_=>rfl) ?_;simp only[mw,seval,pkB Y _];refine az rfl (fx _ _) (λ_=>rfl) ?_;simp only[mw,seval,pkB Y _];refine ij (i4 a b) (by simp[i4]) hF rfl rfl rfl ?_;intro t' b' hR;simp only[pkA,seval,pkB Y _];exact ig hR rfl rfl dU (by simp[])
def i5 (a b s0:Nat):In:=⟨5,[bD s0 a,iJ s0],[iJ (b+1:Nat)]⟩
theorem akg {τ:Type} (Y:Ys τ) (p:Pol) (o:Option Fa) (a b s0:Nat) (hb:b<=9223372036854775806) (s:τ) (hF:Fut G Y s (emL o (i5 a b s0))) :
 FnR G Y 151 [i64 (s0:Int),.bp (kx Y.k 1) 0,.bp (kx Y.k 2) 0,.bp (kx Y.k 3) 0] s (emL o (i5 a b s0)) [eng p o,bV Y.k,bY a,bY b]:=by
 have dU:ltL (kx Y.k 4) [eng p o,bV Y.k,bY a,bY b]:=aJ (cM Y.pos) (aJ (cD (by decide)) (aJ cU (aJ cU cJ)));have zH:∀ x∈[i64 (s0:Int),V.bp (kx Y.k 1) 0,V.bp (kx Y.k 2) 0,V.bp (kx Y.k 3) 0],x.lt (kx Y.k 4):=bu trivial (bu (dZ (by decide)) (bu (dZ (by decide)) (bu (dZ (by decide)) (eD))));have wb:=bn (n:=(b:Int)+1) (k:=b+1) (by omega) (by omega);refine dw (m:=4) (rs:=[.tmp 5]) [1500017,2850001,2880001] mixed Tryz.func151 rfl rfl rfl rfl (by kernel_rfl) (by simp) rfl dU zH ?_;simp only[pkA,seval,pkB Y _];refine mL ?_;simp only[o6,seval,pkB Y _];refine az rfl (fx _ _) (λ_=>rfl) ?_;simp only[pkA,seval,pkB Y _];refine az rfl (qI _) (λ_=>rfl) ?_;simp only[XV,seval,pkB Y _,wb];refine az rfl (qI _) (λ_=>rfl) ?_;simp only[mw,seval,pkB Y _];refine ij (i5 a b s0) (by simp[i5]) hF rfl rfl rfl ?_;intro t' b' hR;simp only[pkA,seval,pkB Y _];exact ig hR rfl rfl dU (by simp[])
def i6 (t s0:Nat):In:=⟨6,[bD s0 t],[iJ s0]⟩
theorem akh {τ:Type} (Y:Ys τ) (p:Pol) (o:Option Fa) (t s0:Nat) (s:τ) (hF:Fut G Y s (emL o (i6 t s0))) :
 FnR G Y 153 [i64 (s0:Int),.bp (kx Y.k 1) 0,.bp (kx Y.k 2) 0] s (emL o (i6 t s0)) [eng p o,bV Y.k,bY t]:=by
 have dU:ltL (kx Y.k 3) [eng p o,bV Y.k,bY t]:=aJ (cM Y.pos) (aJ (cD (by decide)) (aJ cU cJ));have zH:∀ x∈[i64 (s0:Int),V.bp (kx Y.k 1) 0,V.bp (kx Y.k 2) 0],x.lt (kx Y.k 3):=bu trivial (bu (dZ (by decide)) (bu (dZ (by decide)) (eD)));refine dw (m:=3) (rs:=[.tmp 4]) [1500013,2850001,2880001] mixed Tryz.func153 rfl rfl rfl rfl (by kernel_rfl) (by simp) rfl dU zH ?_;simp only[pkA,seval,pkB Y _];refine mL ?_;simp only[o6,seval,pkB Y _];refine az rfl (fx _ _) (λ_=>rfl) ?_;simp only[mw,seval,pkB Y _];refine az rfl (qI _) (λ_=>rfl) ?_;simp only[mw,seval,pkB Y _];refine ij (i6 t s0) (by simp[i6]) hF rfl rfl rfl ?_;intro t' b' hR;simp only[pkA,seval,pkB Y _];exact ig hR rfl rfl dU (by simp[])
def i7 (t v:Nat):In:=⟨7,[bD v t],[iI v 0]⟩
theorem aki {τ:Type} (Y:Ys τ) (p:Pol) (o:Option Fa) (t v:Nat) (s:τ) (hF:Fut G Y s (emL o (i7 t v))) :
 FnR G Y 155 [i64 (v:Int),.bp (kx Y.k 1) 0,.bp (kx Y.k 2) 0] s (emL o (i7 t v)) [eng p o,bV Y.k,bY t]:=by
 have dU:ltL (kx Y.k 3) [eng p o,bV Y.k,bY t]:=aJ (cM Y.pos) (aJ (cD (by decide)) (aJ cU cJ));have zH:∀ x∈[i64 (v:Int),V.bp (kx Y.k 1) 0,V.bp (kx Y.k 2) 0],x.lt (kx Y.k 3):=bu trivial (bu (dZ (by decide)) (bu (dZ (by decide)) (eD)));refine dw (m:=3) (rs:=[.tmp 4]) [1500013,2850001,2880001] mixed Tryz.func155 rfl rfl rfl rfl (by kernel_rfl) (by simp) rfl dU zH ?_;simp only[pkA,seval,pkB Y _];refine mL ?_;simp only[o6,seval,pkB Y _];refine az rfl (fx _ _) (λ_=>rfl) ?_;simp only[mw,seval,pkB Y _];refine az rfl (sw _ _) (λ_=>rfl) ?_;simp only[mw,seval,pkB Y _];refine ij (i7 t v) (by simp[i7]) hF rfl rfl rfl ?_;intro t' b' hR;simp only[pkA,seval,pkB Y _];exact ig hR rfl rfl dU (by simp[])
def i8 (a b v w:Nat):In:=⟨8,[bD v a,bD w b],[iI v w]⟩
theorem akj {τ:Type} (Y:Ys τ) (p:Pol) (o:Option Fa) (a b v w:Nat) (s:τ) (hF:Fut G Y s (emL o (i8 a b v w))) :
 FnR G Y 159 [i64 (v:Int),i64 (w:Int),.bp (kx Y.k 1) 0,.bp (kx Y.k 2) 0,.bp (kx Y.k 3) 0] s (emL o (i8 a b v w)) [eng p o,bV Y.k,bY a,bY b]:=by
 have dU:ltL (kx Y.k 4) [eng p o,bV Y.k,bY a,bY b]:=aJ (cM Y.pos) (aJ (cD (by decide)) (aJ cU (aJ cU cJ)));have zH:∀ x∈[i64 (v:Int),i64 (w:Int),V.bp (kx Y.k 1) 0,V.bp (kx Y.k 2) 0,V.bp (kx Y.k 3) 0],x.lt (kx Y.k 4):=bu trivial (bu trivial (bu (dZ (by decide)) (bu (dZ (by decide)) (bu (dZ (by decide)) (eD)))));refine dw (m:=4) (rs:=[.tmp 7]) [1500020,2850001,2880001] mixed Tryz.func159 rfl rfl rfl rfl (by kernel_rfl) (by simp) rfl dU zH ?_;simp only[pkA,seval,pkB Y _];refine mL ?_;simp only[o6,seval,pkB Y _];refine az rfl (fx _ _) (λ_=>rfl) ?_;simp only[o6,seval,pkB Y _];refine az rfl (fx _ _) (λ_=>rfl) ?_;simp only[mw,seval,pkB Y _];refine az rfl (sw _ _) (λ_=>rfl) ?_;simp only[mw,seval,pkB Y _];refine ij (i8 a b v w) (by simp[i8]) hF rfl rfl rfl ?_;intro t' b' hR;simp only[pkA,seval,pkB Y _];exact ig hR rfl rfl dU (by simp[])
def i9 (t v w:Nat):In:=⟨9,[bD v t,iI v w],[iJ w]⟩
theorem akk {τ:Type} (Y:Ys τ) (p:Pol) (o:Option Fa) (t v w:Nat) (s:τ) (hF:Fut G Y s (emL o (i9 t v w))) :
 FnR G Y 161 [i64 (v:Int),i64 (w:Int),.bp (kx Y.k 1) 0,.bp (kx Y.k 2) 0] s (emL o (i9 t v w)) [eng p o,bV Y.k,bY t]:=by
 have dU:ltL (kx Y.k 3) [eng p o,bV Y.k,bY t]:=aJ (cM Y.pos) (aJ (cD (by decide)) (aJ cU cJ));have zH:∀ x∈[i64 (v:Int),i64 (w:Int),V.bp (kx Y.k 1) 0,V.bp (kx Y.k 2) 0],x.lt (kx Y.k 3):=bu trivial (bu trivial (bu (dZ (by decide)) (bu (dZ (by decide)) (eD))));refine dw (m:=3) (rs:=[.tmp 6]) [1500018,2850001,2880001] mixed Tryz.func161 rfl rfl rfl rfl (by kernel_rfl) (by simp) rfl dU zH ?_;simp only[pkA,seval,pkB Y _];refine mL ?_;simp only[o6,seval,pkB Y _];refine az rfl (fx _ _) (λ_=>rfl) ?_;simp only[pkA,seval,pkB Y _];refine az rfl (sw _ _) (λ_=>rfl) ?_;simp only[mw,seval,pkB Y _];refine az rfl (qI _) (λ_=>rfl) ?_;simp only[mw,seval,pkB Y _];refine ij (i9 t v w) (by simp[i9]) hF rfl rfl rfl ?_;intro t' b' hR;simp only[pkA,seval,pkB Y _];exact ig hR rfl rfl dU (by simp[])
def i11 (a b:Nat):In:=⟨11,[bD 0 a],[bD 0 b]⟩
theorem ahe {τ:Type} (Y:Ys τ) (p:Pol) (o:Option Fa) (a b:Nat) (s:τ) (hF:Fut G Y s (emL o (i11 a b))) :
 FnR G Y 164 [i64 (a:Int),i64 (b:Int),.bp (kx Y.k 1) 0] s (emL o (i11 a b)) [eng p o,bV Y.k]:=by
 have dU:ltL (kx Y.k 2) [eng p o,bV Y.k]:=aJ (cM Y.pos) (aJ (cD (by decide)) cJ);have zH:∀ x∈[i64 (a:Int),i64 (b:Int),V.bp (kx Y.k 1) 0],x.lt (kx Y.k 2):=bu trivial (bu trivial (bu (dZ (by decide)) (eD)));refine dw (m:=2) (rs:=[.tmp 5]) [1500013,2850001,2880001] mixed Tryz.func164 rfl rfl rfl rfl (by kernel_rfl) (by simp) rfl dU zH ?_;simp only[pkA,seval,pkB Y _];refine mL ?_;simp only[o6,seval,pkB Y _];refine az rfl (fx _ _) (λ_=>rfl) ?_;simp only[mw,seval,pkB Y _];refine az rfl (fx _ _) (λ_=>rfl) ?_;simp only[mw,seval,pkB Y _];refine ij (i11 a b) (by simp[i11]) hF rfl rfl rfl ?_;intro t' b' hR;simp only[pkA,seval,pkB Y _];exact ig hR rfl rfl dU (by simp[])
def i12 (a b s0:Nat):In:=⟨12,[bD 0 a,bD s0 b],[iJ s0]⟩
theorem ahf {τ:Type} (Y:Ys τ) (p:Pol) (o:Option Fa) (a b s0:Nat) (s:τ) (hF:Fut G Y s (emL o (i12 a b s0))) :
 FnR G Y 166 [i64 (s0:Int),.bp (kx Y.k 1) 0,.bp (kx Y.k 2) 0,.bp (kx Y.k 3) 0] s (emL o (i12 a b s0)) [eng p o,bV Y.k,bY a,bY b]:=by
 have dU:ltL (kx Y.k 4) [eng p o,bV Y.k,bY a,bY b]:=aJ (cM Y.pos) (aJ (cD (by decide)) (aJ cU (aJ cU cJ)));have zH:∀ x∈[i64 (s0:Int),V.bp (kx Y.k 1) 0,V.bp (kx Y.k 2) 0,V.bp (kx Y.k 3) 0],x.lt (kx Y.k 4):=bu trivial (bu (dZ (by decide)) (bu (dZ (by decide)) (bu (dZ (by decide)) (eD))));refine dw (m:=4) (rs:=[.tmp 5]) [1500016,2850001,2880001] mixed Tryz.func166 rfl rfl rfl rfl (by kernel_rfl) (by simp) rfl dU zH ?_;simp only[pkA,seval,pkB Y _];refine mL ?_;simp only[o6,seval,pkB Y _];refine az rfl (fx _ _) (λ_=>rfl) ?_;simp only[o6,seval,pkB Y _];refine az rfl (fx _ _) (λ_=>rfl) ?_;simp only[mw,seval,pkB Y _];refine az rfl (qI _) (λ_=>rfl) ?_;simp only[mw,seval,pkB Y _];refine ij (i12 a b s0) (by simp[i12]) hF rfl rfl rfl ?_;intro t' b' hR;simp only[pkA,seval,pkB Y _];exact ig hR rfl rfl dU (by simp[])
def i13 (t s0:Nat):In:=⟨13,[iJ s0,bD s0 t],[bD 0 t]⟩
theorem ahg {τ:Type} (Y:Ys τ) (p:Pol) (o:Option Fa) (t s0:Nat) (s:τ) (hF:Fut G Y s (emL o (i13 t s0))) :
 FnR G Y 168 [i64 (s0:Int),.bp (kx Y.k 1) 0,.bp (kx Y.k 2) 0] s (emL o (i13 t s0)) [eng p o,bV Y.k,bY t]:=by
 have dU:ltL (kx Y.k 3) [eng p o,bV Y.k,bY t]:=aJ (cM Y.pos) (aJ (cD (by decide)) (aJ cU cJ));have zH:∀ x∈[i64 (s0:Int),V.bp (kx Y.k 1) 0,V.bp (kx Y.k 2) 0],x.lt (kx Y.k 3):=bu trivial (bu (dZ (by decide)) (bu (dZ (by decide)) (eD)));refine dw (m:=3) (rs:=[.tmp 4]) [1500015,2850001,2880001] mixed Tryz.func168 rfl rfl rfl rfl (by kernel_rfl) (by simp) rfl dU zH ?_;simp only[pkA,seval,pkB Y _];refine mL ?_;simp only[o6,seval,pkB Y _];refine az rfl (qI _) (λ_=>rfl) ?_;simp only[o6,seval,pkB Y _];refine az rfl (fx _ _) (λ_=>rfl) ?_;simp only[XV,seval,pkB Y _];refine az rfl (fx _ _) (λ_=>rfl) ?_;simp only[mw,seval,pkB Y _];refine ij (i13 t s0) (by simp[i13]) hF rfl rfl rfl ?_;intro t' b' hR;simp only[pkA,seval,pkB Y _];exact ig hR rfl rfl dU (by simp[])
def i15 (s0:Nat):In:=⟨15,[iI 0 s0],[iJ s0]⟩
theorem ahh {τ:Type} (Y:Ys τ) (p:Pol) (o:Option Fa) (s0:Nat) (s:τ) (hF:Fut G Y s (emL o (i15 s0))) :
 FnR G Y 169 [i64 (s0:Int),.bp (kx Y.k 1) 0] s (emL o (i15 s0)) [eng p o,bV Y.k]:=by
 have dU:ltL (kx Y.k 2) [eng p o,bV Y.k]:=aJ (cM Y.pos) (aJ (cD (by decide)) cJ);have zH:∀ x∈[i64 (s0:Int),V.bp (kx Y.k 1) 0],x.lt (kx Y.k 2):=bu trivial (bu (dZ (by decide)) (eD));refine dw (m:=2) (rs:=[.tmp 3]) [1500011,2850001,2880001] mixed Tryz.func169 rfl rfl rfl rfl (by kernel_rfl) (by simp) rfl dU zH ?_;simp only[pkA,seval,pkB Y _];refine mL ?_;simp only[o6,seval,pkB Y _];refine az rfl (sw _ _) (λ_=>rfl) ?_;simp only[mw,seval,pkB Y _];refine az rfl (qI _) (λ_=>rfl) ?_;simp only[mw,seval,pkB Y _];refine ij (i15 s0) (by simp[i15]) hF rfl rfl rfl ?_;intro t' b' hR;simp only[pkA,seval,pkB Y _];exact ig hR rfl rfl dU (by simp[])
