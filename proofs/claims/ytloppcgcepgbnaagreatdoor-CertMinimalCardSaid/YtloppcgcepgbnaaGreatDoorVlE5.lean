/- The engine of layer 17: how its closures call emit. -/
import Derived.Test.YtloppcgcepgbnaaGreatDoorVlE3
set_option linter.all false
namespace Go.Proofs.YtloppcgcepgbnaaGreatDoor
open Go Go.Vl
variable {G:Gl}
set_option maxRecDepth 4000
theorem pkB {τ:Type} (Y:Ys τ) (s:τ):type_of% (And.intro (@bk0 _ _ (Y.len s)) (And.intro (@bk1 _ _ (Y.len s)) (And.intro (@bk2 _ _ (Y.len s)) (And.intro (@bk3 _ _ (Y.len s)) (And.intro (@bk4 _ _ (Y.len s)) (And.intro (@bk5 _ _ (Y.len s)) (And.intro (@bk6 _ _ (Y.len s)) (And.intro (@bk7 _ _ (Y.len s)) (And.intro (@bk8 _ _ (Y.len s)) (And.intro (@uk0 _ _ (Y.len s)) (And.intro (@uk1 _ _ (Y.len s)) (And.intro (@uk2 _ _ (Y.len s)) (And.intro (@uk3 _ _ (Y.len s)) (And.intro (@uk4 _ _ (Y.len s)) (And.intro (@uk5 _ _ (Y.len s)) (And.intro (@uk6 _ _ (Y.len s)) (And.intro (@uk7 _ _ (Y.len s)) (And.intro (@uk8 _ _ (Y.len s)) (And.intro (@nk0 _ _ (Y.len s)) (And.intro (@nk1 _ _ (Y.len s)) (And.intro (@nk2 _ _ (Y.len s)) (And.intro (@nk3 _ _ (Y.len s)) (And.intro (@nk4 _ _ (Y.len s)) (And.intro (@nk5 _ _ (Y.len s)) (And.intro (@nk6 _ _ (Y.len s)) (And.intro (@nk7 _ _ (Y.len s)) (@nk8 _ _ (Y.len s)))))))))))))))))))))))))))):=And.intro (@bk0 _ _ (Y.len s)) (And.intro (@bk1 _ _ (Y.len s)) (And.intro (@bk2 _ _ (Y.len s)) (And.intro (@bk3 _ _ (Y.len s)) (And.intro (@bk4 _ _ (Y.len s)) (And.intro (@bk5 _ _ (Y.len s)) (And.intro (@bk6 _ _ (Y.len s)) (And.intro (@bk7 _ _ (Y.len s)) (And.intro (@bk8 _ _ (Y.len s)) (And.intro (@uk0 _ _ (Y.len s)) (And.intro (@uk1 _ _ (Y.len s)) (And.intro (@uk2 _ _ (Y.len s)) (And.intro (@uk3 _ _ (Y.len s)) (And.intro (@uk4 _ _ (Y.len s)) (And.intro (@uk5 _ _ (Y.len s)) (And.intro (@uk6 _ _ (Y.len s)) (And.intro (@uk7 _ _ (Y.len s)) (And.intro (@uk8 _ _ (Y.len s)) (And.intro (@nk0 _ _ (Y.len s)) (And.intro (@nk1 _ _ (Y.len s)) (And.intro (@nk2 _ _ (Y.len s)) (And.intro (@nk3 _ _ (Y.len s)) (And.intro (@nk4 _ _ (Y.len s)) (And.intro (@nk5 _ _ (Y.len s)) (And.intro (@nk6 _ _ (Y.len s)) (And.intro (@nk7 _ _ (Y.len s)) (@nk8 _ _ (Y.len s)))))))))))))))))))))))))))
section
variable {τ:Type} {Y:Ys τ} {s:τ} {p:Pol} {o:Option Fa} {x:In} {f:V} {args all:List V} {fr:Nat→V} {K:S→V→Prop}
theorem ig {rest:List (List V)} {n:Nat} (x:In) (hm:x.pre.length≤9223372036854775807) (hF:Fut G Y s (emL o x)) (hc:gu f args=some (142,all))
 (en:all.map V.fz=[.bp (kx Y.k 0) 0,i64 x.rule,.c (fsC x.pre),.c (fsC x.con)]) (hn:rest.length+1=n)
 (hK:∀ t b,Y.run s (emL o x) t b→K ⟨fr,bxs (Y.yb t++eng p o::rest),kx Y.k n⟩ (bo b)):kZ Tryz.prog G ⟨fr,bxs (Y.yb s++eng p o::rest),kx Y.k n⟩ f args K:=
 nI (ls:=[eng p o]) (rest:=rest) hc (J4 Y s p o x hm hF) en hn hK
theorem wO {rest:List (List V)} {n:Nat} (x:In) (hm:x.pre=[]) (hF:Fut G Y s (emL o x)) (hc:gu f args=some (142,all))
 (en:all.map V.fz=[.bp (kx Y.k 0) 0,i64 x.rule,.c (.ex (.slice none 0 0)),.c (fsC x.con)]) (hn:rest.length+1=n)
 (hK:∀ t b,Y.run s (emL o x) t b→K ⟨fr,bxs (Y.yb t++eng p o::rest),kx Y.k n⟩ (bo b)):kZ Tryz.prog G ⟨fr,bxs (Y.yb s++eng p o::rest),kx Y.k n⟩ f args K:=
 nI (ls:=[eng p o]) (rest:=rest) hc (show FnR G Y 142 [.bp (kx Y.k 0) 0,i64 x.rule,.c (.ex (.slice none 0 0)),.c (fsC x.con)] s (emL o x) [eng p o] from acj (J4 Y s p o x (by rw[hm];decide) hF) rfl fun j x' x hj Dm=>by
  match j,hj,Dm with
  |0,hj,Dm=>cases hj;cases Dm;exact .inl rfl
  |1,hj,Dm=>cases hj;cases Dm;exact .inl rfl
  |2,hj,Dm=>cases hj;cases Dm;rw[hm];exact .inr ⟨rfl,rfl⟩
  |3,hj,Dm=>cases hj;cases Dm;exact .inl rfl
  |j+4,hj,_=>simp at hj) en hn hK
end
def bP (k:Nat):List V:=[.bp (kx k 0) 0]
def bQ (n:Nat):List V:=[i64 (n:Int)]
section
variable {k n j:Nat} {K:V→Prop} {t:Nat}
theorem lev:ldB (kx k n) (kx k j) (bP k) 0 K=(j<n∧K (.bp (kx k 0) 0)):=by unfold ldB;rw[kM];rfl
theorem lnv:ldB (kx k n) (kx k j) (bQ t) 0 K=(j<n∧K (i64 (t:Int))):=by unfold ldB;rw[kM];rfl
theorem mev:bY (bP k)=false:=rfl
theorem mnv:bY (bQ t)=false:=rfl
theorem fev:[V.bp (kx k 0) 0]=bP k:=rfl
theorem fnv:[V.c (.lit (.int .i64 (t:Int)))]=bQ t:=rfl
theorem cg {m:Nat} (h:0<m):∀ x∈bP k,x.lt (kx k m):=fun x hx=>by
 simp only[bP,aW] at hx;subst hx;simp only[V.lt,kM];exact h
theorem cP {m:Nat}:∀ x∈bQ t,x.lt m:=fun x hx=>by
 simp only[bQ,aW] at hx;subst hx;trivial
end
def pkV:=jj @lev (jj @lnv (jj @mev @mnv))
theorem cz {m:Nat}:ltL m []:=fun _ h=>by cases h
theorem aD {m:Nat} {b:List V} {l:List (List V)} (h:∀ x∈b,x.lt m) (h2:ltL m l):ltL m (b::l):=fun c hc x hx=>by
 rcases aQ.1 hc with rfl | hc
 ·exact h x hx
 ·exact h2 c hc x hx
theorem cB {p:Pol} {o:Option Fa} {k m:Nat} (hk:0<k):∀ x∈eng p o,x.lt (kx k m):=fun x hx=>(wN hk x hx).mono (by simp[kx])
theorem eE {m:Nat}:∀ x∈([]:List V),x.lt m:=fun _ h=>by cases h
theorem bj {m:Nat} {a:V} {l:List V} (h:a.lt m) (h2:∀ x∈l,x.lt m):∀ x∈a::l,x.lt m:=fun q hq=>by
 rcases aQ.1 hq with rfl | hq
 ·exact h
 ·exact h2 q hq
theorem dX {k i j m:Nat} (h:i<m):(V.bp (kx k i) j).lt (kx k m):=by simp only[V.lt,kM];exact h
def i1 (t:Nat):In:=⟨1,[],[fZ 0 t]⟩
def oP:=jj @pkA (jj @ptA @pkV)
def lX:=jj @pkA (jj @ptA @pkE)
theorem al3 {τ:Type} (Y:Ys τ) (p:Pol) (o:Option Fa) (t:Nat) (s:τ) (hF:Fut G Y s (emL o (i1 t))) :
 FnR G Y 141 [i64 (t:Int),.bp (kx Y.k 1) 0] s (emL o (i1 t)) [eng p o,bP Y.k]:=by
 have dQ:ltL (kx Y.k 2) [eng p o,bP Y.k]:=aD (cB Y.pos) (aD (cg (by decide)) cz)
 have zu:∀ x∈[i64 (t:Int),V.bp (kx Y.k 1) 0],x.lt (kx Y.k 2):=bj trivial (bj (dX (by decide)) (eE))
 refine dm (m:=2) (rs:=[.tmp 3]) [1500008,2850001,2880001] mixed Tryz.func141 rfl rfl rfl rfl (by kernel_rfl) (by simp) rfl dQ zu ?_
 simp only[pkA,seval,pkB Y _]
 refine mf ?_
 simp only[oP,seval,pkB Y _]
 refine aN rfl (fi _ _) (fun _=>rfl) ?_
 simp only[lX,seval,pkB Y _]
 refine wO (i1 t) rfl hF rfl rfl rfl ?_
 intro t' b' hR
 simp only[pkA,seval,pkB Y _]
 exact ib hR rfl rfl dQ (by simp[])
def i2 (t:Nat):In:=⟨2,[],[fZ (t+1:Nat) t]⟩
theorem al4 {τ:Type} (Y:Ys τ) (p:Pol) (o:Option Fa) (t:Nat) (ht:t≤9223372036854775806) (s:τ) (hF:Fut G Y s (emL o (i2 t))) :
 FnR G Y 144 [i64 (t:Int),.bp (kx Y.k 1) 0] s (emL o (i2 t)) [eng p o,bP Y.k]:=by
 have dQ:ltL (kx Y.k 2) [eng p o,bP Y.k]:=aD (cB Y.pos) (aD (cg (by decide)) cz)
 have zu:∀ x∈[i64 (t:Int),V.bp (kx Y.k 1) 0],x.lt (kx Y.k 2):=bj trivial (bj (dX (by decide)) (eE))
 have wt:=cd (n:=(t:Int)+1) (k:=t+1) (by omega) (by omega)
 refine dm (m:=2) (rs:=[.tmp 3]) [1500010,2850001,2880001] mixed Tryz.func144 rfl rfl rfl rfl (by kernel_rfl) (by simp) rfl dQ zu ?_
 simp only[pkA,seval,pkB Y _]
 refine mf ?_
 simp only[oP,seval,pkB Y _,wt]
 refine aN rfl (fi _ _) (fun _=>rfl) ?_
 simp only[lX,seval,pkB Y _]
 refine wO (i2 t) rfl hF rfl rfl rfl ?_
 intro t' b' hR
 simp only[pkA,seval,pkB Y _]
 exact ib hR rfl rfl dQ (by simp[])
def i3 (a b s0:Nat):In:=⟨3,[fZ s0 a],[fZ (b+1:Nat) b]⟩
def Yi:=jj @pkA (jj @ptA (jj @pkE @pkV))
theorem al5 {τ:Type} (Y:Ys τ) (p:Pol) (o:Option Fa) (a b s0:Nat) (hb:b≤9223372036854775806) (s:τ) (hF:Fut G Y s (emL o (i3 a b s0))) :
 FnR G Y 148 [i64 (s0:Int),.bp (kx Y.k 1) 0,.bp (kx Y.k 2) 0,.bp (kx Y.k 3) 0] s (emL o (i3 a b s0)) [eng p o,bP Y.k,bQ a,bQ b]:=by
 have dQ:ltL (kx Y.k 4) [eng p o,bP Y.k,bQ a,bQ b]:=aD (cB Y.pos) (aD (cg (by decide)) (aD cP (aD cP cz)))
 have zu:∀ x∈[i64 (s0:Int),V.bp (kx Y.k 1) 0,V.bp (kx Y.k 2) 0,V.bp (kx Y.k 3) 0],x.lt (kx Y.k 4):=bj trivial (bj (dX (by decide)) (bj (dX (by decide)) (bj (dX (by decide)) (eE))))
 have wb:=cd (n:=(b:Int)+1) (k:=b+1) (by omega) (by omega)
 refine dm (m:=4) (rs:=[.tmp 5]) [1500016,2850001,2880001] mixed Tryz.func148 rfl rfl rfl rfl (by kernel_rfl) (by simp) rfl dQ zu ?_
 simp only[pkA,seval,pkB Y _]
 refine mf ?_
 simp only[oP,seval,pkB Y _]
 refine aN rfl (fi _ _) (fun _=>rfl) ?_
 simp only[Yi,seval,pkB Y _,wb]
 refine aN rfl (fi _ _) (fun _=>rfl) ?_
 simp only[lX,seval,pkB Y _]
 refine ig (i3 a b s0) (by simp[i3]) hF rfl rfl rfl ?_
 intro t' b' hR
 simp only[pkA,seval,pkB Y _]
 exact ib hR rfl rfl dQ (by simp[])
def i4 (a b:Nat):In:=⟨4,[fZ 0 a],[fZ 0 b]⟩
theorem al6 {τ:Type} (Y:Ys τ) (p:Pol) (o:Option Fa) (a b:Nat) (s:τ) (hF:Fut G Y s (emL o (i4 a b))) :
 FnR G Y 149 [i64 (a:Int),i64 (b:Int),.bp (kx Y.k 1) 0] s (emL o (i4 a b)) [eng p o,bP Y.k]:=by
 have dQ:ltL (kx Y.k 2) [eng p o,bP Y.k]:=aD (cB Y.pos) (aD (cg (by decide)) cz)
 have zu:∀ x∈[i64 (a:Int),i64 (b:Int),V.bp (kx Y.k 1) 0],x.lt (kx Y.k 2):=bj trivial (bj trivial (bj (dX (by decide)) (eE)))
 refine dm (m:=2) (rs:=[.tmp 5]) [1500013,2850001,2880001] mixed Tryz.func149 rfl rfl rfl rfl (by kernel_rfl) (by simp) rfl dQ zu ?_
 simp only[pkA,seval,pkB Y _]
 refine mf ?_
 simp only[oP,seval,pkB Y _]
 refine aN rfl (fi _ _) (fun _=>rfl) ?_
 simp only[lX,seval,pkB Y _]
 refine aN rfl (fi _ _) (fun _=>rfl) ?_
 simp only[lX,seval,pkB Y _]
 refine ig (i4 a b) (by simp[i4]) hF rfl rfl rfl ?_
 intro t' b' hR
 simp only[pkA,seval,pkB Y _]
 exact ib hR rfl rfl dQ (by simp[])
def i5 (a b s0:Nat):In:=⟨5,[fZ s0 a,qw s0],[qw (b+1:Nat)]⟩
theorem al7 {τ:Type} (Y:Ys τ) (p:Pol) (o:Option Fa) (a b s0:Nat) (hb:b≤9223372036854775806) (s:τ) (hF:Fut G Y s (emL o (i5 a b s0))) :
 FnR G Y 151 [i64 (s0:Int),.bp (kx Y.k 1) 0,.bp (kx Y.k 2) 0,.bp (kx Y.k 3) 0] s (emL o (i5 a b s0)) [eng p o,bP Y.k,bQ a,bQ b]:=by
 have dQ:ltL (kx Y.k 4) [eng p o,bP Y.k,bQ a,bQ b]:=aD (cB Y.pos) (aD (cg (by decide)) (aD cP (aD cP cz)))
 have zu:∀ x∈[i64 (s0:Int),V.bp (kx Y.k 1) 0,V.bp (kx Y.k 2) 0,V.bp (kx Y.k 3) 0],x.lt (kx Y.k 4):=bj trivial (bj (dX (by decide)) (bj (dX (by decide)) (bj (dX (by decide)) (eE))))
 have wb:=cd (n:=(b:Int)+1) (k:=b+1) (by omega) (by omega)
 refine dm (m:=4) (rs:=[.tmp 5]) [1500017,2850001,2880001] mixed Tryz.func151 rfl rfl rfl rfl (by kernel_rfl) (by simp) rfl dQ zu ?_
 simp only[pkA,seval,pkB Y _]
 refine mf ?_
 simp only[oP,seval,pkB Y _]
 refine aN rfl (fi _ _) (fun _=>rfl) ?_
 simp only[pkA,seval,pkB Y _]
 refine aN rfl (qx _) (fun _=>rfl) ?_
 simp only[Yi,seval,pkB Y _,wb]
 refine aN rfl (qx _) (fun _=>rfl) ?_
 simp only[lX,seval,pkB Y _]
 refine ig (i5 a b s0) (by simp[i5]) hF rfl rfl rfl ?_
 intro t' b' hR
 simp only[pkA,seval,pkB Y _]
 exact ib hR rfl rfl dQ (by simp[])
def i6 (t s0:Nat):In:=⟨6,[fZ s0 t],[qw s0]⟩
theorem al8 {τ:Type} (Y:Ys τ) (p:Pol) (o:Option Fa) (t s0:Nat) (s:τ) (hF:Fut G Y s (emL o (i6 t s0))) :
 FnR G Y 153 [i64 (s0:Int),.bp (kx Y.k 1) 0,.bp (kx Y.k 2) 0] s (emL o (i6 t s0)) [eng p o,bP Y.k,bQ t]:=by
 have dQ:ltL (kx Y.k 3) [eng p o,bP Y.k,bQ t]:=aD (cB Y.pos) (aD (cg (by decide)) (aD cP cz))
 have zu:∀ x∈[i64 (s0:Int),V.bp (kx Y.k 1) 0,V.bp (kx Y.k 2) 0],x.lt (kx Y.k 3):=bj trivial (bj (dX (by decide)) (bj (dX (by decide)) (eE)))
 refine dm (m:=3) (rs:=[.tmp 4]) [1500013,2850001,2880001] mixed Tryz.func153 rfl rfl rfl rfl (by kernel_rfl) (by simp) rfl dQ zu ?_
 simp only[pkA,seval,pkB Y _]
 refine mf ?_
 simp only[oP,seval,pkB Y _]
 refine aN rfl (fi _ _) (fun _=>rfl) ?_
 simp only[lX,seval,pkB Y _]
 refine aN rfl (qx _) (fun _=>rfl) ?_
 simp only[lX,seval,pkB Y _]
 refine ig (i6 t s0) (by simp[i6]) hF rfl rfl rfl ?_
 intro t' b' hR
 simp only[pkA,seval,pkB Y _]
 exact ib hR rfl rfl dQ (by simp[])
def i7 (t v:Nat):In:=⟨7,[fZ v t],[ue v 0]⟩
theorem al9 {τ:Type} (Y:Ys τ) (p:Pol) (o:Option Fa) (t v:Nat) (s:τ) (hF:Fut G Y s (emL o (i7 t v))) :
 FnR G Y 155 [i64 (v:Int),.bp (kx Y.k 1) 0,.bp (kx Y.k 2) 0] s (emL o (i7 t v)) [eng p o,bP Y.k,bQ t]:=by
 have dQ:ltL (kx Y.k 3) [eng p o,bP Y.k,bQ t]:=aD (cB Y.pos) (aD (cg (by decide)) (aD cP cz))
 have zu:∀ x∈[i64 (v:Int),V.bp (kx Y.k 1) 0,V.bp (kx Y.k 2) 0],x.lt (kx Y.k 3):=bj trivial (bj (dX (by decide)) (bj (dX (by decide)) (eE)))
 refine dm (m:=3) (rs:=[.tmp 4]) [1500013,2850001,2880001] mixed Tryz.func155 rfl rfl rfl rfl (by kernel_rfl) (by simp) rfl dQ zu ?_
 simp only[pkA,seval,pkB Y _]
 refine mf ?_
 simp only[oP,seval,pkB Y _]
 refine aN rfl (fi _ _) (fun _=>rfl) ?_
 simp only[lX,seval,pkB Y _]
 refine aN rfl (sq _ _) (fun _=>rfl) ?_
 simp only[lX,seval,pkB Y _]
 refine ig (i7 t v) (by simp[i7]) hF rfl rfl rfl ?_
 intro t' b' hR
 simp only[pkA,seval,pkB Y _]
 exact ib hR rfl rfl dQ (by simp[])
def i8 (a b v w:Nat):In:=⟨8,[fZ v a,fZ w b],[ue v w]⟩
theorem ama {τ:Type} (Y:Ys τ) (p:Pol) (o:Option Fa) (a b v w:Nat) (s:τ) (hF:Fut G Y s (emL o (i8 a b v w))) :
 FnR G Y 159 [i64 (v:Int),i64 (w:Int),.bp (kx Y.k 1) 0,.bp (kx Y.k 2) 0,.bp (kx Y.k 3) 0] s (emL o (i8 a b v w)) [eng p o,bP Y.k,bQ a,bQ b]:=by
 have dQ:ltL (kx Y.k 4) [eng p o,bP Y.k,bQ a,bQ b]:=aD (cB Y.pos) (aD (cg (by decide)) (aD cP (aD cP cz)))
 have zu:∀ x∈[i64 (v:Int),i64 (w:Int),V.bp (kx Y.k 1) 0,V.bp (kx Y.k 2) 0,V.bp (kx Y.k 3) 0],x.lt (kx Y.k 4):=bj trivial (bj trivial (bj (dX (by decide)) (bj (dX (by decide)) (bj (dX (by decide)) (eE)))))
 refine dm (m:=4) (rs:=[.tmp 7]) [1500020,2850001,2880001] mixed Tryz.func159 rfl rfl rfl rfl (by kernel_rfl) (by simp) rfl dQ zu ?_
 simp only[pkA,seval,pkB Y _]
 refine mf ?_
 simp only[oP,seval,pkB Y _]
 refine aN rfl (fi _ _) (fun _=>rfl) ?_
 simp only[oP,seval,pkB Y _]
 refine aN rfl (fi _ _) (fun _=>rfl) ?_
 simp only[lX,seval,pkB Y _]
 refine aN rfl (sq _ _) (fun _=>rfl) ?_
 simp only[lX,seval,pkB Y _]
 refine ig (i8 a b v w) (by simp[i8]) hF rfl rfl rfl ?_
 intro t' b' hR
 simp only[pkA,seval,pkB Y _]
 exact ib hR rfl rfl dQ (by simp[])
def i9 (t v w:Nat):In:=⟨9,[fZ v t,ue v w],[qw w]⟩
theorem amb {τ:Type} (Y:Ys τ) (p:Pol) (o:Option Fa) (t v w:Nat) (s:τ) (hF:Fut G Y s (emL o (i9 t v w))) :
 FnR G Y 161 [i64 (v:Int),i64 (w:Int),.bp (kx Y.k 1) 0,.bp (kx Y.k 2) 0] s (emL o (i9 t v w)) [eng p o,bP Y.k,bQ t]:=by
 have dQ:ltL (kx Y.k 3) [eng p o,bP Y.k,bQ t]:=aD (cB Y.pos) (aD (cg (by decide)) (aD cP cz))
 have zu:∀ x∈[i64 (v:Int),i64 (w:Int),V.bp (kx Y.k 1) 0,V.bp (kx Y.k 2) 0],x.lt (kx Y.k 3):=bj trivial (bj trivial (bj (dX (by decide)) (bj (dX (by decide)) (eE))))
 refine dm (m:=3) (rs:=[.tmp 6]) [1500018,2850001,2880001] mixed Tryz.func161 rfl rfl rfl rfl (by kernel_rfl) (by simp) rfl dQ zu ?_
 simp only[pkA,seval,pkB Y _]
 refine mf ?_
 simp only[oP,seval,pkB Y _]
 refine aN rfl (fi _ _) (fun _=>rfl) ?_
 simp only[pkA,seval,pkB Y _]
 refine aN rfl (sq _ _) (fun _=>rfl) ?_
 simp only[lX,seval,pkB Y _]
 refine aN rfl (qx _) (fun _=>rfl) ?_
 simp only[lX,seval,pkB Y _]
 refine ig (i9 t v w) (by simp[i9]) hF rfl rfl rfl ?_
 intro t' b' hR
 simp only[pkA,seval,pkB Y _]
 exact ib hR rfl rfl dQ (by simp[])
def i11 (a b:Nat):In:=⟨11,[fZ 0 a],[fZ 0 b]⟩
theorem ai3 {τ:Type} (Y:Ys τ) (p:Pol) (o:Option Fa) (a b:Nat) (s:τ) (hF:Fut G Y s (emL o (i11 a b))) :
 FnR G Y 164 [i64 (a:Int),i64 (b:Int),.bp (kx Y.k 1) 0] s (emL o (i11 a b)) [eng p o,bP Y.k]:=by
 have dQ:ltL (kx Y.k 2) [eng p o,bP Y.k]:=aD (cB Y.pos) (aD (cg (by decide)) cz)
 have zu:∀ x∈[i64 (a:Int),i64 (b:Int),V.bp (kx Y.k 1) 0],x.lt (kx Y.k 2):=bj trivial (bj trivial (bj (dX (by decide)) (eE)))
 refine dm (m:=2) (rs:=[.tmp 5]) [1500013,2850001,2880001] mixed Tryz.func164 rfl rfl rfl rfl (by kernel_rfl) (by simp) rfl dQ zu ?_
 simp only[pkA,seval,pkB Y _]
 refine mf ?_
 simp only[oP,seval,pkB Y _]
 refine aN rfl (fi _ _) (fun _=>rfl) ?_
 simp only[lX,seval,pkB Y _]
 refine aN rfl (fi _ _) (fun _=>rfl) ?_
 simp only[lX,seval,pkB Y _]
 refine ig (i11 a b) (by simp[i11]) hF rfl rfl rfl ?_
 intro t' b' hR
 simp only[pkA,seval,pkB Y _]
 exact ib hR rfl rfl dQ (by simp[])
def i12 (a b s0:Nat):In:=⟨12,[fZ 0 a,fZ s0 b],[qw s0]⟩
theorem ai4 {τ:Type} (Y:Ys τ) (p:Pol) (o:Option Fa) (a b s0:Nat) (s:τ) (hF:Fut G Y s (emL o (i12 a b s0))) :
 FnR G Y 166 [i64 (s0:Int),.bp (kx Y.k 1) 0,.bp (kx Y.k 2) 0,.bp (kx Y.k 3) 0] s (emL o (i12 a b s0)) [eng p o,bP Y.k,bQ a,bQ b]:=by
 have dQ:ltL (kx Y.k 4) [eng p o,bP Y.k,bQ a,bQ b]:=aD (cB Y.pos) (aD (cg (by decide)) (aD cP (aD cP cz)))
 have zu:∀ x∈[i64 (s0:Int),V.bp (kx Y.k 1) 0,V.bp (kx Y.k 2) 0,V.bp (kx Y.k 3) 0],x.lt (kx Y.k 4):=bj trivial (bj (dX (by decide)) (bj (dX (by decide)) (bj (dX (by decide)) (eE))))
 refine dm (m:=4) (rs:=[.tmp 5]) [1500016,2850001,2880001] mixed Tryz.func166 rfl rfl rfl rfl (by kernel_rfl) (by simp) rfl dQ zu ?_
 simp only[pkA,seval,pkB Y _]
 refine mf ?_
 simp only[oP,seval,pkB Y _]
 refine aN rfl (fi _ _) (fun _=>rfl) ?_
 simp only[oP,seval,pkB Y _]
 refine aN rfl (fi _ _) (fun _=>rfl) ?_
 simp only[lX,seval,pkB Y _]
 refine aN rfl (qx _) (fun _=>rfl) ?_
 simp only[lX,seval,pkB Y _]
 refine ig (i12 a b s0) (by simp[i12]) hF rfl rfl rfl ?_
 intro t' b' hR
 simp only[pkA,seval,pkB Y _]
 exact ib hR rfl rfl dQ (by simp[])
def i13 (t s0:Nat):In:=⟨13,[qw s0,fZ s0 t],[fZ 0 t]⟩
theorem ai5 {τ:Type} (Y:Ys τ) (p:Pol) (o:Option Fa) (t s0:Nat) (s:τ) (hF:Fut G Y s (emL o (i13 t s0))) :
 FnR G Y 168 [i64 (s0:Int),.bp (kx Y.k 1) 0,.bp (kx Y.k 2) 0] s (emL o (i13 t s0)) [eng p o,bP Y.k,bQ t]:=by
 have dQ:ltL (kx Y.k 3) [eng p o,bP Y.k,bQ t]:=aD (cB Y.pos) (aD (cg (by decide)) (aD cP cz))
 have zu:∀ x∈[i64 (s0:Int),V.bp (kx Y.k 1) 0,V.bp (kx Y.k 2) 0],x.lt (kx Y.k 3):=bj trivial (bj (dX (by decide)) (bj (dX (by decide)) (eE)))
 refine dm (m:=3) (rs:=[.tmp 4]) [1500015,2850001,2880001] mixed Tryz.func168 rfl rfl rfl rfl (by kernel_rfl) (by simp) rfl dQ zu ?_
 simp only[pkA,seval,pkB Y _]
 refine mf ?_
 simp only[oP,seval,pkB Y _]
 refine aN rfl (qx _) (fun _=>rfl) ?_
 simp only[oP,seval,pkB Y _]
 refine aN rfl (fi _ _) (fun _=>rfl) ?_
 simp only[Yi,seval,pkB Y _]
 refine aN rfl (fi _ _) (fun _=>rfl) ?_
 simp only[lX,seval,pkB Y _]
 refine ig (i13 t s0) (by simp[i13]) hF rfl rfl rfl ?_
 intro t' b' hR
 simp only[pkA,seval,pkB Y _]
 exact ib hR rfl rfl dQ (by simp[])
def i15 (s0:Nat):In:=⟨15,[ue 0 s0],[qw s0]⟩
theorem ai6 {τ:Type} (Y:Ys τ) (p:Pol) (o:Option Fa) (s0:Nat) (s:τ) (hF:Fut G Y s (emL o (i15 s0))) :
 FnR G Y 169 [i64 (s0:Int),.bp (kx Y.k 1) 0] s (emL o (i15 s0)) [eng p o,bP Y.k]:=by
 have dQ:ltL (kx Y.k 2) [eng p o,bP Y.k]:=aD (cB Y.pos) (aD (cg (by decide)) cz)
 have zu:∀ x∈[i64 (s0:Int),V.bp (kx Y.k 1) 0],x.lt (kx Y.k 2):=bj trivial (bj (dX (by decide)) (eE))
 refine dm (m:=2) (rs:=[.tmp 3]) [1500011,2850001,2880001] mixed Tryz.func169 rfl rfl rfl rfl (by kernel_rfl) (by simp) rfl dQ zu ?_
 simp only[pkA,seval,pkB Y _]
 refine mf ?_
 simp only[oP,seval,pkB Y _]
 refine aN rfl (sq _ _) (fun _=>rfl) ?_
 simp only[lX,seval,pkB Y _]
 refine aN rfl (qx _) (fun _=>rfl) ?_
 simp only[lX,seval,pkB Y _]
 refine ig (i15 s0) (by simp[i15]) hF rfl rfl rfl ?_
 intro t' b' hR
 simp only[pkA,seval,pkB Y _]
 exact ib hR rfl rfl dQ (by simp[])
