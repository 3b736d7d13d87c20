/- Values without memory: words of 32 bits and bytes as bit vectors: the operations without side conditions. -/
import Derived.Test.YtegbpjodbjhjeaaGreatDoorVlPack
import Derived.Laws.BitsAllLaws
set_option linter.all false
namespace Go.Vl
open Go Go.RowKit
abbrev W:=BitVec 32
abbrev wc (w:W):C:=.lit (.int .u32 (w.toNat:Int))
abbrev bc (b:UInt8):C:=.lit (.int .u8 (b.toNat:Int))
def w8 (b:UInt8):W:=BitVec.ofNat 32 b.toNat
section
variable {P:Program} {K:V->Prop} {a b:W} {T U:TypeId}
variable {x y:UInt8}
end
abbrev B:=List UInt8
def bs8 (l:B):ByteArray:=⟨l.toArray⟩
def bC (l:B):List (List C):=l.map λb=>[bc b]
abbrev sv (l:B):V:=.c (.lit (.string (bs8 l)))
abbrev bv (l:B):V:=.c (.sl (bC l))
theorem TC (l:B):oN (bs8 l)=bC l:=by simp[oN,bs8,bC]
theorem Yp {a b:B}:bs8 a=bs8 b↔a=b:=by
 unfold bs8;constructor
 .intro h;have:=kK (λx:ByteArray=>x.data.toList) h;simpa using this
 .rintro rfl;rfl
theorem Yq (a b:B):decide (bs8 a=bs8 b)=decide (a=b):=fb.2 Yp
def cl {α:Type} (f:α->C) (l:List α):List V:=l.map λx=>.c (f x)
section
variable {P:Program} {G:Gl} {tr:List Nat} {fr:Nat->V} {bx:Nat->List V} {nb:Nat} {K:S->Prop} {KV:V->Prop} {α:Type} {f:α->C} {L:List α}
theorem MU {T U e:TypeId} {i j k:TI} {l:B} (hT:ti P T=some i) (hi:i.kd=.str) (hU:ti P U=some j) (hj:j.kd=.slice e) (hE:ti P e=some k) (hk:k.kd=.int .u8):oK P T U (sv l) KV=KV (bv l):=by obtain⟨a1,a2,a3,a4,a5,a6,a7⟩:=i;obtain⟨b1,b2,b3,b4,b5,b6,b7⟩:=j;obtain⟨c1,c2,c3,c4,c5,c6,c7⟩:=k;simp only at hi hj hk;subst hi;subst hj;subst hk;simp only[oK,hT,hU,hE,TC]
end
open Go
def val (l:B):Nat:=l.foldl (λm c=>256*m+c.toNat) 0
def I64 (n:Int):Prop:=-9223372036854775808<=n/\n<=9223372036854775807
def rr (x:W) (n:Nat):W:=(x <<<(32 - n)) |||(x >>>n)
def mix (x:W) (i j k:Nat):W:=rr x i ^^^ rr x j ^^^ rr x k
def afM (l:B):W:=l.foldl (λa x=>(a <<<8) |||w8 x) 0
def sg0 (p:W):W:=rr p 7 ^^^ rr p 18 ^^^ (p >>>3)
def sg1 (q:W):W:=rr q 17 ^^^ rr q 19 ^^^ (q >>>10)
def afN (b:B):Nat->List W
 |0=>[]
 |t+1=>let l:=afN b t
  (if t<16 then afM ((b.drop (4*t)).take 4) else l.getD 15 0+sg0 (l.getD 14 0)+l.getD 6 0+sg1 (l.getD 1 0))::l
structure R8 where
 v0:W
 v1:W
 v2:W
 v3:W
 e0:W
 e1:W
 e2:W
 e3:W
def vd (r:R8) (k w:W):R8:=
 let x:=r.e3+mix r.e0 6 11 25+((r.e0 &&&r.e1) ^^^ (~~~r.e0 &&&r.e2))+k+w
 let y:=mix r.v0 2 13 22+((r.v0 &&&r.v1) ^^^ (r.v0 &&&r.v2) ^^^ (r.v1 &&&r.v2))
 ⟨x+y,r.v0,r.v1,r.v2,r.v3+x,r.e0,r.e1,r.e2⟩
def k256:List Nat:=[0x428a2f98,0x71374491,0xb5c0fbcf,0xe9b5dba5,0x3956c25b,0x59f111f1,0x923f82a4,0xab1c5ed5,
 0xd807aa98,0x12835b01,0x243185be,0x550c7dc3,0x72be5d74,0x80deb1fe,0x9bdc06a7,0xc19bf174,
 0xe49b69c1,0xefbe4786,0x0fc19dc6,0x240ca1cc,0x2de92c6f,0x4a7484aa,0x5cb0a9dc,0x76f988da,
 0x983e5152,0xa831c66d,0xb00327c8,0xbf597fc7,0xc6e00bf3,0xd5a79147,0x06ca6351,0x14292967,
 0x27b70a85,0x2e1b2138,0x4d2c6dfc,0x53380d13,0x650a7354,0x766a0abb,0x81c2c92e,0x92722c85,
 0xa2bfe8a1,0xa81a664b,0xc24b8b70,0xc76c51a3,0xd192e819,0xd6990624,0xf40e3585,0x106aa070,
 0x19a4c116,0x1e376c08,0x2748774c,0x34b0bcb5,0x391c0cb3,0x4ed8aa4a,0x5b9cca4f,0x682e6ff3,
 0x748f82ee,0x78a5636f,0x84c87814,0x8cc70208,0x90befffa,0xa4506ceb,0xbef9a3f7,0xc67178f2]
def kW:List W:=k256.map (BitVec.ofNat 32)
def rounds:List W->List W->R8->R8
 |k::ks,w::ws,r=>rounds ks ws (vd r k w)
 |_,_,r=>r
def ofL:List W->R8
 |[a,b,c,d,e,f,g,h]=>⟨a,b,c,d,e,f,g,h⟩
 |_=>⟨0,0,0,0,0,0,0,0⟩
def R8.toL (r:R8):List W:=[r.v0,r.v1,r.v2,r.v3,r.e0,r.e1,r.e2,r.e3]
def aim (a b:List W):List W:=List.zipWith (·+·) a b
def TD (s:List W) (b:B):List W:=aim s (rounds kW (afN b 64).reverse (ofL s)).toL
def ivL:List Nat:=[0x6a09e667,0xbb67ae85,0x3c6ef372,0xa54ff53a,0x510e527f,0x9b05688c,0x1f83d9ab,0x5be0cd19]
def iv:List W:=ivL.map (BitVec.ofNat 32)
def hst (fuel:Nat) (s:List W) (m:B):List W:=match fuel with
 |0=>s
 |f+1=>if m.length<64 then s else hst f (TD s (m.take 64)) (m.drop 64)
def toB (l:B):List Nat:=l.map UInt8.toNat
structure Str where
 state:List W
 block:B
 n:Nat
def Str.ok (s:Str):Prop:=s.state.length=8/\s.block.length=64/\s.n<18446744073709551616
def stC (s:Str):List C:=s.state.map wc++(s.block.map bc++[.lit (.int .u64 (s.n:Int))])
section
variable {s:Str} {b nb:Nat} {K:V->Prop}
end
def fill {α:Type} (z:α) (n:Nat) (o:List α) (i:Nat):List α:=o.take i++List.replicate (n - i) z
theorem iE {P:Program} {G:Gl} {s:S} {f:V} {args all cargs:List V} {g:FuncId} {K:S->V->Prop} {r:V} {c0 c1:List C} (q:Nat) (hc:eB f args=some (g,all)) (hf:FnB P G g cargs [c0.map .c] r [c1.map .c])
 (dC:all.map V.fz=cargs.map (V.ren (rho [q] s.nb))) (hq:q<s.nb) (hb:s.bx q=c0.map .c) (hr:r.ren (rho [q] s.nb)=r) (hK:K ⟨s.fr,up s.bx q (c1.map .c),s.nb⟩ r):vcallB P G s f args K:=by
 have hm:∀ (ρ:Nat->Nat) (l:List C),(l.map V.c).map (V.ren ρ)=l.map .c:=λρ l=>by rw[jE];rfl
 have h0:rho [q] s.nb 0=q:=rfl;unfold vcallB jX;simp only[hc];refine⟨[q],cargs,[c0.map .c],r,[c1.map .c],hf,dC,⟨rfl,by simp⟩,⟨⟨by rw[h0];exact hq,by rw[h0,hm];exact hb⟩,trivial⟩,?_⟩;rw[hr];have e:fC (rho [q] s.nb) 0 [c1.map .c] s.bx=up s.bx q (c1.map .c):=by simp only[fC,hm,h0]
 rw[e];exact hK
section
variable {P:Program} {K:V->Prop}
