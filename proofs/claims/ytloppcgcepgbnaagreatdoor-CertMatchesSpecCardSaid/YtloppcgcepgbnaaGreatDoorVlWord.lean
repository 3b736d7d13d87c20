/- Values without memory: words of 32 bits and bytes as bit vectors: the operations without side conditions. -/
import Derived.Test.YtloppcgcepgbnaaGreatDoorVlPack
import Derived.Laws.BitsAllLaws
set_option linter.all false
namespace Go.Vl
open Go Go.RowKit
abbrev W:=BitVec 32
abbrev wc (w:W):C:=.lit (.int .u32 (w.toNat:Int))
abbrev bc (b:UInt8):C:=.lit (.int .u8 (b.toNat:Int))
def w8 (b:UInt8):W:=BitVec.ofNat 32 b.toNat
section
variable {P:Program} {K:V->Prop} {a b:W} {T U:TypeId}
variable {x y:UInt8}
theorem J2:nD .xor .u8 (x.toNat:Int) (y.toNat:Int) K=K (.c (bc (x ^^^ y))):=by show K (.c (.lit (.int .u8 (bits .xor .u8 _ _))))=_;rw[u8_xor_nat _ _ x.toNat_lt y.toNat_lt,<- UInt8.toNat_xor]
end
abbrev B:=List UInt8
def bs8 (l:B):ByteArray:=⟨l.toArray⟩
def bC (l:B):List (List C):=l.map λb=>[bc b]
abbrev sv (l:B):V:=.c (.lit (.string (bs8 l)))
abbrev bv (l:B):V:=.c (.sl (bC l))
theorem W1 (l:B):pa (bs8 l)=bC l:=by simp[pa,bs8,bC]
theorem pV (l:B):(bC l).length=l.length:=by simp[bC]
theorem NL {l:B}:∀ x∈bC l,x.length=1:=by simp[bC]
theorem SD (a b:B):bC a++bC b=bC (a++b):=by simp[bC]
def cl {α:Type} (f:α->C) (l:List α):List V:=l.map λx=>.c (f x)
section
variable {P:Program} {G:Gl} {tr:List Nat} {fr:Nat->V} {bx:Nat->List V} {nb:Nat} {K:S->Prop} {KV:V->Prop} {α:Type} {f:α->C} {L:List α}
theorem PE {T e:TypeId} {i j:TI} {kd:IntKind} {n:Int} {m o k q:Nat} (hT:ti P T=some i) (hk:i.kd=.arr m e) (hj:ti P e=some j) (hs:j.size=1) (hn:n=(k:Nat)) (hm:k<m)
 (hK:KV (.bp q (o+k))):dF P T (.bp q o) (.c (.lit (.int kd n))) KV:=by
 subst hn;refine afu hT hk hj (ay k) (by omega) ?_;simpa[hs] using hK
theorem xT {T e:TypeId} {i j:TI} {kd:IntKind} {n:Int} {k:Nat} {l:B} {x:UInt8} (hT:ti P T=some i) (hk:i.kd=.slice e) (hj:ti P e=some j) (hs:j.size=1) (hn:n=(k:Nat)) (h:l[k]?=some x)
 (hK:KV (.c (.rp [bc x] 0))):dF P T (bv l) (.c (.lit (.int kd n))) KV:=by
 subst hn;refine dQ (c:=[bc x]) hT hk hj (by omega) (ay k) ?_ (by simp[hs]) hK;unfold bC;rw[cC,bj,h];rfl
theorem PG {T e:TypeId} {i j:TI} {lo hi:Option V} {a b:Nat} {l:B} (hT:ti P T=some i) (hk:i.kd=.slice e) (hE:ti P e=some j) (hs:j.size=1) (hlo:iU 0 lo=some (a:Int)) (UI:iU (l.length:Int) hi=some (b:Int)) (h1:a<=b) (h2:b<=l.length)
 (hK:KV (bv ((l.take b).drop a))):jl P T (bv l) lo hi none KV:=by
 obtain⟨kd,x1,x2,x3,x4,x5,x6⟩:=i;subst hk;have e:iU ((bC l).length:Int) hi=some (b:Int):=by rw[pV];exact UI
 simp only[jl,hT,hE,hlo,e];refine⟨⟨ay a,by omega,by rw[pV];omega,λx hx=>by rw[hs];exact NL x hx⟩,?_⟩;have e2:((bC l).take b).drop a=bC ((l.take b).drop a):=by simp[bC,List.map_take,List.map_drop]
 rw[cC,cC,e2];exact hK
theorem PH {T U e:TypeId} {i j k:TI} {l:B} (hT:ti P T=some i) (hi:i.kd=.str) (hU:ti P U=some j) (hj:j.kd=.slice e) (hE:ti P e=some k) (hk:k.kd=.int .u8):jR P T U (sv l) KV=KV (bv l):=by obtain⟨a1,a2,a3,a4,a5,a6,a7⟩:=i;obtain⟨b1,b2,b3,b4,b5,b6,b7⟩:=j;obtain⟨c1,c2,c3,c4,c5,c6,c7⟩:=k;simp only at hi hj hk;subst hi;subst hj;subst hk;simp only[jR,hT,hU,hE,W1]
end
open Go
def oU:Nat->Nat->B
 |0,_=>[]
 |f+1,m=>if m=0 then[] else oU f (m / 256)++[UInt8.ofNat m]
def mf (m:Nat):B:=oU 8 m
def val (l:B):Nat:=l.foldl (λm c=>256*m+c.toNat) 0
theorem ov (l:B) (c:UInt8):val (l++[c])=256*val l+c.toNat:=by simp[val]
theorem HE:val []=0:=rfl
theorem CG:∀ (f m:Nat),m<256 ^ f->val (oU f m)=m
 |0,m,h=>by simp at h;subst h;rfl
 |f+1,m,h=>by
  unfold oU;split
  .rename_i h0;subst h0;rfl
  .rw[ov,CG f (m / 256) (by rw[lY] at h;omega),fp]
   omega
theorem J3:∀ (f m:Nat),(oU f m).length<=f
 |0,m=>by simp[oU]
 |f+1,m=>by
  unfold oU;split
  .simp
  .have:=J3 f (m / 256);simp;omega
theorem Fg:∀ (f m:Nat),m<256 ^ f->(oU f m).head?≠some 0
 |0,m,_=>by simp[oU]
 |f+1,m,h=>by
  unfold oU;split
  .simp
  .rename_i hm
   have ih:=Fg f (m / 256) (by rw[lY] at h;omega);have hv:=CG f (m / 256) (by rw[lY] at h;omega);cases hd:oU f (m / 256) with
   |nil=>rw[hd] at hv;have bE:m<256:=(by simp[val] at hv;omega);simp only[eu,List.head?_cons,ne_eq,ao];intro e;have:=dJ UInt8.toNat e;rw[fp] at this;simp at this;omega
   |cons c r=>rw[hd] at ih;simpa using ih
theorem Bc {p:B->Prop} (nil:p []) (snoc:∀ l c,p l->p (l++[c])) (l:B):p l:=by
 have:∀ l:B,p l.reverse:=by
  intro l;induction l with
  |nil=>exact nil
  |cons c l ih=>rw[List.reverse_cons];exact snoc _ _ ih
 have h:=this l.reverse;rwa [List.reverse_reverse] at h
theorem SG (l:B):l=[]∨∃ a c,l=a++[c]:=Bc (p:=λl=>l=[]∨∃ a c,l=a++[c]) (.inl rfl) (λl c _=>.inr ⟨l,c,rfl⟩) l
theorem NM:∀ (l:B),val l<256 ^ l.length:=by
 intro l;induction l using Bc with
 |nil=>simp[val]
 |snoc l c ih=>rw[ov,ae,bz,lY];have:=c.toNat_lt;omega
theorem HF {c:UInt8} {r:B} (h:c≠0):256 ^ r.length<=val (c::r):=by
 have:∀ r:B,val (c::r)=c.toNat*256 ^ r.length+val r:=by
  intro r;refine Bc (p:=λr=>val (c::r)=c.toNat*256 ^ r.length+val r) ?_ ?_ r
  .simp[val]
  .intro l d ih
   rw[<- dE,ov,ov,ih,ae,bz,lY,Nat.mul_add];have:c.toNat*(256 ^ l.length*256)=256*(c.toNat*256 ^ l.length):=(by rw[<- Nat.mul_assoc,kM]);omega
 rw[this];have hc:1<=c.toNat:=by
  rcases kN c.toNat with h0 | h0
  .exact absurd (iY.1 (by simpa using h0)) h
  .exact h0
 have:=aO (256 ^ r.length) hc;omega
theorem J4:∀ (f:Nat) (l:B),l.length<=f->l.head?≠some 0->oU f (val l)=l:=by
 intro f;induction f with
 |zero=>intro l h _;have:l=[]:=dx (by omega);subst this;rfl
 |succ f ih=>
  intro l h h0;rcases SG l with rfl | ⟨l',c,rfl⟩
  .rfl
  .have gY:val (l'++[c])≠0:=by
    cases l' with
    |nil=>simp only[eu,List.head?_cons,ne_eq,ao] at h0;have:=HF (r:=[]) h0;simp at this ⊢;omega
    |cons d r=>simp only[dE,List.head?_cons,ne_eq,ao] at h0;have:=HF (r:=r++[c]) h0;have:=Nat.pow_pos (n:=(r++[c]).length) (show 0<256 by decide);rw[dE];omega
   unfold oU;rw[if_neg gY];have hv:=ov l' c;have hc:=c.toNat_lt;have e1:val (l'++[c]) / 256=val l':=(by rw[hv];omega);rw[e1,ih l' (by simp at h;omega) (by cases l' with | nil=>simp | cons d r=>simpa using h0),hv]
   congr 2;apply iY.1;rw[fp];omega
theorem CH {m:Nat} (h:m<18446744073709551616):val (mf m)=m:=CG 8 m (by simpa using h)
theorem uf (m:Nat):(mf m).length<=8:=J3 8 m
theorem y8 {m:Nat} (h:m<18446744073709551616):(mf m).head?≠some 0:=Fg 8 m (by simpa using h)
theorem PI {l:B} (h:l.length<=8) (h0:l.head?≠some 0):mf (val l)=l:=J4 8 l h h0
theorem abH {m:Nat} (h:m<18446744073709551616):m<256 ^ (mf m).length:=by have:=NM (mf m);rwa [CH h] at this
theorem abI {m:Nat} (h:m<18446744073709551616) (h0:m≠0):0<(mf m).length/\256 ^ ((mf m).length - 1)<=m:=by
 have hv:=CH h;have hh:=y8 h;cases hd:mf m with
 |nil=>rw[hd] at hv;exact absurd hv.symm h0
 |cons c r=>rw[hd] at hv hh;refine⟨by simp,?_⟩;have:=HF (r:=r) (c:=c) (by simpa using hh);rw[hv] at this;simpa using this
theorem Fh:mf 0=[]:=rfl
theorem J5:∀ (f m i:Nat),i<(oU f m).length->(oU f m)[(oU f m).length - 1 - i]?=some (UInt8.ofNat (m / 256 ^ i))
 |0,m,i,h=>by simp[oU] at h
 |f+1,m,i,h=>by
  unfold oU at h ⊢
  split at h
  .simp at h
  .rename_i hm
   rw[if_neg hm];rw[ae,bz] at h ⊢
   cases i with
   |zero=>rw[aH (by omega)];simp
   |succ i=>rw[aA (by omega)];have:=J5 f (m / 256) i (by omega);rw[show(oU f (m / 256)).length+1 - 1 - (i+1)=(oU f (m / 256)).length - 1 - i by omega,this,lY,kM,Nat.div_div_eq_div_mul]
theorem W2 {m i:Nat} (h:i<(mf m).length):(mf m)[(mf m).length - 1 - i]?=some (UInt8.ofNat (m / 256 ^ i)):=J5 8 m i h
def iH (n:Int):UInt8:=if n<0 then 255 else 0
def fK (n:Int):Nat:=if n<0 then(-1 - n).toNat else n.toNat
def encI (n:Int):B:=(UInt8.ofNat (128+(mf (fK n)).length) ^^^ iH n)::(mf (fK n)).map (· ^^^ iH n)
def kB:B->Int×Nat×Int
 |[]=>(0,0,5)
 |c::r=>
  let f:UInt8:=if c.toNat<128 then 255 else 0
  let k:=(c ^^^ f).toNat - 128
  if 8<k then(0,0,6) else if r.length<k then(0,0,5) else
  let d:=(r.take k).map (· ^^^ f)
  if d.head?=some 0 then(0,0,6) else if 9223372036854775808<=val d then(0,0,6) else
  (if c.toNat<128 then -1 - (val d:Int) else val d,k+1,0)
def I64 (n:Int):Prop:=-9223372036854775808<=n/\n<=9223372036854775807
theorem CJ {n:Int} (h:I64 n):fK n<9223372036854775808:=by unfold I64 at h;unfold fK;split<;>omega
theorem xU (x f:UInt8):x ^^^ f ^^^ f=x:=by rw[UInt8.xor_assoc,UInt8.xor_self,jB]
theorem ug (l:B) (f:UInt8):(l.map (· ^^^ f)).map (· ^^^ f)=l:=by
 rw[eW];conv=>rhs;rw[<- List.map_id l]
 apply bT;intro x _;exact xU x f
theorem xW (c:UInt8):(c ^^^ 255).toNat=255 - c.toNat:=by rw[show(255:UInt8)=-1 from rfl,UInt8.xor_neg_one,UInt8.toNat_not];rfl
theorem J6 (n:Int):1<=(encI n).length/\(encI n).length<=9:=by have:=uf (fK n);unfold encI;rw[aC,au];omega
theorem CL:∀ k,k<=8->((UInt8.ofNat (128+k) ^^^ 255).toNat=127 - k/\(UInt8.ofNat (128+k)).toNat=128+k):=by decide
theorem getI_enc {n:Int} (h:I64 n) (r:B):kB (encI n++r)=(n,(encI n).length,0):=by
 have hm:=CJ h;have hl:=uf (fK n);obtain⟨h1,h2⟩:=CL _ hl;have hv:=CH (m:=fK n) (by omega);have hh:=y8 (m:=fK n) (by omega);by_cases hn:n<0
 .have hf:iH n=255:=by simp[iH,hn]
  have bE:(UInt8.ofNat (128+(mf (fK n)).length) ^^^ 255).toNat<128:=by omega
  unfold encI kB;simp only[hf,dE,bE,cZ,xU,h2,Nat.add_sub_cancel_left,ae,au,aC];rw[if_neg (by omega),if_neg (by omega),kY (by simp),ug,if_neg hh,hv,if_neg (by omega)];have:-1 - (fK n:Int)=n:=by unfold fK;rw[if_pos hn];omega
  rw[this]
 .have hf:iH n=0:=by simp[iH,hn]
  have bE:¬ (128+(mf (fK n)).length<128):=by omega
  unfold encI kB;simp only[hf,dE,jB,bE,df,h2,Nat.add_sub_cancel_left,ae,au,aC,List.map_id_fun',id_eq];rw[if_neg (by omega),if_neg (by omega),kY rfl,if_neg hh,hv,if_neg (by omega)];have:(fK n:Int)=n:=by unfold fK;rw[if_neg hn];omega
  rw[this]
theorem enc_getI {b:B} {n:Int} {u:Nat} (h:kB b=(n,u,0)):I64 n/\u=(encI n).length/\b.take u=encI n/\u<=b.length:=by
 cases b with
 |nil=>simp[kB] at h
 |cons c r=>
  unfold kB at h;simp only at h;generalize hf:(if c.toNat<128 then(255:UInt8) else 0)=f at h
  generalize hk:(c ^^^ f).toNat - 128=k at h;split at h
  .simp at h
  .split at h
   .simp at h
   .split at h
    .simp at h
    .split at h
     .simp at h
     .rename_i h1 h2 h3 h4
      simp only[dH,gC] at h;obtain⟨hn,rfl⟩:=h;generalize hd:(r.take k).map (· ^^^ f)=d at *;have cj:d.length=k:=(by rw[<- hd];simp;omega);have hdd:=PI (l:=d) (by omega) h3;have hc:=c.toNat_lt;have QD:d.map (· ^^^ f)=r.take k:=(by rw[<- hd,ug]);have Z1:(n<0)=(c.toNat<128):=(by rw[<- hn];split<;>simp_all<;>omega);have UE:fK n=val d:=by
       unfold fK;by_cases j4:c.toNat<128
       .rw[if_pos j4] at hn;rw[if_pos (by omega)];omega
       .rw[if_neg j4] at hn;rw[if_neg (by omega)];omega
      have QE:iH n=f:=(by unfold iH;rw[<- hf];simp only[Z1]);have Z2:UInt8.ofNat (128+k) ^^^ f=c:=by
       have hx:128<=(c ^^^ f).toNat:=by
        rw[<- hf];split
        .rename_i bE
         rw[xW];omega
        .rw[jB];omega
       have:UInt8.ofNat (128+k)=c ^^^ f:=(by apply iY.1;rw[fp];have:=(c ^^^ f).toNat_lt;omega);rw[this,xU]
      have alL:encI n=c::r.take k:=(by unfold encI;rw[UE,hdd,QE,cj,Z2,QD]);have hvd:(val d:Int)<9223372036854775808:=(by omega);refine⟨by unfold I64;rw[<- hn];split<;>omega,by rw[alL];simp;omega,by rw[alL];simp,by simp;omega⟩
theorem xX {n:Int} {u:Nat} {e q:Int} {m:Nat} (h:((0:Int),(0:Nat),q)=(n,u,e)) (hq:q≠0):u<=m/\(e≠0->n=0/\u=0)/\I64 n/\(e=0->0<u):=by simp only[dH] at h;obtain⟨rfl,rfl,rfl⟩:=h;exact⟨ar _,λ_=>⟨rfl,rfl⟩,by unfold I64;omega,λh=>absurd h hq⟩
theorem y9 {b:B} {n:Int} {u:Nat} {e:Int} (h:kB b=(n,u,e)):u<=b.length/\(e≠0->n=0/\u=0)/\I64 n/\(e=0->0<u):=by
 by_cases he:e=0
 .subst he
  obtain⟨h1,h2,h3,h4⟩:=enc_getI h;exact⟨h4,λh5=>(h5 rfl).elim,h1,λ_=>by rw[h2];have:=J6 n;omega⟩
 .cases b with
  |nil=>exact xX h (by decide)
  |cons c r=>
   unfold kB at h;simp only at h;generalize hf:(if c.toNat<128 then(255:UInt8) else 0)=f at h
   generalize hk:(c ^^^ f).toNat - 128=k at h;split at h
   .exact xX h (by decide)
   .split at h
    .exact xX h (by decide)
    .split at h
     .exact xX h (by decide)
     .split at h
      .exact xX h (by decide)
      .simp only[dH] at h;exact absurd h.2.2.symm he
def rr (x:W) (n:Nat):W:=(x <<<(32 - n)) |||(x >>>n)
def mix (x:W) (i j k:Nat):W:=rr x i ^^^ rr x j ^^^ rr x k
def ajC (l:B):W:=l.foldl (λa x=>(a <<<8) |||w8 x) 0
def sg0 (p:W):W:=rr p 7 ^^^ rr p 18 ^^^ (p >>>3)
def sg1 (q:W):W:=rr q 17 ^^^ rr q 19 ^^^ (q >>>10)
def ajD (b:B):Nat->List W
 |0=>[]
 |t+1=>let l:=ajD b t
  (if t<16 then ajC ((b.drop (4*t)).take 4) else l.getD 15 0+sg0 (l.getD 14 0)+l.getD 6 0+sg1 (l.getD 1 0))::l
structure R8 where
 v0:W
 v1:W
 v2:W
 v3:W
 e0:W
 e1:W
 e2:W
 e3:W
def aee (r:R8) (k w:W):R8:=
 let x:=r.e3+mix r.e0 6 11 25+((r.e0 &&&r.e1) ^^^ (~~~r.e0 &&&r.e2))+k+w
 let y:=mix r.v0 2 13 22+((r.v0 &&&r.v1) ^^^ (r.v0 &&&r.v2) ^^^ (r.v1 &&&r.v2))
 ⟨x+y,r.v0,r.v1,r.v2,r.v3+x,r.e0,r.e1,r.e2⟩
def k256:List Nat:=[0x428a2f98,0x71374491,0xb5c0fbcf,0xe9b5dba5,0x3956c25b,0x59f111f1,0x923f82a4,0xab1c5ed5,
 0xd807aa98,0x12835b01,0x243185be,0x550c7dc3,0x72be5d74,0x80deb1fe,0x9bdc06a7,0xc19bf174,
 0xe49b69c1,0xefbe4786,0x0fc19dc6,0x240ca1cc,0x2de92c6f,0x4a7484aa,0x5cb0a9dc,0x76f988da,
 0x983e5152,0xa831c66d,0xb00327c8,0xbf597fc7,0xc6e00bf3,0xd5a79147,0x06ca6351,0x14292967,
 0x27b70a85,0x2e1b2138,0x4d2c6dfc,0x53380d13,0x650a7354,0x766a0abb,0x81c2c92e,0x92722c85,
 0xa2bfe8a1,0xa81a664b,0xc24b8b70,0xc76c51a3,0xd192e819,0xd6990624,0xf40e3585,0x106aa070,
 0x19a4c116,0x1e376c08,0x2748774c,0x34b0bcb5,0x391c0cb3,0x4ed8aa4a,0x5b9cca4f,0x682e6ff3,
 0x748f82ee,0x78a5636f,0x84c87814,0x8cc70208,0x90befffa,0xa4506ceb,0xbef9a3f7,0xc67178f2]
def kW:List W:=k256.map (BitVec.ofNat 32)
def NN:List W->List W->R8->R8
 |k::ks,w::ws,r=>NN ks ws (aee r k w)
 |_,_,r=>r
def ofL:List W->R8
 |[a,b,c,d,e,f,g,h]=>⟨a,b,c,d,e,f,g,h⟩
 |_=>⟨0,0,0,0,0,0,0,0⟩
def R8.toL (r:R8):List W:=[r.v0,r.v1,r.v2,r.v3,r.e0,r.e1,r.e2,r.e3]
def mn (a b:List W):List W:=List.zipWith (·+·) a b
def W3 (s:List W) (b:B):List W:=mn s (NN kW (ajD b 64).reverse (ofL s)).toL
def hst (fuel:Nat) (s:List W) (m:B):List W:=match fuel with
 |0=>s
 |f+1=>if m.length<64 then s else hst f (W3 s (m.take 64)) (m.drop 64)
def toB (l:B):List Nat:=l.map UInt8.toNat
structure Str where
 state:List W
 block:B
 n:Nat
def Str.ok (s:Str):Prop:=s.state.length=8/\s.block.length=64/\s.n<18446744073709551616
section
variable {s:Str} {b nb:Nat} {K:V->Prop}
end
theorem nT {α:Type} {l:List α} {i:Nat} {x:α} (h:l[i]?=some x):l.take (i+1)=l.take i++[x]:=by obtain⟨h1,rfl⟩:=aj.1 h;exact aU h1
def fill {α:Type} (z:α) (n:Nat) (o:List α) (i:Nat):List α:=o.take i++List.replicate (n - i) z
theorem mV {P:Program} {G:Gl} {tr:List Nat} {k0:Nat} {v:V} {c:Operand} {x y:Code} {s:S} {Q:VE->S->Prop} (J:S->Prop) (h:∀ s',J s'->Q .normal s')
 (hb:∀ R:VE->S->Prop,(∀ s',J s'->R .normal s')->(∀ e s',e≠.normal->Q e s'->R e s')->Ad P G tr k0 v c x y R s):Ad P G tr k0 v c x y Q s:=hb Q h λ_ _ _ h=>h
theorem za {P:Program} {G:Gl} {tr:List Nat} {k0:Nat} {body:Code} {s:S} {Q:VE->S->Prop} (i:Nat) (J:S->Prop) (h:∀ s',J s'->Q (.exit i) s')
 (hb:∀ R:VE->S->Prop,(∀ s',J s'->R (.exit i) s')->(∀ e s',e≠.exit i->Q e s'->R e s')->hZ P G tr k0 (.loop body) R s):hZ P G tr k0 (.loop body) Q s:=hb Q h λ_ _ _ h=>h
theorem W5 {P:Program} {G:Gl} {tr:List Nat} {k0:Nat} {ops:Array Oper} {o:Oper} {r:List Oper} {b:Code} {i:Nat} {d:Option Tmp} {v:V} {w:Bool} {s:S} {Q:VE->S->Prop} (J:S->Prop) (h:∀ s',J s'->Q .normal s')
 (hb:∀ R:VE->S->Prop,(∀ s',J s'->R .normal s')->(∀ e s',e≠.normal->Q e s'->R e s')->vgd P G tr ops o r (Rh P G tr k0 b (Ri i R) .normal) d v w s):vgd P G tr ops o r (Rh P G tr k0 b (Ri i Q) .normal) d v w s:=hb Q h λ_ _ _ h=>h
section
variable {P:Program} {K:V->Prop}
theorem W6 {a n:Nat} (h:n<=64):nD .shr .u64 (a:Int) (n:Int) K=K (.c (.lit (.int .u64 ((a / 2 ^ n:Nat):Int)))):=by
 have hm:min ((n:Int)).toNat IntKind.u64.bits=n:=by rw[cC];exact bS h
 have e:((a:Int)).fdiv (2 ^ n)=((a / 2 ^ n:Nat):Int):=by rw[Int.fdiv_eq_ediv_of_nonneg _ (by exact Int.le_of_lt (Int.pow_pos (by decide))),Int.natCast_ediv,Int.natCast_pow];rfl
 have h0:(0:Int)<=n:=ay n;show((0:Int)<=n/\K (.c (.lit (.int .u64 (((a:Int)).fdiv (2 ^ (min ((n:Int)).toNat IntKind.u64.bits)))))))=_;rw[hm,e,eq_true h0,iM]
theorem aef {a:Nat} (h:a<18446744073709551616):vun .xor (.c (.lit (.int .u64 (a:Int)))) K=K (.c (.lit (.int .u64 ((18446744073709551615 - a:Nat):Int)))):=by
 show K (.c (.lit (.int .u64 (bits .xor .u64 (if IntKind.u64.signed then -1 else IntKind.u64.max) _))))=_
 have e:(if IntKind.u64.signed then(-1:Int) else IntKind.u64.max)=((BitVec.allOnes 64).toNat:Int):=by decide
 have e2:(BitVec.allOnes 64).toNat ^^^ a=18446744073709551615 - a:=by have:=dJ BitVec.toNat (BitVec.allOnes_xor (x:=BitVec.ofNat 64 a));rw[BitVec.toNat_xor,BitVec.toNat_not,BitVec.toNat_ofNat,Nat.mod_eq_of_lt h] at this;exact this
 rw[e,u64_xor_nat _ _ (BitVec.allOnes 64).isLt h,e2]
theorem HG {T U:TypeId} {i j:TI} {k:IntKind} {n:Nat} (hT:ti P T=some i) (hU:ti P U=some j) (hk:j.kd=.int .u8):jR P T U (.c (.lit (.int k (n:Int)))) K=K (.c (bc (UInt8.ofNat n))):=by
 obtain⟨kd,a1,a2,a3,a4,a5,a6⟩:=j;simp only at hk;subst hk;have e:IntKind.u8.wrap ((n:Nat):Int)=((UInt8.ofNat n).toNat:Int):=by rw[fp,IntKind.wrap_u8'];omega
 unfold jR;rw[hT,hU];simp only[e]
theorem W7 {T e:TypeId} {i j:TI} {E:Option (TypeId×Nat)} {z:C} {l m:B} (hT:ti P T=some i) (hk:i.kd=.slice e) (hE:ti P e=some j) (hs:j.size=1) (hb:j.bytes=1) (hz:j.zero=some [z])
 (h0:E=none∨E=some (e,1)) (hl:l.length+m.length<=140737488355328) (hK:K (.ow (if m.isEmpty then E else some (e,1)) (bC (l++m)))):dR P T (.ow E (bC l)) (.c (.sl (bC m))) K:=by
 obtain⟨a1,a2,a3,a4,a5,a6,a7⟩:=i;obtain⟨b1,b2,b3,b4,b5,b6,b7⟩:=j;simp only at hk hs hb hz;subst hk hs hb hz;simp only[dR,hT,hE,pV,SD];refine⟨⟨by decide,rfl,h0,NL⟩,⟨by omega,by omega,NL⟩,?_⟩;have:(bC m).isEmpty=m.isEmpty:=by cases m<;>rfl
 rw[this];exact hK
