/- Values without memory: the laws by which conditions are computed, in packs. -/
import Derived.Test.YtloppcgcepgbnaaGreatDoorVlRunB
set_option linter.all false
namespace Go.Vl
open Go Go.RowKit
theorem afM {t:Tmp} {r:List Operand}:aaY (.tmp t::r)=some t:=rfl
theorem afN {l:List (Nat×V)} {bl:List (List V)}:hdS l bl=⟨frs l,bxs bl,bl.length⟩:=rfl
theorem mK {P:Program} {G:Gl} {tr:List Nat} {T ty:TypeId} {i:TI} {z:List C} {d:Nat} {pos:String} {af:Array Edge} {g:Option (Nat×Bool)} {fr:Nat->V} {bx:Nat->List V} {nb:Nat} {K:S->Prop} (hT:ti P T=some i) (hz:i.zero=some z) :
 VStep P G tr ⟨some d,.alloc T,ty,pos,af,g⟩ ⟨fr,bx,nb⟩ K=K ⟨up fr d (.bp nb 0),up bx nb (z.map nI),nb+1⟩:=by
 obtain⟨kd,a,b,c,zz,f,e⟩:=i;simp only at hz;subst hz;rw[VV,hT]
def pk0:=jj @M8 (jj @aaI (jj @Rk (jj @aaJ (jj @Vx (jj @Rn (jj @Rl (jj @Rm (jj @Vy (jj @Es (jj @Cd (jj @Jy (jj @Vz (jj @Ro (jj @Jz (jj @VA (jj @Rq (jj @M9 (jj @aaK (jj @ae8 (jj @aaL (jj @aaM (jj @ae9 (jj @afa (jj @afb (jj @JA (jj @aaN (jj @VB (jj @VC (jj @aaO (jj @Et (jj @Rr (jj @AL (jj @VF (jj @aaP (jj @Na (jj @JB (jj @afc @VG)))))))))))))))))))))))))))))))))))))
def pk1:=jj @VH (jj @VI (jj @Nb (jj @ajn (jj @aaQ (jj @Hl (jj @VM (jj @Hm (jj @VN (jj @VO (jj @Nc (jj @VP (jj @Eu (jj @aaS (jj @Ry (jj (jj @Rz (jj @VQ (jj @RF @RG))) (jj @Nh (jj @Ni (jj @Nj (jj @Nk (jj @ajq (jj @aa1 (jj @Wa (jj @Wb (jj @afn (jj @Pl (jj @afo (jj @afp (jj @RH (jj @RI (jj @afe (jj @Hn (jj @aff (jj @aaV (jj @Nl (jj @RJ (jj @VR (jj @VS (jj @JF @aaW))))))))))))))))))))))))))))))))))))))
def pk2:=jj @afg (jj @afh (jj @afi (jj @RN (jj @VU (jj @Nn (jj @aaZ (jj @afj (jj @VW (jj @Ce (jj @jx (jj @afk (jj @VY (jj @aa0 (jj @Np (jj @JH (jj @Ew (jj @Nq (jj @fh (jj @fX (jj @Wg (jj @aa5 (jj @VZ (jj @V0 (jj @aa6 (jj @V1 (jj @V2 @V4))))))))))))))))))))))))))
def pk3:=jj @V5 (jj @V6 (jj @V7 (jj @V8 (jj @V9 (jj @amz (jj @ajr (jj @ajs (jj @afq (jj @afr (jj @afs (jj @aa3 (jj @aa4 (jj @Wc (jj @ah (jj @Hq (jj @Hr (jj @We (jj @pR (jj @abr (jj @R9 (jj @R7 (jj @RY (jj @RZ (jj @abq (jj @Si (jj @abt (jj @WE (jj @Sj (jj @Nx (jj @Ny (jj @Nz (jj @WA @WB))))))))))))))))))))))))))))))))
def pk4:=jj @aa7 (jj @aju (jj @ajv (jj @abb (jj @Wq (jj @Wn (jj @Wp (jj @RR (jj @afv (jj @aa9 (jj @afx (jj @Pn (jj @afA (jj @abh (jj @abi (jj @amy (jj @afl (jj @ajt (jj @aa2 (jj @RP (jj @aba (jj @Ws (jj @ajw @abc))))))))))))))))))))))
def pk5:=jj @abd (jj @Wu (jj @ajx (jj @afz (jj @abg (jj @afB (jj @afC (jj @afN (jj @afM (jj @ajo (jj @VJ (jj @RL (jj @NA (jj @Sl (jj @abu (jj @WG (jj @Sm (jj @JP (jj @Sr (jj @Ss (jj @aa8 (jj @V3 (jj @aaH (jj @VK (jj @aaR (jj @VL @RO)))))))))))))))))))))))))
def pk6:=jj @afd (jj @RV (jj @JM (jj @afy (jj @abe (jj @abf (jj @abm (jj @Nu (jj @Nv (jj @Ht (jj @Ey (jj @abn (jj @RX (jj @Wx (jj @Wz (jj @ajy (jj @abo (jj @afE (jj @JE (jj @Rw (jj @Rx (jj @VT (jj @JG @RB))))))))))))))))))))))
def pk7:=jj @RE (jj @ajp (jj @aaT (jj @ajz (jj @aaE (jj @aaF (jj @RA (jj @Rt @aaG)))))))
def pkL:=jj @List.isEmpty_cons.{0} (jj @List.isEmpty_nil.{0} (jj @List.contains_nil.{0} (jj @List.contains_cons.{0} (jj @lg (jj @Bool.false_or (jj @Bool.true_or (jj @jX (jj @List.replicate_succ.{0} (jj @List.replicate_zero.{0} (jj @kS.{0} (jj @jD.{0} (jj @dE.{0} (jj @eu.{0} (jj @aM (jj @kf (jj @lT (jj @dt.{0} (jj @List.toList_toArray.{0} (jj @cB.{0} (jj @bQ.{0} (jj @jr.{0,0} (jj @bA.{0,0} (jj @jY.{0,0} (jj @aC.{0} (jj @aG.{0} (jj @ct.{0} (jj @gU.{0} (jj @eZ.{0} (jj @jC.{0} (jj @List.take_nil.{0} (jj @bh.{0} (jj @bB.{0} (jj @Bool.and_self (jj @Nat.lt_add_one (jj @iM (jj @gC (jj @Bool.and_true (jj @ke (jj @Bool.and_false @Bool.false_and)))))))))))))))))))))))))))))))))))))))
def pkA:=jj pk0 (jj pk1 (jj pk2 (jj pk3 (jj pk4 (jj pk5 (jj pk6 (jj pk7 (pkL))))))))
