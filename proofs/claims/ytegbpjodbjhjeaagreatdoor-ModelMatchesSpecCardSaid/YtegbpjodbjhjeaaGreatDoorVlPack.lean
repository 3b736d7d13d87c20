/- Values without memory: the laws by which conditions are computed, in packs. -/
import Derived.Test.YtegbpjodbjhjeaaGreatDoorVlRunB
set_option linter.all false
namespace Go.Vl
open Go Go.RowKit
theorem acf {t:Tmp} {r:List Operand}:OO (.tmp t::r)=some t:=rfl
theorem acg {l:List (Nat×V)} {bl:List (List V)}:hdS l bl=⟨frs l,bxs bl,bl.length⟩:=rfl
def ach (n:Nat) (v:V):List V:=List.replicate n v
theorem mW {P:Program} {G:Gl} {tr:List Nat} {T ty:TypeId} {i:TI} {z:List C} {d:Nat} {pos:String} {af:Array Edge} {g:Option (Nat×Bool)} {fr:Nat->V} {bx:Nat->List V} {nb:Nat} {K:S->Prop} (hT:ti P T=some i) (hz:i.zero=some z) :
 VStep P G tr ⟨some d,.alloc T,ty,pos,af,g⟩ ⟨fr,bx,nb⟩ K=K ⟨up fr d (.bp nb 0),up bx nb (z.map mL),nb+1⟩:=by
 obtain⟨kd,a,b,c,zz,f,e⟩:=i;simp only at hz;subst hz;rw[Se,hT]
def pk0:=jj @Ks (jj @Xi (jj @Ox (jj @Xj (jj @RF (jj @Oy (jj @RG (jj @CB (jj @Bh (jj @HJ (jj @RH (jj @Oz (jj @HK (jj @RI (jj @OA (jj @Kt (jj @Xk (jj @abI (jj @Xl (jj @Xm (jj @abJ (jj @abK (jj @abL (jj @HL (jj @Xn (jj @RJ (jj @RL (jj @Xo (jj @CC (jj @OB (jj @zY (jj @RO (jj @Xp (jj @Ku (jj @HM (jj @abM @RP)))))))))))))))))))))))))))))))))))
def pk1:=jj @RQ (jj @RR (jj @Kv (jj @afr (jj @Xq (jj @Fe (jj @RX (jj @Ff (jj @RY (jj @RZ (jj @Kw (jj @R1 (jj @CE (jj @Xs (jj @OD (jj (jj @OE (jj @R7 (jj @OI @OJ))) (jj @Kx (jj @Ky (jj @Kz (jj @KA (jj @afu (jj @Xz (jj @Sv (jj @Sw (jj @abV (jj @XA (jj @abW (jj @abX (jj @OK (jj @OL (jj @abO (jj @Fg (jj @abP (jj @Xv (jj @KB (jj @OM (jj @R9 (jj @Sa (jj @HO @Xw))))))))))))))))))))))))))))))))))))))
def pk2:=jj @abQ (jj @OP (jj @Sc (jj @abR (jj @Sf (jj @Bi (jj @mR (jj @abS (jj @Si (jj @Xy (jj @KC (jj @HS (jj @CG (jj @KG (jj @KD (jj @HT (jj @HU (jj @KE (jj @KF (jj @SA (jj @XE (jj @SD (jj @XG (jj @Sj (jj @Sk (jj @XH (jj @Sl (jj @Sm @So)))))))))))))))))))))))))))
def pk3:=jj @Sp (jj @Sq (jj @Sr (jj @Ss (jj @Su (jj @aij (jj @afv (jj @afw (jj @abY (jj @abZ (jj @ab0 (jj @Sx (jj @XC (jj @XD (jj @Sz (jj @aw (jj @Fj (jj @Fl (jj @SC (jj @HZ (jj @gK (jj @X4 (jj @O4 (jj @O3 (jj @O1 (jj @O2 (jj @X3 (jj @O5 (jj @X5 (jj @SZ (jj @O6 (jj @KL (jj @KN (jj @KO (jj @SV @SY))))))))))))))))))))))))))))))))))
def pk4:=jj @XJ (jj @afz (jj @afA (jj @XN (jj @SL (jj @SJ (jj @SK (jj @OT (jj @ab2 (jj @XL (jj @XV (jj @aii (jj @abT (jj @afx (jj @XB (jj @o8 (jj @XM (jj @SO (jj @afB @XO))))))))))))))))))
def pk5:=jj @SQ (jj @afC (jj @ab5 (jj @XU (jj @ab6 (jj @acg (jj @acf (jj @afs (jj @RS (jj @ON (jj @KT (jj @O7 (jj @X7 (jj @H6 (jj @O8 (jj @O9 (jj @XK (jj @Xh (jj @RU (jj @Xr (jj @RV @OQ))))))))))))))))))))
def pk6:=jj @abN (jj @OX (jj @H3 (jj @ab4 (jj @XQ (jj @XR (jj @XT (jj @XZ (jj @KI (jj @KJ (jj @Fq (jj @X0 (jj @OZ (jj @SS (jj @SU (jj @afD (jj @X1 (jj @HN (jj @OC (jj @Sb (jj @HQ @OG))))))))))))))))))))
def pk7:=jj @OH (jj @aft (jj @Xt (jj @afE (jj @Xe (jj @Xf (jj @OF (jj @Xg @OY)))))))
def pkL:=jj @List.isEmpty_cons.{0} (jj @List.isEmpty_nil.{0} (jj @List.contains_nil.{0} (jj @List.contains_cons.{0} (jj @g9 (jj @Bool.false_or (jj @Bool.true_or (jj @ky (jj @List.replicate_succ.{0} (jj @List.replicate_zero.{0} (jj @List.set_cons_zero.{0} (jj @List.set_cons_succ.{0} (jj @dP.{0} (jj @fZ.{0} (jj @ay (jj @dq (jj @cO (jj @du.{0} (jj @List.toList_toArray.{0} (jj @cU.{0} (jj @bJ.{0} (jj @gi.{0,0} (jj @aN.{0,0} (jj @bE.{0,0} (jj @aI.{0} (jj @aL.{0} (jj @eZ.{0} (jj @iW.{0} (jj @fK.{0} (jj @ly.{0} (jj @List.take_nil.{0} (jj @aK.{0} (jj @aQ.{0} (jj @Bool.and_self (jj @Nat.lt_add_one (jj @bX (jj @ip (jj @cK (jj @dI (jj @cv @eJ)))))))))))))))))))))))))))))))))))))))
def pkA:=jj pk0 (jj pk1 (jj pk2 (jj pk3 (jj pk4 (jj pk5 (jj pk6 (jj pk7 (pkL))))))))
